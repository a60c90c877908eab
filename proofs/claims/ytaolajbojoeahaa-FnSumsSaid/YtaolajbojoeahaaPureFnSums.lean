/- Proved: for all arguments the law FnSums of the given program returns true and leaves its arguments as they were. Conditions: none but those that the given row itself states. -/
import Derived.Test.YtaolajbojoeahaaTFnSums
set_option linter.unusedVariables false
set_option linter.unusedSimpArgs false
namespace Go.Proofs.Ytaolajbojoeahaa.Pure
open Go Go.RowKit Go.Proofs.Ytaolajbojoeahaa.PFnSums Go.Proofs.YtaolajbojoeahaaW.PrintWords Go.Proofs.YtaolajbojoeahaaW.PrintLast

theorem pb_wrap {a : Int} (h : -9223372036854775808 ≤ a) (h' : a ≤ 9223372036854775807) : wrap64 a = a := by
  unfold wrap64; omega

theorem pb_and_mask (a : Int) (n : Nat) (hn : n ≤ 62) : Go.bits .and .i64 a ((2 ^ n - 1 : Nat) : Int) = a % (2 ^ n : Nat) := by
  have hp : (2 : Nat) ^ n ≤ 2 ^ 62 := Nat.pow_le_pow_right (by decide) hn
  have hp0 : 0 < (2 : Nat) ^ n := Nat.two_pow_pos n
  have hd : (2 : Nat) ^ n ∣ 2 ^ 64 := Nat.pow_dvd_pow 2 (by omega)
  unfold Go.bits
  simp only [BitVec.toNat_and, BitVec.toNat_ofInt]
  rw [show IntKind.i64.bits = 64 from rfl]
  have e1 : ((((2 ^ n - 1 : Nat) : Int) % (2 ^ 64 : Nat)).toNat) = 2 ^ n - 1 := by
    have : ((2 ^ n - 1 : Nat) : Int) % (2 ^ 64 : Nat) = ((2 ^ n - 1 : Nat) : Int) := by
      apply Int.emod_eq_of_lt
      · omega
      · have : (2 : Nat) ^ n - 1 < 2 ^ 64 := by omega
        exact_mod_cast this
    rw [this]; rfl
  rw [e1, Nat.and_two_pow_sub_one_eq_mod]
  have e2 : (((a % (2 ^ 64 : Nat)).toNat % 2 ^ n : Nat) : Int) = a % (2 ^ n : Nat) := by
    have h0 : 0 ≤ a % (2 ^ 64 : Nat) := Int.emod_nonneg _ (by decide)
    rw [Int.natCast_emod, Int.toNat_of_nonneg h0]
    exact Int.emod_emod_of_dvd a (by exact_mod_cast hd)
  rw [e2, IntKind.wrap_i64]
  have h0 : 0 ≤ a % (2 ^ n : Nat) := Int.emod_nonneg _ (by exact_mod_cast (Nat.ne_of_gt hp0))
  have h1 : a % (2 ^ n : Nat) < (2 ^ n : Nat) := Int.emod_lt_of_pos _ (by exact_mod_cast hp0)
  have h2 : ((2 ^ n : Nat) : Int) ≤ 2 ^ 62 := by exact_mod_cast hp
  omega

theorem pb_and65535 (a : Int) : Go.bits .and .i64 a 65535 = a % 65536 := pb_and_mask a 16 (by decide)

theorem pb_and255 (a : Int) : Go.bits .and .i64 a 255 = a % 256 := pb_and_mask a 8 (by decide)

theorem pb_bits_nat (x y : Int) (hx : 0 ≤ x) (hx' : x < 65536) (hy : 0 ≤ y) (hy' : y < 65536) :
    Go.bits .and .i64 x y = ((x.toNat &&& y.toNat : Nat) : Int) ∧ Go.bits .or .i64 x y = ((x.toNat ||| y.toNat : Nat) : Int) ∧ Go.bits .xor .i64 x y = ((x.toNat ^^^ y.toNat : Nat) : Int) := by
  have hx2 : x.toNat < 2 ^ 16 := by omega
  have hy2 : y.toNat < 2 ^ 16 := by omega
  have ex : (x % (2 ^ 64 : Nat)).toNat = x.toNat := by rw [Int.emod_eq_of_lt hx (by omega)]
  have ey : (y % (2 ^ 64 : Nat)).toNat = y.toNat := by rw [Int.emod_eq_of_lt hy (by omega)]
  have h1 := Nat.and_lt_two_pow x.toNat hy2
  have h2 := Nat.or_lt_two_pow hx2 hy2
  have h3 := Nat.xor_lt_two_pow hx2 hy2
  refine ⟨?_, ?_, ?_⟩ <;>
  · unfold Go.bits
    dsimp only
    first | rw [BitVec.toNat_and] | rw [BitVec.toNat_or] | rw [BitVec.toNat_xor]
    rw [BitVec.toNat_ofInt, BitVec.toNat_ofInt, show IntKind.i64.bits = 64 from rfl, ex, ey, IntKind.wrap_i64]; omega

def nStep (x : Nat) : Nat := if 32768 ≤ x then (x * 2 % 65536) ^^^ 4129 else x * 2 % 65536

theorem nStep_lt (x : Nat) : nStep x < 65536 := by
  unfold nStep; split
  · exact Nat.xor_lt_two_pow (n := 16) (by omega) (by omega)
  · omega

def nIter : Nat → Nat → Nat
  | 0, x => x
  | n + 1, x => nIter n (nStep x)

theorem nIter_lt (n x : Nat) (h : x < 65536) : nIter n x < 65536 := by
  induction n generalizing x with
  | zero => exact h
  | succ n ih => exact ih _ (nStep_lt x)

def mCrc (s b : Int) : Int := (nIter 8 (s.toNat ^^^ (256 * b.toNat)) : Nat)

theorem mCrc_range (s b : Int) (h1 : s < 65536) (h3 : b < 256) : 0 ≤ mCrc s b ∧ mCrc s b < 65536 := by
  unfold mCrc
  have := nIter_lt 8 (s.toNat ^^^ (256 * b.toNat)) (Nat.xor_lt_two_pow (n := 16) (by omega) (by omega))
  omega

theorem pb_xor_nat (x y : Nat) (hx : x < 65536) (hy : y < 65536) : Go.bits .xor .i64 (x : Int) (y : Int) = ((x ^^^ y : Nat) : Int) := by
  have := (pb_bits_nat (x : Int) (y : Int) (by omega) (by omega) (by omega) (by omega)).2.2
  simpa using this

theorem pb_xor4129 (x : Nat) (hx : x < 65536) : Go.bits .xor .i64 (x : Int) 4129 = ((x ^^^ 4129 : Nat) : Int) := pb_xor_nat x 4129 hx (by decide)

theorem pb_and32768 (x : Nat) (hx : x < 65536) : (Go.bits .and .i64 (x : Int) 32768 = 0) ↔ x < 32768 := by
  have h := (pb_bits_nat (x : Int) 32768 (by omega) (by omega) (by omega) (by omega)).1
  have e : (x &&& 32768) = if 32768 ≤ x then 32768 else 0 := by
    apply Nat.eq_of_testBit_eq; intro i
    rw [Nat.testBit_and, show (32768 : Nat) = 2 ^ 15 from rfl, Nat.testBit_two_pow]
    by_cases hi : 15 = i
    · subst hi
      by_cases hx' : 2 ^ 15 ≤ x
      · rw [if_pos hx', Nat.testBit_two_pow]
        have : x.testBit 15 = true := by
          rw [Nat.testBit_eq_decide_div_mod_eq]; simp; omega
        simp [this]
      · rw [if_neg hx']; simp
        exact Nat.testBit_lt_two_pow (by omega)
    · simp [hi]; split
      · rw [show (32768 : Nat) = 2 ^ 15 from rfl, Nat.testBit_two_pow]; simp [hi]
      · simp
  rw [h]
  simp only [Int.toNat_natCast, show ((32768 : Int).toNat) = 32768 from rfl, e]
  split <;> omega

theorem l_spec_l1Crc (d : Nat) : ∀ (k x : Nat) (i : Int), x < 65536 → i + d = 8 → 0 ≤ i → d < k → spec_l1Crc.l0 k (x : Int) i = some ((nIter d x : Nat) : Int) := by
  induction d with
  | zero =>
    intro k x i hx hi h0 hk
    obtain ⟨k, rfl⟩ : ∃ m, k = m + 1 := ⟨k - 1, by omega⟩
    simp only [spec_l1Crc.l0]; rw [if_neg (by omega)]; rfl
  | succ d ih =>
    intro k x i hx hi h0 hk
    obtain ⟨k, rfl⟩ : ∃ m, k = m + 1 := ⟨k - 1, by omega⟩
    have e : Int.tmod (wrap64 ((x : Int) * 2)) 65536 = ((x * 2 % 65536 : Nat) : Int) := by
      rw [pb_wrap (by omega) (by omega), Int.tmod_eq_emod_of_nonneg (by omega)]; omega
    simp only [spec_l1Crc.l0]; rw [if_pos (by omega), e, pb_wrap (a := i + 1) (by omega) (by omega), pb_xor4129 _ (by omega)]
    by_cases h : 32768 ≤ x
    · rw [if_pos (by omega)]
      have := ih k (nStep x) (i + 1) (nStep_lt x) (by omega) (by omega) (by omega)
      simp only [nIter]; rw [← this]; unfold nStep; rw [if_pos h]
    · rw [if_neg (by omega)]
      have := ih k (nStep x) (i + 1) (nStep_lt x) (by omega) (by omega) (by omega)
      simp only [nIter]; rw [← this]; unfold nStep; rw [if_neg h]

theorem l_impl_crcByte (d : Nat) : ∀ (k x : Nat) (i : Int), x < 65536 → i + d = 8 → 0 ≤ i → d < k → impl_crcByte.l0 k (x : Int) i = some ((nIter d x : Nat) : Int) := by
  induction d with
  | zero =>
    intro k x i hx hi h0 hk
    obtain ⟨k, rfl⟩ : ∃ m, k = m + 1 := ⟨k - 1, by omega⟩
    simp only [impl_crcByte.l0]; rw [if_neg (by omega)]; rfl
  | succ d ih =>
    intro k x i hx hi h0 hk
    obtain ⟨k, rfl⟩ : ∃ m, k = m + 1 := ⟨k - 1, by omega⟩
    have e : Go.bits .and .i64 (wrap64 (2 * (x : Int))) 65535 = ((x * 2 % 65536 : Nat) : Int) := by
      rw [pb_and65535, pb_wrap (by omega) (by omega)]; omega
    simp only [impl_crcByte.l0]; rw [if_pos (by omega), e, pb_wrap (a := i + 1) (by omega) (by omega), pb_xor4129 _ (by omega)]
    by_cases h : 32768 ≤ x
    · rw [if_neg (by rw [pb_and32768 x hx]; omega)]
      have := ih k (nStep x) (i + 1) (nStep_lt x) (by omega) (by omega) (by omega)
      simp only [nIter]; rw [← this]; unfold nStep; rw [if_pos h]
    · rw [if_pos (by rw [pb_and32768 x hx]; omega)]
      have := ih k (nStep x) (i + 1) (nStep_lt x) (by omega) (by omega) (by omega)
      simp only [nIter]; rw [← this]; unfold nStep; rw [if_neg h]

theorem c_spec_l1Crc (k : Nat) (s b : Int) (h0 : 0 ≤ s) (h1 : s < 65536) (h2 : 0 ≤ b) (h3 : b < 256) (hk : 9 ≤ k) : spec_l1Crc.f k s b = some (mCrc s b) := by
  obtain ⟨s, rfl⟩ := Int.eq_ofNat_of_zero_le h0
  obtain ⟨b, rfl⟩ := Int.eq_ofNat_of_zero_le h2
  unfold spec_l1Crc.f mCrc
  rw [pb_wrap (by omega) (by omega), show ((b : Int) * 256) = ((256 * b : Nat) : Int) by omega, pb_xor_nat _ _ (by omega) (by omega)]
  rw [l_spec_l1Crc 8 k _ 0 (Nat.xor_lt_two_pow (n := 16) (by omega) (by omega)) (by omega) (by omega) (by omega)]
  simp

theorem c_impl_crcByte (k : Nat) (s b : Int) (h0 : 0 ≤ s) (h1 : s < 65536) (h2 : 0 ≤ b) (h3 : b < 256) (hk : 9 ≤ k) : impl_crcByte.f k s b = some (mCrc s b) := by
  obtain ⟨s, rfl⟩ := Int.eq_ofNat_of_zero_le h0
  obtain ⟨b, rfl⟩ := Int.eq_ofNat_of_zero_le h2
  unfold impl_crcByte.f mCrc
  rw [pb_wrap (by omega) (by omega), show (256 * (b : Int)) = ((256 * b : Nat) : Int) by omega, pb_xor_nat _ _ (by omega) (by omega)]
  rw [l_impl_crcByte 8 k _ 0 (Nat.xor_lt_two_pow (n := 16) (by omega) (by omega)) (by omega) (by omega) (by omega)]
  simp

theorem c_spec_l1In (a b c : Int) : spec_l1In.f a b c = some (decide (b ≤ a ∧ a ≤ c)) := by
  unfold spec_l1In.f; split
  · next h => congr 1; simp; omega
  · next h => congr 1; simp; omega

theorem c_impl_within (a b c : Int) : impl_within.f a b c = some (decide (b ≤ a ∧ a ≤ c)) := by
  unfold impl_within.f; split
  · next h => congr 1; simp; omega
  · next h => congr 1; simp; omega

def isW (a : Int) : Bool := decide (0 ≤ a ∧ a ≤ 65535)

theorem c_spec_l1Word (a : Int) : spec_l1Word.f a = some (isW a) := by
  unfold spec_l1Word.f; rw [c_spec_l1In]; rfl

theorem c_impl_isWord (a : Int) : impl_isWord.f a = some (isW a) := by
  unfold impl_isWord.f; rw [c_impl_within]; rfl

def mCrcByte (s b : Int) : Int × Int := if 0 ≤ s ∧ s ≤ 65535 ∧ 0 ≤ b ∧ b ≤ 255 then (0, mCrc s b) else (3, 0)

theorem c_spec_CrcByte (k : Nat) (s b : Int) (hk : 9 ≤ k) : spec_CrcByte.f k s b = some (mCrcByte s b) := by
  unfold spec_CrcByte.f mCrcByte; rw [c_spec_l1Word, c_spec_l1In]; simp only [Option.bind_some, isW, decide_eq_true_eq]
  by_cases h : 0 ≤ s ∧ s ≤ 65535
  · by_cases h' : 0 ≤ b ∧ b ≤ 255
    · rw [if_pos h, if_pos h', c_spec_l1Crc k s b h.1 (by omega) h'.1 (by omega) hk, if_pos (by omega)]; rfl
    · rw [if_pos h, if_neg h', if_neg (by omega)]
  · rw [if_neg h, if_neg (by omega)]

theorem c_impl_CrcByte (k : Nat) (s b : Int) (hk : 9 ≤ k) : impl_CrcByte.f k s b = some (mCrcByte s b) := by
  unfold impl_CrcByte.f mCrcByte; rw [c_impl_isWord, c_impl_within]; simp only [Option.bind_some, isW, decide_eq_true_eq]
  by_cases h : 0 ≤ s ∧ s ≤ 65535
  · by_cases h' : 0 ≤ b ∧ b ≤ 255
    · rw [if_pos h, if_pos h', c_impl_crcByte k s b h.1 (by omega) h'.1 (by omega) hk, if_pos (by omega)]; rfl
    · rw [if_pos h, if_neg h', if_neg (by omega)]
  · rw [if_neg h, if_neg (by omega)]

theorem pb_rd (xs : List Int) (i : Nat) (h : i < xs.length) : rd xs (i : Int) = xs[i] := by
  unfold rd; simp [List.getD_eq_getElem?_getD, h]

def mWordsFault (l : List Int) : Int := if l.length > 400 then 2 else if l.all isW then 0 else 3

theorem mWordsFault_ok (l : List Int) : mWordsFault l = 0 ↔ l.length ≤ 400 ∧ l.all isW = true := by
  unfold mWordsFault; split
  · constructor <;> intro h <;> omega
  · split
    · next h => simp [h]; omega
    · next h => simp [h]

theorem l_spec_WordsFault (xs : List Int) (hn : xs.length ≤ 400) (d : Nat) : ∀ (k i : Nat), i + d = xs.length → d < k →
    spec_WordsFault.l0 k xs (i : Int) = some (if (xs.drop i).all isW then 0 else 3) := by
  induction d with
  | zero =>
    intro k i hi hk
    obtain ⟨k, rfl⟩ : ∃ m, k = m + 1 := ⟨k - 1, by omega⟩
    simp only [spec_WordsFault.l0]; rw [if_neg (by omega), List.drop_of_length_le (by omega)]; rfl
  | succ d ih =>
    intro k i hi hk
    obtain ⟨k, rfl⟩ : ∃ m, k = m + 1 := ⟨k - 1, by omega⟩
    have hlt : i < xs.length := by omega
    simp only [spec_WordsFault.l0]; rw [if_pos (by omega), if_pos (by omega), pb_rd xs i hlt, c_spec_l1Word, pb_wrap (by omega) (by omega), List.drop_eq_getElem_cons hlt]
    simp only [Option.bind_some, List.all_cons]
    by_cases h : isW xs[i] = true
    · rw [if_pos h]; simp only [h, Bool.true_and]; exact ih k (i + 1) (by omega) (by omega)
    · rw [if_neg h]; simp [h]

theorem c_spec_WordsFault (k : Nat) (xs : List Int) (hk : 401 ≤ k) : spec_WordsFault.f k xs = some (mWordsFault xs) := by
  unfold spec_WordsFault.f mWordsFault
  split
  · rw [if_pos (by omega)]
  · rw [if_neg (by omega)]
    have := l_spec_WordsFault xs (by omega) xs.length k 0 (by omega) (by omega)
    simpa using this

theorem l_impl_areWords (xs : List Int) (hn : xs.length ≤ 35184372088832) (d : Nat) : ∀ (k i : Nat), i + d = xs.length → d < k →
    impl_areWords.l0 k xs (xs.length : Int) (i : Int) = some ((xs.drop i).all isW) := by
  induction d with
  | zero =>
    intro k i hi hk
    obtain ⟨k, rfl⟩ : ∃ m, k = m + 1 := ⟨k - 1, by omega⟩
    simp only [impl_areWords.l0]; rw [if_neg (by omega), List.drop_of_length_le (by omega)]; rfl
  | succ d ih =>
    intro k i hi hk
    obtain ⟨k, rfl⟩ : ∃ m, k = m + 1 := ⟨k - 1, by omega⟩
    have hlt : i < xs.length := by omega
    simp only [impl_areWords.l0]; rw [if_pos (by omega), if_pos (by omega), if_pos (by omega), pb_rd xs i hlt, c_impl_isWord, pb_wrap (by omega) (by omega), List.drop_eq_getElem_cons hlt]
    simp only [Option.bind_some, List.all_cons]
    cases h : isW xs[i] with
    | true => simp only [if_true, Bool.true_and]; exact ih k (i + 1) (by omega) (by omega)
    | false => simp

theorem c_impl_areWords (k : Nat) (xs : List Int) (hn : xs.length ≤ 35184372088832) (hk : xs.length < k) : impl_areWords.f k xs = some (xs.all isW) := by
  unfold impl_areWords.f
  have := l_impl_areWords xs hn xs.length k 0 (by omega) hk
  simpa using this

theorem c_impl_WordsFault (k : Nat) (xs : List Int) (hk : 401 ≤ k) : impl_WordsFault.f k xs = some (mWordsFault xs) := by
  unfold impl_WordsFault.f mWordsFault
  split
  · rw [if_pos (by omega)]
  · rw [if_neg (by omega), c_impl_areWords k xs (by omega) (by omega)]
    simp only [Option.bind_some]; split <;> rfl

def mWord (s w : Int) : Int := mCrc (mCrc s (w / 256)) (w % 256)

def mSum (s : Int) (l : List Int) : Int := l.foldl mWord s

theorem isW_iff (a : Int) : isW a = true ↔ 0 ≤ a ∧ a < 65536 := by
  unfold isW; rw [decide_eq_true_eq]; omega

theorem mWord_range (s w : Int) (h : s < 65536) (hw : isW w = true) : 0 ≤ mWord s w ∧ mWord s w < 65536 := by
  rw [isW_iff] at hw
  unfold mWord
  have h1 := mCrc_range s (w / 256) h (by omega)
  exact mCrc_range _ _ h1.2 (by omega)

theorem mSum_range (l : List Int) : ∀ (s : Int), 0 ≤ s → s < 65536 → l.all isW = true → 0 ≤ mSum s l ∧ mSum s l < 65536 := by
  induction l with
  | nil => intro s h0 h1 _; exact ⟨h0, h1⟩
  | cons w l ih =>
    intro s h0 h1 h
    rw [List.all_cons, Bool.and_eq_true] at h
    have := mWord_range s w h1 h.1
    exact ih _ this.1 this.2 h.2

theorem l_spec_l1Sum (xs : List Int) (hn : xs.length ≤ 35184372088832) (hx : xs.all isW = true) (d : Nat) : ∀ (k i : Nat) (s : Int), 0 ≤ s → s < 65536 → i + d = xs.length → d + 10 < k →
    spec_l1Sum.l0 k xs s (i : Int) = some (mSum s (xs.drop i)) := by
  induction d with
  | zero =>
    intro k i s h0 h1 hi hk
    obtain ⟨k, rfl⟩ : ∃ m, k = m + 1 := ⟨k - 1, by omega⟩
    simp only [spec_l1Sum.l0]; rw [if_neg (by omega), List.drop_of_length_le (by omega)]; rfl
  | succ d ih =>
    intro k i s h0 h1 hi hk
    obtain ⟨k, rfl⟩ : ∃ m, k = m + 1 := ⟨k - 1, by omega⟩
    have hlt : i < xs.length := by omega
    have hw : isW xs[i] = true := by rw [List.all_eq_true] at hx; exact hx _ (List.getElem_mem hlt)
    have hw' := (isW_iff _).1 hw
    have r1 := mCrc_range s (xs[i] / 256) h1 (by omega)
    have r2 := mWord_range s xs[i] h1 hw
    simp only [spec_l1Sum.l0]; rw [if_pos (by omega), if_pos (by omega), pb_rd xs i hlt, pb_wrap (a := (i : Int) + 1) (by omega) (by omega), List.drop_eq_getElem_cons hlt]
    rw [Int.tdiv_eq_ediv_of_nonneg hw'.1, Int.tmod_eq_emod_of_nonneg hw'.1, pb_wrap (by omega) (by omega), c_spec_l1Crc k _ _ h0 h1 (by omega) (by omega) (by omega)]
    simp only [Option.bind_some]
    rw [c_spec_l1Crc k _ _ r1.1 r1.2 (by omega) (by omega) (by omega)]
    simp only [Option.bind_some]
    exact ih k (i + 1) (mWord s xs[i]) r2.1 r2.2 (by omega) (by omega)

theorem c_spec_l1Sum (k : Nat) (xs : List Int) (hn : xs.length ≤ 35184372088832) (hx : xs.all isW = true) (hk : xs.length + 10 < k) : spec_l1Sum.f k xs = some (mSum 65535 xs) := by
  unfold spec_l1Sum.f
  have := l_spec_l1Sum xs hn hx xs.length k 0 65535 (by omega) (by omega) (by omega) hk
  simpa using this

theorem l_impl_crc (xs : List Int) (hn : xs.length ≤ 35184372088832) (hx : xs.all isW = true) (d : Nat) : ∀ (k i : Nat) (s : Int), 0 ≤ s → s < 65536 → i + d = xs.length → d + 10 < k →
    impl_crc.l0 k s xs (xs.length : Int) (i : Int) = some (mSum s (xs.drop i)) := by
  induction d with
  | zero =>
    intro k i s h0 h1 hi hk
    obtain ⟨k, rfl⟩ : ∃ m, k = m + 1 := ⟨k - 1, by omega⟩
    simp only [impl_crc.l0]; rw [if_neg (by omega), List.drop_of_length_le (by omega)]; rfl
  | succ d ih =>
    intro k i s h0 h1 hi hk
    obtain ⟨k, rfl⟩ : ∃ m, k = m + 1 := ⟨k - 1, by omega⟩
    have hlt : i < xs.length := by omega
    have hw : isW xs[i] = true := by rw [List.all_eq_true] at hx; exact hx _ (List.getElem_mem hlt)
    have hw' := (isW_iff _).1 hw
    have r1 := mCrc_range s (xs[i] / 256) h1 (by omega)
    have r2 := mWord_range s xs[i] h1 hw
    simp only [impl_crc.l0]; rw [if_pos (by omega), if_pos (by omega), if_pos (by omega), pb_rd xs i hlt, pb_wrap (a := (i : Int) + 1) (by omega) (by omega), List.drop_eq_getElem_cons hlt]
    rw [pb_and255, c_impl_crcByte k _ _ h0 h1 (by omega) (by omega) (by omega)]
    simp only [Option.bind_some]
    rw [c_impl_crcByte k _ _ r1.1 r1.2 (by omega) (by omega) (by omega)]
    simp only [Option.bind_some]
    exact ih k (i + 1) (mWord s xs[i]) r2.1 r2.2 (by omega) (by omega)

theorem c_impl_crc (k : Nat) (xs : List Int) (hn : xs.length ≤ 35184372088832) (hx : xs.all isW = true) (hk : xs.length + 10 < k) : impl_crc.f k xs = some (mSum 65535 xs) := by
  unfold impl_crc.f
  have := l_impl_crc xs hn hx xs.length k 0 65535 (by omega) (by omega) (by omega) hk
  simpa using this

def mCrcWords (l : List Int) : Int × Int := if mWordsFault l = 0 then (0, mSum 65535 l) else (mWordsFault l, 0)

theorem c_spec_CrcWords (k : Nat) (xs : List Int) (hk : 420 ≤ k) : spec_CrcWords.f k xs = some (mCrcWords xs) := by
  unfold spec_CrcWords.f mCrcWords
  rw [c_spec_WordsFault k xs (by omega)]; simp only [Option.bind_some]
  split
  · next h =>
    rw [mWordsFault_ok] at h
    rw [c_spec_l1Sum k xs (by omega) h.2 (by omega)]; rfl
  · rfl

theorem c_impl_CrcWords (k : Nat) (xs : List Int) (hk : 420 ≤ k) : impl_CrcWords.f k xs = some (mCrcWords xs) := by
  unfold impl_CrcWords.f mCrcWords
  rw [c_impl_WordsFault k xs (by omega)]; simp only [Option.bind_some]
  split
  · next h =>
    rw [mWordsFault_ok] at h
    rw [c_impl_crc k xs (by omega) h.2 (by omega)]; rfl
  · rfl

theorem c_impl_CrcFast (k : Nat) (xs : List Int) (hk : 420 ≤ k) : impl_CrcFast.f k xs = some (mCrcWords xs) := by
  unfold impl_CrcFast.f; rw [c_impl_CrcWords k xs hk]; rfl

theorem c_impl_CrcTable (k : Nat) (b : Int) (hk : 9 ≤ k) : impl_CrcTable.f k b = some (mCrcByte 0 b) := by
  unfold impl_CrcTable.f; rw [c_impl_CrcByte k 0 b hk]; rfl

def bytesL (l : List Int) : Prop := ∀ x ∈ l, 0 ≤ x ∧ x ≤ 255

theorem bytesL_wf (l : List Int) (h : ∀ x ∈ l, (Lit.int .u8 x).wf = true) : bytesL l := by
  intro x hx
  have := h x hx
  simpa [Lit.wf, IntKind.min, IntKind.max, IntKind.signed, IntKind.bits] using this

theorem bytesL_rd (l : List Int) (h : bytesL l) (i : Int) : 0 ≤ rd l i ∧ rd l i ≤ 255 := by
  unfold rd
  by_cases hi : i.toNat < l.length
  · rw [List.getD_eq_getElem?_getD, List.getElem?_eq_getElem hi]
    exact h _ (List.getElem_mem hi)
  · rw [List.getD_eq_getElem?_getD, List.getElem?_eq_none (by omega)]; simp

theorem pb_tmod (a n : Int) (h0 : 0 ≤ a) (hn : 1 ≤ n) : 0 ≤ Int.tmod a n ∧ Int.tmod a n < n ∧ Int.tmod a n ≤ a := by
  rw [Int.tmod_eq_emod_of_nonneg h0]
  have h2 := Int.mul_ediv_add_emod a n
  have h3 := Int.mul_nonneg (show 0 ≤ n by omega) (Int.ediv_nonneg h0 (show 0 ≤ n by omega))
  exact ⟨Int.emod_nonneg _ (by omega), Int.emod_lt_of_pos _ (by omega), by omega⟩

theorem pb_tdiv (a n : Int) (h0 : 0 ≤ a) (hn : 1 ≤ n) : 0 ≤ Int.tdiv a n ∧ Int.tdiv a n ≤ a := by
  rw [Int.tdiv_eq_ediv_of_nonneg h0]
  exact ⟨Int.ediv_nonneg h0 (by omega), Int.ediv_le_self _ h0⟩

theorem d_l1Next (l : List Int) (hl : bytesL l) (at' n : Int) (h0 : 0 ≤ at') (h1 : at' ≤ 1000000000000) :
    ∃ v, spec_l1Next.f l at' n = some (v, at' + 1) ∧ 0 ≤ v ∧ (1 ≤ n → v < n) := by
  unfold spec_l1Next.f
  rw [pb_wrap (a := at' + 1) (by omega) (by omega), show at' + 1 - 1 = at' by omega, pb_wrap (a := at') (by omega) (by omega)]
  by_cases hn : n < 1
  · rw [if_pos hn]; exact ⟨0, rfl, by omega, fun h => by omega⟩
  rw [if_neg hn]
  by_cases hz : (l.length : Int) = 0
  · rw [if_pos hz, if_neg (by omega), pb_wrap (by omega) (by omega)]
    have := pb_tmod (at' * 7) n (by omega) (by omega)
    exact ⟨_, rfl, this.1, fun _ => this.2.1⟩
  rw [if_neg hz]
  have hi := pb_tmod at' (l.length : Int) h0 (by omega)
  have hq := pb_tdiv at' (l.length : Int) h0 (by omega)
  have hc := bytesL_rd l hl (Int.tmod at' (l.length : Int))
  have hj := pb_tmod (at' + 1) (l.length : Int) (by omega) (by omega)
  have hd := bytesL_rd l hl (Int.tmod (at' + 1) (l.length : Int))
  rw [pb_wrap (a := at' + 1) (by omega) (by omega)]
  generalize rd l (Int.tmod at' (l.length : Int)) = c at hc ⊢
  generalize rd l (Int.tmod (at' + 1) (l.length : Int)) = d at hd ⊢
  generalize Int.tdiv at' (l.length : Int) = q at hq ⊢
  rw [if_pos hi.1, if_pos hi.2.1]
  rw [pb_wrap (a := c) (by omega) (by omega), pb_wrap (a := q) (by omega) (by omega), pb_wrap (a := q * 37) (by omega) (by omega), pb_wrap (a := c + q * 37) (by omega) (by omega)]
  by_cases h2 : n > 200
  · rw [if_pos h2, if_pos hj.1, if_pos hj.2.1, if_neg (by omega), pb_wrap (a := (c + q * 37) * 251) (by omega) (by omega), pb_wrap (a := d) (by omega) (by omega), pb_wrap (a := d * 13) (by omega) (by omega), pb_wrap (a := (c + q * 37) * 251 + d * 13) (by omega) (by omega), pb_wrap (by omega) (by omega)]
    have := pb_tmod ((c + q * 37) * 251 + d * 13 + at') n (by omega) (by omega)
    exact ⟨_, rfl, this.1, fun _ => this.2.1⟩
  · rw [if_neg h2, if_neg (by omega)]
    have := pb_tmod (c + q * 37) n (by omega) (by omega)
    exact ⟨_, rfl, this.1, fun _ => this.2.1⟩

theorem d_l1Pick (l : List Int) (hl : bytesL l) (at' : Int) (xs : List Int) (h0 : 0 ≤ at') (h1 : at' ≤ 1000000000000) (hx : 1 ≤ xs.length) :
    ∃ v, spec_l1Pick.f l at' xs = some (v, at' + 1) ∧ v ∈ xs := by
  unfold spec_l1Pick.f
  obtain ⟨v, hv, hv0, hv1⟩ := d_l1Next l hl at' (xs.length : Int) h0 h1
  have hv2 := hv1 (by omega)
  rw [hv]; simp only [Option.bind_some]
  rw [if_pos hv0, if_pos hv2]
  refine ⟨_, rfl, ?_⟩
  unfold rd
  rw [List.getD_eq_getElem?_getD, List.getElem?_eq_getElem (by omega)]
  exact List.getElem_mem _

theorem d_l1DrawWord (l : List Int) (hl : bytesL l) (at' : Int) (h0 : 0 ≤ at') (h1 : at' ≤ 100000000000) :
    ∃ v, spec_l1DrawWord.f l at' = some (v, at' + 4) := by
  unfold spec_l1DrawWord.f
  obtain ⟨v1, e1, _, _⟩ := d_l1Next l hl at' 90 h0 (by omega)
  rw [e1]; simp only [Option.bind_some]
  obtain ⟨v2, e2, _, _⟩ := d_l1Next l hl (at' + 1) 256 (by omega) (by omega)
  rw [e2]; simp only [Option.bind_some]
  obtain ⟨v3, e3, _, _⟩ := d_l1Next l hl (at' + 1 + 1) 9 (by omega) (by omega)
  rw [e3]; simp only [Option.bind_some]
  obtain ⟨v4, e4, _⟩ := d_l1Pick l hl (at' + 1 + 1 + 1) ([v1, wrap64 (v2 * 257), wrap64 (65535 - v3), 32768, 32767, 0] : List Int) (by omega) (by omega) (by simp)
  rw [e4]; simp only [Option.bind_some]
  exact ⟨v4, by rw [show at' + 1 + 1 + 1 + 1 = at' + 4 by omega]⟩

theorem c_laws_lwBig (l : List Int) : laws_lwBig.f l = some (decide ((l.length : Int) > 1048576)) := rfl

theorem dl_l1Words (l : List Int) (hl : bytesL l) (d : Nat) : ∀ (k : Nat) (acc : List Int) (m at' : Int), 0 ≤ at' → at' + 4 * m ≤ 1000000000 → m ≤ d → 0 ≤ m → d + 1 < k → acc.length + d ≤ 1000000 →
    ∃ ws a2, spec_l1Words.l0 k acc m l at' = some (ws, a2) := by
  induction d with
  | zero =>
    intro k acc m at' h0 h1 hm hm0 hk ha
    obtain ⟨k, rfl⟩ : ∃ m, k = m + 1 := ⟨k - 1, by omega⟩
    simp only [spec_l1Words.l0]; rw [if_neg (by omega)]
    obtain ⟨v1, e1, p1, q1⟩ := d_l1Next l hl at' 14 h0 (by omega)
    rw [e1]; simp only [Option.bind_some]
    split
    · split
      · next h =>
        obtain ⟨v2, e2, p2, q2⟩ := d_l1Next l hl (at' + 1) (acc.length : Int) (by omega) (by omega)
        rw [e2]; simp only [Option.bind_some]
        obtain ⟨v3, e3, _⟩ := d_l1Pick l hl (at' + 1 + 1) ([(-1), 65536] : List Int) (by omega) (by omega) (by simp)
        rw [e3]; simp only [Option.bind_some]
        rw [if_pos p2, if_pos (q2 (by omega))]; exact ⟨_, _, rfl⟩
      · exact ⟨_, _, rfl⟩
    · split
      · rw [if_pos (by decide)]; exact ⟨_, _, rfl⟩
      · exact ⟨_, _, rfl⟩
  | succ d ih =>
    intro k acc m at' h0 h1 hm hm0 hk ha
    obtain ⟨k, rfl⟩ : ∃ m, k = m + 1 := ⟨k - 1, by omega⟩
    by_cases hz : m > 0
    · simp only [spec_l1Words.l0]; rw [if_pos hz]
      obtain ⟨v, e⟩ := d_l1DrawWord l hl at' h0 (by omega)
      rw [e]; simp only [Option.bind_some]
      rw [if_pos (by omega), pb_wrap (by omega) (by omega)]
      exact ih k (acc ++ [v]) (m - 1) (at' + 4) (by omega) (by omega) (by omega) (by omega) (by omega) (by simp; omega)
    · exact ih (k + 1) acc m at' h0 h1 (by omega) hm0 (by omega) (by omega)

theorem d_l1Words (l : List Int) (hl : bytesL l) (k : Nat) (hk : 500 ≤ k) (at' : Int) (h0 : 0 ≤ at') (h1 : at' ≤ 100000000) : ∃ ws a2, spec_l1Words.f k l at' = some (ws, a2) := by
  unfold spec_l1Words.f
  obtain ⟨v1, e1, p1, q1⟩ := d_l1Next l hl at' 9 h0 (by omega)
  rw [e1]; simp only [Option.bind_some]
  obtain ⟨v2, e2, p2, q2⟩ := d_l1Next l hl (at' + 1) 30 (by omega) (by omega)
  rw [e2]; simp only [Option.bind_some]
  obtain ⟨v3, e3, m3⟩ := d_l1Pick l hl (at' + 1 + 1) ([v1, v2, 400] : List Int) (by omega) (by omega) (by simp)
  rw [e3]; simp only [Option.bind_some]
  have := q1 (by omega)
  have := q2 (by omega)
  have hb : 0 ≤ v3 ∧ v3 ≤ 400 := by
    simp only [List.mem_cons, List.not_mem_nil, or_false] at m3
    rcases m3 with rfl | rfl | rfl <;> omega
  exact dl_l1Words l hl 400 k [] v3 _ (by omega) (by omega) (by omega) (by omega) (by omega) (by simp)

theorem d_DrawCrcWords (l : List Int) (hl : bytesL l) (k : Nat) (hk : 500 ≤ k) : ∃ ws, spec_DrawCrcWords.f k l = some ws := by
  unfold spec_DrawCrcWords.f spec_l1Source.f
  simp only [Option.bind_some]
  obtain ⟨ws, a2, e⟩ := d_l1Words l hl k hk 0 (by omega) (by omega)
  rw [e]; exact ⟨ws, rfl⟩

theorem d_DrawCrcByte (l : List Int) (hl : bytesL l) : ∃ a b, spec_DrawCrcByte.f l = some (a, b) := by
  unfold spec_DrawCrcByte.f spec_l1Source.f
  simp only [Option.bind_some]
  obtain ⟨v1, e1⟩ := d_l1DrawWord l hl 0 (by omega) (by omega)
  rw [e1]; simp only [Option.bind_some]
  obtain ⟨v2, e2⟩ := d_l1DrawWord l hl (0 + 4) (by omega) (by omega)
  rw [e2]; simp only [Option.bind_some]
  obtain ⟨v3, e3, _⟩ := d_l1Pick l hl (0 + 4 + 4) ([v1, v2, 65536, (-1)] : List Int) (by omega) (by omega) (by simp)
  rw [e3]; simp only [Option.bind_some]
  obtain ⟨v4, e4, _, _⟩ := d_l1Next l hl (0 + 4 + 4 + 1) 256 (by omega) (by omega)
  rw [e4]; simp only [Option.bind_some]
  obtain ⟨v5, e5, _, _⟩ := d_l1Next l hl (0 + 4 + 4 + 1 + 1) 256 (by omega) (by omega)
  rw [e5]; simp only [Option.bind_some]
  obtain ⟨v6, e6, _⟩ := d_l1Pick l hl (0 + 4 + 4 + 1 + 1 + 1) ([v4, v5, 256, (-1)] : List Int) (by omega) (by omega) (by simp)
  rw [e6]; exact ⟨_, _, rfl⟩

theorem pb_xor_lt (a b : Nat) (ha : a < 65536) (hb : b < 65536) : a ^^^ b < 65536 := Nat.xor_lt_two_pow (n := 16) (by omega) (by omega)

theorem pb_top (x : Nat) (hx : x < 65536) : x.testBit 15 = decide (32768 ≤ x) := by
  rw [Nat.testBit_eq_decide_div_mod_eq]
  congr 1; apply propext; constructor <;> intro h <;> omega

theorem nStep_alt (x : Nat) (hx : x < 65536) : nStep x = (x * 2 % 65536) ^^^ (if x.testBit 15 then 4129 else 0) := by
  unfold nStep; rw [pb_top x hx]
  by_cases h : 32768 ≤ x <;> simp [h]

theorem pb_dbl_xor (a b : Nat) : ((a ^^^ b) * 2 % 65536) = (a * 2 % 65536) ^^^ (b * 2 % 65536) := by
  rw [show (65536 : Nat) = 2 ^ 16 from rfl, ← Nat.xor_mod_two_pow]
  congr 1
  have := Nat.shiftLeft_xor_distrib (a := a) (b := b) (i := 1)
  simpa [Nat.shiftLeft_eq] using this

theorem nStep_xor (a b : Nat) (ha : a < 65536) (hb : b < 65536) : nStep (a ^^^ b) = nStep a ^^^ nStep b := by
  rw [nStep_alt a ha, nStep_alt b hb, nStep_alt _ (pb_xor_lt a b ha hb), pb_dbl_xor, Nat.testBit_xor]
  apply Nat.eq_of_testBit_eq; intro i
  simp only [Nat.testBit_xor]
  cases a.testBit 15 <;> cases b.testBit 15 <;> simp [Bool.xor_assoc, Bool.xor_comm, Bool.xor_left_comm]

theorem nIter_xor (n : Nat) : ∀ (a b : Nat), a < 65536 → b < 65536 → nIter n (a ^^^ b) = nIter n a ^^^ nIter n b := by
  induction n with
  | zero => intro a b _ _; rfl
  | succ n ih => intro a b ha hb; simp only [nIter]; rw [nStep_xor a b ha hb, ih _ _ (nStep_lt a) (nStep_lt b)]

theorem nIter_low (n : Nat) : ∀ (m x : Nat), n + m = 8 → x < 2 ^ (8 + m) → nIter n x = x * 2 ^ n := by
  induction n with
  | zero => intro m x _ _; simp [nIter]
  | succ n ih =>
    intro m x hm hx
    have hp : 2 ^ (8 + m) ≤ 2 ^ 15 := Nat.pow_le_pow_right (by decide) (by omega)
    have hs : nStep x = x * 2 := by unfold nStep; rw [if_neg (by omega)]; omega
    simp only [nIter]; rw [hs, ih (m + 1) (x * 2) (by omega) (by rw [show 8 + (m + 1) = (8 + m) + 1 by omega, Nat.pow_succ]; omega), Nat.pow_succ]
    rw [Nat.mul_assoc, Nat.mul_comm 2]

theorem nIter_low8 (x : Nat) (hx : x < 256) : nIter 8 x = 256 * x := by
  rw [nIter_low 8 0 x (by omega) (by omega)]; omega

theorem pb_split (s : Nat) (hs : s < 65536) : s = (256 * (s / 256)) ^^^ (s % 256) := by
  have h := Nat.two_pow_add_eq_or_of_lt (i := 8) (b := s % 256) (by omega) (s / 256)
  have h2 : (256 * (s / 256)) ||| (s % 256) = (256 * (s / 256)) ^^^ (s % 256) := by
    apply Nat.eq_of_testBit_eq; intro i
    rw [Nat.testBit_or, Nat.testBit_xor]
    have e : (256 * (s / 256)).testBit i = (decide (8 ≤ i) && (s / 256).testBit (i - 8)) := by
      rw [show 256 * (s / 256) = (s / 256) <<< 8 by rw [Nat.shiftLeft_eq]; omega, Nat.testBit_shiftLeft]
    rw [e]
    by_cases hi : 8 ≤ i
    · have : (s % 256).testBit i = false := Nat.testBit_lt_two_pow (Nat.lt_of_lt_of_le (show s % 256 < 2 ^ 8 by omega) (Nat.pow_le_pow_right (by decide) hi))
      rw [this]; simp
    · simp [hi]
  have h3 : 256 * (s / 256) + s % 256 = (256 * (s / 256)) ||| (s % 256) := h
  rw [← h2, ← h3]; omega

theorem pb_mul_xor (a b : Nat) : 256 * (a ^^^ b) = (256 * a) ^^^ (256 * b) := by
  have := Nat.shiftLeft_xor_distrib (a := a) (b := b) (i := 8)
  rw [Nat.shiftLeft_eq, Nat.shiftLeft_eq, Nat.shiftLeft_eq] at this
  rw [Nat.mul_comm 256, Nat.mul_comm 256, Nat.mul_comm 256]; exact this

theorem pb_table_nat (s b : Nat) (h1 : s < 65536) (h3 : b < 256) : nIter 8 (s ^^^ (256 * b)) = (256 * (s % 256)) ^^^ nIter 8 (256 * ((s / 256) ^^^ b)) := by
  have hx : (s / 256) ^^^ b < 2 ^ 8 := Nat.xor_lt_two_pow (by omega) (by omega)
  have e : s ^^^ (256 * b) = (s % 256) ^^^ (256 * ((s / 256) ^^^ b)) := by
    conv => lhs; rw [pb_split s (by omega)]
    rw [pb_mul_xor, Nat.xor_comm (256 * (s / 256)), Nat.xor_assoc]
  have e2 := nIter_xor 8 (s % 256) (256 * ((s / 256) ^^^ b)) (by omega) (by omega)
  have e3 := nIter_low8 (s % 256) (by omega)
  rw [e, e2, e3]

theorem mCrc_nat (s b : Nat) : mCrc (s : Int) (b : Int) = ((nIter 8 (s ^^^ (256 * b)) : Nat) : Int) := rfl

theorem mCrc_zero (b : Nat) : mCrc 0 (b : Int) = ((nIter 8 (256 * b) : Nat) : Int) := by
  have h := mCrc_nat 0 b
  rw [Nat.zero_xor] at h
  exact h

theorem mCrc_table (s b : Int) (h0 : 0 ≤ s) (h1 : s < 65536) (h2 : 0 ≤ b) (h3 : b < 256) :
    mCrc s b = Go.bits .xor .i64 ((s % 256) * 256) (mCrc 0 (Go.bits .xor .i64 (s / 256) b)) ∧ 0 ≤ Go.bits .xor .i64 (s / 256) b ∧ Go.bits .xor .i64 (s / 256) b < 256 := by
  obtain ⟨s, rfl⟩ := Int.eq_ofNat_of_zero_le h0
  obtain ⟨b, rfl⟩ := Int.eq_ofNat_of_zero_le h2
  have hx : (s / 256) ^^^ b < 2 ^ 8 := Nat.xor_lt_two_pow (by omega) (by omega)
  have q1 : Go.bits .xor .i64 ((s : Int) / 256) (b : Int) = ((s / 256 ^^^ b : Nat) : Int) := by
    rw [show ((s : Int) / 256) = ((s / 256 : Nat) : Int) by omega]; exact pb_xor_nat _ _ (by omega) (by omega)
  rw [q1]
  refine ⟨?_, by omega, by omega⟩
  have hr := nIter_lt 8 (256 * (s / 256 ^^^ b)) (by omega)
  have q2 := pb_table_nat s b (by omega) (by omega)
  rw [mCrc_nat, mCrc_zero, q2, show ((s : Int) % 256 * 256) = ((256 * (s % 256) : Nat) : Int) by omega]
  exact (pb_xor_nat _ _ (by omega) hr).symm

theorem FnSums : laws_FnSums.Pure := by
  intro l0 _ _ hw
  have hl := bytesL_wf l0 hw
  refine ⟨1000, ?_⟩
  unfold laws_FnSums.f
  rw [c_laws_lwBig]; simp only [Option.bind_some]
  split
  · rfl
  obtain ⟨ws, e⟩ := d_DrawCrcWords l0 hl 1000 (by decide)
  rw [e]
  simp only [Option.bind_some, c_impl_CrcWords 1000 _ (by decide), c_impl_CrcFast 1000 _ (by decide), c_spec_CrcWords 1000 _ (by decide)]
  by_cases h0 : (mCrcWords ws).1 = 0
  · rw [if_pos h0]
    have hf : mWordsFault ws = 0 := by
      unfold mCrcWords at h0; split at h0
      · assumption
      · exact h0
    have hf2 := (mWordsFault_ok ws).1 hf
    have hr := mSum_range ws 65535 (by omega) (by omega) hf2.2
    have e2 : (mCrcWords ws).2 = mSum 65535 ws := by unfold mCrcWords; rw [if_pos hf]
    obtain ⟨a, b, ed⟩ := d_DrawCrcByte l0 hl
    rw [ed]
    simp only [Option.bind_some, c_impl_CrcByte 1000 _ _ (by decide), c_spec_CrcByte 1000 _ _ (by decide), c_impl_CrcTable 1000 _ (by decide)]
    by_cases hb : 0 ≤ a ∧ a ≤ 65535 ∧ 0 ≤ b ∧ b ≤ 255
    · have e1 : mCrcByte a b = (0, mCrc a b) := by unfold mCrcByte; rw [if_pos hb]
      have ht := mCrc_table a b hb.1 (by omega) hb.2.2.1 (by omega)
      have e3 : mCrcByte 0 (Go.bits .xor .i64 (a / 256) b) = (0, mCrc 0 (Go.bits .xor .i64 (a / 256) b)) := by unfold mCrcByte; rw [if_pos (by omega)]
      rw [Int.tdiv_eq_ediv_of_nonneg hb.1, Int.tmod_eq_emod_of_nonneg hb.1, pb_wrap (a := a / 256) (by omega) (by omega), pb_wrap (by omega) (by omega), e3, e1]
      simp only [if_true]
      rw [if_pos ht.1, if_pos (by simp), if_pos (by omega), if_pos (by omega)]
      simp
    · have e1 : mCrcByte a b = (3, 0) := by unfold mCrcByte; rw [if_neg hb]
      rw [e1]
      simp only
      rw [if_neg (by decide), if_pos (by simp), if_pos (by omega), if_pos (by omega)]
      simp
  · rw [if_neg h0]
    simp

end Go.Proofs.Ytaolajbojoeahaa.Pure
