/- Proved: for all arguments the law FnTurns of the given program returns true and leaves its arguments as they were. Conditions: none but those that the given row itself states. -/
import Derived.Test.YtklhfhnplldgjaaTFnTurns
set_option linter.unusedVariables false
set_option linter.unusedSimpArgs false
namespace Go.Proofs.Ytklhfhnplldgjaa.Pure
open Go Go.RowKit Go.Proofs.Ytklhfhnplldgjaa.PFnTurns Go.Proofs.YtklhfhnplldgjaaW.PrintWords Go.Proofs.YtklhfhnplldgjaaW.PrintLast

theorem pb_wrap {a : Int} (h : -9223372036854775808 ≤ a) (h' : a ≤ 9223372036854775807) : wrap64 a = a := by
  unfold wrap64; omega

theorem pb_and_mask (a : Int) (n : Nat) (hn : n ≤ 62) : Go.bits .and .i64 a ((2 ^ n - 1 : Nat) : Int) = a % (2 ^ n : Nat) := by
  have hp : (2 : Nat) ^ n ≤ 2 ^ 62 := Nat.pow_le_pow_right (by decide) hn
  have hp0 : 0 < (2 : Nat) ^ n := Nat.two_pow_pos n
  have hd : (2 : Nat) ^ n ∣ 2 ^ 64 := Nat.pow_dvd_pow 2 (by omega)
  unfold Go.bits
  simp only [BitVec.toNat_and, BitVec.toNat_ofInt]
  rw [show IntKind.i64.bits = 64 from rfl]
  have e1 : ((((2 ^ n - 1 : Nat) : Int) % (2 ^ 64 : Nat)).toNat) = 2 ^ n - 1 := by
    have : ((2 ^ n - 1 : Nat) : Int) % (2 ^ 64 : Nat) = ((2 ^ n - 1 : Nat) : Int) := by
      apply Int.emod_eq_of_lt
      · omega
      · have : (2 : Nat) ^ n - 1 < 2 ^ 64 := by omega
        exact_mod_cast this
    rw [this]; rfl
  rw [e1, Nat.and_two_pow_sub_one_eq_mod]
  have e2 : (((a % (2 ^ 64 : Nat)).toNat % 2 ^ n : Nat) : Int) = a % (2 ^ n : Nat) := by
    have h0 : 0 ≤ a % (2 ^ 64 : Nat) := Int.emod_nonneg _ (by decide)
    rw [Int.natCast_emod, Int.toNat_of_nonneg h0]
    exact Int.emod_emod_of_dvd a (by exact_mod_cast hd)
  rw [e2, IntKind.wrap_i64]
  have h0 : 0 ≤ a % (2 ^ n : Nat) := Int.emod_nonneg _ (by exact_mod_cast (Nat.ne_of_gt hp0))
  have h1 : a % (2 ^ n : Nat) < (2 ^ n : Nat) := Int.emod_lt_of_pos _ (by exact_mod_cast hp0)
  have h2 : ((2 ^ n : Nat) : Int) ≤ 2 ^ 62 := by exact_mod_cast hp
  omega

theorem pb_and65535 (a : Int) : Go.bits .and .i64 a 65535 = a % 65536 := pb_and_mask a 16 (by decide)

theorem pb_and255 (a : Int) : Go.bits .and .i64 a 255 = a % 256 := pb_and_mask a 8 (by decide)

theorem pb_bits_nat (x y : Int) (hx : 0 ≤ x) (hx' : x < 65536) (hy : 0 ≤ y) (hy' : y < 65536) :
    Go.bits .and .i64 x y = ((x.toNat &&& y.toNat : Nat) : Int) ∧ Go.bits .or .i64 x y = ((x.toNat ||| y.toNat : Nat) : Int) ∧ Go.bits .xor .i64 x y = ((x.toNat ^^^ y.toNat : Nat) : Int) := by
  have hx2 : x.toNat < 2 ^ 16 := by omega
  have hy2 : y.toNat < 2 ^ 16 := by omega
  have ex : (x % (2 ^ 64 : Nat)).toNat = x.toNat := by rw [Int.emod_eq_of_lt hx (by omega)]
  have ey : (y % (2 ^ 64 : Nat)).toNat = y.toNat := by rw [Int.emod_eq_of_lt hy (by omega)]
  have h1 := Nat.and_lt_two_pow x.toNat hy2
  have h2 := Nat.or_lt_two_pow hx2 hy2
  have h3 := Nat.xor_lt_two_pow hx2 hy2
  refine ⟨?_, ?_, ?_⟩ <;>
  · unfold Go.bits
    dsimp only
    first | rw [BitVec.toNat_and] | rw [BitVec.toNat_or] | rw [BitVec.toNat_xor]
    rw [BitVec.toNat_ofInt, BitVec.toNat_ofInt, show IntKind.i64.bits = 64 from rfl, ex, ey, IntKind.wrap_i64]; omega

def nStep (x : Nat) : Nat := if 32768 ≤ x then (x * 2 % 65536) ^^^ 4129 else x * 2 % 65536

theorem nStep_lt (x : Nat) : nStep x < 65536 := by
  unfold nStep; split
  · exact Nat.xor_lt_two_pow (n := 16) (by omega) (by omega)
  · omega

def nIter : Nat → Nat → Nat
  | 0, x => x
  | n + 1, x => nIter n (nStep x)

theorem nIter_lt (n x : Nat) (h : x < 65536) : nIter n x < 65536 := by
  induction n generalizing x with
  | zero => exact h
  | succ n ih => exact ih _ (nStep_lt x)

def mCrc (s b : Int) : Int := (nIter 8 (s.toNat ^^^ (256 * b.toNat)) : Nat)

theorem mCrc_range (s b : Int) (h1 : s < 65536) (h3 : b < 256) : 0 ≤ mCrc s b ∧ mCrc s b < 65536 := by
  unfold mCrc
  have := nIter_lt 8 (s.toNat ^^^ (256 * b.toNat)) (Nat.xor_lt_two_pow (n := 16) (by omega) (by omega))
  omega

theorem pb_xor_nat (x y : Nat) (hx : x < 65536) (hy : y < 65536) : Go.bits .xor .i64 (x : Int) (y : Int) = ((x ^^^ y : Nat) : Int) := by
  have := (pb_bits_nat (x : Int) (y : Int) (by omega) (by omega) (by omega) (by omega)).2.2
  simpa using this

theorem pb_xor4129 (x : Nat) (hx : x < 65536) : Go.bits .xor .i64 (x : Int) 4129 = ((x ^^^ 4129 : Nat) : Int) := pb_xor_nat x 4129 hx (by decide)

theorem pb_and32768 (x : Nat) (hx : x < 65536) : (Go.bits .and .i64 (x : Int) 32768 = 0) ↔ x < 32768 := by
  have h := (pb_bits_nat (x : Int) 32768 (by omega) (by omega) (by omega) (by omega)).1
  have e : (x &&& 32768) = if 32768 ≤ x then 32768 else 0 := by
    apply Nat.eq_of_testBit_eq; intro i
    rw [Nat.testBit_and, show (32768 : Nat) = 2 ^ 15 from rfl, Nat.testBit_two_pow]
    by_cases hi : 15 = i
    · subst hi
      by_cases hx' : 2 ^ 15 ≤ x
      · rw [if_pos hx', Nat.testBit_two_pow]
        have : x.testBit 15 = true := by
          rw [Nat.testBit_eq_decide_div_mod_eq]; simp; omega
        simp [this]
      · rw [if_neg hx']; simp
        exact Nat.testBit_lt_two_pow (by omega)
    · simp [hi]; split
      · rw [show (32768 : Nat) = 2 ^ 15 from rfl, Nat.testBit_two_pow]; simp [hi]
      · simp
  rw [h]
  simp only [Int.toNat_natCast, show ((32768 : Int).toNat) = 32768 from rfl, e]
  split <;> omega

theorem l_spec_l1Crc (d : Nat) : ∀ (k x : Nat) (i : Int), x < 65536 → i + d = 8 → 0 ≤ i → d < k → spec_l1Crc.l0 k (x : Int) i = some ((nIter d x : Nat) : Int) := by
  induction d with
  | zero =>
    intro k x i hx hi h0 hk
    obtain ⟨k, rfl⟩ : ∃ m, k = m + 1 := ⟨k - 1, by omega⟩
    simp only [spec_l1Crc.l0]; rw [if_neg (by omega)]; rfl
  | succ d ih =>
    intro k x i hx hi h0 hk
    obtain ⟨k, rfl⟩ : ∃ m, k = m + 1 := ⟨k - 1, by omega⟩
    have e : Int.tmod (wrap64 ((x : Int) * 2)) 65536 = ((x * 2 % 65536 : Nat) : Int) := by
      rw [pb_wrap (by omega) (by omega), Int.tmod_eq_emod_of_nonneg (by omega)]; omega
    simp only [spec_l1Crc.l0]; rw [if_pos (by omega), e, pb_wrap (a := i + 1) (by omega) (by omega), pb_xor4129 _ (by omega)]
    by_cases h : 32768 ≤ x
    · rw [if_pos (by omega)]
      have := ih k (nStep x) (i + 1) (nStep_lt x) (by omega) (by omega) (by omega)
      simp only [nIter]; rw [← this]; unfold nStep; rw [if_pos h]
    · rw [if_neg (by omega)]
      have := ih k (nStep x) (i + 1) (nStep_lt x) (by omega) (by omega) (by omega)
      simp only [nIter]; rw [← this]; unfold nStep; rw [if_neg h]

theorem l_impl_crcByte (d : Nat) : ∀ (k x : Nat) (i : Int), x < 65536 → i + d = 8 → 0 ≤ i → d < k → impl_crcByte.l0 k (x : Int) i = some ((nIter d x : Nat) : Int) := by
  induction d with
  | zero =>
    intro k x i hx hi h0 hk
    obtain ⟨k, rfl⟩ : ∃ m, k = m + 1 := ⟨k - 1, by omega⟩
    simp only [impl_crcByte.l0]; rw [if_neg (by omega)]; rfl
  | succ d ih =>
    intro k x i hx hi h0 hk
    obtain ⟨k, rfl⟩ : ∃ m, k = m + 1 := ⟨k - 1, by omega⟩
    have e : Go.bits .and .i64 (wrap64 (2 * (x : Int))) 65535 = ((x * 2 % 65536 : Nat) : Int) := by
      rw [pb_and65535, pb_wrap (by omega) (by omega)]; omega
    simp only [impl_crcByte.l0]; rw [if_pos (by omega), e, pb_wrap (a := i + 1) (by omega) (by omega), pb_xor4129 _ (by omega)]
    by_cases h : 32768 ≤ x
    · rw [if_neg (by rw [pb_and32768 x hx]; omega)]
      have := ih k (nStep x) (i + 1) (nStep_lt x) (by omega) (by omega) (by omega)
      simp only [nIter]; rw [← this]; unfold nStep; rw [if_pos h]
    · rw [if_pos (by rw [pb_and32768 x hx]; omega)]
      have := ih k (nStep x) (i + 1) (nStep_lt x) (by omega) (by omega) (by omega)
      simp only [nIter]; rw [← this]; unfold nStep; rw [if_neg h]

theorem c_spec_l1Crc (k : Nat) (s b : Int) (h0 : 0 ≤ s) (h1 : s < 65536) (h2 : 0 ≤ b) (h3 : b < 256) (hk : 9 ≤ k) : spec_l1Crc.f k s b = some (mCrc s b) := by
  obtain ⟨s, rfl⟩ := Int.eq_ofNat_of_zero_le h0
  obtain ⟨b, rfl⟩ := Int.eq_ofNat_of_zero_le h2
  unfold spec_l1Crc.f mCrc
  rw [pb_wrap (by omega) (by omega), show ((b : Int) * 256) = ((256 * b : Nat) : Int) by omega, pb_xor_nat _ _ (by omega) (by omega)]
  rw [l_spec_l1Crc 8 k _ 0 (Nat.xor_lt_two_pow (n := 16) (by omega) (by omega)) (by omega) (by omega) (by omega)]
  simp

theorem c_impl_crcByte (k : Nat) (s b : Int) (h0 : 0 ≤ s) (h1 : s < 65536) (h2 : 0 ≤ b) (h3 : b < 256) (hk : 9 ≤ k) : impl_crcByte.f k s b = some (mCrc s b) := by
  obtain ⟨s, rfl⟩ := Int.eq_ofNat_of_zero_le h0
  obtain ⟨b, rfl⟩ := Int.eq_ofNat_of_zero_le h2
  unfold impl_crcByte.f mCrc
  rw [pb_wrap (by omega) (by omega), show (256 * (b : Int)) = ((256 * b : Nat) : Int) by omega, pb_xor_nat _ _ (by omega) (by omega)]
  rw [l_impl_crcByte 8 k _ 0 (Nat.xor_lt_two_pow (n := 16) (by omega) (by omega)) (by omega) (by omega) (by omega)]
  simp

theorem c_spec_l1In (a b c : Int) : spec_l1In.f a b c = some (decide (b ≤ a ∧ a ≤ c)) := by
  unfold spec_l1In.f; split
  · next h => congr 1; simp; omega
  · next h => congr 1; simp; omega

theorem c_impl_within (a b c : Int) : impl_within.f a b c = some (decide (b ≤ a ∧ a ≤ c)) := by
  unfold impl_within.f; split
  · next h => congr 1; simp; omega
  · next h => congr 1; simp; omega

def isW (a : Int) : Bool := decide (0 ≤ a ∧ a ≤ 65535)

theorem c_spec_l1Word (a : Int) : spec_l1Word.f a = some (isW a) := by
  unfold spec_l1Word.f; rw [c_spec_l1In]; rfl

theorem c_impl_isWord (a : Int) : impl_isWord.f a = some (isW a) := by
  unfold impl_isWord.f; rw [c_impl_within]; rfl

theorem pb_rd (xs : List Int) (i : Nat) (h : i < xs.length) : rd xs (i : Int) = xs[i] := by
  unfold rd; simp [List.getD_eq_getElem?_getD, h]

def mWordsFault (l : List Int) : Int := if l.length > 400 then 2 else if l.all isW then 0 else 3

theorem mWordsFault_ok (l : List Int) : mWordsFault l = 0 ↔ l.length ≤ 400 ∧ l.all isW = true := by
  unfold mWordsFault; split
  · constructor <;> intro h <;> omega
  · split
    · next h => simp [h]; omega
    · next h => simp [h]

theorem l_spec_WordsFault (xs : List Int) (hn : xs.length ≤ 400) (d : Nat) : ∀ (k i : Nat), i + d = xs.length → d < k →
    spec_WordsFault.l0 k xs (i : Int) = some (if (xs.drop i).all isW then 0 else 3) := by
  induction d with
  | zero =>
    intro k i hi hk
    obtain ⟨k, rfl⟩ : ∃ m, k = m + 1 := ⟨k - 1, by omega⟩
    simp only [spec_WordsFault.l0]; rw [if_neg (by omega), List.drop_of_length_le (by omega)]; rfl
  | succ d ih =>
    intro k i hi hk
    obtain ⟨k, rfl⟩ : ∃ m, k = m + 1 := ⟨k - 1, by omega⟩
    have hlt : i < xs.length := by omega
    simp only [spec_WordsFault.l0]; rw [if_pos (by omega), if_pos (by omega), pb_rd xs i hlt, c_spec_l1Word, pb_wrap (by omega) (by omega), List.drop_eq_getElem_cons hlt]
    simp only [Option.bind_some, List.all_cons]
    by_cases h : isW xs[i] = true
    · rw [if_pos h]; simp only [h, Bool.true_and]; exact ih k (i + 1) (by omega) (by omega)
    · rw [if_neg h]; simp [h]

theorem c_spec_WordsFault (k : Nat) (xs : List Int) (hk : 401 ≤ k) : spec_WordsFault.f k xs = some (mWordsFault xs) := by
  unfold spec_WordsFault.f mWordsFault
  split
  · rw [if_pos (by omega)]
  · rw [if_neg (by omega)]
    have := l_spec_WordsFault xs (by omega) xs.length k 0 (by omega) (by omega)
    simpa using this

theorem l_impl_areWords (xs : List Int) (hn : xs.length ≤ 35184372088832) (d : Nat) : ∀ (k i : Nat), i + d = xs.length → d < k →
    impl_areWords.l0 k xs (xs.length : Int) (i : Int) = some ((xs.drop i).all isW) := by
  induction d with
  | zero =>
    intro k i hi hk
    obtain ⟨k, rfl⟩ : ∃ m, k = m + 1 := ⟨k - 1, by omega⟩
    simp only [impl_areWords.l0]; rw [if_neg (by omega), List.drop_of_length_le (by omega)]; rfl
  | succ d ih =>
    intro k i hi hk
    obtain ⟨k, rfl⟩ : ∃ m, k = m + 1 := ⟨k - 1, by omega⟩
    have hlt : i < xs.length := by omega
    simp only [impl_areWords.l0]; rw [if_pos (by omega), if_pos (by omega), if_pos (by omega), pb_rd xs i hlt, c_impl_isWord, pb_wrap (by omega) (by omega), List.drop_eq_getElem_cons hlt]
    simp only [Option.bind_some, List.all_cons]
    cases h : isW xs[i] with
    | true => simp only [if_true, Bool.true_and]; exact ih k (i + 1) (by omega) (by omega)
    | false => simp

theorem c_impl_areWords (k : Nat) (xs : List Int) (hn : xs.length ≤ 35184372088832) (hk : xs.length < k) : impl_areWords.f k xs = some (xs.all isW) := by
  unfold impl_areWords.f
  have := l_impl_areWords xs hn xs.length k 0 (by omega) hk
  simpa using this

theorem c_impl_WordsFault (k : Nat) (xs : List Int) (hk : 401 ≤ k) : impl_WordsFault.f k xs = some (mWordsFault xs) := by
  unfold impl_WordsFault.f mWordsFault
  split
  · rw [if_pos (by omega)]
  · rw [if_neg (by omega), c_impl_areWords k xs (by omega) (by omega)]
    simp only [Option.bind_some]; split <;> rfl

def mWord (s w : Int) : Int := mCrc (mCrc s (w / 256)) (w % 256)

def mSum (s : Int) (l : List Int) : Int := l.foldl mWord s

theorem isW_iff (a : Int) : isW a = true ↔ 0 ≤ a ∧ a < 65536 := by
  unfold isW; rw [decide_eq_true_eq]; omega

theorem mWord_range (s w : Int) (h : s < 65536) (hw : isW w = true) : 0 ≤ mWord s w ∧ mWord s w < 65536 := by
  rw [isW_iff] at hw
  unfold mWord
  have h1 := mCrc_range s (w / 256) h (by omega)
  exact mCrc_range _ _ h1.2 (by omega)

theorem mSum_range (l : List Int) : ∀ (s : Int), 0 ≤ s → s < 65536 → l.all isW = true → 0 ≤ mSum s l ∧ mSum s l < 65536 := by
  induction l with
  | nil => intro s h0 h1 _; exact ⟨h0, h1⟩
  | cons w l ih =>
    intro s h0 h1 h
    rw [List.all_cons, Bool.and_eq_true] at h
    have := mWord_range s w h1 h.1
    exact ih _ this.1 this.2 h.2

theorem l_spec_l1Sum (xs : List Int) (hn : xs.length ≤ 35184372088832) (hx : xs.all isW = true) (d : Nat) : ∀ (k i : Nat) (s : Int), 0 ≤ s → s < 65536 → i + d = xs.length → d + 10 < k →
    spec_l1Sum.l0 k xs s (i : Int) = some (mSum s (xs.drop i)) := by
  induction d with
  | zero =>
    intro k i s h0 h1 hi hk
    obtain ⟨k, rfl⟩ : ∃ m, k = m + 1 := ⟨k - 1, by omega⟩
    simp only [spec_l1Sum.l0]; rw [if_neg (by omega), List.drop_of_length_le (by omega)]; rfl
  | succ d ih =>
    intro k i s h0 h1 hi hk
    obtain ⟨k, rfl⟩ : ∃ m, k = m + 1 := ⟨k - 1, by omega⟩
    have hlt : i < xs.length := by omega
    have hw : isW xs[i] = true := by rw [List.all_eq_true] at hx; exact hx _ (List.getElem_mem hlt)
    have hw' := (isW_iff _).1 hw
    have r1 := mCrc_range s (xs[i] / 256) h1 (by omega)
    have r2 := mWord_range s xs[i] h1 hw
    simp only [spec_l1Sum.l0]; rw [if_pos (by omega), if_pos (by omega), pb_rd xs i hlt, pb_wrap (a := (i : Int) + 1) (by omega) (by omega), List.drop_eq_getElem_cons hlt]
    rw [Int.tdiv_eq_ediv_of_nonneg hw'.1, Int.tmod_eq_emod_of_nonneg hw'.1, pb_wrap (by omega) (by omega), c_spec_l1Crc k _ _ h0 h1 (by omega) (by omega) (by omega)]
    simp only [Option.bind_some]
    rw [c_spec_l1Crc k _ _ r1.1 r1.2 (by omega) (by omega) (by omega)]
    simp only [Option.bind_some]
    exact ih k (i + 1) (mWord s xs[i]) r2.1 r2.2 (by omega) (by omega)

theorem c_spec_l1Sum (k : Nat) (xs : List Int) (hn : xs.length ≤ 35184372088832) (hx : xs.all isW = true) (hk : xs.length + 10 < k) : spec_l1Sum.f k xs = some (mSum 65535 xs) := by
  unfold spec_l1Sum.f
  have := l_spec_l1Sum xs hn hx xs.length k 0 65535 (by omega) (by omega) (by omega) hk
  simpa using this

theorem l_impl_crc (xs : List Int) (hn : xs.length ≤ 35184372088832) (hx : xs.all isW = true) (d : Nat) : ∀ (k i : Nat) (s : Int), 0 ≤ s → s < 65536 → i + d = xs.length → d + 10 < k →
    impl_crc.l0 k s xs (xs.length : Int) (i : Int) = some (mSum s (xs.drop i)) := by
  induction d with
  | zero =>
    intro k i s h0 h1 hi hk
    obtain ⟨k, rfl⟩ : ∃ m, k = m + 1 := ⟨k - 1, by omega⟩
    simp only [impl_crc.l0]; rw [if_neg (by omega), List.drop_of_length_le (by omega)]; rfl
  | succ d ih =>
    intro k i s h0 h1 hi hk
    obtain ⟨k, rfl⟩ : ∃ m, k = m + 1 := ⟨k - 1, by omega⟩
    have hlt : i < xs.length := by omega
    have hw : isW xs[i] = true := by rw [List.all_eq_true] at hx; exact hx _ (List.getElem_mem hlt)
    have hw' := (isW_iff _).1 hw
    have r1 := mCrc_range s (xs[i] / 256) h1 (by omega)
    have r2 := mWord_range s xs[i] h1 hw
    simp only [impl_crc.l0]; rw [if_pos (by omega), if_pos (by omega), if_pos (by omega), pb_rd xs i hlt, pb_wrap (a := (i : Int) + 1) (by omega) (by omega), List.drop_eq_getElem_cons hlt]
    rw [pb_and255, c_impl_crcByte k _ _ h0 h1 (by omega) (by omega) (by omega)]
    simp only [Option.bind_some]
    rw [c_impl_crcByte k _ _ r1.1 r1.2 (by omega) (by omega) (by omega)]
    simp only [Option.bind_some]
    exact ih k (i + 1) (mWord s xs[i]) r2.1 r2.2 (by omega) (by omega)

theorem c_impl_crc (k : Nat) (xs : List Int) (hn : xs.length ≤ 35184372088832) (hx : xs.all isW = true) (hk : xs.length + 10 < k) : impl_crc.f k xs = some (mSum 65535 xs) := by
  unfold impl_crc.f
  have := l_impl_crc xs hn hx xs.length k 0 65535 (by omega) (by omega) (by omega) hk
  simpa using this

def mCrcWords (l : List Int) : Int × Int := if mWordsFault l = 0 then (0, mSum 65535 l) else (mWordsFault l, 0)

theorem c_spec_CrcWords (k : Nat) (xs : List Int) (hk : 420 ≤ k) : spec_CrcWords.f k xs = some (mCrcWords xs) := by
  unfold spec_CrcWords.f mCrcWords
  rw [c_spec_WordsFault k xs (by omega)]; simp only [Option.bind_some]
  split
  · next h =>
    rw [mWordsFault_ok] at h
    rw [c_spec_l1Sum k xs (by omega) h.2 (by omega)]; rfl
  · rfl

theorem c_impl_CrcWords (k : Nat) (xs : List Int) (hk : 420 ≤ k) : impl_CrcWords.f k xs = some (mCrcWords xs) := by
  unfold impl_CrcWords.f mCrcWords
  rw [c_impl_WordsFault k xs (by omega)]; simp only [Option.bind_some]
  split
  · next h =>
    rw [mWordsFault_ok] at h
    rw [c_impl_crc k xs (by omega) h.2 (by omega)]; rfl
  · rfl

def mBlk (l : List Int) (j : Nat) : List Int := (l.drop (8 * j)).take 8

def mNb (l : List Int) : Nat := (l.length + 7) / 8

def mBlocks (l : List Int) : List (List Int) := (List.range (mNb l)).map (mBlk l)

def mBSums (l : List Int) : List Int := (List.range (mNb l)).map (fun j => mSum 65535 (mBlk l j))

theorem mBSums_len (l : List Int) : (mBSums l).length = mNb l := by simp [mBSums]

theorem mBlk_words (l : List Int) (h : l.all isW = true) (j : Nat) : (mBlk l j).all isW = true := by
  rw [List.all_eq_true] at h ⊢
  intro x hx
  exact h x (List.mem_of_mem_drop (List.mem_of_mem_take hx))

theorem mBlk_len (l : List Int) (j : Nat) : (mBlk l j).length ≤ 8 := by unfold mBlk; exact List.length_take_le _ _

theorem pb_slice (l : List Int) (j : Nat) (t : Nat) (ht : t = min (8 * j + 8) l.length) : (l.take t).drop (8 * j) = mBlk l j := by
  unfold mBlk
  rw [List.drop_take, List.take_eq_take_iff]
  rw [List.length_drop]; omega

def mBlockSums (l : List Int) : Int × List Int := if mWordsFault l = 0 then (0, mBSums l) else (mWordsFault l, [])

theorem l_impl_blocks (l : List Int) (hn : l.length ≤ 400) (d : Nat) : ∀ (k j : Nat) (acc : List (List Int)), j + d = mNb l → d < k → acc = (List.range j).map (mBlk l) →
    impl_blocks.l0 k l acc ((8 * j : Nat) : Int) = some (mBlocks l) := by
  induction d with
  | zero =>
    intro k j acc hj hk ha
    obtain ⟨k, rfl⟩ : ∃ m, k = m + 1 := ⟨k - 1, by omega⟩
    have hb : mNb l = (l.length + 7) / 8 := rfl
    simp only [impl_blocks.l0]; rw [if_neg (by omega), ha]; unfold mBlocks; rw [← hj]; rfl
  | succ d ih =>
    intro k j acc hj hk ha
    obtain ⟨k, rfl⟩ : ∃ m, k = m + 1 := ⟨k - 1, by omega⟩
    have hb : mNb l = (l.length + 7) / 8 := rfl
    have hlen : acc.length = j := by rw [ha]; simp
    simp only [impl_blocks.l0]
    rw [pb_wrap (by omega) (by omega), show mn (((8 * j : Nat) : Int) + 8) (l.length : Int) = ((min (8 * j + 8) l.length : Nat) : Int) by unfold mn; omega]
    rw [if_pos (by omega), if_pos (by omega), if_pos (by omega), if_pos (by omega), if_pos (by omega), Int.toNat_natCast, Int.toNat_natCast, pb_slice l j _ rfl]
    rw [show (((8 * j : Nat) : Int) + 8) = ((8 * (j + 1) : Nat) : Int) by omega]
    exact ih k (j + 1) _ (by omega) (by omega) (by rw [ha, List.range_succ]; simp)

theorem c_impl_blocks (k : Nat) (l : List Int) (hn : l.length ≤ 400) (hk : 100 ≤ k) : impl_blocks.f k l = some (mBlocks l) := by
  unfold impl_blocks.f
  have hb : mNb l = (l.length + 7) / 8 := rfl
  exact l_impl_blocks l hn (mNb l) k 0 [] (by omega) (by omega) rfl

theorem l_impl_blockSums (ls : List (List Int)) (hn : ls.length ≤ 400) (hs : ∀ l ∈ ls, l.length ≤ 8 ∧ l.all isW = true) (d : Nat) : ∀ (k i : Nat) (acc : List Int), i + d = ls.length → d + 20 < k → acc.length = i →
    impl_blockSums.l0 k acc ls (ls.length : Int) (i : Int) = some (acc ++ (ls.drop i).map (mSum 65535)) := by
  induction d with
  | zero =>
    intro k i acc hi hk ha
    obtain ⟨k, rfl⟩ : ∃ m, k = m + 1 := ⟨k - 1, by omega⟩
    simp only [impl_blockSums.l0]; rw [if_neg (by omega), List.drop_of_length_le (by omega)]; simp
  | succ d ih =>
    intro k i acc hi hk ha
    obtain ⟨k, rfl⟩ : ∃ m, k = m + 1 := ⟨k - 1, by omega⟩
    have hlt : i < ls.length := by omega
    have hx := hs ls[i] (List.getElem_mem hlt)
    have e : rd_L1 ls (i : Int) = ls[i] := by unfold rd_L1; simp [List.getD_eq_getElem?_getD, hlt]
    simp only [impl_blockSums.l0]
    rw [if_pos (by omega), if_pos (by omega), if_pos (by omega), e, c_impl_crc k _ (by omega) hx.2 (by omega), pb_wrap (by omega) (by omega), List.drop_eq_getElem_cons hlt]
    simp only [Option.bind_some]
    rw [if_pos (by omega), show ((i : Int) + 1) = ((i + 1 : Nat) : Int) by omega, ih k (i + 1) _ (by omega) (by omega) (by simp; omega)]
    simp only [List.map_cons, List.append_assoc, List.singleton_append]

theorem c_impl_blockSums (k : Nat) (l : List Int) (hn : l.length ≤ 400) (hw : l.all isW = true) (hk : 500 ≤ k) : impl_blockSums.f k l = some (mBSums l) := by
  unfold impl_blockSums.f
  rw [c_impl_blocks k l hn (by omega)]; simp only [Option.bind_some]
  have hb : mNb l = (l.length + 7) / 8 := rfl
  have hl : (mBlocks l).length = mNb l := by simp [mBlocks]
  have hs : ∀ x ∈ mBlocks l, x.length ≤ 8 ∧ x.all isW = true := by
    intro x hx; unfold mBlocks at hx; rw [List.mem_map] at hx; obtain ⟨j, _, rfl⟩ := hx
    exact ⟨mBlk_len l j, mBlk_words l hw j⟩
  have := l_impl_blockSums (mBlocks l) (by omega) hs (mBlocks l).length k 0 [] (by omega) (by omega) rfl
  rw [show ((0 : Nat) : Int) = 0 from rfl] at this
  rw [this]; congr 1; unfold mBlocks mBSums; simp

theorem c_impl_BlockSums (k : Nat) (l : List Int) (hk : 500 ≤ k) : impl_BlockSums.f k l = some (mBlockSums l) := by
  unfold impl_BlockSums.f mBlockSums
  rw [c_impl_WordsFault k l (by omega)]; simp only [Option.bind_some]
  split
  · next h => rw [mWordsFault_ok] at h; rw [c_impl_blockSums k l h.1 h.2 (by omega)]; rfl
  · rfl

def mDiff (i : Nat) : List Int → List Int → Int × Int
  | a :: u, b :: v => if a = b then mDiff (i + 1) u v else (0, (i : Int))
  | _, _ => (4, 0)

theorem l_impl_BadBlock1 (xs ys : List Int) (hn : xs.length ≤ 400) (hl : xs.length = ys.length) (d : Nat) : ∀ (k i : Nat), i + d = xs.length → d < k →
    impl_BadBlock.l1 k ys xs (xs.length : Int) (i : Int) = some (mDiff i (xs.drop i) (ys.drop i)) := by
  induction d with
  | zero =>
    intro k i hi hk
    obtain ⟨k, rfl⟩ : ∃ m, k = m + 1 := ⟨k - 1, by omega⟩
    simp only [impl_BadBlock.l1]; rw [if_neg (by omega), List.drop_of_length_le (by omega)]; rfl
  | succ d ih =>
    intro k i hi hk
    obtain ⟨k, rfl⟩ : ∃ m, k = m + 1 := ⟨k - 1, by omega⟩
    have hx : i < xs.length := by omega
    have hy : i < ys.length := by omega
    simp only [impl_BadBlock.l1]
    rw [if_pos (by omega), if_pos (by omega), if_pos (by omega), if_pos (by omega), pb_rd xs i hx, pb_rd ys i hy, pb_wrap (by omega) (by omega), List.drop_eq_getElem_cons hx, List.drop_eq_getElem_cons hy]
    simp only [mDiff]
    split
    · exact ih k (i + 1) (by omega) (by omega)
    · rfl

def mBadBlock (l s : List Int) : Int × Int :=
  if mWordsFault l = 0 then (if mWordsFault s = 0 then (if (mBSums l).length = s.length then mDiff 0 (mBSums l) s else (1, 0)) else (mWordsFault s, 0)) else (mWordsFault l, 0)

theorem c_impl_BadBlock (k : Nat) (l s : List Int) (hk : 510 ≤ k) : impl_BadBlock.f k l s = some (mBadBlock l s) := by
  obtain ⟨k, rfl⟩ : ∃ m, k = m + 3 := ⟨k - 3, by omega⟩
  unfold impl_BadBlock.f mBadBlock
  simp only [Option.bind_some, impl_BadBlock.l0, List.length_cons, List.length_nil]
  have r0 : rd_L1 [l, s] 0 = l := rfl
  have r1 : rd_L1 [l, s] 1 = s := rfl
  have w0 : wrap64 (0 + 1) = 1 := by decide +kernel
  have w1 : wrap64 (1 + 1) = 2 := by decide +kernel
  rw [if_pos (by decide), if_pos (by decide), if_pos (by decide), r0, c_impl_WordsFault _ l (by omega), w0]
  simp only [Option.bind_some]
  split
  · next h =>
    rw [mWordsFault_ok] at h
    have hb : mNb l = (l.length + 7) / 8 := rfl
    have hl := mBSums_len l
    rw [if_pos (by decide), if_pos (by decide), if_pos (by decide), r1, c_impl_WordsFault _ s (by omega), w1]
    simp only [Option.bind_some]
    split
    · rw [if_neg (by decide), c_impl_blockSums k l h.1 h.2 (by omega)]
      simp only [Option.bind_some]
      by_cases e : (mBSums l).length = s.length
      · rw [if_pos (by omega), if_pos e]
        have := l_impl_BadBlock1 (mBSums l) s (by omega) e (mBSums l).length k 0 (by omega) (by omega)
        simpa using this
      · rw [if_neg (by omega), if_neg e]
    · rfl
  · rfl

def bytesL (l : List Int) : Prop := ∀ x ∈ l, 0 ≤ x ∧ x ≤ 255

theorem bytesL_wf (l : List Int) (h : ∀ x ∈ l, (Lit.int .u8 x).wf = true) : bytesL l := by
  intro x hx
  have := h x hx
  simpa [Lit.wf, IntKind.min, IntKind.max, IntKind.signed, IntKind.bits] using this

theorem bytesL_rd (l : List Int) (h : bytesL l) (i : Int) : 0 ≤ rd l i ∧ rd l i ≤ 255 := by
  unfold rd
  by_cases hi : i.toNat < l.length
  · rw [List.getD_eq_getElem?_getD, List.getElem?_eq_getElem hi]
    exact h _ (List.getElem_mem hi)
  · rw [List.getD_eq_getElem?_getD, List.getElem?_eq_none (by omega)]; simp

theorem pb_tmod (a n : Int) (h0 : 0 ≤ a) (hn : 1 ≤ n) : 0 ≤ Int.tmod a n ∧ Int.tmod a n < n ∧ Int.tmod a n ≤ a := by
  rw [Int.tmod_eq_emod_of_nonneg h0]
  have h2 := Int.mul_ediv_add_emod a n
  have h3 := Int.mul_nonneg (show 0 ≤ n by omega) (Int.ediv_nonneg h0 (show 0 ≤ n by omega))
  exact ⟨Int.emod_nonneg _ (by omega), Int.emod_lt_of_pos _ (by omega), by omega⟩

theorem pb_tdiv (a n : Int) (h0 : 0 ≤ a) (hn : 1 ≤ n) : 0 ≤ Int.tdiv a n ∧ Int.tdiv a n ≤ a := by
  rw [Int.tdiv_eq_ediv_of_nonneg h0]
  exact ⟨Int.ediv_nonneg h0 (by omega), Int.ediv_le_self _ h0⟩

theorem d_l1Next (l : List Int) (hl : bytesL l) (at' n : Int) (h0 : 0 ≤ at') (h1 : at' ≤ 1000000000000) :
    ∃ v, spec_l1Next.f l at' n = some (v, at' + 1) ∧ 0 ≤ v ∧ (1 ≤ n → v < n) := by
  unfold spec_l1Next.f
  rw [pb_wrap (a := at' + 1) (by omega) (by omega), show at' + 1 - 1 = at' by omega, pb_wrap (a := at') (by omega) (by omega)]
  by_cases hn : n < 1
  · rw [if_pos hn]; exact ⟨0, rfl, by omega, fun h => by omega⟩
  rw [if_neg hn]
  by_cases hz : (l.length : Int) = 0
  · rw [if_pos hz, if_neg (by omega), pb_wrap (by omega) (by omega)]
    have := pb_tmod (at' * 7) n (by omega) (by omega)
    exact ⟨_, rfl, this.1, fun _ => this.2.1⟩
  rw [if_neg hz]
  have hi := pb_tmod at' (l.length : Int) h0 (by omega)
  have hq := pb_tdiv at' (l.length : Int) h0 (by omega)
  have hc := bytesL_rd l hl (Int.tmod at' (l.length : Int))
  have hj := pb_tmod (at' + 1) (l.length : Int) (by omega) (by omega)
  have hd := bytesL_rd l hl (Int.tmod (at' + 1) (l.length : Int))
  rw [pb_wrap (a := at' + 1) (by omega) (by omega)]
  generalize rd l (Int.tmod at' (l.length : Int)) = c at hc ⊢
  generalize rd l (Int.tmod (at' + 1) (l.length : Int)) = d at hd ⊢
  generalize Int.tdiv at' (l.length : Int) = q at hq ⊢
  rw [if_pos hi.1, if_pos hi.2.1]
  rw [pb_wrap (a := c) (by omega) (by omega), pb_wrap (a := q) (by omega) (by omega), pb_wrap (a := q * 37) (by omega) (by omega), pb_wrap (a := c + q * 37) (by omega) (by omega)]
  by_cases h2 : n > 200
  · rw [if_pos h2, if_pos hj.1, if_pos hj.2.1, if_neg (by omega), pb_wrap (a := (c + q * 37) * 251) (by omega) (by omega), pb_wrap (a := d) (by omega) (by omega), pb_wrap (a := d * 13) (by omega) (by omega), pb_wrap (a := (c + q * 37) * 251 + d * 13) (by omega) (by omega), pb_wrap (by omega) (by omega)]
    have := pb_tmod ((c + q * 37) * 251 + d * 13 + at') n (by omega) (by omega)
    exact ⟨_, rfl, this.1, fun _ => this.2.1⟩
  · rw [if_neg h2, if_neg (by omega)]
    have := pb_tmod (c + q * 37) n (by omega) (by omega)
    exact ⟨_, rfl, this.1, fun _ => this.2.1⟩

theorem d_l1Pick (l : List Int) (hl : bytesL l) (at' : Int) (xs : List Int) (h0 : 0 ≤ at') (h1 : at' ≤ 1000000000000) (hx : 1 ≤ xs.length) :
    ∃ v, spec_l1Pick.f l at' xs = some (v, at' + 1) ∧ v ∈ xs := by
  unfold spec_l1Pick.f
  obtain ⟨v, hv, hv0, hv1⟩ := d_l1Next l hl at' (xs.length : Int) h0 h1
  have hv2 := hv1 (by omega)
  rw [hv]; simp only [Option.bind_some]
  rw [if_pos hv0, if_pos hv2]
  refine ⟨_, rfl, ?_⟩
  unfold rd
  rw [List.getD_eq_getElem?_getD, List.getElem?_eq_getElem (by omega)]
  exact List.getElem_mem _

theorem d_l1DrawWord (l : List Int) (hl : bytesL l) (at' : Int) (h0 : 0 ≤ at') (h1 : at' ≤ 100000000000) :
    ∃ v, spec_l1DrawWord.f l at' = some (v, at' + 4) := by
  unfold spec_l1DrawWord.f
  obtain ⟨v1, e1, _, _⟩ := d_l1Next l hl at' 90 h0 (by omega)
  rw [e1]; simp only [Option.bind_some]
  obtain ⟨v2, e2, _, _⟩ := d_l1Next l hl (at' + 1) 256 (by omega) (by omega)
  rw [e2]; simp only [Option.bind_some]
  obtain ⟨v3, e3, _, _⟩ := d_l1Next l hl (at' + 1 + 1) 9 (by omega) (by omega)
  rw [e3]; simp only [Option.bind_some]
  obtain ⟨v4, e4, _⟩ := d_l1Pick l hl (at' + 1 + 1 + 1) ([v1, wrap64 (v2 * 257), wrap64 (65535 - v3), 32768, 32767, 0] : List Int) (by omega) (by omega) (by simp)
  rw [e4]; simp only [Option.bind_some]
  exact ⟨v4, by rw [show at' + 1 + 1 + 1 + 1 = at' + 4 by omega]⟩

theorem c_laws_lwBig (l : List Int) : laws_lwBig.f l = some (decide ((l.length : Int) > 1048576)) := rfl

theorem dl_l1Words (l : List Int) (hl : bytesL l) (d : Nat) : ∀ (k : Nat) (acc : List Int) (m at' : Int), 0 ≤ at' → at' + 4 * m ≤ 1000000000 → m ≤ d → 0 ≤ m → d + 1 < k → acc.length + d ≤ 1000000 →
    ∃ ws a2, spec_l1Words.l0 k acc m l at' = some (ws, a2) := by
  induction d with
  | zero =>
    intro k acc m at' h0 h1 hm hm0 hk ha
    obtain ⟨k, rfl⟩ : ∃ m, k = m + 1 := ⟨k - 1, by omega⟩
    simp only [spec_l1Words.l0]; rw [if_neg (by omega)]
    obtain ⟨v1, e1, p1, q1⟩ := d_l1Next l hl at' 14 h0 (by omega)
    rw [e1]; simp only [Option.bind_some]
    split
    · split
      · next h =>
        obtain ⟨v2, e2, p2, q2⟩ := d_l1Next l hl (at' + 1) (acc.length : Int) (by omega) (by omega)
        rw [e2]; simp only [Option.bind_some]
        obtain ⟨v3, e3, _⟩ := d_l1Pick l hl (at' + 1 + 1) ([(-1), 65536] : List Int) (by omega) (by omega) (by simp)
        rw [e3]; simp only [Option.bind_some]
        rw [if_pos p2, if_pos (q2 (by omega))]; exact ⟨_, _, rfl⟩
      · exact ⟨_, _, rfl⟩
    · split
      · rw [if_pos (by decide)]; exact ⟨_, _, rfl⟩
      · exact ⟨_, _, rfl⟩
  | succ d ih =>
    intro k acc m at' h0 h1 hm hm0 hk ha
    obtain ⟨k, rfl⟩ : ∃ m, k = m + 1 := ⟨k - 1, by omega⟩
    by_cases hz : m > 0
    · simp only [spec_l1Words.l0]; rw [if_pos hz]
      obtain ⟨v, e⟩ := d_l1DrawWord l hl at' h0 (by omega)
      rw [e]; simp only [Option.bind_some]
      rw [if_pos (by omega), pb_wrap (by omega) (by omega)]
      exact ih k (acc ++ [v]) (m - 1) (at' + 4) (by omega) (by omega) (by omega) (by omega) (by omega) (by simp; omega)
    · exact ih (k + 1) acc m at' h0 h1 (by omega) hm0 (by omega) (by omega)

theorem d_l1Words (l : List Int) (hl : bytesL l) (k : Nat) (hk : 500 ≤ k) (at' : Int) (h0 : 0 ≤ at') (h1 : at' ≤ 100000000) : ∃ ws a2, spec_l1Words.f k l at' = some (ws, a2) := by
  unfold spec_l1Words.f
  obtain ⟨v1, e1, p1, q1⟩ := d_l1Next l hl at' 9 h0 (by omega)
  rw [e1]; simp only [Option.bind_some]
  obtain ⟨v2, e2, p2, q2⟩ := d_l1Next l hl (at' + 1) 30 (by omega) (by omega)
  rw [e2]; simp only [Option.bind_some]
  obtain ⟨v3, e3, m3⟩ := d_l1Pick l hl (at' + 1 + 1) ([v1, v2, 400] : List Int) (by omega) (by omega) (by simp)
  rw [e3]; simp only [Option.bind_some]
  have := q1 (by omega)
  have := q2 (by omega)
  have hb : 0 ≤ v3 ∧ v3 ≤ 400 := by
    simp only [List.mem_cons, List.not_mem_nil, or_false] at m3
    rcases m3 with rfl | rfl | rfl <;> omega
  exact dl_l1Words l hl 400 k [] v3 _ (by omega) (by omega) (by omega) (by omega) (by omega) (by simp)

theorem d_DrawBlockSums (l : List Int) (hl : bytesL l) (k : Nat) (hk : 500 ≤ k) : ∃ ws, spec_DrawBlockSums.f k l = some ws := by
  unfold spec_DrawBlockSums.f spec_l1Source.f
  simp only [Option.bind_some]
  obtain ⟨ws, a2, e⟩ := d_l1Words l hl k hk 0 (by omega) (by omega)
  rw [e]; exact ⟨ws, rfl⟩

theorem pb_xor_lt (a b : Nat) (ha : a < 65536) (hb : b < 65536) : a ^^^ b < 65536 := Nat.xor_lt_two_pow (n := 16) (by omega) (by omega)

theorem pb_top (x : Nat) (hx : x < 65536) : x.testBit 15 = decide (32768 ≤ x) := by
  rw [Nat.testBit_eq_decide_div_mod_eq]
  congr 1; apply propext; constructor <;> intro h <;> omega

theorem nStep_alt (x : Nat) (hx : x < 65536) : nStep x = (x * 2 % 65536) ^^^ (if x.testBit 15 then 4129 else 0) := by
  unfold nStep; rw [pb_top x hx]
  by_cases h : 32768 ≤ x <;> simp [h]

theorem pb_dbl_xor (a b : Nat) : ((a ^^^ b) * 2 % 65536) = (a * 2 % 65536) ^^^ (b * 2 % 65536) := by
  rw [show (65536 : Nat) = 2 ^ 16 from rfl, ← Nat.xor_mod_two_pow]
  congr 1
  have := Nat.shiftLeft_xor_distrib (a := a) (b := b) (i := 1)
  simpa [Nat.shiftLeft_eq] using this

theorem nStep_xor (a b : Nat) (ha : a < 65536) (hb : b < 65536) : nStep (a ^^^ b) = nStep a ^^^ nStep b := by
  rw [nStep_alt a ha, nStep_alt b hb, nStep_alt _ (pb_xor_lt a b ha hb), pb_dbl_xor, Nat.testBit_xor]
  apply Nat.eq_of_testBit_eq; intro i
  simp only [Nat.testBit_xor]
  cases a.testBit 15 <;> cases b.testBit 15 <;> simp [Bool.xor_assoc, Bool.xor_comm, Bool.xor_left_comm]

theorem nIter_xor (n : Nat) : ∀ (a b : Nat), a < 65536 → b < 65536 → nIter n (a ^^^ b) = nIter n a ^^^ nIter n b := by
  induction n with
  | zero => intro a b _ _; rfl
  | succ n ih => intro a b ha hb; simp only [nIter]; rw [nStep_xor a b ha hb, ih _ _ (nStep_lt a) (nStep_lt b)]

theorem pb_xor_zero (a b : Nat) (h : a ^^^ b = 0) : a = b := by
  have := congrArg (· ^^^ b) h
  simpa [Nat.xor_assoc, Nat.xor_self] using this

theorem nStep_zero (x : Nat) (hx : x < 65536) (h : nStep x = 0) : x = 0 := by
  unfold nStep at h
  split at h
  · have h1 : x * 2 % 65536 = 4129 := pb_xor_zero _ _ h
    omega
  · omega

theorem nIter_zero (n : Nat) : ∀ (x : Nat), x < 65536 → nIter n x = 0 → x = 0 := by
  induction n with
  | zero => intro x _ h; exact h
  | succ n ih => intro x hx h; exact nStep_zero x hx (ih _ (nStep_lt x) h)

theorem nIter_inj (n a b : Nat) (ha : a < 65536) (hb : b < 65536) (h : nIter n a = nIter n b) : a = b := by
  have h1 : nIter n (a ^^^ b) = 0 := by rw [nIter_xor n a b ha hb, h, Nat.xor_self]
  exact pb_xor_zero _ _ (nIter_zero n _ (pb_xor_lt a b ha hb) h1)

theorem nIter_add (n m x : Nat) : nIter (n + m) x = nIter m (nIter n x) := by
  induction n generalizing x with
  | zero => simp [nIter]
  | succ n ih => rw [show n + 1 + m = (n + m) + 1 by omega]; simp only [nIter]; exact ih _

theorem nIter_low (n : Nat) : ∀ (m x : Nat), n + m = 8 → x < 2 ^ (8 + m) → nIter n x = x * 2 ^ n := by
  induction n with
  | zero => intro m x _ _; simp [nIter]
  | succ n ih =>
    intro m x hm hx
    have hp : 2 ^ (8 + m) ≤ 2 ^ 15 := Nat.pow_le_pow_right (by decide) (by omega)
    have hs : nStep x = x * 2 := by unfold nStep; rw [if_neg (by omega)]; omega
    simp only [nIter]; rw [hs, ih (m + 1) (x * 2) (by omega) (by rw [show 8 + (m + 1) = (8 + m) + 1 by omega, Nat.pow_succ]; omega), Nat.pow_succ]
    rw [Nat.mul_assoc, Nat.mul_comm 2]

theorem nIter_low8 (x : Nat) (hx : x < 256) : nIter 8 x = 256 * x := by
  rw [nIter_low 8 0 x (by omega) (by omega)]; omega

theorem pb_split (s : Nat) (hs : s < 65536) : s = (256 * (s / 256)) ^^^ (s % 256) := by
  have h := Nat.two_pow_add_eq_or_of_lt (i := 8) (b := s % 256) (by omega) (s / 256)
  have h2 : (256 * (s / 256)) ||| (s % 256) = (256 * (s / 256)) ^^^ (s % 256) := by
    apply Nat.eq_of_testBit_eq; intro i
    rw [Nat.testBit_or, Nat.testBit_xor]
    have e : (256 * (s / 256)).testBit i = (decide (8 ≤ i) && (s / 256).testBit (i - 8)) := by
      rw [show 256 * (s / 256) = (s / 256) <<< 8 by rw [Nat.shiftLeft_eq]; omega, Nat.testBit_shiftLeft]
    rw [e]
    by_cases hi : 8 ≤ i
    · have : (s % 256).testBit i = false := Nat.testBit_lt_two_pow (Nat.lt_of_lt_of_le (show s % 256 < 2 ^ 8 by omega) (Nat.pow_le_pow_right (by decide) hi))
      rw [this]; simp
    · simp [hi]
  have h3 : 256 * (s / 256) + s % 256 = (256 * (s / 256)) ||| (s % 256) := h
  rw [← h2, ← h3]; omega

theorem mCrc_nat (s b : Nat) : mCrc (s : Int) (b : Int) = ((nIter 8 (s ^^^ (256 * b)) : Nat) : Int) := rfl

theorem mWord_nat (s w : Nat) (hs : s < 65536) (hw : w < 65536) : mWord (s : Int) (w : Int) = ((nIter 16 (s ^^^ w) : Nat) : Int) := by
  have e1 : (w : Int) / 256 = ((w / 256 : Nat) : Int) := by omega
  have e2 : (w : Int) % 256 = ((w % 256 : Nat) : Int) := by omega
  have hx : s ^^^ w = (s ^^^ (256 * (w / 256))) ^^^ (w % 256) := by
    conv => lhs; rw [pb_split w hw]
    rw [Nat.xor_assoc]
  have h1 := nIter_xor 8 (s ^^^ (256 * (w / 256))) (w % 256) (pb_xor_lt _ _ hs (by omega)) (by omega)
  have h2 := nIter_low8 (w % 256) (by omega)
  have h3 := nIter_add 8 8 (s ^^^ w)
  have h4 : mWord (s : Int) (w : Int) = mCrc (mCrc (s : Int) ((w : Int) / 256)) ((w : Int) % 256) := rfl
  rw [h4, e1, e2, mCrc_nat, mCrc_nat, ← h2, ← h1, ← hx]
  exact congrArg Nat.cast h3.symm

theorem mWord_inj (s w s' w' : Int) (h0 : 0 ≤ s) (h1 : s < 65536) (hw0 : 0 ≤ w) (hw1 : w < 65536) (h0' : 0 ≤ s') (h1' : s' < 65536) (hw0' : 0 ≤ w') (hw1' : w' < 65536) (h : mWord s w = mWord s' w') : s.toNat ^^^ w.toNat = s'.toNat ^^^ w'.toNat := by
  obtain ⟨s, rfl⟩ := Int.eq_ofNat_of_zero_le h0
  obtain ⟨w, rfl⟩ := Int.eq_ofNat_of_zero_le hw0
  obtain ⟨s', rfl⟩ := Int.eq_ofNat_of_zero_le h0'
  obtain ⟨w', rfl⟩ := Int.eq_ofNat_of_zero_le hw0'
  rw [mWord_nat _ _ (by omega) (by omega), mWord_nat _ _ (by omega) (by omega)] at h
  exact nIter_inj 16 _ _ (pb_xor_lt _ _ (by omega) (by omega)) (pb_xor_lt _ _ (by omega) (by omega)) (by exact_mod_cast h)

theorem mSum_inj (l : List Int) : ∀ (s s' : Int), 0 ≤ s → s < 65536 → 0 ≤ s' → s' < 65536 → l.all isW = true → mSum s l = mSum s' l → s = s' := by
  induction l with
  | nil => intro s s' _ _ _ _ _ h; exact h
  | cons w l ih =>
    intro s s' h0 h1 h0' h1' hl h
    rw [List.all_cons, Bool.and_eq_true] at hl
    have hw := (isW_iff w).1 hl.1
    have r := mWord_range s w h1 hl.1
    have r' := mWord_range s' w h1' hl.1
    have e := ih _ _ r.1 r.2 r'.1 r'.2 hl.2 h
    have e2 := mWord_inj s w s' w h0 h1 hw.1 hw.2 h0' h1' hw.1 hw.2 e
    have e3 : s.toNat = s'.toNat := by
      have := congrArg (· ^^^ w.toNat) e2
      simpa [Nat.xor_assoc, Nat.xor_self] using this
    omega

theorem mSum_app (s : Int) (l m : List Int) : mSum s (l ++ m) = mSum (mSum s l) m := by unfold mSum; rw [List.foldl_append]

theorem mSum_turn (p q : List Int) (c c' : Int) (s : Int) (h0 : 0 ≤ s) (h1 : s < 65536) (hp : p.all isW = true) (hq : q.all isW = true) (hc : isW c = true) (hc' : isW c' = true) (hne : c ≠ c') :
    mSum s (p ++ c :: q) ≠ mSum s (p ++ c' :: q) := by
  intro h
  rw [mSum_app, mSum_app] at h
  have r := mSum_range p s h0 h1 hp
  have hw := (isW_iff c).1 hc
  have hw' := (isW_iff c').1 hc'
  have r1 := mWord_range (mSum s p) c r.2 hc
  have r2 := mWord_range (mSum s p) c' r.2 hc'
  have e := mSum_inj q _ _ r1.1 r1.2 r2.1 r2.2 hq h
  have e2 := mWord_inj _ _ _ _ r.1 r.2 hw.1 hw.2 r.1 r.2 hw'.1 hw'.2 e
  have e3 : c.toNat = c'.toNat := by
    have := congrArg ((mSum s p).toNat ^^^ ·) e2
    simpa [← Nat.xor_assoc, Nat.xor_self] using this
  omega

theorem d_laws_lwAt (l : List Int) (hl : bytesL l) (i n : Int) (h0 : 0 ≤ i) (h1 : i ≤ 1000000) (hn : 1 ≤ n) : ∃ v, laws_lwAt.f l i n = some v ∧ 0 ≤ v ∧ v < n := by
  unfold laws_lwAt.f
  by_cases h2 : n ≤ 1
  · rw [if_pos h2]; exact ⟨0, rfl, by omega, by omega⟩
  rw [if_neg h2]
  by_cases hz : (l.length : Int) = 0
  · rw [if_pos hz, if_neg (by omega), pb_wrap (by omega) (by omega)]
    have := pb_tmod (i * 7) n (by omega) (by omega)
    exact ⟨_, rfl, this.1, this.2.1⟩
  rw [if_neg hz]
  have hi := pb_tmod i (l.length : Int) h0 (by omega)
  have hq := pb_tdiv i (l.length : Int) h0 (by omega)
  have hc := bytesL_rd l hl (Int.tmod i (l.length : Int))
  have hj := pb_tmod (i + 1) (l.length : Int) (by omega) (by omega)
  have hd := bytesL_rd l hl (Int.tmod (i + 1) (l.length : Int))
  rw [pb_wrap (a := i + 1) (by omega) (by omega)]
  generalize rd l (Int.tmod i (l.length : Int)) = c at hc ⊢
  generalize rd l (Int.tmod (i + 1) (l.length : Int)) = d at hd ⊢
  generalize Int.tdiv i (l.length : Int) = q at hq ⊢
  rw [if_pos hi.1, if_pos hi.2.1]
  rw [pb_wrap (a := c) (by omega) (by omega), pb_wrap (a := q) (by omega) (by omega), pb_wrap (a := q * 3) (by omega) (by omega), pb_wrap (a := c + q * 3) (by omega) (by omega)]
  by_cases h3 : n > 200
  · rw [if_pos h3, if_pos hj.1, if_pos hj.2.1, if_neg (by omega), pb_wrap (a := (c + q * 3) * 251) (by omega) (by omega), pb_wrap (a := d) (by omega) (by omega), pb_wrap (by omega) (by omega)]
    have := pb_tmod ((c + q * 3) * 251 + d) n (by omega) (by omega)
    exact ⟨_, rfl, this.1, this.2.1⟩
  · rw [if_neg h3, if_neg (by omega)]
    have := pb_tmod (c + q * 3) n (by omega) (by omega)
    exact ⟨_, rfl, this.1, this.2.1⟩

theorem mDiff_self (xs : List Int) : ∀ i, mDiff i xs xs = (4, 0) := by
  induction xs with
  | nil => intro i; rfl
  | cons x xs ih => intro i; simp only [mDiff, if_true]; exact ih _

theorem mDiff_at (n : Nat) : ∀ (i : Nat) (xs ys : List Int), xs.length = ys.length → (∀ m, m < n → xs[m]? = ys[m]?) → n < xs.length → xs[n]? ≠ ys[n]? → mDiff i xs ys = (0, ((i + n : Nat) : Int)) := by
  induction n with
  | zero =>
    intro i xs ys hl _ hn hne
    cases xs with
    | nil => simp at hn
    | cons a u => cases ys with
      | nil => simp at hl
      | cons b v =>
        simp only [mDiff]; rw [if_neg (by simpa using hne)]; rfl
  | succ n ih =>
    intro i xs ys hl hm hn hne
    cases xs with
    | nil => simp at hn
    | cons a u => cases ys with
      | nil => simp at hl
      | cons b v =>
        have h0 := hm 0 (by omega)
        simp only [List.getElem?_cons_zero, Option.some.injEq] at h0
        simp only [mDiff]; rw [if_pos h0]
        rw [ih (i + 1) u v (by simpa using hl) (fun m h => by have := hm (m + 1) (by omega); simpa using this) (by simpa using hn) (by simpa using hne)]
        congr 2; omega

theorem mBlk_set (l : List Int) (t j : Nat) (c : Int) : mBlk (l.set t c) j = if 8 * j ≤ t ∧ t < 8 * j + 8 then (mBlk l j).set (t - 8 * j) c else mBlk l j := by
  unfold mBlk
  rw [List.drop_set]
  by_cases h1 : t < 8 * j
  · rw [if_pos h1, if_neg (by omega)]
  · rw [if_neg h1, List.take_set]
    by_cases h2 : t < 8 * j + 8
    · rw [if_pos (by omega)]
    · rw [if_neg (by omega), List.set_eq_of_length_le]
      have := List.length_take_le 8 (l.drop (8 * j)); omega

theorem mSum_set (l : List Int) (s : Int) (t : Nat) (c : Int) (ht : t < l.length) (h0 : 0 ≤ s) (h1 : s < 65536) (hl : l.all isW = true) (hc : isW c = true) (hne : l[t] ≠ c) : mSum s l ≠ mSum s (l.set t c) := by
  rw [List.set_eq_take_append_cons_drop, if_pos ht]
  have e : l = l.take t ++ l[t] :: l.drop (t + 1) := by rw [List.getElem_cons_drop, List.take_append_drop]
  have hall : ∀ x ∈ l, isW x = true := by rw [List.all_eq_true] at hl; exact hl
  have hp : (l.take t).all isW = true := by rw [List.all_eq_true]; intro x hx; exact hall x (List.mem_of_mem_take hx)
  have hq : (l.drop (t + 1)).all isW = true := by rw [List.all_eq_true]; intro x hx; exact hall x (List.mem_of_mem_drop hx)
  have := mSum_turn (l.take t) (l.drop (t + 1)) l[t] c s h0 h1 hp hq (hall _ (List.getElem_mem ht)) hc hne
  rw [← e] at this; exact this

theorem isW_set (l : List Int) (t : Nat) (c : Int) (hl : l.all isW = true) (hc : isW c = true) : (l.set t c).all isW = true := by
  rw [List.all_eq_true] at hl ⊢
  intro x hx
  rcases List.mem_or_eq_of_mem_set hx with h | h
  · exact hl x h
  · rw [h]; exact hc

theorem mBSums_get (l : List Int) (j : Nat) (h : j < mNb l) : (mBSums l)[j]? = some (mSum 65535 (mBlk l j)) := by
  unfold mBSums; simp [h]

theorem mBSums_words (l : List Int) (hl : l.all isW = true) : (mBSums l).all isW = true := by
  rw [List.all_eq_true]
  intro x hx
  unfold mBSums at hx
  rw [List.mem_map] at hx
  obtain ⟨j, _, rfl⟩ := hx
  have := mSum_range (mBlk l j) 65535 (by omega) (by omega) (mBlk_words l hl j)
  rw [isW_iff]; exact this

theorem mBad_turn (l : List Int) (t : Nat) (c : Int) (ht : t < l.length) (hn : l.length ≤ 400) (hl : l.all isW = true) (hc : isW c = true) (hne : l[t] ≠ c) : mBadBlock (l.set t c) (mBSums l) = (0, ((t / 8 : Nat) : Int)) := by
  have hb : mNb l = (l.length + 7) / 8 := rfl
  have hb' : mNb (l.set t c) = mNb l := by unfold mNb; simp
  have hl' := isW_set l t c hl hc
  unfold mBadBlock
  rw [if_pos ((mWordsFault_ok _).2 ⟨by simpa using hn, hl'⟩), if_pos ((mWordsFault_ok _).2 ⟨by rw [mBSums_len]; omega, mBSums_words l hl⟩), if_pos (by rw [mBSums_len, mBSums_len, hb'])]
  rw [mDiff_at (t / 8) 0 _ _ (by rw [mBSums_len, mBSums_len, hb']) _ (by rw [mBSums_len, hb']; omega) _]
  · simp
  · intro m hm
    rw [mBSums_get _ m (by omega), mBSums_get _ m (by omega), mBlk_set, if_neg (by omega)]
  · rw [mBSums_get _ _ (by omega), mBSums_get _ _ (by omega), mBlk_set, if_pos (by omega)]
    intro h
    have hk : t - 8 * (t / 8) < (mBlk l (t / 8)).length := by unfold mBlk; rw [List.length_take, List.length_drop]; omega
    have hg : (mBlk l (t / 8))[t - 8 * (t / 8)] = l[t] := by
      simp only [mBlk, List.getElem_take, List.getElem_drop]; congr 1; omega
    exact mSum_set (mBlk l (t / 8)) 65535 (t - 8 * (t / 8)) c hk (by omega) (by omega) (mBlk_words l hl _) hc (by rw [hg]; exact hne) (Option.some.inj h).symm

theorem mBad_self (l : List Int) (hn : l.length ≤ 400) (hl : l.all isW = true) : mBadBlock l (mBSums l) = (4, 0) := by
  have hb : mNb l = (l.length + 7) / 8 := rfl
  unfold mBadBlock
  rw [if_pos ((mWordsFault_ok _).2 ⟨hn, hl⟩), if_pos ((mWordsFault_ok _).2 ⟨by rw [mBSums_len]; omega, mBSums_words l hl⟩), if_pos rfl, mDiff_self]

theorem pb_turned (c m : Int) (h0 : 0 ≤ c) (h1 : c < 65536) (hm0 : 1 ≤ m) (hm1 : m < 65536) : isW (Go.bits .xor .i64 c m) = true ∧ c ≠ Go.bits .xor .i64 c m := by
  obtain ⟨c, rfl⟩ := Int.eq_ofNat_of_zero_le h0
  obtain ⟨m, rfl⟩ := Int.eq_ofNat_of_zero_le (show 0 ≤ m by omega)
  have hx := pb_xor_lt c m (by omega) (by omega)
  rw [pb_xor_nat c m (by omega) (by omega), isW_iff]
  refine ⟨by omega, fun h => ?_⟩
  have e : c = c ^^^ m := by exact_mod_cast h
  have e2 : m = 0 := by
    have := congrArg (c ^^^ ·) e
    simpa [← Nat.xor_assoc, Nat.xor_self] using this.symm
  omega

theorem FnTurns : laws_FnTurns.Pure := by
  intro l0 _ _ hw
  have hl := bytesL_wf l0 hw
  suffices key : ∀ k, 1000 ≤ k → laws_FnTurns.f (k + 1) l0 = some true from ⟨1000 + 1, key 1000 (Nat.le_refl _)⟩
  intro k hk
  unfold laws_FnTurns.f
  rw [c_laws_lwBig]; simp only [Option.bind_some]
  split
  · rfl
  obtain ⟨ws, e⟩ := d_DrawBlockSums l0 hl (k + 1) (by omega)
  rw [e]
  simp only [Option.bind_some, c_impl_CrcWords (k + 1) _ (by omega)]
  by_cases h0 : (mCrcWords ws).1 = 0
  · rw [if_pos h0]
    have hf : mWordsFault ws = 0 := by
      unfold mCrcWords at h0; split at h0
      · assumption
      · exact h0
    have hf2 := (mWordsFault_ok ws).1 hf
    have e2 : mCrcWords ws = (0, mSum 65535 ws) := by unfold mCrcWords; rw [if_pos hf]
    rw [e2]
    by_cases hz : ws.length = 0
    · rw [hz]
      simp only [laws_FnTurns.j0]
      rw [if_pos (by rfl), c_spec_CrcWords _ _ (by omega), e2]; rfl
    · rw [show ((ws.length : Int) == 0) = false by rw [beq_eq_false_iff_ne]; omega]
      simp only [laws_FnTurns.j0]
      rw [if_neg (by decide)]
      simp only [Option.bind_some, List.length_nil, List.nil_append]
      rw [if_pos (by omega)]
      obtain ⟨t, et, ht0, ht1⟩ := d_laws_lwAt l0 hl 1 (ws.length : Int) (by omega) (by omega) (by omega)
      obtain ⟨m, em, hm0, hm1⟩ := d_laws_lwAt l0 hl 2 65535 (by omega) (by omega) (by omega)
      rw [et]
      simp only [Option.bind_some]
      rw [if_pos ht0, if_pos ht1, em]
      simp only [Option.bind_some]
      obtain ⟨t, rfl⟩ := Int.eq_ofNat_of_zero_le ht0
      have htl : t < ws.length := by omega
      have hwt : isW ws[t] = true := by have := hf2.2; rw [List.all_eq_true] at this; exact this _ (List.getElem_mem htl)
      have hwt' := (isW_iff _).1 hwt
      have hp := pb_turned ws[t] (1 + m) hwt'.1 hwt'.2 (by omega) (by omega)
      rw [Int.toNat_natCast, pb_rd ws t htl, pb_wrap (a := 1 + m) (by omega) (by omega)]
      generalize Go.bits .xor .i64 ws[t] (1 + m) = c at hp ⊢
      have hfy : mWordsFault (ws.set t c) = 0 := (mWordsFault_ok _).2 ⟨by simpa using hf2.1, isW_set ws t c hf2.2 hp.1⟩
      have ey : mCrcWords (ws.set t c) = (0, mSum 65535 (ws.set t c)) := by unfold mCrcWords; rw [if_pos hfy]
      have hne := mSum_set ws 65535 t c htl (by omega) (by omega) hf2.2 hp.1 hp.2
      generalize mSum 65535 (ws.set t c) = sy at ey hne
      generalize mSum 65535 ws = sw at hne ⊢
      have es : mBlockSums ws = (0, mBSums ws) := by unfold mBlockSums; rw [if_pos hf]
      rw [c_impl_BlockSums _ ws (by omega), es]
      simp only [Option.bind_some]
      rw [c_impl_BadBlock _ _ _ (by omega), mBad_turn ws t c htl hf2.1 hf2.2 hp.1 hp.2]
      simp only [Option.bind_some]
      rw [c_impl_CrcWords _ _ (by omega), ey]
      simp only [Option.bind_some]
      have hself : impl_BadBlock.f k ws (mBSums ws) = some (4, 0) := (c_impl_BadBlock k ws (mBSums ws) (by omega)).trans (congrArg some (mBad_self ws hf2.1 hf2.2))
      have hlen : (mBSums ws).length = (ws.length + 7) / 8 := mBSums_len ws
      have w1 : wrap64 (Int.tdiv (t : Int) 8) = ((t / 8 : Nat) : Int) := by rw [Int.tdiv_eq_ediv_of_nonneg (by omega), pb_wrap (by omega) (by omega)]; omega
      have w2 : wrap64 (Int.tdiv (wrap64 ((ws.length : Int) + 7)) 8) = (((ws.length + 7) / 8 : Nat) : Int) := by rw [pb_wrap (a := (ws.length : Int) + 7) (by omega) (by omega), Int.tdiv_eq_ediv_of_nonneg (by omega), pb_wrap (by omega) (by omega)]; omega
      generalize mBSums ws = bs at hself hlen ⊢
      rw [hself, w1, w2, hlen, if_neg (fun h => hne h.symm)]
      simp
  · rw [if_neg h0]
    simp only [laws_FnTurns.j0]
    rw [if_pos trivial, c_spec_CrcWords _ _ (by omega)]; simp

end Go.Proofs.Ytklhfhnplldgjaa.Pure
