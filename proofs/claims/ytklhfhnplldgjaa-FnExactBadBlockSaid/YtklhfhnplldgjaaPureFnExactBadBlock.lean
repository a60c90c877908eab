/- Proved: for all arguments the law FnExactBadBlock of the given program returns true and leaves its arguments as they were. Conditions: none but those that the given row itself states. -/
import Derived.Test.YtklhfhnplldgjaaPFnExactBadBlockx3
import Derived.Test.YtklhfhnplldgjaaWSized
set_option linter.unusedVariables false
set_option linter.unusedSimpArgs false
namespace Go.Proofs.Ytklhfhnplldgjaa
abbrev PrintWords.sized_ints := @Go.Proofs.YtklhfhnplldgjaaW.PrintWords.sized_ints
end Go.Proofs.Ytklhfhnplldgjaa
namespace Go.Proofs.Ytklhfhnplldgjaa.Pure
open Go Go.RowKit Go.Proofs.Ytklhfhnplldgjaa.PFnExactBadBlock Go.Proofs.YtklhfhnplldgjaaW.PrintWords Go.Proofs.YtklhfhnplldgjaaW.PrintLast

theorem pb_wrap {a : Int} (h : -9223372036854775808 ≤ a) (h' : a ≤ 9223372036854775807) : wrap64 a = a := by
  unfold wrap64; omega

theorem pb_and_mask (a : Int) (n : Nat) (hn : n ≤ 62) : Go.bits .and .i64 a ((2 ^ n - 1 : Nat) : Int) = a % (2 ^ n : Nat) := by
  have hp : (2 : Nat) ^ n ≤ 2 ^ 62 := Nat.pow_le_pow_right (by decide) hn
  have hp0 : 0 < (2 : Nat) ^ n := Nat.two_pow_pos n
  have hd : (2 : Nat) ^ n ∣ 2 ^ 64 := Nat.pow_dvd_pow 2 (by omega)
  unfold Go.bits
  simp only [BitVec.toNat_and, BitVec.toNat_ofInt]
  rw [show IntKind.i64.bits = 64 from rfl]
  have e1 : ((((2 ^ n - 1 : Nat) : Int) % (2 ^ 64 : Nat)).toNat) = 2 ^ n - 1 := by
    have : ((2 ^ n - 1 : Nat) : Int) % (2 ^ 64 : Nat) = ((2 ^ n - 1 : Nat) : Int) := by
      apply Int.emod_eq_of_lt
      · omega
      · have : (2 : Nat) ^ n - 1 < 2 ^ 64 := by omega
        exact_mod_cast this
    rw [this]; rfl
  rw [e1, Nat.and_two_pow_sub_one_eq_mod]
  have e2 : (((a % (2 ^ 64 : Nat)).toNat % 2 ^ n : Nat) : Int) = a % (2 ^ n : Nat) := by
    have h0 : 0 ≤ a % (2 ^ 64 : Nat) := Int.emod_nonneg _ (by decide)
    rw [Int.natCast_emod, Int.toNat_of_nonneg h0]
    exact Int.emod_emod_of_dvd a (by exact_mod_cast hd)
  rw [e2, IntKind.wrap_i64]
  have h0 : 0 ≤ a % (2 ^ n : Nat) := Int.emod_nonneg _ (by exact_mod_cast (Nat.ne_of_gt hp0))
  have h1 : a % (2 ^ n : Nat) < (2 ^ n : Nat) := Int.emod_lt_of_pos _ (by exact_mod_cast hp0)
  have h2 : ((2 ^ n : Nat) : Int) ≤ 2 ^ 62 := by exact_mod_cast hp
  omega

theorem pb_and65535 (a : Int) : Go.bits .and .i64 a 65535 = a % 65536 := pb_and_mask a 16 (by decide)

theorem pb_and255 (a : Int) : Go.bits .and .i64 a 255 = a % 256 := pb_and_mask a 8 (by decide)

theorem pb_bits_nat (x y : Int) (hx : 0 ≤ x) (hx' : x < 65536) (hy : 0 ≤ y) (hy' : y < 65536) :
    Go.bits .and .i64 x y = ((x.toNat &&& y.toNat : Nat) : Int) ∧ Go.bits .or .i64 x y = ((x.toNat ||| y.toNat : Nat) : Int) ∧ Go.bits .xor .i64 x y = ((x.toNat ^^^ y.toNat : Nat) : Int) := by
  have hx2 : x.toNat < 2 ^ 16 := by omega
  have hy2 : y.toNat < 2 ^ 16 := by omega
  have ex : (x % (2 ^ 64 : Nat)).toNat = x.toNat := by rw [Int.emod_eq_of_lt hx (by omega)]
  have ey : (y % (2 ^ 64 : Nat)).toNat = y.toNat := by rw [Int.emod_eq_of_lt hy (by omega)]
  have h1 := Nat.and_lt_two_pow x.toNat hy2
  have h2 := Nat.or_lt_two_pow hx2 hy2
  have h3 := Nat.xor_lt_two_pow hx2 hy2
  refine ⟨?_, ?_, ?_⟩ <;>
  · unfold Go.bits
    dsimp only
    first | rw [BitVec.toNat_and] | rw [BitVec.toNat_or] | rw [BitVec.toNat_xor]
    rw [BitVec.toNat_ofInt, BitVec.toNat_ofInt, show IntKind.i64.bits = 64 from rfl, ex, ey, IntKind.wrap_i64]; omega

def nStep (x : Nat) : Nat := if 32768 ≤ x then (x * 2 % 65536) ^^^ 4129 else x * 2 % 65536

theorem nStep_lt (x : Nat) : nStep x < 65536 := by
  unfold nStep; split
  · exact Nat.xor_lt_two_pow (n := 16) (by omega) (by omega)
  · omega

def nIter : Nat → Nat → Nat
  | 0, x => x
  | n + 1, x => nIter n (nStep x)

theorem nIter_lt (n x : Nat) (h : x < 65536) : nIter n x < 65536 := by
  induction n generalizing x with
  | zero => exact h
  | succ n ih => exact ih _ (nStep_lt x)

def mCrc (s b : Int) : Int := (nIter 8 (s.toNat ^^^ (256 * b.toNat)) : Nat)

theorem mCrc_range (s b : Int) (h1 : s < 65536) (h3 : b < 256) : 0 ≤ mCrc s b ∧ mCrc s b < 65536 := by
  unfold mCrc
  have := nIter_lt 8 (s.toNat ^^^ (256 * b.toNat)) (Nat.xor_lt_two_pow (n := 16) (by omega) (by omega))
  omega

theorem pb_xor_nat (x y : Nat) (hx : x < 65536) (hy : y < 65536) : Go.bits .xor .i64 (x : Int) (y : Int) = ((x ^^^ y : Nat) : Int) := by
  have := (pb_bits_nat (x : Int) (y : Int) (by omega) (by omega) (by omega) (by omega)).2.2
  simpa using this

theorem pb_xor4129 (x : Nat) (hx : x < 65536) : Go.bits .xor .i64 (x : Int) 4129 = ((x ^^^ 4129 : Nat) : Int) := pb_xor_nat x 4129 hx (by decide)

theorem pb_and32768 (x : Nat) (hx : x < 65536) : (Go.bits .and .i64 (x : Int) 32768 = 0) ↔ x < 32768 := by
  have h := (pb_bits_nat (x : Int) 32768 (by omega) (by omega) (by omega) (by omega)).1
  have e : (x &&& 32768) = if 32768 ≤ x then 32768 else 0 := by
    apply Nat.eq_of_testBit_eq; intro i
    rw [Nat.testBit_and, show (32768 : Nat) = 2 ^ 15 from rfl, Nat.testBit_two_pow]
    by_cases hi : 15 = i
    · subst hi
      by_cases hx' : 2 ^ 15 ≤ x
      · rw [if_pos hx', Nat.testBit_two_pow]
        have : x.testBit 15 = true := by
          rw [Nat.testBit_eq_decide_div_mod_eq]; simp; omega
        simp [this]
      · rw [if_neg hx']; simp
        exact Nat.testBit_lt_two_pow (by omega)
    · simp [hi]; split
      · rw [show (32768 : Nat) = 2 ^ 15 from rfl, Nat.testBit_two_pow]; simp [hi]
      · simp
  rw [h]
  simp only [Int.toNat_natCast, show ((32768 : Int).toNat) = 32768 from rfl, e]
  split <;> omega

theorem l_spec_l1Crc (d : Nat) : ∀ (k x : Nat) (i : Int), x < 65536 → i + d = 8 → 0 ≤ i → d < k → spec_l1Crc.l0 k (x : Int) i = some ((nIter d x : Nat) : Int) := by
  induction d with
  | zero =>
    intro k x i hx hi h0 hk
    obtain ⟨k, rfl⟩ : ∃ m, k = m + 1 := ⟨k - 1, by omega⟩
    simp only [spec_l1Crc.l0]; rw [if_neg (by omega)]; rfl
  | succ d ih =>
    intro k x i hx hi h0 hk
    obtain ⟨k, rfl⟩ : ∃ m, k = m + 1 := ⟨k - 1, by omega⟩
    have e : Int.tmod (wrap64 ((x : Int) * 2)) 65536 = ((x * 2 % 65536 : Nat) : Int) := by
      rw [pb_wrap (by omega) (by omega), Int.tmod_eq_emod_of_nonneg (by omega)]; omega
    simp only [spec_l1Crc.l0]; rw [if_pos (by omega), e, pb_wrap (a := i + 1) (by omega) (by omega), pb_xor4129 _ (by omega)]
    by_cases h : 32768 ≤ x
    · rw [if_pos (by omega)]
      have := ih k (nStep x) (i + 1) (nStep_lt x) (by omega) (by omega) (by omega)
      simp only [nIter]; rw [← this]; unfold nStep; rw [if_pos h]
    · rw [if_neg (by omega)]
      have := ih k (nStep x) (i + 1) (nStep_lt x) (by omega) (by omega) (by omega)
      simp only [nIter]; rw [← this]; unfold nStep; rw [if_neg h]

theorem l_impl_crcByte (d : Nat) : ∀ (k x : Nat) (i : Int), x < 65536 → i + d = 8 → 0 ≤ i → d < k → impl_crcByte.l0 k (x : Int) i = some ((nIter d x : Nat) : Int) := by
  induction d with
  | zero =>
    intro k x i hx hi h0 hk
    obtain ⟨k, rfl⟩ : ∃ m, k = m + 1 := ⟨k - 1, by omega⟩
    simp only [impl_crcByte.l0]; rw [if_neg (by omega)]; rfl
  | succ d ih =>
    intro k x i hx hi h0 hk
    obtain ⟨k, rfl⟩ : ∃ m, k = m + 1 := ⟨k - 1, by omega⟩
    have e : Go.bits .and .i64 (wrap64 (2 * (x : Int))) 65535 = ((x * 2 % 65536 : Nat) : Int) := by
      rw [pb_and65535, pb_wrap (by omega) (by omega)]; omega
    simp only [impl_crcByte.l0]; rw [if_pos (by omega), e, pb_wrap (a := i + 1) (by omega) (by omega), pb_xor4129 _ (by omega)]
    by_cases h : 32768 ≤ x
    · rw [if_neg (by rw [pb_and32768 x hx]; omega)]
      have := ih k (nStep x) (i + 1) (nStep_lt x) (by omega) (by omega) (by omega)
      simp only [nIter]; rw [← this]; unfold nStep; rw [if_pos h]
    · rw [if_pos (by rw [pb_and32768 x hx]; omega)]
      have := ih k (nStep x) (i + 1) (nStep_lt x) (by omega) (by omega) (by omega)
      simp only [nIter]; rw [← this]; unfold nStep; rw [if_neg h]

theorem c_spec_l1Crc (k : Nat) (s b : Int) (h0 : 0 ≤ s) (h1 : s < 65536) (h2 : 0 ≤ b) (h3 : b < 256) (hk : 9 ≤ k) : spec_l1Crc.f k s b = some (mCrc s b) := by
  obtain ⟨s, rfl⟩ := Int.eq_ofNat_of_zero_le h0
  obtain ⟨b, rfl⟩ := Int.eq_ofNat_of_zero_le h2
  unfold spec_l1Crc.f mCrc
  rw [pb_wrap (by omega) (by omega), show ((b : Int) * 256) = ((256 * b : Nat) : Int) by omega, pb_xor_nat _ _ (by omega) (by omega)]
  rw [l_spec_l1Crc 8 k _ 0 (Nat.xor_lt_two_pow (n := 16) (by omega) (by omega)) (by omega) (by omega) (by omega)]
  simp

theorem c_impl_crcByte (k : Nat) (s b : Int) (h0 : 0 ≤ s) (h1 : s < 65536) (h2 : 0 ≤ b) (h3 : b < 256) (hk : 9 ≤ k) : impl_crcByte.f k s b = some (mCrc s b) := by
  obtain ⟨s, rfl⟩ := Int.eq_ofNat_of_zero_le h0
  obtain ⟨b, rfl⟩ := Int.eq_ofNat_of_zero_le h2
  unfold impl_crcByte.f mCrc
  rw [pb_wrap (by omega) (by omega), show (256 * (b : Int)) = ((256 * b : Nat) : Int) by omega, pb_xor_nat _ _ (by omega) (by omega)]
  rw [l_impl_crcByte 8 k _ 0 (Nat.xor_lt_two_pow (n := 16) (by omega) (by omega)) (by omega) (by omega) (by omega)]
  simp

theorem c_spec_l1In (a b c : Int) : spec_l1In.f a b c = some (decide (b ≤ a ∧ a ≤ c)) := by
  unfold spec_l1In.f; split
  · next h => congr 1; simp; omega
  · next h => congr 1; simp; omega

theorem c_impl_within (a b c : Int) : impl_within.f a b c = some (decide (b ≤ a ∧ a ≤ c)) := by
  unfold impl_within.f; split
  · next h => congr 1; simp; omega
  · next h => congr 1; simp; omega

def isW (a : Int) : Bool := decide (0 ≤ a ∧ a ≤ 65535)

theorem c_spec_l1Word (a : Int) : spec_l1Word.f a = some (isW a) := by
  unfold spec_l1Word.f; rw [c_spec_l1In]; rfl

theorem c_impl_isWord (a : Int) : impl_isWord.f a = some (isW a) := by
  unfold impl_isWord.f; rw [c_impl_within]; rfl

theorem c_laws_eqIntResult (a b c d : Int) : laws_eqIntResult.f a b c d = some (decide (a = c ∧ b = d)) := by
  unfold laws_eqIntResult.f
  by_cases h : a = c <;> by_cases h' : b = d <;> simp [h, h']

theorem pb_rd (xs : List Int) (i : Nat) (h : i < xs.length) : rd xs (i : Int) = xs[i] := by
  unfold rd; simp [List.getD_eq_getElem?_getD, h]

theorem pb_take_set {α : Type} (xs ys : List α) (i : Nat) (hx : i < xs.length) (hy : i < ys.length) (h : ys.take i = xs.take i) : (ys.set i xs[i]).take (i + 1) = xs.take (i + 1) := by
  rw [List.take_succ_eq_append_getElem (by simpa using hy), List.take_succ_eq_append_getElem hx, List.take_set, List.getElem_set_self]
  rw [List.set_eq_of_length_le (by simp; omega), h]

theorem l_laws_toInt64S (xs : List Int) (hn : xs.length ≤ 35184372088832) (d : Nat) : ∀ (k i : Nat) (ys : List Int), i + d = xs.length → d < k → ys.length = xs.length → ys.take i = xs.take i →
    laws_toInt64S.l0 k xs ys (i : Int) = some xs := by
  induction d with
  | zero =>
    intro k i ys hi hk hl ht
    obtain ⟨k, rfl⟩ : ∃ m, k = m + 1 := ⟨k - 1, by omega⟩
    simp only [laws_toInt64S.l0]; rw [if_neg (by omega)]
    rw [List.take_of_length_le (by omega), List.take_of_length_le (by omega)] at ht; rw [ht]
  | succ d ih =>
    intro k i ys hi hk hl ht
    obtain ⟨k, rfl⟩ : ∃ m, k = m + 1 := ⟨k - 1, by omega⟩
    have hlt : i < xs.length := by omega
    simp only [laws_toInt64S.l0]; rw [if_pos (by omega), if_pos (by omega), if_pos (by omega), pb_wrap (by omega) (by omega), pb_rd xs i hlt]
    exact ih k (i + 1) _ (by omega) (by omega) (by simpa using hl) (pb_take_set xs ys i hlt (by omega) ht)

theorem c_laws_toInt64S (k : Nat) (xs : List Int) (hn : xs.length ≤ 35184372088832) (hk : xs.length < k) : laws_toInt64S.f k xs = some xs := by
  unfold laws_toInt64S.f
  rw [if_pos (by omega), if_pos (by omega)]
  exact l_laws_toInt64S xs hn xs.length k 0 _ (by omega) hk (by simp) (by simp)

theorem l_laws_eqInt64S (xs ys : List Int) (hn : xs.length ≤ 35184372088832) (hl : xs.length = ys.length) (d : Nat) : ∀ (k i : Nat), i + d = xs.length → d < k →
    laws_eqInt64S.l0 k xs ys (i : Int) = some (decide (xs.drop i = ys.drop i)) := by
  induction d with
  | zero =>
    intro k i hi hk
    obtain ⟨k, rfl⟩ : ∃ m, k = m + 1 := ⟨k - 1, by omega⟩
    simp only [laws_eqInt64S.l0]; rw [if_neg (by omega), List.drop_of_length_le (by omega), List.drop_of_length_le (by omega)]; simp
  | succ d ih =>
    intro k i hi hk
    obtain ⟨k, rfl⟩ : ∃ m, k = m + 1 := ⟨k - 1, by omega⟩
    have hx : i < xs.length := by omega
    have hy : i < ys.length := by omega
    simp only [laws_eqInt64S.l0]
    rw [if_pos (by omega), if_pos (by omega), if_pos (by omega), pb_wrap (by omega) (by omega), pb_rd xs i hx, pb_rd ys i hy, List.drop_eq_getElem_cons hx, List.drop_eq_getElem_cons hy]
    by_cases h : xs[i] = ys[i]
    · rw [if_pos h]
      have := ih k (i + 1) (by omega) (by omega)
      rw [show ((i : Int) + 1) = ((i + 1 : Nat) : Int) by omega, this]; simp only [h, List.cons.injEq, true_and]
    · rw [if_neg h]; simp only [h, List.cons.injEq, false_and, decide_false]

theorem c_laws_eqInt64S (k : Nat) (xs ys : List Int) (hn : xs.length ≤ 35184372088832) (hk : xs.length < k) : laws_eqInt64S.f k xs ys = some (decide (xs = ys)) := by
  unfold laws_eqInt64S.f
  by_cases h : xs.length = ys.length
  · rw [if_pos (by omega)]
    have := l_laws_eqInt64S xs ys hn h xs.length k 0 (by omega) hk
    simpa using this
  · rw [if_neg (by omega)]; congr 1; symm; rw [decide_eq_false_iff_not]; intro e; exact h (by rw [e])

def mWordsFault (l : List Int) : Int := if l.length > 400 then 2 else if l.all isW then 0 else 3

theorem mWordsFault_ok (l : List Int) : mWordsFault l = 0 ↔ l.length ≤ 400 ∧ l.all isW = true := by
  unfold mWordsFault; split
  · constructor <;> intro h <;> omega
  · split
    · next h => simp [h]; omega
    · next h => simp [h]

theorem l_spec_WordsFault (xs : List Int) (hn : xs.length ≤ 400) (d : Nat) : ∀ (k i : Nat), i + d = xs.length → d < k →
    spec_WordsFault.l0 k xs (i : Int) = some (if (xs.drop i).all isW then 0 else 3) := by
  induction d with
  | zero =>
    intro k i hi hk
    obtain ⟨k, rfl⟩ : ∃ m, k = m + 1 := ⟨k - 1, by omega⟩
    simp only [spec_WordsFault.l0]; rw [if_neg (by omega), List.drop_of_length_le (by omega)]; rfl
  | succ d ih =>
    intro k i hi hk
    obtain ⟨k, rfl⟩ : ∃ m, k = m + 1 := ⟨k - 1, by omega⟩
    have hlt : i < xs.length := by omega
    simp only [spec_WordsFault.l0]; rw [if_pos (by omega), if_pos (by omega), pb_rd xs i hlt, c_spec_l1Word, pb_wrap (by omega) (by omega), List.drop_eq_getElem_cons hlt]
    simp only [Option.bind_some, List.all_cons]
    by_cases h : isW xs[i] = true
    · rw [if_pos h]; simp only [h, Bool.true_and]; exact ih k (i + 1) (by omega) (by omega)
    · rw [if_neg h]; simp [h]

theorem c_spec_WordsFault (k : Nat) (xs : List Int) (hk : 401 ≤ k) : spec_WordsFault.f k xs = some (mWordsFault xs) := by
  unfold spec_WordsFault.f mWordsFault
  split
  · rw [if_pos (by omega)]
  · rw [if_neg (by omega)]
    have := l_spec_WordsFault xs (by omega) xs.length k 0 (by omega) (by omega)
    simpa using this

theorem l_impl_areWords (xs : List Int) (hn : xs.length ≤ 35184372088832) (d : Nat) : ∀ (k i : Nat), i + d = xs.length → d < k →
    impl_areWords.l0 k xs (xs.length : Int) (i : Int) = some ((xs.drop i).all isW) := by
  induction d with
  | zero =>
    intro k i hi hk
    obtain ⟨k, rfl⟩ : ∃ m, k = m + 1 := ⟨k - 1, by omega⟩
    simp only [impl_areWords.l0]; rw [if_neg (by omega), List.drop_of_length_le (by omega)]; rfl
  | succ d ih =>
    intro k i hi hk
    obtain ⟨k, rfl⟩ : ∃ m, k = m + 1 := ⟨k - 1, by omega⟩
    have hlt : i < xs.length := by omega
    simp only [impl_areWords.l0]; rw [if_pos (by omega), if_pos (by omega), if_pos (by omega), pb_rd xs i hlt, c_impl_isWord, pb_wrap (by omega) (by omega), List.drop_eq_getElem_cons hlt]
    simp only [Option.bind_some, List.all_cons]
    cases h : isW xs[i] with
    | true => simp only [if_true, Bool.true_and]; exact ih k (i + 1) (by omega) (by omega)
    | false => simp

theorem c_impl_areWords (k : Nat) (xs : List Int) (hn : xs.length ≤ 35184372088832) (hk : xs.length < k) : impl_areWords.f k xs = some (xs.all isW) := by
  unfold impl_areWords.f
  have := l_impl_areWords xs hn xs.length k 0 (by omega) hk
  simpa using this

theorem c_impl_WordsFault (k : Nat) (xs : List Int) (hk : 401 ≤ k) : impl_WordsFault.f k xs = some (mWordsFault xs) := by
  unfold impl_WordsFault.f mWordsFault
  split
  · rw [if_pos (by omega)]
  · rw [if_neg (by omega), c_impl_areWords k xs (by omega) (by omega)]
    simp only [Option.bind_some]; split <;> rfl

def mWord (s w : Int) : Int := mCrc (mCrc s (w / 256)) (w % 256)

def mSum (s : Int) (l : List Int) : Int := l.foldl mWord s

theorem isW_iff (a : Int) : isW a = true ↔ 0 ≤ a ∧ a < 65536 := by
  unfold isW; rw [decide_eq_true_eq]; omega

theorem mWord_range (s w : Int) (h : s < 65536) (hw : isW w = true) : 0 ≤ mWord s w ∧ mWord s w < 65536 := by
  rw [isW_iff] at hw
  unfold mWord
  have h1 := mCrc_range s (w / 256) h (by omega)
  exact mCrc_range _ _ h1.2 (by omega)

theorem l_spec_l1Sum (xs : List Int) (hn : xs.length ≤ 35184372088832) (hx : xs.all isW = true) (d : Nat) : ∀ (k i : Nat) (s : Int), 0 ≤ s → s < 65536 → i + d = xs.length → d + 10 < k →
    spec_l1Sum.l0 k xs s (i : Int) = some (mSum s (xs.drop i)) := by
  induction d with
  | zero =>
    intro k i s h0 h1 hi hk
    obtain ⟨k, rfl⟩ : ∃ m, k = m + 1 := ⟨k - 1, by omega⟩
    simp only [spec_l1Sum.l0]; rw [if_neg (by omega), List.drop_of_length_le (by omega)]; rfl
  | succ d ih =>
    intro k i s h0 h1 hi hk
    obtain ⟨k, rfl⟩ : ∃ m, k = m + 1 := ⟨k - 1, by omega⟩
    have hlt : i < xs.length := by omega
    have hw : isW xs[i] = true := by rw [List.all_eq_true] at hx; exact hx _ (List.getElem_mem hlt)
    have hw' := (isW_iff _).1 hw
    have r1 := mCrc_range s (xs[i] / 256) h1 (by omega)
    have r2 := mWord_range s xs[i] h1 hw
    simp only [spec_l1Sum.l0]; rw [if_pos (by omega), if_pos (by omega), pb_rd xs i hlt, pb_wrap (a := (i : Int) + 1) (by omega) (by omega), List.drop_eq_getElem_cons hlt]
    rw [Int.tdiv_eq_ediv_of_nonneg hw'.1, Int.tmod_eq_emod_of_nonneg hw'.1, pb_wrap (by omega) (by omega), c_spec_l1Crc k _ _ h0 h1 (by omega) (by omega) (by omega)]
    simp only [Option.bind_some]
    rw [c_spec_l1Crc k _ _ r1.1 r1.2 (by omega) (by omega) (by omega)]
    simp only [Option.bind_some]
    exact ih k (i + 1) (mWord s xs[i]) r2.1 r2.2 (by omega) (by omega)

theorem c_spec_l1Sum (k : Nat) (xs : List Int) (hn : xs.length ≤ 35184372088832) (hx : xs.all isW = true) (hk : xs.length + 10 < k) : spec_l1Sum.f k xs = some (mSum 65535 xs) := by
  unfold spec_l1Sum.f
  have := l_spec_l1Sum xs hn hx xs.length k 0 65535 (by omega) (by omega) (by omega) hk
  simpa using this

theorem l_impl_crc (xs : List Int) (hn : xs.length ≤ 35184372088832) (hx : xs.all isW = true) (d : Nat) : ∀ (k i : Nat) (s : Int), 0 ≤ s → s < 65536 → i + d = xs.length → d + 10 < k →
    impl_crc.l0 k s xs (xs.length : Int) (i : Int) = some (mSum s (xs.drop i)) := by
  induction d with
  | zero =>
    intro k i s h0 h1 hi hk
    obtain ⟨k, rfl⟩ : ∃ m, k = m + 1 := ⟨k - 1, by omega⟩
    simp only [impl_crc.l0]; rw [if_neg (by omega), List.drop_of_length_le (by omega)]; rfl
  | succ d ih =>
    intro k i s h0 h1 hi hk
    obtain ⟨k, rfl⟩ : ∃ m, k = m + 1 := ⟨k - 1, by omega⟩
    have hlt : i < xs.length := by omega
    have hw : isW xs[i] = true := by rw [List.all_eq_true] at hx; exact hx _ (List.getElem_mem hlt)
    have hw' := (isW_iff _).1 hw
    have r1 := mCrc_range s (xs[i] / 256) h1 (by omega)
    have r2 := mWord_range s xs[i] h1 hw
    simp only [impl_crc.l0]; rw [if_pos (by omega), if_pos (by omega), if_pos (by omega), pb_rd xs i hlt, pb_wrap (a := (i : Int) + 1) (by omega) (by omega), List.drop_eq_getElem_cons hlt]
    rw [pb_and255, c_impl_crcByte k _ _ h0 h1 (by omega) (by omega) (by omega)]
    simp only [Option.bind_some]
    rw [c_impl_crcByte k _ _ r1.1 r1.2 (by omega) (by omega) (by omega)]
    simp only [Option.bind_some]
    exact ih k (i + 1) (mWord s xs[i]) r2.1 r2.2 (by omega) (by omega)

theorem c_impl_crc (k : Nat) (xs : List Int) (hn : xs.length ≤ 35184372088832) (hx : xs.all isW = true) (hk : xs.length + 10 < k) : impl_crc.f k xs = some (mSum 65535 xs) := by
  unfold impl_crc.f
  have := l_impl_crc xs hn hx xs.length k 0 65535 (by omega) (by omega) (by omega) hk
  simpa using this

def mBlk (l : List Int) (j : Nat) : List Int := (l.drop (8 * j)).take 8

def mNb (l : List Int) : Nat := (l.length + 7) / 8

def mBlocks (l : List Int) : List (List Int) := (List.range (mNb l)).map (mBlk l)

def mBSums (l : List Int) : List Int := (List.range (mNb l)).map (fun j => mSum 65535 (mBlk l j))

theorem mBSums_len (l : List Int) : (mBSums l).length = mNb l := by simp [mBSums]

theorem mBlk_words (l : List Int) (h : l.all isW = true) (j : Nat) : (mBlk l j).all isW = true := by
  rw [List.all_eq_true] at h ⊢
  intro x hx
  exact h x (List.mem_of_mem_drop (List.mem_of_mem_take hx))

theorem mBlk_len (l : List Int) (j : Nat) : (mBlk l j).length ≤ 8 := by unfold mBlk; exact List.length_take_le _ _

theorem pb_slice (l : List Int) (j : Nat) (t : Nat) (ht : t = min (8 * j + 8) l.length) : (l.take t).drop (8 * j) = mBlk l j := by
  unfold mBlk
  rw [List.drop_take, List.take_eq_take_iff]
  rw [List.length_drop]; omega

theorem c_spec_l1Min (a b : Int) : spec_l1Min.f a b = some (if a < b then a else b) := by
  unfold spec_l1Min.f; split <;> rfl

theorem l_spec_l1Blocks (l : List Int) (hn : l.length ≤ 400) (hw : l.all isW = true) (d : Nat) : ∀ (k j : Nat) (acc : List Int), j + d = mNb l → d + 20 < k → acc = (List.range j).map (fun j => mSum 65535 (mBlk l j)) →
    spec_l1Blocks.l0 k l acc ((8 * j : Nat) : Int) = some (mBSums l) := by
  induction d with
  | zero =>
    intro k j acc hj hk ha
    obtain ⟨k, rfl⟩ : ∃ m, k = m + 1 := ⟨k - 1, by omega⟩
    have hb : mNb l = (l.length + 7) / 8 := rfl
    simp only [spec_l1Blocks.l0]; rw [if_neg (by omega), ha]; unfold mBSums; rw [← hj]; rfl
  | succ d ih =>
    intro k j acc hj hk ha
    obtain ⟨k, rfl⟩ : ∃ m, k = m + 1 := ⟨k - 1, by omega⟩
    have hb : mNb l = (l.length + 7) / 8 := rfl
    have hlen : acc.length = j := by rw [ha]; simp
    simp only [spec_l1Blocks.l0]
    rw [if_pos (by omega), pb_wrap (by omega) (by omega), c_spec_l1Min]
    simp only [Option.bind_some]
    rw [show (if (l.length : Int) < ((8 * j : Nat) : Int) + 8 then (l.length : Int) else ((8 * j : Nat) : Int) + 8) = ((min (8 * j + 8) l.length : Nat) : Int) by split <;> omega]
    rw [if_pos (by omega), if_pos (by omega), if_pos (by omega), Int.toNat_natCast, Int.toNat_natCast, pb_slice l j _ rfl, c_spec_l1Sum k _ (by have := mBlk_len l j; omega) (mBlk_words l hw j) (by have := mBlk_len l j; omega)]
    simp only [Option.bind_some]
    rw [if_pos (by omega), show (((8 * j : Nat) : Int) + 8) = ((8 * (j + 1) : Nat) : Int) by omega]
    exact ih k (j + 1) _ (by omega) (by omega) (by rw [ha, List.range_succ]; simp)

theorem c_spec_l1Blocks (k : Nat) (l : List Int) (hn : l.length ≤ 400) (hw : l.all isW = true) (hk : 100 ≤ k) : spec_l1Blocks.f k l = some (mBSums l) := by
  unfold spec_l1Blocks.f
  have hb : mNb l = (l.length + 7) / 8 := rfl
  exact l_spec_l1Blocks l hn hw (mNb l) k 0 [] (by omega) (by omega) rfl

theorem l_impl_blocks (l : List Int) (hn : l.length ≤ 400) (d : Nat) : ∀ (k j : Nat) (acc : List (List Int)), j + d = mNb l → d < k → acc = (List.range j).map (mBlk l) →
    impl_blocks.l0 k l acc ((8 * j : Nat) : Int) = some (mBlocks l) := by
  induction d with
  | zero =>
    intro k j acc hj hk ha
    obtain ⟨k, rfl⟩ : ∃ m, k = m + 1 := ⟨k - 1, by omega⟩
    have hb : mNb l = (l.length + 7) / 8 := rfl
    simp only [impl_blocks.l0]; rw [if_neg (by omega), ha]; unfold mBlocks; rw [← hj]; rfl
  | succ d ih =>
    intro k j acc hj hk ha
    obtain ⟨k, rfl⟩ : ∃ m, k = m + 1 := ⟨k - 1, by omega⟩
    have hb : mNb l = (l.length + 7) / 8 := rfl
    have hlen : acc.length = j := by rw [ha]; simp
    simp only [impl_blocks.l0]
    rw [pb_wrap (by omega) (by omega), show mn (((8 * j : Nat) : Int) + 8) (l.length : Int) = ((min (8 * j + 8) l.length : Nat) : Int) by unfold mn; omega]
    rw [if_pos (by omega), if_pos (by omega), if_pos (by omega), if_pos (by omega), if_pos (by omega), Int.toNat_natCast, Int.toNat_natCast, pb_slice l j _ rfl]
    rw [show (((8 * j : Nat) : Int) + 8) = ((8 * (j + 1) : Nat) : Int) by omega]
    exact ih k (j + 1) _ (by omega) (by omega) (by rw [ha, List.range_succ]; simp)

theorem c_impl_blocks (k : Nat) (l : List Int) (hn : l.length ≤ 400) (hk : 100 ≤ k) : impl_blocks.f k l = some (mBlocks l) := by
  unfold impl_blocks.f
  have hb : mNb l = (l.length + 7) / 8 := rfl
  exact l_impl_blocks l hn (mNb l) k 0 [] (by omega) (by omega) rfl

theorem l_impl_blockSums (ls : List (List Int)) (hn : ls.length ≤ 400) (hs : ∀ l ∈ ls, l.length ≤ 8 ∧ l.all isW = true) (d : Nat) : ∀ (k i : Nat) (acc : List Int), i + d = ls.length → d + 20 < k → acc.length = i →
    impl_blockSums.l0 k acc ls (ls.length : Int) (i : Int) = some (acc ++ (ls.drop i).map (mSum 65535)) := by
  induction d with
  | zero =>
    intro k i acc hi hk ha
    obtain ⟨k, rfl⟩ : ∃ m, k = m + 1 := ⟨k - 1, by omega⟩
    simp only [impl_blockSums.l0]; rw [if_neg (by omega), List.drop_of_length_le (by omega)]; simp
  | succ d ih =>
    intro k i acc hi hk ha
    obtain ⟨k, rfl⟩ : ∃ m, k = m + 1 := ⟨k - 1, by omega⟩
    have hlt : i < ls.length := by omega
    have hx := hs ls[i] (List.getElem_mem hlt)
    have e : rd_L1 ls (i : Int) = ls[i] := by unfold rd_L1; simp [List.getD_eq_getElem?_getD, hlt]
    simp only [impl_blockSums.l0]
    rw [if_pos (by omega), if_pos (by omega), if_pos (by omega), e, c_impl_crc k _ (by omega) hx.2 (by omega), pb_wrap (by omega) (by omega), List.drop_eq_getElem_cons hlt]
    simp only [Option.bind_some]
    rw [if_pos (by omega), show ((i : Int) + 1) = ((i + 1 : Nat) : Int) by omega, ih k (i + 1) _ (by omega) (by omega) (by simp; omega)]
    simp only [List.map_cons, List.append_assoc, List.singleton_append]

theorem c_impl_blockSums (k : Nat) (l : List Int) (hn : l.length ≤ 400) (hw : l.all isW = true) (hk : 500 ≤ k) : impl_blockSums.f k l = some (mBSums l) := by
  unfold impl_blockSums.f
  rw [c_impl_blocks k l hn (by omega)]; simp only [Option.bind_some]
  have hb : mNb l = (l.length + 7) / 8 := rfl
  have hl : (mBlocks l).length = mNb l := by simp [mBlocks]
  have hs : ∀ x ∈ mBlocks l, x.length ≤ 8 ∧ x.all isW = true := by
    intro x hx; unfold mBlocks at hx; rw [List.mem_map] at hx; obtain ⟨j, _, rfl⟩ := hx
    exact ⟨mBlk_len l j, mBlk_words l hw j⟩
  have := l_impl_blockSums (mBlocks l) (by omega) hs (mBlocks l).length k 0 [] (by omega) (by omega) rfl
  rw [show ((0 : Nat) : Int) = 0 from rfl] at this
  rw [this]; congr 1; unfold mBlocks mBSums; simp

def mDiff (i : Nat) : List Int → List Int → Int × Int
  | a :: u, b :: v => if a = b then mDiff (i + 1) u v else (0, (i : Int))
  | _, _ => (4, 0)

theorem l_spec_BadBlock (xs ys : List Int) (hn : xs.length ≤ 400) (hl : xs.length = ys.length) (d : Nat) : ∀ (k i : Nat), i + d = xs.length → d < k →
    spec_BadBlock.l0 k ys xs (i : Int) = some (mDiff i (xs.drop i) (ys.drop i)) := by
  induction d with
  | zero =>
    intro k i hi hk
    obtain ⟨k, rfl⟩ : ∃ m, k = m + 1 := ⟨k - 1, by omega⟩
    simp only [spec_BadBlock.l0]; rw [if_neg (by omega), List.drop_of_length_le (by omega)]; rfl
  | succ d ih =>
    intro k i hi hk
    obtain ⟨k, rfl⟩ : ∃ m, k = m + 1 := ⟨k - 1, by omega⟩
    have hx : i < xs.length := by omega
    have hy : i < ys.length := by omega
    simp only [spec_BadBlock.l0]
    rw [if_pos (by omega), if_pos (by omega), if_pos (by omega), pb_rd xs i hx, pb_rd ys i hy, pb_wrap (by omega) (by omega), List.drop_eq_getElem_cons hx, List.drop_eq_getElem_cons hy]
    simp only [mDiff]
    split
    · exact ih k (i + 1) (by omega) (by omega)
    · rfl

theorem l_impl_BadBlock1 (xs ys : List Int) (hn : xs.length ≤ 400) (hl : xs.length = ys.length) (d : Nat) : ∀ (k i : Nat), i + d = xs.length → d < k →
    impl_BadBlock.l1 k ys xs (xs.length : Int) (i : Int) = some (mDiff i (xs.drop i) (ys.drop i)) := by
  induction d with
  | zero =>
    intro k i hi hk
    obtain ⟨k, rfl⟩ : ∃ m, k = m + 1 := ⟨k - 1, by omega⟩
    simp only [impl_BadBlock.l1]; rw [if_neg (by omega), List.drop_of_length_le (by omega)]; rfl
  | succ d ih =>
    intro k i hi hk
    obtain ⟨k, rfl⟩ : ∃ m, k = m + 1 := ⟨k - 1, by omega⟩
    have hx : i < xs.length := by omega
    have hy : i < ys.length := by omega
    simp only [impl_BadBlock.l1]
    rw [if_pos (by omega), if_pos (by omega), if_pos (by omega), if_pos (by omega), pb_rd xs i hx, pb_rd ys i hy, pb_wrap (by omega) (by omega), List.drop_eq_getElem_cons hx, List.drop_eq_getElem_cons hy]
    simp only [mDiff]
    split
    · exact ih k (i + 1) (by omega) (by omega)
    · rfl

def mBadBlock (l s : List Int) : Int × Int :=
  if mWordsFault l = 0 then (if mWordsFault s = 0 then (if (mBSums l).length = s.length then mDiff 0 (mBSums l) s else (1, 0)) else (mWordsFault s, 0)) else (mWordsFault l, 0)

theorem c_spec_BadBlock (k : Nat) (l s : List Int) (hk : 500 ≤ k) : spec_BadBlock.f k l s = some (mBadBlock l s) := by
  unfold spec_BadBlock.f mBadBlock
  rw [c_spec_WordsFault k l (by omega), c_spec_WordsFault k s (by omega)]; simp only [Option.bind_some]
  split
  · next h =>
    rw [mWordsFault_ok] at h
    have hb : mNb l = (l.length + 7) / 8 := rfl
    have hl := mBSums_len l
    rw [c_spec_l1Blocks k l h.1 h.2 (by omega)]; simp only [Option.bind_some]
    split
    · by_cases e : (mBSums l).length = s.length
      · rw [if_pos (by omega), if_pos e]
        have := l_spec_BadBlock (mBSums l) s (by omega) e (mBSums l).length k 0 (by omega) (by omega)
        simpa using this
      · rw [if_neg (by omega), if_neg e]
    · rfl
  · rfl

theorem c_impl_BadBlock (k : Nat) (l s : List Int) (hk : 510 ≤ k) : impl_BadBlock.f k l s = some (mBadBlock l s) := by
  obtain ⟨k, rfl⟩ : ∃ m, k = m + 3 := ⟨k - 3, by omega⟩
  unfold impl_BadBlock.f mBadBlock
  simp only [Option.bind_some, impl_BadBlock.l0, List.length_cons, List.length_nil]
  have r0 : rd_L1 [l, s] 0 = l := rfl
  have r1 : rd_L1 [l, s] 1 = s := rfl
  have w0 : wrap64 (0 + 1) = 1 := by decide +kernel
  have w1 : wrap64 (1 + 1) = 2 := by decide +kernel
  rw [if_pos (by decide), if_pos (by decide), if_pos (by decide), r0, c_impl_WordsFault _ l (by omega), w0]
  simp only [Option.bind_some]
  split
  · next h =>
    rw [mWordsFault_ok] at h
    have hb : mNb l = (l.length + 7) / 8 := rfl
    have hl := mBSums_len l
    rw [if_pos (by decide), if_pos (by decide), if_pos (by decide), r1, c_impl_WordsFault _ s (by omega), w1]
    simp only [Option.bind_some]
    split
    · rw [if_neg (by decide), c_impl_blockSums k l h.1 h.2 (by omega)]
      simp only [Option.bind_some]
      by_cases e : (mBSums l).length = s.length
      · rw [if_pos (by omega), if_pos e]
        have := l_impl_BadBlock1 (mBSums l) s (by omega) e (mBSums l).length k 0 (by omega) (by omega)
        simpa using this
      · rw [if_neg (by omega), if_neg e]
    · rfl
  · rfl

theorem FnExactBadBlock : laws_FnExactBadBlock.Pure := by
  intro l0 l1 _ hn _ _ hm _
  refine ⟨l0.length + l1.length + 1001, ?_⟩
  unfold laws_FnExactBadBlock.f
  split
  · rfl
  split
  · rfl
  rw [c_laws_toInt64S _ l0 (by omega) (by omega), c_laws_toInt64S _ l1 (by omega) (by omega)]
  simp only [Option.bind_some]
  rw [c_spec_BadBlock _ l0 l1 (by omega), c_impl_BadBlock _ l0 l1 (by omega), c_laws_eqInt64S _ l0 l0 (by omega) (by omega), c_laws_eqInt64S _ l1 l1 (by omega) (by omega)]
  simp [c_laws_eqIntResult]

end Go.Proofs.Ytklhfhnplldgjaa.Pure
