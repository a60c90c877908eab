/- Proved: for all arguments the law FnExactBlockStep of the given program returns true and leaves its arguments as they were. Conditions: none but those that the given row itself states. -/
import Derived.Test.YtklhfhnplldgjaaXFnExactBlockStepx5
set_option linter.unusedVariables false
set_option linter.unusedSimpArgs false
namespace Go.Proofs.Ytklhfhnplldgjaa.Pure
open Go Go.RowKit Go.Proofs.Ytklhfhnplldgjaa.XFnExactBlockStep Go.Proofs.YtklhfhnplldgjaaW.PrintWords Go.Proofs.YtklhfhnplldgjaaW.PrintLast

theorem pb_wrap {a : Int} (h : -9223372036854775808 ≤ a) (h' : a ≤ 9223372036854775807) : wrap64 a = a := by
  unfold wrap64; omega

theorem pb_u16 (a : Int) : IntKind.u16.wrap a = a % 65536 := by simp [IntKind.wrap, IntKind.bits, IntKind.signed]

theorem pb_i16 (a : Int) : IntKind.i16.wrap a = (a + 32768) % 65536 - 32768 := by
  simp [IntKind.wrap, IntKind.bits, IntKind.signed]; split <;> omega

theorem pb_and_mask (a : Int) (n : Nat) (hn : n ≤ 62) : Go.bits .and .i64 a ((2 ^ n - 1 : Nat) : Int) = a % (2 ^ n : Nat) := by
  have hp : (2 : Nat) ^ n ≤ 2 ^ 62 := Nat.pow_le_pow_right (by decide) hn
  have hp0 : 0 < (2 : Nat) ^ n := Nat.two_pow_pos n
  have hd : (2 : Nat) ^ n ∣ 2 ^ 64 := Nat.pow_dvd_pow 2 (by omega)
  unfold Go.bits
  simp only [BitVec.toNat_and, BitVec.toNat_ofInt]
  rw [show IntKind.i64.bits = 64 from rfl]
  have e1 : ((((2 ^ n - 1 : Nat) : Int) % (2 ^ 64 : Nat)).toNat) = 2 ^ n - 1 := by
    have : ((2 ^ n - 1 : Nat) : Int) % (2 ^ 64 : Nat) = ((2 ^ n - 1 : Nat) : Int) := by
      apply Int.emod_eq_of_lt
      · omega
      · have : (2 : Nat) ^ n - 1 < 2 ^ 64 := by omega
        exact_mod_cast this
    rw [this]; rfl
  rw [e1, Nat.and_two_pow_sub_one_eq_mod]
  have e2 : (((a % (2 ^ 64 : Nat)).toNat % 2 ^ n : Nat) : Int) = a % (2 ^ n : Nat) := by
    have h0 : 0 ≤ a % (2 ^ 64 : Nat) := Int.emod_nonneg _ (by decide)
    rw [Int.natCast_emod, Int.toNat_of_nonneg h0]
    exact Int.emod_emod_of_dvd a (by exact_mod_cast hd)
  rw [e2, IntKind.wrap_i64]
  have h0 : 0 ≤ a % (2 ^ n : Nat) := Int.emod_nonneg _ (by exact_mod_cast (Nat.ne_of_gt hp0))
  have h1 : a % (2 ^ n : Nat) < (2 ^ n : Nat) := Int.emod_lt_of_pos _ (by exact_mod_cast hp0)
  have h2 : ((2 ^ n : Nat) : Int) ≤ 2 ^ 62 := by exact_mod_cast hp
  omega

theorem pb_and65535 (a : Int) : Go.bits .and .i64 a 65535 = a % 65536 := pb_and_mask a 16 (by decide)

theorem c_spec_l1In (a b c : Int) : spec_l1In.f a b c = some (decide (b ≤ a ∧ a ≤ c)) := by
  unfold spec_l1In.f; split
  · next h => congr 1; simp; omega
  · next h => congr 1; simp; omega

theorem c_impl_within (a b c : Int) : impl_within.f a b c = some (decide (b ≤ a ∧ a ≤ c)) := by
  unfold impl_within.f; split
  · next h => congr 1; simp; omega
  · next h => congr 1; simp; omega

def isW (a : Int) : Bool := decide (0 ≤ a ∧ a ≤ 65535)

theorem c_spec_l1Word (a : Int) : spec_l1Word.f a = some (isW a) := by
  unfold spec_l1Word.f; rw [c_spec_l1In]; rfl

theorem c_impl_isWord (a : Int) : impl_isWord.f a = some (isW a) := by
  unfold impl_isWord.f; rw [c_impl_within]; rfl

theorem c_spec_WordOf (a : Int) : spec_WordOf.f a = some (a % 65536) := by
  unfold spec_WordOf.f; rw [pb_u16, pb_wrap (by omega) (by omega)]

theorem c_impl_WordOf (a : Int) : impl_WordOf.f a = some (a % 65536) := by
  unfold impl_WordOf.f; rw [pb_and65535]

theorem c_impl_flag (b : Bool) : impl_flag.f b = some (if b then 1 else 0) := by
  unfold impl_flag.f; split <;> rfl

def mSigned (a : Int) : Int := (a + 32768) % 65536 - 32768

theorem c_spec_SignedOf (a : Int) : spec_SignedOf.f a = some (mSigned a) := by
  unfold spec_SignedOf.f mSigned; rw [pb_u16, pb_i16, pb_wrap (by omega) (by omega)]; congr 1; omega

theorem c_impl_SignedOf (a : Int) : impl_SignedOf.f a = some (mSigned a) := by
  unfold impl_SignedOf.f mSigned; rw [c_impl_WordOf]; simp only [Option.bind_some]
  split
  · rw [pb_wrap (by omega) (by omega)]; congr 1; omega
  · congr 1; omega

theorem pb_rd (xs : List Int) (i : Nat) (h : i < xs.length) : rd xs (i : Int) = xs[i] := by
  unfold rd; simp [List.getD_eq_getElem?_getD, h]

theorem pb_take_set {α : Type} (xs ys : List α) (i : Nat) (hx : i < xs.length) (hy : i < ys.length) (h : ys.take i = xs.take i) : (ys.set i xs[i]).take (i + 1) = xs.take (i + 1) := by
  rw [List.take_succ_eq_append_getElem (by simpa using hy), List.take_succ_eq_append_getElem hx, List.take_set, List.getElem_set_self]
  rw [List.set_eq_of_length_le (by simp; omega), h]

theorem l_laws_toInt64S (xs : List Int) (hn : xs.length ≤ 35184372088832) (d : Nat) : ∀ (k i : Nat) (ys : List Int), i + d = xs.length → d < k → ys.length = xs.length → ys.take i = xs.take i →
    laws_toInt64S.l0 k xs ys (i : Int) = some xs := by
  induction d with
  | zero =>
    intro k i ys hi hk hl ht
    obtain ⟨k, rfl⟩ : ∃ m, k = m + 1 := ⟨k - 1, by omega⟩
    simp only [laws_toInt64S.l0]; rw [if_neg (by omega)]
    rw [List.take_of_length_le (by omega), List.take_of_length_le (by omega)] at ht; rw [ht]
  | succ d ih =>
    intro k i ys hi hk hl ht
    obtain ⟨k, rfl⟩ : ∃ m, k = m + 1 := ⟨k - 1, by omega⟩
    have hlt : i < xs.length := by omega
    simp only [laws_toInt64S.l0]; rw [if_pos (by omega), if_pos (by omega), if_pos (by omega), pb_wrap (by omega) (by omega), pb_rd xs i hlt]
    exact ih k (i + 1) _ (by omega) (by omega) (by simpa using hl) (pb_take_set xs ys i hlt (by omega) ht)

theorem c_laws_toInt64S (k : Nat) (xs : List Int) (hn : xs.length ≤ 35184372088832) (hk : xs.length < k) : laws_toInt64S.f k xs = some xs := by
  unfold laws_toInt64S.f
  rw [if_pos (by omega), if_pos (by omega)]
  exact l_laws_toInt64S xs hn xs.length k 0 _ (by omega) hk (by simp) (by simp)

theorem l_laws_eqInt64S (xs ys : List Int) (hn : xs.length ≤ 35184372088832) (hl : xs.length = ys.length) (d : Nat) : ∀ (k i : Nat), i + d = xs.length → d < k →
    laws_eqInt64S.l0 k xs ys (i : Int) = some (decide (xs.drop i = ys.drop i)) := by
  induction d with
  | zero =>
    intro k i hi hk
    obtain ⟨k, rfl⟩ : ∃ m, k = m + 1 := ⟨k - 1, by omega⟩
    simp only [laws_eqInt64S.l0]; rw [if_neg (by omega), List.drop_of_length_le (by omega), List.drop_of_length_le (by omega)]; simp
  | succ d ih =>
    intro k i hi hk
    obtain ⟨k, rfl⟩ : ∃ m, k = m + 1 := ⟨k - 1, by omega⟩
    have hx : i < xs.length := by omega
    have hy : i < ys.length := by omega
    simp only [laws_eqInt64S.l0]
    rw [if_pos (by omega), if_pos (by omega), if_pos (by omega), pb_wrap (by omega) (by omega), pb_rd xs i hx, pb_rd ys i hy, List.drop_eq_getElem_cons hx, List.drop_eq_getElem_cons hy]
    by_cases h : xs[i] = ys[i]
    · rw [if_pos h]
      have := ih k (i + 1) (by omega) (by omega)
      rw [show ((i : Int) + 1) = ((i + 1 : Nat) : Int) by omega, this]; simp only [h, List.cons.injEq, true_and]
    · rw [if_neg h]; simp only [h, List.cons.injEq, false_and, decide_false]

theorem c_laws_eqInt64S (k : Nat) (xs ys : List Int) (hn : xs.length ≤ 35184372088832) (hk : xs.length < k) : laws_eqInt64S.f k xs ys = some (decide (xs = ys)) := by
  unfold laws_eqInt64S.f
  by_cases h : xs.length = ys.length
  · rw [if_pos (by omega)]
    have := l_laws_eqInt64S xs ys hn h xs.length k 0 (by omega) hk
    simpa using this
  · rw [if_neg (by omega)]; congr 1; symm; rw [decide_eq_false_iff_not]; intro e; exact h (by rw [e])

theorem c_laws_eqIntsResult (k : Nat) (a c : Int) (b d : List Int) (hn : b.length ≤ 35184372088832) (hk : b.length < k) : laws_eqIntsResult.f k a b c d = some (decide (a = c ∧ b = d)) := by
  unfold laws_eqIntsResult.f
  rw [c_laws_eqInt64S k b d hn hk]
  by_cases h : a = c <;> by_cases h' : b = d <;> simp [h, h']

theorem l_laws_markInt64S (d : Nat) : ∀ (k i : Nat) (xs : List Int) (m : Nat), xs.length ≤ 35184372088832 → i + d = xs.length → d < k → m + d ≤ 70368744177664 →
    laws_markInt64S.l0 k xs (m : Int) (i : Int) = some (((m + d : Nat) : Int), xs.take i ++ (List.range' m d).map (fun (j : Nat) => (j : Int))) := by
  induction d with
  | zero =>
    intro k i xs m hn hi hk hm
    obtain ⟨k, rfl⟩ : ∃ m, k = m + 1 := ⟨k - 1, by omega⟩
    simp only [laws_markInt64S.l0]; rw [if_neg (by omega), List.take_of_length_le (by omega)]; simp
  | succ d ih =>
    intro k i xs m hn hi hk hm
    obtain ⟨k, rfl⟩ : ∃ m, k = m + 1 := ⟨k - 1, by omega⟩
    have hlt : i < xs.length := by omega
    simp only [laws_markInt64S.l0]
    rw [if_pos (by omega), if_pos (by omega), pb_wrap (by omega) (by omega), pb_wrap (by omega) (by omega)]
    have := ih k (i + 1) (xs.set i (m : Int)) (m + 1) (by simpa using hn) (by simp; omega) (by omega) (by omega)
    rw [show ((i : Int) + 1) = ((i + 1 : Nat) : Int) by omega, show ((m : Int) + 1) = ((m + 1 : Nat) : Int) by omega, show ((i : Int).toNat) = i by omega, this]
    rw [List.take_succ_eq_append_getElem (by simpa using hlt), List.take_set, List.set_eq_of_length_le (by simp; omega), List.getElem_set_self]
    congr 2
    · omega
    · rw [List.range'_succ]; simp

theorem c_laws_markInt64S (k : Nat) (xs : List Int) (m : Nat) (hn : xs.length ≤ 35184372088832) (hk : xs.length < k) (hm : m ≤ 35184372088832) :
    laws_markInt64S.f k xs (m : Int) = some (((m + xs.length : Nat) : Int), (List.range' m xs.length).map (fun (j : Nat) => (j : Int))) := by
  unfold laws_markInt64S.f
  have := l_laws_markInt64S xs.length k 0 xs m hn (by omega) hk (by omega)
  simpa using this

theorem l_laws_heldInt64S (d : Nat) : ∀ (k i : Nat) (xs : List Int) (m : Nat), xs.length ≤ 35184372088832 → i + d = xs.length → d < k → m + d ≤ 70368744177664 → xs.drop i = (List.range' m d).map (fun (j : Nat) => (j : Int)) →
    laws_heldInt64S.l0 k xs (m : Int) (i : Int) = some ((m + d : Nat) : Int) := by
  induction d with
  | zero =>
    intro k i xs m hn hi hk hm hx
    obtain ⟨k, rfl⟩ : ∃ m, k = m + 1 := ⟨k - 1, by omega⟩
    simp only [laws_heldInt64S.l0]; rw [if_neg (by omega)]; simp
  | succ d ih =>
    intro k i xs m hn hi hk hm hx
    obtain ⟨k, rfl⟩ : ∃ m, k = m + 1 := ⟨k - 1, by omega⟩
    have hlt : i < xs.length := by omega
    rw [List.drop_eq_getElem_cons hlt, List.range'_succ, List.map_cons, List.cons.injEq] at hx
    simp only [laws_heldInt64S.l0]
    rw [if_pos (by omega), if_pos (by omega), pb_rd xs i hlt, if_pos hx.1, pb_wrap (by omega) (by omega), pb_wrap (by omega) (by omega)]
    have := ih k (i + 1) xs (m + 1) hn (by omega) (by omega) (by omega) hx.2
    rw [show ((i : Int) + 1) = ((i + 1 : Nat) : Int) by omega, show ((m : Int) + 1) = ((m + 1 : Nat) : Int) by omega, this]
    congr 2; omega

theorem c_laws_heldInt64S (k : Nat) (n m : Nat) (hn : n ≤ 35184372088832) (hk : n < k) (hm : m ≤ 35184372088832) :
    laws_heldInt64S.f k ((List.range' m n).map (fun (j : Nat) => (j : Int))) (m : Int) = some ((m + n : Nat) : Int) := by
  unfold laws_heldInt64S.f
  exact l_laws_heldInt64S n k 0 _ m (by simpa using hn) (by simp) hk (by omega) (by simp)

theorem l_impl_areWords (xs : List Int) (hn : xs.length ≤ 35184372088832) (d : Nat) : ∀ (k i : Nat), i + d = xs.length → d < k →
    impl_areWords.l0 k xs (xs.length : Int) (i : Int) = some ((xs.drop i).all isW) := by
  induction d with
  | zero =>
    intro k i hi hk
    obtain ⟨k, rfl⟩ : ∃ m, k = m + 1 := ⟨k - 1, by omega⟩
    simp only [impl_areWords.l0]; rw [if_neg (by omega), List.drop_of_length_le (by omega)]; rfl
  | succ d ih =>
    intro k i hi hk
    obtain ⟨k, rfl⟩ : ∃ m, k = m + 1 := ⟨k - 1, by omega⟩
    have hlt : i < xs.length := by omega
    simp only [impl_areWords.l0]; rw [if_pos (by omega), if_pos (by omega), if_pos (by omega), pb_rd xs i hlt, c_impl_isWord, pb_wrap (by omega) (by omega), List.drop_eq_getElem_cons hlt]
    simp only [Option.bind_some, List.all_cons]
    cases h : isW xs[i] with
    | true => simp only [if_true, Bool.true_and]; exact ih k (i + 1) (by omega) (by omega)
    | false => simp

theorem c_impl_areWords (k : Nat) (xs : List Int) (hn : xs.length ≤ 35184372088832) (hk : xs.length < k) : impl_areWords.f k xs = some (xs.all isW) := by
  unfold impl_areWords.f
  have := l_impl_areWords xs hn xs.length k 0 (by omega) hk
  simpa using this

theorem isW_iff (a : Int) : isW a = true ↔ 0 ≤ a ∧ a < 65536 := by
  unfold isW; rw [decide_eq_true_eq]; omega

theorem c_spec_l2Bit (b : Bool) : spec_l2Bit.f b = some (if b then 1 else 0) := by
  unfold spec_l2Bit.f; split <;> rfl

def mMark (m n : Nat) : List Int := (List.range' m n).map (fun (j : Nat) => (j : Int))

theorem c_laws_markIntsResult (k : Nat) (a : Int) (xs : List Int) (m : Nat) (hn : xs.length ≤ 35184372088832) (hk : xs.length < k) (hm : m ≤ 35184372088832) :
    laws_markIntsResult.f k a xs (m : Int) = some (((m + xs.length : Nat) : Int), mMark m xs.length) := by
  unfold laws_markIntsResult.f; rw [c_laws_markInt64S k xs m hn hk hm]; rfl

theorem c_laws_heldIntsResult (k : Nat) (a : Int) (m n : Nat) (hn : n ≤ 35184372088832) (hk : n < k) (hm : m ≤ 35184372088832) :
    laws_heldIntsResult.f k a (mMark m n) (m : Int) = some ((m + n : Nat) : Int) := by
  unfold laws_heldIntsResult.f mMark; rw [c_laws_heldInt64S k n m hn hk hm]; simp only [Option.bind_some]; rw [if_neg (by omega)]

def mFlag (b : Bool) : Int := if b then 1 else 0

def mCount (x0 x1 a0 a1 : Int) : Int := if a1 = 0 then (if a0 = 0 then x0 else if x1 = 0 then (if mSigned x0 < 32767 then (x0 + 1) % 65536 else x0) else x0) else 0

def mTime (x0 a0 a1 : Int) : Int := if a0 = 0 then 0 else if mSigned x0 < mSigned a1 then (x0 + 1) % 65536 else x0

def mOwns (op : Int) : Int := if op = 1 then 3 else if op = 2 then 2 else if op = 3 then 2 else 1

def mNeeds (op : Int) : Int := if op = 1 then 3 else if op = 2 then 2 else if op = 3 then 1 else 2

def mBlkStep (op : Int) : List Int → List Int → List Int
  | [x0, x1, _], [a0, a1, a2] => [mCount x0 x1 a0 a1, mFlag (a0 != 0), mFlag (decide (mSigned (mCount x0 x1 a0 a1) ≥ mSigned a2))]
  | [x0, _], [a0, a1] => [mTime x0 a0 a1, mFlag ((a0 != 0) && decide (mSigned (mTime x0 a0 a1) ≥ mSigned a1))]
  | [x0, _], [a0] => [mFlag (a0 != 0), mFlag ((a0 != 0) && (x0 == 0))]
  | [x0], [a0, a1] => [mFlag ((a0 != 0) || (x0 != 0) && (a1 == 0))]
  | _, _ => []

theorem isW_wrap (x : Int) (h : isW x = true) : wrap64 (x + 1) = x + 1 := by
  have := (isW_iff x).1 h
  exact pb_wrap (by omega) (by omega)

theorem c_impl_blockStep1 (x0 x1 x2 a0 a1 a2 : Int) (hx : isW x0 = true) : impl_blockStep.f 1 [x0, x1, x2] [a0, a1, a2] = some (mBlkStep 1 [x0, x1, x2] [a0, a1, a2]) := by
  have r0 : rd [x0, x1, x2] 0 = x0 := rfl
  have r1 : rd [x0, x1, x2] 1 = x1 := rfl
  have s0 : rd [a0, a1, a2] 0 = a0 := rfl
  have s1 : rd [a0, a1, a2] 1 = a1 := rfl
  have s2 : rd [a0, a1, a2] 2 = a2 := rfl
  unfold impl_blockStep.f impl_blockStepK.f mBlkStep mCount mFlag
  simp only [r0, r1, s0, s1, s2, isW_wrap x0 hx, impl_blockStepK.j0, c_impl_SignedOf, c_impl_WordOf, c_impl_flag, Option.bind_some, List.length_cons, List.length_nil, if_true]
  by_cases h1 : a1 = 0
  · by_cases h2 : a0 = 0
    · simp [h1, h2]
    · by_cases h3 : x1 = 0
      · by_cases h4 : mSigned x0 < 32767 <;> simp [h1, h2, h3, h4]
      · simp [h1, h2, h3]
  · simp [h1]

theorem c_spec_l6Block1 (k : Nat) (hk : 1 ≤ k) (x0 x1 x2 a0 a1 a2 : Int) (hx : isW x0 = true) : spec_l6Block.f k 1 [x0, x1, x2] [a0, a1, a2] = some (mBlkStep 1 [x0, x1, x2] [a0, a1, a2]) := by
  obtain ⟨k, rfl⟩ : ∃ m, k = m + 1 := ⟨k - 1, by omega⟩
  have r0 : rd [x0, x1, x2] 0 = x0 := rfl
  have r1 : rd [x0, x1, x2] 1 = x1 := rfl
  have s0 : rd [a0, a1, a2] 0 = a0 := rfl
  have s1 : rd [a0, a1, a2] 1 = a1 := rfl
  have s2 : rd [a0, a1, a2] 2 = a2 := rfl
  unfold spec_l6Block.f mBlkStep mCount mFlag
  simp only [r0, r1, s0, s1, s2, isW_wrap x0 hx, spec_l6Block.j0, c_spec_SignedOf, c_spec_WordOf, spec_l6Least.f, c_spec_l2Bit, Option.bind_some, List.length_cons, List.length_nil, if_true]
  by_cases h1 : a1 = 0
  · by_cases h2 : a0 = 0
    · simp [h1, h2]
    · by_cases h3 : x1 = 0
      · by_cases h4 : mSigned x0 < 32767 <;> simp [h1, h2, h3, h4]
      · simp [h1, h2, h3]
  · simp [h1]

theorem c_impl_blockStep2 (x0 x1 a0 a1 : Int) (hx : isW x0 = true) : impl_blockStep.f 2 [x0, x1] [a0, a1] = some (mBlkStep 2 [x0, x1] [a0, a1]) := by
  have r0 : rd [x0, x1] 0 = x0 := rfl
  have s0 : rd [a0, a1] 0 = a0 := rfl
  have s1 : rd [a0, a1] 1 = a1 := rfl
  unfold impl_blockStep.f impl_blockStepK.f mBlkStep mTime mFlag
  simp only [r0, s0, s1, isW_wrap x0 hx, impl_blockStepK.j1, c_impl_SignedOf, c_impl_WordOf, c_impl_flag, Option.bind_some, List.length_cons, List.length_nil, if_true]
  by_cases h2 : a0 = 0
  · simp [h2]
  · by_cases h4 : mSigned x0 < mSigned a1 <;> simp [h2, h4]

theorem c_spec_l6Block2 (k : Nat) (hk : 1 ≤ k) (x0 x1 a0 a1 : Int) (hx : isW x0 = true) : spec_l6Block.f k 2 [x0, x1] [a0, a1] = some (mBlkStep 2 [x0, x1] [a0, a1]) := by
  obtain ⟨k, rfl⟩ : ∃ m, k = m + 1 := ⟨k - 1, by omega⟩
  have r0 : rd [x0, x1] 0 = x0 := rfl
  have s0 : rd [a0, a1] 0 = a0 := rfl
  have s1 : rd [a0, a1] 1 = a1 := rfl
  unfold spec_l6Block.f mBlkStep mTime mFlag
  simp only [r0, s0, s1, isW_wrap x0 hx, spec_l6Block.j1, c_spec_SignedOf, c_spec_WordOf, c_spec_l2Bit, Option.bind_some, List.length_cons, List.length_nil, if_true]
  by_cases h2 : a0 = 0
  · simp [h2]
  · by_cases h4 : mSigned x0 < mSigned a1 <;> simp [h2, h4]

theorem c_impl_blockStep3 (x0 x1 a0 : Int) : impl_blockStep.f 3 [x0, x1] [a0] = some (mBlkStep 3 [x0, x1] [a0]) := by
  have r0 : rd [x0, x1] 0 = x0 := rfl
  have s0 : rd [a0] 0 = a0 := rfl
  unfold impl_blockStep.f impl_blockStepK.f mBlkStep mFlag
  simp only [r0, s0, c_impl_flag, Option.bind_some, List.length_cons, List.length_nil, if_true]
  by_cases h2 : a0 = 0 <;> simp [h2]

theorem c_spec_l6Block3 (k : Nat) (x0 x1 a0 : Int) : spec_l6Block.f k 3 [x0, x1] [a0] = some (mBlkStep 3 [x0, x1] [a0]) := by
  have r0 : rd [x0, x1] 0 = x0 := rfl
  have s0 : rd [a0] 0 = a0 := rfl
  unfold spec_l6Block.f mBlkStep mFlag
  simp only [r0, s0, spec_l6Least.f, c_spec_l2Bit, Option.bind_some, List.length_cons, List.length_nil, if_true]
  by_cases h2 : a0 = 0 <;> simp [h2]

theorem c_impl_blockStep4 (x0 a0 a1 : Int) : impl_blockStep.f 4 [x0] [a0, a1] = some (mBlkStep 4 [x0] [a0, a1]) := by
  have r0 : rd [x0] 0 = x0 := rfl
  have s0 : rd [a0, a1] 0 = a0 := rfl
  have s1 : rd [a0, a1] 1 = a1 := rfl
  unfold impl_blockStep.f impl_blockStepK.f mBlkStep mFlag
  simp only [r0, s0, s1, c_impl_flag, Option.bind_some, List.length_cons, List.length_nil, if_true]
  by_cases h2 : a0 = 0
  · by_cases h3 : x0 = 0 <;> simp [h2, h3]
  · simp [h2]

theorem c_spec_l6Block4 (k : Nat) (x0 a0 a1 : Int) : spec_l6Block.f k 4 [x0] [a0, a1] = some (mBlkStep 4 [x0] [a0, a1]) := by
  have r0 : rd [x0] 0 = x0 := rfl
  have s0 : rd [a0, a1] 0 = a0 := rfl
  have s1 : rd [a0, a1] 1 = a1 := rfl
  unfold spec_l6Block.f mBlkStep mFlag
  simp only [r0, s0, s1, c_spec_l2Bit, Option.bind_some, List.length_cons, List.length_nil, if_true]
  by_cases h2 : a0 = 0
  · by_cases h3 : x0 = 0 <;> simp [h2, h3]
  · simp [h2]

theorem pb_len1 (l : List Int) (h : l.length = 1) : ∃ a, l = [a] := by
  match l, h with
  | [a], _ => exact ⟨a, rfl⟩

theorem pb_len2 (l : List Int) (h : l.length = 2) : ∃ a b, l = [a, b] := by
  match l, h with
  | [a, b], _ => exact ⟨a, b, rfl⟩

theorem pb_len3 (l : List Int) (h : l.length = 3) : ∃ a b c, l = [a, b, c] := by
  match l, h with
  | [a, b, c], _ => exact ⟨a, b, c, rfl⟩

theorem c_blockSteps (k : Nat) (hk : 1 ≤ k) (op : Int) (l1 l2 : List Int) (ho : 1 ≤ op ∧ op ≤ 4) (h1 : (l1.length : Int) = mOwns op) (h2 : (l2.length : Int) = mNeeds op) (hw : l1.all isW = true) :
    impl_blockStep.f op l1 l2 = some (mBlkStep op l1 l2) ∧ spec_l6Block.f k op l1 l2 = some (mBlkStep op l1 l2) := by
  have hx : ∀ x ∈ l1, isW x = true := by rw [List.all_eq_true] at hw; exact hw
  have : op = 1 ∨ op = 2 ∨ op = 3 ∨ op = 4 := by omega
  rcases this with rfl | rfl | rfl | rfl
  · obtain ⟨x0, x1, x2, rfl⟩ := pb_len3 l1 (by have h := h1; simp [mOwns] at h; omega)
    obtain ⟨a0, a1, a2, rfl⟩ := pb_len3 l2 (by have h := h2; simp [mNeeds] at h; omega)
    exact ⟨c_impl_blockStep1 _ _ _ _ _ _ (hx _ (by simp)), c_spec_l6Block1 k hk _ _ _ _ _ _ (hx _ (by simp))⟩
  · obtain ⟨x0, x1, rfl⟩ := pb_len2 l1 (by have h := h1; simp [mOwns] at h; omega)
    obtain ⟨a0, a1, rfl⟩ := pb_len2 l2 (by have h := h2; simp [mNeeds] at h; omega)
    exact ⟨c_impl_blockStep2 _ _ _ _ (hx _ (by simp)), c_spec_l6Block2 k hk _ _ _ _ (hx _ (by simp))⟩
  · obtain ⟨x0, x1, rfl⟩ := pb_len2 l1 (by have h := h1; simp [mOwns] at h; omega)
    obtain ⟨a0, rfl⟩ := pb_len1 l2 (by have h := h2; simp [mNeeds] at h; omega)
    exact ⟨c_impl_blockStep3 _ _ _, c_spec_l6Block3 k _ _ _⟩
  · obtain ⟨x0, rfl⟩ := pb_len1 l1 (by have h := h1; simp [mOwns] at h; omega)
    obtain ⟨a0, a1, rfl⟩ := pb_len2 l2 (by have h := h2; simp [mNeeds] at h; omega)
    exact ⟨c_impl_blockStep4 _ _ _, c_spec_l6Block4 k _ _ _⟩

theorem l_spec_l6All (xs : List Int) (hn : xs.length ≤ 35184372088832) (d : Nat) : ∀ (k i : Nat), i + d = xs.length → d < k →
    spec_l6All.l0 k xs (i : Int) = some ((xs.drop i).all isW) := by
  induction d with
  | zero =>
    intro k i hi hk
    obtain ⟨k, rfl⟩ : ∃ m, k = m + 1 := ⟨k - 1, by omega⟩
    simp only [spec_l6All.l0]; rw [if_neg (by omega), List.drop_of_length_le (by omega)]; rfl
  | succ d ih =>
    intro k i hi hk
    obtain ⟨k, rfl⟩ : ∃ m, k = m + 1 := ⟨k - 1, by omega⟩
    have hlt : i < xs.length := by omega
    simp only [spec_l6All.l0]; rw [if_pos (by omega), if_pos (by omega), pb_rd xs i hlt, c_spec_l1Word, pb_wrap (by omega) (by omega), List.drop_eq_getElem_cons hlt]
    simp only [Option.bind_some, List.all_cons]
    cases h : isW xs[i] with
    | true => simp only [if_true, Bool.true_and]; exact ih k (i + 1) (by omega) (by omega)
    | false => simp

theorem c_spec_l6All (k : Nat) (xs : List Int) (hn : xs.length ≤ 35184372088832) (hk : xs.length < k) : spec_l6All.f k xs = some (xs.all isW) := by
  unfold spec_l6All.f
  have := l_spec_l6All xs hn xs.length k 0 (by omega) hk
  simpa using this

theorem c_spec_l6Own (op : Int) : spec_l6Own.f op = some (mOwns op) := by
  have e : ∀ (a1 : ByteArray) (a2 : Int), a1.size ≤ 1 → spec_l5Var.f (⟨#[]⟩ : ByteArray) a1 a2 = some ((⟨#[]⟩ : ByteArray) ++ a1, 3, a2, 0) := by
    intro a1 a2 h
    unfold spec_l5Var.f
    rw [if_pos (by show 0 + a1.size ≤ _; omega)]
  unfold spec_l6Own.f spec_l5Own.f mOwns
  rw [e _ _ (by decide), e _ _ (by decide), e _ _ (by decide)]
  simp only [Option.bind_some]
  by_cases h1 : op = 1
  · simp [h1]
  by_cases h2 : op = 2
  · simp [h2]
  by_cases h3 : op = 3
  · simp [h3]
  simp [h1, h2, h3]

theorem c_spec_l5Args (op : Int) : ∃ l, spec_l5Args.f op = some l ∧ (l.length : Int) = mNeeds op := by
  unfold spec_l5Args.f mNeeds
  by_cases h1 : op = 1
  · exact ⟨_, by rw [if_pos h1], by simp [h1]⟩
  by_cases h2 : op = 2
  · exact ⟨_, by rw [if_neg h1, if_pos h2], by simp [h2]⟩
  by_cases h3 : op = 3
  · exact ⟨_, by rw [if_neg h1, if_neg h2, if_pos h3], by simp [h3]⟩
  exact ⟨_, by rw [if_neg h1, if_neg h2, if_neg h3], by simp [h1, h2, h3]⟩

theorem c_impl_needed (op : Int) : ∃ l, impl_needed.f op = some l ∧ (l.length : Int) = mNeeds op := by
  unfold impl_needed.f mNeeds
  by_cases h1 : op = 1
  · exact ⟨_, by rw [if_pos h1], by simp [h1]⟩
  by_cases h2 : op = 2
  · exact ⟨_, by rw [if_neg h1, if_pos h2], by simp [h2]⟩
  by_cases h3 : op = 3
  · exact ⟨_, by rw [if_neg h1, if_neg h2, if_pos h3], by simp [h3]⟩
  exact ⟨_, by rw [if_neg h1, if_neg h2, if_neg h3], by simp [h1, h2, h3]⟩

def mBStep (op : Int) (l1 l2 : List Int) : Int × List Int :=
  if 1 ≤ op ∧ op ≤ 4 then (if (l1.length : Int) = mOwns op ∧ (l2.length : Int) = mNeeds op ∧ l1.all isW = true ∧ l2.all isW = true then (0, mBlkStep op l1 l2) else (1, [])) else (3, [])

theorem mOwns_range (op : Int) : 1 ≤ mOwns op ∧ mOwns op ≤ 3 := by
  unfold mOwns
  repeat' split
  all_goals omega

theorem mNeeds_range (op : Int) : 1 ≤ mNeeds op ∧ mNeeds op ≤ 3 := by
  unfold mNeeds
  repeat' split
  all_goals omega

theorem c_spec_BlockStep (k : Nat) (hk : 10 ≤ k) (op : Int) (l1 l2 : List Int) : spec_BlockStep.f k op l1 l2 = some (mBStep op l1 l2) := by
  unfold spec_BlockStep.f mBStep
  rw [c_spec_l1In, c_spec_l6Own]
  obtain ⟨l, hl, hn⟩ := c_spec_l5Args op
  have ro := mOwns_range op
  have rn := mNeeds_range op
  rw [hl]
  simp only [Option.bind_some, decide_eq_true_eq]
  by_cases ho : 1 ≤ op ∧ op ≤ 4
  · rw [if_pos ho, if_pos ho]
    by_cases h1 : (l1.length : Int) = mOwns op
    · rw [if_pos h1, hn]
      by_cases h2 : (l2.length : Int) = mNeeds op
      · rw [if_pos h2, c_spec_l6All k l1 (by omega) (by omega), c_spec_l6All k l2 (by omega) (by omega)]
        simp only [Option.bind_some]
        by_cases w1 : l1.all isW = true
        · by_cases w2 : l2.all isW = true
          · rw [if_pos w1, if_pos w2, (c_blockSteps k (by omega) op l1 l2 ho h1 h2 w1).2, if_pos ⟨h1, h2, w1, w2⟩]; rfl
          · rw [if_pos w1, if_neg w2, if_neg (fun h => w2 h.2.2.2)]
        · rw [if_neg w1, if_neg (fun h => w1 h.2.2.1)]
      · rw [if_neg h2, if_neg (fun h => h2 h.2.1)]
    · rw [if_neg h1, if_neg (fun h => h1 h.1)]
  · rw [if_neg ho, if_neg ho]

theorem c_impl_BlockStep (k : Nat) (hk : 10 ≤ k) (op : Int) (l1 l2 : List Int) : impl_BlockStep.f k op l1 l2 = some (mBStep op l1 l2) := by
  unfold impl_BlockStep.f mBStep
  rw [c_impl_within]
  obtain ⟨l, hl, hn⟩ := c_impl_needed op
  have ro := mOwns_range op
  have rn := mNeeds_range op
  rw [hl]
  simp only [Option.bind_some, decide_eq_true_eq]
  by_cases ho : 1 ≤ op ∧ op ≤ 4
  · have hr : rd [0, 3, 2, 2, 1] op = mOwns op := by
      have : op = 1 ∨ op = 2 ∨ op = 3 ∨ op = 4 := by omega
      rcases this with rfl | rfl | rfl | rfl <;> decide +kernel
    rw [if_pos ho, if_pos ho, if_pos (by omega), if_pos (by show op < ((5 : Nat) : Int); omega), hr]
    by_cases h1 : (l1.length : Int) = mOwns op
    · rw [if_pos h1, hn]
      by_cases h2 : (l2.length : Int) = mNeeds op
      · rw [if_pos h2, c_impl_areWords k l1 (by omega) (by omega), c_impl_areWords k l2 (by omega) (by omega)]
        simp only [Option.bind_some]
        by_cases w1 : l1.all isW = true
        · by_cases w2 : l2.all isW = true
          · rw [if_pos w1, if_pos w2, (c_blockSteps k (by omega) op l1 l2 ho h1 h2 w1).1, if_pos ⟨h1, h2, w1, w2⟩]; rfl
          · rw [if_pos w1, if_neg w2, if_neg (fun h => w2 h.2.2.2)]
        · rw [if_neg w1, if_neg (fun h => w1 h.2.2.1)]
      · rw [if_neg h2, if_neg (fun h => h2 h.2.1)]
    · rw [if_neg h1, if_neg (fun h => h1 h.1)]
  · rw [if_neg ho, if_neg ho]

theorem mBlkStep_len (op : Int) (l1 l2 : List Int) : (mBlkStep op l1 l2).length ≤ 3 := by
  unfold mBlkStep; split <;> simp

theorem mBStep_len (op : Int) (l1 l2 : List Int) : (mBStep op l1 l2).2.length ≤ 3 := by
  unfold mBStep
  split
  · split
    · exact mBlkStep_len op l1 l2
    · simp
  · simp

theorem FnExactBlockStep : laws_FnExactBlockStep.Pure := by
  intro op l1 l2 _ _ hn _ _ hm _
  suffices key : ∀ k, l1.length + l2.length + 1000 ≤ k → laws_FnExactBlockStep.f (k + 1) op l1 l2 = some true from ⟨_, key _ (Nat.le_refl _)⟩
  intro k hk
  have hl := mBStep_len op l1 l2
  unfold laws_FnExactBlockStep.f
  split
  · rfl
  split
  · rfl
  rw [c_laws_toInt64S _ l1 (by omega) (by omega), c_laws_toInt64S _ l2 (by omega) (by omega)]
  simp only [Option.bind_some]
  rw [c_spec_BlockStep _ (by omega) op l1 l2, c_impl_BlockStep _ (by omega) op l1 l2, c_laws_eqInt64S _ l1 l1 (by omega) (by omega), c_laws_eqInt64S _ l2 l2 (by omega) (by omega)]
  simp only [Option.bind_some]
  rw [c_laws_eqIntsResult _ _ _ _ _ (by omega) (by omega)]
  simp only [Option.bind_some, and_self, decide_true, if_true]
  rw [show (1 : Int) = ((1 : Nat) : Int) from rfl, c_laws_markInt64S _ l1 1 (by omega) (by omega) (by omega)]
  simp only [Option.bind_some]
  rw [c_laws_markInt64S _ l2 (1 + l1.length) (by omega) (by omega) (by omega)]
  simp only [Option.bind_some]
  rw [if_neg (by omega)]
  simp only [Bool.not_true, laws_FnExactBlockStep.j0]
  rw [show (1 : Int) = ((1 : Nat) : Int) from rfl, c_laws_markIntsResult _ _ _ 1 (by omega) (by omega) (by omega)]
  simp only [Option.bind_some, Bool.false_eq_true, if_false]
  rw [c_laws_heldIntsResult _ _ 1 _ (by omega) (by omega) (by omega)]
  simp only [Option.bind_some]
  rw [if_neg (by omega), if_pos trivial, c_laws_toInt64S _ l1 (by omega) (by omega), c_laws_toInt64S _ l2 (by omega) (by omega)]
  simp only [Option.bind_some]
  rw [c_impl_BlockStep _ (by omega) op l1 l2]
  simp only [Option.bind_some]
  rw [c_laws_eqIntsResult _ _ _ _ _ (by omega) (by omega)]
  simp only [Option.bind_some, and_self, decide_true, if_true]
  rw [if_neg (by omega)]

end Go.Proofs.Ytklhfhnplldgjaa.Pure
