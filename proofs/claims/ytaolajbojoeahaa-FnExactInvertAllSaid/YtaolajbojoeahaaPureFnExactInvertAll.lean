/- Proved: for all arguments the law FnExactInvertAll of the given program returns true and leaves its arguments as they were. Conditions: none but those that the given row itself states. -/
import Derived.Test.YtaolajbojoeahaaPFnExactInvertAllx3
import Derived.Test.YtaolajbojoeahaaWSized
set_option linter.unusedVariables false
set_option linter.unusedSimpArgs false
namespace Go.Proofs.Ytaolajbojoeahaa
abbrev PrintWords.sized_ints := @Go.Proofs.YtaolajbojoeahaaW.PrintWords.sized_ints
end Go.Proofs.Ytaolajbojoeahaa
namespace Go.Proofs.Ytaolajbojoeahaa.Pure
open Go Go.RowKit Go.Proofs.Ytaolajbojoeahaa.PFnExactInvertAll Go.Proofs.YtaolajbojoeahaaW.PrintWords Go.Proofs.YtaolajbojoeahaaW.PrintLast

theorem pb_wrap {a : Int} (h : -9223372036854775808 ≤ a) (h' : a ≤ 9223372036854775807) : wrap64 a = a := by
  unfold wrap64; omega

theorem pb_u16 (a : Int) : IntKind.u16.wrap a = a % 65536 := by simp [IntKind.wrap, IntKind.bits, IntKind.signed]

theorem pb_and_mask (a : Int) (n : Nat) (hn : n ≤ 62) : Go.bits .and .i64 a ((2 ^ n - 1 : Nat) : Int) = a % (2 ^ n : Nat) := by
  have hp : (2 : Nat) ^ n ≤ 2 ^ 62 := Nat.pow_le_pow_right (by decide) hn
  have hp0 : 0 < (2 : Nat) ^ n := Nat.two_pow_pos n
  have hd : (2 : Nat) ^ n ∣ 2 ^ 64 := Nat.pow_dvd_pow 2 (by omega)
  unfold Go.bits
  simp only [BitVec.toNat_and, BitVec.toNat_ofInt]
  rw [show IntKind.i64.bits = 64 from rfl]
  have e1 : ((((2 ^ n - 1 : Nat) : Int) % (2 ^ 64 : Nat)).toNat) = 2 ^ n - 1 := by
    have : ((2 ^ n - 1 : Nat) : Int) % (2 ^ 64 : Nat) = ((2 ^ n - 1 : Nat) : Int) := by
      apply Int.emod_eq_of_lt
      · omega
      · have : (2 : Nat) ^ n - 1 < 2 ^ 64 := by omega
        exact_mod_cast this
    rw [this]; rfl
  rw [e1, Nat.and_two_pow_sub_one_eq_mod]
  have e2 : (((a % (2 ^ 64 : Nat)).toNat % 2 ^ n : Nat) : Int) = a % (2 ^ n : Nat) := by
    have h0 : 0 ≤ a % (2 ^ 64 : Nat) := Int.emod_nonneg _ (by decide)
    rw [Int.natCast_emod, Int.toNat_of_nonneg h0]
    exact Int.emod_emod_of_dvd a (by exact_mod_cast hd)
  rw [e2, IntKind.wrap_i64]
  have h0 : 0 ≤ a % (2 ^ n : Nat) := Int.emod_nonneg _ (by exact_mod_cast (Nat.ne_of_gt hp0))
  have h1 : a % (2 ^ n : Nat) < (2 ^ n : Nat) := Int.emod_lt_of_pos _ (by exact_mod_cast hp0)
  have h2 : ((2 ^ n : Nat) : Int) ≤ 2 ^ 62 := by exact_mod_cast hp
  omega

theorem pb_and65535 (a : Int) : Go.bits .and .i64 a 65535 = a % 65536 := pb_and_mask a 16 (by decide)

theorem c_spec_l1In (a b c : Int) : spec_l1In.f a b c = some (decide (b ≤ a ∧ a ≤ c)) := by
  unfold spec_l1In.f; split
  · next h => congr 1; simp; omega
  · next h => congr 1; simp; omega

theorem c_impl_within (a b c : Int) : impl_within.f a b c = some (decide (b ≤ a ∧ a ≤ c)) := by
  unfold impl_within.f; split
  · next h => congr 1; simp; omega
  · next h => congr 1; simp; omega

def isW (a : Int) : Bool := decide (0 ≤ a ∧ a ≤ 65535)

theorem c_spec_l1Word (a : Int) : spec_l1Word.f a = some (isW a) := by
  unfold spec_l1Word.f; rw [c_spec_l1In]; rfl

theorem c_impl_isWord (a : Int) : impl_isWord.f a = some (isW a) := by
  unfold impl_isWord.f; rw [c_impl_within]; rfl

theorem c_spec_WordOf (a : Int) : spec_WordOf.f a = some (a % 65536) := by
  unfold spec_WordOf.f; rw [pb_u16, pb_wrap (by omega) (by omega)]

theorem c_impl_WordOf (a : Int) : impl_WordOf.f a = some (a % 65536) := by
  unfold impl_WordOf.f; rw [pb_and65535]

def mCompl (a : Int) : Int := 65535 - a % 65536

theorem c_spec_Complement (a : Int) : spec_Complement.f a = some (mCompl a) := by
  unfold spec_Complement.f mCompl; rw [c_spec_WordOf]; simp only [Option.bind_some]
  rw [pb_wrap (by omega) (by omega)]

theorem c_impl_Complement (a : Int) : impl_Complement.f a = some (mCompl a) := by
  unfold impl_Complement.f mCompl; rw [c_impl_WordOf]; simp only [Option.bind_some]
  rw [pb_wrap (by omega) (by omega)]

theorem pb_rd (xs : List Int) (i : Nat) (h : i < xs.length) : rd xs (i : Int) = xs[i] := by
  unfold rd; simp [List.getD_eq_getElem?_getD, h]

theorem pb_take_set {α : Type} (xs ys : List α) (i : Nat) (hx : i < xs.length) (hy : i < ys.length) (h : ys.take i = xs.take i) : (ys.set i xs[i]).take (i + 1) = xs.take (i + 1) := by
  rw [List.take_succ_eq_append_getElem (by simpa using hy), List.take_succ_eq_append_getElem hx, List.take_set, List.getElem_set_self]
  rw [List.set_eq_of_length_le (by simp; omega), h]

theorem l_laws_toInt64S (xs : List Int) (hn : xs.length ≤ 35184372088832) (d : Nat) : ∀ (k i : Nat) (ys : List Int), i + d = xs.length → d < k → ys.length = xs.length → ys.take i = xs.take i →
    laws_toInt64S.l0 k xs ys (i : Int) = some xs := by
  induction d with
  | zero =>
    intro k i ys hi hk hl ht
    obtain ⟨k, rfl⟩ : ∃ m, k = m + 1 := ⟨k - 1, by omega⟩
    simp only [laws_toInt64S.l0]; rw [if_neg (by omega)]
    rw [List.take_of_length_le (by omega), List.take_of_length_le (by omega)] at ht; rw [ht]
  | succ d ih =>
    intro k i ys hi hk hl ht
    obtain ⟨k, rfl⟩ : ∃ m, k = m + 1 := ⟨k - 1, by omega⟩
    have hlt : i < xs.length := by omega
    simp only [laws_toInt64S.l0]; rw [if_pos (by omega), if_pos (by omega), if_pos (by omega), pb_wrap (by omega) (by omega), pb_rd xs i hlt]
    exact ih k (i + 1) _ (by omega) (by omega) (by simpa using hl) (pb_take_set xs ys i hlt (by omega) ht)

theorem c_laws_toInt64S (k : Nat) (xs : List Int) (hn : xs.length ≤ 35184372088832) (hk : xs.length < k) : laws_toInt64S.f k xs = some xs := by
  unfold laws_toInt64S.f
  rw [if_pos (by omega), if_pos (by omega)]
  exact l_laws_toInt64S xs hn xs.length k 0 _ (by omega) hk (by simp) (by simp)

theorem l_laws_eqInt64S (xs ys : List Int) (hn : xs.length ≤ 35184372088832) (hl : xs.length = ys.length) (d : Nat) : ∀ (k i : Nat), i + d = xs.length → d < k →
    laws_eqInt64S.l0 k xs ys (i : Int) = some (decide (xs.drop i = ys.drop i)) := by
  induction d with
  | zero =>
    intro k i hi hk
    obtain ⟨k, rfl⟩ : ∃ m, k = m + 1 := ⟨k - 1, by omega⟩
    simp only [laws_eqInt64S.l0]; rw [if_neg (by omega), List.drop_of_length_le (by omega), List.drop_of_length_le (by omega)]; simp
  | succ d ih =>
    intro k i hi hk
    obtain ⟨k, rfl⟩ : ∃ m, k = m + 1 := ⟨k - 1, by omega⟩
    have hx : i < xs.length := by omega
    have hy : i < ys.length := by omega
    simp only [laws_eqInt64S.l0]
    rw [if_pos (by omega), if_pos (by omega), if_pos (by omega), pb_wrap (by omega) (by omega), pb_rd xs i hx, pb_rd ys i hy, List.drop_eq_getElem_cons hx, List.drop_eq_getElem_cons hy]
    by_cases h : xs[i] = ys[i]
    · rw [if_pos h]
      have := ih k (i + 1) (by omega) (by omega)
      rw [show ((i : Int) + 1) = ((i + 1 : Nat) : Int) by omega, this]; simp only [h, List.cons.injEq, true_and]
    · rw [if_neg h]; simp only [h, List.cons.injEq, false_and, decide_false]

theorem c_laws_eqInt64S (k : Nat) (xs ys : List Int) (hn : xs.length ≤ 35184372088832) (hk : xs.length < k) : laws_eqInt64S.f k xs ys = some (decide (xs = ys)) := by
  unfold laws_eqInt64S.f
  by_cases h : xs.length = ys.length
  · rw [if_pos (by omega)]
    have := l_laws_eqInt64S xs ys hn h xs.length k 0 (by omega) hk
    simpa using this
  · rw [if_neg (by omega)]; congr 1; symm; rw [decide_eq_false_iff_not]; intro e; exact h (by rw [e])

theorem c_laws_eqIntsResult (k : Nat) (a c : Int) (b d : List Int) (hn : b.length ≤ 35184372088832) (hk : b.length < k) : laws_eqIntsResult.f k a b c d = some (decide (a = c ∧ b = d)) := by
  unfold laws_eqIntsResult.f
  rw [c_laws_eqInt64S k b d hn hk]
  by_cases h : a = c <;> by_cases h' : b = d <;> simp [h, h']

theorem l_laws_markInt64S (d : Nat) : ∀ (k i : Nat) (xs : List Int) (m : Nat), xs.length ≤ 35184372088832 → i + d = xs.length → d < k → m + d ≤ 70368744177664 →
    laws_markInt64S.l0 k xs (m : Int) (i : Int) = some (((m + d : Nat) : Int), xs.take i ++ (List.range' m d).map (fun (j : Nat) => (j : Int))) := by
  induction d with
  | zero =>
    intro k i xs m hn hi hk hm
    obtain ⟨k, rfl⟩ : ∃ m, k = m + 1 := ⟨k - 1, by omega⟩
    simp only [laws_markInt64S.l0]; rw [if_neg (by omega), List.take_of_length_le (by omega)]; simp
  | succ d ih =>
    intro k i xs m hn hi hk hm
    obtain ⟨k, rfl⟩ : ∃ m, k = m + 1 := ⟨k - 1, by omega⟩
    have hlt : i < xs.length := by omega
    simp only [laws_markInt64S.l0]
    rw [if_pos (by omega), if_pos (by omega), pb_wrap (by omega) (by omega), pb_wrap (by omega) (by omega)]
    have := ih k (i + 1) (xs.set i (m : Int)) (m + 1) (by simpa using hn) (by simp; omega) (by omega) (by omega)
    rw [show ((i : Int) + 1) = ((i + 1 : Nat) : Int) by omega, show ((m : Int) + 1) = ((m + 1 : Nat) : Int) by omega, show ((i : Int).toNat) = i by omega, this]
    rw [List.take_succ_eq_append_getElem (by simpa using hlt), List.take_set, List.set_eq_of_length_le (by simp; omega), List.getElem_set_self]
    congr 2
    · omega
    · rw [List.range'_succ]; simp

theorem c_laws_markInt64S (k : Nat) (xs : List Int) (m : Nat) (hn : xs.length ≤ 35184372088832) (hk : xs.length < k) (hm : m ≤ 35184372088832) :
    laws_markInt64S.f k xs (m : Int) = some (((m + xs.length : Nat) : Int), (List.range' m xs.length).map (fun (j : Nat) => (j : Int))) := by
  unfold laws_markInt64S.f
  have := l_laws_markInt64S xs.length k 0 xs m hn (by omega) hk (by omega)
  simpa using this

theorem l_laws_heldInt64S (d : Nat) : ∀ (k i : Nat) (xs : List Int) (m : Nat), xs.length ≤ 35184372088832 → i + d = xs.length → d < k → m + d ≤ 70368744177664 → xs.drop i = (List.range' m d).map (fun (j : Nat) => (j : Int)) →
    laws_heldInt64S.l0 k xs (m : Int) (i : Int) = some ((m + d : Nat) : Int) := by
  induction d with
  | zero =>
    intro k i xs m hn hi hk hm hx
    obtain ⟨k, rfl⟩ : ∃ m, k = m + 1 := ⟨k - 1, by omega⟩
    simp only [laws_heldInt64S.l0]; rw [if_neg (by omega)]; simp
  | succ d ih =>
    intro k i xs m hn hi hk hm hx
    obtain ⟨k, rfl⟩ : ∃ m, k = m + 1 := ⟨k - 1, by omega⟩
    have hlt : i < xs.length := by omega
    rw [List.drop_eq_getElem_cons hlt, List.range'_succ, List.map_cons, List.cons.injEq] at hx
    simp only [laws_heldInt64S.l0]
    rw [if_pos (by omega), if_pos (by omega), pb_rd xs i hlt, if_pos hx.1, pb_wrap (by omega) (by omega), pb_wrap (by omega) (by omega)]
    have := ih k (i + 1) xs (m + 1) hn (by omega) (by omega) (by omega) hx.2
    rw [show ((i : Int) + 1) = ((i + 1 : Nat) : Int) by omega, show ((m : Int) + 1) = ((m + 1 : Nat) : Int) by omega, this]
    congr 2; omega

theorem c_laws_heldInt64S (k : Nat) (n m : Nat) (hn : n ≤ 35184372088832) (hk : n < k) (hm : m ≤ 35184372088832) :
    laws_heldInt64S.f k ((List.range' m n).map (fun (j : Nat) => (j : Int))) (m : Int) = some ((m + n : Nat) : Int) := by
  unfold laws_heldInt64S.f
  exact l_laws_heldInt64S n k 0 _ m (by simpa using hn) (by simp) hk (by omega) (by simp)

def mWordsFault (l : List Int) : Int := if l.length > 400 then 2 else if l.all isW then 0 else 3

theorem mWordsFault_ok (l : List Int) : mWordsFault l = 0 ↔ l.length ≤ 400 ∧ l.all isW = true := by
  unfold mWordsFault; split
  · constructor <;> intro h <;> omega
  · split
    · next h => simp [h]; omega
    · next h => simp [h]

theorem l_spec_WordsFault (xs : List Int) (hn : xs.length ≤ 400) (d : Nat) : ∀ (k i : Nat), i + d = xs.length → d < k →
    spec_WordsFault.l0 k xs (i : Int) = some (if (xs.drop i).all isW then 0 else 3) := by
  induction d with
  | zero =>
    intro k i hi hk
    obtain ⟨k, rfl⟩ : ∃ m, k = m + 1 := ⟨k - 1, by omega⟩
    simp only [spec_WordsFault.l0]; rw [if_neg (by omega), List.drop_of_length_le (by omega)]; rfl
  | succ d ih =>
    intro k i hi hk
    obtain ⟨k, rfl⟩ : ∃ m, k = m + 1 := ⟨k - 1, by omega⟩
    have hlt : i < xs.length := by omega
    simp only [spec_WordsFault.l0]; rw [if_pos (by omega), if_pos (by omega), pb_rd xs i hlt, c_spec_l1Word, pb_wrap (by omega) (by omega), List.drop_eq_getElem_cons hlt]
    simp only [Option.bind_some, List.all_cons]
    by_cases h : isW xs[i] = true
    · rw [if_pos h]; simp only [h, Bool.true_and]; exact ih k (i + 1) (by omega) (by omega)
    · rw [if_neg h]; simp [h]

theorem c_spec_WordsFault (k : Nat) (xs : List Int) (hk : 401 ≤ k) : spec_WordsFault.f k xs = some (mWordsFault xs) := by
  unfold spec_WordsFault.f mWordsFault
  split
  · rw [if_pos (by omega)]
  · rw [if_neg (by omega)]
    have := l_spec_WordsFault xs (by omega) xs.length k 0 (by omega) (by omega)
    simpa using this

theorem l_impl_areWords (xs : List Int) (hn : xs.length ≤ 35184372088832) (d : Nat) : ∀ (k i : Nat), i + d = xs.length → d < k →
    impl_areWords.l0 k xs (xs.length : Int) (i : Int) = some ((xs.drop i).all isW) := by
  induction d with
  | zero =>
    intro k i hi hk
    obtain ⟨k, rfl⟩ : ∃ m, k = m + 1 := ⟨k - 1, by omega⟩
    simp only [impl_areWords.l0]; rw [if_neg (by omega), List.drop_of_length_le (by omega)]; rfl
  | succ d ih =>
    intro k i hi hk
    obtain ⟨k, rfl⟩ : ∃ m, k = m + 1 := ⟨k - 1, by omega⟩
    have hlt : i < xs.length := by omega
    simp only [impl_areWords.l0]; rw [if_pos (by omega), if_pos (by omega), if_pos (by omega), pb_rd xs i hlt, c_impl_isWord, pb_wrap (by omega) (by omega), List.drop_eq_getElem_cons hlt]
    simp only [Option.bind_some, List.all_cons]
    cases h : isW xs[i] with
    | true => simp only [if_true, Bool.true_and]; exact ih k (i + 1) (by omega) (by omega)
    | false => simp

theorem c_impl_areWords (k : Nat) (xs : List Int) (hn : xs.length ≤ 35184372088832) (hk : xs.length < k) : impl_areWords.f k xs = some (xs.all isW) := by
  unfold impl_areWords.f
  have := l_impl_areWords xs hn xs.length k 0 (by omega) hk
  simpa using this

theorem c_impl_WordsFault (k : Nat) (xs : List Int) (hk : 401 ≤ k) : impl_WordsFault.f k xs = some (mWordsFault xs) := by
  unfold impl_WordsFault.f mWordsFault
  split
  · rw [if_pos (by omega)]
  · rw [if_neg (by omega), c_impl_areWords k xs (by omega) (by omega)]
    simp only [Option.bind_some]; split <;> rfl

theorem l_spec_l10Invert (xs : List Int) (hn : xs.length ≤ 35184372) (d : Nat) : ∀ (k i : Nat) (ys : List Int), i + d = xs.length → d < k → ys.length = i →
    spec_l10Invert.l0 k xs ys (i : Int) = some (ys ++ (xs.drop i).map mCompl) := by
  induction d with
  | zero =>
    intro k i ys hi hk hy
    obtain ⟨k, rfl⟩ : ∃ m, k = m + 1 := ⟨k - 1, by omega⟩
    simp only [spec_l10Invert.l0]; rw [if_neg (by omega), List.drop_of_length_le (by omega)]; simp
  | succ d ih =>
    intro k i ys hi hk hy
    obtain ⟨k, rfl⟩ : ∃ m, k = m + 1 := ⟨k - 1, by omega⟩
    have hlt : i < xs.length := by omega
    simp only [spec_l10Invert.l0]; rw [if_pos (by omega), if_pos (by omega), pb_rd xs i hlt, c_spec_Complement, pb_wrap (by omega) (by omega), List.drop_eq_getElem_cons hlt]
    simp only [Option.bind_some]
    rw [if_pos (by omega), show ((i : Int) + 1) = ((i + 1 : Nat) : Int) by omega, ih k (i + 1) _ (by omega) (by omega) (by simp; omega)]
    simp only [List.map_cons, List.append_assoc, List.singleton_append]

theorem c_spec_l10Invert (k : Nat) (xs : List Int) (hn : xs.length ≤ 35184372) (hk : xs.length < k) : spec_l10Invert.f k xs = some (xs.map mCompl) := by
  unfold spec_l10Invert.f
  have := l_spec_l10Invert xs hn xs.length k 0 [] (by omega) hk rfl
  simpa using this

theorem l_impl_inverted (xs : List Int) (hn : xs.length ≤ 35184372) (d : Nat) : ∀ (k i : Nat) (ys : List Int), i + d = xs.length → d < k → ys.length = i →
    impl_inverted.l0 k ys xs (xs.length : Int) (i : Int) = some (ys ++ (xs.drop i).map mCompl) := by
  induction d with
  | zero =>
    intro k i ys hi hk hy
    obtain ⟨k, rfl⟩ : ∃ m, k = m + 1 := ⟨k - 1, by omega⟩
    simp only [impl_inverted.l0]; rw [if_neg (by omega), List.drop_of_length_le (by omega)]; simp
  | succ d ih =>
    intro k i ys hi hk hy
    obtain ⟨k, rfl⟩ : ∃ m, k = m + 1 := ⟨k - 1, by omega⟩
    have hlt : i < xs.length := by omega
    simp only [impl_inverted.l0]; rw [if_pos (by omega), if_pos (by omega), if_pos (by omega), pb_rd xs i hlt, c_impl_Complement, pb_wrap (by omega) (by omega), List.drop_eq_getElem_cons hlt]
    simp only [Option.bind_some]
    rw [if_pos (by omega), show ((i : Int) + 1) = ((i + 1 : Nat) : Int) by omega, ih k (i + 1) _ (by omega) (by omega) (by simp; omega)]
    simp only [List.map_cons, List.append_assoc, List.singleton_append]

theorem c_impl_inverted (k : Nat) (xs : List Int) (hn : xs.length ≤ 35184372) (hk : xs.length < k) : impl_inverted.f k xs = some (xs.map mCompl) := by
  unfold impl_inverted.f
  have := l_impl_inverted xs hn xs.length k 0 [] (by omega) hk rfl
  simpa using this

def mInvertAll (xs : List Int) : Int × List Int := if mWordsFault xs = 0 then (0, xs.map mCompl) else (mWordsFault xs, [])

theorem mInvertAll_len (xs : List Int) : (mInvertAll xs).2.length ≤ 400 := by
  unfold mInvertAll; split
  · next h => rw [mWordsFault_ok] at h; simpa using h.1
  · simp

theorem c_spec_InvertAll (k : Nat) (xs : List Int) (hk : 420 ≤ k) : spec_InvertAll.f k xs = some (mInvertAll xs) := by
  unfold spec_InvertAll.f mInvertAll
  rw [c_spec_WordsFault k xs (by omega)]; simp only [Option.bind_some]
  split
  · next h =>
    rw [mWordsFault_ok] at h
    rw [c_spec_l10Invert k xs (by omega) (by omega)]; rfl
  · rfl

theorem c_impl_InvertAll (k : Nat) (xs : List Int) (hk : 420 ≤ k) : impl_InvertAll.f k xs = some (mInvertAll xs) := by
  unfold impl_InvertAll.f mInvertAll
  rw [c_impl_WordsFault k xs (by omega)]; simp only [Option.bind_some]
  split
  · next h =>
    rw [mWordsFault_ok] at h
    rw [c_impl_inverted k xs (by omega) (by omega)]; rfl
  · rfl

def mMark (m n : Nat) : List Int := (List.range' m n).map (fun (j : Nat) => (j : Int))

theorem c_laws_markIntsResult (k : Nat) (a : Int) (xs : List Int) (m : Nat) (hn : xs.length ≤ 35184372088832) (hk : xs.length < k) (hm : m ≤ 35184372088832) :
    laws_markIntsResult.f k a xs (m : Int) = some (((m + xs.length : Nat) : Int), mMark m xs.length) := by
  unfold laws_markIntsResult.f; rw [c_laws_markInt64S k xs m hn hk hm]; rfl

theorem c_laws_heldIntsResult (k : Nat) (a : Int) (m n : Nat) (hn : n ≤ 35184372088832) (hk : n < k) (hm : m ≤ 35184372088832) :
    laws_heldIntsResult.f k a (mMark m n) (m : Int) = some ((m + n : Nat) : Int) := by
  unfold laws_heldIntsResult.f mMark; rw [c_laws_heldInt64S k n m hn hk hm]; simp only [Option.bind_some]; rw [if_neg (by omega)]

theorem FnExactInvertAll : laws_FnExactInvertAll.Pure := by
  intro l0 _ hn _
  refine ⟨l0.length + 1001, ?_⟩
  have hl := mInvertAll_len l0
  unfold laws_FnExactInvertAll.f
  split
  · rfl
  · rw [c_laws_toInt64S _ l0 (by omega) (by omega)]
    simp only [Option.bind_some]
    rw [c_spec_InvertAll _ l0 (by omega), c_impl_InvertAll _ l0 (by omega), c_laws_eqInt64S _ l0 l0 (by omega) (by omega)]
    simp only [Option.bind_some]
    rw [c_laws_eqIntsResult _ _ _ _ _ (by omega) (by omega)]
    simp only [Option.bind_some, and_self, decide_true, if_true]
    rw [show (1 : Int) = ((1 : Nat) : Int) from rfl, c_laws_markInt64S _ l0 1 (by omega) (by omega) (by omega)]
    simp only [Option.bind_some]
    rw [if_neg (by omega)]
    simp only [Bool.not_true, laws_FnExactInvertAll.j0]
    rw [show (1 : Int) = ((1 : Nat) : Int) from rfl, c_laws_markIntsResult _ _ _ 1 (by omega) (by omega) (by omega)]
    simp only [Option.bind_some, Bool.false_eq_true, if_false]
    rw [c_laws_heldIntsResult _ _ 1 _ (by omega) (by omega) (by omega)]
    simp only [Option.bind_some]
    rw [if_neg (by omega), if_pos trivial, c_laws_toInt64S _ l0 (by omega) (by omega)]
    simp only [Option.bind_some]
    rw [c_impl_InvertAll _ l0 (by omega)]
    simp only [Option.bind_some]
    rw [c_laws_eqIntsResult _ _ _ _ _ (by omega) (by omega)]
    simp only [Option.bind_some, and_self, decide_true, if_true]
    rw [if_neg (by omega)]

end Go.Proofs.Ytaolajbojoeahaa.Pure
