/- Proved: for every input the law FnExactWordsFault of the given program returns true. -/
import Derived.Test.YtaolajbojoeahaaPFnExactWordsFaultx1
import Derived.Test.YtaolajbojoeahaaWSized
set_option linter.unusedVariables false
set_option linter.unusedSimpArgs false
namespace Go.Proofs.Ytaolajbojoeahaa
abbrev PrintWords.sized_ints := @Go.Proofs.YtaolajbojoeahaaW.PrintWords.sized_ints
end Go.Proofs.Ytaolajbojoeahaa
namespace Go.Proofs.Ytaolajbojoeahaa.Pure
open Go Go.RowKit Go.Proofs.Ytaolajbojoeahaa.PFnExactWordsFault Go.Proofs.YtaolajbojoeahaaW.PrintWords Go.Proofs.YtaolajbojoeahaaW.PrintLast

theorem pb_wrap {a : Int} (h : -9223372036854775808 ≤ a) (h' : a ≤ 9223372036854775807) : wrap64 a = a := by
  unfold wrap64; omega

theorem c_spec_l1In (a b c : Int) : spec_l1In.f a b c = some (decide (b ≤ a ∧ a ≤ c)) := by
  unfold spec_l1In.f; split
  · next h => congr 1; simp; omega
  · next h => congr 1; simp; omega

theorem c_impl_within (a b c : Int) : impl_within.f a b c = some (decide (b ≤ a ∧ a ≤ c)) := by
  unfold impl_within.f; split
  · next h => congr 1; simp; omega
  · next h => congr 1; simp; omega

def isW (a : Int) : Bool := decide (0 ≤ a ∧ a ≤ 65535)

theorem c_spec_l1Word (a : Int) : spec_l1Word.f a = some (isW a) := by
  unfold spec_l1Word.f; rw [c_spec_l1In]; rfl

theorem c_impl_isWord (a : Int) : impl_isWord.f a = some (isW a) := by
  unfold impl_isWord.f; rw [c_impl_within]; rfl

theorem pb_rd (xs : List Int) (i : Nat) (h : i < xs.length) : rd xs (i : Int) = xs[i] := by
  unfold rd; simp [List.getD_eq_getElem?_getD, h]

theorem pb_take_set {α : Type} (xs ys : List α) (i : Nat) (hx : i < xs.length) (hy : i < ys.length) (h : ys.take i = xs.take i) : (ys.set i xs[i]).take (i + 1) = xs.take (i + 1) := by
  rw [List.take_succ_eq_append_getElem (by simpa using hy), List.take_succ_eq_append_getElem hx, List.take_set, List.getElem_set_self]
  rw [List.set_eq_of_length_le (by simp; omega), h]

theorem l_laws_toInt64S (xs : List Int) (hn : xs.length ≤ 35184372088832) (d : Nat) : ∀ (k i : Nat) (ys : List Int), i + d = xs.length → d < k → ys.length = xs.length → ys.take i = xs.take i →
    laws_toInt64S.l0 k xs ys (i : Int) = some xs := by
  induction d with
  | zero =>
    intro k i ys hi hk hl ht
    obtain ⟨k, rfl⟩ : ∃ m, k = m + 1 := ⟨k - 1, by omega⟩
    simp only [laws_toInt64S.l0]; rw [if_neg (by omega)]
    rw [List.take_of_length_le (by omega), List.take_of_length_le (by omega)] at ht; rw [ht]
  | succ d ih =>
    intro k i ys hi hk hl ht
    obtain ⟨k, rfl⟩ : ∃ m, k = m + 1 := ⟨k - 1, by omega⟩
    have hlt : i < xs.length := by omega
    simp only [laws_toInt64S.l0]; rw [if_pos (by omega), if_pos (by omega), if_pos (by omega), pb_wrap (by omega) (by omega), pb_rd xs i hlt]
    exact ih k (i + 1) _ (by omega) (by omega) (by simpa using hl) (pb_take_set xs ys i hlt (by omega) ht)

theorem c_laws_toInt64S (k : Nat) (xs : List Int) (hn : xs.length ≤ 35184372088832) (hk : xs.length < k) : laws_toInt64S.f k xs = some xs := by
  unfold laws_toInt64S.f
  rw [if_pos (by omega), if_pos (by omega)]
  exact l_laws_toInt64S xs hn xs.length k 0 _ (by omega) hk (by simp) (by simp)

theorem l_laws_eqInt64S (xs ys : List Int) (hn : xs.length ≤ 35184372088832) (hl : xs.length = ys.length) (d : Nat) : ∀ (k i : Nat), i + d = xs.length → d < k →
    laws_eqInt64S.l0 k xs ys (i : Int) = some (decide (xs.drop i = ys.drop i)) := by
  induction d with
  | zero =>
    intro k i hi hk
    obtain ⟨k, rfl⟩ : ∃ m, k = m + 1 := ⟨k - 1, by omega⟩
    simp only [laws_eqInt64S.l0]; rw [if_neg (by omega), List.drop_of_length_le (by omega), List.drop_of_length_le (by omega)]; simp
  | succ d ih =>
    intro k i hi hk
    obtain ⟨k, rfl⟩ : ∃ m, k = m + 1 := ⟨k - 1, by omega⟩
    have hx : i < xs.length := by omega
    have hy : i < ys.length := by omega
    simp only [laws_eqInt64S.l0]
    rw [if_pos (by omega), if_pos (by omega), if_pos (by omega), pb_wrap (by omega) (by omega), pb_rd xs i hx, pb_rd ys i hy, List.drop_eq_getElem_cons hx, List.drop_eq_getElem_cons hy]
    by_cases h : xs[i] = ys[i]
    · rw [if_pos h]
      have := ih k (i + 1) (by omega) (by omega)
      rw [show ((i : Int) + 1) = ((i + 1 : Nat) : Int) by omega, this]; simp only [h, List.cons.injEq, true_and]
    · rw [if_neg h]; simp only [h, List.cons.injEq, false_and, decide_false]

theorem c_laws_eqInt64S (k : Nat) (xs ys : List Int) (hn : xs.length ≤ 35184372088832) (hk : xs.length < k) : laws_eqInt64S.f k xs ys = some (decide (xs = ys)) := by
  unfold laws_eqInt64S.f
  by_cases h : xs.length = ys.length
  · rw [if_pos (by omega)]
    have := l_laws_eqInt64S xs ys hn h xs.length k 0 (by omega) hk
    simpa using this
  · rw [if_neg (by omega)]; congr 1; symm; rw [decide_eq_false_iff_not]; intro e; exact h (by rw [e])

def mWordsFault (l : List Int) : Int := if l.length > 400 then 2 else if l.all isW then 0 else 3

theorem l_spec_WordsFault (xs : List Int) (hn : xs.length ≤ 400) (d : Nat) : ∀ (k i : Nat), i + d = xs.length → d < k →
    spec_WordsFault.l0 k xs (i : Int) = some (if (xs.drop i).all isW then 0 else 3) := by
  induction d with
  | zero =>
    intro k i hi hk
    obtain ⟨k, rfl⟩ : ∃ m, k = m + 1 := ⟨k - 1, by omega⟩
    simp only [spec_WordsFault.l0]; rw [if_neg (by omega), List.drop_of_length_le (by omega)]; rfl
  | succ d ih =>
    intro k i hi hk
    obtain ⟨k, rfl⟩ : ∃ m, k = m + 1 := ⟨k - 1, by omega⟩
    have hlt : i < xs.length := by omega
    simp only [spec_WordsFault.l0]; rw [if_pos (by omega), if_pos (by omega), pb_rd xs i hlt, c_spec_l1Word, pb_wrap (by omega) (by omega), List.drop_eq_getElem_cons hlt]
    simp only [Option.bind_some, List.all_cons]
    by_cases h : isW xs[i] = true
    · rw [if_pos h]; simp only [h, Bool.true_and]; exact ih k (i + 1) (by omega) (by omega)
    · rw [if_neg h]; simp [h]

theorem c_spec_WordsFault (k : Nat) (xs : List Int) (hk : 401 ≤ k) : spec_WordsFault.f k xs = some (mWordsFault xs) := by
  unfold spec_WordsFault.f mWordsFault
  split
  · rw [if_pos (by omega)]
  · rw [if_neg (by omega)]
    have := l_spec_WordsFault xs (by omega) xs.length k 0 (by omega) (by omega)
    simpa using this

theorem l_impl_areWords (xs : List Int) (hn : xs.length ≤ 35184372088832) (d : Nat) : ∀ (k i : Nat), i + d = xs.length → d < k →
    impl_areWords.l0 k xs (xs.length : Int) (i : Int) = some ((xs.drop i).all isW) := by
  induction d with
  | zero =>
    intro k i hi hk
    obtain ⟨k, rfl⟩ : ∃ m, k = m + 1 := ⟨k - 1, by omega⟩
    simp only [impl_areWords.l0]; rw [if_neg (by omega), List.drop_of_length_le (by omega)]; rfl
  | succ d ih =>
    intro k i hi hk
    obtain ⟨k, rfl⟩ : ∃ m, k = m + 1 := ⟨k - 1, by omega⟩
    have hlt : i < xs.length := by omega
    simp only [impl_areWords.l0]; rw [if_pos (by omega), if_pos (by omega), if_pos (by omega), pb_rd xs i hlt, c_impl_isWord, pb_wrap (by omega) (by omega), List.drop_eq_getElem_cons hlt]
    simp only [Option.bind_some, List.all_cons]
    cases h : isW xs[i] with
    | true => simp only [if_true, Bool.true_and]; exact ih k (i + 1) (by omega) (by omega)
    | false => simp

theorem c_impl_areWords (k : Nat) (xs : List Int) (hn : xs.length ≤ 35184372088832) (hk : xs.length < k) : impl_areWords.f k xs = some (xs.all isW) := by
  unfold impl_areWords.f
  have := l_impl_areWords xs hn xs.length k 0 (by omega) hk
  simpa using this

theorem c_impl_WordsFault (k : Nat) (xs : List Int) (hk : 401 ≤ k) : impl_WordsFault.f k xs = some (mWordsFault xs) := by
  unfold impl_WordsFault.f mWordsFault
  split
  · rw [if_pos (by omega)]
  · rw [if_neg (by omega), c_impl_areWords k xs (by omega) (by omega)]
    simp only [Option.bind_some]; split <;> rfl

theorem FnExactWordsFault : laws_FnExactWordsFault.Pure := by
  intro l0 _ hn _
  refine ⟨l0.length + 1000, ?_⟩
  unfold laws_FnExactWordsFault.f
  split
  · rfl
  · rw [c_laws_toInt64S _ l0 (by omega) (by omega)]
    simp only [Option.bind_some]
    rw [c_spec_WordsFault _ l0 (by omega), c_impl_WordsFault _ l0 (by omega), c_laws_eqInt64S _ l0 l0 (by omega) (by omega)]
    simp

end Go.Proofs.Ytaolajbojoeahaa.Pure
