/- Proved: for all arguments the law FnExactRegFault of the given program returns true and leaves its arguments as they were. Conditions: none but those that the given row itself states. -/
import Derived.Test.YtaolajbojoeahaaXFnExactRegFaultx4
set_option linter.unusedVariables false
set_option linter.unusedSimpArgs false
namespace Go.Proofs.Ytaolajbojoeahaa.Pure
open Go Go.RowKit Go.Proofs.Ytaolajbojoeahaa.XFnExactRegFault Go.Proofs.YtaolajbojoeahaaW.PrintWords Go.Proofs.YtaolajbojoeahaaW.PrintLast

theorem pb_wrap {a : Int} (h : -9223372036854775808 ≤ a) (h' : a ≤ 9223372036854775807) : wrap64 a = a := by
  unfold wrap64; omega

theorem c_spec_l1In (a b c : Int) : spec_l1In.f a b c = some (decide (b ≤ a ∧ a ≤ c)) := by
  unfold spec_l1In.f; split
  · next h => congr 1; simp; omega
  · next h => congr 1; simp; omega

theorem c_impl_within (a b c : Int) : impl_within.f a b c = some (decide (b ≤ a ∧ a ≤ c)) := by
  unfold impl_within.f; split
  · next h => congr 1; simp; omega
  · next h => congr 1; simp; omega

def isW (a : Int) : Bool := decide (0 ≤ a ∧ a ≤ 65535)

theorem c_spec_l1Word (a : Int) : spec_l1Word.f a = some (isW a) := by
  unfold spec_l1Word.f; rw [c_spec_l1In]; rfl

theorem c_impl_isWord (a : Int) : impl_isWord.f a = some (isW a) := by
  unfold impl_isWord.f; rw [c_impl_within]; rfl

theorem pb_rd (xs : List Int) (i : Nat) (h : i < xs.length) : rd xs (i : Int) = xs[i] := by
  unfold rd; simp [List.getD_eq_getElem?_getD, h]

theorem pb_take_set {α : Type} (xs ys : List α) (i : Nat) (hx : i < xs.length) (hy : i < ys.length) (h : ys.take i = xs.take i) : (ys.set i xs[i]).take (i + 1) = xs.take (i + 1) := by
  rw [List.take_succ_eq_append_getElem (by simpa using hy), List.take_succ_eq_append_getElem hx, List.take_set, List.getElem_set_self]
  rw [List.set_eq_of_length_le (by simp; omega), h]

theorem l_laws_toInt64S (xs : List Int) (hn : xs.length ≤ 35184372088832) (d : Nat) : ∀ (k i : Nat) (ys : List Int), i + d = xs.length → d < k → ys.length = xs.length → ys.take i = xs.take i →
    laws_toInt64S.l0 k xs ys (i : Int) = some xs := by
  induction d with
  | zero =>
    intro k i ys hi hk hl ht
    obtain ⟨k, rfl⟩ : ∃ m, k = m + 1 := ⟨k - 1, by omega⟩
    simp only [laws_toInt64S.l0]; rw [if_neg (by omega)]
    rw [List.take_of_length_le (by omega), List.take_of_length_le (by omega)] at ht; rw [ht]
  | succ d ih =>
    intro k i ys hi hk hl ht
    obtain ⟨k, rfl⟩ : ∃ m, k = m + 1 := ⟨k - 1, by omega⟩
    have hlt : i < xs.length := by omega
    simp only [laws_toInt64S.l0]; rw [if_pos (by omega), if_pos (by omega), if_pos (by omega), pb_wrap (by omega) (by omega), pb_rd xs i hlt]
    exact ih k (i + 1) _ (by omega) (by omega) (by simpa using hl) (pb_take_set xs ys i hlt (by omega) ht)

theorem c_laws_toInt64S (k : Nat) (xs : List Int) (hn : xs.length ≤ 35184372088832) (hk : xs.length < k) : laws_toInt64S.f k xs = some xs := by
  unfold laws_toInt64S.f
  rw [if_pos (by omega), if_pos (by omega)]
  exact l_laws_toInt64S xs hn xs.length k 0 _ (by omega) hk (by simp) (by simp)

theorem l_laws_eqInt64S (xs ys : List Int) (hn : xs.length ≤ 35184372088832) (hl : xs.length = ys.length) (d : Nat) : ∀ (k i : Nat), i + d = xs.length → d < k →
    laws_eqInt64S.l0 k xs ys (i : Int) = some (decide (xs.drop i = ys.drop i)) := by
  induction d with
  | zero =>
    intro k i hi hk
    obtain ⟨k, rfl⟩ : ∃ m, k = m + 1 := ⟨k - 1, by omega⟩
    simp only [laws_eqInt64S.l0]; rw [if_neg (by omega), List.drop_of_length_le (by omega), List.drop_of_length_le (by omega)]; simp
  | succ d ih =>
    intro k i hi hk
    obtain ⟨k, rfl⟩ : ∃ m, k = m + 1 := ⟨k - 1, by omega⟩
    have hx : i < xs.length := by omega
    have hy : i < ys.length := by omega
    simp only [laws_eqInt64S.l0]
    rw [if_pos (by omega), if_pos (by omega), if_pos (by omega), pb_wrap (by omega) (by omega), pb_rd xs i hx, pb_rd ys i hy, List.drop_eq_getElem_cons hx, List.drop_eq_getElem_cons hy]
    by_cases h : xs[i] = ys[i]
    · rw [if_pos h]
      have := ih k (i + 1) (by omega) (by omega)
      rw [show ((i : Int) + 1) = ((i + 1 : Nat) : Int) by omega, this]; simp only [h, List.cons.injEq, true_and]
    · rw [if_neg h]; simp only [h, List.cons.injEq, false_and, decide_false]

theorem c_laws_eqInt64S (k : Nat) (xs ys : List Int) (hn : xs.length ≤ 35184372088832) (hk : xs.length < k) : laws_eqInt64S.f k xs ys = some (decide (xs = ys)) := by
  unfold laws_eqInt64S.f
  by_cases h : xs.length = ys.length
  · rw [if_pos (by omega)]
    have := l_laws_eqInt64S xs ys hn h xs.length k 0 (by omega) hk
    simpa using this
  · rw [if_neg (by omega)]; congr 1; symm; rw [decide_eq_false_iff_not]; intro e; exact h (by rw [e])

theorem l_impl_areWords (xs : List Int) (hn : xs.length ≤ 35184372088832) (d : Nat) : ∀ (k i : Nat), i + d = xs.length → d < k →
    impl_areWords.l0 k xs (xs.length : Int) (i : Int) = some ((xs.drop i).all isW) := by
  induction d with
  | zero =>
    intro k i hi hk
    obtain ⟨k, rfl⟩ : ∃ m, k = m + 1 := ⟨k - 1, by omega⟩
    simp only [impl_areWords.l0]; rw [if_neg (by omega), List.drop_of_length_le (by omega)]; rfl
  | succ d ih =>
    intro k i hi hk
    obtain ⟨k, rfl⟩ : ∃ m, k = m + 1 := ⟨k - 1, by omega⟩
    have hlt : i < xs.length := by omega
    simp only [impl_areWords.l0]; rw [if_pos (by omega), if_pos (by omega), if_pos (by omega), pb_rd xs i hlt, c_impl_isWord, pb_wrap (by omega) (by omega), List.drop_eq_getElem_cons hlt]
    simp only [Option.bind_some, List.all_cons]
    cases h : isW xs[i] with
    | true => simp only [if_true, Bool.true_and]; exact ih k (i + 1) (by omega) (by omega)
    | false => simp

theorem c_impl_areWords (k : Nat) (xs : List Int) (hn : xs.length ≤ 35184372088832) (hk : xs.length < k) : impl_areWords.f k xs = some (xs.all isW) := by
  unfold impl_areWords.f
  have := l_impl_areWords xs hn xs.length k 0 (by omega) hk
  simpa using this

theorem l_spec_l6All (xs : List Int) (hn : xs.length ≤ 35184372088832) (d : Nat) : ∀ (k i : Nat), i + d = xs.length → d < k →
    spec_l6All.l0 k xs (i : Int) = some ((xs.drop i).all isW) := by
  induction d with
  | zero =>
    intro k i hi hk
    obtain ⟨k, rfl⟩ : ∃ m, k = m + 1 := ⟨k - 1, by omega⟩
    simp only [spec_l6All.l0]; rw [if_neg (by omega), List.drop_of_length_le (by omega)]; rfl
  | succ d ih =>
    intro k i hi hk
    obtain ⟨k, rfl⟩ : ∃ m, k = m + 1 := ⟨k - 1, by omega⟩
    have hlt : i < xs.length := by omega
    simp only [spec_l6All.l0]; rw [if_pos (by omega), if_pos (by omega), pb_rd xs i hlt, c_spec_l1Word, pb_wrap (by omega) (by omega), List.drop_eq_getElem_cons hlt]
    simp only [Option.bind_some, List.all_cons]
    cases h : isW xs[i] with
    | true => simp only [if_true, Bool.true_and]; exact ih k (i + 1) (by omega) (by omega)
    | false => simp

theorem c_spec_l6All (k : Nat) (xs : List Int) (hn : xs.length ≤ 35184372088832) (hk : xs.length < k) : spec_l6All.f k xs = some (xs.all isW) := by
  unfold spec_l6All.f
  have := l_spec_l6All xs hn xs.length k 0 (by omega) hk
  simpa using this

theorem n_laws_szInt64S (l : List Int) (n : Int) (hn : 0 ≤ n) (hn' : n ≤ 1048576) (hl : l.length ≤ maxLen) : laws_szInt64S.f l n = some (if n < l.length then -1 else n - l.length) := by
  have hm : maxLen = 9223372036854775807 := rfl
  unfold laws_szInt64S.f
  rw [pb_wrap (by omega) (by omega)]
  by_cases h : n < l.length
  · rw [if_pos (by omega), if_pos h]
  · rw [if_neg (by omega), if_neg h]

def mIn (a b c : Int) : Bool := decide (b ≤ a ∧ a ≤ c)

theorem f_spec_l1In (a b c : Int) : spec_l1In.f a b c = some (mIn a b c) := by
  unfold spec_l1In.f mIn
  by_cases h : b ≤ a <;> simp [h]

theorem f_impl_within (a b c : Int) : impl_within.f a b c = some (mIn a b c) := by
  unfold impl_within.f mIn
  by_cases h : b ≤ a <;> simp [h]

theorem c_laws_szRegMachine (pc : Int) (l1 l2 : List Int) (s u t : Int) (d : Bool) (h1 : l1.length ≤ maxLen) (h2 : l2.length ≤ maxLen) :
    ∃ r, laws_szRegMachine.f pc l1 l2 s u t d 1048576 = some r ∧ (r < 0 ∨ l1.length + l2.length ≤ 1048576) := by
  unfold laws_szRegMachine.f
  rw [n_laws_szInt64S l1 1048576 (by omega) (by omega) h1]; simp only [Option.bind_some]
  by_cases a : (1048576 : Int) < l1.length
  · rw [if_pos a, if_pos (by omega)]; exact ⟨_, rfl, .inl (by omega)⟩
  rw [if_neg a, if_neg (by omega), n_laws_szInt64S l2 _ (by omega) (by omega) h2]; simp only [Option.bind_some]
  by_cases b : (1048576 : Int) - l1.length < l2.length
  · rw [if_pos b, if_pos (by omega)]; exact ⟨_, rfl, .inl (by omega)⟩
  rw [if_neg b, if_neg (by omega)]; exact ⟨_, rfl, .inr (by omega)⟩

theorem c_laws_toRegMachine (k : Nat) (pc : Int) (l1 l2 : List Int) (s u t : Int) (d : Bool) (hn : l1.length + l2.length ≤ 1048576) (hk : l1.length + l2.length < k) : laws_toRegMachine.f k pc l1 l2 s u t d = some (pc, l1, l2, s, u, t, d) := by
  unfold laws_toRegMachine.f
  rw [c_laws_toInt64S _ l1 (by omega) (by omega), c_laws_toInt64S _ l2 (by omega) (by omega)]; rfl

theorem c_laws_eqRegMachine (k : Nat) (pc : Int) (l1 l2 : List Int) (s u t : Int) (d : Bool) (hn : l1.length + l2.length ≤ 1048576) (hk : l1.length + l2.length < k) : laws_eqRegMachine.f k pc l1 l2 s u t d pc l1 l2 s u t d = some true := by
  unfold laws_eqRegMachine.f
  rw [c_laws_eqInt64S _ l1 l1 (by omega) (by omega), c_laws_eqInt64S _ l2 l2 (by omega) (by omega)]; simp

def mRegFault (pc : Int) (l1 l2 : List Int) (s u t : Int) : Int :=
  if isW pc && isW s && l1.all isW && l2.all isW && mIn u 0 1000000 && mIn t 0 10 then (if l1.length ≠ 24 then 1 else if 80 < l2.length then 2 else 0) else 3

theorem c_spec_RegFault (pc : Int) (l1 l2 : List Int) (s u t : Int) (d : Bool) (hn : l1.length + l2.length ≤ 1048576) : spec_RegFault.f pc l1 l2 s u t d = some (mRegFault pc l1 l2 s u t) := by
  unfold spec_RegFault.f spec_l10Fault.f mRegFault
  rw [c_spec_l1Word, c_spec_l1Word, c_spec_l6All _ l1 (by omega) (by omega), c_spec_l6All _ l2 (by omega) (by omega), f_spec_l1In, f_spec_l1In]
  simp only [Option.bind_some]

theorem c_impl_RegFault (k : Nat) (pc : Int) (l1 l2 : List Int) (s u t : Int) (d : Bool) (hn : l1.length + l2.length ≤ 1048576) (hk : l1.length + l2.length < k) : impl_RegFault.f k pc l1 l2 s u t d = some (mRegFault pc l1 l2 s u t) := by
  obtain ⟨k, rfl⟩ : ∃ m, k = m + 1 := ⟨k - 1, by omega⟩
  unfold impl_RegFault.f mRegFault
  rw [c_impl_isWord, c_impl_isWord, c_impl_areWords _ l1 (by omega) (by omega), c_impl_areWords _ l2 (by omega) (by omega), f_impl_within, f_impl_within]
  simp only [Option.bind_some, impl_RegFault.j0]
  have hb : (if (l1.length : Int) = 24 then (if (l2.length : Int) > 80 then some (2 : Int) else some 0) else some 1) = some (if l1.length ≠ 24 then 1 else if 80 < l2.length then 2 else 0) := by
    by_cases h1 : l1.length = 24 <;> by_cases h2 : 80 < l2.length
    · rw [if_pos (by omega), if_pos (by omega), if_neg (fun h => h h1), if_pos h2]
    · rw [if_pos (by omega), if_neg (by omega), if_neg (fun h => h h1), if_neg h2]
    · rw [if_neg (by omega), if_pos h1]
    · rw [if_neg (by omega), if_pos h1]
  have ha : (if (l1.length : Int) ≠ 24 then some (1 : Int) else if (l2.length : Int) > 80 then some 2 else some 0) = some (if l1.length ≠ 24 then 1 else if 80 < l2.length then 2 else 0) := by
    rw [← hb]; by_cases h1 : (l1.length : Int) = 24 <;> simp [h1]
  have hc : (if ((l1.length : Int) != 24) = true then some (1 : Int) else if (l2.length : Int) > 80 then some 2 else some 0) = some (if l1.length ≠ 24 then 1 else if 80 < l2.length then 2 else 0) := by
    rw [← hb]; by_cases h1 : (l1.length : Int) = 24 <;> simp [h1]
  try rw [ha]
  try rw [hb]
  try rw [hc]
  cases isW pc <;> cases isW s <;> cases l1.all isW <;> cases l2.all isW <;> cases mIn u 0 1000000 <;> cases mIn t 0 10 <;> rfl

theorem FnExactRegFault : laws_FnExactRegFault.Pure := by
  intro pc l1 l2 s u t d _ h1 _ h2 _ _ _ _
  suffices key : ∀ k, l1.length + l2.length < k → laws_FnExactRegFault.f k pc l1 l2 s u t d = some true from ⟨_, key _ (Nat.lt_succ_self _)⟩
  intro k hk
  unfold laws_FnExactRegFault.f
  obtain ⟨r, e, hr⟩ := c_laws_szRegMachine pc l1 l2 s u t d h1 h2
  rw [e]; simp only [Option.bind_some]
  by_cases h : r < 0
  · rw [if_pos h]
  have hn := hr.resolve_left h
  rw [if_neg h, c_laws_toRegMachine k pc l1 l2 s u t d hn hk]; simp only [Option.bind_some]
  rw [c_spec_RegFault pc l1 l2 s u t d hn, c_impl_RegFault k pc l1 l2 s u t d hn hk]; simp only [Option.bind_some, if_true]
  rw [c_laws_eqRegMachine k pc l1 l2 s u t d hn hk]; simp only [Option.bind_some, if_true]

end Go.Proofs.Ytaolajbojoeahaa.Pure
