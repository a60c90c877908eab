/- Proved: for all arguments the law FnExactStartRegs of the given program returns true and leaves its arguments as they were. Conditions: none but those that the given row itself states. -/
import Derived.Test.YtklhfhnplldgjaaXFnExactStartRegsx11
set_option linter.unusedVariables false
set_option linter.unusedSimpArgs false
namespace Go.Proofs.Ytklhfhnplldgjaa.Pure
open Go Go.RowKit Go.Proofs.Ytklhfhnplldgjaa.XFnExactStartRegs Go.Proofs.YtklhfhnplldgjaaW.PrintWords Go.Proofs.YtklhfhnplldgjaaW.PrintLast

theorem pb_wrap {a : Int} (h : -9223372036854775808 ≤ a) (h' : a ≤ 9223372036854775807) : wrap64 a = a := by
  unfold wrap64; omega

theorem c_spec_l1In (a b c : Int) : spec_l1In.f a b c = some (decide (b ≤ a ∧ a ≤ c)) := by
  unfold spec_l1In.f; split
  · next h => congr 1; simp; omega
  · next h => congr 1; simp; omega

theorem c_impl_within (a b c : Int) : impl_within.f a b c = some (decide (b ≤ a ∧ a ≤ c)) := by
  unfold impl_within.f; split
  · next h => congr 1; simp; omega
  · next h => congr 1; simp; omega

def isW (a : Int) : Bool := decide (0 ≤ a ∧ a ≤ 65535)

theorem c_spec_l1Word (a : Int) : spec_l1Word.f a = some (isW a) := by
  unfold spec_l1Word.f; rw [c_spec_l1In]; rfl

theorem c_impl_isWord (a : Int) : impl_isWord.f a = some (isW a) := by
  unfold impl_isWord.f; rw [c_impl_within]; rfl

theorem pb_rd (xs : List Int) (i : Nat) (h : i < xs.length) : rd xs (i : Int) = xs[i] := by
  unfold rd; simp [List.getD_eq_getElem?_getD, h]

theorem pb_take_set {α : Type} (xs ys : List α) (i : Nat) (hx : i < xs.length) (hy : i < ys.length) (h : ys.take i = xs.take i) : (ys.set i xs[i]).take (i + 1) = xs.take (i + 1) := by
  rw [List.take_succ_eq_append_getElem (by simpa using hy), List.take_succ_eq_append_getElem hx, List.take_set, List.getElem_set_self]
  rw [List.set_eq_of_length_le (by simp; omega), h]

theorem l_laws_toInt64S (xs : List Int) (hn : xs.length ≤ 35184372088832) (d : Nat) : ∀ (k i : Nat) (ys : List Int), i + d = xs.length → d < k → ys.length = xs.length → ys.take i = xs.take i →
    laws_toInt64S.l0 k xs ys (i : Int) = some xs := by
  induction d with
  | zero =>
    intro k i ys hi hk hl ht
    obtain ⟨k, rfl⟩ : ∃ m, k = m + 1 := ⟨k - 1, by omega⟩
    simp only [laws_toInt64S.l0]; rw [if_neg (by omega)]
    rw [List.take_of_length_le (by omega), List.take_of_length_le (by omega)] at ht; rw [ht]
  | succ d ih =>
    intro k i ys hi hk hl ht
    obtain ⟨k, rfl⟩ : ∃ m, k = m + 1 := ⟨k - 1, by omega⟩
    have hlt : i < xs.length := by omega
    simp only [laws_toInt64S.l0]; rw [if_pos (by omega), if_pos (by omega), if_pos (by omega), pb_wrap (by omega) (by omega), pb_rd xs i hlt]
    exact ih k (i + 1) _ (by omega) (by omega) (by simpa using hl) (pb_take_set xs ys i hlt (by omega) ht)

theorem c_laws_toInt64S (k : Nat) (xs : List Int) (hn : xs.length ≤ 35184372088832) (hk : xs.length < k) : laws_toInt64S.f k xs = some xs := by
  unfold laws_toInt64S.f
  rw [if_pos (by omega), if_pos (by omega)]
  exact l_laws_toInt64S xs hn xs.length k 0 _ (by omega) hk (by simp) (by simp)

theorem l_laws_eqInt64S (xs ys : List Int) (hn : xs.length ≤ 35184372088832) (hl : xs.length = ys.length) (d : Nat) : ∀ (k i : Nat), i + d = xs.length → d < k →
    laws_eqInt64S.l0 k xs ys (i : Int) = some (decide (xs.drop i = ys.drop i)) := by
  induction d with
  | zero =>
    intro k i hi hk
    obtain ⟨k, rfl⟩ : ∃ m, k = m + 1 := ⟨k - 1, by omega⟩
    simp only [laws_eqInt64S.l0]; rw [if_neg (by omega), List.drop_of_length_le (by omega), List.drop_of_length_le (by omega)]; simp
  | succ d ih =>
    intro k i hi hk
    obtain ⟨k, rfl⟩ : ∃ m, k = m + 1 := ⟨k - 1, by omega⟩
    have hx : i < xs.length := by omega
    have hy : i < ys.length := by omega
    simp only [laws_eqInt64S.l0]
    rw [if_pos (by omega), if_pos (by omega), if_pos (by omega), pb_wrap (by omega) (by omega), pb_rd xs i hx, pb_rd ys i hy, List.drop_eq_getElem_cons hx, List.drop_eq_getElem_cons hy]
    by_cases h : xs[i] = ys[i]
    · rw [if_pos h]
      have := ih k (i + 1) (by omega) (by omega)
      rw [show ((i : Int) + 1) = ((i + 1 : Nat) : Int) by omega, this]; simp only [h, List.cons.injEq, true_and]
    · rw [if_neg h]; simp only [h, List.cons.injEq, false_and, decide_false]

theorem c_laws_eqInt64S (k : Nat) (xs ys : List Int) (hn : xs.length ≤ 35184372088832) (hk : xs.length < k) : laws_eqInt64S.f k xs ys = some (decide (xs = ys)) := by
  unfold laws_eqInt64S.f
  by_cases h : xs.length = ys.length
  · rw [if_pos (by omega)]
    have := l_laws_eqInt64S xs ys hn h xs.length k 0 (by omega) hk
    simpa using this
  · rw [if_neg (by omega)]; congr 1; symm; rw [decide_eq_false_iff_not]; intro e; exact h (by rw [e])

theorem l_laws_markInt64S (d : Nat) : ∀ (k i : Nat) (xs : List Int) (m : Nat), xs.length ≤ 35184372088832 → i + d = xs.length → d < k → m + d ≤ 70368744177664 →
    laws_markInt64S.l0 k xs (m : Int) (i : Int) = some (((m + d : Nat) : Int), xs.take i ++ (List.range' m d).map (fun (j : Nat) => (j : Int))) := by
  induction d with
  | zero =>
    intro k i xs m hn hi hk hm
    obtain ⟨k, rfl⟩ : ∃ m, k = m + 1 := ⟨k - 1, by omega⟩
    simp only [laws_markInt64S.l0]; rw [if_neg (by omega), List.take_of_length_le (by omega)]; simp
  | succ d ih =>
    intro k i xs m hn hi hk hm
    obtain ⟨k, rfl⟩ : ∃ m, k = m + 1 := ⟨k - 1, by omega⟩
    have hlt : i < xs.length := by omega
    simp only [laws_markInt64S.l0]
    rw [if_pos (by omega), if_pos (by omega), pb_wrap (by omega) (by omega), pb_wrap (by omega) (by omega)]
    have := ih k (i + 1) (xs.set i (m : Int)) (m + 1) (by simpa using hn) (by simp; omega) (by omega) (by omega)
    rw [show ((i : Int) + 1) = ((i + 1 : Nat) : Int) by omega, show ((m : Int) + 1) = ((m + 1 : Nat) : Int) by omega, show ((i : Int).toNat) = i by omega, this]
    rw [List.take_succ_eq_append_getElem (by simpa using hlt), List.take_set, List.set_eq_of_length_le (by simp; omega), List.getElem_set_self]
    congr 2
    · omega
    · rw [List.range'_succ]; simp

theorem c_laws_markInt64S (k : Nat) (xs : List Int) (m : Nat) (hn : xs.length ≤ 35184372088832) (hk : xs.length < k) (hm : m ≤ 35184372088832) :
    laws_markInt64S.f k xs (m : Int) = some (((m + xs.length : Nat) : Int), (List.range' m xs.length).map (fun (j : Nat) => (j : Int))) := by
  unfold laws_markInt64S.f
  have := l_laws_markInt64S xs.length k 0 xs m hn (by omega) hk (by omega)
  simpa using this

theorem l_laws_heldInt64S (d : Nat) : ∀ (k i : Nat) (xs : List Int) (m : Nat), xs.length ≤ 35184372088832 → i + d = xs.length → d < k → m + d ≤ 70368744177664 → xs.drop i = (List.range' m d).map (fun (j : Nat) => (j : Int)) →
    laws_heldInt64S.l0 k xs (m : Int) (i : Int) = some ((m + d : Nat) : Int) := by
  induction d with
  | zero =>
    intro k i xs m hn hi hk hm hx
    obtain ⟨k, rfl⟩ : ∃ m, k = m + 1 := ⟨k - 1, by omega⟩
    simp only [laws_heldInt64S.l0]; rw [if_neg (by omega)]; simp
  | succ d ih =>
    intro k i xs m hn hi hk hm hx
    obtain ⟨k, rfl⟩ : ∃ m, k = m + 1 := ⟨k - 1, by omega⟩
    have hlt : i < xs.length := by omega
    rw [List.drop_eq_getElem_cons hlt, List.range'_succ, List.map_cons, List.cons.injEq] at hx
    simp only [laws_heldInt64S.l0]
    rw [if_pos (by omega), if_pos (by omega), pb_rd xs i hlt, if_pos hx.1, pb_wrap (by omega) (by omega), pb_wrap (by omega) (by omega)]
    have := ih k (i + 1) xs (m + 1) hn (by omega) (by omega) (by omega) hx.2
    rw [show ((i : Int) + 1) = ((i + 1 : Nat) : Int) by omega, show ((m : Int) + 1) = ((m + 1 : Nat) : Int) by omega, this]
    congr 2; omega

theorem c_laws_heldInt64S (k : Nat) (n m : Nat) (hn : n ≤ 35184372088832) (hk : n < k) (hm : m ≤ 35184372088832) :
    laws_heldInt64S.f k ((List.range' m n).map (fun (j : Nat) => (j : Int))) (m : Int) = some ((m + n : Nat) : Int) := by
  unfold laws_heldInt64S.f
  exact l_laws_heldInt64S n k 0 _ m (by simpa using hn) (by simp) hk (by omega) (by simp)

theorem l_impl_areWords (xs : List Int) (hn : xs.length ≤ 35184372088832) (d : Nat) : ∀ (k i : Nat), i + d = xs.length → d < k →
    impl_areWords.l0 k xs (xs.length : Int) (i : Int) = some ((xs.drop i).all isW) := by
  induction d with
  | zero =>
    intro k i hi hk
    obtain ⟨k, rfl⟩ : ∃ m, k = m + 1 := ⟨k - 1, by omega⟩
    simp only [impl_areWords.l0]; rw [if_neg (by omega), List.drop_of_length_le (by omega)]; rfl
  | succ d ih =>
    intro k i hi hk
    obtain ⟨k, rfl⟩ : ∃ m, k = m + 1 := ⟨k - 1, by omega⟩
    have hlt : i < xs.length := by omega
    simp only [impl_areWords.l0]; rw [if_pos (by omega), if_pos (by omega), if_pos (by omega), pb_rd xs i hlt, c_impl_isWord, pb_wrap (by omega) (by omega), List.drop_eq_getElem_cons hlt]
    simp only [Option.bind_some, List.all_cons]
    cases h : isW xs[i] with
    | true => simp only [if_true, Bool.true_and]; exact ih k (i + 1) (by omega) (by omega)
    | false => simp

theorem c_impl_areWords (k : Nat) (xs : List Int) (hn : xs.length ≤ 35184372088832) (hk : xs.length < k) : impl_areWords.f k xs = some (xs.all isW) := by
  unfold impl_areWords.f
  have := l_impl_areWords xs hn xs.length k 0 (by omega) hk
  simpa using this

theorem l_spec_l6All (xs : List Int) (hn : xs.length ≤ 35184372088832) (d : Nat) : ∀ (k i : Nat), i + d = xs.length → d < k →
    spec_l6All.l0 k xs (i : Int) = some ((xs.drop i).all isW) := by
  induction d with
  | zero =>
    intro k i hi hk
    obtain ⟨k, rfl⟩ : ∃ m, k = m + 1 := ⟨k - 1, by omega⟩
    simp only [spec_l6All.l0]; rw [if_neg (by omega), List.drop_of_length_le (by omega)]; rfl
  | succ d ih =>
    intro k i hi hk
    obtain ⟨k, rfl⟩ : ∃ m, k = m + 1 := ⟨k - 1, by omega⟩
    have hlt : i < xs.length := by omega
    simp only [spec_l6All.l0]; rw [if_pos (by omega), if_pos (by omega), pb_rd xs i hlt, c_spec_l1Word, pb_wrap (by omega) (by omega), List.drop_eq_getElem_cons hlt]
    simp only [Option.bind_some, List.all_cons]
    cases h : isW xs[i] with
    | true => simp only [if_true, Bool.true_and]; exact ih k (i + 1) (by omega) (by omega)
    | false => simp

theorem c_spec_l6All (k : Nat) (xs : List Int) (hn : xs.length ≤ 35184372088832) (hk : xs.length < k) : spec_l6All.f k xs = some (xs.all isW) := by
  unfold spec_l6All.f
  have := l_spec_l6All xs hn xs.length k 0 (by omega) hk
  simpa using this

def mIn (a b c : Int) : Bool := decide (b ≤ a ∧ a ≤ c)

theorem f_spec_l1In (a b c : Int) : spec_l1In.f a b c = some (mIn a b c) := by
  unfold spec_l1In.f mIn
  by_cases h : b ≤ a <;> simp [h]

theorem f_impl_within (a b c : Int) : impl_within.f a b c = some (mIn a b c) := by
  unfold impl_within.f mIn
  by_cases h : b ≤ a <;> simp [h]

theorem c_laws_eqRegMachine (k : Nat) (pc : Int) (l1 l2 : List Int) (s u t : Int) (d : Bool) (hn : l1.length + l2.length ≤ 1048576) (hk : l1.length + l2.length < k) : laws_eqRegMachine.f k pc l1 l2 s u t d pc l1 l2 s u t d = some true := by
  unfold laws_eqRegMachine.f
  rw [c_laws_eqInt64S _ l1 l1 (by omega) (by omega), c_laws_eqInt64S _ l2 l2 (by omega) (by omega)]; simp

def mRegFault (pc : Int) (l1 l2 : List Int) (s u t : Int) : Int :=
  if isW pc && isW s && l1.all isW && l2.all isW && mIn u 0 1000000 && mIn t 0 10 then (if l1.length ≠ 24 then 1 else if 80 < l2.length then 2 else 0) else 3

theorem c_spec_l10Fault (pc : Int) (l1 l2 : List Int) (s u t : Int) (hn : l1.length + l2.length ≤ 2097152) : spec_l10Fault.f pc l1 l2 s u t = some (mRegFault pc l1 l2 s u t) := by
  unfold spec_l10Fault.f mRegFault
  rw [c_spec_l1Word, c_spec_l1Word, c_spec_l6All _ l1 (by omega) (by omega), c_spec_l6All _ l2 (by omega) (by omega), f_spec_l1In, f_spec_l1In]
  simp only [Option.bind_some]

theorem c_impl_RegFault (k : Nat) (pc : Int) (l1 l2 : List Int) (s u t : Int) (d : Bool) (hn : l1.length + l2.length ≤ 2097152) (hk : l1.length + l2.length < k) : impl_RegFault.f k pc l1 l2 s u t d = some (mRegFault pc l1 l2 s u t) := by
  obtain ⟨k, rfl⟩ : ∃ m, k = m + 1 := ⟨k - 1, by omega⟩
  unfold impl_RegFault.f mRegFault
  rw [c_impl_isWord, c_impl_isWord, c_impl_areWords _ l1 (by omega) (by omega), c_impl_areWords _ l2 (by omega) (by omega), f_impl_within, f_impl_within]
  simp only [Option.bind_some, impl_RegFault.j0]
  have hb : (if (l1.length : Int) = 24 then (if (l2.length : Int) > 80 then some (2 : Int) else some 0) else some 1) = some (if l1.length ≠ 24 then 1 else if 80 < l2.length then 2 else 0) := by
    by_cases h1 : l1.length = 24 <;> by_cases h2 : 80 < l2.length
    · rw [if_pos (by omega), if_pos (by omega), if_neg (fun h => h h1), if_pos h2]
    · rw [if_pos (by omega), if_neg (by omega), if_neg (fun h => h h1), if_neg h2]
    · rw [if_neg (by omega), if_pos h1]
    · rw [if_neg (by omega), if_pos h1]
  have ha : (if (l1.length : Int) ≠ 24 then some (1 : Int) else if (l2.length : Int) > 80 then some 2 else some 0) = some (if l1.length ≠ 24 then 1 else if 80 < l2.length then 2 else 0) := by
    rw [← hb]; by_cases h1 : (l1.length : Int) = 24 <;> simp [h1]
  have hc : (if ((l1.length : Int) != 24) = true then some (1 : Int) else if (l2.length : Int) > 80 then some 2 else some 0) = some (if l1.length ≠ 24 then 1 else if 80 < l2.length then 2 else 0) := by
    rw [← hb]; by_cases h1 : (l1.length : Int) = 24 <;> simp [h1]
  try rw [ha]
  try rw [hb]
  try rw [hc]
  cases isW pc <;> cases isW s <;> cases l1.all isW <;> cases l2.all isW <;> cases mIn u 0 1000000 <;> cases mIn t 0 10 <;> rfl

def rng (m n : Nat) : List Int := (List.range' m n).map (fun (j : Nat) => (j : Int))

theorem m_laws_markInt64S (k : Nat) (xs : List Int) (m : Nat) (hn : xs.length ≤ 1048576) (hk : xs.length < k) (hm : m ≤ 35184372088832) :
    laws_markInt64S.f k xs (m : Int) = some (((m + xs.length : Nat) : Int), rng m xs.length) := c_laws_markInt64S k xs m (by omega) hk hm

theorem m_laws_heldInt64S (k : Nat) (n m : Nat) (hn : n ≤ 1048576) (hk : n < k) (hm : m ≤ 35184372088832) :
    laws_heldInt64S.f k (rng m n) (m : Int) = some ((m + n : Nat) : Int) := c_laws_heldInt64S k n m (by omega) hk hm

theorem e_laws_eqInt64S (k : Nat) (xs : List Int) (hn : xs.length ≤ 1048576) (hk : xs.length < k) : laws_eqInt64S.f k xs xs = some true := by
  rw [c_laws_eqInt64S k xs xs (by omega) hk]; simp

theorem c_laws_markRegResult (k : Nat) (a b : Int) (l1 l2 : List Int) (s u t : Int) (d : Bool) (hn : l1.length + l2.length ≤ 1048576) (hk : l1.length + l2.length < k) :
    laws_markRegResult.f k a b l1 l2 s u t d 1 = some (((1 + l1.length + l2.length : Nat) : Int), rng 1 l1.length, rng (1 + l1.length) l2.length) := by
  unfold laws_markRegResult.f laws_markRegMachine.f
  rw [show (1 : Int) = ((1 : Nat) : Int) from rfl, m_laws_markInt64S k l1 1 (by omega) (by omega) (by omega)]; simp only [Option.bind_some]
  rw [m_laws_markInt64S k l2 _ (by omega) (by omega) (by omega)]; rfl

theorem c_laws_heldRegResult (k : Nat) (a b : Int) (n1 n2 : Nat) (s u t : Int) (d : Bool) (hn : n1 + n2 ≤ 1048576) (hk : n1 + n2 < k) :
    laws_heldRegResult.f k a b (rng 1 n1) (rng (1 + n1) n2) s u t d 1 = some ((1 + n1 + n2 : Nat) : Int) := by
  unfold laws_heldRegResult.f laws_heldRegMachine.f
  rw [show (1 : Int) = ((1 : Nat) : Int) from rfl, m_laws_heldInt64S k n1 1 (by omega) (by omega) (by omega)]; simp only [Option.bind_some]
  rw [if_neg (by omega), m_laws_heldInt64S k n2 _ (by omega) (by omega) (by omega)]; simp only [Option.bind_some]
  rw [if_neg (by omega)]; simp only [Option.bind_some]
  rw [if_neg (by omega)]

theorem c_laws_eqRegResult (k : Nat) (a b : Int) (l1 l2 : List Int) (s u t : Int) (d : Bool) (hn : l1.length + l2.length ≤ 1048576) (hk : l1.length + l2.length < k) :
    laws_eqRegResult.f k a b l1 l2 s u t d a b l1 l2 s u t d = some true := by
  unfold laws_eqRegResult.f
  rw [c_laws_eqRegMachine k b l1 l2 s u t d hn hk]; simp

theorem slices_rep : slices_Repeat_int64_int64.f [65535] 24 = some (List.replicate 24 65535) := rfl

def mStartRegs (l : List Int) : Int × Int × List Int × List Int × Int × Int × Int × Bool :=
  if mRegFault 0 (List.replicate 24 65535) l 0 0 0 = 0 then (0, 0, List.replicate 24 65535, l, 0, 0, 0, false) else (mRegFault 0 (List.replicate 24 65535) l 0 0 0, 0, [], [], 0, 0, 0, false)

theorem mStartRegs_len (l : List Int) : (mStartRegs l).2.2.1.length + (mStartRegs l).2.2.2.1.length ≤ 200 := by
  unfold mStartRegs
  split
  · next h =>
    unfold mRegFault at h
    by_cases h2 : 80 < l.length
    · exfalso; revert h; rw [if_pos h2]; simp only [List.length_replicate]; split <;> simp
    · simp; omega
  · simp

theorem c_spec_StartRegs (l : List Int) (hn : l.length ≤ 1048576) : spec_StartRegs.f l = some (mStartRegs l) := by
  have e := c_spec_l10Fault 0 (List.replicate 24 65535) l 0 0 0 (by simp; omega)
  unfold spec_StartRegs.f spec_l10Start.f mStartRegs
  rw [if_pos (by omega)]; simp only [Option.bind_some]
  rw [e]; simp only [Option.bind_some]
  all_goals (split <;> rfl)

theorem c_impl_StartRegs (k : Nat) (l : List Int) (hn : l.length ≤ 1048576) (hk : l.length + 100 < k) : impl_StartRegs.f k l = some (mStartRegs l) := by
  unfold impl_StartRegs.f slices_Clone_int64_int64.f mStartRegs
  rw [if_pos (by omega), slices_rep]; simp only [Option.bind_some]
  rw [c_impl_RegFault k 0 (List.replicate 24 65535) l 0 0 0 false (by simp; omega) (by simp; omega)]; simp only [Option.bind_some]
  all_goals (split <;> rfl)

theorem FnExactStartRegs : laws_FnExactStartRegs.Pure := by
  intro l _ _ _
  suffices key : ∀ k, l.length + 1000 ≤ k → laws_FnExactStartRegs.f (k + 1) l = some true from ⟨_, key _ (Nat.le_refl _)⟩
  intro k hk
  have hl := mStartRegs_len l
  unfold laws_FnExactStartRegs.f
  split
  · rfl
  have hn : l.length ≤ 1048576 := by omega
  rw [c_laws_toInt64S _ l (by omega) (by omega)]; simp only [Option.bind_some]
  rw [c_spec_StartRegs l hn, c_impl_StartRegs _ l hn (by omega)]; simp only [Option.bind_some]
  generalize hM : mStartRegs l = M at hl ⊢
  obtain ⟨a, b, l1, l2, s, u, t, d⟩ := M
  dsimp only at hl ⊢
  rw [c_laws_eqRegResult _ a b l1 l2 s u t d (by omega) (by omega), e_laws_eqInt64S _ l hn (by omega)]; simp only [Option.bind_some, if_true]
  rw [show (1 : Int) = ((1 : Nat) : Int) from rfl, m_laws_markInt64S _ l 1 (by omega) (by omega) (by omega)]; simp only [Option.bind_some]
  rw [if_neg (by omega)]
  simp only [Bool.not_true, laws_FnExactStartRegs.j0]
  rw [c_laws_markRegResult k a b l1 l2 s u t d (by omega) (by omega)]; simp only [Option.bind_some, Bool.false_eq_true, if_false]
  rw [c_laws_heldRegResult k a b _ _ s u t d (by omega) (by omega)]; simp only [Option.bind_some]
  rw [if_neg (by omega), if_pos trivial, c_laws_toInt64S _ l (by omega) (by omega)]; simp only [Option.bind_some]
  rw [c_impl_StartRegs k l hn (by omega), hM]; simp only [Option.bind_some]
  rw [c_laws_eqRegResult k a b l1 l2 s u t d (by omega) (by omega)]; simp only [Option.bind_some, if_true]
  rw [if_neg (by omega)]

end Go.Proofs.Ytklhfhnplldgjaa.Pure
