/- Proved: for every input the law FnExactIsName of the given program returns true. -/
import Derived.Test.YteglkbifeekbnaaPFnExactIsNamex2
set_option linter.unusedVariables false
set_option linter.unusedSimpArgs false
namespace Go.Proofs.Yteglkbifeekbnaa.Pure
open Go Go.RowKit Go.Proofs.Yteglkbifeekbnaa.PFnExactIsName Go.Proofs.YteglkbifeekbnaaW.PrintWords Go.Proofs.YteglkbifeekbnaaW.PrintLast

theorem pb_wrap {a : Int} (h : -9223372036854775808 ≤ a) (h' : a ≤ 9223372036854775807) : wrap64 a = a := by
  unfold wrap64; omega

def wordsB : List ByteArray := [(⟨#[97, 110, 100]⟩ : ByteArray), (⟨#[98, 111, 111, 108]⟩ : ByteArray), (⟨#[99, 116, 117]⟩ : ByteArray), (⟨#[100, 111]⟩ : ByteArray), (⟨#[101, 108, 115, 101]⟩ : ByteArray), (⟨#[101, 110, 100]⟩ : ByteArray), (⟨#[102, 97, 108, 115, 101]⟩ : ByteArray), (⟨#[102, 111, 114]⟩ : ByteArray), (⟨#[105, 102]⟩ : ByteArray), (⟨#[105, 110]⟩ : ByteArray), (⟨#[105, 110, 116]⟩ : ByteArray), (⟨#[109, 111, 100]⟩ : ByteArray), (⟨#[110, 111, 116]⟩ : ByteArray), (⟨#[111, 114]⟩ : ByteArray), (⟨#[111, 117, 116]⟩ : ByteArray), (⟨#[114, 116, 114, 105, 103]⟩ : ByteArray), (⟨#[115, 114]⟩ : ByteArray), (⟨#[116, 104, 101, 110]⟩ : ByteArray), (⟨#[116, 111]⟩ : ByteArray), (⟨#[116, 111, 110]⟩ : ByteArray), (⟨#[116, 114, 117, 101]⟩ : ByteArray), (⟨#[118, 97, 114]⟩ : ByteArray), (⟨#[120, 111, 114]⟩ : ByteArray)]

def wordsL : List (List UInt8) := [[97, 110, 100], [98, 111, 111, 108], [99, 116, 117], [100, 111], [101, 108, 115, 101], [101, 110, 100], [102, 97, 108, 115, 101], [102, 111, 114], [105, 102], [105, 110], [105, 110, 116], [109, 111, 100], [110, 111, 116], [111, 114], [111, 117, 116], [114, 116, 114, 105, 103], [115, 114], [116, 104, 101, 110], [116, 111], [116, 111, 110], [116, 114, 117, 101], [118, 97, 114], [120, 111, 114]]

theorem wordsB_L : wordsB.map ByteArray.toList = wordsL := by decide +kernel

def mIsWord (s : ByteArray) : Bool := decide (s.toList ∈ wordsL)

theorem pb_chain {α : Type} (l w : α) (ws : List α) (r : Option Bool) [Decidable (l = w)] [Decidable (l ∈ ws)] [Decidable (l ∈ w :: ws)] (h : r = some (decide (l ∈ ws))) : (if l = w then some true else r) = some (decide (l ∈ w :: ws)) := by
  subst h
  by_cases e : l = w <;> simp [e]

theorem c_impl_IsWord (s : ByteArray) : impl_IsWord.f s = some (mIsWord s) := by
  unfold impl_IsWord.f mIsWord wordsL
  generalize s.toList = l
  repeat (refine pb_chain _ _ _ _ ?_)
  simp

theorem l_spec_IsWord (s : ByteArray) (ws : List ByteArray) (hw : ws.length ≤ 1000) (d : Nat) : ∀ (k : Nat) (i : Nat), i + d = ws.length → d < k →
    spec_IsWord.l0 k s ws (i : Int) = some (decide (s.toList ∈ (ws.drop i).map ByteArray.toList)) := by
  induction d with
  | zero =>
    intro k i hi hk
    obtain ⟨k, rfl⟩ : ∃ m, k = m + 1 := ⟨k - 1, by omega⟩
    simp only [spec_IsWord.l0]; rw [if_neg (by omega), List.drop_of_length_le (by omega)]; simp
  | succ d ih =>
    intro k i hi hk
    obtain ⟨k, rfl⟩ : ∃ m, k = m + 1 := ⟨k - 1, by omega⟩
    have hlt : i < ws.length := by omega
    simp only [spec_IsWord.l0]; rw [if_pos (by omega), if_pos (by omega), pb_wrap (by omega) (by omega), List.drop_eq_getElem_cons hlt]
    have e : rdOf ByteArray.empty ws (i : Int) = ws[i] := by
      unfold rdOf; simp [List.getD_eq_getElem?_getD, hlt]
    rw [e]
    by_cases h : ws[i].toList = s.toList
    · rw [if_pos h]; simp only [List.map_cons, List.mem_cons, h, true_or, decide_true]
    · rw [if_neg h, show ((i : Int) + 1) = ((i + 1 : Nat) : Int) by omega, ih k (i + 1) (by omega) (by omega)]
      have h' : ¬ s.toList = ws[i].toList := fun x => h x.symm
      simp only [List.map_cons, List.mem_cons, h', false_or]

theorem c_spec_IsWord (k : Nat) (s : ByteArray) (hk : 24 ≤ k) : spec_IsWord.f k s = some (mIsWord s) := by
  unfold spec_IsWord.f spec_l3Words.f mIsWord
  simp only [Option.bind_some]
  have h := l_spec_IsWord s wordsB (by decide) 23 k 0 (by decide) (by omega)
  rw [List.drop_zero, wordsB_L] at h
  exact h

theorem pb_size (s : ByteArray) : s.data.toList.length = s.size := by rw [Array.length_toList]; rfl

theorem pb_bt (s : ByteArray) (i : Nat) (h : i < s.data.toList.length) : bt s (i : Int) = ((s.data.toList[i]).toNat : Int) := by
  have h' : i < s.size := by rw [← pb_size]; exact h
  have := bt_at s (i : Int) (by simpa using h')
  rw [← this]; rfl

def isLetB (c : UInt8) : Bool := decide (97 ≤ c.toNat ∧ c.toNat ≤ 122 ∨ c.toNat = 95)

theorem c_spec_l3Letter (c : UInt8) : spec_l3Letter.f (c.toNat : Int) = some (isLetB c) := by
  unfold spec_l3Letter.f isLetB
  by_cases h : 97 ≤ c.toNat
  · by_cases h' : c.toNat ≤ 122
    · rw [if_pos (by omega), if_pos (by omega)]; simp [h, h']
    · rw [if_pos (by omega), if_neg (by omega)]; congr 1; rw [Bool.eq_iff_iff, beq_iff_eq, decide_eq_true_eq]; omega
  · rw [if_neg (by omega)]; congr 1; rw [Bool.eq_iff_iff, beq_iff_eq, decide_eq_true_eq]; omega

theorem c_impl_isLetter (c : UInt8) : impl_isLetter.f (c.toNat : Int) = some (isLetB c) := by
  unfold impl_isLetter.f isLetB
  by_cases h : 97 ≤ c.toNat
  · by_cases h' : c.toNat ≤ 122
    · rw [if_pos (by omega), if_pos (by omega)]; simp [h, h']
    · rw [if_pos (by omega), if_neg (by omega)]; congr 1; rw [Bool.eq_iff_iff, beq_iff_eq, decide_eq_true_eq]; omega
  · rw [if_neg (by omega)]; congr 1; rw [Bool.eq_iff_iff, beq_iff_eq, decide_eq_true_eq]; omega

def mIsName (s : ByteArray) : Bool := decide (1 ≤ s.size ∧ s.size ≤ 8) && !mIsWord s && s.data.toList.all isLetB

theorem l_spec_IsName (s : ByteArray) (hs : s.size ≤ 140737488351232) (d : Nat) : ∀ (k i : Nat), i + d = s.size → d < k →
    spec_IsName.l0 k s (i : Int) = some ((s.data.toList.drop i).all isLetB) := by
  have hsz := pb_size s
  induction d with
  | zero =>
    intro k i hi hk
    obtain ⟨k, rfl⟩ : ∃ m, k = m + 1 := ⟨k - 1, by omega⟩
    simp only [spec_IsName.l0]; rw [if_neg (by omega), List.drop_of_length_le (by omega)]; rfl
  | succ d ih =>
    intro k i hi hk
    obtain ⟨k, rfl⟩ : ∃ m, k = m + 1 := ⟨k - 1, by omega⟩
    have hlt : i < s.data.toList.length := by omega
    simp only [spec_IsName.l0]; rw [if_pos (by omega), if_pos (by omega), pb_wrap (by omega) (by omega), List.drop_eq_getElem_cons hlt, pb_bt s i hlt, c_spec_l3Letter]
    simp only [Option.bind_some, List.all_cons]
    cases h : isLetB s.data.toList[i] with
    | true => simp only [if_true, Bool.true_and]; exact ih k (i + 1) (by omega) (by omega)
    | false => simp

theorem c_spec_IsName (k : Nat) (s : ByteArray) (hs : s.size ≤ 140737488351232) (hk : s.size + 30 ≤ k) : spec_IsName.f k s = some (mIsName s) := by
  obtain ⟨k, rfl⟩ : ∃ m, k = m + 1 := ⟨k - 1, by omega⟩
  unfold spec_IsName.f mIsName
  rw [c_spec_IsWord _ s (by omega)]
  simp only [Option.bind_some, spec_IsName.j0]
  by_cases h1 : 1 ≤ s.size
  · by_cases h8 : s.size ≤ 8
    · rw [if_neg (by omega), if_neg (by omega)]
      cases hw : mIsWord s with
      | true => simp
      | false =>
        have := l_spec_IsName s hs s.size k 0 (by omega) (by omega)
        rw [List.drop_zero] at this
        simp only [Bool.false_eq_true, if_false]
        rw [show (0 : Int) = ((0 : Nat) : Int) from rfl, this]; simp [h1, h8]
    · rw [if_neg (by omega), if_pos (by omega)]; simp; omega
  · rw [if_pos (by omega)]; simp; omega

theorem l_impl_IsName (s : ByteArray) (hs : s.size ≤ 140737488351232) (d : Nat) : ∀ (k i : Nat), i + d = s.size → d < k →
    impl_IsName.l0 k s (s.size : Int) (i : Int) = some ((s.data.toList.drop i).all isLetB && decide (1 ≤ s.size ∧ s.size ≤ 8) && !mIsWord s) := by
  have hsz := pb_size s
  induction d with
  | zero =>
    intro k i hi hk
    obtain ⟨k, rfl⟩ : ∃ m, k = m + 1 := ⟨k - 1, by omega⟩
    simp only [impl_IsName.l0]; rw [if_neg (by omega), List.drop_of_length_le (by omega), c_impl_IsWord]
    simp only [Option.bind_some, List.all_nil, Bool.true_and]
    by_cases h1 : 1 ≤ s.size
    · by_cases h8 : s.size ≤ 8
      · rw [if_pos (by omega), if_pos (by omega)]; simp [h1, h8]
      · rw [if_pos (by omega), if_neg (by omega)]; simp; omega
    · rw [if_neg (by omega)]; simp; omega
  | succ d ih =>
    intro k i hi hk
    obtain ⟨k, rfl⟩ : ∃ m, k = m + 1 := ⟨k - 1, by omega⟩
    have hlt : i < s.data.toList.length := by omega
    simp only [impl_IsName.l0]; rw [if_pos (by omega), if_pos (by omega), if_pos (by omega), pb_wrap (by omega) (by omega), List.drop_eq_getElem_cons hlt, pb_bt s i hlt, c_impl_isLetter]
    simp only [Option.bind_some, List.all_cons]
    cases h : isLetB s.data.toList[i] with
    | true => simp only [if_true, Bool.true_and]; exact ih k (i + 1) (by omega) (by omega)
    | false => simp

theorem c_impl_IsName (k : Nat) (s : ByteArray) (hs : s.size ≤ 140737488351232) (hk : s.size + 1 ≤ k) : impl_IsName.f k s = some (mIsName s) := by
  unfold impl_IsName.f mIsName
  have := l_impl_IsName s hs s.size k 0 (by omega) (by omega)
  rw [List.drop_zero] at this
  rw [show (0 : Int) = ((0 : Nat) : Int) from rfl, this]
  congr 1
  cases s.data.toList.all isLetB <;> cases mIsWord s <;> simp

theorem FnExactIsName : laws_FnExactIsName.Pure := by
  intro a0 hs
  refine ⟨a0.size + 30, ?_⟩
  unfold laws_FnExactIsName.f
  split
  · rfl
  · rw [c_spec_IsName _ _ hs (by omega), c_impl_IsName _ _ hs (by omega)]; simp

end Go.Proofs.Yteglkbifeekbnaa.Pure
