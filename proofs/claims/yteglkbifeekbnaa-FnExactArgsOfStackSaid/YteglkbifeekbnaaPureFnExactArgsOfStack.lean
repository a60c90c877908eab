/- Proved: for every input the law FnExactArgsOfStack of the given program returns true. -/
import Derived.Test.YteglkbifeekbnaaPFnExactArgsOfStackx1
set_option linter.unusedVariables false
set_option linter.unusedSimpArgs false
namespace Go.Proofs.Yteglkbifeekbnaa.Pure
open Go Go.RowKit Go.Proofs.Yteglkbifeekbnaa.PFnExactArgsOfStack Go.Proofs.YteglkbifeekbnaaW.PrintWords Go.Proofs.YteglkbifeekbnaaW.PrintLast

theorem c_spec_l1In (a b c : Int) : spec_l1In.f a b c = some (decide (b ≤ a ∧ a ≤ c)) := by
  unfold spec_l1In.f; split
  · next h => congr 1; simp; omega
  · next h => congr 1; simp; omega

theorem c_impl_within (a b c : Int) : impl_within.f a b c = some (decide (b ≤ a ∧ a ≤ c)) := by
  unfold impl_within.f; split
  · next h => congr 1; simp; omega
  · next h => congr 1; simp; omega

theorem c_laws_eqIntResult (a b c d : Int) : laws_eqIntResult.f a b c d = some (decide (a = c ∧ b = d)) := by
  unfold laws_eqIntResult.f
  by_cases h : a = c <;> by_cases h' : b = d <;> simp [h, h']

def mArgsS (a : Int) : Int := if a = 4 ∨ a = 5 then 2 else if a = 7 ∨ a = 8 ∨ a = 9 ∨ a = 13 then 0 else 1

theorem c_spec_l8Args (k : Nat) (a : Int) (hk : 1 ≤ k) : spec_l8Args.f k a = some (mArgsS a) := by
  obtain ⟨k, rfl⟩ : ∃ m, k = m + 1 := ⟨k - 1, by omega⟩
  unfold spec_l8Args.f mArgsS
  simp only [spec_l8Args.j0]
  by_cases h4 : a = 4
  · simp [h4]
  by_cases h5 : a = 5
  · simp [h5]
  by_cases h7 : a = 7
  · simp [h7]
  by_cases h8 : a = 8
  · simp [h8]
  by_cases h9 : a = 9
  · simp [h9]
  by_cases h13 : a = 13
  · simp [h13]
  simp [h4, h5, h7, h8, h9, h13]

def mArgsOfStack (a : Int) : Int × Int := if 1 ≤ a ∧ a ≤ 13 then (0, mArgsS a) else (3, 0)

theorem c_spec_ArgsOfStack (k : Nat) (a : Int) (hk : 1 ≤ k) : spec_ArgsOfStack.f k a = some (mArgsOfStack a) := by
  unfold spec_ArgsOfStack.f mArgsOfStack
  rw [c_spec_l1In, c_spec_l8Args k a hk]; simp only [Option.bind_some, decide_eq_true_eq]
  split <;> rfl

theorem c_impl_ArgsOfStack (a : Int) : impl_ArgsOfStack.f a = some (mArgsOfStack a) := by
  unfold impl_ArgsOfStack.f mArgsOfStack
  rw [c_impl_within]; simp only [Option.bind_some, decide_eq_true_eq]
  by_cases h : 1 ≤ a ∧ a ≤ 13
  · rw [if_pos h, if_pos h]
    have : a = 1 ∨ a = 2 ∨ a = 3 ∨ a = 4 ∨ a = 5 ∨ a = 6 ∨ a = 7 ∨ a = 8 ∨ a = 9 ∨ a = 10 ∨ a = 11 ∨ a = 12 ∨ a = 13 := by omega
    rcases this with rfl | rfl | rfl | rfl | rfl | rfl | rfl | rfl | rfl | rfl | rfl | rfl | rfl <;> decide +kernel
  · rw [if_neg h, if_neg h]

theorem FnExactArgsOfStack : laws_FnExactArgsOfStack.Pure := by
  intro a0 _
  refine ⟨1, ?_⟩
  unfold laws_FnExactArgsOfStack.f
  rw [c_spec_ArgsOfStack 1 _ (by decide), c_impl_ArgsOfStack]
  simp only [Option.bind_some, c_laws_eqIntResult]; simp

end Go.Proofs.Yteglkbifeekbnaa.Pure
