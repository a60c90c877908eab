/- Proved: for every input the law FnExactArgsOfRegs of the given program returns true. -/
import Derived.Test.YteglkbifeekbnaaPFnExactArgsOfRegsx1
set_option linter.unusedVariables false
set_option linter.unusedSimpArgs false
namespace Go.Proofs.Yteglkbifeekbnaa.Pure
open Go Go.RowKit Go.Proofs.Yteglkbifeekbnaa.PFnExactArgsOfRegs Go.Proofs.YteglkbifeekbnaaW.PrintWords Go.Proofs.YteglkbifeekbnaaW.PrintLast

theorem c_spec_l1In (a b c : Int) : spec_l1In.f a b c = some (decide (b ≤ a ∧ a ≤ c)) := by
  unfold spec_l1In.f; split
  · next h => congr 1; simp; omega
  · next h => congr 1; simp; omega

theorem c_impl_within (a b c : Int) : impl_within.f a b c = some (decide (b ≤ a ∧ a ≤ c)) := by
  unfold impl_within.f; split
  · next h => congr 1; simp; omega
  · next h => congr 1; simp; omega

theorem c_laws_eqIntResult (a b c d : Int) : laws_eqIntResult.f a b c d = some (decide (a = c ∧ b = d)) := by
  unfold laws_eqIntResult.f
  by_cases h : a = c <;> by_cases h' : b = d <;> simp [h, h']

def mArgsR (a : Int) : Int := if a = 4 ∨ a = 5 ∨ a = 6 then 4 else if a = 9 ∨ a = 10 ∨ a = 12 then 1 else if a = 13 then 0 else 2

theorem c_spec_l10Args (k : Nat) (a : Int) (hk : 2 ≤ k) : spec_l10Args.f k a = some (mArgsR a) := by
  obtain ⟨k, rfl⟩ : ∃ m, k = m + 2 := ⟨k - 2, by omega⟩
  unfold spec_l10Args.f mArgsR
  simp only [spec_l10Args.j0, spec_l10Args.j1]
  by_cases h4 : a = 4
  · simp [h4]
  by_cases h5 : a = 5
  · simp [h5]
  by_cases h6 : a = 6
  · simp [h6]
  by_cases h9 : a = 9
  · simp [h9]
  by_cases h10 : a = 10
  · simp [h10]
  by_cases h12 : a = 12
  · simp [h12]
  by_cases h13 : a = 13
  · simp [h13]
  simp [h4, h5, h6, h9, h10, h12, h13]

def mArgsOfRegs (a : Int) : Int × Int := if 1 ≤ a ∧ a ≤ 13 then (0, mArgsR a) else (3, 0)

theorem c_spec_ArgsOfRegs (k : Nat) (a : Int) (hk : 2 ≤ k) : spec_ArgsOfRegs.f k a = some (mArgsOfRegs a) := by
  unfold spec_ArgsOfRegs.f mArgsOfRegs
  rw [c_spec_l1In, c_spec_l10Args k a hk]; simp only [Option.bind_some, decide_eq_true_eq]
  split <;> rfl

theorem c_impl_ArgsOfRegs (a : Int) : impl_ArgsOfRegs.f a = some (mArgsOfRegs a) := by
  unfold impl_ArgsOfRegs.f mArgsOfRegs
  rw [c_impl_within]; simp only [Option.bind_some, decide_eq_true_eq]
  by_cases h : 1 ≤ a ∧ a ≤ 13
  · rw [if_pos h, if_pos h]
    have : a = 1 ∨ a = 2 ∨ a = 3 ∨ a = 4 ∨ a = 5 ∨ a = 6 ∨ a = 7 ∨ a = 8 ∨ a = 9 ∨ a = 10 ∨ a = 11 ∨ a = 12 ∨ a = 13 := by omega
    rcases this with rfl | rfl | rfl | rfl | rfl | rfl | rfl | rfl | rfl | rfl | rfl | rfl | rfl <;> decide +kernel
  · rw [if_neg h, if_neg h]

theorem FnExactArgsOfRegs : laws_FnExactArgsOfRegs.Pure := by
  intro a0 _
  refine ⟨2, ?_⟩
  unfold laws_FnExactArgsOfRegs.f
  rw [c_spec_ArgsOfRegs 2 _ (by decide), c_impl_ArgsOfRegs]
  simp only [Option.bind_some, c_laws_eqIntResult]; simp

end Go.Proofs.Yteglkbifeekbnaa.Pure
