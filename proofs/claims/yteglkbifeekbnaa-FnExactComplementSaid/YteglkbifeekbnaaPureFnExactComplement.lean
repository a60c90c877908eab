/- Proved: for every input the law FnExactComplement of the given program returns true. -/
import Derived.Test.YteglkbifeekbnaaPFnExactComplementx1
set_option linter.unusedVariables false
set_option linter.unusedSimpArgs false
namespace Go.Proofs.Yteglkbifeekbnaa.Pure
open Go Go.RowKit Go.Proofs.Yteglkbifeekbnaa.PFnExactComplement Go.Proofs.YteglkbifeekbnaaW.PrintWords Go.Proofs.YteglkbifeekbnaaW.PrintLast

theorem pb_wrap {a : Int} (h : -9223372036854775808 ≤ a) (h' : a ≤ 9223372036854775807) : wrap64 a = a := by
  unfold wrap64; omega

theorem pb_u16 (a : Int) : IntKind.u16.wrap a = a % 65536 := by simp [IntKind.wrap, IntKind.bits, IntKind.signed]

theorem pb_and_mask (a : Int) (n : Nat) (hn : n ≤ 62) : Go.bits .and .i64 a ((2 ^ n - 1 : Nat) : Int) = a % (2 ^ n : Nat) := by
  have hp : (2 : Nat) ^ n ≤ 2 ^ 62 := Nat.pow_le_pow_right (by decide) hn
  have hp0 : 0 < (2 : Nat) ^ n := Nat.two_pow_pos n
  have hd : (2 : Nat) ^ n ∣ 2 ^ 64 := Nat.pow_dvd_pow 2 (by omega)
  unfold Go.bits
  simp only [BitVec.toNat_and, BitVec.toNat_ofInt]
  rw [show IntKind.i64.bits = 64 from rfl]
  have e1 : ((((2 ^ n - 1 : Nat) : Int) % (2 ^ 64 : Nat)).toNat) = 2 ^ n - 1 := by
    have : ((2 ^ n - 1 : Nat) : Int) % (2 ^ 64 : Nat) = ((2 ^ n - 1 : Nat) : Int) := by
      apply Int.emod_eq_of_lt
      · omega
      · have : (2 : Nat) ^ n - 1 < 2 ^ 64 := by omega
        exact_mod_cast this
    rw [this]; rfl
  rw [e1, Nat.and_two_pow_sub_one_eq_mod]
  have e2 : (((a % (2 ^ 64 : Nat)).toNat % 2 ^ n : Nat) : Int) = a % (2 ^ n : Nat) := by
    have h0 : 0 ≤ a % (2 ^ 64 : Nat) := Int.emod_nonneg _ (by decide)
    rw [Int.natCast_emod, Int.toNat_of_nonneg h0]
    exact Int.emod_emod_of_dvd a (by exact_mod_cast hd)
  rw [e2, IntKind.wrap_i64]
  have h0 : 0 ≤ a % (2 ^ n : Nat) := Int.emod_nonneg _ (by exact_mod_cast (Nat.ne_of_gt hp0))
  have h1 : a % (2 ^ n : Nat) < (2 ^ n : Nat) := Int.emod_lt_of_pos _ (by exact_mod_cast hp0)
  have h2 : ((2 ^ n : Nat) : Int) ≤ 2 ^ 62 := by exact_mod_cast hp
  omega

theorem pb_and65535 (a : Int) : Go.bits .and .i64 a 65535 = a % 65536 := pb_and_mask a 16 (by decide)

theorem c_spec_WordOf (a : Int) : spec_WordOf.f a = some (a % 65536) := by
  unfold spec_WordOf.f; rw [pb_u16, pb_wrap (by omega) (by omega)]

theorem c_impl_WordOf (a : Int) : impl_WordOf.f a = some (a % 65536) := by
  unfold impl_WordOf.f; rw [pb_and65535]

def mCompl (a : Int) : Int := 65535 - a % 65536

theorem c_spec_Complement (a : Int) : spec_Complement.f a = some (mCompl a) := by
  unfold spec_Complement.f mCompl; rw [c_spec_WordOf]; simp only [Option.bind_some]
  rw [pb_wrap (by omega) (by omega)]

theorem c_impl_Complement (a : Int) : impl_Complement.f a = some (mCompl a) := by
  unfold impl_Complement.f mCompl; rw [c_impl_WordOf]; simp only [Option.bind_some]
  rw [pb_wrap (by omega) (by omega)]

theorem FnExactComplement : laws_FnExactComplement.Pure := by
  intro a0 _
  unfold laws_FnExactComplement.f; rw [c_spec_Complement, c_impl_Complement]; simp

end Go.Proofs.Yteglkbifeekbnaa.Pure
