/- Proved: for all arguments the law FnExactBinaryInv of the given program returns true and leaves its arguments as they were. Conditions: none but those that the given row itself states. -/
import Derived.Test.YtaolajbojoeahaaXFnExactBinaryInvx3
set_option linter.unusedVariables false
set_option linter.unusedSimpArgs false
namespace Go.Proofs.Ytaolajbojoeahaa.Pure
open Go Go.RowKit Go.Proofs.Ytaolajbojoeahaa.XFnExactBinaryInv Go.Proofs.YtaolajbojoeahaaW.PrintWords Go.Proofs.YtaolajbojoeahaaW.PrintLast

theorem pb_wrap {a : Int} (h : -9223372036854775808 ≤ a) (h' : a ≤ 9223372036854775807) : wrap64 a = a := by
  unfold wrap64; omega

theorem pb_u16 (a : Int) : IntKind.u16.wrap a = a % 65536 := by simp [IntKind.wrap, IntKind.bits, IntKind.signed]

theorem pb_i16 (a : Int) : IntKind.i16.wrap a = (a + 32768) % 65536 - 32768 := by
  simp [IntKind.wrap, IntKind.bits, IntKind.signed]; split <;> omega

theorem pb_and_mask (a : Int) (n : Nat) (hn : n ≤ 62) : Go.bits .and .i64 a ((2 ^ n - 1 : Nat) : Int) = a % (2 ^ n : Nat) := by
  have hp : (2 : Nat) ^ n ≤ 2 ^ 62 := Nat.pow_le_pow_right (by decide) hn
  have hp0 : 0 < (2 : Nat) ^ n := Nat.two_pow_pos n
  have hd : (2 : Nat) ^ n ∣ 2 ^ 64 := Nat.pow_dvd_pow 2 (by omega)
  unfold Go.bits
  simp only [BitVec.toNat_and, BitVec.toNat_ofInt]
  rw [show IntKind.i64.bits = 64 from rfl]
  have e1 : ((((2 ^ n - 1 : Nat) : Int) % (2 ^ 64 : Nat)).toNat) = 2 ^ n - 1 := by
    have : ((2 ^ n - 1 : Nat) : Int) % (2 ^ 64 : Nat) = ((2 ^ n - 1 : Nat) : Int) := by
      apply Int.emod_eq_of_lt
      · omega
      · have : (2 : Nat) ^ n - 1 < 2 ^ 64 := by omega
        exact_mod_cast this
    rw [this]; rfl
  rw [e1, Nat.and_two_pow_sub_one_eq_mod]
  have e2 : (((a % (2 ^ 64 : Nat)).toNat % 2 ^ n : Nat) : Int) = a % (2 ^ n : Nat) := by
    have h0 : 0 ≤ a % (2 ^ 64 : Nat) := Int.emod_nonneg _ (by decide)
    rw [Int.natCast_emod, Int.toNat_of_nonneg h0]
    exact Int.emod_emod_of_dvd a (by exact_mod_cast hd)
  rw [e2, IntKind.wrap_i64]
  have h0 : 0 ≤ a % (2 ^ n : Nat) := Int.emod_nonneg _ (by exact_mod_cast (Nat.ne_of_gt hp0))
  have h1 : a % (2 ^ n : Nat) < (2 ^ n : Nat) := Int.emod_lt_of_pos _ (by exact_mod_cast hp0)
  have h2 : ((2 ^ n : Nat) : Int) ≤ 2 ^ 62 := by exact_mod_cast hp
  omega

theorem pb_and65535 (a : Int) : Go.bits .and .i64 a 65535 = a % 65536 := pb_and_mask a 16 (by decide)

theorem pb_bits_nat (x y : Int) (hx : 0 ≤ x) (hx' : x < 65536) (hy : 0 ≤ y) (hy' : y < 65536) :
    Go.bits .and .i64 x y = ((x.toNat &&& y.toNat : Nat) : Int) ∧ Go.bits .or .i64 x y = ((x.toNat ||| y.toNat : Nat) : Int) ∧ Go.bits .xor .i64 x y = ((x.toNat ^^^ y.toNat : Nat) : Int) := by
  have hx2 : x.toNat < 2 ^ 16 := by omega
  have hy2 : y.toNat < 2 ^ 16 := by omega
  have ex : (x % (2 ^ 64 : Nat)).toNat = x.toNat := by rw [Int.emod_eq_of_lt hx (by omega)]
  have ey : (y % (2 ^ 64 : Nat)).toNat = y.toNat := by rw [Int.emod_eq_of_lt hy (by omega)]
  have h1 := Nat.and_lt_two_pow x.toNat hy2
  have h2 := Nat.or_lt_two_pow hx2 hy2
  have h3 := Nat.xor_lt_two_pow hx2 hy2
  refine ⟨?_, ?_, ?_⟩ <;>
  · unfold Go.bits
    dsimp only
    first | rw [BitVec.toNat_and] | rw [BitVec.toNat_or] | rw [BitVec.toNat_xor]
    rw [BitVec.toNat_ofInt, BitVec.toNat_ofInt, show IntKind.i64.bits = 64 from rfl, ex, ey, IntKind.wrap_i64]; omega

theorem c_laws_eqIntResult (a b c d : Int) : laws_eqIntResult.f a b c d = some (decide (a = c ∧ b = d)) := by
  unfold laws_eqIntResult.f
  by_cases h : a = c <;> by_cases h' : b = d <;> simp [h, h']

theorem c_spec_WordOf (a : Int) : spec_WordOf.f a = some (a % 65536) := by
  unfold spec_WordOf.f; rw [pb_u16, pb_wrap (by omega) (by omega)]

theorem c_impl_WordOf (a : Int) : impl_WordOf.f a = some (a % 65536) := by
  unfold impl_WordOf.f; rw [pb_and65535]

theorem c_impl_flag (b : Bool) : impl_flag.f b = some (if b then 1 else 0) := by
  unfold impl_flag.f; split <;> rfl

def mSigned (a : Int) : Int := (a + 32768) % 65536 - 32768

theorem c_spec_SignedOf (a : Int) : spec_SignedOf.f a = some (mSigned a) := by
  unfold spec_SignedOf.f mSigned; rw [pb_u16, pb_i16, pb_wrap (by omega) (by omega)]; congr 1; omega

theorem c_impl_SignedOf (a : Int) : impl_SignedOf.f a = some (mSigned a) := by
  unfold impl_SignedOf.f mSigned; rw [c_impl_WordOf]; simp only [Option.bind_some]
  split
  · rw [pb_wrap (by omega) (by omega)]; congr 1; omega
  · congr 1; omega

def mCompl (a : Int) : Int := 65535 - a % 65536

theorem c_spec_Complement (a : Int) : spec_Complement.f a = some (mCompl a) := by
  unfold spec_Complement.f mCompl; rw [c_spec_WordOf]; simp only [Option.bind_some]
  rw [pb_wrap (by omega) (by omega)]

theorem c_impl_Complement (a : Int) : impl_Complement.f a = some (mCompl a) := by
  unfold impl_Complement.f mCompl; rw [c_impl_WordOf]; simp only [Option.bind_some]
  rw [pb_wrap (by omega) (by omega)]

def mBin (op a b : Int) : Int × Int :=
  if op = 1 then (0, (a + b) % 65536) else if op = 2 then (0, (a - b) % 65536) else if op = 3 then (0, (a * b) % 65536)
  else if op = 4 then (if b % 65536 = 0 then (4, 0) else (0, (Int.tdiv (mSigned a) (mSigned b)) % 65536))
  else if op = 5 then (if b % 65536 = 0 then (4, 0) else (0, (Int.tmod (mSigned a) (mSigned b)) % 65536))
  else if op = 6 then (0, Go.bits .and .i64 (a % 65536) (b % 65536)) else if op = 7 then (0, Go.bits .or .i64 (a % 65536) (b % 65536)) else if op = 8 then (0, Go.bits .xor .i64 (a % 65536) (b % 65536))
  else if op = 9 then (0, if mSigned a < mSigned b then 1 else 0) else if op = 10 then (0, if a % 65536 = b % 65536 then 1 else 0) else (3, 0)

theorem mSigned_range (a : Int) : -32768 ≤ mSigned a ∧ mSigned a ≤ 32767 := by unfold mSigned; omega

theorem mSigned_mod (a : Int) : mSigned a % 65536 = a % 65536 := by unfold mSigned; omega

theorem mSigned_word (a : Int) : mSigned (a % 65536) = mSigned a := by unfold mSigned; omega

theorem mSigned_zero (a : Int) : mSigned a = 0 ↔ a % 65536 = 0 := by unfold mSigned; omega

theorem mSigned_inj (a b : Int) : mSigned a = mSigned b ↔ a % 65536 = b % 65536 := by unfold mSigned; omega

theorem pb_mul (x y m : Int) (hx : -m ≤ x ∧ x ≤ m) (hy : -m ≤ y ∧ y ≤ m) (hm : m * m ≤ 9223372036854775807) (h0 : 0 ≤ m) : wrap64 (x * y) = x * y := by
  have h : (x * y).natAbs ≤ (m * m).natAbs := by
    rw [Int.natAbs_mul, Int.natAbs_mul]; exact Nat.mul_le_mul (by omega) (by omega)
  have h1 : 0 ≤ m * m := Int.mul_nonneg h0 h0
  apply pb_wrap <;> omega

theorem pb_mulmod (a b x y : Int) (hx : x % 65536 = a % 65536) (hy : y % 65536 = b % 65536) : (x * y) % 65536 = (a * b) % 65536 := by
  rw [Int.mul_emod, hx, hy, ← Int.mul_emod]

theorem pb_tdiv_range (x y : Int) (hx : -32768 ≤ x ∧ x ≤ 32767) : -32768 ≤ Int.tdiv x y ∧ Int.tdiv x y ≤ 32768 := by
  have h : (Int.tdiv x y).natAbs ≤ x.natAbs := by rw [Int.natAbs_tdiv]; exact Nat.div_le_self _ _
  omega

theorem pb_bits_word (a b : Int) : (Go.bits .and .i64 (a % 65536) (b % 65536)) % 65536 = Go.bits .and .i64 (a % 65536) (b % 65536) ∧ (Go.bits .or .i64 (a % 65536) (b % 65536)) % 65536 = Go.bits .or .i64 (a % 65536) (b % 65536) ∧ (Go.bits .xor .i64 (a % 65536) (b % 65536)) % 65536 = Go.bits .xor .i64 (a % 65536) (b % 65536) := by
  have h := pb_bits_nat (a % 65536) (b % 65536) (by omega) (by omega) (by omega) (by omega)
  have h1 := Nat.and_lt_two_pow (n := 16) (a % 65536).toNat (show (b % 65536).toNat < 2 ^ 16 by omega)
  have h2 := Nat.or_lt_two_pow (n := 16) (show (a % 65536).toNat < 2 ^ 16 by omega) (show (b % 65536).toNat < 2 ^ 16 by omega)
  have h3 := Nat.xor_lt_two_pow (n := 16) (show (a % 65536).toNat < 2 ^ 16 by omega) (show (b % 65536).toNat < 2 ^ 16 by omega)
  rw [h.1, h.2.1, h.2.2]
  omega

theorem c_spec_l2Bit (b : Bool) : spec_l2Bit.f b = some (if b then 1 else 0) := by
  unfold spec_l2Bit.f; split <;> rfl

theorem c_impl_BinaryOf (k : Nat) (op a b : Int) (hk : 1 ≤ k) : impl_BinaryOf.f k op a b = some (mBin op a b) := by
  obtain ⟨k, rfl⟩ : ∃ m, k = m + 1 := ⟨k - 1, by omega⟩
  unfold impl_BinaryOf.f
  simp only [c_impl_WordOf, c_impl_SignedOf, Option.bind_some, impl_BinaryOf.j0, c_impl_flag, mSigned_word]
  have ra := mSigned_range a
  have rb := mSigned_range b
  have rm := pb_mul (a % 65536) (b % 65536) 65536 (by omega) (by omega) (by decide) (by decide)
  have hm := pb_mulmod a b (a % 65536) (b % 65536) (by omega) (by omega)
  have hd := pb_tdiv_range (mSigned a) (mSigned b) ra
  have hw := pb_bits_word a b
  unfold mBin
  by_cases h1 : op = 1
  · rw [if_pos h1, if_pos h1, pb_wrap (by omega) (by omega)]; congr 2; omega
  rw [if_neg h1, if_neg h1]
  by_cases h2 : op = 2
  · rw [if_pos h2, if_pos h2, pb_wrap (by omega) (by omega)]; congr 2; omega
  rw [if_neg h2, if_neg h2]
  by_cases h3 : op = 3
  · rw [if_pos h3, if_pos h3, rm, hm]
  rw [if_neg h3, if_neg h3]
  by_cases h4 : op = 4
  · subst h4
    by_cases hz : b % 65536 = 0
    · simp [hz]
    · have hz' : ¬ mSigned b = 0 := fun h => hz ((mSigned_zero b).1 h)
      simp only [hz, hz', if_false, if_true, BEq.rfl]
      rw [if_neg (by decide), pb_wrap (by omega) (by omega)]
  rw [if_neg h4, if_neg h4]
  by_cases h5 : op = 5
  · subst h5
    by_cases hz : b % 65536 = 0
    · simp [hz]
    · have hz' : ¬ mSigned b = 0 := fun h => hz ((mSigned_zero b).1 h)
      simp only [hz, hz', if_false, if_true, BEq.rfl]
  rw [if_neg (show ¬ ((op == 5) = true) by simpa using h5), if_neg h5]
  by_cases h6 : op = 6
  · rw [if_pos h6, if_pos h6, hw.1]
  rw [if_neg h6, if_neg h6]
  by_cases h7 : op = 7
  · rw [if_pos h7, if_pos h7, hw.2.1]
  rw [if_neg h7, if_neg h7]
  by_cases h8 : op = 8
  · rw [if_pos h8, if_pos h8, hw.2.2]
  rw [if_neg h8, if_neg h8]
  by_cases h9 : op = 9
  · rw [if_pos h9, if_pos h9]
    by_cases hl : mSigned a < mSigned b <;> simp [hl]
  rw [if_neg h9, if_neg h9]
  by_cases h10 : op = 10
  · rw [if_pos h10, if_pos h10]
    by_cases hl : a % 65536 = b % 65536 <;> simp [hl]
  rw [if_neg h10, if_neg h10]

def swp (p : Int × Int) : Int × Int := (p.2, p.1)

theorem c_spec_l2Binary (k : Nat) (op a b : Int) (hk : 1 ≤ k) : spec_l2Binary.f k op a b = some (swp (mBin op a b)) := by
  obtain ⟨k, rfl⟩ : ∃ m, k = m + 1 := ⟨k - 1, by omega⟩
  unfold spec_l2Binary.f swp
  simp only [c_spec_WordOf, c_spec_SignedOf, Option.bind_some, spec_l2Binary.j0, c_spec_l2Bit]
  have ra := mSigned_range a
  have rb := mSigned_range b
  have rm := pb_mul (mSigned a) (mSigned b) 65536 (by omega) (by omega) (by decide) (by decide)
  have hm := pb_mulmod a b (mSigned a) (mSigned b) (mSigned_mod a) (mSigned_mod b)
  have ea := mSigned_mod a
  have eb := mSigned_mod b
  have hd := pb_tdiv_range (mSigned a) (mSigned b) ra
  unfold mBin
  by_cases h1 : op = 1
  · rw [if_pos h1, if_pos h1, pb_wrap (by omega) (by omega)]; congr 2; omega
  rw [if_neg h1, if_neg h1]
  by_cases h2 : op = 2
  · rw [if_pos h2, if_pos h2, pb_wrap (by omega) (by omega)]; congr 2; omega
  rw [if_neg h2, if_neg h2]
  by_cases h3 : op = 3
  · rw [if_pos h3, if_pos h3, rm, hm]
  rw [if_neg h3, if_neg h3]
  by_cases h4 : op = 4
  · subst h4
    by_cases hz : b % 65536 = 0
    · have hz' := (mSigned_zero b).2 hz
      simp [hz, hz']
    · have hz' : ¬ mSigned b = 0 := fun h => hz ((mSigned_zero b).1 h)
      simp only [hz, hz', if_false, if_true, BEq.rfl]
      rw [pb_wrap (by omega) (by omega)]
  rw [if_neg h4, if_neg h4, if_neg h4]
  by_cases h5 : op = 5
  · subst h5
    by_cases hz : b % 65536 = 0
    · have hz' := (mSigned_zero b).2 hz
      simp [hz, hz']
    · have hz' : ¬ mSigned b = 0 := fun h => hz ((mSigned_zero b).1 h)
      simp only [hz, hz', if_false, if_true, BEq.rfl, h4]
  rw [if_neg (show ¬ ((op == 5) = true) by simpa using h5), if_neg h5]
  by_cases h6 : op = 6
  · rw [if_pos h6, if_pos h6]
  rw [if_neg h6, if_neg h6]
  by_cases h7 : op = 7
  · rw [if_pos h7, if_pos h7]
  rw [if_neg h7, if_neg h7]
  by_cases h8 : op = 8
  · rw [if_pos h8, if_pos h8]
  rw [if_neg h8, if_neg h8]
  by_cases h9 : op = 9
  · rw [if_pos h9, if_pos h9]
    by_cases hl : mSigned a < mSigned b <;> simp [hl]
  rw [if_neg h9, if_neg h9]
  by_cases h10 : op = 10
  · rw [if_pos h10, if_pos h10]
    have := mSigned_inj a b
    by_cases hl : a % 65536 = b % 65536
    · simp [hl, this.2 hl]
    · have hl' : ¬ mSigned a = mSigned b := fun h => hl (this.1 h)
      simp [hl, hl']
  rw [if_neg h10, if_neg h10]

def mInv (op a b : Int) : Int × Int := if (mBin op (mCompl a) (mCompl b)).1 = 0 then (0, mCompl (mBin op (mCompl a) (mCompl b)).2) else mBin op (mCompl a) (mCompl b)

theorem mBin_bad (op a b : Int) (h : ¬ (mBin op a b).1 = 0) : (mBin op a b).2 = 0 := by
  revert h; unfold mBin
  repeat' split
  all_goals simp

theorem c_impl_BinaryInv (op a b : Int) : impl_BinaryInv.f op a b = some (mInv op a b) := by
  unfold impl_BinaryInv.f mInv
  simp only [c_impl_Complement, Option.bind_some, c_impl_BinaryOf 1 _ _ _ (Nat.le_refl _)]
  split
  · next h => simp [h]
  · rfl

theorem c_spec_BinaryInv (k : Nat) (op a b : Int) (hk : 1 ≤ k) : spec_BinaryInv.f k op a b = some (mInv op a b) := by
  unfold spec_BinaryInv.f mInv
  simp only [c_spec_Complement, Option.bind_some, c_spec_l2Binary k _ _ _ hk, swp]
  split
  · next h => simp
  · next h => rw [← mBin_bad _ _ _ h]

theorem FnExactBinaryInv : laws_FnExactBinaryInv.Pure := by
  intro op a b _ _ _
  refine ⟨1, ?_⟩
  unfold laws_FnExactBinaryInv.f
  rw [c_spec_BinaryInv 1 _ _ _ (by decide), c_impl_BinaryInv]
  simp only [Option.bind_some, c_laws_eqIntResult]; simp

end Go.Proofs.Ytaolajbojoeahaa.Pure
