/- Proved: for all arguments the law FnUpside of the given program returns true and leaves its arguments as they were. Conditions: none but those that the given row itself states. -/
import Derived.Test.YtaolajbojoeahaaXFnUpsidex4
set_option linter.unusedVariables false
set_option linter.unusedSimpArgs false
namespace Go.Proofs.Ytaolajbojoeahaa.Pure
open Go Go.RowKit Go.Proofs.Ytaolajbojoeahaa.XFnUpside Go.Proofs.YtaolajbojoeahaaW.PrintWords Go.Proofs.YtaolajbojoeahaaW.PrintLast

theorem pb_wrap {a : Int} (h : -9223372036854775808 ≤ a) (h' : a ≤ 9223372036854775807) : wrap64 a = a := by
  unfold wrap64; omega

theorem pb_u16 (a : Int) : IntKind.u16.wrap a = a % 65536 := by simp [IntKind.wrap, IntKind.bits, IntKind.signed]

theorem pb_i16 (a : Int) : IntKind.i16.wrap a = (a + 32768) % 65536 - 32768 := by
  simp [IntKind.wrap, IntKind.bits, IntKind.signed]; split <;> omega

theorem pb_and_mask (a : Int) (n : Nat) (hn : n ≤ 62) : Go.bits .and .i64 a ((2 ^ n - 1 : Nat) : Int) = a % (2 ^ n : Nat) := by
  have hp : (2 : Nat) ^ n ≤ 2 ^ 62 := Nat.pow_le_pow_right (by decide) hn
  have hp0 : 0 < (2 : Nat) ^ n := Nat.two_pow_pos n
  have hd : (2 : Nat) ^ n ∣ 2 ^ 64 := Nat.pow_dvd_pow 2 (by omega)
  unfold Go.bits
  simp only [BitVec.toNat_and, BitVec.toNat_ofInt]
  rw [show IntKind.i64.bits = 64 from rfl]
  have e1 : ((((2 ^ n - 1 : Nat) : Int) % (2 ^ 64 : Nat)).toNat) = 2 ^ n - 1 := by
    have : ((2 ^ n - 1 : Nat) : Int) % (2 ^ 64 : Nat) = ((2 ^ n - 1 : Nat) : Int) := by
      apply Int.emod_eq_of_lt
      · omega
      · have : (2 : Nat) ^ n - 1 < 2 ^ 64 := by omega
        exact_mod_cast this
    rw [this]; rfl
  rw [e1, Nat.and_two_pow_sub_one_eq_mod]
  have e2 : (((a % (2 ^ 64 : Nat)).toNat % 2 ^ n : Nat) : Int) = a % (2 ^ n : Nat) := by
    have h0 : 0 ≤ a % (2 ^ 64 : Nat) := Int.emod_nonneg _ (by decide)
    rw [Int.natCast_emod, Int.toNat_of_nonneg h0]
    exact Int.emod_emod_of_dvd a (by exact_mod_cast hd)
  rw [e2, IntKind.wrap_i64]
  have h0 : 0 ≤ a % (2 ^ n : Nat) := Int.emod_nonneg _ (by exact_mod_cast (Nat.ne_of_gt hp0))
  have h1 : a % (2 ^ n : Nat) < (2 ^ n : Nat) := Int.emod_lt_of_pos _ (by exact_mod_cast hp0)
  have h2 : ((2 ^ n : Nat) : Int) ≤ 2 ^ 62 := by exact_mod_cast hp
  omega

theorem pb_and65535 (a : Int) : Go.bits .and .i64 a 65535 = a % 65536 := pb_and_mask a 16 (by decide)

theorem pb_bits_nat (x y : Int) (hx : 0 ≤ x) (hx' : x < 65536) (hy : 0 ≤ y) (hy' : y < 65536) :
    Go.bits .and .i64 x y = ((x.toNat &&& y.toNat : Nat) : Int) ∧ Go.bits .or .i64 x y = ((x.toNat ||| y.toNat : Nat) : Int) ∧ Go.bits .xor .i64 x y = ((x.toNat ^^^ y.toNat : Nat) : Int) := by
  have hx2 : x.toNat < 2 ^ 16 := by omega
  have hy2 : y.toNat < 2 ^ 16 := by omega
  have ex : (x % (2 ^ 64 : Nat)).toNat = x.toNat := by rw [Int.emod_eq_of_lt hx (by omega)]
  have ey : (y % (2 ^ 64 : Nat)).toNat = y.toNat := by rw [Int.emod_eq_of_lt hy (by omega)]
  have h1 := Nat.and_lt_two_pow x.toNat hy2
  have h2 := Nat.or_lt_two_pow hx2 hy2
  have h3 := Nat.xor_lt_two_pow hx2 hy2
  refine ⟨?_, ?_, ?_⟩ <;>
  · unfold Go.bits
    dsimp only
    first | rw [BitVec.toNat_and] | rw [BitVec.toNat_or] | rw [BitVec.toNat_xor]
    rw [BitVec.toNat_ofInt, BitVec.toNat_ofInt, show IntKind.i64.bits = 64 from rfl, ex, ey, IntKind.wrap_i64]; omega

theorem c_spec_WordOf (a : Int) : spec_WordOf.f a = some (a % 65536) := by
  unfold spec_WordOf.f; rw [pb_u16, pb_wrap (by omega) (by omega)]

theorem c_impl_WordOf (a : Int) : impl_WordOf.f a = some (a % 65536) := by
  unfold impl_WordOf.f; rw [pb_and65535]

theorem c_impl_flag (b : Bool) : impl_flag.f b = some (if b then 1 else 0) := by
  unfold impl_flag.f; split <;> rfl

def mNot (a : Int) : Int := if a % 65536 = 0 then 1 else 0

theorem c_spec_NotOf (a : Int) : spec_NotOf.f a = some (mNot a) := by
  unfold spec_NotOf.f mNot; rw [c_spec_WordOf]; simp only [Option.bind_some]; split <;> rfl

theorem c_impl_NotOf (a : Int) : impl_NotOf.f a = some (mNot a) := by
  unfold impl_NotOf.f mNot; rw [c_impl_WordOf]; simp only [Option.bind_some, c_impl_flag]
  by_cases h : a % 65536 = 0 <;> simp [h]

def mSigned (a : Int) : Int := (a + 32768) % 65536 - 32768

theorem c_spec_SignedOf (a : Int) : spec_SignedOf.f a = some (mSigned a) := by
  unfold spec_SignedOf.f mSigned; rw [pb_u16, pb_i16, pb_wrap (by omega) (by omega)]; congr 1; omega

theorem c_impl_SignedOf (a : Int) : impl_SignedOf.f a = some (mSigned a) := by
  unfold impl_SignedOf.f mSigned; rw [c_impl_WordOf]; simp only [Option.bind_some]
  split
  · rw [pb_wrap (by omega) (by omega)]; congr 1; omega
  · congr 1; omega

def mNeg (a : Int) : Int := (-a) % 65536

theorem c_impl_NegOf (a : Int) : impl_NegOf.f a = some (mNeg a) := by
  unfold impl_NegOf.f mNeg; rw [c_impl_WordOf]; simp only [Option.bind_some, c_impl_WordOf]
  rw [pb_wrap (by omega) (by omega)]; congr 1; omega

def mCompl (a : Int) : Int := 65535 - a % 65536

theorem c_impl_Complement (a : Int) : impl_Complement.f a = some (mCompl a) := by
  unfold impl_Complement.f mCompl; rw [c_impl_WordOf]; simp only [Option.bind_some]
  rw [pb_wrap (by omega) (by omega)]

def mBin (op a b : Int) : Int × Int :=
  if op = 1 then (0, (a + b) % 65536) else if op = 2 then (0, (a - b) % 65536) else if op = 3 then (0, (a * b) % 65536)
  else if op = 4 then (if b % 65536 = 0 then (4, 0) else (0, (Int.tdiv (mSigned a) (mSigned b)) % 65536))
  else if op = 5 then (if b % 65536 = 0 then (4, 0) else (0, (Int.tmod (mSigned a) (mSigned b)) % 65536))
  else if op = 6 then (0, Go.bits .and .i64 (a % 65536) (b % 65536)) else if op = 7 then (0, Go.bits .or .i64 (a % 65536) (b % 65536)) else if op = 8 then (0, Go.bits .xor .i64 (a % 65536) (b % 65536))
  else if op = 9 then (0, if mSigned a < mSigned b then 1 else 0) else if op = 10 then (0, if a % 65536 = b % 65536 then 1 else 0) else (3, 0)

theorem mSigned_range (a : Int) : -32768 ≤ mSigned a ∧ mSigned a ≤ 32767 := by unfold mSigned; omega

theorem mSigned_mod (a : Int) : mSigned a % 65536 = a % 65536 := by unfold mSigned; omega

theorem mSigned_word (a : Int) : mSigned (a % 65536) = mSigned a := by unfold mSigned; omega

theorem mSigned_zero (a : Int) : mSigned a = 0 ↔ a % 65536 = 0 := by unfold mSigned; omega

theorem mSigned_inj (a b : Int) : mSigned a = mSigned b ↔ a % 65536 = b % 65536 := by unfold mSigned; omega

theorem pb_mul (x y m : Int) (hx : -m ≤ x ∧ x ≤ m) (hy : -m ≤ y ∧ y ≤ m) (hm : m * m ≤ 9223372036854775807) (h0 : 0 ≤ m) : wrap64 (x * y) = x * y := by
  have h : (x * y).natAbs ≤ (m * m).natAbs := by
    rw [Int.natAbs_mul, Int.natAbs_mul]; exact Nat.mul_le_mul (by omega) (by omega)
  have h1 : 0 ≤ m * m := Int.mul_nonneg h0 h0
  apply pb_wrap <;> omega

theorem pb_mulmod (a b x y : Int) (hx : x % 65536 = a % 65536) (hy : y % 65536 = b % 65536) : (x * y) % 65536 = (a * b) % 65536 := by
  rw [Int.mul_emod, hx, hy, ← Int.mul_emod]

theorem pb_tdiv_range (x y : Int) (hx : -32768 ≤ x ∧ x ≤ 32767) : -32768 ≤ Int.tdiv x y ∧ Int.tdiv x y ≤ 32768 := by
  have h : (Int.tdiv x y).natAbs ≤ x.natAbs := by rw [Int.natAbs_tdiv]; exact Nat.div_le_self _ _
  omega

theorem pb_bits_word (a b : Int) : (Go.bits .and .i64 (a % 65536) (b % 65536)) % 65536 = Go.bits .and .i64 (a % 65536) (b % 65536) ∧ (Go.bits .or .i64 (a % 65536) (b % 65536)) % 65536 = Go.bits .or .i64 (a % 65536) (b % 65536) ∧ (Go.bits .xor .i64 (a % 65536) (b % 65536)) % 65536 = Go.bits .xor .i64 (a % 65536) (b % 65536) := by
  have h := pb_bits_nat (a % 65536) (b % 65536) (by omega) (by omega) (by omega) (by omega)
  have h1 := Nat.and_lt_two_pow (n := 16) (a % 65536).toNat (show (b % 65536).toNat < 2 ^ 16 by omega)
  have h2 := Nat.or_lt_two_pow (n := 16) (show (a % 65536).toNat < 2 ^ 16 by omega) (show (b % 65536).toNat < 2 ^ 16 by omega)
  have h3 := Nat.xor_lt_two_pow (n := 16) (show (a % 65536).toNat < 2 ^ 16 by omega) (show (b % 65536).toNat < 2 ^ 16 by omega)
  rw [h.1, h.2.1, h.2.2]
  omega

theorem c_spec_l2Bit (b : Bool) : spec_l2Bit.f b = some (if b then 1 else 0) := by
  unfold spec_l2Bit.f; split <;> rfl

theorem c_impl_BinaryOf (k : Nat) (op a b : Int) (hk : 1 ≤ k) : impl_BinaryOf.f k op a b = some (mBin op a b) := by
  obtain ⟨k, rfl⟩ : ∃ m, k = m + 1 := ⟨k - 1, by omega⟩
  unfold impl_BinaryOf.f
  simp only [c_impl_WordOf, c_impl_SignedOf, Option.bind_some, impl_BinaryOf.j0, c_impl_flag, mSigned_word]
  have ra := mSigned_range a
  have rb := mSigned_range b
  have rm := pb_mul (a % 65536) (b % 65536) 65536 (by omega) (by omega) (by decide) (by decide)
  have hm := pb_mulmod a b (a % 65536) (b % 65536) (by omega) (by omega)
  have hd := pb_tdiv_range (mSigned a) (mSigned b) ra
  have hw := pb_bits_word a b
  unfold mBin
  by_cases h1 : op = 1
  · rw [if_pos h1, if_pos h1, pb_wrap (by omega) (by omega)]; congr 2; omega
  rw [if_neg h1, if_neg h1]
  by_cases h2 : op = 2
  · rw [if_pos h2, if_pos h2, pb_wrap (by omega) (by omega)]; congr 2; omega
  rw [if_neg h2, if_neg h2]
  by_cases h3 : op = 3
  · rw [if_pos h3, if_pos h3, rm, hm]
  rw [if_neg h3, if_neg h3]
  by_cases h4 : op = 4
  · subst h4
    by_cases hz : b % 65536 = 0
    · simp [hz]
    · have hz' : ¬ mSigned b = 0 := fun h => hz ((mSigned_zero b).1 h)
      simp only [hz, hz', if_false, if_true, BEq.rfl]
      rw [if_neg (by decide), pb_wrap (by omega) (by omega)]
  rw [if_neg h4, if_neg h4]
  by_cases h5 : op = 5
  · subst h5
    by_cases hz : b % 65536 = 0
    · simp [hz]
    · have hz' : ¬ mSigned b = 0 := fun h => hz ((mSigned_zero b).1 h)
      simp only [hz, hz', if_false, if_true, BEq.rfl]
  rw [if_neg (show ¬ ((op == 5) = true) by simpa using h5), if_neg h5]
  by_cases h6 : op = 6
  · rw [if_pos h6, if_pos h6, hw.1]
  rw [if_neg h6, if_neg h6]
  by_cases h7 : op = 7
  · rw [if_pos h7, if_pos h7, hw.2.1]
  rw [if_neg h7, if_neg h7]
  by_cases h8 : op = 8
  · rw [if_pos h8, if_pos h8, hw.2.2]
  rw [if_neg h8, if_neg h8]
  by_cases h9 : op = 9
  · rw [if_pos h9, if_pos h9]
    by_cases hl : mSigned a < mSigned b <;> simp [hl]
  rw [if_neg h9, if_neg h9]
  by_cases h10 : op = 10
  · rw [if_pos h10, if_pos h10]
    by_cases hl : a % 65536 = b % 65536 <;> simp [hl]
  rw [if_neg h10, if_neg h10]

def swp (p : Int × Int) : Int × Int := (p.2, p.1)

theorem c_spec_l2Binary (k : Nat) (op a b : Int) (hk : 1 ≤ k) : spec_l2Binary.f k op a b = some (swp (mBin op a b)) := by
  obtain ⟨k, rfl⟩ : ∃ m, k = m + 1 := ⟨k - 1, by omega⟩
  unfold spec_l2Binary.f swp
  simp only [c_spec_WordOf, c_spec_SignedOf, Option.bind_some, spec_l2Binary.j0, c_spec_l2Bit]
  have ra := mSigned_range a
  have rb := mSigned_range b
  have rm := pb_mul (mSigned a) (mSigned b) 65536 (by omega) (by omega) (by decide) (by decide)
  have hm := pb_mulmod a b (mSigned a) (mSigned b) (mSigned_mod a) (mSigned_mod b)
  have ea := mSigned_mod a
  have eb := mSigned_mod b
  have hd := pb_tdiv_range (mSigned a) (mSigned b) ra
  unfold mBin
  by_cases h1 : op = 1
  · rw [if_pos h1, if_pos h1, pb_wrap (by omega) (by omega)]; congr 2; omega
  rw [if_neg h1, if_neg h1]
  by_cases h2 : op = 2
  · rw [if_pos h2, if_pos h2, pb_wrap (by omega) (by omega)]; congr 2; omega
  rw [if_neg h2, if_neg h2]
  by_cases h3 : op = 3
  · rw [if_pos h3, if_pos h3, rm, hm]
  rw [if_neg h3, if_neg h3]
  by_cases h4 : op = 4
  · subst h4
    by_cases hz : b % 65536 = 0
    · have hz' := (mSigned_zero b).2 hz
      simp [hz, hz']
    · have hz' : ¬ mSigned b = 0 := fun h => hz ((mSigned_zero b).1 h)
      simp only [hz, hz', if_false, if_true, BEq.rfl]
      rw [pb_wrap (by omega) (by omega)]
  rw [if_neg h4, if_neg h4, if_neg h4]
  by_cases h5 : op = 5
  · subst h5
    by_cases hz : b % 65536 = 0
    · have hz' := (mSigned_zero b).2 hz
      simp [hz, hz']
    · have hz' : ¬ mSigned b = 0 := fun h => hz ((mSigned_zero b).1 h)
      simp only [hz, hz', if_false, if_true, BEq.rfl, h4]
  rw [if_neg (show ¬ ((op == 5) = true) by simpa using h5), if_neg h5]
  by_cases h6 : op = 6
  · rw [if_pos h6, if_pos h6]
  rw [if_neg h6, if_neg h6]
  by_cases h7 : op = 7
  · rw [if_pos h7, if_pos h7]
  rw [if_neg h7, if_neg h7]
  by_cases h8 : op = 8
  · rw [if_pos h8, if_pos h8]
  rw [if_neg h8, if_neg h8]
  by_cases h9 : op = 9
  · rw [if_pos h9, if_pos h9]
    by_cases hl : mSigned a < mSigned b <;> simp [hl]
  rw [if_neg h9, if_neg h9]
  by_cases h10 : op = 10
  · rw [if_pos h10, if_pos h10]
    have := mSigned_inj a b
    by_cases hl : a % 65536 = b % 65536
    · simp [hl, this.2 hl]
    · have hl' : ¬ mSigned a = mSigned b := fun h => hl (this.1 h)
      simp [hl, hl']
  rw [if_neg h10, if_neg h10]

theorem c_spec_BinaryOf (k : Nat) (op a b : Int) (hk : 1 ≤ k) : spec_BinaryOf.f k op a b = some (mBin op a b) := by
  unfold spec_BinaryOf.f; rw [c_spec_l2Binary k op a b hk]; rfl

def mInv (op a b : Int) : Int × Int := if (mBin op (mCompl a) (mCompl b)).1 = 0 then (0, mCompl (mBin op (mCompl a) (mCompl b)).2) else mBin op (mCompl a) (mCompl b)

theorem c_impl_BinaryInv (op a b : Int) : impl_BinaryInv.f op a b = some (mInv op a b) := by
  unfold impl_BinaryInv.f mInv
  simp only [c_impl_Complement, Option.bind_some, c_impl_BinaryOf 1 _ _ _ (Nat.le_refl _)]
  split
  · next h => simp [h]
  · rfl

def bytesL (l : List Int) : Prop := ∀ x ∈ l, 0 ≤ x ∧ x ≤ 255

theorem bytesL_wf (l : List Int) (h : ∀ x ∈ l, (Lit.int .u8 x).wf = true) : bytesL l := by
  intro x hx
  have := h x hx
  simpa [Lit.wf, IntKind.min, IntKind.max, IntKind.signed, IntKind.bits] using this

theorem bytesL_rd (l : List Int) (h : bytesL l) (i : Int) : 0 ≤ rd l i ∧ rd l i ≤ 255 := by
  unfold rd
  by_cases hi : i.toNat < l.length
  · rw [List.getD_eq_getElem?_getD, List.getElem?_eq_getElem hi]
    exact h _ (List.getElem_mem hi)
  · rw [List.getD_eq_getElem?_getD, List.getElem?_eq_none (by omega)]; simp

theorem pb_tmod (a n : Int) (h0 : 0 ≤ a) (hn : 1 ≤ n) : 0 ≤ Int.tmod a n ∧ Int.tmod a n < n ∧ Int.tmod a n ≤ a := by
  rw [Int.tmod_eq_emod_of_nonneg h0]
  have h2 := Int.mul_ediv_add_emod a n
  have h3 := Int.mul_nonneg (show 0 ≤ n by omega) (Int.ediv_nonneg h0 (show 0 ≤ n by omega))
  exact ⟨Int.emod_nonneg _ (by omega), Int.emod_lt_of_pos _ (by omega), by omega⟩

theorem pb_tdiv (a n : Int) (h0 : 0 ≤ a) (hn : 1 ≤ n) : 0 ≤ Int.tdiv a n ∧ Int.tdiv a n ≤ a := by
  rw [Int.tdiv_eq_ediv_of_nonneg h0]
  exact ⟨Int.ediv_nonneg h0 (by omega), Int.ediv_le_self _ h0⟩

theorem d_l1Next (l : List Int) (hl : bytesL l) (at' n : Int) (h0 : 0 ≤ at') (h1 : at' ≤ 1000000000000) :
    ∃ v, spec_l1Next.f l at' n = some (v, at' + 1) ∧ 0 ≤ v ∧ (1 ≤ n → v < n) := by
  unfold spec_l1Next.f
  rw [pb_wrap (a := at' + 1) (by omega) (by omega), show at' + 1 - 1 = at' by omega, pb_wrap (a := at') (by omega) (by omega)]
  by_cases hn : n < 1
  · rw [if_pos hn]; exact ⟨0, rfl, by omega, fun h => by omega⟩
  rw [if_neg hn]
  by_cases hz : (l.length : Int) = 0
  · rw [if_pos hz, if_neg (by omega), pb_wrap (by omega) (by omega)]
    have := pb_tmod (at' * 7) n (by omega) (by omega)
    exact ⟨_, rfl, this.1, fun _ => this.2.1⟩
  rw [if_neg hz]
  have hi := pb_tmod at' (l.length : Int) h0 (by omega)
  have hq := pb_tdiv at' (l.length : Int) h0 (by omega)
  have hc := bytesL_rd l hl (Int.tmod at' (l.length : Int))
  have hj := pb_tmod (at' + 1) (l.length : Int) (by omega) (by omega)
  have hd := bytesL_rd l hl (Int.tmod (at' + 1) (l.length : Int))
  rw [pb_wrap (a := at' + 1) (by omega) (by omega)]
  generalize rd l (Int.tmod at' (l.length : Int)) = c at hc ⊢
  generalize rd l (Int.tmod (at' + 1) (l.length : Int)) = d at hd ⊢
  generalize Int.tdiv at' (l.length : Int) = q at hq ⊢
  rw [if_pos hi.1, if_pos hi.2.1]
  rw [pb_wrap (a := c) (by omega) (by omega), pb_wrap (a := q) (by omega) (by omega), pb_wrap (a := q * 37) (by omega) (by omega), pb_wrap (a := c + q * 37) (by omega) (by omega)]
  by_cases h2 : n > 200
  · rw [if_pos h2, if_pos hj.1, if_pos hj.2.1, if_neg (by omega), pb_wrap (a := (c + q * 37) * 251) (by omega) (by omega), pb_wrap (a := d) (by omega) (by omega), pb_wrap (a := d * 13) (by omega) (by omega), pb_wrap (a := (c + q * 37) * 251 + d * 13) (by omega) (by omega), pb_wrap (by omega) (by omega)]
    have := pb_tmod ((c + q * 37) * 251 + d * 13 + at') n (by omega) (by omega)
    exact ⟨_, rfl, this.1, fun _ => this.2.1⟩
  · rw [if_neg h2, if_neg (by omega)]
    have := pb_tmod (c + q * 37) n (by omega) (by omega)
    exact ⟨_, rfl, this.1, fun _ => this.2.1⟩

theorem d_l1Pick (l : List Int) (hl : bytesL l) (at' : Int) (xs : List Int) (h0 : 0 ≤ at') (h1 : at' ≤ 1000000000000) (hx : 1 ≤ xs.length) :
    ∃ v, spec_l1Pick.f l at' xs = some (v, at' + 1) ∧ v ∈ xs := by
  unfold spec_l1Pick.f
  obtain ⟨v, hv, hv0, hv1⟩ := d_l1Next l hl at' (xs.length : Int) h0 h1
  have hv2 := hv1 (by omega)
  rw [hv]; simp only [Option.bind_some]
  rw [if_pos hv0, if_pos hv2]
  refine ⟨_, rfl, ?_⟩
  unfold rd
  rw [List.getD_eq_getElem?_getD, List.getElem?_eq_getElem (by omega)]
  exact List.getElem_mem _

theorem d_l1DrawWord (l : List Int) (hl : bytesL l) (at' : Int) (h0 : 0 ≤ at') (h1 : at' ≤ 100000000000) :
    ∃ v, spec_l1DrawWord.f l at' = some (v, at' + 4) := by
  unfold spec_l1DrawWord.f
  obtain ⟨v1, e1, _, _⟩ := d_l1Next l hl at' 90 h0 (by omega)
  rw [e1]; simp only [Option.bind_some]
  obtain ⟨v2, e2, _, _⟩ := d_l1Next l hl (at' + 1) 256 (by omega) (by omega)
  rw [e2]; simp only [Option.bind_some]
  obtain ⟨v3, e3, _, _⟩ := d_l1Next l hl (at' + 1 + 1) 9 (by omega) (by omega)
  rw [e3]; simp only [Option.bind_some]
  obtain ⟨v4, e4, _⟩ := d_l1Pick l hl (at' + 1 + 1 + 1) ([v1, wrap64 (v2 * 257), wrap64 (65535 - v3), 32768, 32767, 0] : List Int) (by omega) (by omega) (by simp)
  rw [e4]; simp only [Option.bind_some]
  exact ⟨v4, by rw [show at' + 1 + 1 + 1 + 1 = at' + 4 by omega]⟩

theorem d_l2Wide (l : List Int) (hl : bytesL l) (at' : Int) (h0 : 0 ≤ at') (h1 : at' ≤ 10000000000) :
    ∃ v, spec_l2Wide.f l at' = some (v, at' + 14) := by
  unfold spec_l2Wide.f
  obtain ⟨v1, e1⟩ := d_l1DrawWord l hl at' h0 (by omega)
  rw [e1]; simp only [Option.bind_some]
  obtain ⟨v2, e2⟩ := d_l1DrawWord l hl (at' + 4) (by omega) (by omega)
  rw [e2]; simp only [Option.bind_some]
  obtain ⟨v3, e3⟩ := d_l1DrawWord l hl (at' + 4 + 4) (by omega) (by omega)
  rw [e3]; simp only [Option.bind_some]
  obtain ⟨v4, e4, _, _⟩ := d_l1Next l hl (at' + 4 + 4 + 4) 9 (by omega) (by omega)
  rw [e4]; simp only [Option.bind_some]
  obtain ⟨v5, e5, _⟩ := d_l1Pick l hl (at' + 4 + 4 + 4 + 1) ([v1, v2, v3, v4, (-1), 65536, (-9223372036854775808), 9223372036854775807] : List Int) (by omega) (by omega) (by simp)
  rw [e5]; simp only [Option.bind_some]
  exact ⟨v5, by rw [show at' + 4 + 4 + 4 + 1 + 1 = at' + 14 by omega]⟩

theorem d_DrawBinaryOf (l : List Int) (hl : bytesL l) : ∃ op a b, spec_DrawBinaryOf.f l = some (op, a, b) := by
  unfold spec_DrawBinaryOf.f spec_l1Source.f
  simp only [Option.bind_some]
  obtain ⟨v1, e1⟩ := d_l2Wide l hl 0 (by omega) (by omega)
  rw [e1]; simp only [Option.bind_some]
  obtain ⟨v2, e2, _, _⟩ := d_l1Next l hl (0 + 14) 10 (by omega) (by omega)
  rw [e2]; simp only [Option.bind_some]
  obtain ⟨v3, e3, _, _⟩ := d_l1Next l hl (0 + 14 + 1) 10 (by omega) (by omega)
  rw [e3]; simp only [Option.bind_some]
  obtain ⟨v4, e4, _, _⟩ := d_l1Next l hl (0 + 14 + 1 + 1) 10 (by omega) (by omega)
  rw [e4]; simp only [Option.bind_some]
  obtain ⟨v5, e5, _⟩ := d_l1Pick l hl (0 + 14 + 1 + 1 + 1) ([wrap64 (1 + v2), wrap64 (1 + v3), wrap64 (1 + v4), 0, 11] : List Int) (by omega) (by omega) (by simp)
  rw [e5]; simp only [Option.bind_some]
  obtain ⟨v6, e6⟩ := d_l2Wide l hl (0 + 14 + 1 + 1 + 1 + 1) (by omega) (by omega)
  rw [e6]; simp only [Option.bind_some]
  exact ⟨_, _, _, rfl⟩

theorem c_laws_lwBig (l : List Int) : laws_lwBig.f l = some (decide ((l.length : Int) > 1048576)) := rfl

theorem mBin_words (op a b : Int) : mBin op (a % 65536) (b % 65536) = mBin op a b := by
  have h1 := pb_mulmod a b (a % 65536) (b % 65536) (by omega) (by omega)
  unfold mBin
  rw [h1, mSigned_word, mSigned_word, show (a % 65536 + b % 65536) % 65536 = (a + b) % 65536 by omega, show (a % 65536 - b % 65536) % 65536 = (a - b) % 65536 by omega, show a % 65536 % 65536 = a % 65536 by omega, show b % 65536 % 65536 = b % 65536 by omega]

theorem mCompl_compl (a : Int) : mCompl (mCompl a) = a % 65536 := by unfold mCompl; omega

theorem mInv_compl (op a b : Int) : mInv op (mCompl a) (mCompl b) = if (mBin op a b).1 = 0 then (0, mCompl (mBin op a b).2) else mBin op a b := by
  unfold mInv; rw [mCompl_compl, mCompl_compl, mBin_words]

theorem FnUpside : laws_FnUpside.Pure := by
  intro l0 _ _ hw
  have hl := bytesL_wf l0 hw
  suffices key : ∀ k, 1 ≤ k → laws_FnUpside.f (k + 1) l0 = some true from ⟨1 + 1, key 1 (Nat.le_refl _)⟩
  intro k hk
  unfold laws_FnUpside.f
  rw [c_laws_lwBig]; simp only [Option.bind_some]
  split
  · rfl
  obtain ⟨op, a, b, e⟩ := d_DrawBinaryOf l0 hl
  rw [e]
  simp only [Option.bind_some, c_impl_BinaryOf (k + 1) _ _ _ (by omega), c_impl_Complement, c_impl_BinaryInv, mInv_compl, c_impl_NegOf, c_spec_BinaryOf (k + 1) _ _ _ (by omega), c_impl_WordOf, c_spec_WordOf, c_impl_NotOf, c_spec_NotOf, laws_FnUpside.j0, c_impl_BinaryOf k _ _ _ hk, c_impl_SignedOf]
  by_cases h0 : (mBin op a b).1 = 0
  · rw [if_pos h0, if_pos h0]
    have e1 : (mBin 1 a (mNeg a)).2 = 0 := by
      show (a + mNeg a) % 65536 = 0
      unfold mNeg; omega
    have e2 : mSigned a % 65536 = a % 65536 := mSigned_mod a
    have e3 : (mBin 1 (mNeg a) 65535).2 = mCompl a := by
      show (mNeg a + 65535) % 65536 = mCompl a
      unfold mNeg mCompl; omega
    have e4 : mNot (mNot (mNot a)) = mNot a := by
      unfold mNot
      by_cases h : a % 65536 = 0 <;> simp [h]
    simp only [if_true, bne_self_eq_false, Bool.false_eq_true, if_false, mCompl_compl, e1, e2, e3, e4, BEq.rfl]
  · rw [if_neg h0, if_neg h0]
    simp

end Go.Proofs.Ytaolajbojoeahaa.Pure
