/- Proved: for all arguments the law FnBlocksteps of the given program returns true and leaves its arguments as they were. Conditions: none but those that the given row itself states. -/
import Derived.Test.YtklhfhnplldgjaaXFnBlockstepsx7
set_option linter.unusedVariables false
set_option linter.unusedSimpArgs false
namespace Go.Proofs.Ytklhfhnplldgjaa.Pure
open Go Go.RowKit Go.Proofs.Ytklhfhnplldgjaa.XFnBlocksteps Go.Proofs.YtklhfhnplldgjaaW.PrintWords Go.Proofs.YtklhfhnplldgjaaW.PrintLast

theorem pb_wrap {a : Int} (h : -9223372036854775808 ≤ a) (h' : a ≤ 9223372036854775807) : wrap64 a = a := by
  unfold wrap64; omega

theorem pb_u16 (a : Int) : IntKind.u16.wrap a = a % 65536 := by simp [IntKind.wrap, IntKind.bits, IntKind.signed]

theorem pb_i16 (a : Int) : IntKind.i16.wrap a = (a + 32768) % 65536 - 32768 := by
  simp [IntKind.wrap, IntKind.bits, IntKind.signed]; split <;> omega

theorem pb_and_mask (a : Int) (n : Nat) (hn : n ≤ 62) : Go.bits .and .i64 a ((2 ^ n - 1 : Nat) : Int) = a % (2 ^ n : Nat) := by
  have hp : (2 : Nat) ^ n ≤ 2 ^ 62 := Nat.pow_le_pow_right (by decide) hn
  have hp0 : 0 < (2 : Nat) ^ n := Nat.two_pow_pos n
  have hd : (2 : Nat) ^ n ∣ 2 ^ 64 := Nat.pow_dvd_pow 2 (by omega)
  unfold Go.bits
  simp only [BitVec.toNat_and, BitVec.toNat_ofInt]
  rw [show IntKind.i64.bits = 64 from rfl]
  have e1 : ((((2 ^ n - 1 : Nat) : Int) % (2 ^ 64 : Nat)).toNat) = 2 ^ n - 1 := by
    have : ((2 ^ n - 1 : Nat) : Int) % (2 ^ 64 : Nat) = ((2 ^ n - 1 : Nat) : Int) := by
      apply Int.emod_eq_of_lt
      · omega
      · have : (2 : Nat) ^ n - 1 < 2 ^ 64 := by omega
        exact_mod_cast this
    rw [this]; rfl
  rw [e1, Nat.and_two_pow_sub_one_eq_mod]
  have e2 : (((a % (2 ^ 64 : Nat)).toNat % 2 ^ n : Nat) : Int) = a % (2 ^ n : Nat) := by
    have h0 : 0 ≤ a % (2 ^ 64 : Nat) := Int.emod_nonneg _ (by decide)
    rw [Int.natCast_emod, Int.toNat_of_nonneg h0]
    exact Int.emod_emod_of_dvd a (by exact_mod_cast hd)
  rw [e2, IntKind.wrap_i64]
  have h0 : 0 ≤ a % (2 ^ n : Nat) := Int.emod_nonneg _ (by exact_mod_cast (Nat.ne_of_gt hp0))
  have h1 : a % (2 ^ n : Nat) < (2 ^ n : Nat) := Int.emod_lt_of_pos _ (by exact_mod_cast hp0)
  have h2 : ((2 ^ n : Nat) : Int) ≤ 2 ^ 62 := by exact_mod_cast hp
  omega

theorem pb_and65535 (a : Int) : Go.bits .and .i64 a 65535 = a % 65536 := pb_and_mask a 16 (by decide)

theorem pb_bits_nat (x y : Int) (hx : 0 ≤ x) (hx' : x < 65536) (hy : 0 ≤ y) (hy' : y < 65536) :
    Go.bits .and .i64 x y = ((x.toNat &&& y.toNat : Nat) : Int) ∧ Go.bits .or .i64 x y = ((x.toNat ||| y.toNat : Nat) : Int) ∧ Go.bits .xor .i64 x y = ((x.toNat ^^^ y.toNat : Nat) : Int) := by
  have hx2 : x.toNat < 2 ^ 16 := by omega
  have hy2 : y.toNat < 2 ^ 16 := by omega
  have ex : (x % (2 ^ 64 : Nat)).toNat = x.toNat := by rw [Int.emod_eq_of_lt hx (by omega)]
  have ey : (y % (2 ^ 64 : Nat)).toNat = y.toNat := by rw [Int.emod_eq_of_lt hy (by omega)]
  have h1 := Nat.and_lt_two_pow x.toNat hy2
  have h2 := Nat.or_lt_two_pow hx2 hy2
  have h3 := Nat.xor_lt_two_pow hx2 hy2
  refine ⟨?_, ?_, ?_⟩ <;>
  · unfold Go.bits
    dsimp only
    first | rw [BitVec.toNat_and] | rw [BitVec.toNat_or] | rw [BitVec.toNat_xor]
    rw [BitVec.toNat_ofInt, BitVec.toNat_ofInt, show IntKind.i64.bits = 64 from rfl, ex, ey, IntKind.wrap_i64]; omega

theorem c_spec_l1In (a b c : Int) : spec_l1In.f a b c = some (decide (b ≤ a ∧ a ≤ c)) := by
  unfold spec_l1In.f; split
  · next h => congr 1; simp; omega
  · next h => congr 1; simp; omega

theorem c_impl_within (a b c : Int) : impl_within.f a b c = some (decide (b ≤ a ∧ a ≤ c)) := by
  unfold impl_within.f; split
  · next h => congr 1; simp; omega
  · next h => congr 1; simp; omega

def isW (a : Int) : Bool := decide (0 ≤ a ∧ a ≤ 65535)

theorem c_spec_l1Word (a : Int) : spec_l1Word.f a = some (isW a) := by
  unfold spec_l1Word.f; rw [c_spec_l1In]; rfl

theorem c_impl_isWord (a : Int) : impl_isWord.f a = some (isW a) := by
  unfold impl_isWord.f; rw [c_impl_within]; rfl

theorem c_spec_WordOf (a : Int) : spec_WordOf.f a = some (a % 65536) := by
  unfold spec_WordOf.f; rw [pb_u16, pb_wrap (by omega) (by omega)]

theorem c_impl_WordOf (a : Int) : impl_WordOf.f a = some (a % 65536) := by
  unfold impl_WordOf.f; rw [pb_and65535]

theorem c_impl_flag (b : Bool) : impl_flag.f b = some (if b then 1 else 0) := by
  unfold impl_flag.f; split <;> rfl

def mSigned (a : Int) : Int := (a + 32768) % 65536 - 32768

theorem c_spec_SignedOf (a : Int) : spec_SignedOf.f a = some (mSigned a) := by
  unfold spec_SignedOf.f mSigned; rw [pb_u16, pb_i16, pb_wrap (by omega) (by omega)]; congr 1; omega

theorem c_impl_SignedOf (a : Int) : impl_SignedOf.f a = some (mSigned a) := by
  unfold impl_SignedOf.f mSigned; rw [c_impl_WordOf]; simp only [Option.bind_some]
  split
  · rw [pb_wrap (by omega) (by omega)]; congr 1; omega
  · congr 1; omega

theorem pb_rd (xs : List Int) (i : Nat) (h : i < xs.length) : rd xs (i : Int) = xs[i] := by
  unfold rd; simp [List.getD_eq_getElem?_getD, h]

theorem l_impl_areWords (xs : List Int) (hn : xs.length ≤ 35184372088832) (d : Nat) : ∀ (k i : Nat), i + d = xs.length → d < k →
    impl_areWords.l0 k xs (xs.length : Int) (i : Int) = some ((xs.drop i).all isW) := by
  induction d with
  | zero =>
    intro k i hi hk
    obtain ⟨k, rfl⟩ : ∃ m, k = m + 1 := ⟨k - 1, by omega⟩
    simp only [impl_areWords.l0]; rw [if_neg (by omega), List.drop_of_length_le (by omega)]; rfl
  | succ d ih =>
    intro k i hi hk
    obtain ⟨k, rfl⟩ : ∃ m, k = m + 1 := ⟨k - 1, by omega⟩
    have hlt : i < xs.length := by omega
    simp only [impl_areWords.l0]; rw [if_pos (by omega), if_pos (by omega), if_pos (by omega), pb_rd xs i hlt, c_impl_isWord, pb_wrap (by omega) (by omega), List.drop_eq_getElem_cons hlt]
    simp only [Option.bind_some, List.all_cons]
    cases h : isW xs[i] with
    | true => simp only [if_true, Bool.true_and]; exact ih k (i + 1) (by omega) (by omega)
    | false => simp

theorem c_impl_areWords (k : Nat) (xs : List Int) (hn : xs.length ≤ 35184372088832) (hk : xs.length < k) : impl_areWords.f k xs = some (xs.all isW) := by
  unfold impl_areWords.f
  have := l_impl_areWords xs hn xs.length k 0 (by omega) hk
  simpa using this

theorem isW_iff (a : Int) : isW a = true ↔ 0 ≤ a ∧ a < 65536 := by
  unfold isW; rw [decide_eq_true_eq]; omega

def mBin (op a b : Int) : Int × Int :=
  if op = 1 then (0, (a + b) % 65536) else if op = 2 then (0, (a - b) % 65536) else if op = 3 then (0, (a * b) % 65536)
  else if op = 4 then (if b % 65536 = 0 then (4, 0) else (0, (Int.tdiv (mSigned a) (mSigned b)) % 65536))
  else if op = 5 then (if b % 65536 = 0 then (4, 0) else (0, (Int.tmod (mSigned a) (mSigned b)) % 65536))
  else if op = 6 then (0, Go.bits .and .i64 (a % 65536) (b % 65536)) else if op = 7 then (0, Go.bits .or .i64 (a % 65536) (b % 65536)) else if op = 8 then (0, Go.bits .xor .i64 (a % 65536) (b % 65536))
  else if op = 9 then (0, if mSigned a < mSigned b then 1 else 0) else if op = 10 then (0, if a % 65536 = b % 65536 then 1 else 0) else (3, 0)

theorem mSigned_range (a : Int) : -32768 ≤ mSigned a ∧ mSigned a ≤ 32767 := by unfold mSigned; omega

theorem mSigned_word (a : Int) : mSigned (a % 65536) = mSigned a := by unfold mSigned; omega

theorem mSigned_zero (a : Int) : mSigned a = 0 ↔ a % 65536 = 0 := by unfold mSigned; omega

theorem pb_mul (x y m : Int) (hx : -m ≤ x ∧ x ≤ m) (hy : -m ≤ y ∧ y ≤ m) (hm : m * m ≤ 9223372036854775807) (h0 : 0 ≤ m) : wrap64 (x * y) = x * y := by
  have h : (x * y).natAbs ≤ (m * m).natAbs := by
    rw [Int.natAbs_mul, Int.natAbs_mul]; exact Nat.mul_le_mul (by omega) (by omega)
  have h1 : 0 ≤ m * m := Int.mul_nonneg h0 h0
  apply pb_wrap <;> omega

theorem pb_mulmod (a b x y : Int) (hx : x % 65536 = a % 65536) (hy : y % 65536 = b % 65536) : (x * y) % 65536 = (a * b) % 65536 := by
  rw [Int.mul_emod, hx, hy, ← Int.mul_emod]

theorem pb_tdiv_range (x y : Int) (hx : -32768 ≤ x ∧ x ≤ 32767) : -32768 ≤ Int.tdiv x y ∧ Int.tdiv x y ≤ 32768 := by
  have h : (Int.tdiv x y).natAbs ≤ x.natAbs := by rw [Int.natAbs_tdiv]; exact Nat.div_le_self _ _
  omega

theorem pb_bits_word (a b : Int) : (Go.bits .and .i64 (a % 65536) (b % 65536)) % 65536 = Go.bits .and .i64 (a % 65536) (b % 65536) ∧ (Go.bits .or .i64 (a % 65536) (b % 65536)) % 65536 = Go.bits .or .i64 (a % 65536) (b % 65536) ∧ (Go.bits .xor .i64 (a % 65536) (b % 65536)) % 65536 = Go.bits .xor .i64 (a % 65536) (b % 65536) := by
  have h := pb_bits_nat (a % 65536) (b % 65536) (by omega) (by omega) (by omega) (by omega)
  have h1 := Nat.and_lt_two_pow (n := 16) (a % 65536).toNat (show (b % 65536).toNat < 2 ^ 16 by omega)
  have h2 := Nat.or_lt_two_pow (n := 16) (show (a % 65536).toNat < 2 ^ 16 by omega) (show (b % 65536).toNat < 2 ^ 16 by omega)
  have h3 := Nat.xor_lt_two_pow (n := 16) (show (a % 65536).toNat < 2 ^ 16 by omega) (show (b % 65536).toNat < 2 ^ 16 by omega)
  rw [h.1, h.2.1, h.2.2]
  omega

theorem c_spec_l2Bit (b : Bool) : spec_l2Bit.f b = some (if b then 1 else 0) := by
  unfold spec_l2Bit.f; split <;> rfl

theorem c_impl_BinaryOf (k : Nat) (op a b : Int) (hk : 1 ≤ k) : impl_BinaryOf.f k op a b = some (mBin op a b) := by
  obtain ⟨k, rfl⟩ : ∃ m, k = m + 1 := ⟨k - 1, by omega⟩
  unfold impl_BinaryOf.f
  simp only [c_impl_WordOf, c_impl_SignedOf, Option.bind_some, impl_BinaryOf.j0, c_impl_flag, mSigned_word]
  have ra := mSigned_range a
  have rb := mSigned_range b
  have rm := pb_mul (a % 65536) (b % 65536) 65536 (by omega) (by omega) (by decide) (by decide)
  have hm := pb_mulmod a b (a % 65536) (b % 65536) (by omega) (by omega)
  have hd := pb_tdiv_range (mSigned a) (mSigned b) ra
  have hw := pb_bits_word a b
  unfold mBin
  by_cases h1 : op = 1
  · rw [if_pos h1, if_pos h1, pb_wrap (by omega) (by omega)]; congr 2; omega
  rw [if_neg h1, if_neg h1]
  by_cases h2 : op = 2
  · rw [if_pos h2, if_pos h2, pb_wrap (by omega) (by omega)]; congr 2; omega
  rw [if_neg h2, if_neg h2]
  by_cases h3 : op = 3
  · rw [if_pos h3, if_pos h3, rm, hm]
  rw [if_neg h3, if_neg h3]
  by_cases h4 : op = 4
  · subst h4
    by_cases hz : b % 65536 = 0
    · simp [hz]
    · have hz' : ¬ mSigned b = 0 := fun h => hz ((mSigned_zero b).1 h)
      simp only [hz, hz', if_false, if_true, BEq.rfl]
      rw [if_neg (by decide), pb_wrap (by omega) (by omega)]
  rw [if_neg h4, if_neg h4]
  by_cases h5 : op = 5
  · subst h5
    by_cases hz : b % 65536 = 0
    · simp [hz]
    · have hz' : ¬ mSigned b = 0 := fun h => hz ((mSigned_zero b).1 h)
      simp only [hz, hz', if_false, if_true, BEq.rfl]
  rw [if_neg (show ¬ ((op == 5) = true) by simpa using h5), if_neg h5]
  by_cases h6 : op = 6
  · rw [if_pos h6, if_pos h6, hw.1]
  rw [if_neg h6, if_neg h6]
  by_cases h7 : op = 7
  · rw [if_pos h7, if_pos h7, hw.2.1]
  rw [if_neg h7, if_neg h7]
  by_cases h8 : op = 8
  · rw [if_pos h8, if_pos h8, hw.2.2]
  rw [if_neg h8, if_neg h8]
  by_cases h9 : op = 9
  · rw [if_pos h9, if_pos h9]
    by_cases hl : mSigned a < mSigned b <;> simp [hl]
  rw [if_neg h9, if_neg h9]
  by_cases h10 : op = 10
  · rw [if_pos h10, if_pos h10]
    by_cases hl : a % 65536 = b % 65536 <;> simp [hl]
  rw [if_neg h10, if_neg h10]

def bytesL (l : List Int) : Prop := ∀ x ∈ l, 0 ≤ x ∧ x ≤ 255

theorem bytesL_wf (l : List Int) (h : ∀ x ∈ l, (Lit.int .u8 x).wf = true) : bytesL l := by
  intro x hx
  have := h x hx
  simpa [Lit.wf, IntKind.min, IntKind.max, IntKind.signed, IntKind.bits] using this

theorem bytesL_rd (l : List Int) (h : bytesL l) (i : Int) : 0 ≤ rd l i ∧ rd l i ≤ 255 := by
  unfold rd
  by_cases hi : i.toNat < l.length
  · rw [List.getD_eq_getElem?_getD, List.getElem?_eq_getElem hi]
    exact h _ (List.getElem_mem hi)
  · rw [List.getD_eq_getElem?_getD, List.getElem?_eq_none (by omega)]; simp

theorem pb_tmod (a n : Int) (h0 : 0 ≤ a) (hn : 1 ≤ n) : 0 ≤ Int.tmod a n ∧ Int.tmod a n < n ∧ Int.tmod a n ≤ a := by
  rw [Int.tmod_eq_emod_of_nonneg h0]
  have h2 := Int.mul_ediv_add_emod a n
  have h3 := Int.mul_nonneg (show 0 ≤ n by omega) (Int.ediv_nonneg h0 (show 0 ≤ n by omega))
  exact ⟨Int.emod_nonneg _ (by omega), Int.emod_lt_of_pos _ (by omega), by omega⟩

theorem pb_tdiv (a n : Int) (h0 : 0 ≤ a) (hn : 1 ≤ n) : 0 ≤ Int.tdiv a n ∧ Int.tdiv a n ≤ a := by
  rw [Int.tdiv_eq_ediv_of_nonneg h0]
  exact ⟨Int.ediv_nonneg h0 (by omega), Int.ediv_le_self _ h0⟩

theorem d_l1Next (l : List Int) (hl : bytesL l) (at' n : Int) (h0 : 0 ≤ at') (h1 : at' ≤ 1000000000000) :
    ∃ v, spec_l1Next.f l at' n = some (v, at' + 1) ∧ 0 ≤ v ∧ (1 ≤ n → v < n) := by
  unfold spec_l1Next.f
  rw [pb_wrap (a := at' + 1) (by omega) (by omega), show at' + 1 - 1 = at' by omega, pb_wrap (a := at') (by omega) (by omega)]
  by_cases hn : n < 1
  · rw [if_pos hn]; exact ⟨0, rfl, by omega, fun h => by omega⟩
  rw [if_neg hn]
  by_cases hz : (l.length : Int) = 0
  · rw [if_pos hz, if_neg (by omega), pb_wrap (by omega) (by omega)]
    have := pb_tmod (at' * 7) n (by omega) (by omega)
    exact ⟨_, rfl, this.1, fun _ => this.2.1⟩
  rw [if_neg hz]
  have hi := pb_tmod at' (l.length : Int) h0 (by omega)
  have hq := pb_tdiv at' (l.length : Int) h0 (by omega)
  have hc := bytesL_rd l hl (Int.tmod at' (l.length : Int))
  have hj := pb_tmod (at' + 1) (l.length : Int) (by omega) (by omega)
  have hd := bytesL_rd l hl (Int.tmod (at' + 1) (l.length : Int))
  rw [pb_wrap (a := at' + 1) (by omega) (by omega)]
  generalize rd l (Int.tmod at' (l.length : Int)) = c at hc ⊢
  generalize rd l (Int.tmod (at' + 1) (l.length : Int)) = d at hd ⊢
  generalize Int.tdiv at' (l.length : Int) = q at hq ⊢
  rw [if_pos hi.1, if_pos hi.2.1]
  rw [pb_wrap (a := c) (by omega) (by omega), pb_wrap (a := q) (by omega) (by omega), pb_wrap (a := q * 37) (by omega) (by omega), pb_wrap (a := c + q * 37) (by omega) (by omega)]
  by_cases h2 : n > 200
  · rw [if_pos h2, if_pos hj.1, if_pos hj.2.1, if_neg (by omega), pb_wrap (a := (c + q * 37) * 251) (by omega) (by omega), pb_wrap (a := d) (by omega) (by omega), pb_wrap (a := d * 13) (by omega) (by omega), pb_wrap (a := (c + q * 37) * 251 + d * 13) (by omega) (by omega), pb_wrap (by omega) (by omega)]
    have := pb_tmod ((c + q * 37) * 251 + d * 13 + at') n (by omega) (by omega)
    exact ⟨_, rfl, this.1, fun _ => this.2.1⟩
  · rw [if_neg h2, if_neg (by omega)]
    have := pb_tmod (c + q * 37) n (by omega) (by omega)
    exact ⟨_, rfl, this.1, fun _ => this.2.1⟩

theorem d_l1Pick (l : List Int) (hl : bytesL l) (at' : Int) (xs : List Int) (h0 : 0 ≤ at') (h1 : at' ≤ 1000000000000) (hx : 1 ≤ xs.length) :
    ∃ v, spec_l1Pick.f l at' xs = some (v, at' + 1) ∧ v ∈ xs := by
  unfold spec_l1Pick.f
  obtain ⟨v, hv, hv0, hv1⟩ := d_l1Next l hl at' (xs.length : Int) h0 h1
  have hv2 := hv1 (by omega)
  rw [hv]; simp only [Option.bind_some]
  rw [if_pos hv0, if_pos hv2]
  refine ⟨_, rfl, ?_⟩
  unfold rd
  rw [List.getD_eq_getElem?_getD, List.getElem?_eq_getElem (by omega)]
  exact List.getElem_mem _

theorem c_laws_lwBig (l : List Int) : laws_lwBig.f l = some (decide ((l.length : Int) > 1048576)) := rfl

def mFlag (b : Bool) : Int := if b then 1 else 0

def mCount (x0 x1 a0 a1 : Int) : Int := if a1 = 0 then (if a0 = 0 then x0 else if x1 = 0 then (if mSigned x0 < 32767 then (x0 + 1) % 65536 else x0) else x0) else 0

def mTime (x0 a0 a1 : Int) : Int := if a0 = 0 then 0 else if mSigned x0 < mSigned a1 then (x0 + 1) % 65536 else x0

def mOwns (op : Int) : Int := if op = 1 then 3 else if op = 2 then 2 else if op = 3 then 2 else 1

def mNeeds (op : Int) : Int := if op = 1 then 3 else if op = 2 then 2 else if op = 3 then 1 else 2

def mBlkStep (op : Int) : List Int → List Int → List Int
  | [x0, x1, _], [a0, a1, a2] => [mCount x0 x1 a0 a1, mFlag (a0 != 0), mFlag (decide (mSigned (mCount x0 x1 a0 a1) ≥ mSigned a2))]
  | [x0, _], [a0, a1] => [mTime x0 a0 a1, mFlag ((a0 != 0) && decide (mSigned (mTime x0 a0 a1) ≥ mSigned a1))]
  | [x0, _], [a0] => [mFlag (a0 != 0), mFlag ((a0 != 0) && (x0 == 0))]
  | [x0], [a0, a1] => [mFlag ((a0 != 0) || (x0 != 0) && (a1 == 0))]
  | _, _ => []

theorem isW_wrap (x : Int) (h : isW x = true) : wrap64 (x + 1) = x + 1 := by
  have := (isW_iff x).1 h
  exact pb_wrap (by omega) (by omega)

theorem c_impl_blockStep1 (x0 x1 x2 a0 a1 a2 : Int) (hx : isW x0 = true) : impl_blockStep.f 1 [x0, x1, x2] [a0, a1, a2] = some (mBlkStep 1 [x0, x1, x2] [a0, a1, a2]) := by
  have r0 : rd [x0, x1, x2] 0 = x0 := rfl
  have r1 : rd [x0, x1, x2] 1 = x1 := rfl
  have s0 : rd [a0, a1, a2] 0 = a0 := rfl
  have s1 : rd [a0, a1, a2] 1 = a1 := rfl
  have s2 : rd [a0, a1, a2] 2 = a2 := rfl
  unfold impl_blockStep.f impl_blockStepK.f mBlkStep mCount mFlag
  simp only [r0, r1, s0, s1, s2, isW_wrap x0 hx, impl_blockStepK.j0, c_impl_SignedOf, c_impl_WordOf, c_impl_flag, Option.bind_some, List.length_cons, List.length_nil, if_true]
  by_cases h1 : a1 = 0
  · by_cases h2 : a0 = 0
    · simp [h1, h2]
    · by_cases h3 : x1 = 0
      · by_cases h4 : mSigned x0 < 32767 <;> simp [h1, h2, h3, h4]
      · simp [h1, h2, h3]
  · simp [h1]

theorem c_spec_l6Block1 (k : Nat) (hk : 1 ≤ k) (x0 x1 x2 a0 a1 a2 : Int) (hx : isW x0 = true) : spec_l6Block.f k 1 [x0, x1, x2] [a0, a1, a2] = some (mBlkStep 1 [x0, x1, x2] [a0, a1, a2]) := by
  obtain ⟨k, rfl⟩ : ∃ m, k = m + 1 := ⟨k - 1, by omega⟩
  have r0 : rd [x0, x1, x2] 0 = x0 := rfl
  have r1 : rd [x0, x1, x2] 1 = x1 := rfl
  have s0 : rd [a0, a1, a2] 0 = a0 := rfl
  have s1 : rd [a0, a1, a2] 1 = a1 := rfl
  have s2 : rd [a0, a1, a2] 2 = a2 := rfl
  unfold spec_l6Block.f mBlkStep mCount mFlag
  simp only [r0, r1, s0, s1, s2, isW_wrap x0 hx, spec_l6Block.j0, c_spec_SignedOf, c_spec_WordOf, spec_l6Least.f, c_spec_l2Bit, Option.bind_some, List.length_cons, List.length_nil, if_true]
  by_cases h1 : a1 = 0
  · by_cases h2 : a0 = 0
    · simp [h1, h2]
    · by_cases h3 : x1 = 0
      · by_cases h4 : mSigned x0 < 32767 <;> simp [h1, h2, h3, h4]
      · simp [h1, h2, h3]
  · simp [h1]

theorem c_impl_blockStep2 (x0 x1 a0 a1 : Int) (hx : isW x0 = true) : impl_blockStep.f 2 [x0, x1] [a0, a1] = some (mBlkStep 2 [x0, x1] [a0, a1]) := by
  have r0 : rd [x0, x1] 0 = x0 := rfl
  have s0 : rd [a0, a1] 0 = a0 := rfl
  have s1 : rd [a0, a1] 1 = a1 := rfl
  unfold impl_blockStep.f impl_blockStepK.f mBlkStep mTime mFlag
  simp only [r0, s0, s1, isW_wrap x0 hx, impl_blockStepK.j1, c_impl_SignedOf, c_impl_WordOf, c_impl_flag, Option.bind_some, List.length_cons, List.length_nil, if_true]
  by_cases h2 : a0 = 0
  · simp [h2]
  · by_cases h4 : mSigned x0 < mSigned a1 <;> simp [h2, h4]

theorem c_spec_l6Block2 (k : Nat) (hk : 1 ≤ k) (x0 x1 a0 a1 : Int) (hx : isW x0 = true) : spec_l6Block.f k 2 [x0, x1] [a0, a1] = some (mBlkStep 2 [x0, x1] [a0, a1]) := by
  obtain ⟨k, rfl⟩ : ∃ m, k = m + 1 := ⟨k - 1, by omega⟩
  have r0 : rd [x0, x1] 0 = x0 := rfl
  have s0 : rd [a0, a1] 0 = a0 := rfl
  have s1 : rd [a0, a1] 1 = a1 := rfl
  unfold spec_l6Block.f mBlkStep mTime mFlag
  simp only [r0, s0, s1, isW_wrap x0 hx, spec_l6Block.j1, c_spec_SignedOf, c_spec_WordOf, c_spec_l2Bit, Option.bind_some, List.length_cons, List.length_nil, if_true]
  by_cases h2 : a0 = 0
  · simp [h2]
  · by_cases h4 : mSigned x0 < mSigned a1 <;> simp [h2, h4]

theorem c_impl_blockStep3 (x0 x1 a0 : Int) : impl_blockStep.f 3 [x0, x1] [a0] = some (mBlkStep 3 [x0, x1] [a0]) := by
  have r0 : rd [x0, x1] 0 = x0 := rfl
  have s0 : rd [a0] 0 = a0 := rfl
  unfold impl_blockStep.f impl_blockStepK.f mBlkStep mFlag
  simp only [r0, s0, c_impl_flag, Option.bind_some, List.length_cons, List.length_nil, if_true]
  by_cases h2 : a0 = 0 <;> simp [h2]

theorem c_spec_l6Block3 (k : Nat) (x0 x1 a0 : Int) : spec_l6Block.f k 3 [x0, x1] [a0] = some (mBlkStep 3 [x0, x1] [a0]) := by
  have r0 : rd [x0, x1] 0 = x0 := rfl
  have s0 : rd [a0] 0 = a0 := rfl
  unfold spec_l6Block.f mBlkStep mFlag
  simp only [r0, s0, spec_l6Least.f, c_spec_l2Bit, Option.bind_some, List.length_cons, List.length_nil, if_true]
  by_cases h2 : a0 = 0 <;> simp [h2]

theorem c_impl_blockStep4 (x0 a0 a1 : Int) : impl_blockStep.f 4 [x0] [a0, a1] = some (mBlkStep 4 [x0] [a0, a1]) := by
  have r0 : rd [x0] 0 = x0 := rfl
  have s0 : rd [a0, a1] 0 = a0 := rfl
  have s1 : rd [a0, a1] 1 = a1 := rfl
  unfold impl_blockStep.f impl_blockStepK.f mBlkStep mFlag
  simp only [r0, s0, s1, c_impl_flag, Option.bind_some, List.length_cons, List.length_nil, if_true]
  by_cases h2 : a0 = 0
  · by_cases h3 : x0 = 0 <;> simp [h2, h3]
  · simp [h2]

theorem c_spec_l6Block4 (k : Nat) (x0 a0 a1 : Int) : spec_l6Block.f k 4 [x0] [a0, a1] = some (mBlkStep 4 [x0] [a0, a1]) := by
  have r0 : rd [x0] 0 = x0 := rfl
  have s0 : rd [a0, a1] 0 = a0 := rfl
  have s1 : rd [a0, a1] 1 = a1 := rfl
  unfold spec_l6Block.f mBlkStep mFlag
  simp only [r0, s0, s1, c_spec_l2Bit, Option.bind_some, List.length_cons, List.length_nil, if_true]
  by_cases h2 : a0 = 0
  · by_cases h3 : x0 = 0 <;> simp [h2, h3]
  · simp [h2]

theorem pb_len1 (l : List Int) (h : l.length = 1) : ∃ a, l = [a] := by
  match l, h with
  | [a], _ => exact ⟨a, rfl⟩

theorem pb_len2 (l : List Int) (h : l.length = 2) : ∃ a b, l = [a, b] := by
  match l, h with
  | [a, b], _ => exact ⟨a, b, rfl⟩

theorem pb_len3 (l : List Int) (h : l.length = 3) : ∃ a b c, l = [a, b, c] := by
  match l, h with
  | [a, b, c], _ => exact ⟨a, b, c, rfl⟩

theorem c_blockSteps (k : Nat) (hk : 1 ≤ k) (op : Int) (l1 l2 : List Int) (ho : 1 ≤ op ∧ op ≤ 4) (h1 : (l1.length : Int) = mOwns op) (h2 : (l2.length : Int) = mNeeds op) (hw : l1.all isW = true) :
    impl_blockStep.f op l1 l2 = some (mBlkStep op l1 l2) ∧ spec_l6Block.f k op l1 l2 = some (mBlkStep op l1 l2) := by
  have hx : ∀ x ∈ l1, isW x = true := by rw [List.all_eq_true] at hw; exact hw
  have : op = 1 ∨ op = 2 ∨ op = 3 ∨ op = 4 := by omega
  rcases this with rfl | rfl | rfl | rfl
  · obtain ⟨x0, x1, x2, rfl⟩ := pb_len3 l1 (by have h := h1; simp [mOwns] at h; omega)
    obtain ⟨a0, a1, a2, rfl⟩ := pb_len3 l2 (by have h := h2; simp [mNeeds] at h; omega)
    exact ⟨c_impl_blockStep1 _ _ _ _ _ _ (hx _ (by simp)), c_spec_l6Block1 k hk _ _ _ _ _ _ (hx _ (by simp))⟩
  · obtain ⟨x0, x1, rfl⟩ := pb_len2 l1 (by have h := h1; simp [mOwns] at h; omega)
    obtain ⟨a0, a1, rfl⟩ := pb_len2 l2 (by have h := h2; simp [mNeeds] at h; omega)
    exact ⟨c_impl_blockStep2 _ _ _ _ (hx _ (by simp)), c_spec_l6Block2 k hk _ _ _ _ (hx _ (by simp))⟩
  · obtain ⟨x0, x1, rfl⟩ := pb_len2 l1 (by have h := h1; simp [mOwns] at h; omega)
    obtain ⟨a0, rfl⟩ := pb_len1 l2 (by have h := h2; simp [mNeeds] at h; omega)
    exact ⟨c_impl_blockStep3 _ _ _, c_spec_l6Block3 k _ _ _⟩
  · obtain ⟨x0, rfl⟩ := pb_len1 l1 (by have h := h1; simp [mOwns] at h; omega)
    obtain ⟨a0, a1, rfl⟩ := pb_len2 l2 (by have h := h2; simp [mNeeds] at h; omega)
    exact ⟨c_impl_blockStep4 _ _ _, c_spec_l6Block4 k _ _ _⟩

theorem l_spec_l6All (xs : List Int) (hn : xs.length ≤ 35184372088832) (d : Nat) : ∀ (k i : Nat), i + d = xs.length → d < k →
    spec_l6All.l0 k xs (i : Int) = some ((xs.drop i).all isW) := by
  induction d with
  | zero =>
    intro k i hi hk
    obtain ⟨k, rfl⟩ : ∃ m, k = m + 1 := ⟨k - 1, by omega⟩
    simp only [spec_l6All.l0]; rw [if_neg (by omega), List.drop_of_length_le (by omega)]; rfl
  | succ d ih =>
    intro k i hi hk
    obtain ⟨k, rfl⟩ : ∃ m, k = m + 1 := ⟨k - 1, by omega⟩
    have hlt : i < xs.length := by omega
    simp only [spec_l6All.l0]; rw [if_pos (by omega), if_pos (by omega), pb_rd xs i hlt, c_spec_l1Word, pb_wrap (by omega) (by omega), List.drop_eq_getElem_cons hlt]
    simp only [Option.bind_some, List.all_cons]
    cases h : isW xs[i] with
    | true => simp only [if_true, Bool.true_and]; exact ih k (i + 1) (by omega) (by omega)
    | false => simp

theorem c_spec_l6All (k : Nat) (xs : List Int) (hn : xs.length ≤ 35184372088832) (hk : xs.length < k) : spec_l6All.f k xs = some (xs.all isW) := by
  unfold spec_l6All.f
  have := l_spec_l6All xs hn xs.length k 0 (by omega) hk
  simpa using this

theorem c_spec_l6Own (op : Int) : spec_l6Own.f op = some (mOwns op) := by
  have e : ∀ (a1 : ByteArray) (a2 : Int), a1.size ≤ 1 → spec_l5Var.f (⟨#[]⟩ : ByteArray) a1 a2 = some ((⟨#[]⟩ : ByteArray) ++ a1, 3, a2, 0) := by
    intro a1 a2 h
    unfold spec_l5Var.f
    rw [if_pos (by show 0 + a1.size ≤ _; omega)]
  unfold spec_l6Own.f spec_l5Own.f mOwns
  rw [e _ _ (by decide), e _ _ (by decide), e _ _ (by decide)]
  simp only [Option.bind_some]
  by_cases h1 : op = 1
  · simp [h1]
  by_cases h2 : op = 2
  · simp [h2]
  by_cases h3 : op = 3
  · simp [h3]
  simp [h1, h2, h3]

theorem c_spec_l5Args (op : Int) : ∃ l, spec_l5Args.f op = some l ∧ (l.length : Int) = mNeeds op := by
  unfold spec_l5Args.f mNeeds
  by_cases h1 : op = 1
  · exact ⟨_, by rw [if_pos h1], by simp [h1]⟩
  by_cases h2 : op = 2
  · exact ⟨_, by rw [if_neg h1, if_pos h2], by simp [h2]⟩
  by_cases h3 : op = 3
  · exact ⟨_, by rw [if_neg h1, if_neg h2, if_pos h3], by simp [h3]⟩
  exact ⟨_, by rw [if_neg h1, if_neg h2, if_neg h3], by simp [h1, h2, h3]⟩

theorem c_impl_needed (op : Int) : ∃ l, impl_needed.f op = some l ∧ (l.length : Int) = mNeeds op := by
  unfold impl_needed.f mNeeds
  by_cases h1 : op = 1
  · exact ⟨_, by rw [if_pos h1], by simp [h1]⟩
  by_cases h2 : op = 2
  · exact ⟨_, by rw [if_neg h1, if_pos h2], by simp [h2]⟩
  by_cases h3 : op = 3
  · exact ⟨_, by rw [if_neg h1, if_neg h2, if_pos h3], by simp [h3]⟩
  exact ⟨_, by rw [if_neg h1, if_neg h2, if_neg h3], by simp [h1, h2, h3]⟩

def mBStep (op : Int) (l1 l2 : List Int) : Int × List Int :=
  if 1 ≤ op ∧ op ≤ 4 then (if (l1.length : Int) = mOwns op ∧ (l2.length : Int) = mNeeds op ∧ l1.all isW = true ∧ l2.all isW = true then (0, mBlkStep op l1 l2) else (1, [])) else (3, [])

theorem mOwns_range (op : Int) : 1 ≤ mOwns op ∧ mOwns op ≤ 3 := by
  unfold mOwns
  repeat' split
  all_goals omega

theorem mNeeds_range (op : Int) : 1 ≤ mNeeds op ∧ mNeeds op ≤ 3 := by
  unfold mNeeds
  repeat' split
  all_goals omega

theorem c_spec_BlockStep (k : Nat) (hk : 10 ≤ k) (op : Int) (l1 l2 : List Int) : spec_BlockStep.f k op l1 l2 = some (mBStep op l1 l2) := by
  unfold spec_BlockStep.f mBStep
  rw [c_spec_l1In, c_spec_l6Own]
  obtain ⟨l, hl, hn⟩ := c_spec_l5Args op
  have ro := mOwns_range op
  have rn := mNeeds_range op
  rw [hl]
  simp only [Option.bind_some, decide_eq_true_eq]
  by_cases ho : 1 ≤ op ∧ op ≤ 4
  · rw [if_pos ho, if_pos ho]
    by_cases h1 : (l1.length : Int) = mOwns op
    · rw [if_pos h1, hn]
      by_cases h2 : (l2.length : Int) = mNeeds op
      · rw [if_pos h2, c_spec_l6All k l1 (by omega) (by omega), c_spec_l6All k l2 (by omega) (by omega)]
        simp only [Option.bind_some]
        by_cases w1 : l1.all isW = true
        · by_cases w2 : l2.all isW = true
          · rw [if_pos w1, if_pos w2, (c_blockSteps k (by omega) op l1 l2 ho h1 h2 w1).2, if_pos ⟨h1, h2, w1, w2⟩]; rfl
          · rw [if_pos w1, if_neg w2, if_neg (fun h => w2 h.2.2.2)]
        · rw [if_neg w1, if_neg (fun h => w1 h.2.2.1)]
      · rw [if_neg h2, if_neg (fun h => h2 h.2.1)]
    · rw [if_neg h1, if_neg (fun h => h1 h.1)]
  · rw [if_neg ho, if_neg ho]

theorem c_impl_BlockStep (k : Nat) (hk : 10 ≤ k) (op : Int) (l1 l2 : List Int) : impl_BlockStep.f k op l1 l2 = some (mBStep op l1 l2) := by
  unfold impl_BlockStep.f mBStep
  rw [c_impl_within]
  obtain ⟨l, hl, hn⟩ := c_impl_needed op
  have ro := mOwns_range op
  have rn := mNeeds_range op
  rw [hl]
  simp only [Option.bind_some, decide_eq_true_eq]
  by_cases ho : 1 ≤ op ∧ op ≤ 4
  · have hr : rd [0, 3, 2, 2, 1] op = mOwns op := by
      have : op = 1 ∨ op = 2 ∨ op = 3 ∨ op = 4 := by omega
      rcases this with rfl | rfl | rfl | rfl <;> decide +kernel
    rw [if_pos ho, if_pos ho, if_pos (by omega), if_pos (by show op < ((5 : Nat) : Int); omega), hr]
    by_cases h1 : (l1.length : Int) = mOwns op
    · rw [if_pos h1, hn]
      by_cases h2 : (l2.length : Int) = mNeeds op
      · rw [if_pos h2, c_impl_areWords k l1 (by omega) (by omega), c_impl_areWords k l2 (by omega) (by omega)]
        simp only [Option.bind_some]
        by_cases w1 : l1.all isW = true
        · by_cases w2 : l2.all isW = true
          · rw [if_pos w1, if_pos w2, (c_blockSteps k (by omega) op l1 l2 ho h1 h2 w1).1, if_pos ⟨h1, h2, w1, w2⟩]; rfl
          · rw [if_pos w1, if_neg w2, if_neg (fun h => w2 h.2.2.2)]
        · rw [if_neg w1, if_neg (fun h => w1 h.2.2.1)]
      · rw [if_neg h2, if_neg (fun h => h2 h.2.1)]
    · rw [if_neg h1, if_neg (fun h => h1 h.1)]
  · rw [if_neg ho, if_neg ho]

theorem dr_step (l : List Int) (hl : bytesL l) (at' n1 n2 : Int) (h0 : 0 ≤ at') (h1 : at' ≤ 1000000000) :
    ∃ a b v, spec_l1Next.f l at' n1 = some (a, at' + 1) ∧ spec_l1Next.f l (at' + 1) n2 = some (b, at' + 1 + 1) ∧ spec_l1Pick.f l (at' + 1 + 1) ([a, b, 32767, 65535] : List Int) = some (v, at' + 3) := by
  obtain ⟨a, e1, _, _⟩ := d_l1Next l hl at' n1 h0 (by omega)
  obtain ⟨b, e2, _, _⟩ := d_l1Next l hl (at' + 1) n2 (by omega) (by omega)
  obtain ⟨v, e3, _⟩ := d_l1Pick l hl (at' + 1 + 1) ([a, b, 32767, 65535] : List Int) (by omega) (by omega) (by simp)
  exact ⟨a, b, v, e1, e2, by rw [e3, show at' + 1 + 1 + 1 = at' + 3 by omega]⟩

theorem dj_DrawBlockStep (l : List Int) (hl : bytesL l) (k : Nat) (op : Int) (x y : List Int) (at' : Int) (h0 : 0 ≤ at') (h1 : at' ≤ 1000000) (hx : x.length ≤ 100) (hy : y.length ≤ 100) :
    ∃ xs ys, spec_DrawBlockStep.j2 (k + 1) op x y l at' = some (op, xs, ys) := by
  simp only [spec_DrawBlockStep.j2]
  obtain ⟨a, e1, _, _⟩ := d_l1Next l hl at' 14 h0 (by omega)
  rw [e1]; simp only [Option.bind_some]
  split
  · rw [if_pos (by omega)]; exact ⟨_, _, rfl⟩
  split
  · rw [if_pos (by omega)]; exact ⟨_, _, rfl⟩
  split
  · split
    · obtain ⟨v, e3, _⟩ := d_l1Pick l hl (at' + 1) ([(-1), 65536] : List Int) (by omega) (by omega) (by simp)
      rw [e3]; simp only [Option.bind_some]
      first | exact ⟨_, _, rfl⟩ | (rw [if_pos (by omega)]; exact ⟨_, _, rfl⟩)
    · exact ⟨_, _, rfl⟩
  · exact ⟨_, _, rfl⟩

theorem dl1_DrawBlockStep (l : List Int) (hl : bytesL l) (d : Nat) : ∀ (k : Nat) (op i at' : Int) (x y : List Int), 0 ≤ i → mNeeds op ≤ i + d → d + 1 < k → 0 ≤ at' → at' + 3 * d ≤ 1000000 → x.length ≤ 90 → y.length + d ≤ 90 →
    ∃ xs ys, spec_DrawBlockStep.l1 k op x y i l at' = some (op, xs, ys) := by
  induction d with
  | zero =>
    intro k op i at' x y hi hd hk h0 h1 hx hy
    obtain ⟨k, rfl⟩ : ∃ m, k = m + 1 + 1 := ⟨k - 2, by omega⟩
    simp only [spec_DrawBlockStep.l1]
    obtain ⟨u, eu, hu⟩ := c_spec_l5Args op
    rw [eu]; simp only [Option.bind_some]
    rw [if_neg (by omega)]
    exact dj_DrawBlockStep l hl k op x y at' h0 (by omega) (by omega) (by omega)
  | succ d ih =>
    intro k op i at' x y hi hd hk h0 h1 hx hy
    obtain ⟨k, rfl⟩ : ∃ m, k = m + 1 + 1 := ⟨k - 2, by omega⟩
    rw [spec_DrawBlockStep.l1]
    obtain ⟨u, eu, hu⟩ := c_spec_l5Args op
    have hr := mNeeds_range op
    rw [eu]; simp only [Option.bind_some]
    by_cases hc : i < (u.length : Int)
    · rw [if_pos hc]
      obtain ⟨a, b, v, e1, e2, e3⟩ := dr_step l hl at' 2 4 h0 (by omega)
      rw [e1]; simp only [Option.bind_some]
      rw [e2]; simp only [Option.bind_some]
      rw [e3]; simp only [Option.bind_some]
      rw [if_pos (by omega), pb_wrap (by omega) (by omega)]
      exact ih (k + 1) op (i + 1) (at' + 3) x (y ++ [v]) (by omega) (by omega) (by omega) (by omega) (by omega) hx (by simp; omega)
    · rw [if_neg hc]
      exact dj_DrawBlockStep l hl k op x y at' h0 (by omega) (by omega) (by omega)

theorem dl0_DrawBlockStep (l : List Int) (hl : bytesL l) (d : Nat) : ∀ (k : Nat) (op i at' : Int) (x y : List Int), 0 ≤ i → mOwns op ≤ i + d → d + 10 < k → 0 ≤ at' → at' + 3 * d ≤ 10000 → x.length + d ≤ 90 → y.length ≤ 50 →
    ∃ xs ys, spec_DrawBlockStep.l0 k op x y i l at' = some (op, xs, ys) := by
  induction d with
  | zero =>
    intro k op i at' x y hi hd hk h0 h1 hx hy
    obtain ⟨k, rfl⟩ : ∃ m, k = m + 1 := ⟨k - 1, by omega⟩
    have hr := mNeeds_range op
    rw [spec_DrawBlockStep.l0, c_spec_l6Own]; simp only [Option.bind_some]
    rw [if_neg (by omega)]
    exact dl1_DrawBlockStep l hl 3 k op 0 at' x y (by omega) (by omega) (by omega) h0 (by omega) (by omega) (by omega)
  | succ d ih =>
    intro k op i at' x y hi hd hk h0 h1 hx hy
    obtain ⟨k, rfl⟩ : ∃ m, k = m + 1 := ⟨k - 1, by omega⟩
    have hr := mNeeds_range op
    have ho := mOwns_range op
    rw [spec_DrawBlockStep.l0, c_spec_l6Own]; simp only [Option.bind_some]
    by_cases hc : i < mOwns op
    · rw [if_pos hc]
      obtain ⟨a, b, v, e1, e2, e3⟩ := dr_step l hl at' 3 2 h0 (by omega)
      rw [e1]; simp only [Option.bind_some]
      rw [e2]; simp only [Option.bind_some]
      rw [e3]; simp only [Option.bind_some]
      rw [if_pos (by omega), pb_wrap (by omega) (by omega)]
      exact ih k op (i + 1) (at' + 3) (x ++ [v]) y (by omega) (by omega) (by omega) (by omega) (by omega) (by simp; omega) hy
    · rw [if_neg hc]
      exact dl1_DrawBlockStep l hl 3 k op 0 at' x y (by omega) (by omega) (by omega) h0 (by omega) (by omega) (by omega)

theorem d_DrawBlockStep (l : List Int) (hl : bytesL l) (k : Nat) (hk : 50 ≤ k) : ∃ op xs ys, spec_DrawBlockStep.f k l = some (op, xs, ys) := by
  unfold spec_DrawBlockStep.f spec_l1Source.f
  simp only [Option.bind_some]
  obtain ⟨op, e, _⟩ := d_l1Pick l hl 0 ([1, 2, 3, 4, 0, 5] : List Int) (by omega) (by omega) (by simp)
  rw [e]; simp only [Option.bind_some]
  rw [c_spec_l1In]; simp only [Option.bind_some]
  have ho := mOwns_range op
  split
  · obtain ⟨xs, ys, e⟩ := dl0_DrawBlockStep l hl 3 k op 0 (0 + 1) [] [] (by omega) (by omega) (by omega) (by omega) (by omega) (by simp) (by simp)
    exact ⟨_, xs, ys, e⟩
  · obtain ⟨k, rfl⟩ : ∃ m, k = m + 1 := ⟨k - 1, by omega⟩
    obtain ⟨xs, ys, e⟩ := dj_DrawBlockStep l hl k op [] [] (0 + 1) (by omega) (by omega) (by simp) (by simp)
    exact ⟨_, xs, ys, e⟩

theorem FnBlocksteps : laws_FnBlocksteps.Pure := by
  intro l _ _ hw
  have hl := bytesL_wf l hw
  suffices key : ∀ k, 100 ≤ k → laws_FnBlocksteps.f (k + 1) l = some true from ⟨100 + 1, key 100 (Nat.le_refl _)⟩
  intro k hk
  unfold laws_FnBlocksteps.f
  rw [c_laws_lwBig]; simp only [Option.bind_some]
  split
  · rfl
  obtain ⟨op, xs, ys, e⟩ := d_DrawBlockStep l hl (k + 1) (by omega)
  rw [e]; simp only [Option.bind_some]
  rw [c_impl_BlockStep _ (by omega), c_spec_BlockStep _ (by omega)]; simp only [Option.bind_some]
  by_cases h : (mBStep op xs ys).1 = 0
  · rw [if_pos h]
    have hb : (1 ≤ op ∧ op ≤ 4) ∧ (xs.length : Int) = mOwns op ∧ (ys.length : Int) = mNeeds op ∧ xs.all isW = true ∧ ys.all isW = true := by
      unfold mBStep at h
      by_cases h1 : 1 ≤ op ∧ op ≤ 4
      · rw [if_pos h1] at h
        by_cases h2 : (xs.length : Int) = mOwns op ∧ (ys.length : Int) = mNeeds op ∧ xs.all isW = true ∧ ys.all isW = true
        · exact ⟨h1, h2⟩
        · rw [if_neg h2] at h; exact absurd h (by simp)
      · rw [if_neg h1] at h; exact absurd h (by simp)
    obtain ⟨ho, hx, hy, wx, wy⟩ := hb
    have e1 : mBStep op xs ys = (0, mBlkStep op xs ys) := by unfold mBStep; rw [if_pos ho, if_pos ⟨hx, hy, wx, wy⟩]
    have e2 : ∀ zs : List Int, (zs.length : Int) = mOwns op → zs.all isW = true → impl_BlockStep.f (k + 1) op zs ys = some (0, mBlkStep op zs ys) := by
      intro zs h1 h2
      rw [c_impl_BlockStep _ (by omega)]; unfold mBStep; rw [if_pos ho, if_pos ⟨h1, hy, h2, wy⟩]
    rw [e1]; dsimp only
    have wfl : ∀ b : Bool, isW (mFlag b) = true := by intro b; cases b <;> rfl
    have bin : ∀ a b : Int, impl_BinaryOf.f k 2 a b = some (0, (a - b) % 65536) := by
      intro a b; rw [c_impl_BinaryOf k _ _ _ (by omega)]; rfl
    have hop : op = 1 ∨ op = 2 ∨ op = 3 ∨ op = 4 := by omega
    have isw : ∀ x : Int, isW x = true → 0 ≤ x ∧ x < 65536 := fun x => (isW_iff x).1
    rcases hop with rfl | rfl | rfl | rfl
    · obtain ⟨x0, x1, x2, rfl⟩ := pb_len3 xs (by have h := hx; simp [mOwns] at h; omega)
      obtain ⟨a0, a1, a2, rfl⟩ := pb_len3 ys (by have h := hy; simp [mNeeds] at h; omega)
      have w0 : isW x0 = true := by simp at wx; exact wx.1
      have b0 := isw _ w0
      have wc : isW (mCount x0 x1 a0 a1) = true := by
        rw [isW_iff]; unfold mCount; repeat' split
        all_goals omega
      rw [e2 _ (by simp [mBlkStep, mOwns]) (by simp [mBlkStep, wc, wfl])]
      simp only [Option.bind_some, mBlkStep, List.length_cons, List.length_nil, if_true, laws_FnBlocksteps.j0, bin]
      have r0 : ∀ a b c : Int, rd [a, b, c] 0 = a := fun _ _ _ => rfl
      have r1 : ∀ a b c : Int, rd [a, b, c] 1 = b := fun _ _ _ => rfl
      simp only [r0, r1]
      unfold mCount
      by_cases h1 : a1 = 0
      · by_cases h2 : a0 = 0
        · simp [h1, h2, mFlag]
        · by_cases h3 : x1 = 0
          · by_cases h4 : mSigned x0 < 32767
            · have h5 : ((x0 + 1) % 65536 - x0) % 65536 = 1 := by omega
              simp [h1, h2, h3, h4, h5, mFlag]
            · simp [h1, h2, h3, h4, mFlag]
          · simp [h1, h2, h3, mFlag]
      · by_cases h5 : (0 - x0) % 65536 = 0
        · simp [h1, h5]
        · by_cases h6 : (0 - x0) % 65536 = 1
          · simp [h1, h6]
          · simp only [if_neg h1]
            simp [h1]
            try omega
    · obtain ⟨x0, x1, rfl⟩ := pb_len2 xs (by have h := hx; simp [mOwns] at h; omega)
      obtain ⟨a0, a1, rfl⟩ := pb_len2 ys (by have h := hy; simp [mNeeds] at h; omega)
      have w0 : isW x0 = true := by simp at wx; exact wx.1
      have b0 := isw _ w0
      have wc : isW (mTime x0 a0 a1) = true := by
        rw [isW_iff]; unfold mTime; repeat' split
        all_goals omega
      rw [e2 _ (by simp [mBlkStep, mOwns]) (by simp [mBlkStep, wc, wfl])]
      simp only [Option.bind_some, mBlkStep, List.length_cons, List.length_nil, if_true, laws_FnBlocksteps.j0, bin]
      have r0 : ∀ a b : Int, rd [a, b] 0 = a := fun _ _ => rfl
      have r1 : ∀ a b : Int, rd [a, b] 1 = b := fun _ _ => rfl
      simp only [r0, r1]
      unfold mTime
      by_cases h2 : a0 = 0
      · simp [h2, mFlag]
      · by_cases h4 : mSigned x0 < mSigned a1
        · have h5 : ((x0 + 1) % 65536 - x0) % 65536 = 1 := by omega
          simp [h2, h4, h5]
        · simp [h2, h4]
    · obtain ⟨x0, x1, rfl⟩ := pb_len2 xs (by have h := hx; simp [mOwns] at h; omega)
      obtain ⟨a0, rfl⟩ := pb_len1 ys (by have h := hy; simp [mNeeds] at h; omega)
      rw [e2 _ (by simp [mBlkStep, mOwns]) (by simp [mBlkStep, wfl])]
      simp only [Option.bind_some, mBlkStep, List.length_cons, List.length_nil, if_true, laws_FnBlocksteps.j0, bin]
      have r0 : ∀ a b : Int, rd [a, b] 0 = a := fun _ _ => rfl
      have r1 : ∀ a b : Int, rd [a, b] 1 = b := fun _ _ => rfl
      have r2 : ∀ a : Int, rd [a] 0 = a := fun _ => rfl
      simp only [r0, r1, r2]
      by_cases h2 : a0 = 0 <;> by_cases h3 : x0 = 0 <;> simp [h2, h3, mFlag]
    · obtain ⟨x0, rfl⟩ := pb_len1 xs (by have h := hx; simp [mOwns] at h; omega)
      obtain ⟨a0, a1, rfl⟩ := pb_len2 ys (by have h := hy; simp [mNeeds] at h; omega)
      rw [e2 _ (by simp [mBlkStep, mOwns]) (by simp [mBlkStep, wfl])]
      simp only [Option.bind_some, mBlkStep, List.length_cons, List.length_nil, if_true, laws_FnBlocksteps.j0, bin]
      have r0 : ∀ a b : Int, rd [a, b] 0 = a := fun _ _ => rfl
      have r1 : ∀ a b : Int, rd [a, b] 1 = b := fun _ _ => rfl
      have r2 : ∀ a : Int, rd [a] 0 = a := fun _ => rfl
      simp only [r0, r1, r2]
      by_cases h2 : a0 = 0 <;> by_cases h3 : x0 = 0 <;> by_cases h4 : a1 = 0 <;> simp [h2, h3, h4, mFlag]
  · rw [if_neg h]; simp

end Go.Proofs.Ytklhfhnplldgjaa.Pure
