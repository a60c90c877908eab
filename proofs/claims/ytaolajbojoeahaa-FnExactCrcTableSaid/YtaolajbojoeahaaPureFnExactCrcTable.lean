/- Proved: for every input the law FnExactCrcTable of the given program returns true. -/
import Derived.Test.YtaolajbojoeahaaPFnExactCrcTablex1
set_option linter.unusedVariables false
set_option linter.unusedSimpArgs false
namespace Go.Proofs.Ytaolajbojoeahaa.Pure
open Go Go.RowKit Go.Proofs.Ytaolajbojoeahaa.PFnExactCrcTable Go.Proofs.YtaolajbojoeahaaW.PrintWords Go.Proofs.YtaolajbojoeahaaW.PrintLast

theorem pb_wrap {a : Int} (h : -9223372036854775808 ≤ a) (h' : a ≤ 9223372036854775807) : wrap64 a = a := by
  unfold wrap64; omega

theorem pb_and_mask (a : Int) (n : Nat) (hn : n ≤ 62) : Go.bits .and .i64 a ((2 ^ n - 1 : Nat) : Int) = a % (2 ^ n : Nat) := by
  have hp : (2 : Nat) ^ n ≤ 2 ^ 62 := Nat.pow_le_pow_right (by decide) hn
  have hp0 : 0 < (2 : Nat) ^ n := Nat.two_pow_pos n
  have hd : (2 : Nat) ^ n ∣ 2 ^ 64 := Nat.pow_dvd_pow 2 (by omega)
  unfold Go.bits
  simp only [BitVec.toNat_and, BitVec.toNat_ofInt]
  rw [show IntKind.i64.bits = 64 from rfl]
  have e1 : ((((2 ^ n - 1 : Nat) : Int) % (2 ^ 64 : Nat)).toNat) = 2 ^ n - 1 := by
    have : ((2 ^ n - 1 : Nat) : Int) % (2 ^ 64 : Nat) = ((2 ^ n - 1 : Nat) : Int) := by
      apply Int.emod_eq_of_lt
      · omega
      · have : (2 : Nat) ^ n - 1 < 2 ^ 64 := by omega
        exact_mod_cast this
    rw [this]; rfl
  rw [e1, Nat.and_two_pow_sub_one_eq_mod]
  have e2 : (((a % (2 ^ 64 : Nat)).toNat % 2 ^ n : Nat) : Int) = a % (2 ^ n : Nat) := by
    have h0 : 0 ≤ a % (2 ^ 64 : Nat) := Int.emod_nonneg _ (by decide)
    rw [Int.natCast_emod, Int.toNat_of_nonneg h0]
    exact Int.emod_emod_of_dvd a (by exact_mod_cast hd)
  rw [e2, IntKind.wrap_i64]
  have h0 : 0 ≤ a % (2 ^ n : Nat) := Int.emod_nonneg _ (by exact_mod_cast (Nat.ne_of_gt hp0))
  have h1 : a % (2 ^ n : Nat) < (2 ^ n : Nat) := Int.emod_lt_of_pos _ (by exact_mod_cast hp0)
  have h2 : ((2 ^ n : Nat) : Int) ≤ 2 ^ 62 := by exact_mod_cast hp
  omega

theorem pb_and65535 (a : Int) : Go.bits .and .i64 a 65535 = a % 65536 := pb_and_mask a 16 (by decide)

theorem pb_bits_nat (x y : Int) (hx : 0 ≤ x) (hx' : x < 65536) (hy : 0 ≤ y) (hy' : y < 65536) :
    Go.bits .and .i64 x y = ((x.toNat &&& y.toNat : Nat) : Int) ∧ Go.bits .or .i64 x y = ((x.toNat ||| y.toNat : Nat) : Int) ∧ Go.bits .xor .i64 x y = ((x.toNat ^^^ y.toNat : Nat) : Int) := by
  have hx2 : x.toNat < 2 ^ 16 := by omega
  have hy2 : y.toNat < 2 ^ 16 := by omega
  have ex : (x % (2 ^ 64 : Nat)).toNat = x.toNat := by rw [Int.emod_eq_of_lt hx (by omega)]
  have ey : (y % (2 ^ 64 : Nat)).toNat = y.toNat := by rw [Int.emod_eq_of_lt hy (by omega)]
  have h1 := Nat.and_lt_two_pow x.toNat hy2
  have h2 := Nat.or_lt_two_pow hx2 hy2
  have h3 := Nat.xor_lt_two_pow hx2 hy2
  refine ⟨?_, ?_, ?_⟩ <;>
  · unfold Go.bits
    dsimp only
    first | rw [BitVec.toNat_and] | rw [BitVec.toNat_or] | rw [BitVec.toNat_xor]
    rw [BitVec.toNat_ofInt, BitVec.toNat_ofInt, show IntKind.i64.bits = 64 from rfl, ex, ey, IntKind.wrap_i64]; omega

def nStep (x : Nat) : Nat := if 32768 ≤ x then (x * 2 % 65536) ^^^ 4129 else x * 2 % 65536

theorem nStep_lt (x : Nat) : nStep x < 65536 := by
  unfold nStep; split
  · exact Nat.xor_lt_two_pow (n := 16) (by omega) (by omega)
  · omega

def nIter : Nat → Nat → Nat
  | 0, x => x
  | n + 1, x => nIter n (nStep x)

def mCrc (s b : Int) : Int := (nIter 8 (s.toNat ^^^ (256 * b.toNat)) : Nat)

theorem pb_xor_nat (x y : Nat) (hx : x < 65536) (hy : y < 65536) : Go.bits .xor .i64 (x : Int) (y : Int) = ((x ^^^ y : Nat) : Int) := by
  have := (pb_bits_nat (x : Int) (y : Int) (by omega) (by omega) (by omega) (by omega)).2.2
  simpa using this

theorem pb_xor4129 (x : Nat) (hx : x < 65536) : Go.bits .xor .i64 (x : Int) 4129 = ((x ^^^ 4129 : Nat) : Int) := pb_xor_nat x 4129 hx (by decide)

theorem pb_and32768 (x : Nat) (hx : x < 65536) : (Go.bits .and .i64 (x : Int) 32768 = 0) ↔ x < 32768 := by
  have h := (pb_bits_nat (x : Int) 32768 (by omega) (by omega) (by omega) (by omega)).1
  have e : (x &&& 32768) = if 32768 ≤ x then 32768 else 0 := by
    apply Nat.eq_of_testBit_eq; intro i
    rw [Nat.testBit_and, show (32768 : Nat) = 2 ^ 15 from rfl, Nat.testBit_two_pow]
    by_cases hi : 15 = i
    · subst hi
      by_cases hx' : 2 ^ 15 ≤ x
      · rw [if_pos hx', Nat.testBit_two_pow]
        have : x.testBit 15 = true := by
          rw [Nat.testBit_eq_decide_div_mod_eq]; simp; omega
        simp [this]
      · rw [if_neg hx']; simp
        exact Nat.testBit_lt_two_pow (by omega)
    · simp [hi]; split
      · rw [show (32768 : Nat) = 2 ^ 15 from rfl, Nat.testBit_two_pow]; simp [hi]
      · simp
  rw [h]
  simp only [Int.toNat_natCast, show ((32768 : Int).toNat) = 32768 from rfl, e]
  split <;> omega

theorem l_spec_l1Crc (d : Nat) : ∀ (k x : Nat) (i : Int), x < 65536 → i + d = 8 → 0 ≤ i → d < k → spec_l1Crc.l0 k (x : Int) i = some ((nIter d x : Nat) : Int) := by
  induction d with
  | zero =>
    intro k x i hx hi h0 hk
    obtain ⟨k, rfl⟩ : ∃ m, k = m + 1 := ⟨k - 1, by omega⟩
    simp only [spec_l1Crc.l0]; rw [if_neg (by omega)]; rfl
  | succ d ih =>
    intro k x i hx hi h0 hk
    obtain ⟨k, rfl⟩ : ∃ m, k = m + 1 := ⟨k - 1, by omega⟩
    have e : Int.tmod (wrap64 ((x : Int) * 2)) 65536 = ((x * 2 % 65536 : Nat) : Int) := by
      rw [pb_wrap (by omega) (by omega), Int.tmod_eq_emod_of_nonneg (by omega)]; omega
    simp only [spec_l1Crc.l0]; rw [if_pos (by omega), e, pb_wrap (a := i + 1) (by omega) (by omega), pb_xor4129 _ (by omega)]
    by_cases h : 32768 ≤ x
    · rw [if_pos (by omega)]
      have := ih k (nStep x) (i + 1) (nStep_lt x) (by omega) (by omega) (by omega)
      simp only [nIter]; rw [← this]; unfold nStep; rw [if_pos h]
    · rw [if_neg (by omega)]
      have := ih k (nStep x) (i + 1) (nStep_lt x) (by omega) (by omega) (by omega)
      simp only [nIter]; rw [← this]; unfold nStep; rw [if_neg h]

theorem l_impl_crcByte (d : Nat) : ∀ (k x : Nat) (i : Int), x < 65536 → i + d = 8 → 0 ≤ i → d < k → impl_crcByte.l0 k (x : Int) i = some ((nIter d x : Nat) : Int) := by
  induction d with
  | zero =>
    intro k x i hx hi h0 hk
    obtain ⟨k, rfl⟩ : ∃ m, k = m + 1 := ⟨k - 1, by omega⟩
    simp only [impl_crcByte.l0]; rw [if_neg (by omega)]; rfl
  | succ d ih =>
    intro k x i hx hi h0 hk
    obtain ⟨k, rfl⟩ : ∃ m, k = m + 1 := ⟨k - 1, by omega⟩
    have e : Go.bits .and .i64 (wrap64 (2 * (x : Int))) 65535 = ((x * 2 % 65536 : Nat) : Int) := by
      rw [pb_and65535, pb_wrap (by omega) (by omega)]; omega
    simp only [impl_crcByte.l0]; rw [if_pos (by omega), e, pb_wrap (a := i + 1) (by omega) (by omega), pb_xor4129 _ (by omega)]
    by_cases h : 32768 ≤ x
    · rw [if_neg (by rw [pb_and32768 x hx]; omega)]
      have := ih k (nStep x) (i + 1) (nStep_lt x) (by omega) (by omega) (by omega)
      simp only [nIter]; rw [← this]; unfold nStep; rw [if_pos h]
    · rw [if_pos (by rw [pb_and32768 x hx]; omega)]
      have := ih k (nStep x) (i + 1) (nStep_lt x) (by omega) (by omega) (by omega)
      simp only [nIter]; rw [← this]; unfold nStep; rw [if_neg h]

theorem c_spec_l1Crc (k : Nat) (s b : Int) (h0 : 0 ≤ s) (h1 : s < 65536) (h2 : 0 ≤ b) (h3 : b < 256) (hk : 9 ≤ k) : spec_l1Crc.f k s b = some (mCrc s b) := by
  obtain ⟨s, rfl⟩ := Int.eq_ofNat_of_zero_le h0
  obtain ⟨b, rfl⟩ := Int.eq_ofNat_of_zero_le h2
  unfold spec_l1Crc.f mCrc
  rw [pb_wrap (by omega) (by omega), show ((b : Int) * 256) = ((256 * b : Nat) : Int) by omega, pb_xor_nat _ _ (by omega) (by omega)]
  rw [l_spec_l1Crc 8 k _ 0 (Nat.xor_lt_two_pow (n := 16) (by omega) (by omega)) (by omega) (by omega) (by omega)]
  simp

theorem c_impl_crcByte (k : Nat) (s b : Int) (h0 : 0 ≤ s) (h1 : s < 65536) (h2 : 0 ≤ b) (h3 : b < 256) (hk : 9 ≤ k) : impl_crcByte.f k s b = some (mCrc s b) := by
  obtain ⟨s, rfl⟩ := Int.eq_ofNat_of_zero_le h0
  obtain ⟨b, rfl⟩ := Int.eq_ofNat_of_zero_le h2
  unfold impl_crcByte.f mCrc
  rw [pb_wrap (by omega) (by omega), show (256 * (b : Int)) = ((256 * b : Nat) : Int) by omega, pb_xor_nat _ _ (by omega) (by omega)]
  rw [l_impl_crcByte 8 k _ 0 (Nat.xor_lt_two_pow (n := 16) (by omega) (by omega)) (by omega) (by omega) (by omega)]
  simp

theorem c_spec_l1In (a b c : Int) : spec_l1In.f a b c = some (decide (b ≤ a ∧ a ≤ c)) := by
  unfold spec_l1In.f; split
  · next h => congr 1; simp; omega
  · next h => congr 1; simp; omega

theorem c_impl_within (a b c : Int) : impl_within.f a b c = some (decide (b ≤ a ∧ a ≤ c)) := by
  unfold impl_within.f; split
  · next h => congr 1; simp; omega
  · next h => congr 1; simp; omega

def isW (a : Int) : Bool := decide (0 ≤ a ∧ a ≤ 65535)

theorem c_spec_l1Word (a : Int) : spec_l1Word.f a = some (isW a) := by
  unfold spec_l1Word.f; rw [c_spec_l1In]; rfl

theorem c_impl_isWord (a : Int) : impl_isWord.f a = some (isW a) := by
  unfold impl_isWord.f; rw [c_impl_within]; rfl

def mCrcByte (s b : Int) : Int × Int := if 0 ≤ s ∧ s ≤ 65535 ∧ 0 ≤ b ∧ b ≤ 255 then (0, mCrc s b) else (3, 0)

theorem c_spec_CrcByte (k : Nat) (s b : Int) (hk : 9 ≤ k) : spec_CrcByte.f k s b = some (mCrcByte s b) := by
  unfold spec_CrcByte.f mCrcByte; rw [c_spec_l1Word, c_spec_l1In]; simp only [Option.bind_some, isW, decide_eq_true_eq]
  by_cases h : 0 ≤ s ∧ s ≤ 65535
  · by_cases h' : 0 ≤ b ∧ b ≤ 255
    · rw [if_pos h, if_pos h', c_spec_l1Crc k s b h.1 (by omega) h'.1 (by omega) hk, if_pos (by omega)]; rfl
    · rw [if_pos h, if_neg h', if_neg (by omega)]
  · rw [if_neg h, if_neg (by omega)]

theorem c_impl_CrcByte (k : Nat) (s b : Int) (hk : 9 ≤ k) : impl_CrcByte.f k s b = some (mCrcByte s b) := by
  unfold impl_CrcByte.f mCrcByte; rw [c_impl_isWord, c_impl_within]; simp only [Option.bind_some, isW, decide_eq_true_eq]
  by_cases h : 0 ≤ s ∧ s ≤ 65535
  · by_cases h' : 0 ≤ b ∧ b ≤ 255
    · rw [if_pos h, if_pos h', c_impl_crcByte k s b h.1 (by omega) h'.1 (by omega) hk, if_pos (by omega)]; rfl
    · rw [if_pos h, if_neg h', if_neg (by omega)]
  · rw [if_neg h, if_neg (by omega)]

theorem c_laws_eqIntResult (a b c d : Int) : laws_eqIntResult.f a b c d = some (decide (a = c ∧ b = d)) := by
  unfold laws_eqIntResult.f
  by_cases h : a = c <;> by_cases h' : b = d <;> simp [h, h']

theorem c_spec_CrcTable (k : Nat) (b : Int) (hk : 9 ≤ k) : spec_CrcTable.f k b = some (mCrcByte 0 b) := by
  unfold spec_CrcTable.f; rw [c_spec_CrcByte k 0 b hk]; rfl

theorem c_impl_CrcTable (k : Nat) (b : Int) (hk : 9 ≤ k) : impl_CrcTable.f k b = some (mCrcByte 0 b) := by
  unfold impl_CrcTable.f; rw [c_impl_CrcByte k 0 b hk]; rfl

theorem FnExactCrcTable : laws_FnExactCrcTable.Pure := by
  intro a0 _
  refine ⟨9, ?_⟩
  unfold laws_FnExactCrcTable.f
  rw [c_spec_CrcTable 9 _ (by decide), c_impl_CrcTable 9 _ (by decide)]
  simp only [Option.bind_some, c_laws_eqIntResult]; simp

end Go.Proofs.Ytaolajbojoeahaa.Pure
