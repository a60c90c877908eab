/- Machine side of the law FnExactCellOf: for each Go function that it reaches, a Lean function with the same answers and the proof that the call comes to them. Conditions: what the arguments lead to reads as the lists that each contract is told of. Some functions are told by hand, the others by the kit's print.py under wip/ext.py. -/
import Derived.Test.YtlokckgkbhmkmaaXFnExactCellOfx0
import Derived.Test.YtlokckgkbhmkmaaXFnExactCellOfx1
namespace Go.Proofs.Ytlokckgkbhmkmaa.XFnExactCellOf
open Go.RowKit Go.Proofs.YtlokckgkbhmkmaaW.PrintWords Go.Proofs.YtlokckgkbhmkmaaW.PrintLast
attribute [local go_sem] max2_int min2_int max_two min_two   -- for this text's walks alone
set_option linter.unusedVariables false
set_option linter.unusedSimpArgs false

/-! ### LIB tree0 -/
/-- The tree that lies in block g, as it reads in the world w. -/
structure TreeAt (w : World) (g : Nat) (V : List S125) (N : List S134) (B : List Int) (A0 : Option Addr) (c0 : Nat) (A1 : Option Addr) (c1 : Nat) (A2 : Option Addr) (c2 : Nat) : Prop where
  blk : w.heap[g]? = some (.cells #[.slice A0 V.length c0, .slice A1 N.length c1, .slice A2 B.length c2] 68 (0, 0))
  l0 : V.length ≤ c0
  v : Kd.C k125 w A0 V.length V
  l1 : N.length ≤ c1
  n : Kd.C k134 w A1 N.length N
  l2 : B.length ≤ c2
  b : Kd.C (Kd.int .i64) w A2 B.length B
theorem TreeAt.below {w w' : World} {g : Nat} {V : List S125} {N : List S134} {B : List Int} {A0 A1 A2 : Option Addr} {c0 c1 c2 : Nat} (h : TreeAt w g V N B A0 c0 A1 c1 A2 c2) (hb : Below w.heap.size w w') : TreeAt w' g V N B A0 c0 A1 c1 A2 c2 := ⟨blk_below h.blk hb, h.l0, Kd.C_below h.v hb, h.l1, Kd.C_below h.n hb, h.l2, Kd.C_below h.b hb⟩
/-- All lengths are small. -/
structure Small (V : List S125) (N : List S134) (B : List Int) : Prop where
  v : V.length ≤ 1048576
  n : N.length ≤ 1048576
  b : B.length ≤ 1048576
  vn : ∀ x ∈ V, x.f0.size ≤ 1048576
  nn : ∀ x ∈ N, x.f2.size ≤ 1048576
  k : ∀ x ∈ N, x.f5.length ≤ 1048576 ∧ x.f6.length ≤ 1048576 ∧ x.f7.length ≤ 1048576
theorem rd_get {l : List Int} {i : Nat} (h : i < l.length) : l[i]? = some (rd l (i : Int)) := by simp [rd, List.getElem?_eq_getElem h, List.getD_eq_getElem?_getD]
theorem rdV_get {l : List S125} {i : Nat} (h : i < l.length) : l[i]? = some (rd_T125 l (i : Int)) := by simp [rd_T125, List.getElem?_eq_getElem h, List.getD_eq_getElem?_getD]
theorem rdN_get {l : List S134} {i : Nat} (h : i < l.length) : l[i]? = some (rd_T134 l (i : Int)) := by simp [rd_T134, List.getElem?_eq_getElem h, List.getD_eq_getElem?_getD]
theorem rdV_mem {l : List S125} {i : Nat} (h : i < l.length) : rd_T125 l (i : Int) ∈ l := List.mem_of_getElem? (rdV_get h)
theorem rdN_mem {l : List S134} {i : Nat} (h : i < l.length) : rd_T134 l (i : Int) ∈ l := List.mem_of_getElem? (rdN_get h)
/-! ### LIB smalltree -/
def smallB (V : List S125) (N : List S134) (B : List Int) : Bool :=
  decide (V.length ≤ 1048576) && (decide (N.length ≤ 1048576) && (decide (B.length ≤ 1048576) && (V.all (fun x => decide (x.f0.size ≤ 1048576)) && N.all (fun x => decide (x.f2.size ≤ 1048576) && (decide (x.f5.length ≤ 1048576) && (decide (x.f6.length ≤ 1048576) && decide (x.f7.length ≤ 1048576)))))))
theorem smallB_small {V : List S125} {N : List S134} {B : List Int} (h : smallB V N B = true) : Small V N B := by
  unfold smallB at h
  simp only [Bool.and_eq_true, decide_eq_true_eq, List.all_eq_true] at h
  obtain ⟨h1, h2, h3, h4, h5⟩ := h
  exact ⟨h1, h2, h3, h4, fun x hx => (h5 x hx).1, fun x hx => (h5 x hx).2⟩
theorem smallB_mk {V : List S125} {N : List S134} {B : List Int} (h : Small V N B) : smallB V N B = true := by
  unfold smallB
  simp only [Bool.and_eq_true, decide_eq_true_eq, List.all_eq_true]
  exact ⟨h.v, h.n, h.b, h.vn, fun x hx => ⟨h.nn x hx, h.k x hx⟩⟩
/-- A tree handed over whole, behind its box. -/
theorem tree_box {w : World} {V : List S125} {N : List S134} {B : List Int} {A0 A1 A2 : Option Addr} {c0 c1 c2 : Nat} (h0 : Kd.C k125 w A0 V.length V) (l0 : V.length ≤ c0) (h1 : Kd.C k134 w A1 N.length N) (l1 : N.length ≤ c1) (h2 : Kd.C (Kd.int .i64) w A2 B.length B) (l2 : B.length ≤ c2) : TreeAt (w.alloc (.cells #[.slice A0 V.length c0, .slice A1 N.length c1, .slice A2 B.length c2] 68)) w.heap.size V N B A0 c0 A1 c1 A2 c2 :=
  have hb : Below w.heap.size w (w.alloc (.cells #[.slice A0 V.length c0, .slice A1 N.length c1, .slice A2 B.length c2] 68)) := (Below.refl _ _).alloc (Nat.le_refl _) _
  ⟨blk_new w _, l0, Kd.C_below h0 hb, l1, Kd.C_below h1 hb, l2, Kd.C_below h2 hb⟩
/-! ### LIB isname -/
theorem pb_wrap {a : Int} (h : -9223372036854775808 ≤ a) (h' : a ≤ 9223372036854775807) : wrap64 a = a := by
  unfold wrap64; omega
def wordsB : List ByteArray := [(⟨#[97, 110, 100]⟩ : ByteArray), (⟨#[98, 111, 111, 108]⟩ : ByteArray), (⟨#[99, 116, 117]⟩ : ByteArray), (⟨#[100, 111]⟩ : ByteArray), (⟨#[101, 108, 115, 101]⟩ : ByteArray), (⟨#[101, 110, 100]⟩ : ByteArray), (⟨#[102, 97, 108, 115, 101]⟩ : ByteArray), (⟨#[102, 111, 114]⟩ : ByteArray), (⟨#[105, 102]⟩ : ByteArray), (⟨#[105, 110]⟩ : ByteArray), (⟨#[105, 110, 116]⟩ : ByteArray), (⟨#[109, 111, 100]⟩ : ByteArray), (⟨#[110, 111, 116]⟩ : ByteArray), (⟨#[111, 114]⟩ : ByteArray), (⟨#[111, 117, 116]⟩ : ByteArray), (⟨#[114, 116, 114, 105, 103]⟩ : ByteArray), (⟨#[115, 114]⟩ : ByteArray), (⟨#[116, 104, 101, 110]⟩ : ByteArray), (⟨#[116, 111]⟩ : ByteArray), (⟨#[116, 111, 110]⟩ : ByteArray), (⟨#[116, 114, 117, 101]⟩ : ByteArray), (⟨#[118, 97, 114]⟩ : ByteArray), (⟨#[120, 111, 114]⟩ : ByteArray)]
def wordsL : List (List UInt8) := [[97, 110, 100], [98, 111, 111, 108], [99, 116, 117], [100, 111], [101, 108, 115, 101], [101, 110, 100], [102, 97, 108, 115, 101], [102, 111, 114], [105, 102], [105, 110], [105, 110, 116], [109, 111, 100], [110, 111, 116], [111, 114], [111, 117, 116], [114, 116, 114, 105, 103], [115, 114], [116, 104, 101, 110], [116, 111], [116, 111, 110], [116, 114, 117, 101], [118, 97, 114], [120, 111, 114]]
theorem wordsB_L : wordsB.map ByteArray.toList = wordsL := by decide +kernel
def mIsWord (s : ByteArray) : Bool := decide (s.toList ∈ wordsL)
theorem pb_chain {α : Type} (l w : α) (ws : List α) (r : Option Bool) [Decidable (l = w)] [Decidable (l ∈ ws)] [Decidable (l ∈ w :: ws)] (h : r = some (decide (l ∈ ws))) : (if l = w then some true else r) = some (decide (l ∈ w :: ws)) := by
  subst h
  by_cases e : l = w <;> simp [e]
theorem c_impl_IsWord (s : ByteArray) : impl_IsWord.f s = some (mIsWord s) := by
  unfold impl_IsWord.f mIsWord wordsL
  generalize s.toList = l
  repeat (refine pb_chain _ _ _ _ ?_)
  simp
theorem l_spec_IsWord (s : ByteArray) (ws : List ByteArray) (hw : ws.length ≤ 1000) (d : Nat) : ∀ (k : Nat) (i : Nat), i + d = ws.length → d < k →
    spec_IsWord.l0 k s ws (i : Int) = some (decide (s.toList ∈ (ws.drop i).map ByteArray.toList)) := by
  induction d with
  | zero =>
    intro k i hi hk
    obtain ⟨k, rfl⟩ : ∃ m, k = m + 1 := ⟨k - 1, by omega⟩
    simp only [spec_IsWord.l0]; rw [if_neg (by omega), List.drop_of_length_le (by omega)]; simp
  | succ d ih =>
    intro k i hi hk
    obtain ⟨k, rfl⟩ : ∃ m, k = m + 1 := ⟨k - 1, by omega⟩
    have hlt : i < ws.length := by omega
    simp only [spec_IsWord.l0]; rw [if_pos (by omega), if_pos (by omega), pb_wrap (by omega) (by omega), List.drop_eq_getElem_cons hlt]
    have e : rdOf ByteArray.empty ws (i : Int) = ws[i] := by
      unfold rdOf; simp [List.getD_eq_getElem?_getD, hlt]
    rw [e]
    by_cases h : ws[i].toList = s.toList
    · rw [if_pos h]; simp only [List.map_cons, List.mem_cons, h, true_or, decide_true]
    · rw [if_neg h, show ((i : Int) + 1) = ((i + 1 : Nat) : Int) by omega, ih k (i + 1) (by omega) (by omega)]
      have h' : ¬ s.toList = ws[i].toList := fun x => h x.symm
      simp only [List.map_cons, List.mem_cons, h', false_or]
theorem c_spec_IsWord (k : Nat) (s : ByteArray) (hk : 24 ≤ k) : spec_IsWord.f k s = some (mIsWord s) := by
  unfold spec_IsWord.f spec_l3Words.f mIsWord
  simp only [Option.bind_some]
  have h := l_spec_IsWord s wordsB (by decide) 23 k 0 (by decide) (by omega)
  rw [List.drop_zero, wordsB_L] at h
  exact h
theorem pb_size (s : ByteArray) : s.data.toList.length = s.size := by rw [Array.length_toList]; rfl
theorem pb_bt (s : ByteArray) (i : Nat) (h : i < s.data.toList.length) : bt s (i : Int) = ((s.data.toList[i]).toNat : Int) := by
  have h' : i < s.size := by rw [← pb_size]; exact h
  have := bt_at s (i : Int) (by simpa using h')
  rw [← this]; rfl
def isLetB (c : UInt8) : Bool := decide (97 ≤ c.toNat ∧ c.toNat ≤ 122 ∨ c.toNat = 95)
theorem c_spec_l3Letter (c : UInt8) : spec_l3Letter.f (c.toNat : Int) = some (isLetB c) := by
  unfold spec_l3Letter.f isLetB
  by_cases h : 97 ≤ c.toNat
  · by_cases h' : c.toNat ≤ 122
    · rw [if_pos (by omega), if_pos (by omega)]; simp [h, h']
    · rw [if_pos (by omega), if_neg (by omega)]; congr 1; rw [Bool.eq_iff_iff, beq_iff_eq, decide_eq_true_eq]; omega
  · rw [if_neg (by omega)]; congr 1; rw [Bool.eq_iff_iff, beq_iff_eq, decide_eq_true_eq]; omega
theorem c_impl_isLetter (c : UInt8) : impl_isLetter.f (c.toNat : Int) = some (isLetB c) := by
  unfold impl_isLetter.f isLetB
  by_cases h : 97 ≤ c.toNat
  · by_cases h' : c.toNat ≤ 122
    · rw [if_pos (by omega), if_pos (by omega)]; simp [h, h']
    · rw [if_pos (by omega), if_neg (by omega)]; congr 1; rw [Bool.eq_iff_iff, beq_iff_eq, decide_eq_true_eq]; omega
  · rw [if_neg (by omega)]; congr 1; rw [Bool.eq_iff_iff, beq_iff_eq, decide_eq_true_eq]; omega
def mIsName (s : ByteArray) : Bool := decide (1 ≤ s.size ∧ s.size ≤ 8) && !mIsWord s && s.data.toList.all isLetB
theorem l_spec_IsName (s : ByteArray) (hs : s.size ≤ 140737488351232) (d : Nat) : ∀ (k i : Nat), i + d = s.size → d < k →
    spec_IsName.l0 k s (i : Int) = some ((s.data.toList.drop i).all isLetB) := by
  have hsz := pb_size s
  induction d with
  | zero =>
    intro k i hi hk
    obtain ⟨k, rfl⟩ : ∃ m, k = m + 1 := ⟨k - 1, by omega⟩
    simp only [spec_IsName.l0]; rw [if_neg (by omega), List.drop_of_length_le (by omega)]; rfl
  | succ d ih =>
    intro k i hi hk
    obtain ⟨k, rfl⟩ : ∃ m, k = m + 1 := ⟨k - 1, by omega⟩
    have hlt : i < s.data.toList.length := by omega
    simp only [spec_IsName.l0]; rw [if_pos (by omega), if_pos (by omega), pb_wrap (by omega) (by omega), List.drop_eq_getElem_cons hlt, pb_bt s i hlt, c_spec_l3Letter]
    simp only [Option.bind_some, List.all_cons]
    cases h : isLetB s.data.toList[i] with
    | true => simp only [if_true, Bool.true_and]; exact ih k (i + 1) (by omega) (by omega)
    | false => simp
theorem c_spec_IsName (k : Nat) (s : ByteArray) (hs : s.size ≤ 140737488351232) (hk : s.size + 30 ≤ k) : spec_IsName.f k s = some (mIsName s) := by
  obtain ⟨k, rfl⟩ : ∃ m, k = m + 1 := ⟨k - 1, by omega⟩
  unfold spec_IsName.f mIsName
  rw [c_spec_IsWord _ s (by omega)]
  simp only [Option.bind_some, spec_IsName.j0]
  by_cases h1 : 1 ≤ s.size
  · by_cases h8 : s.size ≤ 8
    · rw [if_neg (by omega), if_neg (by omega)]
      cases hw : mIsWord s with
      | true => simp
      | false =>
        have := l_spec_IsName s hs s.size k 0 (by omega) (by omega)
        rw [List.drop_zero] at this
        simp only [Bool.false_eq_true, if_false]
        rw [show (0 : Int) = ((0 : Nat) : Int) from rfl, this]; simp [h1, h8]
    · rw [if_neg (by omega), if_pos (by omega)]; simp; omega
  · rw [if_pos (by omega)]; simp; omega
theorem l_impl_IsName (s : ByteArray) (hs : s.size ≤ 140737488351232) (d : Nat) : ∀ (k i : Nat), i + d = s.size → d < k →
    impl_IsName.l0 k s (s.size : Int) (i : Int) = some ((s.data.toList.drop i).all isLetB && decide (1 ≤ s.size ∧ s.size ≤ 8) && !mIsWord s) := by
  have hsz := pb_size s
  induction d with
  | zero =>
    intro k i hi hk
    obtain ⟨k, rfl⟩ : ∃ m, k = m + 1 := ⟨k - 1, by omega⟩
    simp only [impl_IsName.l0]; rw [if_neg (by omega), List.drop_of_length_le (by omega), c_impl_IsWord]
    simp only [Option.bind_some, List.all_nil, Bool.true_and]
    by_cases h1 : 1 ≤ s.size
    · by_cases h8 : s.size ≤ 8
      · rw [if_pos (by omega), if_pos (by omega)]; simp [h1, h8]
      · rw [if_pos (by omega), if_neg (by omega)]; simp; omega
    · rw [if_neg (by omega)]; simp; omega
  | succ d ih =>
    intro k i hi hk
    obtain ⟨k, rfl⟩ : ∃ m, k = m + 1 := ⟨k - 1, by omega⟩
    have hlt : i < s.data.toList.length := by omega
    simp only [impl_IsName.l0]; rw [if_pos (by omega), if_pos (by omega), if_pos (by omega), pb_wrap (by omega) (by omega), List.drop_eq_getElem_cons hlt, pb_bt s i hlt, c_impl_isLetter]
    simp only [Option.bind_some, List.all_cons]
    cases h : isLetB s.data.toList[i] with
    | true => simp only [if_true, Bool.true_and]; exact ih k (i + 1) (by omega) (by omega)
    | false => simp
theorem c_impl_IsName (k : Nat) (s : ByteArray) (hs : s.size ≤ 140737488351232) (hk : s.size + 1 ≤ k) : impl_IsName.f k s = some (mIsName s) := by
  unfold impl_IsName.f mIsName
  have := l_impl_IsName s hs s.size k 0 (by omega) (by omega)
  rw [List.drop_zero] at this
  rw [show (0 : Int) = ((0 : Nat) : Int) from rfl, this]
  congr 1
  cases s.data.toList.all isLetB <;> cases mIsWord s <;> simp
/-! ### LIB small0 -/
def inB (n lo hi : Int) : Bool := decide (lo ≤ n) && decide (n ≤ hi)
def stmtB (k : Int) : Bool := inB k 7 11
theorem inB_f (a b c : Int) : impl_within.f a b c = some (inB a b c) := by unfold impl_within.f inB; split <;> simp_all <;> omega
theorem inB_g (a b c : Int) : spec_l1In.f a b c = some (inB a b c) := by unfold spec_l1In.f inB; split <;> simp_all <;> omega
theorem inB_true {a b c : Int} (h : inB a b c = true) : b ≤ a ∧ a ≤ c := by simpa [inB] using h
theorem inB_mk {a b c : Int} (h : b ≤ a) (h' : a ≤ c) : inB a b c = true := by simp [inB, h, h']
theorem w_within (a b c : Int) (w : World) : Calls Try.prog 65 #[.int .i64 a, .int .i64 b, .int .i64 c] w fun e w' => e = .returned (.bool (inB a b c)) ∧ Below w.heap.size w w' := (impl_within.calls a b c _ w (inB_f a b c)).mono fun e w' h => ⟨h.1, h.2.below⟩
theorem w_l1In (a b c : Int) (w : World) : Calls Try.prog 67 #[.int .i64 a, .int .i64 b, .int .i64 c] w fun e w' => e = .returned (.bool (inB a b c)) ∧ Below w.heap.size w w' := (spec_l1In.calls a b c _ w (inB_g a b c)).mono fun e w' h => ⟨h.1, h.2.below⟩
theorem d_within (a b c : Int) (w : World) : Calls Try.prog 65 #[.int .i64 a, .int .i64 b, .int .i64 c] w fun e w' => e = .returned (.bool (inB a b c)) ∧ ∃ n, w' = w.drewN n := (impl_within.calls a b c _ w (inB_f a b c)).mono fun e w' h => ⟨h.1, h.2.out⟩
theorem d_l1In (a b c : Int) (w : World) : Calls Try.prog 67 #[.int .i64 a, .int .i64 b, .int .i64 c] w fun e w' => e = .returned (.bool (inB a b c)) ∧ ∃ n, w' = w.drewN n := (spec_l1In.calls a b c _ w (inB_g a b c)).mono fun e w' h => ⟨h.1, h.2.out⟩
/-! ### LIB small -/
theorem w_isWord (a : Int) (w : World) : Calls Try.prog 70 #[.int .i64 a] w fun e w' => e = .returned (.bool (inB a 0 65535)) ∧ Below w.heap.size w w' := (impl_isWord.calls a _ w (by unfold impl_isWord.f; rw [inB_f]; rfl)).mono fun e w' h => ⟨h.1, h.2.below⟩
theorem w_l1Word (a : Int) (w : World) : Calls Try.prog 83 #[.int .i64 a] w fun e w' => e = .returned (.bool (inB a 0 65535)) ∧ Below w.heap.size w w' := (spec_l1Word.calls a _ w (by unfold spec_l1Word.f; rw [inB_g]; rfl)).mono fun e w' h => ⟨h.1, h.2.below⟩
theorem w_isStatement (a : Int) (w : World) : Calls Try.prog 108 #[.int .i64 a] w fun e w' => e = .returned (.bool (stmtB a)) ∧ Below w.heap.size w w' := (impl_isStatement.calls a _ w (by unfold impl_isStatement.f; rw [inB_f]; rfl)).mono fun e w' h => ⟨h.1, h.2.below⟩
theorem w_IsName (s : ByteArray) (hs : s.size ≤ 1048576) (w : World) : Calls Try.prog 137 #[.string s] w fun e w' => e = .returned (.bool (mIsName s)) ∧ Below w.heap.size w w' := (impl_IsName.calls (s.size + 1) s _ w (c_impl_IsName _ s (by omega) (by omega))).mono fun e w' h => ⟨h.1, h.2.below⟩
theorem w_IsName' (s : ByteArray) (hs : s.size ≤ 1048576) (w : World) : Calls Try.prog 128 #[.string s] w fun e w' => e = .returned (.bool (mIsName s)) ∧ Below w.heap.size w w' := spec_IsName.calls (s.size + 30) s _ w (c_spec_IsName _ s (by omega) (by omega))
/-! ### LIB fits -/
theorem d_isWord (a : Int) (w : World) : Calls Try.prog 70 #[.int .i64 a] w fun e w' => e = .returned (.bool (inB a 0 65535)) ∧ ∃ n, w' = w.drewN n := (impl_isWord.calls a _ w (by unfold impl_isWord.f; rw [inB_f]; rfl)).mono fun e w' h => ⟨h.1, h.2.out⟩
theorem d_l1Word (a : Int) (w : World) : Calls Try.prog 83 #[.int .i64 a] w fun e w' => e = .returned (.bool (inB a 0 65535)) ∧ ∃ n, w' = w.drewN n := (spec_l1Word.calls a _ w (by unfold spec_l1Word.f; rw [inB_g]; rfl)).mono fun e w' h => ⟨h.1, h.2.out⟩
theorem d_isStatement (a : Int) (w : World) : Calls Try.prog 108 #[.int .i64 a] w fun e w' => e = .returned (.bool (stmtB a)) ∧ ∃ n, w' = w.drewN n := (impl_isStatement.calls a _ w (by unfold impl_isStatement.f; rw [inB_f]; rfl)).mono fun e w' h => ⟨h.1, h.2.out⟩
theorem d_IsName (s : ByteArray) (hs : s.size ≤ 1048576) (w : World) : Calls Try.prog 137 #[.string s] w fun e w' => e = .returned (.bool (mIsName s)) ∧ ∃ n, w' = w.drewN n := (impl_IsName.calls (s.size + 1) s _ w (c_impl_IsName _ s (by omega) (by omega))).mono fun e w' h => ⟨h.1, h.2.out⟩
/-- A node's fields, behind its kind. -/
def restB (n : S134) (kids named : Bool) (op : Int) (thn els num far : Bool) : Bool :=
  kids && ((thn || decide (n.f6.length = 0)) && ((els || decide (n.f7.length = 0)) && ((if named then mIsName n.f2 else n.f2.toList.isEmpty) && ((if 0 < op then inB n.f1 1 op else n.f1 == 0) && ((if num then inB n.f3 0 65535 else n.f3 == 0) && (if far then inB n.f4 0 65535 else n.f4 == 0))))))
def fitsB (n : S134) : Bool :=
  if n.f0 = 1 then restB n (decide (n.f5.length = 0)) false 0 false false true false
  else if n.f0 = 2 then restB n (decide (n.f5.length = 0)) true 0 false false false false
  else if n.f0 = 3 then restB n (decide (n.f5.length = 1)) true 0 false false false false
  else if n.f0 = 7 then restB n (decide (n.f5.length = 1)) true 0 false false false false
  else if n.f0 = 4 then restB n (decide (n.f5.length = 1)) false 0 false false false false
  else if n.f0 = 5 then restB n (decide (n.f5.length = 1)) false 0 false false false false
  else if n.f0 = 6 then restB n (decide (n.f5.length = 2)) false 10 false false false false
  else if n.f0 = 8 then restB n (decide (n.f5.length = 2)) true 0 false false false false
  else if n.f0 = 9 then restB n (decide (n.f5.length = 1)) false 0 true true false false
  else if n.f0 = 10 then restB n (decide (n.f5.length = 0)) true 0 true false true true
  else if n.f0 = 11 then restB n (decide (1 ≤ n.f5.length) && decide (n.f5.length ≤ 3)) true 4 false false false false
  else false
/-! ### LIB pred -/
/-- A function value asked at whole numbers, from a world on. -/
def PredI (g : Nat) (lb : Array Value) (p : Int → Bool) (w : World) : Prop := ∀ (W : World) (x : Int), Below w.heap.size w W → Calls Try.prog g (#[Value.int .i64 x] ++ lb) W fun e W' => e = .returned (.bool (p x)) ∧ Below W.heap.size W W'
def Enters (g : Nat) : Prop := ∀ args w, (callFunc g args).run Try.prog w = .ok (.enter g args) w
theorem enters_of_func {g : Nat} {fn : Func} (hf : Try.prog.funcs[g]? = some fn) (hn : (fn.name == "runtime.NumGoroutine") = false) (hb : fn.body.isSome = true) : Enters g := by
  intro args w
  obtain ⟨c, hc⟩ := Option.isSome_iff_exists.1 hb
  have h1 : fn.name ≠ "runtime.NumGoroutine" := by simpa using hn
  simp [callFunc, hf, h1, hc, mark]
/-- Where the first is of which p holds; -1. -/
def idxP {α : Type} (p : α → Bool) (l : List α) : Int := if l.any p then (l.findIdx p : Int) else -1
theorem idxP_hit {α : Type} (p : α → Bool) (l : List α) (k : Nat) (x : α) (hk : l[k]? = some x) (hp : p x = true) (hb : ∀ (j : Nat) (y : α), j < k → l[j]? = some y → p y = false) : idxP p l = (k : Int) := by
  obtain ⟨hl, rfl⟩ := List.getElem?_eq_some_iff.1 hk
  have h1 : l.any p = true := List.any_eq_true.2 ⟨l[k], List.getElem_mem hl, hp⟩
  have h2 : l.findIdx p = k := by
    rw [List.findIdx_eq hl]
    exact ⟨hp, fun j hj => by simpa using hb j _ hj (List.getElem?_eq_getElem (by omega))⟩
  rw [idxP, if_pos h1, h2]
theorem idxP_miss {α : Type} (p : α → Bool) (l : List α) (hb : ∀ (j : Nat) (y : α), l[j]? = some y → p y = false) : idxP p l = -1 := by
  have h1 : l.any p = false := by
    rw [List.any_eq_false]
    intro x hx
    obtain ⟨j, hj, rfl⟩ := List.mem_iff_getElem.1 hx
    simp [hb j _ (List.getElem?_eq_getElem hj)]
  rw [idxP, if_neg (by simp [h1])]
theorem idxP_any {α : Type} (p : α → Bool) (l : List α) : decide ((0 : Int) ≤ idxP p l) = l.any p := by
  unfold idxP
  split
  · rename_i h; rw [h]; simp
  · rename_i h; rw [Bool.not_eq_true] at h; rw [h]; simp
set_option maxHeartbeats 2000000 in
theorem slices_IndexFunc_int64.calls (g : Nat) (lb : Array Value) (p : Int → Bool) (eg : Enters g) (A : Option Addr) (c : Nat) (l : List Int) (w : World) (hr : Kd.C (Kd.int .i64) w A l.length l) (hp : PredI g lb p w) :
    Calls Try.prog 192 #[.slice A l.length c, .func (.func g) #[] lb] w fun e w' => e = .returned (.int .i64 (idxP p l)) ∧ Below w.heap.size w w' := by
  have hm := Kd.C_max hr
  have HR := Aside0.mk hr
  have HP := Aside0.mk hp
  have eg' : ∀ args w, (callFunc g args).run Try.prog w = .ok (.enter g args) w := eg
  clear hr hp eg
  go_enter Try.func192, Try.ntmps192
  go_wp2
  go_loopg [5, 8] l.length (fun gg _ s8 wr => ∃ kk : Nat, s8 = .int .i64 (kk : Int) ∧ Aside0 (kk ≤ l.length ∧ l.length - kk ≤ gg) ∧ Aside0 (Below w.heap.size w wr) ∧ Aside0 (∀ (j : Nat) (y : Int), j < kk → l[j]? = some y → p y = false))
  case atStart => exact ⟨0, rfl, ⟨by omega⟩, ⟨Below.refl _ _⟩, ⟨fun j _ hj => absurd hj (Nat.not_lt_zero _)⟩⟩
  case round =>
    obtain ⟨kk, rfl, HK, HB, HA⟩ := hrel
    by_cases hlt : kk < l.length
    · have hltz : (kk : Int) < (l.length : Int) := by omega
      have hd : decide ((kk : Int) < (l.length : Int)) = true := decide_eq_true hltz
      have hd' : decide (kk < l.length) = true := decide_eq_true hlt
      obtain ⟨ad, rfl, hc⟩ := Kd.at_int HR.out kk (by omega) (by omega)
      rw [Int.toNat_natCast] at hc
      have hc := (HB.out.cell (World.block_lt_of_cell? w _ hc)).trans hc
      have hcall := HP.out wr (rd l kk) HB.out
      have hx : l[kk]? = some (rd l kk) := by simp [rd, List.getElem?_eq_getElem hlt, List.getD_eq_getElem?_getD]
      have HX := Aside0.mk hx
      have hltq := eq_true hltz
      have h0q : (0 ≤ (kk : Int)) = True := eq_true (by omega)
      clear hx
      cases hq : p (rd l kk) with
      | true =>
        rw [hq] at hcall
        have HQ := Aside0.mk hq
        clear hq
        go_wp2_with fail
        refine hcall.mono ?_
        rintro e w' ⟨rfl, hb⟩
        go_wp2
        go_ret
        refine ⟨?_, below_step HB.out hb⟩
        rw [idxP_hit p l kk _ HX.out HQ.out HA.out]
        rfl
      | false =>
        rw [hq] at hcall
        have HQ := Aside0.mk hq
        clear hq
        go_wp2_with fail
        refine hcall.mono ?_
        rintro e w' ⟨rfl, hb⟩
        have HB2 := Aside0.mk (below_step HB.out hb)
        clear hb
        go_wp2
        go_roundg (l.length - (kk + 1))
        case measure => have := HK.out; omega
        case rel =>
          refine ⟨kk + 1, by go_num, ⟨by omega⟩, HB2, ⟨fun j y hj hy => ?_⟩⟩
          by_cases e : j = kk
          · subst e
            rw [HX.out] at hy
            cases hy
            exact HQ.out
          · exact HA.out j y (by omega) hy
    · have hd : decide ((kk : Int) < (l.length : Int)) = false := decide_eq_false (by omega)
      have hd' : decide (kk < l.length) = false := decide_eq_false hlt
      go_wp2
      go_ret
      refine ⟨?_, HB.out⟩
      rw [idxP_miss p l (fun j y hy => HA.out j y (by have := (List.getElem?_eq_some_iff.1 hy).1; have := HK.out; omega) hy)]
      rfl
theorem slices_ContainsFunc_int64.calls (g : Nat) (lb : Array Value) (p : Int → Bool) (eg : Enters g) (A : Option Addr) (c : Nat) (l : List Int) (w : World) (hr : Kd.C (Kd.int .i64) w A l.length l) (hp : PredI g lb p w) :
    Calls Try.prog 139 #[.slice A l.length c, .func (.func g) #[] lb] w fun e w' => e = .returned (.bool (l.any p)) ∧ Below w.heap.size w w' := by
  rw [← idxP_any]
  have HI := Aside0.mk (fun W (hb : Below w.heap.size w W) => slices_IndexFunc_int64.calls g lb p eg A c l W (Kd.C_below hr hb) (fun W2 x h => hp W2 x (below_step hb h)))
  clear hr hp
  go_enter Try.func139, Try.ntmps139
  go_wp2_with fail
  refine (HI.out _ (Below.refl _ _)).mono ?_
  rintro e w' ⟨rfl, hb⟩
  go_wp2
  go_ret
  exact ⟨rfl, hb⟩
/-! ### LIB ahead -/
/-- A place that names no node ahead of k, or one of the other kind. -/
def badB (N : List S134) (k : Int) (st : Bool) (i : Int) : Bool := !inB i 0 (k - 1) || (stmtB (rd_T134 N i).f0 != st)
set_option maxHeartbeats 2000000 in
set_option maxRecDepth 100000 in
theorem impl_ahead11.w (bk g bs : Nat) (N : List S134) (k : Nat) (hk : k ≤ N.length) (hN : N.length ≤ 1048576) (st : Bool) (A1 : Option Addr) (c1 : Nat) (W : World) (qk : W.cell? ⟨bk, 0, none⟩ = some (.int .i64 (k : Int))) (qg : W.cell? ⟨g, 1, none⟩ = some (.slice A1 N.length c1)) (qs : W.cell? ⟨bs, 0, none⟩ = some (.bool st)) (hr : Kd.C k134 W A1 N.length N) (i : Int) :
    Calls Try.prog 140 (#[Value.int .i64 i] ++ #[.pointer (some ⟨bk, 0, none⟩), .pointer (some ⟨g, 0, none⟩), .pointer (some ⟨bs, 0, none⟩)]) W fun e W' => e = .returned (.bool (badB N k st i)) ∧ Below W.heap.size W W' := by
  show Calls Try.prog _ #[Value.int .i64 i, .pointer (some ⟨bk, 0, none⟩), .pointer (some ⟨g, 0, none⟩), .pointer (some ⟨bs, 0, none⟩)] W _
  have hk1 : IntKind.i64.wrap ((k : Int) - 1) = (k : Int) - 1 := by rw [IntKind.wrap_i64]; omega
  by_cases hin : inB i 0 ((k : Int) - 1) = true
  · obtain ⟨h0, h1⟩ := inB_true hin
    have h2 : i < (N.length : Int) := by omega
    have h0q := eq_true h0
    have h2q := eq_true h2
    obtain ⟨ad, A5, c5, A6, c6, A7, c7, rfl, n0, _⟩ := at_T134 hr i h0 h2
    have HG := Aside0.mk (show badB N k st i = (stmtB (rd_T134 N i).f0 != st) by simp [badB, hin])
    have hcl : ∀ W : World, Calls Try.prog 65 #[.int .i64 i, .int .i64 0, .int .i64 ((k : Int) - 1)] W fun e w' => e = .returned (.bool true) ∧ ∃ n, w' = W.drewN n := fun W => by have := d_within i 0 ((k : Int) - 1) W; rwa [hin] at this
    have hcs : ∀ W : World, Calls Try.prog 108 #[.int .i64 (rd_T134 N i).f0] W fun e w' => e = .returned (.bool (stmtB (rd_T134 N i).f0)) ∧ ∃ n, w' = W.drewN n := fun W => d_isStatement _ W
    have HCL := Aside0.mk hcl
    have HCS := Aside0.mk hcs
    clear hcl hcs hin
    go_enter Try.func140, Try.ntmps140
    go_wp2
    go_quiet (first | (go_at_call 65; exact Calls.quiet_of (HCL.out _)) | (go_at_call 108; exact Calls.quiet_of (HCS.out _)))
    go_wp2
    go_ret
    exact ⟨by rw [HG.out]; rfl, pw_below_drewN (Below.refl _ _) _⟩
  · rw [Bool.not_eq_true] at hin
    have HG := Aside0.mk (show badB N k st i = true by simp [badB, hin])
    have hcl : ∀ W : World, Calls Try.prog 65 #[.int .i64 i, .int .i64 0, .int .i64 ((k : Int) - 1)] W fun e w' => e = .returned (.bool false) ∧ ∃ n, w' = W.drewN n := fun W => by have := d_within i 0 ((k : Int) - 1) W; rwa [hin] at this
    have HCL := Aside0.mk hcl
    clear hcl hin
    go_enter Try.func140, Try.ntmps140
    go_wp2
    go_quiet ((go_at_call 65; exact Calls.quiet_of (HCL.out _)))
    go_wp2
    go_ret
    exact ⟨by rw [HG.out]; rfl, pw_below_drewN (Below.refl _ _) _⟩
set_option maxHeartbeats 2000000 in
theorem impl_ahead1.w (bk g : Nat) (N : List S134) (k : Nat) (hk : k ≤ N.length) (hN : N.length ≤ 1048576) (st : Bool) (A1 : Option Addr) (c1 : Nat) (W : World) (qk : W.cell? ⟨bk, 0, none⟩ = some (.int .i64 (k : Int))) (qg : W.cell? ⟨g, 1, none⟩ = some (.slice A1 N.length c1)) (hr : Kd.C k134 W A1 N.length N) (A : Option Addr) (c : Nat) (l : List Int) (hl : Kd.C (Kd.int .i64) W A l.length l) :
    Calls Try.prog 138 #[.slice A l.length c, .bool st, .pointer (some ⟨bk, 0, none⟩), .pointer (some ⟨g, 0, none⟩)] W fun e W' => e = .returned (.bool (!l.any (badB N k st))) ∧ Below W.heap.size W W' := by
  have QK := Aside0.mk qk
  have QG := Aside0.mk qg
  have HR := Aside0.mk hr
  have HL := Aside0.mk hl
  clear qk qg hr hl
  go_enter Try.func138, Try.ntmps138
  go_wp2_with fail
  have hb : Below W.heap.size W (W.alloc (.cells #[.bool st] 4)) := (Below.refl _ _).alloc (Nat.le_refl _) _
  have HB := Aside0.mk hb
  clear hb
  refine (slices_ContainsFunc_int64.calls 140 _ (badB N k st) (enters_of_func Try.func140 (by kernel_rfl) rfl) A c l _ (Kd.C_below HL.out HB.out) (fun W2 x h2 => impl_ahead11.w bk g W.heap.size N k hk hN st A1 c1 W2 (pw_cell_below h2 (pw_cell_below HB.out QK.out)) (pw_cell_below h2 (pw_cell_below HB.out QG.out)) (pw_cell_below h2 (by simp)) (Kd.C_below (Kd.C_below HR.out HB.out) h2) x)).mono ?_
  rintro e w2 ⟨rfl, hb2⟩
  go_wp2
  go_ret
  exact ⟨rfl, below_step HB.out hb2⟩
/-! ### LIB cnt -/
def bump (xs : List Int) (i : Int) : List Int := xs.set i.toNat (rd xs i + 1)
def cntL (n : Nat) (L : List Int) : List Int := L.foldl bump (List.replicate n 0)
def flat1 (n : S134) : List Int := n.f5 ++ n.f6 ++ n.f7
def flatN (N : List S134) : List Int := (N.map flat1).flatten
theorem cntL_snoc (n : Nat) (L : List Int) (x : Int) : cntL n (L ++ [x]) = bump (cntL n L) x := by simp [cntL, List.foldl_append]
theorem bump_length (xs : List Int) (i : Int) : (bump xs i).length = xs.length := by simp [bump]
theorem cntL_length (n : Nat) (L : List Int) : (cntL n L).length = n := by
  have h : ∀ (L : List Int) (xs : List Int), (L.foldl bump xs).length = xs.length := by
    intro L
    induction L with
    | nil => intro xs; rfl
    | cons a L ih => intro xs; rw [List.foldl_cons, ih, bump_length]
  rw [cntL, h, List.length_replicate]
/-- How often each is counted. -/
theorem cntL_get (n : Nat) (L : List Int) (hL : ∀ x ∈ L, 0 ≤ x ∧ x < (n : Int)) (j : Nat) (hj : j < n) : rd (cntL n L) (j : Int) = (L.count (j : Int) : Nat) := by
  have key : ∀ (L : List Int), (∀ x ∈ L, 0 ≤ x ∧ x < (n : Int)) → ∀ (xs : List Int), xs.length = n → rd (L.foldl bump xs) (j : Int) = rd xs (j : Int) + ((L.count (j : Int) : Nat) : Int) := by
    intro L
    induction L with
    | nil => intro _ xs _; simp
    | cons a L ih =>
      intro hl xs hx
      obtain ⟨ha0, ha1⟩ := hl a (List.mem_cons_self ..)
      rw [List.foldl_cons, ih (fun x hx' => hl x (List.mem_cons_of_mem _ hx')) _ (by rw [bump_length, hx])]
      have hb : rd (bump xs a) (j : Int) = if a = (j : Int) then rd xs (j : Int) + 1 else rd xs (j : Int) := by
        unfold bump rd
        by_cases e : a = (j : Int)
        · subst e
          simp [List.getD_eq_getElem?_getD, hx, hj]
        · have e2 : a.toNat ≠ j := fun h => e (by omega)
          simp [List.getD_eq_getElem?_getD, List.getElem?_set_ne e2, e]
      rw [hb, List.count_cons]
      by_cases e : a = (j : Int)
      · simp [e]; omega
      · simp [e]
  rw [cntL, key L hL _ (by simp)]
  simp [rd, List.getD_eq_getElem?_getD, hj]
theorem cnt_le (L : List Int) (a : Int) : L.count a ≤ L.length := List.count_le_length
theorem R_cellN {e base g cap n : Nat} {ok : Nat → Prop} {W : World} {xs : List Int} (hn : xs.length = n) (h : (Kd.int .i64).R e W base ok (.slice (some ⟨g, 0, none⟩) n cap) xs) (i : Int) (h0 : 0 ≤ i) (h1 : i < n) : W.cell? ⟨g, i.toNat, none⟩ = some (.int .i64 (rd xs i)) ∧ W.frozen? ⟨g, i.toNat, none⟩ = false := by
  subst hn
  exact Kd.R_cell (0 : Int) h i h0 h1
theorem R_putN {e base g cap n : Nat} {ok : Nat → Prop} {W : World} {xs : List Int} (hn : xs.length = n) (h : (Kd.int .i64).R e W base ok (.slice (some ⟨g, 0, none⟩) n cap) xs) (i x : Int) : (Kd.int .i64).R e (W.setCell ⟨g, i.toNat, none⟩ (.int .i64 x)) base ok (.slice (some ⟨g, 0, none⟩) n cap) (xs.set i.toNat x) := by
  subst hn
  exact (Kd.R_put (enc := Value.int .i64) (h1 := fun _ => rfl) h i x).1
def pre3 (a b c : List Int) (k : Nat) : List Int := if k = 0 then [] else if k = 1 then a else if k = 2 then a ++ b else a ++ b ++ c
theorem flatN_len (N : List S134) (h : ∀ x ∈ N, x.f5.length ≤ 1048576 ∧ x.f6.length ≤ 1048576 ∧ x.f7.length ≤ 1048576) : (flatN N).length ≤ N.length * 3145728 := by
  induction N with
  | nil => simp [flatN]
  | cons a N ih =>
    have h1 := h a (List.mem_cons_self ..)
    have h2 := ih (fun x hx => h x (List.mem_cons_of_mem _ hx))
    have h3 : (flatN (a :: N)).length = a.f5.length + a.f6.length + a.f7.length + (flatN N).length := by simp [flatN, flat1]; omega
    rw [h3, List.length_cons, Nat.succ_mul]
    omega
theorem flatN_take (N : List S134) (i : Nat) (hi : i < N.length) : flatN (N.take (i + 1)) = flatN (N.take i) ++ flat1 (rd_T134 N (i : Int)) := by
  have e : rd_T134 N (i : Int) = N[i] := by simp [rd_T134, List.getD_eq_getElem?_getD, hi]
  rw [e, List.take_succ_eq_append_getElem hi]
  unfold flatN
  rw [List.map_append, List.flatten_append]
  simp
theorem mem_flatN {N : List S134} {n : S134} (hn : n ∈ N) {x : Int} (hx : x ∈ flat1 n) : x ∈ flatN N := List.mem_flatten.2 ⟨flat1 n, List.mem_map.2 ⟨n, hn, rfl⟩, hx⟩
theorem cnt_bd {n : Nat} {P : List Int} (hP : ∀ x ∈ P, 0 ≤ x ∧ x < (n : Int)) (hl : P.length ≤ 1000000000) (x : Int) (h0 : 0 ≤ x) (h1 : x < (n : Int)) : 0 ≤ rd (cntL n P) x ∧ rd (cntL n P) x ≤ 1000000000 := by
  obtain ⟨j, rfl⟩ := Int.eq_ofNat_of_zero_le h0
  rw [cntL_get n P hP j (by omega)]
  have := cnt_le P (j : Int)
  omega
theorem take_snoc_rd {L : List Int} {j : Nat} (h : j < L.length) : L.take (j + 1) = L.take j ++ [rd L (j : Int)] := by
  have e : rd L (j : Int) = L[j] := by simp [rd, List.getD_eq_getElem?_getD, h]
  rw [e, List.take_succ_eq_append_getElem h]
theorem rd_mem {L : List Int} {j : Nat} (h : j < L.length) : rd L (j : Int) ∈ L := List.mem_of_getElem? (rd_get h)
theorem flatN_sub {N : List S134} {i : Nat} {x : Int} (h : x ∈ flatN (N.take i)) : x ∈ flatN N := by
  obtain ⟨l, hl, hx⟩ := List.mem_flatten.1 h
  obtain ⟨n, hn, rfl⟩ := List.mem_map.1 hl
  exact mem_flatN (List.mem_of_mem_take hn) hx
theorem pre3_sub {a b c : List Int} {k : Nat} {x : Int} (h : x ∈ pre3 a b c k) : x ∈ a ++ b ++ c := by
  unfold pre3 at h
  split at h
  · cases h
  · split at h
    · simp [h]
    · split at h
      · simp only [List.mem_append] at h ⊢; exact .inl h
      · exact h
theorem pre3_len {a b c : List Int} {k : Nat} : (pre3 a b c k).length ≤ a.length + b.length + c.length := by
  unfold pre3
  split
  · simp
  · split
    · omega
    · split <;> simp only [List.length_append] <;> omega
theorem far_cell {w : World} {b o : Nat} {p : Addr} {u : Value} (hne : b ≠ p.block) : (w.setCell p u).cell? ⟨b, o, none⟩ = w.cell? ⟨b, o, none⟩ := World.cell?_of_block (a := ⟨b, o, none⟩) (Below.heap_setCell w p u b hne)
/-! ### LIB depdef -/
def mx2 (a b : Int) : Int := if a > b then a else b
def maxd (m : Int) (out : List Int) (L : List Int) : Int := L.foldl (fun d x => if inB x 0 (m - 1) then mx2 d (rd out x) else d) 0
def dstep (out : List Int) (n : S134) : List Int := out ++ [maxd out.length out (flat1 n) + 1]
def depthL (N : List S134) : List Int := N.foldl dstep []
theorem depthL_snoc (N : List S134) (n : S134) : depthL (N ++ [n]) = dstep (depthL N) n := by simp [depthL, List.foldl_append]
theorem depthL_length (N : List S134) : (depthL N).length = N.length := by
  have h : ∀ (N : List S134) (out : List Int), (N.foldl dstep out).length = out.length + N.length := by
    intro N
    induction N with
    | nil => intro out; rfl
    | cons a N ih => intro out; rw [List.foldl_cons, ih]; simp [dstep]; omega
  rw [depthL, h]; simp
theorem maxd_snoc (m : Int) (out L : List Int) (x : Int) : maxd m out (L ++ [x]) = if inB x 0 (m - 1) then mx2 (maxd m out L) (rd out x) else maxd m out L := by simp [maxd, List.foldl_append]
theorem mx2_eq (a b : Int) : (if a < b then b else a) = mx2 a b := by unfold mx2; split <;> split <;> omega
/-- What bounds all depths so far bounds the next. -/
theorem maxd_bd (m b : Int) (out L : List Int) (hb : 0 ≤ b) (ho : ∀ x ∈ out, 0 ≤ x ∧ x ≤ b) : 0 ≤ maxd m out L ∧ maxd m out L ≤ b := by
  have hr : ∀ x : Int, 0 ≤ rd out x ∧ rd out x ≤ b := by
    intro x
    unfold rd
    rw [List.getD_eq_getElem?_getD]
    cases h : out[x.toNat]? with
    | none => simp; exact hb
    | some y => simpa using ho y (List.mem_of_getElem? h)
  have key : ∀ (L : List Int) (d : Int), 0 ≤ d ∧ d ≤ b → 0 ≤ L.foldl (fun d x => if inB x 0 (m - 1) then mx2 d (rd out x) else d) d ∧ L.foldl (fun d x => if inB x 0 (m - 1) then mx2 d (rd out x) else d) d ≤ b := by
    intro L
    induction L with
    | nil => intro d h; exact h
    | cons a L ih =>
      intro d h
      rw [List.foldl_cons]
      refine ih _ ?_
      have := hr a
      split
      · unfold mx2; split <;> omega
      · exact h
  exact key L 0 ⟨by omega, hb⟩
theorem depthL_bd (N : List S134) : ∀ x ∈ depthL N, 0 ≤ x ∧ x ≤ (N.length : Int) := by
  have key : ∀ n, n ≤ N.length → ∀ x ∈ depthL (N.take n), 0 ≤ x ∧ x ≤ (n : Int) := by
    intro n
    induction n with
    | zero => intro _ x hx; simp [depthL] at hx
    | succ n ih =>
      intro hn x hx
      rw [List.take_succ_eq_append_getElem (by omega), depthL_snoc] at hx
      have h := ih (by omega)
      rcases List.mem_append.1 hx with hx | hx
      · have := h x hx; omega
      · have := maxd_bd (depthL (N.take n)).length n (depthL (N.take n)) (flat1 N[n]) (by omega) h
        rw [List.mem_singleton.1 hx]
        omega
  have := key N.length (Nat.le_refl _)
  rwa [List.take_length] at this
theorem depthL_take (N : List S134) (i : Nat) (hi : i < N.length) : depthL (N.take (i + 1)) = depthL (N.take i) ++ [maxd (i : Int) (depthL (N.take i)) (flat1 (rd_T134 N (i : Int))) + 1] := by
  have e : rd_T134 N (i : Int) = N[i] := by simp [rd_T134, List.getD_eq_getElem?_getD, hi]
  rw [e, List.take_succ_eq_append_getElem hi, depthL_snoc, dstep, depthL_length, List.length_take, Nat.min_eq_left (by omega)]
theorem d_l1Max (a b : Int) (w : World) : Calls Try.prog 134 #[.int .i64 a, .int .i64 b] w fun e w' => e = .returned (.int .i64 (mx2 a b)) ∧ ∃ n, w' = w.drewN n := (spec_l1Max.calls a b _ w (by unfold spec_l1Max.f mx2; split <;> rfl)).mono fun e w' h => ⟨h.1, h.2.out⟩
/-! ### LIB concat -/
set_option maxHeartbeats 1000000 in
theorem slices_Grow_int64.nil (n : Nat) (hn : n ≤ 4000000) (w : World) :
    Calls Try.prog 215 #[.slice none 0 0, .int .i64 (n : Int)] w fun e w' => ∃ v : Value, e = .returned v ∧ Kd.R (Kd.int .i64) 2 w' w.heap.size (fun _ => True) v [] ∧ Below w.heap.size w w' := by
  by_cases h0 : n = 0
  · subst h0
    go_enter Try.func215, Try.ntmps215
    go_wp2
    go_ret
    exact ⟨_, rfl, Kd.R_nil _ _ _ _ _, Below.refl _ _⟩
  · have hp : decide (0 < (n : Int)) = true := decide_eq_true (by omega)
    have hp' : decide (0 < n) = true := decide_eq_true (by omega)
    have hm : decide ((n : Int) < 0) = false := decide_eq_false (by omega)
    have hp2 : (n : Int) ≤ 4000000 := by omega
    have hp3 : 0 ≤ (n : Int) := by omega
    go_enter Try.func215, Try.ntmps215
    go_wp2_with ((with_reducible refine gate_builtin (b := .append) (xs := #[.tmp 20, .tmp 21]) rfl ?_); at_builtin; refine Kd.R_append_zeros (Kd.int .i64) (w0 := w) w.heap.size rfl (.tmp 20) (.tmp 21) 24 3 2 (.int .i64 0) 8 rfl Try.underlying24 Try.underlying3 info2 rfl (by decide) (by omega) (.slice none 0 0) [] 0 (n : Int) (fun _ => True) rfl rfl ?aZ (fun _ _ => trivial) (Kd.R_nil _ _ _ _ _) hp3 (Below.refl _ _) (Nat.le_refl _) ?aL ?_; (case aZ => exact rfl); (case aL => simp; omega); intro v w1 ho hb hg ha; clear hg ha; have HB := Aside0.mk hb; clear hb; rw [List.nil_append, Int.toNat_natCast] at ho; obtain ⟨A, c, e⟩ := Kd.R_slice ho; rw [List.length_replicate] at e; subst e; have hcc := (Kd.R_reads' ho).2.1; have HO := Aside0.mk ho; clear ho)
    go_ret
    exact ⟨_, rfl, by have := Kd.R_take HO.out (m := 0) (Nat.zero_le _); rwa [List.take_zero] at this, HB.out⟩
set_option maxHeartbeats 4000000 in
set_option maxRecDepth 100000 in
theorem slices_Concat_int64.w3 (b : Nat) (A5 A6 A7 : Option Addr) (c5 c6 c7 : Nat) (l5 l6 l7 : List Int) (w : World) (h5 : w.cell? ⟨b, 0, none⟩ = some (.slice A5 l5.length c5)) (h6 : w.cell? ⟨b, 1, none⟩ = some (.slice A6 l6.length c6)) (h7 : w.cell? ⟨b, 2, none⟩ = some (.slice A7 l7.length c7))
    (r5 : Kd.C (Kd.int .i64) w A5 l5.length l5) (r6 : Kd.C (Kd.int .i64) w A6 l6.length l6) (r7 : Kd.C (Kd.int .i64) w A7 l7.length l7) (s5 : l5.length ≤ 1048576) (s6 : l6.length ≤ 1048576) (s7 : l7.length ≤ 1048576) :
    Calls Try.prog 193 #[.slice (some ⟨b, 0, none⟩) 3 3] w fun e w' => ∃ v : Value, e = .returned v ∧ Kd.R (Kd.int .i64) 2 w' w.heap.size (fun _ => True) v (l5 ++ l6 ++ l7) ∧ Below w.heap.size w w' := by
  have H5 := Aside0.mk h5
  have H6 := Aside0.mk h6
  have H7 := Aside0.mk h7
  have R5 := Aside0.mk r5
  have R6 := Aside0.mk r6
  have R7 := Aside0.mk r7
  clear h5 h6 h7 r5 r6 r7
  go_enter Try.func193, Try.ntmps193
  go_wp2
  go_loopg [3, 5, 11] 3 (fun gg s3 _ s11 wr => ∃ kk s : Nat, s11 = .int .i64 (kk : Int) ∧ s3 = .int .i64 (s : Int) ∧ wr = w ∧ Aside0 (3 ≤ kk + gg) ∧ Aside0 (kk = 0 ∧ s = 0 ∨ kk = 1 ∧ s = l5.length ∨ kk = 2 ∧ s = l5.length + l6.length ∨ kk = 3 ∧ s = l5.length + l6.length + l7.length))
  case atStart => exact ⟨0, 0, rfl, rfl, rfl, ⟨by omega⟩, ⟨.inl ⟨rfl, rfl⟩⟩⟩
  case round =>
    obtain ⟨kk, s, rfl, rfl, rfl, HK, HS⟩ := hrel
    rcases HS.out with ⟨rfl, rfl⟩ | ⟨rfl, rfl⟩ | ⟨rfl, rfl⟩ | ⟨rfl, rfl⟩
    · have h5 := H5.out
      have hn : decide ((l5.length : Int) < 0) = false := decide_eq_false (by omega)
      obtain ⟨k1, rfl⟩ : ∃ k1, gk = k1 + 1 := ⟨gk - 1, by have := HK.out; omega⟩
      go_wp2
      go_roundg k1
      case measure => omega
      case rel => exact ⟨1, l5.length, rfl, rfl, rfl, ⟨by have := HK.out; omega⟩, ⟨.inr (.inl ⟨rfl, rfl⟩)⟩⟩
    · have h5 := H6.out
      have hn : decide ((l5.length : Int) + (l6.length : Int) < 0) = false := decide_eq_false (by omega)
      have hnn : 0 ≤ (l5.length : Int) + (l6.length : Int) := by omega
      have hnm : (l5.length : Int) + (l6.length : Int) ≤ 2097152 := by omega
      obtain ⟨k1, rfl⟩ : ∃ k1, gk = k1 + 1 := ⟨gk - 1, by have := HK.out; omega⟩
      go_wp2
      go_roundg k1
      case measure => omega
      case rel => exact ⟨2, l5.length + l6.length, rfl, by go_num, rfl, ⟨by have := HK.out; omega⟩, ⟨.inr (.inr (.inl ⟨rfl, rfl⟩))⟩⟩
    · have h5 := H7.out
      have hn : decide ((l5.length : Int) + (l6.length : Int) + (l7.length : Int) < 0) = false := decide_eq_false (by omega)
      have hnn : 0 ≤ (l5.length : Int) + (l6.length : Int) + (l7.length : Int) := by omega
      obtain ⟨k1, rfl⟩ : ∃ k1, gk = k1 + 1 := ⟨gk - 1, by have := HK.out; omega⟩
      go_wp2
      go_roundg k1
      case measure => omega
      case rel => exact ⟨3, l5.length + l6.length + l7.length, rfl, by go_num, rfl, ⟨by have := HK.out; omega⟩, ⟨.inr (.inr (.inr ⟨rfl, rfl⟩))⟩⟩
    · obtain ⟨wo, rfl⟩ : ∃ wo : World, wo = wr := ⟨_, rfl⟩
      go_wp2_with fail
      refine (slices_Grow_int64.nil (l5.length + l6.length + l7.length) (by omega) wo).mono ?_
      rintro e w1 ⟨v, rfl, ho, hb⟩
      have HO := Aside0.mk ho
      have HB := Aside0.mk hb
      clear ho hb
      go_wp2
      go_loopg [6, 8, 27] 3 (fun gg s6 _ s27 wq => ∃ (kk : Nat) (v : Value) (xs : List Int), s27 = .int .i64 (kk : Int) ∧ s6 = v ∧ Aside0 (3 ≤ kk + gg) ∧ Aside0 (kk = 0 ∧ xs = [] ∨ kk = 1 ∧ xs = l5 ∨ kk = 2 ∧ xs = l5 ++ l6 ∨ kk = 3 ∧ xs = l5 ++ l6 ++ l7) ∧ Aside0 (Kd.R (Kd.int .i64) 2 wq wo.heap.size (fun _ => True) v xs) ∧ Aside0 (Below wo.heap.size wo wq))
      case atStart => exact ⟨0, v, [], rfl, rfl, ⟨by omega⟩, ⟨.inl ⟨rfl, rfl⟩⟩, HO, HB⟩
      case round =>
        clear HO HB
        obtain ⟨kk, v, xs, rfl, rfl, HK, HX, HO, HB⟩ := hrel
        rcases HX.out with ⟨rfl, hx⟩ | ⟨rfl, hx⟩ | ⟨rfl, hx⟩ | ⟨rfl, hx⟩
        · have h5 := (HB.out.cell (World.block_lt_of_cell? _ _ H5.out)).trans H5.out
          have HXX := Aside0.mk hx
          clear HX
          clear hx
          obtain ⟨k1, rfl⟩ : ∃ k1, gk = k1 + 1 := ⟨gk - 1, by have := HK.out; omega⟩
          go_wp2_with ((with_reducible refine gate_builtin (b := .append) (xs := #[.tmp 31, .tmp 32]) rfl ?_); at_builtin; refine Kd.R_append_rows (Kd.int .i64) (w0 := wo) wo.heap.size rfl (.tmp 31) (.tmp 32) 24 2 (.int .i64 0) 8 rfl Try.underlying24 info2 rfl (by decide) (by omega) _ xs l5 _ _ _ (fun _ => True) (fun _ => False) rfl rfl HO.out ?aR1 (fun _ _ h => h) (fun _ h => h.elim) (fun _ _ => trivial) HB.out (below_size HB.out) ?aM1 ?_; (case aR1 => exact Kd.C_below R5.out HB.out); (case aM1 => rw [HXX.out]; (try simp); omega); intro v1 w2 ho hb hg ha; clear hg ha; have HO1 := Aside0.mk ho; have HB1 := Aside0.mk hb; clear ho hb)
          go_roundg k1
          case measure => omega
          case rel => exact ⟨1, v1, xs ++ l5, rfl, rfl, ⟨by have := HK.out; omega⟩, ⟨by rw [HXX.out]; simp⟩, HO1, HB1⟩
        · have h5 := (HB.out.cell (World.block_lt_of_cell? _ _ H6.out)).trans H6.out
          have HXX := Aside0.mk hx
          clear HX
          clear hx
          obtain ⟨k1, rfl⟩ : ∃ k1, gk = k1 + 1 := ⟨gk - 1, by have := HK.out; omega⟩
          go_wp2_with ((with_reducible refine gate_builtin (b := .append) (xs := #[.tmp 31, .tmp 32]) rfl ?_); at_builtin; refine Kd.R_append_rows (Kd.int .i64) (w0 := wo) wo.heap.size rfl (.tmp 31) (.tmp 32) 24 2 (.int .i64 0) 8 rfl Try.underlying24 info2 rfl (by decide) (by omega) _ xs l6 _ _ _ (fun _ => True) (fun _ => False) rfl rfl HO.out ?aR2 (fun _ _ h => h) (fun _ h => h.elim) (fun _ _ => trivial) HB.out (below_size HB.out) ?aM2 ?_; (case aR2 => exact Kd.C_below R6.out HB.out); (case aM2 => rw [HXX.out]; (try simp); omega); intro v1 w2 ho hb hg ha; clear hg ha; have HO1 := Aside0.mk ho; have HB1 := Aside0.mk hb; clear ho hb)
          go_roundg k1
          case measure => omega
          case rel => exact ⟨2, v1, xs ++ l6, rfl, rfl, ⟨by have := HK.out; omega⟩, ⟨by rw [HXX.out]; simp⟩, HO1, HB1⟩
        · have h5 := (HB.out.cell (World.block_lt_of_cell? _ _ H7.out)).trans H7.out
          have HXX := Aside0.mk hx
          clear HX
          clear hx
          obtain ⟨k1, rfl⟩ : ∃ k1, gk = k1 + 1 := ⟨gk - 1, by have := HK.out; omega⟩
          go_wp2_with ((with_reducible refine gate_builtin (b := .append) (xs := #[.tmp 31, .tmp 32]) rfl ?_); at_builtin; refine Kd.R_append_rows (Kd.int .i64) (w0 := wo) wo.heap.size rfl (.tmp 31) (.tmp 32) 24 2 (.int .i64 0) 8 rfl Try.underlying24 info2 rfl (by decide) (by omega) _ xs l7 _ _ _ (fun _ => True) (fun _ => False) rfl rfl HO.out ?aR3 (fun _ _ h => h) (fun _ h => h.elim) (fun _ _ => trivial) HB.out (below_size HB.out) ?aM3 ?_; (case aR3 => exact Kd.C_below R7.out HB.out); (case aM3 => rw [HXX.out]; (try simp); omega); intro v1 w2 ho hb hg ha; clear hg ha; have HO1 := Aside0.mk ho; have HB1 := Aside0.mk hb; clear ho hb)
          go_roundg k1
          case measure => omega
          case rel => exact ⟨3, v1, xs ++ l7, rfl, rfl, ⟨by have := HK.out; omega⟩, ⟨by rw [HXX.out]; simp⟩, HO1, HB1⟩
        · have HXX := Aside0.mk hx
          clear HX
          clear hx
          go_wp2
          go_ret
          exact ⟨_, rfl, by rw [← HXX.out]; exact HO.out, HB.out⟩
set_option maxHeartbeats 1000000 in
theorem impl_all.w (n0 n1 n3 n4 : Int) (n2 : ByteArray) (A5 A6 A7 : Option Addr) (c5 c6 c7 : Nat) (l5 l6 l7 : List Int) (w : World) (r5 : Kd.C (Kd.int .i64) w A5 l5.length l5) (r6 : Kd.C (Kd.int .i64) w A6 l6.length l6) (r7 : Kd.C (Kd.int .i64) w A7 l7.length l7) (s5 : l5.length ≤ 1048576) (s6 : l6.length ≤ 1048576) (s7 : l7.length ≤ 1048576) :
    Calls Try.prog 142 #[.agg #[.int .i64 n0, .int .i64 n1, .string n2, .int .i64 n3, .int .i64 n4, .slice A5 l5.length c5, .slice A6 l6.length c6, .slice A7 l7.length c7]] w fun e w' => ∃ v : Value, e = .returned v ∧ Kd.R (Kd.int .i64) 2 w' w.heap.size (fun _ => True) v (l5 ++ l6 ++ l7) ∧ Below w.heap.size w w' := by
  have hu := Try.underlying134
  have R5 := Aside0.mk r5
  have R6 := Aside0.mk r6
  have R7 := Aside0.mk r7
  clear r5 r6 r7
  go_enter Try.func142, Try.ntmps142
  go_wp2_with fail
  have hb : Below w.heap.size w _ := ((Below.refl w.heap.size w).alloc (Nat.le_refl _) (.cells #[.int .i64 n0, .int .i64 n1, .string n2, .int .i64 n3, .int .i64 n4, .slice A5 l5.length c5, .slice A6 l6.length c6, .slice A7 l7.length c7] 134)).alloc (by simp) (.cells #[.slice A5 l5.length c5, .slice A6 l6.length c6, .slice A7 l7.length c7] 24)
  refine (slices_Concat_int64.w3 _ A5 A6 A7 c5 c6 c7 l5 l6 l7 _ (by simp) (by simp) (by simp) (Kd.C_below R5.out hb) (Kd.C_below R6.out hb) (Kd.C_below R7.out hb) s5 s6 s7).mono ?_
  rintro e w' ⟨v, rfl, ho, hb2⟩
  have HO := Aside0.mk ho
  have HB := Aside0.mk hb2
  clear ho hb2 hb
  go_wp2
  go_ret
  exact ⟨_, rfl, Kd.R_lower HO.out (by simp; omega), (((Below.refl _ _).alloc (Nat.le_refl _) _).alloc (by simp) _).trans (HB.out.mono (by simp; omega))⟩
/-! ### LIB idepths -/
set_option maxHeartbeats 4000000 in
set_option maxRecDepth 100000 in
theorem impl_depths.w (v0 v2 : Value) (A1 : Option Addr) (c1 : Nat) (N : List S134) (last : Int) (m : Nat) (hm : last + 1 = (m : Int)) (hmN : m ≤ N.length) (hN : N.length ≤ 1048576) (w : World) (hr : Kd.C k134 w A1 N.length N) (hk : ∀ x ∈ N, x.f5.length ≤ 1048576 ∧ x.f6.length ≤ 1048576 ∧ x.f7.length ≤ 1048576) :
    Calls Try.prog 195 #[.agg #[v0, .slice A1 N.length c1, v2], .int .i64 last] w fun e w' => ∃ v : Value, e = .returned v ∧ Kd.R (Kd.int .i64) 2 w' w.heap.size (fun _ => True) v (depthL (N.take m)) ∧ Below w.heap.size w w' := by
  have hu := Try.underlying68
  have hun := Try.underlying134
  have hmi : (m : Int) ≤ 1048576 := by omega
  have HR := Aside0.mk hr
  have HSK := Aside0.mk hk
  clear hr hk
  go_enter Try.func195, Try.ntmps195
  go_wp2
  go_loopg [5, 13] m (fun gg s5 s13 wr => ∃ (i : Nat) (Ao : Option Addr) (co : Nat), s5 = .slice Ao i co ∧ s13 = .int .i64 (i : Int) ∧ Aside0 (i ≤ m ∧ m - i ≤ gg) ∧ Aside0 (Kd.R (Kd.int .i64) 2 wr (w.heap.size + 1) (fun _ => True) (.slice Ao i co) (depthL (N.take i))) ∧ Aside0 (wr.heap[w.heap.size]? = some (.cells #[v0, .slice A1 N.length c1, v2] 68 (0, 0))) ∧ Aside0 (Below w.heap.size w wr))
  case atStart =>
    have hs1 : (w.alloc (.cells #[v0, .slice A1 N.length c1, v2] 68)).heap.size = w.heap.size + 1 := by simp
    have ho := own_lit (w.alloc (.cells #[v0, .slice A1 N.length c1, v2] 68)) (w.heap.size + 1) 2 .i64 [] (by rw [hs1]; exact Nat.le_refl _) (Nat.zero_le _)
    rw [hs1] at ho
    exact ⟨0, _, _, rfl, rfl, ⟨by omega⟩, ⟨Kd.R_of_own (enc := Value.int .i64) (h1 := fun _ => rfl) (xs := ([] : List Int)) ho (fun _ _ => trivial)⟩, ⟨by first | exact blk_alloc (blk_new w _) _ | simp⟩, ⟨((Below.refl _ _).alloc (Nat.le_refl _) _).alloc (by simp) _⟩⟩
  case round =>
    obtain ⟨wo, rfl⟩ : ∃ wo : World, wo = wr := ⟨_, rfl⟩
    obtain ⟨i, Ao, co, rfl, rfl, HK, HO, BKT, HB⟩ := hrel
    have q1' : wo.cell? ⟨w.heap.size, 1, none⟩ = some (.slice A1 N.length c1) := (blk_cell BKT.out 1).trans rfl
    by_cases hlt : i < m
    · have hltm : (i : Int) < (m : Int) := by omega
      have hd : decide ((i : Int) < (m : Int)) = true := decide_eq_true hltm
      have hd' : decide (i < m) = true := decide_eq_true hlt
      have hltz : (i : Int) < (N.length : Int) := by omega
      have hltq := eq_true hltz
      have h0q : (0 ≤ (i : Int)) = True := eq_true (by omega)
      obtain ⟨ad, A5, c5, A6, c6, A7, c7, rfl, n0, n1, n2, n3, n4, n5, n6, n7, l5, r5, l6, r6, l7, r7⟩ := at_T134 (Kd.C_below HR.out HB.out) (i : Int) (by omega) hltz
      rw [Int.toNat_natCast] at n0 n1 n2 n3 n4 n5 n6 n7
      have R5 := Aside0.mk r5
      have R6 := Aside0.mk r6
      have R7 := Aside0.mk r7
      have hmem := rdN_mem (l := N) (i := i) (by omega)
      have HFL := Aside0.mk (depthL_take N i (by omega))
      have HK3 := Aside0.mk (HSK.out _ hmem)
      clear r5 r6 r7 hmem l5 l6 l7
      revert n0 n1 n2 n3 n4 n5 n6 n7 R5 R6 R7 HFL HK3
      generalize rd_T134 N (i : Int) = nd
      obtain ⟨d0, d1, d2, d3, d4, F5, F6, F7⟩ := nd
      intro n0 n1 n2 n3 n4 n5 n6 n7 R5 R6 R7 HFL HK3
      go_wp2_with fail
      refine (impl_all.w d0 d1 d3 d4 d2 A5 A6 A7 c5 c6 c7 F5 F6 F7 wo R5.out R6.out R7.out HK3.out.1 HK3.out.2.1 HK3.out.2.2).mono ?_
      rintro e w1 ⟨va, rfl, hoa, hba⟩
      have hp3 : F5 ++ F6 ++ F7 = flat1 ⟨d0, d1, d2, d3, d4, F5, F6, F7⟩ := rfl
      rw [hp3] at hoa
      clear n0 n1 n2 n3 n4 n5 n6 n7 R5 R6 R7 HK3 hp3
      revert HFL hoa
      generalize flat1 ⟨d0, d1, d2, d3, d4, F5, F6, F7⟩ = L
      intro HFL hoa
      obtain ⟨Aa, ca, ea⟩ := Kd.R_slice hoa
      subst ea
      have HRL := Aside0.mk (Kd.R_reads' hoa).2.2
      have hlm := Kd.C_max HRL.out
      have HBa := Aside0.mk hba
      clear hoa hba
      have hol : (depthL (N.take i)).length = i := by rw [depthL_length, List.length_take]; omega
      have hob : ∀ x ∈ depthL (N.take i), 0 ≤ x ∧ x ≤ (i : Int) := fun x hx => by have := depthL_bd (N.take i) x hx; rw [List.length_take] at this; omega
      revert HO HFL hol hob
      generalize depthL (N.take i) = xs
      intro HO HFL hol hob
      have HOL := Aside0.mk hol
      have HOB := Aside0.mk hob
      clear hol hob
      have HOa := Aside0.mk (Kd.R_below HO.out HBa.out)
      have BKa := Aside0.mk (blk_below BKT.out HBa.out)
      have HBw := Aside0.mk (below_step HB.out HBa.out)
      clear HO HB BKT q1'
      go_wp2
      go_loopg [7, 23] L.length (fun gg s7 s23 w' => ∃ j : Nat, s23 = .int .i64 (j : Int) ∧ s7 = .int .i64 (maxd i xs (L.take j)) ∧ Aside0 (j ≤ L.length ∧ L.length - j ≤ gg) ∧ Aside0 (Below w1.heap.size w1 w'))
      case atStart => exact ⟨0, rfl, by rw [List.take_zero]; rfl, ⟨by omega⟩, ⟨Below.refl _ _⟩⟩
      case round =>
        obtain ⟨j, rfl, rfl, HKj, HBj⟩ := hrel
        by_cases hj : j < L.length
        · have hjz : (j : Int) < (L.length : Int) := by omega
          have hjd : decide ((j : Int) < (L.length : Int)) = true := decide_eq_true hjz
          have hjd' : decide (j < L.length) = true := decide_eq_true hj
          have hjq := eq_true hjz
          have hj0 : (0 ≤ (j : Int)) = True := eq_true (by omega)
          obtain ⟨adL, rfl, hx⟩ := Kd.at_int (Kd.C_below HRL.out HBj.out) (j : Int) (by omega) hjz
          rw [Int.toNat_natCast] at hx
          have HSN := Aside0.mk (show maxd i xs (L.take (j + 1)) = _ from by rw [take_snoc_rd hj, maxd_snoc])
          revert HSN
          generalize maxd (i : Int) xs (L.take j) = dd
          intro HSN
          cases hin : inB (rd L (j : Int)) 0 ((i : Int) - 1) with
          | true =>
            obtain ⟨hx0, hx1⟩ := inB_true hin
            have hx2 : rd L (j : Int) < (i : Int) := by omega
            have hx0q := eq_true hx0
            have hx2q := eq_true hx2
            have hRo := Kd.R_below HOa.out HBj.out
            have hi0 : 0 < xs.length := by have := HOL.out; omega
            obtain ⟨go, cap, he, _⟩ := Kd.R_form hRo hi0
            injection he with he1 he2 he3
            subst he1
            clear he2 he3
            obtain ⟨hc, hfz⟩ := R_cellN HOL.out hRo _ hx0 hx2
            have HIN := Aside0.mk hin
            have HMX := Aside0.mk (mx2_eq dd (rd xs (rd L (j : Int))))
            clear hRo
            go_wp2_with (first | (go_at_call 65; refine (d_within _ _ _ _).mono ?_; rintro e w' ⟨rfl, q, rfl⟩))
            all_goals
              go_roundg (L.length - (j + 1))
              case measure => have := HKj.out; omega
              case rel => exact ⟨j + 1, by go_num, by rw [HSN.out, if_pos HIN.out, ← HMX.out]; first | rfl | (split <;> first | rfl | omega), ⟨by omega⟩, ⟨by repeat (first | exact HBj.out | apply pw_below_drewN)⟩⟩
          | false =>
            have HIN := Aside0.mk hin
            go_wp2_with (first | (go_at_call 65; refine (d_within _ _ _ _).mono ?_; rintro e w' ⟨rfl, q, rfl⟩))
            go_roundg (L.length - (j + 1))
            case measure => have := HKj.out; omega
            case rel => exact ⟨j + 1, by go_num, by rw [HSN.out, if_neg (by rw [HIN.out]; decide)], ⟨by omega⟩, ⟨by repeat (first | exact HBj.out | apply pw_below_drewN)⟩⟩
        · have hjd : decide ((j : Int) < (L.length : Int)) = false := decide_eq_false (by omega)
          have hjd' : decide (j < L.length) = false := decide_eq_false hj
          have hLt : L.take j = L := List.take_of_length_le (by omega)
          rw [hLt]
          clear hLt
          have hdb := maxd_bd (i : Int) i xs L (by omega) HOB.out
          revert HFL hdb
          generalize maxd (i : Int) xs L = dd
          intro HFL hdb
          have hd0 := hdb.1
          have hd1 := hdb.2
          have HO2 := Aside0.mk (Kd.R_below HOa.out HBj.out)
          have HB2 := Aside0.mk (below_step HBw.out HBj.out)
          have BK2 := Aside0.mk (blk_below BKa.out HBj.out)
          have HZ := Aside0.mk (blk_lt BK2.out)
          clear hdb HOa HBw BKa
          go_wp2_with ((with_reducible refine gate_builtin (b := .append) (xs := #[.tmp 38, .tmp 41]) rfl ?_); at_builtin; refine Kd.R_append (Kd.int .i64) (w0 := wr) (w.heap.size + 1) rfl (.tmp 38) (.tmp 41) 24 2 (.int .i64 0) 8 rfl Try.underlying24 info2 rfl (by decide) (by omega) (.slice Ao i co) xs (dd + 1) [.int .i64 (dd + 1)] (fun _ => True) (fun _ => False) rfl rfl ?aP (fun _ hk => hk.elim) (fun _ _ => trivial) HO2.out (Below.refl _ _) ?aS ?aM ?_; (case aP => exact rfl); (case aS => have := HZ.out; omega); (case aM => have := HOL.out; omega); intro v1 w2 ho hb hg ha; have BK3 := Aside0.mk (blk_grown BK2.out hg (fun e => by have := Kd.R_base HO2.out _ e.symm; omega)); clear hg ha; obtain ⟨A9, c9, e9⟩ := Kd.R_slice ho; rw [List.length_append, HOL.out] at e9; have e9 : v1 = .slice A9 (i + 1) c9 := e9; subst e9; have HO3 := Aside0.mk ho; have HB3 := Aside0.mk (HB2.out.trans (hb.mono (by omega))); clear ho hb)
          go_roundg (m - (i + 1))
          case measure => have := HK.out; omega
          case rel => exact ⟨i + 1, A9, c9, rfl, by go_num, ⟨by omega⟩, ⟨by rw [HFL.out]; exact HO3.out⟩, BK3, HB3⟩
    · have hd : decide ((i : Int) < (m : Int)) = false := decide_eq_false (by omega)
      have hd' : decide (i < m) = false := decide_eq_false hlt
      obtain rfl : i = m := by have := HK.out; omega
      go_wp2
      go_ret
      exact ⟨_, rfl, Kd.R_lower HO.out (by omega), HB.out⟩
/-! ### LIB deep -/
def deepB (n : Int) : Bool := decide (20 < n)
set_option maxHeartbeats 1000000 in
theorem impl_tooDeep1.w (W : World) (x : Int) : Calls Try.prog 196 (#[Value.int .i64 x] ++ #[]) W fun e W' => e = .returned (.bool (deepB x)) ∧ Below W.heap.size W W' := by
  show Calls Try.prog _ #[Value.int .i64 x] W _
  go_enter Try.func196, Try.ntmps196
  go_wp2
  go_ret
  exact ⟨rfl, Below.refl _ _⟩
set_option maxHeartbeats 1000000 in
theorem impl_tooDeep.w (v0 v2 : Value) (A1 : Option Addr) (c1 : Nat) (N : List S134) (hN : N.length ≤ 1048576) (w : World) (hr : Kd.C k134 w A1 N.length N) (hk : ∀ x ∈ N, x.f5.length ≤ 1048576 ∧ x.f6.length ≤ 1048576 ∧ x.f7.length ≤ 1048576) :
    Calls Try.prog 145 #[.agg #[v0, .slice A1 N.length c1, v2]] w fun e w' => e = .returned (.bool ((depthL N).any deepB)) ∧ Below w.heap.size w w' := by
  have hu := Try.underlying68
  have hmi : (N.length : Int) ≤ 1048576 := by omega
  have HR := Aside0.mk hr
  have HSK := Aside0.mk hk
  clear hr hk
  go_enter Try.func145, Try.ntmps145
  go_wp2_with fail
  refine (impl_depths.w v0 v2 A1 c1 N _ N.length (by omega) (Nat.le_refl _) hN _ (Kd.C_below HR.out ((Below.refl _ _).alloc (Nat.le_refl _) _)) HSK.out).mono ?_
  rintro e w1 ⟨va, rfl, hoa, hba⟩
  rw [List.take_length] at hoa
  obtain ⟨Aa, ca, ea⟩ := Kd.R_slice hoa
  subst ea
  have HRL := Aside0.mk (Kd.R_reads' hoa).2.2
  have HB := Aside0.mk (below_step ((Below.refl w.heap.size w).alloc (Nat.le_refl _) _) hba)
  clear hoa hba
  go_wp2_with fail
  refine (slices_ContainsFunc_int64.calls 196 #[] deepB (enters_of_func Try.func196 (by kernel_rfl) rfl) Aa ca (depthL N) w1 HRL.out (fun W x _ => impl_tooDeep1.w W x)).mono ?_
  rintro e w2 ⟨rfl, hb2⟩
  go_wp2
  go_ret
  exact ⟨rfl, below_step HB.out hb2⟩
/-! ### LIB fits2 -/
set_option maxHeartbeats 4000000 in
set_option maxRecDepth 100000 in
theorem impl_fits.k1 (n1 : Int) (n2 : ByteArray) (n3 n4 : Int) (n5 n6 n7 : List Int) (A5 A6 A7 : Option Addr) (c5 c6 c7 : Nat) (w : World) (hs : n2.size ≤ 1048576) :
    Calls Try.prog 141 #[.agg #[.int .i64 1, .int .i64 n1, .string n2, .int .i64 n3, .int .i64 n4, .slice A5 n5.length c5, .slice A6 n6.length c6, .slice A7 n7.length c7]] w fun e w' => e = .returned (.bool (fitsB (⟨1, n1, n2, n3, n4, n5, n6, n7⟩ : S134))) ∧ Below w.heap.size w w' := by
  have hu := Try.underlying134
  have HG := Aside0.mk (show fitsB (⟨1, n1, n2, n3, n4, n5, n6, n7⟩ : S134) = restB (⟨1, n1, n2, n3, n4, n5, n6, n7⟩ : S134) (decide (n5.length = 0)) false 0 false false true false from rfl)
  go_enter Try.func141, Try.ntmps141
  go_wp2_with (first | (go_at_call 137; refine (d_IsName _ hs _).mono ?_; rintro e w' ⟨rfl, q, rfl⟩) | (go_at_call 65; refine (d_within _ _ _ _).mono ?_; rintro e w' ⟨rfl, q, rfl⟩) | (go_at_call 70; refine (d_isWord _ _).mono ?_; rintro e w' ⟨rfl, q, rfl⟩))
  all_goals
    go_ret
    refine ⟨?_, by repeat (first | exact Below.refl _ _ | apply pw_below_drewN | exact (Below.refl _ _).alloc (Nat.le_refl _) _)⟩
    rw [HG.out]
    clear HG
    simp_all [restB]
    all_goals (intros; first | (simp_all; done) | omega)
set_option maxHeartbeats 4000000 in
set_option maxRecDepth 100000 in
theorem impl_fits.k2 (n1 : Int) (n2 : ByteArray) (n3 n4 : Int) (n5 n6 n7 : List Int) (A5 A6 A7 : Option Addr) (c5 c6 c7 : Nat) (w : World) (hs : n2.size ≤ 1048576) :
    Calls Try.prog 141 #[.agg #[.int .i64 2, .int .i64 n1, .string n2, .int .i64 n3, .int .i64 n4, .slice A5 n5.length c5, .slice A6 n6.length c6, .slice A7 n7.length c7]] w fun e w' => e = .returned (.bool (fitsB (⟨2, n1, n2, n3, n4, n5, n6, n7⟩ : S134))) ∧ Below w.heap.size w w' := by
  have hu := Try.underlying134
  have HG := Aside0.mk (show fitsB (⟨2, n1, n2, n3, n4, n5, n6, n7⟩ : S134) = restB (⟨2, n1, n2, n3, n4, n5, n6, n7⟩ : S134) (decide (n5.length = 0)) true 0 false false false false from rfl)
  go_enter Try.func141, Try.ntmps141
  go_wp2_with (first | (go_at_call 137; refine (d_IsName _ hs _).mono ?_; rintro e w' ⟨rfl, q, rfl⟩) | (go_at_call 65; refine (d_within _ _ _ _).mono ?_; rintro e w' ⟨rfl, q, rfl⟩) | (go_at_call 70; refine (d_isWord _ _).mono ?_; rintro e w' ⟨rfl, q, rfl⟩))
  all_goals
    go_ret
    refine ⟨?_, by repeat (first | exact Below.refl _ _ | apply pw_below_drewN | exact (Below.refl _ _).alloc (Nat.le_refl _) _)⟩
    rw [HG.out]
    clear HG
    simp_all [restB]
    all_goals (intros; first | (simp_all; done) | omega)
set_option maxHeartbeats 4000000 in
set_option maxRecDepth 100000 in
theorem impl_fits.k3 (n1 : Int) (n2 : ByteArray) (n3 n4 : Int) (n5 n6 n7 : List Int) (A5 A6 A7 : Option Addr) (c5 c6 c7 : Nat) (w : World) (hs : n2.size ≤ 1048576) :
    Calls Try.prog 141 #[.agg #[.int .i64 3, .int .i64 n1, .string n2, .int .i64 n3, .int .i64 n4, .slice A5 n5.length c5, .slice A6 n6.length c6, .slice A7 n7.length c7]] w fun e w' => e = .returned (.bool (fitsB (⟨3, n1, n2, n3, n4, n5, n6, n7⟩ : S134))) ∧ Below w.heap.size w w' := by
  have hu := Try.underlying134
  have HG := Aside0.mk (show fitsB (⟨3, n1, n2, n3, n4, n5, n6, n7⟩ : S134) = restB (⟨3, n1, n2, n3, n4, n5, n6, n7⟩ : S134) (decide (n5.length = 1)) true 0 false false false false from rfl)
  go_enter Try.func141, Try.ntmps141
  go_wp2_with (first | (go_at_call 137; refine (d_IsName _ hs _).mono ?_; rintro e w' ⟨rfl, q, rfl⟩) | (go_at_call 65; refine (d_within _ _ _ _).mono ?_; rintro e w' ⟨rfl, q, rfl⟩) | (go_at_call 70; refine (d_isWord _ _).mono ?_; rintro e w' ⟨rfl, q, rfl⟩))
  all_goals
    go_ret
    refine ⟨?_, by repeat (first | exact Below.refl _ _ | apply pw_below_drewN | exact (Below.refl _ _).alloc (Nat.le_refl _) _)⟩
    rw [HG.out]
    clear HG
    simp_all [restB]
    all_goals (intros; first | (simp_all; done) | omega)
set_option maxHeartbeats 4000000 in
set_option maxRecDepth 100000 in
theorem impl_fits.k7 (n1 : Int) (n2 : ByteArray) (n3 n4 : Int) (n5 n6 n7 : List Int) (A5 A6 A7 : Option Addr) (c5 c6 c7 : Nat) (w : World) (hs : n2.size ≤ 1048576) :
    Calls Try.prog 141 #[.agg #[.int .i64 7, .int .i64 n1, .string n2, .int .i64 n3, .int .i64 n4, .slice A5 n5.length c5, .slice A6 n6.length c6, .slice A7 n7.length c7]] w fun e w' => e = .returned (.bool (fitsB (⟨7, n1, n2, n3, n4, n5, n6, n7⟩ : S134))) ∧ Below w.heap.size w w' := by
  have hu := Try.underlying134
  have HG := Aside0.mk (show fitsB (⟨7, n1, n2, n3, n4, n5, n6, n7⟩ : S134) = restB (⟨7, n1, n2, n3, n4, n5, n6, n7⟩ : S134) (decide (n5.length = 1)) true 0 false false false false from rfl)
  go_enter Try.func141, Try.ntmps141
  go_wp2_with (first | (go_at_call 137; refine (d_IsName _ hs _).mono ?_; rintro e w' ⟨rfl, q, rfl⟩) | (go_at_call 65; refine (d_within _ _ _ _).mono ?_; rintro e w' ⟨rfl, q, rfl⟩) | (go_at_call 70; refine (d_isWord _ _).mono ?_; rintro e w' ⟨rfl, q, rfl⟩))
  all_goals
    go_ret
    refine ⟨?_, by repeat (first | exact Below.refl _ _ | apply pw_below_drewN | exact (Below.refl _ _).alloc (Nat.le_refl _) _)⟩
    rw [HG.out]
    clear HG
    simp_all [restB]
    all_goals (intros; first | (simp_all; done) | omega)
set_option maxHeartbeats 4000000 in
set_option maxRecDepth 100000 in
theorem impl_fits.k4 (n1 : Int) (n2 : ByteArray) (n3 n4 : Int) (n5 n6 n7 : List Int) (A5 A6 A7 : Option Addr) (c5 c6 c7 : Nat) (w : World) (hs : n2.size ≤ 1048576) :
    Calls Try.prog 141 #[.agg #[.int .i64 4, .int .i64 n1, .string n2, .int .i64 n3, .int .i64 n4, .slice A5 n5.length c5, .slice A6 n6.length c6, .slice A7 n7.length c7]] w fun e w' => e = .returned (.bool (fitsB (⟨4, n1, n2, n3, n4, n5, n6, n7⟩ : S134))) ∧ Below w.heap.size w w' := by
  have hu := Try.underlying134
  have HG := Aside0.mk (show fitsB (⟨4, n1, n2, n3, n4, n5, n6, n7⟩ : S134) = restB (⟨4, n1, n2, n3, n4, n5, n6, n7⟩ : S134) (decide (n5.length = 1)) false 0 false false false false from rfl)
  go_enter Try.func141, Try.ntmps141
  go_wp2_with (first | (go_at_call 137; refine (d_IsName _ hs _).mono ?_; rintro e w' ⟨rfl, q, rfl⟩) | (go_at_call 65; refine (d_within _ _ _ _).mono ?_; rintro e w' ⟨rfl, q, rfl⟩) | (go_at_call 70; refine (d_isWord _ _).mono ?_; rintro e w' ⟨rfl, q, rfl⟩))
  all_goals
    go_ret
    refine ⟨?_, by repeat (first | exact Below.refl _ _ | apply pw_below_drewN | exact (Below.refl _ _).alloc (Nat.le_refl _) _)⟩
    rw [HG.out]
    clear HG
    simp_all [restB]
    all_goals (intros; first | (simp_all; done) | omega)
set_option maxHeartbeats 4000000 in
set_option maxRecDepth 100000 in
theorem impl_fits.k5 (n1 : Int) (n2 : ByteArray) (n3 n4 : Int) (n5 n6 n7 : List Int) (A5 A6 A7 : Option Addr) (c5 c6 c7 : Nat) (w : World) (hs : n2.size ≤ 1048576) :
    Calls Try.prog 141 #[.agg #[.int .i64 5, .int .i64 n1, .string n2, .int .i64 n3, .int .i64 n4, .slice A5 n5.length c5, .slice A6 n6.length c6, .slice A7 n7.length c7]] w fun e w' => e = .returned (.bool (fitsB (⟨5, n1, n2, n3, n4, n5, n6, n7⟩ : S134))) ∧ Below w.heap.size w w' := by
  have hu := Try.underlying134
  have HG := Aside0.mk (show fitsB (⟨5, n1, n2, n3, n4, n5, n6, n7⟩ : S134) = restB (⟨5, n1, n2, n3, n4, n5, n6, n7⟩ : S134) (decide (n5.length = 1)) false 0 false false false false from rfl)
  go_enter Try.func141, Try.ntmps141
  go_wp2_with (first | (go_at_call 137; refine (d_IsName _ hs _).mono ?_; rintro e w' ⟨rfl, q, rfl⟩) | (go_at_call 65; refine (d_within _ _ _ _).mono ?_; rintro e w' ⟨rfl, q, rfl⟩) | (go_at_call 70; refine (d_isWord _ _).mono ?_; rintro e w' ⟨rfl, q, rfl⟩))
  all_goals
    go_ret
    refine ⟨?_, by repeat (first | exact Below.refl _ _ | apply pw_below_drewN | exact (Below.refl _ _).alloc (Nat.le_refl _) _)⟩
    rw [HG.out]
    clear HG
    simp_all [restB]
    all_goals (intros; first | (simp_all; done) | omega)
set_option maxHeartbeats 4000000 in
set_option maxRecDepth 100000 in
theorem impl_fits.k6 (n1 : Int) (n2 : ByteArray) (n3 n4 : Int) (n5 n6 n7 : List Int) (A5 A6 A7 : Option Addr) (c5 c6 c7 : Nat) (w : World) (hs : n2.size ≤ 1048576) :
    Calls Try.prog 141 #[.agg #[.int .i64 6, .int .i64 n1, .string n2, .int .i64 n3, .int .i64 n4, .slice A5 n5.length c5, .slice A6 n6.length c6, .slice A7 n7.length c7]] w fun e w' => e = .returned (.bool (fitsB (⟨6, n1, n2, n3, n4, n5, n6, n7⟩ : S134))) ∧ Below w.heap.size w w' := by
  have hu := Try.underlying134
  have HG := Aside0.mk (show fitsB (⟨6, n1, n2, n3, n4, n5, n6, n7⟩ : S134) = restB (⟨6, n1, n2, n3, n4, n5, n6, n7⟩ : S134) (decide (n5.length = 2)) false 10 false false false false from rfl)
  go_enter Try.func141, Try.ntmps141
  go_wp2_with (first | (go_at_call 137; refine (d_IsName _ hs _).mono ?_; rintro e w' ⟨rfl, q, rfl⟩) | (go_at_call 65; refine (d_within _ _ _ _).mono ?_; rintro e w' ⟨rfl, q, rfl⟩) | (go_at_call 70; refine (d_isWord _ _).mono ?_; rintro e w' ⟨rfl, q, rfl⟩))
  all_goals
    go_ret
    refine ⟨?_, by repeat (first | exact Below.refl _ _ | apply pw_below_drewN | exact (Below.refl _ _).alloc (Nat.le_refl _) _)⟩
    rw [HG.out]
    clear HG
    simp_all [restB]
    all_goals (intros; first | (simp_all; done) | omega)
set_option maxHeartbeats 4000000 in
set_option maxRecDepth 100000 in
theorem impl_fits.k8 (n1 : Int) (n2 : ByteArray) (n3 n4 : Int) (n5 n6 n7 : List Int) (A5 A6 A7 : Option Addr) (c5 c6 c7 : Nat) (w : World) (hs : n2.size ≤ 1048576) :
    Calls Try.prog 141 #[.agg #[.int .i64 8, .int .i64 n1, .string n2, .int .i64 n3, .int .i64 n4, .slice A5 n5.length c5, .slice A6 n6.length c6, .slice A7 n7.length c7]] w fun e w' => e = .returned (.bool (fitsB (⟨8, n1, n2, n3, n4, n5, n6, n7⟩ : S134))) ∧ Below w.heap.size w w' := by
  have hu := Try.underlying134
  have HG := Aside0.mk (show fitsB (⟨8, n1, n2, n3, n4, n5, n6, n7⟩ : S134) = restB (⟨8, n1, n2, n3, n4, n5, n6, n7⟩ : S134) (decide (n5.length = 2)) true 0 false false false false from rfl)
  go_enter Try.func141, Try.ntmps141
  go_wp2_with (first | (go_at_call 137; refine (d_IsName _ hs _).mono ?_; rintro e w' ⟨rfl, q, rfl⟩) | (go_at_call 65; refine (d_within _ _ _ _).mono ?_; rintro e w' ⟨rfl, q, rfl⟩) | (go_at_call 70; refine (d_isWord _ _).mono ?_; rintro e w' ⟨rfl, q, rfl⟩))
  all_goals
    go_ret
    refine ⟨?_, by repeat (first | exact Below.refl _ _ | apply pw_below_drewN | exact (Below.refl _ _).alloc (Nat.le_refl _) _)⟩
    rw [HG.out]
    clear HG
    simp_all [restB]
    all_goals (intros; first | (simp_all; done) | omega)
set_option maxHeartbeats 4000000 in
set_option maxRecDepth 100000 in
theorem impl_fits.k9 (n1 : Int) (n2 : ByteArray) (n3 n4 : Int) (n5 n6 n7 : List Int) (A5 A6 A7 : Option Addr) (c5 c6 c7 : Nat) (w : World) (hs : n2.size ≤ 1048576) :
    Calls Try.prog 141 #[.agg #[.int .i64 9, .int .i64 n1, .string n2, .int .i64 n3, .int .i64 n4, .slice A5 n5.length c5, .slice A6 n6.length c6, .slice A7 n7.length c7]] w fun e w' => e = .returned (.bool (fitsB (⟨9, n1, n2, n3, n4, n5, n6, n7⟩ : S134))) ∧ Below w.heap.size w w' := by
  have hu := Try.underlying134
  have HG := Aside0.mk (show fitsB (⟨9, n1, n2, n3, n4, n5, n6, n7⟩ : S134) = restB (⟨9, n1, n2, n3, n4, n5, n6, n7⟩ : S134) (decide (n5.length = 1)) false 0 true true false false from rfl)
  go_enter Try.func141, Try.ntmps141
  go_wp2_with (first | (go_at_call 137; refine (d_IsName _ hs _).mono ?_; rintro e w' ⟨rfl, q, rfl⟩) | (go_at_call 65; refine (d_within _ _ _ _).mono ?_; rintro e w' ⟨rfl, q, rfl⟩) | (go_at_call 70; refine (d_isWord _ _).mono ?_; rintro e w' ⟨rfl, q, rfl⟩))
  all_goals
    go_ret
    refine ⟨?_, by repeat (first | exact Below.refl _ _ | apply pw_below_drewN | exact (Below.refl _ _).alloc (Nat.le_refl _) _)⟩
    rw [HG.out]
    clear HG
    simp_all [restB]
    all_goals (intros; first | (simp_all; done) | omega)
set_option maxHeartbeats 4000000 in
set_option maxRecDepth 100000 in
theorem impl_fits.k10 (n1 : Int) (n2 : ByteArray) (n3 n4 : Int) (n5 n6 n7 : List Int) (A5 A6 A7 : Option Addr) (c5 c6 c7 : Nat) (w : World) (hs : n2.size ≤ 1048576) :
    Calls Try.prog 141 #[.agg #[.int .i64 10, .int .i64 n1, .string n2, .int .i64 n3, .int .i64 n4, .slice A5 n5.length c5, .slice A6 n6.length c6, .slice A7 n7.length c7]] w fun e w' => e = .returned (.bool (fitsB (⟨10, n1, n2, n3, n4, n5, n6, n7⟩ : S134))) ∧ Below w.heap.size w w' := by
  have hu := Try.underlying134
  have HG := Aside0.mk (show fitsB (⟨10, n1, n2, n3, n4, n5, n6, n7⟩ : S134) = restB (⟨10, n1, n2, n3, n4, n5, n6, n7⟩ : S134) (decide (n5.length = 0)) true 0 true false true true from rfl)
  go_enter Try.func141, Try.ntmps141
  go_wp2_with (first | (go_at_call 137; refine (d_IsName _ hs _).mono ?_; rintro e w' ⟨rfl, q, rfl⟩) | (go_at_call 65; refine (d_within _ _ _ _).mono ?_; rintro e w' ⟨rfl, q, rfl⟩) | (go_at_call 70; refine (d_isWord _ _).mono ?_; rintro e w' ⟨rfl, q, rfl⟩))
  all_goals
    go_ret
    refine ⟨?_, by repeat (first | exact Below.refl _ _ | apply pw_below_drewN | exact (Below.refl _ _).alloc (Nat.le_refl _) _)⟩
    rw [HG.out]
    clear HG
    simp_all [restB]
    all_goals (intros; first | (simp_all; done) | omega)
set_option maxHeartbeats 4000000 in
set_option maxRecDepth 100000 in
theorem impl_fits.k11a (n1 : Int) (n2 : ByteArray) (n3 n4 : Int) (n5 n6 n7 : List Int) (A5 A6 A7 : Option Addr) (c5 c6 c7 : Nat) (w : World) (hs : n2.size ≤ 1048576) (h3 : (n5.length : Int) < 3) (h1 : 1 < (n5.length : Int)) :
    Calls Try.prog 141 #[.agg #[.int .i64 11, .int .i64 n1, .string n2, .int .i64 n3, .int .i64 n4, .slice A5 n5.length c5, .slice A6 n6.length c6, .slice A7 n7.length c7]] w fun e w' => e = .returned (.bool (fitsB (⟨11, n1, n2, n3, n4, n5, n6, n7⟩ : S134))) ∧ Below w.heap.size w w' := by
  have hu := Try.underlying134
  have HG := Aside0.mk (show fitsB (⟨11, n1, n2, n3, n4, n5, n6, n7⟩ : S134) = restB (⟨11, n1, n2, n3, n4, n5, n6, n7⟩ : S134) (decide (1 ≤ n5.length) && decide (n5.length ≤ 3)) true 4 false false false false from rfl)
  go_enter Try.func141, Try.ntmps141
  go_wp2_with (first | (go_at_call 137; refine (d_IsName _ hs _).mono ?_; rintro e w' ⟨rfl, q, rfl⟩) | (go_at_call 65; refine (d_within _ _ _ _).mono ?_; rintro e w' ⟨rfl, q, rfl⟩) | (go_at_call 70; refine (d_isWord _ _).mono ?_; rintro e w' ⟨rfl, q, rfl⟩))
  all_goals
    go_ret
    refine ⟨?_, by repeat (first | exact Below.refl _ _ | apply pw_below_drewN | exact (Below.refl _ _).alloc (Nat.le_refl _) _)⟩
    rw [HG.out]
    clear HG
    simp_all [restB]
    all_goals (intros; first | (simp_all; done) | omega)
set_option maxHeartbeats 4000000 in
set_option maxRecDepth 100000 in
theorem impl_fits.k11b (n1 : Int) (n2 : ByteArray) (n3 n4 : Int) (n5 n6 n7 : List Int) (A5 A6 A7 : Option Addr) (c5 c6 c7 : Nat) (w : World) (hs : n2.size ≤ 1048576) (h3 : (n5.length : Int) < 3) (h1 : ¬ 1 < (n5.length : Int)) :
    Calls Try.prog 141 #[.agg #[.int .i64 11, .int .i64 n1, .string n2, .int .i64 n3, .int .i64 n4, .slice A5 n5.length c5, .slice A6 n6.length c6, .slice A7 n7.length c7]] w fun e w' => e = .returned (.bool (fitsB (⟨11, n1, n2, n3, n4, n5, n6, n7⟩ : S134))) ∧ Below w.heap.size w w' := by
  have hu := Try.underlying134
  have HG := Aside0.mk (show fitsB (⟨11, n1, n2, n3, n4, n5, n6, n7⟩ : S134) = restB (⟨11, n1, n2, n3, n4, n5, n6, n7⟩ : S134) (decide (1 ≤ n5.length) && decide (n5.length ≤ 3)) true 4 false false false false from rfl)
  go_enter Try.func141, Try.ntmps141
  go_wp2_with (first | (go_at_call 137; refine (d_IsName _ hs _).mono ?_; rintro e w' ⟨rfl, q, rfl⟩) | (go_at_call 65; refine (d_within _ _ _ _).mono ?_; rintro e w' ⟨rfl, q, rfl⟩) | (go_at_call 70; refine (d_isWord _ _).mono ?_; rintro e w' ⟨rfl, q, rfl⟩))
  all_goals
    go_ret
    refine ⟨?_, by repeat (first | exact Below.refl _ _ | apply pw_below_drewN | exact (Below.refl _ _).alloc (Nat.le_refl _) _)⟩
    rw [HG.out]
    clear HG
    simp_all [restB]
    all_goals (intros; first | (simp_all; done) | omega)
set_option maxHeartbeats 4000000 in
set_option maxRecDepth 100000 in
theorem impl_fits.k11c (n1 : Int) (n2 : ByteArray) (n3 n4 : Int) (n5 n6 n7 : List Int) (A5 A6 A7 : Option Addr) (c5 c6 c7 : Nat) (w : World) (hs : n2.size ≤ 1048576) (h3 : ¬ (n5.length : Int) < 3) :
    Calls Try.prog 141 #[.agg #[.int .i64 11, .int .i64 n1, .string n2, .int .i64 n3, .int .i64 n4, .slice A5 n5.length c5, .slice A6 n6.length c6, .slice A7 n7.length c7]] w fun e w' => e = .returned (.bool (fitsB (⟨11, n1, n2, n3, n4, n5, n6, n7⟩ : S134))) ∧ Below w.heap.size w w' := by
  have hu := Try.underlying134
  have HG := Aside0.mk (show fitsB (⟨11, n1, n2, n3, n4, n5, n6, n7⟩ : S134) = restB (⟨11, n1, n2, n3, n4, n5, n6, n7⟩ : S134) (decide (1 ≤ n5.length) && decide (n5.length ≤ 3)) true 4 false false false false from rfl)
  go_enter Try.func141, Try.ntmps141
  go_wp2_with (first | (go_at_call 137; refine (d_IsName _ hs _).mono ?_; rintro e w' ⟨rfl, q, rfl⟩) | (go_at_call 65; refine (d_within _ _ _ _).mono ?_; rintro e w' ⟨rfl, q, rfl⟩) | (go_at_call 70; refine (d_isWord _ _).mono ?_; rintro e w' ⟨rfl, q, rfl⟩))
  all_goals
    go_ret
    refine ⟨?_, by repeat (first | exact Below.refl _ _ | apply pw_below_drewN | exact (Below.refl _ _).alloc (Nat.le_refl _) _)⟩
    rw [HG.out]
    clear HG
    simp_all [restB]
    all_goals (intros; first | (simp_all; done) | omega)
theorem impl_fits.k11 (n1 : Int) (n2 : ByteArray) (n3 n4 : Int) (n5 n6 n7 : List Int) (A5 A6 A7 : Option Addr) (c5 c6 c7 : Nat) (w : World) (hs : n2.size ≤ 1048576) :
    Calls Try.prog 141 #[.agg #[.int .i64 11, .int .i64 n1, .string n2, .int .i64 n3, .int .i64 n4, .slice A5 n5.length c5, .slice A6 n6.length c6, .slice A7 n7.length c7]] w fun e w' => e = .returned (.bool (fitsB (⟨11, n1, n2, n3, n4, n5, n6, n7⟩ : S134))) ∧ Below w.heap.size w w' := by
  by_cases h3 : (n5.length : Int) < 3
  · by_cases h1 : 1 < (n5.length : Int)
    · exact impl_fits.k11a n1 n2 n3 n4 n5 n6 n7 A5 A6 A7 c5 c6 c7 w hs h3 h1
    · exact impl_fits.k11b n1 n2 n3 n4 n5 n6 n7 A5 A6 A7 c5 c6 c7 w hs h3 h1
  · exact impl_fits.k11c n1 n2 n3 n4 n5 n6 n7 A5 A6 A7 c5 c6 c7 w hs h3
set_option maxHeartbeats 4000000 in
set_option maxRecDepth 100000 in
theorem impl_fits.k0 (n0 : Int) (h1 : n0 ≠ 1) (h2 : n0 ≠ 2) (h3 : n0 ≠ 3) (h7 : n0 ≠ 7) (h4 : n0 ≠ 4) (h5 : n0 ≠ 5) (h6 : n0 ≠ 6) (h8 : n0 ≠ 8) (h9 : n0 ≠ 9) (h10 : n0 ≠ 10) (h11 : n0 ≠ 11) (n1 : Int) (n2 : ByteArray) (n3 n4 : Int) (n5 n6 n7 : List Int) (A5 A6 A7 : Option Addr) (c5 c6 c7 : Nat) (w : World) (hs : n2.size ≤ 1048576) :
    Calls Try.prog 141 #[.agg #[.int .i64 n0, .int .i64 n1, .string n2, .int .i64 n3, .int .i64 n4, .slice A5 n5.length c5, .slice A6 n6.length c6, .slice A7 n7.length c7]] w fun e w' => e = .returned (.bool (fitsB (⟨n0, n1, n2, n3, n4, n5, n6, n7⟩ : S134))) ∧ Below w.heap.size w w' := by
  have hu := Try.underlying134
  have HG := Aside0.mk (show fitsB (⟨n0, n1, n2, n3, n4, n5, n6, n7⟩ : S134) = false by simp [fitsB, h1, h2, h3, h7, h4, h5, h6, h8, h9, h10, h11])
  have e1 : (n0 == 1) = false := beq_eq_false_iff_ne.mpr h1
  have e2 : (n0 == 2) = false := beq_eq_false_iff_ne.mpr h2
  have e3 : (n0 == 3) = false := beq_eq_false_iff_ne.mpr h3
  have e7 : (n0 == 7) = false := beq_eq_false_iff_ne.mpr h7
  have e4 : (n0 == 4) = false := beq_eq_false_iff_ne.mpr h4
  have e5 : (n0 == 5) = false := beq_eq_false_iff_ne.mpr h5
  have e6 : (n0 == 6) = false := beq_eq_false_iff_ne.mpr h6
  have e8 : (n0 == 8) = false := beq_eq_false_iff_ne.mpr h8
  have e9 : (n0 == 9) = false := beq_eq_false_iff_ne.mpr h9
  have e10 : (n0 == 10) = false := beq_eq_false_iff_ne.mpr h10
  have e11 : (n0 == 11) = false := beq_eq_false_iff_ne.mpr h11
  clear h1 h2 h3 h7 h4 h5 h6 h8 h9 h10 h11
  go_enter Try.func141, Try.ntmps141
  go_wp2
  go_ret
  refine ⟨?_, (Below.refl _ _).alloc (Nat.le_refl _) _⟩
  rw [HG.out]
  rfl
theorem impl_fits.w (n : S134) (A5 A6 A7 : Option Addr) (c5 c6 c7 : Nat) (w : World) (hs : n.f2.size ≤ 1048576) :
    Calls Try.prog 141 #[.agg #[.int .i64 n.f0, .int .i64 n.f1, .string n.f2, .int .i64 n.f3, .int .i64 n.f4, .slice A5 n.f5.length c5, .slice A6 n.f6.length c6, .slice A7 n.f7.length c7]] w fun e w' => e = .returned (.bool (fitsB n)) ∧ Below w.heap.size w w' := by
  obtain ⟨n0, n1, n2, n3, n4, n5, n6, n7⟩ := n
  have hs : n2.size ≤ 1048576 := hs
  by_cases h1 : n0 = 1
  · subst h1; exact impl_fits.k1 n1 n2 n3 n4 n5 n6 n7 A5 A6 A7 c5 c6 c7 w hs
  by_cases h2 : n0 = 2
  · subst h2; exact impl_fits.k2 n1 n2 n3 n4 n5 n6 n7 A5 A6 A7 c5 c6 c7 w hs
  by_cases h3 : n0 = 3
  · subst h3; exact impl_fits.k3 n1 n2 n3 n4 n5 n6 n7 A5 A6 A7 c5 c6 c7 w hs
  by_cases h7 : n0 = 7
  · subst h7; exact impl_fits.k7 n1 n2 n3 n4 n5 n6 n7 A5 A6 A7 c5 c6 c7 w hs
  by_cases h4 : n0 = 4
  · subst h4; exact impl_fits.k4 n1 n2 n3 n4 n5 n6 n7 A5 A6 A7 c5 c6 c7 w hs
  by_cases h5 : n0 = 5
  · subst h5; exact impl_fits.k5 n1 n2 n3 n4 n5 n6 n7 A5 A6 A7 c5 c6 c7 w hs
  by_cases h6 : n0 = 6
  · subst h6; exact impl_fits.k6 n1 n2 n3 n4 n5 n6 n7 A5 A6 A7 c5 c6 c7 w hs
  by_cases h8 : n0 = 8
  · subst h8; exact impl_fits.k8 n1 n2 n3 n4 n5 n6 n7 A5 A6 A7 c5 c6 c7 w hs
  by_cases h9 : n0 = 9
  · subst h9; exact impl_fits.k9 n1 n2 n3 n4 n5 n6 n7 A5 A6 A7 c5 c6 c7 w hs
  by_cases h10 : n0 = 10
  · subst h10; exact impl_fits.k10 n1 n2 n3 n4 n5 n6 n7 A5 A6 A7 c5 c6 c7 w hs
  by_cases h11 : n0 = 11
  · subst h11; exact impl_fits.k11 n1 n2 n3 n4 n5 n6 n7 A5 A6 A7 c5 c6 c7 w hs
  exact impl_fits.k0 n0 h1 h2 h3 h7 h4 h5 h6 h8 h9 h10 h11 n1 n2 n3 n4 n5 n6 n7 A5 A6 A7 c5 c6 c7 w hs
/-! ### LIB predint -/
set_option maxHeartbeats 2000000 in
theorem slices_IndexFunc_int.calls (g : Nat) (lb : Array Value) (p : Int → Bool) (eg : Enters g) (A : Option Addr) (c : Nat) (l : List Int) (w : World) (hr : Kd.C (Kd.int .i64) w A l.length l) (hp : PredI g lb p w) :
    Calls Try.prog 194 #[.slice A l.length c, .func (.func g) #[] lb] w fun e w' => e = .returned (.int .i64 (idxP p l)) ∧ Below w.heap.size w w' := by
  have hm := Kd.C_max hr
  have HR := Aside0.mk hr
  have HP := Aside0.mk hp
  have eg' : ∀ args w, (callFunc g args).run Try.prog w = .ok (.enter g args) w := eg
  clear hr hp eg
  go_enter Try.func194, Try.ntmps194
  go_wp2
  go_loopg [5, 8] l.length (fun gg _ s8 wr => ∃ kk : Nat, s8 = .int .i64 (kk : Int) ∧ Aside0 (kk ≤ l.length ∧ l.length - kk ≤ gg) ∧ Aside0 (Below w.heap.size w wr) ∧ Aside0 (∀ (j : Nat) (y : Int), j < kk → l[j]? = some y → p y = false))
  case atStart => exact ⟨0, rfl, ⟨by omega⟩, ⟨Below.refl _ _⟩, ⟨fun j _ hj => absurd hj (Nat.not_lt_zero _)⟩⟩
  case round =>
    obtain ⟨kk, rfl, HK, HB, HA⟩ := hrel
    by_cases hlt : kk < l.length
    · have hltz : (kk : Int) < (l.length : Int) := by omega
      have hd : decide ((kk : Int) < (l.length : Int)) = true := decide_eq_true hltz
      have hd' : decide (kk < l.length) = true := decide_eq_true hlt
      obtain ⟨ad, rfl, hc⟩ := Kd.at_int HR.out kk (by omega) (by omega)
      rw [Int.toNat_natCast] at hc
      have hc := (HB.out.cell (World.block_lt_of_cell? w _ hc)).trans hc
      have hcall := HP.out wr (rd l kk) HB.out
      have hx : l[kk]? = some (rd l kk) := by simp [rd, List.getElem?_eq_getElem hlt, List.getD_eq_getElem?_getD]
      have HX := Aside0.mk hx
      have hltq := eq_true hltz
      have h0q : (0 ≤ (kk : Int)) = True := eq_true (by omega)
      clear hx
      cases hq : p (rd l kk) with
      | true =>
        rw [hq] at hcall
        have HQ := Aside0.mk hq
        clear hq
        go_wp2_with fail
        refine hcall.mono ?_
        rintro e w' ⟨rfl, hb⟩
        go_wp2
        go_ret
        refine ⟨?_, below_step HB.out hb⟩
        rw [idxP_hit p l kk _ HX.out HQ.out HA.out]
        rfl
      | false =>
        rw [hq] at hcall
        have HQ := Aside0.mk hq
        clear hq
        go_wp2_with fail
        refine hcall.mono ?_
        rintro e w' ⟨rfl, hb⟩
        have HB2 := Aside0.mk (below_step HB.out hb)
        clear hb
        go_wp2
        go_roundg (l.length - (kk + 1))
        case measure => have := HK.out; omega
        case rel =>
          refine ⟨kk + 1, by go_num, ⟨by omega⟩, HB2, ⟨fun j y hj hy => ?_⟩⟩
          by_cases e : j = kk
          · subst e
            rw [HX.out] at hy
            cases hy
            exact HQ.out
          · exact HA.out j y (by omega) hy
    · have hd : decide ((kk : Int) < (l.length : Int)) = false := decide_eq_false (by omega)
      have hd' : decide (kk < l.length) = false := decide_eq_false hlt
      go_wp2
      go_ret
      refine ⟨?_, HB.out⟩
      rw [idxP_miss p l (fun j y hy => HA.out j y (by have := (List.getElem?_eq_some_iff.1 hy).1; have := HK.out; omega) hy)]
      rfl
theorem slices_ContainsFunc_int.calls (g : Nat) (lb : Array Value) (p : Int → Bool) (eg : Enters g) (A : Option Addr) (c : Nat) (l : List Int) (w : World) (hr : Kd.C (Kd.int .i64) w A l.length l) (hp : PredI g lb p w) :
    Calls Try.prog 143 #[.slice A l.length c, .func (.func g) #[] lb] w fun e w' => e = .returned (.bool (l.any p)) ∧ Below w.heap.size w w' := by
  rw [← idxP_any]
  have HI := Aside0.mk (fun W (hb : Below w.heap.size w W) => slices_IndexFunc_int.calls g lb p eg A c l W (Kd.C_below hr hb) (fun W2 x h => hp W2 x (below_step hb h)))
  clear hr hp
  go_enter Try.func143, Try.ntmps143
  go_wp2_with fail
  refine (HI.out _ (Below.refl _ _)).mono ?_
  rintro e w' ⟨rfl, hb⟩
  go_wp2
  go_ret
  exact ⟨rfl, hb⟩
/-! ### LIB tfdef -/
theorem info_int : (Try.prog.info? 3).map (fun i => (i.zero, i.size, i.bytes)) = some (some (.int .i64 0), 1, 8) := by kernel_rfl
def vf (v : S125) : Int := if mIsName v.f0 = false then 5 else if (inB v.f1 1 3 && (inB v.f2 1 2 && inB v.f3 0 8)) = false then 3 else 0
def varsF : List S125 → Int
  | [] => 0
  | v :: V => if vf v = 0 then varsF V else vf v
theorem varsF_bad (V : List S125) (k : Nat) (v : S125) (hk : V[k]? = some v) (hb : ∀ (j : Nat) (y : S125), j < k → V[j]? = some y → vf y = 0) (h0 : vf v ≠ 0) : varsF V = vf v := by
  induction V generalizing k with
  | nil => simp at hk
  | cons a V ih =>
    cases k with
    | zero =>
      have : a = v := by simpa using hk
      subst this
      simp [varsF, h0]
    | succ k =>
      have ha := hb 0 a (by omega) rfl
      rw [varsF, if_pos ha]
      exact ih k (by simpa using hk) (fun j y hj hy => hb (j + 1) y (by omega) (by simpa using hy))
theorem varsF_good (V : List S125) (hb : ∀ (j : Nat) (y : S125), V[j]? = some y → vf y = 0) : varsF V = 0 := by
  induction V with
  | nil => rfl
  | cons a V ih => rw [varsF, if_pos (hb 0 a rfl)]; exact ih (fun j y hy => hb (j + 1) y (by simpa using hy))
def okI (N : List S134) (k : Nat) (n : S134) : Bool := fitsB n && (!(n.f5.any (badB N k false)) && (!(n.f6.any (badB N k true)) && !(n.f7.any (badB N k true))))
def bodyB (N : List S134) (x : Int) : Bool := inB x 0 ((N.length : Int) - 1) && stmtB (rd_T134 N x).f0
def nodesI (N : List S134) : Bool := (List.range N.length).all (fun k => okI N k (rd_T134 N (k : Int)))
def oneB (n : Int) : Bool := n != 1
/-- What is wrong with a tree, as the program looks at it. -/
def faultI (V : List S125) (N : List S134) (B : List Int) : Int :=
  if 24 < V.length ∨ 200 < N.length then 2 else if varsF V ≠ 0 then varsF V else if nodesI N = false then 1 else if B.all (bodyB N) = false then 1 else if (cntL N.length (B ++ flatN N)).any oneB = true then 1 else if (depthL N).any deepB = true then 9 else 0
theorem nodesI_bad {N : List S134} {k : Nat} (hk : k < N.length) (h : okI N k (rd_T134 N (k : Int)) = false) : nodesI N = false := by
  unfold nodesI
  rw [List.all_eq_false]
  exact ⟨k, List.mem_range.2 hk, by simp [h]⟩
theorem nodesI_good {N : List S134} (h : ∀ k, k < N.length → okI N k (rd_T134 N (k : Int)) = true) : nodesI N = true := by
  unfold nodesI
  rw [List.all_eq_true]
  intro k hk
  exact h k (List.mem_range.1 hk)
theorem any_bad {N : List S134} {k : Int} {st : Bool} {l : List Int} (h : (!(l.any (badB N k st))) = true) {x : Int} (hx : x ∈ l) : 0 ≤ x ∧ x ≤ k - 1 := by
  have h1 : l.any (badB N k st) = false := by simpa using h
  have h2 := List.any_eq_false.1 h1 x hx
  have h3 : inB x 0 (k - 1) = true := by
    cases hc : inB x 0 (k - 1) with
    | true => rfl
    | false => exact absurd (by simp [badB, hc]) h2
  exact inB_true h3
/-- Of a tree all of whose nodes are right, each place that a node names is one. -/
theorem flat_range {N : List S134} (h : nodesI N = true) : ∀ x ∈ flatN N, 0 ≤ x ∧ x < (N.length : Int) := by
  intro x hx
  obtain ⟨l, hl, hxl⟩ := List.mem_flatten.1 hx
  obtain ⟨n, hn, rfl⟩ := List.mem_map.1 hl
  obtain ⟨k, hk, rfl⟩ := List.mem_iff_getElem.1 hn
  have ho := List.all_eq_true.1 h k (List.mem_range.2 hk)
  have e : rd_T134 N (k : Int) = N[k] := by simp [rd_T134, List.getD_eq_getElem?_getD, hk]
  rw [e] at ho
  unfold okI at ho
  simp only [Bool.and_eq_true] at ho
  obtain ⟨_, h5, h6, h7⟩ := ho
  unfold flat1 at hxl
  rcases List.mem_append.1 hxl with hxl | hxl
  · rcases List.mem_append.1 hxl with hxl | hxl
    · have := any_bad h5 hxl; omega
    · have := any_bad h6 hxl; omega
  · have := any_bad h7 hxl; omega
theorem body_range {N : List S134} {x : Int} (h : bodyB N x = true) : 0 ≤ x ∧ x < (N.length : Int) := by
  unfold bodyB at h
  rw [Bool.and_eq_true] at h
  have := inB_true h.1
  omega
set_option maxHeartbeats 1000000 in
theorem impl_tf2.w (W : World) (x : Int) : Calls Try.prog 144 (#[Value.int .i64 x] ++ #[]) W fun e W' => e = .returned (.bool (oneB x)) ∧ Below W.heap.size W W' := by
  show Calls Try.prog _ #[Value.int .i64 x] W _
  go_enter Try.func144, Try.ntmps144
  go_wp2
  go_ret
  exact ⟨rfl, Below.refl _ _⟩
/-! ### LIB refs -/
def exprB (k : Int) : Bool := inB k 1 6
/-- The places of l name nodes ahead of 'at', that are expressions (e) or are none. -/
def refB (N : List S134) (m : Int) (e : Bool) (i : Int) : Bool := inB i 0 (m - 1) && (exprB (rd_T134 N i).f0 == e)
theorem spec_l4Expr.w (n : S134) (A5 A6 A7 : Option Addr) (c5 c6 c7 : Nat) (w : World) :
    Calls Try.prog 106 #[.agg #[.int .i64 n.f0, .int .i64 n.f1, .string n.f2, .int .i64 n.f3, .int .i64 n.f4, .slice A5 n.f5.length c5, .slice A6 n.f6.length c6, .slice A7 n.f7.length c7]] w fun e w' => e = .returned (.bool (exprB n.f0)) ∧ Below w.heap.size w w' := by
  have hu := Try.underlying134
  have hl := fun W => d_l1In n.f0 1 6 W
  go_enter Try.func106, Try.ntmps106
  go_wp2_with fail
  refine (hl _).mono ?_
  rintro e w' ⟨rfl, q, rfl⟩
  go_wp2
  go_ret
  exact ⟨rfl, pw_below_drewN ((Below.refl _ _).alloc (Nat.le_refl _) _) q⟩
set_option maxHeartbeats 2000000 in
set_option maxRecDepth 100000 in
theorem spec_l4Refs.w (g : Nat) (V : List S125) (N : List S134) (B : List Int) (A0 A1 A2 : Option Addr) (c0 c1 c2 : Nat) (m : Nat) (hmN : m ≤ N.length) (hm0 : N.length ≤ 1048576) (A : Option Addr) (c : Nat) (l : List Int) (e : Bool) (w : World) (h : TreeAt w g V N B A0 c0 A1 c1 A2 c2) (hr : Kd.C (Kd.int .i64) w A l.length l) :
    Calls Try.prog 130 #[.pointer (some ⟨g, 0, none⟩), .int .i64 (m : Int), .slice A l.length c, .bool e] w fun e' w' => e' = .returned (.bool (l.all (refB N m e))) ∧ Below w.heap.size w w' := by
  have hu := Try.underlying134
  have hm := Kd.C_max hr
  have HT := Aside0.mk h
  have HR := Aside0.mk hr
  clear h hr
  go_enter Try.func130, Try.ntmps130
  go_wp2
  go_loopg [9] l.length (fun gg s9 wr => ∃ kk : Nat, s9 = .int .i64 (kk : Int) ∧ Aside0 (kk ≤ l.length ∧ l.length - kk ≤ gg) ∧ Aside0 (Below w.heap.size w wr) ∧ Aside0 (∀ (j : Nat) (y : Int), j < kk → l[j]? = some y → refB N m e y = true))
  case atStart => exact ⟨0, rfl, ⟨by omega⟩, ⟨Below.refl _ _⟩, ⟨fun j _ hj => absurd hj (Nat.not_lt_zero _)⟩⟩
  case round =>
    obtain ⟨kk, rfl, HK, HB, HA⟩ := hrel
    have hT := HT.out.below HB.out
    have q1 : wr.cell? ⟨g, 1, none⟩ = some (.slice A1 N.length c1) := (blk_cell hT.blk 1).trans rfl
    by_cases hlt : kk < l.length
    · have hltz : (kk : Int) < (l.length : Int) := by omega
      have hd : decide ((kk : Int) < (l.length : Int)) = true := decide_eq_true hltz
      have hd' : decide (kk < l.length) = true := decide_eq_true hlt
      obtain ⟨ad, rfl, hc⟩ := Kd.at_int (Kd.C_below HR.out HB.out) kk (by omega) (by omega)
      rw [Int.toNat_natCast] at hc
      have HX := Aside0.mk (rd_get hlt)
      have hltq := eq_true hltz
      have h0q : (0 ≤ (kk : Int)) = True := eq_true (by omega)
      have hm1 : IntKind.i64.wrap ((m : Int) - 1) = (m : Int) - 1 := by rw [IntKind.wrap_i64]; omega
      by_cases hin : inB (rd l (kk : Int)) 0 ((m : Int) - 1) = true
      · obtain ⟨hx0, hx1⟩ := inB_true hin
        have hxl : rd l (kk : Int) < (N.length : Int) := by omega
        obtain ⟨ad2, A5, c5, A6, c6, A7, c7, rfl, n0, n1, n2, n3, n4, n5, n6, n7, _⟩ := at_T134 hT.n (rd l (kk : Int)) hx0 hxl
        have hxlq := eq_true hxl
        have hx0q := eq_true hx0
        clear hT
        go_wp2_with fail
        go_region_held3 (fun w' => w'.cell? ⟨g, 1, none⟩ = some (.slice (some ad2) N.length c1) ∧ w'.cell? (ad.add kk) = some (.int .i64 (rd l (kk : Int))) ∧ w'.cell? (ad2.add ((rd l (kk : Int)).toNat * 8)) = some (.int .i64 (rd_T134 N (rd l (kk : Int))).f0)
            ∧ w'.cell? ⟨(ad2.add ((rd l (kk : Int)).toNat * 8)).block, (ad2.add ((rd l (kk : Int)).toNat * 8)).off + 1, none⟩ = some (.int .i64 (rd_T134 N (rd l (kk : Int))).f1) ∧ w'.cell? ⟨(ad2.add ((rd l (kk : Int)).toNat * 8)).block, (ad2.add ((rd l (kk : Int)).toNat * 8)).off + 2, none⟩ = some (.string (rd_T134 N (rd l (kk : Int))).f2)
            ∧ w'.cell? ⟨(ad2.add ((rd l (kk : Int)).toNat * 8)).block, (ad2.add ((rd l (kk : Int)).toNat * 8)).off + 3, none⟩ = some (.int .i64 (rd_T134 N (rd l (kk : Int))).f3) ∧ w'.cell? ⟨(ad2.add ((rd l (kk : Int)).toNat * 8)).block, (ad2.add ((rd l (kk : Int)).toNat * 8)).off + 4, none⟩ = some (.int .i64 (rd_T134 N (rd l (kk : Int))).f4)
            ∧ w'.cell? ⟨(ad2.add ((rd l (kk : Int)).toNat * 8)).block, (ad2.add ((rd l (kk : Int)).toNat * 8)).off + 5, none⟩ = some (.slice A5 (rd_T134 N (rd l (kk : Int))).f5.length c5) ∧ w'.cell? ⟨(ad2.add ((rd l (kk : Int)).toNat * 8)).block, (ad2.add ((rd l (kk : Int)).toNat * 8)).off + 6, none⟩ = some (.slice A6 (rd_T134 N (rd l (kk : Int))).f6.length c6)
            ∧ w'.cell? ⟨(ad2.add ((rd l (kk : Int)).toNat * 8)).block, (ad2.add ((rd l (kk : Int)).toNat * 8)).off + 7, none⟩ = some (.slice A7 (rd_T134 N (rd l (kk : Int))).f7.length c7)) (first | go_keep | (go_split_ands; refine ⟨?_, ?_, ?_, ?_, ?_, ?_, ?_, ?_, ?_, ?_⟩ <;> exact pw_cell_below hb (by assumption)))
          (first | (go_at_call 67; refine (d_l1In _ _ _ _).mono ?_; rintro e w' ⟨rfl, q, rfl⟩) | (go_at_call 106; refine (spec_l4Expr.w (rd_T134 N (rd l (kk : Int))) A5 A6 A7 c5 c6 c7 _).mono ?_; rintro e w' ⟨rfl, hb⟩))
        all_goals
          have HB2 := Aside0.mk (below_step (pw_below_drewN HB.out _) hb)
          clear hb
          cases hq : (exprB (rd_T134 N (rd l (kk : Int))).f0 == e) with
          | false =>
            have HQ := Aside0.mk (show refB N m e (rd l (kk : Int)) = false by simp only [refB, hin, Bool.true_and, hq])
            go_wp2
            go_ret
            refine ⟨?_, HB2.out⟩
            rw [show l.all (refB N m e) = false from List.all_eq_false.2 ⟨_, List.mem_of_getElem? HX.out, by rw [HQ.out]; simp⟩]
            rfl
          | true =>
            have HQ := Aside0.mk (show refB N m e (rd l (kk : Int)) = true by simp only [refB, hin, Bool.true_and, hq])
            go_wp2
            go_roundg (l.length - (kk + 1))
            case measure => have := HK.out; omega
            case rel =>
              refine ⟨kk + 1, by go_num, ⟨by omega⟩, HB2, ⟨fun j y hj hy => ?_⟩⟩
              by_cases e' : j = kk
              · subst e'
                rw [HX.out] at hy
                cases hy
                exact HQ.out
              · exact HA.out j y (by omega) hy
      · rw [Bool.not_eq_true] at hin
        have HQ := Aside0.mk (show refB N m e (rd l (kk : Int)) = false by simp only [refB, hin, Bool.false_and])
        clear hT
        go_wp2_with fail
        have hcl : ∀ W : World, Calls Try.prog 67 #[.int .i64 (rd l (kk : Int)), .int .i64 0, .int .i64 ((m : Int) - 1)] W fun e w' => e = .returned (.bool false) ∧ ∃ n, w' = W.drewN n := fun W => by have := d_l1In (rd l (kk : Int)) 0 ((m : Int) - 1) W; rwa [hin] at this
        go_quiet ((go_at_call 67; exact Calls.quiet_of (hcl _)))
        all_goals
          go_wp2
          go_ret
          refine ⟨?_, pw_below_drewN HB.out _⟩
          rw [show l.all (refB N m e) = false from List.all_eq_false.2 ⟨_, List.mem_of_getElem? HX.out, by rw [HQ.out]; simp⟩]
          rfl
    · have hd : decide ((kk : Int) < (l.length : Int)) = false := decide_eq_false (by omega)
      have hd' : decide (kk < l.length) = false := decide_eq_false hlt
      clear hT
      go_wp2
      go_ret
      refine ⟨?_, HB.out⟩
      rw [show l.all (refB N m e) = true from List.all_eq_true.2 (fun y hy => by obtain ⟨j, hj, rfl⟩ := List.mem_iff_getElem.1 hy; exact HA.out j _ (by have := HK.out; omega) (List.getElem?_eq_getElem hj))]
      rfl
/-! ### LIB right0 -/
theorem bcell {W w1 : World} (hb : Below W.heap.size W w1) : (∀ b o, b < W.heap.size → w1.cell? ⟨b, o, none⟩ = W.cell? ⟨b, o, none⟩) ∧ (∀ b o, b < W.heap.size → w1.frozen? ⟨b, o, none⟩ = W.frozen? ⟨b, o, none⟩) :=
  ⟨fun b o h => hb.cell (p := ⟨b, o, none⟩) h, fun b o h => hb.frozen (p := ⟨b, o, none⟩) h⟩
def refsB (N : List S134) (m : Int) (n : S134) : Bool := n.f5.all (refB N m true) && (n.f6.all (refB N m false) && n.f7.all (refB N m false))
def rightB (N : List S134) (m : Int) (n : S134) : Bool := fitsB n && refsB N m n
theorem isname_ne (s : ByteArray) (h : mIsName s = true) : s.toList.isEmpty = false := by
  unfold mIsName at h
  simp only [Bool.and_eq_true, decide_eq_true_eq] at h
  have h1 := h.1.1.1
  cases hc : s.toList with
  | nil =>
    have : s.size = 0 := by rw [← pb_size, ← ByteArray.toList_eq, hc]; rfl
    omega
  | cons a l => rfl
theorem fits_not (n : S134) (hk : inB n.f0 1 11 = false) : fitsB n = false := by
  have hh : ¬ (1 ≤ n.f0 ∧ n.f0 ≤ 11) := fun hc => by simp [inB, hc.1, hc.2] at hk
  unfold fitsB
  repeat (rw [if_neg (by omega)])

end Go.Proofs.Ytlokckgkbhmkmaa.XFnExactCellOf
