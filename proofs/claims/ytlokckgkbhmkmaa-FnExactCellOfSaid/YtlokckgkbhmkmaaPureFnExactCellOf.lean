/- Proved: for all arguments the law FnExactCellOf of the given program returns true and leaves its arguments as they were. Conditions: none but those that the given row itself states. -/
import Derived.Test.YtlokckgkbhmkmaaXFnExactCellOfx10
set_option linter.unusedVariables false
set_option linter.unusedSimpArgs false
namespace Go.Proofs.Ytlokckgkbhmkmaa.Pure
open Go Go.RowKit Go.Proofs.Ytlokckgkbhmkmaa.XFnExactCellOf Go.Proofs.YtlokckgkbhmkmaaW.PrintWords Go.Proofs.YtlokckgkbhmkmaaW.PrintLast

theorem pb_wrap {a : Int} (h : -9223372036854775808 ≤ a) (h' : a ≤ 9223372036854775807) : wrap64 a = a := by
  unfold wrap64; omega

theorem c_laws_eqIntResult (a b c d : Int) : laws_eqIntResult.f a b c d = some (decide (a = c ∧ b = d)) := by
  unfold laws_eqIntResult.f
  by_cases h : a = c <;> by_cases h' : b = d <;> simp [h, h']

theorem pb_rd (xs : List Int) (i : Nat) (h : i < xs.length) : rd xs (i : Int) = xs[i] := by
  unfold rd; simp [List.getD_eq_getElem?_getD, h]

theorem pb_take_set {α : Type} (xs ys : List α) (i : Nat) (hx : i < xs.length) (hy : i < ys.length) (h : ys.take i = xs.take i) : (ys.set i xs[i]).take (i + 1) = xs.take (i + 1) := by
  rw [List.take_succ_eq_append_getElem (by simpa using hy), List.take_succ_eq_append_getElem hx, List.take_set, List.getElem_set_self]
  rw [List.set_eq_of_length_le (by simp; omega), h]

theorem l_laws_toInt64S (xs : List Int) (hn : xs.length ≤ 35184372088832) (d : Nat) : ∀ (k i : Nat) (ys : List Int), i + d = xs.length → d < k → ys.length = xs.length → ys.take i = xs.take i →
    laws_toInt64S.l0 k xs ys (i : Int) = some xs := by
  induction d with
  | zero =>
    intro k i ys hi hk hl ht
    obtain ⟨k, rfl⟩ : ∃ m, k = m + 1 := ⟨k - 1, by omega⟩
    simp only [laws_toInt64S.l0]; rw [if_neg (by omega)]
    rw [List.take_of_length_le (by omega), List.take_of_length_le (by omega)] at ht; rw [ht]
  | succ d ih =>
    intro k i ys hi hk hl ht
    obtain ⟨k, rfl⟩ : ∃ m, k = m + 1 := ⟨k - 1, by omega⟩
    have hlt : i < xs.length := by omega
    simp only [laws_toInt64S.l0]; rw [if_pos (by omega), if_pos (by omega), if_pos (by omega), pb_wrap (by omega) (by omega), pb_rd xs i hlt]
    exact ih k (i + 1) _ (by omega) (by omega) (by simpa using hl) (pb_take_set xs ys i hlt (by omega) ht)

theorem c_laws_toInt64S (k : Nat) (xs : List Int) (hn : xs.length ≤ 35184372088832) (hk : xs.length < k) : laws_toInt64S.f k xs = some xs := by
  unfold laws_toInt64S.f
  rw [if_pos (by omega), if_pos (by omega)]
  exact l_laws_toInt64S xs hn xs.length k 0 _ (by omega) hk (by simp) (by simp)

theorem l_laws_eqInt64S (xs ys : List Int) (hn : xs.length ≤ 35184372088832) (hl : xs.length = ys.length) (d : Nat) : ∀ (k i : Nat), i + d = xs.length → d < k →
    laws_eqInt64S.l0 k xs ys (i : Int) = some (decide (xs.drop i = ys.drop i)) := by
  induction d with
  | zero =>
    intro k i hi hk
    obtain ⟨k, rfl⟩ : ∃ m, k = m + 1 := ⟨k - 1, by omega⟩
    simp only [laws_eqInt64S.l0]; rw [if_neg (by omega), List.drop_of_length_le (by omega), List.drop_of_length_le (by omega)]; simp
  | succ d ih =>
    intro k i hi hk
    obtain ⟨k, rfl⟩ : ∃ m, k = m + 1 := ⟨k - 1, by omega⟩
    have hx : i < xs.length := by omega
    have hy : i < ys.length := by omega
    simp only [laws_eqInt64S.l0]
    rw [if_pos (by omega), if_pos (by omega), if_pos (by omega), pb_wrap (by omega) (by omega), pb_rd xs i hx, pb_rd ys i hy, List.drop_eq_getElem_cons hx, List.drop_eq_getElem_cons hy]
    by_cases h : xs[i] = ys[i]
    · rw [if_pos h]
      have := ih k (i + 1) (by omega) (by omega)
      rw [show ((i : Int) + 1) = ((i + 1 : Nat) : Int) by omega, this]; simp only [h, List.cons.injEq, true_and]
    · rw [if_neg h]; simp only [h, List.cons.injEq, false_and, decide_false]

theorem c_laws_eqInt64S (k : Nat) (xs ys : List Int) (hn : xs.length ≤ 35184372088832) (hk : xs.length < k) : laws_eqInt64S.f k xs ys = some (decide (xs = ys)) := by
  unfold laws_eqInt64S.f
  by_cases h : xs.length = ys.length
  · rw [if_pos (by omega)]
    have := l_laws_eqInt64S xs ys hn h xs.length k 0 (by omega) hk
    simpa using this
  · rw [if_neg (by omega)]; congr 1; symm; rw [decide_eq_false_iff_not]; intro e; exact h (by rw [e])

def trSz (a r : Int) (P : Prop) : Prop := r < 0 ∨ (0 ≤ r ∧ r ≤ a ∧ P)

theorem trSz_bind {a : Int} {P Q : Prop} {x : Option Int} {f : Int → Option Int} (h : ∃ r, x = some r ∧ trSz a r P) (hf : ∀ r, 0 ≤ r → r ≤ a → P → ∃ s, f r = some s ∧ trSz r s Q) : ∃ s, (x.bind fun r => if r < 0 then some (-1) else f r) = some s ∧ trSz a s (P ∧ Q) := by
  obtain ⟨r, rfl, h⟩ := h
  rcases h with h | ⟨h0, h1, hP⟩
  · exact ⟨-1, by simp [h], .inl (by omega)⟩
  · obtain ⟨s, hs, h⟩ := hf r h0 h1 hP
    refine ⟨s, by simp only [Option.bind_some]; rw [if_neg (by omega), hs], ?_⟩
    rcases h with h | ⟨h2, h3, hQ⟩
    · exact .inl h
    · exact .inr ⟨h2, by omega, hP, hQ⟩

theorem trSz_done {a : Int} (h0 : 0 ≤ a) : ∃ s, some a = some s ∧ trSz a s True := ⟨a, rfl, .inr ⟨h0, Int.le_refl _, trivial⟩⟩

theorem t_szVar (s : ByteArray) (x y z a : Int) (hs : s.size ≤ maxLen) (h0 : 0 ≤ a) (h1 : a ≤ 1048576) : ∃ r, laws_szVar.f s x y z a = some r ∧ trSz a r (s.size ≤ 1048576) := by
  have hm : maxLen = 9223372036854775807 := rfl
  unfold laws_szVar.f
  rw [pb_wrap (by omega) (by omega)]
  by_cases h : a - (s.size : Int) < 0
  · rw [if_pos h]; exact ⟨_, rfl, .inl (by omega)⟩
  · rw [if_neg h]; exact ⟨_, rfl, .inr ⟨by omega, by omega, by omega⟩⟩

theorem t_rdV (l : List S158) (i : Nat) (h : i < l.length) : rd_T158 l (i : Int) = l[i] := by
  unfold rd_T158; simp [List.getD_eq_getElem?_getD, h]

theorem t_rdN (l : List S160) (i : Nat) (h : i < l.length) : rd_T160 l (i : Int) = l[i] := by
  unfold rd_T160; simp [List.getD_eq_getElem?_getD, h]

theorem t_rdn (l : List S134) (i : Nat) (h : i < l.length) : rd_T134 l (i : Int) = l[i] := by
  unfold rd_T134; simp [List.getD_eq_getElem?_getD, h]

theorem l_szVarS (l : List S158) (hl : l.length ≤ 1048576) (ho : ∀ x ∈ l, ok158 x) (d : Nat) : ∀ (k i : Nat) (a : Int), i + d = l.length → d < k → 0 ≤ a → a ≤ 1048576 →
    ∃ r, laws_szVarS.l0 k l a (i : Int) = some r ∧ trSz a r (∀ x ∈ l.drop i, x.f0.size ≤ 1048576) := by
  induction d with
  | zero =>
    intro k i a hi hk h0 h1
    obtain ⟨k, rfl⟩ : ∃ m, k = m + 1 := ⟨k - 1, by omega⟩
    simp only [laws_szVarS.l0]; rw [if_neg (by omega)]
    exact ⟨a, rfl, .inr ⟨h0, Int.le_refl _, by rw [List.drop_of_length_le (by omega)]; intro x hx; cases hx⟩⟩
  | succ d ih =>
    intro k i a hi hk h0 h1
    obtain ⟨k, rfl⟩ : ∃ m, k = m + 1 := ⟨k - 1, by omega⟩
    have hlt : i < l.length := by omega
    simp only [laws_szVarS.l0]; rw [if_pos (by omega), if_pos (by omega), pb_wrap (by omega) (by omega), t_rdV l i hlt]
    obtain ⟨r, hr, hz⟩ := trSz_bind (t_szVar _ l[i].f1 l[i].f2 l[i].f3 a (ho _ (List.getElem_mem hlt)).1 h0 h1) (fun r h0' h1' _ => ih k (i + 1) r (by omega) (by omega) h0' (by omega))
    refine ⟨r, hr, ?_⟩
    rcases hz with hz | ⟨z0, z1, zp, zq⟩
    · exact .inl hz
    · exact .inr ⟨z0, z1, by rw [List.drop_eq_getElem_cons hlt]; intro x hx; rcases List.mem_cons.1 hx with rfl | hx; exact zp; exact zq x hx⟩

theorem t_szVarS (k : Nat) (hk : 1048576 < k) (l : List S158) (hl : l.length ≤ maxLen) (ho : ∀ x ∈ l, ok158 x) (a : Int) (h0 : 0 ≤ a) (h1 : a ≤ 1048576) : ∃ r, laws_szVarS.f k l a = some r ∧ trSz a r (l.length ≤ 1048576 ∧ ∀ x ∈ l, x.f0.size ≤ 1048576) := by
  have hm : maxLen = 9223372036854775807 := rfl
  unfold laws_szVarS.f
  rw [pb_wrap (by omega) (by omega)]
  by_cases h : a - (l.length : Int) < 0
  · rw [if_pos h]; exact ⟨_, rfl, .inl (by omega)⟩
  · rw [if_neg h]
    obtain ⟨r, hr, hz⟩ := l_szVarS l (by omega) ho l.length k 0 (a - (l.length : Int)) (by omega) (by omega) (by omega) (by omega)
    refine ⟨r, hr, ?_⟩
    rcases hz with hz | ⟨z0, z1, zp⟩
    · exact .inl hz
    · exact .inr ⟨z0, by omega, by omega, by simpa using zp⟩

theorem t_szInts (l : List Int) (a : Int) (hl : l.length ≤ maxLen) (h0 : 0 ≤ a) (h1 : a ≤ 1048576) : ∃ r, laws_szInt64S.f l a = some r ∧ trSz a r (l.length ≤ 1048576) := by
  have hm : maxLen = 9223372036854775807 := rfl
  unfold laws_szInt64S.f
  rw [pb_wrap (by omega) (by omega)]
  by_cases h : a - (l.length : Int) < 0
  · rw [if_pos h]; exact ⟨_, rfl, .inl (by omega)⟩
  · rw [if_neg h]; exact ⟨_, rfl, .inr ⟨by omega, by omega, by omega⟩⟩

theorem t_szNode (n : S160) (a : Int) (hs : n.f2.size ≤ maxLen) (h5 : n.f5.length ≤ maxLen) (h6 : n.f6.length ≤ maxLen) (h7 : n.f7.length ≤ maxLen) (h0 : 0 ≤ a) (h1 : a ≤ 1048576) :
    ∃ r, laws_szNode.f n.f0 n.f1 n.f2 n.f3 n.f4 n.f5 n.f6 n.f7 a = some r ∧ trSz a r (n.f2.size ≤ 1048576 ∧ n.f5.length ≤ 1048576 ∧ n.f6.length ≤ 1048576 ∧ n.f7.length ≤ 1048576) := by
  have hm : maxLen = 9223372036854775807 := rfl
  unfold laws_szNode.f
  rw [pb_wrap (by omega) (by omega)]
  by_cases h : a - (n.f2.size : Int) < 0
  · rw [if_pos h]; exact ⟨_, rfl, .inl (by omega)⟩
  · rw [if_neg h]
    obtain ⟨r, hr, hz⟩ := trSz_bind (t_szInts n.f5 (a - (n.f2.size : Int)) h5 (by omega) (by omega)) (fun r h0' h1' _ => trSz_bind (t_szInts n.f6 r h6 h0' (by omega)) (fun r h0'' h1'' _ => trSz_bind (t_szInts n.f7 r h7 h0'' (by omega)) (fun r h0' _ _ => trSz_done h0')))
    refine ⟨r, hr, ?_⟩
    rcases hz with hz | ⟨z0, z1, z5, z6, z7, _⟩
    · exact .inl hz
    · exact .inr ⟨z0, by omega, by omega, z5, z6, z7⟩

theorem t_okN {n : S160} (h : ok160 n) : n.f2.size ≤ maxLen ∧ n.f5.length ≤ maxLen ∧ n.f6.length ≤ maxLen ∧ n.f7.length ≤ maxLen := by
  unfold ok160 at h
  obtain ⟨_, _, h2, _, _, h5, _, h6, _, h7, _⟩ := h
  exact ⟨h2, h5, h6, h7⟩

def trN (n : S160) : Prop := n.f2.size ≤ 1048576 ∧ n.f5.length ≤ 1048576 ∧ n.f6.length ≤ 1048576 ∧ n.f7.length ≤ 1048576

theorem l_szNodeS (l : List S160) (hl : l.length ≤ 1048576) (ho : ∀ x ∈ l, ok160 x) (d : Nat) : ∀ (k i : Nat) (a : Int), i + d = l.length → d < k → 0 ≤ a → a ≤ 1048576 →
    ∃ r, laws_szNodeS.l0 k l a (i : Int) = some r ∧ trSz a r (∀ x ∈ l.drop i, trN x) := by
  induction d with
  | zero =>
    intro k i a hi hk h0 h1
    obtain ⟨k, rfl⟩ : ∃ m, k = m + 1 := ⟨k - 1, by omega⟩
    simp only [laws_szNodeS.l0]; rw [if_neg (by omega)]
    exact ⟨a, rfl, .inr ⟨h0, Int.le_refl _, by rw [List.drop_of_length_le (by omega)]; intro x hx; cases hx⟩⟩
  | succ d ih =>
    intro k i a hi hk h0 h1
    obtain ⟨k, rfl⟩ : ∃ m, k = m + 1 := ⟨k - 1, by omega⟩
    have hlt : i < l.length := by omega
    simp only [laws_szNodeS.l0]; rw [if_pos (by omega), if_pos (by omega), pb_wrap (by omega) (by omega), t_rdN l i hlt]
    obtain ⟨o2, o5, o6, o7⟩ := t_okN (ho _ (List.getElem_mem hlt))
    obtain ⟨r, hr, hz⟩ := trSz_bind (t_szNode l[i] a o2 o5 o6 o7 h0 h1) (fun r h0' h1' _ => ih k (i + 1) r (by omega) (by omega) h0' (by omega))
    refine ⟨r, hr, ?_⟩
    rcases hz with hz | ⟨z0, z1, zp, zq⟩
    · exact .inl hz
    · exact .inr ⟨z0, z1, by rw [List.drop_eq_getElem_cons hlt]; intro x hx; rcases List.mem_cons.1 hx with rfl | hx; exact zp; exact zq x hx⟩

theorem t_szNodeS (k : Nat) (hk : 1048576 < k) (l : List S160) (hl : l.length ≤ maxLen) (ho : ∀ x ∈ l, ok160 x) (a : Int) (h0 : 0 ≤ a) (h1 : a ≤ 1048576) : ∃ r, laws_szNodeS.f k l a = some r ∧ trSz a r (l.length ≤ 1048576 ∧ ∀ x ∈ l, trN x) := by
  have hm : maxLen = 9223372036854775807 := rfl
  unfold laws_szNodeS.f
  rw [pb_wrap (by omega) (by omega)]
  by_cases h : a - (l.length : Int) < 0
  · rw [if_pos h]; exact ⟨_, rfl, .inl (by omega)⟩
  · rw [if_neg h]
    obtain ⟨r, hr, hz⟩ := l_szNodeS l (by omega) ho l.length k 0 (a - (l.length : Int)) (by omega) (by omega) (by omega) (by omega)
    refine ⟨r, hr, ?_⟩
    rcases hz with hz | ⟨z0, z1, zp⟩
    · exact .inl hz
    · exact .inr ⟨z0, by omega, by omega, by simpa using zp⟩

theorem t_szTree (k : Nat) (hk : 1048576 < k) (V : List S158) (N : List S160) (B : List Int) (hV : V.length ≤ maxLen) (oV : ∀ x ∈ V, ok158 x) (hN : N.length ≤ maxLen) (oN : ∀ x ∈ N, ok160 x) (hB : B.length ≤ maxLen) (a : Int) (h0 : 0 ≤ a) (h1 : a ≤ 1048576) :
    ∃ r, laws_szTree.f k V N B a = some r ∧ trSz a r ((V.length ≤ 1048576 ∧ ∀ x ∈ V, x.f0.size ≤ 1048576) ∧ (N.length ≤ 1048576 ∧ ∀ x ∈ N, trN x) ∧ B.length ≤ 1048576 ∧ True) := by
  unfold laws_szTree.f
  exact trSz_bind (t_szVarS k hk V hV oV a h0 h1) (fun r h0' h1' _ => trSz_bind (t_szNodeS k hk N hN oN r h0' (by omega)) (fun r h0'' h1'' _ => trSz_bind (t_szInts B r hB h0'' (by omega)) (fun r h0' _ _ => trSz_done h0')))

def cvV (x : S158) : S125 := ⟨x.f0, x.f1, x.f2, x.f3⟩

def cvN (x : S160) : S134 := ⟨x.f0, x.f1, x.f2, x.f3, x.f4, x.f5, x.f6, x.f7⟩

theorem pb_take_set' {α : Type} (xs ys : List α) (x : α) (i : Nat) (hx : i < xs.length) (e : xs[i] = x) (hy : i < ys.length) (h : ys.take i = xs.take i) : (ys.set i x).take (i + 1) = xs.take (i + 1) := by
  subst e; exact pb_take_set xs ys i hx hy h

theorem l_toVarS (xs : List S158) (hn : xs.length ≤ 1048576) (d : Nat) : ∀ (k i : Nat) (ys : List S125), i + d = xs.length → d < k → ys.length = xs.length → ys.take i = (xs.map cvV).take i →
    laws_toVarS.l0 k xs ys (i : Int) = some (xs.map cvV) := by
  induction d with
  | zero =>
    intro k i ys hi hk hl ht
    obtain ⟨k, rfl⟩ : ∃ m, k = m + 1 := ⟨k - 1, by omega⟩
    simp only [laws_toVarS.l0]; rw [if_neg (by omega)]
    rw [List.take_of_length_le (by omega), List.take_of_length_le (by simp; omega)] at ht; rw [ht]
  | succ d ih =>
    intro k i ys hi hk hl ht
    obtain ⟨k, rfl⟩ : ∃ m, k = m + 1 := ⟨k - 1, by omega⟩
    have hlt : i < xs.length := by omega
    simp only [laws_toVarS.l0, laws_toVar.f, Option.bind_some]; rw [if_pos (by omega), if_pos (by omega), if_pos (by omega), pb_wrap (by omega) (by omega), t_rdV xs i hlt]
    exact ih k (i + 1) _ (by omega) (by omega) (by simpa using hl) (pb_take_set' (xs.map cvV) ys _ i (by simpa using hlt) (by simp [cvV]) (by omega) ht)

theorem t_toVarS (k : Nat) (xs : List S158) (hn : xs.length ≤ 1048576) (hk : xs.length < k) : laws_toVarS.f k xs = some (xs.map cvV) := by
  unfold laws_toVarS.f
  rw [if_pos (by omega), if_pos (by omega)]
  exact l_toVarS xs hn xs.length k 0 _ (by omega) hk (by simp) (by simp)

theorem l_toNodeS (K : Nat) (hK : 1048576 < K) (xs : List S160) (hn : xs.length ≤ 1048576) (ho : ∀ x ∈ xs, trN x) (d : Nat) : ∀ (k i : Nat) (ys : List S134), 1048576 < k → i + d = xs.length → d < k - 1048576 → ys.length = xs.length → ys.take i = (xs.map cvN).take i →
    laws_toNodeS.l0 k xs ys (i : Int) = some (xs.map cvN) := by
  induction d with
  | zero =>
    intro k i ys hk1 hi hk hl ht
    obtain ⟨k, rfl⟩ : ∃ m, k = m + 1 := ⟨k - 1, by omega⟩
    simp only [laws_toNodeS.l0]; rw [if_neg (by omega)]
    rw [List.take_of_length_le (by omega), List.take_of_length_le (by simp; omega)] at ht; rw [ht]
  | succ d ih =>
    intro k i ys hk1 hi hk hl ht
    obtain ⟨k, rfl⟩ : ∃ m, k = m + 1 := ⟨k - 1, by omega⟩
    have hlt : i < xs.length := by omega
    obtain ⟨o2, o5, o6, o7⟩ := ho _ (List.getElem_mem hlt)
    have e : laws_toNode.f k xs[i].f0 xs[i].f1 xs[i].f2 xs[i].f3 xs[i].f4 xs[i].f5 xs[i].f6 xs[i].f7 = some (xs[i].f0, xs[i].f1, xs[i].f2, xs[i].f3, xs[i].f4, xs[i].f5, xs[i].f6, xs[i].f7) := by
      unfold laws_toNode.f
      rw [c_laws_toInt64S _ xs[i].f5 (by omega) (by omega), c_laws_toInt64S _ xs[i].f6 (by omega) (by omega), c_laws_toInt64S _ xs[i].f7 (by omega) (by omega)]; rfl
    simp only [laws_toNodeS.l0]; rw [if_pos (by omega), if_pos (by omega), t_rdN xs i hlt, e]
    simp only [Option.bind_some]
    rw [if_pos (by omega), pb_wrap (by omega) (by omega)]
    exact ih k (i + 1) _ (by omega) (by omega) (by omega) (by simpa using hl) (pb_take_set' (xs.map cvN) ys _ i (by simpa using hlt) (by simp [cvN]) (by omega) ht)

theorem t_toNodeS (k : Nat) (xs : List S160) (hn : xs.length ≤ 1048576) (ho : ∀ x ∈ xs, trN x) (hk : 2097153 < k) : laws_toNodeS.f k xs = some (xs.map cvN) := by
  unfold laws_toNodeS.f
  rw [if_pos (by omega), if_pos (by omega)]
  exact l_toNodeS 1048577 (by omega) xs hn ho xs.length k 0 _ (by omega) (by omega) (by omega) (by simp) (by simp)

theorem t_toTree (k : Nat) (hk : 2097153 < k) (V : List S158) (N : List S160) (B : List Int) (hV : V.length ≤ 1048576) (hN : N.length ≤ 1048576) (oN : ∀ x ∈ N, trN x) (hB : B.length ≤ 1048576) : laws_toTree.f k V N B = some (V.map cvV, N.map cvN, B) := by
  unfold laws_toTree.f
  rw [t_toVarS k V hV (by omega), t_toNodeS k N hN oN hk, c_laws_toInt64S k B (by omega) (by omega)]; rfl

theorem l_eqVarS (xs : List S125) (hn : xs.length ≤ 1048576) (d : Nat) : ∀ (k i : Nat), i + d = xs.length → d < k → laws_eqVarS.l0 k xs xs (i : Int) = some true := by
  induction d with
  | zero =>
    intro k i hi hk
    obtain ⟨k, rfl⟩ : ∃ m, k = m + 1 := ⟨k - 1, by omega⟩
    simp only [laws_eqVarS.l0]; rw [if_neg (by omega)]
  | succ d ih =>
    intro k i hi hk
    obtain ⟨k, rfl⟩ : ∃ m, k = m + 1 := ⟨k - 1, by omega⟩
    simp only [laws_eqVarS.l0, laws_eqVar.f, if_true, Option.bind_some]; rw [if_pos (by omega), if_pos (by omega), if_pos (by omega), pb_wrap (by omega) (by omega)]
    exact ih k (i + 1) (by omega) (by omega)

theorem t_eqVarS (k : Nat) (xs : List S125) (hn : xs.length ≤ 1048576) (hk : xs.length < k) : laws_eqVarS.f k xs xs = some true := by
  unfold laws_eqVarS.f
  rw [if_pos rfl]
  exact l_eqVarS xs hn xs.length k 0 (by omega) hk

theorem t_eqInts (k : Nat) (xs : List Int) (hn : xs.length ≤ 1048576) (hk : xs.length < k) : laws_eqInt64S.f k xs xs = some true := by
  rw [c_laws_eqInt64S k xs xs (by omega) hk]; simp

def trn (n : S134) : Prop := n.f2.size ≤ 1048576 ∧ n.f5.length ≤ 1048576 ∧ n.f6.length ≤ 1048576 ∧ n.f7.length ≤ 1048576

theorem l_eqNodeS (xs : List S134) (hn : xs.length ≤ 1048576) (ho : ∀ x ∈ xs, trn x) (d : Nat) : ∀ (k i : Nat), i + d = xs.length → d < k - 1048576 → laws_eqNodeS.l0 k xs xs (i : Int) = some true := by
  induction d with
  | zero =>
    intro k i hi hk
    obtain ⟨k, rfl⟩ : ∃ m, k = m + 1 := ⟨k - 1, by omega⟩
    simp only [laws_eqNodeS.l0]; rw [if_neg (by omega)]
  | succ d ih =>
    intro k i hi hk
    obtain ⟨k, rfl⟩ : ∃ m, k = m + 1 := ⟨k - 1, by omega⟩
    have hlt : i < xs.length := by omega
    obtain ⟨o2, o5, o6, o7⟩ := ho _ (List.getElem_mem hlt)
    have e : laws_eqNode.f k xs[i].f0 xs[i].f1 xs[i].f2 xs[i].f3 xs[i].f4 xs[i].f5 xs[i].f6 xs[i].f7 xs[i].f0 xs[i].f1 xs[i].f2 xs[i].f3 xs[i].f4 xs[i].f5 xs[i].f6 xs[i].f7 = some true := by
      unfold laws_eqNode.f
      rw [t_eqInts k _ o5 (by omega), t_eqInts k _ o6 (by omega), t_eqInts k _ o7 (by omega)]; simp
    simp only [laws_eqNodeS.l0]; rw [if_pos (by omega), if_pos (by omega), if_pos (by omega), t_rdn xs i hlt, e]
    simp only [Option.bind_some, if_true]
    rw [pb_wrap (by omega) (by omega)]
    exact ih k (i + 1) (by omega) (by omega)

theorem t_eqNodeS (k : Nat) (xs : List S134) (hn : xs.length ≤ 1048576) (ho : ∀ x ∈ xs, trn x) (hk : 2097153 < k) : laws_eqNodeS.f k xs xs = some true := by
  unfold laws_eqNodeS.f
  rw [if_pos rfl]
  exact l_eqNodeS xs hn ho xs.length k 0 (by omega) (by omega)

theorem t_eqTree (k : Nat) (hk : 2097153 < k) (V : List S125) (N : List S134) (B : List Int) (hV : V.length ≤ 1048576) (hN : N.length ≤ 1048576) (oN : ∀ x ∈ N, trn x) (hB : B.length ≤ 1048576) : laws_eqTree.f k V N B V N B = some true := by
  unfold laws_eqTree.f
  rw [t_eqVarS k V hV (by omega), t_eqNodeS k N hN oN hk, t_eqInts k B hB (by omega)]; simp

/-- A tree as the law takes it in: too large, or small, copied whole, and equal to itself. -/
theorem t_tree (k : Nat) (hk : 2097153 < k) (V : List S158) (N : List S160) (B : List Int) (hV : V.length ≤ maxLen) (oV : ∀ x ∈ V, ok158 x) (hN : N.length ≤ maxLen) (oN : ∀ x ∈ N, ok160 x) (hB : B.length ≤ maxLen) :
    ∃ r, laws_szTree.f k V N B 1048576 = some r ∧ (r < 0 ∨ (0 ≤ r ∧ r ≤ 1048576 ∧ smallB (V.map cvV) (N.map cvN) B = true ∧ laws_toTree.f k V N B = some (V.map cvV, N.map cvN, B) ∧ laws_eqTree.f k (V.map cvV) (N.map cvN) B (V.map cvV) (N.map cvN) B = some true)) := by
  obtain ⟨r, hr, h⟩ := t_szTree k (by omega) V N B hV oV hN oN hB 1048576 (by omega) (by omega)
  refine ⟨r, hr, ?_⟩
  rcases h with h | ⟨h0, h1, ⟨v0, v1⟩, ⟨n0, n1⟩, b0, _⟩
  · exact .inl h
  have hn1 : ∀ x ∈ N.map cvN, trn x := by
    intro x hx
    obtain ⟨y, hy, rfl⟩ := List.mem_map.1 hx
    exact n1 y hy
  refine .inr ⟨h0, h1, smallB_mk ⟨by simpa using v0, by simpa using n0, b0, ?_, fun x hx => (hn1 x hx).1, fun x hx => (hn1 x hx).2⟩, t_toTree k hk V N B v0 n0 n1 b0, t_eqTree k hk _ _ B (by simpa using v0) (by simpa using n0) hn1 b0⟩
  intro x hx
  obtain ⟨y, hy, rfl⟩ := List.mem_map.1 hx
  exact v1 y hy

theorem FnExactCellOf : laws_FnExactCellOf.Pure := by
  intro V N B a hV oV hN oN hB oB ha
  refine ⟨2097154, ?_⟩
  unfold laws_FnExactCellOf.f
  by_cases hl : (a.size : Int) > 1048576
  · rw [if_pos hl]
  rw [if_neg hl]
  obtain ⟨r, hr, h⟩ := t_tree 2097154 (by omega) V N B hV oV hN oN hB
  rw [hr, Option.bind_some]
  by_cases hn : r < 0
  · rw [if_pos hn]
  rcases h with h | ⟨h0, h1, hs, ht, he⟩
  · exact absurd h hn
  rw [if_neg hn, ht]
  simp only [Option.bind_some]
  unfold spec_CellOf.f impl_CellOf.f celoF
  rw [if_pos hs]
  split
  · split <;> simp [c_laws_eqIntResult, he]
  · simp [c_laws_eqIntResult, he]

end Go.Proofs.Ytlokckgkbhmkmaa.Pure
