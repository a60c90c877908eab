/- Proved: for all arguments the law FnExactCellOf of the given program returns true and leaves its arguments as they were. Conditions: none but those that the given row itself states. -/
import Derived.Test.YtlokckgkbhmkmaaRows
import Derived.Test.YtlokckgkbhmkmaaXFnExactCellOfx10
import Derived.Test.YtlokckgkbhmkmaaPureFnExactCellOf
import Derived.WalkKit
import Derived.ProofKit
import Derived.OpenShut
import Derived.ShutString
import Derived.ChangeOld
import Derived.Below
import Derived.SizedLaws
import Derived.ChangeSame
import Derived.Deep.Slices
import Derived.Deep.Fields
import Derived.Lib.SmallJoins
import Derived.Test.YtlokckgkbhmkmaaWSized
namespace Go.Proofs.Ytlokckgkbhmkmaa.fnExactCellOf
open Go.ChangeShapes Go.WideShapes Go.ChangeAt Go.RowKit Go.Joins Go.Deep
open Go.ChangeMaps (open_string shut_string)
open Go.Proofs.Ytlokckgkbhmkmaa.XFnExactCellOf Go.Proofs.YtlokckgkbhmkmaaW.PrintWords
set_option linter.unusedVariables false
set_option linter.unusedSimpArgs false
theorem own : ownKnob Try.prog.godebug = none := by kernel_rfl
theorem laidOut : laidOutB Try.prog = true := by kernel_rfl
def IsRow (k : IntKind) (w : World) (a : Option Addr) (len cap : Nat) (zs : List Int) : Prop :=
  (a = none ∧ len = 0 ∧ cap = 0 ∧ zs = []) ∨
  ∃ x, a = some x ∧ len ≤ cap ∧ cap ≤ maxLen ∧ zs.length = cap ∧ (∀ i, i < zs.length → w.cell? (x.add i) = some (.int k (zs.getD i 0))) ∧ ∀ n ∈ zs, (Lit.int k n).wf = true
theorem open_agg3 {H : Type} {enc : TypeId × Value → H} {P : Program} {w : World} {base : Nat} {spare : Nat → Bool} {held : Bool} {r : Reach} {b0 : Nat} {t : TypeId} {f0 f1 f2 : Field} {v : Value} {d : DataW H} {p : List MemPlace} (hs : P.underlying t = some (.struct #[f0, f1, f2])) (hone : oneCellFields P #[f0, f1, f2] = true) (hC : P.cellsOf t = 3)
    (hv : Value.okWide P w r b0 t v) (h : DataW.Trod enc P w base spare held t v d p) :
    ∃ (v0 v1 v2 : Value) (y0 y1 y2 : DataW H × List MemPlace) (n : Nat), v = .agg #[v0, v1, v2] ∧ DataW.trod enc P w base spare held n f0.type [v0] = some y0 ∧ DataW.trod enc P w base spare held n f1.type [v1] = some y1 ∧ DataW.trod enc P w base spare held n f2.type [v2] = some y2 := by
  obtain ⟨cs, rfl, hsz⟩ := okWide_struct hs hv
  obtain ⟨l⟩ := cs
  match l, hsz.trans hC with
  | [c0, c1, c2], _ =>
    obtain ⟨fuel, hf⟩ := h
    obtain ⟨xs, n, _, hx, _, hlen, hg⟩ := DataW.trod_struct hs hf
    obtain ⟨o0, k0⟩ := hone_of hone 0 f0 rfl
    obtain ⟨o1, k1⟩ := hone_of hone 1 f1 rfl
    obtain ⟨o2, k2⟩ := hone_of hone 2 f2 rfl
    match xs, hlen with
    | [y0, y1, y2], _ =>
      exact ⟨c0, c1, c2, y0, y1, y2, n, rfl, by simpa [Value.cells, o0, k0] using hg 0 f0 rfl, by simpa [Value.cells, o1, k1] using hg 1 f1 rfl, by simpa [Value.cells, o2, k2] using hg 2 f2 rfl⟩
section
variable {H : Type} {enc : TypeId × Value → H} {P : Program} {w : World} {base : Nat} {spare : Nat → Bool} {held : Bool}
theorem open_slice_fields {t e : TypeId} {fs : Array Field} {fuel : Nat} {cs : List Value} {x : DataW H × List MemPlace} (ht : P.underlying t = some (.slice e)) (he : P.underlying e = some (.struct fs))
    (hone : oneCellFields P fs = true) (hC : P.cellsOf e = fs.size) (h : DataW.trod enc P w base spare held fuel t cs = some x) :
    (cs = [.slice none 0 0] ∧ x = (.nil, [])) ∨
    ∃ (a : Addr) (len cap m : Nat) (D : Nat → DataW H) (Pl : Nat → List MemPlace), cs = [.slice (some a) len cap] ∧ base ≤ a.block ∧ len ≤ cap ∧ cap ≤ maxLen ∧ m = (if spare a.block then cap else len) ∧
      x = (.slice ((List.range len).map D) ((List.range (m - len)).map fun j => D (len + j)), MemPlace.row a (m * fs.size) ++ (List.range m).flatMap Pl) ∧
      ∀ i, i < m → ∃ (ys : List (DataW H × List MemPlace)) (n : Nat), D i = .agg (ys.map (·.1)) ∧ Pl i = ys.flatMap (·.2) ∧ ys.length = fs.size ∧
        ∀ (j : Nat) (f : Field), fs[j]? = some f → ∃ (v : Value) (y : DataW H × List MemPlace), w.cell? (a.add (i * fs.size + j)) = some v ∧ ys[j]? = some y ∧ DataW.trod enc P w base spare held n f.type [v] = some y := by
  rcases open_slice ht h with h0 | ⟨a, len, cap, m, n, D, Pl, hcs, hb, hl, hm, hmm, hx, hi⟩
  · exact .inl h0
  · refine .inr ⟨a, len, cap, m, D, Pl, hcs, hb, hl, hm, hmm, by rw [hC] at hx; exact hx, fun i him => ?_⟩
    obtain ⟨cs', hc, ht'⟩ := hi i him
    rw [hC] at hc
    obtain ⟨ys, n', hn', hy, hlen, hyl, hf⟩ := DataW.trod_struct he ht'
    obtain ⟨_, hcl, hat⟩ := World.cells?_some hc
    simp only [Prod.mk.injEq] at hy
    refine ⟨ys, n', hy.1, hy.2, hyl, fun j f hj => ?_⟩
    obtain ⟨ho, hk⟩ := hone_of hone j f hj
    have hjl : j < fs.size := (Array.getElem?_eq_some_iff.1 hj).1
    have hcell := hat j hjl
    have hv : cs'[j]? = some (cs'[j]'(by omega)) := List.getElem?_eq_getElem (by omega)
    have h1 := hf j f hj
    rw [ho, hk] at h1
    have hone' : (cs'.drop j).take 1 = [cs'[j]'(by omega)] := by
      rw [List.drop_eq_getElem_cons (by omega)]
      rfl
    rw [hone'] at h1
    have hys : ys[j]? = some (ys[j]'(by omega)) := List.getElem?_eq_getElem (by omega)
    refine ⟨_, _, ?_, hys, h1.trans hys⟩
    rw [← Go.Deep.add_add, hcell, hv]
end
theorem open_rows158 {H : Type} {enc : TypeId × Value → H} {w : World} {base : Nat} {held : Bool} {t : TypeId} {fuel : Nat} {cs : List Value} {x : DataW H × List MemPlace} (hu : Try.prog.underlying t = some (.slice 158)) (h : DataW.trod enc Try.prog w base (fun _ => true) held fuel t cs = some x) :
    ∃ (A : Option Addr) (cap : Nat) (l : List S158), cs = [.slice A l.length cap] ∧ Kd.C k158 w A l.length l ∧ l.length ≤ cap ∧ l.length ≤ maxLen ∧ ∀ x ∈ l, ok158 x := by
  rcases open_slice_fields hu Try.underlying158 (by kernel_rfl) (by kernel_rfl) h with ⟨hcs, _⟩ | ⟨a, len, cap, m, D, Pl, hcs, _, hl, hm, hmm, _, hi⟩
  · exact ⟨none, 0, [], hcs, ⟨rfl, Nat.zero_le _, fun h => absurd h (Nat.lt_irrefl _)⟩, Nat.le_refl _, Nat.zero_le _, fun x hx => by cases hx⟩
  have hlm : len ≤ m := by rw [hmm]; split <;> omega
  have each : ∀ i, i < len → ∃ x : S158, ok158 x ∧ ∃ c : List Value, c.length = 4 ∧ k158.K w x c ∧ ∀ j u, c[j]? = some u → w.cell? (a.add (i * 4 + j)) = some u := by
    intro i hil
    obtain ⟨ys, nn, _, _, _, hf⟩ := hi i (by omega)
    obtain ⟨v0, y0, hc0, _, ht0⟩ := hf 0 _ rfl
    obtain ⟨a0, e0, _, w0⟩ := DataW.trod_string Try.underlying9 ht0
    obtain rfl : v0 = .string a0 := by simpa using e0
    obtain ⟨v1, y1, hc1, _, ht1⟩ := hf 1 _ rfl
    obtain ⟨a1, e1, _, w1⟩ := DataW.trod_int Try.underlying2 ht1
    obtain rfl : v1 = .int .i64 a1 := by simpa using e1
    obtain ⟨v2, y2, hc2, _, ht2⟩ := hf 2 _ rfl
    obtain ⟨a2, e2, _, w2⟩ := DataW.trod_int Try.underlying2 ht2
    obtain rfl : v2 = .int .i64 a2 := by simpa using e2
    obtain ⟨v3, y3, hc3, _, ht3⟩ := hf 3 _ rfl
    obtain ⟨a3, e3, _, w3⟩ := DataW.trod_int Try.underlying2 ht3
    obtain rfl : v3 = .int .i64 a3 := by simpa using e3
    refine ⟨⟨a0, a1, a2, a3⟩, ⟨w0, w1, w2, w3⟩, _, rfl, k158_mk w ⟨a0, a1, a2, a3⟩ , fun j u hj => ?_⟩
    match j, hj with
    | 0, hj => exact (Option.some.inj hj) ▸ hc0
    | 1, hj => exact (Option.some.inj hj) ▸ hc1
    | 2, hj => exact (Option.some.inj hj) ▸ hc2
    | 3, hj => exact (Option.some.inj hj) ▸ hc3
  obtain ⟨F, hF⟩ : ∃ F : Nat → S158, ∀ i, i < len → ok158 (F i) ∧ ∃ c : List Value, c.length = 4 ∧ k158.K w (F i) c ∧ ∀ j u, c[j]? = some u → w.cell? (a.add (i * 4 + j)) = some u :=
    ⟨fun i => open Classical in if h : i < len then (each i h).choose else z158, fun i hil => by simp only [dif_pos hil]; exact (each i hil).choose_spec⟩
  refine ⟨some a, cap, (List.range len).map F, by simpa using hcs, ⟨by simp, by have : maxLen = 9223372036854775807 := rfl; simp; omega, fun _ => ⟨a, rfl, fun j p hj => ?_⟩⟩, by simpa using hl, by simp; omega, fun x hx => ?_⟩
  · obtain ⟨hj1, hj2⟩ := List.getElem?_eq_some_iff.1 hj
    rw [List.getElem_map, List.getElem_range] at hj2
    subst hj2
    exact (hF j (by simpa using hj1)).2
  · obtain ⟨i, hi1, rfl⟩ := List.mem_map.1 hx
    exact (hF i (List.mem_range.1 hi1)).1
theorem open_rows160 {H : Type} {enc : TypeId × Value → H} {w : World} {base : Nat} {held : Bool} {t : TypeId} {fuel : Nat} {cs : List Value} {x : DataW H × List MemPlace} (hu : Try.prog.underlying t = some (.slice 160)) (h : DataW.trod enc Try.prog w base (fun _ => true) held fuel t cs = some x) :
    ∃ (A : Option Addr) (cap : Nat) (l : List S160), cs = [.slice A l.length cap] ∧ Kd.C k160 w A l.length l ∧ l.length ≤ cap ∧ l.length ≤ maxLen ∧ ∀ x ∈ l, ok160 x := by
  rcases open_slice_fields hu Try.underlying160 (by kernel_rfl) (by kernel_rfl) h with ⟨hcs, _⟩ | ⟨a, len, cap, m, D, Pl, hcs, _, hl, hm, hmm, _, hi⟩
  · exact ⟨none, 0, [], hcs, ⟨rfl, Nat.zero_le _, fun h => absurd h (Nat.lt_irrefl _)⟩, Nat.le_refl _, Nat.zero_le _, fun x hx => by cases hx⟩
  have hlm : len ≤ m := by rw [hmm]; split <;> omega
  have each : ∀ i, i < len → ∃ x : S160, ok160 x ∧ ∃ c : List Value, c.length = 8 ∧ k160.K w x c ∧ ∀ j u, c[j]? = some u → w.cell? (a.add (i * 8 + j)) = some u := by
    intro i hil
    obtain ⟨ys, nn, _, _, _, hf⟩ := hi i (by omega)
    obtain ⟨v0, y0, hc0, _, ht0⟩ := hf 0 _ rfl
    obtain ⟨a0, e0, _, w0⟩ := DataW.trod_int Try.underlying2 ht0
    obtain rfl : v0 = .int .i64 a0 := by simpa using e0
    obtain ⟨v1, y1, hc1, _, ht1⟩ := hf 1 _ rfl
    obtain ⟨a1, e1, _, w1⟩ := DataW.trod_int Try.underlying2 ht1
    obtain rfl : v1 = .int .i64 a1 := by simpa using e1
    obtain ⟨v2, y2, hc2, _, ht2⟩ := hf 2 _ rfl
    obtain ⟨a2, e2, _, w2⟩ := DataW.trod_string Try.underlying9 ht2
    obtain rfl : v2 = .string a2 := by simpa using e2
    obtain ⟨v3, y3, hc3, _, ht3⟩ := hf 3 _ rfl
    obtain ⟨a3, e3, _, w3⟩ := DataW.trod_int Try.underlying2 ht3
    obtain rfl : v3 = .int .i64 a3 := by simpa using e3
    obtain ⟨v4, y4, hc4, _, ht4⟩ := hf 4 _ rfl
    obtain ⟨a4, e4, _, w4⟩ := DataW.trod_int Try.underlying2 ht4
    obtain rfl : v4 = .int .i64 a4 := by simpa using e4
    obtain ⟨v5, y5, hc5, _, ht5⟩ := hf 5 _ rfl
    obtain ⟨A5, n5, c5, z5, e5, w5⟩ : ∃ a len cap zs, v5 = .slice a len cap ∧ IsRow .i64 w a len cap zs := by
      rcases open_ints Try.underlying24 Try.underlying2 (by kernel_rfl) ht5 with ⟨hcs, _⟩ | ⟨x, l, cc, zs, hcs, _, hl, hm, hz, _, hcell, hwz⟩
      · exact ⟨none, 0, 0, [], by simpa using hcs, .inl ⟨rfl, rfl, rfl, rfl⟩⟩
      · exact ⟨some x, l, cc, zs, by simpa using hcs, .inr ⟨_, rfl, hl, hm, by simpa using hz, hcell, hwz⟩⟩
    subst e5
    obtain ⟨a5, rfl, hr5, hm5, hw5, hk5⟩ := ReadsInt.ofRowC w5
    obtain ⟨v6, y6, hc6, _, ht6⟩ := hf 6 _ rfl
    obtain ⟨A6, n6, c6, z6, e6, w6⟩ : ∃ a len cap zs, v6 = .slice a len cap ∧ IsRow .i64 w a len cap zs := by
      rcases open_ints Try.underlying24 Try.underlying2 (by kernel_rfl) ht6 with ⟨hcs, _⟩ | ⟨x, l, cc, zs, hcs, _, hl, hm, hz, _, hcell, hwz⟩
      · exact ⟨none, 0, 0, [], by simpa using hcs, .inl ⟨rfl, rfl, rfl, rfl⟩⟩
      · exact ⟨some x, l, cc, zs, by simpa using hcs, .inr ⟨_, rfl, hl, hm, by simpa using hz, hcell, hwz⟩⟩
    subst e6
    obtain ⟨a6, rfl, hr6, hm6, hw6, hk6⟩ := ReadsInt.ofRowC w6
    obtain ⟨v7, y7, hc7, _, ht7⟩ := hf 7 _ rfl
    obtain ⟨A7, n7, c7, z7, e7, w7⟩ : ∃ a len cap zs, v7 = .slice a len cap ∧ IsRow .i64 w a len cap zs := by
      rcases open_ints Try.underlying24 Try.underlying2 (by kernel_rfl) ht7 with ⟨hcs, _⟩ | ⟨x, l, cc, zs, hcs, _, hl, hm, hz, _, hcell, hwz⟩
      · exact ⟨none, 0, 0, [], by simpa using hcs, .inl ⟨rfl, rfl, rfl, rfl⟩⟩
      · exact ⟨some x, l, cc, zs, by simpa using hcs, .inr ⟨_, rfl, hl, hm, by simpa using hz, hcell, hwz⟩⟩
    subst e7
    obtain ⟨a7, rfl, hr7, hm7, hw7, hk7⟩ := ReadsInt.ofRowC w7
    refine ⟨⟨a0, a1, a2, a3, a4, a5, a6, a7⟩, ⟨w0, w1, w2, w3, w4, hm5, hw5, hm6, hw6, hm7, hw7⟩, _, rfl, k160_mk w ⟨a0, a1, a2, a3, a4, a5, a6, a7⟩ hk5 (Kd.C_of_reads (d := (0 : Int)) (h1 := fun _ => rfl) hr5) hk6 (Kd.C_of_reads (d := (0 : Int)) (h1 := fun _ => rfl) hr6) hk7 (Kd.C_of_reads (d := (0 : Int)) (h1 := fun _ => rfl) hr7), fun j u hj => ?_⟩
    match j, hj with
    | 0, hj => exact (Option.some.inj hj) ▸ hc0
    | 1, hj => exact (Option.some.inj hj) ▸ hc1
    | 2, hj => exact (Option.some.inj hj) ▸ hc2
    | 3, hj => exact (Option.some.inj hj) ▸ hc3
    | 4, hj => exact (Option.some.inj hj) ▸ hc4
    | 5, hj => exact (Option.some.inj hj) ▸ hc5
    | 6, hj => exact (Option.some.inj hj) ▸ hc6
    | 7, hj => exact (Option.some.inj hj) ▸ hc7
  obtain ⟨F, hF⟩ : ∃ F : Nat → S160, ∀ i, i < len → ok160 (F i) ∧ ∃ c : List Value, c.length = 8 ∧ k160.K w (F i) c ∧ ∀ j u, c[j]? = some u → w.cell? (a.add (i * 8 + j)) = some u :=
    ⟨fun i => open Classical in if h : i < len then (each i h).choose else z160, fun i hil => by simp only [dif_pos hil]; exact (each i hil).choose_spec⟩
  refine ⟨some a, cap, (List.range len).map F, by simpa using hcs, ⟨by simp, by have : maxLen = 9223372036854775807 := rfl; simp; omega, fun _ => ⟨a, rfl, fun j p hj => ?_⟩⟩, by simpa using hl, by simp; omega, fun x hx => ?_⟩
  · obtain ⟨hj1, hj2⟩ := List.getElem?_eq_some_iff.1 hj
    rw [List.getElem_map, List.getElem_range] at hj2
    subst hj2
    exact (hF j (by simpa using hj1)).2
  · obtain ⟨i, hi1, rfl⟩ := List.mem_map.1 hx
    exact (hF i (List.mem_range.1 hi1)).1
set_option maxRecDepth 100000 in
theorem lifted (os : Os) (started : os.Started) (H : Type) (enc : TypeId × Value → H) :
    ReturnsInHanded {} Try.checked os 9 .any (Rows.fnExactCellOfSpec.pre6 enc Try.prog Try.f9 Rows.fnExactCellOfRow.domain false) (Rows.fnExactCellOfSpec.post enc Try.prog Try.f9 false true false false) := by
  refine returnsInHanded_of_change_sized (C := Try.checked) own started (by kernel_rfl) Try.func9
    (ChangeSpec.witness6 (enc := enc) (C := Try.checked) false ⟨#[], #[.agg #[.slice none 0 0, .slice none 0 0, .slice none 0 0], .string ⟨#[]⟩], []⟩ 8 (by kernel_rfl) (by kernel_rfl) (by kernel_rfl) (by kernel_rfl)) ?_
  intro W base args ds gs before hval0 hW hcnd hsz0 _
  have hsz : (DataW.weightsEach Try.prog (Try.f9.params.toList ++ Rows.fnExactCellOfSpec.plain.varTypes Try.prog) (ds ++ gs)).all (· ≤ reachBytes) = true := hsz0
  have hval : ∀ (j : Nat) t v, Try.f9.params[j]? = some t → args[j]? = some v → Value.okWide Try.prog W .any base t v := hval0
  have hW' := hW
  obtain ⟨p, q, hA0, hV, rfl, hfz, hnd⟩ := hW
  have hA : DataW.TrodAll enc Try.prog W 0 (fun _ => true) true Try.f9.params.toList args.toList ds p := hA0
  rw [Try.params9] at hA hval hsz
  obtain ⟨v0, vs0, d0, ds0, p0, q0, hargs0, rfl, rfl, h0, r0⟩ := trodAll_cons hA
  obtain ⟨v1, vs1, d1, ds1, p1, q1, hargs1, rfl, rfl, h1, r1⟩ := trodAll_cons r0
  obtain ⟨rfl, rfl, rfl⟩ := trodAll_nil r1
  obtain rfl : args = #[v0, v1] := by cases args; simp_all
  obtain ⟨rfl, rfl⟩ := trodVars_none hV
  have k0 := h0
  have lt0 : ∀ x ∈ p0, x.block < W.heap.size := by obtain ⟨m, hm⟩ := k0; exact DataW.trod_lt m _ _ _ hm
  obtain ⟨c0_0, c0_1, c0_2, y0_0, y0_1, y0_2, n0, rfl, g0_0, g0_1, g0_2⟩ := open_agg3 Try.underlying60 (by kernel_rfl) (by kernel_rfl) (hval 0 60 v0 rfl rfl) h0
  obtain ⟨A0_0, cap0_0, l0_0, e0_0, hr0_0, hc0_0, hm0_0, hw0_0⟩ := open_rows158 Try.underlying57 g0_0
  obtain rfl : c0_0 = .slice A0_0 l0_0.length cap0_0 := by simpa using e0_0
  obtain ⟨A0_1, cap0_1, l0_1, e0_1, hr0_1, hc0_1, hm0_1, hw0_1⟩ := open_rows160 Try.underlying58 g0_1
  obtain rfl : c0_1 = .slice A0_1 l0_1.length cap0_1 := by simpa using e0_1
  obtain ⟨A0_2, len0_2, cap0_2, z0_2, e0_2, w0_2⟩ : ∃ a len cap zs, c0_2 = .slice a len cap ∧ IsRow .i64 W a len cap zs := by
    rcases open_ints Try.underlying24 Try.underlying2 (by kernel_rfl) g0_2 with ⟨hcs, _⟩ | ⟨x, l, cc, zs, hcs, _, hl, hm, hz, _, hcell, hwz⟩
    · exact ⟨none, 0, 0, [], by simpa using hcs, .inl ⟨rfl, rfl, rfl, rfl⟩⟩
    · exact ⟨some x, l, cc, zs, by simpa using hcs, .inr ⟨_, rfl, hl, hm, by simpa using hz, hcell, hwz⟩⟩
  subst e0_2
  obtain ⟨l0_2, rfl, hr0_2, hm0_2, hw0_2, hc0_2⟩ := ReadsInt.ofRowC w0_2
  have k1 := h1
  have lt1 : ∀ x ∈ p1, x.block < W.heap.size := by obtain ⟨m, hm⟩ := k1; exact DataW.trod_lt m _ _ _ hm
  obtain ⟨a1, rfl, rfl, rfl, sz1⟩ := open_string Try.underlying9 (hval 1 9 v1 rfl rfl) h1
  clear hA0 hval0 hsz0 hsz
  obtain ⟨k, h⟩ := Pure.FnExactCellOf l0_0 l0_1 l0_2 a1 hm0_0 hw0_0 hm0_1 hw0_1 hm0_2 hw0_2 sz1
  refine (XFnExactCellOf.laws_FnExactCellOf.calls k _ _ _ _ _ _ _ _ _ _ true W hr0_0 hc0_0 hr0_1 hc0_1 (Kd.C_of_reads (d := (0 : Int)) (h1 := fun _ => rfl) hr0_2) hc0_2 h ⟨rfl⟩).mono fun e W' ⟨he, bel⟩ => ?_
  subst he
  exact ⟨_, rfl, _, _, _, [], _, [], hW', trodAll_mk1 (shut_bool Try.underlying4 _), (trodAll_cons_mk (Below.trod laidOut (by kernel_rfl) (of_decide_eq_true (by kernel_rfl)) k0 bel lt0) (trodAll_cons_mk (Below.trod laidOut (by kernel_rfl) (of_decide_eq_true (by kernel_rfl)) k1 bel lt1) trodAll_mk0)), rfl, bel.frame _, fun h => by cases h⟩
theorem over : Rows.fnExactCellOfRow.holds Try.pinned (OpenSpec.ofChange Rows.fnExactCellOfSpec) :=
  OpenClaim.holds_of_wide 9 Try.f9 rfl rfl rfl rfl rfl rfl rfl ⟨rfl, rfl, rfl, rfl, rfl⟩ rfl rfl rfl rfl rfl (by kernel_rfl) Try.func9 (by kernel_rfl)
    (of_decide_eq_true (by kernel_rfl)) (by unfold Func.isWrapper; first | (rw [if_pos (by decide +kernel)]; kernel_rfl) | (rw [if_neg (by decide +kernel)]; exact ⟨rfl, rfl⟩))
    (fun os started H enc _ => lifted os started H enc)
theorem proved : Rows.FnExactCellOfSaid := over
#print axioms proved
end Go.Proofs.Ytlokckgkbhmkmaa.fnExactCellOf
namespace Go.Proofs.Ytlokckgkbhmkmaa
/-- The row, under a short name, for the claim. -/
theorem fnExactCellOf_holds : Rows.FnExactCellOfSaid := fnExactCellOf.proved
end Go.Proofs.Ytlokckgkbhmkmaa
