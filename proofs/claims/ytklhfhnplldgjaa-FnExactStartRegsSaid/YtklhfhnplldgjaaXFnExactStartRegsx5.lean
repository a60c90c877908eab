/- Machine side of the law FnExactStartRegs: for each Go function that it reaches, a Lean function with the same answers and the proof that the call comes to them. Conditions: what the arguments lead to reads as the lists that each contract is told of. Some functions are told by hand, the others by the kit's print.py under wip/ext.py. -/
import Derived.Test.YtklhfhnplldgjaaXFnExactStartRegsx0
import Derived.Test.YtklhfhnplldgjaaXFnExactStartRegsx1
import Derived.Test.YtklhfhnplldgjaaXFnExactStartRegsx2
import Derived.Test.YtklhfhnplldgjaaXFnExactStartRegsx3
import Derived.Test.YtklhfhnplldgjaaXFnExactStartRegsx4
namespace Go.Proofs.Ytklhfhnplldgjaa.XFnExactStartRegs
open Go.RowKit Go.Proofs.YtklhfhnplldgjaaW.PrintWords Go.Proofs.YtklhfhnplldgjaaW.PrintLast Go.Proofs.YtklhfhnplldgjaaW.PrintMore
attribute [local go_sem] max2_int min2_int max_two min_two max_three min_three max_four min_four   -- for this text's walks alone
set_option linter.unusedVariables false
set_option linter.unusedSimpArgs false

/-! ### spec_StartRegs: function 38 -/
def spec_StartRegs.f (l0 : List Int) : Option (Int × Int × List Int × List Int × Int × Int × Int × Bool) := (spec_l10Start.f l0).bind fun m => (spec_l10Fault.f m.1 m.2.1 m.2.2.1 m.2.2.2.1 m.2.2.2.2.1 m.2.2.2.2.2.1).bind fun c => some (if c = 0 then (0, m.1, m.2.1, m.2.2.1, m.2.2.2.1, m.2.2.2.2.1, m.2.2.2.2.2.1, m.2.2.2.2.2.2) else (c, 0, [], [], 0, 0, 0, false))
set_option maxHeartbeats 4000000 in
set_option maxRecDepth 100000 in
theorem spec_StartRegs.calls (A0 : Option Addr) (c0 : Nat) (l0 : List Int) (r1 : Int) (r2 : Int) (r3 : List Int) (r4 : List Int) (r5 : Int) (r6 : Int) (r7 : Int) (r8 : Bool) (w : World) (hr0 : Kd.C (Kd.int .i64) w A0 l0.length l0) (hc0 : l0.length ≤ c0) (h : spec_StartRegs.f l0 = some (r1, r2, r3, r4, r5, r6, r7, r8)) :
    Calls Try.prog 38 #[.slice A0 l0.length c0] w fun e w' => ∃ v2_ v3_ : Value, e = .returned (.agg #[.int .i64 r1, .int .i64 r2, v2_, v3_, .int .i64 r5, .int .i64 r6, .int .i64 r7, .bool r8]) ∧ Kd.R (Kd.int .i64) 2 w' w.heap.size (fun k_ => some k_ ≠ (v3_ : Value).ownBlock) v2_ r3 ∧ Kd.R (Kd.int .i64) 2 w' w.heap.size (fun k_ => some k_ ≠ (v2_ : Value).ownBlock) v3_ r4 ∧ Below w.heap.size w w' := by
  unfold spec_StartRegs.f at h
  replace h := Option.bind_eq_some_iff.mp h
  obtain ⟨⟨m1, m2, m3, m4, m5, m6, m7⟩, hs, h⟩ := h
  replace h := Option.bind_eq_some_iff.mp h
  obtain ⟨c, hc, h⟩ := h
  have hu53 := Try.underlying53
  have hu51 := Try.underlying51
  have HS := Aside0.mk hs
  have HC := Aside0.mk hc
  have HR0 := Aside0.mk hr0
  have HC0 := Aside0.mk hc0
  have HH := Option.some.inj h
  clear h hs hc hr0 hc0
  go_enter Try.func38, Try.ntmps38
  go_wp2_with (first
      | ((with_reducible refine gate_dst (N := 2) rfl ?_); refine box_event ?hg (N := 2) ?hd (cs := #[.int .i64 0, .int .i64 0, .slice none 0 0, .slice none 0 0, .int .i64 0, .int .i64 0, .int .i64 0, .bool false]) (t := 53) ?hr ?_; (case hd => rfl); (case hg => rfl); (case hr => first | (go_simp; done) | (go_simp; rfl)); intro g1 hg3 w2 hx4 hb5; have GE6 := Aside0.mk (show w.heap.size ≤ g1 by rw [hg3]; exact below_size (Below.refl w.heap.size w)); have HB7 := Aside0.mk (below_step (Below.refl w.heap.size w) hb5); have BK8 := Aside0.mk hx4; clear hg3 hx4 hb5))
  refine (spec_l10Start.calls A0 c0 l0 m1 m2 m3 m4 m5 m6 m7 _ (Kd.C_below HR0.out HB7.out) HC0.out HS.out).mono ?_
  rintro e wa ⟨va, vb, rfl, hoa, hob, hb⟩
  have HOa := Aside0.mk (Kd.R_lower hoa (below_size HB7.out))
  have HOb := Aside0.mk (Kd.R_lower hob (below_size HB7.out))
  have BK9 := Aside0.mk (blk_below BK8.out hb)
  have HB10 := Aside0.mk (below_step HB7.out hb)
  clear BK8 HB7
  clear hb hoa hob
  obtain ⟨Aa, ca, ea⟩ := Kd.R_slice HOa.out
  subst ea
  obtain ⟨Ab, cb, eb⟩ := Kd.R_slice HOb.out
  subst eb
  go_wp2_with (first
      | ((with_reducible refine gate_dst (N := 3) rfl ?_); refine box_event ?hg (N := 3) ?hd (cs := #[.int .i64 0, .slice none 0 0, .slice none 0 0, .int .i64 0, .int .i64 0, .int .i64 0, .bool false]) (t := 51) ?hr ?_; (case hd => rfl); (case hg => rfl); (case hr => first | (go_simp; done) | (go_simp; rfl)); intro g11 hg13 w12 hx14 hb15; have NE16 := Aside0.mk (show g1 ≠ g11 by rw [hg13]; exact Nat.ne_of_lt (blk_lt BK9.out)); have NE17 := Aside0.mk (Ne.symm NE16.out); have GE18 := Aside0.mk (show w.heap.size ≤ g11 by rw [hg13]; exact below_size HB10.out); have BK19 := Aside0.mk (blk_below BK9.out hb15); have HO20 := Aside0.mk (Kd.R_below HOa.out hb15); have HO21 := Aside0.mk (Kd.R_below HOb.out hb15); have HB22 := Aside0.mk (below_step HB10.out hb15); clear BK9 HOa HOb HB10; have BK23 := Aside0.mk hx14; clear hg13 hx14 hb15; have hcq24_0 : w12.cell? ⟨g11, 0, none⟩ = some (.int .i64 0) := (blk_cell BK23.out 0).trans rfl; have hcq24_1 : w12.cell? ⟨g11, 1, none⟩ = some (.slice none 0 0) := (blk_cell BK23.out 1).trans rfl; have hcq24_2 : w12.cell? ⟨g11, 2, none⟩ = some (.slice none 0 0) := (blk_cell BK23.out 2).trans rfl; have hcq24_3 : w12.cell? ⟨g11, 3, none⟩ = some (.int .i64 0) := (blk_cell BK23.out 3).trans rfl; have hcq24_4 : w12.cell? ⟨g11, 4, none⟩ = some (.int .i64 0) := (blk_cell BK23.out 4).trans rfl; have hcq24_5 : w12.cell? ⟨g11, 5, none⟩ = some (.int .i64 0) := (blk_cell BK23.out 5).trans rfl; have hcq24_6 : w12.cell? ⟨g11, 6, none⟩ = some (.bool false) := (blk_cell BK23.out 6).trans rfl; have hfq24_0 := blk_frozen BK23.out 0; have hfq24_1 := blk_frozen BK23.out 1; have hfq24_2 := blk_frozen BK23.out 2; have hfq24_3 := blk_frozen BK23.out 3; have hfq24_4 := blk_frozen BK23.out 4; have hfq24_5 := blk_frozen BK23.out 5; have hfq24_6 := blk_frozen BK23.out 6))
  generalize hW26 : World.setCell _ _ _ = w25
  have BK27 : Aside0 (w25.heap[g1]? = some (.cells #[.int .i64 0, .int .i64 0, .slice none 0 0, .slice none 0 0, .int .i64 0, .int .i64 0, .int .i64 0, .bool false] 53 (0, 0))) := ⟨by rw [← hW26]; refine blk_far ?_ NE16.out _; refine blk_far ?_ NE16.out _; refine blk_far ?_ NE16.out _; refine blk_far ?_ NE16.out _; refine blk_far ?_ NE16.out _; refine blk_far ?_ NE16.out _; refine blk_far ?_ NE16.out _; exact BK19.out⟩
  have BK28 : Aside0 (w25.heap[g11]? = some (.cells #[.int .i64 m1, .slice Aa m2.length ca, .slice Ab m3.length cb, .int .i64 m4, .int .i64 m5, .int .i64 m6, .bool m7] 51 (0, 0))) := ⟨by rw [← hW26]; refine blk_put (cs := #[.int .i64 m1, .slice Aa m2.length ca, .slice Ab m3.length cb, .int .i64 m4, .int .i64 m5, .int .i64 m6, .bool false]) ?_ 6 _ rfl; refine blk_put (cs := #[.int .i64 m1, .slice Aa m2.length ca, .slice Ab m3.length cb, .int .i64 m4, .int .i64 m5, .int .i64 0, .bool false]) ?_ 5 _ rfl; refine blk_put (cs := #[.int .i64 m1, .slice Aa m2.length ca, .slice Ab m3.length cb, .int .i64 m4, .int .i64 0, .int .i64 0, .bool false]) ?_ 4 _ rfl; refine blk_put (cs := #[.int .i64 m1, .slice Aa m2.length ca, .slice Ab m3.length cb, .int .i64 0, .int .i64 0, .int .i64 0, .bool false]) ?_ 3 _ rfl; refine blk_put (cs := #[.int .i64 m1, .slice Aa m2.length ca, .slice none 0 0, .int .i64 0, .int .i64 0, .int .i64 0, .bool false]) ?_ 2 _ rfl; refine blk_put (cs := #[.int .i64 m1, .slice none 0 0, .slice none 0 0, .int .i64 0, .int .i64 0, .int .i64 0, .bool false]) ?_ 1 _ rfl; refine blk_put (cs := #[.int .i64 0, .slice none 0 0, .slice none 0 0, .int .i64 0, .int .i64 0, .int .i64 0, .bool false]) ?_ 0 _ rfl; exact BK23.out⟩
  have HO29 : Aside0 (Kd.R (Kd.int .i64) 2 w25 w.heap.size (fun k_ => some k_ ≠ (.slice Ab m3.length cb : Value).ownBlock) (.slice Aa m2.length ca) (m2)) := ⟨by rw [← hW26]; exact Kd.R_mono (Kd.R_far (p := ⟨g11, 6, none⟩) (Kd.R_far (p := ⟨g11, 5, none⟩) (Kd.R_far (p := ⟨g11, 4, none⟩) (Kd.R_far (p := ⟨g11, 3, none⟩) (Kd.R_far (p := ⟨g11, 2, none⟩) (Kd.R_far (p := ⟨g11, 1, none⟩) (Kd.R_far (p := ⟨g11, 0, none⟩) (Kd.R_types HO20.out BK23.out (by decide)) (fun _ hk => hk.2) (.int .i64 m1)) (fun _ hk => hk.2) (.slice Aa m2.length ca)) (fun _ hk => hk.2) (.slice Ab m3.length cb)) (fun _ hk => hk.2) (.int .i64 m4)) (fun _ hk => hk.2) (.int .i64 m5)) (fun _ hk => hk.2) (.int .i64 m6)) (fun _ hk => hk.2) (.bool m7)) (fun _ hk => hk.1)⟩
  have HO30 : Aside0 (Kd.R (Kd.int .i64) 2 w25 w.heap.size (fun k_ => some k_ ≠ (.slice Aa m2.length ca : Value).ownBlock) (.slice Ab m3.length cb) (m3)) := ⟨by rw [← hW26]; exact Kd.R_mono (Kd.R_far (p := ⟨g11, 6, none⟩) (Kd.R_far (p := ⟨g11, 5, none⟩) (Kd.R_far (p := ⟨g11, 4, none⟩) (Kd.R_far (p := ⟨g11, 3, none⟩) (Kd.R_far (p := ⟨g11, 2, none⟩) (Kd.R_far (p := ⟨g11, 1, none⟩) (Kd.R_far (p := ⟨g11, 0, none⟩) (Kd.R_types HO21.out BK23.out (by decide)) (fun _ hk => hk.2) (.int .i64 m1)) (fun _ hk => hk.2) (.slice Aa m2.length ca)) (fun _ hk => hk.2) (.slice Ab m3.length cb)) (fun _ hk => hk.2) (.int .i64 m4)) (fun _ hk => hk.2) (.int .i64 m5)) (fun _ hk => hk.2) (.int .i64 m6)) (fun _ hk => hk.2) (.bool m7)) (fun _ hk => hk.1)⟩
  have HB31 : Aside0 (Below w.heap.size w w25) := ⟨by rw [← hW26]; exact (below_set (below_set (below_set (below_set (below_set (below_set (below_set HB22.out GE18.out) GE18.out) GE18.out) GE18.out) GE18.out) GE18.out) GE18.out)⟩
  clear BK19 BK23 HO20 HO21 HB22 hW26
  refine (spec_l10Fault.calls g11 m1 Aa ca m2 Ab cb m3 m4 m5 m6 m7 c _ BK28.out (Kd.R_reads' HO29.out).2.2 (Kd.R_reads' HO29.out).2.1 (Kd.R_reads' HO30.out).2.2 (Kd.R_reads' HO30.out).2.1 HC.out).mono ?_
  rintro e w32 ⟨rfl, hd33⟩
  have hb34 : Below w25.heap.size w25 w32 := by obtain ⟨n, rfl⟩ := hd33; exact pw_below_drewN (Below.refl _ _) n
  have BK35 := Aside0.mk (blk_below BK27.out hb34)
  have BK36 := Aside0.mk (blk_below BK28.out hb34)
  have HO37 := Aside0.mk (Kd.R_below HO29.out hb34)
  have HO38 := Aside0.mk (Kd.R_below HO30.out hb34)
  have HB39 := Aside0.mk (below_step HB31.out hb34)
  clear BK27 BK28 HO29 HO30 HB31
  clear hd33 hb34
  have hcq40_0 : w32.cell? ⟨g1, 0, none⟩ = some (.int .i64 0) := (blk_cell BK35.out 0).trans rfl
  have hcq40_1 : w32.cell? ⟨g1, 1, none⟩ = some (.int .i64 0) := (blk_cell BK35.out 1).trans rfl
  have hcq40_2 : w32.cell? ⟨g1, 2, none⟩ = some (.slice none 0 0) := (blk_cell BK35.out 2).trans rfl
  have hcq40_3 : w32.cell? ⟨g1, 3, none⟩ = some (.slice none 0 0) := (blk_cell BK35.out 3).trans rfl
  have hcq40_4 : w32.cell? ⟨g1, 4, none⟩ = some (.int .i64 0) := (blk_cell BK35.out 4).trans rfl
  have hcq40_5 : w32.cell? ⟨g1, 5, none⟩ = some (.int .i64 0) := (blk_cell BK35.out 5).trans rfl
  have hcq40_6 : w32.cell? ⟨g1, 6, none⟩ = some (.int .i64 0) := (blk_cell BK35.out 6).trans rfl
  have hcq40_7 : w32.cell? ⟨g1, 7, none⟩ = some (.bool false) := (blk_cell BK35.out 7).trans rfl
  have hfq40_0 := blk_frozen BK35.out 0
  have hfq40_1 := blk_frozen BK35.out 1
  have hfq40_2 := blk_frozen BK35.out 2
  have hfq40_3 := blk_frozen BK35.out 3
  have hfq40_4 := blk_frozen BK35.out 4
  have hfq40_5 := blk_frozen BK35.out 5
  have hfq40_6 := blk_frozen BK35.out 6
  have hfq40_7 := blk_frozen BK35.out 7
  have hcq41_0 : w32.cell? ⟨g11, 0, none⟩ = some (.int .i64 m1) := (blk_cell BK36.out 0).trans rfl
  have hcq41_1 : w32.cell? ⟨g11, 1, none⟩ = some (.slice Aa m2.length ca) := (blk_cell BK36.out 1).trans rfl
  have hcq41_2 : w32.cell? ⟨g11, 2, none⟩ = some (.slice Ab m3.length cb) := (blk_cell BK36.out 2).trans rfl
  have hcq41_3 : w32.cell? ⟨g11, 3, none⟩ = some (.int .i64 m4) := (blk_cell BK36.out 3).trans rfl
  have hcq41_4 : w32.cell? ⟨g11, 4, none⟩ = some (.int .i64 m5) := (blk_cell BK36.out 4).trans rfl
  have hcq41_5 : w32.cell? ⟨g11, 5, none⟩ = some (.int .i64 m6) := (blk_cell BK36.out 5).trans rfl
  have hcq41_6 : w32.cell? ⟨g11, 6, none⟩ = some (.bool m7) := (blk_cell BK36.out 6).trans rfl
  have hfq41_0 := blk_frozen BK36.out 0
  have hfq41_1 := blk_frozen BK36.out 1
  have hfq41_2 := blk_frozen BK36.out 2
  have hfq41_3 := blk_frozen BK36.out 3
  have hfq41_4 := blk_frozen BK36.out 4
  have hfq41_5 := blk_frozen BK36.out 5
  have hfq41_6 := blk_frozen BK36.out 6
  by_cases hz : c = 0
  · subst hz
    rw [if_pos rfl] at HH
    simp only [Prod.mk.injEq] at HH
    obtain ⟨rfl, rfl, rfl, rfl, rfl, rfl, rfl, rfl⟩ := HH
    go_wp2_with fail
    generalize hW43 : World.setCell _ _ _ = w42
    have BK44 : Aside0 (w42.heap[g1]? = some (.cells #[.int .i64 0, .int .i64 m1, .slice Aa m2.length ca, .slice Ab m3.length cb, .int .i64 m4, .int .i64 m5, .int .i64 m6, .bool m7] 53 (0, 0))) := ⟨by rw [← hW43]; refine blk_put (cs := #[.int .i64 0, .int .i64 m1, .slice Aa m2.length ca, .slice Ab m3.length cb, .int .i64 m4, .int .i64 m5, .int .i64 m6, .bool false]) ?_ 7 _ rfl; refine blk_put (cs := #[.int .i64 0, .int .i64 m1, .slice Aa m2.length ca, .slice Ab m3.length cb, .int .i64 m4, .int .i64 m5, .int .i64 0, .bool false]) ?_ 6 _ rfl; refine blk_put (cs := #[.int .i64 0, .int .i64 m1, .slice Aa m2.length ca, .slice Ab m3.length cb, .int .i64 m4, .int .i64 0, .int .i64 0, .bool false]) ?_ 5 _ rfl; refine blk_put (cs := #[.int .i64 0, .int .i64 m1, .slice Aa m2.length ca, .slice Ab m3.length cb, .int .i64 0, .int .i64 0, .int .i64 0, .bool false]) ?_ 4 _ rfl; refine blk_put (cs := #[.int .i64 0, .int .i64 m1, .slice Aa m2.length ca, .slice none 0 0, .int .i64 0, .int .i64 0, .int .i64 0, .bool false]) ?_ 3 _ rfl; refine blk_put (cs := #[.int .i64 0, .int .i64 m1, .slice none 0 0, .slice none 0 0, .int .i64 0, .int .i64 0, .int .i64 0, .bool false]) ?_ 2 _ rfl; refine blk_put (cs := #[.int .i64 0, .int .i64 0, .slice none 0 0, .slice none 0 0, .int .i64 0, .int .i64 0, .int .i64 0, .bool false]) ?_ 1 _ rfl; refine blk_put (cs := #[.int .i64 0, .int .i64 0, .slice none 0 0, .slice none 0 0, .int .i64 0, .int .i64 0, .int .i64 0, .bool false]) ?_ 0 _ rfl; exact BK35.out⟩
    have BK45 : Aside0 (w42.heap[g11]? = some (.cells #[.int .i64 m1, .slice Aa m2.length ca, .slice Ab m3.length cb, .int .i64 m4, .int .i64 m5, .int .i64 m6, .bool m7] 51 (0, 0))) := ⟨by rw [← hW43]; refine blk_far ?_ NE17.out _; refine blk_far ?_ NE17.out _; refine blk_far ?_ NE17.out _; refine blk_far ?_ NE17.out _; refine blk_far ?_ NE17.out _; refine blk_far ?_ NE17.out _; refine blk_far ?_ NE17.out _; refine blk_far ?_ NE17.out _; exact BK36.out⟩
    have HO46 : Aside0 (Kd.R (Kd.int .i64) 2 w42 w.heap.size (fun k_ => some k_ ≠ (.slice Ab m3.length cb : Value).ownBlock) (.slice Aa m2.length ca) (m2)) := ⟨by rw [← hW43]; exact Kd.R_mono (Kd.R_far (p := ⟨g1, 7, none⟩) (Kd.R_far (p := ⟨g1, 6, none⟩) (Kd.R_far (p := ⟨g1, 5, none⟩) (Kd.R_far (p := ⟨g1, 4, none⟩) (Kd.R_far (p := ⟨g1, 3, none⟩) (Kd.R_far (p := ⟨g1, 2, none⟩) (Kd.R_far (p := ⟨g1, 1, none⟩) (Kd.R_far (p := ⟨g1, 0, none⟩) (Kd.R_types HO37.out BK35.out (by decide)) (fun _ hk => hk.2) (.int .i64 0)) (fun _ hk => hk.2) (.int .i64 m1)) (fun _ hk => hk.2) (.slice Aa m2.length ca)) (fun _ hk => hk.2) (.slice Ab m3.length cb)) (fun _ hk => hk.2) (.int .i64 m4)) (fun _ hk => hk.2) (.int .i64 m5)) (fun _ hk => hk.2) (.int .i64 m6)) (fun _ hk => hk.2) (.bool m7)) (fun _ hk => hk.1)⟩
    have HO47 : Aside0 (Kd.R (Kd.int .i64) 2 w42 w.heap.size (fun k_ => some k_ ≠ (.slice Aa m2.length ca : Value).ownBlock) (.slice Ab m3.length cb) (m3)) := ⟨by rw [← hW43]; exact Kd.R_mono (Kd.R_far (p := ⟨g1, 7, none⟩) (Kd.R_far (p := ⟨g1, 6, none⟩) (Kd.R_far (p := ⟨g1, 5, none⟩) (Kd.R_far (p := ⟨g1, 4, none⟩) (Kd.R_far (p := ⟨g1, 3, none⟩) (Kd.R_far (p := ⟨g1, 2, none⟩) (Kd.R_far (p := ⟨g1, 1, none⟩) (Kd.R_far (p := ⟨g1, 0, none⟩) (Kd.R_types HO38.out BK35.out (by decide)) (fun _ hk => hk.2) (.int .i64 0)) (fun _ hk => hk.2) (.int .i64 m1)) (fun _ hk => hk.2) (.slice Aa m2.length ca)) (fun _ hk => hk.2) (.slice Ab m3.length cb)) (fun _ hk => hk.2) (.int .i64 m4)) (fun _ hk => hk.2) (.int .i64 m5)) (fun _ hk => hk.2) (.int .i64 m6)) (fun _ hk => hk.2) (.bool m7)) (fun _ hk => hk.1)⟩
    have HB48 : Aside0 (Below w.heap.size w w42) := ⟨by rw [← hW43]; exact (below_set (below_set (below_set (below_set (below_set (below_set (below_set (below_set HB39.out GE6.out) GE6.out) GE6.out) GE6.out) GE6.out) GE6.out) GE6.out) GE6.out)⟩
    clear BK35 BK36 HO37 HO38 HB39 hW43
    refine bodyPost_ret (results_cell_row rfl _ _ g1 53 #[.int .i64 0, .int .i64 m1, .slice Aa m2.length ca, .slice Ab m3.length cb, .int .i64 m4, .int .i64 m5, .int .i64 m6, .bool m7] (0, 0) _ rfl BK44.out hu53 rfl (by kernel_rfl)) rfl ?_
    exact ⟨_, _, rfl, HO46.out, HO47.out, HB48.out⟩
  · have hz1 : (c != 0) = true := by simpa using hz
    rw [if_neg hz] at HH
    simp only [Prod.mk.injEq] at HH
    obtain ⟨rfl, rfl, rfl, rfl, rfl, rfl, rfl, rfl⟩ := HH
    go_wp2_with fail
    generalize hW43 : World.setCell _ _ _ = w42
    have BK44 : Aside0 (w42.heap[g1]? = some (.cells #[.int .i64 c, .int .i64 0, .slice none 0 0, .slice none 0 0, .int .i64 0, .int .i64 0, .int .i64 0, .bool false] 53 (0, 0))) := ⟨by rw [← hW43]; refine blk_put (cs := #[.int .i64 c, .int .i64 0, .slice none 0 0, .slice none 0 0, .int .i64 0, .int .i64 0, .int .i64 0, .bool false]) ?_ 7 _ rfl; refine blk_put (cs := #[.int .i64 c, .int .i64 0, .slice none 0 0, .slice none 0 0, .int .i64 0, .int .i64 0, .int .i64 0, .bool false]) ?_ 6 _ rfl; refine blk_put (cs := #[.int .i64 c, .int .i64 0, .slice none 0 0, .slice none 0 0, .int .i64 0, .int .i64 0, .int .i64 0, .bool false]) ?_ 5 _ rfl; refine blk_put (cs := #[.int .i64 c, .int .i64 0, .slice none 0 0, .slice none 0 0, .int .i64 0, .int .i64 0, .int .i64 0, .bool false]) ?_ 4 _ rfl; refine blk_put (cs := #[.int .i64 c, .int .i64 0, .slice none 0 0, .slice none 0 0, .int .i64 0, .int .i64 0, .int .i64 0, .bool false]) ?_ 3 _ rfl; refine blk_put (cs := #[.int .i64 c, .int .i64 0, .slice none 0 0, .slice none 0 0, .int .i64 0, .int .i64 0, .int .i64 0, .bool false]) ?_ 2 _ rfl; refine blk_put (cs := #[.int .i64 c, .int .i64 0, .slice none 0 0, .slice none 0 0, .int .i64 0, .int .i64 0, .int .i64 0, .bool false]) ?_ 1 _ rfl; refine blk_put (cs := #[.int .i64 0, .int .i64 0, .slice none 0 0, .slice none 0 0, .int .i64 0, .int .i64 0, .int .i64 0, .bool false]) ?_ 0 _ rfl; exact BK35.out⟩
    have BK45 : Aside0 (w42.heap[g11]? = some (.cells #[.int .i64 m1, .slice Aa m2.length ca, .slice Ab m3.length cb, .int .i64 m4, .int .i64 m5, .int .i64 m6, .bool m7] 51 (0, 0))) := ⟨by rw [← hW43]; refine blk_far ?_ NE17.out _; refine blk_far ?_ NE17.out _; refine blk_far ?_ NE17.out _; refine blk_far ?_ NE17.out _; refine blk_far ?_ NE17.out _; refine blk_far ?_ NE17.out _; refine blk_far ?_ NE17.out _; refine blk_far ?_ NE17.out _; exact BK36.out⟩
    have HO46 : Aside0 (Kd.R (Kd.int .i64) 2 w42 w.heap.size (fun k_ => some k_ ≠ (.slice Ab m3.length cb : Value).ownBlock) (.slice Aa m2.length ca) (m2)) := ⟨by rw [← hW43]; exact Kd.R_mono (Kd.R_far (p := ⟨g1, 7, none⟩) (Kd.R_far (p := ⟨g1, 6, none⟩) (Kd.R_far (p := ⟨g1, 5, none⟩) (Kd.R_far (p := ⟨g1, 4, none⟩) (Kd.R_far (p := ⟨g1, 3, none⟩) (Kd.R_far (p := ⟨g1, 2, none⟩) (Kd.R_far (p := ⟨g1, 1, none⟩) (Kd.R_far (p := ⟨g1, 0, none⟩) (Kd.R_types HO37.out BK35.out (by decide)) (fun _ hk => hk.2) (.int .i64 c)) (fun _ hk => hk.2) (.int .i64 0)) (fun _ hk => hk.2) (.slice none 0 0)) (fun _ hk => hk.2) (.slice none 0 0)) (fun _ hk => hk.2) (.int .i64 0)) (fun _ hk => hk.2) (.int .i64 0)) (fun _ hk => hk.2) (.int .i64 0)) (fun _ hk => hk.2) (.bool false)) (fun _ hk => hk.1)⟩
    have HO47 : Aside0 (Kd.R (Kd.int .i64) 2 w42 w.heap.size (fun k_ => some k_ ≠ (.slice Aa m2.length ca : Value).ownBlock) (.slice Ab m3.length cb) (m3)) := ⟨by rw [← hW43]; exact Kd.R_mono (Kd.R_far (p := ⟨g1, 7, none⟩) (Kd.R_far (p := ⟨g1, 6, none⟩) (Kd.R_far (p := ⟨g1, 5, none⟩) (Kd.R_far (p := ⟨g1, 4, none⟩) (Kd.R_far (p := ⟨g1, 3, none⟩) (Kd.R_far (p := ⟨g1, 2, none⟩) (Kd.R_far (p := ⟨g1, 1, none⟩) (Kd.R_far (p := ⟨g1, 0, none⟩) (Kd.R_types HO38.out BK35.out (by decide)) (fun _ hk => hk.2) (.int .i64 c)) (fun _ hk => hk.2) (.int .i64 0)) (fun _ hk => hk.2) (.slice none 0 0)) (fun _ hk => hk.2) (.slice none 0 0)) (fun _ hk => hk.2) (.int .i64 0)) (fun _ hk => hk.2) (.int .i64 0)) (fun _ hk => hk.2) (.int .i64 0)) (fun _ hk => hk.2) (.bool false)) (fun _ hk => hk.1)⟩
    have HB48 : Aside0 (Below w.heap.size w w42) := ⟨by rw [← hW43]; exact (below_set (below_set (below_set (below_set (below_set (below_set (below_set (below_set HB39.out GE6.out) GE6.out) GE6.out) GE6.out) GE6.out) GE6.out) GE6.out) GE6.out)⟩
    clear BK35 BK36 HO37 HO38 HB39 hW43
    refine bodyPost_ret (results_cell_row rfl _ _ g1 53 #[.int .i64 c, .int .i64 0, .slice none 0 0, .slice none 0 0, .int .i64 0, .int .i64 0, .int .i64 0, .bool false] (0, 0) _ rfl BK44.out hu53 rfl (by kernel_rfl)) rfl ?_
    exact ⟨_, _, rfl, Kd.R_nil _ _ _ _ _, Kd.R_nil _ _ _ _ _, HB48.out⟩


end Go.Proofs.Ytklhfhnplldgjaa.XFnExactStartRegs
