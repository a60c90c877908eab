/- Machine side of the law FnExactStartStack: for each Go function that it reaches, a Lean function with the same answers and the proof that the call comes to them. Conditions: what the arguments lead to reads as the lists that each contract is told of. Some functions are told by hand, the others by the kit's print.py under wip/ext.py. -/
import Derived.Test.YtklhfhnplldgjaaXFnExactStartStackx0
import Derived.Test.YtklhfhnplldgjaaXFnExactStartStackx1
import Derived.Test.YtklhfhnplldgjaaXFnExactStartStackx2
namespace Go.Proofs.Ytklhfhnplldgjaa.XFnExactStartStack
open Go.RowKit Go.Proofs.YtklhfhnplldgjaaW.PrintWords Go.Proofs.YtklhfhnplldgjaaW.PrintLast Go.Proofs.YtklhfhnplldgjaaW.PrintMore
attribute [local go_sem] max2_int min2_int max_two min_two max_three min_three max_four min_four   -- for this text's walks alone
set_option linter.unusedVariables false
set_option linter.unusedSimpArgs false

/-! ### spec_StartStack: function 15 -/
def spec_StartStack.f (l0 : List Int) : Option (Int × Int × List Int × List Int × Int × Int × Int × Bool) := if l0.length < 17592186044416 then (spec_l8Fault.f 0 [] l0 0 0 0).bind fun c => some (if c = 0 then (0, 0, [], l0, 0, 0, 0, false) else (c, 0, [], [], 0, 0, 0, false)) else none
set_option maxHeartbeats 2000000 in
set_option maxRecDepth 100000 in
theorem spec_StartStack.calls (A0 : Option Addr) (c0 : Nat) (l0 : List Int) (r1 : Int) (r2 : Int) (r3 : List Int) (r4 : List Int) (r5 : Int) (r6 : Int) (r7 : Int) (r8 : Bool) (w : World) (hr0 : Kd.C (Kd.int .i64) w A0 l0.length l0) (hc0 : l0.length ≤ c0) (h : spec_StartStack.f l0 = some (r1, r2, r3, r4, r5, r6, r7, r8)) :
    Calls Try.prog 15 #[.slice A0 l0.length c0] w fun e w' => ∃ v2_ v3_ : Value, e = .returned (.agg #[.int .i64 r1, .int .i64 r2, v2_, v3_, .int .i64 r5, .int .i64 r6, .int .i64 r7, .bool r8]) ∧ Kd.R (Kd.int .i64) 2 w' w.heap.size (fun k_ => some k_ ≠ (v3_ : Value).ownBlock) v2_ r3 ∧ Kd.R (Kd.int .i64) 2 w' w.heap.size (fun k_ => some k_ ≠ (v2_ : Value).ownBlock) v3_ r4 ∧ Below w.heap.size w w' := by
  unfold spec_StartStack.f at h
  split at h
  case isFalse => cases h
  next hlt =>
  replace h := Option.bind_eq_some_iff.mp h
  obtain ⟨c, hc, h⟩ := h
  have hu26 := Try.underlying26
  have hu24 := Try.underlying24
  have HL := Aside0.mk hlt
  have HC := Aside0.mk hc
  have HR0 := Aside0.mk hr0
  have HC0 := Aside0.mk hc0
  have HH := Option.some.inj h
  clear h hlt hc hr0 hc0
  go_enter Try.func15, Try.ntmps15
  go_wp2_with (first
      | ((with_reducible refine gate_dst (N := 2) rfl ?_); refine box_event ?hg (N := 2) ?hd (cs := #[.int .i64 0, .int .i64 0, .slice none 0 0, .slice none 0 0, .int .i64 0, .int .i64 0, .int .i64 0, .bool false]) (t := 26) ?hr ?_; (case hd => rfl); (case hg => rfl); (case hr => first | (go_simp; done) | (go_simp; rfl)); intro g1 hg3 w2 hx4 hb5; have GE6 := Aside0.mk (show w.heap.size ≤ g1 by rw [hg3]; exact below_size (Below.refl w.heap.size w)); have HB7 := Aside0.mk (below_step (Below.refl w.heap.size w) hb5); have BK8 := Aside0.mk hx4; clear hg3 hx4 hb5)
      | ((with_reducible refine gate_dst (N := 5) rfl ?_); refine Kd.R_lit (Kd.int .i64) w.heap.size 2 (w0 := w) ?hg (N := 5) ?hd (xs := []) (inner := []) (ok := fun _ => True) (okp := fun _ => True) ?hr ?hp (fun _ hk => hk) trivial HB7.out (below_size HB7.out) (by simp) ?_; (case hd => rfl); (case hg => rfl); (case hr => first | (go_simp; done) | (go_simp; rfl)); (case hp => exact (Reps.none _ _)); intro v9 w10 ho11 hb12 hg13 hn14; have BK15 := Aside0.mk (blk_grown BK8.out hg13 (by simp)); have HB16 := Aside0.mk (hb12); clear BK8 HB7; have HO17 := Aside0.mk ho11; clear ho11 hb12 hg13 hn14)
      | ((with_reducible refine gate_builtin (b := .append) (xs := #[.tmp 5, .tmp 6]) rfl ?_); at_builtin; refine Kd.R_append_rows (Kd.int .i64) (w0 := w) w.heap.size rfl (.tmp 5) (.tmp 6) 22 2 (.int .i64 0) 8 rfl Try.underlying22 info2 rfl (by decide) (by omega) v9 ([]) (l0) _ _ _ (fun _ => True) (fun _ => False) rfl rfl ?aO ?aR (fun _ _ h => h) (fun _ h => h.elim) ?aF ?aB ?aS ?aL ?_; (case aR => exact Kd.C_below HR0.out HB16.out); (case aB => exact HB16.out); (case aF => exact (fun _ _ => trivial)); (case aO => exact HO17.out); (case aS => exact (below_size HB16.out)); (case aL => have := HL.out; simp; omega); intro v18 w19 ho20 hb21 hg22 ha23; have BK24 := Aside0.mk (blk_grown BK15.out hg22 (Kd.R_ne HO17.out BK15.out (by decide))); have HB25 := Aside0.mk (hb21); clear BK15 HB16; have HO26 := Aside0.mk ho20; clear ho20 hb21 hg22 ha23 HO17; obtain ⟨A27, c28, e29⟩ := Kd.R_slice HO26.out; subst e29; try simp only [List.nil_append] at HO26)
      | ((with_reducible refine gate_dst (N := 3) rfl ?_); refine box_event ?hg (N := 3) ?hd (cs := #[.int .i64 0, .slice none 0 0, .slice none 0 0, .int .i64 0, .int .i64 0, .int .i64 0, .bool false]) (t := 24) ?hr ?_; (case hd => rfl); (case hg => rfl); (case hr => first | (go_simp; done) | (go_simp; rfl)); intro g30 hg32 w31 hx33 hb34; have NE35 := Aside0.mk (show g1 ≠ g30 by rw [hg32]; exact Nat.ne_of_lt (blk_lt BK24.out)); have NE36 := Aside0.mk (Ne.symm NE35.out); have GE37 := Aside0.mk (show w.heap.size ≤ g30 by rw [hg32]; exact below_size HB25.out); have BK38 := Aside0.mk (blk_below BK24.out hb34); have HO39 := Aside0.mk (Kd.R_below HO26.out hb34); have HB40 := Aside0.mk (below_step HB25.out hb34); clear BK24 HO26 HB25; have BK41 := Aside0.mk hx33; clear hg32 hx33 hb34; have hcq42_0 : w31.cell? ⟨g30, 0, none⟩ = some (.int .i64 0) := (blk_cell BK41.out 0).trans rfl; have hcq42_1 : w31.cell? ⟨g30, 1, none⟩ = some (.slice none 0 0) := (blk_cell BK41.out 1).trans rfl; have hcq42_2 : w31.cell? ⟨g30, 2, none⟩ = some (.slice none 0 0) := (blk_cell BK41.out 2).trans rfl; have hcq42_3 : w31.cell? ⟨g30, 3, none⟩ = some (.int .i64 0) := (blk_cell BK41.out 3).trans rfl; have hcq42_4 : w31.cell? ⟨g30, 4, none⟩ = some (.int .i64 0) := (blk_cell BK41.out 4).trans rfl; have hcq42_5 : w31.cell? ⟨g30, 5, none⟩ = some (.int .i64 0) := (blk_cell BK41.out 5).trans rfl; have hcq42_6 : w31.cell? ⟨g30, 6, none⟩ = some (.bool false) := (blk_cell BK41.out 6).trans rfl; have hfq42_0 := blk_frozen BK41.out 0; have hfq42_1 := blk_frozen BK41.out 1; have hfq42_2 := blk_frozen BK41.out 2; have hfq42_3 := blk_frozen BK41.out 3; have hfq42_4 := blk_frozen BK41.out 4; have hfq42_5 := blk_frozen BK41.out 5; have hfq42_6 := blk_frozen BK41.out 6))
  generalize hW44 : World.setCell _ _ _ = w43
  have BK45 : Aside0 (w43.heap[g1]? = some (.cells #[.int .i64 0, .int .i64 0, .slice none 0 0, .slice none 0 0, .int .i64 0, .int .i64 0, .int .i64 0, .bool false] 26 (0, 0))) := ⟨by rw [← hW44]; refine blk_far ?_ NE35.out _; refine blk_far ?_ NE35.out _; refine blk_far ?_ NE35.out _; refine blk_far ?_ NE35.out _; refine blk_far ?_ NE35.out _; refine blk_far ?_ NE35.out _; refine blk_far ?_ NE35.out _; exact BK38.out⟩
  have BK46 : Aside0 (w43.heap[g30]? = some (.cells #[.int .i64 0, .slice none 0 0, .slice A27 l0.length c28, .int .i64 0, .int .i64 0, .int .i64 0, .bool false] 24 (0, 0))) := ⟨by rw [← hW44]; refine blk_put (cs := #[.int .i64 0, .slice none 0 0, .slice A27 l0.length c28, .int .i64 0, .int .i64 0, .int .i64 0, .bool false]) ?_ 6 _ rfl; refine blk_put (cs := #[.int .i64 0, .slice none 0 0, .slice A27 l0.length c28, .int .i64 0, .int .i64 0, .int .i64 0, .bool false]) ?_ 5 _ rfl; refine blk_put (cs := #[.int .i64 0, .slice none 0 0, .slice A27 l0.length c28, .int .i64 0, .int .i64 0, .int .i64 0, .bool false]) ?_ 4 _ rfl; refine blk_put (cs := #[.int .i64 0, .slice none 0 0, .slice A27 l0.length c28, .int .i64 0, .int .i64 0, .int .i64 0, .bool false]) ?_ 3 _ rfl; refine blk_put (cs := #[.int .i64 0, .slice none 0 0, .slice none 0 0, .int .i64 0, .int .i64 0, .int .i64 0, .bool false]) ?_ 2 _ rfl; refine blk_put (cs := #[.int .i64 0, .slice none 0 0, .slice none 0 0, .int .i64 0, .int .i64 0, .int .i64 0, .bool false]) ?_ 1 _ rfl; refine blk_put (cs := #[.int .i64 0, .slice none 0 0, .slice none 0 0, .int .i64 0, .int .i64 0, .int .i64 0, .bool false]) ?_ 0 _ rfl; exact BK41.out⟩
  have HO47 : Aside0 (Kd.R (Kd.int .i64) 2 w43 w.heap.size (fun _ => True) (.slice A27 l0.length c28) (l0)) := ⟨by rw [← hW44]; exact Kd.R_mono (Kd.R_far (p := ⟨g30, 6, none⟩) (Kd.R_far (p := ⟨g30, 5, none⟩) (Kd.R_far (p := ⟨g30, 4, none⟩) (Kd.R_far (p := ⟨g30, 3, none⟩) (Kd.R_far (p := ⟨g30, 2, none⟩) (Kd.R_far (p := ⟨g30, 1, none⟩) (Kd.R_far (p := ⟨g30, 0, none⟩) (Kd.R_types HO39.out BK41.out (by decide)) (fun _ hk => hk.2) (.int .i64 0)) (fun _ hk => hk.2) (.slice none 0 0)) (fun _ hk => hk.2) (.slice A27 l0.length c28)) (fun _ hk => hk.2) (.int .i64 0)) (fun _ hk => hk.2) (.int .i64 0)) (fun _ hk => hk.2) (.int .i64 0)) (fun _ hk => hk.2) (.bool false)) (fun _ _ => trivial)⟩
  have HB48 : Aside0 (Below w.heap.size w w43) := ⟨by rw [← hW44]; exact (below_set (below_set (below_set (below_set (below_set (below_set (below_set HB40.out GE37.out) GE37.out) GE37.out) GE37.out) GE37.out) GE37.out) GE37.out)⟩
  clear BK38 BK41 HO39 HB40 hW44
  refine (spec_l8Fault.calls g30 0 none 0 [] A27 c28 l0 0 0 0 false c _ BK46.out (Kd.C_nil _ _) (Nat.le_refl _) (Kd.R_reads' HO47.out).2.2 (Kd.R_reads' HO47.out).2.1 HC.out).mono ?_
  rintro e w49 ⟨rfl, hd50⟩
  have hb51 : Below w43.heap.size w43 w49 := by obtain ⟨n, rfl⟩ := hd50; exact pw_below_drewN (Below.refl _ _) n
  have BK52 := Aside0.mk (blk_below BK45.out hb51)
  have BK53 := Aside0.mk (blk_below BK46.out hb51)
  have HO54 := Aside0.mk (Kd.R_below HO47.out hb51)
  have HB55 := Aside0.mk (below_step HB48.out hb51)
  clear BK45 BK46 HO47 HB48
  clear hd50 hb51
  have hcq56_0 : w49.cell? ⟨g1, 0, none⟩ = some (.int .i64 0) := (blk_cell BK52.out 0).trans rfl
  have hcq56_1 : w49.cell? ⟨g1, 1, none⟩ = some (.int .i64 0) := (blk_cell BK52.out 1).trans rfl
  have hcq56_2 : w49.cell? ⟨g1, 2, none⟩ = some (.slice none 0 0) := (blk_cell BK52.out 2).trans rfl
  have hcq56_3 : w49.cell? ⟨g1, 3, none⟩ = some (.slice none 0 0) := (blk_cell BK52.out 3).trans rfl
  have hcq56_4 : w49.cell? ⟨g1, 4, none⟩ = some (.int .i64 0) := (blk_cell BK52.out 4).trans rfl
  have hcq56_5 : w49.cell? ⟨g1, 5, none⟩ = some (.int .i64 0) := (blk_cell BK52.out 5).trans rfl
  have hcq56_6 : w49.cell? ⟨g1, 6, none⟩ = some (.int .i64 0) := (blk_cell BK52.out 6).trans rfl
  have hcq56_7 : w49.cell? ⟨g1, 7, none⟩ = some (.bool false) := (blk_cell BK52.out 7).trans rfl
  have hfq56_0 := blk_frozen BK52.out 0
  have hfq56_1 := blk_frozen BK52.out 1
  have hfq56_2 := blk_frozen BK52.out 2
  have hfq56_3 := blk_frozen BK52.out 3
  have hfq56_4 := blk_frozen BK52.out 4
  have hfq56_5 := blk_frozen BK52.out 5
  have hfq56_6 := blk_frozen BK52.out 6
  have hfq56_7 := blk_frozen BK52.out 7
  have hcq57_0 : w49.cell? ⟨g30, 0, none⟩ = some (.int .i64 0) := (blk_cell BK53.out 0).trans rfl
  have hcq57_1 : w49.cell? ⟨g30, 1, none⟩ = some (.slice none 0 0) := (blk_cell BK53.out 1).trans rfl
  have hcq57_2 : w49.cell? ⟨g30, 2, none⟩ = some (.slice A27 l0.length c28) := (blk_cell BK53.out 2).trans rfl
  have hcq57_3 : w49.cell? ⟨g30, 3, none⟩ = some (.int .i64 0) := (blk_cell BK53.out 3).trans rfl
  have hcq57_4 : w49.cell? ⟨g30, 4, none⟩ = some (.int .i64 0) := (blk_cell BK53.out 4).trans rfl
  have hcq57_5 : w49.cell? ⟨g30, 5, none⟩ = some (.int .i64 0) := (blk_cell BK53.out 5).trans rfl
  have hcq57_6 : w49.cell? ⟨g30, 6, none⟩ = some (.bool false) := (blk_cell BK53.out 6).trans rfl
  have hfq57_0 := blk_frozen BK53.out 0
  have hfq57_1 := blk_frozen BK53.out 1
  have hfq57_2 := blk_frozen BK53.out 2
  have hfq57_3 := blk_frozen BK53.out 3
  have hfq57_4 := blk_frozen BK53.out 4
  have hfq57_5 := blk_frozen BK53.out 5
  have hfq57_6 := blk_frozen BK53.out 6
  by_cases hz : c = 0
  · subst hz
    rw [if_pos rfl] at HH
    simp only [Prod.mk.injEq] at HH
    obtain ⟨rfl, rfl, rfl, rfl, rfl, rfl, rfl, rfl⟩ := HH
    go_wp2_with fail
    generalize hW59 : World.setCell _ _ _ = w58
    have BK60 : Aside0 (w58.heap[g1]? = some (.cells #[.int .i64 0, .int .i64 0, .slice none 0 0, .slice A27 l0.length c28, .int .i64 0, .int .i64 0, .int .i64 0, .bool false] 26 (0, 0))) := ⟨by rw [← hW59]; refine blk_put (cs := #[.int .i64 0, .int .i64 0, .slice none 0 0, .slice A27 l0.length c28, .int .i64 0, .int .i64 0, .int .i64 0, .bool false]) ?_ 7 _ rfl; refine blk_put (cs := #[.int .i64 0, .int .i64 0, .slice none 0 0, .slice A27 l0.length c28, .int .i64 0, .int .i64 0, .int .i64 0, .bool false]) ?_ 6 _ rfl; refine blk_put (cs := #[.int .i64 0, .int .i64 0, .slice none 0 0, .slice A27 l0.length c28, .int .i64 0, .int .i64 0, .int .i64 0, .bool false]) ?_ 5 _ rfl; refine blk_put (cs := #[.int .i64 0, .int .i64 0, .slice none 0 0, .slice A27 l0.length c28, .int .i64 0, .int .i64 0, .int .i64 0, .bool false]) ?_ 4 _ rfl; refine blk_put (cs := #[.int .i64 0, .int .i64 0, .slice none 0 0, .slice none 0 0, .int .i64 0, .int .i64 0, .int .i64 0, .bool false]) ?_ 3 _ rfl; refine blk_put (cs := #[.int .i64 0, .int .i64 0, .slice none 0 0, .slice none 0 0, .int .i64 0, .int .i64 0, .int .i64 0, .bool false]) ?_ 2 _ rfl; refine blk_put (cs := #[.int .i64 0, .int .i64 0, .slice none 0 0, .slice none 0 0, .int .i64 0, .int .i64 0, .int .i64 0, .bool false]) ?_ 1 _ rfl; refine blk_put (cs := #[.int .i64 0, .int .i64 0, .slice none 0 0, .slice none 0 0, .int .i64 0, .int .i64 0, .int .i64 0, .bool false]) ?_ 0 _ rfl; exact BK52.out⟩
    have BK61 : Aside0 (w58.heap[g30]? = some (.cells #[.int .i64 0, .slice none 0 0, .slice A27 l0.length c28, .int .i64 0, .int .i64 0, .int .i64 0, .bool false] 24 (0, 0))) := ⟨by rw [← hW59]; refine blk_far ?_ NE36.out _; refine blk_far ?_ NE36.out _; refine blk_far ?_ NE36.out _; refine blk_far ?_ NE36.out _; refine blk_far ?_ NE36.out _; refine blk_far ?_ NE36.out _; refine blk_far ?_ NE36.out _; refine blk_far ?_ NE36.out _; exact BK53.out⟩
    have HO62 : Aside0 (Kd.R (Kd.int .i64) 2 w58 w.heap.size (fun _ => True) (.slice A27 l0.length c28) (l0)) := ⟨by rw [← hW59]; exact Kd.R_mono (Kd.R_far (p := ⟨g1, 7, none⟩) (Kd.R_far (p := ⟨g1, 6, none⟩) (Kd.R_far (p := ⟨g1, 5, none⟩) (Kd.R_far (p := ⟨g1, 4, none⟩) (Kd.R_far (p := ⟨g1, 3, none⟩) (Kd.R_far (p := ⟨g1, 2, none⟩) (Kd.R_far (p := ⟨g1, 1, none⟩) (Kd.R_far (p := ⟨g1, 0, none⟩) (Kd.R_types HO54.out BK52.out (by decide)) (fun _ hk => hk.2) (.int .i64 0)) (fun _ hk => hk.2) (.int .i64 0)) (fun _ hk => hk.2) (.slice none 0 0)) (fun _ hk => hk.2) (.slice A27 l0.length c28)) (fun _ hk => hk.2) (.int .i64 0)) (fun _ hk => hk.2) (.int .i64 0)) (fun _ hk => hk.2) (.int .i64 0)) (fun _ hk => hk.2) (.bool false)) (fun _ _ => trivial)⟩
    have HB63 : Aside0 (Below w.heap.size w w58) := ⟨by rw [← hW59]; exact (below_set (below_set (below_set (below_set (below_set (below_set (below_set (below_set HB55.out GE6.out) GE6.out) GE6.out) GE6.out) GE6.out) GE6.out) GE6.out) GE6.out)⟩
    clear BK52 BK53 HO54 HB55 hW59
    refine bodyPost_ret (results_cell_row rfl _ _ g1 26 #[.int .i64 0, .int .i64 0, .slice none 0 0, .slice A27 l0.length c28, .int .i64 0, .int .i64 0, .int .i64 0, .bool false] (0, 0) _ rfl BK60.out hu26 rfl (by kernel_rfl)) rfl ?_
    exact ⟨_, _, rfl, Kd.R_nil _ _ _ _ _, Kd.R_mono HO62.out (fun _ _ => by simp [Value.ownBlock]), HB63.out⟩
  · have hz1 : (c != 0) = true := by simpa using hz
    rw [if_neg hz] at HH
    simp only [Prod.mk.injEq] at HH
    obtain ⟨rfl, rfl, rfl, rfl, rfl, rfl, rfl, rfl⟩ := HH
    go_wp2_with fail
    generalize hW59 : World.setCell _ _ _ = w58
    have BK60 : Aside0 (w58.heap[g1]? = some (.cells #[.int .i64 c, .int .i64 0, .slice none 0 0, .slice none 0 0, .int .i64 0, .int .i64 0, .int .i64 0, .bool false] 26 (0, 0))) := ⟨by rw [← hW59]; refine blk_put (cs := #[.int .i64 c, .int .i64 0, .slice none 0 0, .slice none 0 0, .int .i64 0, .int .i64 0, .int .i64 0, .bool false]) ?_ 7 _ rfl; refine blk_put (cs := #[.int .i64 c, .int .i64 0, .slice none 0 0, .slice none 0 0, .int .i64 0, .int .i64 0, .int .i64 0, .bool false]) ?_ 6 _ rfl; refine blk_put (cs := #[.int .i64 c, .int .i64 0, .slice none 0 0, .slice none 0 0, .int .i64 0, .int .i64 0, .int .i64 0, .bool false]) ?_ 5 _ rfl; refine blk_put (cs := #[.int .i64 c, .int .i64 0, .slice none 0 0, .slice none 0 0, .int .i64 0, .int .i64 0, .int .i64 0, .bool false]) ?_ 4 _ rfl; refine blk_put (cs := #[.int .i64 c, .int .i64 0, .slice none 0 0, .slice none 0 0, .int .i64 0, .int .i64 0, .int .i64 0, .bool false]) ?_ 3 _ rfl; refine blk_put (cs := #[.int .i64 c, .int .i64 0, .slice none 0 0, .slice none 0 0, .int .i64 0, .int .i64 0, .int .i64 0, .bool false]) ?_ 2 _ rfl; refine blk_put (cs := #[.int .i64 c, .int .i64 0, .slice none 0 0, .slice none 0 0, .int .i64 0, .int .i64 0, .int .i64 0, .bool false]) ?_ 1 _ rfl; refine blk_put (cs := #[.int .i64 0, .int .i64 0, .slice none 0 0, .slice none 0 0, .int .i64 0, .int .i64 0, .int .i64 0, .bool false]) ?_ 0 _ rfl; exact BK52.out⟩
    have BK61 : Aside0 (w58.heap[g30]? = some (.cells #[.int .i64 0, .slice none 0 0, .slice A27 l0.length c28, .int .i64 0, .int .i64 0, .int .i64 0, .bool false] 24 (0, 0))) := ⟨by rw [← hW59]; refine blk_far ?_ NE36.out _; refine blk_far ?_ NE36.out _; refine blk_far ?_ NE36.out _; refine blk_far ?_ NE36.out _; refine blk_far ?_ NE36.out _; refine blk_far ?_ NE36.out _; refine blk_far ?_ NE36.out _; refine blk_far ?_ NE36.out _; exact BK53.out⟩
    have HO62 : Aside0 (Kd.R (Kd.int .i64) 2 w58 w.heap.size (fun _ => True) (.slice A27 l0.length c28) (l0)) := ⟨by rw [← hW59]; exact Kd.R_mono (Kd.R_far (p := ⟨g1, 7, none⟩) (Kd.R_far (p := ⟨g1, 6, none⟩) (Kd.R_far (p := ⟨g1, 5, none⟩) (Kd.R_far (p := ⟨g1, 4, none⟩) (Kd.R_far (p := ⟨g1, 3, none⟩) (Kd.R_far (p := ⟨g1, 2, none⟩) (Kd.R_far (p := ⟨g1, 1, none⟩) (Kd.R_far (p := ⟨g1, 0, none⟩) (Kd.R_types HO54.out BK52.out (by decide)) (fun _ hk => hk.2) (.int .i64 c)) (fun _ hk => hk.2) (.int .i64 0)) (fun _ hk => hk.2) (.slice none 0 0)) (fun _ hk => hk.2) (.slice none 0 0)) (fun _ hk => hk.2) (.int .i64 0)) (fun _ hk => hk.2) (.int .i64 0)) (fun _ hk => hk.2) (.int .i64 0)) (fun _ hk => hk.2) (.bool false)) (fun _ _ => trivial)⟩
    have HB63 : Aside0 (Below w.heap.size w w58) := ⟨by rw [← hW59]; exact (below_set (below_set (below_set (below_set (below_set (below_set (below_set (below_set HB55.out GE6.out) GE6.out) GE6.out) GE6.out) GE6.out) GE6.out) GE6.out) GE6.out)⟩
    clear BK52 BK53 HO54 HB55 hW59
    refine bodyPost_ret (results_cell_row rfl _ _ g1 26 #[.int .i64 c, .int .i64 0, .slice none 0 0, .slice none 0 0, .int .i64 0, .int .i64 0, .int .i64 0, .bool false] (0, 0) _ rfl BK60.out hu26 rfl (by kernel_rfl)) rfl ?_
    exact ⟨_, _, rfl, Kd.R_nil _ _ _ _ _, Kd.R_nil _ _ _ _ _, HB63.out⟩


end Go.Proofs.Ytklhfhnplldgjaa.XFnExactStartStack
