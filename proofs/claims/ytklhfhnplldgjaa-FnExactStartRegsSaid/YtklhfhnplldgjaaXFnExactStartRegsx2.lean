/- Machine side of the law FnExactStartRegs: for each Go function that it reaches, a Lean function with the same answers and the proof that the call comes to them. Conditions: what the arguments lead to reads as the lists that each contract is told of. Some functions are told by hand, the others by the kit's print.py under wip/ext.py. -/
import Derived.Test.YtklhfhnplldgjaaXFnExactStartRegsx0
import Derived.Test.YtklhfhnplldgjaaXFnExactStartRegsx1
namespace Go.Proofs.Ytklhfhnplldgjaa.XFnExactStartRegs
open Go.RowKit Go.Proofs.YtklhfhnplldgjaaW.PrintWords Go.Proofs.YtklhfhnplldgjaaW.PrintLast Go.Proofs.YtklhfhnplldgjaaW.PrintMore
attribute [local go_sem] max2_int min2_int max_two min_two max_three min_three max_four min_four   -- for this text's walks alone
set_option linter.unusedVariables false
set_option linter.unusedSimpArgs false

/-! ### spec_l10Start: function 84 -/
def spec_l10Start.f (l0 : List Int) : Option (Int × List Int × List Int × Int × Int × Int × Bool) := if l0.length < 17592186044416 then some (0, List.replicate 24 65535, l0, 0, 0, 0, false) else none
set_option maxHeartbeats 4000000 in
set_option maxRecDepth 100000 in
theorem spec_l10Start.calls (A0 : Option Addr) (c0 : Nat) (l0 : List Int) (r1 : Int) (r2 : List Int) (r3 : List Int) (r4 : Int) (r5 : Int) (r6 : Int) (r7 : Bool) (w : World) (hr0 : Kd.C (Kd.int .i64) w A0 l0.length l0) (hc0 : l0.length ≤ c0) (h : spec_l10Start.f l0 = some (r1, r2, r3, r4, r5, r6, r7)) :
    Calls Try.prog 84 #[.slice A0 l0.length c0] w fun e w' => ∃ v1_ v2_ : Value, e = .returned (.agg #[.int .i64 r1, v1_, v2_, .int .i64 r4, .int .i64 r5, .int .i64 r6, .bool r7]) ∧ Kd.R (Kd.int .i64) 2 w' w.heap.size (fun k_ => some k_ ≠ (v2_ : Value).ownBlock) v1_ r2 ∧ Kd.R (Kd.int .i64) 2 w' w.heap.size (fun k_ => some k_ ≠ (v1_ : Value).ownBlock) v2_ r3 ∧ Below w.heap.size w w' := by
  unfold spec_l10Start.f at h
  split at h
  case isFalse => cases h
  next hlt =>
  have h := Option.some.inj h
  simp only [Prod.mk.injEq] at h
  obtain ⟨rfl, rfl, rfl, rfl, rfl, rfl, rfl⟩ := h
  have hu51 := Try.underlying51
  have HL := Aside0.mk hlt
  have HR0 := Aside0.mk hr0
  have HC0 := Aside0.mk hc0
  clear hlt hr0 hc0
  go_enter Try.func84, Try.ntmps84
  go_wp2_with (first
      | ((with_reducible refine gate_dst (N := 2) rfl ?_); refine box_event ?hg (N := 2) ?hd (cs := #[.int .i64 0, .slice none 0 0, .slice none 0 0, .int .i64 0, .int .i64 0, .int .i64 0, .bool false]) (t := 51) ?hr ?_; (case hd => rfl); (case hg => rfl); (case hr => first | (go_simp; done) | (go_simp; rfl)); intro g1 hg3 w2 hx4 hb5; have GE6 := Aside0.mk (show w.heap.size ≤ g1 by rw [hg3]; exact below_size (Below.refl w.heap.size w)); have HB7 := Aside0.mk (below_step (Below.refl w.heap.size w) hb5); have BK8 := Aside0.mk hx4; clear hg3 hx4 hb5)
      | ((with_reducible refine gate_dst (N := 5) rfl ?_); refine Kd.R_lit (Kd.int .i64) w.heap.size 2 (w0 := w) ?hg (N := 5) ?hd (xs := []) (inner := []) (ok := fun _ => True) (okp := fun _ => True) ?hr ?hp (fun _ hk => hk) trivial HB7.out (below_size HB7.out) (by simp) ?_; (case hd => rfl); (case hg => rfl); (case hr => first | (go_simp; done) | (go_simp; rfl)); (case hp => exact (Reps.none _ _)); intro v9 w10 ho11 hb12 hg13 hn14; have BK15 := Aside0.mk (blk_grown BK8.out hg13 (by simp)); have HB16 := Aside0.mk (hb12); clear BK8 HB7; have HO17 := Aside0.mk ho11; clear ho11 hb12 hg13 hn14)
      | ((with_reducible refine gate_builtin (b := .append) (xs := #[.tmp 5, .tmp 6]) rfl ?_); at_builtin; refine Kd.R_append_rows (Kd.int .i64) (w0 := w) w.heap.size rfl (.tmp 5) (.tmp 6) 22 2 (.int .i64 0) 8 rfl Try.underlying22 info2 rfl (by decide) (by omega) v9 ([]) (l0) _ _ _ (fun _ => True) (fun _ => False) rfl rfl ?aO ?aR (fun _ _ h => h) (fun _ h => h.elim) ?aF ?aB ?aS ?aL ?_; (case aR => exact Kd.C_below HR0.out HB16.out); (case aB => exact HB16.out); (case aF => exact (fun _ _ => trivial)); (case aO => exact HO17.out); (case aS => exact (below_size HB16.out)); (case aL => have := HL.out; simp; omega); intro v18 w19 ho20 hb21 hg22 ha23; have BK24 := Aside0.mk (blk_grown BK15.out hg22 (Kd.R_ne HO17.out BK15.out (by decide))); have HB25 := Aside0.mk (hb21); clear BK15 HB16; have HO26 := Aside0.mk ho20; clear ho20 hb21 hg22 ha23 HO17; obtain ⟨A27, c28, e29⟩ := Kd.R_slice HO26.out; subst e29; try simp only [List.nil_append] at HO26)
      | ((with_reducible refine gate_dst (N := 3) rfl ?_); refine box_event ?hg (N := 3) ?hd (cs := #[.int .i64 0, .slice none 0 0, .slice none 0 0, .int .i64 0, .int .i64 0, .int .i64 0, .bool false]) (t := 51) ?hr ?_; (case hd => rfl); (case hg => rfl); (case hr => first | (go_simp; done) | (go_simp; rfl)); intro g30 hg32 w31 hx33 hb34; have NE35 := Aside0.mk (show g1 ≠ g30 by rw [hg32]; exact Nat.ne_of_lt (blk_lt BK24.out)); have NE36 := Aside0.mk (Ne.symm NE35.out); have GE37 := Aside0.mk (show w.heap.size ≤ g30 by rw [hg32]; exact below_size HB25.out); have BK38 := Aside0.mk (blk_below BK24.out hb34); have HO39 := Aside0.mk (Kd.R_below HO26.out hb34); have HB40 := Aside0.mk (below_step HB25.out hb34); clear BK24 HO26 HB25; have BK41 := Aside0.mk hx33; clear hg32 hx33 hb34; have hcq42_0 : w31.cell? ⟨g30, 0, none⟩ = some (.int .i64 0) := (blk_cell BK41.out 0).trans rfl; have hcq42_1 : w31.cell? ⟨g30, 1, none⟩ = some (.slice none 0 0) := (blk_cell BK41.out 1).trans rfl; have hcq42_2 : w31.cell? ⟨g30, 2, none⟩ = some (.slice none 0 0) := (blk_cell BK41.out 2).trans rfl; have hcq42_3 : w31.cell? ⟨g30, 3, none⟩ = some (.int .i64 0) := (blk_cell BK41.out 3).trans rfl; have hcq42_4 : w31.cell? ⟨g30, 4, none⟩ = some (.int .i64 0) := (blk_cell BK41.out 4).trans rfl; have hcq42_5 : w31.cell? ⟨g30, 5, none⟩ = some (.int .i64 0) := (blk_cell BK41.out 5).trans rfl; have hcq42_6 : w31.cell? ⟨g30, 6, none⟩ = some (.bool false) := (blk_cell BK41.out 6).trans rfl; have hfq42_0 := blk_frozen BK41.out 0; have hfq42_1 := blk_frozen BK41.out 1; have hfq42_2 := blk_frozen BK41.out 2; have hfq42_3 := blk_frozen BK41.out 3; have hfq42_4 := blk_frozen BK41.out 4; have hfq42_5 := blk_frozen BK41.out 5; have hfq42_6 := blk_frozen BK41.out 6))
  generalize hW44 : World.setCell _ _ _ = w43
  have BK45 : Aside0 (w43.heap[g1]? = some (.cells #[.int .i64 0, .slice none 0 0, .slice none 0 0, .int .i64 0, .int .i64 0, .int .i64 0, .bool false] 51 (0, 0))) := ⟨by rw [← hW44]; refine blk_far ?_ NE35.out _; refine blk_far ?_ NE35.out _; refine blk_far ?_ NE35.out _; refine blk_far ?_ NE35.out _; refine blk_far ?_ NE35.out _; refine blk_far ?_ NE35.out _; refine blk_far ?_ NE35.out _; exact BK38.out⟩
  have BK46 : Aside0 (w43.heap[g30]? = some (.cells #[.int .i64 0, .slice none 0 0, .slice A27 l0.length c28, .int .i64 0, .int .i64 0, .int .i64 0, .bool false] 51 (0, 0))) := ⟨by rw [← hW44]; refine blk_put (cs := #[.int .i64 0, .slice none 0 0, .slice A27 l0.length c28, .int .i64 0, .int .i64 0, .int .i64 0, .bool false]) ?_ 6 _ rfl; refine blk_put (cs := #[.int .i64 0, .slice none 0 0, .slice A27 l0.length c28, .int .i64 0, .int .i64 0, .int .i64 0, .bool false]) ?_ 5 _ rfl; refine blk_put (cs := #[.int .i64 0, .slice none 0 0, .slice A27 l0.length c28, .int .i64 0, .int .i64 0, .int .i64 0, .bool false]) ?_ 4 _ rfl; refine blk_put (cs := #[.int .i64 0, .slice none 0 0, .slice A27 l0.length c28, .int .i64 0, .int .i64 0, .int .i64 0, .bool false]) ?_ 3 _ rfl; refine blk_put (cs := #[.int .i64 0, .slice none 0 0, .slice none 0 0, .int .i64 0, .int .i64 0, .int .i64 0, .bool false]) ?_ 2 _ rfl; refine blk_put (cs := #[.int .i64 0, .slice none 0 0, .slice none 0 0, .int .i64 0, .int .i64 0, .int .i64 0, .bool false]) ?_ 1 _ rfl; refine blk_put (cs := #[.int .i64 0, .slice none 0 0, .slice none 0 0, .int .i64 0, .int .i64 0, .int .i64 0, .bool false]) ?_ 0 _ rfl; exact BK41.out⟩
  have HO47 : Aside0 (Kd.R (Kd.int .i64) 2 w43 w.heap.size (fun _ => True) (.slice A27 l0.length c28) (l0)) := ⟨by rw [← hW44]; exact Kd.R_mono (Kd.R_far (p := ⟨g30, 6, none⟩) (Kd.R_far (p := ⟨g30, 5, none⟩) (Kd.R_far (p := ⟨g30, 4, none⟩) (Kd.R_far (p := ⟨g30, 3, none⟩) (Kd.R_far (p := ⟨g30, 2, none⟩) (Kd.R_far (p := ⟨g30, 1, none⟩) (Kd.R_far (p := ⟨g30, 0, none⟩) (Kd.R_types HO39.out BK41.out (by decide)) (fun _ hk => hk.2) (.int .i64 0)) (fun _ hk => hk.2) (.slice none 0 0)) (fun _ hk => hk.2) (.slice A27 l0.length c28)) (fun _ hk => hk.2) (.int .i64 0)) (fun _ hk => hk.2) (.int .i64 0)) (fun _ hk => hk.2) (.int .i64 0)) (fun _ hk => hk.2) (.bool false)) (fun _ _ => trivial)⟩
  have HB48 : Aside0 (Below w.heap.size w w43) := ⟨by rw [← hW44]; exact (below_set (below_set (below_set (below_set (below_set (below_set (below_set HB40.out GE37.out) GE37.out) GE37.out) GE37.out) GE37.out) GE37.out) GE37.out)⟩
  clear BK38 BK41 HO39 HB40 hW44
  go_loopg [4] 25 (fun kq v4 w' => ∃ (i : Nat) (Ar : Option Addr) (cr : Nat), v4 = .int .i64 (i : Int) ∧ Aside0 (24 ≤ i + kq ∧ i ≤ 24 ∧ kq ≤ 25) ∧ Aside0 (w'.heap[g1]? = some (.cells #[.int .i64 0, .slice none 0 0, .slice none 0 0, .int .i64 0, .int .i64 0, .int .i64 0, .bool false] 51 (0, 0))) ∧ Aside0 (w'.heap[g30]? = some (.cells #[.int .i64 0, .slice Ar i cr, .slice A27 l0.length c28, .int .i64 0, .int .i64 0, .int .i64 0, .bool false] 51 (0, 0))) ∧ Aside0 (Kd.R (Kd.int .i64) 2 w' w.heap.size (fun k_ => True ∧ some k_ ≠ (.slice Ar i cr : Value).ownBlock) (.slice A27 l0.length c28) l0) ∧ Aside0 (Kd.R (Kd.int .i64) 2 w' w.heap.size (fun k_ => some k_ ≠ (.slice A27 l0.length c28 : Value).ownBlock) (.slice Ar i cr) (List.replicate i 65535)) ∧ Aside0 (Below w.heap.size w w'))
  case atStart => exact ⟨0, none, 0, rfl, ⟨by omega⟩, BK45, BK46, ⟨Kd.R_mono HO47.out (fun _ _ => by simp [Value.ownBlock])⟩, ⟨Kd.R_nil _ _ _ _ _⟩, ⟨HB48.out⟩⟩
  case round =>
    clear BK45 BK46 HO47 HB48
    obtain ⟨i, Ar, cr, rfl, HK, BKa, BKb, HOc, HOr, HBl⟩ := hrel
    have hcq49_0 : wr.cell? ⟨g30, 0, none⟩ = some (.int .i64 0) := (blk_cell BKb.out 0).trans rfl
    have hcq49_1 : wr.cell? ⟨g30, 1, none⟩ = some (.slice Ar i cr) := (blk_cell BKb.out 1).trans rfl
    have hcq49_2 : wr.cell? ⟨g30, 2, none⟩ = some (.slice A27 l0.length c28) := (blk_cell BKb.out 2).trans rfl
    have hcq49_3 : wr.cell? ⟨g30, 3, none⟩ = some (.int .i64 0) := (blk_cell BKb.out 3).trans rfl
    have hcq49_4 : wr.cell? ⟨g30, 4, none⟩ = some (.int .i64 0) := (blk_cell BKb.out 4).trans rfl
    have hcq49_5 : wr.cell? ⟨g30, 5, none⟩ = some (.int .i64 0) := (blk_cell BKb.out 5).trans rfl
    have hcq49_6 : wr.cell? ⟨g30, 6, none⟩ = some (.bool false) := (blk_cell BKb.out 6).trans rfl
    have hfq49_0 := blk_frozen BKb.out 0
    have hfq49_1 := blk_frozen BKb.out 1
    have hfq49_2 := blk_frozen BKb.out 2
    have hfq49_3 := blk_frozen BKb.out 3
    have hfq49_4 := blk_frozen BKb.out 4
    have hfq49_5 := blk_frozen BKb.out 5
    have hfq49_6 := blk_frozen BKb.out 6
    by_cases hi : i < 24
    · obtain ⟨k1, rfl⟩ : ∃ k1, gk = k1 + 1 := ⟨gk - 1, by have := HK.out; omega⟩
      have hd : decide ((i : Int) < 24) = true := decide_eq_true (by omega)
      have hwr : wrap64 ((i : Int) + 1) = ((i + 1 : Nat) : Int) := by unfold wrap64; omega
      have hd' : decide (i < 24) = true := decide_eq_true hi
      have HI := Aside0.mk hi
      clear hi
      go_wp2_with (first
          | ((with_reducible refine gate_builtin (b := .append) (xs := #[.tmp 14, .tmp 15]) rfl ?_); at_builtin; refine Kd.R_append (Kd.int .i64) (w0 := w) w.heap.size rfl (.tmp 14) (.tmp 15) 22 2 (.int .i64 0) 8 rfl Try.underlying22 info2 rfl (by decide) (by omega) (.slice Ar i cr) (List.replicate i 65535) (65535) [.int .i64 (65535)] (fun k_ => some k_ ≠ (.slice A27 l0.length c28 : Value).ownBlock) (fun _ => False) rfl rfl ?aP (fun _ hk => hk.elim) ?aF ?aO ?aB ?aS ?aL ?_; (case aP => exact rfl); (case aB => exact HBl.out); (case aF => exact (fun k hk e => by have := Kd.R_lt HOc.out k e.symm; omega)); (case aO => exact HOr.out); (case aS => exact (below_size HBl.out)); (case aL => have := HI.out; simp; omega); intro v50 w51 ho52 hb53 hg54 ha55; have BK56 := Aside0.mk (blk_grown BKa.out hg54 (Kd.R_ne HOr.out BKa.out (by decide))); have BK57 := Aside0.mk (blk_grown BKb.out hg54 (Kd.R_ne HOr.out BKb.out (by decide))); have HO58 := Aside0.mk (Kd.R_after HOc.out hg54 ha55); have HB59 := Aside0.mk (hb53); clear BKa BKb HOc HBl; rw [← List.replicate_succ'] at ho52; have HO60 := Aside0.mk ho52; clear ho52 hb53 hg54 HOr; obtain ⟨A61, c62, e63⟩ := Kd.R_slice HO60.out; rw [List.length_replicate] at e63; subst e63; clear ha55; have hcq64_0 : w51.cell? ⟨g30, 0, none⟩ = some (.int .i64 0) := (blk_cell BK57.out 0).trans rfl; have hcq64_1 : w51.cell? ⟨g30, 1, none⟩ = some (.slice Ar i cr) := (blk_cell BK57.out 1).trans rfl; have hcq64_2 : w51.cell? ⟨g30, 2, none⟩ = some (.slice A27 l0.length c28) := (blk_cell BK57.out 2).trans rfl; have hcq64_3 : w51.cell? ⟨g30, 3, none⟩ = some (.int .i64 0) := (blk_cell BK57.out 3).trans rfl; have hcq64_4 : w51.cell? ⟨g30, 4, none⟩ = some (.int .i64 0) := (blk_cell BK57.out 4).trans rfl; have hcq64_5 : w51.cell? ⟨g30, 5, none⟩ = some (.int .i64 0) := (blk_cell BK57.out 5).trans rfl; have hcq64_6 : w51.cell? ⟨g30, 6, none⟩ = some (.bool false) := (blk_cell BK57.out 6).trans rfl; have hfq64_0 := blk_frozen BK57.out 0; have hfq64_1 := blk_frozen BK57.out 1; have hfq64_2 := blk_frozen BK57.out 2; have hfq64_3 := blk_frozen BK57.out 3; have hfq64_4 := blk_frozen BK57.out 4; have hfq64_5 := blk_frozen BK57.out 5; have hfq64_6 := blk_frozen BK57.out 6))
      generalize hW66 : World.setCell _ _ _ = w65
      have BK67 : Aside0 (w65.heap[g1]? = some (.cells #[.int .i64 0, .slice none 0 0, .slice none 0 0, .int .i64 0, .int .i64 0, .int .i64 0, .bool false] 51 (0, 0))) := ⟨by rw [← hW66]; refine blk_far ?_ NE35.out _; exact BK56.out⟩
      have BK68 : Aside0 (w65.heap[g30]? = some (.cells #[.int .i64 0, .slice A61 (i + 1) c62, .slice A27 l0.length c28, .int .i64 0, .int .i64 0, .int .i64 0, .bool false] 51 (0, 0))) := ⟨by rw [← hW66]; refine blk_put (cs := #[.int .i64 0, .slice Ar i cr, .slice A27 l0.length c28, .int .i64 0, .int .i64 0, .int .i64 0, .bool false]) ?_ 1 _ rfl; exact BK57.out⟩
      have HO69 : Aside0 (Kd.R (Kd.int .i64) 2 w65 w.heap.size (fun k_ => True ∧ some k_ ≠ (.slice A61 (i + 1) c62 : Value).ownBlock) (.slice A27 l0.length c28) (l0)) := ⟨by rw [← hW66]; exact Kd.R_mono (Kd.R_far (p := ⟨g30, 1, none⟩) (Kd.R_types HO58.out BK57.out (by decide)) (fun _ hk => hk.2) (.slice A61 (i + 1) c62)) (fun _ hk => hk.1)⟩
      have HO70 : Aside0 (Kd.R (Kd.int .i64) 2 w65 w.heap.size (fun k_ => some k_ ≠ (.slice A27 l0.length c28 : Value).ownBlock) (.slice A61 (i + 1) c62) (List.replicate (i + 1) 65535)) := ⟨by rw [← hW66]; exact Kd.R_mono (Kd.R_far (p := ⟨g30, 1, none⟩) (Kd.R_types HO60.out BK57.out (by decide)) (fun _ hk => hk.2) (.slice A61 (i + 1) c62)) (fun _ hk => hk.1)⟩
      have HB71 : Aside0 (Below w.heap.size w w65) := ⟨by rw [← hW66]; exact (below_set HB59.out GE37.out)⟩
      clear BK56 BK57 HO58 HO60 HB59 hW66
      go_roundg k1
      case measure => omega
      case rel => exact ⟨i + 1, _, _, by rw [← hwr], ⟨by have := HK.out; have := HI.out; omega⟩, BK67, BK68, HO69, HO70, ⟨HB71.out⟩⟩
    · have hd : decide ((i : Int) < 24) = false := decide_eq_false (by omega)
      have hd' : decide (i < 24) = false := decide_eq_false hi
      obtain rfl : i = 24 := by have := HK.out; omega
      have hcq50_0 : wr.cell? ⟨g1, 0, none⟩ = some (.int .i64 0) := (blk_cell BKa.out 0).trans rfl
      have hcq50_1 : wr.cell? ⟨g1, 1, none⟩ = some (.slice none 0 0) := (blk_cell BKa.out 1).trans rfl
      have hcq50_2 : wr.cell? ⟨g1, 2, none⟩ = some (.slice none 0 0) := (blk_cell BKa.out 2).trans rfl
      have hcq50_3 : wr.cell? ⟨g1, 3, none⟩ = some (.int .i64 0) := (blk_cell BKa.out 3).trans rfl
      have hcq50_4 : wr.cell? ⟨g1, 4, none⟩ = some (.int .i64 0) := (blk_cell BKa.out 4).trans rfl
      have hcq50_5 : wr.cell? ⟨g1, 5, none⟩ = some (.int .i64 0) := (blk_cell BKa.out 5).trans rfl
      have hcq50_6 : wr.cell? ⟨g1, 6, none⟩ = some (.bool false) := (blk_cell BKa.out 6).trans rfl
      have hfq50_0 := blk_frozen BKa.out 0
      have hfq50_1 := blk_frozen BKa.out 1
      have hfq50_2 := blk_frozen BKa.out 2
      have hfq50_3 := blk_frozen BKa.out 3
      have hfq50_4 := blk_frozen BKa.out 4
      have hfq50_5 := blk_frozen BKa.out 5
      have hfq50_6 := blk_frozen BKa.out 6
      go_wp2_with fail
      generalize hW52 : World.setCell _ _ _ = w51
      have BK53 : Aside0 (w51.heap[g1]? = some (.cells #[.int .i64 0, .slice Ar 24 cr, .slice A27 l0.length c28, .int .i64 0, .int .i64 0, .int .i64 0, .bool false] 51 (0, 0))) := ⟨by rw [← hW52]; refine blk_put (cs := #[.int .i64 0, .slice Ar 24 cr, .slice A27 l0.length c28, .int .i64 0, .int .i64 0, .int .i64 0, .bool false]) ?_ 6 _ rfl; refine blk_put (cs := #[.int .i64 0, .slice Ar 24 cr, .slice A27 l0.length c28, .int .i64 0, .int .i64 0, .int .i64 0, .bool false]) ?_ 5 _ rfl; refine blk_put (cs := #[.int .i64 0, .slice Ar 24 cr, .slice A27 l0.length c28, .int .i64 0, .int .i64 0, .int .i64 0, .bool false]) ?_ 4 _ rfl; refine blk_put (cs := #[.int .i64 0, .slice Ar 24 cr, .slice A27 l0.length c28, .int .i64 0, .int .i64 0, .int .i64 0, .bool false]) ?_ 3 _ rfl; refine blk_put (cs := #[.int .i64 0, .slice Ar 24 cr, .slice none 0 0, .int .i64 0, .int .i64 0, .int .i64 0, .bool false]) ?_ 2 _ rfl; refine blk_put (cs := #[.int .i64 0, .slice none 0 0, .slice none 0 0, .int .i64 0, .int .i64 0, .int .i64 0, .bool false]) ?_ 1 _ rfl; refine blk_put (cs := #[.int .i64 0, .slice none 0 0, .slice none 0 0, .int .i64 0, .int .i64 0, .int .i64 0, .bool false]) ?_ 0 _ rfl; exact BKa.out⟩
      have BK54 : Aside0 (w51.heap[g30]? = some (.cells #[.int .i64 0, .slice Ar 24 cr, .slice A27 l0.length c28, .int .i64 0, .int .i64 0, .int .i64 0, .bool false] 51 (0, 0))) := ⟨by rw [← hW52]; refine blk_far ?_ NE36.out _; refine blk_far ?_ NE36.out _; refine blk_far ?_ NE36.out _; refine blk_far ?_ NE36.out _; refine blk_far ?_ NE36.out _; refine blk_far ?_ NE36.out _; refine blk_far ?_ NE36.out _; exact BKb.out⟩
      have HO55 : Aside0 (Kd.R (Kd.int .i64) 2 w51 w.heap.size (fun k_ => True ∧ some k_ ≠ (.slice Ar 24 cr : Value).ownBlock) (.slice A27 l0.length c28) (l0)) := ⟨by rw [← hW52]; exact Kd.R_mono (Kd.R_far (p := ⟨g1, 6, none⟩) (Kd.R_far (p := ⟨g1, 5, none⟩) (Kd.R_far (p := ⟨g1, 4, none⟩) (Kd.R_far (p := ⟨g1, 3, none⟩) (Kd.R_far (p := ⟨g1, 2, none⟩) (Kd.R_far (p := ⟨g1, 1, none⟩) (Kd.R_far (p := ⟨g1, 0, none⟩) (Kd.R_types HOc.out BKa.out (by decide)) (fun _ hk => hk.2) (.int .i64 0)) (fun _ hk => hk.2) (.slice Ar 24 cr)) (fun _ hk => hk.2) (.slice A27 l0.length c28)) (fun _ hk => hk.2) (.int .i64 0)) (fun _ hk => hk.2) (.int .i64 0)) (fun _ hk => hk.2) (.int .i64 0)) (fun _ hk => hk.2) (.bool false)) (fun _ hk => hk.1)⟩
      have HO56 : Aside0 (Kd.R (Kd.int .i64) 2 w51 w.heap.size (fun k_ => some k_ ≠ (.slice A27 l0.length c28 : Value).ownBlock) (.slice Ar 24 cr) (List.replicate 24 65535)) := ⟨by rw [← hW52]; exact Kd.R_mono (Kd.R_far (p := ⟨g1, 6, none⟩) (Kd.R_far (p := ⟨g1, 5, none⟩) (Kd.R_far (p := ⟨g1, 4, none⟩) (Kd.R_far (p := ⟨g1, 3, none⟩) (Kd.R_far (p := ⟨g1, 2, none⟩) (Kd.R_far (p := ⟨g1, 1, none⟩) (Kd.R_far (p := ⟨g1, 0, none⟩) (Kd.R_types HOr.out BKa.out (by decide)) (fun _ hk => hk.2) (.int .i64 0)) (fun _ hk => hk.2) (.slice Ar 24 cr)) (fun _ hk => hk.2) (.slice A27 l0.length c28)) (fun _ hk => hk.2) (.int .i64 0)) (fun _ hk => hk.2) (.int .i64 0)) (fun _ hk => hk.2) (.int .i64 0)) (fun _ hk => hk.2) (.bool false)) (fun _ hk => hk.1)⟩
      have HB57 : Aside0 (Below w.heap.size w w51) := ⟨by rw [← hW52]; exact (below_set (below_set (below_set (below_set (below_set (below_set (below_set HBl.out GE6.out) GE6.out) GE6.out) GE6.out) GE6.out) GE6.out) GE6.out)⟩
      clear BKa BKb HOc HOr HBl hW52
      refine bodyPost_ret (results_cell_row rfl _ _ g1 51 #[.int .i64 0, .slice Ar 24 cr, .slice A27 l0.length c28, .int .i64 0, .int .i64 0, .int .i64 0, .bool false] (0, 0) _ rfl BK53.out hu51 rfl (by kernel_rfl)) rfl ?_
      exact ⟨_, _, rfl, HO56.out, Kd.R_mono HO55.out (fun _ hk => hk.2), HB57.out⟩

end Go.Proofs.Ytklhfhnplldgjaa.XFnExactStartRegs
