/- Machine side of the law FnExactCellsOf: for each Go function that it reaches, a Lean function with the same answers and the proof that the call comes to them. Conditions: what the arguments lead to reads as the lists that each contract is told of. Some functions are told by hand, the others by the kit's print.py under wip/ext.py. -/
import Derived.Test.YtlokckgkbhmkmaaXFnExactCellsOfx0
import Derived.Test.YtlokckgkbhmkmaaXFnExactCellsOfx1
import Derived.Test.YtlokckgkbhmkmaaXFnExactCellsOfx2
import Derived.Test.YtlokckgkbhmkmaaXFnExactCellsOfx3
import Derived.Test.YtlokckgkbhmkmaaXFnExactCellsOfx4
import Derived.Test.YtlokckgkbhmkmaaXFnExactCellsOfx5
namespace Go.Proofs.Ytlokckgkbhmkmaa.XFnExactCellsOf
open Go.RowKit Go.Proofs.YtlokckgkbhmkmaaW.PrintWords Go.Proofs.YtlokckgkbhmkmaaW.PrintLast
attribute [local go_sem] max2_int min2_int max_two min_two   -- for this text's walks alone
set_option linter.unusedVariables false
set_option linter.unusedSimpArgs false

/-! ### LIB ownof -/
theorem mkV_take (op : Int) (s : ByteArray) (j : Nat) (b : UInt8) (h : (letters op)[j]? = some b) : (ownV op s).take (j + 1) = (ownV op s).take j ++ [mkV s b] := by
  obtain ⟨hj, e⟩ := List.getElem?_eq_some_iff.1 h
  unfold ownV
  rw [← List.map_take, ← List.map_take, List.take_succ_eq_append_getElem hj, List.map_append, e]
  rfl
set_option maxHeartbeats 4000000 in
set_option maxRecDepth 100000 in
theorem o_ownOf (d0 d1 : Int) (d2 : ByteArray) (d3 d4 : Int) (A5 : Option Addr) (n5 c5 : Nat) (A6 : Option Addr) (n6 c6 : Nat) (A7 : Option Addr) (n7 c7 : Nat) (hd : 1 ≤ d1 ∧ d1 ≤ 4) (hds : d2.size ≤ 1048576) (w : World) :
    Calls Try.prog 218 #[.agg #[.int .i64 d0, .int .i64 d1, .string d2, .int .i64 d3, .int .i64 d4, .slice A5 n5 c5, .slice A6 n6 c6, .slice A7 n7 c7]] w fun e w' => ∃ v : Value, e = .returned v ∧ Kd.R k125 125 w' w.heap.size (fun _ => True) v (ownV d1 d2) ∧ Below w.heap.size w w' := by
  have hu := Try.underlying134
  have huv := Try.underlying125
  have hsq : (9223372036854775807 < d2.size + 1) = False := eq_false (by omega)
  have hz : d1 = 1 ∨ d1 = 2 ∨ d1 = 3 ∨ d1 = 4 := by omega
  clear hd
  rcases hz with rfl | rfl | rfl | rfl
  · go_enter Try.func218, Try.ntmps218
    go_wp2
    go_loopg [4, 15] 3 (fun gg s4 s15 wr => ∃ (j : Nat) (Ao : Option Addr) (co : Nat), s4 = .slice Ao j co ∧ s15 = .int .i64 (j : Int) ∧ Aside0 (j ≤ 3 ∧ 3 - j ≤ gg) ∧ Aside0 (Kd.R k125 125 wr (w.heap.size + 1) (fun _ => True) (.slice Ao j co) ((ownV 1 d2).take j)) ∧ Aside0 (wr.heap[w.heap.size]? = some (.cells #[.int .i64 d0, .int .i64 1, .string d2, .int .i64 d3, .int .i64 d4, .slice A5 n5 c5, .slice A6 n6 c6, .slice A7 n7 c7] 134 (0, 0))) ∧ Aside0 (Below w.heap.size w wr))
    case atStart =>
      have hs1 : (w.alloc (.cells #[.int .i64 d0, .int .i64 1, .string d2, .int .i64 d3, .int .i64 d4, .slice A5 n5 c5, .slice A6 n6 c6, .slice A7 n7 c7] 134)).heap.size = w.heap.size + 1 := by simp
      have hs2 : ((w.alloc (.cells #[.int .i64 d0, .int .i64 1, .string d2, .int .i64 d3, .int .i64 d4, .slice A5 n5 c5, .slice A6 n6 c6, .slice A7 n7 c7] 134)).alloc (.cells #[.string ⟨#[]⟩, .string ⟨#[118, 109, 113]⟩, .string ⟨#[118, 113]⟩, .string ⟨#[109, 113]⟩, .string ⟨#[113]⟩] 9)).heap.size = w.heap.size + 1 + 1 := by simp
      have ho := var_lit ((w.alloc (.cells #[.int .i64 d0, .int .i64 1, .string d2, .int .i64 d3, .int .i64 d4, .slice A5 n5 c5, .slice A6 n6 c6, .slice A7 n7 c7] 134)).alloc (.cells #[.string ⟨#[]⟩, .string ⟨#[118, 109, 113]⟩, .string ⟨#[118, 113]⟩, .string ⟨#[109, 113]⟩, .string ⟨#[113]⟩] 9)) (w.heap.size + 1) (by rw [hs2]; omega) [] (by simp)
      rw [hs2] at ho
      exact ⟨0, _, _, rfl, rfl, ⟨by omega⟩, ⟨ho⟩, ⟨by first | exact blk_alloc (blk_alloc (blk_new w _) _) _ | simp⟩, ⟨(((Below.refl _ _).alloc (Nat.le_refl _) _).alloc (by rw [hs1]; omega) _).alloc (by rw [hs2]; omega) _⟩⟩
    case round =>
      obtain ⟨wo, rfl⟩ : ∃ wo : World, wo = wr := ⟨_, rfl⟩
      obtain ⟨j, Ao, co, rfl, rfl, HK, HO, BKT, HB⟩ := hrel
      have q2 : wo.cell? ⟨w.heap.size, 2, none⟩ = some (.string d2) := (blk_cell BKT.out 2).trans rfl
      by_cases hj : j < 3
      · have hzj : j = 0 ∨ j = 1 ∨ j = 2 := by omega
        rcases hzj with rfl | rfl | rfl
        · have hw : IntKind.i64.wrap 1 = 1 := by rw [IntKind.wrap_i64]; rfl
          have hex : (⟨#[118, 109, 113]⟩ : ByteArray).extract 0 1 = ⟨#[118]⟩ := rfl
          have HO1 := Aside0.mk (show Kd.R k125 125 wo (w.heap.size + 1) (fun _ => True) (.slice Ao 0 co) [] from HO.out)
          go_wp2_with fail
          go_region_held3 (fun w' => w'.cell? ⟨w.heap.size, 2, none⟩ = some (.string d2)) (go_keep) (fail)
          all_goals
            try rw [hex]
            have BX := Aside0.mk (blk_drew (blk_new wo (.cells #[.string (d2 ++ ⟨#[118]⟩), .int .i64 3, .int .i64 2, .int .i64 0] 125)))
            have HX := Aside0.mk (below_drew ((Below.refl wo.heap.size wo).alloc (Nat.le_refl _) (.cells #[.string (d2 ++ ⟨#[118]⟩), .int .i64 3, .int .i64 2, .int .i64 0] 125)))
            revert BX HX
            generalize (wo.alloc (.cells #[.string (d2 ++ ⟨#[118]⟩), .int .i64 3, .int .i64 2, .int .i64 0] 125)).drew = wx
            intro BX HX
            have HOx := Aside0.mk (Kd.R_below HO1.out HX.out)
            have HBx := Aside0.mk (below_step HB.out HX.out)
            have HZx := Aside0.mk (blk_lt BKT.out)
            have BTx := Aside0.mk (blk_below BKT.out HX.out)
            clear q2
            have x0 : wx.cell? ⟨wo.heap.size, 0, none⟩ = some (.string (d2 ++ ⟨#[118]⟩)) := (blk_cell BX.out 0).trans rfl
            have x1 : wx.cell? ⟨wo.heap.size, 1, none⟩ = some (.int .i64 3) := (blk_cell BX.out 1).trans rfl
            have x2 : wx.cell? ⟨wo.heap.size, 2, none⟩ = some (.int .i64 2) := (blk_cell BX.out 2).trans rfl
            have x3 : wx.cell? ⟨wo.heap.size, 3, none⟩ = some (.int .i64 0) := (blk_cell BX.out 3).trans rfl
            have hfz := blk_frozen BX.out 2
            have HOz := Aside0.mk (Kd.R_mono (Kd.R_far (p := ⟨wo.heap.size, 2, none⟩) (Kd.R_below (Kd.R_mono (Kd.R_bound HO1.out) (fun k hk => (show k ≠ wo.heap.size from fun e => by have := hk.2.2.1; omega))) HX.out) (fun k hk => hk) (.int .i64 1)) (fun _ _ => trivial) : Kd.R k125 125 (wx.setCell ⟨wo.heap.size, 2, none⟩ (.int .i64 1)) (w.heap.size + 1) (fun _ => True) (.slice Ao 0 co) [])
            have HXs := Aside0.mk (Below.setCell HX.out (Nat.le_refl _) _ : Below wo.heap.size wo (wx.setCell ⟨wo.heap.size, 2, none⟩ (.int .i64 1)))
            have HXz := Aside0.mk (HXs.out.mono (show w.heap.size + 1 ≤ wo.heap.size from HZx.out))
            have BTz := Aside0.mk (blk_far (p := ⟨wo.heap.size, 2, none⟩) BTx.out (show w.heap.size ≠ wo.heap.size from fun e => by have := HZx.out; omega) (.int .i64 1))
            go_wp2_with ((with_reducible refine gate_builtin (b := .append) (xs := #[.tmp 32, .tmp 34]) rfl ?_); at_builtin; refine Kd.R_append k125 (w0 := wo) (W := (wx.setCell ⟨wo.heap.size, 2, none⟩ (.int .i64 1))) (w.heap.size + 1) ?_ (.tmp 32) (.tmp 34) 65 125 _ 40 ?_ Try.underlying65 info125 ?_ ?_ ?_ (.slice Ao 0 co) [] (mkV d2 118) [.string (d2 ++ ⟨#[118]⟩), .int .i64 3, .int .i64 1, .int .i64 0] (fun _ => True) (fun _ => False) ?_ ?_ ?_ ?_ ?_ ?_ ?_ ?_ ?_ ?_; rfl; rfl; rfl; decide; omega; rfl; (first | rfl | simp [Act.eval]); exact k125_mkM _ _ _ (mkV d2 118); exact (fun _ hk => hk.elim); exact (fun _ _ => trivial); exact HOz.out; exact HXz.out; (have h1 := below_size HXs.out; have h2 := HZx.out; omega); simp; intro v1 w2 ho hb hg ha; have BK3 := Aside0.mk (blk_grown BTz.out hg (fun e => by have := Kd.R_base HOz.out _ e.symm; omega)); clear hg ha; obtain ⟨A9, c9, e9⟩ := Kd.R_slice ho; have e9 : v1 = .slice A9 1 c9 := e9; subst e9; have HO3 := Aside0.mk ho; have HB3 := Aside0.mk (HB.out.trans (hb.mono (Nat.le_succ _))); clear ho hb)
            go_roundg (3 - 1)
            case measure => have := HK.out; omega
            case rel => exact ⟨1, A9, c9, rfl, by go_num, ⟨by omega⟩, HO3, BK3, HB3⟩
        · have hw : IntKind.i64.wrap 2 = 2 := by rw [IntKind.wrap_i64]; rfl
          have hex : (⟨#[118, 109, 113]⟩ : ByteArray).extract 1 2 = ⟨#[109]⟩ := rfl
          have HO1 := Aside0.mk (show Kd.R k125 125 wo (w.heap.size + 1) (fun _ => True) (.slice Ao 1 co) [mkV d2 118] from HO.out)
          go_wp2_with fail
          go_region_held3 (fun w' => w'.cell? ⟨w.heap.size, 2, none⟩ = some (.string d2)) (go_keep) (fail)
          all_goals
            try rw [hex]
            have BX := Aside0.mk (blk_drew (blk_new wo (.cells #[.string (d2 ++ ⟨#[109]⟩), .int .i64 3, .int .i64 2, .int .i64 0] 125)))
            have HX := Aside0.mk (below_drew ((Below.refl wo.heap.size wo).alloc (Nat.le_refl _) (.cells #[.string (d2 ++ ⟨#[109]⟩), .int .i64 3, .int .i64 2, .int .i64 0] 125)))
            revert BX HX
            generalize (wo.alloc (.cells #[.string (d2 ++ ⟨#[109]⟩), .int .i64 3, .int .i64 2, .int .i64 0] 125)).drew = wx
            intro BX HX
            have HOx := Aside0.mk (Kd.R_below HO1.out HX.out)
            have HBx := Aside0.mk (below_step HB.out HX.out)
            have HZx := Aside0.mk (blk_lt BKT.out)
            have BTx := Aside0.mk (blk_below BKT.out HX.out)
            clear q2
            have x0 : wx.cell? ⟨wo.heap.size, 0, none⟩ = some (.string (d2 ++ ⟨#[109]⟩)) := (blk_cell BX.out 0).trans rfl
            have x1 : wx.cell? ⟨wo.heap.size, 1, none⟩ = some (.int .i64 3) := (blk_cell BX.out 1).trans rfl
            have x2 : wx.cell? ⟨wo.heap.size, 2, none⟩ = some (.int .i64 2) := (blk_cell BX.out 2).trans rfl
            have x3 : wx.cell? ⟨wo.heap.size, 3, none⟩ = some (.int .i64 0) := (blk_cell BX.out 3).trans rfl
            have HXs := HX
            have HOz := HOx
            have BTz := BTx
            have HXz := Aside0.mk (HX.out.mono (show w.heap.size + 1 ≤ wo.heap.size from HZx.out))
            go_wp2_with ((with_reducible refine gate_builtin (b := .append) (xs := #[.tmp 32, .tmp 34]) rfl ?_); at_builtin; refine Kd.R_append k125 (w0 := wo) (W := wx) (w.heap.size + 1) ?_ (.tmp 32) (.tmp 34) 65 125 _ 40 ?_ Try.underlying65 info125 ?_ ?_ ?_ (.slice Ao 1 co) [mkV d2 118] (mkV d2 109) [.string (d2 ++ ⟨#[109]⟩), .int .i64 3, .int .i64 2, .int .i64 0] (fun _ => True) (fun _ => False) ?_ ?_ ?_ ?_ ?_ ?_ ?_ ?_ ?_ ?_; rfl; rfl; rfl; decide; omega; rfl; (first | rfl | simp [Act.eval]); exact k125_mkM _ _ _ (mkV d2 109); exact (fun _ hk => hk.elim); exact (fun _ _ => trivial); exact HOz.out; exact HXz.out; (have h1 := below_size HXs.out; have h2 := HZx.out; omega); simp; intro v1 w2 ho hb hg ha; have BK3 := Aside0.mk (blk_grown BTz.out hg (fun e => by have := Kd.R_base HOz.out _ e.symm; omega)); clear hg ha; obtain ⟨A9, c9, e9⟩ := Kd.R_slice ho; have e9 : v1 = .slice A9 2 c9 := e9; subst e9; have HO3 := Aside0.mk ho; have HB3 := Aside0.mk (HB.out.trans (hb.mono (Nat.le_succ _))); clear ho hb)
            go_roundg (3 - 2)
            case measure => have := HK.out; omega
            case rel => exact ⟨2, A9, c9, rfl, by go_num, ⟨by omega⟩, HO3, BK3, HB3⟩
        · have hw : IntKind.i64.wrap 3 = 3 := by rw [IntKind.wrap_i64]; rfl
          have hex : (⟨#[118, 109, 113]⟩ : ByteArray).extract 2 3 = ⟨#[113]⟩ := rfl
          have HO1 := Aside0.mk (show Kd.R k125 125 wo (w.heap.size + 1) (fun _ => True) (.slice Ao 2 co) [mkV d2 118, mkV d2 109] from HO.out)
          go_wp2_with fail
          go_region_held3 (fun w' => w'.cell? ⟨w.heap.size, 2, none⟩ = some (.string d2)) (go_keep) (fail)
          all_goals
            try rw [hex]
            have BX := Aside0.mk (blk_drew (blk_new wo (.cells #[.string (d2 ++ ⟨#[113]⟩), .int .i64 3, .int .i64 2, .int .i64 0] 125)))
            have HX := Aside0.mk (below_drew ((Below.refl wo.heap.size wo).alloc (Nat.le_refl _) (.cells #[.string (d2 ++ ⟨#[113]⟩), .int .i64 3, .int .i64 2, .int .i64 0] 125)))
            revert BX HX
            generalize (wo.alloc (.cells #[.string (d2 ++ ⟨#[113]⟩), .int .i64 3, .int .i64 2, .int .i64 0] 125)).drew = wx
            intro BX HX
            have HOx := Aside0.mk (Kd.R_below HO1.out HX.out)
            have HBx := Aside0.mk (below_step HB.out HX.out)
            have HZx := Aside0.mk (blk_lt BKT.out)
            have BTx := Aside0.mk (blk_below BKT.out HX.out)
            clear q2
            have x0 : wx.cell? ⟨wo.heap.size, 0, none⟩ = some (.string (d2 ++ ⟨#[113]⟩)) := (blk_cell BX.out 0).trans rfl
            have x1 : wx.cell? ⟨wo.heap.size, 1, none⟩ = some (.int .i64 3) := (blk_cell BX.out 1).trans rfl
            have x2 : wx.cell? ⟨wo.heap.size, 2, none⟩ = some (.int .i64 2) := (blk_cell BX.out 2).trans rfl
            have x3 : wx.cell? ⟨wo.heap.size, 3, none⟩ = some (.int .i64 0) := (blk_cell BX.out 3).trans rfl
            have HXs := HX
            have HOz := HOx
            have BTz := BTx
            have HXz := Aside0.mk (HX.out.mono (show w.heap.size + 1 ≤ wo.heap.size from HZx.out))
            go_wp2_with ((with_reducible refine gate_builtin (b := .append) (xs := #[.tmp 32, .tmp 34]) rfl ?_); at_builtin; refine Kd.R_append k125 (w0 := wo) (W := wx) (w.heap.size + 1) ?_ (.tmp 32) (.tmp 34) 65 125 _ 40 ?_ Try.underlying65 info125 ?_ ?_ ?_ (.slice Ao 2 co) [mkV d2 118, mkV d2 109] (mkV d2 113) [.string (d2 ++ ⟨#[113]⟩), .int .i64 3, .int .i64 2, .int .i64 0] (fun _ => True) (fun _ => False) ?_ ?_ ?_ ?_ ?_ ?_ ?_ ?_ ?_ ?_; rfl; rfl; rfl; decide; omega; rfl; (first | rfl | simp [Act.eval]); exact k125_mkM _ _ _ (mkV d2 113); exact (fun _ hk => hk.elim); exact (fun _ _ => trivial); exact HOz.out; exact HXz.out; (have h1 := below_size HXs.out; have h2 := HZx.out; omega); simp; intro v1 w2 ho hb hg ha; have BK3 := Aside0.mk (blk_grown BTz.out hg (fun e => by have := Kd.R_base HOz.out _ e.symm; omega)); clear hg ha; obtain ⟨A9, c9, e9⟩ := Kd.R_slice ho; have e9 : v1 = .slice A9 3 c9 := e9; subst e9; have HO3 := Aside0.mk ho; have HB3 := Aside0.mk (HB.out.trans (hb.mono (Nat.le_succ _))); clear ho hb)
            go_roundg (3 - 3)
            case measure => have := HK.out; omega
            case rel => exact ⟨3, A9, c9, rfl, by go_num, ⟨by omega⟩, HO3, BK3, HB3⟩
      · have hn : j = 3 := by have := HK.out; omega
        subst hn
        have HO1 := Aside0.mk (show Kd.R k125 125 wo (w.heap.size + 1) (fun _ => True) (.slice Ao 3 co) (ownV 1 d2) from HO.out)
        go_wp2
        go_ret
        exact ⟨_, rfl, Kd.R_lower HO1.out (by omega), HB.out⟩
  · go_enter Try.func218, Try.ntmps218
    go_wp2
    go_loopg [4, 15] 2 (fun gg s4 s15 wr => ∃ (j : Nat) (Ao : Option Addr) (co : Nat), s4 = .slice Ao j co ∧ s15 = .int .i64 (j : Int) ∧ Aside0 (j ≤ 2 ∧ 2 - j ≤ gg) ∧ Aside0 (Kd.R k125 125 wr (w.heap.size + 1) (fun _ => True) (.slice Ao j co) ((ownV 2 d2).take j)) ∧ Aside0 (wr.heap[w.heap.size]? = some (.cells #[.int .i64 d0, .int .i64 2, .string d2, .int .i64 d3, .int .i64 d4, .slice A5 n5 c5, .slice A6 n6 c6, .slice A7 n7 c7] 134 (0, 0))) ∧ Aside0 (Below w.heap.size w wr))
    case atStart =>
      have hs1 : (w.alloc (.cells #[.int .i64 d0, .int .i64 2, .string d2, .int .i64 d3, .int .i64 d4, .slice A5 n5 c5, .slice A6 n6 c6, .slice A7 n7 c7] 134)).heap.size = w.heap.size + 1 := by simp
      have hs2 : ((w.alloc (.cells #[.int .i64 d0, .int .i64 2, .string d2, .int .i64 d3, .int .i64 d4, .slice A5 n5 c5, .slice A6 n6 c6, .slice A7 n7 c7] 134)).alloc (.cells #[.string ⟨#[]⟩, .string ⟨#[118, 109, 113]⟩, .string ⟨#[118, 113]⟩, .string ⟨#[109, 113]⟩, .string ⟨#[113]⟩] 9)).heap.size = w.heap.size + 1 + 1 := by simp
      have ho := var_lit ((w.alloc (.cells #[.int .i64 d0, .int .i64 2, .string d2, .int .i64 d3, .int .i64 d4, .slice A5 n5 c5, .slice A6 n6 c6, .slice A7 n7 c7] 134)).alloc (.cells #[.string ⟨#[]⟩, .string ⟨#[118, 109, 113]⟩, .string ⟨#[118, 113]⟩, .string ⟨#[109, 113]⟩, .string ⟨#[113]⟩] 9)) (w.heap.size + 1) (by rw [hs2]; omega) [] (by simp)
      rw [hs2] at ho
      exact ⟨0, _, _, rfl, rfl, ⟨by omega⟩, ⟨ho⟩, ⟨by first | exact blk_alloc (blk_alloc (blk_new w _) _) _ | simp⟩, ⟨(((Below.refl _ _).alloc (Nat.le_refl _) _).alloc (by rw [hs1]; omega) _).alloc (by rw [hs2]; omega) _⟩⟩
    case round =>
      obtain ⟨wo, rfl⟩ : ∃ wo : World, wo = wr := ⟨_, rfl⟩
      obtain ⟨j, Ao, co, rfl, rfl, HK, HO, BKT, HB⟩ := hrel
      have q2 : wo.cell? ⟨w.heap.size, 2, none⟩ = some (.string d2) := (blk_cell BKT.out 2).trans rfl
      by_cases hj : j < 2
      · have hzj : j = 0 ∨ j = 1 := by omega
        rcases hzj with rfl | rfl
        · have hw : IntKind.i64.wrap 1 = 1 := by rw [IntKind.wrap_i64]; rfl
          have hex : (⟨#[118, 113]⟩ : ByteArray).extract 0 1 = ⟨#[118]⟩ := rfl
          have HO1 := Aside0.mk (show Kd.R k125 125 wo (w.heap.size + 1) (fun _ => True) (.slice Ao 0 co) [] from HO.out)
          go_wp2_with fail
          go_region_held3 (fun w' => w'.cell? ⟨w.heap.size, 2, none⟩ = some (.string d2)) (go_keep) (fail)
          all_goals
            try rw [hex]
            have BX := Aside0.mk (blk_drew (blk_new wo (.cells #[.string (d2 ++ ⟨#[118]⟩), .int .i64 3, .int .i64 2, .int .i64 0] 125)))
            have HX := Aside0.mk (below_drew ((Below.refl wo.heap.size wo).alloc (Nat.le_refl _) (.cells #[.string (d2 ++ ⟨#[118]⟩), .int .i64 3, .int .i64 2, .int .i64 0] 125)))
            revert BX HX
            generalize (wo.alloc (.cells #[.string (d2 ++ ⟨#[118]⟩), .int .i64 3, .int .i64 2, .int .i64 0] 125)).drew = wx
            intro BX HX
            have HOx := Aside0.mk (Kd.R_below HO1.out HX.out)
            have HBx := Aside0.mk (below_step HB.out HX.out)
            have HZx := Aside0.mk (blk_lt BKT.out)
            have BTx := Aside0.mk (blk_below BKT.out HX.out)
            clear q2
            have x0 : wx.cell? ⟨wo.heap.size, 0, none⟩ = some (.string (d2 ++ ⟨#[118]⟩)) := (blk_cell BX.out 0).trans rfl
            have x1 : wx.cell? ⟨wo.heap.size, 1, none⟩ = some (.int .i64 3) := (blk_cell BX.out 1).trans rfl
            have x2 : wx.cell? ⟨wo.heap.size, 2, none⟩ = some (.int .i64 2) := (blk_cell BX.out 2).trans rfl
            have x3 : wx.cell? ⟨wo.heap.size, 3, none⟩ = some (.int .i64 0) := (blk_cell BX.out 3).trans rfl
            have hfz := blk_frozen BX.out 2
            have HOz := Aside0.mk (Kd.R_mono (Kd.R_far (p := ⟨wo.heap.size, 2, none⟩) (Kd.R_below (Kd.R_mono (Kd.R_bound HO1.out) (fun k hk => (show k ≠ wo.heap.size from fun e => by have := hk.2.2.1; omega))) HX.out) (fun k hk => hk) (.int .i64 1)) (fun _ _ => trivial) : Kd.R k125 125 (wx.setCell ⟨wo.heap.size, 2, none⟩ (.int .i64 1)) (w.heap.size + 1) (fun _ => True) (.slice Ao 0 co) [])
            have HXs := Aside0.mk (Below.setCell HX.out (Nat.le_refl _) _ : Below wo.heap.size wo (wx.setCell ⟨wo.heap.size, 2, none⟩ (.int .i64 1)))
            have HXz := Aside0.mk (HXs.out.mono (show w.heap.size + 1 ≤ wo.heap.size from HZx.out))
            have BTz := Aside0.mk (blk_far (p := ⟨wo.heap.size, 2, none⟩) BTx.out (show w.heap.size ≠ wo.heap.size from fun e => by have := HZx.out; omega) (.int .i64 1))
            go_wp2_with ((with_reducible refine gate_builtin (b := .append) (xs := #[.tmp 32, .tmp 34]) rfl ?_); at_builtin; refine Kd.R_append k125 (w0 := wo) (W := (wx.setCell ⟨wo.heap.size, 2, none⟩ (.int .i64 1))) (w.heap.size + 1) ?_ (.tmp 32) (.tmp 34) 65 125 _ 40 ?_ Try.underlying65 info125 ?_ ?_ ?_ (.slice Ao 0 co) [] (mkV d2 118) [.string (d2 ++ ⟨#[118]⟩), .int .i64 3, .int .i64 1, .int .i64 0] (fun _ => True) (fun _ => False) ?_ ?_ ?_ ?_ ?_ ?_ ?_ ?_ ?_ ?_; rfl; rfl; rfl; decide; omega; rfl; (first | rfl | simp [Act.eval]); exact k125_mkM _ _ _ (mkV d2 118); exact (fun _ hk => hk.elim); exact (fun _ _ => trivial); exact HOz.out; exact HXz.out; (have h1 := below_size HXs.out; have h2 := HZx.out; omega); simp; intro v1 w2 ho hb hg ha; have BK3 := Aside0.mk (blk_grown BTz.out hg (fun e => by have := Kd.R_base HOz.out _ e.symm; omega)); clear hg ha; obtain ⟨A9, c9, e9⟩ := Kd.R_slice ho; have e9 : v1 = .slice A9 1 c9 := e9; subst e9; have HO3 := Aside0.mk ho; have HB3 := Aside0.mk (HB.out.trans (hb.mono (Nat.le_succ _))); clear ho hb)
            go_roundg (2 - 1)
            case measure => have := HK.out; omega
            case rel => exact ⟨1, A9, c9, rfl, by go_num, ⟨by omega⟩, HO3, BK3, HB3⟩
        · have hw : IntKind.i64.wrap 2 = 2 := by rw [IntKind.wrap_i64]; rfl
          have hex : (⟨#[118, 113]⟩ : ByteArray).extract 1 2 = ⟨#[113]⟩ := rfl
          have HO1 := Aside0.mk (show Kd.R k125 125 wo (w.heap.size + 1) (fun _ => True) (.slice Ao 1 co) [mkV d2 118] from HO.out)
          go_wp2_with fail
          go_region_held3 (fun w' => w'.cell? ⟨w.heap.size, 2, none⟩ = some (.string d2)) (go_keep) (fail)
          all_goals
            try rw [hex]
            have BX := Aside0.mk (blk_drew (blk_new wo (.cells #[.string (d2 ++ ⟨#[113]⟩), .int .i64 3, .int .i64 2, .int .i64 0] 125)))
            have HX := Aside0.mk (below_drew ((Below.refl wo.heap.size wo).alloc (Nat.le_refl _) (.cells #[.string (d2 ++ ⟨#[113]⟩), .int .i64 3, .int .i64 2, .int .i64 0] 125)))
            revert BX HX
            generalize (wo.alloc (.cells #[.string (d2 ++ ⟨#[113]⟩), .int .i64 3, .int .i64 2, .int .i64 0] 125)).drew = wx
            intro BX HX
            have HOx := Aside0.mk (Kd.R_below HO1.out HX.out)
            have HBx := Aside0.mk (below_step HB.out HX.out)
            have HZx := Aside0.mk (blk_lt BKT.out)
            have BTx := Aside0.mk (blk_below BKT.out HX.out)
            clear q2
            have x0 : wx.cell? ⟨wo.heap.size, 0, none⟩ = some (.string (d2 ++ ⟨#[113]⟩)) := (blk_cell BX.out 0).trans rfl
            have x1 : wx.cell? ⟨wo.heap.size, 1, none⟩ = some (.int .i64 3) := (blk_cell BX.out 1).trans rfl
            have x2 : wx.cell? ⟨wo.heap.size, 2, none⟩ = some (.int .i64 2) := (blk_cell BX.out 2).trans rfl
            have x3 : wx.cell? ⟨wo.heap.size, 3, none⟩ = some (.int .i64 0) := (blk_cell BX.out 3).trans rfl
            have HXs := HX
            have HOz := HOx
            have BTz := BTx
            have HXz := Aside0.mk (HX.out.mono (show w.heap.size + 1 ≤ wo.heap.size from HZx.out))
            go_wp2_with ((with_reducible refine gate_builtin (b := .append) (xs := #[.tmp 32, .tmp 34]) rfl ?_); at_builtin; refine Kd.R_append k125 (w0 := wo) (W := wx) (w.heap.size + 1) ?_ (.tmp 32) (.tmp 34) 65 125 _ 40 ?_ Try.underlying65 info125 ?_ ?_ ?_ (.slice Ao 1 co) [mkV d2 118] (mkV d2 113) [.string (d2 ++ ⟨#[113]⟩), .int .i64 3, .int .i64 2, .int .i64 0] (fun _ => True) (fun _ => False) ?_ ?_ ?_ ?_ ?_ ?_ ?_ ?_ ?_ ?_; rfl; rfl; rfl; decide; omega; rfl; (first | rfl | simp [Act.eval]); exact k125_mkM _ _ _ (mkV d2 113); exact (fun _ hk => hk.elim); exact (fun _ _ => trivial); exact HOz.out; exact HXz.out; (have h1 := below_size HXs.out; have h2 := HZx.out; omega); simp; intro v1 w2 ho hb hg ha; have BK3 := Aside0.mk (blk_grown BTz.out hg (fun e => by have := Kd.R_base HOz.out _ e.symm; omega)); clear hg ha; obtain ⟨A9, c9, e9⟩ := Kd.R_slice ho; have e9 : v1 = .slice A9 2 c9 := e9; subst e9; have HO3 := Aside0.mk ho; have HB3 := Aside0.mk (HB.out.trans (hb.mono (Nat.le_succ _))); clear ho hb)
            go_roundg (2 - 2)
            case measure => have := HK.out; omega
            case rel => exact ⟨2, A9, c9, rfl, by go_num, ⟨by omega⟩, HO3, BK3, HB3⟩
      · have hn : j = 2 := by have := HK.out; omega
        subst hn
        have HO1 := Aside0.mk (show Kd.R k125 125 wo (w.heap.size + 1) (fun _ => True) (.slice Ao 2 co) (ownV 2 d2) from HO.out)
        go_wp2
        go_ret
        exact ⟨_, rfl, Kd.R_lower HO1.out (by omega), HB.out⟩
  · go_enter Try.func218, Try.ntmps218
    go_wp2
    go_loopg [4, 15] 2 (fun gg s4 s15 wr => ∃ (j : Nat) (Ao : Option Addr) (co : Nat), s4 = .slice Ao j co ∧ s15 = .int .i64 (j : Int) ∧ Aside0 (j ≤ 2 ∧ 2 - j ≤ gg) ∧ Aside0 (Kd.R k125 125 wr (w.heap.size + 1) (fun _ => True) (.slice Ao j co) ((ownV 3 d2).take j)) ∧ Aside0 (wr.heap[w.heap.size]? = some (.cells #[.int .i64 d0, .int .i64 3, .string d2, .int .i64 d3, .int .i64 d4, .slice A5 n5 c5, .slice A6 n6 c6, .slice A7 n7 c7] 134 (0, 0))) ∧ Aside0 (Below w.heap.size w wr))
    case atStart =>
      have hs1 : (w.alloc (.cells #[.int .i64 d0, .int .i64 3, .string d2, .int .i64 d3, .int .i64 d4, .slice A5 n5 c5, .slice A6 n6 c6, .slice A7 n7 c7] 134)).heap.size = w.heap.size + 1 := by simp
      have hs2 : ((w.alloc (.cells #[.int .i64 d0, .int .i64 3, .string d2, .int .i64 d3, .int .i64 d4, .slice A5 n5 c5, .slice A6 n6 c6, .slice A7 n7 c7] 134)).alloc (.cells #[.string ⟨#[]⟩, .string ⟨#[118, 109, 113]⟩, .string ⟨#[118, 113]⟩, .string ⟨#[109, 113]⟩, .string ⟨#[113]⟩] 9)).heap.size = w.heap.size + 1 + 1 := by simp
      have ho := var_lit ((w.alloc (.cells #[.int .i64 d0, .int .i64 3, .string d2, .int .i64 d3, .int .i64 d4, .slice A5 n5 c5, .slice A6 n6 c6, .slice A7 n7 c7] 134)).alloc (.cells #[.string ⟨#[]⟩, .string ⟨#[118, 109, 113]⟩, .string ⟨#[118, 113]⟩, .string ⟨#[109, 113]⟩, .string ⟨#[113]⟩] 9)) (w.heap.size + 1) (by rw [hs2]; omega) [] (by simp)
      rw [hs2] at ho
      exact ⟨0, _, _, rfl, rfl, ⟨by omega⟩, ⟨ho⟩, ⟨by first | exact blk_alloc (blk_alloc (blk_new w _) _) _ | simp⟩, ⟨(((Below.refl _ _).alloc (Nat.le_refl _) _).alloc (by rw [hs1]; omega) _).alloc (by rw [hs2]; omega) _⟩⟩
    case round =>
      obtain ⟨wo, rfl⟩ : ∃ wo : World, wo = wr := ⟨_, rfl⟩
      obtain ⟨j, Ao, co, rfl, rfl, HK, HO, BKT, HB⟩ := hrel
      have q2 : wo.cell? ⟨w.heap.size, 2, none⟩ = some (.string d2) := (blk_cell BKT.out 2).trans rfl
      by_cases hj : j < 2
      · have hzj : j = 0 ∨ j = 1 := by omega
        rcases hzj with rfl | rfl
        · have hw : IntKind.i64.wrap 1 = 1 := by rw [IntKind.wrap_i64]; rfl
          have hex : (⟨#[109, 113]⟩ : ByteArray).extract 0 1 = ⟨#[109]⟩ := rfl
          have HO1 := Aside0.mk (show Kd.R k125 125 wo (w.heap.size + 1) (fun _ => True) (.slice Ao 0 co) [] from HO.out)
          go_wp2_with fail
          go_region_held3 (fun w' => w'.cell? ⟨w.heap.size, 2, none⟩ = some (.string d2)) (go_keep) (fail)
          all_goals
            try rw [hex]
            have BX := Aside0.mk (blk_drew (blk_new wo (.cells #[.string (d2 ++ ⟨#[109]⟩), .int .i64 3, .int .i64 2, .int .i64 0] 125)))
            have HX := Aside0.mk (below_drew ((Below.refl wo.heap.size wo).alloc (Nat.le_refl _) (.cells #[.string (d2 ++ ⟨#[109]⟩), .int .i64 3, .int .i64 2, .int .i64 0] 125)))
            revert BX HX
            generalize (wo.alloc (.cells #[.string (d2 ++ ⟨#[109]⟩), .int .i64 3, .int .i64 2, .int .i64 0] 125)).drew = wx
            intro BX HX
            have HOx := Aside0.mk (Kd.R_below HO1.out HX.out)
            have HBx := Aside0.mk (below_step HB.out HX.out)
            have HZx := Aside0.mk (blk_lt BKT.out)
            have BTx := Aside0.mk (blk_below BKT.out HX.out)
            clear q2
            have x0 : wx.cell? ⟨wo.heap.size, 0, none⟩ = some (.string (d2 ++ ⟨#[109]⟩)) := (blk_cell BX.out 0).trans rfl
            have x1 : wx.cell? ⟨wo.heap.size, 1, none⟩ = some (.int .i64 3) := (blk_cell BX.out 1).trans rfl
            have x2 : wx.cell? ⟨wo.heap.size, 2, none⟩ = some (.int .i64 2) := (blk_cell BX.out 2).trans rfl
            have x3 : wx.cell? ⟨wo.heap.size, 3, none⟩ = some (.int .i64 0) := (blk_cell BX.out 3).trans rfl
            have HXs := HX
            have HOz := HOx
            have BTz := BTx
            have HXz := Aside0.mk (HX.out.mono (show w.heap.size + 1 ≤ wo.heap.size from HZx.out))
            go_wp2_with ((with_reducible refine gate_builtin (b := .append) (xs := #[.tmp 32, .tmp 34]) rfl ?_); at_builtin; refine Kd.R_append k125 (w0 := wo) (W := wx) (w.heap.size + 1) ?_ (.tmp 32) (.tmp 34) 65 125 _ 40 ?_ Try.underlying65 info125 ?_ ?_ ?_ (.slice Ao 0 co) [] (mkV d2 109) [.string (d2 ++ ⟨#[109]⟩), .int .i64 3, .int .i64 2, .int .i64 0] (fun _ => True) (fun _ => False) ?_ ?_ ?_ ?_ ?_ ?_ ?_ ?_ ?_ ?_; rfl; rfl; rfl; decide; omega; rfl; (first | rfl | simp [Act.eval]); exact k125_mkM _ _ _ (mkV d2 109); exact (fun _ hk => hk.elim); exact (fun _ _ => trivial); exact HOz.out; exact HXz.out; (have h1 := below_size HXs.out; have h2 := HZx.out; omega); simp; intro v1 w2 ho hb hg ha; have BK3 := Aside0.mk (blk_grown BTz.out hg (fun e => by have := Kd.R_base HOz.out _ e.symm; omega)); clear hg ha; obtain ⟨A9, c9, e9⟩ := Kd.R_slice ho; have e9 : v1 = .slice A9 1 c9 := e9; subst e9; have HO3 := Aside0.mk ho; have HB3 := Aside0.mk (HB.out.trans (hb.mono (Nat.le_succ _))); clear ho hb)
            go_roundg (2 - 1)
            case measure => have := HK.out; omega
            case rel => exact ⟨1, A9, c9, rfl, by go_num, ⟨by omega⟩, HO3, BK3, HB3⟩
        · have hw : IntKind.i64.wrap 2 = 2 := by rw [IntKind.wrap_i64]; rfl
          have hex : (⟨#[109, 113]⟩ : ByteArray).extract 1 2 = ⟨#[113]⟩ := rfl
          have HO1 := Aside0.mk (show Kd.R k125 125 wo (w.heap.size + 1) (fun _ => True) (.slice Ao 1 co) [mkV d2 109] from HO.out)
          go_wp2_with fail
          go_region_held3 (fun w' => w'.cell? ⟨w.heap.size, 2, none⟩ = some (.string d2)) (go_keep) (fail)
          all_goals
            try rw [hex]
            have BX := Aside0.mk (blk_drew (blk_new wo (.cells #[.string (d2 ++ ⟨#[113]⟩), .int .i64 3, .int .i64 2, .int .i64 0] 125)))
            have HX := Aside0.mk (below_drew ((Below.refl wo.heap.size wo).alloc (Nat.le_refl _) (.cells #[.string (d2 ++ ⟨#[113]⟩), .int .i64 3, .int .i64 2, .int .i64 0] 125)))
            revert BX HX
            generalize (wo.alloc (.cells #[.string (d2 ++ ⟨#[113]⟩), .int .i64 3, .int .i64 2, .int .i64 0] 125)).drew = wx
            intro BX HX
            have HOx := Aside0.mk (Kd.R_below HO1.out HX.out)
            have HBx := Aside0.mk (below_step HB.out HX.out)
            have HZx := Aside0.mk (blk_lt BKT.out)
            have BTx := Aside0.mk (blk_below BKT.out HX.out)
            clear q2
            have x0 : wx.cell? ⟨wo.heap.size, 0, none⟩ = some (.string (d2 ++ ⟨#[113]⟩)) := (blk_cell BX.out 0).trans rfl
            have x1 : wx.cell? ⟨wo.heap.size, 1, none⟩ = some (.int .i64 3) := (blk_cell BX.out 1).trans rfl
            have x2 : wx.cell? ⟨wo.heap.size, 2, none⟩ = some (.int .i64 2) := (blk_cell BX.out 2).trans rfl
            have x3 : wx.cell? ⟨wo.heap.size, 3, none⟩ = some (.int .i64 0) := (blk_cell BX.out 3).trans rfl
            have HXs := HX
            have HOz := HOx
            have BTz := BTx
            have HXz := Aside0.mk (HX.out.mono (show w.heap.size + 1 ≤ wo.heap.size from HZx.out))
            go_wp2_with ((with_reducible refine gate_builtin (b := .append) (xs := #[.tmp 32, .tmp 34]) rfl ?_); at_builtin; refine Kd.R_append k125 (w0 := wo) (W := wx) (w.heap.size + 1) ?_ (.tmp 32) (.tmp 34) 65 125 _ 40 ?_ Try.underlying65 info125 ?_ ?_ ?_ (.slice Ao 1 co) [mkV d2 109] (mkV d2 113) [.string (d2 ++ ⟨#[113]⟩), .int .i64 3, .int .i64 2, .int .i64 0] (fun _ => True) (fun _ => False) ?_ ?_ ?_ ?_ ?_ ?_ ?_ ?_ ?_ ?_; rfl; rfl; rfl; decide; omega; rfl; (first | rfl | simp [Act.eval]); exact k125_mkM _ _ _ (mkV d2 113); exact (fun _ hk => hk.elim); exact (fun _ _ => trivial); exact HOz.out; exact HXz.out; (have h1 := below_size HXs.out; have h2 := HZx.out; omega); simp; intro v1 w2 ho hb hg ha; have BK3 := Aside0.mk (blk_grown BTz.out hg (fun e => by have := Kd.R_base HOz.out _ e.symm; omega)); clear hg ha; obtain ⟨A9, c9, e9⟩ := Kd.R_slice ho; have e9 : v1 = .slice A9 2 c9 := e9; subst e9; have HO3 := Aside0.mk ho; have HB3 := Aside0.mk (HB.out.trans (hb.mono (Nat.le_succ _))); clear ho hb)
            go_roundg (2 - 2)
            case measure => have := HK.out; omega
            case rel => exact ⟨2, A9, c9, rfl, by go_num, ⟨by omega⟩, HO3, BK3, HB3⟩
      · have hn : j = 2 := by have := HK.out; omega
        subst hn
        have HO1 := Aside0.mk (show Kd.R k125 125 wo (w.heap.size + 1) (fun _ => True) (.slice Ao 2 co) (ownV 3 d2) from HO.out)
        go_wp2
        go_ret
        exact ⟨_, rfl, Kd.R_lower HO1.out (by omega), HB.out⟩
  · go_enter Try.func218, Try.ntmps218
    go_wp2
    go_loopg [4, 15] 1 (fun gg s4 s15 wr => ∃ (j : Nat) (Ao : Option Addr) (co : Nat), s4 = .slice Ao j co ∧ s15 = .int .i64 (j : Int) ∧ Aside0 (j ≤ 1 ∧ 1 - j ≤ gg) ∧ Aside0 (Kd.R k125 125 wr (w.heap.size + 1) (fun _ => True) (.slice Ao j co) ((ownV 4 d2).take j)) ∧ Aside0 (wr.heap[w.heap.size]? = some (.cells #[.int .i64 d0, .int .i64 4, .string d2, .int .i64 d3, .int .i64 d4, .slice A5 n5 c5, .slice A6 n6 c6, .slice A7 n7 c7] 134 (0, 0))) ∧ Aside0 (Below w.heap.size w wr))
    case atStart =>
      have hs1 : (w.alloc (.cells #[.int .i64 d0, .int .i64 4, .string d2, .int .i64 d3, .int .i64 d4, .slice A5 n5 c5, .slice A6 n6 c6, .slice A7 n7 c7] 134)).heap.size = w.heap.size + 1 := by simp
      have hs2 : ((w.alloc (.cells #[.int .i64 d0, .int .i64 4, .string d2, .int .i64 d3, .int .i64 d4, .slice A5 n5 c5, .slice A6 n6 c6, .slice A7 n7 c7] 134)).alloc (.cells #[.string ⟨#[]⟩, .string ⟨#[118, 109, 113]⟩, .string ⟨#[118, 113]⟩, .string ⟨#[109, 113]⟩, .string ⟨#[113]⟩] 9)).heap.size = w.heap.size + 1 + 1 := by simp
      have ho := var_lit ((w.alloc (.cells #[.int .i64 d0, .int .i64 4, .string d2, .int .i64 d3, .int .i64 d4, .slice A5 n5 c5, .slice A6 n6 c6, .slice A7 n7 c7] 134)).alloc (.cells #[.string ⟨#[]⟩, .string ⟨#[118, 109, 113]⟩, .string ⟨#[118, 113]⟩, .string ⟨#[109, 113]⟩, .string ⟨#[113]⟩] 9)) (w.heap.size + 1) (by rw [hs2]; omega) [] (by simp)
      rw [hs2] at ho
      exact ⟨0, _, _, rfl, rfl, ⟨by omega⟩, ⟨ho⟩, ⟨by first | exact blk_alloc (blk_alloc (blk_new w _) _) _ | simp⟩, ⟨(((Below.refl _ _).alloc (Nat.le_refl _) _).alloc (by rw [hs1]; omega) _).alloc (by rw [hs2]; omega) _⟩⟩
    case round =>
      obtain ⟨wo, rfl⟩ : ∃ wo : World, wo = wr := ⟨_, rfl⟩
      obtain ⟨j, Ao, co, rfl, rfl, HK, HO, BKT, HB⟩ := hrel
      have q2 : wo.cell? ⟨w.heap.size, 2, none⟩ = some (.string d2) := (blk_cell BKT.out 2).trans rfl
      by_cases hj : j < 1
      · have hzj : j = 0 := by omega
        rcases hzj with rfl
        · have hw : IntKind.i64.wrap 1 = 1 := by rw [IntKind.wrap_i64]; rfl
          have hex : (⟨#[113]⟩ : ByteArray).extract 0 1 = ⟨#[113]⟩ := rfl
          have HO1 := Aside0.mk (show Kd.R k125 125 wo (w.heap.size + 1) (fun _ => True) (.slice Ao 0 co) [] from HO.out)
          go_wp2_with fail
          go_region_held3 (fun w' => w'.cell? ⟨w.heap.size, 2, none⟩ = some (.string d2)) (go_keep) (fail)
          all_goals
            try rw [hex]
            have BX := Aside0.mk (blk_drew (blk_new wo (.cells #[.string (d2 ++ ⟨#[113]⟩), .int .i64 3, .int .i64 2, .int .i64 0] 125)))
            have HX := Aside0.mk (below_drew ((Below.refl wo.heap.size wo).alloc (Nat.le_refl _) (.cells #[.string (d2 ++ ⟨#[113]⟩), .int .i64 3, .int .i64 2, .int .i64 0] 125)))
            revert BX HX
            generalize (wo.alloc (.cells #[.string (d2 ++ ⟨#[113]⟩), .int .i64 3, .int .i64 2, .int .i64 0] 125)).drew = wx
            intro BX HX
            have HOx := Aside0.mk (Kd.R_below HO1.out HX.out)
            have HBx := Aside0.mk (below_step HB.out HX.out)
            have HZx := Aside0.mk (blk_lt BKT.out)
            have BTx := Aside0.mk (blk_below BKT.out HX.out)
            clear q2
            have x0 : wx.cell? ⟨wo.heap.size, 0, none⟩ = some (.string (d2 ++ ⟨#[113]⟩)) := (blk_cell BX.out 0).trans rfl
            have x1 : wx.cell? ⟨wo.heap.size, 1, none⟩ = some (.int .i64 3) := (blk_cell BX.out 1).trans rfl
            have x2 : wx.cell? ⟨wo.heap.size, 2, none⟩ = some (.int .i64 2) := (blk_cell BX.out 2).trans rfl
            have x3 : wx.cell? ⟨wo.heap.size, 3, none⟩ = some (.int .i64 0) := (blk_cell BX.out 3).trans rfl
            have HXs := HX
            have HOz := HOx
            have BTz := BTx
            have HXz := Aside0.mk (HX.out.mono (show w.heap.size + 1 ≤ wo.heap.size from HZx.out))
            go_wp2_with ((with_reducible refine gate_builtin (b := .append) (xs := #[.tmp 32, .tmp 34]) rfl ?_); at_builtin; refine Kd.R_append k125 (w0 := wo) (W := wx) (w.heap.size + 1) ?_ (.tmp 32) (.tmp 34) 65 125 _ 40 ?_ Try.underlying65 info125 ?_ ?_ ?_ (.slice Ao 0 co) [] (mkV d2 113) [.string (d2 ++ ⟨#[113]⟩), .int .i64 3, .int .i64 2, .int .i64 0] (fun _ => True) (fun _ => False) ?_ ?_ ?_ ?_ ?_ ?_ ?_ ?_ ?_ ?_; rfl; rfl; rfl; decide; omega; rfl; (first | rfl | simp [Act.eval]); exact k125_mkM _ _ _ (mkV d2 113); exact (fun _ hk => hk.elim); exact (fun _ _ => trivial); exact HOz.out; exact HXz.out; (have h1 := below_size HXs.out; have h2 := HZx.out; omega); simp; intro v1 w2 ho hb hg ha; have BK3 := Aside0.mk (blk_grown BTz.out hg (fun e => by have := Kd.R_base HOz.out _ e.symm; omega)); clear hg ha; obtain ⟨A9, c9, e9⟩ := Kd.R_slice ho; have e9 : v1 = .slice A9 1 c9 := e9; subst e9; have HO3 := Aside0.mk ho; have HB3 := Aside0.mk (HB.out.trans (hb.mono (Nat.le_succ _))); clear ho hb)
            go_roundg (1 - 1)
            case measure => have := HK.out; omega
            case rel => exact ⟨1, A9, c9, rfl, by go_num, ⟨by omega⟩, HO3, BK3, HB3⟩
      · have hn : j = 1 := by have := HK.out; omega
        subst hn
        have HO1 := Aside0.mk (show Kd.R k125 125 wo (w.heap.size + 1) (fun _ => True) (.slice Ao 1 co) (ownV 4 d2) from HO.out)
        go_wp2
        go_ret
        exact ⟨_, rfl, Kd.R_lower HO1.out (by omega), HB.out⟩
/-! ### LIB allvars -/
/-- What all blocks have as their own. -/
def ownsV (N : List S134) : List S125 := ((N.filter isCall).map (fun n => ownV n.f1 n.f2)).flatten
def allV (V : List S125) (N : List S134) : List S125 := V ++ ownsV N
def CallsOk (N : List S134) : Prop := ∀ x ∈ N, x.f0 = 11 → (1 ≤ x.f1 ∧ x.f1 ≤ 4)
theorem ownsV_take (N : List S134) (i : Nat) (hi : i < N.length) : ownsV (N.take (i + 1)) = ownsV (N.take i) ++ (if (rd_T134 N (i : Int)).f0 = 11 then ownV (rd_T134 N (i : Int)).f1 (rd_T134 N (i : Int)).f2 else []) := by
  have e : rd_T134 N (i : Int) = N[i] := by simp [rd_T134, List.getD_eq_getElem?_getD, hi]
  rw [e, List.take_succ_eq_append_getElem hi]
  unfold ownsV
  rw [List.filter_append, List.map_append, List.flatten_append]
  by_cases h : N[i].f0 = 11 <;> simp [isCall, h]
theorem ownV_len (op : Int) (s : ByteArray) : (ownV op s).length ≤ 3 := by
  unfold ownV letters
  rw [List.length_map]
  split
  · simp
  · split
    · simp
    · split <;> simp
theorem flat_len {α : Type} (L : List (List α)) (k : Nat) (h : ∀ l ∈ L, l.length ≤ k) : L.flatten.length ≤ k * L.length := by
  induction L with
  | nil => simp
  | cons a L ih =>
    have h1 := h a (List.mem_cons_self ..)
    have h2 := ih (fun l hl => h l (List.mem_cons_of_mem _ hl))
    rw [List.flatten_cons, List.length_append, List.length_cons, Nat.mul_succ]
    omega
theorem ownsV_len (N : List S134) : (ownsV N).length ≤ 3 * N.length := by
  have h1 := flat_len ((N.filter isCall).map (fun n => ownV n.f1 n.f2)) 3 (fun l hl => by
    obtain ⟨n, _, rfl⟩ := List.mem_map.1 hl
    exact ownV_len _ _)
  rw [List.length_map] at h1
  have h2 := List.length_filter_le isCall N
  have h3 : 3 * (N.filter isCall).length ≤ 3 * N.length := Nat.mul_le_mul_left 3 h2
  exact Nat.le_trans h1 h3
theorem varK_M {w : World} {base : Nat} {okp : Nat → Prop} : ∀ (x : S125) (cs : List Value), k125.K w x cs → k125.M w base okp x cs := fun x cs h => by
  rw [k125_open h]
  exact k125_mkM _ _ _ x
set_option maxHeartbeats 4000000 in
set_option maxRecDepth 100000 in
theorem spec_l5Owns.w (g : Nat) (V : List S125) (N : List S134) (B : List Int) (A0 A1 A2 : Option Addr) (c0 c1 c2 : Nat) (w : World) (h : TreeAt w g V N B A0 c0 A1 c1 A2 c2) (hN : N.length ≤ 1048576) (hco : CallsOk N) (hnn : ∀ x ∈ N, x.f2.size ≤ 1048576) :
    Calls Try.prog 151 #[.pointer (some ⟨g, 0, none⟩)] w fun e w' => ∃ v : Value, e = .returned v ∧ Kd.R k125 125 w' w.heap.size (fun _ => True) v (ownsV N) ∧ Below w.heap.size w w' := by
  have hu := Try.underlying134
  have HT := Aside0.mk h
  have HCO := Aside0.mk hco
  have HNN := Aside0.mk hnn
  clear h hco hnn
  go_enter Try.func151, Try.ntmps151
  go_wp2
  go_loopg [3, 4] N.length (fun gg s3 s4 wr => ∃ (i m : Nat) (Ao : Option Addr) (co : Nat), s3 = .slice Ao m co ∧ s4 = .int .i64 (i : Int) ∧ Aside0 (i ≤ N.length ∧ N.length - i ≤ gg) ∧ Aside0 ((ownsV (N.take i)).length = m) ∧ Aside0 (Kd.R k125 125 wr w.heap.size (fun _ => True) (.slice Ao m co) (ownsV (N.take i))) ∧ Aside0 (Below w.heap.size w wr))
  case atStart => exact ⟨0, 0, _, _, rfl, rfl, ⟨by omega⟩, ⟨rfl⟩, ⟨var_lit w w.heap.size (Nat.le_refl _) [] (by simp)⟩, ⟨(Below.refl _ _).alloc (Nat.le_refl _) _⟩⟩
  case round =>
    obtain ⟨wo, rfl⟩ : ∃ wo : World, wo = wr := ⟨_, rfl⟩
    obtain ⟨i, m, Ao, co, rfl, rfl, HK, HM, HO, HB⟩ := hrel
    have hT := HT.out.below HB.out
    have q1 : wo.cell? ⟨g, 1, none⟩ = some (.slice A1 N.length c1) := (blk_cell hT.blk 1).trans rfl
    by_cases hlt : i < N.length
    · have hltz : (i : Int) < (N.length : Int) := by omega
      have hd : decide ((i : Int) < (N.length : Int)) = true := decide_eq_true hltz
      have hd' : decide (i < N.length) = true := decide_eq_true hlt
      have hltq := eq_true hltz
      have h0q : (0 ≤ (i : Int)) = True := eq_true (by omega)
      obtain ⟨ad, A5, c5, A6, c6, A7, c7, rfl, n0, n1, n2, n3, n4, n5, n6, n7, l5, r5, l6, r6, l7, r7⟩ := at_T134 hT.n (i : Int) (by omega) hltz
      rw [Int.toNat_natCast] at n0 n1 n2 n3 n4 n5 n6 n7
      have HC := Aside0.mk (ownsV_take N i hlt)
      have HC1 := Aside0.mk (HCO.out _ (rdN_mem hlt))
      have HN1 := Aside0.mk (HNN.out _ (rdN_mem hlt))
      clear r5 r6 r7 l5 l6 l7 hT
      revert n0 n1 n2 n3 n4 n5 n6 n7 HC HC1 HN1
      generalize rd_T134 N (i : Int) = nd
      obtain ⟨d0, d1, d2, d3, d4, F5, F6, F7⟩ := nd
      intro n0 n1 n2 n3 n4 n5 n6 n7 HC HC1 HN1
      have hm : m ≤ 3145728 := by have h1 := HM.out; have h2 := ownsV_len (N.take i); rw [List.length_take] at h2; omega
      have HHM := Aside0.mk hm
      clear hm
      by_cases hk : d0 = 11
      · subst hk
        have hop := HC1.out rfl
        simp only at hop
        go_wp2_with fail
        refine (o_l5Own 11 d1 d2 d3 d4 A5 F5.length c5 A6 F6.length c6 A7 F7.length c7 hop HN1.out _).mono ?_
        rintro e w1 ⟨v, rfl, ho, hb⟩
        obtain ⟨Av, cv, ev⟩ := Kd.R_slice ho
        subst ev
        have HRV := Aside0.mk (Kd.R_reads' ho).2.2
        have HVL := Aside0.mk (ownV_len d1 d2)
        have HB1 := Aside0.mk (below_step HB.out hb)
        have HO1 := Aside0.mk (Kd.R_below HO.out hb)
        have HCS := Aside0.mk (show ownsV (N.take (i + 1)) = ownsV (N.take i) ++ ownV d1 d2 by rw [HC.out]; simp)
        clear ho hb HC HO hop n0 n1 n2 n3 n4 n5 n6 n7
        revert HRV HVL HCS
        generalize ownV d1 d2 = ys
        intro HRV HVL HCS
        revert HM HO1 HCS
        generalize ownsV (N.take i) = xs
        intro HM HO1 HCS
        go_wp2_with ((with_reducible refine gate_builtin (b := .append) (xs := #[.tmp 24, .tmp 32]) rfl ?_); at_builtin; refine Kd.R_append_rows k125 (w0 := w) (W := w1) (Rr := k125.K w1) w.heap.size rfl (.tmp 24) (.tmp 32) 65 125 _ 40 rfl Try.underlying65 info125 rfl (by decide) (by omega) (.slice Ao m co) xs ys Av ys.length cv (fun _ => True) (fun _ => False) rfl rfl HO1.out HRV.out varK_M (fun _ hk => hk.elim) (fun _ _ => trivial) HB1.out (below_size HB1.out) ?_ ?_; (have h1 := HM.out; have h2 := HHM.out; have h3 := HVL.out; omega); intro v1 w2 ho hb hg ha; clear hg ha; obtain ⟨A9, c9, e9⟩ := Kd.R_slice ho; rw [List.length_append, HM.out] at e9; subst e9; have HO3 := Aside0.mk ho; have HB3 := Aside0.mk hb; clear ho hb)
        go_roundg (N.length - (i + 1))
        case measure => have := HK.out; omega
        case rel => exact ⟨i + 1, m + ys.length, A9, c9, rfl, by go_num, ⟨by omega⟩, ⟨by rw [HCS.out, List.length_append, HM.out]⟩, ⟨by rw [HCS.out]; exact HO3.out⟩, HB3⟩
      · have e1 : (d0 == 11) = false := by simp [hk]
        have e2 : decide (d0 = 11) = false := decide_eq_false hk
        have HCS := Aside0.mk (show ownsV (N.take (i + 1)) = ownsV (N.take i) by rw [HC.out, if_neg hk, List.append_nil])
        go_wp2
        go_roundg (N.length - (i + 1))
        case measure => have := HK.out; omega
        case rel => exact ⟨i + 1, m, Ao, co, rfl, by go_num, ⟨by omega⟩, ⟨by rw [HCS.out, HM.out]⟩, ⟨by rw [HCS.out]; exact HO.out⟩, HB⟩
    · have hd : decide ((i : Int) < (N.length : Int)) = false := decide_eq_false (by omega)
      have hd' : decide (i < N.length) = false := decide_eq_false hlt
      have HLt := Aside0.mk (show N.take i = N from List.take_of_length_le (by omega))
      clear hT
      go_wp2
      go_ret
      exact ⟨_, rfl, by have := HO.out; rw [HLt.out] at this; exact this, HB.out⟩
set_option maxHeartbeats 4000000 in
set_option maxRecDepth 100000 in
theorem spec_l5All.w (g : Nat) (V : List S125) (N : List S134) (B : List Int) (A0 A1 A2 : Option Addr) (c0 c1 c2 : Nat) (w : World) (h : TreeAt w g V N B A0 c0 A1 c1 A2 c2) (hV : V.length ≤ 1048576) (hN : N.length ≤ 1048576) (hco : CallsOk N) (hnn : ∀ x ∈ N, x.f2.size ≤ 1048576) :
    Calls Try.prog 97 #[.pointer (some ⟨g, 0, none⟩)] w fun e w' => ∃ v : Value, e = .returned v ∧ Kd.R k125 125 w' w.heap.size (fun _ => True) v (allV V N) ∧ Below w.heap.size w w' := by
  have q0 : w.cell? ⟨g, 0, none⟩ = some (.slice A0 V.length c0) := (blk_cell h.blk 0).trans rfl
  have HT := Aside0.mk h
  have HCO := Aside0.mk hco
  have HNN := Aside0.mk hnn
  have HOL := Aside0.mk (ownsV_len N)
  have HLV := Aside0.mk h.v
  clear h hco hnn
  go_enter Try.func97, Try.ntmps97
  have HE := Aside0.mk (var_lit w w.heap.size (Nat.le_refl _) [] (by simp))
  have HB1 := Aside0.mk ((Below.refl w.heap.size w).alloc (Nat.le_refl _) (.cells #[] 125))
  have q0' : (w.alloc (.cells #[] 125)).cell? ⟨g, 0, none⟩ = some (.slice A0 V.length c0) := pw_cell_below HB1.out q0
  go_wp2_with ((with_reducible refine gate_builtin (b := .append) (xs := #[.tmp 3, .tmp 7]) rfl ?_); at_builtin; refine Kd.R_append_rows k125 (w0 := w) (Rr := k125.K _) w.heap.size rfl (.tmp 3) (.tmp 7) 65 125 _ 40 rfl Try.underlying65 info125 rfl (by decide) (by omega) (.slice (some ⟨w.heap.size, 0, none⟩) 0 0) [] V A0 V.length c0 (fun _ => True) (fun _ => False) rfl rfl HE.out ?_ varK_M (fun _ hk => hk.elim) (fun _ _ => trivial) HB1.out (below_size HB1.out) ?_ ?_; exact Kd.C_below HLV.out HB1.out; (simp only [List.length_nil, Nat.zero_add]; omega); intro v1 w2 ho hb hg ha; clear hg ha; obtain ⟨A9, c9, e9⟩ := Kd.R_slice ho; rw [List.nil_append] at ho e9; subst e9; have HO3 := Aside0.mk ho; have HB3 := Aside0.mk hb; clear ho hb)
  refine (spec_l5Owns.w g V N B A0 A1 A2 c0 c1 c2 _ (HT.out.below HB3.out) hN HCO.out HNN.out).mono ?_
  rintro e w4 ⟨v, rfl, ho, hb⟩
  obtain ⟨Av, cv, ev⟩ := Kd.R_slice ho
  subst ev
  have HRV := Aside0.mk (Kd.R_reads' ho).2.2
  have HB4 := Aside0.mk (below_step HB3.out hb)
  have HO4 := Aside0.mk (Kd.R_below HO3.out hb)
  clear ho hb q0 q0'
  go_wp2_with ((with_reducible refine gate_builtin (b := .append) (xs := #[.tmp 8, .tmp 10]) rfl ?_); at_builtin; refine Kd.R_append_rows k125 (w0 := w) (W := w4) (Rr := k125.K w4) w.heap.size rfl (.tmp 8) (.tmp 10) 65 125 _ 40 rfl Try.underlying65 info125 rfl (by decide) (by omega) (.slice A9 V.length c9) V (ownsV N) Av (ownsV N).length cv (fun _ => True) (fun _ => False) rfl rfl HO4.out HRV.out varK_M (fun _ hk => hk.elim) (fun _ _ => trivial) HB4.out (below_size HB4.out) ?_ ?_; (have h1 := HOL.out; omega); intro v1 w5 ho hb hg ha; clear hg ha; have HO5 := Aside0.mk ho; have HB5 := Aside0.mk hb; clear ho hb)
  go_ret
  exact ⟨_, rfl, HO5.out, HB5.out⟩
/-! ### LIB allimpl -/
set_option maxHeartbeats 2000000 in
set_option maxRecDepth 100000 in
theorem impl_calls.h (v0 v2 : Value) (A1 : Option Addr) (c1 : Nat) (N : List S134) (hN : N.length ≤ 1048576) (w : World) (hr : Kd.C k134 w A1 N.length N) :
    Calls Try.prog 217 #[.agg #[v0, .slice A1 N.length c1, v2]] w fun e w' => ∃ (A : Option Addr) (c : Nat) (rows : List (List Value)), e = .returned (.slice A rows.length c) ∧ (Kd.raw 8).C w' A rows.length rows ∧ (∀ x ∈ rows, RowOk x) ∧ rows.map headR = (N.filter isCall).map headN ∧ Typed w' A ∧ Below w.heap.size w w' := by
  have hu := Try.underlying68
  have HR := Aside0.mk hr
  clear hr
  go_enter Try.func217, Try.ntmps217
  go_wp2_with fail
  have HB0 := Aside0.mk ((Below.refl _ w).alloc (Nat.le_refl _) (.cells #[v0, .slice A1 N.length c1, v2] 68))
  refine (slices_Clone_Node.w A1 c1 N _ (Kd.C_below HR.out HB0.out) hN).mono ?_
  rintro e w1 ⟨v, rows, rfl, ho, hok, hks, hb⟩
  have HB1 := Aside0.mk (below_step HB0.out hb)
  have HO := Aside0.mk (Kd.R_lower ho (by simp : w.heap.size ≤ _))
  have HKS := Aside0.mk hks
  have HOK := Aside0.mk hok
  have hrl : rows.length = N.length := by have := congrArg List.length hks; simpa using this
  have hrn : rows.length ≤ 1048576 := by omega
  clear ho hok hks hb
  go_wp2_with fail
  refine (slices_DeleteFunc_Node.w 222 _ (fun c => (headR c).1 != 11) (enters_of_func Try.func222 (by kernel_rfl) rfl) (fun W c hc => impl_calls1.w W c hc) v rows w _ HOK.out HO.out HB1.out hrn).mono ?_
  rintro e w2 ⟨A, c, rfl, hC, hty, hb⟩
  have HTY := Aside0.mk hty
  clear hty
  have hkl : keepL (fun c => (headR c).1 != 11) rows rows.length = rows.filter (fun c => !((headR c).1 != 11)) := by unfold keepL; rw [List.take_length]
  rw [hkl] at hC
  have hl : keepN (fun c => (headR c).1 != 11) rows rows.length = (rows.filter (fun c => !((headR c).1 != 11))).length := by unfold keepN; rw [List.take_length]
  rw [hl] at hC ⊢
  have HC := Aside0.mk hC
  have HH := Aside0.mk (show (rows.filter (fun c => !((headR c).1 != 11))).map headR = (N.filter isCall).map headN by
    have h1 : (rows.filter (fun c => !((headR c).1 != 11))).map headR = (rows.map headR).filter (fun h => h.1 == 11) := by
      rw [List.filter_map]
      congr 1
      apply List.filter_congr
      intro c _
      simp [Function.comp, bne]
    have h2 : (N.filter isCall).map headN = (N.map headN).filter (fun h => h.1 == 11) := by
      rw [List.filter_map]
      rfl
    rw [h1, h2, HKS.out])
  have HKO := Aside0.mk (fun x (hx : x ∈ rows.filter (fun c => !((headR c).1 != 11))) => HOK.out x ((List.mem_filter.1 hx).1))
  clear hC hkl hl
  revert HC HH HKO
  generalize rows.filter (fun c => !((headR c).1 != 11)) = kept
  intro HC HH HKO
  go_wp2
  go_ret
  exact ⟨A, c, kept, rfl, HC.out, HKO.out, HH.out, HTY.out, hb⟩
def ownsR (rows : List (List Value)) : List S125 := (rows.map (fun c => ownV (headR c).2.1 (headR c).2.2)).flatten
theorem ownsR_eq {rows : List (List Value)} {N : List S134} (h : rows.map headR = (N.filter isCall).map headN) : ownsR rows = ownsV N := by
  have h1 : rows.map (fun c => ownV (headR c).2.1 (headR c).2.2) = (rows.map headR).map (fun h => ownV h.2.1 h.2.2) := by rw [List.map_map]; rfl
  have h2 : (N.filter isCall).map (fun n => ownV n.f1 n.f2) = ((N.filter isCall).map headN).map (fun h => ownV h.2.1 h.2.2) := by rw [List.map_map]; rfl
  unfold ownsR ownsV
  rw [h1, h2, h]
theorem ownsR_take (rows : List (List Value)) (i : Nat) (c : List Value) (h : rows[i]? = some c) : ownsR (rows.take (i + 1)) = ownsR (rows.take i) ++ ownV (headR c).2.1 (headR c).2.2 := by
  obtain ⟨hi, rfl⟩ := List.getElem?_eq_some_iff.1 h
  unfold ownsR
  rw [List.take_succ_eq_append_getElem hi, List.map_append, List.flatten_append]
  simp
theorem ownsR_len (rows : List (List Value)) : (ownsR rows).length ≤ 3 * rows.length := by
  have h1 := flat_len (rows.map (fun c => ownV (headR c).2.1 (headR c).2.2)) 3 (fun l hl => by
    obtain ⟨n, _, rfl⟩ := List.mem_map.1 hl
    exact ownV_len _ _)
  rw [List.length_map] at h1
  exact h1
theorem head_ok {rows : List (List Value)} {N : List S134} (h : rows.map headR = (N.filter isCall).map headN) (hco : CallsOk N) (hnn : ∀ x ∈ N, x.f2.size ≤ 1048576) {c : List Value} (hc : c ∈ rows) : (1 ≤ (headR c).2.1 ∧ (headR c).2.1 ≤ 4) ∧ (headR c).2.2.size ≤ 1048576 := by
  have h1 : headR c ∈ (N.filter isCall).map headN := by rw [← h]; exact List.mem_map.2 ⟨c, hc, rfl⟩
  obtain ⟨n, hn, e⟩ := List.mem_map.1 h1
  obtain ⟨hn1, hn2⟩ := List.mem_filter.1 hn
  rw [← e]
  exact ⟨hco n hn1 (by simpa [isCall] using hn2), hnn n hn1⟩
set_option maxHeartbeats 4000000 in
set_option maxRecDepth 100000 in
theorem impl_owns.w (v0 v2 : Value) (A1 : Option Addr) (c1 : Nat) (N : List S134) (hN : N.length ≤ 1048576) (hco : CallsOk N) (hnn : ∀ x ∈ N, x.f2.size ≤ 1048576) (w : World) (hr : Kd.C k134 w A1 N.length N) :
    Calls Try.prog 199 #[.agg #[v0, .slice A1 N.length c1, v2]] w fun e w' => ∃ v : Value, e = .returned v ∧ Kd.R k125 125 w' w.heap.size (fun _ => True) v (ownsV N) ∧ Below w.heap.size w w' := by
  have hut := Try.underlying68
  have hu := Try.underlying134
  have HR := Aside0.mk hr
  have HCO := Aside0.mk hco
  have HNN := Aside0.mk hnn
  clear hr hco hnn
  go_enter Try.func199, Try.ntmps199
  have hs1 : (w.alloc (.cells #[v0, .slice A1 N.length c1, v2] 68)).heap.size = w.heap.size + 1 := by simp
  have HE := Aside0.mk (var_lit (w.alloc (.cells #[v0, .slice A1 N.length c1, v2] 68)) w.heap.size (by rw [hs1]; omega) [] (by simp))
  rw [hs1] at HE
  have HB0 := Aside0.mk (((Below.refl w.heap.size w).alloc (Nat.le_refl _) (.cells #[v0, .slice A1 N.length c1, v2] 68)).alloc (by rw [hs1]; omega) (.cells #[] 125))
  clear hs1
  go_wp2_with fail
  refine (impl_calls.h v0 v2 A1 c1 N hN _ (Kd.C_below HR.out HB0.out)).mono ?_
  rintro e w1 ⟨A, c, rows, rfl, hC, hok, hh, hty, hb⟩
  have HTY := Aside0.mk hty
  clear hty
  have HB1 := Aside0.mk (below_step HB0.out hb)
  have HO1 := Aside0.mk (Kd.R_below HE.out hb)
  have HRL : rows.length ≤ N.length := by
    have h1 := congrArg List.length hh
    rw [List.length_map, List.length_map] at h1
    have h2 := List.length_filter_le isCall N
    omega
  have HC := Aside0.mk hC
  have HOK := Aside0.mk hok
  have HHD := Aside0.mk hh
  have hcm := Kd.C_max hC
  clear hC hok hh hb HE HB0
  go_wp2
  go_loopg [3, 10] rows.length (fun gg s3 s10 wr => ∃ (i m : Nat) (Ao : Option Addr) (co : Nat), s3 = .slice Ao m co ∧ s10 = .int .i64 (i : Int) ∧ Aside0 (i ≤ rows.length ∧ rows.length - i ≤ gg) ∧ Aside0 ((ownsR (rows.take i)).length = m) ∧ Aside0 (Kd.R k125 125 wr w.heap.size (fun _ => True) (.slice Ao m co) (ownsR (rows.take i))) ∧ Aside0 (Typed wr A) ∧ Aside0 ((Kd.raw 8).C wr A rows.length rows) ∧ Aside0 (Below w.heap.size w wr))
  case atStart => exact ⟨0, 0, _, _, rfl, rfl, ⟨by omega⟩, ⟨rfl⟩, HO1, HTY, HC, HB1⟩
  case round =>
    clear HC HO1 HB1 HTY
    obtain ⟨wo, rfl⟩ : ∃ wo : World, wo = wr := ⟨_, rfl⟩
    obtain ⟨i, m, Ao, co, rfl, rfl, HK, HM, HO, HTY, HC, HB⟩ := hrel
    by_cases hlt : i < rows.length
    · have hltz : (i : Int) < (rows.length : Int) := by omega
      have hd : decide ((i : Int) < (rows.length : Int)) = true := decide_eq_true hltz
      have hd' : decide (i < rows.length) = true := decide_eq_true hlt
      have hltq := eq_true hltz
      have h0q : (0 ≤ (i : Int)) = True := eq_true (by omega)
      obtain ⟨ad, d0, d1, d2, d3, d4, A5, n5, c5, A6, n6, c6, A7, n7, c7, rfl, hx, q0, q1, q2, q3, q4, q5, q6, q7⟩ := raw_at HC.out HOK.out i hlt
      have HTK := Aside0.mk (ownsR_take rows i _ hx)
      have hho := head_ok HHD.out HCO.out HNN.out (List.mem_of_getElem? hx)
      have hop : 1 ≤ d1 ∧ d1 ≤ 4 := hho.1
      have hsz : d2.size ≤ 1048576 := hho.2
      have HCS := Aside0.mk (show ownsR (rows.take (i + 1)) = ownsR (rows.take i) ++ ownV d1 d2 from HTK.out)
      have hm : m ≤ 3145728 := by have h1 := HM.out; have h2 := ownsR_len (rows.take i); rw [List.length_take] at h2; omega
      have HHM := Aside0.mk hm
      clear hx hho HTK hm
      go_wp2_with fail
      have HA := Aside0.mk ((Below.refl wo.heap.size wo).alloc (Nat.le_refl _) (.cells #[.int .i64 d0, .int .i64 d1, .string d2, .int .i64 d3, .int .i64 d4, .slice A5 n5 c5, .slice A6 n6 c6, .slice A7 n7 c7] 134))
      refine (o_ownOf d0 d1 d2 d3 d4 A5 n5 c5 A6 n6 c6 A7 n7 c7 hop hsz _).mono ?_
      rintro e w2 ⟨v, rfl, ho, hb⟩
      obtain ⟨Av, cv, ev⟩ := Kd.R_slice ho
      subst ev
      have HRV := Aside0.mk (Kd.R_reads' ho).2.2
      have HVL := Aside0.mk (ownV_len d1 d2)
      have HX2 := Aside0.mk (below_step HA.out hb)
      have HB2 := Aside0.mk (below_step HB.out HX2.out)
      have HO2 := Aside0.mk (Kd.R_below HO.out HX2.out)
      have HC2 := Aside0.mk (Kd.C_below HC.out HX2.out)
      have HTY2 := Aside0.mk (Typed.below HTY.out HX2.out)
      clear ho hb HO HB HC HX2 HA HTY q0 q1 q2 q3 q4 q5 q6 q7 hop hsz
      revert HCS HRV HVL
      generalize ownV d1 d2 = ys
      intro HCS HRV HVL
      revert HM HO2 HCS
      generalize ownsR (rows.take i) = xs
      intro HM HO2 HCS
      go_wp2_with ((with_reducible refine gate_builtin (b := .append) (xs := #[.tmp 14, .tmp 16]) rfl ?_); at_builtin; refine Kd.R_append_rows k125 (w0 := w) (W := w2) (Rr := k125.K w2) w.heap.size ?_ (.tmp 14) (.tmp 16) 65 125 _ 40 ?_ Try.underlying65 info125 ?_ ?_ ?_ (.slice Ao m co) xs ys Av ys.length cv (fun _ => True) (fun _ => False) ?_ ?_ ?_ ?_ ?_ ?_ ?_ ?_ ?_ ?_ ?_; rfl; rfl; rfl; decide; omega; rfl; rfl; exact HO2.out; exact HRV.out; exact varK_M; exact (fun _ hk => hk.elim); exact (fun _ _ => trivial); exact HB2.out; exact below_size HB2.out; (have h1 := HM.out; have h2 := HHM.out; have h3 := HVL.out; omega); intro v1 w3 ho hb hg ha; have HNE := Aside0.mk (typed_ne HTY2.out HO2.out); have HC3 := Aside0.mk (raw_grown HC2.out hg HNE.out); have HTY3 := Aside0.mk (Typed.grown HTY2.out hg HNE.out); clear hg ha; obtain ⟨A9, c9, e9⟩ := Kd.R_slice ho; rw [List.length_append, HM.out] at e9; subst e9; have HO3 := Aside0.mk ho; have HB3 := Aside0.mk hb; clear ho hb)
      go_roundg (rows.length - (i + 1))
      case measure => have := HK.out; omega
      case rel => exact ⟨i + 1, m + ys.length, A9, c9, rfl, by go_num, ⟨by omega⟩, ⟨by rw [HCS.out, List.length_append, HM.out]⟩, ⟨by rw [HCS.out]; exact HO3.out⟩, HTY3, HC3, HB3⟩
    · have hd : decide ((i : Int) < (rows.length : Int)) = false := decide_eq_false (by omega)
      have hd' : decide (i < rows.length) = false := decide_eq_false hlt
      have HLt := Aside0.mk (show rows.take i = rows from List.take_of_length_le (by omega))
      go_wp2
      go_ret
      exact ⟨_, rfl, by have := HO.out; rw [HLt.out, ownsR_eq HHD.out] at this; exact this, HB.out⟩
/-! ### LIB whole -/
set_option maxHeartbeats 2000000 in
set_option maxRecDepth 100000 in
theorem slices_Clone_Var.w (A : Option Addr) (c : Nat) (V : List S125) (w : World) (hr : Kd.C k125 w A V.length V) (hV : V.length ≤ 1048576) :
    Calls Try.prog 198 #[.slice A V.length c] w fun e w' => ∃ v : Value, e = .returned v ∧ Kd.R k125 125 w' w.heap.size (fun _ => True) v V ∧ Below w.heap.size w w' := by
  have hq := fun (w : World) => Lib.run_eql_slice_nil (P := Try.prog) w 65 125 A V.length c 0 0 Try.underlying65
  have HR := Aside0.mk hr
  cases A with
  | none =>
    have hz : V.length = 0 := by
      by_cases h0 : 0 < V.length
      · obtain ⟨ad, e, _⟩ := hr.2.2 h0; cases e
      · omega
    have hz' : V = [] := List.length_eq_zero_iff.1 hz
    subst hz'
    clear hr hz
    simp only [Option.isNone_none, List.length_nil] at hq
    go_enter Try.func198, Try.ntmps198
    go_wp2_with fail
    go_ret
    exact ⟨_, rfl, Kd.R_nil _ _ _ _ _, Below.refl _ _⟩
  | some ad =>
    clear hr
    simp only [Option.isNone_some] at hq
    have HE := Aside0.mk (var_lit w w.heap.size (Nat.le_refl _) [] (by simp))
    have HV := Aside0.mk hV
    go_enter Try.func198, Try.ntmps198
    have HB1 := Aside0.mk ((Below.refl w.heap.size w).alloc (Nat.le_refl _) (.cells #[] 125))
    go_wp2_with ((with_reducible refine gate_builtin (b := .append) (xs := #[.tmp 5, .tmp 6]) rfl ?_); at_builtin; refine Kd.R_append_rows k125 (w0 := w) (Rr := k125.K (w.alloc (.cells #[] 125))) w.heap.size ?_ (.tmp 5) (.tmp 6) 65 125 _ 40 ?_ Try.underlying65 info125 ?_ ?_ ?_ (.slice (some ⟨w.heap.size, 0, none⟩) 0 0) [] V (some ad) V.length c (fun _ => True) (fun _ => False) ?_ ?_ ?_ ?_ ?_ ?_ ?_ ?_ ?_ ?_ ?_; rfl; rfl; rfl; decide; omega; rfl; rfl; exact HE.out; exact Kd.C_below HR.out HB1.out; exact varK_M; exact (fun _ hk => hk.elim); exact (fun _ _ => trivial); exact HB1.out; exact below_size HB1.out; (have := HV.out; simp only [List.length_nil, Nat.zero_add]; omega); intro v1 w2 ho hb hg ha; clear hg ha; have HO := Aside0.mk ho; have HB := Aside0.mk hb; clear ho hb)
    go_ret
    exact ⟨_, rfl, by simpa using HO.out, HB.out⟩
set_option maxHeartbeats 4000000 in
set_option maxRecDepth 100000 in
theorem impl_whole.w (A0 : Option Addr) (c0 : Nat) (V : List S125) (v2 : Value) (A1 : Option Addr) (c1 : Nat) (N : List S134) (hV : V.length ≤ 1048576) (hN : N.length ≤ 1048576) (hco : CallsOk N) (hnn : ∀ x ∈ N, x.f2.size ≤ 1048576) (w : World) (hv : Kd.C k125 w A0 V.length V) (hr : Kd.C k134 w A1 N.length N) :
    Calls Try.prog 152 #[.agg #[.slice A0 V.length c0, .slice A1 N.length c1, v2]] w fun e w' => ∃ v : Value, e = .returned v ∧ Kd.R k125 125 w' w.heap.size (fun _ => True) v (allV V N) ∧ Below w.heap.size w w' := by
  have hut := Try.underlying68
  have hB0 := (Below.refl w.heap.size w).alloc (Nat.le_refl _) (.cells #[.slice A0 V.length c0, .slice A1 N.length c1, v2] 68)
  have HV := Aside0.mk (Kd.C_below hv hB0)
  have HR := Aside0.mk (Kd.C_below hr hB0)
  have HBB := Aside0.mk hB0
  have HCO := Aside0.mk hco
  have HNN := Aside0.mk hnn
  have HOL := Aside0.mk (ownsV_len N)
  have HK0 := Aside0.mk (blk_new w (.cells #[.slice A0 V.length c0, .slice A1 N.length c1, v2] 68))
  have HLT := Aside0.mk (show w.heap.size < (w.alloc (.cells #[.slice A0 V.length c0, .slice A1 N.length c1, v2] 68)).heap.size by simp)
  clear hv hr hco hnn hB0
  go_enter Try.func152, Try.ntmps152
  go_wp2_with fail
  go_region_held3 (fun w' => Below w.heap.size w w' ∧ Below (w.alloc (.cells #[.slice A0 V.length c0, .slice A1 N.length c1, v2] 68)).heap.size (w.alloc (.cells #[.slice A0 V.length c0, .slice A1 N.length c1, v2] 68)) w' ∧ w'.cell? ⟨w.heap.size, 0, none⟩ = some (.slice A0 V.length c0) ∧ w'.cell? ⟨w.heap.size, 1, none⟩ = some (.slice A1 N.length c1) ∧ w'.cell? ⟨w.heap.size, 2, none⟩ = some v2) (first | (refine ⟨below_drew HBB.out, below_drew (Below.refl _ _), ?_, ?_, ?_⟩ <;> go_keep) | exact ⟨z1, z2, z3, z4, z5⟩ | (go_split_ands; refine ⟨?_, ?_, ?_, ?_, ?_⟩ <;> first | exact pw_cell_below hb (by assumption) | exact below_step (by assumption) hb)) (first
    | (go_at_call 198; go_split_ands; refine (slices_Clone_Var.w A0 c0 V _ (Kd.C_below HV.out (by assumption)) hV).mono ?_; rintro e w' ⟨v, rfl, ho, hb⟩; obtain ⟨Ac, cc, ec⟩ := Kd.R_slice ho; subst ec; have HOC := Aside0.mk (Kd.R_lower (base' := (w.alloc (.cells #[.slice A0 V.length c0, .slice A1 N.length c1, v2] 68)).heap.size) ho (below_size (by assumption))); clear ho)
    | (go_at_call 199; go_split_ands; refine (impl_owns.w (.slice A0 V.length c0) v2 A1 c1 N hN HCO.out HNN.out _ (Kd.C_below HR.out (by assumption))).mono ?_; rintro e w' ⟨v, rfl, ho, hb⟩; obtain ⟨Ax, cx, ex⟩ := Kd.R_slice ho; subst ex; have HOO := Aside0.mk (Kd.R_lower (base' := (w.alloc (.cells #[.slice A0 V.length c0, .slice A1 N.length c1, v2] 68)).heap.size) ho (below_size (by assumption))); clear ho)
    | (go_split_ands; refine Kd.R_append_rows_step k125 (w0 := (w.alloc (.cells #[.slice A0 V.length c0, .slice A1 N.length c1, v2] 68))) (W := w') (Rr := k125.K w') (w.alloc (.cells #[.slice A0 V.length c0, .slice A1 N.length c1, v2] 68)).heap.size ?_ (.tmp 5) (.tmp 7) 65 125 _ 40 ?_ Try.underlying65 info125 ?_ ?_ ?_ (.slice Ac V.length cc) V (ownsV N) Ax (ownsV N).length cx (fun _ => True) (fun _ => False) ?_ ?_ ?_ ?_ ?_ ?_ ?_ ?_ ?_ ?_ ?_; rfl; rfl; rfl; decide; omega; rfl; rfl; (first | exact HOC.out | exact Kd.R_below HOC.out hb); (first | exact (Kd.R_reads' HOO.out).2.2 | exact Kd.C_below (Kd.R_reads' HOO.out).2.2 hb); exact varK_M; exact (fun _ hk => hk.elim); exact (fun _ _ => trivial); assumption; exact below_size (by assumption); (have := HOL.out; omega); intro v1 w1 ho hb hg ha; clear hg ha; have HOF := Aside0.mk ho; have z2 := hb; have z1 : Below w.heap.size w w1 := HBB.out.trans (hb.mono (Nat.le_of_lt HLT.out)); have z3 : w1.cell? ⟨w.heap.size, 0, none⟩ = some (.slice A0 V.length c0) := (hb.cell (p := ⟨w.heap.size, 0, none⟩) HLT.out).trans ((blk_cell HK0.out 0).trans rfl); have z4 : w1.cell? ⟨w.heap.size, 1, none⟩ = some (.slice A1 N.length c1) := (hb.cell (p := ⟨w.heap.size, 1, none⟩) HLT.out).trans ((blk_cell HK0.out 1).trans rfl); have z5 : w1.cell? ⟨w.heap.size, 2, none⟩ = some v2 := (hb.cell (p := ⟨w.heap.size, 2, none⟩) HLT.out).trans ((blk_cell HK0.out 2).trans rfl); clear ho))
  all_goals
    go_wp2
    go_ret
    exact ⟨_, rfl, Kd.R_lower HOF.out (Nat.le_of_lt HLT.out), z1⟩
/-! ### LIB cellsum -/
def wideV (x : S125) : Int := max 1 x.f3
/-- How many cells variables have. -/
def sumV (L : List S125) : Int := L.foldl (fun d x => d + wideV x) 0
def SizesOk (L : List S125) : Prop := ∀ x ∈ L, 0 ≤ x.f3 ∧ x.f3 ≤ 8
theorem sumV_snoc (L : List S125) (x : S125) : sumV (L ++ [x]) = sumV L + wideV x := by simp [sumV, List.foldl_append]
theorem takeV_snoc {L : List S125} {j : Nat} (h : j < L.length) : L.take (j + 1) = L.take j ++ [rd_T125 L (j : Int)] := by
  have e : rd_T125 L (j : Int) = L[j] := by simp [rd_T125, List.getD_eq_getElem?_getD, h]
  rw [e, List.take_succ_eq_append_getElem h]
theorem sumV_bd (L : List S125) (h : SizesOk L) : 0 ≤ sumV L ∧ sumV L ≤ 8 * (L.length : Int) := by
  have key : ∀ (L : List S125) (d : Int), SizesOk L → 0 ≤ d → 0 ≤ L.foldl (fun d x => d + wideV x) d ∧ L.foldl (fun d x => d + wideV x) d ≤ d + 8 * (L.length : Int) := by
    intro L
    induction L with
    | nil => intro d _ hd; simp; omega
    | cons a L ih =>
      intro d hs hd
      rw [List.foldl_cons]
      have h1 := hs a (List.mem_cons_self ..)
      have h0 : 0 ≤ wideV a ∧ wideV a ≤ 8 := by unfold wideV; omega
      have h2 := ih (d + wideV a) (fun x hx => hs x (List.mem_cons_of_mem _ hx)) (by omega)
      simp only [List.length_cons]
      omega
  have := key L 0 h (by omega)
  unfold sumV
  omega
theorem sizes_take {L : List S125} (h : SizesOk L) (j : Nat) : SizesOk (L.take j) := fun x hx => h x (List.mem_of_mem_take hx)
theorem size_f (a : ByteArray) (b c d : Int) : spec_l5Size.f a b c d = some (max 1 d) := by
  unfold spec_l5Size.f spec_l1Max.f
  split <;> simp <;> omega
theorem l5Cells_run (L : List S125) (hs : SizesOk L) (hl : L.length ≤ 4194304) : ∀ (k j : Nat), j ≤ L.length → L.length - j < k → spec_l5Cells.l0 k L (sumV (L.take j)) (j : Int) = some (sumV L) := by
  intro k
  induction k with
  | zero => intro j _ h; exact absurd h (Nat.not_lt_zero _)
  | succ k ih =>
    intro j hj h
    rw [spec_l5Cells.l0]
    by_cases hlt : j < L.length
    · have h1 : j + 1 ≤ L.length := hlt
      have h2 : L.length - (j + 1) < k := by omega
      have h3 := ih (j + 1) h1 h2
      have e1 : wrap64 (sumV (L.take j) + max 1 (rd_T125 L (j : Int)).f3) = sumV (L.take (j + 1)) := by
        have hb := sumV_bd (L.take (j + 1)) (sizes_take hs _)
        rw [List.length_take, Nat.min_eq_left h1] at hb
        have hq : sumV (L.take (j + 1)) = sumV (L.take j) + max 1 (rd_T125 L (j : Int)).f3 := by rw [takeV_snoc hlt, sumV_snoc]; rfl
        rw [← hq]
        revert hb
        generalize sumV (L.take (j + 1)) = s
        intro hb
        exact pb_wrap (by omega) (by omega)
      have e2 : wrap64 ((j : Int) + 1) = ((j + 1 : Nat) : Int) := by rw [pb_wrap (by omega) (by omega)]; rfl
      have h4 : (j : Int) < (L.length : Int) := by omega
      rw [if_pos h4, if_pos (by omega), size_f, Option.bind_some, e1, e2]
      exact h3
    · rw [if_neg (by omega), show L.take j = L from List.take_of_length_le (by omega)]
theorem w_l5Cells (A : Option Addr) (c : Nat) (L : List S125) (hs : SizesOk L) (hl : L.length ≤ 4194304) (w : World) (hr : Kd.C k125 w A L.length L) (hc : L.length ≤ c) :
    Calls Try.prog 96 #[.slice A L.length c] w fun e w' => e = .returned (.int .i64 (sumV L)) ∧ Below w.heap.size w w' :=
  spec_l5Cells.calls (L.length + 1) A c L _ w hr hc (l5Cells_run L hs hl (L.length + 1) 0 (Nat.zero_le _) (by omega))
theorem maxed1 (x : Int) : (if x < 1 then 1 else x) = max 1 x := by
  split <;> omega
set_option maxHeartbeats 1000000 in
set_option maxRecDepth 100000 in
theorem w_wide (x : S125) (w : World) : Calls Try.prog 153 #[.agg #[.string x.f0, .int .i64 x.f1, .int .i64 x.f2, .int .i64 x.f3]] w fun e w' => e = .returned (.int .i64 (wideV x)) ∧ Below w.heap.size w w' := by
  have hu := Try.underlying125
  have HM := Aside0.mk (maxed1 x.f3)
  go_enter Try.func153, Try.ntmps153
  go_wp2
  all_goals
    go_ret
    refine ⟨?_, (Below.refl _ _).alloc (Nat.le_refl _) _⟩
    unfold wideV
    rw [← HM.out]
    first | rfl | (rw [if_pos (by first | assumption | omega)]; rfl) | (rw [if_neg (by first | assumption | omega)]; rfl)
set_option maxHeartbeats 2000000 in
set_option maxRecDepth 100000 in
theorem impl_cells.w (A0 : Option Addr) (c0 : Nat) (V : List S125) (v2 : Value) (A1 : Option Addr) (c1 : Nat) (N : List S134) (hV : V.length ≤ 1048576) (hN : N.length ≤ 1048576) (hco : CallsOk N) (hnn : ∀ x ∈ N, x.f2.size ≤ 1048576) (hsz : SizesOk (allV V N)) (w : World) (hv : Kd.C k125 w A0 V.length V) (hr : Kd.C k134 w A1 N.length N) :
    Calls Try.prog 98 #[.agg #[.slice A0 V.length c0, .slice A1 N.length c1, v2]] w fun e w' => e = .returned (.int .i64 (sumV (allV V N))) ∧ Below w.heap.size w w' := by
  have hut := Try.underlying68
  have hB0 := (Below.refl w.heap.size w).alloc (Nat.le_refl _) (.cells #[.slice A0 V.length c0, .slice A1 N.length c1, v2] 68)
  have HV := Aside0.mk (Kd.C_below hv hB0)
  have HR := Aside0.mk (Kd.C_below hr hB0)
  have HBB := Aside0.mk hB0
  have HCO := Aside0.mk hco
  have HNN := Aside0.mk hnn
  have HSZ := Aside0.mk hsz
  have hal : (allV V N).length ≤ 4194304 := by
    unfold allV
    rw [List.length_append]
    have := ownsV_len N
    omega
  clear hv hr hco hnn hB0 hsz
  go_enter Try.func98, Try.ntmps98
  go_wp2_with fail
  refine (impl_whole.w A0 c0 V v2 A1 c1 N hV hN HCO.out HNN.out _ HV.out HR.out).mono ?_
  rintro e w1 ⟨v, rfl, ho, hb⟩
  obtain ⟨A, c, ev⟩ := Kd.R_slice ho
  subst ev
  have HRL := Aside0.mk (Kd.R_reads' ho).2.2
  have HB := Aside0.mk (below_step HBB.out hb)
  clear ho hb
  revert HSZ hal HRL
  generalize hLE : allV V N = L
  intro HSZ hal HRL
  have HLE := Aside0.mk hLE
  clear hLE
  go_wp2
  go_loopg [3, 9] L.length (fun gg s3 s9 w' => ∃ j : Nat, s9 = .int .i64 (j : Int) ∧ s3 = .int .i64 (sumV (L.take j)) ∧ Aside0 (j ≤ L.length ∧ L.length - j ≤ gg) ∧ Aside0 (Below w1.heap.size w1 w'))
  case atStart => exact ⟨0, rfl, by rw [List.take_zero]; rfl, ⟨by omega⟩, ⟨Below.refl _ _⟩⟩
  case round =>
    obtain ⟨wo, rfl⟩ : ∃ wo : World, wo = wr := ⟨_, rfl⟩
    obtain ⟨j, rfl, rfl, HKj, HBj⟩ := hrel
    by_cases hj : j < L.length
    · have hjz : (j : Int) < (L.length : Int) := by omega
      have hjd : decide ((j : Int) < (L.length : Int)) = true := decide_eq_true hjz
      have hjd' : decide (j < L.length) = true := decide_eq_true hj
      have hjq := eq_true hjz
      have hj0 : (0 ≤ (j : Int)) = True := eq_true (by omega)
      obtain ⟨ad, rfl, x0, x1, x2, x3⟩ := at_T125 (Kd.C_below HRL.out HBj.out) (j : Int) (by omega) hjz
      rw [Int.toNat_natCast] at x0 x1 x2 x3
      have hx := HSZ.out _ (rdV_mem hj)
      have HSN := Aside0.mk (show sumV (L.take (j + 1)) = _ from by rw [takeV_snoc hj, sumV_snoc])
      have hbd := sumV_bd (L.take j) (sizes_take HSZ.out j)
      rw [List.length_take, Nat.min_eq_left (by omega)] at hbd
      revert x0 x1 x2 x3 hx HSN
      generalize rd_T125 L (j : Int) = x
      intro x0 x1 x2 x3 hx HSN
      have hwd : 0 ≤ wideV x ∧ wideV x ≤ 8 := by unfold wideV; omega
      have HWC := Aside0.mk (fun W => w_wide x W)
      revert hbd HSN
      generalize sumV (L.take j) = s
      intro hbd HSN
      revert hwd HWC HSN
      generalize wideV x = wx
      intro hwd HWC HSN
      obtain ⟨hb0, hb1⟩ := hbd
      obtain ⟨hw0, hw1⟩ := hwd
      go_wp2_with fail
      refine (HWC.out _).mono ?_
      rintro e w3 ⟨rfl, hb⟩
      have HB3 := Aside0.mk (below_step (below_alloc HBj.out _) hb)
      clear hb x0 x1 x2 x3
      go_wp2
      go_roundg (L.length - (j + 1))
      case measure => have := HKj.out; omega
      case rel => exact ⟨j + 1, by go_num, by rw [HSN.out], ⟨by omega⟩, HB3⟩
    · have hjd : decide ((j : Int) < (L.length : Int)) = false := decide_eq_false (by omega)
      have hjd' : decide (j < L.length) = false := decide_eq_false hj
      have HLt := Aside0.mk (show L.take j = L from List.take_of_length_le (by omega))
      go_wp2
      go_ret
      exact ⟨by rw [HLE.out]; first | rfl | (rw [HLt.out]; rfl), below_step HB.out HBj.out⟩
/-! ### LIB costdef -/
def sumL (xs L : List Int) : Int := L.foldl (fun d x => d + rd xs x) 0
def roundsN (n : S134) : Int := max 0 (n.f4 - n.f3 + 1)
/-- What a node costs, over the costs of what it names. -/
def costN (n : S134) (s1 s2 s3 : Int) : Int := min 100000 (1 + s1 + (if n.f0 = 9 then max s2 s3 else if n.f0 = 10 then 2 + roundsN n * (3 + s2) else if n.f0 = 11 then 12 else 0))
def cstep (out : List Int) (n : S134) : List Int := out ++ [costN n (sumL out n.f5) (sumL out n.f6) (sumL out n.f7)]
def costL (N : List S134) : List Int := N.foldl cstep []
theorem sumL_snoc (xs L : List Int) (x : Int) : sumL xs (L ++ [x]) = sumL xs L + rd xs x := by simp [sumL, List.foldl_append]
theorem costL_snoc (N : List S134) (n : S134) : costL (N ++ [n]) = cstep (costL N) n := by simp [costL, List.foldl_append]
theorem costL_length (N : List S134) : (costL N).length = N.length := by
  have h : ∀ (N : List S134) (out : List Int), (N.foldl cstep out).length = out.length + N.length := by
    intro N
    induction N with
    | nil => intro out; rfl
    | cons a N ih => intro out; rw [List.foldl_cons, ih]; simp [cstep]; omega
  rw [costL, h]; simp
theorem rounds_nn (n : S134) : 0 ≤ roundsN n := by unfold roundsN; omega
theorem costN_bd (n : S134) (s1 s2 s3 : Int) (h1 : 0 ≤ s1) (h2 : 0 ≤ s2) (h3 : 0 ≤ s3) : 0 ≤ costN n s1 s2 s3 ∧ costN n s1 s2 s3 ≤ 100000 := by
  have hp : 0 ≤ roundsN n * (3 + s2) := Int.mul_nonneg (rounds_nn n) (by omega)
  unfold costN
  split
  · omega
  · split
    · omega
    · split <;> omega
theorem min_cap (s : Int) : (s ≤ 100000 ∧ min s 100000 = s) ∨ (100000 ≤ s ∧ min s 100000 = 100000) := by
  rcases Int.le_total s 100000 with h | h
  · exact .inl ⟨h, Int.min_eq_left h⟩
  · exact .inr ⟨h, Int.min_eq_right h⟩
/-- A cap that is laid at each sum lays no other cap at the whole. -/
theorem costN_cap (n : S134) (s1 s2 s3 : Int) (h1 : 0 ≤ s1) (h2 : 0 ≤ s2) (h3 : 0 ≤ s3) : costN n (min s1 100000) (min s2 100000) (min s3 100000) = costN n s1 s2 s3 := by
  unfold costN
  have m1 := min_cap s1
  have m2 := min_cap s2
  have m3 := min_cap s3
  revert m1 m2 m3
  generalize min s1 100000 = t1
  generalize min s2 100000 = t2
  generalize min s3 100000 = t3
  intro m1 m2 m3
  split
  · omega
  · split
    · have hr := rounds_nn n
      revert hr
      generalize roundsN n = r
      intro hr
      rcases m2 with ⟨_, rfl⟩ | ⟨hs, rfl⟩
      · have hp : 0 ≤ r * (3 + t2) := Int.mul_nonneg hr (by omega)
        omega
      · by_cases hz : r = 0
        · subst hz; simp only [Int.zero_mul]; omega
        · have h1 : 1 * (3 + (100000 : Int)) ≤ r * (3 + 100000) := Int.mul_le_mul_of_nonneg_right (by omega) (by omega)
          have h2 : 1 * (3 + s2) ≤ r * (3 + s2) := Int.mul_le_mul_of_nonneg_right (by omega) (by omega)
          omega
    · split <;> omega
theorem rd_bd {xs : List Int} {b : Int} (hb : 0 ≤ b) (h : ∀ x ∈ xs, 0 ≤ x ∧ x ≤ b) (i : Int) : 0 ≤ rd xs i ∧ rd xs i ≤ b := by
  unfold rd
  rw [List.getD_eq_getElem?_getD]
  cases he : xs[i.toNat]? with
  | none => simp; exact hb
  | some y => simpa using h y (List.mem_of_getElem? he)
theorem sumL_bd {xs : List Int} (h : ∀ x ∈ xs, 0 ≤ x ∧ x ≤ 100000) (L : List Int) : 0 ≤ sumL xs L ∧ sumL xs L ≤ 100000 * (L.length : Int) := by
  have key : ∀ (L : List Int) (d : Int), 0 ≤ d → 0 ≤ L.foldl (fun d x => d + rd xs x) d ∧ L.foldl (fun d x => d + rd xs x) d ≤ d + 100000 * (L.length : Int) := by
    intro L
    induction L with
    | nil => intro d hd; simp; omega
    | cons a L ih =>
      intro d hd
      rw [List.foldl_cons]
      have h1 := rd_bd (by decide) h a
      have h2 := ih (d + rd xs a) (by omega)
      simp only [List.length_cons]
      omega
  have := key L 0 (by omega)
  unfold sumL
  omega
theorem costL_bd (N : List S134) : ∀ x ∈ costL N, 0 ≤ x ∧ x ≤ 100000 := by
  have key : ∀ n, n ≤ N.length → ∀ x ∈ costL (N.take n), 0 ≤ x ∧ x ≤ 100000 := by
    intro n
    induction n with
    | zero => intro _ x hx; simp [costL] at hx
    | succ n ih =>
      intro hn x hx
      rw [List.take_succ_eq_append_getElem (by omega), costL_snoc] at hx
      have h := ih (by omega)
      rcases List.mem_append.1 hx with hx | hx
      · exact h x hx
      · rw [List.mem_singleton.1 hx]
        exact costN_bd _ _ _ _ (sumL_bd h _).1 (sumL_bd h _).1 (sumL_bd h _).1
  have := key N.length (Nat.le_refl _)
  rwa [List.take_length] at this
theorem costL_take (N : List S134) (i : Nat) (hi : i < N.length) : costL (N.take (i + 1)) = costL (N.take i) ++ [costN (rd_T134 N (i : Int)) (sumL (costL (N.take i)) (rd_T134 N (i : Int)).f5) (sumL (costL (N.take i)) (rd_T134 N (i : Int)).f6) (sumL (costL (N.take i)) (rd_T134 N (i : Int)).f7)] := by
  have e : rd_T134 N (i : Int) = N[i] := by simp [rd_T134, List.getD_eq_getElem?_getD, hi]
  rw [e, List.take_succ_eq_append_getElem hi, costL_snoc, cstep]
theorem costL_app (N M : List S134) : ∃ R, costL (N ++ M) = costL N ++ R := by
  induction M generalizing N with
  | nil => exact ⟨[], by simp⟩
  | cons a M ih =>
    obtain ⟨R, hR⟩ := ih (N ++ [a])
    refine ⟨[costN a (sumL (costL N) a.f5) (sumL (costL N) a.f6) (sumL (costL N) a.f7)] ++ R, ?_⟩
    rw [show N ++ a :: M = (N ++ [a]) ++ M by simp, hR, costL_snoc, cstep, List.append_assoc]
theorem cost_pre (N : List S134) (i : Nat) (hi : i ≤ N.length) (x : Int) (h0 : 0 ≤ x) (h1 : x < (i : Int)) : rd (costL (N.take i)) x = rd (costL N) x := by
  obtain ⟨R, hR⟩ := costL_app (N.take i) (N.drop i)
  rw [List.take_append_drop] at hR
  have hl : (costL (N.take i)).length = i := by rw [costL_length, List.length_take]; omega
  rw [hR]
  unfold rd
  rw [List.getD_eq_getElem?_getD, List.getD_eq_getElem?_getD, List.getElem?_append_left (by omega)]
theorem sumL_congr {xs ys L : List Int} (h : ∀ x ∈ L, rd xs x = rd ys x) : sumL xs L = sumL ys L := by
  have key : ∀ (L : List Int) (d : Int), (∀ x ∈ L, rd xs x = rd ys x) → L.foldl (fun d x => d + rd xs x) d = L.foldl (fun d x => d + rd ys x) d := by
    intro L
    induction L with
    | nil => intro d _; rfl
    | cons a L ih => intro d h; rw [List.foldl_cons, List.foldl_cons, h a (List.mem_cons_self ..), ih _ (fun x hx => h x (List.mem_cons_of_mem _ hx))]
  exact key L 0 h
/-- What a node names lies ahead of it. -/
structure Back (i : Nat) (n : S134) : Prop where
  k5 : ∀ x ∈ n.f5, 0 ≤ x ∧ x ≤ (i : Int) - 1
  k6 : ∀ x ∈ n.f6, 0 ≤ x ∧ x ≤ (i : Int) - 1
  k7 : ∀ x ∈ n.f7, 0 ≤ x ∧ x ≤ (i : Int) - 1
  far : n.f0 = 10 → (0 ≤ n.f3 ∧ n.f3 ≤ 65535) ∧ (0 ≤ n.f4 ∧ n.f4 ≤ 65535)
theorem fits_for {n : S134} (h : fitsB n = true) (hk : n.f0 = 10) : (0 ≤ n.f3 ∧ n.f3 ≤ 65535) ∧ (0 ≤ n.f4 ∧ n.f4 ≤ 65535) := by
  unfold fitsB at h
  repeat (rw [if_neg (by omega)] at h)
  rw [if_pos hk] at h
  unfold restB at h
  simp only [Bool.and_eq_true] at h
  obtain ⟨_, _, _, _, _, h3, h4⟩ := h
  exact ⟨inB_true h3, inB_true h4⟩
theorem backs {N : List S134} (h : nodesI N = true) {i : Nat} (hi : i < N.length) : Back i (rd_T134 N (i : Int)) := by
  have ho := List.all_eq_true.1 h i (List.mem_range.2 hi)
  unfold okI at ho
  simp only [Bool.and_eq_true] at ho
  obtain ⟨hf, h5, h6, h7⟩ := ho
  exact ⟨fun x hx => any_bad h5 hx, fun x hx => any_bad h6 hx, fun x hx => any_bad h7 hx, fits_for hf⟩
theorem cost_at {N : List S134} {i : Nat} (hi : i < N.length) (hb : Back i (rd_T134 N (i : Int))) : rd (costL N) (i : Int) = costN (rd_T134 N (i : Int)) (sumL (costL N) (rd_T134 N (i : Int)).f5) (sumL (costL N) (rd_T134 N (i : Int)).f6) (sumL (costL N) (rd_T134 N (i : Int)).f7) := by
  rw [← cost_pre N (i + 1) (by omega) (i : Int) (by omega) (by omega), costL_take N i hi]
  have hl : (costL (N.take i)).length = i := by rw [costL_length, List.length_take]; omega
  have hs : ∀ L : List Int, (∀ x ∈ L, 0 ≤ x ∧ x ≤ (i : Int) - 1) → sumL (costL (N.take i)) L = sumL (costL N) L := fun L hL => sumL_congr fun x hx => by
    have := hL x hx
    exact cost_pre N i (by omega) x this.1 (by omega)
  rw [hs _ hb.k5, hs _ hb.k6, hs _ hb.k7]
  unfold rd
  rw [List.getD_eq_getElem?_getD, Int.toNat_natCast, List.getElem?_append_right (by omega), hl]
  simp
theorem rounds_bd {i : Nat} {n : S134} (hb : Back i n) (hk : n.f0 = 10) : roundsN n ≤ 65536 := by
  have := hb.far hk
  unfold roundsN
  omega
/-- The product at a loop is small. -/
theorem prod_bd {i : Nat} {n : S134} (hb : Back i n) (hk : n.f0 = 10) {s : Int} (h0 : 0 ≤ s) (h1 : s ≤ 104857600000) : 0 ≤ roundsN n * (3 + s) ∧ roundsN n * (3 + s) ≤ 65536 * 104857600003 := by
  have h := rounds_bd hb hk
  refine ⟨Int.mul_nonneg (rounds_nn n) (by omega), ?_⟩
  exact Int.le_trans (Int.mul_le_mul_of_nonneg_right h (by omega)) (Int.mul_le_mul_of_nonneg_left (by omega) (by omega))
theorem fault_nodes {V : List S125} {N : List S134} {B : List Int} (h : faultI V N B = 0) : nodesI N = true := by
  unfold faultI at h
  split at h
  · omega
  split at h
  · omega
  split at h
  · omega
  rename_i hn
  simpa using hn
/-! ### LIB topok -/
theorem fits_call {n : S134} (h : fitsB n = true) (hk : n.f0 = 11) : 1 ≤ n.f1 ∧ n.f1 ≤ 4 := by
  unfold fitsB at h
  repeat (rw [if_neg (by omega)] at h)
  rw [if_pos hk] at h
  unfold restB at h
  simp only [Bool.and_eq_true] at h
  obtain ⟨_, _, _, _, h3, _⟩ := h
  rw [if_pos (by decide)] at h3
  exact inB_true h3
theorem calls_ok {N : List S134} (h : nodesI N = true) : CallsOk N := by
  intro x hx hk
  obtain ⟨k, hk1, rfl⟩ := List.mem_iff_getElem.1 hx
  have hf := nodesI_fit h k hk1
  have e : rd_T134 N (k : Int) = N[k] := by simp [rd_T134, List.getD_eq_getElem?_getD, hk1]
  rw [e] at hf
  exact fits_call hf hk
theorem varsF_zero : ∀ (V : List S125), varsF V = 0 → ∀ v ∈ V, vf v = 0
  | [], _, v, hv => by cases hv
  | a :: V, h, v, hv => by
    rw [varsF] at h
    by_cases ha : vf a = 0
    · rw [if_pos ha] at h
      rcases List.mem_cons.1 hv with rfl | hv
      · exact ha
      · exact varsF_zero V h v hv
    · rw [if_neg ha] at h
      exact absurd h ha
theorem vf_size {v : S125} (h : vf v = 0) : 0 ≤ v.f3 ∧ v.f3 ≤ 8 := by
  unfold vf at h
  split at h
  · omega
  split at h
  · omega
  rename_i h2
  have h3 : (inB v.f1 1 3 && (inB v.f2 1 2 && inB v.f3 0 8)) = true := by simpa using h2
  simp only [Bool.and_eq_true] at h3
  exact inB_true h3.2.2
theorem own_size {N : List S134} {x : S125} (h : x ∈ ownsV N) : x.f3 = 0 := by
  obtain ⟨l, hl, hx⟩ := List.mem_flatten.1 h
  obtain ⟨n, _, rfl⟩ := List.mem_map.1 hl
  obtain ⟨b, _, rfl⟩ := List.mem_map.1 hx
  rfl
theorem fault_vars {V : List S125} {N : List S134} {B : List Int} (h : faultI V N B = 0) : varsF V = 0 := by
  unfold faultI at h
  split at h
  · omega
  split at h
  · exact h
  rename_i hn
  by_cases h0 : varsF V = 0
  · exact h0
  · exact absurd h0 hn
theorem all_sizes {V : List S125} {N : List S134} {B : List Int} (h : faultI V N B = 0) : SizesOk (allV V N) := by
  intro x hx
  rcases List.mem_append.1 hx with hx | hx
  · exact vf_size (varsF_zero V (fault_vars h) x hx)
  · rw [own_size hx]; decide
/-! ### LIB topCells -/
def celF (V : List S125) (N : List S134) (B : List Int) : Option (Int × Int) := if smallB V N B = true then (if faultI V N B = 0 then some (0, sumV (allV V N)) else some (faultI V N B, 0)) else none
def impl_CellsOf.f (V : List S125) (N : List S134) (B : List Int) : Option (Int × Int) := celF V N B
def spec_CellsOf.f (V : List S125) (N : List S134) (B : List Int) : Option (Int × Int) := celF V N B
set_option maxHeartbeats 2000000 in
set_option maxRecDepth 100000 in
theorem spec_CellsOf.calls (A0_0 : Option Addr) (c0_0 : Nat) (l0_0 : List S125) (A0_1 : Option Addr) (c0_1 : Nat) (l0_1 : List S134) (A0_2 : Option Addr) (c0_2 : Nat) (l0_2 : List Int) (r1 r2 : Int) (w : World) (hr0_0 : Kd.C k125 w A0_0 l0_0.length l0_0) (hc0_0 : l0_0.length ≤ c0_0) (hr0_1 : Kd.C k134 w A0_1 l0_1.length l0_1) (hc0_1 : l0_1.length ≤ c0_1) (hr0_2 : Kd.C (Kd.int .i64) w A0_2 l0_2.length l0_2) (hc0_2 : l0_2.length ≤ c0_2) (h : spec_CellsOf.f l0_0 l0_1 l0_2 = some (r1, r2)) :
    Calls Try.prog 46 #[.agg #[.slice A0_0 l0_0.length c0_0, .slice A0_1 l0_1.length c0_1, .slice A0_2 l0_2.length c0_2]] w fun e w' => e = .returned (.agg #[.int .i64 r1, .int .i64 r2]) ∧ Below w.heap.size w w' := by
  unfold spec_CellsOf.f celF at h
  have hu := Try.underlying63
  have hut := Try.underlying68
  by_cases hs : smallB l0_0 l0_1 l0_2 = true
  · rw [if_pos hs] at h
    have hb0 := tree_box hr0_0 hc0_0 hr0_1 hc0_1 hr0_2 hc0_2
    have HT := Aside0.mk hb0
    have HS := Aside0.mk hs
    have hN := (smallB_small hs).n
    have hV := (smallB_small hs).v
    have HNN := Aside0.mk (smallB_small hs).nn
    clear hb0 hs hr0_0 hr0_1 hr0_2
    have HF := Aside0.mk (fault_eq l0_0 l0_1 l0_2)
    have hcl := fun W (hW : TreeAt W w.heap.size l0_0 l0_1 l0_2 A0_0 c0_0 A0_1 c0_1 A0_2 c0_2) => spec_l4Fault.w w.heap.size l0_0 l0_1 l0_2 A0_0 A0_1 A0_2 c0_0 c0_1 c0_2 W hW (smallB_small HS.out)
    rw [HF.out] at hcl
    have HFZ := Aside0.mk (fun h : faultI l0_0 l0_1 l0_2 = 0 => And.intro (calls_ok (fault_nodes h)) (all_sizes h))
    revert h hcl HFZ
    generalize faultI l0_0 l0_1 l0_2 = code
    intro h hcl HFZ
    by_cases hz : code = 0
    · have HNO := Aside0.mk (HFZ.out hz)
      subst hz
      rw [if_pos rfl] at h
      cases h
      clear HFZ
      go_enter Try.func46, Try.ntmps46
      have HT1 := Aside0.mk (HT.out.below (w' := (w.alloc (.cells #[.slice A0_0 l0_0.length c0_0, .slice A0_1 l0_1.length c0_1, .slice A0_2 l0_2.length c0_2] 68)).alloc (.cells #[.int .i64 0, .int .i64 0] 63)) ((Below.refl _ _).alloc (Nat.le_refl _) _))
      have HB0 := Aside0.mk ((((Below.refl _ w).alloc (Nat.le_refl _) (.cells #[.slice A0_0 l0_0.length c0_0, .slice A0_1 l0_1.length c0_1, .slice A0_2 l0_2.length c0_2] 68)).alloc (by simp) (.cells #[.int .i64 0, .int .i64 0] 63)) : Below w.heap.size w _)
      have HBK := Aside0.mk (blk_new (w.alloc (.cells #[.slice A0_0 l0_0.length c0_0, .slice A0_1 l0_1.length c0_1, .slice A0_2 l0_2.length c0_2] 68)) (.cells #[.int .i64 0, .int .i64 0] 63))
      revert HT1 HB0 HBK
      rw [show (w.alloc (.cells #[.slice A0_0 l0_0.length c0_0, .slice A0_1 l0_1.length c0_1, .slice A0_2 l0_2.length c0_2] 68)).heap.size = w.heap.size + 1 from by simp]
      intro HT1 HB0 HBK
      go_wp2_with fail
      refine (hcl _ HT1.out).mono ?_
      rintro e w1 ⟨rfl, hb1⟩
      have HT2 := Aside0.mk (HT1.out.below hb1)
      have HB1 := Aside0.mk (below_step HB0.out hb1)
      have HBK1 := Aside0.mk (blk_below HBK.out hb1)
      clear hb1
      have q10 : w1.cell? ⟨w.heap.size, 0, none⟩ = some (.slice A0_0 l0_0.length c0_0) := (blk_cell HT2.out.blk 0).trans rfl
      have q11 : w1.cell? ⟨w.heap.size, 1, none⟩ = some (.slice A0_1 l0_1.length c0_1) := (blk_cell HT2.out.blk 1).trans rfl
      have q12 : w1.cell? ⟨w.heap.size, 2, none⟩ = some (.slice A0_2 l0_2.length c0_2) := (blk_cell HT2.out.blk 2).trans rfl
      have hcz1_0 : w1.cell? ⟨w.heap.size + 1, 0, none⟩ = some (.int .i64 0) := (blk_cell HBK1.out 0).trans rfl
      have hcz1_1 : w1.cell? ⟨w.heap.size + 1, 1, none⟩ = some (.int .i64 0) := (blk_cell HBK1.out 1).trans rfl
      have hfz1_0 := blk_frozen HBK1.out 0
      have hfz1_1 := blk_frozen HBK1.out 1
      go_wp2_with fail
      refine (spec_l5All.w w.heap.size l0_0 l0_1 l0_2 A0_0 A0_1 A0_2 c0_0 c0_1 c0_2 _ HT2.out hV hN HNO.out.1 HNN.out).mono ?_
      rintro e w2 ⟨v2, rfl, ho, hb2⟩
      have HT3 := Aside0.mk (HT2.out.below hb2)
      have HB2 := Aside0.mk (below_step HB1.out hb2)
      have HBK2 := Aside0.mk (blk_below HBK1.out hb2)
      obtain ⟨Ad, cd, ed⟩ := Kd.R_slice ho
      subst ed
      have HC := Aside0.mk (Kd.R_reads' ho).2
      have hal : (allV l0_0 l0_1).length ≤ 4194304 := by unfold allV; rw [List.length_append]; have := ownsV_len l0_1; omega
      clear ho
      clear hb2
      have q20 : w2.cell? ⟨w.heap.size, 0, none⟩ = some (.slice A0_0 l0_0.length c0_0) := (blk_cell HT3.out.blk 0).trans rfl
      have q21 : w2.cell? ⟨w.heap.size, 1, none⟩ = some (.slice A0_1 l0_1.length c0_1) := (blk_cell HT3.out.blk 1).trans rfl
      have q22 : w2.cell? ⟨w.heap.size, 2, none⟩ = some (.slice A0_2 l0_2.length c0_2) := (blk_cell HT3.out.blk 2).trans rfl
      have hcz2_0 : w2.cell? ⟨w.heap.size + 1, 0, none⟩ = some (.int .i64 0) := (blk_cell HBK2.out 0).trans rfl
      have hcz2_1 : w2.cell? ⟨w.heap.size + 1, 1, none⟩ = some (.int .i64 0) := (blk_cell HBK2.out 1).trans rfl
      have hfz2_0 := blk_frozen HBK2.out 0
      have hfz2_1 := blk_frozen HBK2.out 1
      go_wp2_with fail
      refine (w_l5Cells Ad cd (allV l0_0 l0_1) HNO.out.2 hal _ HC.out.2 HC.out.1).mono ?_
      rintro e w3 ⟨rfl, hb3⟩
      have HT4 := Aside0.mk (HT3.out.below hb3)
      have HB3 := Aside0.mk (below_step HB2.out hb3)
      have HBK3 := Aside0.mk (blk_below HBK2.out hb3)
      clear hb3
      have q30 : w3.cell? ⟨w.heap.size, 0, none⟩ = some (.slice A0_0 l0_0.length c0_0) := (blk_cell HT4.out.blk 0).trans rfl
      have q31 : w3.cell? ⟨w.heap.size, 1, none⟩ = some (.slice A0_1 l0_1.length c0_1) := (blk_cell HT4.out.blk 1).trans rfl
      have q32 : w3.cell? ⟨w.heap.size, 2, none⟩ = some (.slice A0_2 l0_2.length c0_2) := (blk_cell HT4.out.blk 2).trans rfl
      have hcz3_0 : w3.cell? ⟨w.heap.size + 1, 0, none⟩ = some (.int .i64 0) := (blk_cell HBK3.out 0).trans rfl
      have hcz3_1 : w3.cell? ⟨w.heap.size + 1, 1, none⟩ = some (.int .i64 0) := (blk_cell HBK3.out 1).trans rfl
      have hfz3_0 := blk_frozen HBK3.out 0
      have hfz3_1 := blk_frozen HBK3.out 1
      go_wp2
      refine bodyPost_ret (results_cell_row rfl _ _ (w.heap.size + 1) 63 #[.int .i64 0, .int .i64 (sumV (allV l0_0 l0_1))] (0, 0) _ rfl (by refine blk_put (cs := #[.int .i64 0, .int .i64 0]) ?_ 1 _ rfl; refine blk_put (cs := #[.int .i64 0, .int .i64 0]) ?_ 0 _ rfl; exact HBK3.out) hu rfl (by kernel_rfl)) rfl ?_
      exact ⟨by first | rfl | simp, by repeat (first | exact HB3.out | refine below_set ?_ (Nat.le_succ _))⟩
    · rw [if_neg hz] at h
      cases h
      have e1 : decide (r1 = 0) = false := decide_eq_false hz
      have e2 : (r1 == 0) = false := by simp [hz]
      have e3 : (r1 != 0) = true := by simp [hz]
      go_enter Try.func46, Try.ntmps46
      have HT1 := Aside0.mk (HT.out.below (w' := (w.alloc (.cells #[.slice A0_0 l0_0.length c0_0, .slice A0_1 l0_1.length c0_1, .slice A0_2 l0_2.length c0_2] 68)).alloc (.cells #[.int .i64 0, .int .i64 0] 63)) ((Below.refl _ _).alloc (Nat.le_refl _) _))
      have HB0 := Aside0.mk ((((Below.refl _ w).alloc (Nat.le_refl _) (.cells #[.slice A0_0 l0_0.length c0_0, .slice A0_1 l0_1.length c0_1, .slice A0_2 l0_2.length c0_2] 68)).alloc (by simp) (.cells #[.int .i64 0, .int .i64 0] 63)) : Below w.heap.size w _)
      have HBK := Aside0.mk (blk_new (w.alloc (.cells #[.slice A0_0 l0_0.length c0_0, .slice A0_1 l0_1.length c0_1, .slice A0_2 l0_2.length c0_2] 68)) (.cells #[.int .i64 0, .int .i64 0] 63))
      revert HT1 HB0 HBK
      rw [show (w.alloc (.cells #[.slice A0_0 l0_0.length c0_0, .slice A0_1 l0_1.length c0_1, .slice A0_2 l0_2.length c0_2] 68)).heap.size = w.heap.size + 1 from by simp]
      intro HT1 HB0 HBK
      go_wp2_with fail
      refine (hcl _ HT1.out).mono ?_
      rintro e w1 ⟨rfl, hb1⟩
      have HT2 := Aside0.mk (HT1.out.below hb1)
      have HB1 := Aside0.mk (below_step HB0.out hb1)
      have HBK1 := Aside0.mk (blk_below HBK.out hb1)
      clear hb1
      have q10 : w1.cell? ⟨w.heap.size, 0, none⟩ = some (.slice A0_0 l0_0.length c0_0) := (blk_cell HT2.out.blk 0).trans rfl
      have q11 : w1.cell? ⟨w.heap.size, 1, none⟩ = some (.slice A0_1 l0_1.length c0_1) := (blk_cell HT2.out.blk 1).trans rfl
      have q12 : w1.cell? ⟨w.heap.size, 2, none⟩ = some (.slice A0_2 l0_2.length c0_2) := (blk_cell HT2.out.blk 2).trans rfl
      have hcz1_0 : w1.cell? ⟨w.heap.size + 1, 0, none⟩ = some (.int .i64 0) := (blk_cell HBK1.out 0).trans rfl
      have hcz1_1 : w1.cell? ⟨w.heap.size + 1, 1, none⟩ = some (.int .i64 0) := (blk_cell HBK1.out 1).trans rfl
      have hfz1_0 := blk_frozen HBK1.out 0
      have hfz1_1 := blk_frozen HBK1.out 1
      go_wp2
      refine bodyPost_ret (results_cell_row rfl _ _ (w.heap.size + 1) 63 #[.int .i64 r1, .int .i64 0] (0, 0) _ rfl (by refine blk_put (cs := #[.int .i64 r1, .int .i64 0]) ?_ 1 _ rfl; refine blk_put (cs := #[.int .i64 0, .int .i64 0]) ?_ 0 _ rfl; exact HBK1.out) hu rfl (by kernel_rfl)) rfl ?_
      exact ⟨by first | rfl | simp, by repeat (first | exact HB1.out | refine below_set ?_ (Nat.le_succ _))⟩
  · rw [if_neg hs] at h
    cases h
set_option maxHeartbeats 2000000 in
set_option maxRecDepth 100000 in
theorem impl_CellsOf.calls (A0_0 : Option Addr) (c0_0 : Nat) (l0_0 : List S125) (A0_1 : Option Addr) (c0_1 : Nat) (l0_1 : List S134) (A0_2 : Option Addr) (c0_2 : Nat) (l0_2 : List Int) (r1 r2 : Int) (w : World) (hr0_0 : Kd.C k125 w A0_0 l0_0.length l0_0) (hc0_0 : l0_0.length ≤ c0_0) (hr0_1 : Kd.C k134 w A0_1 l0_1.length l0_1) (hc0_1 : l0_1.length ≤ c0_1) (hr0_2 : Kd.C (Kd.int .i64) w A0_2 l0_2.length l0_2) (hc0_2 : l0_2.length ≤ c0_2) (h : impl_CellsOf.f l0_0 l0_1 l0_2 = some (r1, r2)) :
    Calls Try.prog 47 #[.agg #[.slice A0_0 l0_0.length c0_0, .slice A0_1 l0_1.length c0_1, .slice A0_2 l0_2.length c0_2]] w fun e w' => e = .returned (.agg #[.int .i64 r1, .int .i64 r2]) ∧ Below w.heap.size w w' := by
  unfold impl_CellsOf.f celF at h
  have hu := Try.underlying63
  have hut := Try.underlying68
  by_cases hs : smallB l0_0 l0_1 l0_2 = true
  · rw [if_pos hs] at h
    have hb0 := tree_box hr0_0 hc0_0 hr0_1 hc0_1 hr0_2 hc0_2
    have HT := Aside0.mk hb0
    have HS := Aside0.mk hs
    have hN := (smallB_small hs).n
    have hV := (smallB_small hs).v
    have HNN := Aside0.mk (smallB_small hs).nn
    clear hb0 hs hr0_0 hr0_1 hr0_2
    have HF := Aside0.mk (fault_eq l0_0 l0_1 l0_2)
    have hcl := fun W (hW : TreeAt W w.heap.size l0_0 l0_1 l0_2 A0_0 c0_0 A0_1 c0_1 A0_2 c0_2) => impl_TreeFault.w l0_0 l0_1 l0_2 A0_0 A0_1 A0_2 c0_0 c0_1 c0_2 W hW.v hW.n hW.b (smallB_small HS.out)
    have HFZ := Aside0.mk (fun h : faultI l0_0 l0_1 l0_2 = 0 => And.intro (calls_ok (fault_nodes h)) (all_sizes h))
    revert h hcl HFZ
    generalize faultI l0_0 l0_1 l0_2 = code
    intro h hcl HFZ
    by_cases hz : code = 0
    · have HNO := Aside0.mk (HFZ.out hz)
      subst hz
      rw [if_pos rfl] at h
      cases h
      clear HFZ
      go_enter Try.func47, Try.ntmps47
      have HT1 := Aside0.mk (HT.out.below (w' := (w.alloc (.cells #[.slice A0_0 l0_0.length c0_0, .slice A0_1 l0_1.length c0_1, .slice A0_2 l0_2.length c0_2] 68)).alloc (.cells #[.int .i64 0, .int .i64 0] 63)) ((Below.refl _ _).alloc (Nat.le_refl _) _))
      have HB0 := Aside0.mk ((((Below.refl _ w).alloc (Nat.le_refl _) (.cells #[.slice A0_0 l0_0.length c0_0, .slice A0_1 l0_1.length c0_1, .slice A0_2 l0_2.length c0_2] 68)).alloc (by simp) (.cells #[.int .i64 0, .int .i64 0] 63)) : Below w.heap.size w _)
      have HBK := Aside0.mk (blk_new (w.alloc (.cells #[.slice A0_0 l0_0.length c0_0, .slice A0_1 l0_1.length c0_1, .slice A0_2 l0_2.length c0_2] 68)) (.cells #[.int .i64 0, .int .i64 0] 63))
      revert HT1 HB0 HBK
      rw [show (w.alloc (.cells #[.slice A0_0 l0_0.length c0_0, .slice A0_1 l0_1.length c0_1, .slice A0_2 l0_2.length c0_2] 68)).heap.size = w.heap.size + 1 from by simp]
      intro HT1 HB0 HBK
      go_wp2_with fail
      refine (hcl _ HT1.out).mono ?_
      rintro e w1 ⟨rfl, hb1⟩
      have HT2 := Aside0.mk (HT1.out.below hb1)
      have HB1 := Aside0.mk (below_step HB0.out hb1)
      have HBK1 := Aside0.mk (blk_below HBK.out hb1)
      clear hb1
      have q10 : w1.cell? ⟨w.heap.size, 0, none⟩ = some (.slice A0_0 l0_0.length c0_0) := (blk_cell HT2.out.blk 0).trans rfl
      have q11 : w1.cell? ⟨w.heap.size, 1, none⟩ = some (.slice A0_1 l0_1.length c0_1) := (blk_cell HT2.out.blk 1).trans rfl
      have q12 : w1.cell? ⟨w.heap.size, 2, none⟩ = some (.slice A0_2 l0_2.length c0_2) := (blk_cell HT2.out.blk 2).trans rfl
      have hcz1_0 : w1.cell? ⟨w.heap.size + 1, 0, none⟩ = some (.int .i64 0) := (blk_cell HBK1.out 0).trans rfl
      have hcz1_1 : w1.cell? ⟨w.heap.size + 1, 1, none⟩ = some (.int .i64 0) := (blk_cell HBK1.out 1).trans rfl
      have hfz1_0 := blk_frozen HBK1.out 0
      have hfz1_1 := blk_frozen HBK1.out 1
      go_wp2_with fail
      refine (impl_cells.w A0_0 c0_0 l0_0 (.slice A0_2 l0_2.length c0_2) A0_1 c0_1 l0_1 hV hN HNO.out.1 HNN.out HNO.out.2 _ HT2.out.v HT2.out.n).mono ?_
      rintro e w2 ⟨rfl, hb2⟩
      have HT3 := Aside0.mk (HT2.out.below hb2)
      have HB2 := Aside0.mk (below_step HB1.out hb2)
      have HBK2 := Aside0.mk (blk_below HBK1.out hb2)
      clear hb2
      have q20 : w2.cell? ⟨w.heap.size, 0, none⟩ = some (.slice A0_0 l0_0.length c0_0) := (blk_cell HT3.out.blk 0).trans rfl
      have q21 : w2.cell? ⟨w.heap.size, 1, none⟩ = some (.slice A0_1 l0_1.length c0_1) := (blk_cell HT3.out.blk 1).trans rfl
      have q22 : w2.cell? ⟨w.heap.size, 2, none⟩ = some (.slice A0_2 l0_2.length c0_2) := (blk_cell HT3.out.blk 2).trans rfl
      have hcz2_0 : w2.cell? ⟨w.heap.size + 1, 0, none⟩ = some (.int .i64 0) := (blk_cell HBK2.out 0).trans rfl
      have hcz2_1 : w2.cell? ⟨w.heap.size + 1, 1, none⟩ = some (.int .i64 0) := (blk_cell HBK2.out 1).trans rfl
      have hfz2_0 := blk_frozen HBK2.out 0
      have hfz2_1 := blk_frozen HBK2.out 1
      go_wp2
      refine bodyPost_ret (results_cell_row rfl _ _ (w.heap.size + 1) 63 #[.int .i64 0, .int .i64 (sumV (allV l0_0 l0_1))] (0, 0) _ rfl (by refine blk_put (cs := #[.int .i64 0, .int .i64 0]) ?_ 1 _ rfl; refine blk_put (cs := #[.int .i64 0, .int .i64 0]) ?_ 0 _ rfl; exact HBK2.out) hu rfl (by kernel_rfl)) rfl ?_
      exact ⟨by first | rfl | simp, by repeat (first | exact HB2.out | refine below_set ?_ (Nat.le_succ _))⟩
    · rw [if_neg hz] at h
      cases h
      have e1 : decide (r1 = 0) = false := decide_eq_false hz
      have e2 : (r1 == 0) = false := by simp [hz]
      have e3 : (r1 != 0) = true := by simp [hz]
      go_enter Try.func47, Try.ntmps47
      have HT1 := Aside0.mk (HT.out.below (w' := (w.alloc (.cells #[.slice A0_0 l0_0.length c0_0, .slice A0_1 l0_1.length c0_1, .slice A0_2 l0_2.length c0_2] 68)).alloc (.cells #[.int .i64 0, .int .i64 0] 63)) ((Below.refl _ _).alloc (Nat.le_refl _) _))
      have HB0 := Aside0.mk ((((Below.refl _ w).alloc (Nat.le_refl _) (.cells #[.slice A0_0 l0_0.length c0_0, .slice A0_1 l0_1.length c0_1, .slice A0_2 l0_2.length c0_2] 68)).alloc (by simp) (.cells #[.int .i64 0, .int .i64 0] 63)) : Below w.heap.size w _)
      have HBK := Aside0.mk (blk_new (w.alloc (.cells #[.slice A0_0 l0_0.length c0_0, .slice A0_1 l0_1.length c0_1, .slice A0_2 l0_2.length c0_2] 68)) (.cells #[.int .i64 0, .int .i64 0] 63))
      revert HT1 HB0 HBK
      rw [show (w.alloc (.cells #[.slice A0_0 l0_0.length c0_0, .slice A0_1 l0_1.length c0_1, .slice A0_2 l0_2.length c0_2] 68)).heap.size = w.heap.size + 1 from by simp]
      intro HT1 HB0 HBK
      go_wp2_with fail
      refine (hcl _ HT1.out).mono ?_
      rintro e w1 ⟨rfl, hb1⟩
      have HT2 := Aside0.mk (HT1.out.below hb1)
      have HB1 := Aside0.mk (below_step HB0.out hb1)
      have HBK1 := Aside0.mk (blk_below HBK.out hb1)
      clear hb1
      have q10 : w1.cell? ⟨w.heap.size, 0, none⟩ = some (.slice A0_0 l0_0.length c0_0) := (blk_cell HT2.out.blk 0).trans rfl
      have q11 : w1.cell? ⟨w.heap.size, 1, none⟩ = some (.slice A0_1 l0_1.length c0_1) := (blk_cell HT2.out.blk 1).trans rfl
      have q12 : w1.cell? ⟨w.heap.size, 2, none⟩ = some (.slice A0_2 l0_2.length c0_2) := (blk_cell HT2.out.blk 2).trans rfl
      have hcz1_0 : w1.cell? ⟨w.heap.size + 1, 0, none⟩ = some (.int .i64 0) := (blk_cell HBK1.out 0).trans rfl
      have hcz1_1 : w1.cell? ⟨w.heap.size + 1, 1, none⟩ = some (.int .i64 0) := (blk_cell HBK1.out 1).trans rfl
      have hfz1_0 := blk_frozen HBK1.out 0
      have hfz1_1 := blk_frozen HBK1.out 1
      go_wp2
      refine bodyPost_ret (results_cell_row rfl _ _ (w.heap.size + 1) 63 #[.int .i64 r1, .int .i64 0] (0, 0) _ rfl (by refine blk_put (cs := #[.int .i64 r1, .int .i64 0]) ?_ 1 _ rfl; refine blk_put (cs := #[.int .i64 0, .int .i64 0]) ?_ 0 _ rfl; exact HBK1.out) hu rfl (by kernel_rfl)) rfl ?_
      exact ⟨by first | rfl | simp, by repeat (first | exact HB1.out | refine below_set ?_ (Nat.le_succ _))⟩
  · rw [if_neg hs] at h
    cases h
/-! ### laws_szInt64S: function 75 -/
def laws_szInt64S.f (l0 : List Int) (a1 : Int) : Option (Int) := if (wrap64 (a1 - (l0.length : Int))) < 0 then (some (-1)) else (some (wrap64 (a1 - (l0.length : Int))))
set_option maxHeartbeats 8000000 in
set_option maxRecDepth 100000 in
theorem laws_szInt64S.calls (A0 : Option Addr) (c0 : Nat) (l0 : List Int) (a1 : Int) (r : Int) (w : World) (hr0 : Kd.C (Kd.int .i64) w A0 l0.length l0) (hc0 : l0.length ≤ c0) (h : laws_szInt64S.f l0 a1 = some r) :
    Calls Try.prog 75 #[.slice A0 l0.length c0, .int .i64 a1] w fun e w' => e = .returned (.int .i64 r) ∧ Drawn0 w w' := by
  have HR0 := Aside0.mk hr0
  have HC0 := Aside0.mk hc0
  clear hr0 hc0
  have H : (if (wrap64 (a1 - (l0.length : Int))) < 0 then (some (-1)) else (some (wrap64 (a1 - (l0.length : Int))))) = some r := h
  clear h
  by_cases c3 : (wrap64 (a1 - (l0.length : Int))) < 0
  · rw [if_pos c3] at H
    have c3b0 : decide ((wrap64 (a1 - (l0.length : Int))) < 0) = true := decide_eq_true c3
    clear c3
    obtain rfl := Option.some.inj H
    go_enter Try.func75, Try.ntmps75
    go_wp2
    go_ret
    exact ⟨by first | rfl | (simp; done) | (simp [*]; done), by repeat (first | exact Drawn0.refl _ | apply Drawn0.step)⟩
  · rw [if_neg c3] at H
    have c3b0 : decide ((wrap64 (a1 - (l0.length : Int))) < 0) = false := decide_eq_false c3
    clear c3
    obtain rfl := Option.some.inj H
    go_enter Try.func75, Try.ntmps75
    go_wp2
    go_ret
    exact ⟨by first | rfl | (simp; done) | (simp [*]; done), by repeat (first | exact Drawn0.refl _ | apply Drawn0.step)⟩

/-! ### laws_szVar: function 126 -/
def laws_szVar.f (a0_0 : ByteArray) (a0_1 : Int) (a0_2 : Int) (a0_3 : Int) (a1 : Int) : Option (Int) := if (wrap64 (a1 - (a0_0.size : Int))) < 0 then (some (-1)) else (some (wrap64 (a1 - (a0_0.size : Int))))
set_option maxHeartbeats 8000000 in
set_option maxRecDepth 100000 in
theorem laws_szVar.calls (a0_0 : ByteArray) (a0_1 : Int) (a0_2 : Int) (a0_3 : Int) (a1 : Int) (r : Int) (w : World) (h : laws_szVar.f a0_0 a0_1 a0_2 a0_3 a1 = some r) :
    Calls Try.prog 126 #[.agg #[.string a0_0, .int .i64 a0_1, .int .i64 a0_2, .int .i64 a0_3], .int .i64 a1] w fun e w' => e = .returned (.int .i64 r) ∧ Below w.heap.size w w' := by
  have hu158 := Try.underlying158
  have HB := Aside0.mk (Below.refl w.heap.size w)
  have H : (if (wrap64 (a1 - (a0_0.size : Int))) < 0 then (some (-1)) else (some (wrap64 (a1 - (a0_0.size : Int))))) = some r := h
  clear h
  by_cases c3 : (wrap64 (a1 - (a0_0.size : Int))) < 0
  · rw [if_pos c3] at H
    have c3b0 : decide ((wrap64 (a1 - (a0_0.size : Int))) < 0) = true := decide_eq_true c3
    clear c3
    obtain rfl := Option.some.inj H
    go_enter Try.func126, Try.ntmps126
    go_wp2_with (first | ((with_reducible refine gate_dst (N := 2) rfl ?_); refine box_event ?hg (N := 2) ?hd (cs := #[.string a0_0, .int .i64 a0_1, .int .i64 a0_2, .int .i64 a0_3]) (t := 158) ?hr ?_; (case hd => rfl); (case hg => rfl); (case hr => first | (go_simp; done) | (go_simp; rfl)); intro gb101 hg w4 hbox hb; have n0_ := Aside0.mk (below_step (by repeat (first | (with_reducible first | exact HB.out | apply below_alloc | apply pw_below_drewN | apply below_drew1) | exact HB.out)) hb); have n1_ := Aside0.mk (hbox); have n2_ := Aside0.mk ((by rw [hg]; exact (below_size (by repeat (first | (with_reducible first | exact HB.out | apply below_alloc | apply pw_below_drewN | apply below_drew1) | exact HB.out))) : w.heap.size ≤ gb101)); have n3_ := Aside0.mk ((by rw [hg]; exact (below_size (by repeat (first | (with_reducible first | exact HB.out | apply below_alloc | apply pw_below_drewN | apply below_drew1) | exact HB.out))) : w.heap.size ≤ gb101)); clear HB; have HB := n0_; have BK101 := n1_; have GW101 := n2_; have GE101 := n3_; clear n0_ n1_ n2_ n3_; clear hb hbox hg; have hcz5_0 : w4.cell? ⟨gb101, 0, none⟩ = some (.string a0_0) := (blk_cell BK101.out 0).trans rfl; have hcz5_1 : w4.cell? ⟨gb101, 1, none⟩ = some (.int .i64 a0_1) := (blk_cell BK101.out 1).trans rfl; have hcz5_2 : w4.cell? ⟨gb101, 2, none⟩ = some (.int .i64 a0_2) := (blk_cell BK101.out 2).trans rfl; have hcz5_3 : w4.cell? ⟨gb101, 3, none⟩ = some (.int .i64 a0_3) := (blk_cell BK101.out 3).trans rfl; have hfz5_0 := blk_frozen BK101.out 0; have hfz5_1 := blk_frozen BK101.out 1; have hfz5_2 := blk_frozen BK101.out 2; have hfz5_3 := blk_frozen BK101.out 3))
    go_ret
    exact ⟨by first | rfl | (simp [errW_none, errW_some] <;> rfl) | (simp [*, errW_none, errW_some] <;> rfl), by repeat (first | (with_reducible first | exact HB.out | apply below_alloc | apply pw_below_drewN | apply below_drew1 | refine below_set ?_ GE101.out) | exact HB.out)⟩
  · rw [if_neg c3] at H
    have c3b0 : decide ((wrap64 (a1 - (a0_0.size : Int))) < 0) = false := decide_eq_false c3
    clear c3
    obtain rfl := Option.some.inj H
    go_enter Try.func126, Try.ntmps126
    go_wp2_with (first | ((with_reducible refine gate_dst (N := 2) rfl ?_); refine box_event ?hg (N := 2) ?hd (cs := #[.string a0_0, .int .i64 a0_1, .int .i64 a0_2, .int .i64 a0_3]) (t := 158) ?hr ?_; (case hd => rfl); (case hg => rfl); (case hr => first | (go_simp; done) | (go_simp; rfl)); intro gb101 hg w6 hbox hb; have n0_ := Aside0.mk (below_step (by repeat (first | (with_reducible first | exact HB.out | apply below_alloc | apply pw_below_drewN | apply below_drew1) | exact HB.out)) hb); have n1_ := Aside0.mk (hbox); have n2_ := Aside0.mk ((by rw [hg]; exact (below_size (by repeat (first | (with_reducible first | exact HB.out | apply below_alloc | apply pw_below_drewN | apply below_drew1) | exact HB.out))) : w.heap.size ≤ gb101)); have n3_ := Aside0.mk ((by rw [hg]; exact (below_size (by repeat (first | (with_reducible first | exact HB.out | apply below_alloc | apply pw_below_drewN | apply below_drew1) | exact HB.out))) : w.heap.size ≤ gb101)); clear HB; have HB := n0_; have BK101 := n1_; have GW101 := n2_; have GE101 := n3_; clear n0_ n1_ n2_ n3_; clear hb hbox hg; have hcz7_0 : w6.cell? ⟨gb101, 0, none⟩ = some (.string a0_0) := (blk_cell BK101.out 0).trans rfl; have hcz7_1 : w6.cell? ⟨gb101, 1, none⟩ = some (.int .i64 a0_1) := (blk_cell BK101.out 1).trans rfl; have hcz7_2 : w6.cell? ⟨gb101, 2, none⟩ = some (.int .i64 a0_2) := (blk_cell BK101.out 2).trans rfl; have hcz7_3 : w6.cell? ⟨gb101, 3, none⟩ = some (.int .i64 a0_3) := (blk_cell BK101.out 3).trans rfl; have hfz7_0 := blk_frozen BK101.out 0; have hfz7_1 := blk_frozen BK101.out 1; have hfz7_2 := blk_frozen BK101.out 2; have hfz7_3 := blk_frozen BK101.out 3))
    go_ret
    exact ⟨by first | rfl | (simp [errW_none, errW_some] <;> rfl) | (simp [*, errW_none, errW_some] <;> rfl), by repeat (first | (with_reducible first | exact HB.out | apply below_alloc | apply pw_below_drewN | apply below_drew1 | refine below_set ?_ GE101.out) | exact HB.out)⟩

/-! ### laws_szVarS: function 86 -/
def laws_szVarS.l0 : Nat → List (S158) → Int → Int → Option (Int)
  | 0, _, _, _ => none
  | k + 1, x0, x1, x5 => if x5 < (x0.length : Int) then (if 0 ≤ x5 then ((laws_szVar.f ((rd_T158 x0 x5).f0) ((rd_T158 x0 x5).f1) ((rd_T158 x0 x5).f2) ((rd_T158 x0 x5).f3) x1).bind fun t103 => (if t103 < 0 then (some (-1)) else (laws_szVarS.l0 k x0 t103 (wrap64 (x5 + 1))))) else (none)) else (some x1)
def laws_szVarS.f (k : Nat) (l0 : List (S158)) (a1 : Int) : Option (Int) := if (wrap64 (a1 - (l0.length : Int))) < 0 then (some (-1)) else (laws_szVarS.l0 k l0 (wrap64 (a1 - (l0.length : Int))) 0)
theorem laws_szVarS.mono_l : ∀ k, (∀ y0 y1 y2, LeO (laws_szVarS.l0 k y0 y1 y2) (laws_szVarS.l0 (k + 1) y0 y1 y2))
  | 0 => fun _ _ _ r h => by simp [laws_szVarS.l0] at h
  | k + 1 => by
    have ih0 := laws_szVarS.mono_l k
    · intro y0 y1 y2
      unfold laws_szVarS.l0
      repeat' first
      | (with_reducible exact ih0 _ _ _)
      | (with_reducible exact LeO.refl _)
      | (with_reducible exact LeO.none _)
      | (with_reducible refine LeO.ite ?_ ?_)
      | (with_reducible refine LeO.bind ?_ (fun _ => ?_))
      | exact ih0 _ _ _
      | exact LeO.none _
      | refine LeO.ite ?_ ?_
      | refine LeO.bind ?_ (fun _ => ?_)
theorem laws_szVarS.mono : ∀ a0 a1 k, LeO (laws_szVarS.f k a0 a1) (laws_szVarS.f (k + 1) a0 a1) := by
  intro a0 a1 k
  have ih0 := laws_szVarS.mono_l k
  unfold laws_szVarS.f
  repeat' first
      | (with_reducible exact ih0 _ _ _)
      | (with_reducible exact LeO.refl _)
      | (with_reducible exact LeO.none _)
      | (with_reducible refine LeO.ite ?_ ?_)
      | (with_reducible refine LeO.bind ?_ (fun _ => ?_))
      | exact ih0 _ _ _
      | exact LeO.none _
      | refine LeO.ite ?_ ?_
      | refine LeO.bind ?_ (fun _ => ?_)
set_option maxHeartbeats 8000000 in
set_option maxRecDepth 100000 in
theorem laws_szVarS.calls (k : Nat) (A0 : Option Addr) (c0 : Nat) (l0 : List (S158)) (a1 : Int) (r : Int) (w : World) (hr0 : Kd.C k158 w A0 l0.length l0) (hc0 : l0.length ≤ c0) (h : laws_szVarS.f k l0 a1 = some r) :
    Calls Try.prog 86 #[.slice A0 l0.length c0, .int .i64 a1] w fun e w' => e = .returned (.int .i64 r) ∧ Below w.heap.size w w' := by
  have hu158 := Try.underlying158
  have HR0 := Aside0.mk hr0
  have HC0 := Aside0.mk hc0
  clear hr0 hc0
  have HB := Aside0.mk (Below.refl w.heap.size w)
  have H : (if (wrap64 (a1 - (l0.length : Int))) < 0 then (some (-1)) else (laws_szVarS.l0 k l0 (wrap64 (a1 - (l0.length : Int))) 0)) = some r := h
  clear h
  by_cases c3 : (wrap64 (a1 - (l0.length : Int))) < 0
  · rw [if_pos c3] at H
    have c3b0 : decide ((wrap64 (a1 - (l0.length : Int))) < 0) = true := decide_eq_true c3
    clear c3
    obtain rfl := Option.some.inj H
    go_enter Try.func86, Try.ntmps86
    go_wp2
    go_ret
    exact ⟨by first | rfl | (simp [errW_none, errW_some] <;> rfl) | (simp [*, errW_none, errW_some] <;> rfl), by repeat (first | (with_reducible first | exact HB.out | apply below_alloc | apply pw_below_drewN | apply below_drew1) | exact HB.out)⟩
  · rw [if_neg c3] at H
    have c3b0 : decide ((wrap64 (a1 - (l0.length : Int))) < 0) = false := decide_eq_false c3
    clear c3
    have H' := Aside0.mk H
    clear H
    go_enter Try.func86, Try.ntmps86
    go_wp2
    go_loopg [1, 5] k (fun kq v1 v5 w' => ∃ (x1_1 : Int) (x5_1 : Int), v1 = .int .i64 x1_1 ∧ v5 = .int .i64 x5_1 ∧ Aside0 (laws_szVarS.l0 kq l0 x1_1 x5_1 = some r) ∧ Aside0 (kq ≤ k) ∧ Aside0 (Below w.heap.size w w'))
    case atStart => exact ⟨(wrap64 (a1 - (l0.length : Int))), (0), (by first | rfl | (simp; done) | (simp [*]; done)), (by first | rfl | (simp; done) | (simp [*]; done)), H', ⟨Nat.le_refl _⟩, ⟨by repeat (first | (with_reducible first | exact HB.out | apply below_alloc | apply pw_below_drewN | apply below_drew1) | exact HB.out)⟩⟩
    case round =>
      clear H'
      try clear p2
      try clear c3
      try clear c3b0
      obtain ⟨x1_1, x5_1, rfl, rfl, HA, HK1, HB⟩ := hrel
      cases gk with
      | zero => exact absurd HA.out (by simp [laws_szVarS.l0])
      | succ k1 =>
        have H := HA.out
        clear HA
        simp only [laws_szVarS.l0] at H
        by_cases c4 : x5_1 < (l0.length : Int)
        · rw [if_pos c4] at H
          have c4b0 : decide (x5_1 < (l0.length : Int)) = true := decide_eq_true c4
          clear c4
          by_cases c5 : 0 ≤ x5_1
          · rw [if_pos c5] at H
            have c5b0 : decide (0 ≤ x5_1) = true := decide_eq_true c5
            clear c5
            replace H := Option.bind_eq_some_iff.mp H
            obtain ⟨t103, A60, H⟩ := H
            replace H : (if t103 < 0 then (some (-1)) else (laws_szVarS.l0 k1 l0 t103 (wrap64 (x5_1 + 1)))) = some r := H
            have A6 := Aside0.mk A60
            clear A60
            by_cases c7 : t103 < 0
            · rw [if_pos c7] at H
              have c7b0 : decide (t103 < 0) = true := decide_eq_true c7
              clear c7
              obtain rfl := Option.some.inj H
              have p102 : 0 ≤ (x5_1 : Int) := of_decide_eq_true (by first | (with_reducible assumption) | assumption)
              have q102 : x5_1 < (l0.length : Int) := of_decide_eq_true (by first | (with_reducible assumption) | assumption)
              obtain ⟨ad102, e102, hx102_0, hx102_1, hx102_2, hx102_3⟩ := at_T158 HR0.out x5_1 p102 q102
              cases e102
              replace hx102_0 := (HB.out.cell (World.block_lt_of_cell? w _ hx102_0)).trans hx102_0
              replace hx102_1 := (HB.out.cell (World.block_lt_of_cell? w _ hx102_1)).trans hx102_1
              replace hx102_2 := (HB.out.cell (World.block_lt_of_cell? w _ hx102_2)).trans hx102_2
              replace hx102_3 := (HB.out.cell (World.block_lt_of_cell? w _ hx102_3)).trans hx102_3
              replace p102 := eq_true p102
              replace q102 := eq_true q102
              go_wp2_with (first | ((with_reducible refine gate_callee (f := 126) rfl ?_); refine goesL_ (some 23) rfl rfl Try.func126 (by kernel_rfl) rfl #[.agg #[.string ((rd_T158 l0 x5_1).f0), .int .i64 ((rd_T158 l0 x5_1).f1), .int .i64 ((rd_T158 l0 x5_1).f2), .int .i64 ((rd_T158 l0 x5_1).f3)], .int .i64 x1_1] rfl (by (try simp only [List.map_toArray, List.map_cons, List.map_nil]); first | done | rfl | (simp only [List.length_drop, List.length_take]; rfl)) ?_; (with_reducible refine (laws_szVar.calls ((rd_T158 l0 x5_1).f0) ((rd_T158 l0 x5_1).f1) ((rd_T158 l0 x5_1).f2) ((rd_T158 l0 x5_1).f3) x1_1 t103 _ A6.out).mono ?_); rintro e w8 ⟨rfl, hb⟩; refine ⟨_, rfl, ?_⟩; have n0_ := Aside0.mk (below_step (by repeat (first | (with_reducible first | exact HB.out | apply below_alloc | apply pw_below_drewN | apply below_drew1) | exact HB.out)) hb); clear HB; have HB := n0_; clear n0_; (try clear hb); (try clear hb2); (try clear hk); (try clear hi)))
              go_ret
              exact ⟨by first | rfl | (simp [errW_none, errW_some] <;> rfl) | (simp [*, errW_none, errW_some] <;> rfl), by repeat (first | (with_reducible first | exact HB.out | apply below_alloc | apply pw_below_drewN | apply below_drew1) | exact HB.out)⟩
            · rw [if_neg c7] at H
              have c7b0 : decide (t103 < 0) = false := decide_eq_false c7
              clear c7
              have H' := Aside0.mk H
              clear H
              have p102 : 0 ≤ (x5_1 : Int) := of_decide_eq_true (by first | (with_reducible assumption) | assumption)
              have q102 : x5_1 < (l0.length : Int) := of_decide_eq_true (by first | (with_reducible assumption) | assumption)
              obtain ⟨ad102, e102, hx102_0, hx102_1, hx102_2, hx102_3⟩ := at_T158 HR0.out x5_1 p102 q102
              cases e102
              replace hx102_0 := (HB.out.cell (World.block_lt_of_cell? w _ hx102_0)).trans hx102_0
              replace hx102_1 := (HB.out.cell (World.block_lt_of_cell? w _ hx102_1)).trans hx102_1
              replace hx102_2 := (HB.out.cell (World.block_lt_of_cell? w _ hx102_2)).trans hx102_2
              replace hx102_3 := (HB.out.cell (World.block_lt_of_cell? w _ hx102_3)).trans hx102_3
              replace p102 := eq_true p102
              replace q102 := eq_true q102
              go_wp2_with (first | ((with_reducible refine gate_callee (f := 126) rfl ?_); refine goesL_ (some 23) rfl rfl Try.func126 (by kernel_rfl) rfl #[.agg #[.string ((rd_T158 l0 x5_1).f0), .int .i64 ((rd_T158 l0 x5_1).f1), .int .i64 ((rd_T158 l0 x5_1).f2), .int .i64 ((rd_T158 l0 x5_1).f3)], .int .i64 x1_1] rfl (by (try simp only [List.map_toArray, List.map_cons, List.map_nil]); first | done | rfl | (simp only [List.length_drop, List.length_take]; rfl)) ?_; (with_reducible refine (laws_szVar.calls ((rd_T158 l0 x5_1).f0) ((rd_T158 l0 x5_1).f1) ((rd_T158 l0 x5_1).f2) ((rd_T158 l0 x5_1).f3) x1_1 t103 _ A6.out).mono ?_); rintro e w9 ⟨rfl, hb⟩; refine ⟨_, rfl, ?_⟩; have n0_ := Aside0.mk (below_step (by repeat (first | (with_reducible first | exact HB.out | apply below_alloc | apply pw_below_drewN | apply below_drew1) | exact HB.out)) hb); clear HB; have HB := n0_; clear n0_; (try clear hb); (try clear hb2); (try clear hk); (try clear hi)))
              go_roundg k1
              case measure => have := HK1.out; omega
              case rel => exact ⟨(t103), (wrap64 (x5_1 + 1)), (by first | rfl | (simp; done) | (simp [*]; done)), (by first | rfl | (simp; done) | (simp [*]; done)), H', ⟨by have := HK1.out; omega⟩, ⟨by repeat (first | (with_reducible first | exact HB.out | apply below_alloc | apply pw_below_drewN | apply below_drew1) | exact HB.out)⟩⟩
          · rw [if_neg c5] at H
            exact absurd H (by simp)
        · rw [if_neg c4] at H
          have c4b0 : decide (x5_1 < (l0.length : Int)) = false := decide_eq_false c4
          clear c4
          obtain rfl := Option.some.inj H
          go_wp2
          go_ret
          exact ⟨by first | rfl | (simp [errW_none, errW_some] <;> rfl) | (simp [*, errW_none, errW_some] <;> rfl), by repeat (first | (with_reducible first | exact HB.out | apply below_alloc | apply pw_below_drewN | apply below_drew1) | exact HB.out)⟩

/-! ### laws_szNode: function 127 -/
def laws_szNode.f (a0_0 : Int) (a0_1 : Int) (a0_2 : ByteArray) (a0_3 : Int) (a0_4 : Int) (l0_5 : List Int) (l0_6 : List Int) (l0_7 : List Int) (a1 : Int) : Option (Int) := if (wrap64 (a1 - (a0_2.size : Int))) < 0 then (some (-1)) else ((laws_szInt64S.f l0_5 (wrap64 (a1 - (a0_2.size : Int)))).bind fun t105 => (if t105 < 0 then (some (-1)) else ((laws_szInt64S.f l0_6 t105).bind fun t106 => (if t106 < 0 then (some (-1)) else ((laws_szInt64S.f l0_7 t106).bind fun t107 => (if t107 < 0 then (some (-1)) else (some t107)))))))
set_option maxHeartbeats 8000000 in
set_option maxRecDepth 100000 in
theorem laws_szNode.calls (a0_0 : Int) (a0_1 : Int) (a0_2 : ByteArray) (a0_3 : Int) (a0_4 : Int) (A0_5 : Option Addr) (c0_5 : Nat) (l0_5 : List Int) (A0_6 : Option Addr) (c0_6 : Nat) (l0_6 : List Int) (A0_7 : Option Addr) (c0_7 : Nat) (l0_7 : List Int) (a1 : Int) (r : Int) (w : World) (hr0_5 : Kd.C (Kd.int .i64) w A0_5 l0_5.length l0_5) (hc0_5 : l0_5.length ≤ c0_5) (hr0_6 : Kd.C (Kd.int .i64) w A0_6 l0_6.length l0_6) (hc0_6 : l0_6.length ≤ c0_6) (hr0_7 : Kd.C (Kd.int .i64) w A0_7 l0_7.length l0_7) (hc0_7 : l0_7.length ≤ c0_7) (h : laws_szNode.f a0_0 a0_1 a0_2 a0_3 a0_4 l0_5 l0_6 l0_7 a1 = some r) :
    Calls Try.prog 127 #[.agg #[.int .i64 a0_0, .int .i64 a0_1, .string a0_2, .int .i64 a0_3, .int .i64 a0_4, .slice A0_5 l0_5.length c0_5, .slice A0_6 l0_6.length c0_6, .slice A0_7 l0_7.length c0_7], .int .i64 a1] w fun e w' => e = .returned (.int .i64 r) ∧ Below w.heap.size w w' := by
  have hu160 := Try.underlying160
  have HR0_5 := Aside0.mk hr0_5
  have HC0_5 := Aside0.mk hc0_5
  clear hr0_5 hc0_5
  have HR0_6 := Aside0.mk hr0_6
  have HC0_6 := Aside0.mk hc0_6
  clear hr0_6 hc0_6
  have HR0_7 := Aside0.mk hr0_7
  have HC0_7 := Aside0.mk hc0_7
  clear hr0_7 hc0_7
  have HB := Aside0.mk (Below.refl w.heap.size w)
  have H : (if (wrap64 (a1 - (a0_2.size : Int))) < 0 then (some (-1)) else ((laws_szInt64S.f l0_5 (wrap64 (a1 - (a0_2.size : Int)))).bind fun t105 => (if t105 < 0 then (some (-1)) else ((laws_szInt64S.f l0_6 t105).bind fun t106 => (if t106 < 0 then (some (-1)) else ((laws_szInt64S.f l0_7 t106).bind fun t107 => (if t107 < 0 then (some (-1)) else (some t107)))))))) = some r := h
  clear h
  by_cases c3 : (wrap64 (a1 - (a0_2.size : Int))) < 0
  · rw [if_pos c3] at H
    have c3b0 : decide ((wrap64 (a1 - (a0_2.size : Int))) < 0) = true := decide_eq_true c3
    clear c3
    obtain rfl := Option.some.inj H
    go_enter Try.func127, Try.ntmps127
    go_wp2_with (first | ((with_reducible refine gate_dst (N := 2) rfl ?_); refine box_event ?hg (N := 2) ?hd (cs := #[.int .i64 a0_0, .int .i64 a0_1, .string a0_2, .int .i64 a0_3, .int .i64 a0_4, .slice A0_5 l0_5.length c0_5, .slice A0_6 l0_6.length c0_6, .slice A0_7 l0_7.length c0_7]) (t := 160) ?hr ?_; (case hd => rfl); (case hg => rfl); (case hr => first | (go_simp; done) | (go_simp; rfl)); intro gb104 hg w4 hbox hb; have n0_ := Aside0.mk (below_step (by repeat (first | (with_reducible first | exact HB.out | apply below_alloc | apply pw_below_drewN | apply below_drew1) | exact HB.out)) hb); have n1_ := Aside0.mk (hbox); have n2_ := Aside0.mk ((by rw [hg]; exact (below_size (by repeat (first | (with_reducible first | exact HB.out | apply below_alloc | apply pw_below_drewN | apply below_drew1) | exact HB.out))) : w.heap.size ≤ gb104)); have n3_ := Aside0.mk ((by rw [hg]; exact (below_size (by repeat (first | (with_reducible first | exact HB.out | apply below_alloc | apply pw_below_drewN | apply below_drew1) | exact HB.out))) : w.heap.size ≤ gb104)); clear HB; have HB := n0_; have BK104 := n1_; have GW104 := n2_; have GE104 := n3_; clear n0_ n1_ n2_ n3_; clear hb hbox hg; have hcz5_0 : w4.cell? ⟨gb104, 0, none⟩ = some (.int .i64 a0_0) := (blk_cell BK104.out 0).trans rfl; have hcz5_1 : w4.cell? ⟨gb104, 1, none⟩ = some (.int .i64 a0_1) := (blk_cell BK104.out 1).trans rfl; have hcz5_2 : w4.cell? ⟨gb104, 2, none⟩ = some (.string a0_2) := (blk_cell BK104.out 2).trans rfl; have hcz5_3 : w4.cell? ⟨gb104, 3, none⟩ = some (.int .i64 a0_3) := (blk_cell BK104.out 3).trans rfl; have hcz5_4 : w4.cell? ⟨gb104, 4, none⟩ = some (.int .i64 a0_4) := (blk_cell BK104.out 4).trans rfl; have hcz5_5 : w4.cell? ⟨gb104, 5, none⟩ = some (.slice A0_5 l0_5.length c0_5) := (blk_cell BK104.out 5).trans rfl; have hcz5_6 : w4.cell? ⟨gb104, 6, none⟩ = some (.slice A0_6 l0_6.length c0_6) := (blk_cell BK104.out 6).trans rfl; have hcz5_7 : w4.cell? ⟨gb104, 7, none⟩ = some (.slice A0_7 l0_7.length c0_7) := (blk_cell BK104.out 7).trans rfl; have hfz5_0 := blk_frozen BK104.out 0; have hfz5_1 := blk_frozen BK104.out 1; have hfz5_2 := blk_frozen BK104.out 2; have hfz5_3 := blk_frozen BK104.out 3; have hfz5_4 := blk_frozen BK104.out 4; have hfz5_5 := blk_frozen BK104.out 5; have hfz5_6 := blk_frozen BK104.out 6; have hfz5_7 := blk_frozen BK104.out 7))
    go_ret
    exact ⟨by first | rfl | (simp [errW_none, errW_some] <;> rfl) | (simp [*, errW_none, errW_some] <;> rfl), by repeat (first | (with_reducible first | exact HB.out | apply below_alloc | apply pw_below_drewN | apply below_drew1 | refine below_set ?_ GE104.out) | exact HB.out)⟩
  · rw [if_neg c3] at H
    have c3b0 : decide ((wrap64 (a1 - (a0_2.size : Int))) < 0) = false := decide_eq_false c3
    clear c3
    replace H := Option.bind_eq_some_iff.mp H
    obtain ⟨t105, A60, H⟩ := H
    replace H : (if t105 < 0 then (some (-1)) else ((laws_szInt64S.f l0_6 t105).bind fun t106 => (if t106 < 0 then (some (-1)) else ((laws_szInt64S.f l0_7 t106).bind fun t107 => (if t107 < 0 then (some (-1)) else (some t107)))))) = some r := H
    have A6 := Aside0.mk A60
    clear A60
    by_cases c7 : t105 < 0
    · rw [if_pos c7] at H
      have c7b0 : decide (t105 < 0) = true := decide_eq_true c7
      clear c7
      obtain rfl := Option.some.inj H
      go_enter Try.func127, Try.ntmps127
      go_wp2_with (first | ((with_reducible refine gate_dst (N := 2) rfl ?_); refine box_event ?hg (N := 2) ?hd (cs := #[.int .i64 a0_0, .int .i64 a0_1, .string a0_2, .int .i64 a0_3, .int .i64 a0_4, .slice A0_5 l0_5.length c0_5, .slice A0_6 l0_6.length c0_6, .slice A0_7 l0_7.length c0_7]) (t := 160) ?hr ?_; (case hd => rfl); (case hg => rfl); (case hr => first | (go_simp; done) | (go_simp; rfl)); intro gb104 hg w8 hbox hb; have n0_ := Aside0.mk (below_step (by repeat (first | (with_reducible first | exact HB.out | apply below_alloc | apply pw_below_drewN | apply below_drew1) | exact HB.out)) hb); have n1_ := Aside0.mk (hbox); have n2_ := Aside0.mk ((by rw [hg]; exact (below_size (by repeat (first | (with_reducible first | exact HB.out | apply below_alloc | apply pw_below_drewN | apply below_drew1) | exact HB.out))) : w.heap.size ≤ gb104)); have n3_ := Aside0.mk ((by rw [hg]; exact (below_size (by repeat (first | (with_reducible first | exact HB.out | apply below_alloc | apply pw_below_drewN | apply below_drew1) | exact HB.out))) : w.heap.size ≤ gb104)); clear HB; have HB := n0_; have BK104 := n1_; have GW104 := n2_; have GE104 := n3_; clear n0_ n1_ n2_ n3_; clear hb hbox hg; have hcz9_0 : w8.cell? ⟨gb104, 0, none⟩ = some (.int .i64 a0_0) := (blk_cell BK104.out 0).trans rfl; have hcz9_1 : w8.cell? ⟨gb104, 1, none⟩ = some (.int .i64 a0_1) := (blk_cell BK104.out 1).trans rfl; have hcz9_2 : w8.cell? ⟨gb104, 2, none⟩ = some (.string a0_2) := (blk_cell BK104.out 2).trans rfl; have hcz9_3 : w8.cell? ⟨gb104, 3, none⟩ = some (.int .i64 a0_3) := (blk_cell BK104.out 3).trans rfl; have hcz9_4 : w8.cell? ⟨gb104, 4, none⟩ = some (.int .i64 a0_4) := (blk_cell BK104.out 4).trans rfl; have hcz9_5 : w8.cell? ⟨gb104, 5, none⟩ = some (.slice A0_5 l0_5.length c0_5) := (blk_cell BK104.out 5).trans rfl; have hcz9_6 : w8.cell? ⟨gb104, 6, none⟩ = some (.slice A0_6 l0_6.length c0_6) := (blk_cell BK104.out 6).trans rfl; have hcz9_7 : w8.cell? ⟨gb104, 7, none⟩ = some (.slice A0_7 l0_7.length c0_7) := (blk_cell BK104.out 7).trans rfl; have hfz9_0 := blk_frozen BK104.out 0; have hfz9_1 := blk_frozen BK104.out 1; have hfz9_2 := blk_frozen BK104.out 2; have hfz9_3 := blk_frozen BK104.out 3; have hfz9_4 := blk_frozen BK104.out 4; have hfz9_5 := blk_frozen BK104.out 5; have hfz9_6 := blk_frozen BK104.out 6; have hfz9_7 := blk_frozen BK104.out 7) | ((with_reducible refine gate_callee (f := 75) rfl ?_); refine goesL_ (some 15) rfl rfl Try.func75 (by kernel_rfl) rfl #[.slice A0_5 l0_5.length c0_5, .int .i64 (wrap64 (a1 - (a0_2.size : Int)))] rfl (by (try simp only [List.map_toArray, List.map_cons, List.map_nil]); first | done | rfl | (simp only [List.length_drop, List.length_take]; rfl)) ?_; (with_reducible refine (laws_szInt64S.calls _ _ l0_5 (wrap64 (a1 - (a0_2.size : Int))) t105 _ ?side1 ?side2 A6.out).mono ?_); (case side1 => repeat (first | exact (Kd.C_below HR0_5.out HB.out) | (with_reducible refine Kd.C_alloc ?_ _) | (with_reducible refine Kd.C_drewN ?_ _) | (with_reducible refine Kd.C_drew ?_))); (case side2 => exact HC0_5.out); rintro e w' ⟨rfl, ⟨nd, rfl⟩⟩; refine ⟨_, rfl, ?_⟩))
      go_ret
      exact ⟨by first | rfl | (simp [errW_none, errW_some] <;> rfl) | (simp [*, errW_none, errW_some] <;> rfl), by repeat (first | (with_reducible first | exact HB.out | apply below_alloc | apply pw_below_drewN | apply below_drew1 | refine below_set ?_ GE104.out) | exact HB.out)⟩
    · rw [if_neg c7] at H
      have c7b0 : decide (t105 < 0) = false := decide_eq_false c7
      clear c7
      replace H := Option.bind_eq_some_iff.mp H
      obtain ⟨t106, A100, H⟩ := H
      replace H : (if t106 < 0 then (some (-1)) else ((laws_szInt64S.f l0_7 t106).bind fun t107 => (if t107 < 0 then (some (-1)) else (some t107)))) = some r := H
      have A10 := Aside0.mk A100
      clear A100
      by_cases c11 : t106 < 0
      · rw [if_pos c11] at H
        have c11b0 : decide (t106 < 0) = true := decide_eq_true c11
        clear c11
        obtain rfl := Option.some.inj H
        go_enter Try.func127, Try.ntmps127
        go_wp2_with (first | ((with_reducible refine gate_dst (N := 2) rfl ?_); refine box_event ?hg (N := 2) ?hd (cs := #[.int .i64 a0_0, .int .i64 a0_1, .string a0_2, .int .i64 a0_3, .int .i64 a0_4, .slice A0_5 l0_5.length c0_5, .slice A0_6 l0_6.length c0_6, .slice A0_7 l0_7.length c0_7]) (t := 160) ?hr ?_; (case hd => rfl); (case hg => rfl); (case hr => first | (go_simp; done) | (go_simp; rfl)); intro gb104 hg w12 hbox hb; have n0_ := Aside0.mk (below_step (by repeat (first | (with_reducible first | exact HB.out | apply below_alloc | apply pw_below_drewN | apply below_drew1) | exact HB.out)) hb); have n1_ := Aside0.mk (hbox); have n2_ := Aside0.mk ((by rw [hg]; exact (below_size (by repeat (first | (with_reducible first | exact HB.out | apply below_alloc | apply pw_below_drewN | apply below_drew1) | exact HB.out))) : w.heap.size ≤ gb104)); have n3_ := Aside0.mk ((by rw [hg]; exact (below_size (by repeat (first | (with_reducible first | exact HB.out | apply below_alloc | apply pw_below_drewN | apply below_drew1) | exact HB.out))) : w.heap.size ≤ gb104)); clear HB; have HB := n0_; have BK104 := n1_; have GW104 := n2_; have GE104 := n3_; clear n0_ n1_ n2_ n3_; clear hb hbox hg; have hcz13_0 : w12.cell? ⟨gb104, 0, none⟩ = some (.int .i64 a0_0) := (blk_cell BK104.out 0).trans rfl; have hcz13_1 : w12.cell? ⟨gb104, 1, none⟩ = some (.int .i64 a0_1) := (blk_cell BK104.out 1).trans rfl; have hcz13_2 : w12.cell? ⟨gb104, 2, none⟩ = some (.string a0_2) := (blk_cell BK104.out 2).trans rfl; have hcz13_3 : w12.cell? ⟨gb104, 3, none⟩ = some (.int .i64 a0_3) := (blk_cell BK104.out 3).trans rfl; have hcz13_4 : w12.cell? ⟨gb104, 4, none⟩ = some (.int .i64 a0_4) := (blk_cell BK104.out 4).trans rfl; have hcz13_5 : w12.cell? ⟨gb104, 5, none⟩ = some (.slice A0_5 l0_5.length c0_5) := (blk_cell BK104.out 5).trans rfl; have hcz13_6 : w12.cell? ⟨gb104, 6, none⟩ = some (.slice A0_6 l0_6.length c0_6) := (blk_cell BK104.out 6).trans rfl; have hcz13_7 : w12.cell? ⟨gb104, 7, none⟩ = some (.slice A0_7 l0_7.length c0_7) := (blk_cell BK104.out 7).trans rfl; have hfz13_0 := blk_frozen BK104.out 0; have hfz13_1 := blk_frozen BK104.out 1; have hfz13_2 := blk_frozen BK104.out 2; have hfz13_3 := blk_frozen BK104.out 3; have hfz13_4 := blk_frozen BK104.out 4; have hfz13_5 := blk_frozen BK104.out 5; have hfz13_6 := blk_frozen BK104.out 6; have hfz13_7 := blk_frozen BK104.out 7) | ((with_reducible refine gate_callee (f := 75) rfl ?_); refine goesL_ (some 15) rfl rfl Try.func75 (by kernel_rfl) rfl #[.slice A0_5 l0_5.length c0_5, .int .i64 (wrap64 (a1 - (a0_2.size : Int)))] rfl (by (try simp only [List.map_toArray, List.map_cons, List.map_nil]); first | done | rfl | (simp only [List.length_drop, List.length_take]; rfl)) ?_; (with_reducible refine (laws_szInt64S.calls _ _ l0_5 (wrap64 (a1 - (a0_2.size : Int))) t105 _ ?side1 ?side2 A6.out).mono ?_); (case side1 => repeat (first | exact (Kd.C_below HR0_5.out HB.out) | (with_reducible refine Kd.C_alloc ?_ _) | (with_reducible refine Kd.C_drewN ?_ _) | (with_reducible refine Kd.C_drew ?_))); (case side2 => exact HC0_5.out); rintro e w' ⟨rfl, ⟨nd, rfl⟩⟩; refine ⟨_, rfl, ?_⟩) | ((with_reducible refine gate_callee (f := 75) rfl ?_); refine goesL_ (some 21) rfl rfl Try.func75 (by kernel_rfl) rfl #[.slice A0_6 l0_6.length c0_6, .int .i64 t105] rfl (by (try simp only [List.map_toArray, List.map_cons, List.map_nil]); first | done | rfl | (simp only [List.length_drop, List.length_take]; rfl)) ?_; (with_reducible refine (laws_szInt64S.calls _ _ l0_6 t105 t106 _ ?side1 ?side2 A10.out).mono ?_); (case side1 => repeat (first | exact (Kd.C_below HR0_6.out (by repeat (first | (with_reducible first | exact HB.out | apply below_alloc | apply pw_below_drewN | apply below_drew1 | refine below_set ?_ GE104.out) | exact HB.out))) | (with_reducible refine Kd.C_alloc ?_ _) | (with_reducible refine Kd.C_drewN ?_ _) | (with_reducible refine Kd.C_drew ?_))); (case side2 => exact HC0_6.out); rintro e w' ⟨rfl, ⟨nd, rfl⟩⟩; refine ⟨_, rfl, ?_⟩))
        go_ret
        exact ⟨by first | rfl | (simp [errW_none, errW_some] <;> rfl) | (simp [*, errW_none, errW_some] <;> rfl), by repeat (first | (with_reducible first | exact HB.out | apply below_alloc | apply pw_below_drewN | apply below_drew1 | refine below_set ?_ GE104.out) | exact HB.out)⟩
      · rw [if_neg c11] at H
        have c11b0 : decide (t106 < 0) = false := decide_eq_false c11
        clear c11
        replace H := Option.bind_eq_some_iff.mp H
        obtain ⟨t107, A140, H⟩ := H
        replace H : (if t107 < 0 then (some (-1)) else (some t107)) = some r := H
        have A14 := Aside0.mk A140
        clear A140
        by_cases c15 : t107 < 0
        · rw [if_pos c15] at H
          have c15b0 : decide (t107 < 0) = true := decide_eq_true c15
          clear c15
          obtain rfl := Option.some.inj H
          go_enter Try.func127, Try.ntmps127
          go_wp2_with (first | ((with_reducible refine gate_dst (N := 2) rfl ?_); refine box_event ?hg (N := 2) ?hd (cs := #[.int .i64 a0_0, .int .i64 a0_1, .string a0_2, .int .i64 a0_3, .int .i64 a0_4, .slice A0_5 l0_5.length c0_5, .slice A0_6 l0_6.length c0_6, .slice A0_7 l0_7.length c0_7]) (t := 160) ?hr ?_; (case hd => rfl); (case hg => rfl); (case hr => first | (go_simp; done) | (go_simp; rfl)); intro gb104 hg w16 hbox hb; have n0_ := Aside0.mk (below_step (by repeat (first | (with_reducible first | exact HB.out | apply below_alloc | apply pw_below_drewN | apply below_drew1) | exact HB.out)) hb); have n1_ := Aside0.mk (hbox); have n2_ := Aside0.mk ((by rw [hg]; exact (below_size (by repeat (first | (with_reducible first | exact HB.out | apply below_alloc | apply pw_below_drewN | apply below_drew1) | exact HB.out))) : w.heap.size ≤ gb104)); have n3_ := Aside0.mk ((by rw [hg]; exact (below_size (by repeat (first | (with_reducible first | exact HB.out | apply below_alloc | apply pw_below_drewN | apply below_drew1) | exact HB.out))) : w.heap.size ≤ gb104)); clear HB; have HB := n0_; have BK104 := n1_; have GW104 := n2_; have GE104 := n3_; clear n0_ n1_ n2_ n3_; clear hb hbox hg; have hcz17_0 : w16.cell? ⟨gb104, 0, none⟩ = some (.int .i64 a0_0) := (blk_cell BK104.out 0).trans rfl; have hcz17_1 : w16.cell? ⟨gb104, 1, none⟩ = some (.int .i64 a0_1) := (blk_cell BK104.out 1).trans rfl; have hcz17_2 : w16.cell? ⟨gb104, 2, none⟩ = some (.string a0_2) := (blk_cell BK104.out 2).trans rfl; have hcz17_3 : w16.cell? ⟨gb104, 3, none⟩ = some (.int .i64 a0_3) := (blk_cell BK104.out 3).trans rfl; have hcz17_4 : w16.cell? ⟨gb104, 4, none⟩ = some (.int .i64 a0_4) := (blk_cell BK104.out 4).trans rfl; have hcz17_5 : w16.cell? ⟨gb104, 5, none⟩ = some (.slice A0_5 l0_5.length c0_5) := (blk_cell BK104.out 5).trans rfl; have hcz17_6 : w16.cell? ⟨gb104, 6, none⟩ = some (.slice A0_6 l0_6.length c0_6) := (blk_cell BK104.out 6).trans rfl; have hcz17_7 : w16.cell? ⟨gb104, 7, none⟩ = some (.slice A0_7 l0_7.length c0_7) := (blk_cell BK104.out 7).trans rfl; have hfz17_0 := blk_frozen BK104.out 0; have hfz17_1 := blk_frozen BK104.out 1; have hfz17_2 := blk_frozen BK104.out 2; have hfz17_3 := blk_frozen BK104.out 3; have hfz17_4 := blk_frozen BK104.out 4; have hfz17_5 := blk_frozen BK104.out 5; have hfz17_6 := blk_frozen BK104.out 6; have hfz17_7 := blk_frozen BK104.out 7) | ((with_reducible refine gate_callee (f := 75) rfl ?_); refine goesL_ (some 15) rfl rfl Try.func75 (by kernel_rfl) rfl #[.slice A0_5 l0_5.length c0_5, .int .i64 (wrap64 (a1 - (a0_2.size : Int)))] rfl (by (try simp only [List.map_toArray, List.map_cons, List.map_nil]); first | done | rfl | (simp only [List.length_drop, List.length_take]; rfl)) ?_; (with_reducible refine (laws_szInt64S.calls _ _ l0_5 (wrap64 (a1 - (a0_2.size : Int))) t105 _ ?side1 ?side2 A6.out).mono ?_); (case side1 => repeat (first | exact (Kd.C_below HR0_5.out HB.out) | (with_reducible refine Kd.C_alloc ?_ _) | (with_reducible refine Kd.C_drewN ?_ _) | (with_reducible refine Kd.C_drew ?_))); (case side2 => exact HC0_5.out); rintro e w' ⟨rfl, ⟨nd, rfl⟩⟩; refine ⟨_, rfl, ?_⟩) | ((with_reducible refine gate_callee (f := 75) rfl ?_); refine goesL_ (some 21) rfl rfl Try.func75 (by kernel_rfl) rfl #[.slice A0_6 l0_6.length c0_6, .int .i64 t105] rfl (by (try simp only [List.map_toArray, List.map_cons, List.map_nil]); first | done | rfl | (simp only [List.length_drop, List.length_take]; rfl)) ?_; (with_reducible refine (laws_szInt64S.calls _ _ l0_6 t105 t106 _ ?side1 ?side2 A10.out).mono ?_); (case side1 => repeat (first | exact (Kd.C_below HR0_6.out (by repeat (first | (with_reducible first | exact HB.out | apply below_alloc | apply pw_below_drewN | apply below_drew1 | refine below_set ?_ GE104.out) | exact HB.out))) | (with_reducible refine Kd.C_alloc ?_ _) | (with_reducible refine Kd.C_drewN ?_ _) | (with_reducible refine Kd.C_drew ?_))); (case side2 => exact HC0_6.out); rintro e w' ⟨rfl, ⟨nd, rfl⟩⟩; refine ⟨_, rfl, ?_⟩) | ((with_reducible refine gate_callee (f := 75) rfl ?_); refine goesL_ (some 27) rfl rfl Try.func75 (by kernel_rfl) rfl #[.slice A0_7 l0_7.length c0_7, .int .i64 t106] rfl (by (try simp only [List.map_toArray, List.map_cons, List.map_nil]); first | done | rfl | (simp only [List.length_drop, List.length_take]; rfl)) ?_; (with_reducible refine (laws_szInt64S.calls _ _ l0_7 t106 t107 _ ?side1 ?side2 A14.out).mono ?_); (case side1 => repeat (first | exact (Kd.C_below HR0_7.out (by repeat (first | (with_reducible first | exact HB.out | apply below_alloc | apply pw_below_drewN | apply below_drew1 | refine below_set ?_ GE104.out) | exact HB.out))) | (with_reducible refine Kd.C_alloc ?_ _) | (with_reducible refine Kd.C_drewN ?_ _) | (with_reducible refine Kd.C_drew ?_))); (case side2 => exact HC0_7.out); rintro e w' ⟨rfl, ⟨nd, rfl⟩⟩; refine ⟨_, rfl, ?_⟩))
          go_ret
          exact ⟨by first | rfl | (simp [errW_none, errW_some] <;> rfl) | (simp [*, errW_none, errW_some] <;> rfl), by repeat (first | (with_reducible first | exact HB.out | apply below_alloc | apply pw_below_drewN | apply below_drew1 | refine below_set ?_ GE104.out) | exact HB.out)⟩
        · rw [if_neg c15] at H
          have c15b0 : decide (t107 < 0) = false := decide_eq_false c15
          clear c15
          obtain rfl := Option.some.inj H
          go_enter Try.func127, Try.ntmps127
          go_wp2_with (first | ((with_reducible refine gate_dst (N := 2) rfl ?_); refine box_event ?hg (N := 2) ?hd (cs := #[.int .i64 a0_0, .int .i64 a0_1, .string a0_2, .int .i64 a0_3, .int .i64 a0_4, .slice A0_5 l0_5.length c0_5, .slice A0_6 l0_6.length c0_6, .slice A0_7 l0_7.length c0_7]) (t := 160) ?hr ?_; (case hd => rfl); (case hg => rfl); (case hr => first | (go_simp; done) | (go_simp; rfl)); intro gb104 hg w18 hbox hb; have n0_ := Aside0.mk (below_step (by repeat (first | (with_reducible first | exact HB.out | apply below_alloc | apply pw_below_drewN | apply below_drew1) | exact HB.out)) hb); have n1_ := Aside0.mk (hbox); have n2_ := Aside0.mk ((by rw [hg]; exact (below_size (by repeat (first | (with_reducible first | exact HB.out | apply below_alloc | apply pw_below_drewN | apply below_drew1) | exact HB.out))) : w.heap.size ≤ gb104)); have n3_ := Aside0.mk ((by rw [hg]; exact (below_size (by repeat (first | (with_reducible first | exact HB.out | apply below_alloc | apply pw_below_drewN | apply below_drew1) | exact HB.out))) : w.heap.size ≤ gb104)); clear HB; have HB := n0_; have BK104 := n1_; have GW104 := n2_; have GE104 := n3_; clear n0_ n1_ n2_ n3_; clear hb hbox hg; have hcz19_0 : w18.cell? ⟨gb104, 0, none⟩ = some (.int .i64 a0_0) := (blk_cell BK104.out 0).trans rfl; have hcz19_1 : w18.cell? ⟨gb104, 1, none⟩ = some (.int .i64 a0_1) := (blk_cell BK104.out 1).trans rfl; have hcz19_2 : w18.cell? ⟨gb104, 2, none⟩ = some (.string a0_2) := (blk_cell BK104.out 2).trans rfl; have hcz19_3 : w18.cell? ⟨gb104, 3, none⟩ = some (.int .i64 a0_3) := (blk_cell BK104.out 3).trans rfl; have hcz19_4 : w18.cell? ⟨gb104, 4, none⟩ = some (.int .i64 a0_4) := (blk_cell BK104.out 4).trans rfl; have hcz19_5 : w18.cell? ⟨gb104, 5, none⟩ = some (.slice A0_5 l0_5.length c0_5) := (blk_cell BK104.out 5).trans rfl; have hcz19_6 : w18.cell? ⟨gb104, 6, none⟩ = some (.slice A0_6 l0_6.length c0_6) := (blk_cell BK104.out 6).trans rfl; have hcz19_7 : w18.cell? ⟨gb104, 7, none⟩ = some (.slice A0_7 l0_7.length c0_7) := (blk_cell BK104.out 7).trans rfl; have hfz19_0 := blk_frozen BK104.out 0; have hfz19_1 := blk_frozen BK104.out 1; have hfz19_2 := blk_frozen BK104.out 2; have hfz19_3 := blk_frozen BK104.out 3; have hfz19_4 := blk_frozen BK104.out 4; have hfz19_5 := blk_frozen BK104.out 5; have hfz19_6 := blk_frozen BK104.out 6; have hfz19_7 := blk_frozen BK104.out 7) | ((with_reducible refine gate_callee (f := 75) rfl ?_); refine goesL_ (some 15) rfl rfl Try.func75 (by kernel_rfl) rfl #[.slice A0_5 l0_5.length c0_5, .int .i64 (wrap64 (a1 - (a0_2.size : Int)))] rfl (by (try simp only [List.map_toArray, List.map_cons, List.map_nil]); first | done | rfl | (simp only [List.length_drop, List.length_take]; rfl)) ?_; (with_reducible refine (laws_szInt64S.calls _ _ l0_5 (wrap64 (a1 - (a0_2.size : Int))) t105 _ ?side1 ?side2 A6.out).mono ?_); (case side1 => repeat (first | exact (Kd.C_below HR0_5.out HB.out) | (with_reducible refine Kd.C_alloc ?_ _) | (with_reducible refine Kd.C_drewN ?_ _) | (with_reducible refine Kd.C_drew ?_))); (case side2 => exact HC0_5.out); rintro e w' ⟨rfl, ⟨nd, rfl⟩⟩; refine ⟨_, rfl, ?_⟩) | ((with_reducible refine gate_callee (f := 75) rfl ?_); refine goesL_ (some 21) rfl rfl Try.func75 (by kernel_rfl) rfl #[.slice A0_6 l0_6.length c0_6, .int .i64 t105] rfl (by (try simp only [List.map_toArray, List.map_cons, List.map_nil]); first | done | rfl | (simp only [List.length_drop, List.length_take]; rfl)) ?_; (with_reducible refine (laws_szInt64S.calls _ _ l0_6 t105 t106 _ ?side1 ?side2 A10.out).mono ?_); (case side1 => repeat (first | exact (Kd.C_below HR0_6.out (by repeat (first | (with_reducible first | exact HB.out | apply below_alloc | apply pw_below_drewN | apply below_drew1 | refine below_set ?_ GE104.out) | exact HB.out))) | (with_reducible refine Kd.C_alloc ?_ _) | (with_reducible refine Kd.C_drewN ?_ _) | (with_reducible refine Kd.C_drew ?_))); (case side2 => exact HC0_6.out); rintro e w' ⟨rfl, ⟨nd, rfl⟩⟩; refine ⟨_, rfl, ?_⟩) | ((with_reducible refine gate_callee (f := 75) rfl ?_); refine goesL_ (some 27) rfl rfl Try.func75 (by kernel_rfl) rfl #[.slice A0_7 l0_7.length c0_7, .int .i64 t106] rfl (by (try simp only [List.map_toArray, List.map_cons, List.map_nil]); first | done | rfl | (simp only [List.length_drop, List.length_take]; rfl)) ?_; (with_reducible refine (laws_szInt64S.calls _ _ l0_7 t106 t107 _ ?side1 ?side2 A14.out).mono ?_); (case side1 => repeat (first | exact (Kd.C_below HR0_7.out (by repeat (first | (with_reducible first | exact HB.out | apply below_alloc | apply pw_below_drewN | apply below_drew1 | refine below_set ?_ GE104.out) | exact HB.out))) | (with_reducible refine Kd.C_alloc ?_ _) | (with_reducible refine Kd.C_drewN ?_ _) | (with_reducible refine Kd.C_drew ?_))); (case side2 => exact HC0_7.out); rintro e w' ⟨rfl, ⟨nd, rfl⟩⟩; refine ⟨_, rfl, ?_⟩))
          go_ret
          exact ⟨by first | rfl | (simp [errW_none, errW_some] <;> rfl) | (simp [*, errW_none, errW_some] <;> rfl), by repeat (first | (with_reducible first | exact HB.out | apply below_alloc | apply pw_below_drewN | apply below_drew1 | refine below_set ?_ GE104.out) | exact HB.out)⟩

/-! ### laws_szNodeS: function 87 -/
def laws_szNodeS.l0 : Nat → List (S160) → Int → Int → Option (Int)
  | 0, _, _, _ => none
  | k + 1, x0, x1, x5 => if x5 < (x0.length : Int) then (if 0 ≤ x5 then ((laws_szNode.f ((rd_T160 x0 x5).f0) ((rd_T160 x0 x5).f1) ((rd_T160 x0 x5).f2) ((rd_T160 x0 x5).f3) ((rd_T160 x0 x5).f4) ((rd_T160 x0 x5).f5) ((rd_T160 x0 x5).f6) ((rd_T160 x0 x5).f7) x1).bind fun t109 => (if t109 < 0 then (some (-1)) else (laws_szNodeS.l0 k x0 t109 (wrap64 (x5 + 1))))) else (none)) else (some x1)
def laws_szNodeS.f (k : Nat) (l0 : List (S160)) (a1 : Int) : Option (Int) := if (wrap64 (a1 - (l0.length : Int))) < 0 then (some (-1)) else (laws_szNodeS.l0 k l0 (wrap64 (a1 - (l0.length : Int))) 0)
theorem laws_szNodeS.mono_l : ∀ k, (∀ y0 y1 y2, LeO (laws_szNodeS.l0 k y0 y1 y2) (laws_szNodeS.l0 (k + 1) y0 y1 y2))
  | 0 => fun _ _ _ r h => by simp [laws_szNodeS.l0] at h
  | k + 1 => by
    have ih0 := laws_szNodeS.mono_l k
    · intro y0 y1 y2
      unfold laws_szNodeS.l0
      repeat' first
      | (with_reducible exact ih0 _ _ _)
      | (with_reducible exact LeO.refl _)
      | (with_reducible exact LeO.none _)
      | (with_reducible refine LeO.ite ?_ ?_)
      | (with_reducible refine LeO.bind ?_ (fun _ => ?_))
      | exact ih0 _ _ _
      | exact LeO.none _
      | refine LeO.ite ?_ ?_
      | refine LeO.bind ?_ (fun _ => ?_)
theorem laws_szNodeS.mono : ∀ a0 a1 k, LeO (laws_szNodeS.f k a0 a1) (laws_szNodeS.f (k + 1) a0 a1) := by
  intro a0 a1 k
  have ih0 := laws_szNodeS.mono_l k
  unfold laws_szNodeS.f
  repeat' first
      | (with_reducible exact ih0 _ _ _)
      | (with_reducible exact LeO.refl _)
      | (with_reducible exact LeO.none _)
      | (with_reducible refine LeO.ite ?_ ?_)
      | (with_reducible refine LeO.bind ?_ (fun _ => ?_))
      | exact ih0 _ _ _
      | exact LeO.none _
      | refine LeO.ite ?_ ?_
      | refine LeO.bind ?_ (fun _ => ?_)
set_option maxHeartbeats 8000000 in
set_option maxRecDepth 100000 in
theorem laws_szNodeS.calls (k : Nat) (A0 : Option Addr) (c0 : Nat) (l0 : List (S160)) (a1 : Int) (r : Int) (w : World) (hr0 : Kd.C k160 w A0 l0.length l0) (hc0 : l0.length ≤ c0) (h : laws_szNodeS.f k l0 a1 = some r) :
    Calls Try.prog 87 #[.slice A0 l0.length c0, .int .i64 a1] w fun e w' => e = .returned (.int .i64 r) ∧ Below w.heap.size w w' := by
  have hu160 := Try.underlying160
  have HR0 := Aside0.mk hr0
  have HC0 := Aside0.mk hc0
  clear hr0 hc0
  have HB := Aside0.mk (Below.refl w.heap.size w)
  have H : (if (wrap64 (a1 - (l0.length : Int))) < 0 then (some (-1)) else (laws_szNodeS.l0 k l0 (wrap64 (a1 - (l0.length : Int))) 0)) = some r := h
  clear h
  by_cases c3 : (wrap64 (a1 - (l0.length : Int))) < 0
  · rw [if_pos c3] at H
    have c3b0 : decide ((wrap64 (a1 - (l0.length : Int))) < 0) = true := decide_eq_true c3
    clear c3
    obtain rfl := Option.some.inj H
    go_enter Try.func87, Try.ntmps87
    go_wp2
    go_ret
    exact ⟨by first | rfl | (simp [errW_none, errW_some] <;> rfl) | (simp [*, errW_none, errW_some] <;> rfl), by repeat (first | (with_reducible first | exact HB.out | apply below_alloc | apply pw_below_drewN | apply below_drew1) | exact HB.out)⟩
  · rw [if_neg c3] at H
    have c3b0 : decide ((wrap64 (a1 - (l0.length : Int))) < 0) = false := decide_eq_false c3
    clear c3
    have H' := Aside0.mk H
    clear H
    go_enter Try.func87, Try.ntmps87
    go_wp2
    go_loopg [1, 5] k (fun kq v1 v5 w' => ∃ (x1_1 : Int) (x5_1 : Int), v1 = .int .i64 x1_1 ∧ v5 = .int .i64 x5_1 ∧ Aside0 (laws_szNodeS.l0 kq l0 x1_1 x5_1 = some r) ∧ Aside0 (kq ≤ k) ∧ Aside0 (Below w.heap.size w w'))
    case atStart => exact ⟨(wrap64 (a1 - (l0.length : Int))), (0), (by first | rfl | (simp; done) | (simp [*]; done)), (by first | rfl | (simp; done) | (simp [*]; done)), H', ⟨Nat.le_refl _⟩, ⟨by repeat (first | (with_reducible first | exact HB.out | apply below_alloc | apply pw_below_drewN | apply below_drew1) | exact HB.out)⟩⟩
    case round =>
      clear H'
      try clear p2
      try clear c3
      try clear c3b0
      obtain ⟨x1_1, x5_1, rfl, rfl, HA, HK1, HB⟩ := hrel
      cases gk with
      | zero => exact absurd HA.out (by simp [laws_szNodeS.l0])
      | succ k1 =>
        have H := HA.out
        clear HA
        simp only [laws_szNodeS.l0] at H
        by_cases c4 : x5_1 < (l0.length : Int)
        · rw [if_pos c4] at H
          have c4b0 : decide (x5_1 < (l0.length : Int)) = true := decide_eq_true c4
          clear c4
          by_cases c5 : 0 ≤ x5_1
          · rw [if_pos c5] at H
            have c5b0 : decide (0 ≤ x5_1) = true := decide_eq_true c5
            clear c5
            replace H := Option.bind_eq_some_iff.mp H
            obtain ⟨t109, A60, H⟩ := H
            replace H : (if t109 < 0 then (some (-1)) else (laws_szNodeS.l0 k1 l0 t109 (wrap64 (x5_1 + 1)))) = some r := H
            have A6 := Aside0.mk A60
            clear A60
            by_cases c7 : t109 < 0
            · rw [if_pos c7] at H
              have c7b0 : decide (t109 < 0) = true := decide_eq_true c7
              clear c7
              obtain rfl := Option.some.inj H
              have p108 : 0 ≤ (x5_1 : Int) := of_decide_eq_true (by first | (with_reducible assumption) | assumption)
              have q108 : x5_1 < (l0.length : Int) := of_decide_eq_true (by first | (with_reducible assumption) | assumption)
              obtain ⟨ad108, A108_5, c108_5, A108_6, c108_6, A108_7, c108_7, e108, hx108_0, hx108_1, hx108_2, hx108_3, hx108_4, hx108_5, hx108_6, hx108_7, hl108_5, hi108_5, hl108_6, hi108_6, hl108_7, hi108_7⟩ := at_T160 HR0.out x5_1 p108 q108
              cases e108
              replace hx108_0 := (HB.out.cell (World.block_lt_of_cell? w _ hx108_0)).trans hx108_0
              replace hx108_1 := (HB.out.cell (World.block_lt_of_cell? w _ hx108_1)).trans hx108_1
              replace hx108_2 := (HB.out.cell (World.block_lt_of_cell? w _ hx108_2)).trans hx108_2
              replace hx108_3 := (HB.out.cell (World.block_lt_of_cell? w _ hx108_3)).trans hx108_3
              replace hx108_4 := (HB.out.cell (World.block_lt_of_cell? w _ hx108_4)).trans hx108_4
              replace hx108_5 := (HB.out.cell (World.block_lt_of_cell? w _ hx108_5)).trans hx108_5
              replace hx108_6 := (HB.out.cell (World.block_lt_of_cell? w _ hx108_6)).trans hx108_6
              replace hx108_7 := (HB.out.cell (World.block_lt_of_cell? w _ hx108_7)).trans hx108_7
              have HR108_5 := Aside0.mk hi108_5
              have HC108_5 := Aside0.mk hl108_5
              clear hi108_5 hl108_5
              have HR108_6 := Aside0.mk hi108_6
              have HC108_6 := Aside0.mk hl108_6
              clear hi108_6 hl108_6
              have HR108_7 := Aside0.mk hi108_7
              have HC108_7 := Aside0.mk hl108_7
              clear hi108_7 hl108_7
              replace p108 := eq_true p108
              replace q108 := eq_true q108
              go_wp2_with (first | ((with_reducible refine gate_callee (f := 127) rfl ?_); refine goesL_ (some 23) rfl rfl Try.func127 (by kernel_rfl) rfl #[.agg #[.int .i64 ((rd_T160 l0 x5_1).f0), .int .i64 ((rd_T160 l0 x5_1).f1), .string ((rd_T160 l0 x5_1).f2), .int .i64 ((rd_T160 l0 x5_1).f3), .int .i64 ((rd_T160 l0 x5_1).f4), .slice A108_5 ((rd_T160 l0 x5_1).f5).length c108_5, .slice A108_6 ((rd_T160 l0 x5_1).f6).length c108_6, .slice A108_7 ((rd_T160 l0 x5_1).f7).length c108_7], .int .i64 x1_1] rfl (by (try simp only [List.map_toArray, List.map_cons, List.map_nil]); first | done | rfl | (simp only [List.length_drop, List.length_take]; rfl)) ?_; (with_reducible refine (laws_szNode.calls ((rd_T160 l0 x5_1).f0) ((rd_T160 l0 x5_1).f1) ((rd_T160 l0 x5_1).f2) ((rd_T160 l0 x5_1).f3) ((rd_T160 l0 x5_1).f4) _ _ ((rd_T160 l0 x5_1).f5) _ _ ((rd_T160 l0 x5_1).f6) _ _ ((rd_T160 l0 x5_1).f7) x1_1 t109 _ ?side1 ?side2 ?side3 ?side4 ?side5 ?side6 A6.out).mono ?_); (case side1 => repeat (first | exact (Kd.C_below HR108_5.out HB.out) | (with_reducible refine Kd.C_alloc ?_ _) | (with_reducible refine Kd.C_drewN ?_ _) | (with_reducible refine Kd.C_drew ?_))); (case side2 => exact HC108_5.out); (case side3 => repeat (first | exact (Kd.C_below HR108_6.out HB.out) | (with_reducible refine Kd.C_alloc ?_ _) | (with_reducible refine Kd.C_drewN ?_ _) | (with_reducible refine Kd.C_drew ?_))); (case side4 => exact HC108_6.out); (case side5 => repeat (first | exact (Kd.C_below HR108_7.out HB.out) | (with_reducible refine Kd.C_alloc ?_ _) | (with_reducible refine Kd.C_drewN ?_ _) | (with_reducible refine Kd.C_drew ?_))); (case side6 => exact HC108_7.out); rintro e w8 ⟨rfl, hb⟩; refine ⟨_, rfl, ?_⟩; have n0_ := Aside0.mk (below_step (by repeat (first | (with_reducible first | exact HB.out | apply below_alloc | apply pw_below_drewN | apply below_drew1) | exact HB.out)) hb); clear HB; have HB := n0_; clear n0_; (try clear hb); (try clear hb2); (try clear hk); (try clear hi)))
              go_ret
              exact ⟨by first | rfl | (simp [errW_none, errW_some] <;> rfl) | (simp [*, errW_none, errW_some] <;> rfl), by repeat (first | (with_reducible first | exact HB.out | apply below_alloc | apply pw_below_drewN | apply below_drew1) | exact HB.out)⟩
            · rw [if_neg c7] at H
              have c7b0 : decide (t109 < 0) = false := decide_eq_false c7
              clear c7
              have H' := Aside0.mk H
              clear H
              have p108 : 0 ≤ (x5_1 : Int) := of_decide_eq_true (by first | (with_reducible assumption) | assumption)
              have q108 : x5_1 < (l0.length : Int) := of_decide_eq_true (by first | (with_reducible assumption) | assumption)
              obtain ⟨ad108, A108_5, c108_5, A108_6, c108_6, A108_7, c108_7, e108, hx108_0, hx108_1, hx108_2, hx108_3, hx108_4, hx108_5, hx108_6, hx108_7, hl108_5, hi108_5, hl108_6, hi108_6, hl108_7, hi108_7⟩ := at_T160 HR0.out x5_1 p108 q108
              cases e108
              replace hx108_0 := (HB.out.cell (World.block_lt_of_cell? w _ hx108_0)).trans hx108_0
              replace hx108_1 := (HB.out.cell (World.block_lt_of_cell? w _ hx108_1)).trans hx108_1
              replace hx108_2 := (HB.out.cell (World.block_lt_of_cell? w _ hx108_2)).trans hx108_2
              replace hx108_3 := (HB.out.cell (World.block_lt_of_cell? w _ hx108_3)).trans hx108_3
              replace hx108_4 := (HB.out.cell (World.block_lt_of_cell? w _ hx108_4)).trans hx108_4
              replace hx108_5 := (HB.out.cell (World.block_lt_of_cell? w _ hx108_5)).trans hx108_5
              replace hx108_6 := (HB.out.cell (World.block_lt_of_cell? w _ hx108_6)).trans hx108_6
              replace hx108_7 := (HB.out.cell (World.block_lt_of_cell? w _ hx108_7)).trans hx108_7
              have HR108_5 := Aside0.mk hi108_5
              have HC108_5 := Aside0.mk hl108_5
              clear hi108_5 hl108_5
              have HR108_6 := Aside0.mk hi108_6
              have HC108_6 := Aside0.mk hl108_6
              clear hi108_6 hl108_6
              have HR108_7 := Aside0.mk hi108_7
              have HC108_7 := Aside0.mk hl108_7
              clear hi108_7 hl108_7
              replace p108 := eq_true p108
              replace q108 := eq_true q108
              go_wp2_with (first | ((with_reducible refine gate_callee (f := 127) rfl ?_); refine goesL_ (some 23) rfl rfl Try.func127 (by kernel_rfl) rfl #[.agg #[.int .i64 ((rd_T160 l0 x5_1).f0), .int .i64 ((rd_T160 l0 x5_1).f1), .string ((rd_T160 l0 x5_1).f2), .int .i64 ((rd_T160 l0 x5_1).f3), .int .i64 ((rd_T160 l0 x5_1).f4), .slice A108_5 ((rd_T160 l0 x5_1).f5).length c108_5, .slice A108_6 ((rd_T160 l0 x5_1).f6).length c108_6, .slice A108_7 ((rd_T160 l0 x5_1).f7).length c108_7], .int .i64 x1_1] rfl (by (try simp only [List.map_toArray, List.map_cons, List.map_nil]); first | done | rfl | (simp only [List.length_drop, List.length_take]; rfl)) ?_; (with_reducible refine (laws_szNode.calls ((rd_T160 l0 x5_1).f0) ((rd_T160 l0 x5_1).f1) ((rd_T160 l0 x5_1).f2) ((rd_T160 l0 x5_1).f3) ((rd_T160 l0 x5_1).f4) _ _ ((rd_T160 l0 x5_1).f5) _ _ ((rd_T160 l0 x5_1).f6) _ _ ((rd_T160 l0 x5_1).f7) x1_1 t109 _ ?side1 ?side2 ?side3 ?side4 ?side5 ?side6 A6.out).mono ?_); (case side1 => repeat (first | exact (Kd.C_below HR108_5.out HB.out) | (with_reducible refine Kd.C_alloc ?_ _) | (with_reducible refine Kd.C_drewN ?_ _) | (with_reducible refine Kd.C_drew ?_))); (case side2 => exact HC108_5.out); (case side3 => repeat (first | exact (Kd.C_below HR108_6.out HB.out) | (with_reducible refine Kd.C_alloc ?_ _) | (with_reducible refine Kd.C_drewN ?_ _) | (with_reducible refine Kd.C_drew ?_))); (case side4 => exact HC108_6.out); (case side5 => repeat (first | exact (Kd.C_below HR108_7.out HB.out) | (with_reducible refine Kd.C_alloc ?_ _) | (with_reducible refine Kd.C_drewN ?_ _) | (with_reducible refine Kd.C_drew ?_))); (case side6 => exact HC108_7.out); rintro e w9 ⟨rfl, hb⟩; refine ⟨_, rfl, ?_⟩; have n0_ := Aside0.mk (below_step (by repeat (first | (with_reducible first | exact HB.out | apply below_alloc | apply pw_below_drewN | apply below_drew1) | exact HB.out)) hb); clear HB; have HB := n0_; clear n0_; (try clear hb); (try clear hb2); (try clear hk); (try clear hi)))
              go_roundg k1
              case measure => have := HK1.out; omega
              case rel => exact ⟨(t109), (wrap64 (x5_1 + 1)), (by first | rfl | (simp; done) | (simp [*]; done)), (by first | rfl | (simp; done) | (simp [*]; done)), H', ⟨by have := HK1.out; omega⟩, ⟨by repeat (first | (with_reducible first | exact HB.out | apply below_alloc | apply pw_below_drewN | apply below_drew1) | exact HB.out)⟩⟩
          · rw [if_neg c5] at H
            exact absurd H (by simp)
        · rw [if_neg c4] at H
          have c4b0 : decide (x5_1 < (l0.length : Int)) = false := decide_eq_false c4
          clear c4
          obtain rfl := Option.some.inj H
          go_wp2
          go_ret
          exact ⟨by first | rfl | (simp [errW_none, errW_some] <;> rfl) | (simp [*, errW_none, errW_some] <;> rfl), by repeat (first | (with_reducible first | exact HB.out | apply below_alloc | apply pw_below_drewN | apply below_drew1) | exact HB.out)⟩

/-! ### laws_szTree: function 40 -/
def laws_szTree.f (k : Nat) (l0_0 : List (S158)) (l0_1 : List (S160)) (l0_2 : List Int) (a1 : Int) : Option (Int) := (laws_szVarS.f k l0_0 a1).bind fun t111 => (if t111 < 0 then (some (-1)) else ((laws_szNodeS.f k l0_1 t111).bind fun t112 => (if t112 < 0 then (some (-1)) else ((laws_szInt64S.f l0_2 t112).bind fun t113 => (if t113 < 0 then (some (-1)) else (some t113))))))
theorem laws_szTree.mono : ∀ a0 a1 a2 a3 k, LeO (laws_szTree.f k a0 a1 a2 a3) (laws_szTree.f (k + 1) a0 a1 a2 a3) := by
  intro a0 a1 a2 a3 k
  unfold laws_szTree.f
  repeat' first
      | (with_reducible exact laws_szNodeS.mono _ _ _)
      | (with_reducible exact laws_szVarS.mono _ _ _)
      | (with_reducible exact LeO.refl _)
      | (with_reducible exact LeO.none _)
      | (with_reducible refine LeO.ite ?_ ?_)
      | (with_reducible refine LeO.bind ?_ (fun _ => ?_))
      | exact laws_szNodeS.mono _ _ _
      | exact laws_szVarS.mono _ _ _
      | exact LeO.none _
      | refine LeO.ite ?_ ?_
      | refine LeO.bind ?_ (fun _ => ?_)
set_option maxHeartbeats 8000000 in
set_option maxRecDepth 100000 in
theorem laws_szTree.calls (k : Nat) (A0_0 : Option Addr) (c0_0 : Nat) (l0_0 : List (S158)) (A0_1 : Option Addr) (c0_1 : Nat) (l0_1 : List (S160)) (A0_2 : Option Addr) (c0_2 : Nat) (l0_2 : List Int) (a1 : Int) (r : Int) (w : World) (hr0_0 : Kd.C k158 w A0_0 l0_0.length l0_0) (hc0_0 : l0_0.length ≤ c0_0) (hr0_1 : Kd.C k160 w A0_1 l0_1.length l0_1) (hc0_1 : l0_1.length ≤ c0_1) (hr0_2 : Kd.C (Kd.int .i64) w A0_2 l0_2.length l0_2) (hc0_2 : l0_2.length ≤ c0_2) (h : laws_szTree.f k l0_0 l0_1 l0_2 a1 = some r) :
    Calls Try.prog 40 #[.agg #[.slice A0_0 l0_0.length c0_0, .slice A0_1 l0_1.length c0_1, .slice A0_2 l0_2.length c0_2], .int .i64 a1] w fun e w' => e = .returned (.int .i64 r) ∧ Below w.heap.size w w' := by
  have hu60 := Try.underlying60
  have HR0_0 := Aside0.mk hr0_0
  have HC0_0 := Aside0.mk hc0_0
  clear hr0_0 hc0_0
  have HR0_1 := Aside0.mk hr0_1
  have HC0_1 := Aside0.mk hc0_1
  clear hr0_1 hc0_1
  have HR0_2 := Aside0.mk hr0_2
  have HC0_2 := Aside0.mk hc0_2
  clear hr0_2 hc0_2
  have HB := Aside0.mk (Below.refl w.heap.size w)
  have H : ((laws_szVarS.f k l0_0 a1).bind fun t111 => (if t111 < 0 then (some (-1)) else ((laws_szNodeS.f k l0_1 t111).bind fun t112 => (if t112 < 0 then (some (-1)) else ((laws_szInt64S.f l0_2 t112).bind fun t113 => (if t113 < 0 then (some (-1)) else (some t113))))))) = some r := h
  clear h
  replace H := Option.bind_eq_some_iff.mp H
  obtain ⟨t111, A30, H⟩ := H
  replace H : (if t111 < 0 then (some (-1)) else ((laws_szNodeS.f k l0_1 t111).bind fun t112 => (if t112 < 0 then (some (-1)) else ((laws_szInt64S.f l0_2 t112).bind fun t113 => (if t113 < 0 then (some (-1)) else (some t113)))))) = some r := H
  have A3 := Aside0.mk A30
  clear A30
  by_cases c4 : t111 < 0
  · rw [if_pos c4] at H
    have c4b0 : decide (t111 < 0) = true := decide_eq_true c4
    clear c4
    obtain rfl := Option.some.inj H
    go_enter Try.func40, Try.ntmps40
    go_wp2_with (first | ((with_reducible refine gate_dst (N := 2) rfl ?_); refine box_event ?hg (N := 2) ?hd (cs := #[.slice A0_0 l0_0.length c0_0, .slice A0_1 l0_1.length c0_1, .slice A0_2 l0_2.length c0_2]) (t := 60) ?hr ?_; (case hd => rfl); (case hg => rfl); (case hr => first | (go_simp; done) | (go_simp; rfl)); intro gb110 hg w5 hbox hb; have n0_ := Aside0.mk (below_step (by repeat (first | (with_reducible first | exact HB.out | apply below_alloc | apply pw_below_drewN | apply below_drew1) | exact HB.out)) hb); have n1_ := Aside0.mk (hbox); have n2_ := Aside0.mk ((by rw [hg]; exact (below_size (by repeat (first | (with_reducible first | exact HB.out | apply below_alloc | apply pw_below_drewN | apply below_drew1) | exact HB.out))) : w.heap.size ≤ gb110)); have n3_ := Aside0.mk ((by rw [hg]; exact (below_size (by repeat (first | (with_reducible first | exact HB.out | apply below_alloc | apply pw_below_drewN | apply below_drew1) | exact HB.out))) : w.heap.size ≤ gb110)); clear HB; have HB := n0_; have BK110 := n1_; have GW110 := n2_; have GE110 := n3_; clear n0_ n1_ n2_ n3_; clear hb hbox hg; have hcz6_0 : w5.cell? ⟨gb110, 0, none⟩ = some (.slice A0_0 l0_0.length c0_0) := (blk_cell BK110.out 0).trans rfl; have hcz6_1 : w5.cell? ⟨gb110, 1, none⟩ = some (.slice A0_1 l0_1.length c0_1) := (blk_cell BK110.out 1).trans rfl; have hcz6_2 : w5.cell? ⟨gb110, 2, none⟩ = some (.slice A0_2 l0_2.length c0_2) := (blk_cell BK110.out 2).trans rfl; have hfz6_0 := blk_frozen BK110.out 0; have hfz6_1 := blk_frozen BK110.out 1; have hfz6_2 := blk_frozen BK110.out 2) | ((with_reducible refine gate_callee (f := 86) rfl ?_); refine goesL_ (some 8) rfl rfl Try.func86 (by kernel_rfl) rfl #[.slice A0_0 l0_0.length c0_0, .int .i64 a1] rfl (by (try simp only [List.map_toArray, List.map_cons, List.map_nil]); first | done | rfl | (simp only [List.length_drop, List.length_take]; rfl)) ?_; (with_reducible refine (laws_szVarS.calls k _ _ l0_0 a1 t111 _ ?side1 ?side2 A3.out).mono ?_); (case side1 => repeat (first | exact (Kd.C_below HR0_0.out HB.out) | (with_reducible refine Kd.C_alloc ?_ _) | (with_reducible refine Kd.C_drewN ?_ _) | (with_reducible refine Kd.C_drew ?_))); (case side2 => exact HC0_0.out); rintro e w7 ⟨rfl, hb⟩; refine ⟨_, rfl, ?_⟩; have n0_ := Aside0.mk (blk_below (g := gb110) (o := .cells #[.slice A0_0 l0_0.length c0_0, .slice A0_1 l0_1.length c0_1, .slice A0_2 l0_2.length c0_2] 60 (0, 0)) (by (with_reducible repeat (first | refine blk_drewN ?_ _ | refine blk_drew ?_ | refine blk_alloc ?_ _)); exact BK110.out) hb); have n1_ := Aside0.mk (below_step (by repeat (first | (with_reducible first | exact HB.out | apply below_alloc | apply pw_below_drewN | apply below_drew1 | refine below_set ?_ GE110.out) | exact HB.out)) hb); clear BK110; clear HB; have BK110 := n0_; have HB := n1_; clear n0_ n1_; (try clear hb); (try clear hb2); (try clear hk); (try clear hi)))
    go_ret
    exact ⟨by first | rfl | (simp [errW_none, errW_some] <;> rfl) | (simp [*, errW_none, errW_some] <;> rfl), by repeat (first | (with_reducible first | exact HB.out | apply below_alloc | apply pw_below_drewN | apply below_drew1 | refine below_set ?_ GE110.out) | exact HB.out)⟩
  · rw [if_neg c4] at H
    have c4b0 : decide (t111 < 0) = false := decide_eq_false c4
    clear c4
    replace H := Option.bind_eq_some_iff.mp H
    obtain ⟨t112, A80, H⟩ := H
    replace H : (if t112 < 0 then (some (-1)) else ((laws_szInt64S.f l0_2 t112).bind fun t113 => (if t113 < 0 then (some (-1)) else (some t113)))) = some r := H
    have A8 := Aside0.mk A80
    clear A80
    by_cases c9 : t112 < 0
    · rw [if_pos c9] at H
      have c9b0 : decide (t112 < 0) = true := decide_eq_true c9
      clear c9
      obtain rfl := Option.some.inj H
      go_enter Try.func40, Try.ntmps40
      go_wp2_with (first | ((with_reducible refine gate_dst (N := 2) rfl ?_); refine box_event ?hg (N := 2) ?hd (cs := #[.slice A0_0 l0_0.length c0_0, .slice A0_1 l0_1.length c0_1, .slice A0_2 l0_2.length c0_2]) (t := 60) ?hr ?_; (case hd => rfl); (case hg => rfl); (case hr => first | (go_simp; done) | (go_simp; rfl)); intro gb110 hg w10 hbox hb; have n0_ := Aside0.mk (below_step (by repeat (first | (with_reducible first | exact HB.out | apply below_alloc | apply pw_below_drewN | apply below_drew1) | exact HB.out)) hb); have n1_ := Aside0.mk (hbox); have n2_ := Aside0.mk ((by rw [hg]; exact (below_size (by repeat (first | (with_reducible first | exact HB.out | apply below_alloc | apply pw_below_drewN | apply below_drew1) | exact HB.out))) : w.heap.size ≤ gb110)); have n3_ := Aside0.mk ((by rw [hg]; exact (below_size (by repeat (first | (with_reducible first | exact HB.out | apply below_alloc | apply pw_below_drewN | apply below_drew1) | exact HB.out))) : w.heap.size ≤ gb110)); clear HB; have HB := n0_; have BK110 := n1_; have GW110 := n2_; have GE110 := n3_; clear n0_ n1_ n2_ n3_; clear hb hbox hg; have hcz11_0 : w10.cell? ⟨gb110, 0, none⟩ = some (.slice A0_0 l0_0.length c0_0) := (blk_cell BK110.out 0).trans rfl; have hcz11_1 : w10.cell? ⟨gb110, 1, none⟩ = some (.slice A0_1 l0_1.length c0_1) := (blk_cell BK110.out 1).trans rfl; have hcz11_2 : w10.cell? ⟨gb110, 2, none⟩ = some (.slice A0_2 l0_2.length c0_2) := (blk_cell BK110.out 2).trans rfl; have hfz11_0 := blk_frozen BK110.out 0; have hfz11_1 := blk_frozen BK110.out 1; have hfz11_2 := blk_frozen BK110.out 2) | ((with_reducible refine gate_callee (f := 86) rfl ?_); refine goesL_ (some 8) rfl rfl Try.func86 (by kernel_rfl) rfl #[.slice A0_0 l0_0.length c0_0, .int .i64 a1] rfl (by (try simp only [List.map_toArray, List.map_cons, List.map_nil]); first | done | rfl | (simp only [List.length_drop, List.length_take]; rfl)) ?_; (with_reducible refine (laws_szVarS.calls k _ _ l0_0 a1 t111 _ ?side1 ?side2 A3.out).mono ?_); (case side1 => repeat (first | exact (Kd.C_below HR0_0.out HB.out) | (with_reducible refine Kd.C_alloc ?_ _) | (with_reducible refine Kd.C_drewN ?_ _) | (with_reducible refine Kd.C_drew ?_))); (case side2 => exact HC0_0.out); rintro e w12 ⟨rfl, hb⟩; refine ⟨_, rfl, ?_⟩; have n0_ := Aside0.mk (blk_below (g := gb110) (o := .cells #[.slice A0_0 l0_0.length c0_0, .slice A0_1 l0_1.length c0_1, .slice A0_2 l0_2.length c0_2] 60 (0, 0)) (by (with_reducible repeat (first | refine blk_drewN ?_ _ | refine blk_drew ?_ | refine blk_alloc ?_ _)); exact BK110.out) hb); have n1_ := Aside0.mk (below_step (by repeat (first | (with_reducible first | exact HB.out | apply below_alloc | apply pw_below_drewN | apply below_drew1 | refine below_set ?_ GE110.out) | exact HB.out)) hb); clear BK110; clear HB; have BK110 := n0_; have HB := n1_; clear n0_ n1_; (try clear hb); (try clear hb2); (try clear hk); (try clear hi); have hcz13_0 : w12.cell? ⟨gb110, 0, none⟩ = some (.slice A0_0 l0_0.length c0_0) := (blk_cell BK110.out 0).trans rfl; have hcz13_1 : w12.cell? ⟨gb110, 1, none⟩ = some (.slice A0_1 l0_1.length c0_1) := (blk_cell BK110.out 1).trans rfl; have hcz13_2 : w12.cell? ⟨gb110, 2, none⟩ = some (.slice A0_2 l0_2.length c0_2) := (blk_cell BK110.out 2).trans rfl; have hfz13_0 := blk_frozen BK110.out 0; have hfz13_1 := blk_frozen BK110.out 1; have hfz13_2 := blk_frozen BK110.out 2) | ((with_reducible refine gate_callee (f := 87) rfl ?_); refine goesL_ (some 14) rfl rfl Try.func87 (by kernel_rfl) rfl #[.slice A0_1 l0_1.length c0_1, .int .i64 t111] rfl (by (try simp only [List.map_toArray, List.map_cons, List.map_nil]); first | done | rfl | (simp only [List.length_drop, List.length_take]; rfl)) ?_; (with_reducible refine (laws_szNodeS.calls k _ _ l0_1 t111 t112 _ ?side1 ?side2 A8.out).mono ?_); (case side1 => repeat (first | exact (Kd.C_below HR0_1.out HB.out) | (with_reducible refine Kd.C_alloc ?_ _) | (with_reducible refine Kd.C_drewN ?_ _) | (with_reducible refine Kd.C_drew ?_))); (case side2 => exact HC0_1.out); rintro e w14 ⟨rfl, hb⟩; refine ⟨_, rfl, ?_⟩; have n0_ := Aside0.mk (blk_below (g := gb110) (o := .cells #[.slice A0_0 l0_0.length c0_0, .slice A0_1 l0_1.length c0_1, .slice A0_2 l0_2.length c0_2] 60 (0, 0)) (by (with_reducible repeat (first | refine blk_drewN ?_ _ | refine blk_drew ?_ | refine blk_alloc ?_ _)); exact BK110.out) hb); have n1_ := Aside0.mk (below_step (by repeat (first | (with_reducible first | exact HB.out | apply below_alloc | apply pw_below_drewN | apply below_drew1 | refine below_set ?_ GE110.out) | exact HB.out)) hb); clear BK110; clear HB; have BK110 := n0_; have HB := n1_; clear n0_ n1_; (try clear hb); (try clear hb2); (try clear hk); (try clear hi)))
      go_ret
      exact ⟨by first | rfl | (simp [errW_none, errW_some] <;> rfl) | (simp [*, errW_none, errW_some] <;> rfl), by repeat (first | (with_reducible first | exact HB.out | apply below_alloc | apply pw_below_drewN | apply below_drew1 | refine below_set ?_ GE110.out) | exact HB.out)⟩
    · rw [if_neg c9] at H
      have c9b0 : decide (t112 < 0) = false := decide_eq_false c9
      clear c9
      replace H := Option.bind_eq_some_iff.mp H
      obtain ⟨t113, A150, H⟩ := H
      replace H : (if t113 < 0 then (some (-1)) else (some t113)) = some r := H
      have A15 := Aside0.mk A150
      clear A150
      by_cases c16 : t113 < 0
      · rw [if_pos c16] at H
        have c16b0 : decide (t113 < 0) = true := decide_eq_true c16
        clear c16
        obtain rfl := Option.some.inj H
        go_enter Try.func40, Try.ntmps40
        go_wp2_with (first | ((with_reducible refine gate_dst (N := 2) rfl ?_); refine box_event ?hg (N := 2) ?hd (cs := #[.slice A0_0 l0_0.length c0_0, .slice A0_1 l0_1.length c0_1, .slice A0_2 l0_2.length c0_2]) (t := 60) ?hr ?_; (case hd => rfl); (case hg => rfl); (case hr => first | (go_simp; done) | (go_simp; rfl)); intro gb110 hg w17 hbox hb; have n0_ := Aside0.mk (below_step (by repeat (first | (with_reducible first | exact HB.out | apply below_alloc | apply pw_below_drewN | apply below_drew1) | exact HB.out)) hb); have n1_ := Aside0.mk (hbox); have n2_ := Aside0.mk ((by rw [hg]; exact (below_size (by repeat (first | (with_reducible first | exact HB.out | apply below_alloc | apply pw_below_drewN | apply below_drew1) | exact HB.out))) : w.heap.size ≤ gb110)); have n3_ := Aside0.mk ((by rw [hg]; exact (below_size (by repeat (first | (with_reducible first | exact HB.out | apply below_alloc | apply pw_below_drewN | apply below_drew1) | exact HB.out))) : w.heap.size ≤ gb110)); clear HB; have HB := n0_; have BK110 := n1_; have GW110 := n2_; have GE110 := n3_; clear n0_ n1_ n2_ n3_; clear hb hbox hg; have hcz18_0 : w17.cell? ⟨gb110, 0, none⟩ = some (.slice A0_0 l0_0.length c0_0) := (blk_cell BK110.out 0).trans rfl; have hcz18_1 : w17.cell? ⟨gb110, 1, none⟩ = some (.slice A0_1 l0_1.length c0_1) := (blk_cell BK110.out 1).trans rfl; have hcz18_2 : w17.cell? ⟨gb110, 2, none⟩ = some (.slice A0_2 l0_2.length c0_2) := (blk_cell BK110.out 2).trans rfl; have hfz18_0 := blk_frozen BK110.out 0; have hfz18_1 := blk_frozen BK110.out 1; have hfz18_2 := blk_frozen BK110.out 2) | ((with_reducible refine gate_callee (f := 86) rfl ?_); refine goesL_ (some 8) rfl rfl Try.func86 (by kernel_rfl) rfl #[.slice A0_0 l0_0.length c0_0, .int .i64 a1] rfl (by (try simp only [List.map_toArray, List.map_cons, List.map_nil]); first | done | rfl | (simp only [List.length_drop, List.length_take]; rfl)) ?_; (with_reducible refine (laws_szVarS.calls k _ _ l0_0 a1 t111 _ ?side1 ?side2 A3.out).mono ?_); (case side1 => repeat (first | exact (Kd.C_below HR0_0.out HB.out) | (with_reducible refine Kd.C_alloc ?_ _) | (with_reducible refine Kd.C_drewN ?_ _) | (with_reducible refine Kd.C_drew ?_))); (case side2 => exact HC0_0.out); rintro e w19 ⟨rfl, hb⟩; refine ⟨_, rfl, ?_⟩; have n0_ := Aside0.mk (blk_below (g := gb110) (o := .cells #[.slice A0_0 l0_0.length c0_0, .slice A0_1 l0_1.length c0_1, .slice A0_2 l0_2.length c0_2] 60 (0, 0)) (by (with_reducible repeat (first | refine blk_drewN ?_ _ | refine blk_drew ?_ | refine blk_alloc ?_ _)); exact BK110.out) hb); have n1_ := Aside0.mk (below_step (by repeat (first | (with_reducible first | exact HB.out | apply below_alloc | apply pw_below_drewN | apply below_drew1 | refine below_set ?_ GE110.out) | exact HB.out)) hb); clear BK110; clear HB; have BK110 := n0_; have HB := n1_; clear n0_ n1_; (try clear hb); (try clear hb2); (try clear hk); (try clear hi); have hcz20_0 : w19.cell? ⟨gb110, 0, none⟩ = some (.slice A0_0 l0_0.length c0_0) := (blk_cell BK110.out 0).trans rfl; have hcz20_1 : w19.cell? ⟨gb110, 1, none⟩ = some (.slice A0_1 l0_1.length c0_1) := (blk_cell BK110.out 1).trans rfl; have hcz20_2 : w19.cell? ⟨gb110, 2, none⟩ = some (.slice A0_2 l0_2.length c0_2) := (blk_cell BK110.out 2).trans rfl; have hfz20_0 := blk_frozen BK110.out 0; have hfz20_1 := blk_frozen BK110.out 1; have hfz20_2 := blk_frozen BK110.out 2) | ((with_reducible refine gate_callee (f := 87) rfl ?_); refine goesL_ (some 14) rfl rfl Try.func87 (by kernel_rfl) rfl #[.slice A0_1 l0_1.length c0_1, .int .i64 t111] rfl (by (try simp only [List.map_toArray, List.map_cons, List.map_nil]); first | done | rfl | (simp only [List.length_drop, List.length_take]; rfl)) ?_; (with_reducible refine (laws_szNodeS.calls k _ _ l0_1 t111 t112 _ ?side1 ?side2 A8.out).mono ?_); (case side1 => repeat (first | exact (Kd.C_below HR0_1.out HB.out) | (with_reducible refine Kd.C_alloc ?_ _) | (with_reducible refine Kd.C_drewN ?_ _) | (with_reducible refine Kd.C_drew ?_))); (case side2 => exact HC0_1.out); rintro e w21 ⟨rfl, hb⟩; refine ⟨_, rfl, ?_⟩; have n0_ := Aside0.mk (blk_below (g := gb110) (o := .cells #[.slice A0_0 l0_0.length c0_0, .slice A0_1 l0_1.length c0_1, .slice A0_2 l0_2.length c0_2] 60 (0, 0)) (by (with_reducible repeat (first | refine blk_drewN ?_ _ | refine blk_drew ?_ | refine blk_alloc ?_ _)); exact BK110.out) hb); have n1_ := Aside0.mk (below_step (by repeat (first | (with_reducible first | exact HB.out | apply below_alloc | apply pw_below_drewN | apply below_drew1 | refine below_set ?_ GE110.out) | exact HB.out)) hb); clear BK110; clear HB; have BK110 := n0_; have HB := n1_; clear n0_ n1_; (try clear hb); (try clear hb2); (try clear hk); (try clear hi); have hcz22_0 : w21.cell? ⟨gb110, 0, none⟩ = some (.slice A0_0 l0_0.length c0_0) := (blk_cell BK110.out 0).trans rfl; have hcz22_1 : w21.cell? ⟨gb110, 1, none⟩ = some (.slice A0_1 l0_1.length c0_1) := (blk_cell BK110.out 1).trans rfl; have hcz22_2 : w21.cell? ⟨gb110, 2, none⟩ = some (.slice A0_2 l0_2.length c0_2) := (blk_cell BK110.out 2).trans rfl; have hfz22_0 := blk_frozen BK110.out 0; have hfz22_1 := blk_frozen BK110.out 1; have hfz22_2 := blk_frozen BK110.out 2) | ((with_reducible refine gate_callee (f := 75) rfl ?_); refine goesL_ (some 20) rfl rfl Try.func75 (by kernel_rfl) rfl #[.slice A0_2 l0_2.length c0_2, .int .i64 t112] rfl (by (try simp only [List.map_toArray, List.map_cons, List.map_nil]); first | done | rfl | (simp only [List.length_drop, List.length_take]; rfl)) ?_; (with_reducible refine (laws_szInt64S.calls _ _ l0_2 t112 t113 _ ?side1 ?side2 A15.out).mono ?_); (case side1 => repeat (first | exact (Kd.C_below HR0_2.out HB.out) | (with_reducible refine Kd.C_alloc ?_ _) | (with_reducible refine Kd.C_drewN ?_ _) | (with_reducible refine Kd.C_drew ?_))); (case side2 => exact HC0_2.out); rintro e w' ⟨rfl, ⟨nd, rfl⟩⟩; refine ⟨_, rfl, ?_⟩))
        go_ret
        exact ⟨by first | rfl | (simp [errW_none, errW_some] <;> rfl) | (simp [*, errW_none, errW_some] <;> rfl), by repeat (first | (with_reducible first | exact HB.out | apply below_alloc | apply pw_below_drewN | apply below_drew1 | refine below_set ?_ GE110.out) | exact HB.out)⟩
      · rw [if_neg c16] at H
        have c16b0 : decide (t113 < 0) = false := decide_eq_false c16
        clear c16
        obtain rfl := Option.some.inj H
        go_enter Try.func40, Try.ntmps40
        go_wp2_with (first | ((with_reducible refine gate_dst (N := 2) rfl ?_); refine box_event ?hg (N := 2) ?hd (cs := #[.slice A0_0 l0_0.length c0_0, .slice A0_1 l0_1.length c0_1, .slice A0_2 l0_2.length c0_2]) (t := 60) ?hr ?_; (case hd => rfl); (case hg => rfl); (case hr => first | (go_simp; done) | (go_simp; rfl)); intro gb110 hg w23 hbox hb; have n0_ := Aside0.mk (below_step (by repeat (first | (with_reducible first | exact HB.out | apply below_alloc | apply pw_below_drewN | apply below_drew1) | exact HB.out)) hb); have n1_ := Aside0.mk (hbox); have n2_ := Aside0.mk ((by rw [hg]; exact (below_size (by repeat (first | (with_reducible first | exact HB.out | apply below_alloc | apply pw_below_drewN | apply below_drew1) | exact HB.out))) : w.heap.size ≤ gb110)); have n3_ := Aside0.mk ((by rw [hg]; exact (below_size (by repeat (first | (with_reducible first | exact HB.out | apply below_alloc | apply pw_below_drewN | apply below_drew1) | exact HB.out))) : w.heap.size ≤ gb110)); clear HB; have HB := n0_; have BK110 := n1_; have GW110 := n2_; have GE110 := n3_; clear n0_ n1_ n2_ n3_; clear hb hbox hg; have hcz24_0 : w23.cell? ⟨gb110, 0, none⟩ = some (.slice A0_0 l0_0.length c0_0) := (blk_cell BK110.out 0).trans rfl; have hcz24_1 : w23.cell? ⟨gb110, 1, none⟩ = some (.slice A0_1 l0_1.length c0_1) := (blk_cell BK110.out 1).trans rfl; have hcz24_2 : w23.cell? ⟨gb110, 2, none⟩ = some (.slice A0_2 l0_2.length c0_2) := (blk_cell BK110.out 2).trans rfl; have hfz24_0 := blk_frozen BK110.out 0; have hfz24_1 := blk_frozen BK110.out 1; have hfz24_2 := blk_frozen BK110.out 2) | ((with_reducible refine gate_callee (f := 86) rfl ?_); refine goesL_ (some 8) rfl rfl Try.func86 (by kernel_rfl) rfl #[.slice A0_0 l0_0.length c0_0, .int .i64 a1] rfl (by (try simp only [List.map_toArray, List.map_cons, List.map_nil]); first | done | rfl | (simp only [List.length_drop, List.length_take]; rfl)) ?_; (with_reducible refine (laws_szVarS.calls k _ _ l0_0 a1 t111 _ ?side1 ?side2 A3.out).mono ?_); (case side1 => repeat (first | exact (Kd.C_below HR0_0.out HB.out) | (with_reducible refine Kd.C_alloc ?_ _) | (with_reducible refine Kd.C_drewN ?_ _) | (with_reducible refine Kd.C_drew ?_))); (case side2 => exact HC0_0.out); rintro e w25 ⟨rfl, hb⟩; refine ⟨_, rfl, ?_⟩; have n0_ := Aside0.mk (blk_below (g := gb110) (o := .cells #[.slice A0_0 l0_0.length c0_0, .slice A0_1 l0_1.length c0_1, .slice A0_2 l0_2.length c0_2] 60 (0, 0)) (by (with_reducible repeat (first | refine blk_drewN ?_ _ | refine blk_drew ?_ | refine blk_alloc ?_ _)); exact BK110.out) hb); have n1_ := Aside0.mk (below_step (by repeat (first | (with_reducible first | exact HB.out | apply below_alloc | apply pw_below_drewN | apply below_drew1 | refine below_set ?_ GE110.out) | exact HB.out)) hb); clear BK110; clear HB; have BK110 := n0_; have HB := n1_; clear n0_ n1_; (try clear hb); (try clear hb2); (try clear hk); (try clear hi); have hcz26_0 : w25.cell? ⟨gb110, 0, none⟩ = some (.slice A0_0 l0_0.length c0_0) := (blk_cell BK110.out 0).trans rfl; have hcz26_1 : w25.cell? ⟨gb110, 1, none⟩ = some (.slice A0_1 l0_1.length c0_1) := (blk_cell BK110.out 1).trans rfl; have hcz26_2 : w25.cell? ⟨gb110, 2, none⟩ = some (.slice A0_2 l0_2.length c0_2) := (blk_cell BK110.out 2).trans rfl; have hfz26_0 := blk_frozen BK110.out 0; have hfz26_1 := blk_frozen BK110.out 1; have hfz26_2 := blk_frozen BK110.out 2) | ((with_reducible refine gate_callee (f := 87) rfl ?_); refine goesL_ (some 14) rfl rfl Try.func87 (by kernel_rfl) rfl #[.slice A0_1 l0_1.length c0_1, .int .i64 t111] rfl (by (try simp only [List.map_toArray, List.map_cons, List.map_nil]); first | done | rfl | (simp only [List.length_drop, List.length_take]; rfl)) ?_; (with_reducible refine (laws_szNodeS.calls k _ _ l0_1 t111 t112 _ ?side1 ?side2 A8.out).mono ?_); (case side1 => repeat (first | exact (Kd.C_below HR0_1.out HB.out) | (with_reducible refine Kd.C_alloc ?_ _) | (with_reducible refine Kd.C_drewN ?_ _) | (with_reducible refine Kd.C_drew ?_))); (case side2 => exact HC0_1.out); rintro e w27 ⟨rfl, hb⟩; refine ⟨_, rfl, ?_⟩; have n0_ := Aside0.mk (blk_below (g := gb110) (o := .cells #[.slice A0_0 l0_0.length c0_0, .slice A0_1 l0_1.length c0_1, .slice A0_2 l0_2.length c0_2] 60 (0, 0)) (by (with_reducible repeat (first | refine blk_drewN ?_ _ | refine blk_drew ?_ | refine blk_alloc ?_ _)); exact BK110.out) hb); have n1_ := Aside0.mk (below_step (by repeat (first | (with_reducible first | exact HB.out | apply below_alloc | apply pw_below_drewN | apply below_drew1 | refine below_set ?_ GE110.out) | exact HB.out)) hb); clear BK110; clear HB; have BK110 := n0_; have HB := n1_; clear n0_ n1_; (try clear hb); (try clear hb2); (try clear hk); (try clear hi); have hcz28_0 : w27.cell? ⟨gb110, 0, none⟩ = some (.slice A0_0 l0_0.length c0_0) := (blk_cell BK110.out 0).trans rfl; have hcz28_1 : w27.cell? ⟨gb110, 1, none⟩ = some (.slice A0_1 l0_1.length c0_1) := (blk_cell BK110.out 1).trans rfl; have hcz28_2 : w27.cell? ⟨gb110, 2, none⟩ = some (.slice A0_2 l0_2.length c0_2) := (blk_cell BK110.out 2).trans rfl; have hfz28_0 := blk_frozen BK110.out 0; have hfz28_1 := blk_frozen BK110.out 1; have hfz28_2 := blk_frozen BK110.out 2) | ((with_reducible refine gate_callee (f := 75) rfl ?_); refine goesL_ (some 20) rfl rfl Try.func75 (by kernel_rfl) rfl #[.slice A0_2 l0_2.length c0_2, .int .i64 t112] rfl (by (try simp only [List.map_toArray, List.map_cons, List.map_nil]); first | done | rfl | (simp only [List.length_drop, List.length_take]; rfl)) ?_; (with_reducible refine (laws_szInt64S.calls _ _ l0_2 t112 t113 _ ?side1 ?side2 A15.out).mono ?_); (case side1 => repeat (first | exact (Kd.C_below HR0_2.out HB.out) | (with_reducible refine Kd.C_alloc ?_ _) | (with_reducible refine Kd.C_drewN ?_ _) | (with_reducible refine Kd.C_drew ?_))); (case side2 => exact HC0_2.out); rintro e w' ⟨rfl, ⟨nd, rfl⟩⟩; refine ⟨_, rfl, ?_⟩))
        go_ret
        exact ⟨by first | rfl | (simp [errW_none, errW_some] <;> rfl) | (simp [*, errW_none, errW_some] <;> rfl), by repeat (first | (with_reducible first | exact HB.out | apply below_alloc | apply pw_below_drewN | apply below_drew1 | refine below_set ?_ GE110.out) | exact HB.out)⟩

/-! ### laws_toInt64S: function 18 -/
def laws_toInt64S.l0 : Nat → List Int → List Int → Int → Option (List Int)
  | 0, _, _, _ => none
  | k + 1, x0, x3, x4 => if x4 < (x0.length : Int) then (if 0 ≤ x4 then (if x4 < (x3.length : Int) then (laws_toInt64S.l0 k x0 (x3.set (x4 : Int).toNat (rd x0 x4)) (wrap64 (x4 + 1))) else (none)) else (none)) else (some x3)
def laws_toInt64S.f (k : Nat) (l0 : List Int) : Option (List Int) := if 0 ≤ (l0.length : Int) then (if ((l0.length : Int) : Int).toNat ≤ 35184372088832 then (laws_toInt64S.l0 k l0 (List.replicate ((l0.length : Int) : Int).toNat 0) 0) else (none)) else (none)
theorem laws_toInt64S.mono_l : ∀ k, (∀ y0 y1 y2, LeO (laws_toInt64S.l0 k y0 y1 y2) (laws_toInt64S.l0 (k + 1) y0 y1 y2))
  | 0 => fun _ _ _ r h => by simp [laws_toInt64S.l0] at h
  | k + 1 => by
    have ih0 := laws_toInt64S.mono_l k
    · intro y0 y1 y2
      unfold laws_toInt64S.l0
      repeat' first
      | (with_reducible exact ih0 _ _ _)
      | (with_reducible exact LeO.refl _)
      | (with_reducible exact LeO.none _)
      | (with_reducible refine LeO.ite ?_ ?_)
      | (with_reducible refine LeO.bind ?_ (fun _ => ?_))
      | exact ih0 _ _ _
      | exact LeO.none _
      | refine LeO.ite ?_ ?_
      | refine LeO.bind ?_ (fun _ => ?_)
theorem laws_toInt64S.mono : ∀ a0 k, LeO (laws_toInt64S.f k a0) (laws_toInt64S.f (k + 1) a0) := by
  intro a0 k
  have ih0 := laws_toInt64S.mono_l k
  unfold laws_toInt64S.f
  repeat' first
      | (with_reducible exact ih0 _ _ _)
      | (with_reducible exact LeO.refl _)
      | (with_reducible exact LeO.none _)
      | (with_reducible refine LeO.ite ?_ ?_)
      | (with_reducible refine LeO.bind ?_ (fun _ => ?_))
      | exact ih0 _ _ _
      | exact LeO.none _
      | refine LeO.ite ?_ ?_
      | refine LeO.bind ?_ (fun _ => ?_)
set_option maxHeartbeats 8000000 in
set_option maxRecDepth 100000 in
theorem laws_toInt64S.calls (k : Nat) (A0 : Option Addr) (c0 : Nat) (l0 : List Int) (r : List Int) (w : World) (hr0 : Kd.C (Kd.int .i64) w A0 l0.length l0) (hc0 : l0.length ≤ c0) (h : laws_toInt64S.f k l0 = some r) :
    Calls Try.prog 18 #[.slice A0 l0.length c0] w fun e w' => ∃ v0_ : Value, e = .returned (v0_) ∧ Kd.R (Kd.int .i64) 2 w' w.heap.size (fun _ => True) v0_ r ∧ Below w.heap.size w w' := by
  have HR0 := Aside0.mk hr0
  have HC0 := Aside0.mk hc0
  clear hr0 hc0
  have HB := Aside0.mk (Below.refl w.heap.size w)
  have H : (if 0 ≤ (l0.length : Int) then (if ((l0.length : Int) : Int).toNat ≤ 35184372088832 then (laws_toInt64S.l0 k l0 (List.replicate ((l0.length : Int) : Int).toNat 0) 0) else (none)) else (none)) = some r := h
  clear h
  by_cases c2 : 0 ≤ (l0.length : Int)
  · rw [if_pos c2] at H
    have c2b0 := eq_true c2
    have c2b1 : decide (0 ≤ (l0.length : Int)) = true := decide_eq_true c2
    clear c2
    by_cases c3 : ((l0.length : Int) : Int).toNat ≤ 35184372088832
    · rw [if_pos c3] at H
      have c3b0 := eq_true c3
      have c3b1 : decide (((l0.length : Int) : Int).toNat ≤ 35184372088832) = true := decide_eq_true c3
      clear c3
      obtain ⟨y114, hy114⟩ : ∃ y_ : List Int, y_ = (List.replicate ((l0.length : Int) : Int).toNat 0) := ⟨_, rfl⟩
      replace H : (laws_toInt64S.l0 k l0 y114 0) = some r := by first | (rw [hy114]; with_reducible exact H) | (have H2_ := (Option.bind_some _ _).symm.trans H; rw [hy114]; with_reducible exact H2_) | (have H2_ := (Option.bind_some _ _).symm.trans H; with_reducible exact H2_) | with_reducible exact H | (rw [hy114]; exact H) | exact H
      have Ny114 := Aside0.mk hy114
      clear hy114
      have H' := Aside0.mk H
      clear H
      go_enter Try.func18, Try.ntmps18
      go_wp2_with (first | ((with_reducible refine gate_dst (N := 7) rfl ?_); refine Kd.R_make (Kd.int .i64) _ 2 rfl (N := 7) rfl 24 _ _ rfl (l0.length : Int) rfl rfl Try.underlying24 (.int .i64 0) 8 info2 rfl (by decide) (by omega) 0 (ok := fun _ => True) (okp := fun _ => True) rfl (fun _ hk => hk) trivial (of_decide_eq_true (by first | (with_reducible assumption) | assumption)) (Nat.le_trans (Nat.mul_le_mul_right _ (of_decide_eq_true (by first | (with_reducible assumption) | assumption) : (l0.length : Int).toNat ≤ 35184372088832)) (by omega)) (Below.refl _ _) (Nat.le_refl _) ?_; intro v115 w4 ho5 hb hg_ hnew_; clear hg_ hnew_; (first | rw [← Ny114.out] at ho5 | (simp only [Int.reduceToNat] at ho5; rw [← Ny114.out] at ho5)); have n0_ := Aside0.mk (Kd.R_lower ho5 (below_size (by repeat (first | (with_reducible first | exact HB.out | apply below_alloc | apply pw_below_drewN | apply below_drew1) | exact HB.out)))); have n1_ := Aside0.mk (below_step (by repeat (first | (with_reducible first | exact HB.out | apply below_alloc | apply pw_below_drewN | apply below_drew1) | exact HB.out)) hb); clear HB; have HO116 := n0_; have HB := n1_; clear n0_ n1_; clear hb ho5))
      go_loopg [4] k (fun kq v4 w' => ∃ (x3_1 : List Int) (x4_1 : Int), v4 = .int .i64 x4_1 ∧ Aside0 (laws_toInt64S.l0 kq l0 x3_1 x4_1 = some r) ∧ Aside0 (kq ≤ k) ∧ Aside0 (Kd.R (Kd.int .i64) 2 w' w.heap.size (fun _ => True) v115 x3_1) ∧ Aside0 (Below w.heap.size w w'))
      case atStart => exact ⟨(y114), (0), (by first | rfl | (simp; done) | (simp [*]; done)), H', ⟨Nat.le_refl _⟩, ⟨by (with_reducible repeat (first | apply Kd.R_alloc | apply Kd.R_drewN | apply Kd.R_drew)); exact HO116.out⟩, ⟨by repeat (first | (with_reducible first | exact HB.out | apply below_alloc | apply pw_below_drewN | apply below_drew1) | exact HB.out)⟩⟩
      case round =>
        clear H'
        try clear c1
        try clear c2
        try clear c2b0
        try clear c2b1
        try clear p2
        try clear c3
        try clear c3b0
        try clear c3b1
        obtain ⟨x3_1, x4_1, rfl, HA, HK1, HO_3, HB⟩ := hrel
        cases gk with
        | zero => exact absurd HA.out (by simp [laws_toInt64S.l0])
        | succ k1 =>
          have H := HA.out
          clear HA
          simp only [laws_toInt64S.l0] at H
          by_cases c6 : x4_1 < (l0.length : Int)
          · rw [if_pos c6] at H
            have c6b0 : decide (x4_1 < (l0.length : Int)) = true := decide_eq_true c6
            clear c6
            by_cases c7 : 0 ≤ x4_1
            · rw [if_pos c7] at H
              have c7b0 : decide (0 ≤ x4_1) = true := decide_eq_true c7
              clear c7
              by_cases c8 : x4_1 < (x3_1.length : Int)
              · rw [if_pos c8] at H
                have c8b0 : decide (x4_1 < (x3_1.length : Int)) = true := decide_eq_true c8
                clear c8
                obtain ⟨y118, hy118⟩ : ∃ y_ : List Int, y_ = (x3_1.set (x4_1 : Int).toNat (rd l0 x4_1)) := ⟨_, rfl⟩
                replace H : (laws_toInt64S.l0 k1 l0 y118 (wrap64 (x4_1 + 1))) = some r := by first | (rw [hy118]; with_reducible exact H) | (have H2_ := (Option.bind_some _ _).symm.trans H; rw [hy118]; with_reducible exact H2_) | (have H2_ := (Option.bind_some _ _).symm.trans H; with_reducible exact H2_) | with_reducible exact H | (rw [hy118]; exact H) | exact H
                have Ny118 := Aside0.mk hy118
                clear hy118
                have H' := Aside0.mk H
                clear H
                have p117 : 0 ≤ (x4_1 : Int) := of_decide_eq_true (by first | (with_reducible assumption) | assumption)
                have q117 : x4_1 < (l0.length : Int) := of_decide_eq_true (by first | (with_reducible assumption) | assumption)
                obtain ⟨ad117, e117, hx117_0⟩ := Kd.at_int HR0.out x4_1 p117 q117
                cases e117
                replace hx117_0 := (HB.out.cell (World.block_lt_of_cell? w _ hx117_0)).trans hx117_0
                replace p117 := eq_true p117
                replace q117 := eq_true q117
                have p9 : 0 ≤ (x4_1 : Int) := of_decide_eq_true (by first | (with_reducible assumption) | assumption)
                have q9 : (x4_1 : Int) < ((x3_1.length : Int) : Int) := of_decide_eq_true (by first | (with_reducible assumption) | assumption)
                obtain ⟨go9, co9, eo9, gb9, gl9, cl9, HG9⟩ := Kd.R_form HO_3.out (by omega)
                (first | cases eo9 | (injection eo9 with ea_ en_ ec_; (first | subst ea_ | (injection ea_ with ea_; subst ea_)); subst ec_; clear en_))
                have GB9 := Aside0.mk gb9
                have GG9 := Aside0.mk HG9
                clear gb9 gl9 HG9
                obtain ⟨hx9_0, hf9_0⟩ := Kd.R_celln 0 HO_3.out (x4_1 : Int) p9 q9
                replace p9 := eq_true p9
                replace q9 := eq_true q9
                have HP10 := Kd.R_putg HO_3.out (x4_1 : Int) (rd l0 x4_1)
                go_wp2_with (first | ((with_reducible refine gate_store (t := 2) (p := 20) rfl ?_); refine store_event (t := 2) (p := 20) (v := ?vo_w11) (w1 := (wr.setCell ⟨go9, (x4_1 : Int).toNat, none⟩ (.int .i64 (rd l0 x4_1)))) ?hg ?ho ?hn ?hr ?_; (case ho => rfl); (case hg => rfl); (case hn => rfl); (case hr => first | (go_simp; done) | (go_simp; rfl)); intro w11 hw; have hg : wr.grownBy w11 (some go9) := (by rw [hw]; exact HP10.2); have hp_ : Kd.R (Kd.int .i64) 2 w11 w.heap.size (fun _ => True) (.slice (some ⟨go9, 0, none⟩) x3_1.length co9) y118 := (by rw [hw, Ny118.out]; exact HP10.1); clear HP10; have n0_ := Aside0.mk (hp_); have n1_ := Aside0.mk ((by rw [hw]; exact below_set (HB.out) GB9.out : Below w.heap.size w w11)); clear HO_3; clear HB; have HO_3 := n0_; have HB := n1_; clear n0_ n1_; clear hg hw hp_))
                go_roundg k1
                case measure => have := HK1.out; omega
                case rel => exact ⟨(y118), (wrap64 (x4_1 + 1)), (by first | rfl | (simp; done) | (simp [*]; done)), H', ⟨by have := HK1.out; omega⟩, ⟨by (with_reducible repeat (first | apply Kd.R_alloc | apply Kd.R_drewN | apply Kd.R_drew)); exact HO_3.out⟩, ⟨by repeat (first | (with_reducible first | exact HB.out | apply below_alloc | apply pw_below_drewN | apply below_drew1) | exact HB.out)⟩⟩
              · rw [if_neg c8] at H
                exact absurd H (by simp)
            · rw [if_neg c7] at H
              exact absurd H (by simp)
          · rw [if_neg c6] at H
            have c6b0 : decide (x4_1 < (l0.length : Int)) = false := decide_eq_false c6
            clear c6
            obtain rfl := Option.some.inj H
            go_wp2
            go_ret
            exact ⟨_, by first | rfl | (simp [errW_none, errW_some] <;> rfl) | (simp [*, errW_none, errW_some] <;> rfl), by (with_reducible repeat (first | apply Kd.R_alloc | apply Kd.R_drewN | apply Kd.R_drew)); exact HO_3.out, by repeat (first | (with_reducible first | exact HB.out | apply below_alloc | apply pw_below_drewN | apply below_drew1) | exact HB.out)⟩
    · rw [if_neg c3] at H
      exact absurd H (by simp)
  · rw [if_neg c2] at H
    exact absurd H (by simp)

/-! ### laws_toVar: function 135 -/
def laws_toVar.f (a0_0 : ByteArray) (a0_1 : Int) (a0_2 : Int) (a0_3 : Int) : Option (ByteArray × Int × Int × Int) := some (a0_0, a0_1, a0_2, a0_3)
set_option maxHeartbeats 8000000 in
set_option maxRecDepth 100000 in
theorem laws_toVar.calls (a0_0 : ByteArray) (a0_1 : Int) (a0_2 : Int) (a0_3 : Int) (r1 : ByteArray) (r2 : Int) (r3 : Int) (r4 : Int) (w : World) (h : laws_toVar.f a0_0 a0_1 a0_2 a0_3 = some (r1, r2, r3, r4)) :
    Calls Try.prog 135 #[.agg #[.string a0_0, .int .i64 a0_1, .int .i64 a0_2, .int .i64 a0_3]] w fun e w' => e = .returned (.agg #[.string r1, .int .i64 r2, .int .i64 r3, .int .i64 r4]) ∧ Below w.heap.size w w' := by
  have hu158 := Try.underlying158
  have hu125 := Try.underlying125
  have HB := Aside0.mk (Below.refl w.heap.size w)
  have H : (some (a0_0, a0_1, a0_2, a0_3)) = some (r1, r2, r3, r4) := h
  clear h
  simp only [Option.some.injEq, Prod.mk.injEq] at H
  obtain ⟨rfl, rfl, rfl, rfl⟩ := H
  go_enter Try.func135, Try.ntmps135
  go_wp2_with (first | ((with_reducible refine gate_dst (N := 1) rfl ?_); refine box_event ?hg (N := 1) ?hd (cs := #[.string a0_0, .int .i64 a0_1, .int .i64 a0_2, .int .i64 a0_3]) (t := 158) ?hr ?_; (case hd => rfl); (case hg => rfl); (case hr => first | (go_simp; done) | (go_simp; rfl)); intro gb119 hg w2 hbox hb; have n0_ := Aside0.mk (below_step (by repeat (first | (with_reducible first | exact HB.out | apply below_alloc | apply pw_below_drewN | apply below_drew1) | exact HB.out)) hb); have n1_ := Aside0.mk (hbox); have n2_ := Aside0.mk ((by rw [hg]; exact (below_size (by repeat (first | (with_reducible first | exact HB.out | apply below_alloc | apply pw_below_drewN | apply below_drew1) | exact HB.out))) : w.heap.size ≤ gb119)); have n3_ := Aside0.mk ((by rw [hg]; exact (below_size (by repeat (first | (with_reducible first | exact HB.out | apply below_alloc | apply pw_below_drewN | apply below_drew1) | exact HB.out))) : w.heap.size ≤ gb119)); clear HB; have HB := n0_; have BK119 := n1_; have GW119 := n2_; have GE119 := n3_; clear n0_ n1_ n2_ n3_; clear hb hbox hg) | ((with_reducible refine gate_dst (N := 2) rfl ?_); refine box_event ?hg (N := 2) ?hd (cs := #[.string (⟨#[]⟩ : ByteArray), .int .i64 0, .int .i64 0, .int .i64 0]) (t := 125) ?hr ?_; (case hd => rfl); (case hg => rfl); (case hr => first | (go_simp; done) | (go_simp; rfl)); intro gb120 hg w3 hbox hb; have n0_ := Aside0.mk (blk_below (g := gb119) (o := .cells #[.string a0_0, .int .i64 a0_1, .int .i64 a0_2, .int .i64 a0_3] 158 (0, 0)) (by (with_reducible repeat (first | refine blk_drewN ?_ _ | refine blk_drew ?_ | refine blk_alloc ?_ _)); exact BK119.out) hb); have n1_ := Aside0.mk (below_step (by repeat (first | (with_reducible first | exact HB.out | apply below_alloc | apply pw_below_drewN | apply below_drew1 | refine below_set ?_ GE119.out) | exact HB.out)) hb); have n2_ := Aside0.mk (hbox); have n3_ := Aside0.mk ((by rw [hg]; exact (below_size (by repeat (first | (with_reducible first | exact HB.out | apply below_alloc | apply pw_below_drewN | apply below_drew1 | refine below_set ?_ GE119.out) | exact HB.out))) : w.heap.size ≤ gb120)); have n4_ := Aside0.mk ((by rw [hg]; exact (below_size (by repeat (first | (with_reducible first | exact HB.out | apply below_alloc | apply pw_below_drewN | apply below_drew1 | refine below_set ?_ GE119.out) | exact HB.out))) : w.heap.size ≤ gb120)); have n5_ := Aside0.mk ((by rw [hg]; exact Nat.ne_of_lt (blk_lt (g := gb119) (o := .cells #[.string a0_0, .int .i64 a0_1, .int .i64 a0_2, .int .i64 a0_3] 158 (0, 0)) (by (with_reducible repeat (first | refine blk_drewN ?_ _ | refine blk_drew ?_ | refine blk_alloc ?_ _)); exact BK119.out)) : gb119 ≠ gb120)); have n6_ := Aside0.mk ((by rw [hg]; exact Nat.ne_of_gt (blk_lt (g := gb119) (o := .cells #[.string a0_0, .int .i64 a0_1, .int .i64 a0_2, .int .i64 a0_3] 158 (0, 0)) (by (with_reducible repeat (first | refine blk_drewN ?_ _ | refine blk_drew ?_ | refine blk_alloc ?_ _)); exact BK119.out)) : gb120 ≠ gb119)); clear BK119; clear HB; have BK119 := n0_; have HB := n1_; have BK120 := n2_; have GW120 := n3_; have GE120 := n4_; have NB119_120 := n5_; have NB120_119 := n6_; clear n0_ n1_ n2_ n3_ n4_ n5_ n6_; clear hb hbox hg) | ((with_reducible refine gate_dst (N := 3) rfl ?_); refine box_event ?hg (N := 3) ?hd (cs := #[.string (⟨#[]⟩ : ByteArray), .int .i64 0, .int .i64 0, .int .i64 0]) (t := 125) ?hr ?_; (case hd => rfl); (case hg => rfl); (case hr => first | (go_simp; done) | (go_simp; rfl)); intro gb121 hg w4 hbox hb; have n0_ := Aside0.mk (blk_below (g := gb119) (o := .cells #[.string a0_0, .int .i64 a0_1, .int .i64 a0_2, .int .i64 a0_3] 158 (0, 0)) (by (with_reducible repeat (first | refine blk_drewN ?_ _ | refine blk_drew ?_ | refine blk_alloc ?_ _)); exact BK119.out) hb); have n1_ := Aside0.mk (blk_below (g := gb120) (o := .cells #[.string (⟨#[]⟩ : ByteArray), .int .i64 0, .int .i64 0, .int .i64 0] 125 (0, 0)) (by (with_reducible repeat (first | refine blk_drewN ?_ _ | refine blk_drew ?_ | refine blk_alloc ?_ _)); exact BK120.out) hb); have n2_ := Aside0.mk (below_step (by repeat (first | (with_reducible first | exact HB.out | apply below_alloc | apply pw_below_drewN | apply below_drew1 | refine below_set ?_ GE119.out | refine below_set ?_ GE120.out) | exact HB.out)) hb); have n3_ := Aside0.mk (hbox); have n4_ := Aside0.mk ((by rw [hg]; exact (below_size (by repeat (first | (with_reducible first | exact HB.out | apply below_alloc | apply pw_below_drewN | apply below_drew1 | refine below_set ?_ GE119.out | refine below_set ?_ GE120.out) | exact HB.out))) : w.heap.size ≤ gb121)); have n5_ := Aside0.mk ((by rw [hg]; exact (below_size (by repeat (first | (with_reducible first | exact HB.out | apply below_alloc | apply pw_below_drewN | apply below_drew1 | refine below_set ?_ GE119.out | refine below_set ?_ GE120.out) | exact HB.out))) : w.heap.size ≤ gb121)); have n6_ := Aside0.mk ((by rw [hg]; exact Nat.ne_of_lt (blk_lt (g := gb119) (o := .cells #[.string a0_0, .int .i64 a0_1, .int .i64 a0_2, .int .i64 a0_3] 158 (0, 0)) (by (with_reducible repeat (first | refine blk_drewN ?_ _ | refine blk_drew ?_ | refine blk_alloc ?_ _)); exact BK119.out)) : gb119 ≠ gb121)); have n7_ := Aside0.mk ((by rw [hg]; exact Nat.ne_of_gt (blk_lt (g := gb119) (o := .cells #[.string a0_0, .int .i64 a0_1, .int .i64 a0_2, .int .i64 a0_3] 158 (0, 0)) (by (with_reducible repeat (first | refine blk_drewN ?_ _ | refine blk_drew ?_ | refine blk_alloc ?_ _)); exact BK119.out)) : gb121 ≠ gb119)); have n8_ := Aside0.mk ((by rw [hg]; exact Nat.ne_of_lt (blk_lt (g := gb120) (o := .cells #[.string (⟨#[]⟩ : ByteArray), .int .i64 0, .int .i64 0, .int .i64 0] 125 (0, 0)) (by (with_reducible repeat (first | refine blk_drewN ?_ _ | refine blk_drew ?_ | refine blk_alloc ?_ _)); exact BK120.out)) : gb120 ≠ gb121)); have n9_ := Aside0.mk ((by rw [hg]; exact Nat.ne_of_gt (blk_lt (g := gb120) (o := .cells #[.string (⟨#[]⟩ : ByteArray), .int .i64 0, .int .i64 0, .int .i64 0] 125 (0, 0)) (by (with_reducible repeat (first | refine blk_drewN ?_ _ | refine blk_drew ?_ | refine blk_alloc ?_ _)); exact BK120.out)) : gb121 ≠ gb120)); clear BK119; clear BK120; clear HB; have BK119 := n0_; have BK120 := n1_; have HB := n2_; have BK121 := n3_; have GW121 := n4_; have GE121 := n5_; have NB119_121 := n6_; have NB121_119 := n7_; have NB120_121 := n8_; have NB121_120 := n9_; clear n0_ n1_ n2_ n3_ n4_ n5_ n6_ n7_ n8_ n9_; clear hb hbox hg; have hnb5 := NB119_120.out; have hnc5 := NB120_119.out; have hnb6 := NB119_121.out; have hnc6 := NB121_119.out; have hcz7_0 : w4.cell? ⟨gb119, 0, none⟩ = some (.string a0_0) := (blk_cell BK119.out 0).trans rfl; have hcz7_1 : w4.cell? ⟨gb119, 1, none⟩ = some (.int .i64 a0_1) := (blk_cell BK119.out 1).trans rfl; have hcz7_2 : w4.cell? ⟨gb119, 2, none⟩ = some (.int .i64 a0_2) := (blk_cell BK119.out 2).trans rfl; have hcz7_3 : w4.cell? ⟨gb119, 3, none⟩ = some (.int .i64 a0_3) := (blk_cell BK119.out 3).trans rfl; have hfz7_0 := blk_frozen BK119.out 0; have hfz7_1 := blk_frozen BK119.out 1; have hfz7_2 := blk_frozen BK119.out 2; have hfz7_3 := blk_frozen BK119.out 3; have hnb8 := NB121_120.out; have hnc8 := NB120_121.out; have hcz9_0 : w4.cell? ⟨gb121, 0, none⟩ = some (.string (⟨#[]⟩ : ByteArray)) := (blk_cell BK121.out 0).trans rfl; have hcz9_1 : w4.cell? ⟨gb121, 1, none⟩ = some (.int .i64 0) := (blk_cell BK121.out 1).trans rfl; have hcz9_2 : w4.cell? ⟨gb121, 2, none⟩ = some (.int .i64 0) := (blk_cell BK121.out 2).trans rfl; have hcz9_3 : w4.cell? ⟨gb121, 3, none⟩ = some (.int .i64 0) := (blk_cell BK121.out 3).trans rfl; have hfz9_0 := blk_frozen BK121.out 0; have hfz9_1 := blk_frozen BK121.out 1; have hfz9_2 := blk_frozen BK121.out 2; have hfz9_3 := blk_frozen BK121.out 3; have hcz10_0 : w4.cell? ⟨gb120, 0, none⟩ = some (.string (⟨#[]⟩ : ByteArray)) := (blk_cell BK120.out 0).trans rfl; have hcz10_1 : w4.cell? ⟨gb120, 1, none⟩ = some (.int .i64 0) := (blk_cell BK120.out 1).trans rfl; have hcz10_2 : w4.cell? ⟨gb120, 2, none⟩ = some (.int .i64 0) := (blk_cell BK120.out 2).trans rfl; have hcz10_3 : w4.cell? ⟨gb120, 3, none⟩ = some (.int .i64 0) := (blk_cell BK120.out 3).trans rfl; have hfz10_0 := blk_frozen BK120.out 0; have hfz10_1 := blk_frozen BK120.out 1; have hfz10_2 := blk_frozen BK120.out 2; have hfz10_3 := blk_frozen BK120.out 3))
  refine bodyPost_ret (results_cell_row rfl _ _ gb120 125 #[.string a0_0, .int .i64 a0_1, .int .i64 a0_2, .int .i64 a0_3] (0, 0) _ rfl (by (with_reducible repeat (first | refine blk_drewN ?_ _ | refine blk_drew ?_ | refine blk_alloc ?_ _)); refine blk_put (cs := #[.string a0_0, .int .i64 a0_1, .int .i64 a0_2, .int .i64 0]) ?_ 3 _ rfl; (with_reducible repeat (first | refine blk_drewN ?_ _ | refine blk_drew ?_ | refine blk_alloc ?_ _)); refine blk_put (cs := #[.string a0_0, .int .i64 a0_1, .int .i64 0, .int .i64 0]) ?_ 2 _ rfl; (with_reducible repeat (first | refine blk_drewN ?_ _ | refine blk_drew ?_ | refine blk_alloc ?_ _)); refine blk_put (cs := #[.string a0_0, .int .i64 0, .int .i64 0, .int .i64 0]) ?_ 1 _ rfl; (with_reducible repeat (first | refine blk_drewN ?_ _ | refine blk_drew ?_ | refine blk_alloc ?_ _)); refine blk_put (cs := #[.string (⟨#[]⟩ : ByteArray), .int .i64 0, .int .i64 0, .int .i64 0]) ?_ 0 _ rfl; (with_reducible repeat (first | refine blk_drewN ?_ _ | refine blk_drew ?_ | refine blk_alloc ?_ _)); refine blk_far ?_ NB120_121.out _; (with_reducible repeat (first | refine blk_drewN ?_ _ | refine blk_drew ?_ | refine blk_alloc ?_ _)); refine blk_far ?_ NB120_121.out _; (with_reducible repeat (first | refine blk_drewN ?_ _ | refine blk_drew ?_ | refine blk_alloc ?_ _)); refine blk_far ?_ NB120_121.out _; (with_reducible repeat (first | refine blk_drewN ?_ _ | refine blk_drew ?_ | refine blk_alloc ?_ _)); refine blk_far ?_ NB120_121.out _; (with_reducible repeat (first | refine blk_drewN ?_ _ | refine blk_drew ?_ | refine blk_alloc ?_ _)); exact BK120.out) Try.underlying125 rfl (by kernel_rfl)) rfl ?_
  exact ⟨by first | rfl | (simp [errW_none, errW_some] <;> rfl) | (simp [*, errW_none, errW_some] <;> rfl), by repeat (first | (with_reducible first | exact HB.out | apply below_alloc | apply pw_below_drewN | apply below_drew1 | refine below_set ?_ GE119.out | refine below_set ?_ GE120.out | refine below_set ?_ GE121.out) | exact HB.out)⟩

/-! ### laws_toVarS: function 90 -/
def laws_toVarS.l0 : Nat → List (S158) → List (S125) → Int → Option ((List (S125)))
  | 0, _, _, _ => none
  | k + 1, x0, x3, x4 => if x4 < (x0.length : Int) then (if 0 ≤ x4 then ((laws_toVar.f ((rd_T158 x0 x4).f0) ((rd_T158 x0 x4).f1) ((rd_T158 x0 x4).f2) ((rd_T158 x0 x4).f3)).bind fun bt126 => (if x4 < (x3.length : Int) then (laws_toVarS.l0 k x0 (x3.set (x4 : Int).toNat (⟨bt126.1, bt126.2.1, bt126.2.2.1, bt126.2.2.2⟩ : S125)) (wrap64 (x4 + 1))) else (none))) else (none)) else (some x3)
def laws_toVarS.f (k : Nat) (l0 : List (S158)) : Option ((List (S125))) := if 0 ≤ (l0.length : Int) then (if ((l0.length : Int) : Int).toNat ≤ 7036874417766 then (laws_toVarS.l0 k l0 (List.replicate ((l0.length : Int) : Int).toNat z125) 0) else (none)) else (none)
theorem laws_toVarS.mono_l : ∀ k, (∀ y0 y1 y2, LeO (laws_toVarS.l0 k y0 y1 y2) (laws_toVarS.l0 (k + 1) y0 y1 y2))
  | 0 => fun _ _ _ r h => by simp [laws_toVarS.l0] at h
  | k + 1 => by
    have ih0 := laws_toVarS.mono_l k
    · intro y0 y1 y2
      unfold laws_toVarS.l0
      repeat' first
      | (with_reducible exact ih0 _ _ _)
      | (with_reducible exact LeO.refl _)
      | (with_reducible exact LeO.none _)
      | (with_reducible refine LeO.ite ?_ ?_)
      | (with_reducible refine LeO.bind ?_ (fun _ => ?_))
      | exact ih0 _ _ _
      | exact LeO.none _
      | refine LeO.ite ?_ ?_
      | refine LeO.bind ?_ (fun _ => ?_)
theorem laws_toVarS.mono : ∀ a0 k, LeO (laws_toVarS.f k a0) (laws_toVarS.f (k + 1) a0) := by
  intro a0 k
  have ih0 := laws_toVarS.mono_l k
  unfold laws_toVarS.f
  repeat' first
      | (with_reducible exact ih0 _ _ _)
      | (with_reducible exact LeO.refl _)
      | (with_reducible exact LeO.none _)
      | (with_reducible refine LeO.ite ?_ ?_)
      | (with_reducible refine LeO.bind ?_ (fun _ => ?_))
      | exact ih0 _ _ _
      | exact LeO.none _
      | refine LeO.ite ?_ ?_
      | refine LeO.bind ?_ (fun _ => ?_)
set_option maxHeartbeats 8000000 in
set_option maxRecDepth 100000 in
theorem laws_toVarS.calls (k : Nat) (A0 : Option Addr) (c0 : Nat) (l0 : List (S158)) (r : List (S125)) (w : World) (hr0 : Kd.C k158 w A0 l0.length l0) (hc0 : l0.length ≤ c0) (h : laws_toVarS.f k l0 = some r) :
    Calls Try.prog 90 #[.slice A0 l0.length c0] w fun e w' => ∃ v0_ : Value, e = .returned (v0_) ∧ Kd.R k125 125 w' w.heap.size (fun _ => True) v0_ r ∧ Below w.heap.size w w' := by
  have hu158 := Try.underlying158
  have hu125 := Try.underlying125
  have HR0 := Aside0.mk hr0
  have HC0 := Aside0.mk hc0
  clear hr0 hc0
  have HB := Aside0.mk (Below.refl w.heap.size w)
  have H : (if 0 ≤ (l0.length : Int) then (if ((l0.length : Int) : Int).toNat ≤ 7036874417766 then (laws_toVarS.l0 k l0 (List.replicate ((l0.length : Int) : Int).toNat z125) 0) else (none)) else (none)) = some r := h
  clear h
  by_cases c2 : 0 ≤ (l0.length : Int)
  · rw [if_pos c2] at H
    have c2b0 := eq_true c2
    have c2b1 : decide (0 ≤ (l0.length : Int)) = true := decide_eq_true c2
    clear c2
    by_cases c3 : ((l0.length : Int) : Int).toNat ≤ 7036874417766
    · rw [if_pos c3] at H
      have c3b0 := eq_true c3
      have c3b1 : decide (((l0.length : Int) : Int).toNat ≤ 7036874417766) = true := decide_eq_true c3
      clear c3
      obtain ⟨y122, hy122⟩ : ∃ y_ : List (S125), y_ = (List.replicate ((l0.length : Int) : Int).toNat z125) := ⟨_, rfl⟩
      replace H : (laws_toVarS.l0 k l0 y122 0) = some r := by first | (rw [hy122]; with_reducible exact H) | (have H2_ := (Option.bind_some _ _).symm.trans H; rw [hy122]; with_reducible exact H2_) | (have H2_ := (Option.bind_some _ _).symm.trans H; with_reducible exact H2_) | with_reducible exact H | (rw [hy122]; exact H) | exact H
      have Ny122 := Aside0.mk hy122
      clear hy122
      have H' := Aside0.mk H
      clear H
      go_enter Try.func90, Try.ntmps90
      go_wp2_with (first | ((with_reducible refine gate_dst (N := 7) rfl ?_); refine Kd.R_make k125 _ 125 rfl (N := 7) rfl 65 _ _ rfl (l0.length : Int) rfl rfl Try.underlying65 (.agg #[(.string ⟨#[]⟩), (.int .i64 0), (.int .i64 0), (.int .i64 0)]) 40 info125 rfl (by decide) (by omega) z125 (ok := fun _ => True) (okp := fun _ => True) (k125_mkM _ _ _ z125 ) (fun _ hk => hk) trivial (of_decide_eq_true (by first | (with_reducible assumption) | assumption)) (Nat.le_trans (Nat.mul_le_mul_right _ (of_decide_eq_true (by first | (with_reducible assumption) | assumption) : (l0.length : Int).toNat ≤ 7036874417766)) (by omega)) (Below.refl _ _) (Nat.le_refl _) ?_; intro v123 w4 ho5 hb hg_ hnew_; clear hg_ hnew_; (first | rw [← Ny122.out] at ho5 | (simp only [Int.reduceToNat] at ho5; rw [← Ny122.out] at ho5)); have n0_ := Aside0.mk (Kd.R_lower ho5 (below_size (by repeat (first | (with_reducible first | exact HB.out | apply below_alloc | apply pw_below_drewN | apply below_drew1) | exact HB.out)))); have n1_ := Aside0.mk (below_step (by repeat (first | (with_reducible first | exact HB.out | apply below_alloc | apply pw_below_drewN | apply below_drew1) | exact HB.out)) hb); clear HB; have HO124 := n0_; have HB := n1_; clear n0_ n1_; clear hb ho5))
      go_loopg [4] k (fun kq v4 w' => ∃ (x3_1 : List (S125)) (x4_1 : Int), v4 = .int .i64 x4_1 ∧ Aside0 (laws_toVarS.l0 kq l0 x3_1 x4_1 = some r) ∧ Aside0 (kq ≤ k) ∧ Aside0 (Kd.R k125 125 w' w.heap.size (fun _ => True) v123 x3_1) ∧ Aside0 (Below w.heap.size w w'))
      case atStart => exact ⟨(y122), (0), (by first | rfl | (simp; done) | (simp [*]; done)), H', ⟨Nat.le_refl _⟩, ⟨by (with_reducible repeat (first | apply Kd.R_alloc | apply Kd.R_drewN | apply Kd.R_drew)); exact HO124.out⟩, ⟨by repeat (first | (with_reducible first | exact HB.out | apply below_alloc | apply pw_below_drewN | apply below_drew1) | exact HB.out)⟩⟩
      case round =>
        clear H'
        try clear c2
        try clear c2b0
        try clear c2b1
        try clear p2
        try clear c3
        try clear c3b0
        try clear c3b1
        obtain ⟨x3_1, x4_1, rfl, HA, HK1, HO_3, HB⟩ := hrel
        cases gk with
        | zero => exact absurd HA.out (by simp [laws_toVarS.l0])
        | succ k1 =>
          have H := HA.out
          clear HA
          simp only [laws_toVarS.l0] at H
          by_cases c6 : x4_1 < (l0.length : Int)
          · rw [if_pos c6] at H
            have c6b0 : decide (x4_1 < (l0.length : Int)) = true := decide_eq_true c6
            clear c6
            by_cases c7 : 0 ≤ x4_1
            · rw [if_pos c7] at H
              have c7b0 : decide (0 ≤ x4_1) = true := decide_eq_true c7
              clear c7
              replace H := Option.bind_eq_some_iff.mp H
              obtain ⟨⟨t126, t127, t128, t129⟩, A80, H⟩ := H
              replace H : (if x4_1 < (x3_1.length : Int) then (laws_toVarS.l0 k1 l0 (x3_1.set (x4_1 : Int).toNat (⟨t126, t127, t128, t129⟩ : S125)) (wrap64 (x4_1 + 1))) else (none)) = some r := H
              have A8 := Aside0.mk A80
              clear A80
              by_cases c9 : x4_1 < (x3_1.length : Int)
              · rw [if_pos c9] at H
                have c9b0 : decide (x4_1 < (x3_1.length : Int)) = true := decide_eq_true c9
                clear c9
                obtain ⟨y130, hy130⟩ : ∃ y_ : List (S125), y_ = (x3_1.set (x4_1 : Int).toNat (⟨t126, t127, t128, t129⟩ : S125)) := ⟨_, rfl⟩
                replace H : (laws_toVarS.l0 k1 l0 y130 (wrap64 (x4_1 + 1))) = some r := by first | (rw [hy130]; with_reducible exact H) | (have H2_ := (Option.bind_some _ _).symm.trans H; rw [hy130]; with_reducible exact H2_) | (have H2_ := (Option.bind_some _ _).symm.trans H; with_reducible exact H2_) | with_reducible exact H | (rw [hy130]; exact H) | exact H
                have Ny130 := Aside0.mk hy130
                clear hy130
                have H' := Aside0.mk H
                clear H
                have p125 : 0 ≤ (x4_1 : Int) := of_decide_eq_true (by first | (with_reducible assumption) | assumption)
                have q125 : x4_1 < (l0.length : Int) := of_decide_eq_true (by first | (with_reducible assumption) | assumption)
                obtain ⟨ad125, e125, hx125_0, hx125_1, hx125_2, hx125_3⟩ := at_T158 HR0.out x4_1 p125 q125
                cases e125
                replace hx125_0 := (HB.out.cell (World.block_lt_of_cell? w _ hx125_0)).trans hx125_0
                replace hx125_1 := (HB.out.cell (World.block_lt_of_cell? w _ hx125_1)).trans hx125_1
                replace hx125_2 := (HB.out.cell (World.block_lt_of_cell? w _ hx125_2)).trans hx125_2
                replace hx125_3 := (HB.out.cell (World.block_lt_of_cell? w _ hx125_3)).trans hx125_3
                replace p125 := eq_true p125
                replace q125 := eq_true q125
                go_wp2_with (first | ((with_reducible refine gate_callee (f := 135) rfl ?_); refine goesL_ (some 20) rfl rfl Try.func135 (by kernel_rfl) rfl #[.agg #[.string ((rd_T158 l0 x4_1).f0), .int .i64 ((rd_T158 l0 x4_1).f1), .int .i64 ((rd_T158 l0 x4_1).f2), .int .i64 ((rd_T158 l0 x4_1).f3)]] rfl (by (try simp only [List.map_toArray, List.map_cons, List.map_nil]); first | done | rfl | (simp only [List.length_drop, List.length_take]; rfl)) ?_; (with_reducible refine (laws_toVar.calls ((rd_T158 l0 x4_1).f0) ((rd_T158 l0 x4_1).f1) ((rd_T158 l0 x4_1).f2) ((rd_T158 l0 x4_1).f3) t126 t127 t128 t129 _ A8.out).mono ?_); rintro e w11 ⟨rfl, hb⟩; refine ⟨_, rfl, ?_⟩; have n0_ := Aside0.mk (Kd.R_below (by (with_reducible repeat (first | apply Kd.R_alloc | apply Kd.R_drewN | apply Kd.R_drew)); exact HO_3.out) hb); have n1_ := Aside0.mk (below_step (by repeat (first | (with_reducible first | exact HB.out | apply below_alloc | apply pw_below_drewN | apply below_drew1) | exact HB.out)) hb); clear HO_3; clear HB; have HO_3 := n0_; have HB := n1_; clear n0_ n1_; (try clear hb); (try clear hb2); (try clear hk); (try clear hi); have p10 : 0 ≤ (x4_1 : Int) := of_decide_eq_true (by first | (with_reducible assumption) | assumption); have q10 : (x4_1 : Int) < ((x3_1.length : Int) : Int) := of_decide_eq_true (by first | (with_reducible assumption) | assumption); obtain ⟨go10, co10, eo10, gb10, gl10, cl10, HG10⟩ := Kd.R_form HO_3.out (by omega); (first | cases eo10 | (injection eo10 with ea_ en_ ec_; (first | subst ea_ | (injection ea_ with ea_; subst ea_)); subst ec_; clear en_)); have GB10 := Aside0.mk gb10; have GG10 := Aside0.mk HG10; clear gb10 gl10 HG10; obtain ⟨ce10, hcl10, hM10, hcc10, hfr10⟩ := Kd.R_elem HO_3.out z125 (x4_1 : Int) p10 q10; obtain rfl := k125_openM hM10; have hx10_0 : w11.cell? ⟨go10, (x4_1 : Int).toNat * 4, none⟩ = some (.string ((rd_T125 x3_1 x4_1).f0)) := hcc10 0 _ rfl; have hx10_1 : w11.cell? ⟨go10, (x4_1 : Int).toNat * 4 + 1, none⟩ = some (.int .i64 ((rd_T125 x3_1 x4_1).f1)) := hcc10 1 _ rfl; have hx10_2 : w11.cell? ⟨go10, (x4_1 : Int).toNat * 4 + 2, none⟩ = some (.int .i64 ((rd_T125 x3_1 x4_1).f2)) := hcc10 2 _ rfl; have hx10_3 : w11.cell? ⟨go10, (x4_1 : Int).toNat * 4 + 3, none⟩ = some (.int .i64 ((rd_T125 x3_1 x4_1).f3)) := hcc10 3 _ rfl; have hf10_0 : w11.frozen? ⟨go10, (x4_1 : Int).toNat * 4, none⟩ = false := hfr10 0; have hf10_1 : w11.frozen? ⟨go10, (x4_1 : Int).toNat * 4 + 1, none⟩ = false := hfr10 1; have hf10_2 : w11.frozen? ⟨go10, (x4_1 : Int).toNat * 4 + 2, none⟩ = false := hfr10 2; have hf10_3 : w11.frozen? ⟨go10, (x4_1 : Int).toNat * 4 + 3, none⟩ = false := hfr10 3; clear hcl10 hcc10 hfr10 hM10; replace p10 := eq_true p10; replace q10 := eq_true q10; have HX12 := Aside0.mk (show Kd.R k125 125 w11 w.heap.size (fun _ => True) (.slice (some ⟨go10, 0, none⟩) x3_1.length co10) x3_1 from (by (with_reducible repeat (first | apply Kd.R_alloc | apply Kd.R_drewN | apply Kd.R_drew)); exact HO_3.out)); obtain ⟨ce12, hcl12, hM12, hcc12, hfr12⟩ := Kd.R_elem HX12.out z125 (x4_1 : Int) (of_decide_eq_true (by first | (with_reducible assumption) | assumption)) (by have h_ : (x4_1 : Int) < ((x3_1.length : Int) : Int) := of_decide_eq_true (by first | (with_reducible assumption) | assumption); first | exact h_ | (have e_ := (Kd.R_reads' HO_3.out).1; omega) | simpa using h_); obtain rfl := k125_openM hM12; have HP12 := Kd.R_seg HX12.out (x4_1 : Int) (of_decide_eq_true (by first | (with_reducible assumption) | assumption)) (by have h_ : (x4_1 : Int) < ((x3_1.length : Int) : Int) := of_decide_eq_true (by first | (with_reducible assumption) | assumption); first | exact h_ | (have e_ := (Kd.R_reads' HO_3.out).1; omega) | simpa using h_) (seg := [.string t126, .int .i64 t127, .int .i64 t128, .int .i64 t129]) (j := 0) hcl12 hcc12 (show 4 ≤ 4 from by decide) (x' := (⟨t126, t127, t128, t129⟩ : S125)) (k125_mkM _ _ _ (⟨t126, t127, t128, t129⟩ : S125) ) (fun _ hk => hk); have hx12_0 := hcc12 0 _ rfl; (try simp only [show (k125).sz = 4 from rfl, Nat.mul_one, Nat.add_zero] at hx12_0); have hf12_0 := hfr12 0; (try simp only [show (k125).sz = 4 from rfl, Nat.mul_one, Nat.add_zero] at hf12_0); have hx12_1 := hcc12 1 _ rfl; (try simp only [show (k125).sz = 4 from rfl, Nat.mul_one, Nat.add_zero] at hx12_1); have hf12_1 := hfr12 1; (try simp only [show (k125).sz = 4 from rfl, Nat.mul_one, Nat.add_zero] at hf12_1); have hx12_2 := hcc12 2 _ rfl; (try simp only [show (k125).sz = 4 from rfl, Nat.mul_one, Nat.add_zero] at hx12_2); have hf12_2 := hfr12 2; (try simp only [show (k125).sz = 4 from rfl, Nat.mul_one, Nat.add_zero] at hf12_2); have hx12_3 := hcc12 3 _ rfl; (try simp only [show (k125).sz = 4 from rfl, Nat.mul_one, Nat.add_zero] at hx12_3); have hf12_3 := hfr12 3; (try simp only [show (k125).sz = 4 from rfl, Nat.mul_one, Nat.add_zero] at hf12_3); clear hcl12 hcc12 hfr12 hM12) | ((with_reducible refine gate_store (t := 125) (p := 21) rfl ?_); refine store_event (t := 125) (p := 21) (v := ?vo_w13) (w1 := ((((w11.setCell ⟨go10, (x4_1 : Int).toNat * 4, none⟩ (.string t126)).setCell ⟨go10, (x4_1 : Int).toNat * 4 + 1, none⟩ (.int .i64 t127)).setCell ⟨go10, (x4_1 : Int).toNat * 4 + 2, none⟩ (.int .i64 t128)).setCell ⟨go10, (x4_1 : Int).toNat * 4 + 3, none⟩ (.int .i64 t129))) ?hg ?ho ?hn ?hr ?_; (case ho => rfl); (case hg => rfl); (case hn => rfl); (case hr => first | (go_simp; done) | (go_simp; rfl)); intro w13 hw; have hg : w11.grownBy w13 (some go10) := (by rw [hw]; exact HP12.2); have hp_ : Kd.R k125 125 w13 w.heap.size (fun _ => True) (.slice (some ⟨go10, 0, none⟩) x3_1.length co10) y130 := (by rw [hw, Ny130.out]; exact HP12.1); clear HP12; have n0_ := Aside0.mk (hp_); have n1_ := Aside0.mk ((by rw [hw]; exact below_set (below_set (below_set (below_set (HB.out) GB10.out) GB10.out) GB10.out) GB10.out : Below w.heap.size w w13)); clear HO_3; clear HB; have HO_3 := n0_; have HB := n1_; clear n0_ n1_; clear hg hw hp_))
                go_roundg k1
                case measure => have := HK1.out; omega
                case rel => exact ⟨(y130), (wrap64 (x4_1 + 1)), (by first | rfl | (simp; done) | (simp [*]; done)), H', ⟨by have := HK1.out; omega⟩, ⟨by (with_reducible repeat (first | apply Kd.R_alloc | apply Kd.R_drewN | apply Kd.R_drew)); exact HO_3.out⟩, ⟨by repeat (first | (with_reducible first | exact HB.out | apply below_alloc | apply pw_below_drewN | apply below_drew1) | exact HB.out)⟩⟩
              · rw [if_neg c9] at H
                exact absurd H (by simp)
            · rw [if_neg c7] at H
              exact absurd H (by simp)
          · rw [if_neg c6] at H
            have c6b0 : decide (x4_1 < (l0.length : Int)) = false := decide_eq_false c6
            clear c6
            obtain rfl := Option.some.inj H
            go_wp2
            go_ret
            exact ⟨_, by first | rfl | (simp [errW_none, errW_some] <;> rfl) | (simp [*, errW_none, errW_some] <;> rfl), by (with_reducible repeat (first | apply Kd.R_alloc | apply Kd.R_drewN | apply Kd.R_drew)); exact HO_3.out, by repeat (first | (with_reducible first | exact HB.out | apply below_alloc | apply pw_below_drewN | apply below_drew1) | exact HB.out)⟩
    · rw [if_neg c3] at H
      exact absurd H (by simp)
  · rw [if_neg c2] at H
    exact absurd H (by simp)


end Go.Proofs.Ytlokckgkbhmkmaa.XFnExactCellsOf
