/- Machine side of the law FnExactCellOf: for each Go function that it reaches, a Lean function with the same answers and the proof that the call comes to them. Conditions: what the arguments lead to reads as the lists that each contract is told of. Some functions are told by hand, the others by the kit's print.py under wip/ext.py. -/
import Derived.Test.YtlokckgkbhmkmaaXFnExactCellOfx0
import Derived.Test.YtlokckgkbhmkmaaXFnExactCellOfx1
import Derived.Test.YtlokckgkbhmkmaaXFnExactCellOfx2
import Derived.Test.YtlokckgkbhmkmaaXFnExactCellOfx3
import Derived.Test.YtlokckgkbhmkmaaXFnExactCellOfx4
import Derived.Test.YtlokckgkbhmkmaaXFnExactCellOfx5
namespace Go.Proofs.Ytlokckgkbhmkmaa.XFnExactCellOf
open Go.RowKit Go.Proofs.YtlokckgkbhmkmaaW.PrintWords Go.Proofs.YtlokckgkbhmkmaaW.PrintLast
attribute [local go_sem] max2_int min2_int max_two min_two   -- for this text's walks alone
set_option linter.unusedVariables false
set_option linter.unusedSimpArgs false

/-! ### LIB ownof -/
theorem mkV_take (op : Int) (s : ByteArray) (j : Nat) (b : UInt8) (h : (letters op)[j]? = some b) : (ownV op s).take (j + 1) = (ownV op s).take j ++ [mkV s b] := by
  obtain ⟨hj, e⟩ := List.getElem?_eq_some_iff.1 h
  unfold ownV
  rw [← List.map_take, ← List.map_take, List.take_succ_eq_append_getElem hj, List.map_append, e]
  rfl
set_option maxHeartbeats 4000000 in
set_option maxRecDepth 100000 in
theorem o_ownOf (d0 d1 : Int) (d2 : ByteArray) (d3 d4 : Int) (A5 : Option Addr) (n5 c5 : Nat) (A6 : Option Addr) (n6 c6 : Nat) (A7 : Option Addr) (n7 c7 : Nat) (hd : 1 ≤ d1 ∧ d1 ≤ 4) (hds : d2.size ≤ 1048576) (w : World) :
    Calls Try.prog 218 #[.agg #[.int .i64 d0, .int .i64 d1, .string d2, .int .i64 d3, .int .i64 d4, .slice A5 n5 c5, .slice A6 n6 c6, .slice A7 n7 c7]] w fun e w' => ∃ v : Value, e = .returned v ∧ Kd.R k125 125 w' w.heap.size (fun _ => True) v (ownV d1 d2) ∧ Below w.heap.size w w' := by
  have hu := Try.underlying134
  have huv := Try.underlying125
  have hsq : (9223372036854775807 < d2.size + 1) = False := eq_false (by omega)
  have hz : d1 = 1 ∨ d1 = 2 ∨ d1 = 3 ∨ d1 = 4 := by omega
  clear hd
  rcases hz with rfl | rfl | rfl | rfl
  · go_enter Try.func218, Try.ntmps218
    go_wp2
    go_loopg [4, 15] 3 (fun gg s4 s15 wr => ∃ (j : Nat) (Ao : Option Addr) (co : Nat), s4 = .slice Ao j co ∧ s15 = .int .i64 (j : Int) ∧ Aside0 (j ≤ 3 ∧ 3 - j ≤ gg) ∧ Aside0 (Kd.R k125 125 wr (w.heap.size + 1) (fun _ => True) (.slice Ao j co) ((ownV 1 d2).take j)) ∧ Aside0 (wr.heap[w.heap.size]? = some (.cells #[.int .i64 d0, .int .i64 1, .string d2, .int .i64 d3, .int .i64 d4, .slice A5 n5 c5, .slice A6 n6 c6, .slice A7 n7 c7] 134 (0, 0))) ∧ Aside0 (Below w.heap.size w wr))
    case atStart =>
      have hs1 : (w.alloc (.cells #[.int .i64 d0, .int .i64 1, .string d2, .int .i64 d3, .int .i64 d4, .slice A5 n5 c5, .slice A6 n6 c6, .slice A7 n7 c7] 134)).heap.size = w.heap.size + 1 := by simp
      have hs2 : ((w.alloc (.cells #[.int .i64 d0, .int .i64 1, .string d2, .int .i64 d3, .int .i64 d4, .slice A5 n5 c5, .slice A6 n6 c6, .slice A7 n7 c7] 134)).alloc (.cells #[.string ⟨#[]⟩, .string ⟨#[118, 109, 113]⟩, .string ⟨#[118, 113]⟩, .string ⟨#[109, 113]⟩, .string ⟨#[113]⟩] 9)).heap.size = w.heap.size + 1 + 1 := by simp
      have ho := var_lit ((w.alloc (.cells #[.int .i64 d0, .int .i64 1, .string d2, .int .i64 d3, .int .i64 d4, .slice A5 n5 c5, .slice A6 n6 c6, .slice A7 n7 c7] 134)).alloc (.cells #[.string ⟨#[]⟩, .string ⟨#[118, 109, 113]⟩, .string ⟨#[118, 113]⟩, .string ⟨#[109, 113]⟩, .string ⟨#[113]⟩] 9)) (w.heap.size + 1) (by rw [hs2]; omega) [] (by simp)
      rw [hs2] at ho
      exact ⟨0, _, _, rfl, rfl, ⟨by omega⟩, ⟨ho⟩, ⟨by first | exact blk_alloc (blk_alloc (blk_new w _) _) _ | simp⟩, ⟨(((Below.refl _ _).alloc (Nat.le_refl _) _).alloc (by rw [hs1]; omega) _).alloc (by rw [hs2]; omega) _⟩⟩
    case round =>
      obtain ⟨wo, rfl⟩ : ∃ wo : World, wo = wr := ⟨_, rfl⟩
      obtain ⟨j, Ao, co, rfl, rfl, HK, HO, BKT, HB⟩ := hrel
      have q2 : wo.cell? ⟨w.heap.size, 2, none⟩ = some (.string d2) := (blk_cell BKT.out 2).trans rfl
      by_cases hj : j < 3
      · have hzj : j = 0 ∨ j = 1 ∨ j = 2 := by omega
        rcases hzj with rfl | rfl | rfl
        · have hw : IntKind.i64.wrap 1 = 1 := by rw [IntKind.wrap_i64]; rfl
          have hex : (⟨#[118, 109, 113]⟩ : ByteArray).extract 0 1 = ⟨#[118]⟩ := rfl
          have HO1 := Aside0.mk (show Kd.R k125 125 wo (w.heap.size + 1) (fun _ => True) (.slice Ao 0 co) [] from HO.out)
          go_wp2_with fail
          go_region_held3 (fun w' => w'.cell? ⟨w.heap.size, 2, none⟩ = some (.string d2)) (go_keep) (fail)
          all_goals
            try rw [hex]
            have BX := Aside0.mk (blk_drew (blk_new wo (.cells #[.string (d2 ++ ⟨#[118]⟩), .int .i64 3, .int .i64 2, .int .i64 0] 125)))
            have HX := Aside0.mk (below_drew ((Below.refl wo.heap.size wo).alloc (Nat.le_refl _) (.cells #[.string (d2 ++ ⟨#[118]⟩), .int .i64 3, .int .i64 2, .int .i64 0] 125)))
            revert BX HX
            generalize (wo.alloc (.cells #[.string (d2 ++ ⟨#[118]⟩), .int .i64 3, .int .i64 2, .int .i64 0] 125)).drew = wx
            intro BX HX
            have HOx := Aside0.mk (Kd.R_below HO1.out HX.out)
            have HBx := Aside0.mk (below_step HB.out HX.out)
            have HZx := Aside0.mk (blk_lt BKT.out)
            have BTx := Aside0.mk (blk_below BKT.out HX.out)
            clear q2
            have x0 : wx.cell? ⟨wo.heap.size, 0, none⟩ = some (.string (d2 ++ ⟨#[118]⟩)) := (blk_cell BX.out 0).trans rfl
            have x1 : wx.cell? ⟨wo.heap.size, 1, none⟩ = some (.int .i64 3) := (blk_cell BX.out 1).trans rfl
            have x2 : wx.cell? ⟨wo.heap.size, 2, none⟩ = some (.int .i64 2) := (blk_cell BX.out 2).trans rfl
            have x3 : wx.cell? ⟨wo.heap.size, 3, none⟩ = some (.int .i64 0) := (blk_cell BX.out 3).trans rfl
            have hfz := blk_frozen BX.out 2
            have HOz := Aside0.mk (Kd.R_mono (Kd.R_far (p := ⟨wo.heap.size, 2, none⟩) (Kd.R_below (Kd.R_mono (Kd.R_bound HO1.out) (fun k hk => (show k ≠ wo.heap.size from fun e => by have := hk.2.2.1; omega))) HX.out) (fun k hk => hk) (.int .i64 1)) (fun _ _ => trivial) : Kd.R k125 125 (wx.setCell ⟨wo.heap.size, 2, none⟩ (.int .i64 1)) (w.heap.size + 1) (fun _ => True) (.slice Ao 0 co) [])
            have HXs := Aside0.mk (Below.setCell HX.out (Nat.le_refl _) _ : Below wo.heap.size wo (wx.setCell ⟨wo.heap.size, 2, none⟩ (.int .i64 1)))
            have HXz := Aside0.mk (HXs.out.mono (show w.heap.size + 1 ≤ wo.heap.size from HZx.out))
            have BTz := Aside0.mk (blk_far (p := ⟨wo.heap.size, 2, none⟩) BTx.out (show w.heap.size ≠ wo.heap.size from fun e => by have := HZx.out; omega) (.int .i64 1))
            go_wp2_with ((with_reducible refine gate_builtin (b := .append) (xs := #[.tmp 32, .tmp 34]) rfl ?_); at_builtin; refine Kd.R_append k125 (w0 := wo) (W := (wx.setCell ⟨wo.heap.size, 2, none⟩ (.int .i64 1))) (w.heap.size + 1) ?_ (.tmp 32) (.tmp 34) 65 125 _ 40 ?_ Try.underlying65 info125 ?_ ?_ ?_ (.slice Ao 0 co) [] (mkV d2 118) [.string (d2 ++ ⟨#[118]⟩), .int .i64 3, .int .i64 1, .int .i64 0] (fun _ => True) (fun _ => False) ?_ ?_ ?_ ?_ ?_ ?_ ?_ ?_ ?_ ?_; rfl; rfl; rfl; decide; omega; rfl; (first | rfl | simp [Act.eval]); exact k125_mkM _ _ _ (mkV d2 118); exact (fun _ hk => hk.elim); exact (fun _ _ => trivial); exact HOz.out; exact HXz.out; (have h1 := below_size HXs.out; have h2 := HZx.out; omega); simp; intro v1 w2 ho hb hg ha; have BK3 := Aside0.mk (blk_grown BTz.out hg (fun e => by have := Kd.R_base HOz.out _ e.symm; omega)); clear hg ha; obtain ⟨A9, c9, e9⟩ := Kd.R_slice ho; have e9 : v1 = .slice A9 1 c9 := e9; subst e9; have HO3 := Aside0.mk ho; have HB3 := Aside0.mk (HB.out.trans (hb.mono (Nat.le_succ _))); clear ho hb)
            go_roundg (3 - 1)
            case measure => have := HK.out; omega
            case rel => exact ⟨1, A9, c9, rfl, by go_num, ⟨by omega⟩, HO3, BK3, HB3⟩
        · have hw : IntKind.i64.wrap 2 = 2 := by rw [IntKind.wrap_i64]; rfl
          have hex : (⟨#[118, 109, 113]⟩ : ByteArray).extract 1 2 = ⟨#[109]⟩ := rfl
          have HO1 := Aside0.mk (show Kd.R k125 125 wo (w.heap.size + 1) (fun _ => True) (.slice Ao 1 co) [mkV d2 118] from HO.out)
          go_wp2_with fail
          go_region_held3 (fun w' => w'.cell? ⟨w.heap.size, 2, none⟩ = some (.string d2)) (go_keep) (fail)
          all_goals
            try rw [hex]
            have BX := Aside0.mk (blk_drew (blk_new wo (.cells #[.string (d2 ++ ⟨#[109]⟩), .int .i64 3, .int .i64 2, .int .i64 0] 125)))
            have HX := Aside0.mk (below_drew ((Below.refl wo.heap.size wo).alloc (Nat.le_refl _) (.cells #[.string (d2 ++ ⟨#[109]⟩), .int .i64 3, .int .i64 2, .int .i64 0] 125)))
            revert BX HX
            generalize (wo.alloc (.cells #[.string (d2 ++ ⟨#[109]⟩), .int .i64 3, .int .i64 2, .int .i64 0] 125)).drew = wx
            intro BX HX
            have HOx := Aside0.mk (Kd.R_below HO1.out HX.out)
            have HBx := Aside0.mk (below_step HB.out HX.out)
            have HZx := Aside0.mk (blk_lt BKT.out)
            have BTx := Aside0.mk (blk_below BKT.out HX.out)
            clear q2
            have x0 : wx.cell? ⟨wo.heap.size, 0, none⟩ = some (.string (d2 ++ ⟨#[109]⟩)) := (blk_cell BX.out 0).trans rfl
            have x1 : wx.cell? ⟨wo.heap.size, 1, none⟩ = some (.int .i64 3) := (blk_cell BX.out 1).trans rfl
            have x2 : wx.cell? ⟨wo.heap.size, 2, none⟩ = some (.int .i64 2) := (blk_cell BX.out 2).trans rfl
            have x3 : wx.cell? ⟨wo.heap.size, 3, none⟩ = some (.int .i64 0) := (blk_cell BX.out 3).trans rfl
            have HXs := HX
            have HOz := HOx
            have BTz := BTx
            have HXz := Aside0.mk (HX.out.mono (show w.heap.size + 1 ≤ wo.heap.size from HZx.out))
            go_wp2_with ((with_reducible refine gate_builtin (b := .append) (xs := #[.tmp 32, .tmp 34]) rfl ?_); at_builtin; refine Kd.R_append k125 (w0 := wo) (W := wx) (w.heap.size + 1) ?_ (.tmp 32) (.tmp 34) 65 125 _ 40 ?_ Try.underlying65 info125 ?_ ?_ ?_ (.slice Ao 1 co) [mkV d2 118] (mkV d2 109) [.string (d2 ++ ⟨#[109]⟩), .int .i64 3, .int .i64 2, .int .i64 0] (fun _ => True) (fun _ => False) ?_ ?_ ?_ ?_ ?_ ?_ ?_ ?_ ?_ ?_; rfl; rfl; rfl; decide; omega; rfl; (first | rfl | simp [Act.eval]); exact k125_mkM _ _ _ (mkV d2 109); exact (fun _ hk => hk.elim); exact (fun _ _ => trivial); exact HOz.out; exact HXz.out; (have h1 := below_size HXs.out; have h2 := HZx.out; omega); simp; intro v1 w2 ho hb hg ha; have BK3 := Aside0.mk (blk_grown BTz.out hg (fun e => by have := Kd.R_base HOz.out _ e.symm; omega)); clear hg ha; obtain ⟨A9, c9, e9⟩ := Kd.R_slice ho; have e9 : v1 = .slice A9 2 c9 := e9; subst e9; have HO3 := Aside0.mk ho; have HB3 := Aside0.mk (HB.out.trans (hb.mono (Nat.le_succ _))); clear ho hb)
            go_roundg (3 - 2)
            case measure => have := HK.out; omega
            case rel => exact ⟨2, A9, c9, rfl, by go_num, ⟨by omega⟩, HO3, BK3, HB3⟩
        · have hw : IntKind.i64.wrap 3 = 3 := by rw [IntKind.wrap_i64]; rfl
          have hex : (⟨#[118, 109, 113]⟩ : ByteArray).extract 2 3 = ⟨#[113]⟩ := rfl
          have HO1 := Aside0.mk (show Kd.R k125 125 wo (w.heap.size + 1) (fun _ => True) (.slice Ao 2 co) [mkV d2 118, mkV d2 109] from HO.out)
          go_wp2_with fail
          go_region_held3 (fun w' => w'.cell? ⟨w.heap.size, 2, none⟩ = some (.string d2)) (go_keep) (fail)
          all_goals
            try rw [hex]
            have BX := Aside0.mk (blk_drew (blk_new wo (.cells #[.string (d2 ++ ⟨#[113]⟩), .int .i64 3, .int .i64 2, .int .i64 0] 125)))
            have HX := Aside0.mk (below_drew ((Below.refl wo.heap.size wo).alloc (Nat.le_refl _) (.cells #[.string (d2 ++ ⟨#[113]⟩), .int .i64 3, .int .i64 2, .int .i64 0] 125)))
            revert BX HX
            generalize (wo.alloc (.cells #[.string (d2 ++ ⟨#[113]⟩), .int .i64 3, .int .i64 2, .int .i64 0] 125)).drew = wx
            intro BX HX
            have HOx := Aside0.mk (Kd.R_below HO1.out HX.out)
            have HBx := Aside0.mk (below_step HB.out HX.out)
            have HZx := Aside0.mk (blk_lt BKT.out)
            have BTx := Aside0.mk (blk_below BKT.out HX.out)
            clear q2
            have x0 : wx.cell? ⟨wo.heap.size, 0, none⟩ = some (.string (d2 ++ ⟨#[113]⟩)) := (blk_cell BX.out 0).trans rfl
            have x1 : wx.cell? ⟨wo.heap.size, 1, none⟩ = some (.int .i64 3) := (blk_cell BX.out 1).trans rfl
            have x2 : wx.cell? ⟨wo.heap.size, 2, none⟩ = some (.int .i64 2) := (blk_cell BX.out 2).trans rfl
            have x3 : wx.cell? ⟨wo.heap.size, 3, none⟩ = some (.int .i64 0) := (blk_cell BX.out 3).trans rfl
            have HXs := HX
            have HOz := HOx
            have BTz := BTx
            have HXz := Aside0.mk (HX.out.mono (show w.heap.size + 1 ≤ wo.heap.size from HZx.out))
            go_wp2_with ((with_reducible refine gate_builtin (b := .append) (xs := #[.tmp 32, .tmp 34]) rfl ?_); at_builtin; refine Kd.R_append k125 (w0 := wo) (W := wx) (w.heap.size + 1) ?_ (.tmp 32) (.tmp 34) 65 125 _ 40 ?_ Try.underlying65 info125 ?_ ?_ ?_ (.slice Ao 2 co) [mkV d2 118, mkV d2 109] (mkV d2 113) [.string (d2 ++ ⟨#[113]⟩), .int .i64 3, .int .i64 2, .int .i64 0] (fun _ => True) (fun _ => False) ?_ ?_ ?_ ?_ ?_ ?_ ?_ ?_ ?_ ?_; rfl; rfl; rfl; decide; omega; rfl; (first | rfl | simp [Act.eval]); exact k125_mkM _ _ _ (mkV d2 113); exact (fun _ hk => hk.elim); exact (fun _ _ => trivial); exact HOz.out; exact HXz.out; (have h1 := below_size HXs.out; have h2 := HZx.out; omega); simp; intro v1 w2 ho hb hg ha; have BK3 := Aside0.mk (blk_grown BTz.out hg (fun e => by have := Kd.R_base HOz.out _ e.symm; omega)); clear hg ha; obtain ⟨A9, c9, e9⟩ := Kd.R_slice ho; have e9 : v1 = .slice A9 3 c9 := e9; subst e9; have HO3 := Aside0.mk ho; have HB3 := Aside0.mk (HB.out.trans (hb.mono (Nat.le_succ _))); clear ho hb)
            go_roundg (3 - 3)
            case measure => have := HK.out; omega
            case rel => exact ⟨3, A9, c9, rfl, by go_num, ⟨by omega⟩, HO3, BK3, HB3⟩
      · have hn : j = 3 := by have := HK.out; omega
        subst hn
        have HO1 := Aside0.mk (show Kd.R k125 125 wo (w.heap.size + 1) (fun _ => True) (.slice Ao 3 co) (ownV 1 d2) from HO.out)
        go_wp2
        go_ret
        exact ⟨_, rfl, Kd.R_lower HO1.out (by omega), HB.out⟩
  · go_enter Try.func218, Try.ntmps218
    go_wp2
    go_loopg [4, 15] 2 (fun gg s4 s15 wr => ∃ (j : Nat) (Ao : Option Addr) (co : Nat), s4 = .slice Ao j co ∧ s15 = .int .i64 (j : Int) ∧ Aside0 (j ≤ 2 ∧ 2 - j ≤ gg) ∧ Aside0 (Kd.R k125 125 wr (w.heap.size + 1) (fun _ => True) (.slice Ao j co) ((ownV 2 d2).take j)) ∧ Aside0 (wr.heap[w.heap.size]? = some (.cells #[.int .i64 d0, .int .i64 2, .string d2, .int .i64 d3, .int .i64 d4, .slice A5 n5 c5, .slice A6 n6 c6, .slice A7 n7 c7] 134 (0, 0))) ∧ Aside0 (Below w.heap.size w wr))
    case atStart =>
      have hs1 : (w.alloc (.cells #[.int .i64 d0, .int .i64 2, .string d2, .int .i64 d3, .int .i64 d4, .slice A5 n5 c5, .slice A6 n6 c6, .slice A7 n7 c7] 134)).heap.size = w.heap.size + 1 := by simp
      have hs2 : ((w.alloc (.cells #[.int .i64 d0, .int .i64 2, .string d2, .int .i64 d3, .int .i64 d4, .slice A5 n5 c5, .slice A6 n6 c6, .slice A7 n7 c7] 134)).alloc (.cells #[.string ⟨#[]⟩, .string ⟨#[118, 109, 113]⟩, .string ⟨#[118, 113]⟩, .string ⟨#[109, 113]⟩, .string ⟨#[113]⟩] 9)).heap.size = w.heap.size + 1 + 1 := by simp
      have ho := var_lit ((w.alloc (.cells #[.int .i64 d0, .int .i64 2, .string d2, .int .i64 d3, .int .i64 d4, .slice A5 n5 c5, .slice A6 n6 c6, .slice A7 n7 c7] 134)).alloc (.cells #[.string ⟨#[]⟩, .string ⟨#[118, 109, 113]⟩, .string ⟨#[118, 113]⟩, .string ⟨#[109, 113]⟩, .string ⟨#[113]⟩] 9)) (w.heap.size + 1) (by rw [hs2]; omega) [] (by simp)
      rw [hs2] at ho
      exact ⟨0, _, _, rfl, rfl, ⟨by omega⟩, ⟨ho⟩, ⟨by first | exact blk_alloc (blk_alloc (blk_new w _) _) _ | simp⟩, ⟨(((Below.refl _ _).alloc (Nat.le_refl _) _).alloc (by rw [hs1]; omega) _).alloc (by rw [hs2]; omega) _⟩⟩
    case round =>
      obtain ⟨wo, rfl⟩ : ∃ wo : World, wo = wr := ⟨_, rfl⟩
      obtain ⟨j, Ao, co, rfl, rfl, HK, HO, BKT, HB⟩ := hrel
      have q2 : wo.cell? ⟨w.heap.size, 2, none⟩ = some (.string d2) := (blk_cell BKT.out 2).trans rfl
      by_cases hj : j < 2
      · have hzj : j = 0 ∨ j = 1 := by omega
        rcases hzj with rfl | rfl
        · have hw : IntKind.i64.wrap 1 = 1 := by rw [IntKind.wrap_i64]; rfl
          have hex : (⟨#[118, 113]⟩ : ByteArray).extract 0 1 = ⟨#[118]⟩ := rfl
          have HO1 := Aside0.mk (show Kd.R k125 125 wo (w.heap.size + 1) (fun _ => True) (.slice Ao 0 co) [] from HO.out)
          go_wp2_with fail
          go_region_held3 (fun w' => w'.cell? ⟨w.heap.size, 2, none⟩ = some (.string d2)) (go_keep) (fail)
          all_goals
            try rw [hex]
            have BX := Aside0.mk (blk_drew (blk_new wo (.cells #[.string (d2 ++ ⟨#[118]⟩), .int .i64 3, .int .i64 2, .int .i64 0] 125)))
            have HX := Aside0.mk (below_drew ((Below.refl wo.heap.size wo).alloc (Nat.le_refl _) (.cells #[.string (d2 ++ ⟨#[118]⟩), .int .i64 3, .int .i64 2, .int .i64 0] 125)))
            revert BX HX
            generalize (wo.alloc (.cells #[.string (d2 ++ ⟨#[118]⟩), .int .i64 3, .int .i64 2, .int .i64 0] 125)).drew = wx
            intro BX HX
            have HOx := Aside0.mk (Kd.R_below HO1.out HX.out)
            have HBx := Aside0.mk (below_step HB.out HX.out)
            have HZx := Aside0.mk (blk_lt BKT.out)
            have BTx := Aside0.mk (blk_below BKT.out HX.out)
            clear q2
            have x0 : wx.cell? ⟨wo.heap.size, 0, none⟩ = some (.string (d2 ++ ⟨#[118]⟩)) := (blk_cell BX.out 0).trans rfl
            have x1 : wx.cell? ⟨wo.heap.size, 1, none⟩ = some (.int .i64 3) := (blk_cell BX.out 1).trans rfl
            have x2 : wx.cell? ⟨wo.heap.size, 2, none⟩ = some (.int .i64 2) := (blk_cell BX.out 2).trans rfl
            have x3 : wx.cell? ⟨wo.heap.size, 3, none⟩ = some (.int .i64 0) := (blk_cell BX.out 3).trans rfl
            have hfz := blk_frozen BX.out 2
            have HOz := Aside0.mk (Kd.R_mono (Kd.R_far (p := ⟨wo.heap.size, 2, none⟩) (Kd.R_below (Kd.R_mono (Kd.R_bound HO1.out) (fun k hk => (show k ≠ wo.heap.size from fun e => by have := hk.2.2.1; omega))) HX.out) (fun k hk => hk) (.int .i64 1)) (fun _ _ => trivial) : Kd.R k125 125 (wx.setCell ⟨wo.heap.size, 2, none⟩ (.int .i64 1)) (w.heap.size + 1) (fun _ => True) (.slice Ao 0 co) [])
            have HXs := Aside0.mk (Below.setCell HX.out (Nat.le_refl _) _ : Below wo.heap.size wo (wx.setCell ⟨wo.heap.size, 2, none⟩ (.int .i64 1)))
            have HXz := Aside0.mk (HXs.out.mono (show w.heap.size + 1 ≤ wo.heap.size from HZx.out))
            have BTz := Aside0.mk (blk_far (p := ⟨wo.heap.size, 2, none⟩) BTx.out (show w.heap.size ≠ wo.heap.size from fun e => by have := HZx.out; omega) (.int .i64 1))
            go_wp2_with ((with_reducible refine gate_builtin (b := .append) (xs := #[.tmp 32, .tmp 34]) rfl ?_); at_builtin; refine Kd.R_append k125 (w0 := wo) (W := (wx.setCell ⟨wo.heap.size, 2, none⟩ (.int .i64 1))) (w.heap.size + 1) ?_ (.tmp 32) (.tmp 34) 65 125 _ 40 ?_ Try.underlying65 info125 ?_ ?_ ?_ (.slice Ao 0 co) [] (mkV d2 118) [.string (d2 ++ ⟨#[118]⟩), .int .i64 3, .int .i64 1, .int .i64 0] (fun _ => True) (fun _ => False) ?_ ?_ ?_ ?_ ?_ ?_ ?_ ?_ ?_ ?_; rfl; rfl; rfl; decide; omega; rfl; (first | rfl | simp [Act.eval]); exact k125_mkM _ _ _ (mkV d2 118); exact (fun _ hk => hk.elim); exact (fun _ _ => trivial); exact HOz.out; exact HXz.out; (have h1 := below_size HXs.out; have h2 := HZx.out; omega); simp; intro v1 w2 ho hb hg ha; have BK3 := Aside0.mk (blk_grown BTz.out hg (fun e => by have := Kd.R_base HOz.out _ e.symm; omega)); clear hg ha; obtain ⟨A9, c9, e9⟩ := Kd.R_slice ho; have e9 : v1 = .slice A9 1 c9 := e9; subst e9; have HO3 := Aside0.mk ho; have HB3 := Aside0.mk (HB.out.trans (hb.mono (Nat.le_succ _))); clear ho hb)
            go_roundg (2 - 1)
            case measure => have := HK.out; omega
            case rel => exact ⟨1, A9, c9, rfl, by go_num, ⟨by omega⟩, HO3, BK3, HB3⟩
        · have hw : IntKind.i64.wrap 2 = 2 := by rw [IntKind.wrap_i64]; rfl
          have hex : (⟨#[118, 113]⟩ : ByteArray).extract 1 2 = ⟨#[113]⟩ := rfl
          have HO1 := Aside0.mk (show Kd.R k125 125 wo (w.heap.size + 1) (fun _ => True) (.slice Ao 1 co) [mkV d2 118] from HO.out)
          go_wp2_with fail
          go_region_held3 (fun w' => w'.cell? ⟨w.heap.size, 2, none⟩ = some (.string d2)) (go_keep) (fail)
          all_goals
            try rw [hex]
            have BX := Aside0.mk (blk_drew (blk_new wo (.cells #[.string (d2 ++ ⟨#[113]⟩), .int .i64 3, .int .i64 2, .int .i64 0] 125)))
            have HX := Aside0.mk (below_drew ((Below.refl wo.heap.size wo).alloc (Nat.le_refl _) (.cells #[.string (d2 ++ ⟨#[113]⟩), .int .i64 3, .int .i64 2, .int .i64 0] 125)))
            revert BX HX
            generalize (wo.alloc (.cells #[.string (d2 ++ ⟨#[113]⟩), .int .i64 3, .int .i64 2, .int .i64 0] 125)).drew = wx
            intro BX HX
            have HOx := Aside0.mk (Kd.R_below HO1.out HX.out)
            have HBx := Aside0.mk (below_step HB.out HX.out)
            have HZx := Aside0.mk (blk_lt BKT.out)
            have BTx := Aside0.mk (blk_below BKT.out HX.out)
            clear q2
            have x0 : wx.cell? ⟨wo.heap.size, 0, none⟩ = some (.string (d2 ++ ⟨#[113]⟩)) := (blk_cell BX.out 0).trans rfl
            have x1 : wx.cell? ⟨wo.heap.size, 1, none⟩ = some (.int .i64 3) := (blk_cell BX.out 1).trans rfl
            have x2 : wx.cell? ⟨wo.heap.size, 2, none⟩ = some (.int .i64 2) := (blk_cell BX.out 2).trans rfl
            have x3 : wx.cell? ⟨wo.heap.size, 3, none⟩ = some (.int .i64 0) := (blk_cell BX.out 3).trans rfl
            have HXs := HX
            have HOz := HOx
            have BTz := BTx
            have HXz := Aside0.mk (HX.out.mono (show w.heap.size + 1 ≤ wo.heap.size from HZx.out))
            go_wp2_with ((with_reducible refine gate_builtin (b := .append) (xs := #[.tmp 32, .tmp 34]) rfl ?_); at_builtin; refine Kd.R_append k125 (w0 := wo) (W := wx) (w.heap.size + 1) ?_ (.tmp 32) (.tmp 34) 65 125 _ 40 ?_ Try.underlying65 info125 ?_ ?_ ?_ (.slice Ao 1 co) [mkV d2 118] (mkV d2 113) [.string (d2 ++ ⟨#[113]⟩), .int .i64 3, .int .i64 2, .int .i64 0] (fun _ => True) (fun _ => False) ?_ ?_ ?_ ?_ ?_ ?_ ?_ ?_ ?_ ?_; rfl; rfl; rfl; decide; omega; rfl; (first | rfl | simp [Act.eval]); exact k125_mkM _ _ _ (mkV d2 113); exact (fun _ hk => hk.elim); exact (fun _ _ => trivial); exact HOz.out; exact HXz.out; (have h1 := below_size HXs.out; have h2 := HZx.out; omega); simp; intro v1 w2 ho hb hg ha; have BK3 := Aside0.mk (blk_grown BTz.out hg (fun e => by have := Kd.R_base HOz.out _ e.symm; omega)); clear hg ha; obtain ⟨A9, c9, e9⟩ := Kd.R_slice ho; have e9 : v1 = .slice A9 2 c9 := e9; subst e9; have HO3 := Aside0.mk ho; have HB3 := Aside0.mk (HB.out.trans (hb.mono (Nat.le_succ _))); clear ho hb)
            go_roundg (2 - 2)
            case measure => have := HK.out; omega
            case rel => exact ⟨2, A9, c9, rfl, by go_num, ⟨by omega⟩, HO3, BK3, HB3⟩
      · have hn : j = 2 := by have := HK.out; omega
        subst hn
        have HO1 := Aside0.mk (show Kd.R k125 125 wo (w.heap.size + 1) (fun _ => True) (.slice Ao 2 co) (ownV 2 d2) from HO.out)
        go_wp2
        go_ret
        exact ⟨_, rfl, Kd.R_lower HO1.out (by omega), HB.out⟩
  · go_enter Try.func218, Try.ntmps218
    go_wp2
    go_loopg [4, 15] 2 (fun gg s4 s15 wr => ∃ (j : Nat) (Ao : Option Addr) (co : Nat), s4 = .slice Ao j co ∧ s15 = .int .i64 (j : Int) ∧ Aside0 (j ≤ 2 ∧ 2 - j ≤ gg) ∧ Aside0 (Kd.R k125 125 wr (w.heap.size + 1) (fun _ => True) (.slice Ao j co) ((ownV 3 d2).take j)) ∧ Aside0 (wr.heap[w.heap.size]? = some (.cells #[.int .i64 d0, .int .i64 3, .string d2, .int .i64 d3, .int .i64 d4, .slice A5 n5 c5, .slice A6 n6 c6, .slice A7 n7 c7] 134 (0, 0))) ∧ Aside0 (Below w.heap.size w wr))
    case atStart =>
      have hs1 : (w.alloc (.cells #[.int .i64 d0, .int .i64 3, .string d2, .int .i64 d3, .int .i64 d4, .slice A5 n5 c5, .slice A6 n6 c6, .slice A7 n7 c7] 134)).heap.size = w.heap.size + 1 := by simp
      have hs2 : ((w.alloc (.cells #[.int .i64 d0, .int .i64 3, .string d2, .int .i64 d3, .int .i64 d4, .slice A5 n5 c5, .slice A6 n6 c6, .slice A7 n7 c7] 134)).alloc (.cells #[.string ⟨#[]⟩, .string ⟨#[118, 109, 113]⟩, .string ⟨#[118, 113]⟩, .string ⟨#[109, 113]⟩, .string ⟨#[113]⟩] 9)).heap.size = w.heap.size + 1 + 1 := by simp
      have ho := var_lit ((w.alloc (.cells #[.int .i64 d0, .int .i64 3, .string d2, .int .i64 d3, .int .i64 d4, .slice A5 n5 c5, .slice A6 n6 c6, .slice A7 n7 c7] 134)).alloc (.cells #[.string ⟨#[]⟩, .string ⟨#[118, 109, 113]⟩, .string ⟨#[118, 113]⟩, .string ⟨#[109, 113]⟩, .string ⟨#[113]⟩] 9)) (w.heap.size + 1) (by rw [hs2]; omega) [] (by simp)
      rw [hs2] at ho
      exact ⟨0, _, _, rfl, rfl, ⟨by omega⟩, ⟨ho⟩, ⟨by first | exact blk_alloc (blk_alloc (blk_new w _) _) _ | simp⟩, ⟨(((Below.refl _ _).alloc (Nat.le_refl _) _).alloc (by rw [hs1]; omega) _).alloc (by rw [hs2]; omega) _⟩⟩
    case round =>
      obtain ⟨wo, rfl⟩ : ∃ wo : World, wo = wr := ⟨_, rfl⟩
      obtain ⟨j, Ao, co, rfl, rfl, HK, HO, BKT, HB⟩ := hrel
      have q2 : wo.cell? ⟨w.heap.size, 2, none⟩ = some (.string d2) := (blk_cell BKT.out 2).trans rfl
      by_cases hj : j < 2
      · have hzj : j = 0 ∨ j = 1 := by omega
        rcases hzj with rfl | rfl
        · have hw : IntKind.i64.wrap 1 = 1 := by rw [IntKind.wrap_i64]; rfl
          have hex : (⟨#[109, 113]⟩ : ByteArray).extract 0 1 = ⟨#[109]⟩ := rfl
          have HO1 := Aside0.mk (show Kd.R k125 125 wo (w.heap.size + 1) (fun _ => True) (.slice Ao 0 co) [] from HO.out)
          go_wp2_with fail
          go_region_held3 (fun w' => w'.cell? ⟨w.heap.size, 2, none⟩ = some (.string d2)) (go_keep) (fail)
          all_goals
            try rw [hex]
            have BX := Aside0.mk (blk_drew (blk_new wo (.cells #[.string (d2 ++ ⟨#[109]⟩), .int .i64 3, .int .i64 2, .int .i64 0] 125)))
            have HX := Aside0.mk (below_drew ((Below.refl wo.heap.size wo).alloc (Nat.le_refl _) (.cells #[.string (d2 ++ ⟨#[109]⟩), .int .i64 3, .int .i64 2, .int .i64 0] 125)))
            revert BX HX
            generalize (wo.alloc (.cells #[.string (d2 ++ ⟨#[109]⟩), .int .i64 3, .int .i64 2, .int .i64 0] 125)).drew = wx
            intro BX HX
            have HOx := Aside0.mk (Kd.R_below HO1.out HX.out)
            have HBx := Aside0.mk (below_step HB.out HX.out)
            have HZx := Aside0.mk (blk_lt BKT.out)
            have BTx := Aside0.mk (blk_below BKT.out HX.out)
            clear q2
            have x0 : wx.cell? ⟨wo.heap.size, 0, none⟩ = some (.string (d2 ++ ⟨#[109]⟩)) := (blk_cell BX.out 0).trans rfl
            have x1 : wx.cell? ⟨wo.heap.size, 1, none⟩ = some (.int .i64 3) := (blk_cell BX.out 1).trans rfl
            have x2 : wx.cell? ⟨wo.heap.size, 2, none⟩ = some (.int .i64 2) := (blk_cell BX.out 2).trans rfl
            have x3 : wx.cell? ⟨wo.heap.size, 3, none⟩ = some (.int .i64 0) := (blk_cell BX.out 3).trans rfl
            have HXs := HX
            have HOz := HOx
            have BTz := BTx
            have HXz := Aside0.mk (HX.out.mono (show w.heap.size + 1 ≤ wo.heap.size from HZx.out))
            go_wp2_with ((with_reducible refine gate_builtin (b := .append) (xs := #[.tmp 32, .tmp 34]) rfl ?_); at_builtin; refine Kd.R_append k125 (w0 := wo) (W := wx) (w.heap.size + 1) ?_ (.tmp 32) (.tmp 34) 65 125 _ 40 ?_ Try.underlying65 info125 ?_ ?_ ?_ (.slice Ao 0 co) [] (mkV d2 109) [.string (d2 ++ ⟨#[109]⟩), .int .i64 3, .int .i64 2, .int .i64 0] (fun _ => True) (fun _ => False) ?_ ?_ ?_ ?_ ?_ ?_ ?_ ?_ ?_ ?_; rfl; rfl; rfl; decide; omega; rfl; (first | rfl | simp [Act.eval]); exact k125_mkM _ _ _ (mkV d2 109); exact (fun _ hk => hk.elim); exact (fun _ _ => trivial); exact HOz.out; exact HXz.out; (have h1 := below_size HXs.out; have h2 := HZx.out; omega); simp; intro v1 w2 ho hb hg ha; have BK3 := Aside0.mk (blk_grown BTz.out hg (fun e => by have := Kd.R_base HOz.out _ e.symm; omega)); clear hg ha; obtain ⟨A9, c9, e9⟩ := Kd.R_slice ho; have e9 : v1 = .slice A9 1 c9 := e9; subst e9; have HO3 := Aside0.mk ho; have HB3 := Aside0.mk (HB.out.trans (hb.mono (Nat.le_succ _))); clear ho hb)
            go_roundg (2 - 1)
            case measure => have := HK.out; omega
            case rel => exact ⟨1, A9, c9, rfl, by go_num, ⟨by omega⟩, HO3, BK3, HB3⟩
        · have hw : IntKind.i64.wrap 2 = 2 := by rw [IntKind.wrap_i64]; rfl
          have hex : (⟨#[109, 113]⟩ : ByteArray).extract 1 2 = ⟨#[113]⟩ := rfl
          have HO1 := Aside0.mk (show Kd.R k125 125 wo (w.heap.size + 1) (fun _ => True) (.slice Ao 1 co) [mkV d2 109] from HO.out)
          go_wp2_with fail
          go_region_held3 (fun w' => w'.cell? ⟨w.heap.size, 2, none⟩ = some (.string d2)) (go_keep) (fail)
          all_goals
            try rw [hex]
            have BX := Aside0.mk (blk_drew (blk_new wo (.cells #[.string (d2 ++ ⟨#[113]⟩), .int .i64 3, .int .i64 2, .int .i64 0] 125)))
            have HX := Aside0.mk (below_drew ((Below.refl wo.heap.size wo).alloc (Nat.le_refl _) (.cells #[.string (d2 ++ ⟨#[113]⟩), .int .i64 3, .int .i64 2, .int .i64 0] 125)))
            revert BX HX
            generalize (wo.alloc (.cells #[.string (d2 ++ ⟨#[113]⟩), .int .i64 3, .int .i64 2, .int .i64 0] 125)).drew = wx
            intro BX HX
            have HOx := Aside0.mk (Kd.R_below HO1.out HX.out)
            have HBx := Aside0.mk (below_step HB.out HX.out)
            have HZx := Aside0.mk (blk_lt BKT.out)
            have BTx := Aside0.mk (blk_below BKT.out HX.out)
            clear q2
            have x0 : wx.cell? ⟨wo.heap.size, 0, none⟩ = some (.string (d2 ++ ⟨#[113]⟩)) := (blk_cell BX.out 0).trans rfl
            have x1 : wx.cell? ⟨wo.heap.size, 1, none⟩ = some (.int .i64 3) := (blk_cell BX.out 1).trans rfl
            have x2 : wx.cell? ⟨wo.heap.size, 2, none⟩ = some (.int .i64 2) := (blk_cell BX.out 2).trans rfl
            have x3 : wx.cell? ⟨wo.heap.size, 3, none⟩ = some (.int .i64 0) := (blk_cell BX.out 3).trans rfl
            have HXs := HX
            have HOz := HOx
            have BTz := BTx
            have HXz := Aside0.mk (HX.out.mono (show w.heap.size + 1 ≤ wo.heap.size from HZx.out))
            go_wp2_with ((with_reducible refine gate_builtin (b := .append) (xs := #[.tmp 32, .tmp 34]) rfl ?_); at_builtin; refine Kd.R_append k125 (w0 := wo) (W := wx) (w.heap.size + 1) ?_ (.tmp 32) (.tmp 34) 65 125 _ 40 ?_ Try.underlying65 info125 ?_ ?_ ?_ (.slice Ao 1 co) [mkV d2 109] (mkV d2 113) [.string (d2 ++ ⟨#[113]⟩), .int .i64 3, .int .i64 2, .int .i64 0] (fun _ => True) (fun _ => False) ?_ ?_ ?_ ?_ ?_ ?_ ?_ ?_ ?_ ?_; rfl; rfl; rfl; decide; omega; rfl; (first | rfl | simp [Act.eval]); exact k125_mkM _ _ _ (mkV d2 113); exact (fun _ hk => hk.elim); exact (fun _ _ => trivial); exact HOz.out; exact HXz.out; (have h1 := below_size HXs.out; have h2 := HZx.out; omega); simp; intro v1 w2 ho hb hg ha; have BK3 := Aside0.mk (blk_grown BTz.out hg (fun e => by have := Kd.R_base HOz.out _ e.symm; omega)); clear hg ha; obtain ⟨A9, c9, e9⟩ := Kd.R_slice ho; have e9 : v1 = .slice A9 2 c9 := e9; subst e9; have HO3 := Aside0.mk ho; have HB3 := Aside0.mk (HB.out.trans (hb.mono (Nat.le_succ _))); clear ho hb)
            go_roundg (2 - 2)
            case measure => have := HK.out; omega
            case rel => exact ⟨2, A9, c9, rfl, by go_num, ⟨by omega⟩, HO3, BK3, HB3⟩
      · have hn : j = 2 := by have := HK.out; omega
        subst hn
        have HO1 := Aside0.mk (show Kd.R k125 125 wo (w.heap.size + 1) (fun _ => True) (.slice Ao 2 co) (ownV 3 d2) from HO.out)
        go_wp2
        go_ret
        exact ⟨_, rfl, Kd.R_lower HO1.out (by omega), HB.out⟩
  · go_enter Try.func218, Try.ntmps218
    go_wp2
    go_loopg [4, 15] 1 (fun gg s4 s15 wr => ∃ (j : Nat) (Ao : Option Addr) (co : Nat), s4 = .slice Ao j co ∧ s15 = .int .i64 (j : Int) ∧ Aside0 (j ≤ 1 ∧ 1 - j ≤ gg) ∧ Aside0 (Kd.R k125 125 wr (w.heap.size + 1) (fun _ => True) (.slice Ao j co) ((ownV 4 d2).take j)) ∧ Aside0 (wr.heap[w.heap.size]? = some (.cells #[.int .i64 d0, .int .i64 4, .string d2, .int .i64 d3, .int .i64 d4, .slice A5 n5 c5, .slice A6 n6 c6, .slice A7 n7 c7] 134 (0, 0))) ∧ Aside0 (Below w.heap.size w wr))
    case atStart =>
      have hs1 : (w.alloc (.cells #[.int .i64 d0, .int .i64 4, .string d2, .int .i64 d3, .int .i64 d4, .slice A5 n5 c5, .slice A6 n6 c6, .slice A7 n7 c7] 134)).heap.size = w.heap.size + 1 := by simp
      have hs2 : ((w.alloc (.cells #[.int .i64 d0, .int .i64 4, .string d2, .int .i64 d3, .int .i64 d4, .slice A5 n5 c5, .slice A6 n6 c6, .slice A7 n7 c7] 134)).alloc (.cells #[.string ⟨#[]⟩, .string ⟨#[118, 109, 113]⟩, .string ⟨#[118, 113]⟩, .string ⟨#[109, 113]⟩, .string ⟨#[113]⟩] 9)).heap.size = w.heap.size + 1 + 1 := by simp
      have ho := var_lit ((w.alloc (.cells #[.int .i64 d0, .int .i64 4, .string d2, .int .i64 d3, .int .i64 d4, .slice A5 n5 c5, .slice A6 n6 c6, .slice A7 n7 c7] 134)).alloc (.cells #[.string ⟨#[]⟩, .string ⟨#[118, 109, 113]⟩, .string ⟨#[118, 113]⟩, .string ⟨#[109, 113]⟩, .string ⟨#[113]⟩] 9)) (w.heap.size + 1) (by rw [hs2]; omega) [] (by simp)
      rw [hs2] at ho
      exact ⟨0, _, _, rfl, rfl, ⟨by omega⟩, ⟨ho⟩, ⟨by first | exact blk_alloc (blk_alloc (blk_new w _) _) _ | simp⟩, ⟨(((Below.refl _ _).alloc (Nat.le_refl _) _).alloc (by rw [hs1]; omega) _).alloc (by rw [hs2]; omega) _⟩⟩
    case round =>
      obtain ⟨wo, rfl⟩ : ∃ wo : World, wo = wr := ⟨_, rfl⟩
      obtain ⟨j, Ao, co, rfl, rfl, HK, HO, BKT, HB⟩ := hrel
      have q2 : wo.cell? ⟨w.heap.size, 2, none⟩ = some (.string d2) := (blk_cell BKT.out 2).trans rfl
      by_cases hj : j < 1
      · have hzj : j = 0 := by omega
        rcases hzj with rfl
        · have hw : IntKind.i64.wrap 1 = 1 := by rw [IntKind.wrap_i64]; rfl
          have hex : (⟨#[113]⟩ : ByteArray).extract 0 1 = ⟨#[113]⟩ := rfl
          have HO1 := Aside0.mk (show Kd.R k125 125 wo (w.heap.size + 1) (fun _ => True) (.slice Ao 0 co) [] from HO.out)
          go_wp2_with fail
          go_region_held3 (fun w' => w'.cell? ⟨w.heap.size, 2, none⟩ = some (.string d2)) (go_keep) (fail)
          all_goals
            try rw [hex]
            have BX := Aside0.mk (blk_drew (blk_new wo (.cells #[.string (d2 ++ ⟨#[113]⟩), .int .i64 3, .int .i64 2, .int .i64 0] 125)))
            have HX := Aside0.mk (below_drew ((Below.refl wo.heap.size wo).alloc (Nat.le_refl _) (.cells #[.string (d2 ++ ⟨#[113]⟩), .int .i64 3, .int .i64 2, .int .i64 0] 125)))
            revert BX HX
            generalize (wo.alloc (.cells #[.string (d2 ++ ⟨#[113]⟩), .int .i64 3, .int .i64 2, .int .i64 0] 125)).drew = wx
            intro BX HX
            have HOx := Aside0.mk (Kd.R_below HO1.out HX.out)
            have HBx := Aside0.mk (below_step HB.out HX.out)
            have HZx := Aside0.mk (blk_lt BKT.out)
            have BTx := Aside0.mk (blk_below BKT.out HX.out)
            clear q2
            have x0 : wx.cell? ⟨wo.heap.size, 0, none⟩ = some (.string (d2 ++ ⟨#[113]⟩)) := (blk_cell BX.out 0).trans rfl
            have x1 : wx.cell? ⟨wo.heap.size, 1, none⟩ = some (.int .i64 3) := (blk_cell BX.out 1).trans rfl
            have x2 : wx.cell? ⟨wo.heap.size, 2, none⟩ = some (.int .i64 2) := (blk_cell BX.out 2).trans rfl
            have x3 : wx.cell? ⟨wo.heap.size, 3, none⟩ = some (.int .i64 0) := (blk_cell BX.out 3).trans rfl
            have HXs := HX
            have HOz := HOx
            have BTz := BTx
            have HXz := Aside0.mk (HX.out.mono (show w.heap.size + 1 ≤ wo.heap.size from HZx.out))
            go_wp2_with ((with_reducible refine gate_builtin (b := .append) (xs := #[.tmp 32, .tmp 34]) rfl ?_); at_builtin; refine Kd.R_append k125 (w0 := wo) (W := wx) (w.heap.size + 1) ?_ (.tmp 32) (.tmp 34) 65 125 _ 40 ?_ Try.underlying65 info125 ?_ ?_ ?_ (.slice Ao 0 co) [] (mkV d2 113) [.string (d2 ++ ⟨#[113]⟩), .int .i64 3, .int .i64 2, .int .i64 0] (fun _ => True) (fun _ => False) ?_ ?_ ?_ ?_ ?_ ?_ ?_ ?_ ?_ ?_; rfl; rfl; rfl; decide; omega; rfl; (first | rfl | simp [Act.eval]); exact k125_mkM _ _ _ (mkV d2 113); exact (fun _ hk => hk.elim); exact (fun _ _ => trivial); exact HOz.out; exact HXz.out; (have h1 := below_size HXs.out; have h2 := HZx.out; omega); simp; intro v1 w2 ho hb hg ha; have BK3 := Aside0.mk (blk_grown BTz.out hg (fun e => by have := Kd.R_base HOz.out _ e.symm; omega)); clear hg ha; obtain ⟨A9, c9, e9⟩ := Kd.R_slice ho; have e9 : v1 = .slice A9 1 c9 := e9; subst e9; have HO3 := Aside0.mk ho; have HB3 := Aside0.mk (HB.out.trans (hb.mono (Nat.le_succ _))); clear ho hb)
            go_roundg (1 - 1)
            case measure => have := HK.out; omega
            case rel => exact ⟨1, A9, c9, rfl, by go_num, ⟨by omega⟩, HO3, BK3, HB3⟩
      · have hn : j = 1 := by have := HK.out; omega
        subst hn
        have HO1 := Aside0.mk (show Kd.R k125 125 wo (w.heap.size + 1) (fun _ => True) (.slice Ao 1 co) (ownV 4 d2) from HO.out)
        go_wp2
        go_ret
        exact ⟨_, rfl, Kd.R_lower HO1.out (by omega), HB.out⟩
/-! ### LIB allvars -/
/-- What all blocks have as their own. -/
def ownsV (N : List S134) : List S125 := ((N.filter isCall).map (fun n => ownV n.f1 n.f2)).flatten
def allV (V : List S125) (N : List S134) : List S125 := V ++ ownsV N
def CallsOk (N : List S134) : Prop := ∀ x ∈ N, x.f0 = 11 → (1 ≤ x.f1 ∧ x.f1 ≤ 4)
theorem ownsV_take (N : List S134) (i : Nat) (hi : i < N.length) : ownsV (N.take (i + 1)) = ownsV (N.take i) ++ (if (rd_T134 N (i : Int)).f0 = 11 then ownV (rd_T134 N (i : Int)).f1 (rd_T134 N (i : Int)).f2 else []) := by
  have e : rd_T134 N (i : Int) = N[i] := by simp [rd_T134, List.getD_eq_getElem?_getD, hi]
  rw [e, List.take_succ_eq_append_getElem hi]
  unfold ownsV
  rw [List.filter_append, List.map_append, List.flatten_append]
  by_cases h : N[i].f0 = 11 <;> simp [isCall, h]
theorem ownV_len (op : Int) (s : ByteArray) : (ownV op s).length ≤ 3 := by
  unfold ownV letters
  rw [List.length_map]
  split
  · simp
  · split
    · simp
    · split <;> simp
theorem flat_len {α : Type} (L : List (List α)) (k : Nat) (h : ∀ l ∈ L, l.length ≤ k) : L.flatten.length ≤ k * L.length := by
  induction L with
  | nil => simp
  | cons a L ih =>
    have h1 := h a (List.mem_cons_self ..)
    have h2 := ih (fun l hl => h l (List.mem_cons_of_mem _ hl))
    rw [List.flatten_cons, List.length_append, List.length_cons, Nat.mul_succ]
    omega
theorem ownsV_len (N : List S134) : (ownsV N).length ≤ 3 * N.length := by
  have h1 := flat_len ((N.filter isCall).map (fun n => ownV n.f1 n.f2)) 3 (fun l hl => by
    obtain ⟨n, _, rfl⟩ := List.mem_map.1 hl
    exact ownV_len _ _)
  rw [List.length_map] at h1
  have h2 := List.length_filter_le isCall N
  have h3 : 3 * (N.filter isCall).length ≤ 3 * N.length := Nat.mul_le_mul_left 3 h2
  exact Nat.le_trans h1 h3
theorem varK_M {w : World} {base : Nat} {okp : Nat → Prop} : ∀ (x : S125) (cs : List Value), k125.K w x cs → k125.M w base okp x cs := fun x cs h => by
  rw [k125_open h]
  exact k125_mkM _ _ _ x
set_option maxHeartbeats 4000000 in
set_option maxRecDepth 100000 in
theorem spec_l5Owns.w (g : Nat) (V : List S125) (N : List S134) (B : List Int) (A0 A1 A2 : Option Addr) (c0 c1 c2 : Nat) (w : World) (h : TreeAt w g V N B A0 c0 A1 c1 A2 c2) (hN : N.length ≤ 1048576) (hco : CallsOk N) (hnn : ∀ x ∈ N, x.f2.size ≤ 1048576) :
    Calls Try.prog 151 #[.pointer (some ⟨g, 0, none⟩)] w fun e w' => ∃ v : Value, e = .returned v ∧ Kd.R k125 125 w' w.heap.size (fun _ => True) v (ownsV N) ∧ Below w.heap.size w w' := by
  have hu := Try.underlying134
  have HT := Aside0.mk h
  have HCO := Aside0.mk hco
  have HNN := Aside0.mk hnn
  clear h hco hnn
  go_enter Try.func151, Try.ntmps151
  go_wp2
  go_loopg [3, 4] N.length (fun gg s3 s4 wr => ∃ (i m : Nat) (Ao : Option Addr) (co : Nat), s3 = .slice Ao m co ∧ s4 = .int .i64 (i : Int) ∧ Aside0 (i ≤ N.length ∧ N.length - i ≤ gg) ∧ Aside0 ((ownsV (N.take i)).length = m) ∧ Aside0 (Kd.R k125 125 wr w.heap.size (fun _ => True) (.slice Ao m co) (ownsV (N.take i))) ∧ Aside0 (Below w.heap.size w wr))
  case atStart => exact ⟨0, 0, _, _, rfl, rfl, ⟨by omega⟩, ⟨rfl⟩, ⟨var_lit w w.heap.size (Nat.le_refl _) [] (by simp)⟩, ⟨(Below.refl _ _).alloc (Nat.le_refl _) _⟩⟩
  case round =>
    obtain ⟨wo, rfl⟩ : ∃ wo : World, wo = wr := ⟨_, rfl⟩
    obtain ⟨i, m, Ao, co, rfl, rfl, HK, HM, HO, HB⟩ := hrel
    have hT := HT.out.below HB.out
    have q1 : wo.cell? ⟨g, 1, none⟩ = some (.slice A1 N.length c1) := (blk_cell hT.blk 1).trans rfl
    by_cases hlt : i < N.length
    · have hltz : (i : Int) < (N.length : Int) := by omega
      have hd : decide ((i : Int) < (N.length : Int)) = true := decide_eq_true hltz
      have hd' : decide (i < N.length) = true := decide_eq_true hlt
      have hltq := eq_true hltz
      have h0q : (0 ≤ (i : Int)) = True := eq_true (by omega)
      obtain ⟨ad, A5, c5, A6, c6, A7, c7, rfl, n0, n1, n2, n3, n4, n5, n6, n7, l5, r5, l6, r6, l7, r7⟩ := at_T134 hT.n (i : Int) (by omega) hltz
      rw [Int.toNat_natCast] at n0 n1 n2 n3 n4 n5 n6 n7
      have HC := Aside0.mk (ownsV_take N i hlt)
      have HC1 := Aside0.mk (HCO.out _ (rdN_mem hlt))
      have HN1 := Aside0.mk (HNN.out _ (rdN_mem hlt))
      clear r5 r6 r7 l5 l6 l7 hT
      revert n0 n1 n2 n3 n4 n5 n6 n7 HC HC1 HN1
      generalize rd_T134 N (i : Int) = nd
      obtain ⟨d0, d1, d2, d3, d4, F5, F6, F7⟩ := nd
      intro n0 n1 n2 n3 n4 n5 n6 n7 HC HC1 HN1
      have hm : m ≤ 3145728 := by have h1 := HM.out; have h2 := ownsV_len (N.take i); rw [List.length_take] at h2; omega
      have HHM := Aside0.mk hm
      clear hm
      by_cases hk : d0 = 11
      · subst hk
        have hop := HC1.out rfl
        simp only at hop
        go_wp2_with fail
        refine (o_l5Own 11 d1 d2 d3 d4 A5 F5.length c5 A6 F6.length c6 A7 F7.length c7 hop HN1.out _).mono ?_
        rintro e w1 ⟨v, rfl, ho, hb⟩
        obtain ⟨Av, cv, ev⟩ := Kd.R_slice ho
        subst ev
        have HRV := Aside0.mk (Kd.R_reads' ho).2.2
        have HVL := Aside0.mk (ownV_len d1 d2)
        have HB1 := Aside0.mk (below_step HB.out hb)
        have HO1 := Aside0.mk (Kd.R_below HO.out hb)
        have HCS := Aside0.mk (show ownsV (N.take (i + 1)) = ownsV (N.take i) ++ ownV d1 d2 by rw [HC.out]; simp)
        clear ho hb HC HO hop n0 n1 n2 n3 n4 n5 n6 n7
        revert HRV HVL HCS
        generalize ownV d1 d2 = ys
        intro HRV HVL HCS
        revert HM HO1 HCS
        generalize ownsV (N.take i) = xs
        intro HM HO1 HCS
        go_wp2_with ((with_reducible refine gate_builtin (b := .append) (xs := #[.tmp 24, .tmp 32]) rfl ?_); at_builtin; refine Kd.R_append_rows k125 (w0 := w) (W := w1) (Rr := k125.K w1) w.heap.size rfl (.tmp 24) (.tmp 32) 65 125 _ 40 rfl Try.underlying65 info125 rfl (by decide) (by omega) (.slice Ao m co) xs ys Av ys.length cv (fun _ => True) (fun _ => False) rfl rfl HO1.out HRV.out varK_M (fun _ hk => hk.elim) (fun _ _ => trivial) HB1.out (below_size HB1.out) ?_ ?_; (have h1 := HM.out; have h2 := HHM.out; have h3 := HVL.out; omega); intro v1 w2 ho hb hg ha; clear hg ha; obtain ⟨A9, c9, e9⟩ := Kd.R_slice ho; rw [List.length_append, HM.out] at e9; subst e9; have HO3 := Aside0.mk ho; have HB3 := Aside0.mk hb; clear ho hb)
        go_roundg (N.length - (i + 1))
        case measure => have := HK.out; omega
        case rel => exact ⟨i + 1, m + ys.length, A9, c9, rfl, by go_num, ⟨by omega⟩, ⟨by rw [HCS.out, List.length_append, HM.out]⟩, ⟨by rw [HCS.out]; exact HO3.out⟩, HB3⟩
      · have e1 : (d0 == 11) = false := by simp [hk]
        have e2 : decide (d0 = 11) = false := decide_eq_false hk
        have HCS := Aside0.mk (show ownsV (N.take (i + 1)) = ownsV (N.take i) by rw [HC.out, if_neg hk, List.append_nil])
        go_wp2
        go_roundg (N.length - (i + 1))
        case measure => have := HK.out; omega
        case rel => exact ⟨i + 1, m, Ao, co, rfl, by go_num, ⟨by omega⟩, ⟨by rw [HCS.out, HM.out]⟩, ⟨by rw [HCS.out]; exact HO.out⟩, HB⟩
    · have hd : decide ((i : Int) < (N.length : Int)) = false := decide_eq_false (by omega)
      have hd' : decide (i < N.length) = false := decide_eq_false hlt
      have HLt := Aside0.mk (show N.take i = N from List.take_of_length_le (by omega))
      clear hT
      go_wp2
      go_ret
      exact ⟨_, rfl, by have := HO.out; rw [HLt.out] at this; exact this, HB.out⟩
set_option maxHeartbeats 4000000 in
set_option maxRecDepth 100000 in
theorem spec_l5All.w (g : Nat) (V : List S125) (N : List S134) (B : List Int) (A0 A1 A2 : Option Addr) (c0 c1 c2 : Nat) (w : World) (h : TreeAt w g V N B A0 c0 A1 c1 A2 c2) (hV : V.length ≤ 1048576) (hN : N.length ≤ 1048576) (hco : CallsOk N) (hnn : ∀ x ∈ N, x.f2.size ≤ 1048576) :
    Calls Try.prog 97 #[.pointer (some ⟨g, 0, none⟩)] w fun e w' => ∃ v : Value, e = .returned v ∧ Kd.R k125 125 w' w.heap.size (fun _ => True) v (allV V N) ∧ Below w.heap.size w w' := by
  have q0 : w.cell? ⟨g, 0, none⟩ = some (.slice A0 V.length c0) := (blk_cell h.blk 0).trans rfl
  have HT := Aside0.mk h
  have HCO := Aside0.mk hco
  have HNN := Aside0.mk hnn
  have HOL := Aside0.mk (ownsV_len N)
  have HLV := Aside0.mk h.v
  clear h hco hnn
  go_enter Try.func97, Try.ntmps97
  have HE := Aside0.mk (var_lit w w.heap.size (Nat.le_refl _) [] (by simp))
  have HB1 := Aside0.mk ((Below.refl w.heap.size w).alloc (Nat.le_refl _) (.cells #[] 125))
  have q0' : (w.alloc (.cells #[] 125)).cell? ⟨g, 0, none⟩ = some (.slice A0 V.length c0) := pw_cell_below HB1.out q0
  go_wp2_with ((with_reducible refine gate_builtin (b := .append) (xs := #[.tmp 3, .tmp 7]) rfl ?_); at_builtin; refine Kd.R_append_rows k125 (w0 := w) (Rr := k125.K _) w.heap.size rfl (.tmp 3) (.tmp 7) 65 125 _ 40 rfl Try.underlying65 info125 rfl (by decide) (by omega) (.slice (some ⟨w.heap.size, 0, none⟩) 0 0) [] V A0 V.length c0 (fun _ => True) (fun _ => False) rfl rfl HE.out ?_ varK_M (fun _ hk => hk.elim) (fun _ _ => trivial) HB1.out (below_size HB1.out) ?_ ?_; exact Kd.C_below HLV.out HB1.out; (simp only [List.length_nil, Nat.zero_add]; omega); intro v1 w2 ho hb hg ha; clear hg ha; obtain ⟨A9, c9, e9⟩ := Kd.R_slice ho; rw [List.nil_append] at ho e9; subst e9; have HO3 := Aside0.mk ho; have HB3 := Aside0.mk hb; clear ho hb)
  refine (spec_l5Owns.w g V N B A0 A1 A2 c0 c1 c2 _ (HT.out.below HB3.out) hN HCO.out HNN.out).mono ?_
  rintro e w4 ⟨v, rfl, ho, hb⟩
  obtain ⟨Av, cv, ev⟩ := Kd.R_slice ho
  subst ev
  have HRV := Aside0.mk (Kd.R_reads' ho).2.2
  have HB4 := Aside0.mk (below_step HB3.out hb)
  have HO4 := Aside0.mk (Kd.R_below HO3.out hb)
  clear ho hb q0 q0'
  go_wp2_with ((with_reducible refine gate_builtin (b := .append) (xs := #[.tmp 8, .tmp 10]) rfl ?_); at_builtin; refine Kd.R_append_rows k125 (w0 := w) (W := w4) (Rr := k125.K w4) w.heap.size rfl (.tmp 8) (.tmp 10) 65 125 _ 40 rfl Try.underlying65 info125 rfl (by decide) (by omega) (.slice A9 V.length c9) V (ownsV N) Av (ownsV N).length cv (fun _ => True) (fun _ => False) rfl rfl HO4.out HRV.out varK_M (fun _ hk => hk.elim) (fun _ _ => trivial) HB4.out (below_size HB4.out) ?_ ?_; (have h1 := HOL.out; omega); intro v1 w5 ho hb hg ha; clear hg ha; have HO5 := Aside0.mk ho; have HB5 := Aside0.mk hb; clear ho hb)
  go_ret
  exact ⟨_, rfl, HO5.out, HB5.out⟩
/-! ### LIB allimpl -/
set_option maxHeartbeats 2000000 in
set_option maxRecDepth 100000 in
theorem impl_calls.h (v0 v2 : Value) (A1 : Option Addr) (c1 : Nat) (N : List S134) (hN : N.length ≤ 1048576) (w : World) (hr : Kd.C k134 w A1 N.length N) :
    Calls Try.prog 217 #[.agg #[v0, .slice A1 N.length c1, v2]] w fun e w' => ∃ (A : Option Addr) (c : Nat) (rows : List (List Value)), e = .returned (.slice A rows.length c) ∧ (Kd.raw 8).C w' A rows.length rows ∧ (∀ x ∈ rows, RowOk x) ∧ rows.map headR = (N.filter isCall).map headN ∧ Typed w' A ∧ Below w.heap.size w w' := by
  have hu := Try.underlying68
  have HR := Aside0.mk hr
  clear hr
  go_enter Try.func217, Try.ntmps217
  go_wp2_with fail
  have HB0 := Aside0.mk ((Below.refl _ w).alloc (Nat.le_refl _) (.cells #[v0, .slice A1 N.length c1, v2] 68))
  refine (slices_Clone_Node.w A1 c1 N _ (Kd.C_below HR.out HB0.out) hN).mono ?_
  rintro e w1 ⟨v, rows, rfl, ho, hok, hks, hb⟩
  have HB1 := Aside0.mk (below_step HB0.out hb)
  have HO := Aside0.mk (Kd.R_lower ho (by simp : w.heap.size ≤ _))
  have HKS := Aside0.mk hks
  have HOK := Aside0.mk hok
  have hrl : rows.length = N.length := by have := congrArg List.length hks; simpa using this
  have hrn : rows.length ≤ 1048576 := by omega
  clear ho hok hks hb
  go_wp2_with fail
  refine (slices_DeleteFunc_Node.w 222 _ (fun c => (headR c).1 != 11) (enters_of_func Try.func222 (by kernel_rfl) rfl) (fun W c hc => impl_calls1.w W c hc) v rows w _ HOK.out HO.out HB1.out hrn).mono ?_
  rintro e w2 ⟨A, c, rfl, hC, hty, hb⟩
  have HTY := Aside0.mk hty
  clear hty
  have hkl : keepL (fun c => (headR c).1 != 11) rows rows.length = rows.filter (fun c => !((headR c).1 != 11)) := by unfold keepL; rw [List.take_length]
  rw [hkl] at hC
  have hl : keepN (fun c => (headR c).1 != 11) rows rows.length = (rows.filter (fun c => !((headR c).1 != 11))).length := by unfold keepN; rw [List.take_length]
  rw [hl] at hC ⊢
  have HC := Aside0.mk hC
  have HH := Aside0.mk (show (rows.filter (fun c => !((headR c).1 != 11))).map headR = (N.filter isCall).map headN by
    have h1 : (rows.filter (fun c => !((headR c).1 != 11))).map headR = (rows.map headR).filter (fun h => h.1 == 11) := by
      rw [List.filter_map]
      congr 1
      apply List.filter_congr
      intro c _
      simp [Function.comp, bne]
    have h2 : (N.filter isCall).map headN = (N.map headN).filter (fun h => h.1 == 11) := by
      rw [List.filter_map]
      rfl
    rw [h1, h2, HKS.out])
  have HKO := Aside0.mk (fun x (hx : x ∈ rows.filter (fun c => !((headR c).1 != 11))) => HOK.out x ((List.mem_filter.1 hx).1))
  clear hC hkl hl
  revert HC HH HKO
  generalize rows.filter (fun c => !((headR c).1 != 11)) = kept
  intro HC HH HKO
  go_wp2
  go_ret
  exact ⟨A, c, kept, rfl, HC.out, HKO.out, HH.out, HTY.out, hb⟩
def ownsR (rows : List (List Value)) : List S125 := (rows.map (fun c => ownV (headR c).2.1 (headR c).2.2)).flatten
theorem ownsR_eq {rows : List (List Value)} {N : List S134} (h : rows.map headR = (N.filter isCall).map headN) : ownsR rows = ownsV N := by
  have h1 : rows.map (fun c => ownV (headR c).2.1 (headR c).2.2) = (rows.map headR).map (fun h => ownV h.2.1 h.2.2) := by rw [List.map_map]; rfl
  have h2 : (N.filter isCall).map (fun n => ownV n.f1 n.f2) = ((N.filter isCall).map headN).map (fun h => ownV h.2.1 h.2.2) := by rw [List.map_map]; rfl
  unfold ownsR ownsV
  rw [h1, h2, h]
theorem ownsR_take (rows : List (List Value)) (i : Nat) (c : List Value) (h : rows[i]? = some c) : ownsR (rows.take (i + 1)) = ownsR (rows.take i) ++ ownV (headR c).2.1 (headR c).2.2 := by
  obtain ⟨hi, rfl⟩ := List.getElem?_eq_some_iff.1 h
  unfold ownsR
  rw [List.take_succ_eq_append_getElem hi, List.map_append, List.flatten_append]
  simp
theorem ownsR_len (rows : List (List Value)) : (ownsR rows).length ≤ 3 * rows.length := by
  have h1 := flat_len (rows.map (fun c => ownV (headR c).2.1 (headR c).2.2)) 3 (fun l hl => by
    obtain ⟨n, _, rfl⟩ := List.mem_map.1 hl
    exact ownV_len _ _)
  rw [List.length_map] at h1
  exact h1
theorem head_ok {rows : List (List Value)} {N : List S134} (h : rows.map headR = (N.filter isCall).map headN) (hco : CallsOk N) (hnn : ∀ x ∈ N, x.f2.size ≤ 1048576) {c : List Value} (hc : c ∈ rows) : (1 ≤ (headR c).2.1 ∧ (headR c).2.1 ≤ 4) ∧ (headR c).2.2.size ≤ 1048576 := by
  have h1 : headR c ∈ (N.filter isCall).map headN := by rw [← h]; exact List.mem_map.2 ⟨c, hc, rfl⟩
  obtain ⟨n, hn, e⟩ := List.mem_map.1 h1
  obtain ⟨hn1, hn2⟩ := List.mem_filter.1 hn
  rw [← e]
  exact ⟨hco n hn1 (by simpa [isCall] using hn2), hnn n hn1⟩
set_option maxHeartbeats 4000000 in
set_option maxRecDepth 100000 in
theorem impl_owns.w (v0 v2 : Value) (A1 : Option Addr) (c1 : Nat) (N : List S134) (hN : N.length ≤ 1048576) (hco : CallsOk N) (hnn : ∀ x ∈ N, x.f2.size ≤ 1048576) (w : World) (hr : Kd.C k134 w A1 N.length N) :
    Calls Try.prog 199 #[.agg #[v0, .slice A1 N.length c1, v2]] w fun e w' => ∃ v : Value, e = .returned v ∧ Kd.R k125 125 w' w.heap.size (fun _ => True) v (ownsV N) ∧ Below w.heap.size w w' := by
  have hut := Try.underlying68
  have hu := Try.underlying134
  have HR := Aside0.mk hr
  have HCO := Aside0.mk hco
  have HNN := Aside0.mk hnn
  clear hr hco hnn
  go_enter Try.func199, Try.ntmps199
  have hs1 : (w.alloc (.cells #[v0, .slice A1 N.length c1, v2] 68)).heap.size = w.heap.size + 1 := by simp
  have HE := Aside0.mk (var_lit (w.alloc (.cells #[v0, .slice A1 N.length c1, v2] 68)) w.heap.size (by rw [hs1]; omega) [] (by simp))
  rw [hs1] at HE
  have HB0 := Aside0.mk (((Below.refl w.heap.size w).alloc (Nat.le_refl _) (.cells #[v0, .slice A1 N.length c1, v2] 68)).alloc (by rw [hs1]; omega) (.cells #[] 125))
  clear hs1
  go_wp2_with fail
  refine (impl_calls.h v0 v2 A1 c1 N hN _ (Kd.C_below HR.out HB0.out)).mono ?_
  rintro e w1 ⟨A, c, rows, rfl, hC, hok, hh, hty, hb⟩
  have HTY := Aside0.mk hty
  clear hty
  have HB1 := Aside0.mk (below_step HB0.out hb)
  have HO1 := Aside0.mk (Kd.R_below HE.out hb)
  have HRL : rows.length ≤ N.length := by
    have h1 := congrArg List.length hh
    rw [List.length_map, List.length_map] at h1
    have h2 := List.length_filter_le isCall N
    omega
  have HC := Aside0.mk hC
  have HOK := Aside0.mk hok
  have HHD := Aside0.mk hh
  have hcm := Kd.C_max hC
  clear hC hok hh hb HE HB0
  go_wp2
  go_loopg [3, 10] rows.length (fun gg s3 s10 wr => ∃ (i m : Nat) (Ao : Option Addr) (co : Nat), s3 = .slice Ao m co ∧ s10 = .int .i64 (i : Int) ∧ Aside0 (i ≤ rows.length ∧ rows.length - i ≤ gg) ∧ Aside0 ((ownsR (rows.take i)).length = m) ∧ Aside0 (Kd.R k125 125 wr w.heap.size (fun _ => True) (.slice Ao m co) (ownsR (rows.take i))) ∧ Aside0 (Typed wr A) ∧ Aside0 ((Kd.raw 8).C wr A rows.length rows) ∧ Aside0 (Below w.heap.size w wr))
  case atStart => exact ⟨0, 0, _, _, rfl, rfl, ⟨by omega⟩, ⟨rfl⟩, HO1, HTY, HC, HB1⟩
  case round =>
    clear HC HO1 HB1 HTY
    obtain ⟨wo, rfl⟩ : ∃ wo : World, wo = wr := ⟨_, rfl⟩
    obtain ⟨i, m, Ao, co, rfl, rfl, HK, HM, HO, HTY, HC, HB⟩ := hrel
    by_cases hlt : i < rows.length
    · have hltz : (i : Int) < (rows.length : Int) := by omega
      have hd : decide ((i : Int) < (rows.length : Int)) = true := decide_eq_true hltz
      have hd' : decide (i < rows.length) = true := decide_eq_true hlt
      have hltq := eq_true hltz
      have h0q : (0 ≤ (i : Int)) = True := eq_true (by omega)
      obtain ⟨ad, d0, d1, d2, d3, d4, A5, n5, c5, A6, n6, c6, A7, n7, c7, rfl, hx, q0, q1, q2, q3, q4, q5, q6, q7⟩ := raw_at HC.out HOK.out i hlt
      have HTK := Aside0.mk (ownsR_take rows i _ hx)
      have hho := head_ok HHD.out HCO.out HNN.out (List.mem_of_getElem? hx)
      have hop : 1 ≤ d1 ∧ d1 ≤ 4 := hho.1
      have hsz : d2.size ≤ 1048576 := hho.2
      have HCS := Aside0.mk (show ownsR (rows.take (i + 1)) = ownsR (rows.take i) ++ ownV d1 d2 from HTK.out)
      have hm : m ≤ 3145728 := by have h1 := HM.out; have h2 := ownsR_len (rows.take i); rw [List.length_take] at h2; omega
      have HHM := Aside0.mk hm
      clear hx hho HTK hm
      go_wp2_with fail
      have HA := Aside0.mk ((Below.refl wo.heap.size wo).alloc (Nat.le_refl _) (.cells #[.int .i64 d0, .int .i64 d1, .string d2, .int .i64 d3, .int .i64 d4, .slice A5 n5 c5, .slice A6 n6 c6, .slice A7 n7 c7] 134))
      refine (o_ownOf d0 d1 d2 d3 d4 A5 n5 c5 A6 n6 c6 A7 n7 c7 hop hsz _).mono ?_
      rintro e w2 ⟨v, rfl, ho, hb⟩
      obtain ⟨Av, cv, ev⟩ := Kd.R_slice ho
      subst ev
      have HRV := Aside0.mk (Kd.R_reads' ho).2.2
      have HVL := Aside0.mk (ownV_len d1 d2)
      have HX2 := Aside0.mk (below_step HA.out hb)
      have HB2 := Aside0.mk (below_step HB.out HX2.out)
      have HO2 := Aside0.mk (Kd.R_below HO.out HX2.out)
      have HC2 := Aside0.mk (Kd.C_below HC.out HX2.out)
      have HTY2 := Aside0.mk (Typed.below HTY.out HX2.out)
      clear ho hb HO HB HC HX2 HA HTY q0 q1 q2 q3 q4 q5 q6 q7 hop hsz
      revert HCS HRV HVL
      generalize ownV d1 d2 = ys
      intro HCS HRV HVL
      revert HM HO2 HCS
      generalize ownsR (rows.take i) = xs
      intro HM HO2 HCS
      go_wp2_with ((with_reducible refine gate_builtin (b := .append) (xs := #[.tmp 14, .tmp 16]) rfl ?_); at_builtin; refine Kd.R_append_rows k125 (w0 := w) (W := w2) (Rr := k125.K w2) w.heap.size ?_ (.tmp 14) (.tmp 16) 65 125 _ 40 ?_ Try.underlying65 info125 ?_ ?_ ?_ (.slice Ao m co) xs ys Av ys.length cv (fun _ => True) (fun _ => False) ?_ ?_ ?_ ?_ ?_ ?_ ?_ ?_ ?_ ?_ ?_; rfl; rfl; rfl; decide; omega; rfl; rfl; exact HO2.out; exact HRV.out; exact varK_M; exact (fun _ hk => hk.elim); exact (fun _ _ => trivial); exact HB2.out; exact below_size HB2.out; (have h1 := HM.out; have h2 := HHM.out; have h3 := HVL.out; omega); intro v1 w3 ho hb hg ha; have HNE := Aside0.mk (typed_ne HTY2.out HO2.out); have HC3 := Aside0.mk (raw_grown HC2.out hg HNE.out); have HTY3 := Aside0.mk (Typed.grown HTY2.out hg HNE.out); clear hg ha; obtain ⟨A9, c9, e9⟩ := Kd.R_slice ho; rw [List.length_append, HM.out] at e9; subst e9; have HO3 := Aside0.mk ho; have HB3 := Aside0.mk hb; clear ho hb)
      go_roundg (rows.length - (i + 1))
      case measure => have := HK.out; omega
      case rel => exact ⟨i + 1, m + ys.length, A9, c9, rfl, by go_num, ⟨by omega⟩, ⟨by rw [HCS.out, List.length_append, HM.out]⟩, ⟨by rw [HCS.out]; exact HO3.out⟩, HTY3, HC3, HB3⟩
    · have hd : decide ((i : Int) < (rows.length : Int)) = false := decide_eq_false (by omega)
      have hd' : decide (i < rows.length) = false := decide_eq_false hlt
      have HLt := Aside0.mk (show rows.take i = rows from List.take_of_length_le (by omega))
      go_wp2
      go_ret
      exact ⟨_, rfl, by have := HO.out; rw [HLt.out, ownsR_eq HHD.out] at this; exact this, HB.out⟩
/-! ### LIB whole -/
set_option maxHeartbeats 2000000 in
set_option maxRecDepth 100000 in
theorem slices_Clone_Var.w (A : Option Addr) (c : Nat) (V : List S125) (w : World) (hr : Kd.C k125 w A V.length V) (hV : V.length ≤ 1048576) :
    Calls Try.prog 198 #[.slice A V.length c] w fun e w' => ∃ v : Value, e = .returned v ∧ Kd.R k125 125 w' w.heap.size (fun _ => True) v V ∧ Below w.heap.size w w' := by
  have hq := fun (w : World) => Lib.run_eql_slice_nil (P := Try.prog) w 65 125 A V.length c 0 0 Try.underlying65
  have HR := Aside0.mk hr
  cases A with
  | none =>
    have hz : V.length = 0 := by
      by_cases h0 : 0 < V.length
      · obtain ⟨ad, e, _⟩ := hr.2.2 h0; cases e
      · omega
    have hz' : V = [] := List.length_eq_zero_iff.1 hz
    subst hz'
    clear hr hz
    simp only [Option.isNone_none, List.length_nil] at hq
    go_enter Try.func198, Try.ntmps198
    go_wp2_with fail
    go_ret
    exact ⟨_, rfl, Kd.R_nil _ _ _ _ _, Below.refl _ _⟩
  | some ad =>
    clear hr
    simp only [Option.isNone_some] at hq
    have HE := Aside0.mk (var_lit w w.heap.size (Nat.le_refl _) [] (by simp))
    have HV := Aside0.mk hV
    go_enter Try.func198, Try.ntmps198
    have HB1 := Aside0.mk ((Below.refl w.heap.size w).alloc (Nat.le_refl _) (.cells #[] 125))
    go_wp2_with ((with_reducible refine gate_builtin (b := .append) (xs := #[.tmp 5, .tmp 6]) rfl ?_); at_builtin; refine Kd.R_append_rows k125 (w0 := w) (Rr := k125.K (w.alloc (.cells #[] 125))) w.heap.size ?_ (.tmp 5) (.tmp 6) 65 125 _ 40 ?_ Try.underlying65 info125 ?_ ?_ ?_ (.slice (some ⟨w.heap.size, 0, none⟩) 0 0) [] V (some ad) V.length c (fun _ => True) (fun _ => False) ?_ ?_ ?_ ?_ ?_ ?_ ?_ ?_ ?_ ?_ ?_; rfl; rfl; rfl; decide; omega; rfl; rfl; exact HE.out; exact Kd.C_below HR.out HB1.out; exact varK_M; exact (fun _ hk => hk.elim); exact (fun _ _ => trivial); exact HB1.out; exact below_size HB1.out; (have := HV.out; simp only [List.length_nil, Nat.zero_add]; omega); intro v1 w2 ho hb hg ha; clear hg ha; have HO := Aside0.mk ho; have HB := Aside0.mk hb; clear ho hb)
    go_ret
    exact ⟨_, rfl, by simpa using HO.out, HB.out⟩
set_option maxHeartbeats 4000000 in
set_option maxRecDepth 100000 in
theorem impl_whole.w (A0 : Option Addr) (c0 : Nat) (V : List S125) (v2 : Value) (A1 : Option Addr) (c1 : Nat) (N : List S134) (hV : V.length ≤ 1048576) (hN : N.length ≤ 1048576) (hco : CallsOk N) (hnn : ∀ x ∈ N, x.f2.size ≤ 1048576) (w : World) (hv : Kd.C k125 w A0 V.length V) (hr : Kd.C k134 w A1 N.length N) :
    Calls Try.prog 152 #[.agg #[.slice A0 V.length c0, .slice A1 N.length c1, v2]] w fun e w' => ∃ v : Value, e = .returned v ∧ Kd.R k125 125 w' w.heap.size (fun _ => True) v (allV V N) ∧ Below w.heap.size w w' := by
  have hut := Try.underlying68
  have hB0 := (Below.refl w.heap.size w).alloc (Nat.le_refl _) (.cells #[.slice A0 V.length c0, .slice A1 N.length c1, v2] 68)
  have HV := Aside0.mk (Kd.C_below hv hB0)
  have HR := Aside0.mk (Kd.C_below hr hB0)
  have HBB := Aside0.mk hB0
  have HCO := Aside0.mk hco
  have HNN := Aside0.mk hnn
  have HOL := Aside0.mk (ownsV_len N)
  have HK0 := Aside0.mk (blk_new w (.cells #[.slice A0 V.length c0, .slice A1 N.length c1, v2] 68))
  have HLT := Aside0.mk (show w.heap.size < (w.alloc (.cells #[.slice A0 V.length c0, .slice A1 N.length c1, v2] 68)).heap.size by simp)
  clear hv hr hco hnn hB0
  go_enter Try.func152, Try.ntmps152
  go_wp2_with fail
  go_region_held3 (fun w' => Below w.heap.size w w' ∧ Below (w.alloc (.cells #[.slice A0 V.length c0, .slice A1 N.length c1, v2] 68)).heap.size (w.alloc (.cells #[.slice A0 V.length c0, .slice A1 N.length c1, v2] 68)) w' ∧ w'.cell? ⟨w.heap.size, 0, none⟩ = some (.slice A0 V.length c0) ∧ w'.cell? ⟨w.heap.size, 1, none⟩ = some (.slice A1 N.length c1) ∧ w'.cell? ⟨w.heap.size, 2, none⟩ = some v2) (first | (refine ⟨below_drew HBB.out, below_drew (Below.refl _ _), ?_, ?_, ?_⟩ <;> go_keep) | exact ⟨z1, z2, z3, z4, z5⟩ | (go_split_ands; refine ⟨?_, ?_, ?_, ?_, ?_⟩ <;> first | exact pw_cell_below hb (by assumption) | exact below_step (by assumption) hb)) (first
    | (go_at_call 198; go_split_ands; refine (slices_Clone_Var.w A0 c0 V _ (Kd.C_below HV.out (by assumption)) hV).mono ?_; rintro e w' ⟨v, rfl, ho, hb⟩; obtain ⟨Ac, cc, ec⟩ := Kd.R_slice ho; subst ec; have HOC := Aside0.mk (Kd.R_lower (base' := (w.alloc (.cells #[.slice A0 V.length c0, .slice A1 N.length c1, v2] 68)).heap.size) ho (below_size (by assumption))); clear ho)
    | (go_at_call 199; go_split_ands; refine (impl_owns.w (.slice A0 V.length c0) v2 A1 c1 N hN HCO.out HNN.out _ (Kd.C_below HR.out (by assumption))).mono ?_; rintro e w' ⟨v, rfl, ho, hb⟩; obtain ⟨Ax, cx, ex⟩ := Kd.R_slice ho; subst ex; have HOO := Aside0.mk (Kd.R_lower (base' := (w.alloc (.cells #[.slice A0 V.length c0, .slice A1 N.length c1, v2] 68)).heap.size) ho (below_size (by assumption))); clear ho)
    | (go_split_ands; refine Kd.R_append_rows_step k125 (w0 := (w.alloc (.cells #[.slice A0 V.length c0, .slice A1 N.length c1, v2] 68))) (W := w') (Rr := k125.K w') (w.alloc (.cells #[.slice A0 V.length c0, .slice A1 N.length c1, v2] 68)).heap.size ?_ (.tmp 5) (.tmp 7) 65 125 _ 40 ?_ Try.underlying65 info125 ?_ ?_ ?_ (.slice Ac V.length cc) V (ownsV N) Ax (ownsV N).length cx (fun _ => True) (fun _ => False) ?_ ?_ ?_ ?_ ?_ ?_ ?_ ?_ ?_ ?_ ?_; rfl; rfl; rfl; decide; omega; rfl; rfl; (first | exact HOC.out | exact Kd.R_below HOC.out hb); (first | exact (Kd.R_reads' HOO.out).2.2 | exact Kd.C_below (Kd.R_reads' HOO.out).2.2 hb); exact varK_M; exact (fun _ hk => hk.elim); exact (fun _ _ => trivial); assumption; exact below_size (by assumption); (have := HOL.out; omega); intro v1 w1 ho hb hg ha; clear hg ha; have HOF := Aside0.mk ho; have z2 := hb; have z1 : Below w.heap.size w w1 := HBB.out.trans (hb.mono (Nat.le_of_lt HLT.out)); have z3 : w1.cell? ⟨w.heap.size, 0, none⟩ = some (.slice A0 V.length c0) := (hb.cell (p := ⟨w.heap.size, 0, none⟩) HLT.out).trans ((blk_cell HK0.out 0).trans rfl); have z4 : w1.cell? ⟨w.heap.size, 1, none⟩ = some (.slice A1 N.length c1) := (hb.cell (p := ⟨w.heap.size, 1, none⟩) HLT.out).trans ((blk_cell HK0.out 1).trans rfl); have z5 : w1.cell? ⟨w.heap.size, 2, none⟩ = some v2 := (hb.cell (p := ⟨w.heap.size, 2, none⟩) HLT.out).trans ((blk_cell HK0.out 2).trans rfl); clear ho))
  all_goals
    go_wp2
    go_ret
    exact ⟨_, rfl, Kd.R_lower HOF.out (Nat.le_of_lt HLT.out), z1⟩
/-! ### LIB cellsum -/
def wideV (x : S125) : Int := max 1 x.f3
/-- How many cells variables have. -/
def sumV (L : List S125) : Int := L.foldl (fun d x => d + wideV x) 0
def SizesOk (L : List S125) : Prop := ∀ x ∈ L, 0 ≤ x.f3 ∧ x.f3 ≤ 8
theorem sumV_snoc (L : List S125) (x : S125) : sumV (L ++ [x]) = sumV L + wideV x := by simp [sumV, List.foldl_append]
theorem takeV_snoc {L : List S125} {j : Nat} (h : j < L.length) : L.take (j + 1) = L.take j ++ [rd_T125 L (j : Int)] := by
  have e : rd_T125 L (j : Int) = L[j] := by simp [rd_T125, List.getD_eq_getElem?_getD, h]
  rw [e, List.take_succ_eq_append_getElem h]
theorem sumV_bd (L : List S125) (h : SizesOk L) : 0 ≤ sumV L ∧ sumV L ≤ 8 * (L.length : Int) := by
  have key : ∀ (L : List S125) (d : Int), SizesOk L → 0 ≤ d → 0 ≤ L.foldl (fun d x => d + wideV x) d ∧ L.foldl (fun d x => d + wideV x) d ≤ d + 8 * (L.length : Int) := by
    intro L
    induction L with
    | nil => intro d _ hd; simp; omega
    | cons a L ih =>
      intro d hs hd
      rw [List.foldl_cons]
      have h1 := hs a (List.mem_cons_self ..)
      have h0 : 0 ≤ wideV a ∧ wideV a ≤ 8 := by unfold wideV; omega
      have h2 := ih (d + wideV a) (fun x hx => hs x (List.mem_cons_of_mem _ hx)) (by omega)
      simp only [List.length_cons]
      omega
  have := key L 0 h (by omega)
  unfold sumV
  omega
theorem sizes_take {L : List S125} (h : SizesOk L) (j : Nat) : SizesOk (L.take j) := fun x hx => h x (List.mem_of_mem_take hx)
theorem size_f (a : ByteArray) (b c d : Int) : spec_l5Size.f a b c d = some (max 1 d) := by
  unfold spec_l5Size.f spec_l1Max.f
  split <;> simp <;> omega
theorem l5Cells_run (L : List S125) (hs : SizesOk L) (hl : L.length ≤ 4194304) : ∀ (k j : Nat), j ≤ L.length → L.length - j < k → spec_l5Cells.l0 k L (sumV (L.take j)) (j : Int) = some (sumV L) := by
  intro k
  induction k with
  | zero => intro j _ h; exact absurd h (Nat.not_lt_zero _)
  | succ k ih =>
    intro j hj h
    rw [spec_l5Cells.l0]
    by_cases hlt : j < L.length
    · have h1 : j + 1 ≤ L.length := hlt
      have h2 : L.length - (j + 1) < k := by omega
      have h3 := ih (j + 1) h1 h2
      have e1 : wrap64 (sumV (L.take j) + max 1 (rd_T125 L (j : Int)).f3) = sumV (L.take (j + 1)) := by
        have hb := sumV_bd (L.take (j + 1)) (sizes_take hs _)
        rw [List.length_take, Nat.min_eq_left h1] at hb
        have hq : sumV (L.take (j + 1)) = sumV (L.take j) + max 1 (rd_T125 L (j : Int)).f3 := by rw [takeV_snoc hlt, sumV_snoc]; rfl
        rw [← hq]
        revert hb
        generalize sumV (L.take (j + 1)) = s
        intro hb
        exact pb_wrap (by omega) (by omega)
      have e2 : wrap64 ((j : Int) + 1) = ((j + 1 : Nat) : Int) := by rw [pb_wrap (by omega) (by omega)]; rfl
      have h4 : (j : Int) < (L.length : Int) := by omega
      rw [if_pos h4, if_pos (by omega), size_f, Option.bind_some, e1, e2]
      exact h3
    · rw [if_neg (by omega), show L.take j = L from List.take_of_length_le (by omega)]
theorem w_l5Cells (A : Option Addr) (c : Nat) (L : List S125) (hs : SizesOk L) (hl : L.length ≤ 4194304) (w : World) (hr : Kd.C k125 w A L.length L) (hc : L.length ≤ c) :
    Calls Try.prog 96 #[.slice A L.length c] w fun e w' => e = .returned (.int .i64 (sumV L)) ∧ Below w.heap.size w w' :=
  spec_l5Cells.calls (L.length + 1) A c L _ w hr hc (l5Cells_run L hs hl (L.length + 1) 0 (Nat.zero_le _) (by omega))
theorem maxed1 (x : Int) : (if x < 1 then 1 else x) = max 1 x := by
  split <;> omega
set_option maxHeartbeats 1000000 in
set_option maxRecDepth 100000 in
theorem w_wide (x : S125) (w : World) : Calls Try.prog 153 #[.agg #[.string x.f0, .int .i64 x.f1, .int .i64 x.f2, .int .i64 x.f3]] w fun e w' => e = .returned (.int .i64 (wideV x)) ∧ Below w.heap.size w w' := by
  have hu := Try.underlying125
  have HM := Aside0.mk (maxed1 x.f3)
  go_enter Try.func153, Try.ntmps153
  go_wp2
  all_goals
    go_ret
    refine ⟨?_, (Below.refl _ _).alloc (Nat.le_refl _) _⟩
    unfold wideV
    rw [← HM.out]
    first | rfl | (rw [if_pos (by first | assumption | omega)]; rfl) | (rw [if_neg (by first | assumption | omega)]; rfl)
set_option maxHeartbeats 2000000 in
set_option maxRecDepth 100000 in
theorem impl_cells.w (A0 : Option Addr) (c0 : Nat) (V : List S125) (v2 : Value) (A1 : Option Addr) (c1 : Nat) (N : List S134) (hV : V.length ≤ 1048576) (hN : N.length ≤ 1048576) (hco : CallsOk N) (hnn : ∀ x ∈ N, x.f2.size ≤ 1048576) (hsz : SizesOk (allV V N)) (w : World) (hv : Kd.C k125 w A0 V.length V) (hr : Kd.C k134 w A1 N.length N) :
    Calls Try.prog 98 #[.agg #[.slice A0 V.length c0, .slice A1 N.length c1, v2]] w fun e w' => e = .returned (.int .i64 (sumV (allV V N))) ∧ Below w.heap.size w w' := by
  have hut := Try.underlying68
  have hB0 := (Below.refl w.heap.size w).alloc (Nat.le_refl _) (.cells #[.slice A0 V.length c0, .slice A1 N.length c1, v2] 68)
  have HV := Aside0.mk (Kd.C_below hv hB0)
  have HR := Aside0.mk (Kd.C_below hr hB0)
  have HBB := Aside0.mk hB0
  have HCO := Aside0.mk hco
  have HNN := Aside0.mk hnn
  have HSZ := Aside0.mk hsz
  have hal : (allV V N).length ≤ 4194304 := by
    unfold allV
    rw [List.length_append]
    have := ownsV_len N
    omega
  clear hv hr hco hnn hB0 hsz
  go_enter Try.func98, Try.ntmps98
  go_wp2_with fail
  refine (impl_whole.w A0 c0 V v2 A1 c1 N hV hN HCO.out HNN.out _ HV.out HR.out).mono ?_
  rintro e w1 ⟨v, rfl, ho, hb⟩
  obtain ⟨A, c, ev⟩ := Kd.R_slice ho
  subst ev
  have HRL := Aside0.mk (Kd.R_reads' ho).2.2
  have HB := Aside0.mk (below_step HBB.out hb)
  clear ho hb
  revert HSZ hal HRL
  generalize hLE : allV V N = L
  intro HSZ hal HRL
  have HLE := Aside0.mk hLE
  clear hLE
  go_wp2
  go_loopg [3, 9] L.length (fun gg s3 s9 w' => ∃ j : Nat, s9 = .int .i64 (j : Int) ∧ s3 = .int .i64 (sumV (L.take j)) ∧ Aside0 (j ≤ L.length ∧ L.length - j ≤ gg) ∧ Aside0 (Below w1.heap.size w1 w'))
  case atStart => exact ⟨0, rfl, by rw [List.take_zero]; rfl, ⟨by omega⟩, ⟨Below.refl _ _⟩⟩
  case round =>
    obtain ⟨wo, rfl⟩ : ∃ wo : World, wo = wr := ⟨_, rfl⟩
    obtain ⟨j, rfl, rfl, HKj, HBj⟩ := hrel
    by_cases hj : j < L.length
    · have hjz : (j : Int) < (L.length : Int) := by omega
      have hjd : decide ((j : Int) < (L.length : Int)) = true := decide_eq_true hjz
      have hjd' : decide (j < L.length) = true := decide_eq_true hj
      have hjq := eq_true hjz
      have hj0 : (0 ≤ (j : Int)) = True := eq_true (by omega)
      obtain ⟨ad, rfl, x0, x1, x2, x3⟩ := at_T125 (Kd.C_below HRL.out HBj.out) (j : Int) (by omega) hjz
      rw [Int.toNat_natCast] at x0 x1 x2 x3
      have hx := HSZ.out _ (rdV_mem hj)
      have HSN := Aside0.mk (show sumV (L.take (j + 1)) = _ from by rw [takeV_snoc hj, sumV_snoc])
      have hbd := sumV_bd (L.take j) (sizes_take HSZ.out j)
      rw [List.length_take, Nat.min_eq_left (by omega)] at hbd
      revert x0 x1 x2 x3 hx HSN
      generalize rd_T125 L (j : Int) = x
      intro x0 x1 x2 x3 hx HSN
      have hwd : 0 ≤ wideV x ∧ wideV x ≤ 8 := by unfold wideV; omega
      have HWC := Aside0.mk (fun W => w_wide x W)
      revert hbd HSN
      generalize sumV (L.take j) = s
      intro hbd HSN
      revert hwd HWC HSN
      generalize wideV x = wx
      intro hwd HWC HSN
      obtain ⟨hb0, hb1⟩ := hbd
      obtain ⟨hw0, hw1⟩ := hwd
      go_wp2_with fail
      refine (HWC.out _).mono ?_
      rintro e w3 ⟨rfl, hb⟩
      have HB3 := Aside0.mk (below_step (below_alloc HBj.out _) hb)
      clear hb x0 x1 x2 x3
      go_wp2
      go_roundg (L.length - (j + 1))
      case measure => have := HKj.out; omega
      case rel => exact ⟨j + 1, by go_num, by rw [HSN.out], ⟨by omega⟩, HB3⟩
    · have hjd : decide ((j : Int) < (L.length : Int)) = false := decide_eq_false (by omega)
      have hjd' : decide (j < L.length) = false := decide_eq_false hj
      have HLt := Aside0.mk (show L.take j = L from List.take_of_length_le (by omega))
      go_wp2
      go_ret
      exact ⟨by rw [HLE.out]; first | rfl | (rw [HLt.out]; rfl), below_step HB.out HBj.out⟩
/-! ### LIB costdef -/
def sumL (xs L : List Int) : Int := L.foldl (fun d x => d + rd xs x) 0
def roundsN (n : S134) : Int := max 0 (n.f4 - n.f3 + 1)
/-- What a node costs, over the costs of what it names. -/
def costN (n : S134) (s1 s2 s3 : Int) : Int := min 100000 (1 + s1 + (if n.f0 = 9 then max s2 s3 else if n.f0 = 10 then 2 + roundsN n * (3 + s2) else if n.f0 = 11 then 12 else 0))
def cstep (out : List Int) (n : S134) : List Int := out ++ [costN n (sumL out n.f5) (sumL out n.f6) (sumL out n.f7)]
def costL (N : List S134) : List Int := N.foldl cstep []
theorem sumL_snoc (xs L : List Int) (x : Int) : sumL xs (L ++ [x]) = sumL xs L + rd xs x := by simp [sumL, List.foldl_append]
theorem costL_snoc (N : List S134) (n : S134) : costL (N ++ [n]) = cstep (costL N) n := by simp [costL, List.foldl_append]
theorem costL_length (N : List S134) : (costL N).length = N.length := by
  have h : ∀ (N : List S134) (out : List Int), (N.foldl cstep out).length = out.length + N.length := by
    intro N
    induction N with
    | nil => intro out; rfl
    | cons a N ih => intro out; rw [List.foldl_cons, ih]; simp [cstep]; omega
  rw [costL, h]; simp
theorem rounds_nn (n : S134) : 0 ≤ roundsN n := by unfold roundsN; omega
theorem costN_bd (n : S134) (s1 s2 s3 : Int) (h1 : 0 ≤ s1) (h2 : 0 ≤ s2) (h3 : 0 ≤ s3) : 0 ≤ costN n s1 s2 s3 ∧ costN n s1 s2 s3 ≤ 100000 := by
  have hp : 0 ≤ roundsN n * (3 + s2) := Int.mul_nonneg (rounds_nn n) (by omega)
  unfold costN
  split
  · omega
  · split
    · omega
    · split <;> omega
theorem min_cap (s : Int) : (s ≤ 100000 ∧ min s 100000 = s) ∨ (100000 ≤ s ∧ min s 100000 = 100000) := by
  rcases Int.le_total s 100000 with h | h
  · exact .inl ⟨h, Int.min_eq_left h⟩
  · exact .inr ⟨h, Int.min_eq_right h⟩
/-- A cap that is laid at each sum lays no other cap at the whole. -/
theorem costN_cap (n : S134) (s1 s2 s3 : Int) (h1 : 0 ≤ s1) (h2 : 0 ≤ s2) (h3 : 0 ≤ s3) : costN n (min s1 100000) (min s2 100000) (min s3 100000) = costN n s1 s2 s3 := by
  unfold costN
  have m1 := min_cap s1
  have m2 := min_cap s2
  have m3 := min_cap s3
  revert m1 m2 m3
  generalize min s1 100000 = t1
  generalize min s2 100000 = t2
  generalize min s3 100000 = t3
  intro m1 m2 m3
  split
  · omega
  · split
    · have hr := rounds_nn n
      revert hr
      generalize roundsN n = r
      intro hr
      rcases m2 with ⟨_, rfl⟩ | ⟨hs, rfl⟩
      · have hp : 0 ≤ r * (3 + t2) := Int.mul_nonneg hr (by omega)
        omega
      · by_cases hz : r = 0
        · subst hz; simp only [Int.zero_mul]; omega
        · have h1 : 1 * (3 + (100000 : Int)) ≤ r * (3 + 100000) := Int.mul_le_mul_of_nonneg_right (by omega) (by omega)
          have h2 : 1 * (3 + s2) ≤ r * (3 + s2) := Int.mul_le_mul_of_nonneg_right (by omega) (by omega)
          omega
    · split <;> omega
theorem rd_bd {xs : List Int} {b : Int} (hb : 0 ≤ b) (h : ∀ x ∈ xs, 0 ≤ x ∧ x ≤ b) (i : Int) : 0 ≤ rd xs i ∧ rd xs i ≤ b := by
  unfold rd
  rw [List.getD_eq_getElem?_getD]
  cases he : xs[i.toNat]? with
  | none => simp; exact hb
  | some y => simpa using h y (List.mem_of_getElem? he)
theorem sumL_bd {xs : List Int} (h : ∀ x ∈ xs, 0 ≤ x ∧ x ≤ 100000) (L : List Int) : 0 ≤ sumL xs L ∧ sumL xs L ≤ 100000 * (L.length : Int) := by
  have key : ∀ (L : List Int) (d : Int), 0 ≤ d → 0 ≤ L.foldl (fun d x => d + rd xs x) d ∧ L.foldl (fun d x => d + rd xs x) d ≤ d + 100000 * (L.length : Int) := by
    intro L
    induction L with
    | nil => intro d hd; simp; omega
    | cons a L ih =>
      intro d hd
      rw [List.foldl_cons]
      have h1 := rd_bd (by decide) h a
      have h2 := ih (d + rd xs a) (by omega)
      simp only [List.length_cons]
      omega
  have := key L 0 (by omega)
  unfold sumL
  omega
theorem costL_bd (N : List S134) : ∀ x ∈ costL N, 0 ≤ x ∧ x ≤ 100000 := by
  have key : ∀ n, n ≤ N.length → ∀ x ∈ costL (N.take n), 0 ≤ x ∧ x ≤ 100000 := by
    intro n
    induction n with
    | zero => intro _ x hx; simp [costL] at hx
    | succ n ih =>
      intro hn x hx
      rw [List.take_succ_eq_append_getElem (by omega), costL_snoc] at hx
      have h := ih (by omega)
      rcases List.mem_append.1 hx with hx | hx
      · exact h x hx
      · rw [List.mem_singleton.1 hx]
        exact costN_bd _ _ _ _ (sumL_bd h _).1 (sumL_bd h _).1 (sumL_bd h _).1
  have := key N.length (Nat.le_refl _)
  rwa [List.take_length] at this
theorem costL_take (N : List S134) (i : Nat) (hi : i < N.length) : costL (N.take (i + 1)) = costL (N.take i) ++ [costN (rd_T134 N (i : Int)) (sumL (costL (N.take i)) (rd_T134 N (i : Int)).f5) (sumL (costL (N.take i)) (rd_T134 N (i : Int)).f6) (sumL (costL (N.take i)) (rd_T134 N (i : Int)).f7)] := by
  have e : rd_T134 N (i : Int) = N[i] := by simp [rd_T134, List.getD_eq_getElem?_getD, hi]
  rw [e, List.take_succ_eq_append_getElem hi, costL_snoc, cstep]
theorem costL_app (N M : List S134) : ∃ R, costL (N ++ M) = costL N ++ R := by
  induction M generalizing N with
  | nil => exact ⟨[], by simp⟩
  | cons a M ih =>
    obtain ⟨R, hR⟩ := ih (N ++ [a])
    refine ⟨[costN a (sumL (costL N) a.f5) (sumL (costL N) a.f6) (sumL (costL N) a.f7)] ++ R, ?_⟩
    rw [show N ++ a :: M = (N ++ [a]) ++ M by simp, hR, costL_snoc, cstep, List.append_assoc]
theorem cost_pre (N : List S134) (i : Nat) (hi : i ≤ N.length) (x : Int) (h0 : 0 ≤ x) (h1 : x < (i : Int)) : rd (costL (N.take i)) x = rd (costL N) x := by
  obtain ⟨R, hR⟩ := costL_app (N.take i) (N.drop i)
  rw [List.take_append_drop] at hR
  have hl : (costL (N.take i)).length = i := by rw [costL_length, List.length_take]; omega
  rw [hR]
  unfold rd
  rw [List.getD_eq_getElem?_getD, List.getD_eq_getElem?_getD, List.getElem?_append_left (by omega)]
theorem sumL_congr {xs ys L : List Int} (h : ∀ x ∈ L, rd xs x = rd ys x) : sumL xs L = sumL ys L := by
  have key : ∀ (L : List Int) (d : Int), (∀ x ∈ L, rd xs x = rd ys x) → L.foldl (fun d x => d + rd xs x) d = L.foldl (fun d x => d + rd ys x) d := by
    intro L
    induction L with
    | nil => intro d _; rfl
    | cons a L ih => intro d h; rw [List.foldl_cons, List.foldl_cons, h a (List.mem_cons_self ..), ih _ (fun x hx => h x (List.mem_cons_of_mem _ hx))]
  exact key L 0 h
/-- What a node names lies ahead of it. -/
structure Back (i : Nat) (n : S134) : Prop where
  k5 : ∀ x ∈ n.f5, 0 ≤ x ∧ x ≤ (i : Int) - 1
  k6 : ∀ x ∈ n.f6, 0 ≤ x ∧ x ≤ (i : Int) - 1
  k7 : ∀ x ∈ n.f7, 0 ≤ x ∧ x ≤ (i : Int) - 1
  far : n.f0 = 10 → (0 ≤ n.f3 ∧ n.f3 ≤ 65535) ∧ (0 ≤ n.f4 ∧ n.f4 ≤ 65535)
theorem fits_for {n : S134} (h : fitsB n = true) (hk : n.f0 = 10) : (0 ≤ n.f3 ∧ n.f3 ≤ 65535) ∧ (0 ≤ n.f4 ∧ n.f4 ≤ 65535) := by
  unfold fitsB at h
  repeat (rw [if_neg (by omega)] at h)
  rw [if_pos hk] at h
  unfold restB at h
  simp only [Bool.and_eq_true] at h
  obtain ⟨_, _, _, _, _, h3, h4⟩ := h
  exact ⟨inB_true h3, inB_true h4⟩
theorem backs {N : List S134} (h : nodesI N = true) {i : Nat} (hi : i < N.length) : Back i (rd_T134 N (i : Int)) := by
  have ho := List.all_eq_true.1 h i (List.mem_range.2 hi)
  unfold okI at ho
  simp only [Bool.and_eq_true] at ho
  obtain ⟨hf, h5, h6, h7⟩ := ho
  exact ⟨fun x hx => any_bad h5 hx, fun x hx => any_bad h6 hx, fun x hx => any_bad h7 hx, fits_for hf⟩
theorem cost_at {N : List S134} {i : Nat} (hi : i < N.length) (hb : Back i (rd_T134 N (i : Int))) : rd (costL N) (i : Int) = costN (rd_T134 N (i : Int)) (sumL (costL N) (rd_T134 N (i : Int)).f5) (sumL (costL N) (rd_T134 N (i : Int)).f6) (sumL (costL N) (rd_T134 N (i : Int)).f7) := by
  rw [← cost_pre N (i + 1) (by omega) (i : Int) (by omega) (by omega), costL_take N i hi]
  have hl : (costL (N.take i)).length = i := by rw [costL_length, List.length_take]; omega
  have hs : ∀ L : List Int, (∀ x ∈ L, 0 ≤ x ∧ x ≤ (i : Int) - 1) → sumL (costL (N.take i)) L = sumL (costL N) L := fun L hL => sumL_congr fun x hx => by
    have := hL x hx
    exact cost_pre N i (by omega) x this.1 (by omega)
  rw [hs _ hb.k5, hs _ hb.k6, hs _ hb.k7]
  unfold rd
  rw [List.getD_eq_getElem?_getD, Int.toNat_natCast, List.getElem?_append_right (by omega), hl]
  simp
theorem rounds_bd {i : Nat} {n : S134} (hb : Back i n) (hk : n.f0 = 10) : roundsN n ≤ 65536 := by
  have := hb.far hk
  unfold roundsN
  omega
/-- The product at a loop is small. -/
theorem prod_bd {i : Nat} {n : S134} (hb : Back i n) (hk : n.f0 = 10) {s : Int} (h0 : 0 ≤ s) (h1 : s ≤ 104857600000) : 0 ≤ roundsN n * (3 + s) ∧ roundsN n * (3 + s) ≤ 65536 * 104857600003 := by
  have h := rounds_bd hb hk
  refine ⟨Int.mul_nonneg (rounds_nn n) (by omega), ?_⟩
  exact Int.le_trans (Int.mul_le_mul_of_nonneg_right h (by omega)) (Int.mul_le_mul_of_nonneg_left (by omega) (by omega))
theorem fault_nodes {V : List S125} {N : List S134} {B : List Int} (h : faultI V N B = 0) : nodesI N = true := by
  unfold faultI at h
  split at h
  · omega
  split at h
  · omega
  split at h
  · omega
  rename_i hn
  simpa using hn
/-! ### LIB topok -/
theorem fits_call {n : S134} (h : fitsB n = true) (hk : n.f0 = 11) : 1 ≤ n.f1 ∧ n.f1 ≤ 4 := by
  unfold fitsB at h
  repeat (rw [if_neg (by omega)] at h)
  rw [if_pos hk] at h
  unfold restB at h
  simp only [Bool.and_eq_true] at h
  obtain ⟨_, _, _, _, h3, _⟩ := h
  rw [if_pos (by decide)] at h3
  exact inB_true h3
theorem calls_ok {N : List S134} (h : nodesI N = true) : CallsOk N := by
  intro x hx hk
  obtain ⟨k, hk1, rfl⟩ := List.mem_iff_getElem.1 hx
  have hf := nodesI_fit h k hk1
  have e : rd_T134 N (k : Int) = N[k] := by simp [rd_T134, List.getD_eq_getElem?_getD, hk1]
  rw [e] at hf
  exact fits_call hf hk
theorem varsF_zero : ∀ (V : List S125), varsF V = 0 → ∀ v ∈ V, vf v = 0
  | [], _, v, hv => by cases hv
  | a :: V, h, v, hv => by
    rw [varsF] at h
    by_cases ha : vf a = 0
    · rw [if_pos ha] at h
      rcases List.mem_cons.1 hv with rfl | hv
      · exact ha
      · exact varsF_zero V h v hv
    · rw [if_neg ha] at h
      exact absurd h ha
theorem vf_size {v : S125} (h : vf v = 0) : 0 ≤ v.f3 ∧ v.f3 ≤ 8 := by
  unfold vf at h
  split at h
  · omega
  split at h
  · omega
  rename_i h2
  have h3 : (inB v.f1 1 3 && (inB v.f2 1 2 && inB v.f3 0 8)) = true := by simpa using h2
  simp only [Bool.and_eq_true] at h3
  exact inB_true h3.2.2
theorem own_size {N : List S134} {x : S125} (h : x ∈ ownsV N) : x.f3 = 0 := by
  obtain ⟨l, hl, hx⟩ := List.mem_flatten.1 h
  obtain ⟨n, _, rfl⟩ := List.mem_map.1 hl
  obtain ⟨b, _, rfl⟩ := List.mem_map.1 hx
  rfl
theorem fault_vars {V : List S125} {N : List S134} {B : List Int} (h : faultI V N B = 0) : varsF V = 0 := by
  unfold faultI at h
  split at h
  · omega
  split at h
  · exact h
  rename_i hn
  by_cases h0 : varsF V = 0
  · exact h0
  · exact absurd h0 hn
theorem all_sizes {V : List S125} {N : List S134} {B : List Int} (h : faultI V N B = 0) : SizesOk (allV V N) := by
  intro x hx
  rcases List.mem_append.1 hx with hx | hx
  · exact vf_size (varsF_zero V (fault_vars h) x hx)
  · rw [own_size hx]; decide
/-! ### LIB findcell -/
def nmB (a : ByteArray) (x : S125) : Bool := x.f0.toList == a.toList
/-- The first cell of a variable, 0 where there is none. -/
def cellAt (a : ByteArray) (L : List S125) : Int := if idxP (nmB a) L < 0 then 0 else sumV (L.take (idxP (nmB a) L).toNat)
def cellHas (a : ByteArray) (L : List S125) : Bool := decide (0 ≤ idxP (nmB a) L)
set_option maxHeartbeats 2000000 in
theorem spec_l5Find.w (a : ByteArray) (A : Option Addr) (c : Nat) (V : List S125) (w : World) (hr : Kd.C k125 w A V.length V) :
    Calls Try.prog 99 #[.slice A V.length c, .string a] w fun e w' => e = .returned (.int .i64 (idxP (nmB a) V)) ∧ Below w.heap.size w w' := by
  have hm := Kd.C_max hr
  have HR := Aside0.mk hr
  clear hr
  go_enter Try.func99, Try.ntmps99
  go_wp2
  go_loopg [5] V.length (fun gg s5 wr => ∃ kk : Nat, s5 = .int .i64 (kk : Int) ∧ Aside0 (kk ≤ V.length ∧ V.length - kk ≤ gg) ∧ Aside0 (Below w.heap.size w wr) ∧ Aside0 (∀ (j : Nat) (y : S125), j < kk → V[j]? = some y → nmB a y = false))
  case atStart => exact ⟨0, rfl, ⟨by omega⟩, ⟨Below.refl _ _⟩, ⟨fun j _ hj => absurd hj (Nat.not_lt_zero _)⟩⟩
  case round =>
    obtain ⟨kk, rfl, HK, HB, HA⟩ := hrel
    by_cases hlt : kk < V.length
    · have hltz : (kk : Int) < (V.length : Int) := by omega
      have hd : decide ((kk : Int) < (V.length : Int)) = true := decide_eq_true hltz
      have hd' : decide (kk < V.length) = true := decide_eq_true hlt
      obtain ⟨ad, rfl, hc, _⟩ := at_T125 (Kd.C_below HR.out HB.out) kk (by omega) (by omega)
      rw [Int.toNat_natCast] at hc
      have HX := Aside0.mk (rdV_get hlt)
      have hltq := eq_true hltz
      have h0q : (0 ≤ (kk : Int)) = True := eq_true (by omega)
      cases hq : nmB a (rd_T125 V (kk : Int)) with
      | true =>
        have HQ := Aside0.mk hq
        have hq' : ((rd_T125 V (kk : Int)).f0.toList == a.toList) = true := hq
        clear hq
        go_wp2
        go_ret
        refine ⟨?_, HB.out⟩
        rw [idxP_hit _ V kk _ HX.out HQ.out HA.out]
        rfl
      | false =>
        have HQ := Aside0.mk hq
        have hq' : ((rd_T125 V (kk : Int)).f0.toList == a.toList) = false := hq
        clear hq
        go_wp2
        go_roundg (V.length - (kk + 1))
        case measure => have := HK.out; omega
        case rel =>
          refine ⟨kk + 1, by go_num, ⟨by omega⟩, HB, ⟨fun j y hj hy => ?_⟩⟩
          by_cases e : j = kk
          · subst e
            rw [HX.out] at hy
            cases hy
            exact HQ.out
          · exact HA.out j y (by omega) hy
    · have hd : decide ((kk : Int) < (V.length : Int)) = false := decide_eq_false (by omega)
      have hd' : decide (kk < V.length) = false := decide_eq_false hlt
      go_wp2
      go_ret
      refine ⟨?_, HB.out⟩
      rw [idxP_miss _ V (fun j y hy => HA.out j y (by have := (List.getElem?_eq_some_iff.1 hy).1; have := HK.out; omega) hy)]
      rfl
set_option maxHeartbeats 4000000 in
set_option maxRecDepth 100000 in
theorem impl_cell.w (a : ByteArray) (A0 : Option Addr) (c0 : Nat) (V : List S125) (v2 : Value) (A1 : Option Addr) (c1 : Nat) (N : List S134) (hV : V.length ≤ 1048576) (hN : N.length ≤ 1048576) (hco : CallsOk N) (hnn : ∀ x ∈ N, x.f2.size ≤ 1048576) (hsz : SizesOk (allV V N)) (w : World) (hv : Kd.C k125 w A0 V.length V) (hr : Kd.C k134 w A1 N.length N) :
    Calls Try.prog 100 #[.agg #[.slice A0 V.length c0, .slice A1 N.length c1, v2], .string a] w fun e w' => (∃ (n : ByteArray) (x y z : Int), e = .returned (.tuple #[.int .i64 (cellAt a (allV V N)), .agg #[.string n, .int .i64 x, .int .i64 y, .int .i64 z], .bool (cellHas a (allV V N))])) ∧ Below w.heap.size w w' := by
  have hut := Try.underlying68
  have huv := Try.underlying125
  have hB0 := ((Below.refl w.heap.size w).alloc (Nat.le_refl _) (.cells #[.slice A0 V.length c0, .slice A1 N.length c1, v2] 68)).alloc (by simp) (.cells #[.string ⟨#[]⟩, .int .i64 0, .int .i64 0, .int .i64 0] 125)
  have HV := Aside0.mk (Kd.C_below hv hB0)
  have HR := Aside0.mk (Kd.C_below hr hB0)
  have HBB := Aside0.mk hB0
  have HBV := Aside0.mk (blk_new (w.alloc (.cells #[.slice A0 V.length c0, .slice A1 N.length c1, v2] 68)) (.cells #[.string ⟨#[]⟩, .int .i64 0, .int .i64 0, .int .i64 0] 125))
  rw [show (w.alloc (.cells #[.slice A0 V.length c0, .slice A1 N.length c1, v2] 68)).heap.size = w.heap.size + 1 from by simp] at HBV
  have HCO := Aside0.mk hco
  have HNN := Aside0.mk hnn
  have HSZ := Aside0.mk hsz
  have hal : (allV V N).length ≤ 4194304 := by
    unfold allV
    rw [List.length_append]
    have := ownsV_len N
    omega
  clear hv hr hco hnn hB0 hsz
  go_enter Try.func100, Try.ntmps100
  go_wp2_with fail
  refine (impl_whole.w A0 c0 V v2 A1 c1 N hV hN HCO.out HNN.out _ HV.out HR.out).mono ?_
  rintro e w1 ⟨v, rfl, ho, hb⟩
  obtain ⟨A, c, ev⟩ := Kd.R_slice ho
  subst ev
  have HRL := Aside0.mk (Kd.R_reads' ho).2.2
  have HB := Aside0.mk (below_step HBB.out hb)
  have HBK := Aside0.mk (blk_below HBV.out hb)
  clear ho hb HBV
  revert HSZ hal HRL
  generalize hLE : allV V N = L
  intro HSZ hal HRL
  have HLE := Aside0.mk hLE
  clear hLE
  go_wp2
  go_loopg [7, 13] L.length (fun gg s7 s13 w' => ∃ j : Nat, s13 = .int .i64 (j : Int) ∧ s7 = .int .i64 (sumV (L.take j)) ∧ Aside0 (j ≤ L.length ∧ L.length - j ≤ gg) ∧ Aside0 (Below w1.heap.size w1 w') ∧ Aside0 (∀ (i : Nat) (y : S125), i < j → L[i]? = some y → nmB a y = false))
  case atStart => exact ⟨0, rfl, by rw [List.take_zero]; rfl, ⟨by omega⟩, ⟨Below.refl _ _⟩, ⟨fun j _ hj => absurd hj (Nat.not_lt_zero _)⟩⟩
  case round =>
    obtain ⟨wo, rfl⟩ : ∃ wo : World, wo = wr := ⟨_, rfl⟩
    obtain ⟨j, rfl, rfl, HKj, HBj, HA⟩ := hrel
    have HBKo := Aside0.mk (blk_below HBK.out HBj.out)
    have HBo := Aside0.mk (below_step HB.out HBj.out)
    have r0 : wo.cell? ⟨w.heap.size + 1, 0, none⟩ = some (.string ⟨#[]⟩) := (blk_cell HBKo.out 0).trans rfl
    have r1 : wo.cell? ⟨w.heap.size + 1, 1, none⟩ = some (.int .i64 0) := (blk_cell HBKo.out 1).trans rfl
    have r2 : wo.cell? ⟨w.heap.size + 1, 2, none⟩ = some (.int .i64 0) := (blk_cell HBKo.out 2).trans rfl
    have r3 : wo.cell? ⟨w.heap.size + 1, 3, none⟩ = some (.int .i64 0) := (blk_cell HBKo.out 3).trans rfl
    have f0 := blk_frozen HBKo.out 0
    have f1 := blk_frozen HBKo.out 1
    have f2 := blk_frozen HBKo.out 2
    have f3 := blk_frozen HBKo.out 3
    by_cases hj : j < L.length
    · have hjz : (j : Int) < (L.length : Int) := by omega
      have hjd : decide ((j : Int) < (L.length : Int)) = true := decide_eq_true hjz
      have hjd' : decide (j < L.length) = true := decide_eq_true hj
      have hjq := eq_true hjz
      have hj0 : (0 ≤ (j : Int)) = True := eq_true (by omega)
      obtain ⟨ad, rfl, x0, x1, x2, x3⟩ := at_T125 (Kd.C_below HRL.out HBj.out) (j : Int) (by omega) hjz
      rw [Int.toNat_natCast] at x0 x1 x2 x3
      have hx := HSZ.out _ (rdV_mem hj)
      have HX := Aside0.mk (rdV_get hj)
      have HSN := Aside0.mk (show sumV (L.take (j + 1)) = _ from by rw [takeV_snoc hj, sumV_snoc])
      have hbd := sumV_bd (L.take j) (sizes_take HSZ.out j)
      rw [List.length_take, Nat.min_eq_left (by omega)] at hbd
      revert x0 x1 x2 x3 hx HX HSN
      generalize rd_T125 L (j : Int) = x
      intro x0 x1 x2 x3 hx HX HSN
      have HWC := Aside0.mk (fun W => w_wide x W)
      have hwd : 0 ≤ wideV x ∧ wideV x ≤ 8 := by unfold wideV; omega
      have HSJ := Aside0.mk (rfl : sumV (L.take j) = sumV (L.take j))
      cases hq : nmB a x with
      | true =>
        have HQ := Aside0.mk hq
        have hq' : (x.f0.toList == a.toList) = true := hq
        have hid := idxP_hit _ L j _ HX.out HQ.out HA.out
        have HID := Aside0.mk (show cellAt a (allV V N) = sumV (L.take j) ∧ cellHas a (allV V N) = true from ⟨by rw [HLE.out]; unfold cellAt; rw [hid, if_neg (by omega), Int.toNat_natCast], by rw [HLE.out]; unfold cellHas; rw [hid]; simp⟩)
        clear hid
        clear hq hwd hbd HWC r0 r1 r2 r3 f0 f1 f2 f3
        have BKa := Aside0.mk (blk_alloc HBKo.out (.cells #[.string x.f0, .int .i64 x.f1, .int .i64 x.f2, .int .i64 x.f3] 125))
        have r0 : (wo.alloc (.cells #[.string x.f0, .int .i64 x.f1, .int .i64 x.f2, .int .i64 x.f3] 125)).cell? ⟨w.heap.size + 1, 0, none⟩ = some (.string ⟨#[]⟩) := (blk_cell BKa.out 0).trans rfl
        have f0 := blk_frozen BKa.out 0
        have r1 : (wo.alloc (.cells #[.string x.f0, .int .i64 x.f1, .int .i64 x.f2, .int .i64 x.f3] 125)).cell? ⟨w.heap.size + 1, 1, none⟩ = some (.int .i64 0) := (blk_cell BKa.out 1).trans rfl
        have f1 := blk_frozen BKa.out 1
        have r2 : (wo.alloc (.cells #[.string x.f0, .int .i64 x.f1, .int .i64 x.f2, .int .i64 x.f3] 125)).cell? ⟨w.heap.size + 1, 2, none⟩ = some (.int .i64 0) := (blk_cell BKa.out 2).trans rfl
        have f2 := blk_frozen BKa.out 2
        have r3 : (wo.alloc (.cells #[.string x.f0, .int .i64 x.f1, .int .i64 x.f2, .int .i64 x.f3] 125)).cell? ⟨w.heap.size + 1, 3, none⟩ = some (.int .i64 0) := (blk_cell BKa.out 3).trans rfl
        have f3 := blk_frozen BKa.out 3
        have HBa := Aside0.mk (below_alloc HBo.out (.cells #[.string x.f0, .int .i64 x.f1, .int .i64 x.f2, .int .i64 x.f3] 125))
        go_wp2_with fail
        go_region
        all_goals
          go_wp2
          refine bodyPost_ret (results_list (rs := [.tmp 4, .cell 5 125, .tmp 6]) rfl (by simp) (.tmp (.cell (w.heap.size + 1) 125 _ (0, 0) _ rfl (blk_drew (blk_set (blk_set (blk_set (blk_set BKa.out 0 _) 1 _) 2 _) 3 _)) huv rfl (by kernel_rfl) (.tmp .nil)))) rfl ?_
          refine ⟨⟨_, _, _, _, by rw [HID.out.1, HID.out.2]; rfl⟩, by repeat (first | exact HBa.out | refine below_drew ?_ | refine below_set ?_ (Nat.le_succ _))⟩
      | false =>
        have HQ := Aside0.mk hq
        have hq' : (x.f0.toList == a.toList) = false := hq
        clear hq
        revert hbd HSN HSJ
        generalize sumV (L.take j) = s
        intro hbd HSN HSJ
        revert HWC hwd HSN
        generalize wideV x = wx
        intro HWC hwd HSN
        obtain ⟨hb0, hb1⟩ := hbd
        obtain ⟨hw0, hw1⟩ := hwd
        clear r0 r1 r2 r3 f0 f1 f2 f3
        go_wp2_with fail
        refine (HWC.out _).mono ?_
        rintro e w3 ⟨rfl, hb⟩
        have HB3 := Aside0.mk (below_step (below_alloc HBj.out _) hb)
        clear hb x0 x1 x2 x3
        go_wp2
        go_roundg (L.length - (j + 1))
        case measure => have := HKj.out; omega
        case rel =>
          refine ⟨j + 1, by go_num, by rw [HSN.out], ⟨by omega⟩, HB3, ⟨fun i y hi hy => ?_⟩⟩
          by_cases e : i = j
          · subst e
            rw [HX.out] at hy
            cases hy
            exact HQ.out
          · exact HA.out i y (by omega) hy
    · have hjd : decide ((j : Int) < (L.length : Int)) = false := decide_eq_false (by omega)
      have hjd' : decide (j < L.length) = false := decide_eq_false hj
      have hid := idxP_miss (nmB a) L (fun i y hy => HA.out i y (by have := (List.getElem?_eq_some_iff.1 hy).1; have := HKj.out; omega) hy)
      have HID := Aside0.mk (show cellAt a (allV V N) = 0 ∧ cellHas a (allV V N) = false from ⟨by rw [HLE.out]; unfold cellAt; rw [hid, if_pos (by decide)], by rw [HLE.out]; unfold cellHas; rw [hid]; rfl⟩)
      clear hid
      go_wp2
      refine bodyPost_ret (results_list (rs := [.tmp 4, .cell 5 125, .tmp 6]) rfl (by simp) (.tmp (.cell (w.heap.size + 1) 125 _ (0, 0) _ rfl (blk_set (blk_set (blk_set (blk_set HBKo.out 0 _) 1 _) 2 _) 3 _) huv rfl (by kernel_rfl) (.tmp .nil)))) rfl ?_
      refine ⟨⟨_, _, _, _, by rw [HID.out.1, HID.out.2]; rfl⟩, by repeat (first | exact HBo.out | refine below_set ?_ (Nat.le_succ _))⟩

end Go.Proofs.Ytlokckgkbhmkmaa.XFnExactCellOf
