/- Machine side of the law FnExactCellOf: for each Go function that it reaches, a Lean function with the same answers and the proof that the call comes to them. Conditions: what the arguments lead to reads as the lists that each contract is told of. Some functions are told by hand, the others by the kit's print.py under wip/ext.py. -/
import Derived.Test.YtlokckgkbhmkmaaXFnExactCellOfx0
import Derived.Test.YtlokckgkbhmkmaaXFnExactCellOfx1
import Derived.Test.YtlokckgkbhmkmaaXFnExactCellOfx2
namespace Go.Proofs.Ytlokckgkbhmkmaa.XFnExactCellOf
open Go.RowKit Go.Proofs.YtlokckgkbhmkmaaW.PrintWords Go.Proofs.YtlokckgkbhmkmaaW.PrintLast
attribute [local go_sem] max2_int min2_int max_two min_two   -- for this text's walks alone
set_option linter.unusedVariables false
set_option linter.unusedSimpArgs false

/-! ### LIB right1 -/
set_option maxHeartbeats 8000000 in
set_option maxRecDepth 100000 in
theorem spec_l4Right.k1 (g : Nat) (V : List S125) (N : List S134) (B : List Int) (A0 A1 A2 : Option Addr) (c0 c1 c2 : Nat) (at_ : Nat) (hat : at_ < N.length) (hN : N.length ≤ 1048576) (ad : Addr) (hA1 : A1 = some ad) (n1 : Int) (n2 : ByteArray) (n3 n4 : Int) (n5 n6 n7 : List Int) (A5 A6 A7 : Option Addr) (c5 c6 c7 : Nat) (w : World) (hs : n2.size ≤ 1048576) (hs5 : n5.length ≤ 1048576) (h : TreeAt w g V N B A0 c0 A1 c1 A2 c2) (hc5 : n5.length ≤ c5) (hc6 : n6.length ≤ c6) (hc7 : n7.length ≤ c7) (q0 : w.cell? (ad.add (at_ * 8)) = some (.int .i64 1)) (q1 : w.cell? ⟨(ad.add (at_ * 8)).block, (ad.add (at_ * 8)).off + 1, none⟩ = some (.int .i64 n1)) (q2 : w.cell? ⟨(ad.add (at_ * 8)).block, (ad.add (at_ * 8)).off + 2, none⟩ = some (.string n2)) (q3 : w.cell? ⟨(ad.add (at_ * 8)).block, (ad.add (at_ * 8)).off + 3, none⟩ = some (.int .i64 n3)) (q4 : w.cell? ⟨(ad.add (at_ * 8)).block, (ad.add (at_ * 8)).off + 4, none⟩ = some (.int .i64 n4)) (q5 : w.cell? ⟨(ad.add (at_ * 8)).block, (ad.add (at_ * 8)).off + 5, none⟩ = some (.slice A5 n5.length c5)) (q6 : w.cell? ⟨(ad.add (at_ * 8)).block, (ad.add (at_ * 8)).off + 6, none⟩ = some (.slice A6 n6.length c6)) (q7 : w.cell? ⟨(ad.add (at_ * 8)).block, (ad.add (at_ * 8)).off + 7, none⟩ = some (.slice A7 n7.length c7)) (r5 : Kd.C (Kd.int .i64) w A5 n5.length n5) (r6 : Kd.C (Kd.int .i64) w A6 n6.length n6) (r7 : Kd.C (Kd.int .i64) w A7 n7.length n7) :
    Calls Try.prog 129 #[.pointer (some ⟨g, 0, none⟩), .int .i64 (at_ : Int)] w fun e w' => e = .returned (.bool (rightB N at_ (⟨1, n1, n2, n3, n4, n5, n6, n7⟩ : S134))) ∧ Below w.heap.size w w' := by
  subst hA1
  have hu := Try.underlying134
  have hT0 : w.cell? ⟨g, 1, none⟩ = some (.slice (some ad) N.length c1) := (blk_cell h.blk 1).trans rfl
  have hlt1 : (at_ : Int) < (N.length : Int) := by omega
  have hlt1q := eq_true hlt1
  have h0q : (0 ≤ (at_ : Int)) = True := eq_true (by omega)
  obtain ⟨z5, hz5⟩ : ∃ z, decide (n5.length = 0) = z := ⟨_, rfl⟩
  have z5a : ((n5.length : Int) != 0) = !z5 := by rw [← hz5]; by_cases hh : n5.length = 0 <;> simp [hh] <;> omega
  have z5b : ((n5.length : Int) == 0) = z5 := by rw [← hz5]; by_cases hh : n5.length = 0 <;> simp [hh] <;> omega
  have z5c : decide (n5 = []) = z5 := by rw [← hz5]; cases n5 <;> simp
  obtain ⟨z6, hz6⟩ : ∃ z, decide (n6.length = 0) = z := ⟨_, rfl⟩
  obtain ⟨z7, hz7⟩ : ∃ z, decide (n7.length = 0) = z := ⟨_, rfl⟩
  have HG := Aside0.mk (show fitsB (⟨1, n1, n2, n3, n4, n5, n6, n7⟩ : S134) = (z5 && ((false || z6) && ((false || z7) && (n2.toList.isEmpty && ((n1 == 0) && (inB n3 0 65535 && (n4 == 0))))))) from by subst hz5 hz6 hz7; rfl)
  have HNE := Aside0.mk (show mIsName n2 = true → n2.toList.isEmpty = false from isname_ne n2)
  have z6a : decide (0 < (n6.length : Int)) = !z6 := by rw [← hz6]; by_cases hh : n6.length = 0 <;> simp [hh] <;> omega
  have z6b : decide (0 < n6.length) = !z6 := by rw [← hz6]; by_cases hh : n6.length = 0 <;> simp [hh] <;> omega
  have z6c : decide (n6 = []) = z6 := by rw [← hz6]; cases n6 <;> simp
  have z7a : decide (0 < (n7.length : Int)) = !z7 := by rw [← hz7]; by_cases hh : n7.length = 0 <;> simp [hh] <;> omega
  have z7b : decide (0 < n7.length) = !z7 := by rw [← hz7]; by_cases hh : n7.length = 0 <;> simp [hh] <;> omega
  have z7c : decide (n7 = []) = z7 := by rw [← hz7]; cases n7 <;> simp
  clear hz5 hz6 hz7
  have HT := Aside0.mk h
  have R5 := Aside0.mk r5
  have R6 := Aside0.mk r6
  have R7 := Aside0.mk r7
  have HB9 := Aside0.mk ((Below.refl w.heap.size w).alloc (Nat.le_refl _) (.cells #[.int .i64 1, .int .i64 n1, .string n2, .int .i64 n3, .int .i64 n4, .slice A5 n5.length c5, .slice A6 n6.length c6, .slice A7 n7.length c7] 134))
  have HW := Aside0.mk (fun (W : World) (hb : Below w.heap.size w W) => spec_l4Wants.calls 5 1 n1 n2 n3 n4 A5 c5 n5 A6 c6 n6 A7 c7 n7 false 0 true W (Kd.C_below r5 hb) hc5 (Kd.C_below r6 hb) hc6 (Kd.C_below r7 hb) hc7 (by rfl))
  obtain ⟨y5, hy5⟩ : ∃ y, n5.all (refB N at_ true) = y := ⟨_, rfl⟩
  have HQ5 := Aside0.mk (fun (W : World) (hb : Below w.heap.size w W) => (by have := spec_l4Refs.w g V N B A0 (some ad) A2 c0 c1 c2 at_ (by omega) hN A5 c5 n5 true W (h.below hb) (Kd.C_below r5 hb); rw [hy5] at this; exact this : Calls Try.prog 130 #[.pointer (some ⟨g, 0, none⟩), .int .i64 (at_ : Int), .slice A5 n5.length c5, .bool true] W fun e' w' => e' = .returned (.bool y5) ∧ Below W.heap.size W w'))
  obtain ⟨y6, hy6⟩ : ∃ y, n6.all (refB N at_ false) = y := ⟨_, rfl⟩
  have HQ6 := Aside0.mk (fun (W : World) (hb : Below w.heap.size w W) => (by have := spec_l4Refs.w g V N B A0 (some ad) A2 c0 c1 c2 at_ (by omega) hN A6 c6 n6 false W (h.below hb) (Kd.C_below r6 hb); rw [hy6] at this; exact this : Calls Try.prog 130 #[.pointer (some ⟨g, 0, none⟩), .int .i64 (at_ : Int), .slice A6 n6.length c6, .bool false] W fun e' w' => e' = .returned (.bool y6) ∧ Below W.heap.size W w'))
  obtain ⟨y7, hy7⟩ : ∃ y, n7.all (refB N at_ false) = y := ⟨_, rfl⟩
  have HQ7 := Aside0.mk (fun (W : World) (hb : Below w.heap.size w W) => (by have := spec_l4Refs.w g V N B A0 (some ad) A2 c0 c1 c2 at_ (by omega) hN A7 c7 n7 false W (h.below hb) (Kd.C_below r7 hb); rw [hy7] at this; exact this : Calls Try.prog 130 #[.pointer (some ⟨g, 0, none⟩), .int .i64 (at_ : Int), .slice A7 n7.length c7, .bool false] W fun e' w' => e' = .returned (.bool y7) ∧ Below W.heap.size W w'))
  have HY := Aside0.mk (show rightB N at_ (⟨1, n1, n2, n3, n4, n5, n6, n7⟩ : S134) = (fitsB (⟨1, n1, n2, n3, n4, n5, n6, n7⟩ : S134) && (y5 && (y6 && y7))) from by subst hy5 hy6 hy7; rfl)
  clear hy5 hy6 hy7
  clear h r5 r6 r7
  go_enter Try.func129, Try.ntmps129
  go_wp2_with fail
  refine (d_l1In _ _ _ _).mono ?_
  rintro e w' ⟨rfl, q, rfl⟩
  go_wp2_with fail
  refine (HW.out _ (pw_below_drewN HB9.out _)).mono ?_
  rintro e w1 ⟨rfl, hb⟩
  have BK1 := Aside0.mk (blk_below (g := w.heap.size) (o := .cells #[.int .i64 1, .int .i64 n1, .string n2, .int .i64 n3, .int .i64 n4, .slice A5 n5.length c5, .slice A6 n6.length c6, .slice A7 n7.length c7] 134 (0, 0)) (by first | exact blk_drewN (blk_new w _) _ | exact blk_new w _) hb)
  have HBa := Aside0.mk (below_step (pw_below_drewN HB9.out _) hb)
  clear hb
  have x1_0 : w1.cell? ⟨w.heap.size, 0, none⟩ = some (.int .i64 1) := (blk_cell BK1.out 0).trans rfl
  have x1_1 : w1.cell? ⟨w.heap.size, 1, none⟩ = some (.int .i64 n1) := (blk_cell BK1.out 1).trans rfl
  have x1_2 : w1.cell? ⟨w.heap.size, 2, none⟩ = some (.string n2) := (blk_cell BK1.out 2).trans rfl
  have x1_3 : w1.cell? ⟨w.heap.size, 3, none⟩ = some (.int .i64 n3) := (blk_cell BK1.out 3).trans rfl
  have x1_4 : w1.cell? ⟨w.heap.size, 4, none⟩ = some (.int .i64 n4) := (blk_cell BK1.out 4).trans rfl
  have x1_5 : w1.cell? ⟨w.heap.size, 5, none⟩ = some (.slice A5 n5.length c5) := (blk_cell BK1.out 5).trans rfl
  have x1_6 : w1.cell? ⟨w.heap.size, 6, none⟩ = some (.slice A6 n6.length c6) := (blk_cell BK1.out 6).trans rfl
  have x1_7 : w1.cell? ⟨w.heap.size, 7, none⟩ = some (.slice A7 n7.length c7) := (blk_cell BK1.out 7).trans rfl
  go_wp2_with fail
  refine (w_IsName' _ hs _).mono ?_
  rintro e w2 ⟨rfl, hb⟩
  have BK2 := Aside0.mk (blk_below BK1.out hb)
  have HBb := Aside0.mk (below_step HBa.out hb)
  clear hb x1_0 x1_1 x1_2 x1_3 x1_4 x1_5 x1_6 x1_7
  have x2_0 : w2.cell? ⟨w.heap.size, 0, none⟩ = some (.int .i64 1) := (blk_cell BK2.out 0).trans rfl
  have x2_1 : w2.cell? ⟨w.heap.size, 1, none⟩ = some (.int .i64 n1) := (blk_cell BK2.out 1).trans rfl
  have x2_2 : w2.cell? ⟨w.heap.size, 2, none⟩ = some (.string n2) := (blk_cell BK2.out 2).trans rfl
  have x2_3 : w2.cell? ⟨w.heap.size, 3, none⟩ = some (.int .i64 n3) := (blk_cell BK2.out 3).trans rfl
  have x2_4 : w2.cell? ⟨w.heap.size, 4, none⟩ = some (.int .i64 n4) := (blk_cell BK2.out 4).trans rfl
  have x2_5 : w2.cell? ⟨w.heap.size, 5, none⟩ = some (.slice A5 n5.length c5) := (blk_cell BK2.out 5).trans rfl
  have x2_6 : w2.cell? ⟨w.heap.size, 6, none⟩ = some (.slice A6 n6.length c6) := (blk_cell BK2.out 6).trans rfl
  have x2_7 : w2.cell? ⟨w.heap.size, 7, none⟩ = some (.slice A7 n7.length c7) := (blk_cell BK2.out 7).trans rfl
  go_wp2_with (first | (go_at_call 67; refine (d_l1In _ _ _ _).mono ?_; rintro e w' ⟨rfl, q2, rfl⟩) | (go_at_call 83; refine (d_l1Word _ _).mono ?_; rintro e w' ⟨rfl, q2, rfl⟩))
  all_goals first
  | ((with_reducible refine (HQ5.out _ (by repeat (first | exact HBb.out | apply pw_below_drewN))).mono ?_)
     rintro e w3 ⟨rfl, hb⟩
     have BK3 := Aside0.mk (blk_below (g := w.heap.size) (o := .cells #[.int .i64 1, .int .i64 n1, .string n2, .int .i64 n3, .int .i64 n4, .slice A5 n5.length c5, .slice A6 n6.length c6, .slice A7 n7.length c7] 134 (0, 0)) (by first | exact BK2.out | exact blk_drewN BK2.out _) hb)
     have HB3 := Aside0.mk (below_step (by repeat (first | exact HBb.out | apply pw_below_drewN)) hb)
     clear hb x2_0 x2_1 x2_2 x2_3 x2_4 x2_5 x2_6 x2_7
     have x3_0 : w3.cell? ⟨w.heap.size, 0, none⟩ = some (.int .i64 1) := (blk_cell BK3.out 0).trans rfl
     have x3_1 : w3.cell? ⟨w.heap.size, 1, none⟩ = some (.int .i64 n1) := (blk_cell BK3.out 1).trans rfl
     have x3_2 : w3.cell? ⟨w.heap.size, 2, none⟩ = some (.string n2) := (blk_cell BK3.out 2).trans rfl
     have x3_3 : w3.cell? ⟨w.heap.size, 3, none⟩ = some (.int .i64 n3) := (blk_cell BK3.out 3).trans rfl
     have x3_4 : w3.cell? ⟨w.heap.size, 4, none⟩ = some (.int .i64 n4) := (blk_cell BK3.out 4).trans rfl
     have x3_5 : w3.cell? ⟨w.heap.size, 5, none⟩ = some (.slice A5 n5.length c5) := (blk_cell BK3.out 5).trans rfl
     have x3_6 : w3.cell? ⟨w.heap.size, 6, none⟩ = some (.slice A6 n6.length c6) := (blk_cell BK3.out 6).trans rfl
     have x3_7 : w3.cell? ⟨w.heap.size, 7, none⟩ = some (.slice A7 n7.length c7) := (blk_cell BK3.out 7).trans rfl
     go_wp2_with fail
     all_goals first
     | ((with_reducible refine (HQ6.out _ (by repeat (first | exact HB3.out | apply pw_below_drewN))).mono ?_)
        rintro e w4 ⟨rfl, hb⟩
        have BK4 := Aside0.mk (blk_below (g := w.heap.size) (o := .cells #[.int .i64 1, .int .i64 n1, .string n2, .int .i64 n3, .int .i64 n4, .slice A5 n5.length c5, .slice A6 n6.length c6, .slice A7 n7.length c7] 134 (0, 0)) (by first | exact BK3.out | exact blk_drewN BK3.out _) hb)
        have HB4 := Aside0.mk (below_step (by repeat (first | exact HB3.out | apply pw_below_drewN)) hb)
        clear hb x3_0 x3_1 x3_2 x3_3 x3_4 x3_5 x3_6 x3_7
        have x4_0 : w4.cell? ⟨w.heap.size, 0, none⟩ = some (.int .i64 1) := (blk_cell BK4.out 0).trans rfl
        have x4_1 : w4.cell? ⟨w.heap.size, 1, none⟩ = some (.int .i64 n1) := (blk_cell BK4.out 1).trans rfl
        have x4_2 : w4.cell? ⟨w.heap.size, 2, none⟩ = some (.string n2) := (blk_cell BK4.out 2).trans rfl
        have x4_3 : w4.cell? ⟨w.heap.size, 3, none⟩ = some (.int .i64 n3) := (blk_cell BK4.out 3).trans rfl
        have x4_4 : w4.cell? ⟨w.heap.size, 4, none⟩ = some (.int .i64 n4) := (blk_cell BK4.out 4).trans rfl
        have x4_5 : w4.cell? ⟨w.heap.size, 5, none⟩ = some (.slice A5 n5.length c5) := (blk_cell BK4.out 5).trans rfl
        have x4_6 : w4.cell? ⟨w.heap.size, 6, none⟩ = some (.slice A6 n6.length c6) := (blk_cell BK4.out 6).trans rfl
        have x4_7 : w4.cell? ⟨w.heap.size, 7, none⟩ = some (.slice A7 n7.length c7) := (blk_cell BK4.out 7).trans rfl
        go_wp2_with fail
        all_goals first
        | ((with_reducible refine (HQ7.out _ (by repeat (first | exact HB4.out | apply pw_below_drewN))).mono ?_)
           rintro e w5 ⟨rfl, hb⟩
           have BK5 := Aside0.mk (blk_below (g := w.heap.size) (o := .cells #[.int .i64 1, .int .i64 n1, .string n2, .int .i64 n3, .int .i64 n4, .slice A5 n5.length c5, .slice A6 n6.length c6, .slice A7 n7.length c7] 134 (0, 0)) (by first | exact BK4.out | exact blk_drewN BK4.out _) hb)
           have HB5 := Aside0.mk (below_step (by repeat (first | exact HB4.out | apply pw_below_drewN)) hb)
           clear hb x4_0 x4_1 x4_2 x4_3 x4_4 x4_5 x4_6 x4_7
           have x5_0 : w5.cell? ⟨w.heap.size, 0, none⟩ = some (.int .i64 1) := (blk_cell BK5.out 0).trans rfl
           have x5_1 : w5.cell? ⟨w.heap.size, 1, none⟩ = some (.int .i64 n1) := (blk_cell BK5.out 1).trans rfl
           have x5_2 : w5.cell? ⟨w.heap.size, 2, none⟩ = some (.string n2) := (blk_cell BK5.out 2).trans rfl
           have x5_3 : w5.cell? ⟨w.heap.size, 3, none⟩ = some (.int .i64 n3) := (blk_cell BK5.out 3).trans rfl
           have x5_4 : w5.cell? ⟨w.heap.size, 4, none⟩ = some (.int .i64 n4) := (blk_cell BK5.out 4).trans rfl
           have x5_5 : w5.cell? ⟨w.heap.size, 5, none⟩ = some (.slice A5 n5.length c5) := (blk_cell BK5.out 5).trans rfl
           have x5_6 : w5.cell? ⟨w.heap.size, 6, none⟩ = some (.slice A6 n6.length c6) := (blk_cell BK5.out 6).trans rfl
           have x5_7 : w5.cell? ⟨w.heap.size, 7, none⟩ = some (.slice A7 n7.length c7) := (blk_cell BK5.out 7).trans rfl
           go_wp2_with fail
           all_goals (go_ret; refine ⟨?_, by repeat (first | exact HB5.out | apply pw_below_drewN)⟩; have hne_ := HNE.out; rw [HY.out, HG.out]; clear HG HNE HY; (try simp_all [restB]); (try (intros; first | (simp_all; done) | omega | (simp_all [inB]; done) | (simp_all [inB]; omega))); done))
        | (go_ret; refine ⟨?_, by repeat (first | exact HB4.out | apply pw_below_drewN)⟩; have hne_ := HNE.out; rw [HY.out, HG.out]; clear HG HNE HY; (try simp_all [restB]); (try (intros; first | (simp_all; done) | omega | (simp_all [inB]; done) | (simp_all [inB]; omega))); done))
     | (go_ret; refine ⟨?_, by repeat (first | exact HB3.out | apply pw_below_drewN)⟩; have hne_ := HNE.out; rw [HY.out, HG.out]; clear HG HNE HY; (try simp_all [restB]); (try (intros; first | (simp_all; done) | omega | (simp_all [inB]; done) | (simp_all [inB]; omega))); done))
  | (go_ret; refine ⟨?_, by repeat (first | exact HBb.out | apply pw_below_drewN)⟩; have hne_ := HNE.out; rw [HY.out, HG.out]; clear HG HNE HY; (try simp_all [restB]); (try (intros; first | (simp_all; done) | omega | (simp_all [inB]; done) | (simp_all [inB]; omega))); done)
set_option maxHeartbeats 8000000 in
set_option maxRecDepth 100000 in
theorem spec_l4Right.k2 (g : Nat) (V : List S125) (N : List S134) (B : List Int) (A0 A1 A2 : Option Addr) (c0 c1 c2 : Nat) (at_ : Nat) (hat : at_ < N.length) (hN : N.length ≤ 1048576) (ad : Addr) (hA1 : A1 = some ad) (n1 : Int) (n2 : ByteArray) (n3 n4 : Int) (n5 n6 n7 : List Int) (A5 A6 A7 : Option Addr) (c5 c6 c7 : Nat) (w : World) (hs : n2.size ≤ 1048576) (hs5 : n5.length ≤ 1048576) (h : TreeAt w g V N B A0 c0 A1 c1 A2 c2) (hc5 : n5.length ≤ c5) (hc6 : n6.length ≤ c6) (hc7 : n7.length ≤ c7) (q0 : w.cell? (ad.add (at_ * 8)) = some (.int .i64 2)) (q1 : w.cell? ⟨(ad.add (at_ * 8)).block, (ad.add (at_ * 8)).off + 1, none⟩ = some (.int .i64 n1)) (q2 : w.cell? ⟨(ad.add (at_ * 8)).block, (ad.add (at_ * 8)).off + 2, none⟩ = some (.string n2)) (q3 : w.cell? ⟨(ad.add (at_ * 8)).block, (ad.add (at_ * 8)).off + 3, none⟩ = some (.int .i64 n3)) (q4 : w.cell? ⟨(ad.add (at_ * 8)).block, (ad.add (at_ * 8)).off + 4, none⟩ = some (.int .i64 n4)) (q5 : w.cell? ⟨(ad.add (at_ * 8)).block, (ad.add (at_ * 8)).off + 5, none⟩ = some (.slice A5 n5.length c5)) (q6 : w.cell? ⟨(ad.add (at_ * 8)).block, (ad.add (at_ * 8)).off + 6, none⟩ = some (.slice A6 n6.length c6)) (q7 : w.cell? ⟨(ad.add (at_ * 8)).block, (ad.add (at_ * 8)).off + 7, none⟩ = some (.slice A7 n7.length c7)) (r5 : Kd.C (Kd.int .i64) w A5 n5.length n5) (r6 : Kd.C (Kd.int .i64) w A6 n6.length n6) (r7 : Kd.C (Kd.int .i64) w A7 n7.length n7) :
    Calls Try.prog 129 #[.pointer (some ⟨g, 0, none⟩), .int .i64 (at_ : Int)] w fun e w' => e = .returned (.bool (rightB N at_ (⟨2, n1, n2, n3, n4, n5, n6, n7⟩ : S134))) ∧ Below w.heap.size w w' := by
  subst hA1
  have hu := Try.underlying134
  have hT0 : w.cell? ⟨g, 1, none⟩ = some (.slice (some ad) N.length c1) := (blk_cell h.blk 1).trans rfl
  have hlt1 : (at_ : Int) < (N.length : Int) := by omega
  have hlt1q := eq_true hlt1
  have h0q : (0 ≤ (at_ : Int)) = True := eq_true (by omega)
  obtain ⟨z5, hz5⟩ : ∃ z, decide (n5.length = 0) = z := ⟨_, rfl⟩
  have z5a : ((n5.length : Int) != 0) = !z5 := by rw [← hz5]; by_cases hh : n5.length = 0 <;> simp [hh] <;> omega
  have z5b : ((n5.length : Int) == 0) = z5 := by rw [← hz5]; by_cases hh : n5.length = 0 <;> simp [hh] <;> omega
  have z5c : decide (n5 = []) = z5 := by rw [← hz5]; cases n5 <;> simp
  obtain ⟨z6, hz6⟩ : ∃ z, decide (n6.length = 0) = z := ⟨_, rfl⟩
  obtain ⟨z7, hz7⟩ : ∃ z, decide (n7.length = 0) = z := ⟨_, rfl⟩
  have HG := Aside0.mk (show fitsB (⟨2, n1, n2, n3, n4, n5, n6, n7⟩ : S134) = (z5 && ((false || z6) && ((false || z7) && (mIsName n2 && ((n1 == 0) && ((n3 == 0) && (n4 == 0))))))) from by subst hz5 hz6 hz7; rfl)
  have HNE := Aside0.mk (show mIsName n2 = true → n2.toList.isEmpty = false from isname_ne n2)
  have z6a : decide (0 < (n6.length : Int)) = !z6 := by rw [← hz6]; by_cases hh : n6.length = 0 <;> simp [hh] <;> omega
  have z6b : decide (0 < n6.length) = !z6 := by rw [← hz6]; by_cases hh : n6.length = 0 <;> simp [hh] <;> omega
  have z6c : decide (n6 = []) = z6 := by rw [← hz6]; cases n6 <;> simp
  have z7a : decide (0 < (n7.length : Int)) = !z7 := by rw [← hz7]; by_cases hh : n7.length = 0 <;> simp [hh] <;> omega
  have z7b : decide (0 < n7.length) = !z7 := by rw [← hz7]; by_cases hh : n7.length = 0 <;> simp [hh] <;> omega
  have z7c : decide (n7 = []) = z7 := by rw [← hz7]; cases n7 <;> simp
  clear hz5 hz6 hz7
  have HT := Aside0.mk h
  have R5 := Aside0.mk r5
  have R6 := Aside0.mk r6
  have R7 := Aside0.mk r7
  have HB9 := Aside0.mk ((Below.refl w.heap.size w).alloc (Nat.le_refl _) (.cells #[.int .i64 2, .int .i64 n1, .string n2, .int .i64 n3, .int .i64 n4, .slice A5 n5.length c5, .slice A6 n6.length c6, .slice A7 n7.length c7] 134))
  have HW := Aside0.mk (fun (W : World) (hb : Below w.heap.size w W) => spec_l4Wants.calls 5 2 n1 n2 n3 n4 A5 c5 n5 A6 c6 n6 A7 c7 n7 true 0 false W (Kd.C_below r5 hb) hc5 (Kd.C_below r6 hb) hc6 (Kd.C_below r7 hb) hc7 (by rfl))
  obtain ⟨y5, hy5⟩ : ∃ y, n5.all (refB N at_ true) = y := ⟨_, rfl⟩
  have HQ5 := Aside0.mk (fun (W : World) (hb : Below w.heap.size w W) => (by have := spec_l4Refs.w g V N B A0 (some ad) A2 c0 c1 c2 at_ (by omega) hN A5 c5 n5 true W (h.below hb) (Kd.C_below r5 hb); rw [hy5] at this; exact this : Calls Try.prog 130 #[.pointer (some ⟨g, 0, none⟩), .int .i64 (at_ : Int), .slice A5 n5.length c5, .bool true] W fun e' w' => e' = .returned (.bool y5) ∧ Below W.heap.size W w'))
  obtain ⟨y6, hy6⟩ : ∃ y, n6.all (refB N at_ false) = y := ⟨_, rfl⟩
  have HQ6 := Aside0.mk (fun (W : World) (hb : Below w.heap.size w W) => (by have := spec_l4Refs.w g V N B A0 (some ad) A2 c0 c1 c2 at_ (by omega) hN A6 c6 n6 false W (h.below hb) (Kd.C_below r6 hb); rw [hy6] at this; exact this : Calls Try.prog 130 #[.pointer (some ⟨g, 0, none⟩), .int .i64 (at_ : Int), .slice A6 n6.length c6, .bool false] W fun e' w' => e' = .returned (.bool y6) ∧ Below W.heap.size W w'))
  obtain ⟨y7, hy7⟩ : ∃ y, n7.all (refB N at_ false) = y := ⟨_, rfl⟩
  have HQ7 := Aside0.mk (fun (W : World) (hb : Below w.heap.size w W) => (by have := spec_l4Refs.w g V N B A0 (some ad) A2 c0 c1 c2 at_ (by omega) hN A7 c7 n7 false W (h.below hb) (Kd.C_below r7 hb); rw [hy7] at this; exact this : Calls Try.prog 130 #[.pointer (some ⟨g, 0, none⟩), .int .i64 (at_ : Int), .slice A7 n7.length c7, .bool false] W fun e' w' => e' = .returned (.bool y7) ∧ Below W.heap.size W w'))
  have HY := Aside0.mk (show rightB N at_ (⟨2, n1, n2, n3, n4, n5, n6, n7⟩ : S134) = (fitsB (⟨2, n1, n2, n3, n4, n5, n6, n7⟩ : S134) && (y5 && (y6 && y7))) from by subst hy5 hy6 hy7; rfl)
  clear hy5 hy6 hy7
  clear h r5 r6 r7
  go_enter Try.func129, Try.ntmps129
  go_wp2_with fail
  refine (d_l1In _ _ _ _).mono ?_
  rintro e w' ⟨rfl, q, rfl⟩
  go_wp2_with fail
  refine (HW.out _ (pw_below_drewN HB9.out _)).mono ?_
  rintro e w1 ⟨rfl, hb⟩
  have BK1 := Aside0.mk (blk_below (g := w.heap.size) (o := .cells #[.int .i64 2, .int .i64 n1, .string n2, .int .i64 n3, .int .i64 n4, .slice A5 n5.length c5, .slice A6 n6.length c6, .slice A7 n7.length c7] 134 (0, 0)) (by first | exact blk_drewN (blk_new w _) _ | exact blk_new w _) hb)
  have HBa := Aside0.mk (below_step (pw_below_drewN HB9.out _) hb)
  clear hb
  have x1_0 : w1.cell? ⟨w.heap.size, 0, none⟩ = some (.int .i64 2) := (blk_cell BK1.out 0).trans rfl
  have x1_1 : w1.cell? ⟨w.heap.size, 1, none⟩ = some (.int .i64 n1) := (blk_cell BK1.out 1).trans rfl
  have x1_2 : w1.cell? ⟨w.heap.size, 2, none⟩ = some (.string n2) := (blk_cell BK1.out 2).trans rfl
  have x1_3 : w1.cell? ⟨w.heap.size, 3, none⟩ = some (.int .i64 n3) := (blk_cell BK1.out 3).trans rfl
  have x1_4 : w1.cell? ⟨w.heap.size, 4, none⟩ = some (.int .i64 n4) := (blk_cell BK1.out 4).trans rfl
  have x1_5 : w1.cell? ⟨w.heap.size, 5, none⟩ = some (.slice A5 n5.length c5) := (blk_cell BK1.out 5).trans rfl
  have x1_6 : w1.cell? ⟨w.heap.size, 6, none⟩ = some (.slice A6 n6.length c6) := (blk_cell BK1.out 6).trans rfl
  have x1_7 : w1.cell? ⟨w.heap.size, 7, none⟩ = some (.slice A7 n7.length c7) := (blk_cell BK1.out 7).trans rfl
  go_wp2_with fail
  refine (w_IsName' _ hs _).mono ?_
  rintro e w2 ⟨rfl, hb⟩
  have BK2 := Aside0.mk (blk_below BK1.out hb)
  have HBb := Aside0.mk (below_step HBa.out hb)
  clear hb x1_0 x1_1 x1_2 x1_3 x1_4 x1_5 x1_6 x1_7
  have x2_0 : w2.cell? ⟨w.heap.size, 0, none⟩ = some (.int .i64 2) := (blk_cell BK2.out 0).trans rfl
  have x2_1 : w2.cell? ⟨w.heap.size, 1, none⟩ = some (.int .i64 n1) := (blk_cell BK2.out 1).trans rfl
  have x2_2 : w2.cell? ⟨w.heap.size, 2, none⟩ = some (.string n2) := (blk_cell BK2.out 2).trans rfl
  have x2_3 : w2.cell? ⟨w.heap.size, 3, none⟩ = some (.int .i64 n3) := (blk_cell BK2.out 3).trans rfl
  have x2_4 : w2.cell? ⟨w.heap.size, 4, none⟩ = some (.int .i64 n4) := (blk_cell BK2.out 4).trans rfl
  have x2_5 : w2.cell? ⟨w.heap.size, 5, none⟩ = some (.slice A5 n5.length c5) := (blk_cell BK2.out 5).trans rfl
  have x2_6 : w2.cell? ⟨w.heap.size, 6, none⟩ = some (.slice A6 n6.length c6) := (blk_cell BK2.out 6).trans rfl
  have x2_7 : w2.cell? ⟨w.heap.size, 7, none⟩ = some (.slice A7 n7.length c7) := (blk_cell BK2.out 7).trans rfl
  go_wp2_with (first | (go_at_call 67; refine (d_l1In _ _ _ _).mono ?_; rintro e w' ⟨rfl, q2, rfl⟩) | (go_at_call 83; refine (d_l1Word _ _).mono ?_; rintro e w' ⟨rfl, q2, rfl⟩))
  all_goals first
  | ((with_reducible refine (HQ5.out _ (by repeat (first | exact HBb.out | apply pw_below_drewN))).mono ?_)
     rintro e w3 ⟨rfl, hb⟩
     have BK3 := Aside0.mk (blk_below (g := w.heap.size) (o := .cells #[.int .i64 2, .int .i64 n1, .string n2, .int .i64 n3, .int .i64 n4, .slice A5 n5.length c5, .slice A6 n6.length c6, .slice A7 n7.length c7] 134 (0, 0)) (by first | exact BK2.out | exact blk_drewN BK2.out _) hb)
     have HB3 := Aside0.mk (below_step (by repeat (first | exact HBb.out | apply pw_below_drewN)) hb)
     clear hb x2_0 x2_1 x2_2 x2_3 x2_4 x2_5 x2_6 x2_7
     have x3_0 : w3.cell? ⟨w.heap.size, 0, none⟩ = some (.int .i64 2) := (blk_cell BK3.out 0).trans rfl
     have x3_1 : w3.cell? ⟨w.heap.size, 1, none⟩ = some (.int .i64 n1) := (blk_cell BK3.out 1).trans rfl
     have x3_2 : w3.cell? ⟨w.heap.size, 2, none⟩ = some (.string n2) := (blk_cell BK3.out 2).trans rfl
     have x3_3 : w3.cell? ⟨w.heap.size, 3, none⟩ = some (.int .i64 n3) := (blk_cell BK3.out 3).trans rfl
     have x3_4 : w3.cell? ⟨w.heap.size, 4, none⟩ = some (.int .i64 n4) := (blk_cell BK3.out 4).trans rfl
     have x3_5 : w3.cell? ⟨w.heap.size, 5, none⟩ = some (.slice A5 n5.length c5) := (blk_cell BK3.out 5).trans rfl
     have x3_6 : w3.cell? ⟨w.heap.size, 6, none⟩ = some (.slice A6 n6.length c6) := (blk_cell BK3.out 6).trans rfl
     have x3_7 : w3.cell? ⟨w.heap.size, 7, none⟩ = some (.slice A7 n7.length c7) := (blk_cell BK3.out 7).trans rfl
     go_wp2_with fail
     all_goals first
     | ((with_reducible refine (HQ6.out _ (by repeat (first | exact HB3.out | apply pw_below_drewN))).mono ?_)
        rintro e w4 ⟨rfl, hb⟩
        have BK4 := Aside0.mk (blk_below (g := w.heap.size) (o := .cells #[.int .i64 2, .int .i64 n1, .string n2, .int .i64 n3, .int .i64 n4, .slice A5 n5.length c5, .slice A6 n6.length c6, .slice A7 n7.length c7] 134 (0, 0)) (by first | exact BK3.out | exact blk_drewN BK3.out _) hb)
        have HB4 := Aside0.mk (below_step (by repeat (first | exact HB3.out | apply pw_below_drewN)) hb)
        clear hb x3_0 x3_1 x3_2 x3_3 x3_4 x3_5 x3_6 x3_7
        have x4_0 : w4.cell? ⟨w.heap.size, 0, none⟩ = some (.int .i64 2) := (blk_cell BK4.out 0).trans rfl
        have x4_1 : w4.cell? ⟨w.heap.size, 1, none⟩ = some (.int .i64 n1) := (blk_cell BK4.out 1).trans rfl
        have x4_2 : w4.cell? ⟨w.heap.size, 2, none⟩ = some (.string n2) := (blk_cell BK4.out 2).trans rfl
        have x4_3 : w4.cell? ⟨w.heap.size, 3, none⟩ = some (.int .i64 n3) := (blk_cell BK4.out 3).trans rfl
        have x4_4 : w4.cell? ⟨w.heap.size, 4, none⟩ = some (.int .i64 n4) := (blk_cell BK4.out 4).trans rfl
        have x4_5 : w4.cell? ⟨w.heap.size, 5, none⟩ = some (.slice A5 n5.length c5) := (blk_cell BK4.out 5).trans rfl
        have x4_6 : w4.cell? ⟨w.heap.size, 6, none⟩ = some (.slice A6 n6.length c6) := (blk_cell BK4.out 6).trans rfl
        have x4_7 : w4.cell? ⟨w.heap.size, 7, none⟩ = some (.slice A7 n7.length c7) := (blk_cell BK4.out 7).trans rfl
        go_wp2_with fail
        all_goals first
        | ((with_reducible refine (HQ7.out _ (by repeat (first | exact HB4.out | apply pw_below_drewN))).mono ?_)
           rintro e w5 ⟨rfl, hb⟩
           have BK5 := Aside0.mk (blk_below (g := w.heap.size) (o := .cells #[.int .i64 2, .int .i64 n1, .string n2, .int .i64 n3, .int .i64 n4, .slice A5 n5.length c5, .slice A6 n6.length c6, .slice A7 n7.length c7] 134 (0, 0)) (by first | exact BK4.out | exact blk_drewN BK4.out _) hb)
           have HB5 := Aside0.mk (below_step (by repeat (first | exact HB4.out | apply pw_below_drewN)) hb)
           clear hb x4_0 x4_1 x4_2 x4_3 x4_4 x4_5 x4_6 x4_7
           have x5_0 : w5.cell? ⟨w.heap.size, 0, none⟩ = some (.int .i64 2) := (blk_cell BK5.out 0).trans rfl
           have x5_1 : w5.cell? ⟨w.heap.size, 1, none⟩ = some (.int .i64 n1) := (blk_cell BK5.out 1).trans rfl
           have x5_2 : w5.cell? ⟨w.heap.size, 2, none⟩ = some (.string n2) := (blk_cell BK5.out 2).trans rfl
           have x5_3 : w5.cell? ⟨w.heap.size, 3, none⟩ = some (.int .i64 n3) := (blk_cell BK5.out 3).trans rfl
           have x5_4 : w5.cell? ⟨w.heap.size, 4, none⟩ = some (.int .i64 n4) := (blk_cell BK5.out 4).trans rfl
           have x5_5 : w5.cell? ⟨w.heap.size, 5, none⟩ = some (.slice A5 n5.length c5) := (blk_cell BK5.out 5).trans rfl
           have x5_6 : w5.cell? ⟨w.heap.size, 6, none⟩ = some (.slice A6 n6.length c6) := (blk_cell BK5.out 6).trans rfl
           have x5_7 : w5.cell? ⟨w.heap.size, 7, none⟩ = some (.slice A7 n7.length c7) := (blk_cell BK5.out 7).trans rfl
           go_wp2_with fail
           all_goals (go_ret; refine ⟨?_, by repeat (first | exact HB5.out | apply pw_below_drewN)⟩; have hne_ := HNE.out; rw [HY.out, HG.out]; clear HG HNE HY; (try simp_all [restB]); (try (intros; first | (simp_all; done) | omega | (simp_all [inB]; done) | (simp_all [inB]; omega))); done))
        | (go_ret; refine ⟨?_, by repeat (first | exact HB4.out | apply pw_below_drewN)⟩; have hne_ := HNE.out; rw [HY.out, HG.out]; clear HG HNE HY; (try simp_all [restB]); (try (intros; first | (simp_all; done) | omega | (simp_all [inB]; done) | (simp_all [inB]; omega))); done))
     | (go_ret; refine ⟨?_, by repeat (first | exact HB3.out | apply pw_below_drewN)⟩; have hne_ := HNE.out; rw [HY.out, HG.out]; clear HG HNE HY; (try simp_all [restB]); (try (intros; first | (simp_all; done) | omega | (simp_all [inB]; done) | (simp_all [inB]; omega))); done))
  | (go_ret; refine ⟨?_, by repeat (first | exact HBb.out | apply pw_below_drewN)⟩; have hne_ := HNE.out; rw [HY.out, HG.out]; clear HG HNE HY; (try simp_all [restB]); (try (intros; first | (simp_all; done) | omega | (simp_all [inB]; done) | (simp_all [inB]; omega))); done)
set_option maxHeartbeats 8000000 in
set_option maxRecDepth 100000 in
theorem spec_l4Right.k3 (g : Nat) (V : List S125) (N : List S134) (B : List Int) (A0 A1 A2 : Option Addr) (c0 c1 c2 : Nat) (at_ : Nat) (hat : at_ < N.length) (hN : N.length ≤ 1048576) (ad : Addr) (hA1 : A1 = some ad) (n1 : Int) (n2 : ByteArray) (n3 n4 : Int) (n5 n6 n7 : List Int) (A5 A6 A7 : Option Addr) (c5 c6 c7 : Nat) (w : World) (hs : n2.size ≤ 1048576) (hs5 : n5.length ≤ 1048576) (h : TreeAt w g V N B A0 c0 A1 c1 A2 c2) (hc5 : n5.length ≤ c5) (hc6 : n6.length ≤ c6) (hc7 : n7.length ≤ c7) (q0 : w.cell? (ad.add (at_ * 8)) = some (.int .i64 3)) (q1 : w.cell? ⟨(ad.add (at_ * 8)).block, (ad.add (at_ * 8)).off + 1, none⟩ = some (.int .i64 n1)) (q2 : w.cell? ⟨(ad.add (at_ * 8)).block, (ad.add (at_ * 8)).off + 2, none⟩ = some (.string n2)) (q3 : w.cell? ⟨(ad.add (at_ * 8)).block, (ad.add (at_ * 8)).off + 3, none⟩ = some (.int .i64 n3)) (q4 : w.cell? ⟨(ad.add (at_ * 8)).block, (ad.add (at_ * 8)).off + 4, none⟩ = some (.int .i64 n4)) (q5 : w.cell? ⟨(ad.add (at_ * 8)).block, (ad.add (at_ * 8)).off + 5, none⟩ = some (.slice A5 n5.length c5)) (q6 : w.cell? ⟨(ad.add (at_ * 8)).block, (ad.add (at_ * 8)).off + 6, none⟩ = some (.slice A6 n6.length c6)) (q7 : w.cell? ⟨(ad.add (at_ * 8)).block, (ad.add (at_ * 8)).off + 7, none⟩ = some (.slice A7 n7.length c7)) (r5 : Kd.C (Kd.int .i64) w A5 n5.length n5) (r6 : Kd.C (Kd.int .i64) w A6 n6.length n6) (r7 : Kd.C (Kd.int .i64) w A7 n7.length n7) :
    Calls Try.prog 129 #[.pointer (some ⟨g, 0, none⟩), .int .i64 (at_ : Int)] w fun e w' => e = .returned (.bool (rightB N at_ (⟨3, n1, n2, n3, n4, n5, n6, n7⟩ : S134))) ∧ Below w.heap.size w w' := by
  subst hA1
  have hu := Try.underlying134
  have hT0 : w.cell? ⟨g, 1, none⟩ = some (.slice (some ad) N.length c1) := (blk_cell h.blk 1).trans rfl
  have hlt1 : (at_ : Int) < (N.length : Int) := by omega
  have hlt1q := eq_true hlt1
  have h0q : (0 ≤ (at_ : Int)) = True := eq_true (by omega)
  obtain ⟨z5, hz5⟩ : ∃ z, decide (n5.length = 1) = z := ⟨_, rfl⟩
  have z5a : ((n5.length : Int) != 1) = !z5 := by rw [← hz5]; by_cases hh : n5.length = 1 <;> simp [hh] <;> omega
  have z5b : ((n5.length : Int) == 1) = z5 := by rw [← hz5]; by_cases hh : n5.length = 1 <;> simp [hh] <;> omega
  obtain ⟨z6, hz6⟩ : ∃ z, decide (n6.length = 0) = z := ⟨_, rfl⟩
  obtain ⟨z7, hz7⟩ : ∃ z, decide (n7.length = 0) = z := ⟨_, rfl⟩
  have HG := Aside0.mk (show fitsB (⟨3, n1, n2, n3, n4, n5, n6, n7⟩ : S134) = (z5 && ((false || z6) && ((false || z7) && (mIsName n2 && ((n1 == 0) && ((n3 == 0) && (n4 == 0))))))) from by subst hz5 hz6 hz7; rfl)
  have HNE := Aside0.mk (show mIsName n2 = true → n2.toList.isEmpty = false from isname_ne n2)
  have z6a : decide (0 < (n6.length : Int)) = !z6 := by rw [← hz6]; by_cases hh : n6.length = 0 <;> simp [hh] <;> omega
  have z6b : decide (0 < n6.length) = !z6 := by rw [← hz6]; by_cases hh : n6.length = 0 <;> simp [hh] <;> omega
  have z6c : decide (n6 = []) = z6 := by rw [← hz6]; cases n6 <;> simp
  have z7a : decide (0 < (n7.length : Int)) = !z7 := by rw [← hz7]; by_cases hh : n7.length = 0 <;> simp [hh] <;> omega
  have z7b : decide (0 < n7.length) = !z7 := by rw [← hz7]; by_cases hh : n7.length = 0 <;> simp [hh] <;> omega
  have z7c : decide (n7 = []) = z7 := by rw [← hz7]; cases n7 <;> simp
  clear hz5 hz6 hz7
  have HT := Aside0.mk h
  have R5 := Aside0.mk r5
  have R6 := Aside0.mk r6
  have R7 := Aside0.mk r7
  have HB9 := Aside0.mk ((Below.refl w.heap.size w).alloc (Nat.le_refl _) (.cells #[.int .i64 3, .int .i64 n1, .string n2, .int .i64 n3, .int .i64 n4, .slice A5 n5.length c5, .slice A6 n6.length c6, .slice A7 n7.length c7] 134))
  have HW := Aside0.mk (fun (W : World) (hb : Below w.heap.size w W) => spec_l4Wants.calls 5 3 n1 n2 n3 n4 A5 c5 n5 A6 c6 n6 A7 c7 n7 true 1 false W (Kd.C_below r5 hb) hc5 (Kd.C_below r6 hb) hc6 (Kd.C_below r7 hb) hc7 (by rfl))
  obtain ⟨y5, hy5⟩ : ∃ y, n5.all (refB N at_ true) = y := ⟨_, rfl⟩
  have HQ5 := Aside0.mk (fun (W : World) (hb : Below w.heap.size w W) => (by have := spec_l4Refs.w g V N B A0 (some ad) A2 c0 c1 c2 at_ (by omega) hN A5 c5 n5 true W (h.below hb) (Kd.C_below r5 hb); rw [hy5] at this; exact this : Calls Try.prog 130 #[.pointer (some ⟨g, 0, none⟩), .int .i64 (at_ : Int), .slice A5 n5.length c5, .bool true] W fun e' w' => e' = .returned (.bool y5) ∧ Below W.heap.size W w'))
  obtain ⟨y6, hy6⟩ : ∃ y, n6.all (refB N at_ false) = y := ⟨_, rfl⟩
  have HQ6 := Aside0.mk (fun (W : World) (hb : Below w.heap.size w W) => (by have := spec_l4Refs.w g V N B A0 (some ad) A2 c0 c1 c2 at_ (by omega) hN A6 c6 n6 false W (h.below hb) (Kd.C_below r6 hb); rw [hy6] at this; exact this : Calls Try.prog 130 #[.pointer (some ⟨g, 0, none⟩), .int .i64 (at_ : Int), .slice A6 n6.length c6, .bool false] W fun e' w' => e' = .returned (.bool y6) ∧ Below W.heap.size W w'))
  obtain ⟨y7, hy7⟩ : ∃ y, n7.all (refB N at_ false) = y := ⟨_, rfl⟩
  have HQ7 := Aside0.mk (fun (W : World) (hb : Below w.heap.size w W) => (by have := spec_l4Refs.w g V N B A0 (some ad) A2 c0 c1 c2 at_ (by omega) hN A7 c7 n7 false W (h.below hb) (Kd.C_below r7 hb); rw [hy7] at this; exact this : Calls Try.prog 130 #[.pointer (some ⟨g, 0, none⟩), .int .i64 (at_ : Int), .slice A7 n7.length c7, .bool false] W fun e' w' => e' = .returned (.bool y7) ∧ Below W.heap.size W w'))
  have HY := Aside0.mk (show rightB N at_ (⟨3, n1, n2, n3, n4, n5, n6, n7⟩ : S134) = (fitsB (⟨3, n1, n2, n3, n4, n5, n6, n7⟩ : S134) && (y5 && (y6 && y7))) from by subst hy5 hy6 hy7; rfl)
  clear hy5 hy6 hy7
  clear h r5 r6 r7
  go_enter Try.func129, Try.ntmps129
  go_wp2_with fail
  refine (d_l1In _ _ _ _).mono ?_
  rintro e w' ⟨rfl, q, rfl⟩
  go_wp2_with fail
  refine (HW.out _ (pw_below_drewN HB9.out _)).mono ?_
  rintro e w1 ⟨rfl, hb⟩
  have BK1 := Aside0.mk (blk_below (g := w.heap.size) (o := .cells #[.int .i64 3, .int .i64 n1, .string n2, .int .i64 n3, .int .i64 n4, .slice A5 n5.length c5, .slice A6 n6.length c6, .slice A7 n7.length c7] 134 (0, 0)) (by first | exact blk_drewN (blk_new w _) _ | exact blk_new w _) hb)
  have HBa := Aside0.mk (below_step (pw_below_drewN HB9.out _) hb)
  clear hb
  have x1_0 : w1.cell? ⟨w.heap.size, 0, none⟩ = some (.int .i64 3) := (blk_cell BK1.out 0).trans rfl
  have x1_1 : w1.cell? ⟨w.heap.size, 1, none⟩ = some (.int .i64 n1) := (blk_cell BK1.out 1).trans rfl
  have x1_2 : w1.cell? ⟨w.heap.size, 2, none⟩ = some (.string n2) := (blk_cell BK1.out 2).trans rfl
  have x1_3 : w1.cell? ⟨w.heap.size, 3, none⟩ = some (.int .i64 n3) := (blk_cell BK1.out 3).trans rfl
  have x1_4 : w1.cell? ⟨w.heap.size, 4, none⟩ = some (.int .i64 n4) := (blk_cell BK1.out 4).trans rfl
  have x1_5 : w1.cell? ⟨w.heap.size, 5, none⟩ = some (.slice A5 n5.length c5) := (blk_cell BK1.out 5).trans rfl
  have x1_6 : w1.cell? ⟨w.heap.size, 6, none⟩ = some (.slice A6 n6.length c6) := (blk_cell BK1.out 6).trans rfl
  have x1_7 : w1.cell? ⟨w.heap.size, 7, none⟩ = some (.slice A7 n7.length c7) := (blk_cell BK1.out 7).trans rfl
  go_wp2_with fail
  refine (w_IsName' _ hs _).mono ?_
  rintro e w2 ⟨rfl, hb⟩
  have BK2 := Aside0.mk (blk_below BK1.out hb)
  have HBb := Aside0.mk (below_step HBa.out hb)
  clear hb x1_0 x1_1 x1_2 x1_3 x1_4 x1_5 x1_6 x1_7
  have x2_0 : w2.cell? ⟨w.heap.size, 0, none⟩ = some (.int .i64 3) := (blk_cell BK2.out 0).trans rfl
  have x2_1 : w2.cell? ⟨w.heap.size, 1, none⟩ = some (.int .i64 n1) := (blk_cell BK2.out 1).trans rfl
  have x2_2 : w2.cell? ⟨w.heap.size, 2, none⟩ = some (.string n2) := (blk_cell BK2.out 2).trans rfl
  have x2_3 : w2.cell? ⟨w.heap.size, 3, none⟩ = some (.int .i64 n3) := (blk_cell BK2.out 3).trans rfl
  have x2_4 : w2.cell? ⟨w.heap.size, 4, none⟩ = some (.int .i64 n4) := (blk_cell BK2.out 4).trans rfl
  have x2_5 : w2.cell? ⟨w.heap.size, 5, none⟩ = some (.slice A5 n5.length c5) := (blk_cell BK2.out 5).trans rfl
  have x2_6 : w2.cell? ⟨w.heap.size, 6, none⟩ = some (.slice A6 n6.length c6) := (blk_cell BK2.out 6).trans rfl
  have x2_7 : w2.cell? ⟨w.heap.size, 7, none⟩ = some (.slice A7 n7.length c7) := (blk_cell BK2.out 7).trans rfl
  go_wp2_with (first | (go_at_call 67; refine (d_l1In _ _ _ _).mono ?_; rintro e w' ⟨rfl, q2, rfl⟩) | (go_at_call 83; refine (d_l1Word _ _).mono ?_; rintro e w' ⟨rfl, q2, rfl⟩))
  all_goals first
  | ((with_reducible refine (HQ5.out _ (by repeat (first | exact HBb.out | apply pw_below_drewN))).mono ?_)
     rintro e w3 ⟨rfl, hb⟩
     have BK3 := Aside0.mk (blk_below (g := w.heap.size) (o := .cells #[.int .i64 3, .int .i64 n1, .string n2, .int .i64 n3, .int .i64 n4, .slice A5 n5.length c5, .slice A6 n6.length c6, .slice A7 n7.length c7] 134 (0, 0)) (by first | exact BK2.out | exact blk_drewN BK2.out _) hb)
     have HB3 := Aside0.mk (below_step (by repeat (first | exact HBb.out | apply pw_below_drewN)) hb)
     clear hb x2_0 x2_1 x2_2 x2_3 x2_4 x2_5 x2_6 x2_7
     have x3_0 : w3.cell? ⟨w.heap.size, 0, none⟩ = some (.int .i64 3) := (blk_cell BK3.out 0).trans rfl
     have x3_1 : w3.cell? ⟨w.heap.size, 1, none⟩ = some (.int .i64 n1) := (blk_cell BK3.out 1).trans rfl
     have x3_2 : w3.cell? ⟨w.heap.size, 2, none⟩ = some (.string n2) := (blk_cell BK3.out 2).trans rfl
     have x3_3 : w3.cell? ⟨w.heap.size, 3, none⟩ = some (.int .i64 n3) := (blk_cell BK3.out 3).trans rfl
     have x3_4 : w3.cell? ⟨w.heap.size, 4, none⟩ = some (.int .i64 n4) := (blk_cell BK3.out 4).trans rfl
     have x3_5 : w3.cell? ⟨w.heap.size, 5, none⟩ = some (.slice A5 n5.length c5) := (blk_cell BK3.out 5).trans rfl
     have x3_6 : w3.cell? ⟨w.heap.size, 6, none⟩ = some (.slice A6 n6.length c6) := (blk_cell BK3.out 6).trans rfl
     have x3_7 : w3.cell? ⟨w.heap.size, 7, none⟩ = some (.slice A7 n7.length c7) := (blk_cell BK3.out 7).trans rfl
     go_wp2_with fail
     all_goals first
     | ((with_reducible refine (HQ6.out _ (by repeat (first | exact HB3.out | apply pw_below_drewN))).mono ?_)
        rintro e w4 ⟨rfl, hb⟩
        have BK4 := Aside0.mk (blk_below (g := w.heap.size) (o := .cells #[.int .i64 3, .int .i64 n1, .string n2, .int .i64 n3, .int .i64 n4, .slice A5 n5.length c5, .slice A6 n6.length c6, .slice A7 n7.length c7] 134 (0, 0)) (by first | exact BK3.out | exact blk_drewN BK3.out _) hb)
        have HB4 := Aside0.mk (below_step (by repeat (first | exact HB3.out | apply pw_below_drewN)) hb)
        clear hb x3_0 x3_1 x3_2 x3_3 x3_4 x3_5 x3_6 x3_7
        have x4_0 : w4.cell? ⟨w.heap.size, 0, none⟩ = some (.int .i64 3) := (blk_cell BK4.out 0).trans rfl
        have x4_1 : w4.cell? ⟨w.heap.size, 1, none⟩ = some (.int .i64 n1) := (blk_cell BK4.out 1).trans rfl
        have x4_2 : w4.cell? ⟨w.heap.size, 2, none⟩ = some (.string n2) := (blk_cell BK4.out 2).trans rfl
        have x4_3 : w4.cell? ⟨w.heap.size, 3, none⟩ = some (.int .i64 n3) := (blk_cell BK4.out 3).trans rfl
        have x4_4 : w4.cell? ⟨w.heap.size, 4, none⟩ = some (.int .i64 n4) := (blk_cell BK4.out 4).trans rfl
        have x4_5 : w4.cell? ⟨w.heap.size, 5, none⟩ = some (.slice A5 n5.length c5) := (blk_cell BK4.out 5).trans rfl
        have x4_6 : w4.cell? ⟨w.heap.size, 6, none⟩ = some (.slice A6 n6.length c6) := (blk_cell BK4.out 6).trans rfl
        have x4_7 : w4.cell? ⟨w.heap.size, 7, none⟩ = some (.slice A7 n7.length c7) := (blk_cell BK4.out 7).trans rfl
        go_wp2_with fail
        all_goals first
        | ((with_reducible refine (HQ7.out _ (by repeat (first | exact HB4.out | apply pw_below_drewN))).mono ?_)
           rintro e w5 ⟨rfl, hb⟩
           have BK5 := Aside0.mk (blk_below (g := w.heap.size) (o := .cells #[.int .i64 3, .int .i64 n1, .string n2, .int .i64 n3, .int .i64 n4, .slice A5 n5.length c5, .slice A6 n6.length c6, .slice A7 n7.length c7] 134 (0, 0)) (by first | exact BK4.out | exact blk_drewN BK4.out _) hb)
           have HB5 := Aside0.mk (below_step (by repeat (first | exact HB4.out | apply pw_below_drewN)) hb)
           clear hb x4_0 x4_1 x4_2 x4_3 x4_4 x4_5 x4_6 x4_7
           have x5_0 : w5.cell? ⟨w.heap.size, 0, none⟩ = some (.int .i64 3) := (blk_cell BK5.out 0).trans rfl
           have x5_1 : w5.cell? ⟨w.heap.size, 1, none⟩ = some (.int .i64 n1) := (blk_cell BK5.out 1).trans rfl
           have x5_2 : w5.cell? ⟨w.heap.size, 2, none⟩ = some (.string n2) := (blk_cell BK5.out 2).trans rfl
           have x5_3 : w5.cell? ⟨w.heap.size, 3, none⟩ = some (.int .i64 n3) := (blk_cell BK5.out 3).trans rfl
           have x5_4 : w5.cell? ⟨w.heap.size, 4, none⟩ = some (.int .i64 n4) := (blk_cell BK5.out 4).trans rfl
           have x5_5 : w5.cell? ⟨w.heap.size, 5, none⟩ = some (.slice A5 n5.length c5) := (blk_cell BK5.out 5).trans rfl
           have x5_6 : w5.cell? ⟨w.heap.size, 6, none⟩ = some (.slice A6 n6.length c6) := (blk_cell BK5.out 6).trans rfl
           have x5_7 : w5.cell? ⟨w.heap.size, 7, none⟩ = some (.slice A7 n7.length c7) := (blk_cell BK5.out 7).trans rfl
           go_wp2_with fail
           all_goals (go_ret; refine ⟨?_, by repeat (first | exact HB5.out | apply pw_below_drewN)⟩; have hne_ := HNE.out; rw [HY.out, HG.out]; clear HG HNE HY; (try simp_all [restB]); (try (intros; first | (simp_all; done) | omega | (simp_all [inB]; done) | (simp_all [inB]; omega))); done))
        | (go_ret; refine ⟨?_, by repeat (first | exact HB4.out | apply pw_below_drewN)⟩; have hne_ := HNE.out; rw [HY.out, HG.out]; clear HG HNE HY; (try simp_all [restB]); (try (intros; first | (simp_all; done) | omega | (simp_all [inB]; done) | (simp_all [inB]; omega))); done))
     | (go_ret; refine ⟨?_, by repeat (first | exact HB3.out | apply pw_below_drewN)⟩; have hne_ := HNE.out; rw [HY.out, HG.out]; clear HG HNE HY; (try simp_all [restB]); (try (intros; first | (simp_all; done) | omega | (simp_all [inB]; done) | (simp_all [inB]; omega))); done))
  | (go_ret; refine ⟨?_, by repeat (first | exact HBb.out | apply pw_below_drewN)⟩; have hne_ := HNE.out; rw [HY.out, HG.out]; clear HG HNE HY; (try simp_all [restB]); (try (intros; first | (simp_all; done) | omega | (simp_all [inB]; done) | (simp_all [inB]; omega))); done)
/-! ### LIB right2 -/
set_option maxHeartbeats 8000000 in
set_option maxRecDepth 100000 in
theorem spec_l4Right.k7 (g : Nat) (V : List S125) (N : List S134) (B : List Int) (A0 A1 A2 : Option Addr) (c0 c1 c2 : Nat) (at_ : Nat) (hat : at_ < N.length) (hN : N.length ≤ 1048576) (ad : Addr) (hA1 : A1 = some ad) (n1 : Int) (n2 : ByteArray) (n3 n4 : Int) (n5 n6 n7 : List Int) (A5 A6 A7 : Option Addr) (c5 c6 c7 : Nat) (w : World) (hs : n2.size ≤ 1048576) (hs5 : n5.length ≤ 1048576) (h : TreeAt w g V N B A0 c0 A1 c1 A2 c2) (hc5 : n5.length ≤ c5) (hc6 : n6.length ≤ c6) (hc7 : n7.length ≤ c7) (q0 : w.cell? (ad.add (at_ * 8)) = some (.int .i64 7)) (q1 : w.cell? ⟨(ad.add (at_ * 8)).block, (ad.add (at_ * 8)).off + 1, none⟩ = some (.int .i64 n1)) (q2 : w.cell? ⟨(ad.add (at_ * 8)).block, (ad.add (at_ * 8)).off + 2, none⟩ = some (.string n2)) (q3 : w.cell? ⟨(ad.add (at_ * 8)).block, (ad.add (at_ * 8)).off + 3, none⟩ = some (.int .i64 n3)) (q4 : w.cell? ⟨(ad.add (at_ * 8)).block, (ad.add (at_ * 8)).off + 4, none⟩ = some (.int .i64 n4)) (q5 : w.cell? ⟨(ad.add (at_ * 8)).block, (ad.add (at_ * 8)).off + 5, none⟩ = some (.slice A5 n5.length c5)) (q6 : w.cell? ⟨(ad.add (at_ * 8)).block, (ad.add (at_ * 8)).off + 6, none⟩ = some (.slice A6 n6.length c6)) (q7 : w.cell? ⟨(ad.add (at_ * 8)).block, (ad.add (at_ * 8)).off + 7, none⟩ = some (.slice A7 n7.length c7)) (r5 : Kd.C (Kd.int .i64) w A5 n5.length n5) (r6 : Kd.C (Kd.int .i64) w A6 n6.length n6) (r7 : Kd.C (Kd.int .i64) w A7 n7.length n7) :
    Calls Try.prog 129 #[.pointer (some ⟨g, 0, none⟩), .int .i64 (at_ : Int)] w fun e w' => e = .returned (.bool (rightB N at_ (⟨7, n1, n2, n3, n4, n5, n6, n7⟩ : S134))) ∧ Below w.heap.size w w' := by
  subst hA1
  have hu := Try.underlying134
  have hT0 : w.cell? ⟨g, 1, none⟩ = some (.slice (some ad) N.length c1) := (blk_cell h.blk 1).trans rfl
  have hlt1 : (at_ : Int) < (N.length : Int) := by omega
  have hlt1q := eq_true hlt1
  have h0q : (0 ≤ (at_ : Int)) = True := eq_true (by omega)
  obtain ⟨z5, hz5⟩ : ∃ z, decide (n5.length = 1) = z := ⟨_, rfl⟩
  have z5a : ((n5.length : Int) != 1) = !z5 := by rw [← hz5]; by_cases hh : n5.length = 1 <;> simp [hh] <;> omega
  have z5b : ((n5.length : Int) == 1) = z5 := by rw [← hz5]; by_cases hh : n5.length = 1 <;> simp [hh] <;> omega
  obtain ⟨z6, hz6⟩ : ∃ z, decide (n6.length = 0) = z := ⟨_, rfl⟩
  obtain ⟨z7, hz7⟩ : ∃ z, decide (n7.length = 0) = z := ⟨_, rfl⟩
  have HG := Aside0.mk (show fitsB (⟨7, n1, n2, n3, n4, n5, n6, n7⟩ : S134) = (z5 && ((false || z6) && ((false || z7) && (mIsName n2 && ((n1 == 0) && ((n3 == 0) && (n4 == 0))))))) from by subst hz5 hz6 hz7; rfl)
  have HNE := Aside0.mk (show mIsName n2 = true → n2.toList.isEmpty = false from isname_ne n2)
  have z6a : decide (0 < (n6.length : Int)) = !z6 := by rw [← hz6]; by_cases hh : n6.length = 0 <;> simp [hh] <;> omega
  have z6b : decide (0 < n6.length) = !z6 := by rw [← hz6]; by_cases hh : n6.length = 0 <;> simp [hh] <;> omega
  have z6c : decide (n6 = []) = z6 := by rw [← hz6]; cases n6 <;> simp
  have z7a : decide (0 < (n7.length : Int)) = !z7 := by rw [← hz7]; by_cases hh : n7.length = 0 <;> simp [hh] <;> omega
  have z7b : decide (0 < n7.length) = !z7 := by rw [← hz7]; by_cases hh : n7.length = 0 <;> simp [hh] <;> omega
  have z7c : decide (n7 = []) = z7 := by rw [← hz7]; cases n7 <;> simp
  clear hz5 hz6 hz7
  have HT := Aside0.mk h
  have R5 := Aside0.mk r5
  have R6 := Aside0.mk r6
  have R7 := Aside0.mk r7
  have HB9 := Aside0.mk ((Below.refl w.heap.size w).alloc (Nat.le_refl _) (.cells #[.int .i64 7, .int .i64 n1, .string n2, .int .i64 n3, .int .i64 n4, .slice A5 n5.length c5, .slice A6 n6.length c6, .slice A7 n7.length c7] 134))
  have HW := Aside0.mk (fun (W : World) (hb : Below w.heap.size w W) => spec_l4Wants.calls 5 7 n1 n2 n3 n4 A5 c5 n5 A6 c6 n6 A7 c7 n7 true 1 false W (Kd.C_below r5 hb) hc5 (Kd.C_below r6 hb) hc6 (Kd.C_below r7 hb) hc7 (by rfl))
  obtain ⟨y5, hy5⟩ : ∃ y, n5.all (refB N at_ true) = y := ⟨_, rfl⟩
  have HQ5 := Aside0.mk (fun (W : World) (hb : Below w.heap.size w W) => (by have := spec_l4Refs.w g V N B A0 (some ad) A2 c0 c1 c2 at_ (by omega) hN A5 c5 n5 true W (h.below hb) (Kd.C_below r5 hb); rw [hy5] at this; exact this : Calls Try.prog 130 #[.pointer (some ⟨g, 0, none⟩), .int .i64 (at_ : Int), .slice A5 n5.length c5, .bool true] W fun e' w' => e' = .returned (.bool y5) ∧ Below W.heap.size W w'))
  obtain ⟨y6, hy6⟩ : ∃ y, n6.all (refB N at_ false) = y := ⟨_, rfl⟩
  have HQ6 := Aside0.mk (fun (W : World) (hb : Below w.heap.size w W) => (by have := spec_l4Refs.w g V N B A0 (some ad) A2 c0 c1 c2 at_ (by omega) hN A6 c6 n6 false W (h.below hb) (Kd.C_below r6 hb); rw [hy6] at this; exact this : Calls Try.prog 130 #[.pointer (some ⟨g, 0, none⟩), .int .i64 (at_ : Int), .slice A6 n6.length c6, .bool false] W fun e' w' => e' = .returned (.bool y6) ∧ Below W.heap.size W w'))
  obtain ⟨y7, hy7⟩ : ∃ y, n7.all (refB N at_ false) = y := ⟨_, rfl⟩
  have HQ7 := Aside0.mk (fun (W : World) (hb : Below w.heap.size w W) => (by have := spec_l4Refs.w g V N B A0 (some ad) A2 c0 c1 c2 at_ (by omega) hN A7 c7 n7 false W (h.below hb) (Kd.C_below r7 hb); rw [hy7] at this; exact this : Calls Try.prog 130 #[.pointer (some ⟨g, 0, none⟩), .int .i64 (at_ : Int), .slice A7 n7.length c7, .bool false] W fun e' w' => e' = .returned (.bool y7) ∧ Below W.heap.size W w'))
  have HY := Aside0.mk (show rightB N at_ (⟨7, n1, n2, n3, n4, n5, n6, n7⟩ : S134) = (fitsB (⟨7, n1, n2, n3, n4, n5, n6, n7⟩ : S134) && (y5 && (y6 && y7))) from by subst hy5 hy6 hy7; rfl)
  clear hy5 hy6 hy7
  clear h r5 r6 r7
  go_enter Try.func129, Try.ntmps129
  go_wp2_with fail
  refine (d_l1In _ _ _ _).mono ?_
  rintro e w' ⟨rfl, q, rfl⟩
  go_wp2_with fail
  refine (HW.out _ (pw_below_drewN HB9.out _)).mono ?_
  rintro e w1 ⟨rfl, hb⟩
  have BK1 := Aside0.mk (blk_below (g := w.heap.size) (o := .cells #[.int .i64 7, .int .i64 n1, .string n2, .int .i64 n3, .int .i64 n4, .slice A5 n5.length c5, .slice A6 n6.length c6, .slice A7 n7.length c7] 134 (0, 0)) (by first | exact blk_drewN (blk_new w _) _ | exact blk_new w _) hb)
  have HBa := Aside0.mk (below_step (pw_below_drewN HB9.out _) hb)
  clear hb
  have x1_0 : w1.cell? ⟨w.heap.size, 0, none⟩ = some (.int .i64 7) := (blk_cell BK1.out 0).trans rfl
  have x1_1 : w1.cell? ⟨w.heap.size, 1, none⟩ = some (.int .i64 n1) := (blk_cell BK1.out 1).trans rfl
  have x1_2 : w1.cell? ⟨w.heap.size, 2, none⟩ = some (.string n2) := (blk_cell BK1.out 2).trans rfl
  have x1_3 : w1.cell? ⟨w.heap.size, 3, none⟩ = some (.int .i64 n3) := (blk_cell BK1.out 3).trans rfl
  have x1_4 : w1.cell? ⟨w.heap.size, 4, none⟩ = some (.int .i64 n4) := (blk_cell BK1.out 4).trans rfl
  have x1_5 : w1.cell? ⟨w.heap.size, 5, none⟩ = some (.slice A5 n5.length c5) := (blk_cell BK1.out 5).trans rfl
  have x1_6 : w1.cell? ⟨w.heap.size, 6, none⟩ = some (.slice A6 n6.length c6) := (blk_cell BK1.out 6).trans rfl
  have x1_7 : w1.cell? ⟨w.heap.size, 7, none⟩ = some (.slice A7 n7.length c7) := (blk_cell BK1.out 7).trans rfl
  go_wp2_with fail
  refine (w_IsName' _ hs _).mono ?_
  rintro e w2 ⟨rfl, hb⟩
  have BK2 := Aside0.mk (blk_below BK1.out hb)
  have HBb := Aside0.mk (below_step HBa.out hb)
  clear hb x1_0 x1_1 x1_2 x1_3 x1_4 x1_5 x1_6 x1_7
  have x2_0 : w2.cell? ⟨w.heap.size, 0, none⟩ = some (.int .i64 7) := (blk_cell BK2.out 0).trans rfl
  have x2_1 : w2.cell? ⟨w.heap.size, 1, none⟩ = some (.int .i64 n1) := (blk_cell BK2.out 1).trans rfl
  have x2_2 : w2.cell? ⟨w.heap.size, 2, none⟩ = some (.string n2) := (blk_cell BK2.out 2).trans rfl
  have x2_3 : w2.cell? ⟨w.heap.size, 3, none⟩ = some (.int .i64 n3) := (blk_cell BK2.out 3).trans rfl
  have x2_4 : w2.cell? ⟨w.heap.size, 4, none⟩ = some (.int .i64 n4) := (blk_cell BK2.out 4).trans rfl
  have x2_5 : w2.cell? ⟨w.heap.size, 5, none⟩ = some (.slice A5 n5.length c5) := (blk_cell BK2.out 5).trans rfl
  have x2_6 : w2.cell? ⟨w.heap.size, 6, none⟩ = some (.slice A6 n6.length c6) := (blk_cell BK2.out 6).trans rfl
  have x2_7 : w2.cell? ⟨w.heap.size, 7, none⟩ = some (.slice A7 n7.length c7) := (blk_cell BK2.out 7).trans rfl
  go_wp2_with (first | (go_at_call 67; refine (d_l1In _ _ _ _).mono ?_; rintro e w' ⟨rfl, q2, rfl⟩) | (go_at_call 83; refine (d_l1Word _ _).mono ?_; rintro e w' ⟨rfl, q2, rfl⟩))
  all_goals first
  | ((with_reducible refine (HQ5.out _ (by repeat (first | exact HBb.out | apply pw_below_drewN))).mono ?_)
     rintro e w3 ⟨rfl, hb⟩
     have BK3 := Aside0.mk (blk_below (g := w.heap.size) (o := .cells #[.int .i64 7, .int .i64 n1, .string n2, .int .i64 n3, .int .i64 n4, .slice A5 n5.length c5, .slice A6 n6.length c6, .slice A7 n7.length c7] 134 (0, 0)) (by first | exact BK2.out | exact blk_drewN BK2.out _) hb)
     have HB3 := Aside0.mk (below_step (by repeat (first | exact HBb.out | apply pw_below_drewN)) hb)
     clear hb x2_0 x2_1 x2_2 x2_3 x2_4 x2_5 x2_6 x2_7
     have x3_0 : w3.cell? ⟨w.heap.size, 0, none⟩ = some (.int .i64 7) := (blk_cell BK3.out 0).trans rfl
     have x3_1 : w3.cell? ⟨w.heap.size, 1, none⟩ = some (.int .i64 n1) := (blk_cell BK3.out 1).trans rfl
     have x3_2 : w3.cell? ⟨w.heap.size, 2, none⟩ = some (.string n2) := (blk_cell BK3.out 2).trans rfl
     have x3_3 : w3.cell? ⟨w.heap.size, 3, none⟩ = some (.int .i64 n3) := (blk_cell BK3.out 3).trans rfl
     have x3_4 : w3.cell? ⟨w.heap.size, 4, none⟩ = some (.int .i64 n4) := (blk_cell BK3.out 4).trans rfl
     have x3_5 : w3.cell? ⟨w.heap.size, 5, none⟩ = some (.slice A5 n5.length c5) := (blk_cell BK3.out 5).trans rfl
     have x3_6 : w3.cell? ⟨w.heap.size, 6, none⟩ = some (.slice A6 n6.length c6) := (blk_cell BK3.out 6).trans rfl
     have x3_7 : w3.cell? ⟨w.heap.size, 7, none⟩ = some (.slice A7 n7.length c7) := (blk_cell BK3.out 7).trans rfl
     go_wp2_with fail
     all_goals first
     | ((with_reducible refine (HQ6.out _ (by repeat (first | exact HB3.out | apply pw_below_drewN))).mono ?_)
        rintro e w4 ⟨rfl, hb⟩
        have BK4 := Aside0.mk (blk_below (g := w.heap.size) (o := .cells #[.int .i64 7, .int .i64 n1, .string n2, .int .i64 n3, .int .i64 n4, .slice A5 n5.length c5, .slice A6 n6.length c6, .slice A7 n7.length c7] 134 (0, 0)) (by first | exact BK3.out | exact blk_drewN BK3.out _) hb)
        have HB4 := Aside0.mk (below_step (by repeat (first | exact HB3.out | apply pw_below_drewN)) hb)
        clear hb x3_0 x3_1 x3_2 x3_3 x3_4 x3_5 x3_6 x3_7
        have x4_0 : w4.cell? ⟨w.heap.size, 0, none⟩ = some (.int .i64 7) := (blk_cell BK4.out 0).trans rfl
        have x4_1 : w4.cell? ⟨w.heap.size, 1, none⟩ = some (.int .i64 n1) := (blk_cell BK4.out 1).trans rfl
        have x4_2 : w4.cell? ⟨w.heap.size, 2, none⟩ = some (.string n2) := (blk_cell BK4.out 2).trans rfl
        have x4_3 : w4.cell? ⟨w.heap.size, 3, none⟩ = some (.int .i64 n3) := (blk_cell BK4.out 3).trans rfl
        have x4_4 : w4.cell? ⟨w.heap.size, 4, none⟩ = some (.int .i64 n4) := (blk_cell BK4.out 4).trans rfl
        have x4_5 : w4.cell? ⟨w.heap.size, 5, none⟩ = some (.slice A5 n5.length c5) := (blk_cell BK4.out 5).trans rfl
        have x4_6 : w4.cell? ⟨w.heap.size, 6, none⟩ = some (.slice A6 n6.length c6) := (blk_cell BK4.out 6).trans rfl
        have x4_7 : w4.cell? ⟨w.heap.size, 7, none⟩ = some (.slice A7 n7.length c7) := (blk_cell BK4.out 7).trans rfl
        go_wp2_with fail
        all_goals first
        | ((with_reducible refine (HQ7.out _ (by repeat (first | exact HB4.out | apply pw_below_drewN))).mono ?_)
           rintro e w5 ⟨rfl, hb⟩
           have BK5 := Aside0.mk (blk_below (g := w.heap.size) (o := .cells #[.int .i64 7, .int .i64 n1, .string n2, .int .i64 n3, .int .i64 n4, .slice A5 n5.length c5, .slice A6 n6.length c6, .slice A7 n7.length c7] 134 (0, 0)) (by first | exact BK4.out | exact blk_drewN BK4.out _) hb)
           have HB5 := Aside0.mk (below_step (by repeat (first | exact HB4.out | apply pw_below_drewN)) hb)
           clear hb x4_0 x4_1 x4_2 x4_3 x4_4 x4_5 x4_6 x4_7
           have x5_0 : w5.cell? ⟨w.heap.size, 0, none⟩ = some (.int .i64 7) := (blk_cell BK5.out 0).trans rfl
           have x5_1 : w5.cell? ⟨w.heap.size, 1, none⟩ = some (.int .i64 n1) := (blk_cell BK5.out 1).trans rfl
           have x5_2 : w5.cell? ⟨w.heap.size, 2, none⟩ = some (.string n2) := (blk_cell BK5.out 2).trans rfl
           have x5_3 : w5.cell? ⟨w.heap.size, 3, none⟩ = some (.int .i64 n3) := (blk_cell BK5.out 3).trans rfl
           have x5_4 : w5.cell? ⟨w.heap.size, 4, none⟩ = some (.int .i64 n4) := (blk_cell BK5.out 4).trans rfl
           have x5_5 : w5.cell? ⟨w.heap.size, 5, none⟩ = some (.slice A5 n5.length c5) := (blk_cell BK5.out 5).trans rfl
           have x5_6 : w5.cell? ⟨w.heap.size, 6, none⟩ = some (.slice A6 n6.length c6) := (blk_cell BK5.out 6).trans rfl
           have x5_7 : w5.cell? ⟨w.heap.size, 7, none⟩ = some (.slice A7 n7.length c7) := (blk_cell BK5.out 7).trans rfl
           go_wp2_with fail
           all_goals (go_ret; refine ⟨?_, by repeat (first | exact HB5.out | apply pw_below_drewN)⟩; have hne_ := HNE.out; rw [HY.out, HG.out]; clear HG HNE HY; (try simp_all [restB]); (try (intros; first | (simp_all; done) | omega | (simp_all [inB]; done) | (simp_all [inB]; omega))); done))
        | (go_ret; refine ⟨?_, by repeat (first | exact HB4.out | apply pw_below_drewN)⟩; have hne_ := HNE.out; rw [HY.out, HG.out]; clear HG HNE HY; (try simp_all [restB]); (try (intros; first | (simp_all; done) | omega | (simp_all [inB]; done) | (simp_all [inB]; omega))); done))
     | (go_ret; refine ⟨?_, by repeat (first | exact HB3.out | apply pw_below_drewN)⟩; have hne_ := HNE.out; rw [HY.out, HG.out]; clear HG HNE HY; (try simp_all [restB]); (try (intros; first | (simp_all; done) | omega | (simp_all [inB]; done) | (simp_all [inB]; omega))); done))
  | (go_ret; refine ⟨?_, by repeat (first | exact HBb.out | apply pw_below_drewN)⟩; have hne_ := HNE.out; rw [HY.out, HG.out]; clear HG HNE HY; (try simp_all [restB]); (try (intros; first | (simp_all; done) | omega | (simp_all [inB]; done) | (simp_all [inB]; omega))); done)
set_option maxHeartbeats 8000000 in
set_option maxRecDepth 100000 in
theorem spec_l4Right.k4 (g : Nat) (V : List S125) (N : List S134) (B : List Int) (A0 A1 A2 : Option Addr) (c0 c1 c2 : Nat) (at_ : Nat) (hat : at_ < N.length) (hN : N.length ≤ 1048576) (ad : Addr) (hA1 : A1 = some ad) (n1 : Int) (n2 : ByteArray) (n3 n4 : Int) (n5 n6 n7 : List Int) (A5 A6 A7 : Option Addr) (c5 c6 c7 : Nat) (w : World) (hs : n2.size ≤ 1048576) (hs5 : n5.length ≤ 1048576) (h : TreeAt w g V N B A0 c0 A1 c1 A2 c2) (hc5 : n5.length ≤ c5) (hc6 : n6.length ≤ c6) (hc7 : n7.length ≤ c7) (q0 : w.cell? (ad.add (at_ * 8)) = some (.int .i64 4)) (q1 : w.cell? ⟨(ad.add (at_ * 8)).block, (ad.add (at_ * 8)).off + 1, none⟩ = some (.int .i64 n1)) (q2 : w.cell? ⟨(ad.add (at_ * 8)).block, (ad.add (at_ * 8)).off + 2, none⟩ = some (.string n2)) (q3 : w.cell? ⟨(ad.add (at_ * 8)).block, (ad.add (at_ * 8)).off + 3, none⟩ = some (.int .i64 n3)) (q4 : w.cell? ⟨(ad.add (at_ * 8)).block, (ad.add (at_ * 8)).off + 4, none⟩ = some (.int .i64 n4)) (q5 : w.cell? ⟨(ad.add (at_ * 8)).block, (ad.add (at_ * 8)).off + 5, none⟩ = some (.slice A5 n5.length c5)) (q6 : w.cell? ⟨(ad.add (at_ * 8)).block, (ad.add (at_ * 8)).off + 6, none⟩ = some (.slice A6 n6.length c6)) (q7 : w.cell? ⟨(ad.add (at_ * 8)).block, (ad.add (at_ * 8)).off + 7, none⟩ = some (.slice A7 n7.length c7)) (r5 : Kd.C (Kd.int .i64) w A5 n5.length n5) (r6 : Kd.C (Kd.int .i64) w A6 n6.length n6) (r7 : Kd.C (Kd.int .i64) w A7 n7.length n7) :
    Calls Try.prog 129 #[.pointer (some ⟨g, 0, none⟩), .int .i64 (at_ : Int)] w fun e w' => e = .returned (.bool (rightB N at_ (⟨4, n1, n2, n3, n4, n5, n6, n7⟩ : S134))) ∧ Below w.heap.size w w' := by
  subst hA1
  have hu := Try.underlying134
  have hT0 : w.cell? ⟨g, 1, none⟩ = some (.slice (some ad) N.length c1) := (blk_cell h.blk 1).trans rfl
  have hlt1 : (at_ : Int) < (N.length : Int) := by omega
  have hlt1q := eq_true hlt1
  have h0q : (0 ≤ (at_ : Int)) = True := eq_true (by omega)
  obtain ⟨z5, hz5⟩ : ∃ z, decide (n5.length = 1) = z := ⟨_, rfl⟩
  have z5a : ((n5.length : Int) != 1) = !z5 := by rw [← hz5]; by_cases hh : n5.length = 1 <;> simp [hh] <;> omega
  have z5b : ((n5.length : Int) == 1) = z5 := by rw [← hz5]; by_cases hh : n5.length = 1 <;> simp [hh] <;> omega
  obtain ⟨z6, hz6⟩ : ∃ z, decide (n6.length = 0) = z := ⟨_, rfl⟩
  obtain ⟨z7, hz7⟩ : ∃ z, decide (n7.length = 0) = z := ⟨_, rfl⟩
  have HG := Aside0.mk (show fitsB (⟨4, n1, n2, n3, n4, n5, n6, n7⟩ : S134) = (z5 && ((false || z6) && ((false || z7) && (n2.toList.isEmpty && ((n1 == 0) && ((n3 == 0) && (n4 == 0))))))) from by subst hz5 hz6 hz7; rfl)
  have HNE := Aside0.mk (show mIsName n2 = true → n2.toList.isEmpty = false from isname_ne n2)
  have z6a : decide (0 < (n6.length : Int)) = !z6 := by rw [← hz6]; by_cases hh : n6.length = 0 <;> simp [hh] <;> omega
  have z6b : decide (0 < n6.length) = !z6 := by rw [← hz6]; by_cases hh : n6.length = 0 <;> simp [hh] <;> omega
  have z6c : decide (n6 = []) = z6 := by rw [← hz6]; cases n6 <;> simp
  have z7a : decide (0 < (n7.length : Int)) = !z7 := by rw [← hz7]; by_cases hh : n7.length = 0 <;> simp [hh] <;> omega
  have z7b : decide (0 < n7.length) = !z7 := by rw [← hz7]; by_cases hh : n7.length = 0 <;> simp [hh] <;> omega
  have z7c : decide (n7 = []) = z7 := by rw [← hz7]; cases n7 <;> simp
  clear hz5 hz6 hz7
  have HT := Aside0.mk h
  have R5 := Aside0.mk r5
  have R6 := Aside0.mk r6
  have R7 := Aside0.mk r7
  have HB9 := Aside0.mk ((Below.refl w.heap.size w).alloc (Nat.le_refl _) (.cells #[.int .i64 4, .int .i64 n1, .string n2, .int .i64 n3, .int .i64 n4, .slice A5 n5.length c5, .slice A6 n6.length c6, .slice A7 n7.length c7] 134))
  have HW := Aside0.mk (fun (W : World) (hb : Below w.heap.size w W) => spec_l4Wants.calls 5 4 n1 n2 n3 n4 A5 c5 n5 A6 c6 n6 A7 c7 n7 false 1 false W (Kd.C_below r5 hb) hc5 (Kd.C_below r6 hb) hc6 (Kd.C_below r7 hb) hc7 (by rfl))
  obtain ⟨y5, hy5⟩ : ∃ y, n5.all (refB N at_ true) = y := ⟨_, rfl⟩
  have HQ5 := Aside0.mk (fun (W : World) (hb : Below w.heap.size w W) => (by have := spec_l4Refs.w g V N B A0 (some ad) A2 c0 c1 c2 at_ (by omega) hN A5 c5 n5 true W (h.below hb) (Kd.C_below r5 hb); rw [hy5] at this; exact this : Calls Try.prog 130 #[.pointer (some ⟨g, 0, none⟩), .int .i64 (at_ : Int), .slice A5 n5.length c5, .bool true] W fun e' w' => e' = .returned (.bool y5) ∧ Below W.heap.size W w'))
  obtain ⟨y6, hy6⟩ : ∃ y, n6.all (refB N at_ false) = y := ⟨_, rfl⟩
  have HQ6 := Aside0.mk (fun (W : World) (hb : Below w.heap.size w W) => (by have := spec_l4Refs.w g V N B A0 (some ad) A2 c0 c1 c2 at_ (by omega) hN A6 c6 n6 false W (h.below hb) (Kd.C_below r6 hb); rw [hy6] at this; exact this : Calls Try.prog 130 #[.pointer (some ⟨g, 0, none⟩), .int .i64 (at_ : Int), .slice A6 n6.length c6, .bool false] W fun e' w' => e' = .returned (.bool y6) ∧ Below W.heap.size W w'))
  obtain ⟨y7, hy7⟩ : ∃ y, n7.all (refB N at_ false) = y := ⟨_, rfl⟩
  have HQ7 := Aside0.mk (fun (W : World) (hb : Below w.heap.size w W) => (by have := spec_l4Refs.w g V N B A0 (some ad) A2 c0 c1 c2 at_ (by omega) hN A7 c7 n7 false W (h.below hb) (Kd.C_below r7 hb); rw [hy7] at this; exact this : Calls Try.prog 130 #[.pointer (some ⟨g, 0, none⟩), .int .i64 (at_ : Int), .slice A7 n7.length c7, .bool false] W fun e' w' => e' = .returned (.bool y7) ∧ Below W.heap.size W w'))
  have HY := Aside0.mk (show rightB N at_ (⟨4, n1, n2, n3, n4, n5, n6, n7⟩ : S134) = (fitsB (⟨4, n1, n2, n3, n4, n5, n6, n7⟩ : S134) && (y5 && (y6 && y7))) from by subst hy5 hy6 hy7; rfl)
  clear hy5 hy6 hy7
  clear h r5 r6 r7
  go_enter Try.func129, Try.ntmps129
  go_wp2_with fail
  refine (d_l1In _ _ _ _).mono ?_
  rintro e w' ⟨rfl, q, rfl⟩
  go_wp2_with fail
  refine (HW.out _ (pw_below_drewN HB9.out _)).mono ?_
  rintro e w1 ⟨rfl, hb⟩
  have BK1 := Aside0.mk (blk_below (g := w.heap.size) (o := .cells #[.int .i64 4, .int .i64 n1, .string n2, .int .i64 n3, .int .i64 n4, .slice A5 n5.length c5, .slice A6 n6.length c6, .slice A7 n7.length c7] 134 (0, 0)) (by first | exact blk_drewN (blk_new w _) _ | exact blk_new w _) hb)
  have HBa := Aside0.mk (below_step (pw_below_drewN HB9.out _) hb)
  clear hb
  have x1_0 : w1.cell? ⟨w.heap.size, 0, none⟩ = some (.int .i64 4) := (blk_cell BK1.out 0).trans rfl
  have x1_1 : w1.cell? ⟨w.heap.size, 1, none⟩ = some (.int .i64 n1) := (blk_cell BK1.out 1).trans rfl
  have x1_2 : w1.cell? ⟨w.heap.size, 2, none⟩ = some (.string n2) := (blk_cell BK1.out 2).trans rfl
  have x1_3 : w1.cell? ⟨w.heap.size, 3, none⟩ = some (.int .i64 n3) := (blk_cell BK1.out 3).trans rfl
  have x1_4 : w1.cell? ⟨w.heap.size, 4, none⟩ = some (.int .i64 n4) := (blk_cell BK1.out 4).trans rfl
  have x1_5 : w1.cell? ⟨w.heap.size, 5, none⟩ = some (.slice A5 n5.length c5) := (blk_cell BK1.out 5).trans rfl
  have x1_6 : w1.cell? ⟨w.heap.size, 6, none⟩ = some (.slice A6 n6.length c6) := (blk_cell BK1.out 6).trans rfl
  have x1_7 : w1.cell? ⟨w.heap.size, 7, none⟩ = some (.slice A7 n7.length c7) := (blk_cell BK1.out 7).trans rfl
  go_wp2_with fail
  refine (w_IsName' _ hs _).mono ?_
  rintro e w2 ⟨rfl, hb⟩
  have BK2 := Aside0.mk (blk_below BK1.out hb)
  have HBb := Aside0.mk (below_step HBa.out hb)
  clear hb x1_0 x1_1 x1_2 x1_3 x1_4 x1_5 x1_6 x1_7
  have x2_0 : w2.cell? ⟨w.heap.size, 0, none⟩ = some (.int .i64 4) := (blk_cell BK2.out 0).trans rfl
  have x2_1 : w2.cell? ⟨w.heap.size, 1, none⟩ = some (.int .i64 n1) := (blk_cell BK2.out 1).trans rfl
  have x2_2 : w2.cell? ⟨w.heap.size, 2, none⟩ = some (.string n2) := (blk_cell BK2.out 2).trans rfl
  have x2_3 : w2.cell? ⟨w.heap.size, 3, none⟩ = some (.int .i64 n3) := (blk_cell BK2.out 3).trans rfl
  have x2_4 : w2.cell? ⟨w.heap.size, 4, none⟩ = some (.int .i64 n4) := (blk_cell BK2.out 4).trans rfl
  have x2_5 : w2.cell? ⟨w.heap.size, 5, none⟩ = some (.slice A5 n5.length c5) := (blk_cell BK2.out 5).trans rfl
  have x2_6 : w2.cell? ⟨w.heap.size, 6, none⟩ = some (.slice A6 n6.length c6) := (blk_cell BK2.out 6).trans rfl
  have x2_7 : w2.cell? ⟨w.heap.size, 7, none⟩ = some (.slice A7 n7.length c7) := (blk_cell BK2.out 7).trans rfl
  go_wp2_with (first | (go_at_call 67; refine (d_l1In _ _ _ _).mono ?_; rintro e w' ⟨rfl, q2, rfl⟩) | (go_at_call 83; refine (d_l1Word _ _).mono ?_; rintro e w' ⟨rfl, q2, rfl⟩))
  all_goals first
  | ((with_reducible refine (HQ5.out _ (by repeat (first | exact HBb.out | apply pw_below_drewN))).mono ?_)
     rintro e w3 ⟨rfl, hb⟩
     have BK3 := Aside0.mk (blk_below (g := w.heap.size) (o := .cells #[.int .i64 4, .int .i64 n1, .string n2, .int .i64 n3, .int .i64 n4, .slice A5 n5.length c5, .slice A6 n6.length c6, .slice A7 n7.length c7] 134 (0, 0)) (by first | exact BK2.out | exact blk_drewN BK2.out _) hb)
     have HB3 := Aside0.mk (below_step (by repeat (first | exact HBb.out | apply pw_below_drewN)) hb)
     clear hb x2_0 x2_1 x2_2 x2_3 x2_4 x2_5 x2_6 x2_7
     have x3_0 : w3.cell? ⟨w.heap.size, 0, none⟩ = some (.int .i64 4) := (blk_cell BK3.out 0).trans rfl
     have x3_1 : w3.cell? ⟨w.heap.size, 1, none⟩ = some (.int .i64 n1) := (blk_cell BK3.out 1).trans rfl
     have x3_2 : w3.cell? ⟨w.heap.size, 2, none⟩ = some (.string n2) := (blk_cell BK3.out 2).trans rfl
     have x3_3 : w3.cell? ⟨w.heap.size, 3, none⟩ = some (.int .i64 n3) := (blk_cell BK3.out 3).trans rfl
     have x3_4 : w3.cell? ⟨w.heap.size, 4, none⟩ = some (.int .i64 n4) := (blk_cell BK3.out 4).trans rfl
     have x3_5 : w3.cell? ⟨w.heap.size, 5, none⟩ = some (.slice A5 n5.length c5) := (blk_cell BK3.out 5).trans rfl
     have x3_6 : w3.cell? ⟨w.heap.size, 6, none⟩ = some (.slice A6 n6.length c6) := (blk_cell BK3.out 6).trans rfl
     have x3_7 : w3.cell? ⟨w.heap.size, 7, none⟩ = some (.slice A7 n7.length c7) := (blk_cell BK3.out 7).trans rfl
     go_wp2_with fail
     all_goals first
     | ((with_reducible refine (HQ6.out _ (by repeat (first | exact HB3.out | apply pw_below_drewN))).mono ?_)
        rintro e w4 ⟨rfl, hb⟩
        have BK4 := Aside0.mk (blk_below (g := w.heap.size) (o := .cells #[.int .i64 4, .int .i64 n1, .string n2, .int .i64 n3, .int .i64 n4, .slice A5 n5.length c5, .slice A6 n6.length c6, .slice A7 n7.length c7] 134 (0, 0)) (by first | exact BK3.out | exact blk_drewN BK3.out _) hb)
        have HB4 := Aside0.mk (below_step (by repeat (first | exact HB3.out | apply pw_below_drewN)) hb)
        clear hb x3_0 x3_1 x3_2 x3_3 x3_4 x3_5 x3_6 x3_7
        have x4_0 : w4.cell? ⟨w.heap.size, 0, none⟩ = some (.int .i64 4) := (blk_cell BK4.out 0).trans rfl
        have x4_1 : w4.cell? ⟨w.heap.size, 1, none⟩ = some (.int .i64 n1) := (blk_cell BK4.out 1).trans rfl
        have x4_2 : w4.cell? ⟨w.heap.size, 2, none⟩ = some (.string n2) := (blk_cell BK4.out 2).trans rfl
        have x4_3 : w4.cell? ⟨w.heap.size, 3, none⟩ = some (.int .i64 n3) := (blk_cell BK4.out 3).trans rfl
        have x4_4 : w4.cell? ⟨w.heap.size, 4, none⟩ = some (.int .i64 n4) := (blk_cell BK4.out 4).trans rfl
        have x4_5 : w4.cell? ⟨w.heap.size, 5, none⟩ = some (.slice A5 n5.length c5) := (blk_cell BK4.out 5).trans rfl
        have x4_6 : w4.cell? ⟨w.heap.size, 6, none⟩ = some (.slice A6 n6.length c6) := (blk_cell BK4.out 6).trans rfl
        have x4_7 : w4.cell? ⟨w.heap.size, 7, none⟩ = some (.slice A7 n7.length c7) := (blk_cell BK4.out 7).trans rfl
        go_wp2_with fail
        all_goals first
        | ((with_reducible refine (HQ7.out _ (by repeat (first | exact HB4.out | apply pw_below_drewN))).mono ?_)
           rintro e w5 ⟨rfl, hb⟩
           have BK5 := Aside0.mk (blk_below (g := w.heap.size) (o := .cells #[.int .i64 4, .int .i64 n1, .string n2, .int .i64 n3, .int .i64 n4, .slice A5 n5.length c5, .slice A6 n6.length c6, .slice A7 n7.length c7] 134 (0, 0)) (by first | exact BK4.out | exact blk_drewN BK4.out _) hb)
           have HB5 := Aside0.mk (below_step (by repeat (first | exact HB4.out | apply pw_below_drewN)) hb)
           clear hb x4_0 x4_1 x4_2 x4_3 x4_4 x4_5 x4_6 x4_7
           have x5_0 : w5.cell? ⟨w.heap.size, 0, none⟩ = some (.int .i64 4) := (blk_cell BK5.out 0).trans rfl
           have x5_1 : w5.cell? ⟨w.heap.size, 1, none⟩ = some (.int .i64 n1) := (blk_cell BK5.out 1).trans rfl
           have x5_2 : w5.cell? ⟨w.heap.size, 2, none⟩ = some (.string n2) := (blk_cell BK5.out 2).trans rfl
           have x5_3 : w5.cell? ⟨w.heap.size, 3, none⟩ = some (.int .i64 n3) := (blk_cell BK5.out 3).trans rfl
           have x5_4 : w5.cell? ⟨w.heap.size, 4, none⟩ = some (.int .i64 n4) := (blk_cell BK5.out 4).trans rfl
           have x5_5 : w5.cell? ⟨w.heap.size, 5, none⟩ = some (.slice A5 n5.length c5) := (blk_cell BK5.out 5).trans rfl
           have x5_6 : w5.cell? ⟨w.heap.size, 6, none⟩ = some (.slice A6 n6.length c6) := (blk_cell BK5.out 6).trans rfl
           have x5_7 : w5.cell? ⟨w.heap.size, 7, none⟩ = some (.slice A7 n7.length c7) := (blk_cell BK5.out 7).trans rfl
           go_wp2_with fail
           all_goals (go_ret; refine ⟨?_, by repeat (first | exact HB5.out | apply pw_below_drewN)⟩; have hne_ := HNE.out; rw [HY.out, HG.out]; clear HG HNE HY; (try simp_all [restB]); (try (intros; first | (simp_all; done) | omega | (simp_all [inB]; done) | (simp_all [inB]; omega))); done))
        | (go_ret; refine ⟨?_, by repeat (first | exact HB4.out | apply pw_below_drewN)⟩; have hne_ := HNE.out; rw [HY.out, HG.out]; clear HG HNE HY; (try simp_all [restB]); (try (intros; first | (simp_all; done) | omega | (simp_all [inB]; done) | (simp_all [inB]; omega))); done))
     | (go_ret; refine ⟨?_, by repeat (first | exact HB3.out | apply pw_below_drewN)⟩; have hne_ := HNE.out; rw [HY.out, HG.out]; clear HG HNE HY; (try simp_all [restB]); (try (intros; first | (simp_all; done) | omega | (simp_all [inB]; done) | (simp_all [inB]; omega))); done))
  | (go_ret; refine ⟨?_, by repeat (first | exact HBb.out | apply pw_below_drewN)⟩; have hne_ := HNE.out; rw [HY.out, HG.out]; clear HG HNE HY; (try simp_all [restB]); (try (intros; first | (simp_all; done) | omega | (simp_all [inB]; done) | (simp_all [inB]; omega))); done)
set_option maxHeartbeats 8000000 in
set_option maxRecDepth 100000 in
theorem spec_l4Right.k5 (g : Nat) (V : List S125) (N : List S134) (B : List Int) (A0 A1 A2 : Option Addr) (c0 c1 c2 : Nat) (at_ : Nat) (hat : at_ < N.length) (hN : N.length ≤ 1048576) (ad : Addr) (hA1 : A1 = some ad) (n1 : Int) (n2 : ByteArray) (n3 n4 : Int) (n5 n6 n7 : List Int) (A5 A6 A7 : Option Addr) (c5 c6 c7 : Nat) (w : World) (hs : n2.size ≤ 1048576) (hs5 : n5.length ≤ 1048576) (h : TreeAt w g V N B A0 c0 A1 c1 A2 c2) (hc5 : n5.length ≤ c5) (hc6 : n6.length ≤ c6) (hc7 : n7.length ≤ c7) (q0 : w.cell? (ad.add (at_ * 8)) = some (.int .i64 5)) (q1 : w.cell? ⟨(ad.add (at_ * 8)).block, (ad.add (at_ * 8)).off + 1, none⟩ = some (.int .i64 n1)) (q2 : w.cell? ⟨(ad.add (at_ * 8)).block, (ad.add (at_ * 8)).off + 2, none⟩ = some (.string n2)) (q3 : w.cell? ⟨(ad.add (at_ * 8)).block, (ad.add (at_ * 8)).off + 3, none⟩ = some (.int .i64 n3)) (q4 : w.cell? ⟨(ad.add (at_ * 8)).block, (ad.add (at_ * 8)).off + 4, none⟩ = some (.int .i64 n4)) (q5 : w.cell? ⟨(ad.add (at_ * 8)).block, (ad.add (at_ * 8)).off + 5, none⟩ = some (.slice A5 n5.length c5)) (q6 : w.cell? ⟨(ad.add (at_ * 8)).block, (ad.add (at_ * 8)).off + 6, none⟩ = some (.slice A6 n6.length c6)) (q7 : w.cell? ⟨(ad.add (at_ * 8)).block, (ad.add (at_ * 8)).off + 7, none⟩ = some (.slice A7 n7.length c7)) (r5 : Kd.C (Kd.int .i64) w A5 n5.length n5) (r6 : Kd.C (Kd.int .i64) w A6 n6.length n6) (r7 : Kd.C (Kd.int .i64) w A7 n7.length n7) :
    Calls Try.prog 129 #[.pointer (some ⟨g, 0, none⟩), .int .i64 (at_ : Int)] w fun e w' => e = .returned (.bool (rightB N at_ (⟨5, n1, n2, n3, n4, n5, n6, n7⟩ : S134))) ∧ Below w.heap.size w w' := by
  subst hA1
  have hu := Try.underlying134
  have hT0 : w.cell? ⟨g, 1, none⟩ = some (.slice (some ad) N.length c1) := (blk_cell h.blk 1).trans rfl
  have hlt1 : (at_ : Int) < (N.length : Int) := by omega
  have hlt1q := eq_true hlt1
  have h0q : (0 ≤ (at_ : Int)) = True := eq_true (by omega)
  obtain ⟨z5, hz5⟩ : ∃ z, decide (n5.length = 1) = z := ⟨_, rfl⟩
  have z5a : ((n5.length : Int) != 1) = !z5 := by rw [← hz5]; by_cases hh : n5.length = 1 <;> simp [hh] <;> omega
  have z5b : ((n5.length : Int) == 1) = z5 := by rw [← hz5]; by_cases hh : n5.length = 1 <;> simp [hh] <;> omega
  obtain ⟨z6, hz6⟩ : ∃ z, decide (n6.length = 0) = z := ⟨_, rfl⟩
  obtain ⟨z7, hz7⟩ : ∃ z, decide (n7.length = 0) = z := ⟨_, rfl⟩
  have HG := Aside0.mk (show fitsB (⟨5, n1, n2, n3, n4, n5, n6, n7⟩ : S134) = (z5 && ((false || z6) && ((false || z7) && (n2.toList.isEmpty && ((n1 == 0) && ((n3 == 0) && (n4 == 0))))))) from by subst hz5 hz6 hz7; rfl)
  have HNE := Aside0.mk (show mIsName n2 = true → n2.toList.isEmpty = false from isname_ne n2)
  have z6a : decide (0 < (n6.length : Int)) = !z6 := by rw [← hz6]; by_cases hh : n6.length = 0 <;> simp [hh] <;> omega
  have z6b : decide (0 < n6.length) = !z6 := by rw [← hz6]; by_cases hh : n6.length = 0 <;> simp [hh] <;> omega
  have z6c : decide (n6 = []) = z6 := by rw [← hz6]; cases n6 <;> simp
  have z7a : decide (0 < (n7.length : Int)) = !z7 := by rw [← hz7]; by_cases hh : n7.length = 0 <;> simp [hh] <;> omega
  have z7b : decide (0 < n7.length) = !z7 := by rw [← hz7]; by_cases hh : n7.length = 0 <;> simp [hh] <;> omega
  have z7c : decide (n7 = []) = z7 := by rw [← hz7]; cases n7 <;> simp
  clear hz5 hz6 hz7
  have HT := Aside0.mk h
  have R5 := Aside0.mk r5
  have R6 := Aside0.mk r6
  have R7 := Aside0.mk r7
  have HB9 := Aside0.mk ((Below.refl w.heap.size w).alloc (Nat.le_refl _) (.cells #[.int .i64 5, .int .i64 n1, .string n2, .int .i64 n3, .int .i64 n4, .slice A5 n5.length c5, .slice A6 n6.length c6, .slice A7 n7.length c7] 134))
  have HW := Aside0.mk (fun (W : World) (hb : Below w.heap.size w W) => spec_l4Wants.calls 5 5 n1 n2 n3 n4 A5 c5 n5 A6 c6 n6 A7 c7 n7 false 1 false W (Kd.C_below r5 hb) hc5 (Kd.C_below r6 hb) hc6 (Kd.C_below r7 hb) hc7 (by rfl))
  obtain ⟨y5, hy5⟩ : ∃ y, n5.all (refB N at_ true) = y := ⟨_, rfl⟩
  have HQ5 := Aside0.mk (fun (W : World) (hb : Below w.heap.size w W) => (by have := spec_l4Refs.w g V N B A0 (some ad) A2 c0 c1 c2 at_ (by omega) hN A5 c5 n5 true W (h.below hb) (Kd.C_below r5 hb); rw [hy5] at this; exact this : Calls Try.prog 130 #[.pointer (some ⟨g, 0, none⟩), .int .i64 (at_ : Int), .slice A5 n5.length c5, .bool true] W fun e' w' => e' = .returned (.bool y5) ∧ Below W.heap.size W w'))
  obtain ⟨y6, hy6⟩ : ∃ y, n6.all (refB N at_ false) = y := ⟨_, rfl⟩
  have HQ6 := Aside0.mk (fun (W : World) (hb : Below w.heap.size w W) => (by have := spec_l4Refs.w g V N B A0 (some ad) A2 c0 c1 c2 at_ (by omega) hN A6 c6 n6 false W (h.below hb) (Kd.C_below r6 hb); rw [hy6] at this; exact this : Calls Try.prog 130 #[.pointer (some ⟨g, 0, none⟩), .int .i64 (at_ : Int), .slice A6 n6.length c6, .bool false] W fun e' w' => e' = .returned (.bool y6) ∧ Below W.heap.size W w'))
  obtain ⟨y7, hy7⟩ : ∃ y, n7.all (refB N at_ false) = y := ⟨_, rfl⟩
  have HQ7 := Aside0.mk (fun (W : World) (hb : Below w.heap.size w W) => (by have := spec_l4Refs.w g V N B A0 (some ad) A2 c0 c1 c2 at_ (by omega) hN A7 c7 n7 false W (h.below hb) (Kd.C_below r7 hb); rw [hy7] at this; exact this : Calls Try.prog 130 #[.pointer (some ⟨g, 0, none⟩), .int .i64 (at_ : Int), .slice A7 n7.length c7, .bool false] W fun e' w' => e' = .returned (.bool y7) ∧ Below W.heap.size W w'))
  have HY := Aside0.mk (show rightB N at_ (⟨5, n1, n2, n3, n4, n5, n6, n7⟩ : S134) = (fitsB (⟨5, n1, n2, n3, n4, n5, n6, n7⟩ : S134) && (y5 && (y6 && y7))) from by subst hy5 hy6 hy7; rfl)
  clear hy5 hy6 hy7
  clear h r5 r6 r7
  go_enter Try.func129, Try.ntmps129
  go_wp2_with fail
  refine (d_l1In _ _ _ _).mono ?_
  rintro e w' ⟨rfl, q, rfl⟩
  go_wp2_with fail
  refine (HW.out _ (pw_below_drewN HB9.out _)).mono ?_
  rintro e w1 ⟨rfl, hb⟩
  have BK1 := Aside0.mk (blk_below (g := w.heap.size) (o := .cells #[.int .i64 5, .int .i64 n1, .string n2, .int .i64 n3, .int .i64 n4, .slice A5 n5.length c5, .slice A6 n6.length c6, .slice A7 n7.length c7] 134 (0, 0)) (by first | exact blk_drewN (blk_new w _) _ | exact blk_new w _) hb)
  have HBa := Aside0.mk (below_step (pw_below_drewN HB9.out _) hb)
  clear hb
  have x1_0 : w1.cell? ⟨w.heap.size, 0, none⟩ = some (.int .i64 5) := (blk_cell BK1.out 0).trans rfl
  have x1_1 : w1.cell? ⟨w.heap.size, 1, none⟩ = some (.int .i64 n1) := (blk_cell BK1.out 1).trans rfl
  have x1_2 : w1.cell? ⟨w.heap.size, 2, none⟩ = some (.string n2) := (blk_cell BK1.out 2).trans rfl
  have x1_3 : w1.cell? ⟨w.heap.size, 3, none⟩ = some (.int .i64 n3) := (blk_cell BK1.out 3).trans rfl
  have x1_4 : w1.cell? ⟨w.heap.size, 4, none⟩ = some (.int .i64 n4) := (blk_cell BK1.out 4).trans rfl
  have x1_5 : w1.cell? ⟨w.heap.size, 5, none⟩ = some (.slice A5 n5.length c5) := (blk_cell BK1.out 5).trans rfl
  have x1_6 : w1.cell? ⟨w.heap.size, 6, none⟩ = some (.slice A6 n6.length c6) := (blk_cell BK1.out 6).trans rfl
  have x1_7 : w1.cell? ⟨w.heap.size, 7, none⟩ = some (.slice A7 n7.length c7) := (blk_cell BK1.out 7).trans rfl
  go_wp2_with fail
  refine (w_IsName' _ hs _).mono ?_
  rintro e w2 ⟨rfl, hb⟩
  have BK2 := Aside0.mk (blk_below BK1.out hb)
  have HBb := Aside0.mk (below_step HBa.out hb)
  clear hb x1_0 x1_1 x1_2 x1_3 x1_4 x1_5 x1_6 x1_7
  have x2_0 : w2.cell? ⟨w.heap.size, 0, none⟩ = some (.int .i64 5) := (blk_cell BK2.out 0).trans rfl
  have x2_1 : w2.cell? ⟨w.heap.size, 1, none⟩ = some (.int .i64 n1) := (blk_cell BK2.out 1).trans rfl
  have x2_2 : w2.cell? ⟨w.heap.size, 2, none⟩ = some (.string n2) := (blk_cell BK2.out 2).trans rfl
  have x2_3 : w2.cell? ⟨w.heap.size, 3, none⟩ = some (.int .i64 n3) := (blk_cell BK2.out 3).trans rfl
  have x2_4 : w2.cell? ⟨w.heap.size, 4, none⟩ = some (.int .i64 n4) := (blk_cell BK2.out 4).trans rfl
  have x2_5 : w2.cell? ⟨w.heap.size, 5, none⟩ = some (.slice A5 n5.length c5) := (blk_cell BK2.out 5).trans rfl
  have x2_6 : w2.cell? ⟨w.heap.size, 6, none⟩ = some (.slice A6 n6.length c6) := (blk_cell BK2.out 6).trans rfl
  have x2_7 : w2.cell? ⟨w.heap.size, 7, none⟩ = some (.slice A7 n7.length c7) := (blk_cell BK2.out 7).trans rfl
  go_wp2_with (first | (go_at_call 67; refine (d_l1In _ _ _ _).mono ?_; rintro e w' ⟨rfl, q2, rfl⟩) | (go_at_call 83; refine (d_l1Word _ _).mono ?_; rintro e w' ⟨rfl, q2, rfl⟩))
  all_goals first
  | ((with_reducible refine (HQ5.out _ (by repeat (first | exact HBb.out | apply pw_below_drewN))).mono ?_)
     rintro e w3 ⟨rfl, hb⟩
     have BK3 := Aside0.mk (blk_below (g := w.heap.size) (o := .cells #[.int .i64 5, .int .i64 n1, .string n2, .int .i64 n3, .int .i64 n4, .slice A5 n5.length c5, .slice A6 n6.length c6, .slice A7 n7.length c7] 134 (0, 0)) (by first | exact BK2.out | exact blk_drewN BK2.out _) hb)
     have HB3 := Aside0.mk (below_step (by repeat (first | exact HBb.out | apply pw_below_drewN)) hb)
     clear hb x2_0 x2_1 x2_2 x2_3 x2_4 x2_5 x2_6 x2_7
     have x3_0 : w3.cell? ⟨w.heap.size, 0, none⟩ = some (.int .i64 5) := (blk_cell BK3.out 0).trans rfl
     have x3_1 : w3.cell? ⟨w.heap.size, 1, none⟩ = some (.int .i64 n1) := (blk_cell BK3.out 1).trans rfl
     have x3_2 : w3.cell? ⟨w.heap.size, 2, none⟩ = some (.string n2) := (blk_cell BK3.out 2).trans rfl
     have x3_3 : w3.cell? ⟨w.heap.size, 3, none⟩ = some (.int .i64 n3) := (blk_cell BK3.out 3).trans rfl
     have x3_4 : w3.cell? ⟨w.heap.size, 4, none⟩ = some (.int .i64 n4) := (blk_cell BK3.out 4).trans rfl
     have x3_5 : w3.cell? ⟨w.heap.size, 5, none⟩ = some (.slice A5 n5.length c5) := (blk_cell BK3.out 5).trans rfl
     have x3_6 : w3.cell? ⟨w.heap.size, 6, none⟩ = some (.slice A6 n6.length c6) := (blk_cell BK3.out 6).trans rfl
     have x3_7 : w3.cell? ⟨w.heap.size, 7, none⟩ = some (.slice A7 n7.length c7) := (blk_cell BK3.out 7).trans rfl
     go_wp2_with fail
     all_goals first
     | ((with_reducible refine (HQ6.out _ (by repeat (first | exact HB3.out | apply pw_below_drewN))).mono ?_)
        rintro e w4 ⟨rfl, hb⟩
        have BK4 := Aside0.mk (blk_below (g := w.heap.size) (o := .cells #[.int .i64 5, .int .i64 n1, .string n2, .int .i64 n3, .int .i64 n4, .slice A5 n5.length c5, .slice A6 n6.length c6, .slice A7 n7.length c7] 134 (0, 0)) (by first | exact BK3.out | exact blk_drewN BK3.out _) hb)
        have HB4 := Aside0.mk (below_step (by repeat (first | exact HB3.out | apply pw_below_drewN)) hb)
        clear hb x3_0 x3_1 x3_2 x3_3 x3_4 x3_5 x3_6 x3_7
        have x4_0 : w4.cell? ⟨w.heap.size, 0, none⟩ = some (.int .i64 5) := (blk_cell BK4.out 0).trans rfl
        have x4_1 : w4.cell? ⟨w.heap.size, 1, none⟩ = some (.int .i64 n1) := (blk_cell BK4.out 1).trans rfl
        have x4_2 : w4.cell? ⟨w.heap.size, 2, none⟩ = some (.string n2) := (blk_cell BK4.out 2).trans rfl
        have x4_3 : w4.cell? ⟨w.heap.size, 3, none⟩ = some (.int .i64 n3) := (blk_cell BK4.out 3).trans rfl
        have x4_4 : w4.cell? ⟨w.heap.size, 4, none⟩ = some (.int .i64 n4) := (blk_cell BK4.out 4).trans rfl
        have x4_5 : w4.cell? ⟨w.heap.size, 5, none⟩ = some (.slice A5 n5.length c5) := (blk_cell BK4.out 5).trans rfl
        have x4_6 : w4.cell? ⟨w.heap.size, 6, none⟩ = some (.slice A6 n6.length c6) := (blk_cell BK4.out 6).trans rfl
        have x4_7 : w4.cell? ⟨w.heap.size, 7, none⟩ = some (.slice A7 n7.length c7) := (blk_cell BK4.out 7).trans rfl
        go_wp2_with fail
        all_goals first
        | ((with_reducible refine (HQ7.out _ (by repeat (first | exact HB4.out | apply pw_below_drewN))).mono ?_)
           rintro e w5 ⟨rfl, hb⟩
           have BK5 := Aside0.mk (blk_below (g := w.heap.size) (o := .cells #[.int .i64 5, .int .i64 n1, .string n2, .int .i64 n3, .int .i64 n4, .slice A5 n5.length c5, .slice A6 n6.length c6, .slice A7 n7.length c7] 134 (0, 0)) (by first | exact BK4.out | exact blk_drewN BK4.out _) hb)
           have HB5 := Aside0.mk (below_step (by repeat (first | exact HB4.out | apply pw_below_drewN)) hb)
           clear hb x4_0 x4_1 x4_2 x4_3 x4_4 x4_5 x4_6 x4_7
           have x5_0 : w5.cell? ⟨w.heap.size, 0, none⟩ = some (.int .i64 5) := (blk_cell BK5.out 0).trans rfl
           have x5_1 : w5.cell? ⟨w.heap.size, 1, none⟩ = some (.int .i64 n1) := (blk_cell BK5.out 1).trans rfl
           have x5_2 : w5.cell? ⟨w.heap.size, 2, none⟩ = some (.string n2) := (blk_cell BK5.out 2).trans rfl
           have x5_3 : w5.cell? ⟨w.heap.size, 3, none⟩ = some (.int .i64 n3) := (blk_cell BK5.out 3).trans rfl
           have x5_4 : w5.cell? ⟨w.heap.size, 4, none⟩ = some (.int .i64 n4) := (blk_cell BK5.out 4).trans rfl
           have x5_5 : w5.cell? ⟨w.heap.size, 5, none⟩ = some (.slice A5 n5.length c5) := (blk_cell BK5.out 5).trans rfl
           have x5_6 : w5.cell? ⟨w.heap.size, 6, none⟩ = some (.slice A6 n6.length c6) := (blk_cell BK5.out 6).trans rfl
           have x5_7 : w5.cell? ⟨w.heap.size, 7, none⟩ = some (.slice A7 n7.length c7) := (blk_cell BK5.out 7).trans rfl
           go_wp2_with fail
           all_goals (go_ret; refine ⟨?_, by repeat (first | exact HB5.out | apply pw_below_drewN)⟩; have hne_ := HNE.out; rw [HY.out, HG.out]; clear HG HNE HY; (try simp_all [restB]); (try (intros; first | (simp_all; done) | omega | (simp_all [inB]; done) | (simp_all [inB]; omega))); done))
        | (go_ret; refine ⟨?_, by repeat (first | exact HB4.out | apply pw_below_drewN)⟩; have hne_ := HNE.out; rw [HY.out, HG.out]; clear HG HNE HY; (try simp_all [restB]); (try (intros; first | (simp_all; done) | omega | (simp_all [inB]; done) | (simp_all [inB]; omega))); done))
     | (go_ret; refine ⟨?_, by repeat (first | exact HB3.out | apply pw_below_drewN)⟩; have hne_ := HNE.out; rw [HY.out, HG.out]; clear HG HNE HY; (try simp_all [restB]); (try (intros; first | (simp_all; done) | omega | (simp_all [inB]; done) | (simp_all [inB]; omega))); done))
  | (go_ret; refine ⟨?_, by repeat (first | exact HBb.out | apply pw_below_drewN)⟩; have hne_ := HNE.out; rw [HY.out, HG.out]; clear HG HNE HY; (try simp_all [restB]); (try (intros; first | (simp_all; done) | omega | (simp_all [inB]; done) | (simp_all [inB]; omega))); done)
set_option maxHeartbeats 8000000 in
set_option maxRecDepth 100000 in
theorem spec_l4Right.k6 (g : Nat) (V : List S125) (N : List S134) (B : List Int) (A0 A1 A2 : Option Addr) (c0 c1 c2 : Nat) (at_ : Nat) (hat : at_ < N.length) (hN : N.length ≤ 1048576) (ad : Addr) (hA1 : A1 = some ad) (n1 : Int) (n2 : ByteArray) (n3 n4 : Int) (n5 n6 n7 : List Int) (A5 A6 A7 : Option Addr) (c5 c6 c7 : Nat) (w : World) (hs : n2.size ≤ 1048576) (hs5 : n5.length ≤ 1048576) (h : TreeAt w g V N B A0 c0 A1 c1 A2 c2) (hc5 : n5.length ≤ c5) (hc6 : n6.length ≤ c6) (hc7 : n7.length ≤ c7) (q0 : w.cell? (ad.add (at_ * 8)) = some (.int .i64 6)) (q1 : w.cell? ⟨(ad.add (at_ * 8)).block, (ad.add (at_ * 8)).off + 1, none⟩ = some (.int .i64 n1)) (q2 : w.cell? ⟨(ad.add (at_ * 8)).block, (ad.add (at_ * 8)).off + 2, none⟩ = some (.string n2)) (q3 : w.cell? ⟨(ad.add (at_ * 8)).block, (ad.add (at_ * 8)).off + 3, none⟩ = some (.int .i64 n3)) (q4 : w.cell? ⟨(ad.add (at_ * 8)).block, (ad.add (at_ * 8)).off + 4, none⟩ = some (.int .i64 n4)) (q5 : w.cell? ⟨(ad.add (at_ * 8)).block, (ad.add (at_ * 8)).off + 5, none⟩ = some (.slice A5 n5.length c5)) (q6 : w.cell? ⟨(ad.add (at_ * 8)).block, (ad.add (at_ * 8)).off + 6, none⟩ = some (.slice A6 n6.length c6)) (q7 : w.cell? ⟨(ad.add (at_ * 8)).block, (ad.add (at_ * 8)).off + 7, none⟩ = some (.slice A7 n7.length c7)) (r5 : Kd.C (Kd.int .i64) w A5 n5.length n5) (r6 : Kd.C (Kd.int .i64) w A6 n6.length n6) (r7 : Kd.C (Kd.int .i64) w A7 n7.length n7) :
    Calls Try.prog 129 #[.pointer (some ⟨g, 0, none⟩), .int .i64 (at_ : Int)] w fun e w' => e = .returned (.bool (rightB N at_ (⟨6, n1, n2, n3, n4, n5, n6, n7⟩ : S134))) ∧ Below w.heap.size w w' := by
  subst hA1
  have hu := Try.underlying134
  have hT0 : w.cell? ⟨g, 1, none⟩ = some (.slice (some ad) N.length c1) := (blk_cell h.blk 1).trans rfl
  have hlt1 : (at_ : Int) < (N.length : Int) := by omega
  have hlt1q := eq_true hlt1
  have h0q : (0 ≤ (at_ : Int)) = True := eq_true (by omega)
  obtain ⟨z5, hz5⟩ : ∃ z, decide (n5.length = 2) = z := ⟨_, rfl⟩
  have z5a : ((n5.length : Int) != 2) = !z5 := by rw [← hz5]; by_cases hh : n5.length = 2 <;> simp [hh] <;> omega
  have z5b : ((n5.length : Int) == 2) = z5 := by rw [← hz5]; by_cases hh : n5.length = 2 <;> simp [hh] <;> omega
  obtain ⟨z6, hz6⟩ : ∃ z, decide (n6.length = 0) = z := ⟨_, rfl⟩
  obtain ⟨z7, hz7⟩ : ∃ z, decide (n7.length = 0) = z := ⟨_, rfl⟩
  have HG := Aside0.mk (show fitsB (⟨6, n1, n2, n3, n4, n5, n6, n7⟩ : S134) = (z5 && ((false || z6) && ((false || z7) && (n2.toList.isEmpty && (inB n1 1 10 && ((n3 == 0) && (n4 == 0))))))) from by subst hz5 hz6 hz7; rfl)
  have HNE := Aside0.mk (show mIsName n2 = true → n2.toList.isEmpty = false from isname_ne n2)
  have z6a : decide (0 < (n6.length : Int)) = !z6 := by rw [← hz6]; by_cases hh : n6.length = 0 <;> simp [hh] <;> omega
  have z6b : decide (0 < n6.length) = !z6 := by rw [← hz6]; by_cases hh : n6.length = 0 <;> simp [hh] <;> omega
  have z6c : decide (n6 = []) = z6 := by rw [← hz6]; cases n6 <;> simp
  have z7a : decide (0 < (n7.length : Int)) = !z7 := by rw [← hz7]; by_cases hh : n7.length = 0 <;> simp [hh] <;> omega
  have z7b : decide (0 < n7.length) = !z7 := by rw [← hz7]; by_cases hh : n7.length = 0 <;> simp [hh] <;> omega
  have z7c : decide (n7 = []) = z7 := by rw [← hz7]; cases n7 <;> simp
  clear hz5 hz6 hz7
  have HT := Aside0.mk h
  have R5 := Aside0.mk r5
  have R6 := Aside0.mk r6
  have R7 := Aside0.mk r7
  have HB9 := Aside0.mk ((Below.refl w.heap.size w).alloc (Nat.le_refl _) (.cells #[.int .i64 6, .int .i64 n1, .string n2, .int .i64 n3, .int .i64 n4, .slice A5 n5.length c5, .slice A6 n6.length c6, .slice A7 n7.length c7] 134))
  have HW := Aside0.mk (fun (W : World) (hb : Below w.heap.size w W) => spec_l4Wants.calls 5 6 n1 n2 n3 n4 A5 c5 n5 A6 c6 n6 A7 c7 n7 false 2 false W (Kd.C_below r5 hb) hc5 (Kd.C_below r6 hb) hc6 (Kd.C_below r7 hb) hc7 (by rfl))
  obtain ⟨y5, hy5⟩ : ∃ y, n5.all (refB N at_ true) = y := ⟨_, rfl⟩
  have HQ5 := Aside0.mk (fun (W : World) (hb : Below w.heap.size w W) => (by have := spec_l4Refs.w g V N B A0 (some ad) A2 c0 c1 c2 at_ (by omega) hN A5 c5 n5 true W (h.below hb) (Kd.C_below r5 hb); rw [hy5] at this; exact this : Calls Try.prog 130 #[.pointer (some ⟨g, 0, none⟩), .int .i64 (at_ : Int), .slice A5 n5.length c5, .bool true] W fun e' w' => e' = .returned (.bool y5) ∧ Below W.heap.size W w'))
  obtain ⟨y6, hy6⟩ : ∃ y, n6.all (refB N at_ false) = y := ⟨_, rfl⟩
  have HQ6 := Aside0.mk (fun (W : World) (hb : Below w.heap.size w W) => (by have := spec_l4Refs.w g V N B A0 (some ad) A2 c0 c1 c2 at_ (by omega) hN A6 c6 n6 false W (h.below hb) (Kd.C_below r6 hb); rw [hy6] at this; exact this : Calls Try.prog 130 #[.pointer (some ⟨g, 0, none⟩), .int .i64 (at_ : Int), .slice A6 n6.length c6, .bool false] W fun e' w' => e' = .returned (.bool y6) ∧ Below W.heap.size W w'))
  obtain ⟨y7, hy7⟩ : ∃ y, n7.all (refB N at_ false) = y := ⟨_, rfl⟩
  have HQ7 := Aside0.mk (fun (W : World) (hb : Below w.heap.size w W) => (by have := spec_l4Refs.w g V N B A0 (some ad) A2 c0 c1 c2 at_ (by omega) hN A7 c7 n7 false W (h.below hb) (Kd.C_below r7 hb); rw [hy7] at this; exact this : Calls Try.prog 130 #[.pointer (some ⟨g, 0, none⟩), .int .i64 (at_ : Int), .slice A7 n7.length c7, .bool false] W fun e' w' => e' = .returned (.bool y7) ∧ Below W.heap.size W w'))
  have HY := Aside0.mk (show rightB N at_ (⟨6, n1, n2, n3, n4, n5, n6, n7⟩ : S134) = (fitsB (⟨6, n1, n2, n3, n4, n5, n6, n7⟩ : S134) && (y5 && (y6 && y7))) from by subst hy5 hy6 hy7; rfl)
  clear hy5 hy6 hy7
  clear h r5 r6 r7
  go_enter Try.func129, Try.ntmps129
  go_wp2_with fail
  refine (d_l1In _ _ _ _).mono ?_
  rintro e w' ⟨rfl, q, rfl⟩
  go_wp2_with fail
  refine (HW.out _ (pw_below_drewN HB9.out _)).mono ?_
  rintro e w1 ⟨rfl, hb⟩
  have BK1 := Aside0.mk (blk_below (g := w.heap.size) (o := .cells #[.int .i64 6, .int .i64 n1, .string n2, .int .i64 n3, .int .i64 n4, .slice A5 n5.length c5, .slice A6 n6.length c6, .slice A7 n7.length c7] 134 (0, 0)) (by first | exact blk_drewN (blk_new w _) _ | exact blk_new w _) hb)
  have HBa := Aside0.mk (below_step (pw_below_drewN HB9.out _) hb)
  clear hb
  have x1_0 : w1.cell? ⟨w.heap.size, 0, none⟩ = some (.int .i64 6) := (blk_cell BK1.out 0).trans rfl
  have x1_1 : w1.cell? ⟨w.heap.size, 1, none⟩ = some (.int .i64 n1) := (blk_cell BK1.out 1).trans rfl
  have x1_2 : w1.cell? ⟨w.heap.size, 2, none⟩ = some (.string n2) := (blk_cell BK1.out 2).trans rfl
  have x1_3 : w1.cell? ⟨w.heap.size, 3, none⟩ = some (.int .i64 n3) := (blk_cell BK1.out 3).trans rfl
  have x1_4 : w1.cell? ⟨w.heap.size, 4, none⟩ = some (.int .i64 n4) := (blk_cell BK1.out 4).trans rfl
  have x1_5 : w1.cell? ⟨w.heap.size, 5, none⟩ = some (.slice A5 n5.length c5) := (blk_cell BK1.out 5).trans rfl
  have x1_6 : w1.cell? ⟨w.heap.size, 6, none⟩ = some (.slice A6 n6.length c6) := (blk_cell BK1.out 6).trans rfl
  have x1_7 : w1.cell? ⟨w.heap.size, 7, none⟩ = some (.slice A7 n7.length c7) := (blk_cell BK1.out 7).trans rfl
  go_wp2_with fail
  refine (w_IsName' _ hs _).mono ?_
  rintro e w2 ⟨rfl, hb⟩
  have BK2 := Aside0.mk (blk_below BK1.out hb)
  have HBb := Aside0.mk (below_step HBa.out hb)
  clear hb x1_0 x1_1 x1_2 x1_3 x1_4 x1_5 x1_6 x1_7
  have x2_0 : w2.cell? ⟨w.heap.size, 0, none⟩ = some (.int .i64 6) := (blk_cell BK2.out 0).trans rfl
  have x2_1 : w2.cell? ⟨w.heap.size, 1, none⟩ = some (.int .i64 n1) := (blk_cell BK2.out 1).trans rfl
  have x2_2 : w2.cell? ⟨w.heap.size, 2, none⟩ = some (.string n2) := (blk_cell BK2.out 2).trans rfl
  have x2_3 : w2.cell? ⟨w.heap.size, 3, none⟩ = some (.int .i64 n3) := (blk_cell BK2.out 3).trans rfl
  have x2_4 : w2.cell? ⟨w.heap.size, 4, none⟩ = some (.int .i64 n4) := (blk_cell BK2.out 4).trans rfl
  have x2_5 : w2.cell? ⟨w.heap.size, 5, none⟩ = some (.slice A5 n5.length c5) := (blk_cell BK2.out 5).trans rfl
  have x2_6 : w2.cell? ⟨w.heap.size, 6, none⟩ = some (.slice A6 n6.length c6) := (blk_cell BK2.out 6).trans rfl
  have x2_7 : w2.cell? ⟨w.heap.size, 7, none⟩ = some (.slice A7 n7.length c7) := (blk_cell BK2.out 7).trans rfl
  go_wp2_with (first | (go_at_call 67; refine (d_l1In _ _ _ _).mono ?_; rintro e w' ⟨rfl, q2, rfl⟩) | (go_at_call 83; refine (d_l1Word _ _).mono ?_; rintro e w' ⟨rfl, q2, rfl⟩))
  all_goals first
  | ((with_reducible refine (HQ5.out _ (by repeat (first | exact HBb.out | apply pw_below_drewN))).mono ?_)
     rintro e w3 ⟨rfl, hb⟩
     have BK3 := Aside0.mk (blk_below (g := w.heap.size) (o := .cells #[.int .i64 6, .int .i64 n1, .string n2, .int .i64 n3, .int .i64 n4, .slice A5 n5.length c5, .slice A6 n6.length c6, .slice A7 n7.length c7] 134 (0, 0)) (by first | exact BK2.out | exact blk_drewN BK2.out _) hb)
     have HB3 := Aside0.mk (below_step (by repeat (first | exact HBb.out | apply pw_below_drewN)) hb)
     clear hb x2_0 x2_1 x2_2 x2_3 x2_4 x2_5 x2_6 x2_7
     have x3_0 : w3.cell? ⟨w.heap.size, 0, none⟩ = some (.int .i64 6) := (blk_cell BK3.out 0).trans rfl
     have x3_1 : w3.cell? ⟨w.heap.size, 1, none⟩ = some (.int .i64 n1) := (blk_cell BK3.out 1).trans rfl
     have x3_2 : w3.cell? ⟨w.heap.size, 2, none⟩ = some (.string n2) := (blk_cell BK3.out 2).trans rfl
     have x3_3 : w3.cell? ⟨w.heap.size, 3, none⟩ = some (.int .i64 n3) := (blk_cell BK3.out 3).trans rfl
     have x3_4 : w3.cell? ⟨w.heap.size, 4, none⟩ = some (.int .i64 n4) := (blk_cell BK3.out 4).trans rfl
     have x3_5 : w3.cell? ⟨w.heap.size, 5, none⟩ = some (.slice A5 n5.length c5) := (blk_cell BK3.out 5).trans rfl
     have x3_6 : w3.cell? ⟨w.heap.size, 6, none⟩ = some (.slice A6 n6.length c6) := (blk_cell BK3.out 6).trans rfl
     have x3_7 : w3.cell? ⟨w.heap.size, 7, none⟩ = some (.slice A7 n7.length c7) := (blk_cell BK3.out 7).trans rfl
     go_wp2_with fail
     all_goals first
     | ((with_reducible refine (HQ6.out _ (by repeat (first | exact HB3.out | apply pw_below_drewN))).mono ?_)
        rintro e w4 ⟨rfl, hb⟩
        have BK4 := Aside0.mk (blk_below (g := w.heap.size) (o := .cells #[.int .i64 6, .int .i64 n1, .string n2, .int .i64 n3, .int .i64 n4, .slice A5 n5.length c5, .slice A6 n6.length c6, .slice A7 n7.length c7] 134 (0, 0)) (by first | exact BK3.out | exact blk_drewN BK3.out _) hb)
        have HB4 := Aside0.mk (below_step (by repeat (first | exact HB3.out | apply pw_below_drewN)) hb)
        clear hb x3_0 x3_1 x3_2 x3_3 x3_4 x3_5 x3_6 x3_7
        have x4_0 : w4.cell? ⟨w.heap.size, 0, none⟩ = some (.int .i64 6) := (blk_cell BK4.out 0).trans rfl
        have x4_1 : w4.cell? ⟨w.heap.size, 1, none⟩ = some (.int .i64 n1) := (blk_cell BK4.out 1).trans rfl
        have x4_2 : w4.cell? ⟨w.heap.size, 2, none⟩ = some (.string n2) := (blk_cell BK4.out 2).trans rfl
        have x4_3 : w4.cell? ⟨w.heap.size, 3, none⟩ = some (.int .i64 n3) := (blk_cell BK4.out 3).trans rfl
        have x4_4 : w4.cell? ⟨w.heap.size, 4, none⟩ = some (.int .i64 n4) := (blk_cell BK4.out 4).trans rfl
        have x4_5 : w4.cell? ⟨w.heap.size, 5, none⟩ = some (.slice A5 n5.length c5) := (blk_cell BK4.out 5).trans rfl
        have x4_6 : w4.cell? ⟨w.heap.size, 6, none⟩ = some (.slice A6 n6.length c6) := (blk_cell BK4.out 6).trans rfl
        have x4_7 : w4.cell? ⟨w.heap.size, 7, none⟩ = some (.slice A7 n7.length c7) := (blk_cell BK4.out 7).trans rfl
        go_wp2_with fail
        all_goals first
        | ((with_reducible refine (HQ7.out _ (by repeat (first | exact HB4.out | apply pw_below_drewN))).mono ?_)
           rintro e w5 ⟨rfl, hb⟩
           have BK5 := Aside0.mk (blk_below (g := w.heap.size) (o := .cells #[.int .i64 6, .int .i64 n1, .string n2, .int .i64 n3, .int .i64 n4, .slice A5 n5.length c5, .slice A6 n6.length c6, .slice A7 n7.length c7] 134 (0, 0)) (by first | exact BK4.out | exact blk_drewN BK4.out _) hb)
           have HB5 := Aside0.mk (below_step (by repeat (first | exact HB4.out | apply pw_below_drewN)) hb)
           clear hb x4_0 x4_1 x4_2 x4_3 x4_4 x4_5 x4_6 x4_7
           have x5_0 : w5.cell? ⟨w.heap.size, 0, none⟩ = some (.int .i64 6) := (blk_cell BK5.out 0).trans rfl
           have x5_1 : w5.cell? ⟨w.heap.size, 1, none⟩ = some (.int .i64 n1) := (blk_cell BK5.out 1).trans rfl
           have x5_2 : w5.cell? ⟨w.heap.size, 2, none⟩ = some (.string n2) := (blk_cell BK5.out 2).trans rfl
           have x5_3 : w5.cell? ⟨w.heap.size, 3, none⟩ = some (.int .i64 n3) := (blk_cell BK5.out 3).trans rfl
           have x5_4 : w5.cell? ⟨w.heap.size, 4, none⟩ = some (.int .i64 n4) := (blk_cell BK5.out 4).trans rfl
           have x5_5 : w5.cell? ⟨w.heap.size, 5, none⟩ = some (.slice A5 n5.length c5) := (blk_cell BK5.out 5).trans rfl
           have x5_6 : w5.cell? ⟨w.heap.size, 6, none⟩ = some (.slice A6 n6.length c6) := (blk_cell BK5.out 6).trans rfl
           have x5_7 : w5.cell? ⟨w.heap.size, 7, none⟩ = some (.slice A7 n7.length c7) := (blk_cell BK5.out 7).trans rfl
           go_wp2_with fail
           all_goals (go_ret; refine ⟨?_, by repeat (first | exact HB5.out | apply pw_below_drewN)⟩; have hne_ := HNE.out; rw [HY.out, HG.out]; clear HG HNE HY; (try simp_all [restB]); (try (intros; first | (simp_all; done) | omega | (simp_all [inB]; done) | (simp_all [inB]; omega))); done))
        | (go_ret; refine ⟨?_, by repeat (first | exact HB4.out | apply pw_below_drewN)⟩; have hne_ := HNE.out; rw [HY.out, HG.out]; clear HG HNE HY; (try simp_all [restB]); (try (intros; first | (simp_all; done) | omega | (simp_all [inB]; done) | (simp_all [inB]; omega))); done))
     | (go_ret; refine ⟨?_, by repeat (first | exact HB3.out | apply pw_below_drewN)⟩; have hne_ := HNE.out; rw [HY.out, HG.out]; clear HG HNE HY; (try simp_all [restB]); (try (intros; first | (simp_all; done) | omega | (simp_all [inB]; done) | (simp_all [inB]; omega))); done))
  | (go_ret; refine ⟨?_, by repeat (first | exact HBb.out | apply pw_below_drewN)⟩; have hne_ := HNE.out; rw [HY.out, HG.out]; clear HG HNE HY; (try simp_all [restB]); (try (intros; first | (simp_all; done) | omega | (simp_all [inB]; done) | (simp_all [inB]; omega))); done)

end Go.Proofs.Ytlokckgkbhmkmaa.XFnExactCellOf
