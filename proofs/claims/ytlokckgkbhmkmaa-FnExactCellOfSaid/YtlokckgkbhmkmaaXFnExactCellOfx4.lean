/- Machine side of the law FnExactCellOf: for each Go function that it reaches, a Lean function with the same answers and the proof that the call comes to them. Conditions: what the arguments lead to reads as the lists that each contract is told of. Some functions are told by hand, the others by the kit's print.py under wip/ext.py. -/
import Derived.Test.YtlokckgkbhmkmaaXFnExactCellOfx0
import Derived.Test.YtlokckgkbhmkmaaXFnExactCellOfx1
import Derived.Test.YtlokckgkbhmkmaaXFnExactCellOfx2
import Derived.Test.YtlokckgkbhmkmaaXFnExactCellOfx3
namespace Go.Proofs.Ytlokckgkbhmkmaa.XFnExactCellOf
open Go.RowKit Go.Proofs.YtlokckgkbhmkmaaW.PrintWords Go.Proofs.YtlokckgkbhmkmaaW.PrintLast
attribute [local go_sem] max2_int min2_int max_two min_two   -- for this text's walks alone
set_option linter.unusedVariables false
set_option linter.unusedSimpArgs false

/-! ### LIB right3 -/
set_option maxHeartbeats 8000000 in
set_option maxRecDepth 100000 in
theorem spec_l4Right.k8 (g : Nat) (V : List S125) (N : List S134) (B : List Int) (A0 A1 A2 : Option Addr) (c0 c1 c2 : Nat) (at_ : Nat) (hat : at_ < N.length) (hN : N.length ≤ 1048576) (ad : Addr) (hA1 : A1 = some ad) (n1 : Int) (n2 : ByteArray) (n3 n4 : Int) (n5 n6 n7 : List Int) (A5 A6 A7 : Option Addr) (c5 c6 c7 : Nat) (w : World) (hs : n2.size ≤ 1048576) (hs5 : n5.length ≤ 1048576) (h : TreeAt w g V N B A0 c0 A1 c1 A2 c2) (hc5 : n5.length ≤ c5) (hc6 : n6.length ≤ c6) (hc7 : n7.length ≤ c7) (q0 : w.cell? (ad.add (at_ * 8)) = some (.int .i64 8)) (q1 : w.cell? ⟨(ad.add (at_ * 8)).block, (ad.add (at_ * 8)).off + 1, none⟩ = some (.int .i64 n1)) (q2 : w.cell? ⟨(ad.add (at_ * 8)).block, (ad.add (at_ * 8)).off + 2, none⟩ = some (.string n2)) (q3 : w.cell? ⟨(ad.add (at_ * 8)).block, (ad.add (at_ * 8)).off + 3, none⟩ = some (.int .i64 n3)) (q4 : w.cell? ⟨(ad.add (at_ * 8)).block, (ad.add (at_ * 8)).off + 4, none⟩ = some (.int .i64 n4)) (q5 : w.cell? ⟨(ad.add (at_ * 8)).block, (ad.add (at_ * 8)).off + 5, none⟩ = some (.slice A5 n5.length c5)) (q6 : w.cell? ⟨(ad.add (at_ * 8)).block, (ad.add (at_ * 8)).off + 6, none⟩ = some (.slice A6 n6.length c6)) (q7 : w.cell? ⟨(ad.add (at_ * 8)).block, (ad.add (at_ * 8)).off + 7, none⟩ = some (.slice A7 n7.length c7)) (r5 : Kd.C (Kd.int .i64) w A5 n5.length n5) (r6 : Kd.C (Kd.int .i64) w A6 n6.length n6) (r7 : Kd.C (Kd.int .i64) w A7 n7.length n7) :
    Calls Try.prog 129 #[.pointer (some ⟨g, 0, none⟩), .int .i64 (at_ : Int)] w fun e w' => e = .returned (.bool (rightB N at_ (⟨8, n1, n2, n3, n4, n5, n6, n7⟩ : S134))) ∧ Below w.heap.size w w' := by
  subst hA1
  have hu := Try.underlying134
  have hT0 : w.cell? ⟨g, 1, none⟩ = some (.slice (some ad) N.length c1) := (blk_cell h.blk 1).trans rfl
  have hlt1 : (at_ : Int) < (N.length : Int) := by omega
  have hlt1q := eq_true hlt1
  have h0q : (0 ≤ (at_ : Int)) = True := eq_true (by omega)
  obtain ⟨z5, hz5⟩ : ∃ z, decide (n5.length = 2) = z := ⟨_, rfl⟩
  have z5a : ((n5.length : Int) != 2) = !z5 := by rw [← hz5]; by_cases hh : n5.length = 2 <;> simp [hh] <;> omega
  have z5b : ((n5.length : Int) == 2) = z5 := by rw [← hz5]; by_cases hh : n5.length = 2 <;> simp [hh] <;> omega
  obtain ⟨z6, hz6⟩ : ∃ z, decide (n6.length = 0) = z := ⟨_, rfl⟩
  obtain ⟨z7, hz7⟩ : ∃ z, decide (n7.length = 0) = z := ⟨_, rfl⟩
  have HG := Aside0.mk (show fitsB (⟨8, n1, n2, n3, n4, n5, n6, n7⟩ : S134) = (z5 && ((false || z6) && ((false || z7) && (mIsName n2 && ((n1 == 0) && ((n3 == 0) && (n4 == 0))))))) from by subst hz5 hz6 hz7; rfl)
  have HNE := Aside0.mk (show mIsName n2 = true → n2.toList.isEmpty = false from isname_ne n2)
  have z6a : decide (0 < (n6.length : Int)) = !z6 := by rw [← hz6]; by_cases hh : n6.length = 0 <;> simp [hh] <;> omega
  have z6b : decide (0 < n6.length) = !z6 := by rw [← hz6]; by_cases hh : n6.length = 0 <;> simp [hh] <;> omega
  have z6c : decide (n6 = []) = z6 := by rw [← hz6]; cases n6 <;> simp
  have z7a : decide (0 < (n7.length : Int)) = !z7 := by rw [← hz7]; by_cases hh : n7.length = 0 <;> simp [hh] <;> omega
  have z7b : decide (0 < n7.length) = !z7 := by rw [← hz7]; by_cases hh : n7.length = 0 <;> simp [hh] <;> omega
  have z7c : decide (n7 = []) = z7 := by rw [← hz7]; cases n7 <;> simp
  clear hz5 hz6 hz7
  have HT := Aside0.mk h
  have R5 := Aside0.mk r5
  have R6 := Aside0.mk r6
  have R7 := Aside0.mk r7
  have HB9 := Aside0.mk ((Below.refl w.heap.size w).alloc (Nat.le_refl _) (.cells #[.int .i64 8, .int .i64 n1, .string n2, .int .i64 n3, .int .i64 n4, .slice A5 n5.length c5, .slice A6 n6.length c6, .slice A7 n7.length c7] 134))
  have HW := Aside0.mk (fun (W : World) (hb : Below w.heap.size w W) => spec_l4Wants.calls 5 8 n1 n2 n3 n4 A5 c5 n5 A6 c6 n6 A7 c7 n7 true 2 false W (Kd.C_below r5 hb) hc5 (Kd.C_below r6 hb) hc6 (Kd.C_below r7 hb) hc7 (by rfl))
  obtain ⟨y5, hy5⟩ : ∃ y, n5.all (refB N at_ true) = y := ⟨_, rfl⟩
  have HQ5 := Aside0.mk (fun (W : World) (hb : Below w.heap.size w W) => (by have := spec_l4Refs.w g V N B A0 (some ad) A2 c0 c1 c2 at_ (by omega) hN A5 c5 n5 true W (h.below hb) (Kd.C_below r5 hb); rw [hy5] at this; exact this : Calls Try.prog 130 #[.pointer (some ⟨g, 0, none⟩), .int .i64 (at_ : Int), .slice A5 n5.length c5, .bool true] W fun e' w' => e' = .returned (.bool y5) ∧ Below W.heap.size W w'))
  obtain ⟨y6, hy6⟩ : ∃ y, n6.all (refB N at_ false) = y := ⟨_, rfl⟩
  have HQ6 := Aside0.mk (fun (W : World) (hb : Below w.heap.size w W) => (by have := spec_l4Refs.w g V N B A0 (some ad) A2 c0 c1 c2 at_ (by omega) hN A6 c6 n6 false W (h.below hb) (Kd.C_below r6 hb); rw [hy6] at this; exact this : Calls Try.prog 130 #[.pointer (some ⟨g, 0, none⟩), .int .i64 (at_ : Int), .slice A6 n6.length c6, .bool false] W fun e' w' => e' = .returned (.bool y6) ∧ Below W.heap.size W w'))
  obtain ⟨y7, hy7⟩ : ∃ y, n7.all (refB N at_ false) = y := ⟨_, rfl⟩
  have HQ7 := Aside0.mk (fun (W : World) (hb : Below w.heap.size w W) => (by have := spec_l4Refs.w g V N B A0 (some ad) A2 c0 c1 c2 at_ (by omega) hN A7 c7 n7 false W (h.below hb) (Kd.C_below r7 hb); rw [hy7] at this; exact this : Calls Try.prog 130 #[.pointer (some ⟨g, 0, none⟩), .int .i64 (at_ : Int), .slice A7 n7.length c7, .bool false] W fun e' w' => e' = .returned (.bool y7) ∧ Below W.heap.size W w'))
  have HY := Aside0.mk (show rightB N at_ (⟨8, n1, n2, n3, n4, n5, n6, n7⟩ : S134) = (fitsB (⟨8, n1, n2, n3, n4, n5, n6, n7⟩ : S134) && (y5 && (y6 && y7))) from by subst hy5 hy6 hy7; rfl)
  clear hy5 hy6 hy7
  clear h r5 r6 r7
  go_enter Try.func129, Try.ntmps129
  go_wp2_with fail
  refine (d_l1In _ _ _ _).mono ?_
  rintro e w' ⟨rfl, q, rfl⟩
  go_wp2_with fail
  refine (HW.out _ (pw_below_drewN HB9.out _)).mono ?_
  rintro e w1 ⟨rfl, hb⟩
  have BK1 := Aside0.mk (blk_below (g := w.heap.size) (o := .cells #[.int .i64 8, .int .i64 n1, .string n2, .int .i64 n3, .int .i64 n4, .slice A5 n5.length c5, .slice A6 n6.length c6, .slice A7 n7.length c7] 134 (0, 0)) (by first | exact blk_drewN (blk_new w _) _ | exact blk_new w _) hb)
  have HBa := Aside0.mk (below_step (pw_below_drewN HB9.out _) hb)
  clear hb
  have x1_0 : w1.cell? ⟨w.heap.size, 0, none⟩ = some (.int .i64 8) := (blk_cell BK1.out 0).trans rfl
  have x1_1 : w1.cell? ⟨w.heap.size, 1, none⟩ = some (.int .i64 n1) := (blk_cell BK1.out 1).trans rfl
  have x1_2 : w1.cell? ⟨w.heap.size, 2, none⟩ = some (.string n2) := (blk_cell BK1.out 2).trans rfl
  have x1_3 : w1.cell? ⟨w.heap.size, 3, none⟩ = some (.int .i64 n3) := (blk_cell BK1.out 3).trans rfl
  have x1_4 : w1.cell? ⟨w.heap.size, 4, none⟩ = some (.int .i64 n4) := (blk_cell BK1.out 4).trans rfl
  have x1_5 : w1.cell? ⟨w.heap.size, 5, none⟩ = some (.slice A5 n5.length c5) := (blk_cell BK1.out 5).trans rfl
  have x1_6 : w1.cell? ⟨w.heap.size, 6, none⟩ = some (.slice A6 n6.length c6) := (blk_cell BK1.out 6).trans rfl
  have x1_7 : w1.cell? ⟨w.heap.size, 7, none⟩ = some (.slice A7 n7.length c7) := (blk_cell BK1.out 7).trans rfl
  go_wp2_with fail
  refine (w_IsName' _ hs _).mono ?_
  rintro e w2 ⟨rfl, hb⟩
  have BK2 := Aside0.mk (blk_below BK1.out hb)
  have HBb := Aside0.mk (below_step HBa.out hb)
  clear hb x1_0 x1_1 x1_2 x1_3 x1_4 x1_5 x1_6 x1_7
  have x2_0 : w2.cell? ⟨w.heap.size, 0, none⟩ = some (.int .i64 8) := (blk_cell BK2.out 0).trans rfl
  have x2_1 : w2.cell? ⟨w.heap.size, 1, none⟩ = some (.int .i64 n1) := (blk_cell BK2.out 1).trans rfl
  have x2_2 : w2.cell? ⟨w.heap.size, 2, none⟩ = some (.string n2) := (blk_cell BK2.out 2).trans rfl
  have x2_3 : w2.cell? ⟨w.heap.size, 3, none⟩ = some (.int .i64 n3) := (blk_cell BK2.out 3).trans rfl
  have x2_4 : w2.cell? ⟨w.heap.size, 4, none⟩ = some (.int .i64 n4) := (blk_cell BK2.out 4).trans rfl
  have x2_5 : w2.cell? ⟨w.heap.size, 5, none⟩ = some (.slice A5 n5.length c5) := (blk_cell BK2.out 5).trans rfl
  have x2_6 : w2.cell? ⟨w.heap.size, 6, none⟩ = some (.slice A6 n6.length c6) := (blk_cell BK2.out 6).trans rfl
  have x2_7 : w2.cell? ⟨w.heap.size, 7, none⟩ = some (.slice A7 n7.length c7) := (blk_cell BK2.out 7).trans rfl
  go_wp2_with (first | (go_at_call 67; refine (d_l1In _ _ _ _).mono ?_; rintro e w' ⟨rfl, q2, rfl⟩) | (go_at_call 83; refine (d_l1Word _ _).mono ?_; rintro e w' ⟨rfl, q2, rfl⟩))
  all_goals first
  | ((with_reducible refine (HQ5.out _ (by repeat (first | exact HBb.out | apply pw_below_drewN))).mono ?_)
     rintro e w3 ⟨rfl, hb⟩
     have BK3 := Aside0.mk (blk_below (g := w.heap.size) (o := .cells #[.int .i64 8, .int .i64 n1, .string n2, .int .i64 n3, .int .i64 n4, .slice A5 n5.length c5, .slice A6 n6.length c6, .slice A7 n7.length c7] 134 (0, 0)) (by first | exact BK2.out | exact blk_drewN BK2.out _) hb)
     have HB3 := Aside0.mk (below_step (by repeat (first | exact HBb.out | apply pw_below_drewN)) hb)
     clear hb x2_0 x2_1 x2_2 x2_3 x2_4 x2_5 x2_6 x2_7
     have x3_0 : w3.cell? ⟨w.heap.size, 0, none⟩ = some (.int .i64 8) := (blk_cell BK3.out 0).trans rfl
     have x3_1 : w3.cell? ⟨w.heap.size, 1, none⟩ = some (.int .i64 n1) := (blk_cell BK3.out 1).trans rfl
     have x3_2 : w3.cell? ⟨w.heap.size, 2, none⟩ = some (.string n2) := (blk_cell BK3.out 2).trans rfl
     have x3_3 : w3.cell? ⟨w.heap.size, 3, none⟩ = some (.int .i64 n3) := (blk_cell BK3.out 3).trans rfl
     have x3_4 : w3.cell? ⟨w.heap.size, 4, none⟩ = some (.int .i64 n4) := (blk_cell BK3.out 4).trans rfl
     have x3_5 : w3.cell? ⟨w.heap.size, 5, none⟩ = some (.slice A5 n5.length c5) := (blk_cell BK3.out 5).trans rfl
     have x3_6 : w3.cell? ⟨w.heap.size, 6, none⟩ = some (.slice A6 n6.length c6) := (blk_cell BK3.out 6).trans rfl
     have x3_7 : w3.cell? ⟨w.heap.size, 7, none⟩ = some (.slice A7 n7.length c7) := (blk_cell BK3.out 7).trans rfl
     go_wp2_with fail
     all_goals first
     | ((with_reducible refine (HQ6.out _ (by repeat (first | exact HB3.out | apply pw_below_drewN))).mono ?_)
        rintro e w4 ⟨rfl, hb⟩
        have BK4 := Aside0.mk (blk_below (g := w.heap.size) (o := .cells #[.int .i64 8, .int .i64 n1, .string n2, .int .i64 n3, .int .i64 n4, .slice A5 n5.length c5, .slice A6 n6.length c6, .slice A7 n7.length c7] 134 (0, 0)) (by first | exact BK3.out | exact blk_drewN BK3.out _) hb)
        have HB4 := Aside0.mk (below_step (by repeat (first | exact HB3.out | apply pw_below_drewN)) hb)
        clear hb x3_0 x3_1 x3_2 x3_3 x3_4 x3_5 x3_6 x3_7
        have x4_0 : w4.cell? ⟨w.heap.size, 0, none⟩ = some (.int .i64 8) := (blk_cell BK4.out 0).trans rfl
        have x4_1 : w4.cell? ⟨w.heap.size, 1, none⟩ = some (.int .i64 n1) := (blk_cell BK4.out 1).trans rfl
        have x4_2 : w4.cell? ⟨w.heap.size, 2, none⟩ = some (.string n2) := (blk_cell BK4.out 2).trans rfl
        have x4_3 : w4.cell? ⟨w.heap.size, 3, none⟩ = some (.int .i64 n3) := (blk_cell BK4.out 3).trans rfl
        have x4_4 : w4.cell? ⟨w.heap.size, 4, none⟩ = some (.int .i64 n4) := (blk_cell BK4.out 4).trans rfl
        have x4_5 : w4.cell? ⟨w.heap.size, 5, none⟩ = some (.slice A5 n5.length c5) := (blk_cell BK4.out 5).trans rfl
        have x4_6 : w4.cell? ⟨w.heap.size, 6, none⟩ = some (.slice A6 n6.length c6) := (blk_cell BK4.out 6).trans rfl
        have x4_7 : w4.cell? ⟨w.heap.size, 7, none⟩ = some (.slice A7 n7.length c7) := (blk_cell BK4.out 7).trans rfl
        go_wp2_with fail
        all_goals first
        | ((with_reducible refine (HQ7.out _ (by repeat (first | exact HB4.out | apply pw_below_drewN))).mono ?_)
           rintro e w5 ⟨rfl, hb⟩
           have BK5 := Aside0.mk (blk_below (g := w.heap.size) (o := .cells #[.int .i64 8, .int .i64 n1, .string n2, .int .i64 n3, .int .i64 n4, .slice A5 n5.length c5, .slice A6 n6.length c6, .slice A7 n7.length c7] 134 (0, 0)) (by first | exact BK4.out | exact blk_drewN BK4.out _) hb)
           have HB5 := Aside0.mk (below_step (by repeat (first | exact HB4.out | apply pw_below_drewN)) hb)
           clear hb x4_0 x4_1 x4_2 x4_3 x4_4 x4_5 x4_6 x4_7
           have x5_0 : w5.cell? ⟨w.heap.size, 0, none⟩ = some (.int .i64 8) := (blk_cell BK5.out 0).trans rfl
           have x5_1 : w5.cell? ⟨w.heap.size, 1, none⟩ = some (.int .i64 n1) := (blk_cell BK5.out 1).trans rfl
           have x5_2 : w5.cell? ⟨w.heap.size, 2, none⟩ = some (.string n2) := (blk_cell BK5.out 2).trans rfl
           have x5_3 : w5.cell? ⟨w.heap.size, 3, none⟩ = some (.int .i64 n3) := (blk_cell BK5.out 3).trans rfl
           have x5_4 : w5.cell? ⟨w.heap.size, 4, none⟩ = some (.int .i64 n4) := (blk_cell BK5.out 4).trans rfl
           have x5_5 : w5.cell? ⟨w.heap.size, 5, none⟩ = some (.slice A5 n5.length c5) := (blk_cell BK5.out 5).trans rfl
           have x5_6 : w5.cell? ⟨w.heap.size, 6, none⟩ = some (.slice A6 n6.length c6) := (blk_cell BK5.out 6).trans rfl
           have x5_7 : w5.cell? ⟨w.heap.size, 7, none⟩ = some (.slice A7 n7.length c7) := (blk_cell BK5.out 7).trans rfl
           go_wp2_with fail
           all_goals (go_ret; refine ⟨?_, by repeat (first | exact HB5.out | apply pw_below_drewN)⟩; have hne_ := HNE.out; rw [HY.out, HG.out]; clear HG HNE HY; (try simp_all [restB]); (try (intros; first | (simp_all; done) | omega | (simp_all [inB]; done) | (simp_all [inB]; omega))); done))
        | (go_ret; refine ⟨?_, by repeat (first | exact HB4.out | apply pw_below_drewN)⟩; have hne_ := HNE.out; rw [HY.out, HG.out]; clear HG HNE HY; (try simp_all [restB]); (try (intros; first | (simp_all; done) | omega | (simp_all [inB]; done) | (simp_all [inB]; omega))); done))
     | (go_ret; refine ⟨?_, by repeat (first | exact HB3.out | apply pw_below_drewN)⟩; have hne_ := HNE.out; rw [HY.out, HG.out]; clear HG HNE HY; (try simp_all [restB]); (try (intros; first | (simp_all; done) | omega | (simp_all [inB]; done) | (simp_all [inB]; omega))); done))
  | (go_ret; refine ⟨?_, by repeat (first | exact HBb.out | apply pw_below_drewN)⟩; have hne_ := HNE.out; rw [HY.out, HG.out]; clear HG HNE HY; (try simp_all [restB]); (try (intros; first | (simp_all; done) | omega | (simp_all [inB]; done) | (simp_all [inB]; omega))); done)
set_option maxHeartbeats 8000000 in
set_option maxRecDepth 100000 in
theorem spec_l4Right.k9 (g : Nat) (V : List S125) (N : List S134) (B : List Int) (A0 A1 A2 : Option Addr) (c0 c1 c2 : Nat) (at_ : Nat) (hat : at_ < N.length) (hN : N.length ≤ 1048576) (ad : Addr) (hA1 : A1 = some ad) (n1 : Int) (n2 : ByteArray) (n3 n4 : Int) (n5 n6 n7 : List Int) (A5 A6 A7 : Option Addr) (c5 c6 c7 : Nat) (w : World) (hs : n2.size ≤ 1048576) (hs5 : n5.length ≤ 1048576) (h : TreeAt w g V N B A0 c0 A1 c1 A2 c2) (hc5 : n5.length ≤ c5) (hc6 : n6.length ≤ c6) (hc7 : n7.length ≤ c7) (q0 : w.cell? (ad.add (at_ * 8)) = some (.int .i64 9)) (q1 : w.cell? ⟨(ad.add (at_ * 8)).block, (ad.add (at_ * 8)).off + 1, none⟩ = some (.int .i64 n1)) (q2 : w.cell? ⟨(ad.add (at_ * 8)).block, (ad.add (at_ * 8)).off + 2, none⟩ = some (.string n2)) (q3 : w.cell? ⟨(ad.add (at_ * 8)).block, (ad.add (at_ * 8)).off + 3, none⟩ = some (.int .i64 n3)) (q4 : w.cell? ⟨(ad.add (at_ * 8)).block, (ad.add (at_ * 8)).off + 4, none⟩ = some (.int .i64 n4)) (q5 : w.cell? ⟨(ad.add (at_ * 8)).block, (ad.add (at_ * 8)).off + 5, none⟩ = some (.slice A5 n5.length c5)) (q6 : w.cell? ⟨(ad.add (at_ * 8)).block, (ad.add (at_ * 8)).off + 6, none⟩ = some (.slice A6 n6.length c6)) (q7 : w.cell? ⟨(ad.add (at_ * 8)).block, (ad.add (at_ * 8)).off + 7, none⟩ = some (.slice A7 n7.length c7)) (r5 : Kd.C (Kd.int .i64) w A5 n5.length n5) (r6 : Kd.C (Kd.int .i64) w A6 n6.length n6) (r7 : Kd.C (Kd.int .i64) w A7 n7.length n7) :
    Calls Try.prog 129 #[.pointer (some ⟨g, 0, none⟩), .int .i64 (at_ : Int)] w fun e w' => e = .returned (.bool (rightB N at_ (⟨9, n1, n2, n3, n4, n5, n6, n7⟩ : S134))) ∧ Below w.heap.size w w' := by
  subst hA1
  have hu := Try.underlying134
  have hT0 : w.cell? ⟨g, 1, none⟩ = some (.slice (some ad) N.length c1) := (blk_cell h.blk 1).trans rfl
  have hlt1 : (at_ : Int) < (N.length : Int) := by omega
  have hlt1q := eq_true hlt1
  have h0q : (0 ≤ (at_ : Int)) = True := eq_true (by omega)
  obtain ⟨z5, hz5⟩ : ∃ z, decide (n5.length = 1) = z := ⟨_, rfl⟩
  have z5a : ((n5.length : Int) != 1) = !z5 := by rw [← hz5]; by_cases hh : n5.length = 1 <;> simp [hh] <;> omega
  have z5b : ((n5.length : Int) == 1) = z5 := by rw [← hz5]; by_cases hh : n5.length = 1 <;> simp [hh] <;> omega
  obtain ⟨z6, hz6⟩ : ∃ z, decide (n6.length = 0) = z := ⟨_, rfl⟩
  obtain ⟨z7, hz7⟩ : ∃ z, decide (n7.length = 0) = z := ⟨_, rfl⟩
  have HG := Aside0.mk (show fitsB (⟨9, n1, n2, n3, n4, n5, n6, n7⟩ : S134) = (z5 && ((true || z6) && ((true || z7) && (n2.toList.isEmpty && ((n1 == 0) && ((n3 == 0) && (n4 == 0))))))) from by subst hz5 hz6 hz7; rfl)
  have HNE := Aside0.mk (show mIsName n2 = true → n2.toList.isEmpty = false from isname_ne n2)
  have z6a : decide (0 < (n6.length : Int)) = !z6 := by rw [← hz6]; by_cases hh : n6.length = 0 <;> simp [hh] <;> omega
  have z6b : decide (0 < n6.length) = !z6 := by rw [← hz6]; by_cases hh : n6.length = 0 <;> simp [hh] <;> omega
  have z6c : decide (n6 = []) = z6 := by rw [← hz6]; cases n6 <;> simp
  have z7a : decide (0 < (n7.length : Int)) = !z7 := by rw [← hz7]; by_cases hh : n7.length = 0 <;> simp [hh] <;> omega
  have z7b : decide (0 < n7.length) = !z7 := by rw [← hz7]; by_cases hh : n7.length = 0 <;> simp [hh] <;> omega
  have z7c : decide (n7 = []) = z7 := by rw [← hz7]; cases n7 <;> simp
  clear hz5 hz6 hz7
  have HT := Aside0.mk h
  have R5 := Aside0.mk r5
  have R6 := Aside0.mk r6
  have R7 := Aside0.mk r7
  have HB9 := Aside0.mk ((Below.refl w.heap.size w).alloc (Nat.le_refl _) (.cells #[.int .i64 9, .int .i64 n1, .string n2, .int .i64 n3, .int .i64 n4, .slice A5 n5.length c5, .slice A6 n6.length c6, .slice A7 n7.length c7] 134))
  have HW := Aside0.mk (fun (W : World) (hb : Below w.heap.size w W) => spec_l4Wants.calls 5 9 n1 n2 n3 n4 A5 c5 n5 A6 c6 n6 A7 c7 n7 false 1 false W (Kd.C_below r5 hb) hc5 (Kd.C_below r6 hb) hc6 (Kd.C_below r7 hb) hc7 (by rfl))
  obtain ⟨y5, hy5⟩ : ∃ y, n5.all (refB N at_ true) = y := ⟨_, rfl⟩
  have HQ5 := Aside0.mk (fun (W : World) (hb : Below w.heap.size w W) => (by have := spec_l4Refs.w g V N B A0 (some ad) A2 c0 c1 c2 at_ (by omega) hN A5 c5 n5 true W (h.below hb) (Kd.C_below r5 hb); rw [hy5] at this; exact this : Calls Try.prog 130 #[.pointer (some ⟨g, 0, none⟩), .int .i64 (at_ : Int), .slice A5 n5.length c5, .bool true] W fun e' w' => e' = .returned (.bool y5) ∧ Below W.heap.size W w'))
  obtain ⟨y6, hy6⟩ : ∃ y, n6.all (refB N at_ false) = y := ⟨_, rfl⟩
  have HQ6 := Aside0.mk (fun (W : World) (hb : Below w.heap.size w W) => (by have := spec_l4Refs.w g V N B A0 (some ad) A2 c0 c1 c2 at_ (by omega) hN A6 c6 n6 false W (h.below hb) (Kd.C_below r6 hb); rw [hy6] at this; exact this : Calls Try.prog 130 #[.pointer (some ⟨g, 0, none⟩), .int .i64 (at_ : Int), .slice A6 n6.length c6, .bool false] W fun e' w' => e' = .returned (.bool y6) ∧ Below W.heap.size W w'))
  obtain ⟨y7, hy7⟩ : ∃ y, n7.all (refB N at_ false) = y := ⟨_, rfl⟩
  have HQ7 := Aside0.mk (fun (W : World) (hb : Below w.heap.size w W) => (by have := spec_l4Refs.w g V N B A0 (some ad) A2 c0 c1 c2 at_ (by omega) hN A7 c7 n7 false W (h.below hb) (Kd.C_below r7 hb); rw [hy7] at this; exact this : Calls Try.prog 130 #[.pointer (some ⟨g, 0, none⟩), .int .i64 (at_ : Int), .slice A7 n7.length c7, .bool false] W fun e' w' => e' = .returned (.bool y7) ∧ Below W.heap.size W w'))
  have HY := Aside0.mk (show rightB N at_ (⟨9, n1, n2, n3, n4, n5, n6, n7⟩ : S134) = (fitsB (⟨9, n1, n2, n3, n4, n5, n6, n7⟩ : S134) && (y5 && (y6 && y7))) from by subst hy5 hy6 hy7; rfl)
  clear hy5 hy6 hy7
  clear h r5 r6 r7
  go_enter Try.func129, Try.ntmps129
  go_wp2_with fail
  refine (d_l1In _ _ _ _).mono ?_
  rintro e w' ⟨rfl, q, rfl⟩
  go_wp2_with fail
  refine (HW.out _ (pw_below_drewN HB9.out _)).mono ?_
  rintro e w1 ⟨rfl, hb⟩
  have BK1 := Aside0.mk (blk_below (g := w.heap.size) (o := .cells #[.int .i64 9, .int .i64 n1, .string n2, .int .i64 n3, .int .i64 n4, .slice A5 n5.length c5, .slice A6 n6.length c6, .slice A7 n7.length c7] 134 (0, 0)) (by first | exact blk_drewN (blk_new w _) _ | exact blk_new w _) hb)
  have HBa := Aside0.mk (below_step (pw_below_drewN HB9.out _) hb)
  clear hb
  have x1_0 : w1.cell? ⟨w.heap.size, 0, none⟩ = some (.int .i64 9) := (blk_cell BK1.out 0).trans rfl
  have x1_1 : w1.cell? ⟨w.heap.size, 1, none⟩ = some (.int .i64 n1) := (blk_cell BK1.out 1).trans rfl
  have x1_2 : w1.cell? ⟨w.heap.size, 2, none⟩ = some (.string n2) := (blk_cell BK1.out 2).trans rfl
  have x1_3 : w1.cell? ⟨w.heap.size, 3, none⟩ = some (.int .i64 n3) := (blk_cell BK1.out 3).trans rfl
  have x1_4 : w1.cell? ⟨w.heap.size, 4, none⟩ = some (.int .i64 n4) := (blk_cell BK1.out 4).trans rfl
  have x1_5 : w1.cell? ⟨w.heap.size, 5, none⟩ = some (.slice A5 n5.length c5) := (blk_cell BK1.out 5).trans rfl
  have x1_6 : w1.cell? ⟨w.heap.size, 6, none⟩ = some (.slice A6 n6.length c6) := (blk_cell BK1.out 6).trans rfl
  have x1_7 : w1.cell? ⟨w.heap.size, 7, none⟩ = some (.slice A7 n7.length c7) := (blk_cell BK1.out 7).trans rfl
  go_wp2_with fail
  refine (w_IsName' _ hs _).mono ?_
  rintro e w2 ⟨rfl, hb⟩
  have BK2 := Aside0.mk (blk_below BK1.out hb)
  have HBb := Aside0.mk (below_step HBa.out hb)
  clear hb x1_0 x1_1 x1_2 x1_3 x1_4 x1_5 x1_6 x1_7
  have x2_0 : w2.cell? ⟨w.heap.size, 0, none⟩ = some (.int .i64 9) := (blk_cell BK2.out 0).trans rfl
  have x2_1 : w2.cell? ⟨w.heap.size, 1, none⟩ = some (.int .i64 n1) := (blk_cell BK2.out 1).trans rfl
  have x2_2 : w2.cell? ⟨w.heap.size, 2, none⟩ = some (.string n2) := (blk_cell BK2.out 2).trans rfl
  have x2_3 : w2.cell? ⟨w.heap.size, 3, none⟩ = some (.int .i64 n3) := (blk_cell BK2.out 3).trans rfl
  have x2_4 : w2.cell? ⟨w.heap.size, 4, none⟩ = some (.int .i64 n4) := (blk_cell BK2.out 4).trans rfl
  have x2_5 : w2.cell? ⟨w.heap.size, 5, none⟩ = some (.slice A5 n5.length c5) := (blk_cell BK2.out 5).trans rfl
  have x2_6 : w2.cell? ⟨w.heap.size, 6, none⟩ = some (.slice A6 n6.length c6) := (blk_cell BK2.out 6).trans rfl
  have x2_7 : w2.cell? ⟨w.heap.size, 7, none⟩ = some (.slice A7 n7.length c7) := (blk_cell BK2.out 7).trans rfl
  go_wp2_with (first | (go_at_call 67; refine (d_l1In _ _ _ _).mono ?_; rintro e w' ⟨rfl, q2, rfl⟩) | (go_at_call 83; refine (d_l1Word _ _).mono ?_; rintro e w' ⟨rfl, q2, rfl⟩))
  all_goals first
  | ((with_reducible refine (HQ5.out _ (by repeat (first | exact HBb.out | apply pw_below_drewN))).mono ?_)
     rintro e w3 ⟨rfl, hb⟩
     have BK3 := Aside0.mk (blk_below (g := w.heap.size) (o := .cells #[.int .i64 9, .int .i64 n1, .string n2, .int .i64 n3, .int .i64 n4, .slice A5 n5.length c5, .slice A6 n6.length c6, .slice A7 n7.length c7] 134 (0, 0)) (by first | exact BK2.out | exact blk_drewN BK2.out _) hb)
     have HB3 := Aside0.mk (below_step (by repeat (first | exact HBb.out | apply pw_below_drewN)) hb)
     clear hb x2_0 x2_1 x2_2 x2_3 x2_4 x2_5 x2_6 x2_7
     have x3_0 : w3.cell? ⟨w.heap.size, 0, none⟩ = some (.int .i64 9) := (blk_cell BK3.out 0).trans rfl
     have x3_1 : w3.cell? ⟨w.heap.size, 1, none⟩ = some (.int .i64 n1) := (blk_cell BK3.out 1).trans rfl
     have x3_2 : w3.cell? ⟨w.heap.size, 2, none⟩ = some (.string n2) := (blk_cell BK3.out 2).trans rfl
     have x3_3 : w3.cell? ⟨w.heap.size, 3, none⟩ = some (.int .i64 n3) := (blk_cell BK3.out 3).trans rfl
     have x3_4 : w3.cell? ⟨w.heap.size, 4, none⟩ = some (.int .i64 n4) := (blk_cell BK3.out 4).trans rfl
     have x3_5 : w3.cell? ⟨w.heap.size, 5, none⟩ = some (.slice A5 n5.length c5) := (blk_cell BK3.out 5).trans rfl
     have x3_6 : w3.cell? ⟨w.heap.size, 6, none⟩ = some (.slice A6 n6.length c6) := (blk_cell BK3.out 6).trans rfl
     have x3_7 : w3.cell? ⟨w.heap.size, 7, none⟩ = some (.slice A7 n7.length c7) := (blk_cell BK3.out 7).trans rfl
     go_wp2_with fail
     all_goals first
     | ((with_reducible refine (HQ6.out _ (by repeat (first | exact HB3.out | apply pw_below_drewN))).mono ?_)
        rintro e w4 ⟨rfl, hb⟩
        have BK4 := Aside0.mk (blk_below (g := w.heap.size) (o := .cells #[.int .i64 9, .int .i64 n1, .string n2, .int .i64 n3, .int .i64 n4, .slice A5 n5.length c5, .slice A6 n6.length c6, .slice A7 n7.length c7] 134 (0, 0)) (by first | exact BK3.out | exact blk_drewN BK3.out _) hb)
        have HB4 := Aside0.mk (below_step (by repeat (first | exact HB3.out | apply pw_below_drewN)) hb)
        clear hb x3_0 x3_1 x3_2 x3_3 x3_4 x3_5 x3_6 x3_7
        have x4_0 : w4.cell? ⟨w.heap.size, 0, none⟩ = some (.int .i64 9) := (blk_cell BK4.out 0).trans rfl
        have x4_1 : w4.cell? ⟨w.heap.size, 1, none⟩ = some (.int .i64 n1) := (blk_cell BK4.out 1).trans rfl
        have x4_2 : w4.cell? ⟨w.heap.size, 2, none⟩ = some (.string n2) := (blk_cell BK4.out 2).trans rfl
        have x4_3 : w4.cell? ⟨w.heap.size, 3, none⟩ = some (.int .i64 n3) := (blk_cell BK4.out 3).trans rfl
        have x4_4 : w4.cell? ⟨w.heap.size, 4, none⟩ = some (.int .i64 n4) := (blk_cell BK4.out 4).trans rfl
        have x4_5 : w4.cell? ⟨w.heap.size, 5, none⟩ = some (.slice A5 n5.length c5) := (blk_cell BK4.out 5).trans rfl
        have x4_6 : w4.cell? ⟨w.heap.size, 6, none⟩ = some (.slice A6 n6.length c6) := (blk_cell BK4.out 6).trans rfl
        have x4_7 : w4.cell? ⟨w.heap.size, 7, none⟩ = some (.slice A7 n7.length c7) := (blk_cell BK4.out 7).trans rfl
        go_wp2_with fail
        all_goals first
        | ((with_reducible refine (HQ7.out _ (by repeat (first | exact HB4.out | apply pw_below_drewN))).mono ?_)
           rintro e w5 ⟨rfl, hb⟩
           have BK5 := Aside0.mk (blk_below (g := w.heap.size) (o := .cells #[.int .i64 9, .int .i64 n1, .string n2, .int .i64 n3, .int .i64 n4, .slice A5 n5.length c5, .slice A6 n6.length c6, .slice A7 n7.length c7] 134 (0, 0)) (by first | exact BK4.out | exact blk_drewN BK4.out _) hb)
           have HB5 := Aside0.mk (below_step (by repeat (first | exact HB4.out | apply pw_below_drewN)) hb)
           clear hb x4_0 x4_1 x4_2 x4_3 x4_4 x4_5 x4_6 x4_7
           have x5_0 : w5.cell? ⟨w.heap.size, 0, none⟩ = some (.int .i64 9) := (blk_cell BK5.out 0).trans rfl
           have x5_1 : w5.cell? ⟨w.heap.size, 1, none⟩ = some (.int .i64 n1) := (blk_cell BK5.out 1).trans rfl
           have x5_2 : w5.cell? ⟨w.heap.size, 2, none⟩ = some (.string n2) := (blk_cell BK5.out 2).trans rfl
           have x5_3 : w5.cell? ⟨w.heap.size, 3, none⟩ = some (.int .i64 n3) := (blk_cell BK5.out 3).trans rfl
           have x5_4 : w5.cell? ⟨w.heap.size, 4, none⟩ = some (.int .i64 n4) := (blk_cell BK5.out 4).trans rfl
           have x5_5 : w5.cell? ⟨w.heap.size, 5, none⟩ = some (.slice A5 n5.length c5) := (blk_cell BK5.out 5).trans rfl
           have x5_6 : w5.cell? ⟨w.heap.size, 6, none⟩ = some (.slice A6 n6.length c6) := (blk_cell BK5.out 6).trans rfl
           have x5_7 : w5.cell? ⟨w.heap.size, 7, none⟩ = some (.slice A7 n7.length c7) := (blk_cell BK5.out 7).trans rfl
           go_wp2_with fail
           all_goals (go_ret; refine ⟨?_, by repeat (first | exact HB5.out | apply pw_below_drewN)⟩; have hne_ := HNE.out; rw [HY.out, HG.out]; clear HG HNE HY; (try simp_all [restB]); (try (intros; first | (simp_all; done) | omega | (simp_all [inB]; done) | (simp_all [inB]; omega))); done))
        | (go_ret; refine ⟨?_, by repeat (first | exact HB4.out | apply pw_below_drewN)⟩; have hne_ := HNE.out; rw [HY.out, HG.out]; clear HG HNE HY; (try simp_all [restB]); (try (intros; first | (simp_all; done) | omega | (simp_all [inB]; done) | (simp_all [inB]; omega))); done))
     | (go_ret; refine ⟨?_, by repeat (first | exact HB3.out | apply pw_below_drewN)⟩; have hne_ := HNE.out; rw [HY.out, HG.out]; clear HG HNE HY; (try simp_all [restB]); (try (intros; first | (simp_all; done) | omega | (simp_all [inB]; done) | (simp_all [inB]; omega))); done))
  | (go_ret; refine ⟨?_, by repeat (first | exact HBb.out | apply pw_below_drewN)⟩; have hne_ := HNE.out; rw [HY.out, HG.out]; clear HG HNE HY; (try simp_all [restB]); (try (intros; first | (simp_all; done) | omega | (simp_all [inB]; done) | (simp_all [inB]; omega))); done)
set_option maxHeartbeats 8000000 in
set_option maxRecDepth 100000 in
theorem spec_l4Right.k10 (g : Nat) (V : List S125) (N : List S134) (B : List Int) (A0 A1 A2 : Option Addr) (c0 c1 c2 : Nat) (at_ : Nat) (hat : at_ < N.length) (hN : N.length ≤ 1048576) (ad : Addr) (hA1 : A1 = some ad) (n1 : Int) (n2 : ByteArray) (n3 n4 : Int) (n5 n6 n7 : List Int) (A5 A6 A7 : Option Addr) (c5 c6 c7 : Nat) (w : World) (hs : n2.size ≤ 1048576) (hs5 : n5.length ≤ 1048576) (h : TreeAt w g V N B A0 c0 A1 c1 A2 c2) (hc5 : n5.length ≤ c5) (hc6 : n6.length ≤ c6) (hc7 : n7.length ≤ c7) (q0 : w.cell? (ad.add (at_ * 8)) = some (.int .i64 10)) (q1 : w.cell? ⟨(ad.add (at_ * 8)).block, (ad.add (at_ * 8)).off + 1, none⟩ = some (.int .i64 n1)) (q2 : w.cell? ⟨(ad.add (at_ * 8)).block, (ad.add (at_ * 8)).off + 2, none⟩ = some (.string n2)) (q3 : w.cell? ⟨(ad.add (at_ * 8)).block, (ad.add (at_ * 8)).off + 3, none⟩ = some (.int .i64 n3)) (q4 : w.cell? ⟨(ad.add (at_ * 8)).block, (ad.add (at_ * 8)).off + 4, none⟩ = some (.int .i64 n4)) (q5 : w.cell? ⟨(ad.add (at_ * 8)).block, (ad.add (at_ * 8)).off + 5, none⟩ = some (.slice A5 n5.length c5)) (q6 : w.cell? ⟨(ad.add (at_ * 8)).block, (ad.add (at_ * 8)).off + 6, none⟩ = some (.slice A6 n6.length c6)) (q7 : w.cell? ⟨(ad.add (at_ * 8)).block, (ad.add (at_ * 8)).off + 7, none⟩ = some (.slice A7 n7.length c7)) (r5 : Kd.C (Kd.int .i64) w A5 n5.length n5) (r6 : Kd.C (Kd.int .i64) w A6 n6.length n6) (r7 : Kd.C (Kd.int .i64) w A7 n7.length n7) :
    Calls Try.prog 129 #[.pointer (some ⟨g, 0, none⟩), .int .i64 (at_ : Int)] w fun e w' => e = .returned (.bool (rightB N at_ (⟨10, n1, n2, n3, n4, n5, n6, n7⟩ : S134))) ∧ Below w.heap.size w w' := by
  subst hA1
  have hu := Try.underlying134
  have hT0 : w.cell? ⟨g, 1, none⟩ = some (.slice (some ad) N.length c1) := (blk_cell h.blk 1).trans rfl
  have hlt1 : (at_ : Int) < (N.length : Int) := by omega
  have hlt1q := eq_true hlt1
  have h0q : (0 ≤ (at_ : Int)) = True := eq_true (by omega)
  obtain ⟨z5, hz5⟩ : ∃ z, decide (n5.length = 0) = z := ⟨_, rfl⟩
  have z5a : ((n5.length : Int) != 0) = !z5 := by rw [← hz5]; by_cases hh : n5.length = 0 <;> simp [hh] <;> omega
  have z5b : ((n5.length : Int) == 0) = z5 := by rw [← hz5]; by_cases hh : n5.length = 0 <;> simp [hh] <;> omega
  have z5c : decide (n5 = []) = z5 := by rw [← hz5]; cases n5 <;> simp
  obtain ⟨z6, hz6⟩ : ∃ z, decide (n6.length = 0) = z := ⟨_, rfl⟩
  obtain ⟨z7, hz7⟩ : ∃ z, decide (n7.length = 0) = z := ⟨_, rfl⟩
  have HG := Aside0.mk (show fitsB (⟨10, n1, n2, n3, n4, n5, n6, n7⟩ : S134) = (z5 && ((true || z6) && ((false || z7) && (mIsName n2 && ((n1 == 0) && (inB n3 0 65535 && inB n4 0 65535)))))) from by subst hz5 hz6 hz7; rfl)
  have HNE := Aside0.mk (show mIsName n2 = true → n2.toList.isEmpty = false from isname_ne n2)
  have z6a : decide (0 < (n6.length : Int)) = !z6 := by rw [← hz6]; by_cases hh : n6.length = 0 <;> simp [hh] <;> omega
  have z6b : decide (0 < n6.length) = !z6 := by rw [← hz6]; by_cases hh : n6.length = 0 <;> simp [hh] <;> omega
  have z6c : decide (n6 = []) = z6 := by rw [← hz6]; cases n6 <;> simp
  have z7a : decide (0 < (n7.length : Int)) = !z7 := by rw [← hz7]; by_cases hh : n7.length = 0 <;> simp [hh] <;> omega
  have z7b : decide (0 < n7.length) = !z7 := by rw [← hz7]; by_cases hh : n7.length = 0 <;> simp [hh] <;> omega
  have z7c : decide (n7 = []) = z7 := by rw [← hz7]; cases n7 <;> simp
  clear hz5 hz6 hz7
  have HT := Aside0.mk h
  have R5 := Aside0.mk r5
  have R6 := Aside0.mk r6
  have R7 := Aside0.mk r7
  have HB9 := Aside0.mk ((Below.refl w.heap.size w).alloc (Nat.le_refl _) (.cells #[.int .i64 10, .int .i64 n1, .string n2, .int .i64 n3, .int .i64 n4, .slice A5 n5.length c5, .slice A6 n6.length c6, .slice A7 n7.length c7] 134))
  have HW := Aside0.mk (fun (W : World) (hb : Below w.heap.size w W) => spec_l4Wants.calls 5 10 n1 n2 n3 n4 A5 c5 n5 A6 c6 n6 A7 c7 n7 true 0 true W (Kd.C_below r5 hb) hc5 (Kd.C_below r6 hb) hc6 (Kd.C_below r7 hb) hc7 (by rfl))
  obtain ⟨y5, hy5⟩ : ∃ y, n5.all (refB N at_ true) = y := ⟨_, rfl⟩
  have HQ5 := Aside0.mk (fun (W : World) (hb : Below w.heap.size w W) => (by have := spec_l4Refs.w g V N B A0 (some ad) A2 c0 c1 c2 at_ (by omega) hN A5 c5 n5 true W (h.below hb) (Kd.C_below r5 hb); rw [hy5] at this; exact this : Calls Try.prog 130 #[.pointer (some ⟨g, 0, none⟩), .int .i64 (at_ : Int), .slice A5 n5.length c5, .bool true] W fun e' w' => e' = .returned (.bool y5) ∧ Below W.heap.size W w'))
  obtain ⟨y6, hy6⟩ : ∃ y, n6.all (refB N at_ false) = y := ⟨_, rfl⟩
  have HQ6 := Aside0.mk (fun (W : World) (hb : Below w.heap.size w W) => (by have := spec_l4Refs.w g V N B A0 (some ad) A2 c0 c1 c2 at_ (by omega) hN A6 c6 n6 false W (h.below hb) (Kd.C_below r6 hb); rw [hy6] at this; exact this : Calls Try.prog 130 #[.pointer (some ⟨g, 0, none⟩), .int .i64 (at_ : Int), .slice A6 n6.length c6, .bool false] W fun e' w' => e' = .returned (.bool y6) ∧ Below W.heap.size W w'))
  obtain ⟨y7, hy7⟩ : ∃ y, n7.all (refB N at_ false) = y := ⟨_, rfl⟩
  have HQ7 := Aside0.mk (fun (W : World) (hb : Below w.heap.size w W) => (by have := spec_l4Refs.w g V N B A0 (some ad) A2 c0 c1 c2 at_ (by omega) hN A7 c7 n7 false W (h.below hb) (Kd.C_below r7 hb); rw [hy7] at this; exact this : Calls Try.prog 130 #[.pointer (some ⟨g, 0, none⟩), .int .i64 (at_ : Int), .slice A7 n7.length c7, .bool false] W fun e' w' => e' = .returned (.bool y7) ∧ Below W.heap.size W w'))
  have HY := Aside0.mk (show rightB N at_ (⟨10, n1, n2, n3, n4, n5, n6, n7⟩ : S134) = (fitsB (⟨10, n1, n2, n3, n4, n5, n6, n7⟩ : S134) && (y5 && (y6 && y7))) from by subst hy5 hy6 hy7; rfl)
  clear hy5 hy6 hy7
  clear h r5 r6 r7
  go_enter Try.func129, Try.ntmps129
  go_wp2_with fail
  refine (d_l1In _ _ _ _).mono ?_
  rintro e w' ⟨rfl, q, rfl⟩
  go_wp2_with fail
  refine (HW.out _ (pw_below_drewN HB9.out _)).mono ?_
  rintro e w1 ⟨rfl, hb⟩
  have BK1 := Aside0.mk (blk_below (g := w.heap.size) (o := .cells #[.int .i64 10, .int .i64 n1, .string n2, .int .i64 n3, .int .i64 n4, .slice A5 n5.length c5, .slice A6 n6.length c6, .slice A7 n7.length c7] 134 (0, 0)) (by first | exact blk_drewN (blk_new w _) _ | exact blk_new w _) hb)
  have HBa := Aside0.mk (below_step (pw_below_drewN HB9.out _) hb)
  clear hb
  have x1_0 : w1.cell? ⟨w.heap.size, 0, none⟩ = some (.int .i64 10) := (blk_cell BK1.out 0).trans rfl
  have x1_1 : w1.cell? ⟨w.heap.size, 1, none⟩ = some (.int .i64 n1) := (blk_cell BK1.out 1).trans rfl
  have x1_2 : w1.cell? ⟨w.heap.size, 2, none⟩ = some (.string n2) := (blk_cell BK1.out 2).trans rfl
  have x1_3 : w1.cell? ⟨w.heap.size, 3, none⟩ = some (.int .i64 n3) := (blk_cell BK1.out 3).trans rfl
  have x1_4 : w1.cell? ⟨w.heap.size, 4, none⟩ = some (.int .i64 n4) := (blk_cell BK1.out 4).trans rfl
  have x1_5 : w1.cell? ⟨w.heap.size, 5, none⟩ = some (.slice A5 n5.length c5) := (blk_cell BK1.out 5).trans rfl
  have x1_6 : w1.cell? ⟨w.heap.size, 6, none⟩ = some (.slice A6 n6.length c6) := (blk_cell BK1.out 6).trans rfl
  have x1_7 : w1.cell? ⟨w.heap.size, 7, none⟩ = some (.slice A7 n7.length c7) := (blk_cell BK1.out 7).trans rfl
  go_wp2_with fail
  refine (w_IsName' _ hs _).mono ?_
  rintro e w2 ⟨rfl, hb⟩
  have BK2 := Aside0.mk (blk_below BK1.out hb)
  have HBb := Aside0.mk (below_step HBa.out hb)
  clear hb x1_0 x1_1 x1_2 x1_3 x1_4 x1_5 x1_6 x1_7
  have x2_0 : w2.cell? ⟨w.heap.size, 0, none⟩ = some (.int .i64 10) := (blk_cell BK2.out 0).trans rfl
  have x2_1 : w2.cell? ⟨w.heap.size, 1, none⟩ = some (.int .i64 n1) := (blk_cell BK2.out 1).trans rfl
  have x2_2 : w2.cell? ⟨w.heap.size, 2, none⟩ = some (.string n2) := (blk_cell BK2.out 2).trans rfl
  have x2_3 : w2.cell? ⟨w.heap.size, 3, none⟩ = some (.int .i64 n3) := (blk_cell BK2.out 3).trans rfl
  have x2_4 : w2.cell? ⟨w.heap.size, 4, none⟩ = some (.int .i64 n4) := (blk_cell BK2.out 4).trans rfl
  have x2_5 : w2.cell? ⟨w.heap.size, 5, none⟩ = some (.slice A5 n5.length c5) := (blk_cell BK2.out 5).trans rfl
  have x2_6 : w2.cell? ⟨w.heap.size, 6, none⟩ = some (.slice A6 n6.length c6) := (blk_cell BK2.out 6).trans rfl
  have x2_7 : w2.cell? ⟨w.heap.size, 7, none⟩ = some (.slice A7 n7.length c7) := (blk_cell BK2.out 7).trans rfl
  go_wp2_with (first | (go_at_call 67; refine (d_l1In _ _ _ _).mono ?_; rintro e w' ⟨rfl, q2, rfl⟩) | (go_at_call 83; refine (d_l1Word _ _).mono ?_; rintro e w' ⟨rfl, q2, rfl⟩))
  all_goals first
  | ((with_reducible refine (HQ5.out _ (by repeat (first | exact HBb.out | apply pw_below_drewN))).mono ?_)
     rintro e w3 ⟨rfl, hb⟩
     have BK3 := Aside0.mk (blk_below (g := w.heap.size) (o := .cells #[.int .i64 10, .int .i64 n1, .string n2, .int .i64 n3, .int .i64 n4, .slice A5 n5.length c5, .slice A6 n6.length c6, .slice A7 n7.length c7] 134 (0, 0)) (by first | exact BK2.out | exact blk_drewN BK2.out _) hb)
     have HB3 := Aside0.mk (below_step (by repeat (first | exact HBb.out | apply pw_below_drewN)) hb)
     clear hb x2_0 x2_1 x2_2 x2_3 x2_4 x2_5 x2_6 x2_7
     have x3_0 : w3.cell? ⟨w.heap.size, 0, none⟩ = some (.int .i64 10) := (blk_cell BK3.out 0).trans rfl
     have x3_1 : w3.cell? ⟨w.heap.size, 1, none⟩ = some (.int .i64 n1) := (blk_cell BK3.out 1).trans rfl
     have x3_2 : w3.cell? ⟨w.heap.size, 2, none⟩ = some (.string n2) := (blk_cell BK3.out 2).trans rfl
     have x3_3 : w3.cell? ⟨w.heap.size, 3, none⟩ = some (.int .i64 n3) := (blk_cell BK3.out 3).trans rfl
     have x3_4 : w3.cell? ⟨w.heap.size, 4, none⟩ = some (.int .i64 n4) := (blk_cell BK3.out 4).trans rfl
     have x3_5 : w3.cell? ⟨w.heap.size, 5, none⟩ = some (.slice A5 n5.length c5) := (blk_cell BK3.out 5).trans rfl
     have x3_6 : w3.cell? ⟨w.heap.size, 6, none⟩ = some (.slice A6 n6.length c6) := (blk_cell BK3.out 6).trans rfl
     have x3_7 : w3.cell? ⟨w.heap.size, 7, none⟩ = some (.slice A7 n7.length c7) := (blk_cell BK3.out 7).trans rfl
     go_wp2_with fail
     all_goals first
     | ((with_reducible refine (HQ6.out _ (by repeat (first | exact HB3.out | apply pw_below_drewN))).mono ?_)
        rintro e w4 ⟨rfl, hb⟩
        have BK4 := Aside0.mk (blk_below (g := w.heap.size) (o := .cells #[.int .i64 10, .int .i64 n1, .string n2, .int .i64 n3, .int .i64 n4, .slice A5 n5.length c5, .slice A6 n6.length c6, .slice A7 n7.length c7] 134 (0, 0)) (by first | exact BK3.out | exact blk_drewN BK3.out _) hb)
        have HB4 := Aside0.mk (below_step (by repeat (first | exact HB3.out | apply pw_below_drewN)) hb)
        clear hb x3_0 x3_1 x3_2 x3_3 x3_4 x3_5 x3_6 x3_7
        have x4_0 : w4.cell? ⟨w.heap.size, 0, none⟩ = some (.int .i64 10) := (blk_cell BK4.out 0).trans rfl
        have x4_1 : w4.cell? ⟨w.heap.size, 1, none⟩ = some (.int .i64 n1) := (blk_cell BK4.out 1).trans rfl
        have x4_2 : w4.cell? ⟨w.heap.size, 2, none⟩ = some (.string n2) := (blk_cell BK4.out 2).trans rfl
        have x4_3 : w4.cell? ⟨w.heap.size, 3, none⟩ = some (.int .i64 n3) := (blk_cell BK4.out 3).trans rfl
        have x4_4 : w4.cell? ⟨w.heap.size, 4, none⟩ = some (.int .i64 n4) := (blk_cell BK4.out 4).trans rfl
        have x4_5 : w4.cell? ⟨w.heap.size, 5, none⟩ = some (.slice A5 n5.length c5) := (blk_cell BK4.out 5).trans rfl
        have x4_6 : w4.cell? ⟨w.heap.size, 6, none⟩ = some (.slice A6 n6.length c6) := (blk_cell BK4.out 6).trans rfl
        have x4_7 : w4.cell? ⟨w.heap.size, 7, none⟩ = some (.slice A7 n7.length c7) := (blk_cell BK4.out 7).trans rfl
        go_wp2_with fail
        all_goals first
        | ((with_reducible refine (HQ7.out _ (by repeat (first | exact HB4.out | apply pw_below_drewN))).mono ?_)
           rintro e w5 ⟨rfl, hb⟩
           have BK5 := Aside0.mk (blk_below (g := w.heap.size) (o := .cells #[.int .i64 10, .int .i64 n1, .string n2, .int .i64 n3, .int .i64 n4, .slice A5 n5.length c5, .slice A6 n6.length c6, .slice A7 n7.length c7] 134 (0, 0)) (by first | exact BK4.out | exact blk_drewN BK4.out _) hb)
           have HB5 := Aside0.mk (below_step (by repeat (first | exact HB4.out | apply pw_below_drewN)) hb)
           clear hb x4_0 x4_1 x4_2 x4_3 x4_4 x4_5 x4_6 x4_7
           have x5_0 : w5.cell? ⟨w.heap.size, 0, none⟩ = some (.int .i64 10) := (blk_cell BK5.out 0).trans rfl
           have x5_1 : w5.cell? ⟨w.heap.size, 1, none⟩ = some (.int .i64 n1) := (blk_cell BK5.out 1).trans rfl
           have x5_2 : w5.cell? ⟨w.heap.size, 2, none⟩ = some (.string n2) := (blk_cell BK5.out 2).trans rfl
           have x5_3 : w5.cell? ⟨w.heap.size, 3, none⟩ = some (.int .i64 n3) := (blk_cell BK5.out 3).trans rfl
           have x5_4 : w5.cell? ⟨w.heap.size, 4, none⟩ = some (.int .i64 n4) := (blk_cell BK5.out 4).trans rfl
           have x5_5 : w5.cell? ⟨w.heap.size, 5, none⟩ = some (.slice A5 n5.length c5) := (blk_cell BK5.out 5).trans rfl
           have x5_6 : w5.cell? ⟨w.heap.size, 6, none⟩ = some (.slice A6 n6.length c6) := (blk_cell BK5.out 6).trans rfl
           have x5_7 : w5.cell? ⟨w.heap.size, 7, none⟩ = some (.slice A7 n7.length c7) := (blk_cell BK5.out 7).trans rfl
           go_wp2_with fail
           all_goals (go_ret; refine ⟨?_, by repeat (first | exact HB5.out | apply pw_below_drewN)⟩; have hne_ := HNE.out; rw [HY.out, HG.out]; clear HG HNE HY; (try simp_all [restB]); (try (intros; first | (simp_all; done) | omega | (simp_all [inB]; done) | (simp_all [inB]; omega))); done))
        | (go_ret; refine ⟨?_, by repeat (first | exact HB4.out | apply pw_below_drewN)⟩; have hne_ := HNE.out; rw [HY.out, HG.out]; clear HG HNE HY; (try simp_all [restB]); (try (intros; first | (simp_all; done) | omega | (simp_all [inB]; done) | (simp_all [inB]; omega))); done))
     | (go_ret; refine ⟨?_, by repeat (first | exact HB3.out | apply pw_below_drewN)⟩; have hne_ := HNE.out; rw [HY.out, HG.out]; clear HG HNE HY; (try simp_all [restB]); (try (intros; first | (simp_all; done) | omega | (simp_all [inB]; done) | (simp_all [inB]; omega))); done))
  | (go_ret; refine ⟨?_, by repeat (first | exact HBb.out | apply pw_below_drewN)⟩; have hne_ := HNE.out; rw [HY.out, HG.out]; clear HG HNE HY; (try simp_all [restB]); (try (intros; first | (simp_all; done) | omega | (simp_all [inB]; done) | (simp_all [inB]; omega))); done)
set_option maxHeartbeats 8000000 in
set_option maxRecDepth 100000 in
theorem spec_l4Right.k11 (g : Nat) (V : List S125) (N : List S134) (B : List Int) (A0 A1 A2 : Option Addr) (c0 c1 c2 : Nat) (at_ : Nat) (hat : at_ < N.length) (hN : N.length ≤ 1048576) (ad : Addr) (hA1 : A1 = some ad) (n1 : Int) (n2 : ByteArray) (n3 n4 : Int) (n5 n6 n7 : List Int) (A5 A6 A7 : Option Addr) (c5 c6 c7 : Nat) (w : World) (hs : n2.size ≤ 1048576) (hs5 : n5.length ≤ 1048576) (h : TreeAt w g V N B A0 c0 A1 c1 A2 c2) (hc5 : n5.length ≤ c5) (hc6 : n6.length ≤ c6) (hc7 : n7.length ≤ c7) (q0 : w.cell? (ad.add (at_ * 8)) = some (.int .i64 11)) (q1 : w.cell? ⟨(ad.add (at_ * 8)).block, (ad.add (at_ * 8)).off + 1, none⟩ = some (.int .i64 n1)) (q2 : w.cell? ⟨(ad.add (at_ * 8)).block, (ad.add (at_ * 8)).off + 2, none⟩ = some (.string n2)) (q3 : w.cell? ⟨(ad.add (at_ * 8)).block, (ad.add (at_ * 8)).off + 3, none⟩ = some (.int .i64 n3)) (q4 : w.cell? ⟨(ad.add (at_ * 8)).block, (ad.add (at_ * 8)).off + 4, none⟩ = some (.int .i64 n4)) (q5 : w.cell? ⟨(ad.add (at_ * 8)).block, (ad.add (at_ * 8)).off + 5, none⟩ = some (.slice A5 n5.length c5)) (q6 : w.cell? ⟨(ad.add (at_ * 8)).block, (ad.add (at_ * 8)).off + 6, none⟩ = some (.slice A6 n6.length c6)) (q7 : w.cell? ⟨(ad.add (at_ * 8)).block, (ad.add (at_ * 8)).off + 7, none⟩ = some (.slice A7 n7.length c7)) (r5 : Kd.C (Kd.int .i64) w A5 n5.length n5) (r6 : Kd.C (Kd.int .i64) w A6 n6.length n6) (r7 : Kd.C (Kd.int .i64) w A7 n7.length n7) :
    Calls Try.prog 129 #[.pointer (some ⟨g, 0, none⟩), .int .i64 (at_ : Int)] w fun e w' => e = .returned (.bool (rightB N at_ (⟨11, n1, n2, n3, n4, n5, n6, n7⟩ : S134))) ∧ Below w.heap.size w w' := by
  subst hA1
  have hu := Try.underlying134
  have hT0 : w.cell? ⟨g, 1, none⟩ = some (.slice (some ad) N.length c1) := (blk_cell h.blk 1).trans rfl
  have hlt1 : (at_ : Int) < (N.length : Int) := by omega
  have hlt1q := eq_true hlt1
  have h0q : (0 ≤ (at_ : Int)) = True := eq_true (by omega)
  obtain ⟨z5, hz5⟩ : ∃ z, (decide (1 ≤ n5.length) && decide (n5.length ≤ 3)) = z := ⟨_, rfl⟩
  have z5a : inB (n5.length : Int) 1 3 = z5 := by rw [← hz5]; unfold inB; rw [Bool.eq_iff_iff]; simp; omega
  obtain ⟨z6, hz6⟩ : ∃ z, decide (n6.length = 0) = z := ⟨_, rfl⟩
  obtain ⟨z7, hz7⟩ : ∃ z, decide (n7.length = 0) = z := ⟨_, rfl⟩
  have HG := Aside0.mk (show fitsB (⟨11, n1, n2, n3, n4, n5, n6, n7⟩ : S134) = (z5 && ((false || z6) && ((false || z7) && (mIsName n2 && (inB n1 1 4 && ((n3 == 0) && (n4 == 0))))))) from by subst hz5 hz6 hz7; simp only [fitsB, restB, inB]; simp)
  have HNE := Aside0.mk (show mIsName n2 = true → n2.toList.isEmpty = false from isname_ne n2)
  have z6a : decide (0 < (n6.length : Int)) = !z6 := by rw [← hz6]; by_cases hh : n6.length = 0 <;> simp [hh] <;> omega
  have z6b : decide (0 < n6.length) = !z6 := by rw [← hz6]; by_cases hh : n6.length = 0 <;> simp [hh] <;> omega
  have z6c : decide (n6 = []) = z6 := by rw [← hz6]; cases n6 <;> simp
  have z7a : decide (0 < (n7.length : Int)) = !z7 := by rw [← hz7]; by_cases hh : n7.length = 0 <;> simp [hh] <;> omega
  have z7b : decide (0 < n7.length) = !z7 := by rw [← hz7]; by_cases hh : n7.length = 0 <;> simp [hh] <;> omega
  have z7c : decide (n7 = []) = z7 := by rw [← hz7]; cases n7 <;> simp
  clear hz5 hz6 hz7
  have HT := Aside0.mk h
  have R5 := Aside0.mk r5
  have R6 := Aside0.mk r6
  have R7 := Aside0.mk r7
  have HB9 := Aside0.mk ((Below.refl w.heap.size w).alloc (Nat.le_refl _) (.cells #[.int .i64 11, .int .i64 n1, .string n2, .int .i64 n3, .int .i64 n4, .slice A5 n5.length c5, .slice A6 n6.length c6, .slice A7 n7.length c7] 134))
  have HW := Aside0.mk (fun (W : World) (hb : Below w.heap.size w W) => spec_l4Wants.calls 5 11 n1 n2 n3 n4 A5 c5 n5 A6 c6 n6 A7 c7 n7 true (-1) false W (Kd.C_below r5 hb) hc5 (Kd.C_below r6 hb) hc6 (Kd.C_below r7 hb) hc7 (by rfl))
  obtain ⟨y5, hy5⟩ : ∃ y, n5.all (refB N at_ true) = y := ⟨_, rfl⟩
  have HQ5 := Aside0.mk (fun (W : World) (hb : Below w.heap.size w W) => (by have := spec_l4Refs.w g V N B A0 (some ad) A2 c0 c1 c2 at_ (by omega) hN A5 c5 n5 true W (h.below hb) (Kd.C_below r5 hb); rw [hy5] at this; exact this : Calls Try.prog 130 #[.pointer (some ⟨g, 0, none⟩), .int .i64 (at_ : Int), .slice A5 n5.length c5, .bool true] W fun e' w' => e' = .returned (.bool y5) ∧ Below W.heap.size W w'))
  obtain ⟨y6, hy6⟩ : ∃ y, n6.all (refB N at_ false) = y := ⟨_, rfl⟩
  have HQ6 := Aside0.mk (fun (W : World) (hb : Below w.heap.size w W) => (by have := spec_l4Refs.w g V N B A0 (some ad) A2 c0 c1 c2 at_ (by omega) hN A6 c6 n6 false W (h.below hb) (Kd.C_below r6 hb); rw [hy6] at this; exact this : Calls Try.prog 130 #[.pointer (some ⟨g, 0, none⟩), .int .i64 (at_ : Int), .slice A6 n6.length c6, .bool false] W fun e' w' => e' = .returned (.bool y6) ∧ Below W.heap.size W w'))
  obtain ⟨y7, hy7⟩ : ∃ y, n7.all (refB N at_ false) = y := ⟨_, rfl⟩
  have HQ7 := Aside0.mk (fun (W : World) (hb : Below w.heap.size w W) => (by have := spec_l4Refs.w g V N B A0 (some ad) A2 c0 c1 c2 at_ (by omega) hN A7 c7 n7 false W (h.below hb) (Kd.C_below r7 hb); rw [hy7] at this; exact this : Calls Try.prog 130 #[.pointer (some ⟨g, 0, none⟩), .int .i64 (at_ : Int), .slice A7 n7.length c7, .bool false] W fun e' w' => e' = .returned (.bool y7) ∧ Below W.heap.size W w'))
  have HY := Aside0.mk (show rightB N at_ (⟨11, n1, n2, n3, n4, n5, n6, n7⟩ : S134) = (fitsB (⟨11, n1, n2, n3, n4, n5, n6, n7⟩ : S134) && (y5 && (y6 && y7))) from by subst hy5 hy6 hy7; rfl)
  clear hy5 hy6 hy7
  clear h r5 r6 r7
  go_enter Try.func129, Try.ntmps129
  go_wp2_with fail
  refine (d_l1In _ _ _ _).mono ?_
  rintro e w' ⟨rfl, q, rfl⟩
  go_wp2_with fail
  refine (HW.out _ (pw_below_drewN HB9.out _)).mono ?_
  rintro e w1 ⟨rfl, hb⟩
  have BK1 := Aside0.mk (blk_below (g := w.heap.size) (o := .cells #[.int .i64 11, .int .i64 n1, .string n2, .int .i64 n3, .int .i64 n4, .slice A5 n5.length c5, .slice A6 n6.length c6, .slice A7 n7.length c7] 134 (0, 0)) (by first | exact blk_drewN (blk_new w _) _ | exact blk_new w _) hb)
  have HBa := Aside0.mk (below_step (pw_below_drewN HB9.out _) hb)
  clear hb
  have x1_0 : w1.cell? ⟨w.heap.size, 0, none⟩ = some (.int .i64 11) := (blk_cell BK1.out 0).trans rfl
  have x1_1 : w1.cell? ⟨w.heap.size, 1, none⟩ = some (.int .i64 n1) := (blk_cell BK1.out 1).trans rfl
  have x1_2 : w1.cell? ⟨w.heap.size, 2, none⟩ = some (.string n2) := (blk_cell BK1.out 2).trans rfl
  have x1_3 : w1.cell? ⟨w.heap.size, 3, none⟩ = some (.int .i64 n3) := (blk_cell BK1.out 3).trans rfl
  have x1_4 : w1.cell? ⟨w.heap.size, 4, none⟩ = some (.int .i64 n4) := (blk_cell BK1.out 4).trans rfl
  have x1_5 : w1.cell? ⟨w.heap.size, 5, none⟩ = some (.slice A5 n5.length c5) := (blk_cell BK1.out 5).trans rfl
  have x1_6 : w1.cell? ⟨w.heap.size, 6, none⟩ = some (.slice A6 n6.length c6) := (blk_cell BK1.out 6).trans rfl
  have x1_7 : w1.cell? ⟨w.heap.size, 7, none⟩ = some (.slice A7 n7.length c7) := (blk_cell BK1.out 7).trans rfl
  go_wp2_with fail
  refine (w_IsName' _ hs _).mono ?_
  rintro e w2 ⟨rfl, hb⟩
  have BK2 := Aside0.mk (blk_below BK1.out hb)
  have HBb := Aside0.mk (below_step HBa.out hb)
  clear hb x1_0 x1_1 x1_2 x1_3 x1_4 x1_5 x1_6 x1_7
  have x2_0 : w2.cell? ⟨w.heap.size, 0, none⟩ = some (.int .i64 11) := (blk_cell BK2.out 0).trans rfl
  have x2_1 : w2.cell? ⟨w.heap.size, 1, none⟩ = some (.int .i64 n1) := (blk_cell BK2.out 1).trans rfl
  have x2_2 : w2.cell? ⟨w.heap.size, 2, none⟩ = some (.string n2) := (blk_cell BK2.out 2).trans rfl
  have x2_3 : w2.cell? ⟨w.heap.size, 3, none⟩ = some (.int .i64 n3) := (blk_cell BK2.out 3).trans rfl
  have x2_4 : w2.cell? ⟨w.heap.size, 4, none⟩ = some (.int .i64 n4) := (blk_cell BK2.out 4).trans rfl
  have x2_5 : w2.cell? ⟨w.heap.size, 5, none⟩ = some (.slice A5 n5.length c5) := (blk_cell BK2.out 5).trans rfl
  have x2_6 : w2.cell? ⟨w.heap.size, 6, none⟩ = some (.slice A6 n6.length c6) := (blk_cell BK2.out 6).trans rfl
  have x2_7 : w2.cell? ⟨w.heap.size, 7, none⟩ = some (.slice A7 n7.length c7) := (blk_cell BK2.out 7).trans rfl
  go_wp2_with (first | (go_at_call 67; refine (d_l1In _ _ _ _).mono ?_; rintro e w' ⟨rfl, q2, rfl⟩) | (go_at_call 83; refine (d_l1Word _ _).mono ?_; rintro e w' ⟨rfl, q2, rfl⟩))
  all_goals first
  | ((with_reducible refine (HQ5.out _ (by repeat (first | exact HBb.out | apply pw_below_drewN))).mono ?_)
     rintro e w3 ⟨rfl, hb⟩
     have BK3 := Aside0.mk (blk_below (g := w.heap.size) (o := .cells #[.int .i64 11, .int .i64 n1, .string n2, .int .i64 n3, .int .i64 n4, .slice A5 n5.length c5, .slice A6 n6.length c6, .slice A7 n7.length c7] 134 (0, 0)) (by first | exact BK2.out | exact blk_drewN BK2.out _) hb)
     have HB3 := Aside0.mk (below_step (by repeat (first | exact HBb.out | apply pw_below_drewN)) hb)
     clear hb x2_0 x2_1 x2_2 x2_3 x2_4 x2_5 x2_6 x2_7
     have x3_0 : w3.cell? ⟨w.heap.size, 0, none⟩ = some (.int .i64 11) := (blk_cell BK3.out 0).trans rfl
     have x3_1 : w3.cell? ⟨w.heap.size, 1, none⟩ = some (.int .i64 n1) := (blk_cell BK3.out 1).trans rfl
     have x3_2 : w3.cell? ⟨w.heap.size, 2, none⟩ = some (.string n2) := (blk_cell BK3.out 2).trans rfl
     have x3_3 : w3.cell? ⟨w.heap.size, 3, none⟩ = some (.int .i64 n3) := (blk_cell BK3.out 3).trans rfl
     have x3_4 : w3.cell? ⟨w.heap.size, 4, none⟩ = some (.int .i64 n4) := (blk_cell BK3.out 4).trans rfl
     have x3_5 : w3.cell? ⟨w.heap.size, 5, none⟩ = some (.slice A5 n5.length c5) := (blk_cell BK3.out 5).trans rfl
     have x3_6 : w3.cell? ⟨w.heap.size, 6, none⟩ = some (.slice A6 n6.length c6) := (blk_cell BK3.out 6).trans rfl
     have x3_7 : w3.cell? ⟨w.heap.size, 7, none⟩ = some (.slice A7 n7.length c7) := (blk_cell BK3.out 7).trans rfl
     go_wp2_with fail
     all_goals first
     | ((with_reducible refine (HQ6.out _ (by repeat (first | exact HB3.out | apply pw_below_drewN))).mono ?_)
        rintro e w4 ⟨rfl, hb⟩
        have BK4 := Aside0.mk (blk_below (g := w.heap.size) (o := .cells #[.int .i64 11, .int .i64 n1, .string n2, .int .i64 n3, .int .i64 n4, .slice A5 n5.length c5, .slice A6 n6.length c6, .slice A7 n7.length c7] 134 (0, 0)) (by first | exact BK3.out | exact blk_drewN BK3.out _) hb)
        have HB4 := Aside0.mk (below_step (by repeat (first | exact HB3.out | apply pw_below_drewN)) hb)
        clear hb x3_0 x3_1 x3_2 x3_3 x3_4 x3_5 x3_6 x3_7
        have x4_0 : w4.cell? ⟨w.heap.size, 0, none⟩ = some (.int .i64 11) := (blk_cell BK4.out 0).trans rfl
        have x4_1 : w4.cell? ⟨w.heap.size, 1, none⟩ = some (.int .i64 n1) := (blk_cell BK4.out 1).trans rfl
        have x4_2 : w4.cell? ⟨w.heap.size, 2, none⟩ = some (.string n2) := (blk_cell BK4.out 2).trans rfl
        have x4_3 : w4.cell? ⟨w.heap.size, 3, none⟩ = some (.int .i64 n3) := (blk_cell BK4.out 3).trans rfl
        have x4_4 : w4.cell? ⟨w.heap.size, 4, none⟩ = some (.int .i64 n4) := (blk_cell BK4.out 4).trans rfl
        have x4_5 : w4.cell? ⟨w.heap.size, 5, none⟩ = some (.slice A5 n5.length c5) := (blk_cell BK4.out 5).trans rfl
        have x4_6 : w4.cell? ⟨w.heap.size, 6, none⟩ = some (.slice A6 n6.length c6) := (blk_cell BK4.out 6).trans rfl
        have x4_7 : w4.cell? ⟨w.heap.size, 7, none⟩ = some (.slice A7 n7.length c7) := (blk_cell BK4.out 7).trans rfl
        go_wp2_with fail
        all_goals first
        | ((with_reducible refine (HQ7.out _ (by repeat (first | exact HB4.out | apply pw_below_drewN))).mono ?_)
           rintro e w5 ⟨rfl, hb⟩
           have BK5 := Aside0.mk (blk_below (g := w.heap.size) (o := .cells #[.int .i64 11, .int .i64 n1, .string n2, .int .i64 n3, .int .i64 n4, .slice A5 n5.length c5, .slice A6 n6.length c6, .slice A7 n7.length c7] 134 (0, 0)) (by first | exact BK4.out | exact blk_drewN BK4.out _) hb)
           have HB5 := Aside0.mk (below_step (by repeat (first | exact HB4.out | apply pw_below_drewN)) hb)
           clear hb x4_0 x4_1 x4_2 x4_3 x4_4 x4_5 x4_6 x4_7
           have x5_0 : w5.cell? ⟨w.heap.size, 0, none⟩ = some (.int .i64 11) := (blk_cell BK5.out 0).trans rfl
           have x5_1 : w5.cell? ⟨w.heap.size, 1, none⟩ = some (.int .i64 n1) := (blk_cell BK5.out 1).trans rfl
           have x5_2 : w5.cell? ⟨w.heap.size, 2, none⟩ = some (.string n2) := (blk_cell BK5.out 2).trans rfl
           have x5_3 : w5.cell? ⟨w.heap.size, 3, none⟩ = some (.int .i64 n3) := (blk_cell BK5.out 3).trans rfl
           have x5_4 : w5.cell? ⟨w.heap.size, 4, none⟩ = some (.int .i64 n4) := (blk_cell BK5.out 4).trans rfl
           have x5_5 : w5.cell? ⟨w.heap.size, 5, none⟩ = some (.slice A5 n5.length c5) := (blk_cell BK5.out 5).trans rfl
           have x5_6 : w5.cell? ⟨w.heap.size, 6, none⟩ = some (.slice A6 n6.length c6) := (blk_cell BK5.out 6).trans rfl
           have x5_7 : w5.cell? ⟨w.heap.size, 7, none⟩ = some (.slice A7 n7.length c7) := (blk_cell BK5.out 7).trans rfl
           go_wp2_with fail
           all_goals (go_ret; refine ⟨?_, by repeat (first | exact HB5.out | apply pw_below_drewN)⟩; have hne_ := HNE.out; rw [HY.out, HG.out]; clear HG HNE HY; (try simp_all [restB]); (try (intros; first | (simp_all; done) | omega | (simp_all [inB]; done) | (simp_all [inB]; omega))); done))
        | (go_ret; refine ⟨?_, by repeat (first | exact HB4.out | apply pw_below_drewN)⟩; have hne_ := HNE.out; rw [HY.out, HG.out]; clear HG HNE HY; (try simp_all [restB]); (try (intros; first | (simp_all; done) | omega | (simp_all [inB]; done) | (simp_all [inB]; omega))); done))
     | (go_ret; refine ⟨?_, by repeat (first | exact HB3.out | apply pw_below_drewN)⟩; have hne_ := HNE.out; rw [HY.out, HG.out]; clear HG HNE HY; (try simp_all [restB]); (try (intros; first | (simp_all; done) | omega | (simp_all [inB]; done) | (simp_all [inB]; omega))); done))
  | (go_ret; refine ⟨?_, by repeat (first | exact HBb.out | apply pw_below_drewN)⟩; have hne_ := HNE.out; rw [HY.out, HG.out]; clear HG HNE HY; (try simp_all [restB]); (try (intros; first | (simp_all; done) | omega | (simp_all [inB]; done) | (simp_all [inB]; omega))); done)
/-! ### LIB right -/
set_option maxHeartbeats 4000000 in
set_option maxRecDepth 100000 in
theorem spec_l4Right.k0 (n0 : Int) (hk : inB n0 1 11 = false) (g : Nat) (V : List S125) (N : List S134) (B : List Int) (A0 A1 A2 : Option Addr) (c0 c1 c2 : Nat) (at_ : Nat) (hat : at_ < N.length) (hN : N.length ≤ 1048576) (ad : Addr) (hA1 : A1 = some ad) (n1 : Int) (n2 : ByteArray) (n3 n4 : Int) (n5 n6 n7 : List Int) (A5 A6 A7 : Option Addr) (c5 c6 c7 : Nat) (w : World) (hs : n2.size ≤ 1048576) (hs5 : n5.length ≤ 1048576) (h : TreeAt w g V N B A0 c0 A1 c1 A2 c2) (q0 : w.cell? (ad.add (at_ * 8)) = some (.int .i64 n0)) (q1 : w.cell? ⟨(ad.add (at_ * 8)).block, (ad.add (at_ * 8)).off + 1, none⟩ = some (.int .i64 n1)) (q2 : w.cell? ⟨(ad.add (at_ * 8)).block, (ad.add (at_ * 8)).off + 2, none⟩ = some (.string n2)) (q3 : w.cell? ⟨(ad.add (at_ * 8)).block, (ad.add (at_ * 8)).off + 3, none⟩ = some (.int .i64 n3)) (q4 : w.cell? ⟨(ad.add (at_ * 8)).block, (ad.add (at_ * 8)).off + 4, none⟩ = some (.int .i64 n4)) (q5 : w.cell? ⟨(ad.add (at_ * 8)).block, (ad.add (at_ * 8)).off + 5, none⟩ = some (.slice A5 n5.length c5)) (q6 : w.cell? ⟨(ad.add (at_ * 8)).block, (ad.add (at_ * 8)).off + 6, none⟩ = some (.slice A6 n6.length c6)) (q7 : w.cell? ⟨(ad.add (at_ * 8)).block, (ad.add (at_ * 8)).off + 7, none⟩ = some (.slice A7 n7.length c7)) (r5 : Kd.C (Kd.int .i64) w A5 n5.length n5) (r6 : Kd.C (Kd.int .i64) w A6 n6.length n6) (r7 : Kd.C (Kd.int .i64) w A7 n7.length n7) :
    Calls Try.prog 129 #[.pointer (some ⟨g, 0, none⟩), .int .i64 (at_ : Int)] w fun e w' => e = .returned (.bool (rightB N at_ (⟨n0, n1, n2, n3, n4, n5, n6, n7⟩ : S134))) ∧ Below w.heap.size w w' := by
  subst hA1
  have hu := Try.underlying134
  have hT0 : w.cell? ⟨g, 1, none⟩ = some (.slice (some ad) N.length c1) := (blk_cell h.blk 1).trans rfl
  have hlt1 : (at_ : Int) < (N.length : Int) := by omega
  have hlt1q := eq_true hlt1
  have h0q : (0 ≤ (at_ : Int)) = True := eq_true (by omega)
  have HG := Aside0.mk (show rightB N at_ (⟨n0, n1, n2, n3, n4, n5, n6, n7⟩ : S134) = false by unfold rightB; rw [fits_not _ hk]; rfl)
  clear h r5 r6 r7
  go_enter Try.func129, Try.ntmps129
  go_wp2_with fail
  refine (d_l1In _ _ _ _).mono ?_
  rintro e w' ⟨rfl, q, rfl⟩
  rw [hk]
  go_wp2
  go_ret
  refine ⟨?_, by repeat (first | exact (Below.refl _ _).alloc (Nat.le_refl _) _ | apply pw_below_drewN)⟩
  rw [HG.out]
  rfl
theorem spec_l4Right.w (g : Nat) (V : List S125) (N : List S134) (B : List Int) (A0 A1 A2 : Option Addr) (c0 c1 c2 : Nat) (at_ : Nat) (hat : at_ < N.length) (hN : N.length ≤ 1048576) (w : World) (h : TreeAt w g V N B A0 c0 A1 c1 A2 c2) (hs : Small V N B) :
    Calls Try.prog 129 #[.pointer (some ⟨g, 0, none⟩), .int .i64 (at_ : Int)] w fun e w' => e = .returned (.bool (rightB N at_ (rd_T134 N at_))) ∧ Below w.heap.size w w' := by
  obtain ⟨ad, A5, c5, A6, c6, A7, c7, hA1, q0, q1, q2, q3, q4, q5, q6, q7, l5, r5, l6, r6, l7, r7⟩ := at_T134 h.n at_ (by omega) (by omega)
  rw [Int.toNat_natCast] at q0 q1 q2 q3 q4 q5 q6 q7
  have hm := rdN_mem hat
  have hz := hs.nn _ hm
  have hz5 := (hs.k _ hm).1
  revert q0 q1 q2 q3 q4 q5 q6 q7 l5 r5 l6 r6 l7 r7 hz hz5
  generalize rd_T134 N (at_ : Int) = n
  obtain ⟨n0, n1, n2, n3, n4, n5, n6, n7⟩ := n
  intro q0 q1 q2 q3 q4 q5 q6 q7 l5 r5 l6 r6 l7 r7 hz hz5
  by_cases h1 : n0 = 1
  · subst h1; exact spec_l4Right.k1 g V N B A0 A1 A2 c0 c1 c2 at_ hat hN ad hA1 n1 n2 n3 n4 n5 n6 n7 A5 A6 A7 c5 c6 c7 w hz hz5 h l5 l6 l7 q0 q1 q2 q3 q4 q5 q6 q7 r5 r6 r7
  by_cases h2 : n0 = 2
  · subst h2; exact spec_l4Right.k2 g V N B A0 A1 A2 c0 c1 c2 at_ hat hN ad hA1 n1 n2 n3 n4 n5 n6 n7 A5 A6 A7 c5 c6 c7 w hz hz5 h l5 l6 l7 q0 q1 q2 q3 q4 q5 q6 q7 r5 r6 r7
  by_cases h3 : n0 = 3
  · subst h3; exact spec_l4Right.k3 g V N B A0 A1 A2 c0 c1 c2 at_ hat hN ad hA1 n1 n2 n3 n4 n5 n6 n7 A5 A6 A7 c5 c6 c7 w hz hz5 h l5 l6 l7 q0 q1 q2 q3 q4 q5 q6 q7 r5 r6 r7
  by_cases h7 : n0 = 7
  · subst h7; exact spec_l4Right.k7 g V N B A0 A1 A2 c0 c1 c2 at_ hat hN ad hA1 n1 n2 n3 n4 n5 n6 n7 A5 A6 A7 c5 c6 c7 w hz hz5 h l5 l6 l7 q0 q1 q2 q3 q4 q5 q6 q7 r5 r6 r7
  by_cases h4 : n0 = 4
  · subst h4; exact spec_l4Right.k4 g V N B A0 A1 A2 c0 c1 c2 at_ hat hN ad hA1 n1 n2 n3 n4 n5 n6 n7 A5 A6 A7 c5 c6 c7 w hz hz5 h l5 l6 l7 q0 q1 q2 q3 q4 q5 q6 q7 r5 r6 r7
  by_cases h5 : n0 = 5
  · subst h5; exact spec_l4Right.k5 g V N B A0 A1 A2 c0 c1 c2 at_ hat hN ad hA1 n1 n2 n3 n4 n5 n6 n7 A5 A6 A7 c5 c6 c7 w hz hz5 h l5 l6 l7 q0 q1 q2 q3 q4 q5 q6 q7 r5 r6 r7
  by_cases h6 : n0 = 6
  · subst h6; exact spec_l4Right.k6 g V N B A0 A1 A2 c0 c1 c2 at_ hat hN ad hA1 n1 n2 n3 n4 n5 n6 n7 A5 A6 A7 c5 c6 c7 w hz hz5 h l5 l6 l7 q0 q1 q2 q3 q4 q5 q6 q7 r5 r6 r7
  by_cases h8 : n0 = 8
  · subst h8; exact spec_l4Right.k8 g V N B A0 A1 A2 c0 c1 c2 at_ hat hN ad hA1 n1 n2 n3 n4 n5 n6 n7 A5 A6 A7 c5 c6 c7 w hz hz5 h l5 l6 l7 q0 q1 q2 q3 q4 q5 q6 q7 r5 r6 r7
  by_cases h9 : n0 = 9
  · subst h9; exact spec_l4Right.k9 g V N B A0 A1 A2 c0 c1 c2 at_ hat hN ad hA1 n1 n2 n3 n4 n5 n6 n7 A5 A6 A7 c5 c6 c7 w hz hz5 h l5 l6 l7 q0 q1 q2 q3 q4 q5 q6 q7 r5 r6 r7
  by_cases h10 : n0 = 10
  · subst h10; exact spec_l4Right.k10 g V N B A0 A1 A2 c0 c1 c2 at_ hat hN ad hA1 n1 n2 n3 n4 n5 n6 n7 A5 A6 A7 c5 c6 c7 w hz hz5 h l5 l6 l7 q0 q1 q2 q3 q4 q5 q6 q7 r5 r6 r7
  by_cases h11 : n0 = 11
  · subst h11; exact spec_l4Right.k11 g V N B A0 A1 A2 c0 c1 c2 at_ hat hN ad hA1 n1 n2 n3 n4 n5 n6 n7 A5 A6 A7 c5 c6 c7 w hz hz5 h l5 l6 l7 q0 q1 q2 q3 q4 q5 q6 q7 r5 r6 r7
  exact spec_l4Right.k0 n0 (by rw [Bool.eq_false_iff]; intro hh; have := inB_true hh; omega) g V N B A0 A1 A2 c0 c1 c2 at_ hat hN ad hA1 n1 n2 n3 n4 n5 n6 n7 A5 A6 A7 c5 c6 c7 w hz hz5 h q0 q1 q2 q3 q4 q5 q6 q7 r5 r6 r7
/-! ### LIB count -/
set_option maxHeartbeats 4000000 in
set_option maxRecDepth 100000 in
theorem spec_l4Count.w (g : Nat) (V : List S125) (N : List S134) (B : List Int) (A0 A1 A2 : Option Addr) (c0 c1 c2 : Nat) (w : World) (h : TreeAt w g V N B A0 c0 A1 c1 A2 c2) (hs : Small V N B) (hN : N.length ≤ 200) (hr : ∀ x ∈ flatN N ++ B, 0 ≤ x ∧ x < (N.length : Int)) :
    Calls Try.prog 131 #[.pointer (some ⟨g, 0, none⟩)] w fun e w' => ∃ v : Value, e = .returned v ∧ Kd.R (Kd.int .i64) 2 w' w.heap.size (fun _ => True) v (cntL N.length (flatN N ++ B)) ∧ Below w.heap.size w w' := by
  have hu := Try.underlying134
  have hmk := print_make (P := Try.prog) 24 2 .i64 8 Try.underlying24 info2 (by omega) N.length (by omega)
  have q1 : w.cell? ⟨g, 1, none⟩ = some (.slice A1 N.length c1) := (blk_cell h.blk 1).trans rfl
  have HT := Aside0.mk h
  have HS := Aside0.mk hs
  have HRG := Aside0.mk hr
  clear h hs hr
  go_enter Try.func131, Try.ntmps131
  go_wp2
  go_loopg [4] N.length (fun gg s4 wr => ∃ i : Nat, s4 = .int .i64 (i : Int) ∧ Aside0 (i ≤ N.length ∧ N.length - i ≤ gg) ∧ Aside0 (Kd.R (Kd.int .i64) 2 wr w.heap.size (fun _ => True) (.slice (some ⟨w.heap.size, 0, none⟩) N.length N.length) (cntL N.length (flatN (N.take i)))) ∧ Aside0 (Below w.heap.size w wr))
  case atStart =>
    have ho := own_made w w.heap.size 2 .i64 N.length (Nat.le_refl _) (by omega)
    exact ⟨0, rfl, ⟨by omega⟩, ⟨Kd.R_of_own (enc := Value.int .i64) (h1 := fun _ => rfl) (xs := List.replicate N.length 0) (by rw [List.length_replicate]; exact ho) (fun _ _ => trivial)⟩, ⟨(Below.refl _ _).alloc (Nat.le_refl _) _⟩⟩
  case round =>
    obtain ⟨wo, rfl⟩ : ∃ wo : World, wo = wr := ⟨_, rfl⟩
    obtain ⟨i, rfl, HK, HO, HB⟩ := hrel
    have hlo : w.heap.size < wo.heap.size := Kd.R_lt HO.out _ rfl
    have hT := HT.out.below HB.out
    have q1' : wo.cell? ⟨g, 1, none⟩ = some (.slice A1 N.length c1) := (blk_cell hT.blk 1).trans rfl
    by_cases hlt : i < N.length
    · have hltz : (i : Int) < (N.length : Int) := by omega
      have hd : decide ((i : Int) < (N.length : Int)) = true := decide_eq_true hltz
      have hd' : decide (i < N.length) = true := decide_eq_true hlt
      have hltq := eq_true hltz
      have h0q : (0 ≤ (i : Int)) = True := eq_true (by omega)
      obtain ⟨ad, A5, c5, A6, c6, A7, c7, rfl, n0, n1, n2, n3, n4, n5, n6, n7, l5, r5, l6, r6, l7, r7⟩ := at_T134 HT.out.n (i : Int) (by omega) hltz
      rw [Int.toNat_natCast] at n0 n1 n2 n3 n4 n5 n6 n7
      have n5 := pw_cell_below HB.out n5
      have n6 := pw_cell_below HB.out n6
      have n7 := pw_cell_below HB.out n7
      have R5 := Aside0.mk r5
      have R6 := Aside0.mk r6
      have R7 := Aside0.mk r7
      clear hT r5 r6 r7 l5 l6 l7 n0 n1 n2 n3 n4
      go_wp2_with fail
      go_region_held3 (fun w' => w'.cell? ⟨g, 1, none⟩ = some (.slice (some ad) N.length c1) ∧ w'.cell? ⟨(ad.add (i * 8)).block, (ad.add (i * 8)).off + 5, none⟩ = some (.slice A5 (rd_T134 N (i : Int)).f5.length c5) ∧ w'.cell? ⟨(ad.add (i * 8)).block, (ad.add (i * 8)).off + 6, none⟩ = some (.slice A6 (rd_T134 N (i : Int)).f6.length c6) ∧ w'.cell? ⟨(ad.add (i * 8)).block, (ad.add (i * 8)).off + 7, none⟩ = some (.slice A7 (rd_T134 N (i : Int)).f7.length c7)) (go_keep) (fail)
      clear n5 n6 n7 q1'
      go_wp2
      have hmem := rdN_mem hlt
      have hk3 := HS.out.k _ hmem
      have hrg : ∀ x ∈ flat1 (rd_T134 N (i : Int)), 0 ≤ x ∧ x < (N.length : Int) := fun x hx => HRG.out x (List.mem_append_left _ (mem_flatN hmem hx))
      have HFL := Aside0.mk (flatN_take N i hlt)
      have HK3 := Aside0.mk hk3
      have HRG3 := Aside0.mk hrg
      clear hk3 hrg hmem
      revert R5 R6 R7 HFL HK3 HRG3
      generalize rd_T134 N (i : Int) = nd
      obtain ⟨d0, d1, d2, d3, d4, F5, F6, F7⟩ := nd
      intro R5 R6 R7 HFL HK3 HRG3
      have HB1 := Aside0.mk (show Below wo.heap.size wo _ from (by repeat (first | exact Below.refl _ _ | apply below_alloc | apply pw_below_drewN | apply below_drew1) : Below wo.heap.size wo (wo.alloc (.cells #[.slice A5 F5.length c5, .slice A6 F6.length c6, .slice A7 F7.length c7] 24))))
      go_loopg [6] 3 (fun gg s6 w' => ∃ kk : Nat, s6 = .int .i64 (kk : Int) ∧ Aside0 (kk ≤ 3 ∧ 3 ≤ kk + gg) ∧ Aside0 (Kd.R (Kd.int .i64) 2 w' w.heap.size (fun _ => True) (.slice (some ⟨w.heap.size, 0, none⟩) N.length N.length) (cntL N.length (flatN (N.take i) ++ pre3 F5 F6 F7 kk))) ∧ Aside0 (w'.heap[wo.heap.size]? = some (.cells #[.slice A5 F5.length c5, .slice A6 F6.length c6, .slice A7 F7.length c7] 24 (0, 0))) ∧ Aside0 (Below w.heap.size w w'))
      case atStart => exact ⟨0, rfl, ⟨by omega⟩, ⟨by rw [show pre3 F5 F6 F7 0 = [] from rfl, List.append_nil]; refine Kd.R_below HO.out ?_; repeat (first | exact Below.refl _ _ | apply below_alloc | apply pw_below_drewN | apply below_drew1)⟩, ⟨by first | exact blk_new _ _ | simp⟩, ⟨by refine below_step HB.out ?_; repeat (first | exact Below.refl _ _ | apply below_alloc | apply pw_below_drewN | apply below_drew1)⟩⟩
      case round =>
        obtain ⟨wm, rfl⟩ : ∃ wm : World, wm = wr := ⟨_, rfl⟩
        have HBo := HB
        clear HO HB HB1
        obtain ⟨kk, rfl, HKk, HO, BKL, HB⟩ := hrel
        by_cases hk3 : kk < 3
        · obtain ⟨L, A, c, hL, rL, gL, sL, pL⟩ : ∃ (L : List Int) (A : Option Addr) (c : Nat), wm.cell? ⟨wo.heap.size, kk, none⟩ = some (.slice A L.length c) ∧ Kd.C (Kd.int .i64) w A L.length L ∧ (∀ x ∈ L, 0 ≤ x ∧ x < (N.length : Int)) ∧ L.length ≤ 1048576 ∧ pre3 F5 F6 F7 (kk + 1) = pre3 F5 F6 F7 kk ++ L := by
            have hz : kk = 0 ∨ kk = 1 ∨ kk = 2 := by omega
            have g3 := HRG3.out
            have s3 := HK3.out
            rcases hz with rfl | rfl | rfl
            · exact ⟨F5, A5, c5, (blk_cell BKL.out 0).trans rfl, R5.out, fun x hx => g3 x (by simp [flat1, hx]), s3.1, by simp [pre3]⟩
            · exact ⟨F6, A6, c6, (blk_cell BKL.out 1).trans rfl, R6.out, fun x hx => g3 x (by simp [flat1, hx]), s3.2.1, by simp [pre3]⟩
            · exact ⟨F7, A7, c7, (blk_cell BKL.out 2).trans rfl, R7.out, fun x hx => g3 x (by simp [flat1, hx]), s3.2.2, by simp [pre3]⟩
          have RL := Aside0.mk rL
          have GL := Aside0.mk gL
          have PL := Aside0.mk pL
          clear rL gL pL
          have hkz : (kk : Int) < 3 := by omega
          have hkd : decide ((kk : Int) < 3) = true := decide_eq_true hkz
          have hkq := eq_true hkz
          have hk0 : (0 ≤ (kk : Int)) = True := eq_true (by omega)
          go_wp2
          go_loopg [7] L.length (fun gg s7 w' => ∃ j : Nat, s7 = .int .i64 (j : Int) ∧ Aside0 (j ≤ L.length ∧ L.length - j ≤ gg) ∧ Aside0 (Kd.R (Kd.int .i64) 2 w' w.heap.size (fun _ => True) (.slice (some ⟨w.heap.size, 0, none⟩) N.length N.length) (cntL N.length ((flatN (N.take i) ++ pre3 F5 F6 F7 kk) ++ L.take j))) ∧ Aside0 (w'.heap[wo.heap.size]? = some (.cells #[.slice A5 F5.length c5, .slice A6 F6.length c6, .slice A7 F7.length c7] 24 (0, 0))) ∧ Aside0 (w'.cell? ⟨wo.heap.size, kk, none⟩ = some (.slice A L.length c)) ∧ Aside0 (Below w.heap.size w w'))
          case atStart => exact ⟨0, rfl, ⟨by omega⟩, ⟨by rw [List.take_zero, List.append_nil]; exact HO.out⟩, BKL, ⟨hL⟩, HB⟩
          case round =>
            clear HO HB BKL hL
            obtain ⟨j, rfl, HKj, HO, BKL, HL, HB⟩ := hrel
            have hL := HL.out
            by_cases hj : j < L.length
            · have hjz : (j : Int) < (L.length : Int) := by omega
              have hjd : decide ((j : Int) < (L.length : Int)) = true := decide_eq_true hjz
              have hjd' : decide (j < L.length) = true := decide_eq_true hj
              have hjq := eq_true hjz
              have hj0 : (0 ≤ (j : Int)) = True := eq_true (by omega)
              obtain ⟨adL, rfl, hx⟩ := Kd.at_int (Kd.C_below RL.out HB.out) (j : Int) (by omega) hjz
              rw [Int.toNat_natCast] at hx
              obtain ⟨hx0, hx1⟩ := GL.out _ (rd_mem hj)
              have hP : ∀ x ∈ (flatN (N.take i) ++ pre3 F5 F6 F7 kk) ++ L.take j, 0 ≤ x ∧ x < (N.length : Int) := by
                intro x hx
                rcases List.mem_append.1 hx with hx | hx
                · rcases List.mem_append.1 hx with hx | hx
                  · exact HRG.out x (List.mem_append_left _ (flatN_sub hx))
                  · exact HRG3.out x (pre3_sub hx)
                · exact GL.out x (List.mem_of_mem_take hx)
              have hPl : ((flatN (N.take i) ++ pre3 F5 F6 F7 kk) ++ L.take j).length ≤ 1000000000 := by
                have e1 := flatN_len (N.take i) (fun x hx => HS.out.k x (List.mem_of_mem_take hx))
                have e2 := pre3_len (a := F5) (b := F6) (c := F7) (k := kk)
                have e3 := HK3.out
                have e4 : (N.take i).length ≤ 200 := by rw [List.length_take]; omega
                have e5 : (L.take j).length ≤ L.length := by rw [List.length_take]; omega
                have e6 : (N.take i).length * 3145728 ≤ 200 * 3145728 := Nat.mul_le_mul_right _ e4
                simp only [List.length_append]
                (try simp only at e3)
                omega
              have hbd := cnt_bd hP hPl _ hx0 hx1
              obtain ⟨hc, hfz⟩ := R_cellN (cntL_length _ _) HO.out _ hx0 hx1
              have hb0 := hbd.1
              have hb1 := hbd.2
              have HOp := Aside0.mk (R_putN (cntL_length _ _) HO.out (rd L (j : Int)) (rd (cntL N.length ((flatN (N.take i) ++ pre3 F5 F6 F7 kk) ++ L.take j)) (rd L (j : Int)) + 1))
              have HSN := Aside0.mk (show cntL N.length ((flatN (N.take i) ++ pre3 F5 F6 F7 kk) ++ L.take (j + 1)) = _ from by rw [take_snoc_rd hj, ← List.append_assoc, cntL_snoc])
              have hx0q := eq_true hx0
              have hx1q := eq_true hx1
              clear hP hPl hbd
              revert hc hfz hb0 hb1 HOp HSN
              generalize cntL N.length ((flatN (N.take i) ++ pre3 F5 F6 F7 kk) ++ L.take j) = xs
              generalize hcx : rd xs (rd L (j : Int)) = cx
              intro hc hfz hb0 hb1 HOp HSN
              go_wp2
              go_roundg (L.length - (j + 1))
              case measure => have := HKj.out; omega
              case rel => exact ⟨j + 1, by go_num, ⟨by omega⟩, ⟨by rw [HSN.out, bump, hcx]; exact HOp.out⟩, ⟨blk_far BKL.out (by show wo.heap.size ≠ w.heap.size; omega) _⟩, ⟨(far_cell (by show wo.heap.size ≠ w.heap.size; omega)).trans HL.out⟩, ⟨below_set HB.out (Nat.le_refl _)⟩⟩
            · have hjd : decide ((j : Int) < (L.length : Int)) = false := decide_eq_false (by omega)
              have hjd' : decide (j < L.length) = false := decide_eq_false hj
              have HLt := Aside0.mk (show L.take j = L from List.take_of_length_le (by omega))
              go_wp2
              go_roundg (3 - (kk + 1))
              case measure => have := HKk.out; omega
              case rel => exact ⟨kk + 1, by go_num, ⟨by have := HKk.out; omega⟩, ⟨by rw [PL.out, ← List.append_assoc]; have := HO.out; rw [HLt.out] at this; exact this⟩, BKL, HB⟩
        · obtain rfl : kk = 3 := by have := HKk.out; omega
          go_wp2
          go_roundg (N.length - (i + 1))
          case measure => have := HK.out; omega
          case rel => exact ⟨i + 1, by go_num, ⟨by omega⟩, ⟨by rw [HFL.out]; exact HO.out⟩, HB⟩
    · have hd : decide ((i : Int) < (N.length : Int)) = false := decide_eq_false (by omega)
      have hd' : decide (i < N.length) = false := decide_eq_false hlt
      have HLt := Aside0.mk (show N.take i = N from List.take_of_length_le (by omega))
      have q2' : wo.cell? ⟨g, 2, none⟩ = some (.slice A2 B.length c2) := (blk_cell hT.blk 2).trans rfl
      have hBm := Kd.C_max HT.out.b
      clear hT
      go_wp2
      go_loopg [8] B.length (fun gg s8 w' => ∃ j : Nat, s8 = .int .i64 (j : Int) ∧ Aside0 (j ≤ B.length ∧ B.length - j ≤ gg) ∧ Aside0 (Kd.R (Kd.int .i64) 2 w' w.heap.size (fun _ => True) (.slice (some ⟨w.heap.size, 0, none⟩) N.length N.length) (cntL N.length (flatN N ++ B.take j))) ∧ Aside0 (Below w.heap.size w w'))
      case atStart => exact ⟨0, rfl, ⟨by omega⟩, ⟨by rw [List.take_zero, List.append_nil]; have := HO.out; rw [HLt.out] at this; exact this⟩, HB⟩
      case round =>
        clear HO HB q1' q2'
        obtain ⟨j, rfl, HKj, HO, HB⟩ := hrel
        have hT := HT.out.below HB.out
        have q2' : wr.cell? ⟨g, 2, none⟩ = some (.slice A2 B.length c2) := (blk_cell hT.blk 2).trans rfl
        by_cases hj : j < B.length
        · have hjz : (j : Int) < (B.length : Int) := by omega
          have hjd : decide ((j : Int) < (B.length : Int)) = true := decide_eq_true hjz
          have hjd' : decide (j < B.length) = true := decide_eq_true hj
          have hjq := eq_true hjz
          have hj0 : (0 ≤ (j : Int)) = True := eq_true (by omega)
          obtain ⟨adL, rfl, hx⟩ := Kd.at_int hT.b (j : Int) (by omega) hjz
          rw [Int.toNat_natCast] at hx
          obtain ⟨hx0, hx1⟩ := HRG.out _ (List.mem_append_right _ (rd_mem hj))
          have hP : ∀ x ∈ flatN N ++ B.take j, 0 ≤ x ∧ x < (N.length : Int) := fun x hx => HRG.out x (by
            rcases List.mem_append.1 hx with hx | hx
            · exact List.mem_append_left _ hx
            · exact List.mem_append_right _ (List.mem_of_mem_take hx))
          have hPl : (flatN N ++ B.take j).length ≤ 1000000000 := by
            have e1 := flatN_len N HS.out.k
            have e5 : (B.take j).length ≤ B.length := by rw [List.length_take]; omega
            have e6 : N.length * 3145728 ≤ 200 * 3145728 := Nat.mul_le_mul_right _ hN
            have e7 := HS.out.b
            simp only [List.length_append]
            omega
          have hbd := cnt_bd hP hPl _ hx0 hx1
          obtain ⟨hc, hfz⟩ := R_cellN (cntL_length _ _) HO.out _ hx0 hx1
          have hb0 := hbd.1
          have hb1 := hbd.2
          have HOp := Aside0.mk (R_putN (cntL_length _ _) HO.out (rd B (j : Int)) (rd (cntL N.length (flatN N ++ B.take j)) (rd B (j : Int)) + 1))
          have HSN := Aside0.mk (show cntL N.length (flatN N ++ B.take (j + 1)) = _ from by rw [take_snoc_rd hj, ← List.append_assoc, cntL_snoc])
          have hx0q := eq_true hx0
          have hx1q := eq_true hx1
          clear hP hPl hbd hT
          revert hc hfz hb0 hb1 HOp HSN
          generalize cntL N.length (flatN N ++ B.take j) = xs
          generalize hcx : rd xs (rd B (j : Int)) = cx
          intro hc hfz hb0 hb1 HOp HSN
          go_wp2
          go_roundg (B.length - (j + 1))
          case measure => have := HKj.out; omega
          case rel => exact ⟨j + 1, by go_num, ⟨by omega⟩, ⟨by rw [HSN.out, bump, hcx]; exact HOp.out⟩, ⟨below_set HB.out (Nat.le_refl _)⟩⟩
        · have hjd : decide ((j : Int) < (B.length : Int)) = false := decide_eq_false (by omega)
          have hjd' : decide (j < B.length) = false := decide_eq_false hj
          have HBt := Aside0.mk (show B.take j = B from List.take_of_length_le (by omega))
          clear hT
          go_wp2
          go_ret
          exact ⟨_, rfl, by have := HO.out; rw [HBt.out] at this; exact this, HB.out⟩
/-! ### LIB sdepths -/
set_option maxHeartbeats 4000000 in
set_option maxRecDepth 100000 in
theorem spec_l4Depths.w (g : Nat) (V : List S125) (N : List S134) (B : List Int) (A0 A1 A2 : Option Addr) (c0 c1 c2 : Nat) (w : World) (h : TreeAt w g V N B A0 c0 A1 c1 A2 c2) (hN : N.length ≤ 1048576) :
    Calls Try.prog 132 #[.pointer (some ⟨g, 0, none⟩)] w fun e w' => ∃ v : Value, e = .returned v ∧ Kd.R (Kd.int .i64) 2 w' w.heap.size (fun _ => True) v (depthL N) ∧ Below w.heap.size w w' := by
  have hu := Try.underlying134
  have q1 : w.cell? ⟨g, 1, none⟩ = some (.slice A1 N.length c1) := (blk_cell h.blk 1).trans rfl
  have HT := Aside0.mk h
  clear h
  go_enter Try.func132, Try.ntmps132
  go_wp2
  go_loopg [3, 4] N.length (fun gg s3 s4 wr => ∃ (i : Nat) (Ao : Option Addr) (co : Nat), s3 = .slice Ao i co ∧ s4 = .int .i64 (i : Int) ∧ Aside0 (i ≤ N.length ∧ N.length - i ≤ gg) ∧ Aside0 (Kd.R (Kd.int .i64) 2 wr w.heap.size (fun _ => True) (.slice Ao i co) (depthL (N.take i))) ∧ Aside0 (Below w.heap.size w wr))
  case atStart => exact ⟨0, _, _, rfl, rfl, ⟨by omega⟩, ⟨Kd.R_of_own (enc := Value.int .i64) (h1 := fun _ => rfl) (xs := ([] : List Int)) (own_lit w w.heap.size 2 .i64 [] (Nat.le_refl _) (by simp)) (fun _ _ => trivial)⟩, ⟨(Below.refl _ _).alloc (Nat.le_refl _) _⟩⟩
  case round =>
    obtain ⟨wo, rfl⟩ : ∃ wo : World, wo = wr := ⟨_, rfl⟩
    obtain ⟨i, Ao, co, rfl, rfl, HK, HO, HB⟩ := hrel
    have hT := HT.out.below HB.out
    have q1' : wo.cell? ⟨g, 1, none⟩ = some (.slice A1 N.length c1) := (blk_cell hT.blk 1).trans rfl
    by_cases hlt : i < N.length
    · have hltz : (i : Int) < (N.length : Int) := by omega
      have hd : decide ((i : Int) < (N.length : Int)) = true := decide_eq_true hltz
      have hd' : decide (i < N.length) = true := decide_eq_true hlt
      have hltq := eq_true hltz
      have h0q : (0 ≤ (i : Int)) = True := eq_true (by omega)
      obtain ⟨ad, A5, c5, A6, c6, A7, c7, rfl, n0, n1, n2, n3, n4, n5, n6, n7, l5, r5, l6, r6, l7, r7⟩ := at_T134 HT.out.n (i : Int) (by omega) hltz
      rw [Int.toNat_natCast] at n0 n1 n2 n3 n4 n5 n6 n7
      have n5 := pw_cell_below HB.out n5
      have n6 := pw_cell_below HB.out n6
      have n7 := pw_cell_below HB.out n7
      have R5 := Aside0.mk r5
      have R6 := Aside0.mk r6
      have R7 := Aside0.mk r7
      clear hT r5 r6 r7 l5 l6 l7 n0 n1 n2 n3 n4
      go_wp2_with fail
      go_region_held3 (fun w' => w'.cell? ⟨g, 1, none⟩ = some (.slice (some ad) N.length c1) ∧ w'.cell? ⟨(ad.add (i * 8)).block, (ad.add (i * 8)).off + 5, none⟩ = some (.slice A5 (rd_T134 N (i : Int)).f5.length c5) ∧ w'.cell? ⟨(ad.add (i * 8)).block, (ad.add (i * 8)).off + 6, none⟩ = some (.slice A6 (rd_T134 N (i : Int)).f6.length c6) ∧ w'.cell? ⟨(ad.add (i * 8)).block, (ad.add (i * 8)).off + 7, none⟩ = some (.slice A7 (rd_T134 N (i : Int)).f7.length c7)) (go_keep) (fail)
      clear n5 n6 n7 q1'
      go_wp2
      have HFL := Aside0.mk (depthL_take N i hlt)
      revert R5 R6 R7 HFL
      generalize rd_T134 N (i : Int) = nd
      obtain ⟨d0, d1, d2, d3, d4, F5, F6, F7⟩ := nd
      intro R5 R6 R7 HFL
      have hol : (depthL (N.take i)).length = i := by rw [depthL_length, List.length_take]; omega
      have hob : ∀ x ∈ depthL (N.take i), 0 ≤ x ∧ x ≤ (i : Int) := fun x hx => by have := depthL_bd (N.take i) x hx; rw [List.length_take] at this; omega
      revert HO HFL hol hob
      generalize depthL (N.take i) = xs
      intro HO HFL hol hob
      have HOL := Aside0.mk hol
      have HOB := Aside0.mk hob
      clear hol hob
      go_loopg [5, 7] 3 (fun gg s5 s7 w' => ∃ kk : Nat, s7 = .int .i64 (kk : Int) ∧ s5 = .int .i64 (maxd i xs (pre3 F5 F6 F7 kk)) ∧ Aside0 (kk ≤ 3 ∧ 3 ≤ kk + gg) ∧ Aside0 (w'.heap[wo.heap.size]? = some (.cells #[.slice A5 F5.length c5, .slice A6 F6.length c6, .slice A7 F7.length c7] 24 (0, 0))) ∧ Aside0 (Below wo.heap.size wo w'))
      case atStart => exact ⟨0, rfl, rfl, ⟨by omega⟩, ⟨by first | exact blk_new _ _ | simp⟩, ⟨by repeat (first | exact Below.refl _ _ | apply below_alloc | apply pw_below_drewN | apply below_drew1)⟩⟩
      case round =>
        obtain ⟨wm, rfl⟩ : ∃ wm : World, wm = wr := ⟨_, rfl⟩
        obtain ⟨kk, rfl, rfl, HKk, BKL, HBm⟩ := hrel
        by_cases hk3 : kk < 3
        · obtain ⟨L, A, c, hL, rL, pL⟩ : ∃ (L : List Int) (A : Option Addr) (c : Nat), wm.cell? ⟨wo.heap.size, kk, none⟩ = some (.slice A L.length c) ∧ Kd.C (Kd.int .i64) w A L.length L ∧ pre3 F5 F6 F7 (kk + 1) = pre3 F5 F6 F7 kk ++ L := by
            have hz : kk = 0 ∨ kk = 1 ∨ kk = 2 := by omega
            rcases hz with rfl | rfl | rfl
            · exact ⟨F5, A5, c5, (blk_cell BKL.out 0).trans rfl, R5.out, by simp [pre3]⟩
            · exact ⟨F6, A6, c6, (blk_cell BKL.out 1).trans rfl, R6.out, by simp [pre3]⟩
            · exact ⟨F7, A7, c7, (blk_cell BKL.out 2).trans rfl, R7.out, by simp [pre3]⟩
          have RL := Aside0.mk rL
          have PL := Aside0.mk pL
          have hlm := Kd.C_max rL
          have HLo := Aside0.mk hL
          clear rL pL
          have hkz : (kk : Int) < 3 := by omega
          have hkd : decide ((kk : Int) < 3) = true := decide_eq_true hkz
          have hkq := eq_true hkz
          have hk0 : (0 ≤ (kk : Int)) = True := eq_true (by omega)
          go_wp2
          go_loopg [5, 8] L.length (fun gg s5 s8 w' => ∃ j : Nat, s8 = .int .i64 (j : Int) ∧ s5 = .int .i64 (maxd i xs (pre3 F5 F6 F7 kk ++ L.take j)) ∧ Aside0 (j ≤ L.length ∧ L.length - j ≤ gg) ∧ Aside0 (Below wm.heap.size wm w'))
          case atStart => exact ⟨0, rfl, by rw [List.take_zero, List.append_nil], ⟨by omega⟩, ⟨Below.refl _ _⟩⟩
          case round =>
            clear hL
            obtain ⟨j, rfl, rfl, HKj, HBj⟩ := hrel
            have hL := pw_cell_below HBj.out HLo.out
            have HBw := Aside0.mk (below_step HB.out (below_step HBm.out HBj.out))
            by_cases hj : j < L.length
            · have hjz : (j : Int) < (L.length : Int) := by omega
              have hjd : decide ((j : Int) < (L.length : Int)) = true := decide_eq_true hjz
              have hjd' : decide (j < L.length) = true := decide_eq_true hj
              have hjq := eq_true hjz
              have hj0 : (0 ≤ (j : Int)) = True := eq_true (by omega)
              obtain ⟨adL, rfl, hx⟩ := Kd.at_int (Kd.C_below RL.out HBw.out) (j : Int) (by omega) hjz
              rw [Int.toNat_natCast] at hx
              have HSN := Aside0.mk (show maxd i xs (pre3 F5 F6 F7 kk ++ L.take (j + 1)) = _ from by rw [take_snoc_rd hj, ← List.append_assoc, maxd_snoc])
              revert HSN
              generalize maxd (i : Int) xs (pre3 F5 F6 F7 kk ++ L.take j) = dd
              intro HSN
              cases hin : inB (rd L (j : Int)) 0 ((i : Int) - 1) with
              | true =>
                obtain ⟨hx0, hx1⟩ := inB_true hin
                have hx2 : rd L (j : Int) < (i : Int) := by omega
                have hx0q := eq_true hx0
                have hx2q := eq_true hx2
                have hRo := Kd.R_below HO.out (below_step HBm.out HBj.out)
                have hi0 : 0 < xs.length := by have := HOL.out; omega
                obtain ⟨go, cap, he, _⟩ := Kd.R_form hRo hi0
                injection he with he1 he2 he3
                subst he1
                clear he2 he3
                obtain ⟨hc, hfz⟩ := R_cellN HOL.out hRo _ hx0 hx2
                have HIN := Aside0.mk hin
                clear hRo
                go_wp2_with (first | (go_at_call 67; refine (d_l1In _ _ _ _).mono ?_; rintro e w' ⟨rfl, q, rfl⟩) | (go_at_call 134; refine (d_l1Max _ _ _).mono ?_; rintro e w' ⟨rfl, q2, rfl⟩))
                go_roundg (L.length - (j + 1))
                case measure => have := HKj.out; omega
                case rel => exact ⟨j + 1, by go_num, by rw [HSN.out, if_pos HIN.out], ⟨by omega⟩, ⟨by repeat (first | exact HBj.out | apply pw_below_drewN)⟩⟩
              | false =>
                have HIN := Aside0.mk hin
                go_wp2_with (first | (go_at_call 67; refine (d_l1In _ _ _ _).mono ?_; rintro e w' ⟨rfl, q, rfl⟩))
                go_roundg (L.length - (j + 1))
                case measure => have := HKj.out; omega
                case rel => exact ⟨j + 1, by go_num, by rw [HSN.out, if_neg (by rw [HIN.out]; decide)], ⟨by omega⟩, ⟨by repeat (first | exact HBj.out | apply pw_below_drewN)⟩⟩
            · have hjd : decide ((j : Int) < (L.length : Int)) = false := decide_eq_false (by omega)
              have hjd' : decide (j < L.length) = false := decide_eq_false hj
              have HLt := Aside0.mk (show L.take j = L from List.take_of_length_le (by omega))
              go_wp2
              go_roundg (3 - (kk + 1))
              case measure => have := HKk.out; omega
              case rel => exact ⟨kk + 1, by go_num, by rw [PL.out, HLt.out], ⟨by have := HKk.out; omega⟩, ⟨blk_below BKL.out HBj.out⟩, ⟨below_step HBm.out HBj.out⟩⟩
        · obtain rfl : kk = 3 := by have := HKk.out; omega
          have hdb := maxd_bd (i : Int) i xs (flat1 ⟨d0, d1, d2, d3, d4, F5, F6, F7⟩) (by omega) HOB.out
          have hp3 : pre3 F5 F6 F7 3 = flat1 ⟨d0, d1, d2, d3, d4, F5, F6, F7⟩ := rfl
          rw [hp3]
          revert hdb HFL
          generalize maxd (i : Int) xs (flat1 ⟨d0, d1, d2, d3, d4, F5, F6, F7⟩) = dd
          intro HFL hdb
          have hd0 := hdb.1
          have hd1 := hdb.2
          have HO2 := Aside0.mk (Kd.R_below HO.out HBm.out)
          have HB2 := Aside0.mk (below_step HB.out HBm.out)
          clear hdb HO HB hp3
          go_wp2_with ((with_reducible refine gate_builtin (b := .append) (xs := #[.tmp 79, .tmp 82]) rfl ?_); at_builtin; refine Kd.R_append (Kd.int .i64) (w0 := w) w.heap.size rfl (.tmp 79) (.tmp 82) 24 2 (.int .i64 0) 8 rfl Try.underlying24 info2 rfl (by decide) (by omega) (.slice Ao i co) xs (dd + 1) [.int .i64 (dd + 1)] (fun _ => True) (fun _ => False) rfl rfl ?aP (fun _ hk => hk.elim) (fun _ _ => trivial) HO2.out HB2.out (below_size HB2.out) ?aM ?_; (case aP => exact rfl); (case aM => have := HOL.out; omega); intro v1 w2 ho hb hg ha; clear hg ha; obtain ⟨A9, c9, e9⟩ := Kd.R_slice ho; rw [List.length_append, HOL.out] at e9; have e9 : v1 = .slice A9 (i + 1) c9 := e9; subst e9; have HO3 := Aside0.mk ho; have HB3 := Aside0.mk hb; clear ho hb)
          go_roundg (N.length - (i + 1))
          case measure => have := HK.out; omega
          case rel => exact ⟨i + 1, A9, c9, rfl, by go_num, ⟨by omega⟩, ⟨by rw [HFL.out]; exact HO3.out⟩, HB3⟩
    · have hd : decide ((i : Int) < (N.length : Int)) = false := decide_eq_false (by omega)
      have hd' : decide (i < N.length) = false := decide_eq_false hlt
      have HLt := Aside0.mk (show N.take i = N from List.take_of_length_le (by omega))
      clear hT
      go_wp2
      go_ret
      exact ⟨_, rfl, by have := HO.out; rw [HLt.out] at this; exact this, HB.out⟩
/-! ### LIB sfault -/
def nodesS (N : List S134) : Bool := (List.range N.length).all (fun k => rightB N k (rd_T134 N (k : Int)))
/-- What is wrong with a tree, as the reference looks at it. -/
def faultS (V : List S125) (N : List S134) (B : List Int) : Int :=
  if 24 < V.length ∨ 200 < N.length then 2 else if varsF V ≠ 0 then varsF V else if nodesS N = false then 1 else if B.all (refB N N.length false) = false then 1 else if (cntL N.length (flatN N ++ B)).any oneB = true then 1 else if (depthL N).any deepB = true then 9 else 0
theorem nodesS_bad {N : List S134} {k : Nat} (hk : k < N.length) (h : rightB N k (rd_T134 N (k : Int)) = false) : nodesS N = false := by
  unfold nodesS
  rw [List.all_eq_false]
  exact ⟨k, List.mem_range.2 hk, by simp [h]⟩
theorem nodesS_good {N : List S134} (h : ∀ k, k < N.length → rightB N k (rd_T134 N (k : Int)) = true) : nodesS N = true := by
  unfold nodesS
  rw [List.all_eq_true]
  intro k hk
  exact h k (List.mem_range.1 hk)
theorem ref_range {N : List S134} {m : Int} {e : Bool} {l : List Int} (h : l.all (refB N m e) = true) {x : Int} (hx : x ∈ l) : 0 ≤ x ∧ x ≤ m - 1 := by
  have h1 := List.all_eq_true.1 h x hx
  unfold refB at h1
  rw [Bool.and_eq_true] at h1
  exact inB_true h1.1
theorem flat_rangeS {N : List S134} (h : nodesS N = true) : ∀ x ∈ flatN N, 0 ≤ x ∧ x < (N.length : Int) := by
  intro x hx
  obtain ⟨l, hl, hxl⟩ := List.mem_flatten.1 hx
  obtain ⟨n, hn, rfl⟩ := List.mem_map.1 hl
  obtain ⟨k, hk, rfl⟩ := List.mem_iff_getElem.1 hn
  have ho := List.all_eq_true.1 h k (List.mem_range.2 hk)
  have e : rd_T134 N (k : Int) = N[k] := by simp [rd_T134, List.getD_eq_getElem?_getD, hk]
  rw [e] at ho
  unfold rightB refsB at ho
  simp only [Bool.and_eq_true] at ho
  obtain ⟨_, h5, h6, h7⟩ := ho
  unfold flat1 at hxl
  rcases List.mem_append.1 hxl with hxl | hxl
  · rcases List.mem_append.1 hxl with hxl | hxl
    · have := ref_range h5 hxl; omega
    · have := ref_range h6 hxl; omega
  · have := ref_range h7 hxl; omega
/-- A loop over a row of numbers that looks for the first of which p holds: which way it ends. -/
theorem any_at {p : Int → Bool} {l : List Int} {j : Nat} (hj : j < l.length) (h : p (rd l (j : Int)) = true) : l.any p = true := List.any_eq_true.2 ⟨_, rd_mem hj, h⟩
theorem any_none {p : Int → Bool} {l : List Int} (h : ∀ j, j < l.length → p (rd l (j : Int)) = false) : l.any p = false := by
  rw [List.any_eq_false]
  intro x hx
  obtain ⟨j, hj, rfl⟩ := List.mem_iff_getElem.1 hx
  have e : rd l (j : Int) = l[j] := by simp [rd, List.getD_eq_getElem?_getD, hj]
  rw [← e, h j hj]
  decide
/-! ### LIB faulteq -/
theorem fits_kind {n : S134} (h : fitsB n = true) : exprB n.f0 = !stmtB n.f0 := by
  have hk : inB n.f0 1 11 = true := by
    cases hc : inB n.f0 1 11 with
    | true => rfl
    | false => rw [fits_not n hc] at h; cases h
  obtain ⟨h1, h2⟩ := inB_true hk
  unfold exprB stmtB inB
  by_cases h3 : n.f0 ≤ 6
  · have a : decide (1 ≤ n.f0) = true := decide_eq_true h1
    have b : decide (n.f0 ≤ 6) = true := decide_eq_true h3
    have c : decide (7 ≤ n.f0) = false := decide_eq_false (by omega)
    rw [a, b, c]; rfl
  · have b : decide (n.f0 ≤ 6) = false := decide_eq_false h3
    have c : decide (7 ≤ n.f0) = true := decide_eq_true (by omega)
    have d : decide (n.f0 ≤ 11) = true := decide_eq_true h2
    rw [b, c, d]; simp
def AllFit (N : List S134) : Prop := ∀ k, k < N.length → fitsB (rd_T134 N (k : Int)) = true
theorem ref_bad {N : List S134} (hf : AllFit N) {m : Int} (hm : m ≤ N.length) (st : Bool) (i : Int) : refB N m (!st) i = !badB N m st i := by
  unfold refB badB
  cases hi : inB i 0 (m - 1) with
  | false => rfl
  | true =>
    obtain ⟨h0, h1⟩ := inB_true hi
    obtain ⟨k, rfl⟩ := Int.eq_ofNat_of_zero_le h0
    rw [fits_kind (hf k (by omega))]
    cases stmtB (rd_T134 N (k : Int)).f0 <;> cases st <;> rfl
theorem refs_bads {N : List S134} (hf : AllFit N) {m : Int} (hm : m ≤ N.length) (st : Bool) (l : List Int) : l.all (refB N m (!st)) = !(l.any (badB N m st)) := by
  induction l with
  | nil => rfl
  | cons a l ih => rw [List.all_cons, List.any_cons, ih, ref_bad hf hm, Bool.not_or]
theorem okI_right {N : List S134} (hf : AllFit N) {k : Nat} (hk : k < N.length) : okI N k (rd_T134 N (k : Int)) = rightB N k (rd_T134 N (k : Int)) := by
  have h1 := refs_bads hf (m := (k : Int)) (by omega) false (rd_T134 N (k : Int)).f5
  have h2 := refs_bads hf (m := (k : Int)) (by omega) true (rd_T134 N (k : Int)).f6
  have h3 := refs_bads hf (m := (k : Int)) (by omega) true (rd_T134 N (k : Int)).f7
  unfold okI rightB refsB
  rw [← h1, ← h2, ← h3]
  rfl
theorem nodesI_fit {N : List S134} (h : nodesI N = true) : AllFit N := fun k hk => by
  have ho := List.all_eq_true.1 h k (List.mem_range.2 hk)
  unfold okI at ho
  simp only [Bool.and_eq_true] at ho
  exact ho.1
theorem nodesS_fit {N : List S134} (h : nodesS N = true) : AllFit N := fun k hk => by
  have ho := List.all_eq_true.1 h k (List.mem_range.2 hk)
  unfold rightB at ho
  simp only [Bool.and_eq_true] at ho
  exact ho.1
theorem nodes_eq (N : List S134) : nodesI N = nodesS N := by
  rw [Bool.eq_iff_iff]
  constructor
  · intro h
    exact nodesS_good fun k hk => by rw [← okI_right (nodesI_fit h) hk]; exact List.all_eq_true.1 h k (List.mem_range.2 hk)
  · intro h
    exact nodesI_good fun k hk => by rw [okI_right (nodesS_fit h) hk]; exact List.all_eq_true.1 h k (List.mem_range.2 hk)
theorem body_eq {N : List S134} (h : nodesI N = true) (B : List Int) : B.all (bodyB N) = B.all (refB N N.length false) := by
  have key : ∀ x, bodyB N x = refB N N.length false x := fun x => by
    have := ref_bad (nodesI_fit h) (m := (N.length : Int)) (by omega) true x
    rw [show (!true) = false from rfl] at this
    rw [this]
    unfold bodyB badB
    cases inB x 0 ((N.length : Int) - 1) <;> cases stmtB (rd_T134 N x).f0 <;> rfl
  rw [show bodyB N = refB N N.length false from funext key]
theorem cnt_comm {n : Nat} {P Q : List Int} (hP : ∀ x ∈ P, 0 ≤ x ∧ x < (n : Int)) (hQ : ∀ x ∈ Q, 0 ≤ x ∧ x < (n : Int)) : cntL n (P ++ Q) = cntL n (Q ++ P) := by
  have h1 : ∀ x ∈ P ++ Q, 0 ≤ x ∧ x < (n : Int) := fun x hx => (List.mem_append.1 hx).elim (hP x) (hQ x)
  have h2 : ∀ x ∈ Q ++ P, 0 ≤ x ∧ x < (n : Int) := fun x hx => (List.mem_append.1 hx).elim (hQ x) (hP x)
  refine List.ext_getElem (by rw [cntL_length, cntL_length]) fun j hj hj' => ?_
  have e : ∀ (L : List Int) (h : j < L.length), L[j] = rd L (j : Int) := fun L h => by simp [rd, List.getD_eq_getElem?_getD, h]
  rw [cntL_length] at hj
  rw [e, e, cntL_get n _ h1 j hj, cntL_get n _ h2 j hj, List.count_append, List.count_append, Nat.add_comm]
/-- Both look at a tree and find the same wrong with it. -/
theorem fault_eq (V : List S125) (N : List S134) (B : List Int) : faultS V N B = faultI V N B := by
  unfold faultS faultI
  rw [← nodes_eq]
  split
  · rfl
  split
  · rfl
  split
  · rfl
  rename_i hn
  have hn : nodesI N = true := by simpa using hn
  rw [← body_eq hn]
  split
  · rfl
  rename_i hb
  have hb : B.all (bodyB N) = true := by simpa using hb
  rw [cnt_comm (flat_range hn) (fun x hx => body_range (List.all_eq_true.1 hb x hx))]

end Go.Proofs.Ytlokckgkbhmkmaa.XFnExactCellOf
