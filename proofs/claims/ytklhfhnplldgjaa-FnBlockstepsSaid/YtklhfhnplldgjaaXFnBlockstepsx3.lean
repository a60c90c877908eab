/- Machine side of the law FnBlocksteps: for each Go function that it reaches, a Lean function with the same answers and the proof that the call comes to them. Conditions: what the arguments lead to reads as the lists that each contract is told of. Some functions are told by hand, the others by the kit's print.py under wip/ext.py. -/
import Derived.Test.YtklhfhnplldgjaaXFnBlockstepsx0
import Derived.Test.YtklhfhnplldgjaaXFnBlockstepsx1
import Derived.Test.YtklhfhnplldgjaaXFnBlockstepsx2
namespace Go.Proofs.Ytklhfhnplldgjaa.XFnBlocksteps
open Go.RowKit Go.Proofs.YtklhfhnplldgjaaW.PrintWords Go.Proofs.YtklhfhnplldgjaaW.PrintLast
attribute [local go_sem] max2_int min2_int max_two min_two   -- for this text's walks alone
set_option linter.unusedVariables false
set_option linter.unusedSimpArgs false

/-! ### impl_blockStep: function 83 -/
mutual
def impl_blockStepK.j0 : Nat → List Int → Bool → Int → Option (List Int)
  | 0, _, _, _ => none
  | k + 1, x2, x7, x8 => (impl_flag.f x7).bind fun t276 => ((impl_SignedOf.f x8).bind fun t277 => (if 2 < (x2.length : Int) then ((impl_SignedOf.f (rd x2 2)).bind fun t279 => ((impl_flag.f (decide (t277 ≥ t279))).bind fun t280 => (some (([x8, t276, t280] : List Int))))) else (none)))
def impl_blockStepK.j1 : Nat → List Int → Bool → Int → Option (List Int)
  | 0, _, _, _ => none
  | k + 1, x2, x7, x9 => if x7 = true then ((impl_SignedOf.f x9).bind fun t289 => (if 1 < (x2.length : Int) then ((impl_SignedOf.f (rd x2 1)).bind fun t291 => ((impl_flag.f (decide (t289 ≥ t291))).bind fun t292 => (some (([x9, t292] : List Int))))) else (none))) else ((impl_flag.f false).bind fun t296 => (some (([x9, t296] : List Int))))
end
def impl_blockStepK.f (k : Nat) (a0 : Int) (l1 : List Int) (l2 : List Int) : Option (List Int) := if 0 < (l2.length : Int) then (if a0 = 1 then (if 0 < (l1.length : Int) then (if 1 < (l2.length : Int) then (if (rd l2 1) = 0 then (if (rd l2 0) = 0 then (impl_blockStepK.j0 k l2 ((rd l2 0) != 0) (rd l1 0)) else (if 1 < (l1.length : Int) then (if (rd l1 1) = 0 then ((impl_SignedOf.f (rd l1 0)).bind fun t274 => (if t274 < 32767 then ((impl_WordOf.f (wrap64 ((rd l1 0) + 1))).bind fun t275 => (impl_blockStepK.j0 k l2 ((rd l2 0) != 0) t275)) else (impl_blockStepK.j0 k l2 ((rd l2 0) != 0) (rd l1 0)))) else (impl_blockStepK.j0 k l2 ((rd l2 0) != 0) (rd l1 0))) else (none))) else (impl_blockStepK.j0 k l2 ((rd l2 0) != 0) 0)) else (none)) else (none)) else (if a0 = 2 then (if 0 < (l1.length : Int) then (if (¬ (rd l2 0) = 0) then ((impl_SignedOf.f (rd l1 0)).bind fun t285 => (if 1 < (l2.length : Int) then ((impl_SignedOf.f (rd l2 1)).bind fun t287 => (if t285 < t287 then ((impl_WordOf.f (wrap64 ((rd l1 0) + 1))).bind fun t288 => (impl_blockStepK.j1 k l2 ((rd l2 0) != 0) t288)) else (impl_blockStepK.j1 k l2 ((rd l2 0) != 0) (rd l1 0)))) else (none))) else (impl_blockStepK.j1 k l2 ((rd l2 0) != 0) 0)) else (none)) else (if a0 = 3 then ((impl_flag.f ((rd l2 0) != 0)).bind fun t300 => (if (rd l2 0) = 0 then ((impl_flag.f false).bind fun t301 => (some (([t300, t301] : List Int)))) else (if 0 < (l1.length : Int) then ((impl_flag.f ((rd l1 0) == 0)).bind fun t306 => (some (([t300, t306] : List Int)))) else (none)))) else (if (rd l2 0) = 0 then (if 0 < (l1.length : Int) then (if (rd l1 0) = 0 then ((impl_flag.f false).bind fun t311 => (some (([t311] : List Int)))) else (if 1 < (l2.length : Int) then ((impl_flag.f ((rd l2 1) == 0)).bind fun t316 => (some (([t316] : List Int)))) else (none))) else (none)) else ((impl_flag.f true).bind fun t320 => (some (([t320] : List Int)))))))) else (none)
theorem impl_blockStepK.mono_l : ∀ k, (∀ y0 y1 y2, LeO (impl_blockStepK.j0 k y0 y1 y2) (impl_blockStepK.j0 (k + 1) y0 y1 y2)) ∧ (∀ y0 y1 y2, LeO (impl_blockStepK.j1 k y0 y1 y2) (impl_blockStepK.j1 (k + 1) y0 y1 y2))
  | 0 => ⟨fun _ _ _ r h => by simp [impl_blockStepK.j0] at h, fun _ _ _ r h => by simp [impl_blockStepK.j1] at h⟩
  | k + 1 => by
    obtain ⟨ih0, ih1⟩ := impl_blockStepK.mono_l k
    refine ⟨?_, ?_⟩
    · intro y0 y1 y2
      unfold impl_blockStepK.j0
      repeat' first
      | (with_reducible exact ih0 _ _ _)
      | (with_reducible exact ih1 _ _ _)
      | (with_reducible exact LeO.refl _)
      | (with_reducible exact LeO.none _)
      | (with_reducible refine LeO.ite ?_ ?_)
      | (with_reducible refine LeO.bind ?_ (fun _ => ?_))
      | exact ih0 _ _ _
      | exact ih1 _ _ _
      | exact LeO.none _
      | refine LeO.ite ?_ ?_
      | refine LeO.bind ?_ (fun _ => ?_)
    · intro y0 y1 y2
      unfold impl_blockStepK.j1
      repeat' first
      | (with_reducible exact ih0 _ _ _)
      | (with_reducible exact ih1 _ _ _)
      | (with_reducible exact LeO.refl _)
      | (with_reducible exact LeO.none _)
      | (with_reducible refine LeO.ite ?_ ?_)
      | (with_reducible refine LeO.bind ?_ (fun _ => ?_))
      | exact ih0 _ _ _
      | exact ih1 _ _ _
      | exact LeO.none _
      | refine LeO.ite ?_ ?_
      | refine LeO.bind ?_ (fun _ => ?_)
theorem impl_blockStepK.mono : ∀ a0 a1 a2 k, LeO (impl_blockStepK.f k a0 a1 a2) (impl_blockStepK.f (k + 1) a0 a1 a2) := by
 intro a0 a1 a2 k
 obtain ⟨ih0, ih1⟩ := impl_blockStepK.mono_l k
 unfold impl_blockStepK.f
 repeat' first
     | (with_reducible exact ih0 _ _ _)
     | (with_reducible exact ih1 _ _ _)
     | (with_reducible exact LeO.refl _)
     | (with_reducible exact LeO.none _)
     | (with_reducible refine LeO.ite ?_ ?_)
     | (with_reducible refine LeO.bind ?_ (fun _ => ?_))
     | exact ih0 _ _ _
     | exact ih1 _ _ _
     | exact LeO.none _
     | refine LeO.ite ?_ ?_
     | refine LeO.bind ?_ (fun _ => ?_)

def impl_blockStepK.T9 : Bool × List (List Nat × List Nat) := (true, [([], []), ([], []), ([1], [1]), ([], []), ([3, 2], [3]), ([], []), ([5], [5]), ([6], [6]), ([7, 4], [7]), ([4, 8], [4, 8]), ([9, 8], [9]), ([0, 2, 10], [0, 2, 10]), ([11, 10, 0, 1, 2, 3, 4, 5, 6, 7, 8, 9, 10, 11], [11])])
def impl_blockStepK.B9 : List Nat := [0, 0, 2, 0, 14, 0, 32, 96, 254, 510, 1022, 2047, 4095]
theorem impl_blockStepK.tab9 : rtab .any (opsOf Try.f83 9) = impl_blockStepK.T9 := by kernel_rfl
theorem impl_blockStepK.bits9 : waitsOk impl_blockStepK.T9.2 impl_blockStepK.B9 = true := by kernel_rfl
def impl_blockStepK.T16 : Bool × List (List Nat × List Nat) := (true, [([], []), ([], []), ([1], [1]), ([2], [2]), ([3, 2, 2], [2, 3]), ([2], [2]), ([5, 2], [2, 5]), ([6, 2], [2, 6]), ([7, 4, 2], [2, 7]), ([4, 8, 2], [2, 4, 8]), ([2, 9], [2, 9]), ([10, 8], [10]), ([0, 11], [0, 11]), ([12, 11, 0, 1, 2, 3, 4, 5, 6, 7, 8, 9, 10, 11, 12], [12])])
def impl_blockStepK.B16 : List Nat := [0, 0, 2, 6, 14, 6, 38, 102, 254, 510, 1022, 2046, 4095, 8191]
theorem impl_blockStepK.tab16 : rtab .any (opsOf Try.f83 16) = impl_blockStepK.T16 := by kernel_rfl
theorem impl_blockStepK.bits16 : waitsOk impl_blockStepK.T16.2 impl_blockStepK.B16 = true := by kernel_rfl
set_option maxHeartbeats 8000000 in
set_option maxRecDepth 100000 in
theorem impl_blockStepK.calls (k : Nat) (a0 : Int) (A1 : Option Addr) (c1 : Nat) (l1 : List Int) (A2 : Option Addr) (c2 : Nat) (l2 : List Int) (r : List Int) (w : World) (hr1 : Kd.C (Kd.int .i64) w A1 l1.length l1) (hc1 : l1.length ≤ c1) (hr2 : Kd.C (Kd.int .i64) w A2 l2.length l2) (hc2 : l2.length ≤ c2) (h : impl_blockStepK.f k a0 l1 l2 = some r) :
    Calls Try.prog 83 #[.int .i64 a0, .slice A1 l1.length c1, .slice A2 l2.length c2] w fun e w' => ∃ v0_ : Value, e = .returned (v0_) ∧ Kd.R (Kd.int .i64) 2 w' w.heap.size (fun _ => True) v0_ r ∧ Below w.heap.size w w' := by
 have HR1 := Aside0.mk hr1
 have HC1 := Aside0.mk hc1
 clear hr1 hc1
 have HR2 := Aside0.mk hr2
 have HC2 := Aside0.mk hc2
 clear hr2 hc2
 have HB := Aside0.mk (Below.refl w.heap.size w)
 have H : (if 0 < (l2.length : Int) then (if a0 = 1 then (if 0 < (l1.length : Int) then (if 1 < (l2.length : Int) then (if (rd l2 1) = 0 then (if (rd l2 0) = 0 then (impl_blockStepK.j0 k l2 ((rd l2 0) != 0) (rd l1 0)) else (if 1 < (l1.length : Int) then (if (rd l1 1) = 0 then ((impl_SignedOf.f (rd l1 0)).bind fun t274 => (if t274 < 32767 then ((impl_WordOf.f (wrap64 ((rd l1 0) + 1))).bind fun t275 => (impl_blockStepK.j0 k l2 ((rd l2 0) != 0) t275)) else (impl_blockStepK.j0 k l2 ((rd l2 0) != 0) (rd l1 0)))) else (impl_blockStepK.j0 k l2 ((rd l2 0) != 0) (rd l1 0))) else (none))) else (impl_blockStepK.j0 k l2 ((rd l2 0) != 0) 0)) else (none)) else (none)) else (if a0 = 2 then (if 0 < (l1.length : Int) then (if (¬ (rd l2 0) = 0) then ((impl_SignedOf.f (rd l1 0)).bind fun t285 => (if 1 < (l2.length : Int) then ((impl_SignedOf.f (rd l2 1)).bind fun t287 => (if t285 < t287 then ((impl_WordOf.f (wrap64 ((rd l1 0) + 1))).bind fun t288 => (impl_blockStepK.j1 k l2 ((rd l2 0) != 0) t288)) else (impl_blockStepK.j1 k l2 ((rd l2 0) != 0) (rd l1 0)))) else (none))) else (impl_blockStepK.j1 k l2 ((rd l2 0) != 0) 0)) else (none)) else (if a0 = 3 then ((impl_flag.f ((rd l2 0) != 0)).bind fun t300 => (if (rd l2 0) = 0 then ((impl_flag.f false).bind fun t301 => (some (([t300, t301] : List Int)))) else (if 0 < (l1.length : Int) then ((impl_flag.f ((rd l1 0) == 0)).bind fun t306 => (some (([t300, t306] : List Int)))) else (none)))) else (if (rd l2 0) = 0 then (if 0 < (l1.length : Int) then (if (rd l1 0) = 0 then ((impl_flag.f false).bind fun t311 => (some (([t311] : List Int)))) else (if 1 < (l2.length : Int) then ((impl_flag.f ((rd l2 1) == 0)).bind fun t316 => (some (([t316] : List Int)))) else (none))) else (none)) else ((impl_flag.f true).bind fun t320 => (some (([t320] : List Int)))))))) else (none)) = some r := h
 clear h
 by_cases c4 : 0 < (l2.length : Int)
 case neg =>
  rw [if_neg c4] at H
  exact absurd H (by simp)


 rw [if_pos c4] at H
 have c4b0 : decide (0 < (l2.length : Int)) = true := decide_eq_true c4
 have c4b1 : decide (0 < l2.length) = true := decide_eq_true (by omega)
 clear c4
 by_cases c5 : a0 = 1
 case pos =>
  rw [if_pos c5] at H
  have c5b0 : (a0 == 1) = true := beq_iff_eq.mpr c5
  have c5b1 : (a0 != 1) = false := bne_eq_false_iff_eq.mpr c5
  clear c5
  by_cases c6 : 0 < (l1.length : Int)
  case neg =>
   rw [if_neg c6] at H
   exact absurd H (by simp)
  rw [if_pos c6] at H
  have c6b0 : decide (0 < (l1.length : Int)) = true := decide_eq_true c6
  have c6b1 : decide (0 < l1.length) = true := decide_eq_true (by omega)
  clear c6
  by_cases c7 : 1 < (l2.length : Int)
  case neg =>
   rw [if_neg c7] at H
   exact absurd H (by simp)
  rw [if_pos c7] at H
  have c7b0 : decide (1 < (l2.length : Int)) = true := decide_eq_true c7
  have c7b1 : decide (1 < l2.length) = true := decide_eq_true (by omega)
  clear c7
  have HC8 := Aside0.mk H
  clear H
  have p270 : 0 ≤ (0 : Int) := (by omega)
  have q270 : 0 < (l2.length : Int) := of_decide_eq_true ‹_›
  obtain ⟨ad270, e270, hx270_0⟩ := Kd.at_int HR2.out 0 p270 q270
  cases e270
  have qi270 : (0 < l2.length) = True := eq_true (by omega)
  (try rw [show ((0 : Int)).toNat = 0 from rfl] at hx270_0)
  (try rw [Addr.add_zero'] at hx270_0)
  replace p270 := eq_true p270
  replace q270 := eq_true q270
  have p271 : 0 ≤ (0 : Int) := (by omega)
  have q271 : 0 < (l1.length : Int) := of_decide_eq_true ‹_›
  obtain ⟨ad271, e271, hx271_0⟩ := Kd.at_int HR1.out 0 p271 q271
  cases e271
  have qi271 : (0 < l1.length) = True := eq_true (by omega)
  (try rw [show ((0 : Int)).toNat = 0 from rfl] at hx271_0)
  (try rw [Addr.add_zero'] at hx271_0)
  replace p271 := eq_true p271
  replace q271 := eq_true q271
  have p272 : 0 ≤ (1 : Int) := (by omega)
  have q272 : 1 < (l2.length : Int) := of_decide_eq_true ‹_›
  obtain ⟨ad272, e272, hx272_0⟩ := Kd.at_int HR2.out 1 p272 q272
  obtain rfl : ad270 = ad272 := (by injection e272)
  (try simp only [show (1 : Int).toNat = 1 from rfl, Nat.reduceMul, Nat.reduceEqDiff, Go.Addr.add, ↓reduceIte] at hx272_0)
  have qi272 : (1 < l2.length) = True := eq_true (by omega)
  (try rw [show ((1 : Int)).toNat = 1 from rfl] at hx272_0)
  replace p272 := eq_true p272
  replace q272 := eq_true q272
  go_enter Try.func83, Try.ntmps83
  go_upto_if 23 with (fail)
  go_cut [7, 8] (fun v7 v8 wc => ∃ (kq : Nat) (x8_7 : Int), v7 = .bool ((rd l2 0) != 0) ∧ v8 = .int .i64 x8_7 ∧ Aside0 (impl_blockStepK.j0 kq l2 ((rd l2 0) != 0) x8_7 = some r) ∧ Aside0 (kq ≤ k) ∧ Aside0 (Below w.heap.size w wc))
  case first =>
   have H := HC8.out
   clear HC8
   by_cases c9 : (rd l2 1) = 0
   case neg =>
    rw [if_neg c9] at H
    have c9b0 : ((rd l2 1) == 0) = false := beq_eq_false_iff_ne.mpr c9
    have c9b1 : ((rd l2 1) != 0) = true := bne_iff_ne.mpr c9
    (first | rw [c9b0] | (simp only [i64_w, i32_w]; rw [c9b0]) | skip)
    have H' := Aside0.mk H
    clear H
    go_wp2
    go_meet
    case rel => exact ⟨_, (0), (by simp), (by simp), H', ⟨by first | omega | exact Nat.le_refl _⟩, HB⟩
   rw [if_pos c9] at H
   have c9b0 : ((rd l2 1) == 0) = true := beq_iff_eq.mpr c9
   have c9b1 : ((rd l2 1) != 0) = false := bne_eq_false_iff_eq.mpr c9
   clear c9
   (first | rw [c9b0] | (simp only [i64_w, i32_w]; rw [c9b0]) | skip)
   by_cases c10 : (rd l2 0) = 0
   case pos =>
    rw [if_pos c10] at H
    have c10b0 : ((rd l2 0) == 0) = true := beq_iff_eq.mpr c10
    have c10b1 : ((rd l2 0) != 0) = false := bne_eq_false_iff_eq.mpr c10
    clear c10
    have H' := Aside0.mk H
    clear H
    go_wp2
    go_meet
    case rel => exact ⟨_, (rd l1 0), (by first | rfl | (simp; done) | (simp [*]; done)), (by first | rfl | (simp; done) | (simp [*]; done)), H', ⟨by first | omega | exact Nat.le_refl _⟩, ⟨by repeat (first | (with_reducible first | exact HB.out | apply below_alloc | apply pw_below_drewN | apply below_drew1) | exact HB.out)⟩⟩
   rw [if_neg c10] at H
   have c10b0 : ((rd l2 0) == 0) = false := beq_eq_false_iff_ne.mpr c10
   have c10b1 : ((rd l2 0) != 0) = true := bne_iff_ne.mpr c10
   by_cases c11 : 1 < (l1.length : Int)
   case neg =>
    rw [if_neg c11] at H
    exact absurd H (by simp)
   rw [if_pos c11] at H
   have c11b0 : decide (1 < (l1.length : Int)) = true := decide_eq_true c11
   have c11b1 : decide (1 < l1.length) = true := decide_eq_true (by omega)
   clear c11
   by_cases c12 : (rd l1 1) = 0
   case neg =>
    rw [if_neg c12] at H
    have c12b0 : ((rd l1 1) == 0) = false := beq_eq_false_iff_ne.mpr c12
    have c12b1 : ((rd l1 1) != 0) = true := bne_iff_ne.mpr c12
    have H' := Aside0.mk H
    clear H
    have p273 : 0 ≤ (1 : Int) := (by omega)
    have q273 : 1 < (l1.length : Int) := of_decide_eq_true ‹_›
    obtain ⟨ad273, e273, hx273_0⟩ := Kd.at_int HR1.out 1 p273 q273
    obtain rfl : ad271 = ad273 := (by injection e273)
    (try simp only [show (1 : Int).toNat = 1 from rfl, Nat.reduceMul, Nat.reduceEqDiff, Go.Addr.add, ↓reduceIte] at hx273_0)
    have qi273 : (1 < l1.length) = True := eq_true (by omega)
    (try rw [show ((1 : Int)).toNat = 1 from rfl] at hx273_0)
    replace hx273_0 := (HB.out.cell (World.block_lt_of_cell? w _ hx273_0)).trans hx273_0
    replace p273 := eq_true p273
    replace q273 := eq_true q273
    go_wp2
    go_meet
    case rel => exact ⟨_, (rd l1 0), (by first | rfl | (simp; done) | (simp [*]; done)), (by first | rfl | (simp; done) | (simp [*]; done)), H', ⟨by first | omega | exact Nat.le_refl _⟩, ⟨by repeat (first | (with_reducible first | exact HB.out | apply below_alloc | apply pw_below_drewN | apply below_drew1) | exact HB.out)⟩⟩
   rw [if_pos c12] at H
   have c12b0 : ((rd l1 1) == 0) = true := beq_iff_eq.mpr c12
   have c12b1 : ((rd l1 1) != 0) = false := bne_eq_false_iff_eq.mpr c12
   clear c12
   replace H := Option.bind_eq_some_iff.mp H
   obtain ⟨t274, A130, H⟩ := H
   replace H : (if t274 < 32767 then ((impl_WordOf.f (wrap64 ((rd l1 0) + 1))).bind fun t275 => (impl_blockStepK.j0 k l2 ((rd l2 0) != 0) t275)) else (impl_blockStepK.j0 k l2 ((rd l2 0) != 0) (rd l1 0))) = some r := H
   have A13 := Aside0.mk A130
   clear A130
   by_cases c14 : t274 < 32767
   case neg =>
    rw [if_neg c14] at H
    have c14b0 : decide (t274 < 32767) = false := decide_eq_false c14
    clear c14
    have H' := Aside0.mk H
    clear H
    have p273 : 0 ≤ (1 : Int) := (by omega)
    have q273 : 1 < (l1.length : Int) := of_decide_eq_true ‹_›
    obtain ⟨ad273, e273, hx273_0⟩ := Kd.at_int HR1.out 1 p273 q273
    obtain rfl : ad271 = ad273 := (by injection e273)
    (try simp only [show (1 : Int).toNat = 1 from rfl, Nat.reduceMul, Nat.reduceEqDiff, Go.Addr.add, ↓reduceIte] at hx273_0)
    have qi273 : (1 < l1.length) = True := eq_true (by omega)
    (try rw [show ((1 : Int)).toNat = 1 from rfl] at hx273_0)
    replace hx273_0 := (HB.out.cell (World.block_lt_of_cell? w _ hx273_0)).trans hx273_0
    replace p273 := eq_true p273
    replace q273 := eq_true q273
    go_wp2_with (first | (go_at_call 94; (with_reducible refine (impl_SignedOf.calls (rd l1 0) t274 _ A13.out).mono ?_); rintro e w' ⟨rfl, ⟨nd, rfl⟩⟩))
    go_meet
    case rel => exact ⟨_, (rd l1 0), (by first | rfl | (simp; done) | (simp [*]; done)), (by first | rfl | (simp; done) | (simp [*]; done)), H', ⟨by first | omega | exact Nat.le_refl _⟩, ⟨by repeat (first | (with_reducible first | exact HB.out | apply below_alloc | apply pw_below_drewN | apply below_drew1) | exact HB.out)⟩⟩
   rw [if_pos c14] at H
   have c14b0 : decide (t274 < 32767) = true := decide_eq_true c14
   clear c14
   replace H := Option.bind_eq_some_iff.mp H
   obtain ⟨t275, A150, H⟩ := H
   replace H : (impl_blockStepK.j0 k l2 ((rd l2 0) != 0) t275) = some r := H
   have A15 := Aside0.mk A150
   clear A150
   have H' := Aside0.mk H
   clear H
   have p273 : 0 ≤ (1 : Int) := (by omega)
   have q273 : 1 < (l1.length : Int) := of_decide_eq_true ‹_›
   obtain ⟨ad273, e273, hx273_0⟩ := Kd.at_int HR1.out 1 p273 q273
   obtain rfl : ad271 = ad273 := (by injection e273)
   (try simp only [show (1 : Int).toNat = 1 from rfl, Nat.reduceMul, Nat.reduceEqDiff, Go.Addr.add, ↓reduceIte] at hx273_0)
   have qi273 : (1 < l1.length) = True := eq_true (by omega)
   (try rw [show ((1 : Int)).toNat = 1 from rfl] at hx273_0)
   replace hx273_0 := (HB.out.cell (World.block_lt_of_cell? w _ hx273_0)).trans hx273_0
   replace p273 := eq_true p273
   replace q273 := eq_true q273
   go_wp2_with (first | (go_at_call 94; (with_reducible refine (impl_SignedOf.calls (rd l1 0) t274 _ A13.out).mono ?_); rintro e w' ⟨rfl, ⟨nd, rfl⟩⟩) | ((with_reducible refine gate_callee (f := 93) rfl ?_); refine goesL_ (some 38) rfl rfl Try.func93 (by kernel_rfl) rfl #[.int .i64 (wrap64 ((rd l1 0) + 1))] rfl (by (try simp only [List.map_toArray, List.map_cons, List.map_nil]); first | done | rfl | (simp only [List.length_drop, List.length_take]; rfl)) ?_; (with_reducible refine (impl_WordOf.calls (wrap64 ((rd l1 0) + 1)) t275 _ A15.out).mono ?_); rintro e w' ⟨rfl, ⟨nd, rfl⟩⟩; refine ⟨_, rfl, ?_⟩))
   go_meet
   case rel => exact ⟨_, (t275), (by first | rfl | (simp; done) | (simp [*]; done)), (by first | rfl | (simp; done) | (simp [*]; done)), H', ⟨by first | omega | exact Nat.le_refl _⟩, ⟨by repeat (first | (with_reducible first | exact HB.out | apply below_alloc | apply pw_below_drewN | apply below_drew1) | exact HB.out)⟩⟩
  case rest =>
   clear HC8
   try clear c1
   try clear c2
   try clear p2
   try clear q2
   try clear hx2
   try clear qi2
   try clear c4
   try clear c4b0
   try clear c4b1
   try clear c5
   try clear c5b0
   try clear c5b1
   try clear c6
   try clear c6b0
   try clear c6b1
   try clear p6
   try clear c7
   try clear c7b0
   try clear c7b1
   try clear c8
   try clear c9
   try clear c9b0
   try clear c9b1
   try clear c10
   try clear c10b0
   try clear c10b1
   try clear c11
   try clear c11b0
   try clear c11b1
   try clear c12
   try clear c12b0
   try clear c12b1
   try clear c14
   try clear c14b0
   try clear hx270_0
   try clear hx271_0
   try clear hx272_0
   try clear hx273_0
   try clear p270
   try clear p271
   try clear p272
   try clear p273
   try clear q270
   try clear q271
   try clear q272
   try clear q273
   obtain ⟨kq, x8_7, rfl, rfl, HA, HJ7, HB⟩ := hcut
   cases kq with
   | zero => exact absurd HA.out (by simp [impl_blockStepK.j0])
   | succ kj7 =>
    have H := HA.out
    clear HA
    simp only [impl_blockStepK.j0] at H
    replace H := Option.bind_eq_some_iff.mp H
    obtain ⟨t276, A160, H⟩ := H
    replace H : ((impl_SignedOf.f x8_7).bind fun t277 => (if 2 < (l2.length : Int) then ((impl_SignedOf.f (rd l2 2)).bind fun t279 => ((impl_flag.f (decide (t277 ≥ t279))).bind fun t280 => (some (([x8_7, t276, t280] : List Int))))) else (none))) = some r := H
    have A16 := Aside0.mk A160
    clear A160
    replace H := Option.bind_eq_some_iff.mp H
    obtain ⟨t277, A170, H⟩ := H
    replace H : (if 2 < (l2.length : Int) then ((impl_SignedOf.f (rd l2 2)).bind fun t279 => ((impl_flag.f (decide (t277 ≥ t279))).bind fun t280 => (some (([x8_7, t276, t280] : List Int))))) else (none)) = some r := H
    have A17 := Aside0.mk A170
    clear A170
    by_cases c18 : 2 < (l2.length : Int)
    case neg =>
     rw [if_neg c18] at H
     exact absurd H (by simp)
    rw [if_pos c18] at H
    have c18b0 : decide (2 < (l2.length : Int)) = true := decide_eq_true c18
    have c18b1 : decide (2 < l2.length) = true := decide_eq_true (by omega)
    clear c18
    replace H := Option.bind_eq_some_iff.mp H
    obtain ⟨t279, A190, H⟩ := H
    replace H : ((impl_flag.f (decide (t277 ≥ t279))).bind fun t280 => (some (([x8_7, t276, t280] : List Int)))) = some r := H
    have A19 := Aside0.mk A190
    clear A190
    replace H := Option.bind_eq_some_iff.mp H
    obtain ⟨t280, A200, H⟩ := H
    replace H : (some (([x8_7, t276, t280] : List Int))) = some r := H
    have A20 := Aside0.mk A200
    clear A200
    obtain ⟨y281, hy281⟩ : ∃ y_ : List Int, y_ = (([x8_7, t276, t280] : List Int)) := ⟨_, rfl⟩
    replace H : (some y281) = some r := by first | (rw [hy281]; with_reducible exact H) | (have H2_ := (Option.bind_some _ _).symm.trans H; rw [hy281]; with_reducible exact H2_) | (have H2_ := (Option.bind_some _ _).symm.trans H; with_reducible exact H2_) | with_reducible exact H | (rw [hy281]; exact H) | exact H
    have Ny281 := Aside0.mk hy281
    clear hy281
    obtain rfl := Option.some.inj H
    try go_wp2
    have n0_ := Aside0.mk (below_drew1 HB.out)
    clear HB
    have HB := n0_
    clear n0_
    have p278 : 0 ≤ (2 : Int) := (by omega)
    have q278 : 2 < (l2.length : Int) := of_decide_eq_true ‹_›
    obtain ⟨ad278, e278, hx278_0⟩ := Kd.at_int HR2.out 2 p278 q278
    have hw278_0 := hx278_0
    (try rw [show ((2 : Int)).toNat = 2 from rfl] at hw278_0)
    (try rw [show 2 * 1 = 2 from rfl] at hw278_0)
    (try simp only [Nat.reduceMul, Nat.reduceEqDiff, Go.Addr.add, ↓reduceIte] at hw278_0)
    obtain rfl : ad270 = ad278 := (by injection e278)
    (try simp only [show (2 : Int).toNat = 2 from rfl, Nat.reduceMul, Nat.reduceEqDiff, Go.Addr.add, ↓reduceIte] at hx278_0)
    have qi278 : (2 < l2.length) = True := eq_true (by omega)
    (try rw [show ((2 : Int)).toNat = 2 from rfl] at hx278_0)
    replace hx278_0 := (HB.out.cell (World.block_lt_of_cell? w _ hx278_0)).trans hx278_0
    replace p278 := eq_true p278
    replace q278 := eq_true q278
    refine start_ (n := 13) (S := fun w' => w'.cell? ⟨ad270.block, ad270.off + 2, none⟩ = some (.int .i64 (rd l2 2))) (ds := []) #[false, false, false, false, false, false, false, false, false, false, false, false, false] (by kernel_rfl) rfl rfl (((HB.out.cell (World.block_lt_of_cell? w _ hw278_0)).trans hw278_0)) (fun hHeld => ?_); refine with_tabW impl_blockStepK.tab9 impl_blockStepK.bits9 (fun HT_ HW_ => ?_)
    generalize wc.drew = w21 at HB hx278_0 hHeld ⊢
    refine pure_ (i := 0) (N := some 39) (v := ?_) (a' := ?_) #[true, false, false, false, false, false, false, false, false, false, false, false, false] rfl rfl (any_of HT_.out (by kernel_rfl)) (fun _ _ _ h => h) (Or.inl ⟨by rfl, ?_⟩) ?_ ?_
    rotate_left
    ·
     intro w'
     go_simp
     with_reducible rfl
    rotate_left
    ·
     simp only [Act.put, List.setIfInBounds_toArray, List.set_cons_zero, List.set_cons_succ, i64_w, i32_w]
     rfl
    refine pure_ (i := 1) (N := some 40) (v := ?_) (a' := ?_) #[true, true, false, false, false, false, false, false, false, false, false, false, false] rfl rfl (any_of HT_.out (by kernel_rfl)) (fun _ _ _ h => h) (Or.inl ⟨by rfl, ?_⟩) ?_ ?_
    rotate_left
    ·
     intro w'
     go_simp
     with_reducible rfl
    rotate_left
    ·
     simp only [Act.put, List.setIfInBounds_toArray, List.set_cons_zero, List.set_cons_succ, i64_w, i32_w]
     rfl
    refine pure_ (i := 3) (N := some 42) (v := ?_) (a' := ?_) #[true, true, false, true, false, false, false, false, false, false, false, false, false] rfl rfl (any_of HT_.out (by kernel_rfl)) (fun _ _ _ h => h) (Or.inl ⟨by rfl, ?_⟩) ?_ ?_
    rotate_left
    ·
     intro w'
     go_simp
     with_reducible rfl
    rotate_left
    ·
     simp only [Act.put, List.setIfInBounds_toArray, List.set_cons_zero, List.set_cons_succ, i64_w, i32_w]
     rfl
    refine pure_ (i := 5) (N := some 44) (v := ?_) (a' := ?_) #[true, true, false, true, false, true, false, false, false, false, false, false, false] rfl rfl (any_of HT_.out (by kernel_rfl)) (fun _ _ _ h => h) (Or.inl ⟨by rfl, ?_⟩) ?_ ?_
    rotate_left
    ·
     intro w'
     go_simp
     with_reducible rfl
    rotate_left
    ·
     simp only [Act.put, List.setIfInBounds_toArray, List.set_cons_zero, List.set_cons_succ, i64_w, i32_w]
     rfl
    refine pure_ (i := 6) (N := some 45) (v := ?_) (a' := ?_) #[true, true, false, true, false, true, true, false, false, false, false, false, false] rfl rfl (any_of HT_.out (by kernel_rfl)) (fun _ _ _ h => h) (Or.inl ⟨by rfl, ?_⟩) ?_ ?_
    rotate_left
    ·
     intro w'
     go_simp
     with_reducible rfl
    rotate_left
    ·
     simp only [Act.put, List.setIfInBounds_toArray, List.set_cons_zero, List.set_cons_succ, i64_w, i32_w]
     rfl
    refine take_ (i := 7) (N := some 46) (v := ?_) (a' := ?_) #[true, true, false, true, false, true, true, true, false, false, false, false, false] rfl rfl (take_ofW HT_.out HW_.out (by kernel_rfl)) (fun _ _ _ h => h) (Or.inl ⟨by rfl, ?_⟩) hHeld ?_ ?_
    rotate_left
    ·
     intro w' s0
     go_simp
     with_reducible rfl
    rotate_left
    ·
     simp only [Act.put, List.setIfInBounds_toArray, List.set_cons_zero, List.set_cons_succ, i64_w, i32_w]
     rfl
    refine one_ (i := 2) (N := some 41) #[true, true, true, true, false, true, true, true, false, false, false, false, false] rfl rfl (one_of HT_.out (by kernel_rfl)) (by decide) (fun K hK => ?_)
    refine goes_ Try.func95 (by kernel_rfl) rfl #[.bool ((rd l2 0) != 0)] (by rfl) rfl rfl (by (try simp only [List.map_toArray, List.map_cons, List.map_nil]); first | done | rfl | (simp only [List.length_drop, List.length_take]; rfl)) ?_
    with_reducible refine (impl_flag.calls ((rd l2 0) != 0) t276 _ A16.out).mono ?_
    rintro e w' ⟨rfl, ⟨nd, rfl⟩⟩
    refine ⟨_, rfl, ?_⟩
    refine hK.out _ _ (((HB.out.cell (World.block_lt_of_cell? w _ hw278_0)).trans hw278_0)) (fun hHeld => ?_)
    clear hK K
    refine norm_ (a' := ?_) ?_ ?_
    rotate_left
    ·
     show Act.put _ (some 41) _ = _
     simp only [Act.put, List.setIfInBounds_toArray, List.set_cons_zero, List.set_cons_succ, i64_w, i32_w]
     rfl
    refine one_ (i := 4) (N := some 43) #[true, true, true, true, true, true, true, true, false, false, false, false, false] rfl rfl (one_of HT_.out (by kernel_rfl)) (by decide) (fun K hK => ?_)
    refine goes_ Try.func94 (by kernel_rfl) rfl #[.int .i64 x8_7] (by rfl) rfl rfl (by (try simp only [List.map_toArray, List.map_cons, List.map_nil]); first | done | rfl | (simp only [List.length_drop, List.length_take]; rfl)) ?_
    with_reducible refine (impl_SignedOf.calls x8_7 t277 _ A17.out).mono ?_
    rintro e w' ⟨rfl, ⟨nd, rfl⟩⟩
    refine ⟨_, rfl, ?_⟩
    refine hK.out _ _ (((HB.out.cell (World.block_lt_of_cell? w _ hw278_0)).trans hw278_0)) (fun hHeld => ?_)
    clear hK K
    refine norm_ (a' := ?_) ?_ ?_
    rotate_left
    ·
     show Act.put _ (some 43) _ = _
     simp only [Act.put, List.setIfInBounds_toArray, List.set_cons_zero, List.set_cons_succ, i64_w, i32_w]
     rfl
    refine one_ (i := 8) (N := some 47) #[true, true, true, true, true, true, true, true, true, false, false, false, false] rfl rfl (one_of HT_.out (by kernel_rfl)) (by decide) (fun K hK => ?_)
    refine goes_ Try.func94 (by kernel_rfl) rfl #[.int .i64 (rd l2 2)] (by rfl) rfl rfl (by (try simp only [List.map_toArray, List.map_cons, List.map_nil]); first | done | rfl | (simp only [List.length_drop, List.length_take]; rfl)) ?_
    with_reducible refine (impl_SignedOf.calls (rd l2 2) t279 _ A19.out).mono ?_
    rintro e w' ⟨rfl, ⟨nd, rfl⟩⟩
    refine ⟨_, rfl, ?_⟩
    refine hK.out _ _ (((HB.out.cell (World.block_lt_of_cell? w _ hw278_0)).trans hw278_0)) (fun hHeld => ?_)
    clear hK K
    refine norm_ (a' := ?_) ?_ ?_
    rotate_left
    ·
     show Act.put _ (some 47) _ = _
     simp only [Act.put, List.setIfInBounds_toArray, List.set_cons_zero, List.set_cons_succ, i64_w, i32_w]
     rfl
    refine pure_ (i := 9) (N := some 48) (v := ?_) (a' := ?_) #[true, true, true, true, true, true, true, true, true, true, false, false, false] rfl rfl (any_of HT_.out (by kernel_rfl)) (fun _ _ _ h => h) (Or.inl ⟨by rfl, ?_⟩) ?_ ?_
    rotate_left
    ·
     intro w'
     go_simp
     with_reducible rfl
    rotate_left
    ·
     simp only [Act.put, List.setIfInBounds_toArray, List.set_cons_zero, List.set_cons_succ, i64_w, i32_w]
     rfl
    refine one_ (i := 10) (N := some 49) #[true, true, true, true, true, true, true, true, true, true, true, false, false] rfl rfl (one_of HT_.out (by kernel_rfl)) (by decide) (fun K hK => ?_)
    refine goes_ Try.func95 (by kernel_rfl) rfl #[.bool (decide (t277 ≥ t279))] (by rfl) rfl rfl (by (try simp only [List.map_toArray, List.map_cons, List.map_nil]); first | done | rfl | (simp only [List.length_drop, List.length_take]; rfl)) ?_
    with_reducible refine (impl_flag.calls (decide (t277 ≥ t279)) t280 _ A20.out).mono ?_
    rintro e w' ⟨rfl, ⟨nd, rfl⟩⟩
    refine ⟨_, rfl, ?_⟩
    refine hK.out _ _ (((HB.out.cell (World.block_lt_of_cell? w _ hw278_0)).trans hw278_0)) (fun hHeld => ?_)
    clear hK K
    refine norm_ (a' := ?_) ?_ ?_
    rotate_left
    ·
     show Act.put _ (some 49) _ = _
     simp only [Act.put, List.setIfInBounds_toArray, List.set_cons_zero, List.set_cons_succ, i64_w, i32_w]
     rfl
    refine one_ (i := 11) (N := some 50) #[true, true, true, true, true, true, true, true, true, true, true, true, false] rfl rfl (one_of HT_.out (by kernel_rfl)) (by decide) (fun K hK => ?_)
    refine Kd.R_lit_step (Kd.int .i64) _ 2 ?hg (N := 50) ?hd (xs := ([x8_7, t276, t280] : List Int)) (inner := [.int .i64 x8_7, .int .i64 t276, .int .i64 t280]) (ok := fun _ => True) (okp := fun _ => True) ?hr ?hp (fun _ hk => hk) trivial (Below.refl _ _) (Nat.le_refl _) (by simp) ?_; (case hd => rfl); (case hg => rfl); (case hr => go_simp); (case hp => exact (Reps.one (show Kd.M (Kd.int .i64) _ _ _ x8_7 [.int .i64 x8_7] from rfl) (Reps.one (show Kd.M (Kd.int .i64) _ _ _ t276 [.int .i64 t276] from rfl) (Reps.one (show Kd.M (Kd.int .i64) _ _ _ t280 [.int .i64 t280] from rfl) (Reps.none _ _)))))
    intro v282 w22 ho23 hb hg_ hnew_
    clear hg_ hnew_
    (first | rw [← Ny281.out] at ho23 | (simp only [Int.reduceToNat] at ho23; rw [← Ny281.out] at ho23))
    have n0_ := Aside0.mk (Kd.R_lower ho23 (below_size (by repeat (first | (with_reducible first | exact HB.out | apply below_alloc | apply pw_below_drewN | apply below_drew1) | exact HB.out))))
    have n1_ := Aside0.mk (below_step (by repeat (first | (with_reducible first | exact HB.out | apply below_alloc | apply pw_below_drewN | apply below_drew1) | exact HB.out)) hb)
    clear HB
    have HO283 := n0_
    have HB := n1_
    clear n0_ n1_
    clear hb ho23
    refine hK.out _ _ (((HB.out.cell (World.block_lt_of_cell? w _ hw278_0)).trans hw278_0)) (fun hHeld => ?_)
    clear hK K
    refine norm_ (a' := ?_) ?_ ?_
    rotate_left
    ·
     show Act.put _ (some 50) _ = _
     simp only [Act.put, List.setIfInBounds_toArray, List.set_cons_zero, List.set_cons_succ, i64_w, i32_w]
     rfl
    refine pure_ (i := 12) (N := some 6) (v := ?_) (a' := ?_) #[true, true, true, true, true, true, true, true, true, true, true, true, true] rfl rfl (any_of HT_.out (by kernel_rfl)) (fun _ _ _ h => h) (Or.inl ⟨by rfl, ?_⟩) ?_ ?_
    rotate_left
    ·
     intro w'
     go_simp
     with_reducible rfl
    rotate_left
    ·
     simp only [Act.put, List.setIfInBounds_toArray, List.set_cons_zero, List.set_cons_succ, i64_w, i32_w]
     rfl
    refine done_ (done_of HT_.out (by kernel_rfl)) ?_
    try go_wp2
    go_ret
    exact ⟨_, by first | rfl | (simp [*] <;> rfl), by (with_reducible repeat (first | apply Kd.R_alloc | apply Kd.R_drewN | apply Kd.R_drew)); exact HO283.out, HB.out⟩
 rw [if_neg c5] at H
 have c5b0 : (a0 == 1) = false := beq_eq_false_iff_ne.mpr c5
 have c5b1 : (a0 != 1) = true := bne_iff_ne.mpr c5
 by_cases c24 : a0 = 2
 case neg =>
  rw [if_neg c24] at H
  have c24b0 : (a0 == 2) = false := beq_eq_false_iff_ne.mpr c24
  have c24b1 : (a0 != 2) = true := bne_iff_ne.mpr c24
  by_cases c47 : a0 = 3
  case pos =>
   rw [if_pos c47] at H
   have c47b0 : (a0 == 3) = true := beq_iff_eq.mpr c47
   have c47b1 : (a0 != 3) = false := bne_eq_false_iff_eq.mpr c47
   clear c47
   replace H := Option.bind_eq_some_iff.mp H
   obtain ⟨t300, A480, H⟩ := H
   replace H : (if (rd l2 0) = 0 then ((impl_flag.f false).bind fun t301 => (some (([t300, t301] : List Int)))) else (if 0 < (l1.length : Int) then ((impl_flag.f ((rd l1 0) == 0)).bind fun t306 => (some (([t300, t306] : List Int)))) else (none))) = some r := H
   have A48 := Aside0.mk A480
   clear A480
   by_cases c49 : (rd l2 0) = 0
   case pos =>
    rw [if_pos c49] at H
    have c49b0 : ((rd l2 0) == 0) = true := beq_iff_eq.mpr c49
    have c49b1 : ((rd l2 0) != 0) = false := bne_eq_false_iff_eq.mpr c49
    clear c49
    replace H := Option.bind_eq_some_iff.mp H
    obtain ⟨t301, A500, H⟩ := H
    replace H : (some (([t300, t301] : List Int))) = some r := H
    have A50 := Aside0.mk A500
    clear A500
    obtain ⟨y302, hy302⟩ : ∃ y_ : List Int, y_ = (([t300, t301] : List Int)) := ⟨_, rfl⟩
    replace H : (some y302) = some r := by first | (rw [hy302]; with_reducible exact H) | (have H2_ := (Option.bind_some _ _).symm.trans H; rw [hy302]; with_reducible exact H2_) | (have H2_ := (Option.bind_some _ _).symm.trans H; with_reducible exact H2_) | with_reducible exact H | (rw [hy302]; exact H) | exact H
    have Ny302 := Aside0.mk hy302
    clear hy302
    obtain rfl := Option.some.inj H
    have p270 : 0 ≤ (0 : Int) := (by omega)
    have q270 : 0 < (l2.length : Int) := of_decide_eq_true ‹_›
    obtain ⟨ad270, e270, hx270_0⟩ := Kd.at_int HR2.out 0 p270 q270
    cases e270
    have qi270 : (0 < l2.length) = True := eq_true (by omega)
    (try rw [show ((0 : Int)).toNat = 0 from rfl] at hx270_0)
    (try rw [Addr.add_zero'] at hx270_0)
    replace p270 := eq_true p270
    replace q270 := eq_true q270
    go_enter Try.func83, Try.ntmps83
    go_wp2_with (first | ((with_reducible refine gate_callee (f := 95) rfl ?_); refine goesL_ (some 84) rfl rfl Try.func95 (by kernel_rfl) rfl #[.bool false] rfl (by (try simp only [List.map_toArray, List.map_cons, List.map_nil]); first | done | rfl | (simp only [List.length_drop, List.length_take]; rfl)) ?_; (with_reducible refine (impl_flag.calls false t300 _ (by have h_ := A48.out; rw [c49b1] at h_; exact h_)).mono ?_); rintro e w' ⟨rfl, ⟨nd, rfl⟩⟩; refine ⟨_, rfl, ?_⟩) | ((with_reducible refine gate_callee (f := 95) rfl ?_); refine goesL_ (some 92) rfl rfl Try.func95 (by kernel_rfl) rfl #[.bool false] rfl (by (try simp only [List.map_toArray, List.map_cons, List.map_nil]); first | done | rfl | (simp only [List.length_drop, List.length_take]; rfl)) ?_; (with_reducible refine (impl_flag.calls false t301 _ A50.out).mono ?_); rintro e w' ⟨rfl, ⟨nd, rfl⟩⟩; refine ⟨_, rfl, ?_⟩) | ((with_reducible refine gate_dst (N := 93) rfl ?_); refine Kd.R_lit (Kd.int .i64) _ 2 ?hg (N := 93) ?hd (xs := ([t300, t301] : List Int)) (inner := [.int .i64 t300, .int .i64 t301]) (ok := fun _ => True) (okp := fun _ => True) ?hr ?hp (fun _ hk => hk) trivial (Below.refl _ _) (Nat.le_refl _) (by simp) ?_; (case hd => rfl); (case hg => rfl); (case hr => first | (go_simp; done) | (go_simp; rfl)); (case hp => exact (Reps.one (show Kd.M (Kd.int .i64) _ _ _ t300 [.int .i64 t300] from rfl) (Reps.one (show Kd.M (Kd.int .i64) _ _ _ t301 [.int .i64 t301] from rfl) (Reps.none _ _)))); intro v303 w51 ho52 hb hg_ hnew_; clear hg_ hnew_; (first | rw [← Ny302.out] at ho52 | (simp only [Int.reduceToNat] at ho52; rw [← Ny302.out] at ho52)); have n0_ := Aside0.mk (Kd.R_lower ho52 (below_size (by repeat (first | (with_reducible first | exact HB.out | apply below_alloc | apply pw_below_drewN | apply below_drew1) | exact HB.out)))); have n1_ := Aside0.mk (below_step (by repeat (first | (with_reducible first | exact HB.out | apply below_alloc | apply pw_below_drewN | apply below_drew1) | exact HB.out)) hb); clear HB; have HO304 := n0_; have HB := n1_; clear n0_ n1_; clear hb ho52))
    go_ret
    exact ⟨_, by first | rfl | (simp [errW_none, errW_some] <;> rfl) | (simp [*, errW_none, errW_some] <;> rfl), by (with_reducible repeat (first | apply Kd.R_alloc | apply Kd.R_drewN | apply Kd.R_drew)); exact HO304.out, by repeat (first | (with_reducible first | exact HB.out | apply below_alloc | apply pw_below_drewN | apply below_drew1) | exact HB.out)⟩
   rw [if_neg c49] at H
   have c49b0 : ((rd l2 0) == 0) = false := beq_eq_false_iff_ne.mpr c49
   have c49b1 : ((rd l2 0) != 0) = true := bne_iff_ne.mpr c49
   by_cases c53 : 0 < (l1.length : Int)
   case neg =>
    rw [if_neg c53] at H
    exact absurd H (by simp)
   rw [if_pos c53] at H
   have c53b0 : decide (0 < (l1.length : Int)) = true := decide_eq_true c53
   have c53b1 : decide (0 < l1.length) = true := decide_eq_true (by omega)
   clear c53
   replace H := Option.bind_eq_some_iff.mp H
   obtain ⟨t306, A540, H⟩ := H
   replace H : (some (([t300, t306] : List Int))) = some r := H
   have A54 := Aside0.mk A540
   clear A540
   obtain ⟨y307, hy307⟩ : ∃ y_ : List Int, y_ = (([t300, t306] : List Int)) := ⟨_, rfl⟩
   replace H : (some y307) = some r := by first | (rw [hy307]; with_reducible exact H) | (have H2_ := (Option.bind_some _ _).symm.trans H; rw [hy307]; with_reducible exact H2_) | (have H2_ := (Option.bind_some _ _).symm.trans H; with_reducible exact H2_) | with_reducible exact H | (rw [hy307]; exact H) | exact H
   have Ny307 := Aside0.mk hy307
   clear hy307
   obtain rfl := Option.some.inj H
   have p270 : 0 ≤ (0 : Int) := (by omega)
   have q270 : 0 < (l2.length : Int) := of_decide_eq_true ‹_›
   obtain ⟨ad270, e270, hx270_0⟩ := Kd.at_int HR2.out 0 p270 q270
   cases e270
   have qi270 : (0 < l2.length) = True := eq_true (by omega)
   (try rw [show ((0 : Int)).toNat = 0 from rfl] at hx270_0)
   (try rw [Addr.add_zero'] at hx270_0)
   replace p270 := eq_true p270
   replace q270 := eq_true q270
   go_enter Try.func83, Try.ntmps83
   go_wp2_with (first | ((with_reducible refine gate_callee (f := 95) rfl ?_); refine goesL_ (some 84) rfl rfl Try.func95 (by kernel_rfl) rfl #[.bool true] rfl (by (try simp only [List.map_toArray, List.map_cons, List.map_nil]); first | done | rfl | (simp only [List.length_drop, List.length_take]; rfl)) ?_; (with_reducible refine (impl_flag.calls true t300 _ (by have h_ := A48.out; rw [c49b1] at h_; exact h_)).mono ?_); rintro e w' ⟨rfl, ⟨nd, rfl⟩⟩; refine ⟨_, rfl, ?_⟩; have p305 : 0 ≤ (0 : Int) := (by omega); have q305 : 0 < (l1.length : Int) := of_decide_eq_true (by first | (with_reducible assumption) | assumption); obtain ⟨ad305, e305, hx305_0⟩ := Kd.at_int HR1.out 0 p305 q305; cases e305; have qi305 : (0 < l1.length) = True := eq_true (by omega); (try rw [show ((0 : Int)).toNat = 0 from rfl] at hx305_0); (try rw [Addr.add_zero'] at hx305_0); replace p305 := eq_true p305; replace q305 := eq_true q305) | ((with_reducible refine gate_callee (f := 95) rfl ?_); refine goesL_ (some 92) rfl rfl Try.func95 (by kernel_rfl) rfl #[.bool ((rd l1 0) == 0)] rfl (by (try simp only [List.map_toArray, List.map_cons, List.map_nil]); first | done | rfl | (simp only [List.length_drop, List.length_take]; rfl)) ?_; (with_reducible refine (impl_flag.calls ((rd l1 0) == 0) t306 _ A54.out).mono ?_); rintro e w' ⟨rfl, ⟨nd, rfl⟩⟩; refine ⟨_, rfl, ?_⟩) | ((with_reducible refine gate_dst (N := 93) rfl ?_); refine Kd.R_lit (Kd.int .i64) _ 2 ?hg (N := 93) ?hd (xs := ([t300, t306] : List Int)) (inner := [.int .i64 t300, .int .i64 t306]) (ok := fun _ => True) (okp := fun _ => True) ?hr ?hp (fun _ hk => hk) trivial (Below.refl _ _) (Nat.le_refl _) (by simp) ?_; (case hd => rfl); (case hg => rfl); (case hr => first | (go_simp; done) | (go_simp; rfl)); (case hp => exact (Reps.one (show Kd.M (Kd.int .i64) _ _ _ t300 [.int .i64 t300] from rfl) (Reps.one (show Kd.M (Kd.int .i64) _ _ _ t306 [.int .i64 t306] from rfl) (Reps.none _ _)))); intro v308 w55 ho56 hb hg_ hnew_; clear hg_ hnew_; (first | rw [← Ny307.out] at ho56 | (simp only [Int.reduceToNat] at ho56; rw [← Ny307.out] at ho56)); have n0_ := Aside0.mk (Kd.R_lower ho56 (below_size (by repeat (first | (with_reducible first | exact HB.out | apply below_alloc | apply pw_below_drewN | apply below_drew1) | exact HB.out)))); have n1_ := Aside0.mk (below_step (by repeat (first | (with_reducible first | exact HB.out | apply below_alloc | apply pw_below_drewN | apply below_drew1) | exact HB.out)) hb); clear HB; have HO309 := n0_; have HB := n1_; clear n0_ n1_; clear hb ho56))
   go_ret
   exact ⟨_, by first | rfl | (simp [errW_none, errW_some] <;> rfl) | (simp [*, errW_none, errW_some] <;> rfl), by (with_reducible repeat (first | apply Kd.R_alloc | apply Kd.R_drewN | apply Kd.R_drew)); exact HO309.out, by repeat (first | (with_reducible first | exact HB.out | apply below_alloc | apply pw_below_drewN | apply below_drew1) | exact HB.out)⟩
  rw [if_neg c47] at H
  have c47b0 : (a0 == 3) = false := beq_eq_false_iff_ne.mpr c47
  have c47b1 : (a0 != 3) = true := bne_iff_ne.mpr c47
  by_cases c57 : (rd l2 0) = 0
  case neg =>
   rw [if_neg c57] at H
   have c57b0 : ((rd l2 0) == 0) = false := beq_eq_false_iff_ne.mpr c57
   have c57b1 : ((rd l2 0) != 0) = true := bne_iff_ne.mpr c57
   replace H := Option.bind_eq_some_iff.mp H
   obtain ⟨t320, A670, H⟩ := H
   replace H : (some (([t320] : List Int))) = some r := H
   have A67 := Aside0.mk A670
   clear A670
   obtain ⟨y321, hy321⟩ : ∃ y_ : List Int, y_ = (([t320] : List Int)) := ⟨_, rfl⟩
   replace H : (some y321) = some r := by first | (rw [hy321]; with_reducible exact H) | (have H2_ := (Option.bind_some _ _).symm.trans H; rw [hy321]; with_reducible exact H2_) | (have H2_ := (Option.bind_some _ _).symm.trans H; with_reducible exact H2_) | with_reducible exact H | (rw [hy321]; exact H) | exact H
   have Ny321 := Aside0.mk hy321
   clear hy321
   obtain rfl := Option.some.inj H
   have p270 : 0 ≤ (0 : Int) := (by omega)
   have q270 : 0 < (l2.length : Int) := of_decide_eq_true ‹_›
   obtain ⟨ad270, e270, hx270_0⟩ := Kd.at_int HR2.out 0 p270 q270
   cases e270
   have qi270 : (0 < l2.length) = True := eq_true (by omega)
   (try rw [show ((0 : Int)).toNat = 0 from rfl] at hx270_0)
   (try rw [Addr.add_zero'] at hx270_0)
   replace p270 := eq_true p270
   replace q270 := eq_true q270
   go_enter Try.func83, Try.ntmps83
   go_wp2_with (first | ((with_reducible refine gate_callee (f := 95) rfl ?_); refine goesL_ (some 107) rfl rfl Try.func95 (by kernel_rfl) rfl #[.bool true] rfl (by (try simp only [List.map_toArray, List.map_cons, List.map_nil]); first | done | rfl | (simp only [List.length_drop, List.length_take]; rfl)) ?_; (with_reducible refine (impl_flag.calls true t320 _ A67.out).mono ?_); rintro e w' ⟨rfl, ⟨nd, rfl⟩⟩; refine ⟨_, rfl, ?_⟩) | ((with_reducible refine gate_dst (N := 108) rfl ?_); refine Kd.R_lit (Kd.int .i64) _ 2 ?hg (N := 108) ?hd (xs := ([t320] : List Int)) (inner := [.int .i64 t320]) (ok := fun _ => True) (okp := fun _ => True) ?hr ?hp (fun _ hk => hk) trivial (Below.refl _ _) (Nat.le_refl _) (by simp) ?_; (case hd => rfl); (case hg => rfl); (case hr => first | (go_simp; done) | (go_simp; rfl)); (case hp => exact (Reps.one (show Kd.M (Kd.int .i64) _ _ _ t320 [.int .i64 t320] from rfl) (Reps.none _ _))); intro v322 w68 ho69 hb hg_ hnew_; clear hg_ hnew_; (first | rw [← Ny321.out] at ho69 | (simp only [Int.reduceToNat] at ho69; rw [← Ny321.out] at ho69)); have n0_ := Aside0.mk (Kd.R_lower ho69 (below_size (by repeat (first | (with_reducible first | exact HB.out | apply below_alloc | apply pw_below_drewN | apply below_drew1) | exact HB.out)))); have n1_ := Aside0.mk (below_step (by repeat (first | (with_reducible first | exact HB.out | apply below_alloc | apply pw_below_drewN | apply below_drew1) | exact HB.out)) hb); clear HB; have HO323 := n0_; have HB := n1_; clear n0_ n1_; clear hb ho69))
   go_ret
   exact ⟨_, by first | rfl | (simp [errW_none, errW_some] <;> rfl) | (simp [*, errW_none, errW_some] <;> rfl), by (with_reducible repeat (first | apply Kd.R_alloc | apply Kd.R_drewN | apply Kd.R_drew)); exact HO323.out, by repeat (first | (with_reducible first | exact HB.out | apply below_alloc | apply pw_below_drewN | apply below_drew1) | exact HB.out)⟩
  rw [if_pos c57] at H
  have c57b0 : ((rd l2 0) == 0) = true := beq_iff_eq.mpr c57
  have c57b1 : ((rd l2 0) != 0) = false := bne_eq_false_iff_eq.mpr c57
  clear c57
  by_cases c58 : 0 < (l1.length : Int)
  case neg =>
   rw [if_neg c58] at H
   exact absurd H (by simp)
  rw [if_pos c58] at H
  have c58b0 : decide (0 < (l1.length : Int)) = true := decide_eq_true c58
  have c58b1 : decide (0 < l1.length) = true := decide_eq_true (by omega)
  clear c58
  by_cases c59 : (rd l1 0) = 0
  case pos =>
   rw [if_pos c59] at H
   have c59b0 : ((rd l1 0) == 0) = true := beq_iff_eq.mpr c59
   have c59b1 : ((rd l1 0) != 0) = false := bne_eq_false_iff_eq.mpr c59
   clear c59
   replace H := Option.bind_eq_some_iff.mp H
   obtain ⟨t311, A600, H⟩ := H
   replace H : (some (([t311] : List Int))) = some r := H
   have A60 := Aside0.mk A600
   clear A600
   obtain ⟨y312, hy312⟩ : ∃ y_ : List Int, y_ = (([t311] : List Int)) := ⟨_, rfl⟩
   replace H : (some y312) = some r := by first | (rw [hy312]; with_reducible exact H) | (have H2_ := (Option.bind_some _ _).symm.trans H; rw [hy312]; with_reducible exact H2_) | (have H2_ := (Option.bind_some _ _).symm.trans H; with_reducible exact H2_) | with_reducible exact H | (rw [hy312]; exact H) | exact H
   have Ny312 := Aside0.mk hy312
   clear hy312
   obtain rfl := Option.some.inj H
   have p270 : 0 ≤ (0 : Int) := (by omega)
   have q270 : 0 < (l2.length : Int) := of_decide_eq_true ‹_›
   obtain ⟨ad270, e270, hx270_0⟩ := Kd.at_int HR2.out 0 p270 q270
   cases e270
   have qi270 : (0 < l2.length) = True := eq_true (by omega)
   (try rw [show ((0 : Int)).toNat = 0 from rfl] at hx270_0)
   (try rw [Addr.add_zero'] at hx270_0)
   replace p270 := eq_true p270
   replace q270 := eq_true q270
   have p310 : 0 ≤ (0 : Int) := (by omega)
   have q310 : 0 < (l1.length : Int) := of_decide_eq_true ‹_›
   obtain ⟨ad310, e310, hx310_0⟩ := Kd.at_int HR1.out 0 p310 q310
   cases e310
   have qi310 : (0 < l1.length) = True := eq_true (by omega)
   (try rw [show ((0 : Int)).toNat = 0 from rfl] at hx310_0)
   (try rw [Addr.add_zero'] at hx310_0)
   replace p310 := eq_true p310
   replace q310 := eq_true q310
   go_enter Try.func83, Try.ntmps83
   go_wp2_with (first | ((with_reducible refine gate_callee (f := 95) rfl ?_); refine goesL_ (some 107) rfl rfl Try.func95 (by kernel_rfl) rfl #[.bool false] rfl (by (try simp only [List.map_toArray, List.map_cons, List.map_nil]); first | done | rfl | (simp only [List.length_drop, List.length_take]; rfl)) ?_; (with_reducible refine (impl_flag.calls false t311 _ A60.out).mono ?_); rintro e w' ⟨rfl, ⟨nd, rfl⟩⟩; refine ⟨_, rfl, ?_⟩) | ((with_reducible refine gate_dst (N := 108) rfl ?_); refine Kd.R_lit (Kd.int .i64) _ 2 ?hg (N := 108) ?hd (xs := ([t311] : List Int)) (inner := [.int .i64 t311]) (ok := fun _ => True) (okp := fun _ => True) ?hr ?hp (fun _ hk => hk) trivial (Below.refl _ _) (Nat.le_refl _) (by simp) ?_; (case hd => rfl); (case hg => rfl); (case hr => first | (go_simp; done) | (go_simp; rfl)); (case hp => exact (Reps.one (show Kd.M (Kd.int .i64) _ _ _ t311 [.int .i64 t311] from rfl) (Reps.none _ _))); intro v313 w61 ho62 hb hg_ hnew_; clear hg_ hnew_; (first | rw [← Ny312.out] at ho62 | (simp only [Int.reduceToNat] at ho62; rw [← Ny312.out] at ho62)); have n0_ := Aside0.mk (Kd.R_lower ho62 (below_size (by repeat (first | (with_reducible first | exact HB.out | apply below_alloc | apply pw_below_drewN | apply below_drew1) | exact HB.out)))); have n1_ := Aside0.mk (below_step (by repeat (first | (with_reducible first | exact HB.out | apply below_alloc | apply pw_below_drewN | apply below_drew1) | exact HB.out)) hb); clear HB; have HO314 := n0_; have HB := n1_; clear n0_ n1_; clear hb ho62))
   go_ret
   exact ⟨_, by first | rfl | (simp [errW_none, errW_some] <;> rfl) | (simp [*, errW_none, errW_some] <;> rfl), by (with_reducible repeat (first | apply Kd.R_alloc | apply Kd.R_drewN | apply Kd.R_drew)); exact HO314.out, by repeat (first | (with_reducible first | exact HB.out | apply below_alloc | apply pw_below_drewN | apply below_drew1) | exact HB.out)⟩
  rw [if_neg c59] at H
  have c59b0 : ((rd l1 0) == 0) = false := beq_eq_false_iff_ne.mpr c59
  have c59b1 : ((rd l1 0) != 0) = true := bne_iff_ne.mpr c59
  by_cases c63 : 1 < (l2.length : Int)
  case neg =>
   rw [if_neg c63] at H
   exact absurd H (by simp)
  rw [if_pos c63] at H
  have c63b0 : decide (1 < (l2.length : Int)) = true := decide_eq_true c63
  have c63b1 : decide (1 < l2.length) = true := decide_eq_true (by omega)
  clear c63
  replace H := Option.bind_eq_some_iff.mp H
  obtain ⟨t316, A640, H⟩ := H
  replace H : (some (([t316] : List Int))) = some r := H
  have A64 := Aside0.mk A640
  clear A640
  obtain ⟨y317, hy317⟩ : ∃ y_ : List Int, y_ = (([t316] : List Int)) := ⟨_, rfl⟩
  replace H : (some y317) = some r := by first | (rw [hy317]; with_reducible exact H) | (have H2_ := (Option.bind_some _ _).symm.trans H; rw [hy317]; with_reducible exact H2_) | (have H2_ := (Option.bind_some _ _).symm.trans H; with_reducible exact H2_) | with_reducible exact H | (rw [hy317]; exact H) | exact H
  have Ny317 := Aside0.mk hy317
  clear hy317
  obtain rfl := Option.some.inj H
  have p270 : 0 ≤ (0 : Int) := (by omega)
  have q270 : 0 < (l2.length : Int) := of_decide_eq_true ‹_›
  obtain ⟨ad270, e270, hx270_0⟩ := Kd.at_int HR2.out 0 p270 q270
  cases e270
  have qi270 : (0 < l2.length) = True := eq_true (by omega)
  (try rw [show ((0 : Int)).toNat = 0 from rfl] at hx270_0)
  (try rw [Addr.add_zero'] at hx270_0)
  replace p270 := eq_true p270
  replace q270 := eq_true q270
  have p310 : 0 ≤ (0 : Int) := (by omega)
  have q310 : 0 < (l1.length : Int) := of_decide_eq_true ‹_›
  obtain ⟨ad310, e310, hx310_0⟩ := Kd.at_int HR1.out 0 p310 q310
  cases e310
  have qi310 : (0 < l1.length) = True := eq_true (by omega)
  (try rw [show ((0 : Int)).toNat = 0 from rfl] at hx310_0)
  (try rw [Addr.add_zero'] at hx310_0)
  replace p310 := eq_true p310
  replace q310 := eq_true q310
  have p315 : 0 ≤ (1 : Int) := (by omega)
  have q315 : 1 < (l2.length : Int) := of_decide_eq_true ‹_›
  obtain ⟨ad315, e315, hx315_0⟩ := Kd.at_int HR2.out 1 p315 q315
  obtain rfl : ad270 = ad315 := (by injection e315)
  (try simp only [show (1 : Int).toNat = 1 from rfl, Nat.reduceMul, Nat.reduceEqDiff, Go.Addr.add, ↓reduceIte] at hx315_0)
  have qi315 : (1 < l2.length) = True := eq_true (by omega)
  (try rw [show ((1 : Int)).toNat = 1 from rfl] at hx315_0)
  replace p315 := eq_true p315
  replace q315 := eq_true q315
  go_enter Try.func83, Try.ntmps83
  go_wp2_with (first | ((with_reducible refine gate_callee (f := 95) rfl ?_); refine goesL_ (some 107) rfl rfl Try.func95 (by kernel_rfl) rfl #[.bool ((rd l2 1) == 0)] rfl (by (try simp only [List.map_toArray, List.map_cons, List.map_nil]); first | done | rfl | (simp only [List.length_drop, List.length_take]; rfl)) ?_; (with_reducible refine (impl_flag.calls ((rd l2 1) == 0) t316 _ A64.out).mono ?_); rintro e w' ⟨rfl, ⟨nd, rfl⟩⟩; refine ⟨_, rfl, ?_⟩) | ((with_reducible refine gate_dst (N := 108) rfl ?_); refine Kd.R_lit (Kd.int .i64) _ 2 ?hg (N := 108) ?hd (xs := ([t316] : List Int)) (inner := [.int .i64 t316]) (ok := fun _ => True) (okp := fun _ => True) ?hr ?hp (fun _ hk => hk) trivial (Below.refl _ _) (Nat.le_refl _) (by simp) ?_; (case hd => rfl); (case hg => rfl); (case hr => first | (go_simp; done) | (go_simp; rfl)); (case hp => exact (Reps.one (show Kd.M (Kd.int .i64) _ _ _ t316 [.int .i64 t316] from rfl) (Reps.none _ _))); intro v318 w65 ho66 hb hg_ hnew_; clear hg_ hnew_; (first | rw [← Ny317.out] at ho66 | (simp only [Int.reduceToNat] at ho66; rw [← Ny317.out] at ho66)); have n0_ := Aside0.mk (Kd.R_lower ho66 (below_size (by repeat (first | (with_reducible first | exact HB.out | apply below_alloc | apply pw_below_drewN | apply below_drew1) | exact HB.out)))); have n1_ := Aside0.mk (below_step (by repeat (first | (with_reducible first | exact HB.out | apply below_alloc | apply pw_below_drewN | apply below_drew1) | exact HB.out)) hb); clear HB; have HO319 := n0_; have HB := n1_; clear n0_ n1_; clear hb ho66))
  go_ret
  exact ⟨_, by first | rfl | (simp [errW_none, errW_some] <;> rfl) | (simp [*, errW_none, errW_some] <;> rfl), by (with_reducible repeat (first | apply Kd.R_alloc | apply Kd.R_drewN | apply Kd.R_drew)); exact HO319.out, by repeat (first | (with_reducible first | exact HB.out | apply below_alloc | apply pw_below_drewN | apply below_drew1) | exact HB.out)⟩
 rw [if_pos c24] at H
 have c24b0 : (a0 == 2) = true := beq_iff_eq.mpr c24
 have c24b1 : (a0 != 2) = false := bne_eq_false_iff_eq.mpr c24
 clear c24
 by_cases c25 : 0 < (l1.length : Int)
 case neg =>
  rw [if_neg c25] at H
  exact absurd H (by simp)
 rw [if_pos c25] at H
 have c25b0 : decide (0 < (l1.length : Int)) = true := decide_eq_true c25
 have c25b1 : decide (0 < l1.length) = true := decide_eq_true (by omega)
 clear c25
 have HC26 := Aside0.mk H
 clear H
 have p270 : 0 ≤ (0 : Int) := (by omega)
 have q270 : 0 < (l2.length : Int) := of_decide_eq_true ‹_›
 obtain ⟨ad270, e270, hx270_0⟩ := Kd.at_int HR2.out 0 p270 q270
 cases e270
 have qi270 : (0 < l2.length) = True := eq_true (by omega)
 (try rw [show ((0 : Int)).toNat = 0 from rfl] at hx270_0)
 (try rw [Addr.add_zero'] at hx270_0)
 replace p270 := eq_true p270
 replace q270 := eq_true q270
 have p284 : 0 ≤ (0 : Int) := (by omega)
 have q284 : 0 < (l1.length : Int) := of_decide_eq_true ‹_›
 obtain ⟨ad284, e284, hx284_0⟩ := Kd.at_int HR1.out 0 p284 q284
 cases e284
 have qi284 : (0 < l1.length) = True := eq_true (by omega)
 (try rw [show ((0 : Int)).toNat = 0 from rfl] at hx284_0)
 (try rw [Addr.add_zero'] at hx284_0)
 replace p284 := eq_true p284
 replace q284 := eq_true q284
 go_enter Try.func83, Try.ntmps83
 go_upto_if 57 with (fail)
 go_cut [7, 9] (fun v7 v9 wc => ∃ (kq : Nat) (x9_25 : Int), v7 = .bool ((rd l2 0) != 0) ∧ v9 = .int .i64 x9_25 ∧ Aside0 (impl_blockStepK.j1 kq l2 ((rd l2 0) != 0) x9_25 = some r) ∧ Aside0 (kq ≤ k) ∧ Aside0 (Below w.heap.size w wc))
 case first =>
  have H := HC26.out
  clear HC26
  by_cases c27 : (¬ (rd l2 0) = 0)
  case neg =>
   rw [if_neg c27] at H
   have c27b0 : ((rd l2 0) == 0) = true := beq_iff_eq.mpr (Decidable.not_not.mp c27)
   have c27b1 : ((rd l2 0) != 0) = false := bne_eq_false_iff_eq.mpr (Decidable.not_not.mp c27)
   simp only [c27b1, Bool.not_false]
   have H' := Aside0.mk H
   clear H
   go_wp2
   go_meet
   case rel => exact ⟨_, (0), (by first | rfl | (simp; done) | (simp [*]; done)), (by first | rfl | (simp; done) | (simp [*]; done)), H', ⟨by first | omega | exact Nat.le_refl _⟩, ⟨by repeat (first | (with_reducible first | exact HB.out | apply below_alloc | apply pw_below_drewN | apply below_drew1) | exact HB.out)⟩⟩
  rw [if_pos c27] at H
  have c27b0 : ((rd l2 0) == 0) = false := beq_eq_false_iff_ne.mpr c27
  have c27b1 : ((rd l2 0) != 0) = true := bne_iff_ne.mpr c27
  clear c27
  simp only [c27b1, Bool.not_true]
  replace H := Option.bind_eq_some_iff.mp H
  obtain ⟨t285, A280, H⟩ := H
  replace H : (if 1 < (l2.length : Int) then ((impl_SignedOf.f (rd l2 1)).bind fun t287 => (if t285 < t287 then ((impl_WordOf.f (wrap64 ((rd l1 0) + 1))).bind fun t288 => (impl_blockStepK.j1 k l2 ((rd l2 0) != 0) t288)) else (impl_blockStepK.j1 k l2 ((rd l2 0) != 0) (rd l1 0)))) else (none)) = some r := H
  have A28 := Aside0.mk A280
  clear A280
  by_cases c29 : 1 < (l2.length : Int)
  case neg =>
   rw [if_neg c29] at H
   exact absurd H (by simp)
  rw [if_pos c29] at H
  have c29b0 : decide (1 < (l2.length : Int)) = true := decide_eq_true c29
  have c29b1 : decide (1 < l2.length) = true := decide_eq_true (by omega)
  clear c29
  replace H := Option.bind_eq_some_iff.mp H
  obtain ⟨t287, A300, H⟩ := H
  replace H : (if t285 < t287 then ((impl_WordOf.f (wrap64 ((rd l1 0) + 1))).bind fun t288 => (impl_blockStepK.j1 k l2 ((rd l2 0) != 0) t288)) else (impl_blockStepK.j1 k l2 ((rd l2 0) != 0) (rd l1 0))) = some r := H
  have A30 := Aside0.mk A300
  clear A300
  by_cases c31 : t285 < t287
  case neg =>
   rw [if_neg c31] at H
   have c31b0 : decide (t285 < t287) = false := decide_eq_false c31
   clear c31
   have H' := Aside0.mk H
   clear H
   try go_wp2
   have n0_ := Aside0.mk (below_drew1 HB.out)
   clear HB
   have HB := n0_
   clear n0_
   have p286 : 0 ≤ (1 : Int) := (by omega)
   have q286 : 1 < (l2.length : Int) := of_decide_eq_true ‹_›
   obtain ⟨ad286, e286, hx286_0⟩ := Kd.at_int HR2.out 1 p286 q286
   have hw286_0 := hx286_0
   (try rw [show ((1 : Int)).toNat = 1 from rfl] at hw286_0)
   (try rw [show 1 * 1 = 1 from rfl] at hw286_0)
   (try simp only [Nat.reduceMul, Nat.reduceEqDiff, Go.Addr.add, ↓reduceIte] at hw286_0)
   obtain rfl : ad270 = ad286 := (by injection e286)
   (try simp only [show (1 : Int).toNat = 1 from rfl, Nat.reduceMul, Nat.reduceEqDiff, Go.Addr.add, ↓reduceIte] at hx286_0)
   have qi286 : (1 < l2.length) = True := eq_true (by omega)
   (try rw [show ((1 : Int)).toNat = 1 from rfl] at hx286_0)
   replace hx286_0 := (HB.out.cell (World.block_lt_of_cell? w _ hx286_0)).trans hx286_0
   replace p286 := eq_true p286
   replace q286 := eq_true q286
   refine start_ (n := 7) (S := fun w' => w'.cell? ⟨ad270.block, ad270.off + 1, none⟩ = some (.int .i64 (rd l2 1))) (ds := []) #[false, false, false, false, false, false, false] (by kernel_rfl) rfl rfl (((HB.out.cell (World.block_lt_of_cell? w _ hw286_0)).trans hw286_0)) (fun hHeld => ?_)
   generalize w.drew = w34 at HB hx286_0 hHeld ⊢
   refine pure_ (i := 0) (N := some 58) (v := ?_) (a' := ?_) #[true, false, false, false, false, false, false] rfl rfl (by kernel_rfl) (fun _ _ _ h => h) (Or.inl ⟨by rfl, ?_⟩) ?_ ?_
   rotate_left
   ·
    intro w'
    go_simp
    with_reducible rfl
   rotate_left
   ·
    simp only [Act.put, List.setIfInBounds_toArray, List.set_cons_zero, List.set_cons_succ, i64_w, i32_w]
    rfl
   refine pure_ (i := 2) (N := some 60) (v := ?_) (a' := ?_) #[true, false, true, false, false, false, false] rfl rfl (by kernel_rfl) (fun _ _ _ h => h) (Or.inl ⟨by rfl, ?_⟩) ?_ ?_
   rotate_left
   ·
    intro w'
    go_simp
    with_reducible rfl
   rotate_left
   ·
    simp only [Act.put, List.setIfInBounds_toArray, List.set_cons_zero, List.set_cons_succ, i64_w, i32_w]
    rfl
   refine pure_ (i := 3) (N := some 61) (v := ?_) (a' := ?_) #[true, false, true, true, false, false, false] rfl rfl (by kernel_rfl) (fun _ _ _ h => h) (Or.inl ⟨by rfl, ?_⟩) ?_ ?_
   rotate_left
   ·
    intro w'
    go_simp
    with_reducible rfl
   rotate_left
   ·
    simp only [Act.put, List.setIfInBounds_toArray, List.set_cons_zero, List.set_cons_succ, i64_w, i32_w]
    rfl
   refine take_ (i := 4) (N := some 62) (v := ?_) (a' := ?_) #[true, false, true, true, true, false, false] rfl rfl (by kernel_rfl) (fun _ _ _ h => h) (Or.inl ⟨by rfl, ?_⟩) hHeld ?_ ?_
   rotate_left
   ·
    intro w' s0
    go_simp
    with_reducible rfl
   rotate_left
   ·
    simp only [Act.put, List.setIfInBounds_toArray, List.set_cons_zero, List.set_cons_succ, i64_w, i32_w]
    rfl
   refine one_ (i := 1) (N := some 59) #[true, true, true, true, true, false, false] rfl rfl (by kernel_rfl) (by decide) (fun K hK => ?_)
   refine goes_ Try.func94 (by kernel_rfl) rfl #[.int .i64 (rd l1 0)] (by rfl) rfl rfl (by (try simp only [List.map_toArray, List.map_cons, List.map_nil]); first | done | rfl | (simp only [List.length_drop, List.length_take]; rfl)) ?_
   with_reducible refine (impl_SignedOf.calls (rd l1 0) t285 _ A28.out).mono ?_
   rintro e w' ⟨rfl, ⟨nd, rfl⟩⟩
   refine ⟨_, rfl, ?_⟩
   refine hK.out _ _ (((HB.out.cell (World.block_lt_of_cell? w _ hw286_0)).trans hw286_0)) (fun hHeld => ?_)
   clear hK K
   refine norm_ (a' := ?_) ?_ ?_
   rotate_left
   ·
    show Act.put _ (some 59) _ = _
    simp only [Act.put, List.setIfInBounds_toArray, List.set_cons_zero, List.set_cons_succ, i64_w, i32_w]
    rfl
   refine one_ (i := 5) (N := some 63) #[true, true, true, true, true, true, false] rfl rfl (by kernel_rfl) (by decide) (fun K hK => ?_)
   refine goes_ Try.func94 (by kernel_rfl) rfl #[.int .i64 (rd l2 1)] (by rfl) rfl rfl (by (try simp only [List.map_toArray, List.map_cons, List.map_nil]); first | done | rfl | (simp only [List.length_drop, List.length_take]; rfl)) ?_
   with_reducible refine (impl_SignedOf.calls (rd l2 1) t287 _ A30.out).mono ?_
   rintro e w' ⟨rfl, ⟨nd, rfl⟩⟩
   refine ⟨_, rfl, ?_⟩
   refine hK.out _ _ (((HB.out.cell (World.block_lt_of_cell? w _ hw286_0)).trans hw286_0)) (fun hHeld => ?_)
   clear hK K
   refine norm_ (a' := ?_) ?_ ?_
   rotate_left
   ·
    show Act.put _ (some 63) _ = _
    simp only [Act.put, List.setIfInBounds_toArray, List.set_cons_zero, List.set_cons_succ, i64_w, i32_w]
    rfl
   refine pure_ (i := 6) (N := some 64) (v := ?_) (a' := ?_) #[true, true, true, true, true, true, true] rfl rfl (by kernel_rfl) (fun _ _ _ h => h) (Or.inl ⟨by rfl, ?_⟩) ?_ ?_
   rotate_left
   ·
    intro w'
    go_simp
    with_reducible rfl
   rotate_left
   ·
    simp only [Act.put, List.setIfInBounds_toArray, List.set_cons_zero, List.set_cons_succ, i64_w, i32_w]
    rfl
   refine done_ (by kernel_rfl) ?_
   try go_wp2
   go_meet
   case rel => exact ⟨_, (rd l1 0), (by first | rfl | (simp; done) | (simp [*]; done)), (by first | rfl | (simp; done) | (simp [*]; done)), H', ⟨by first | omega | exact Nat.le_refl _⟩, ⟨by repeat (first | (with_reducible first | exact HB.out | apply below_alloc | apply pw_below_drewN | apply below_drew1) | exact HB.out)⟩⟩
  rw [if_pos c31] at H
  have c31b0 : decide (t285 < t287) = true := decide_eq_true c31
  clear c31
  replace H := Option.bind_eq_some_iff.mp H
  obtain ⟨t288, A320, H⟩ := H
  replace H : (impl_blockStepK.j1 k l2 ((rd l2 0) != 0) t288) = some r := H
  have A32 := Aside0.mk A320
  clear A320
  have H' := Aside0.mk H
  clear H
  try go_wp2
  have n0_ := Aside0.mk (below_drew1 HB.out)
  clear HB
  have HB := n0_
  clear n0_
  have p286 : 0 ≤ (1 : Int) := (by omega)
  have q286 : 1 < (l2.length : Int) := of_decide_eq_true ‹_›
  obtain ⟨ad286, e286, hx286_0⟩ := Kd.at_int HR2.out 1 p286 q286
  have hw286_0 := hx286_0
  (try rw [show ((1 : Int)).toNat = 1 from rfl] at hw286_0)
  (try rw [show 1 * 1 = 1 from rfl] at hw286_0)
  (try simp only [Nat.reduceMul, Nat.reduceEqDiff, Go.Addr.add, ↓reduceIte] at hw286_0)
  obtain rfl : ad270 = ad286 := (by injection e286)
  (try simp only [show (1 : Int).toNat = 1 from rfl, Nat.reduceMul, Nat.reduceEqDiff, Go.Addr.add, ↓reduceIte] at hx286_0)
  have qi286 : (1 < l2.length) = True := eq_true (by omega)
  (try rw [show ((1 : Int)).toNat = 1 from rfl] at hx286_0)
  replace hx286_0 := (HB.out.cell (World.block_lt_of_cell? w _ hx286_0)).trans hx286_0
  replace p286 := eq_true p286
  replace q286 := eq_true q286
  refine start_ (n := 7) (S := fun w' => w'.cell? ⟨ad270.block, ad270.off + 1, none⟩ = some (.int .i64 (rd l2 1))) (ds := []) #[false, false, false, false, false, false, false] (by kernel_rfl) rfl rfl (((HB.out.cell (World.block_lt_of_cell? w _ hw286_0)).trans hw286_0)) (fun hHeld => ?_)
  generalize w.drew = w33 at HB hx286_0 hHeld ⊢
  refine pure_ (i := 0) (N := some 58) (v := ?_) (a' := ?_) #[true, false, false, false, false, false, false] rfl rfl (by kernel_rfl) (fun _ _ _ h => h) (Or.inl ⟨by rfl, ?_⟩) ?_ ?_
  rotate_left
  ·
   intro w'
   go_simp
   with_reducible rfl
  rotate_left
  ·
   simp only [Act.put, List.setIfInBounds_toArray, List.set_cons_zero, List.set_cons_succ, i64_w, i32_w]
   rfl
  refine pure_ (i := 2) (N := some 60) (v := ?_) (a' := ?_) #[true, false, true, false, false, false, false] rfl rfl (by kernel_rfl) (fun _ _ _ h => h) (Or.inl ⟨by rfl, ?_⟩) ?_ ?_
  rotate_left
  ·
   intro w'
   go_simp
   with_reducible rfl
  rotate_left
  ·
   simp only [Act.put, List.setIfInBounds_toArray, List.set_cons_zero, List.set_cons_succ, i64_w, i32_w]
   rfl
  refine pure_ (i := 3) (N := some 61) (v := ?_) (a' := ?_) #[true, false, true, true, false, false, false] rfl rfl (by kernel_rfl) (fun _ _ _ h => h) (Or.inl ⟨by rfl, ?_⟩) ?_ ?_
  rotate_left
  ·
   intro w'
   go_simp
   with_reducible rfl
  rotate_left
  ·
   simp only [Act.put, List.setIfInBounds_toArray, List.set_cons_zero, List.set_cons_succ, i64_w, i32_w]
   rfl
  refine take_ (i := 4) (N := some 62) (v := ?_) (a' := ?_) #[true, false, true, true, true, false, false] rfl rfl (by kernel_rfl) (fun _ _ _ h => h) (Or.inl ⟨by rfl, ?_⟩) hHeld ?_ ?_
  rotate_left
  ·
   intro w' s0
   go_simp
   with_reducible rfl
  rotate_left
  ·
   simp only [Act.put, List.setIfInBounds_toArray, List.set_cons_zero, List.set_cons_succ, i64_w, i32_w]
   rfl
  refine one_ (i := 1) (N := some 59) #[true, true, true, true, true, false, false] rfl rfl (by kernel_rfl) (by decide) (fun K hK => ?_)
  refine goes_ Try.func94 (by kernel_rfl) rfl #[.int .i64 (rd l1 0)] (by rfl) rfl rfl (by (try simp only [List.map_toArray, List.map_cons, List.map_nil]); first | done | rfl | (simp only [List.length_drop, List.length_take]; rfl)) ?_
  with_reducible refine (impl_SignedOf.calls (rd l1 0) t285 _ A28.out).mono ?_
  rintro e w' ⟨rfl, ⟨nd, rfl⟩⟩
  refine ⟨_, rfl, ?_⟩
  refine hK.out _ _ (((HB.out.cell (World.block_lt_of_cell? w _ hw286_0)).trans hw286_0)) (fun hHeld => ?_)
  clear hK K
  refine norm_ (a' := ?_) ?_ ?_
  rotate_left
  ·
   show Act.put _ (some 59) _ = _
   simp only [Act.put, List.setIfInBounds_toArray, List.set_cons_zero, List.set_cons_succ, i64_w, i32_w]
   rfl
  refine one_ (i := 5) (N := some 63) #[true, true, true, true, true, true, false] rfl rfl (by kernel_rfl) (by decide) (fun K hK => ?_)
  refine goes_ Try.func94 (by kernel_rfl) rfl #[.int .i64 (rd l2 1)] (by rfl) rfl rfl (by (try simp only [List.map_toArray, List.map_cons, List.map_nil]); first | done | rfl | (simp only [List.length_drop, List.length_take]; rfl)) ?_
  with_reducible refine (impl_SignedOf.calls (rd l2 1) t287 _ A30.out).mono ?_
  rintro e w' ⟨rfl, ⟨nd, rfl⟩⟩
  refine ⟨_, rfl, ?_⟩
  refine hK.out _ _ (((HB.out.cell (World.block_lt_of_cell? w _ hw286_0)).trans hw286_0)) (fun hHeld => ?_)
  clear hK K
  refine norm_ (a' := ?_) ?_ ?_
  rotate_left
  ·
   show Act.put _ (some 63) _ = _
   simp only [Act.put, List.setIfInBounds_toArray, List.set_cons_zero, List.set_cons_succ, i64_w, i32_w]
   rfl
  refine pure_ (i := 6) (N := some 64) (v := ?_) (a' := ?_) #[true, true, true, true, true, true, true] rfl rfl (by kernel_rfl) (fun _ _ _ h => h) (Or.inl ⟨by rfl, ?_⟩) ?_ ?_
  rotate_left
  ·
   intro w'
   go_simp
   with_reducible rfl
  rotate_left
  ·
   simp only [Act.put, List.setIfInBounds_toArray, List.set_cons_zero, List.set_cons_succ, i64_w, i32_w]
   rfl
  refine done_ (by kernel_rfl) ?_
  try go_wp2_with (first | ((with_reducible refine gate_callee (f := 93) rfl ?_); refine goesL_ (some 67) rfl rfl Try.func93 (by kernel_rfl) rfl #[.int .i64 (wrap64 ((rd l1 0) + 1))] rfl (by (try simp only [List.map_toArray, List.map_cons, List.map_nil]); first | done | rfl | (simp only [List.length_drop, List.length_take]; rfl)) ?_; (with_reducible refine (impl_WordOf.calls (wrap64 ((rd l1 0) + 1)) t288 _ A32.out).mono ?_); rintro e w' ⟨rfl, ⟨nd, rfl⟩⟩; refine ⟨_, rfl, ?_⟩))
  go_meet
  case rel => exact ⟨_, (t288), (by first | rfl | (simp; done) | (simp [*]; done)), (by first | rfl | (simp; done) | (simp [*]; done)), H', ⟨by first | omega | exact Nat.le_refl _⟩, ⟨by repeat (first | (with_reducible first | exact HB.out | apply below_alloc | apply pw_below_drewN | apply below_drew1) | exact HB.out)⟩⟩
 case rest =>
  clear HC26
  try clear c1
  try clear c2
  try clear p2
  try clear q2
  try clear hx2
  try clear qi2
  try clear c3
  try clear c4
  try clear c4b0
  try clear c4b1
  try clear c5
  try clear c5b0
  try clear c5b1
  try clear c6
  try clear c6b0
  try clear c6b1
  try clear p6
  try clear c7
  try clear c7b0
  try clear c7b1
  try clear c8
  try clear c9
  try clear c9b0
  try clear c9b1
  try clear c10
  try clear c10b0
  try clear c10b1
  try clear c11
  try clear c11b0
  try clear c11b1
  try clear c12
  try clear c12b0
  try clear c12b1
  try clear c14
  try clear c14b0
  try clear c18
  try clear c18b0
  try clear c18b1
  try clear c24
  try clear c24b0
  try clear c24b1
  try clear c25
  try clear c25b0
  try clear c25b1
  try clear c27
  try clear c27b0
  try clear c27b1
  try clear p27
  try clear q27
  try clear hx27
  try clear qi27
  try clear p28
  try clear q28
  try clear hx28
  try clear qi28
  try clear c29
  try clear c29b0
  try clear c29b1
  try clear c31
  try clear c31b0
  try clear hx270_0
  try clear hx271_0
  try clear hx272_0
  try clear hx273_0
  try clear hx278_0
  try clear hx284_0
  try clear hx286_0
  try clear p2
  try clear p270
  try clear p271
  try clear p272
  try clear p273
  try clear p278
  try clear p284
  try clear p286
  try clear p6
  try clear q2
  try clear q270
  try clear q271
  try clear q272
  try clear q273
  try clear q278
  try clear q284
  try clear q286
  obtain ⟨kq, x9_25, rfl, rfl, HA, HJ25, HB⟩ := hcut
  cases kq with
  | zero => exact absurd HA.out (by simp [impl_blockStepK.j1])
  | succ kj25 =>
   have H := HA.out
   clear HA
   simp only [impl_blockStepK.j1] at H
   by_cases c35 : ((rd l2 0) != 0) = true
   case neg =>
    rw [if_neg c35] at H
    have c35b0 : ((rd l2 0) != 0) = false := by simpa using c35
    (try (have c35b1 : decide ((rd l2 0) = 0) = true := by simpa using c35))
    (try (have c35b2 : ((rd l2 0) == 0) = true := by simpa using c35))
    clear c35
    replace H := Option.bind_eq_some_iff.mp H
    obtain ⟨t296, A430, H⟩ := H
    replace H : (some (([x9_25, t296] : List Int))) = some r := H
    have A43 := Aside0.mk A430
    clear A430
    obtain ⟨y297, hy297⟩ : ∃ y_ : List Int, y_ = (([x9_25, t296] : List Int)) := ⟨_, rfl⟩
    replace H : (some y297) = some r := by first | (rw [hy297]; with_reducible exact H) | (have H2_ := (Option.bind_some _ _).symm.trans H; rw [hy297]; with_reducible exact H2_) | (have H2_ := (Option.bind_some _ _).symm.trans H; with_reducible exact H2_) | with_reducible exact H | (rw [hy297]; exact H) | exact H
    have Ny297 := Aside0.mk hy297
    clear hy297
    obtain rfl := Option.some.inj H
    try go_wp2
    have n0_ := Aside0.mk (below_drew1 HB.out)
    clear HB
    have HB := n0_
    clear n0_
    refine start_ (n := 14) (S := fun w' => True) (ds := []) #[false, false, false, false, false, false, false, false, false, false, false, false, false, false] (by kernel_rfl) rfl rfl trivial (fun hHeld => ?_); refine with_tabW impl_blockStepK.tab16 impl_blockStepK.bits16 (fun HT_ HW_ => ?_)
    generalize wc.drew = w44 at HB hHeld ⊢
    refine pure_ (i := 0) (N := some 68) (v := ?_) (a' := ?_) #[true, false, false, false, false, false, false, false, false, false, false, false, false, false] rfl rfl (any_of HT_.out (by kernel_rfl)) (fun _ _ _ h => h) (Or.inl ⟨by rfl, ?_⟩) ?_ ?_
    rotate_left
    ·
     intro w'
     go_simp
     with_reducible rfl
    rotate_left
    ·
     simp only [Act.put, List.setIfInBounds_toArray, List.set_cons_zero, List.set_cons_succ, i64_w, i32_w]
     rfl
    refine pure_ (i := 1) (N := some 69) (v := ?_) (a' := ?_) #[true, true, false, false, false, false, false, false, false, false, false, false, false, false] rfl rfl (any_of HT_.out (by kernel_rfl)) (fun _ _ _ h => h) (Or.inl ⟨by rfl, ?_⟩) ?_ ?_
    rotate_left
    ·
     intro w'
     go_simp
     with_reducible rfl
    rotate_left
    ·
     simp only [Act.put, List.setIfInBounds_toArray, List.set_cons_zero, List.set_cons_succ, i64_w, i32_w]
     rfl
    refine pure_ (i := 2) (N := some 70) (v := ?_) (a' := ?_) #[true, true, true, false, false, false, false, false, false, false, false, false, false, false] rfl rfl (any_of HT_.out (by kernel_rfl)) (fun _ _ _ h => h) (Or.inl ⟨by rfl, ?_⟩) ?_ ?_
    rotate_left
    ·
     intro w'
     go_simp
     with_reducible rfl
    rotate_left
    ·
     simp only [Act.put, List.setIfInBounds_toArray, List.set_cons_zero, List.set_cons_succ, i64_w, i32_w]
     rfl
    refine pure_ (i := 3) (N := some 71) (v := undef) (a' := ?_) #[true, true, true, true, false, false, false, false, false, false, false, false, false, false] rfl rfl (any_of HT_.out (by kernel_rfl)) (fun _ _ _ h => h) (Or.inr ⟨by rfl, rfl⟩) ?_ ?_
    rotate_left
    ·
     simp only [Act.put, List.setIfInBounds_toArray, List.set_cons_zero, List.set_cons_succ, i64_w, i32_w]
     rfl
    refine pure_ (i := 4) (N := some 72) (v := undef) (a' := ?_) #[true, true, true, true, true, false, false, false, false, false, false, false, false, false] rfl rfl (any_of HT_.out (by kernel_rfl)) (fun _ _ _ h => h) (Or.inr ⟨by rfl, rfl⟩) ?_ ?_
    rotate_left
    ·
     simp only [Act.put, List.setIfInBounds_toArray, List.set_cons_zero, List.set_cons_succ, i64_w, i32_w]
     rfl
    refine pure_ (i := 5) (N := some 73) (v := undef) (a' := ?_) #[true, true, true, true, true, true, false, false, false, false, false, false, false, false] rfl rfl (any_of HT_.out (by kernel_rfl)) (fun _ _ _ h => h) (Or.inr ⟨by rfl, rfl⟩) ?_ ?_
    rotate_left
    ·
     simp only [Act.put, List.setIfInBounds_toArray, List.set_cons_zero, List.set_cons_succ, i64_w, i32_w]
     rfl
    refine pure_ (i := 6) (N := some 74) (v := undef) (a' := ?_) #[true, true, true, true, true, true, true, false, false, false, false, false, false, false] rfl rfl (any_of HT_.out (by kernel_rfl)) (fun _ _ _ h => h) (Or.inr ⟨by rfl, rfl⟩) ?_ ?_
    rotate_left
    ·
     simp only [Act.put, List.setIfInBounds_toArray, List.set_cons_zero, List.set_cons_succ, i64_w, i32_w]
     rfl
    refine pure_ (i := 7) (N := some 75) (v := undef) (a' := ?_) #[true, true, true, true, true, true, true, true, false, false, false, false, false, false] rfl rfl (any_of HT_.out (by kernel_rfl)) (fun _ _ _ h => h) (Or.inr ⟨by rfl, rfl⟩) ?_ ?_
    rotate_left
    ·
     simp only [Act.put, List.setIfInBounds_toArray, List.set_cons_zero, List.set_cons_succ, i64_w, i32_w]
     rfl
    refine pure_ (i := 8) (N := some 76) (v := undef) (a' := ?_) #[true, true, true, true, true, true, true, true, true, false, false, false, false, false] rfl rfl (any_of HT_.out (by kernel_rfl)) (fun _ _ _ h => h) (Or.inr ⟨by rfl, rfl⟩) ?_ ?_
    rotate_left
    ·
     simp only [Act.put, List.setIfInBounds_toArray, List.set_cons_zero, List.set_cons_succ, i64_w, i32_w]
     rfl
    refine pure_ (i := 9) (N := some 77) (v := undef) (a' := ?_) #[true, true, true, true, true, true, true, true, true, true, false, false, false, false] rfl rfl (any_of HT_.out (by kernel_rfl)) (fun _ _ _ h => h) (Or.inr ⟨by rfl, rfl⟩) ?_ ?_
    rotate_left
    ·
     simp only [Act.put, List.setIfInBounds_toArray, List.set_cons_zero, List.set_cons_succ, i64_w, i32_w]
     rfl
    refine pure_ (i := 10) (N := some 78) (v := ?_) (a' := ?_) #[true, true, true, true, true, true, true, true, true, true, true, false, false, false] rfl rfl (any_of HT_.out (by kernel_rfl)) (fun _ _ _ h => h) (Or.inl ⟨by rfl, ?_⟩) ?_ ?_
    rotate_left
    ·
     intro w'
     go_simp
     with_reducible rfl
    rotate_left
    ·
     simp only [Act.put, List.setIfInBounds_toArray, List.set_cons_zero, List.set_cons_succ, i64_w, i32_w]
     rfl
    refine one_ (i := 11) (N := some 79) #[true, true, true, true, true, true, true, true, true, true, true, true, false, false] rfl rfl (one_of HT_.out (by kernel_rfl)) (by decide) (fun K hK => ?_)
    refine goes_ Try.func95 (by kernel_rfl) rfl #[.bool false] (by rfl) rfl rfl (by (try simp only [List.map_toArray, List.map_cons, List.map_nil]); first | done | rfl | (simp only [List.length_drop, List.length_take]; rfl)) ?_
    with_reducible refine (impl_flag.calls false t296 _ A43.out).mono ?_
    rintro e w' ⟨rfl, ⟨nd, rfl⟩⟩
    refine ⟨_, rfl, ?_⟩
    refine hK.out _ _ trivial (fun hHeld => ?_)
    clear hK K
    refine norm_ (a' := ?_) ?_ ?_
    rotate_left
    ·
     show Act.put _ (some 79) _ = _
     simp only [Act.put, List.setIfInBounds_toArray, List.set_cons_zero, List.set_cons_succ, i64_w, i32_w]
     rfl
    refine one_ (i := 12) (N := some 80) #[true, true, true, true, true, true, true, true, true, true, true, true, true, false] rfl rfl (one_of HT_.out (by kernel_rfl)) (by decide) (fun K hK => ?_)
    refine Kd.R_lit_step (Kd.int .i64) _ 2 ?hg (N := 80) ?hd (xs := ([x9_25, t296] : List Int)) (inner := [.int .i64 x9_25, .int .i64 t296]) (ok := fun _ => True) (okp := fun _ => True) ?hr ?hp (fun _ hk => hk) trivial (Below.refl _ _) (Nat.le_refl _) (by simp) ?_; (case hd => rfl); (case hg => rfl); (case hr => go_simp); (case hp => exact (Reps.one (show Kd.M (Kd.int .i64) _ _ _ x9_25 [.int .i64 x9_25] from rfl) (Reps.one (show Kd.M (Kd.int .i64) _ _ _ t296 [.int .i64 t296] from rfl) (Reps.none _ _))))
    intro v298 w45 ho46 hb hg_ hnew_
    clear hg_ hnew_
    (first | rw [← Ny297.out] at ho46 | (simp only [Int.reduceToNat] at ho46; rw [← Ny297.out] at ho46))
    have n0_ := Aside0.mk (Kd.R_lower ho46 (below_size (by repeat (first | (with_reducible first | exact HB.out | apply below_alloc | apply pw_below_drewN | apply below_drew1) | exact HB.out))))
    have n1_ := Aside0.mk (below_step (by repeat (first | (with_reducible first | exact HB.out | apply below_alloc | apply pw_below_drewN | apply below_drew1) | exact HB.out)) hb)
    clear HB
    have HO299 := n0_
    have HB := n1_
    clear n0_ n1_
    clear hb ho46
    refine hK.out _ _ trivial (fun hHeld => ?_)
    clear hK K
    refine norm_ (a' := ?_) ?_ ?_
    rotate_left
    ·
     show Act.put _ (some 80) _ = _
     simp only [Act.put, List.setIfInBounds_toArray, List.set_cons_zero, List.set_cons_succ, i64_w, i32_w]
     rfl
    refine pure_ (i := 13) (N := some 6) (v := ?_) (a' := ?_) #[true, true, true, true, true, true, true, true, true, true, true, true, true, true] rfl rfl (any_of HT_.out (by kernel_rfl)) (fun _ _ _ h => h) (Or.inl ⟨by rfl, ?_⟩) ?_ ?_
    rotate_left
    ·
     intro w'
     go_simp
     with_reducible rfl
    rotate_left
    ·
     simp only [Act.put, List.setIfInBounds_toArray, List.set_cons_zero, List.set_cons_succ, i64_w, i32_w]
     rfl
    refine done_ (done_of HT_.out (by kernel_rfl)) ?_
    try go_wp2
    go_ret
    exact ⟨_, by first | rfl | (simp [*] <;> rfl), by (with_reducible repeat (first | apply Kd.R_alloc | apply Kd.R_drewN | apply Kd.R_drew)); exact HO299.out, HB.out⟩
   rw [if_pos c35] at H
   have c35b0 : ((rd l2 0) != 0) = true := c35
   (try (have c35b1 : decide ((rd l2 0) = 0) = false := by simpa using c35))
   (try (have c35b2 : ((rd l2 0) == 0) = false := by simpa using c35))
   (try (have c35b3 : ¬ ((rd l2 0) = 0) := by simpa using c35))
   clear c35
   replace H := Option.bind_eq_some_iff.mp H
   obtain ⟨t289, A360, H⟩ := H
   replace H : (if 1 < (l2.length : Int) then ((impl_SignedOf.f (rd l2 1)).bind fun t291 => ((impl_flag.f (decide (t289 ≥ t291))).bind fun t292 => (some (([x9_25, t292] : List Int))))) else (none)) = some r := H
   have A36 := Aside0.mk A360
   clear A360
   by_cases c37 : 1 < (l2.length : Int)
   case neg =>
    rw [if_neg c37] at H
    exact absurd H (by simp)
   rw [if_pos c37] at H
   have c37b0 : decide (1 < (l2.length : Int)) = true := decide_eq_true c37
   have c37b1 : decide (1 < l2.length) = true := decide_eq_true (by omega)
   clear c37
   replace H := Option.bind_eq_some_iff.mp H
   obtain ⟨t291, A380, H⟩ := H
   replace H : ((impl_flag.f (decide (t289 ≥ t291))).bind fun t292 => (some (([x9_25, t292] : List Int)))) = some r := H
   have A38 := Aside0.mk A380
   clear A380
   replace H := Option.bind_eq_some_iff.mp H
   obtain ⟨t292, A390, H⟩ := H
   replace H : (some (([x9_25, t292] : List Int))) = some r := H
   have A39 := Aside0.mk A390
   clear A390
   obtain ⟨y293, hy293⟩ : ∃ y_ : List Int, y_ = (([x9_25, t292] : List Int)) := ⟨_, rfl⟩
   replace H : (some y293) = some r := by first | (rw [hy293]; with_reducible exact H) | (have H2_ := (Option.bind_some _ _).symm.trans H; rw [hy293]; with_reducible exact H2_) | (have H2_ := (Option.bind_some _ _).symm.trans H; with_reducible exact H2_) | with_reducible exact H | (rw [hy293]; exact H) | exact H
   have Ny293 := Aside0.mk hy293
   clear hy293
   obtain rfl := Option.some.inj H
   try go_wp2
   have n0_ := Aside0.mk (below_drew1 HB.out)
   clear HB
   have HB := n0_
   clear n0_
   have p290 : 0 ≤ (1 : Int) := (by omega)
   have q290 : 1 < (l2.length : Int) := of_decide_eq_true ‹_›
   obtain ⟨ad290, e290, hx290_0⟩ := Kd.at_int HR2.out 1 p290 q290
   have hw290_0 := hx290_0
   (try rw [show ((1 : Int)).toNat = 1 from rfl] at hw290_0)
   (try rw [show 1 * 1 = 1 from rfl] at hw290_0)
   (try simp only [Nat.reduceMul, Nat.reduceEqDiff, Go.Addr.add, ↓reduceIte] at hw290_0)
   obtain rfl : ad270 = ad290 := (by injection e290)
   (try simp only [show (1 : Int).toNat = 1 from rfl, Nat.reduceMul, Nat.reduceEqDiff, Go.Addr.add, ↓reduceIte] at hx290_0)
   have qi290 : (1 < l2.length) = True := eq_true (by omega)
   (try rw [show ((1 : Int)).toNat = 1 from rfl] at hx290_0)
   replace hx290_0 := (HB.out.cell (World.block_lt_of_cell? w _ hx290_0)).trans hx290_0
   replace p290 := eq_true p290
   replace q290 := eq_true q290
   refine start_ (n := 14) (S := fun w' => w'.cell? ⟨ad270.block, ad270.off + 1, none⟩ = some (.int .i64 (rd l2 1))) (ds := []) #[false, false, false, false, false, false, false, false, false, false, false, false, false, false] (by kernel_rfl) rfl rfl (((HB.out.cell (World.block_lt_of_cell? w _ hw290_0)).trans hw290_0)) (fun hHeld => ?_); refine with_tabW impl_blockStepK.tab16 impl_blockStepK.bits16 (fun HT_ HW_ => ?_)
   generalize wc.drew = w40 at HB hx290_0 hHeld ⊢
   refine pure_ (i := 0) (N := some 68) (v := ?_) (a' := ?_) #[true, false, false, false, false, false, false, false, false, false, false, false, false, false] rfl rfl (any_of HT_.out (by kernel_rfl)) (fun _ _ _ h => h) (Or.inl ⟨by rfl, ?_⟩) ?_ ?_
   rotate_left
   ·
    intro w'
    go_simp
    with_reducible rfl
   rotate_left
   ·
    simp only [Act.put, List.setIfInBounds_toArray, List.set_cons_zero, List.set_cons_succ, i64_w, i32_w]
    rfl
   refine pure_ (i := 1) (N := some 69) (v := ?_) (a' := ?_) #[true, true, false, false, false, false, false, false, false, false, false, false, false, false] rfl rfl (any_of HT_.out (by kernel_rfl)) (fun _ _ _ h => h) (Or.inl ⟨by rfl, ?_⟩) ?_ ?_
   rotate_left
   ·
    intro w'
    go_simp
    with_reducible rfl
   rotate_left
   ·
    simp only [Act.put, List.setIfInBounds_toArray, List.set_cons_zero, List.set_cons_succ, i64_w, i32_w]
    rfl
   refine pure_ (i := 2) (N := some 70) (v := ?_) (a' := ?_) #[true, true, true, false, false, false, false, false, false, false, false, false, false, false] rfl rfl (any_of HT_.out (by kernel_rfl)) (fun _ _ _ h => h) (Or.inl ⟨by rfl, ?_⟩) ?_ ?_
   rotate_left
   ·
    intro w'
    go_simp
    with_reducible rfl
   rotate_left
   ·
    simp only [Act.put, List.setIfInBounds_toArray, List.set_cons_zero, List.set_cons_succ, i64_w, i32_w]
    rfl
   refine pure_ (i := 3) (N := some 71) (v := ?_) (a' := ?_) #[true, true, true, true, false, false, false, false, false, false, false, false, false, false] rfl rfl (any_of HT_.out (by kernel_rfl)) (fun _ _ _ h => h) (Or.inl ⟨by rfl, ?_⟩) ?_ ?_
   rotate_left
   ·
    intro w'
    go_simp
    with_reducible rfl
   rotate_left
   ·
    simp only [Act.put, List.setIfInBounds_toArray, List.set_cons_zero, List.set_cons_succ, i64_w, i32_w]
    rfl
   refine pure_ (i := 5) (N := some 73) (v := ?_) (a' := ?_) #[true, true, true, true, false, true, false, false, false, false, false, false, false, false] rfl rfl (any_of HT_.out (by kernel_rfl)) (fun _ _ _ h => h) (Or.inl ⟨by rfl, ?_⟩) ?_ ?_
   rotate_left
   ·
    intro w'
    go_simp
    with_reducible rfl
   rotate_left
   ·
    simp only [Act.put, List.setIfInBounds_toArray, List.set_cons_zero, List.set_cons_succ, i64_w, i32_w]
    rfl
   refine pure_ (i := 6) (N := some 74) (v := ?_) (a' := ?_) #[true, true, true, true, false, true, true, false, false, false, false, false, false, false] rfl rfl (any_of HT_.out (by kernel_rfl)) (fun _ _ _ h => h) (Or.inl ⟨by rfl, ?_⟩) ?_ ?_
   rotate_left
   ·
    intro w'
    go_simp
    with_reducible rfl
   rotate_left
   ·
    simp only [Act.put, List.setIfInBounds_toArray, List.set_cons_zero, List.set_cons_succ, i64_w, i32_w]
    rfl
   refine take_ (i := 7) (N := some 75) (v := ?_) (a' := ?_) #[true, true, true, true, false, true, true, true, false, false, false, false, false, false] rfl rfl (take_ofW HT_.out HW_.out (by kernel_rfl)) (fun _ _ _ h => h) (Or.inl ⟨by rfl, ?_⟩) hHeld ?_ ?_
   rotate_left
   ·
    intro w' s0
    go_simp
    with_reducible rfl
   rotate_left
   ·
    simp only [Act.put, List.setIfInBounds_toArray, List.set_cons_zero, List.set_cons_succ, i64_w, i32_w]
    rfl
   refine one_ (i := 4) (N := some 72) #[true, true, true, true, true, true, true, true, false, false, false, false, false, false] rfl rfl (one_of HT_.out (by kernel_rfl)) (by decide) (fun K hK => ?_)
   refine goes_ Try.func94 (by kernel_rfl) rfl #[.int .i64 x9_25] (by rfl) rfl rfl (by (try simp only [List.map_toArray, List.map_cons, List.map_nil]); first | done | rfl | (simp only [List.length_drop, List.length_take]; rfl)) ?_
   with_reducible refine (impl_SignedOf.calls x9_25 t289 _ A36.out).mono ?_
   rintro e w' ⟨rfl, ⟨nd, rfl⟩⟩
   refine ⟨_, rfl, ?_⟩
   refine hK.out _ _ (((HB.out.cell (World.block_lt_of_cell? w _ hw290_0)).trans hw290_0)) (fun hHeld => ?_)
   clear hK K
   refine norm_ (a' := ?_) ?_ ?_
   rotate_left
   ·
    show Act.put _ (some 72) _ = _
    simp only [Act.put, List.setIfInBounds_toArray, List.set_cons_zero, List.set_cons_succ, i64_w, i32_w]
    rfl
   refine one_ (i := 8) (N := some 76) #[true, true, true, true, true, true, true, true, true, false, false, false, false, false] rfl rfl (one_of HT_.out (by kernel_rfl)) (by decide) (fun K hK => ?_)
   refine goes_ Try.func94 (by kernel_rfl) rfl #[.int .i64 (rd l2 1)] (by rfl) rfl rfl (by (try simp only [List.map_toArray, List.map_cons, List.map_nil]); first | done | rfl | (simp only [List.length_drop, List.length_take]; rfl)) ?_
   with_reducible refine (impl_SignedOf.calls (rd l2 1) t291 _ A38.out).mono ?_
   rintro e w' ⟨rfl, ⟨nd, rfl⟩⟩
   refine ⟨_, rfl, ?_⟩
   refine hK.out _ _ (((HB.out.cell (World.block_lt_of_cell? w _ hw290_0)).trans hw290_0)) (fun hHeld => ?_)
   clear hK K
   refine norm_ (a' := ?_) ?_ ?_
   rotate_left
   ·
    show Act.put _ (some 76) _ = _
    simp only [Act.put, List.setIfInBounds_toArray, List.set_cons_zero, List.set_cons_succ, i64_w, i32_w]
    rfl
   refine pure_ (i := 9) (N := some 77) (v := ?_) (a' := ?_) #[true, true, true, true, true, true, true, true, true, true, false, false, false, false] rfl rfl (any_of HT_.out (by kernel_rfl)) (fun _ _ _ h => h) (Or.inl ⟨by rfl, ?_⟩) ?_ ?_
   rotate_left
   ·
    intro w'
    go_simp
    with_reducible rfl
   rotate_left
   ·
    simp only [Act.put, List.setIfInBounds_toArray, List.set_cons_zero, List.set_cons_succ, i64_w, i32_w]
    rfl
   refine pure_ (i := 10) (N := some 78) (v := ?_) (a' := ?_) #[true, true, true, true, true, true, true, true, true, true, true, false, false, false] rfl rfl (any_of HT_.out (by kernel_rfl)) (fun _ _ _ h => h) (Or.inl ⟨by rfl, ?_⟩) ?_ ?_
   rotate_left
   ·
    intro w'
    go_simp
    with_reducible rfl
   rotate_left
   ·
    simp only [Act.put, List.setIfInBounds_toArray, List.set_cons_zero, List.set_cons_succ, i64_w, i32_w]
    rfl
   refine one_ (i := 11) (N := some 79) #[true, true, true, true, true, true, true, true, true, true, true, true, false, false] rfl rfl (one_of HT_.out (by kernel_rfl)) (by decide) (fun K hK => ?_)
   refine goes_ Try.func95 (by kernel_rfl) rfl #[.bool (decide (t289 ≥ t291))] (by rfl) rfl rfl (by (try simp only [List.map_toArray, List.map_cons, List.map_nil]); first | done | rfl | (simp only [List.length_drop, List.length_take]; rfl)) ?_
   with_reducible refine (impl_flag.calls (decide (t289 ≥ t291)) t292 _ A39.out).mono ?_
   rintro e w' ⟨rfl, ⟨nd, rfl⟩⟩
   refine ⟨_, rfl, ?_⟩
   refine hK.out _ _ (((HB.out.cell (World.block_lt_of_cell? w _ hw290_0)).trans hw290_0)) (fun hHeld => ?_)
   clear hK K
   refine norm_ (a' := ?_) ?_ ?_
   rotate_left
   ·
    show Act.put _ (some 79) _ = _
    simp only [Act.put, List.setIfInBounds_toArray, List.set_cons_zero, List.set_cons_succ, i64_w, i32_w]
    rfl
   refine one_ (i := 12) (N := some 80) #[true, true, true, true, true, true, true, true, true, true, true, true, true, false] rfl rfl (one_of HT_.out (by kernel_rfl)) (by decide) (fun K hK => ?_)
   refine Kd.R_lit_step (Kd.int .i64) _ 2 ?hg (N := 80) ?hd (xs := ([x9_25, t292] : List Int)) (inner := [.int .i64 x9_25, .int .i64 t292]) (ok := fun _ => True) (okp := fun _ => True) ?hr ?hp (fun _ hk => hk) trivial (Below.refl _ _) (Nat.le_refl _) (by simp) ?_; (case hd => rfl); (case hg => rfl); (case hr => go_simp); (case hp => exact (Reps.one (show Kd.M (Kd.int .i64) _ _ _ x9_25 [.int .i64 x9_25] from rfl) (Reps.one (show Kd.M (Kd.int .i64) _ _ _ t292 [.int .i64 t292] from rfl) (Reps.none _ _))))
   intro v294 w41 ho42 hb hg_ hnew_
   clear hg_ hnew_
   (first | rw [← Ny293.out] at ho42 | (simp only [Int.reduceToNat] at ho42; rw [← Ny293.out] at ho42))
   have n0_ := Aside0.mk (Kd.R_lower ho42 (below_size (by repeat (first | (with_reducible first | exact HB.out | apply below_alloc | apply pw_below_drewN | apply below_drew1) | exact HB.out))))
   have n1_ := Aside0.mk (below_step (by repeat (first | (with_reducible first | exact HB.out | apply below_alloc | apply pw_below_drewN | apply below_drew1) | exact HB.out)) hb)
   clear HB
   have HO295 := n0_
   have HB := n1_
   clear n0_ n1_
   clear hb ho42
   refine hK.out _ _ (((HB.out.cell (World.block_lt_of_cell? w _ hw290_0)).trans hw290_0)) (fun hHeld => ?_)
   clear hK K
   refine norm_ (a' := ?_) ?_ ?_
   rotate_left
   ·
    show Act.put _ (some 80) _ = _
    simp only [Act.put, List.setIfInBounds_toArray, List.set_cons_zero, List.set_cons_succ, i64_w, i32_w]
    rfl
   refine pure_ (i := 13) (N := some 6) (v := ?_) (a' := ?_) #[true, true, true, true, true, true, true, true, true, true, true, true, true, true] rfl rfl (any_of HT_.out (by kernel_rfl)) (fun _ _ _ h => h) (Or.inl ⟨by rfl, ?_⟩) ?_ ?_
   rotate_left
   ·
    intro w'
    go_simp
    with_reducible rfl
   rotate_left
   ·
    simp only [Act.put, List.setIfInBounds_toArray, List.set_cons_zero, List.set_cons_succ, i64_w, i32_w]
    rfl
   refine done_ (done_of HT_.out (by kernel_rfl)) ?_
   try go_wp2
   go_ret
   exact ⟨_, by first | rfl | (simp [*] <;> rfl), by (with_reducible repeat (first | apply Kd.R_alloc | apply Kd.R_drewN | apply Kd.R_drew)); exact HO295.out, HB.out⟩

def impl_blockStep.f (a0 : Int) (l1 : List Int) (l2 : List Int) : Option (List Int) := impl_blockStepK.f 4 a0 l1 l2
theorem impl_blockStep.calls (a0 : Int) (A1 : Option Addr) (c1 : Nat) (l1 : List Int) (A2 : Option Addr) (c2 : Nat) (l2 : List Int) (r : List Int) (w : World) (hr1 : Kd.C (Kd.int .i64) w A1 l1.length l1) (hc1 : l1.length ≤ c1) (hr2 : Kd.C (Kd.int .i64) w A2 l2.length l2) (hc2 : l2.length ≤ c2) (h : impl_blockStep.f a0 l1 l2 = some r) :
    Calls Try.prog 83 #[.int .i64 a0, .slice A1 l1.length c1, .slice A2 l2.length c2] w fun e w' => ∃ v0_ : Value, e = .returned (v0_) ∧ Kd.R (Kd.int .i64) 2 w' w.heap.size (fun _ => True) v0_ r ∧ Below w.heap.size w w' :=
  impl_blockStepK.calls 4 a0 A1 c1 l1 A2 c2 l2 r w hr1 hc1 hr2 hc2 h


end Go.Proofs.Ytklhfhnplldgjaa.XFnBlocksteps
