/- Machine side of the law FnExactBinaryInv: for each Go function that it reaches, a Lean function with the same answers and the proof that the call comes to them. Conditions: what the arguments lead to reads as the lists that each contract is told of. Some functions are told by hand, the others by the kit's print.py under wip/ext.py. -/
import Derived.Test.YtaolajbojoeahaaXFnExactBinaryInvx0
import Derived.Test.YtaolajbojoeahaaXFnExactBinaryInvx1
namespace Go.Proofs.Ytaolajbojoeahaa.XFnExactBinaryInv
open Go.RowKit Go.Proofs.YtaolajbojoeahaaW.PrintWords Go.Proofs.YtaolajbojoeahaaW.PrintLast Go.Proofs.YtaolajbojoeahaaW.PrintMore
attribute [local go_sem] max2_int min2_int max_two min_two max_three min_three max_four min_four   -- for this text's walks alone
set_option linter.unusedVariables false
set_option linter.unusedSimpArgs false

/-! ### impl_BinaryInv: function 30 -/
def impl_BinaryInv.f (a0 : Int) (a1 : Int) (a2 : Int) : Option (Int × Int) := (impl_Complement.f a1).bind fun x => (impl_Complement.f a2).bind fun y => (impl_BinaryOf.f 1 a0 x y).bind fun p => if p.1 = 0 then (impl_Complement.f p.2).bind fun z => some (p.1, z) else some (p.1, p.2)
set_option maxHeartbeats 1000000 in
theorem impl_BinaryInv.calls (a0 : Int) (a1 : Int) (a2 : Int) (r1 : Int) (r2 : Int) (w : World) (h : impl_BinaryInv.f a0 a1 a2 = some (r1, r2)) :
    Calls Try.prog 30 #[.int .i64 a0, .int .i64 a1, .int .i64 a2] w fun e w' => e = .returned (.agg #[.int .i64 r1, .int .i64 r2]) ∧ Below w.heap.size w w' := by
  have hu23 := Try.underlying23
  unfold impl_BinaryInv.f at h
  replace h := Option.bind_eq_some_iff.mp h
  obtain ⟨x, hx, h⟩ := h
  replace h := Option.bind_eq_some_iff.mp h
  obtain ⟨y, hy, h⟩ := h
  replace h := Option.bind_eq_some_iff.mp h
  obtain ⟨⟨p1, p2⟩, hp, h⟩ := h
  have HX := Aside0.mk hx
  have HY := Aside0.mk hy
  have HP := Aside0.mk hp
  have HH := Aside0.mk h
  clear hx hy hp h
  go_enter Try.func30, Try.ntmps30
  go_wp2_with fail
  refine (impl_Complement.calls _ _ _ HX.out).mono ?_
  rintro e w1 ⟨rfl, n1, rfl⟩
  go_wp2_with fail
  refine (impl_Complement.calls _ _ _ HY.out).mono ?_
  rintro e w1 ⟨rfl, n2, rfl⟩
  go_wp2_with fail
  refine (impl_BinaryOf.calls 1 _ _ _ _ _ _ HP.out).mono ?_
  rintro e w1 ⟨rfl, hb⟩
  have BK := blk_below (blk_drewN (blk_new w (.cells #[.int .i64 0, .int .i64 0] 23 (0, 0))) (n1 + n2)) hb
  have hc0 := blk_cell BK 0
  have hc1 := blk_cell BK 1
  have hf0 := blk_frozen BK 0
  have hf1 := blk_frozen BK 1
  have hs := blk_lt BK
  have HB : Below w.heap.size w w1 := below_then (pw_below_drewN ((Below.refl _ _).alloc (Nat.le_refl _) _) _) (by simp) hb
  have BKH := Aside0.mk BK
  have HBH := Aside0.mk HB
  clear BK HB hb
  by_cases hz : p1 = 0
  · subst hz
    have h := HH.out
    rw [if_pos rfl] at h
    replace h := Option.bind_eq_some_iff.mp h
    obtain ⟨z, hz, h⟩ := h
    have HZ := Aside0.mk hz
    simp only [Option.some.injEq, Prod.mk.injEq] at h
    obtain ⟨rfl, rfl⟩ := h
    clear hz
    go_wp2_with fail
    refine (impl_Complement.calls _ _ _ HZ.out).mono ?_
    rintro e w2 ⟨rfl, n3, rfl⟩
    go_wp2_with fail
    refine bodyPost_ret (results_cell_row rfl _ _ w.heap.size 23 #[.int .i64 0, .int .i64 z] (0, 0) _ rfl (by refine blk_put (cs := #[.int .i64 0, .int .i64 0]) ?_ 1 _ rfl; refine blk_put (cs := #[.int .i64 0, .int .i64 0]) ?_ 0 _ rfl; refine blk_far ?_ (by show w.heap.size ≠ w1.heap.size; omega) _; refine blk_drewN ?_ _; refine blk_alloc ?_ _; exact BKH.out) hu23 rfl (by kernel_rfl)) rfl ?_
    exact ⟨rfl, below_set (below_set (below_set (pw_below_drewN (below_alloc HBH.out _) _) (Nat.le_of_lt hs)) (Nat.le_refl _)) (Nat.le_refl _)⟩
  · have hz1 : (p1 == 0) = false := by simpa using hz
    have h := HH.out
    rw [if_neg hz] at h
    simp only [Option.some.injEq, Prod.mk.injEq] at h
    obtain ⟨rfl, rfl⟩ := h
    go_wp2_with fail
    refine bodyPost_ret (results_cell_row rfl _ _ w.heap.size 23 #[.int .i64 p1, .int .i64 p2] (0, 0) _ rfl (by refine blk_alloc ?_ _; refine blk_put (cs := #[.int .i64 p1, .int .i64 0]) ?_ 1 _ rfl; refine blk_put (cs := #[.int .i64 0, .int .i64 0]) ?_ 0 _ rfl; exact BKH.out) hu23 rfl (by kernel_rfl)) rfl ?_
    exact ⟨rfl, below_alloc (below_set (below_set HBH.out (Nat.le_refl _)) (Nat.le_refl _)) _⟩


end Go.Proofs.Ytaolajbojoeahaa.XFnExactBinaryInv
