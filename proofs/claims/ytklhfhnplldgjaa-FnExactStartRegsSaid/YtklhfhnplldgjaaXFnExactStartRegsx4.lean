/- Machine side of the law FnExactStartRegs: for each Go function that it reaches, a Lean function with the same answers and the proof that the call comes to them. Conditions: what the arguments lead to reads as the lists that each contract is told of. Some functions are told by hand, the others by the kit's print.py under wip/ext.py. -/
import Derived.Test.YtklhfhnplldgjaaXFnExactStartRegsx0
import Derived.Test.YtklhfhnplldgjaaXFnExactStartRegsx1
import Derived.Test.YtklhfhnplldgjaaXFnExactStartRegsx2
import Derived.Test.YtklhfhnplldgjaaXFnExactStartRegsx3
namespace Go.Proofs.Ytklhfhnplldgjaa.XFnExactStartRegs
open Go.RowKit Go.Proofs.YtklhfhnplldgjaaW.PrintWords Go.Proofs.YtklhfhnplldgjaaW.PrintLast Go.Proofs.YtklhfhnplldgjaaW.PrintMore
attribute [local go_sem] max2_int min2_int max_two min_two max_three min_three max_four min_four   -- for this text's walks alone
set_option linter.unusedVariables false
set_option linter.unusedSimpArgs false

/-! ### spec_l10Fault: function 85 -/
def spec_l10Fault.f (pc : Int) (l1 l2 : List Int) (sig used trap : Int) : Option Int := (spec_l1Word.f pc).bind fun b1 => (spec_l1Word.f sig).bind fun b2 => (spec_l6All.f (l1.length + 1) l1).bind fun b3 => (spec_l6All.f (l2.length + 1) l2).bind fun b4 => (spec_l1In.f used 0 1000000).bind fun b5 => (spec_l1In.f trap 0 10).bind fun b6 => some (if b1 && b2 && b3 && b4 && b5 && b6 then (if l1.length ≠ 24 then 1 else if 80 < l2.length then 2 else 0) else 3)
set_option maxHeartbeats 4000000 in
set_option maxRecDepth 100000 in
theorem spec_l10Fault.calls (g : Nat) (pc : Int) (A1 : Option Addr) (c1 : Nat) (l1 : List Int) (A2 : Option Addr) (c2 : Nat) (l2 : List Int) (sig used trap : Int) (dn : Bool) (r : Int) (w : World) (hb : w.heap[g]? = some (.cells #[.int .i64 pc, .slice A1 l1.length c1, .slice A2 l2.length c2, .int .i64 sig, .int .i64 used, .int .i64 trap, .bool dn] 51 (0, 0))) (hr1 : Kd.C (Kd.int .i64) w A1 l1.length l1) (hc1 : l1.length ≤ c1) (hr2 : Kd.C (Kd.int .i64) w A2 l2.length l2) (hc2 : l2.length ≤ c2) (h : spec_l10Fault.f pc l1 l2 sig used trap = some r) :
    Calls Try.prog 85 #[.pointer (some ⟨g, 0, none⟩)] w fun e w' => e = .returned (.int .i64 r) ∧ Drawn0 w w' := by
  have hu := Try.underlying51
  unfold spec_l10Fault.f at h
  replace h := Option.bind_eq_some_iff.mp h
  obtain ⟨b1, a1, h⟩ := h
  have A_1 := Aside0.mk a1
  clear a1
  replace h := Option.bind_eq_some_iff.mp h
  obtain ⟨b2, a2, h⟩ := h
  have A_2 := Aside0.mk a2
  clear a2
  replace h := Option.bind_eq_some_iff.mp h
  obtain ⟨b3, a3, h⟩ := h
  have A_3 := Aside0.mk a3
  clear a3
  replace h := Option.bind_eq_some_iff.mp h
  obtain ⟨b4, a4, h⟩ := h
  have A_4 := Aside0.mk a4
  clear a4
  replace h := Option.bind_eq_some_iff.mp h
  obtain ⟨b5, a5, h⟩ := h
  have A_5 := Aside0.mk a5
  clear a5
  replace h := Option.bind_eq_some_iff.mp h
  obtain ⟨b6, a6, h⟩ := h
  have A_6 := Aside0.mk a6
  clear a6
  obtain rfl := Option.some.inj h
  clear h
  have R1 := Aside0.mk hr1
  have R2 := Aside0.mk hr2
  have C1 := Aside0.mk hc1
  have C2 := Aside0.mk hc2
  have m1 : l1.length ≤ 9223372036854775807 := Kd.C_max hr1
  have m2 : l2.length ≤ 9223372036854775807 := Kd.C_max hr2
  have hk0 : w.cell? ⟨g, 0, none⟩ = some (Value.int .i64 pc) := (blk_cell hb 0).trans rfl
  have hk1 : w.cell? ⟨g, 1, none⟩ = some (Value.slice A1 l1.length c1) := (blk_cell hb 1).trans rfl
  have hk2 : w.cell? ⟨g, 2, none⟩ = some (Value.slice A2 l2.length c2) := (blk_cell hb 2).trans rfl
  have hk3 : w.cell? ⟨g, 3, none⟩ = some (Value.int .i64 sig) := (blk_cell hb 3).trans rfl
  have hk4 : w.cell? ⟨g, 4, none⟩ = some (Value.int .i64 used) := (blk_cell hb 4).trans rfl
  have hk5 : w.cell? ⟨g, 5, none⟩ = some (Value.int .i64 trap) := (blk_cell hb 5).trans rfl
  clear hb hr1 hr2 hc1 hc2
  cases b1 with
  | false =>
    go_enter Try.func85, Try.ntmps85
    go_wp2_with fail
    refine (spec_l1Word.calls pc false _ A_1.out).mono ?_
    rintro e w' ⟨rfl, n1, rfl⟩
    go_wp2_with fail
    go_ret
    exact ⟨by simp, ⟨⟨_, rfl⟩⟩⟩
  | true =>
    cases b2 with
    | false =>
      go_enter Try.func85, Try.ntmps85
      go_wp2_with fail
      refine (spec_l1Word.calls pc true _ A_1.out).mono ?_
      rintro e w' ⟨rfl, n1, rfl⟩
      go_wp2_with fail
      refine (spec_l1Word.calls sig false _ A_2.out).mono ?_
      rintro e w' ⟨rfl, n2, rfl⟩
      go_wp2_with fail
      go_ret
      exact ⟨by simp, ⟨⟨_, rfl⟩⟩⟩
    | true =>
      cases b3 with
      | false =>
        go_enter Try.func85, Try.ntmps85
        go_wp2_with fail
        refine (spec_l1Word.calls pc true _ A_1.out).mono ?_
        rintro e w' ⟨rfl, n1, rfl⟩
        go_wp2_with fail
        refine (spec_l1Word.calls sig true _ A_2.out).mono ?_
        rintro e w' ⟨rfl, n2, rfl⟩
        go_wp2_with fail
        refine (spec_l6All.calls (l1.length + 1) A1 c1 l1 false _ (by repeat (first | exact R1.out | (with_reducible refine Kd.C_drewN ?_ _))) C1.out A_3.out).mono ?_
        rintro e w' ⟨rfl, n3, rfl⟩
        go_wp2_with fail
        go_ret
        exact ⟨by simp, ⟨⟨_, rfl⟩⟩⟩
      | true =>
        cases b4 with
        | false =>
          go_enter Try.func85, Try.ntmps85
          go_wp2_with fail
          refine (spec_l1Word.calls pc true _ A_1.out).mono ?_
          rintro e w' ⟨rfl, n1, rfl⟩
          go_wp2_with fail
          refine (spec_l1Word.calls sig true _ A_2.out).mono ?_
          rintro e w' ⟨rfl, n2, rfl⟩
          go_wp2_with fail
          refine (spec_l6All.calls (l1.length + 1) A1 c1 l1 true _ (by repeat (first | exact R1.out | (with_reducible refine Kd.C_drewN ?_ _))) C1.out A_3.out).mono ?_
          rintro e w' ⟨rfl, n3, rfl⟩
          go_wp2_with fail
          refine (spec_l6All.calls (l2.length + 1) A2 c2 l2 false _ (by repeat (first | exact R2.out | (with_reducible refine Kd.C_drewN ?_ _))) C2.out A_4.out).mono ?_
          rintro e w' ⟨rfl, n4, rfl⟩
          go_wp2_with fail
          go_ret
          exact ⟨by simp, ⟨⟨_, rfl⟩⟩⟩
        | true =>
          cases b5 with
          | false =>
            go_enter Try.func85, Try.ntmps85
            go_wp2_with fail
            refine (spec_l1Word.calls pc true _ A_1.out).mono ?_
            rintro e w' ⟨rfl, n1, rfl⟩
            go_wp2_with fail
            refine (spec_l1Word.calls sig true _ A_2.out).mono ?_
            rintro e w' ⟨rfl, n2, rfl⟩
            go_wp2_with fail
            refine (spec_l6All.calls (l1.length + 1) A1 c1 l1 true _ (by repeat (first | exact R1.out | (with_reducible refine Kd.C_drewN ?_ _))) C1.out A_3.out).mono ?_
            rintro e w' ⟨rfl, n3, rfl⟩
            go_wp2_with fail
            refine (spec_l6All.calls (l2.length + 1) A2 c2 l2 true _ (by repeat (first | exact R2.out | (with_reducible refine Kd.C_drewN ?_ _))) C2.out A_4.out).mono ?_
            rintro e w' ⟨rfl, n4, rfl⟩
            go_wp2_with fail
            refine (spec_l1In.calls used 0 1000000 false _ A_5.out).mono ?_
            rintro e w' ⟨rfl, n5, rfl⟩
            go_wp2_with fail
            go_ret
            exact ⟨by simp, ⟨⟨_, rfl⟩⟩⟩
          | true =>
            cases b6 with
            | false =>
              go_enter Try.func85, Try.ntmps85
              go_wp2_with fail
              refine (spec_l1Word.calls pc true _ A_1.out).mono ?_
              rintro e w' ⟨rfl, n1, rfl⟩
              go_wp2_with fail
              refine (spec_l1Word.calls sig true _ A_2.out).mono ?_
              rintro e w' ⟨rfl, n2, rfl⟩
              go_wp2_with fail
              refine (spec_l6All.calls (l1.length + 1) A1 c1 l1 true _ (by repeat (first | exact R1.out | (with_reducible refine Kd.C_drewN ?_ _))) C1.out A_3.out).mono ?_
              rintro e w' ⟨rfl, n3, rfl⟩
              go_wp2_with fail
              refine (spec_l6All.calls (l2.length + 1) A2 c2 l2 true _ (by repeat (first | exact R2.out | (with_reducible refine Kd.C_drewN ?_ _))) C2.out A_4.out).mono ?_
              rintro e w' ⟨rfl, n4, rfl⟩
              go_wp2_with fail
              refine (spec_l1In.calls used 0 1000000 true _ A_5.out).mono ?_
              rintro e w' ⟨rfl, n5, rfl⟩
              go_wp2_with fail
              refine (spec_l1In.calls trap 0 10 false _ A_6.out).mono ?_
              rintro e w' ⟨rfl, n6, rfl⟩
              go_wp2_with fail
              go_ret
              exact ⟨by simp, ⟨⟨_, rfl⟩⟩⟩
            | true =>
              by_cases h1 : l1.length = 24
              · have q1 : ((l1.length : Int) != 24) = false := by simp; omega
                by_cases h2 : 80 < l2.length
                · have q2 : decide ((80 : Int) < (l2.length : Int)) = true := decide_eq_true (by omega)
                  have q2' : decide (80 < l2.length) = true := decide_eq_true h2
                  have H1 := Aside0.mk h1
                  clear h1
                  go_enter Try.func85, Try.ntmps85
                  go_wp2_with fail
                  refine (spec_l1Word.calls pc true _ A_1.out).mono ?_
                  rintro e w' ⟨rfl, n1, rfl⟩
                  go_wp2_with fail
                  refine (spec_l1Word.calls sig true _ A_2.out).mono ?_
                  rintro e w' ⟨rfl, n2, rfl⟩
                  go_wp2_with fail
                  refine (spec_l6All.calls (l1.length + 1) A1 c1 l1 true _ (by repeat (first | exact R1.out | (with_reducible refine Kd.C_drewN ?_ _))) C1.out A_3.out).mono ?_
                  rintro e w' ⟨rfl, n3, rfl⟩
                  go_wp2_with fail
                  refine (spec_l6All.calls (l2.length + 1) A2 c2 l2 true _ (by repeat (first | exact R2.out | (with_reducible refine Kd.C_drewN ?_ _))) C2.out A_4.out).mono ?_
                  rintro e w' ⟨rfl, n4, rfl⟩
                  go_wp2_with fail
                  refine (spec_l1In.calls used 0 1000000 true _ A_5.out).mono ?_
                  rintro e w' ⟨rfl, n5, rfl⟩
                  go_wp2_with fail
                  refine (spec_l1In.calls trap 0 10 true _ A_6.out).mono ?_
                  rintro e w' ⟨rfl, n6, rfl⟩
                  go_wp2_with fail
                  go_ret
                  exact ⟨by simp [H1.out, h2], ⟨⟨_, rfl⟩⟩⟩
                  all_goals (exact absurd H1.out (by assumption))
                · have q2 : decide ((80 : Int) < (l2.length : Int)) = false := decide_eq_false (by omega)
                  have q2' : decide (80 < l2.length) = false := decide_eq_false h2
                  have H1 := Aside0.mk h1
                  clear h1
                  go_enter Try.func85, Try.ntmps85
                  go_wp2_with fail
                  refine (spec_l1Word.calls pc true _ A_1.out).mono ?_
                  rintro e w' ⟨rfl, n1, rfl⟩
                  go_wp2_with fail
                  refine (spec_l1Word.calls sig true _ A_2.out).mono ?_
                  rintro e w' ⟨rfl, n2, rfl⟩
                  go_wp2_with fail
                  refine (spec_l6All.calls (l1.length + 1) A1 c1 l1 true _ (by repeat (first | exact R1.out | (with_reducible refine Kd.C_drewN ?_ _))) C1.out A_3.out).mono ?_
                  rintro e w' ⟨rfl, n3, rfl⟩
                  go_wp2_with fail
                  refine (spec_l6All.calls (l2.length + 1) A2 c2 l2 true _ (by repeat (first | exact R2.out | (with_reducible refine Kd.C_drewN ?_ _))) C2.out A_4.out).mono ?_
                  rintro e w' ⟨rfl, n4, rfl⟩
                  go_wp2_with fail
                  refine (spec_l1In.calls used 0 1000000 true _ A_5.out).mono ?_
                  rintro e w' ⟨rfl, n5, rfl⟩
                  go_wp2_with fail
                  refine (spec_l1In.calls trap 0 10 true _ A_6.out).mono ?_
                  rintro e w' ⟨rfl, n6, rfl⟩
                  go_wp2_with fail
                  go_ret
                  exact ⟨by simp [H1.out, h2], ⟨⟨_, rfl⟩⟩⟩
                  all_goals (exact absurd H1.out (by assumption))
              · have q1 : ((l1.length : Int) != 24) = true := by simp; omega
                go_enter Try.func85, Try.ntmps85
                go_wp2_with fail
                refine (spec_l1Word.calls pc true _ A_1.out).mono ?_
                rintro e w' ⟨rfl, n1, rfl⟩
                go_wp2_with fail
                refine (spec_l1Word.calls sig true _ A_2.out).mono ?_
                rintro e w' ⟨rfl, n2, rfl⟩
                go_wp2_with fail
                refine (spec_l6All.calls (l1.length + 1) A1 c1 l1 true _ (by repeat (first | exact R1.out | (with_reducible refine Kd.C_drewN ?_ _))) C1.out A_3.out).mono ?_
                rintro e w' ⟨rfl, n3, rfl⟩
                go_wp2_with fail
                refine (spec_l6All.calls (l2.length + 1) A2 c2 l2 true _ (by repeat (first | exact R2.out | (with_reducible refine Kd.C_drewN ?_ _))) C2.out A_4.out).mono ?_
                rintro e w' ⟨rfl, n4, rfl⟩
                go_wp2_with fail
                refine (spec_l1In.calls used 0 1000000 true _ A_5.out).mono ?_
                rintro e w' ⟨rfl, n5, rfl⟩
                go_wp2_with fail
                refine (spec_l1In.calls trap 0 10 true _ A_6.out).mono ?_
                rintro e w' ⟨rfl, n6, rfl⟩
                go_wp2_with fail
                go_ret
                exact ⟨by simp [h1], ⟨⟨_, rfl⟩⟩⟩

end Go.Proofs.Ytklhfhnplldgjaa.XFnExactStartRegs
