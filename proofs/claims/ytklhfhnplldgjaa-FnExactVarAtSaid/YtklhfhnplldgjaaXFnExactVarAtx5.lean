/- Machine side of the law FnExactVarAt: for each Go function that it reaches, a Lean function with the same answers and the proof that the call comes to them. Conditions: what the arguments lead to reads as the lists that each contract is told of. Some functions are told by hand, the others by the kit's print.py under wip/ext.py. -/
import Derived.Test.YtklhfhnplldgjaaXFnExactVarAtx0
import Derived.Test.YtklhfhnplldgjaaXFnExactVarAtx1
import Derived.Test.YtklhfhnplldgjaaXFnExactVarAtx2
import Derived.Test.YtklhfhnplldgjaaXFnExactVarAtx3
import Derived.Test.YtklhfhnplldgjaaXFnExactVarAtx4
namespace Go.Proofs.Ytklhfhnplldgjaa.XFnExactVarAt
open Go.RowKit Go.Proofs.YtklhfhnplldgjaaW.PrintWords Go.Proofs.YtklhfhnplldgjaaW.PrintLast
attribute [local go_sem] max2_int min2_int max_two min_two   -- for this text's walks alone
set_option linter.unusedVariables false
set_option linter.unusedSimpArgs false

/-! ### LIB treefault -/
set_option maxHeartbeats 16000000 in
set_option maxRecDepth 100000 in
theorem impl_TreeFault.w (V : List S122) (N : List S125) (B : List Int) (A0 A1 A2 : Option Addr) (c0 c1 c2 : Nat) (w : World) (hv : Kd.C k122 w A0 V.length V) (hn : Kd.C k125 w A1 N.length N) (hb : Kd.C (Kd.int .i64) w A2 B.length B) (hs : Small V N B) :
    Calls Try.prog 53 #[.agg #[.slice A0 V.length c0, .slice A1 N.length c1, .slice A2 B.length c2]] w fun e w' => e = .returned (.int .i64 (faultI V N B)) ∧ Below w.heap.size w w' := by
  have hu := Try.underlying69
  have huv := Try.underlying122
  have hun := Try.underlying125
  have HV := Aside0.mk hv
  have HN := Aside0.mk hn
  have HBd := Aside0.mk hb
  have HS := Aside0.mk hs
  have hvm := Kd.C_max hv
  have hbm := Kd.C_max hb
  clear hv hn hb hs
  by_cases hV : 24 < V.length
  · have e1 : decide (24 < (V.length : Int)) = true := decide_eq_true (by omega)
    have e2 : decide (24 < V.length) = true := decide_eq_true hV
    have HG := Aside0.mk (show faultI V N B = 2 by unfold faultI; rw [if_pos (.inl hV)])
    clear hV
    go_enter Try.func53, Try.ntmps53
    go_wp2
    go_ret
    exact ⟨by rw [HG.out]; rfl, (Below.refl _ _).alloc (Nat.le_refl _) _⟩
  by_cases hNn : 200 < N.length
  · have e1 : decide (24 < (V.length : Int)) = false := decide_eq_false (by omega)
    have e2 : decide (24 < V.length) = false := decide_eq_false hV
    have e3 : decide (200 < (N.length : Int)) = true := decide_eq_true (by omega)
    have e4 : decide (200 < N.length) = true := decide_eq_true hNn
    have HG := Aside0.mk (show faultI V N B = 2 by unfold faultI; rw [if_pos (.inr hNn)])
    clear hNn hV
    go_enter Try.func53, Try.ntmps53
    go_wp2
    go_ret
    exact ⟨by rw [HG.out]; rfl, (Below.refl _ _).alloc (Nat.le_refl _) _⟩
  have e1 : decide (24 < (V.length : Int)) = false := decide_eq_false (by omega)
  have e2 : decide (24 < V.length) = false := decide_eq_false hV
  have e3 : decide (200 < (N.length : Int)) = false := decide_eq_false (by omega)
  have e4 : decide (200 < N.length) = false := decide_eq_false hNn
  have hVl : V.length ≤ 24 := by omega
  have hNl : N.length ≤ 200 := by omega
  have HG := Aside0.mk (show faultI V N B = _ from by unfold faultI; rw [if_neg (by omega)])
  have hmk := print_make (P := Try.prog) 97 3 .i64 8 Try.underlying97 info_int (by omega) N.length (by omega)
  clear hV hNn
  go_enter Try.func53, Try.ntmps53
  go_wp2
  clear e1 e2 e3 e4
  go_loopg [28] V.length (fun gg s28 wr => ∃ kk : Nat, s28 = .int .i64 (kk : Int) ∧ Aside0 (kk ≤ V.length ∧ V.length - kk ≤ gg) ∧ Aside0 (wr.heap[w.heap.size]? = some (.cells #[.slice A0 V.length c0, .slice A1 N.length c1, .slice A2 B.length c2] 69 (0, 0))) ∧ Aside0 (Below w.heap.size w wr) ∧ Aside0 (∀ (j : Nat) (y : S122), j < kk → V[j]? = some y → vf y = 0))
  case atStart => exact ⟨0, rfl, ⟨by omega⟩, ⟨by first | exact blk_new _ _ | simp⟩, ⟨(Below.refl _ _).alloc (Nat.le_refl _) _⟩, ⟨fun j _ hj => absurd hj (Nat.not_lt_zero _)⟩⟩
  case round =>
    obtain ⟨wa, rfl⟩ : ∃ wa : World, wa = wr := ⟨_, rfl⟩
    obtain ⟨kk, rfl, HK, BKT, HB, HA⟩ := hrel
    by_cases hlt : kk < V.length
    · have hltz : (kk : Int) < (V.length : Int) := by omega
      have hd : decide ((kk : Int) < (V.length : Int)) = true := decide_eq_true hltz
      have hd' : decide (kk < V.length) = true := decide_eq_true hlt
      obtain ⟨ad, rfl, hc0, hc1, hc2, hc3⟩ := at_T122 (Kd.C_below HV.out HB.out) kk (by omega) (by omega)
      rw [Int.toNat_natCast] at hc0 hc1 hc2 hc3
      have HX := Aside0.mk (rdV_get hlt)
      have hsz := HS.out.vn _ (rdV_mem hlt)
      have hltq := eq_true hltz
      have h0q : (0 ≤ (kk : Int)) = True := eq_true (by omega)
      revert hc0 hc1 hc2 hc3 HX hsz
      generalize rd_T122 V (kk : Int) = v
      intro hc0 hc1 hc2 hc3 HX hsz
      have HVB := Aside0.mk (fun (c : Int) (hc : vf v = c) (h0 : c ≠ 0) => (show faultI V N B = c by rw [HG.out, varsF_bad V kk v HX.out HA.out (by rw [hc]; exact h0), hc, if_pos h0]))
      clear hlt
      go_wp2_with (first | (go_at_call 108; refine (d_IsName _ hsz _).mono ?_; rintro e w' ⟨rfl, q, rfl⟩) | (go_at_call 80; refine (d_within _ _ _ _).mono ?_; rintro e w' ⟨rfl, q, rfl⟩))
      all_goals first
        | (go_roundg (V.length - (kk + 1))
           case measure => have := HK.out; omega
           case rel =>
             refine ⟨kk + 1, by go_num, ⟨by have := HK.out; omega⟩, ⟨?_⟩, ⟨by repeat (first | exact HB.out.alloc (below_size HB.out) _ | apply pw_below_drewN)⟩, ⟨fun j y hj hy => ?_⟩⟩
             · repeat (first | exact blk_alloc BKT.out _ | refine blk_drewN ?_ _)
             · by_cases e : j = kk
               · subst e
                 rw [HX.out] at hy
                 cases hy
                 simp_all [vf]
               · exact HA.out j y (by omega) hy)
        | (go_ret
           refine ⟨?_, by repeat (first | exact HB.out.alloc (below_size HB.out) _ | apply pw_below_drewN)⟩
           first
             | (rw [HVB.out 5 (by simp_all [vf]) (by decide)]; rfl)
             | (rw [HVB.out 3 (by simp_all [vf]) (by decide)]; rfl))
    · have hd : decide ((kk : Int) < (V.length : Int)) = false := decide_eq_false (by omega)
      have hd' : decide (kk < V.length) = false := decide_eq_false hlt
      have HGv := Aside0.mk (show faultI V N B = _ from by rw [HG.out, varsF_good V (fun j y hy => HA.out j y (by have := (List.getElem?_eq_some_iff.1 hy).1; have := HK.out; omega) hy), if_neg (by decide)])
      clear HA HG
      have q1 : wa.cell? ⟨w.heap.size, 1, none⟩ = some (.slice A1 N.length c1) := (blk_cell BKT.out 1).trans rfl
      go_wp2
      go_loopg [58] N.length (fun gg s58 wr => ∃ kk : Nat, s58 = .int .i64 (kk : Int) ∧ Aside0 (kk ≤ N.length ∧ N.length - kk ≤ gg) ∧ Aside0 (wr.heap[w.heap.size]? = some (.cells #[.slice A0 V.length c0, .slice A1 N.length c1, .slice A2 B.length c2] 69 (0, 0))) ∧ Aside0 (Below w.heap.size w wr) ∧ Aside0 (∀ j : Nat, j < kk → okI N j (rd_T125 N (j : Int)) = true))
      case atStart => exact ⟨0, rfl, ⟨by omega⟩, BKT, HB, ⟨fun j hj => absurd hj (Nat.not_lt_zero _)⟩⟩
      case round =>
        clear HB BKT q1
        obtain ⟨wb, rfl⟩ : ∃ wb : World, wb = wr := ⟨_, rfl⟩
        obtain ⟨kk, rfl, HK, BKT, HB, HA⟩ := hrel
        by_cases hlt : kk < N.length
        · have hltz : (kk : Int) < (N.length : Int) := by omega
          have hd : decide ((kk : Int) < (N.length : Int)) = true := decide_eq_true hltz
          have hd' : decide (kk < N.length) = true := decide_eq_true hlt
          obtain ⟨ad, A5, c5, A6, c6, A7, c7, rfl, n0, n1, n2, n3, n4, n5, n6, n7, l5, r5, l6, r6, l7, r7⟩ := at_T125 HN.out (kk : Int) (by omega) hltz
          rw [Int.toNat_natCast] at n0 n1 n2 n3 n4 n5 n6 n7
          replace n0 := pw_cell_below HB.out n0
          replace n1 := pw_cell_below HB.out n1
          replace n2 := pw_cell_below HB.out n2
          replace n3 := pw_cell_below HB.out n3
          replace n4 := pw_cell_below HB.out n4
          replace n5 := pw_cell_below HB.out n5
          replace n6 := pw_cell_below HB.out n6
          replace n7 := pw_cell_below HB.out n7
          have hmem := rdN_mem hlt
          have hsz := HS.out.nn _ hmem
          have HBAD := Aside0.mk (fun (h : okI N kk (rd_T125 N (kk : Int)) = false) => (show faultI V N B = 1 by rw [HGv.out, if_pos (nodesI_bad hlt h)]))
          have HSELF := Aside0.mk (fun (h : okI N kk (rd_T125 N (kk : Int)) = true) (j : Nat) (hj : j < kk + 1) => (show okI N j (rd_T125 N (j : Int)) = true from if e : j = kk then by subst e; exact h else HA.out j (by omega)))
          have hltq := eq_true hltz
          have h0q : (0 ≤ (kk : Int)) = True := eq_true (by omega)
          clear hmem
          revert n0 n1 n2 n3 n4 n5 n6 n7 l5 r5 l6 r6 l7 r7 hsz HBAD HSELF
          generalize rd_T125 N (kk : Int) = nd
          obtain ⟨d0, d1, d2, d3, d4, F5, F6, F7⟩ := nd
          intro l5 r5 l6 r6 l7 r7 n0 n1 n2 n3 n4 n5 n6 n7 hsz HBAD HSELF
          have HOK := Aside0.mk (show okI N kk ⟨d0, d1, d2, d3, d4, F5, F6, F7⟩ = (fitsB ⟨d0, d1, d2, d3, d4, F5, F6, F7⟩ && (!(F5.any (badB N kk false)) && (!(F6.any (badB N kk true)) && !(F7.any (badB N kk true))))) from rfl)
          have R5 := Aside0.mk r5
          have R6 := Aside0.mk r6
          have R7 := Aside0.mk r7
          clear r5 r6 r7 l5 l6 l7
          go_wp2_with fail
          refine (impl_fits.w ⟨d0, d1, d2, d3, d4, F5, F6, F7⟩ A5 A6 A7 c5 c6 c7 _ hsz).mono ?_
          rintro e w1 ⟨rfl, hb⟩
          have hWb : Below wb.heap.size wb ((wb.alloc (.cells #[.int .i64 (kk : Int)] 3)).alloc (.cells #[.int .i64 d0, .int .i64 d1, .string d2, .int .i64 d3, .int .i64 d4, .slice A5 F5.length c5, .slice A6 F6.length c6, .slice A7 F7.length c7] 125)) := ((Below.refl _ _).alloc (Nat.le_refl _) _).alloc (by simp) _
          have hs1 : (wb.alloc (.cells #[.int .i64 (kk : Int)] 3)).heap.size = wb.heap.size + 1 := by simp
          have hbn := blk_new (wb.alloc (.cells #[.int .i64 (kk : Int)] 3)) (.cells #[.int .i64 d0, .int .i64 d1, .string d2, .int .i64 d3, .int .i64 d4, .slice A5 F5.length c5, .slice A6 F6.length c6, .slice A7 F7.length c7] 125)
          rw [hs1] at hbn
          have BKk := Aside0.mk (blk_below (blk_alloc (blk_new wb (.cells #[.int .i64 (kk : Int)] 3)) _) hb)
          have BKn := Aside0.mk (blk_below hbn hb)
          have BT1 := Aside0.mk (blk_below (blk_alloc (blk_alloc BKT.out _) _) hb)
          have HB1 := Aside0.mk (below_step (below_step HB.out hWb) hb)
          clear hb hWb hs1 hbn n0 n1 n2 n3 n4 n5 n6 n7
          cases hf : fitsB ⟨d0, d1, d2, d3, d4, F5, F6, F7⟩ with
          | false =>
            have HF := Aside0.mk hf
            clear hf
            go_wp2
            go_ret
            exact ⟨by rw [HBAD.out (by rw [HOK.out, HF.out]; rfl)]; rfl, HB1.out⟩
          | true =>
            have HF := Aside0.mk hf
            clear hf
            have y5 : w1.cell? ⟨wb.heap.size + 1, 5, none⟩ = some (.slice A5 F5.length c5) := (blk_cell BKn.out 5).trans rfl
            have y6 : w1.cell? ⟨wb.heap.size + 1, 6, none⟩ = some (.slice A6 F6.length c6) := (blk_cell BKn.out 6).trans rfl
            have y7 : w1.cell? ⟨wb.heap.size + 1, 7, none⟩ = some (.slice A7 F7.length c7) := (blk_cell BKn.out 7).trans rfl
            go_wp2_with fail
            refine (impl_ahead1.w wb.heap.size w.heap.size N kk (by omega) (by omega) false (some ad) c1 w1 ((blk_cell BKk.out 0).trans rfl) ((blk_cell BT1.out 1).trans rfl) (Kd.C_below HN.out HB1.out) A5 c5 F5 (Kd.C_below R5.out HB1.out)).mono ?_
            rintro e w2 ⟨rfl, hb⟩
            have BKk2 := Aside0.mk (blk_below BKk.out hb)
            have BKn2 := Aside0.mk (blk_below BKn.out hb)
            have BT2 := Aside0.mk (blk_below BT1.out hb)
            have HB2 := Aside0.mk (below_step HB1.out hb)
            clear hb y5 y6 y7 BKk BKn BT1
            cases hy5 : F5.any (badB N kk false) with
            | true =>
              have HY5 := Aside0.mk hy5
              clear hy5
              go_wp2
              go_ret
              exact ⟨by rw [HBAD.out (by rw [HOK.out, HF.out, HY5.out]; first | rfl | (simp; done))]; rfl, HB2.out⟩
            | false =>
              have HY5 := Aside0.mk hy5
              clear hy5
              have y5 : w2.cell? ⟨wb.heap.size + 1, 5, none⟩ = some (.slice A5 F5.length c5) := (blk_cell BKn2.out 5).trans rfl
              have y6 : w2.cell? ⟨wb.heap.size + 1, 6, none⟩ = some (.slice A6 F6.length c6) := (blk_cell BKn2.out 6).trans rfl
              have y7 : w2.cell? ⟨wb.heap.size + 1, 7, none⟩ = some (.slice A7 F7.length c7) := (blk_cell BKn2.out 7).trans rfl
              go_wp2_with fail
              refine (impl_ahead1.w wb.heap.size w.heap.size N kk (by omega) (by omega) true (some ad) c1 w2 ((blk_cell BKk2.out 0).trans rfl) ((blk_cell BT2.out 1).trans rfl) (Kd.C_below HN.out HB2.out) A6 c6 F6 (Kd.C_below R6.out HB2.out)).mono ?_
              rintro e w3 ⟨rfl, hb⟩
              have BKk3 := Aside0.mk (blk_below BKk2.out hb)
              have BKn3 := Aside0.mk (blk_below BKn2.out hb)
              have BT3 := Aside0.mk (blk_below BT2.out hb)
              have HB3 := Aside0.mk (below_step HB2.out hb)
              clear hb y5 y6 y7 BKk2 BKn2 BT2
              cases hy6 : F6.any (badB N kk true) with
              | true =>
                have HY6 := Aside0.mk hy6
                clear hy6
                go_wp2
                go_ret
                exact ⟨by rw [HBAD.out (by rw [HOK.out, HF.out, HY5.out, HY6.out]; first | rfl | (simp; done))]; rfl, HB3.out⟩
              | false =>
                have HY6 := Aside0.mk hy6
                clear hy6
                have y5 : w3.cell? ⟨wb.heap.size + 1, 5, none⟩ = some (.slice A5 F5.length c5) := (blk_cell BKn3.out 5).trans rfl
                have y6 : w3.cell? ⟨wb.heap.size + 1, 6, none⟩ = some (.slice A6 F6.length c6) := (blk_cell BKn3.out 6).trans rfl
                have y7 : w3.cell? ⟨wb.heap.size + 1, 7, none⟩ = some (.slice A7 F7.length c7) := (blk_cell BKn3.out 7).trans rfl
                go_wp2_with fail
                refine (impl_ahead1.w wb.heap.size w.heap.size N kk (by omega) (by omega) true (some ad) c1 w3 ((blk_cell BKk3.out 0).trans rfl) ((blk_cell BT3.out 1).trans rfl) (Kd.C_below HN.out HB3.out) A7 c7 F7 (Kd.C_below R7.out HB3.out)).mono ?_
                rintro e w4 ⟨rfl, hb⟩
                have BKk4 := Aside0.mk (blk_below BKk3.out hb)
                have BKn4 := Aside0.mk (blk_below BKn3.out hb)
                have BT4 := Aside0.mk (blk_below BT3.out hb)
                have HB4 := Aside0.mk (below_step HB3.out hb)
                clear hb y5 y6 y7 BKk3 BKn3 BT3
                cases hy7 : F7.any (badB N kk true) with
                | true =>
                  have HY7 := Aside0.mk hy7
                  clear hy7
                  go_wp2
                  go_ret
                  exact ⟨by rw [HBAD.out (by rw [HOK.out, HF.out, HY5.out, HY6.out, HY7.out]; first | rfl | (simp; done))]; rfl, HB4.out⟩
                | false =>
                  have HY7 := Aside0.mk hy7
                  clear hy7
                  go_wp2
                  go_roundg (N.length - (kk + 1))
                  case measure => have := HK.out; omega
                  case rel => exact ⟨kk + 1, by go_num, ⟨by omega⟩, BT4, HB4, ⟨HSELF.out (by rw [HOK.out, HF.out, HY5.out, HY6.out, HY7.out]; rfl)⟩⟩
        · have hd : decide ((kk : Int) < (N.length : Int)) = false := decide_eq_false (by omega)
          have hd' : decide (kk < N.length) = false := decide_eq_false hlt
          have HNG := Aside0.mk (nodesI_good (fun k hk => HA.out k (by have := HK.out; omega)))
          have HGn := Aside0.mk (show faultI V N B = _ from by rw [HGv.out, if_neg (by rw [HNG.out]; decide)])
          have HFR := Aside0.mk (flat_range HNG.out)
          clear HA HGv
          have q1 : wb.cell? ⟨w.heap.size, 1, none⟩ = some (.slice A1 N.length c1) := (blk_cell BKT.out 1).trans rfl
          have q2 : wb.cell? ⟨w.heap.size, 2, none⟩ = some (.slice A2 B.length c2) := (blk_cell BKT.out 2).trans rfl
          have hgz : w.heap.size < wb.heap.size := blk_lt BKT.out
          have hgz' : ¬ (w.heap.size = wb.heap.size) := by omega
          have ho0 := own_made wb wb.heap.size 3 .i64 N.length (Nat.le_refl _) (by omega)
          have HO0 := Aside0.mk (Kd.R_of_own (enc := Value.int .i64) (h1 := fun _ => rfl) (ok := fun _ => True) (xs := List.replicate N.length 0) (by rw [List.length_replicate]; exact ho0) (fun _ _ => trivial))
          clear ho0
          go_wp2
          go_loopg [96] B.length (fun gg s96 wr => ∃ j : Nat, s96 = .int .i64 (j : Int) ∧ Aside0 (j ≤ B.length ∧ B.length - j ≤ gg) ∧ Aside0 (wr.heap[w.heap.size]? = some (.cells #[.slice A0 V.length c0, .slice A1 N.length c1, .slice A2 B.length c2] 69 (0, 0))) ∧ Aside0 (Kd.R (Kd.int .i64) 3 wr wb.heap.size (fun _ => True) (.slice (some ⟨wb.heap.size, 0, none⟩) N.length N.length) (cntL N.length (B.take j))) ∧ Aside0 (Below w.heap.size w wr) ∧ Aside0 (∀ x ∈ B.take j, bodyB N x = true))
          case atStart => exact ⟨0, rfl, ⟨by omega⟩, ⟨blk_alloc BKT.out _⟩, ⟨by rw [List.take_zero]; exact HO0.out⟩, ⟨HB.out.alloc (below_size HB.out) _⟩, ⟨fun x hx => by cases hx⟩⟩
          case round =>
            clear HO0 q1 q2 HB BKT
            obtain ⟨wc, rfl⟩ : ∃ wc : World, wc = wr := ⟨_, rfl⟩
            obtain ⟨j, rfl, HKj, BKT, HO, HB, HA⟩ := hrel
            have q1 : wc.cell? ⟨w.heap.size, 1, none⟩ = some (.slice A1 N.length c1) := (blk_cell BKT.out 1).trans rfl
            by_cases hj : j < B.length
            · have hjz : (j : Int) < (B.length : Int) := by omega
              have hjd : decide ((j : Int) < (B.length : Int)) = true := decide_eq_true hjz
              have hjd' : decide (j < B.length) = true := decide_eq_true hj
              have hjq := eq_true hjz
              have hj0 : (0 ≤ (j : Int)) = True := eq_true (by omega)
              obtain ⟨adB, rfl, hx⟩ := Kd.at_int (Kd.C_below HBd.out HB.out) (j : Int) (by omega) hjz
              rw [Int.toNat_natCast] at hx
              have HBBAD := Aside0.mk (fun (h : bodyB N (rd B (j : Int)) = false) => (show faultI V N B = 1 by rw [HGn.out, if_pos (List.all_eq_false.2 ⟨_, rd_mem hj, by rw [h]; simp⟩)]))
              have HSN := Aside0.mk (show cntL N.length (B.take (j + 1)) = _ from by rw [take_snoc_rd hj, cntL_snoc])
              have HTK := Aside0.mk (take_snoc_rd hj)
              have hnz : IntKind.i64.wrap ((N.length : Int) - 1) = (N.length : Int) - 1 := by rw [IntKind.wrap_i64]; omega
              have hlj : (B.take j).length ≤ 1000000000 := by have := HS.out.b; rw [List.length_take]; omega
              have hrgj : ∀ x ∈ B.take j, 0 ≤ x ∧ x < (N.length : Int) := fun x hx => body_range (HA.out x hx)
              cases hin : inB (rd B (j : Int)) 0 ((N.length : Int) - 1) with
              | false =>
                have HIN := Aside0.mk hin
                clear hrgj hlj
                go_wp2_with (first | (go_at_call 80; refine (d_within _ _ _ _).mono ?_; rintro e w' ⟨rfl, q, rfl⟩))
                go_ret
                exact ⟨by rw [HBBAD.out (by unfold bodyB; rw [HIN.out]; rfl)]; rfl, pw_below_drewN HB.out _⟩
              | true =>
                obtain ⟨hx0, hx1⟩ := inB_true hin
                have hx2 : rd B (j : Int) < (N.length : Int) := by omega
                have hx0q := eq_true hx0
                have hx2q := eq_true hx2
                have HIN := Aside0.mk hin
                obtain ⟨ad, A5, c5, A6, c6, A7, c7, rfl, n0, _⟩ := at_T125 (Kd.C_below HN.out HB.out) (rd B (j : Int)) hx0 hx2
                have hbd := cnt_bd hrgj hlj _ hx0 hx2
                obtain ⟨hc, hfz⟩ := R_cellN (cntL_length _ _) HO.out _ hx0 hx2
                have hb0 := hbd.1
                have hb1 := hbd.2
                clear hbd hrgj hlj
                cases hst : stmtB (rd_T125 N (rd B (j : Int))).f0 with
                | false =>
                  have HST := Aside0.mk hst
                  go_wp2_with (first | (go_at_call 80; refine (d_within _ _ _ _).mono ?_; rintro e w' ⟨rfl, q, rfl⟩) | (go_at_call 112; refine (d_isStatement _ _).mono ?_; rintro e w' ⟨rfl, q, rfl⟩))
                  go_ret
                  exact ⟨by rw [HBBAD.out (by unfold bodyB; rw [HIN.out, HST.out]; rfl)]; rfl, by repeat (first | exact HB.out | apply pw_below_drewN)⟩
                | true =>
                  have HST := Aside0.mk hst
                  have HOp := Aside0.mk (R_putN (cntL_length _ _) HO.out (rd B (j : Int)) (rd (cntL N.length (B.take j)) (rd B (j : Int)) + 1))
                  revert hc hfz hb0 hb1 HOp HSN
                  generalize cntL N.length (B.take j) = xs
                  generalize hcx : rd xs (rd B (j : Int)) = cx
                  intro HSN hc hfz hb0 hb1 HOp
                  go_wp2_with (first | (go_at_call 80; refine (d_within _ _ _ _).mono ?_; rintro e w' ⟨rfl, q, rfl⟩) | (go_at_call 112; refine (d_isStatement _ _).mono ?_; rintro e w' ⟨rfl, q, rfl⟩))
                  go_roundg (B.length - (j + 1))
                  case measure => have := HKj.out; omega
                  case rel =>
                    refine ⟨j + 1, by go_num, ⟨by omega⟩, ⟨?_⟩, ⟨?_⟩, ⟨?_⟩, ⟨?_⟩⟩
                    · first | exact blk_far (blk_drewN (blk_drewN BKT.out _) _) (by show w.heap.size ≠ wb.heap.size; omega) _ | exact blk_far (blk_drewN BKT.out _) (by show w.heap.size ≠ wb.heap.size; omega) _ | exact blk_far BKT.out (by show w.heap.size ≠ wb.heap.size; omega) _
                    · rw [HSN.out, bump, hcx]; exact Kd.R_step HOp.out (fun _ _ _ => rfl)
                    · exact below_set (by repeat (first | exact HB.out | apply pw_below_drewN)) (by show w.heap.size ≤ wb.heap.size; omega)
                    · intro x hx
                      rw [HTK.out] at hx
                      rcases List.mem_append.1 hx with hx | hx
                      · exact HA.out x hx
                      · rw [List.mem_singleton.1 hx]; unfold bodyB; rw [HIN.out, HST.out]; rfl
            · have hjd : decide ((j : Int) < (B.length : Int)) = false := decide_eq_false (by omega)
              have hjd' : decide (j < B.length) = false := decide_eq_false hj
              have hBt : B.take j = B := List.take_of_length_le (by omega)
              rw [hBt] at HO HA
              have HBA := HA
              have HGb := Aside0.mk (show faultI V N B = _ from by rw [HGn.out, if_neg (by rw [List.all_eq_true.2 HA.out]; decide)])
              clear hBt HA HGn
              have HFR' := HFR
              have HBR := Aside0.mk (fun x hx => body_range (HBA.out x hx) : ∀ x ∈ B, 0 ≤ x ∧ x < (N.length : Int))
              go_wp2
              go_loopg [127] N.length (fun gg s127 wr => ∃ i : Nat, s127 = .int .i64 (i : Int) ∧ Aside0 (i ≤ N.length ∧ N.length - i ≤ gg) ∧ Aside0 (wr.heap[w.heap.size]? = some (.cells #[.slice A0 V.length c0, .slice A1 N.length c1, .slice A2 B.length c2] 69 (0, 0))) ∧ Aside0 (Kd.R (Kd.int .i64) 3 wr wb.heap.size (fun _ => True) (.slice (some ⟨wb.heap.size, 0, none⟩) N.length N.length) (cntL N.length (B ++ flatN (N.take i)))) ∧ Aside0 (Below w.heap.size w wr))
              case atStart => exact ⟨0, rfl, ⟨by omega⟩, BKT, ⟨by rw [show flatN (N.take 0) = [] from rfl, List.append_nil]; exact HO.out⟩, HB⟩
              case round =>
                clear HO q1 HB BKT
                obtain ⟨wd, rfl⟩ : ∃ wd : World, wd = wr := ⟨_, rfl⟩
                obtain ⟨i, rfl, HKi, BKT, HO, HB⟩ := hrel
                by_cases hi : i < N.length
                · have hltz : (i : Int) < (N.length : Int) := by omega
                  have hd9 : decide ((i : Int) < (N.length : Int)) = true := decide_eq_true hltz
                  have hd9' : decide (i < N.length) = true := decide_eq_true hi
                  have hltq := eq_true hltz
                  have h0q : (0 ≤ (i : Int)) = True := eq_true (by omega)
                  obtain ⟨ad, A5, c5, A6, c6, A7, c7, rfl, n0, n1, n2, n3, n4, n5, n6, n7, l5, r5, l6, r6, l7, r7⟩ := at_T125 (Kd.C_below HN.out HB.out) (i : Int) (by omega) hltz
                  rw [Int.toNat_natCast] at n0 n1 n2 n3 n4 n5 n6 n7
                  have hmem := rdN_mem hi
                  have HK3 := Aside0.mk (HS.out.k _ hmem)
                  have HRG3 := Aside0.mk (fun x hx => HFR.out x (mem_flatN hmem hx) : ∀ x ∈ flat1 (rd_T125 N (i : Int)), 0 ≤ x ∧ x < (N.length : Int))
                  have HFL := Aside0.mk (flatN_take N i hi)
                  have R5 := Aside0.mk r5
                  have R6 := Aside0.mk r6
                  have R7 := Aside0.mk r7
                  clear r5 r6 r7 l5 l6 l7 hmem
                  revert n0 n1 n2 n3 n4 n5 n6 n7 HK3 HRG3 HFL R5 R6 R7
                  generalize rd_T125 N (i : Int) = nd
                  obtain ⟨d0, d1, d2, d3, d4, F5, F6, F7⟩ := nd
                  intro n0 n1 n2 n3 n4 n5 n6 n7 HK3 HRG3 HFL R5 R6 R7
                  have hWb : Below wd.heap.size wd (wd.alloc (.cells #[.int .i64 d0, .int .i64 d1, .string d2, .int .i64 d3, .int .i64 d4, .slice A5 F5.length c5, .slice A6 F6.length c6, .slice A7 F7.length c7] 125)) := (Below.refl _ _).alloc (Nat.le_refl _) _
                  go_wp2_with fail
                  refine (impl_all.w d0 d1 d3 d4 d2 A5 A6 A7 c5 c6 c7 F5 F6 F7 _ (Kd.C_below R5.out hWb) (Kd.C_below R6.out hWb) (Kd.C_below R7.out hWb) HK3.out.1 HK3.out.2.1 HK3.out.2.2).mono ?_
                  rintro e w1 ⟨va, rfl, hoa, hba⟩
                  have hp3 : F5 ++ F6 ++ F7 = flat1 ⟨d0, d1, d2, d3, d4, F5, F6, F7⟩ := rfl
                  rw [hp3] at hoa
                  have hLl : (flat1 ⟨d0, d1, d2, d3, d4, F5, F6, F7⟩).length ≤ 3145728 := by have h3 := HK3.out; simp only [flat1, List.length_append]; (try simp only at h3); omega
                  clear n0 n1 n2 n3 n4 n5 n6 n7 R5 R6 R7 HK3 hp3
                  revert HRG3 HFL hoa hLl
                  generalize flat1 ⟨d0, d1, d2, d3, d4, F5, F6, F7⟩ = L
                  intro HRG3 HFL hoa hLl
                  obtain ⟨Aa, ca, ea⟩ := Kd.R_slice hoa
                  subst ea
                  have hsA : (wd.alloc (.cells #[.int .i64 d0, .int .i64 d1, .string d2, .int .i64 d3, .int .i64 d4, .slice A5 F5.length c5, .slice A6 F6.length c6, .slice A7 F7.length c7] 125)).heap.size = wd.heap.size + 1 := by simp
                  rw [hsA] at hoa
                  have hgy : wb.heap.size < wd.heap.size := Kd.R_lt HO.out _ rfl
                  have HOa := Aside0.mk (Kd.R_below HO.out (below_step hWb hba))
                  have HOL := Aside0.mk (Kd.R_mono (Kd.R_bound hoa) (fun k hk => (show k ≠ wb.heap.size from fun e => by have := hk.2.1; omega)))
                  have hlm := Kd.C_max (Kd.R_reads' hoa).2.2
                  have BKa := Aside0.mk (blk_below (blk_alloc BKT.out _) hba)
                  have HBa := Aside0.mk (below_step (below_step HB.out hWb) hba)
                  clear hoa hba hWb hsA HO HB BKT
                  go_wp2
                  go_loopg [134] L.length (fun gg s134 w' => ∃ j : Nat, s134 = .int .i64 (j : Int) ∧ Aside0 (j ≤ L.length ∧ L.length - j ≤ gg) ∧ Aside0 (w'.heap[w.heap.size]? = some (.cells #[.slice A0 V.length c0, .slice (some ad) N.length c1, .slice A2 B.length c2] 69 (0, 0))) ∧ Aside0 (Kd.R (Kd.int .i64) 3 w' wb.heap.size (fun _ => True) (.slice (some ⟨wb.heap.size, 0, none⟩) N.length N.length) (cntL N.length ((B ++ flatN (N.take i)) ++ L.take j))) ∧ Aside0 (Kd.R (Kd.int .i64) 2 w' (wd.heap.size + 1) (fun k => k ≠ wb.heap.size) (.slice Aa L.length ca) L) ∧ Aside0 (Below w.heap.size w w'))
                  case atStart => exact ⟨0, rfl, ⟨by omega⟩, BKa, ⟨by rw [List.take_zero, List.append_nil]; exact HOa.out⟩, HOL, HBa⟩
                  case round =>
                    clear HOa HOL HBa BKa
                    obtain ⟨j, rfl, HKj, BKT, HO, HOL, HB⟩ := hrel
                    by_cases hj2 : j < L.length
                    · have hjz : (j : Int) < (L.length : Int) := by omega
                      have hjd9 : decide ((j : Int) < (L.length : Int)) = true := decide_eq_true hjz
                      have hjd9' : decide (j < L.length) = true := decide_eq_true hj2
                      have hjq := eq_true hjz
                      have hj0 : (0 ≤ (j : Int)) = True := eq_true (by omega)
                      obtain ⟨adL, rfl, hx⟩ := Kd.at_int (Kd.R_reads' HOL.out).2.2 (j : Int) (by omega) hjz
                      rw [Int.toNat_natCast] at hx
                      obtain ⟨hx0, hx1⟩ := HRG3.out _ (rd_mem hj2)
                      have hP : ∀ x ∈ (B ++ flatN (N.take i)) ++ L.take j, 0 ≤ x ∧ x < (N.length : Int) := by
                        intro x hx
                        rcases List.mem_append.1 hx with hx | hx
                        · rcases List.mem_append.1 hx with hx | hx
                          · exact HBR.out x hx
                          · exact HFR.out x (flatN_sub hx)
                        · exact HRG3.out x (List.mem_of_mem_take hx)
                      have hPl : ((B ++ flatN (N.take i)) ++ L.take j).length ≤ 1000000000 := by
                        have e1 := flatN_len (N.take i) (fun x hx => HS.out.k x (List.mem_of_mem_take hx))
                        have e2 := HS.out.b
                        have e4 : (N.take i).length ≤ 200 := by rw [List.length_take]; omega
                        have e5 : (L.take j).length ≤ L.length := by rw [List.length_take]; omega
                        have e6 : (N.take i).length * 3145728 ≤ 200 * 3145728 := Nat.mul_le_mul_right _ e4
                        simp only [List.length_append]
                        omega
                      have hbd := cnt_bd hP hPl _ hx0 hx1
                      obtain ⟨hc, hfz⟩ := R_cellN (cntL_length _ _) HO.out _ hx0 hx1
                      have hb0 := hbd.1
                      have hb1 := hbd.2
                      have HOp := Aside0.mk (R_putN (cntL_length _ _) HO.out (rd L (j : Int)) (rd (cntL N.length ((B ++ flatN (N.take i)) ++ L.take j)) (rd L (j : Int)) + 1))
                      have HSN := Aside0.mk (show cntL N.length ((B ++ flatN (N.take i)) ++ L.take (j + 1)) = _ from by rw [take_snoc_rd hj2, ← List.append_assoc, cntL_snoc])
                      have hx0q := eq_true hx0
                      have hx1q := eq_true hx1
                      clear hP hPl hbd
                      revert hc hfz hb0 hb1 HOp HSN
                      generalize cntL N.length ((B ++ flatN (N.take i)) ++ L.take j) = xs
                      generalize hcx : rd xs (rd L (j : Int)) = cx
                      intro hc hfz hb0 hb1 HOp HSN
                      go_wp2
                      go_roundg (L.length - (j + 1))
                      case measure => have := HKj.out; omega
                      case rel => exact ⟨j + 1, by go_num, ⟨by omega⟩, ⟨blk_far BKT.out (by show w.heap.size ≠ wb.heap.size; omega) _⟩, ⟨by rw [HSN.out, bump, hcx]; exact HOp.out⟩, ⟨Kd.R_far (p := ⟨wb.heap.size, _, none⟩) HOL.out (fun k hk => hk) _⟩, ⟨below_set HB.out (by show w.heap.size ≤ wb.heap.size; omega)⟩⟩
                    · have hjd9 : decide ((j : Int) < (L.length : Int)) = false := decide_eq_false (by omega)
                      have hjd9' : decide (j < L.length) = false := decide_eq_false hj2
                      have HLt := Aside0.mk (show L.take j = L from List.take_of_length_le (by omega))
                      go_wp2
                      go_roundg (N.length - (i + 1))
                      case measure => have := HKi.out; omega
                      case rel => exact ⟨i + 1, by go_num, ⟨by omega⟩, BKT, ⟨by rw [HFL.out, ← List.append_assoc]; have := HO.out; rw [HLt.out] at this; exact this⟩, HB⟩
                · have hd9 : decide ((i : Int) < (N.length : Int)) = false := decide_eq_false (by omega)
                  have hd9' : decide (i < N.length) = false := decide_eq_false hi
                  have hNt : N.take i = N := List.take_of_length_le (by omega)
                  rw [hNt] at HO
                  have hCR : Kd.C (Kd.int .i64) wd (some ⟨wb.heap.size, 0, none⟩) (cntL N.length (B ++ flatN N)).length (cntL N.length (B ++ flatN N)) := (Kd.R_reads' HO.out).2.2
                  have hcl : (cntL N.length (B ++ flatN N)).length = N.length := cntL_length _ _
                  have HCF := slices_ContainsFunc_int.calls 116 #[] oneB (enters_of_func Try.func116 (by kernel_rfl) rfl) (some ⟨wb.heap.size, 0, none⟩) N.length (cntL N.length (B ++ flatN N)) wd hCR (fun W x _ => impl_tf2.w W x)
                  rw [hcl] at HCF
                  have HCFa := Aside0.mk HCF
                  clear HCF hCR hcl hNt
                  go_wp2_with fail
                  refine HCFa.out.mono ?_
                  rintro e w5 ⟨rfl, hb5⟩
                  have BK5 := Aside0.mk (blk_below BKT.out hb5)
                  have HB5 := Aside0.mk (below_step HB.out hb5)
                  clear hb5 HCFa HO HB BKT
                  cases hany : (cntL N.length (B ++ flatN N)).any oneB with
                  | true =>
                    have HGc := Aside0.mk (show faultI V N B = 1 by rw [HGb.out, if_pos hany])
                    clear hany
                    go_wp2
                    go_ret
                    exact ⟨by rw [HGc.out]; rfl, HB5.out⟩
                  | false =>
                    have HGc := Aside0.mk (show faultI V N B = _ from by rw [HGb.out, if_neg (by rw [hany]; decide)])
                    clear hany
                    have t0 : w5.cell? ⟨w.heap.size, 0, none⟩ = some (.slice A0 V.length c0) := (blk_cell BK5.out 0).trans rfl
                    have t1 : w5.cell? ⟨w.heap.size, 1, none⟩ = some (.slice A1 N.length c1) := (blk_cell BK5.out 1).trans rfl
                    have t2 : w5.cell? ⟨w.heap.size, 2, none⟩ = some (.slice A2 B.length c2) := (blk_cell BK5.out 2).trans rfl
                    go_wp2_with fail
                    refine (impl_tooDeep.w _ _ A1 c1 N (by omega) w5 (Kd.C_below HN.out HB5.out) HS.out.k).mono ?_
                    rintro e w6 ⟨rfl, hb6⟩
                    have HB6 := Aside0.mk (below_step HB5.out hb6)
                    clear hb6 t0 t1 t2
                    cases hdp : (depthL N).any deepB with
                    | true =>
                      have HGd := Aside0.mk (show faultI V N B = 9 by rw [HGc.out, if_pos hdp])
                      clear hdp
                      go_wp2
                      go_ret
                      exact ⟨by rw [HGd.out]; rfl, HB6.out⟩
                    | false =>
                      have HGd := Aside0.mk (show faultI V N B = 0 by rw [HGc.out, if_neg (by rw [hdp]; decide)])
                      clear hdp
                      go_wp2
                      go_ret
                      exact ⟨by rw [HGd.out]; rfl, HB6.out⟩
/-! ### LIB sfault2 -/
set_option maxHeartbeats 16000000 in
set_option maxRecDepth 100000 in
theorem spec_l4Fault.w (g : Nat) (V : List S122) (N : List S125) (B : List Int) (A0 A1 A2 : Option Addr) (c0 c1 c2 : Nat) (w : World) (h : TreeAt w g V N B A0 c0 A1 c1 A2 c2) (hs : Small V N B) :
    Calls Try.prog 107 #[.pointer (some ⟨g, 0, none⟩)] w fun e w' => e = .returned (.int .i64 (faultS V N B)) ∧ Below w.heap.size w w' := by
  have huv := Try.underlying122
  have hun := Try.underlying125
  have HT := Aside0.mk h
  have HS := Aside0.mk hs
  have hvm := Kd.C_max h.v
  have p0 : w.cell? ⟨g, 0, none⟩ = some (.slice A0 V.length c0) := (blk_cell h.blk 0).trans rfl
  have p1 : w.cell? ⟨g, 1, none⟩ = some (.slice A1 N.length c1) := (blk_cell h.blk 1).trans rfl
  have hgl : g < w.heap.size := blk_lt h.blk
  clear h hs
  by_cases hV : 24 < V.length
  · have e1 : decide (24 < (V.length : Int)) = true := decide_eq_true (by omega)
    have e2 : decide (24 < V.length) = true := decide_eq_true hV
    have HG := Aside0.mk (show faultS V N B = 2 by unfold faultS; rw [if_pos (.inl hV)])
    clear hV
    go_enter Try.func107, Try.ntmps107
    go_wp2
    go_ret
    exact ⟨by rw [HG.out]; rfl, Below.refl _ _⟩
  by_cases hNn : 200 < N.length
  · have e1 : decide (24 < (V.length : Int)) = false := decide_eq_false (by omega)
    have e2 : decide (24 < V.length) = false := decide_eq_false hV
    have e3 : decide (200 < (N.length : Int)) = true := decide_eq_true (by omega)
    have e4 : decide (200 < N.length) = true := decide_eq_true hNn
    have HG := Aside0.mk (show faultS V N B = 2 by unfold faultS; rw [if_pos (.inr hNn)])
    clear hNn hV
    go_enter Try.func107, Try.ntmps107
    go_wp2
    go_ret
    exact ⟨by rw [HG.out]; rfl, Below.refl _ _⟩
  have e1 : decide (24 < (V.length : Int)) = false := decide_eq_false (by omega)
  have e2 : decide (24 < V.length) = false := decide_eq_false hV
  have e3 : decide (200 < (N.length : Int)) = false := decide_eq_false (by omega)
  have e4 : decide (200 < N.length) = false := decide_eq_false hNn
  have hVl : V.length ≤ 24 := by omega
  have hNl : N.length ≤ 200 := by omega
  have HG := Aside0.mk (show faultS V N B = _ from by unfold faultS; rw [if_neg (by omega)])
  clear hV hNn
  go_enter Try.func107, Try.ntmps107
  go_wp2
  clear e1 e2 e3 e4
  go_loopg [3] V.length (fun gg s3 wr => ∃ kk : Nat, s3 = .int .i64 (kk : Int) ∧ Aside0 (kk ≤ V.length ∧ V.length - kk ≤ gg) ∧ Aside0 (Below w.heap.size w wr) ∧ Aside0 (∀ (j : Nat) (y : S122), j < kk → V[j]? = some y → vf y = 0))
  case atStart => exact ⟨0, rfl, ⟨by omega⟩, ⟨Below.refl _ _⟩, ⟨fun j _ hj => absurd hj (Nat.not_lt_zero _)⟩⟩
  case round =>
    obtain ⟨wa, rfl⟩ : ∃ wa : World, wa = wr := ⟨_, rfl⟩
    obtain ⟨kk, rfl, HK, HB, HA⟩ := hrel
    have q0 := pw_cell_below HB.out p0
    by_cases hlt : kk < V.length
    · have hltz : (kk : Int) < (V.length : Int) := by omega
      have hd : decide ((kk : Int) < (V.length : Int)) = true := decide_eq_true hltz
      have hd' : decide (kk < V.length) = true := decide_eq_true hlt
      obtain ⟨ad, rfl, hc0, hc1, hc2, hc3⟩ := at_T122 (Kd.C_below HT.out.v HB.out) kk (by omega) (by omega)
      rw [Int.toNat_natCast] at hc0 hc1 hc2 hc3
      have HX := Aside0.mk (rdV_get hlt)
      have hsz := HS.out.vn _ (rdV_mem hlt)
      have hltq := eq_true hltz
      have h0q : (0 ≤ (kk : Int)) = True := eq_true (by omega)
      revert hc0 hc1 hc2 hc3 HX hsz
      generalize rd_T122 V (kk : Int) = v
      intro hc0 hc1 hc2 hc3 HX hsz
      have HVB := Aside0.mk (fun (c : Int) (hc : vf v = c) (h0 : c ≠ 0) => (show faultS V N B = c by rw [HG.out, varsF_bad V kk v HX.out HA.out (by rw [hc]; exact h0), hc, if_pos h0]))
      clear hlt
      go_wp2_with fail
      refine (w_IsName' _ hsz _).mono ?_
      rintro e w1 ⟨rfl, hb⟩
      have BK1 := Aside0.mk (blk_below (blk_new wa (.cells #[.string v.f0, .int .i64 v.f1, .int .i64 v.f2, .int .i64 v.f3] 122)) hb)
      have HB1 := Aside0.mk (below_step (HB.out.alloc (below_size HB.out) _) hb)
      have x1 : w1.cell? ⟨wa.heap.size, 1, none⟩ = some (.int .i64 v.f1) := (blk_cell BK1.out 1).trans rfl
      have x2 : w1.cell? ⟨wa.heap.size, 2, none⟩ = some (.int .i64 v.f2) := (blk_cell BK1.out 2).trans rfl
      have x3 : w1.cell? ⟨wa.heap.size, 3, none⟩ = some (.int .i64 v.f3) := (blk_cell BK1.out 3).trans rfl
      clear hb hc0 hc1 hc2 hc3 BK1
      go_wp2_with ((go_at_call 75; refine (d_l1In _ _ _ _).mono ?_; rintro e w' ⟨rfl, q, rfl⟩))
      all_goals first
        | (go_roundg (V.length - (kk + 1))
           case measure => have := HK.out; omega
           case rel =>
             refine ⟨kk + 1, by go_num, ⟨by have := HK.out; omega⟩, ⟨by repeat (first | exact HB1.out | apply pw_below_drewN)⟩, ⟨fun j y hj hy => ?_⟩⟩
             by_cases e : j = kk
             · subst e
               rw [HX.out] at hy
               cases hy
               simp_all [vf]
             · exact HA.out j y (by omega) hy)
        | (go_ret
           refine ⟨?_, by repeat (first | exact HB1.out | apply pw_below_drewN)⟩
           first
             | (rw [HVB.out 5 (by simp_all [vf]) (by decide)]; rfl)
             | (rw [HVB.out 3 (by simp_all [vf]) (by decide)]; rfl))
    · have hd : decide ((kk : Int) < (V.length : Int)) = false := decide_eq_false (by omega)
      have hd' : decide (kk < V.length) = false := decide_eq_false hlt
      have HGv := Aside0.mk (show faultS V N B = _ from by rw [HG.out, varsF_good V (fun j y hy => HA.out j y (by have := (List.getElem?_eq_some_iff.1 hy).1; have := HK.out; omega) hy), if_neg (by decide)])
      clear HA HG
      go_wp2
      clear q0
      go_loopg [5] N.length (fun gg s5 wr => ∃ kk : Nat, s5 = .int .i64 (kk : Int) ∧ Aside0 (kk ≤ N.length ∧ N.length - kk ≤ gg) ∧ Aside0 (Below w.heap.size w wr) ∧ Aside0 (∀ j : Nat, j < kk → rightB N j (rd_T125 N (j : Int)) = true))
      case atStart => exact ⟨0, rfl, ⟨by omega⟩, HB, ⟨fun j hj => absurd hj (Nat.not_lt_zero _)⟩⟩
      case round =>
        clear HB
        obtain ⟨wb, rfl⟩ : ∃ wb : World, wb = wr := ⟨_, rfl⟩
        obtain ⟨kk, rfl, HK, HB, HA⟩ := hrel
        have q1 := pw_cell_below HB.out p1
        by_cases hlt : kk < N.length
        · have hltz : (kk : Int) < (N.length : Int) := by omega
          have hd : decide ((kk : Int) < (N.length : Int)) = true := decide_eq_true hltz
          have hd' : decide (kk < N.length) = true := decide_eq_true hlt
          go_wp2_with fail
          refine (spec_l4Right.w g V N B A0 A1 A2 c0 c1 c2 kk hlt (by omega) wb (HT.out.below HB.out) HS.out).mono ?_
          rintro e w1 ⟨rfl, hb⟩
          have HB1 := Aside0.mk (below_step HB.out hb)
          clear hb
          cases hr : rightB N kk (rd_T125 N (kk : Int)) with
          | false =>
            have HR := Aside0.mk (show faultS V N B = 1 by rw [HGv.out, if_pos (nodesS_bad hlt hr)])
            clear hr
            go_wp2
            go_ret
            exact ⟨by rw [HR.out]; rfl, HB1.out⟩
          | true =>
            have HR := Aside0.mk hr
            clear hr
            go_wp2
            go_roundg (N.length - (kk + 1))
            case measure => have := HK.out; omega
            case rel => exact ⟨kk + 1, by go_num, ⟨by omega⟩, HB1, ⟨fun j hj => if e : j = kk then by subst e; exact HR.out else HA.out j (by omega)⟩⟩
        · have hd : decide ((kk : Int) < (N.length : Int)) = false := decide_eq_false (by omega)
          have hd' : decide (kk < N.length) = false := decide_eq_false hlt
          have HNG := Aside0.mk (nodesS_good (fun k hk => HA.out k (by have := HK.out; omega)))
          have HGn := Aside0.mk (show faultS V N B = _ from by rw [HGv.out, if_neg (by rw [HNG.out]; decide)])
          have HFR := Aside0.mk (flat_rangeS HNG.out)
          have q2 : wb.cell? ⟨g, 2, none⟩ = some (.slice A2 B.length c2) := pw_cell_below HB.out ((blk_cell HT.out.blk 2).trans rfl)
          have HRF := Aside0.mk (fun (W : World) (hb : Below w.heap.size w W) => spec_l4Refs.w g V N B A0 A1 A2 c0 c1 c2 N.length (Nat.le_refl _) (by omega) A2 c2 B false W (HT.out.below hb) (Kd.C_below HT.out.b hb))
          clear HA HGv
          go_wp2_with fail
          go_region_held3 (fun w' => w'.cell? ⟨g, 1, none⟩ = some (.slice A1 N.length c1) ∧ w'.cell? ⟨g, 2, none⟩ = some (.slice A2 B.length c2)) (first | go_keep | (go_split_ands; refine ⟨?_, ?_⟩ <;> exact pw_cell_below hb (by assumption)))
            (first | (go_at_call 148; refine (HRF.out _ (by repeat (first | exact HB.out | apply pw_below_drewN))).mono ?_; rintro e w' ⟨rfl, hb⟩))
          all_goals
            have HB1 := Aside0.mk (below_step (pw_below_drewN HB.out _) hb)
            clear hb
            cases hrb : B.all (refB N N.length false) with
            | false =>
              have HR := Aside0.mk (show faultS V N B = 1 by rw [HGn.out, if_pos hrb])
              clear hrb
              go_wp2
              go_ret
              exact ⟨by rw [HR.out]; rfl, HB1.out⟩
            | true =>
              have HGb := Aside0.mk (show faultS V N B = _ from by rw [HGn.out, if_neg (by rw [hrb]; decide)])
              have HBR := Aside0.mk (fun x hx => (by have := ref_range hrb hx; omega) : ∀ x ∈ B, 0 ≤ x ∧ x < (N.length : Int))
              clear hrb HB
              go_wp2_with fail
              refine (spec_l4Count.w g V N B A0 A1 A2 c0 c1 c2 w' (HT.out.below HB1.out) HS.out hNl (fun x hx => (List.mem_append.1 hx).elim (HFR.out x) (HBR.out x))).mono ?_
              rintro e w2 ⟨v2, rfl, ho, hb2⟩
              obtain ⟨Ao, co, eo⟩ := Kd.R_slice ho
              subst eo
              have HC := Aside0.mk (Kd.R_reads' ho).2.2
              have hcl : (cntL N.length (flatN N ++ B)).length = N.length := cntL_length _ _
              have HB2 := Aside0.mk (below_step HB1.out hb2)
              clear ho hb2
              revert HC hcl HGb
              generalize cntL N.length (flatN N ++ B) = xs
              intro HGb HC hcl
              have hxl : xs.length ≤ 200 := by omega
              clear hcl q1 q2
              go_wp2
              go_loopg [7] xs.length (fun gg s7 wr => ∃ j : Nat, s7 = .int .i64 (j : Int) ∧ Aside0 (j ≤ xs.length ∧ xs.length - j ≤ gg) ∧ Aside0 (Below w2.heap.size w2 wr) ∧ Aside0 (∀ i, i < j → oneB (rd xs (i : Int)) = false))
              case atStart => exact ⟨0, rfl, ⟨by omega⟩, ⟨Below.refl _ _⟩, ⟨fun i hi => absurd hi (Nat.not_lt_zero _)⟩⟩
              case round =>
                obtain ⟨wc, rfl⟩ : ∃ wc : World, wc = wr := ⟨_, rfl⟩
                obtain ⟨j, rfl, HKj, HBj, HAj⟩ := hrel
                by_cases hj : j < xs.length
                · have hjz : (j : Int) < (xs.length : Int) := by omega
                  have hjd : decide ((j : Int) < (xs.length : Int)) = true := decide_eq_true hjz
                  have hjd' : decide (j < xs.length) = true := decide_eq_true hj
                  have hjq := eq_true hjz
                  have hj0 : (0 ≤ (j : Int)) = True := eq_true (by omega)
                  obtain ⟨adx, rfl, hx⟩ := Kd.at_int (Kd.C_below HC.out HBj.out) (j : Int) (by omega) hjz
                  rw [Int.toNat_natCast] at hx
                  cases hone : oneB (rd xs (j : Int)) with
                  | true =>
                    have HR := Aside0.mk (show faultS V N B = 1 by rw [HGb.out, if_pos (any_at hj hone)])
                    have hone' : ((rd xs (j : Int)) != 1) = true := hone
                    clear hone
                    go_wp2
                    go_ret
                    exact ⟨by rw [HR.out]; rfl, below_step HB2.out HBj.out⟩
                  | false =>
                    have hone' : ((rd xs (j : Int)) != 1) = false := hone
                    have HO := Aside0.mk hone
                    clear hone
                    go_wp2
                    go_roundg (xs.length - (j + 1))
                    case measure => have := HKj.out; omega
                    case rel => exact ⟨j + 1, by go_num, ⟨by omega⟩, HBj, ⟨fun i hi => if e : i = j then by subst e; exact HO.out else HAj.out i (by omega)⟩⟩
                · have hjd : decide ((j : Int) < (xs.length : Int)) = false := decide_eq_false (by omega)
                  have hjd' : decide (j < xs.length) = false := decide_eq_false hj
                  have HGc := Aside0.mk (show faultS V N B = _ from by rw [HGb.out, if_neg (by rw [any_none (fun i hi => HAj.out i (by have := HKj.out; omega))]; decide)])
                  have HB3 := Aside0.mk (below_step HB2.out HBj.out)
                  clear HGb HAj
                  go_wp2_with fail
                  refine (spec_l4Depths.w g V N B A0 A1 A2 c0 c1 c2 wc (HT.out.below HB3.out) (by omega)).mono ?_
                  rintro e w4 ⟨v4, rfl, ho, hb4⟩
                  obtain ⟨Ad, cd, ed⟩ := Kd.R_slice ho
                  subst ed
                  have HD := Aside0.mk (Kd.R_reads' ho).2.2
                  have hdl : (depthL N).length = N.length := depthL_length _
                  have HB4 := Aside0.mk (below_step HB3.out hb4)
                  clear ho hb4
                  revert HD hdl HGc
                  generalize depthL N = ys
                  intro HGc HD hdl
                  have hyl : ys.length ≤ 200 := by omega
                  clear hdl
                  go_wp2
                  go_loopg [9] ys.length (fun gg s9 wr => ∃ j : Nat, s9 = .int .i64 (j : Int) ∧ Aside0 (j ≤ ys.length ∧ ys.length - j ≤ gg) ∧ Aside0 (Below w4.heap.size w4 wr) ∧ Aside0 (∀ i, i < j → deepB (rd ys (i : Int)) = false))
                  case atStart => exact ⟨0, rfl, ⟨by omega⟩, ⟨Below.refl _ _⟩, ⟨fun i hi => absurd hi (Nat.not_lt_zero _)⟩⟩
                  case round =>
                    obtain ⟨j2, rfl, HKj2, HBj2, HAj2⟩ := hrel
                    by_cases hj2 : j2 < ys.length
                    · have hjz2 : (j2 : Int) < (ys.length : Int) := by omega
                      have hjd2 : decide ((j2 : Int) < (ys.length : Int)) = true := decide_eq_true hjz2
                      have hjd2' : decide (j2 < ys.length) = true := decide_eq_true hj2
                      have hjq2 := eq_true hjz2
                      have hj02 : (0 ≤ (j2 : Int)) = True := eq_true (by omega)
                      obtain ⟨ady, rfl, hy⟩ := Kd.at_int (Kd.C_below HD.out HBj2.out) (j2 : Int) (by omega) hjz2
                      rw [Int.toNat_natCast] at hy
                      cases hdp : deepB (rd ys (j2 : Int)) with
                      | true =>
                        have HR := Aside0.mk (show faultS V N B = 9 by rw [HGc.out, if_pos (any_at hj2 hdp)])
                        have hdp' : decide (20 < rd ys (j2 : Int)) = true := hdp
                        clear hdp
                        go_wp2
                        go_ret
                        exact ⟨by rw [HR.out]; rfl, below_step HB4.out HBj2.out⟩
                      | false =>
                        have hdp' : decide (20 < rd ys (j2 : Int)) = false := hdp
                        have HO := Aside0.mk hdp
                        clear hdp
                        go_wp2
                        go_roundg (ys.length - (j2 + 1))
                        case measure => have := HKj2.out; omega
                        case rel => exact ⟨j2 + 1, by go_num, ⟨by omega⟩, HBj2, ⟨fun i hi => if e : i = j2 then by subst e; exact HO.out else HAj2.out i (by omega)⟩⟩
                    · have hjd2 : decide ((j2 : Int) < (ys.length : Int)) = false := decide_eq_false (by omega)
                      have hjd2' : decide (j2 < ys.length) = false := decide_eq_false hj2
                      have HR := Aside0.mk (show faultS V N B = 0 by rw [HGc.out, if_neg (by rw [any_none (fun i hi => HAj2.out i (by have := HKj2.out; omega))]; decide)])
                      go_wp2
                      go_ret
                      exact ⟨by rw [HR.out]; rfl, below_step HB4.out HBj2.out⟩
/-! ### LIB var -/
def nmB (a : ByteArray) (x : S122) : Bool := x.f0.toList == a.toList
set_option maxHeartbeats 2000000 in
theorem spec_l4Var.w (g : Nat) (a : ByteArray) (V : List S122) (N : List S125) (B : List Int) (A0 A1 A2 : Option Addr) (c0 c1 c2 : Nat) (w : World) (h : TreeAt w g V N B A0 c0 A1 c1 A2 c2) :
    Calls Try.prog 118 #[.pointer (some ⟨g, 0, none⟩), .string a] w fun e w' => e = .returned (.int .i64 (idxP (nmB a) V)) ∧ Below w.heap.size w w' := by
  have hm := Kd.C_max h.v
  have HT := Aside0.mk h
  clear h
  go_enter Try.func118, Try.ntmps118
  go_wp2
  go_loopg [5] V.length (fun gg s5 wr => ∃ kk : Nat, s5 = .int .i64 (kk : Int) ∧ Aside0 (kk ≤ V.length ∧ V.length - kk ≤ gg) ∧ Aside0 (Below w.heap.size w wr) ∧ Aside0 (∀ (j : Nat) (y : S122), j < kk → V[j]? = some y → nmB a y = false))
  case atStart => exact ⟨0, rfl, ⟨by omega⟩, ⟨Below.refl _ _⟩, ⟨fun j _ hj => absurd hj (Nat.not_lt_zero _)⟩⟩
  case round =>
    obtain ⟨kk, rfl, HK, HB, HA⟩ := hrel
    have hT := HT.out.below HB.out
    have q0 : wr.cell? ⟨g, 0, none⟩ = some (.slice A0 V.length c0) := (blk_cell hT.blk 0).trans rfl
    by_cases hlt : kk < V.length
    · have hltz : (kk : Int) < (V.length : Int) := by omega
      have hd : decide ((kk : Int) < (V.length : Int)) = true := decide_eq_true hltz
      have hd' : decide (kk < V.length) = true := decide_eq_true hlt
      obtain ⟨ad, rfl, hc, _⟩ := at_T122 hT.v kk (by omega) (by omega)
      rw [Int.toNat_natCast] at hc
      have HX := Aside0.mk (rdV_get hlt)
      have hltq := eq_true hltz
      have h0q : (0 ≤ (kk : Int)) = True := eq_true (by omega)
      clear hT
      cases hq : nmB a (rd_T122 V (kk : Int)) with
      | true =>
        have HQ := Aside0.mk hq
        have hq' : ((rd_T122 V (kk : Int)).f0.toList == a.toList) = true := hq
        clear hq
        go_wp2
        go_ret
        refine ⟨?_, HB.out⟩
        rw [idxP_hit _ V kk _ HX.out HQ.out HA.out]
        rfl
      | false =>
        have HQ := Aside0.mk hq
        have hq' : ((rd_T122 V (kk : Int)).f0.toList == a.toList) = false := hq
        clear hq
        go_wp2
        go_roundg (V.length - (kk + 1))
        case measure => have := HK.out; omega
        case rel =>
          refine ⟨kk + 1, by go_num, ⟨by omega⟩, HB, ⟨fun j y hj hy => ?_⟩⟩
          by_cases e : j = kk
          · subst e
            rw [HX.out] at hy
            cases hy
            exact HQ.out
          · exact HA.out j y (by omega) hy
    · have hd : decide ((kk : Int) < (V.length : Int)) = false := decide_eq_false (by omega)
      have hd' : decide (kk < V.length) = false := decide_eq_false hlt
      clear hT
      go_wp2
      go_ret
      refine ⟨?_, HB.out⟩
      rw [idxP_miss _ V (fun j y hy => HA.out j y (by have := (List.getElem?_eq_some_iff.1 hy).1; have := HK.out; omega) hy)]
      rfl
def PredV (g : Nat) (lb : Array Value) (p : S122 → Bool) (w : World) : Prop := ∀ (W : World) (x : S122), Below w.heap.size w W → Calls Try.prog g (#[Value.agg #[.string x.f0, .int .i64 x.f1, .int .i64 x.f2, .int .i64 x.f3]] ++ lb) W fun e W' => e = .returned (.bool (p x)) ∧ Below W.heap.size W W'
set_option maxHeartbeats 2000000 in
theorem slices_IndexFunc_Var.w (g : Nat) (lb : Array Value) (p : S122 → Bool) (eg : Enters g) (A : Option Addr) (c : Nat) (l : List S122) (w : World) (hr : Kd.C k122 w A l.length l) (hp : PredV g lb p w) :
    Calls Try.prog 156 #[.slice A l.length c, .func (.func g) #[] lb] w fun e w' => e = .returned (.int .i64 (idxP p l)) ∧ Below w.heap.size w w' := by
  have hu := Try.underlying122
  have hm := Kd.C_max hr
  have HR := Aside0.mk hr
  have HP := Aside0.mk hp
  have eg' : ∀ args w, (callFunc g args).run Try.prog w = .ok (.enter g args) w := eg
  clear hr hp eg
  go_enter Try.func156, Try.ntmps156
  go_wp2
  go_loopg [5, 8] l.length (fun gg _ s8 wr => ∃ kk : Nat, s8 = .int .i64 (kk : Int) ∧ Aside0 (kk ≤ l.length ∧ l.length - kk ≤ gg) ∧ Aside0 (Below w.heap.size w wr) ∧ Aside0 (∀ (j : Nat) (y : S122), j < kk → l[j]? = some y → p y = false))
  case atStart => exact ⟨0, rfl, ⟨by omega⟩, ⟨Below.refl _ _⟩, ⟨fun j _ hj => absurd hj (Nat.not_lt_zero _)⟩⟩
  case round =>
    obtain ⟨kk, rfl, HK, HB, HA⟩ := hrel
    by_cases hlt : kk < l.length
    · have hltz : (kk : Int) < (l.length : Int) := by omega
      have hd : decide ((kk : Int) < (l.length : Int)) = true := decide_eq_true hltz
      have hd' : decide (kk < l.length) = true := decide_eq_true hlt
      obtain ⟨ad, rfl, hc0, hc1, hc2, hc3⟩ := at_T122 (Kd.C_below HR.out HB.out) kk (by omega) (by omega)
      rw [Int.toNat_natCast] at hc0 hc1 hc2 hc3
      have hcall := HP.out wr (rd_T122 l kk) HB.out
      have HX := Aside0.mk (rdV_get hlt)
      have hltq := eq_true hltz
      have h0q : (0 ≤ (kk : Int)) = True := eq_true (by omega)
      cases hq : p (rd_T122 l kk) with
      | true =>
        rw [hq] at hcall
        have HQ := Aside0.mk hq
        clear hq
        go_wp2_with fail
        refine hcall.mono ?_
        rintro e w' ⟨rfl, hb⟩
        go_wp2
        go_ret
        refine ⟨?_, below_step HB.out hb⟩
        rw [idxP_hit p l kk _ HX.out HQ.out HA.out]
        rfl
      | false =>
        rw [hq] at hcall
        have HQ := Aside0.mk hq
        clear hq
        go_wp2_with fail
        refine hcall.mono ?_
        rintro e w' ⟨rfl, hb⟩
        have HB2 := Aside0.mk (below_step HB.out hb)
        clear hb
        go_wp2
        go_roundg (l.length - (kk + 1))
        case measure => have := HK.out; omega
        case rel =>
          refine ⟨kk + 1, by go_num, ⟨by omega⟩, HB2, ⟨fun j y hj hy => ?_⟩⟩
          by_cases e : j = kk
          · subst e
            rw [HX.out] at hy
            cases hy
            exact HQ.out
          · exact HA.out j y (by omega) hy
    · have hd : decide ((kk : Int) < (l.length : Int)) = false := decide_eq_false (by omega)
      have hd' : decide (kk < l.length) = false := decide_eq_false hlt
      go_wp2
      go_ret
      refine ⟨?_, HB.out⟩
      rw [idxP_miss p l (fun j y hy => HA.out j y (by have := (List.getElem?_eq_some_iff.1 hy).1; have := HK.out; omega) hy)]
      rfl
set_option maxHeartbeats 1000000 in
theorem impl_variable1.w (b : Nat) (a : ByteArray) (W : World) (h : W.cell? ⟨b, 0, none⟩ = some (.string a)) (x : S122) : Calls Try.prog 157 (#[Value.agg #[.string x.f0, .int .i64 x.f1, .int .i64 x.f2, .int .i64 x.f3]] ++ #[.pointer (some ⟨b, 0, none⟩)]) W fun e W' => e = .returned (.bool (nmB a x)) ∧ Below W.heap.size W W' := by
  have hu := Try.underlying122
  show Calls Try.prog _ #[Value.agg #[.string x.f0, .int .i64 x.f1, .int .i64 x.f2, .int .i64 x.f3], .pointer (some ⟨b, 0, none⟩)] W _
  have hlt := World.block_lt_of_cell? W _ h
  have hne : ¬ b = W.heap.size := by have : b < W.heap.size := hlt; omega
  go_enter Try.func157, Try.ntmps157
  go_wp2
  go_ret
  exact ⟨rfl, (Below.refl _ _).alloc (Nat.le_refl _) _⟩
set_option maxHeartbeats 1000000 in
theorem impl_variable.w (A0 : Option Addr) (c0 : Nat) (V : List S122) (v1 v2 : Value) (a : ByteArray) (w : World) (hr : Kd.C k122 w A0 V.length V) :
    Calls Try.prog 119 #[.agg #[.slice A0 V.length c0, v1, v2], .string a] w fun e w' => e = .returned (.int .i64 (idxP (nmB a) V)) ∧ Below w.heap.size w w' := by
  have hu := Try.underlying69
  have HR := Aside0.mk hr
  clear hr
  go_enter Try.func119, Try.ntmps119
  go_wp2_with fail
  refine (slices_IndexFunc_Var.w 157 _ (nmB a) (enters_of_func Try.func157 (by kernel_rfl) rfl) A0 c0 V _ (Kd.C_below HR.out (((Below.refl _ _).alloc (Nat.le_refl _) _).alloc (by simp) _)) (fun W x hb => impl_variable1.w _ a W ?_ x)).mono ?_
  · exact (hb.cell (by simp)).trans (by simp)
  rintro e w' ⟨rfl, hb⟩
  go_wp2
  go_ret
  exact ⟨rfl, (((Below.refl _ _).alloc (Nat.le_refl _) _).alloc (by simp) _).trans (hb.mono (by simp; omega))⟩
/-! ### LIB topV -/
def varF (V : List S122) (N : List S125) (B : List Int) (a : ByteArray) : Option (Int × Int) := if smallB V N B = true then (if faultI V N B = 0 then (if idxP (nmB a) V < 0 then some (4, 0) else some (0, idxP (nmB a) V)) else some (faultI V N B, 0)) else none
def impl_VarAt.f (V : List S122) (N : List S125) (B : List Int) (a : ByteArray) : Option (Int × Int) := varF V N B a
def spec_VarAt.f (V : List S122) (N : List S125) (B : List Int) (a : ByteArray) : Option (Int × Int) := varF V N B a
set_option maxHeartbeats 2000000 in
set_option maxRecDepth 100000 in
theorem spec_VarAt.calls (A0_0 : Option Addr) (c0_0 : Nat) (l0_0 : List S122) (A0_1 : Option Addr) (c0_1 : Nat) (l0_1 : List S125) (A0_2 : Option Addr) (c0_2 : Nat) (l0_2 : List Int) (a1 : ByteArray) (r1 r2 : Int) (w : World) (hr0_0 : Kd.C k122 w A0_0 l0_0.length l0_0) (hc0_0 : l0_0.length ≤ c0_0) (hr0_1 : Kd.C k125 w A0_1 l0_1.length l0_1) (hc0_1 : l0_1.length ≤ c0_1) (hr0_2 : Kd.C (Kd.int .i64) w A0_2 l0_2.length l0_2) (hc0_2 : l0_2.length ≤ c0_2) (h : spec_VarAt.f l0_0 l0_1 l0_2 a1 = some (r1, r2)) :
    Calls Try.prog 54 #[.agg #[.slice A0_0 l0_0.length c0_0, .slice A0_1 l0_1.length c0_1, .slice A0_2 l0_2.length c0_2], .string a1] w fun e w' => e = .returned (.agg #[.int .i64 r1, .int .i64 r2]) ∧ Below w.heap.size w w' := by
  unfold spec_VarAt.f varF at h
  have hu := Try.underlying35
  have hut := Try.underlying69
  by_cases hs : smallB l0_0 l0_1 l0_2 = true
  · rw [if_pos hs] at h
    have hb0 := tree_box hr0_0 hc0_0 hr0_1 hc0_1 hr0_2 hc0_2
    have HT := Aside0.mk hb0
    have HS := Aside0.mk hs
    clear hb0 hs hr0_0 hr0_1 hr0_2
    have HF := Aside0.mk (fault_eq l0_0 l0_1 l0_2)
    have hcl := fun W (hW : TreeAt W w.heap.size l0_0 l0_1 l0_2 A0_0 c0_0 A0_1 c0_1 A0_2 c0_2) => spec_l4Fault.w w.heap.size l0_0 l0_1 l0_2 A0_0 A0_1 A0_2 c0_0 c0_1 c0_2 W hW (smallB_small HS.out)
    rw [HF.out] at hcl
    revert h hcl
    generalize faultI l0_0 l0_1 l0_2 = code
    intro h hcl
    have hcv := fun W (hW : TreeAt W w.heap.size l0_0 l0_1 l0_2 A0_0 c0_0 A0_1 c0_1 A0_2 c0_2) => spec_l4Var.w w.heap.size a1 l0_0 l0_1 l0_2 A0_0 A0_1 A0_2 c0_0 c0_1 c0_2 W hW
    revert h hcv
    generalize idxP (nmB a1) l0_0 = at_
    intro h hcv
    by_cases hz : code = 0
    · subst hz
      rw [if_pos rfl] at h
      by_cases hneg : at_ < 0
      · rw [if_pos hneg] at h
        cases h
        have e1 : decide (at_ < 0) = true := decide_eq_true hneg
        go_enter Try.func54, Try.ntmps54
        have HT1 := Aside0.mk (HT.out.below (w' := (w.alloc (.cells #[.slice A0_0 l0_0.length c0_0, .slice A0_1 l0_1.length c0_1, .slice A0_2 l0_2.length c0_2] 69)).alloc (.cells #[.int .i64 0, .int .i64 0] 35)) ((Below.refl _ _).alloc (Nat.le_refl _) _))
        have HB0 := Aside0.mk ((((Below.refl _ w).alloc (Nat.le_refl _) (.cells #[.slice A0_0 l0_0.length c0_0, .slice A0_1 l0_1.length c0_1, .slice A0_2 l0_2.length c0_2] 69)).alloc (by simp) (.cells #[.int .i64 0, .int .i64 0] 35)) : Below w.heap.size w _)
        have HBK := Aside0.mk (blk_new (w.alloc (.cells #[.slice A0_0 l0_0.length c0_0, .slice A0_1 l0_1.length c0_1, .slice A0_2 l0_2.length c0_2] 69)) (.cells #[.int .i64 0, .int .i64 0] 35))
        revert HT1 HB0 HBK
        rw [show (w.alloc (.cells #[.slice A0_0 l0_0.length c0_0, .slice A0_1 l0_1.length c0_1, .slice A0_2 l0_2.length c0_2] 69)).heap.size = w.heap.size + 1 from by simp]
        intro HT1 HB0 HBK
        go_wp2_with fail
        refine (hcl _ HT1.out).mono ?_
        rintro e w1 ⟨rfl, hb1⟩
        have HT2 := Aside0.mk (HT1.out.below hb1)
        have HB1 := Aside0.mk (below_step HB0.out hb1)
        have HBK1 := Aside0.mk (blk_below HBK.out hb1)
        clear hb1
        have hcz1_0 : w1.cell? ⟨w.heap.size + 1, 0, none⟩ = some (.int .i64 0) := (blk_cell HBK1.out 0).trans rfl
        have hcz1_1 : w1.cell? ⟨w.heap.size + 1, 1, none⟩ = some (.int .i64 0) := (blk_cell HBK1.out 1).trans rfl
        have hfz1_0 := blk_frozen HBK1.out 0
        have hfz1_1 := blk_frozen HBK1.out 1
        go_wp2_with fail
        refine (hcv _ HT2.out).mono ?_
        rintro e w2 ⟨rfl, hb2⟩
        have HT3 := Aside0.mk (HT2.out.below hb2)
        have HB2 := Aside0.mk (below_step HB1.out hb2)
        have HBK2 := Aside0.mk (blk_below HBK1.out hb2)
        clear hb2
        have hcz2_0 : w2.cell? ⟨w.heap.size + 1, 0, none⟩ = some (.int .i64 0) := (blk_cell HBK2.out 0).trans rfl
        have hcz2_1 : w2.cell? ⟨w.heap.size + 1, 1, none⟩ = some (.int .i64 0) := (blk_cell HBK2.out 1).trans rfl
        have hfz2_0 := blk_frozen HBK2.out 0
        have hfz2_1 := blk_frozen HBK2.out 1
        go_wp2
        refine bodyPost_ret (results_cell_row rfl _ _ (w.heap.size + 1) 35 #[.int .i64 4, .int .i64 0] (0, 0) _ rfl (by refine blk_put (cs := #[.int .i64 4, .int .i64 0]) ?_ 1 _ rfl; refine blk_put (cs := #[.int .i64 0, .int .i64 0]) ?_ 0 _ rfl; exact HBK2.out) hu rfl (by kernel_rfl)) rfl ?_
        exact ⟨by first | rfl | simp, by repeat (first | exact HB2.out | refine below_set ?_ (Nat.le_succ _))⟩
      · rw [if_neg hneg] at h
        cases h
        have e1 : decide (r2 < 0) = false := decide_eq_false hneg
        go_enter Try.func54, Try.ntmps54
        have HT1 := Aside0.mk (HT.out.below (w' := (w.alloc (.cells #[.slice A0_0 l0_0.length c0_0, .slice A0_1 l0_1.length c0_1, .slice A0_2 l0_2.length c0_2] 69)).alloc (.cells #[.int .i64 0, .int .i64 0] 35)) ((Below.refl _ _).alloc (Nat.le_refl _) _))
        have HB0 := Aside0.mk ((((Below.refl _ w).alloc (Nat.le_refl _) (.cells #[.slice A0_0 l0_0.length c0_0, .slice A0_1 l0_1.length c0_1, .slice A0_2 l0_2.length c0_2] 69)).alloc (by simp) (.cells #[.int .i64 0, .int .i64 0] 35)) : Below w.heap.size w _)
        have HBK := Aside0.mk (blk_new (w.alloc (.cells #[.slice A0_0 l0_0.length c0_0, .slice A0_1 l0_1.length c0_1, .slice A0_2 l0_2.length c0_2] 69)) (.cells #[.int .i64 0, .int .i64 0] 35))
        revert HT1 HB0 HBK
        rw [show (w.alloc (.cells #[.slice A0_0 l0_0.length c0_0, .slice A0_1 l0_1.length c0_1, .slice A0_2 l0_2.length c0_2] 69)).heap.size = w.heap.size + 1 from by simp]
        intro HT1 HB0 HBK
        go_wp2_with fail
        refine (hcl _ HT1.out).mono ?_
        rintro e w1 ⟨rfl, hb1⟩
        have HT2 := Aside0.mk (HT1.out.below hb1)
        have HB1 := Aside0.mk (below_step HB0.out hb1)
        have HBK1 := Aside0.mk (blk_below HBK.out hb1)
        clear hb1
        have hcz1_0 : w1.cell? ⟨w.heap.size + 1, 0, none⟩ = some (.int .i64 0) := (blk_cell HBK1.out 0).trans rfl
        have hcz1_1 : w1.cell? ⟨w.heap.size + 1, 1, none⟩ = some (.int .i64 0) := (blk_cell HBK1.out 1).trans rfl
        have hfz1_0 := blk_frozen HBK1.out 0
        have hfz1_1 := blk_frozen HBK1.out 1
        go_wp2_with fail
        refine (hcv _ HT2.out).mono ?_
        rintro e w2 ⟨rfl, hb2⟩
        have HT3 := Aside0.mk (HT2.out.below hb2)
        have HB2 := Aside0.mk (below_step HB1.out hb2)
        have HBK2 := Aside0.mk (blk_below HBK1.out hb2)
        clear hb2
        have hcz2_0 : w2.cell? ⟨w.heap.size + 1, 0, none⟩ = some (.int .i64 0) := (blk_cell HBK2.out 0).trans rfl
        have hcz2_1 : w2.cell? ⟨w.heap.size + 1, 1, none⟩ = some (.int .i64 0) := (blk_cell HBK2.out 1).trans rfl
        have hfz2_0 := blk_frozen HBK2.out 0
        have hfz2_1 := blk_frozen HBK2.out 1
        go_wp2
        refine bodyPost_ret (results_cell_row rfl _ _ (w.heap.size + 1) 35 #[.int .i64 0, .int .i64 r2] (0, 0) _ rfl (by refine blk_put (cs := #[.int .i64 0, .int .i64 0]) ?_ 1 _ rfl; refine blk_put (cs := #[.int .i64 0, .int .i64 0]) ?_ 0 _ rfl; exact HBK2.out) hu rfl (by kernel_rfl)) rfl ?_
        exact ⟨by first | rfl | simp, by repeat (first | exact HB2.out | refine below_set ?_ (Nat.le_succ _))⟩
    · rw [if_neg hz] at h
      cases h
      have e1 : decide (r1 = 0) = false := decide_eq_false hz
      have e2 : (r1 == 0) = false := by simp [hz]
      have e3 : (r1 != 0) = true := by simp [hz]
      go_enter Try.func54, Try.ntmps54
      have HT1 := Aside0.mk (HT.out.below (w' := (w.alloc (.cells #[.slice A0_0 l0_0.length c0_0, .slice A0_1 l0_1.length c0_1, .slice A0_2 l0_2.length c0_2] 69)).alloc (.cells #[.int .i64 0, .int .i64 0] 35)) ((Below.refl _ _).alloc (Nat.le_refl _) _))
      have HB0 := Aside0.mk ((((Below.refl _ w).alloc (Nat.le_refl _) (.cells #[.slice A0_0 l0_0.length c0_0, .slice A0_1 l0_1.length c0_1, .slice A0_2 l0_2.length c0_2] 69)).alloc (by simp) (.cells #[.int .i64 0, .int .i64 0] 35)) : Below w.heap.size w _)
      have HBK := Aside0.mk (blk_new (w.alloc (.cells #[.slice A0_0 l0_0.length c0_0, .slice A0_1 l0_1.length c0_1, .slice A0_2 l0_2.length c0_2] 69)) (.cells #[.int .i64 0, .int .i64 0] 35))
      revert HT1 HB0 HBK
      rw [show (w.alloc (.cells #[.slice A0_0 l0_0.length c0_0, .slice A0_1 l0_1.length c0_1, .slice A0_2 l0_2.length c0_2] 69)).heap.size = w.heap.size + 1 from by simp]
      intro HT1 HB0 HBK
      go_wp2_with fail
      refine (hcl _ HT1.out).mono ?_
      rintro e w1 ⟨rfl, hb1⟩
      have HT2 := Aside0.mk (HT1.out.below hb1)
      have HB1 := Aside0.mk (below_step HB0.out hb1)
      have HBK1 := Aside0.mk (blk_below HBK.out hb1)
      clear hb1
      have hcz1_0 : w1.cell? ⟨w.heap.size + 1, 0, none⟩ = some (.int .i64 0) := (blk_cell HBK1.out 0).trans rfl
      have hcz1_1 : w1.cell? ⟨w.heap.size + 1, 1, none⟩ = some (.int .i64 0) := (blk_cell HBK1.out 1).trans rfl
      have hfz1_0 := blk_frozen HBK1.out 0
      have hfz1_1 := blk_frozen HBK1.out 1
      go_wp2
      refine bodyPost_ret (results_cell_row rfl _ _ (w.heap.size + 1) 35 #[.int .i64 r1, .int .i64 0] (0, 0) _ rfl (by refine blk_put (cs := #[.int .i64 r1, .int .i64 0]) ?_ 1 _ rfl; refine blk_put (cs := #[.int .i64 0, .int .i64 0]) ?_ 0 _ rfl; exact HBK1.out) hu rfl (by kernel_rfl)) rfl ?_
      exact ⟨by first | rfl | simp, by repeat (first | exact HB1.out | refine below_set ?_ (Nat.le_succ _))⟩
  · rw [if_neg hs] at h
    cases h
set_option maxHeartbeats 2000000 in
set_option maxRecDepth 100000 in
theorem impl_VarAt.calls (A0_0 : Option Addr) (c0_0 : Nat) (l0_0 : List S122) (A0_1 : Option Addr) (c0_1 : Nat) (l0_1 : List S125) (A0_2 : Option Addr) (c0_2 : Nat) (l0_2 : List Int) (a1 : ByteArray) (r1 r2 : Int) (w : World) (hr0_0 : Kd.C k122 w A0_0 l0_0.length l0_0) (hc0_0 : l0_0.length ≤ c0_0) (hr0_1 : Kd.C k125 w A0_1 l0_1.length l0_1) (hc0_1 : l0_1.length ≤ c0_1) (hr0_2 : Kd.C (Kd.int .i64) w A0_2 l0_2.length l0_2) (hc0_2 : l0_2.length ≤ c0_2) (h : impl_VarAt.f l0_0 l0_1 l0_2 a1 = some (r1, r2)) :
    Calls Try.prog 55 #[.agg #[.slice A0_0 l0_0.length c0_0, .slice A0_1 l0_1.length c0_1, .slice A0_2 l0_2.length c0_2], .string a1] w fun e w' => e = .returned (.agg #[.int .i64 r1, .int .i64 r2]) ∧ Below w.heap.size w w' := by
  unfold impl_VarAt.f varF at h
  have hu := Try.underlying35
  have hut := Try.underlying69
  by_cases hs : smallB l0_0 l0_1 l0_2 = true
  · rw [if_pos hs] at h
    have hb0 := tree_box hr0_0 hc0_0 hr0_1 hc0_1 hr0_2 hc0_2
    have HT := Aside0.mk hb0
    have HS := Aside0.mk hs
    clear hb0 hs hr0_0 hr0_1 hr0_2
    have HF := Aside0.mk (fault_eq l0_0 l0_1 l0_2)
    have hcl := fun W (hW : TreeAt W w.heap.size l0_0 l0_1 l0_2 A0_0 c0_0 A0_1 c0_1 A0_2 c0_2) => impl_TreeFault.w l0_0 l0_1 l0_2 A0_0 A0_1 A0_2 c0_0 c0_1 c0_2 W hW.v hW.n hW.b (smallB_small HS.out)
    revert h hcl
    generalize faultI l0_0 l0_1 l0_2 = code
    intro h hcl
    have hcv := fun W (hW : TreeAt W w.heap.size l0_0 l0_1 l0_2 A0_0 c0_0 A0_1 c0_1 A0_2 c0_2) => impl_variable.w A0_0 c0_0 l0_0 (.slice A0_1 l0_1.length c0_1) (.slice A0_2 l0_2.length c0_2) a1 W hW.v
    revert h hcv
    generalize idxP (nmB a1) l0_0 = at_
    intro h hcv
    by_cases hz : code = 0
    · subst hz
      rw [if_pos rfl] at h
      by_cases hneg : at_ < 0
      · rw [if_pos hneg] at h
        cases h
        have e1 : decide (at_ < 0) = true := decide_eq_true hneg
        go_enter Try.func55, Try.ntmps55
        have HT1 := Aside0.mk (HT.out.below (w' := (w.alloc (.cells #[.slice A0_0 l0_0.length c0_0, .slice A0_1 l0_1.length c0_1, .slice A0_2 l0_2.length c0_2] 69)).alloc (.cells #[.int .i64 0, .int .i64 0] 35)) ((Below.refl _ _).alloc (Nat.le_refl _) _))
        have HB0 := Aside0.mk ((((Below.refl _ w).alloc (Nat.le_refl _) (.cells #[.slice A0_0 l0_0.length c0_0, .slice A0_1 l0_1.length c0_1, .slice A0_2 l0_2.length c0_2] 69)).alloc (by simp) (.cells #[.int .i64 0, .int .i64 0] 35)) : Below w.heap.size w _)
        have HBK := Aside0.mk (blk_new (w.alloc (.cells #[.slice A0_0 l0_0.length c0_0, .slice A0_1 l0_1.length c0_1, .slice A0_2 l0_2.length c0_2] 69)) (.cells #[.int .i64 0, .int .i64 0] 35))
        revert HT1 HB0 HBK
        rw [show (w.alloc (.cells #[.slice A0_0 l0_0.length c0_0, .slice A0_1 l0_1.length c0_1, .slice A0_2 l0_2.length c0_2] 69)).heap.size = w.heap.size + 1 from by simp]
        intro HT1 HB0 HBK
        go_wp2_with fail
        refine (hcl _ HT1.out).mono ?_
        rintro e w1 ⟨rfl, hb1⟩
        have HT2 := Aside0.mk (HT1.out.below hb1)
        have HB1 := Aside0.mk (below_step HB0.out hb1)
        have HBK1 := Aside0.mk (blk_below HBK.out hb1)
        clear hb1
        have q10 : w1.cell? ⟨w.heap.size, 0, none⟩ = some (.slice A0_0 l0_0.length c0_0) := (blk_cell HT2.out.blk 0).trans rfl
        have q11 : w1.cell? ⟨w.heap.size, 1, none⟩ = some (.slice A0_1 l0_1.length c0_1) := (blk_cell HT2.out.blk 1).trans rfl
        have q12 : w1.cell? ⟨w.heap.size, 2, none⟩ = some (.slice A0_2 l0_2.length c0_2) := (blk_cell HT2.out.blk 2).trans rfl
        have hcz1_0 : w1.cell? ⟨w.heap.size + 1, 0, none⟩ = some (.int .i64 0) := (blk_cell HBK1.out 0).trans rfl
        have hcz1_1 : w1.cell? ⟨w.heap.size + 1, 1, none⟩ = some (.int .i64 0) := (blk_cell HBK1.out 1).trans rfl
        have hfz1_0 := blk_frozen HBK1.out 0
        have hfz1_1 := blk_frozen HBK1.out 1
        go_wp2_with fail
        refine (hcv _ HT2.out).mono ?_
        rintro e w2 ⟨rfl, hb2⟩
        have HT3 := Aside0.mk (HT2.out.below hb2)
        have HB2 := Aside0.mk (below_step HB1.out hb2)
        have HBK2 := Aside0.mk (blk_below HBK1.out hb2)
        clear hb2
        have q20 : w2.cell? ⟨w.heap.size, 0, none⟩ = some (.slice A0_0 l0_0.length c0_0) := (blk_cell HT3.out.blk 0).trans rfl
        have q21 : w2.cell? ⟨w.heap.size, 1, none⟩ = some (.slice A0_1 l0_1.length c0_1) := (blk_cell HT3.out.blk 1).trans rfl
        have q22 : w2.cell? ⟨w.heap.size, 2, none⟩ = some (.slice A0_2 l0_2.length c0_2) := (blk_cell HT3.out.blk 2).trans rfl
        have hcz2_0 : w2.cell? ⟨w.heap.size + 1, 0, none⟩ = some (.int .i64 0) := (blk_cell HBK2.out 0).trans rfl
        have hcz2_1 : w2.cell? ⟨w.heap.size + 1, 1, none⟩ = some (.int .i64 0) := (blk_cell HBK2.out 1).trans rfl
        have hfz2_0 := blk_frozen HBK2.out 0
        have hfz2_1 := blk_frozen HBK2.out 1
        go_wp2
        refine bodyPost_ret (results_cell_row rfl _ _ (w.heap.size + 1) 35 #[.int .i64 4, .int .i64 0] (0, 0) _ rfl (by refine blk_put (cs := #[.int .i64 4, .int .i64 0]) ?_ 1 _ rfl; refine blk_put (cs := #[.int .i64 0, .int .i64 0]) ?_ 0 _ rfl; exact HBK2.out) hu rfl (by kernel_rfl)) rfl ?_
        exact ⟨by first | rfl | simp, by repeat (first | exact HB2.out | refine below_set ?_ (Nat.le_succ _))⟩
      · rw [if_neg hneg] at h
        cases h
        have e1 : decide (r2 < 0) = false := decide_eq_false hneg
        go_enter Try.func55, Try.ntmps55
        have HT1 := Aside0.mk (HT.out.below (w' := (w.alloc (.cells #[.slice A0_0 l0_0.length c0_0, .slice A0_1 l0_1.length c0_1, .slice A0_2 l0_2.length c0_2] 69)).alloc (.cells #[.int .i64 0, .int .i64 0] 35)) ((Below.refl _ _).alloc (Nat.le_refl _) _))
        have HB0 := Aside0.mk ((((Below.refl _ w).alloc (Nat.le_refl _) (.cells #[.slice A0_0 l0_0.length c0_0, .slice A0_1 l0_1.length c0_1, .slice A0_2 l0_2.length c0_2] 69)).alloc (by simp) (.cells #[.int .i64 0, .int .i64 0] 35)) : Below w.heap.size w _)
        have HBK := Aside0.mk (blk_new (w.alloc (.cells #[.slice A0_0 l0_0.length c0_0, .slice A0_1 l0_1.length c0_1, .slice A0_2 l0_2.length c0_2] 69)) (.cells #[.int .i64 0, .int .i64 0] 35))
        revert HT1 HB0 HBK
        rw [show (w.alloc (.cells #[.slice A0_0 l0_0.length c0_0, .slice A0_1 l0_1.length c0_1, .slice A0_2 l0_2.length c0_2] 69)).heap.size = w.heap.size + 1 from by simp]
        intro HT1 HB0 HBK
        go_wp2_with fail
        refine (hcl _ HT1.out).mono ?_
        rintro e w1 ⟨rfl, hb1⟩
        have HT2 := Aside0.mk (HT1.out.below hb1)
        have HB1 := Aside0.mk (below_step HB0.out hb1)
        have HBK1 := Aside0.mk (blk_below HBK.out hb1)
        clear hb1
        have q10 : w1.cell? ⟨w.heap.size, 0, none⟩ = some (.slice A0_0 l0_0.length c0_0) := (blk_cell HT2.out.blk 0).trans rfl
        have q11 : w1.cell? ⟨w.heap.size, 1, none⟩ = some (.slice A0_1 l0_1.length c0_1) := (blk_cell HT2.out.blk 1).trans rfl
        have q12 : w1.cell? ⟨w.heap.size, 2, none⟩ = some (.slice A0_2 l0_2.length c0_2) := (blk_cell HT2.out.blk 2).trans rfl
        have hcz1_0 : w1.cell? ⟨w.heap.size + 1, 0, none⟩ = some (.int .i64 0) := (blk_cell HBK1.out 0).trans rfl
        have hcz1_1 : w1.cell? ⟨w.heap.size + 1, 1, none⟩ = some (.int .i64 0) := (blk_cell HBK1.out 1).trans rfl
        have hfz1_0 := blk_frozen HBK1.out 0
        have hfz1_1 := blk_frozen HBK1.out 1
        go_wp2_with fail
        refine (hcv _ HT2.out).mono ?_
        rintro e w2 ⟨rfl, hb2⟩
        have HT3 := Aside0.mk (HT2.out.below hb2)
        have HB2 := Aside0.mk (below_step HB1.out hb2)
        have HBK2 := Aside0.mk (blk_below HBK1.out hb2)
        clear hb2
        have q20 : w2.cell? ⟨w.heap.size, 0, none⟩ = some (.slice A0_0 l0_0.length c0_0) := (blk_cell HT3.out.blk 0).trans rfl
        have q21 : w2.cell? ⟨w.heap.size, 1, none⟩ = some (.slice A0_1 l0_1.length c0_1) := (blk_cell HT3.out.blk 1).trans rfl
        have q22 : w2.cell? ⟨w.heap.size, 2, none⟩ = some (.slice A0_2 l0_2.length c0_2) := (blk_cell HT3.out.blk 2).trans rfl
        have hcz2_0 : w2.cell? ⟨w.heap.size + 1, 0, none⟩ = some (.int .i64 0) := (blk_cell HBK2.out 0).trans rfl
        have hcz2_1 : w2.cell? ⟨w.heap.size + 1, 1, none⟩ = some (.int .i64 0) := (blk_cell HBK2.out 1).trans rfl
        have hfz2_0 := blk_frozen HBK2.out 0
        have hfz2_1 := blk_frozen HBK2.out 1
        go_wp2
        refine bodyPost_ret (results_cell_row rfl _ _ (w.heap.size + 1) 35 #[.int .i64 0, .int .i64 r2] (0, 0) _ rfl (by refine blk_put (cs := #[.int .i64 0, .int .i64 0]) ?_ 1 _ rfl; refine blk_put (cs := #[.int .i64 0, .int .i64 0]) ?_ 0 _ rfl; exact HBK2.out) hu rfl (by kernel_rfl)) rfl ?_
        exact ⟨by first | rfl | simp, by repeat (first | exact HB2.out | refine below_set ?_ (Nat.le_succ _))⟩
    · rw [if_neg hz] at h
      cases h
      have e1 : decide (r1 = 0) = false := decide_eq_false hz
      have e2 : (r1 == 0) = false := by simp [hz]
      have e3 : (r1 != 0) = true := by simp [hz]
      go_enter Try.func55, Try.ntmps55
      have HT1 := Aside0.mk (HT.out.below (w' := (w.alloc (.cells #[.slice A0_0 l0_0.length c0_0, .slice A0_1 l0_1.length c0_1, .slice A0_2 l0_2.length c0_2] 69)).alloc (.cells #[.int .i64 0, .int .i64 0] 35)) ((Below.refl _ _).alloc (Nat.le_refl _) _))
      have HB0 := Aside0.mk ((((Below.refl _ w).alloc (Nat.le_refl _) (.cells #[.slice A0_0 l0_0.length c0_0, .slice A0_1 l0_1.length c0_1, .slice A0_2 l0_2.length c0_2] 69)).alloc (by simp) (.cells #[.int .i64 0, .int .i64 0] 35)) : Below w.heap.size w _)
      have HBK := Aside0.mk (blk_new (w.alloc (.cells #[.slice A0_0 l0_0.length c0_0, .slice A0_1 l0_1.length c0_1, .slice A0_2 l0_2.length c0_2] 69)) (.cells #[.int .i64 0, .int .i64 0] 35))
      revert HT1 HB0 HBK
      rw [show (w.alloc (.cells #[.slice A0_0 l0_0.length c0_0, .slice A0_1 l0_1.length c0_1, .slice A0_2 l0_2.length c0_2] 69)).heap.size = w.heap.size + 1 from by simp]
      intro HT1 HB0 HBK
      go_wp2_with fail
      refine (hcl _ HT1.out).mono ?_
      rintro e w1 ⟨rfl, hb1⟩
      have HT2 := Aside0.mk (HT1.out.below hb1)
      have HB1 := Aside0.mk (below_step HB0.out hb1)
      have HBK1 := Aside0.mk (blk_below HBK.out hb1)
      clear hb1
      have q10 : w1.cell? ⟨w.heap.size, 0, none⟩ = some (.slice A0_0 l0_0.length c0_0) := (blk_cell HT2.out.blk 0).trans rfl
      have q11 : w1.cell? ⟨w.heap.size, 1, none⟩ = some (.slice A0_1 l0_1.length c0_1) := (blk_cell HT2.out.blk 1).trans rfl
      have q12 : w1.cell? ⟨w.heap.size, 2, none⟩ = some (.slice A0_2 l0_2.length c0_2) := (blk_cell HT2.out.blk 2).trans rfl
      have hcz1_0 : w1.cell? ⟨w.heap.size + 1, 0, none⟩ = some (.int .i64 0) := (blk_cell HBK1.out 0).trans rfl
      have hcz1_1 : w1.cell? ⟨w.heap.size + 1, 1, none⟩ = some (.int .i64 0) := (blk_cell HBK1.out 1).trans rfl
      have hfz1_0 := blk_frozen HBK1.out 0
      have hfz1_1 := blk_frozen HBK1.out 1
      go_wp2
      refine bodyPost_ret (results_cell_row rfl _ _ (w.heap.size + 1) 35 #[.int .i64 r1, .int .i64 0] (0, 0) _ rfl (by refine blk_put (cs := #[.int .i64 r1, .int .i64 0]) ?_ 1 _ rfl; refine blk_put (cs := #[.int .i64 0, .int .i64 0]) ?_ 0 _ rfl; exact HBK1.out) hu rfl (by kernel_rfl)) rfl ?_
      exact ⟨by first | rfl | simp, by repeat (first | exact HB1.out | refine below_set ?_ (Nat.le_succ _))⟩
  · rw [if_neg hs] at h
    cases h
/-! ### laws_eqIntResult: function 25 -/
def laws_eqIntResult.f (a0_0 : Int) (a0_1 : Int) (a1_0 : Int) (a1_1 : Int) : Option (Bool) := if a0_0 = a1_0 then (if a0_1 = a1_1 then (some true) else (some false)) else (some false)
set_option maxHeartbeats 8000000 in
set_option maxRecDepth 100000 in
theorem laws_eqIntResult.calls (a0_0 : Int) (a0_1 : Int) (a1_0 : Int) (a1_1 : Int) (r : Bool) (w : World) (h : laws_eqIntResult.f a0_0 a0_1 a1_0 a1_1 = some r) :
    Calls Try.prog 25 #[.agg #[.int .i64 a0_0, .int .i64 a0_1], .agg #[.int .i64 a1_0, .int .i64 a1_1]] w fun e w' => e = .returned (.bool r) ∧ Below w.heap.size w w' := by
  have hu35 := Try.underlying35
  have HB := Aside0.mk (Below.refl w.heap.size w)
  have H : (if a0_0 = a1_0 then (if a0_1 = a1_1 then (some true) else (some false)) else (some false)) = some r := h
  clear h
  by_cases c3 : a0_0 = a1_0
  · rw [if_pos c3] at H
    have c3b0 : (a0_0 == a1_0) = true := beq_iff_eq.mpr c3
    have c3b1 : (a0_0 != a1_0) = false := bne_eq_false_iff_eq.mpr c3
    clear c3
    by_cases c4 : a0_1 = a1_1
    · rw [if_pos c4] at H
      have c4b0 : (a0_1 == a1_1) = true := beq_iff_eq.mpr c4
      have c4b1 : (a0_1 != a1_1) = false := bne_eq_false_iff_eq.mpr c4
      clear c4
      obtain rfl := Option.some.inj H
      go_enter Try.func25, Try.ntmps25
      go_wp2_with (first | ((with_reducible refine gate_dst (N := 2) rfl ?_); refine box_event ?hg (N := 2) ?hd (cs := #[.int .i64 a0_0, .int .i64 a0_1]) (t := 35) ?hr ?_; (case hd => rfl); (case hg => rfl); (case hr => first | (go_simp; done) | (go_simp; rfl)); intro gb101 hg w5 hbox hb; have n0_ := Aside0.mk (below_step (by repeat (first | (with_reducible first | exact HB.out | apply below_alloc | apply pw_below_drewN | apply below_drew1) | exact HB.out)) hb); have n1_ := Aside0.mk (hbox); have n2_ := Aside0.mk ((by rw [hg]; exact (below_size (by repeat (first | (with_reducible first | exact HB.out | apply below_alloc | apply pw_below_drewN | apply below_drew1) | exact HB.out))) : w.heap.size ≤ gb101)); have n3_ := Aside0.mk ((by rw [hg]; exact (below_size (by repeat (first | (with_reducible first | exact HB.out | apply below_alloc | apply pw_below_drewN | apply below_drew1) | exact HB.out))) : w.heap.size ≤ gb101)); clear HB; have HB := n0_; have BK101 := n1_; have GW101 := n2_; have GE101 := n3_; clear n0_ n1_ n2_ n3_; clear hb hbox hg) | ((with_reducible refine gate_dst (N := 3) rfl ?_); refine box_event ?hg (N := 3) ?hd (cs := #[.int .i64 a1_0, .int .i64 a1_1]) (t := 35) ?hr ?_; (case hd => rfl); (case hg => rfl); (case hr => first | (go_simp; done) | (go_simp; rfl)); intro gb102 hg w6 hbox hb; have n0_ := Aside0.mk (blk_below (g := gb101) (o := .cells #[.int .i64 a0_0, .int .i64 a0_1] 35 (0, 0)) (by (with_reducible repeat (first | refine blk_drewN ?_ _ | refine blk_drew ?_ | refine blk_alloc ?_ _)); exact BK101.out) hb); have n1_ := Aside0.mk (below_step (by repeat (first | (with_reducible first | exact HB.out | apply below_alloc | apply pw_below_drewN | apply below_drew1 | refine below_set ?_ GE101.out) | exact HB.out)) hb); have n2_ := Aside0.mk (hbox); have n3_ := Aside0.mk ((by rw [hg]; exact (below_size (by repeat (first | (with_reducible first | exact HB.out | apply below_alloc | apply pw_below_drewN | apply below_drew1 | refine below_set ?_ GE101.out) | exact HB.out))) : w.heap.size ≤ gb102)); have n4_ := Aside0.mk ((by rw [hg]; exact (below_size (by repeat (first | (with_reducible first | exact HB.out | apply below_alloc | apply pw_below_drewN | apply below_drew1 | refine below_set ?_ GE101.out) | exact HB.out))) : w.heap.size ≤ gb102)); have n5_ := Aside0.mk ((by rw [hg]; exact Nat.ne_of_lt (blk_lt (g := gb101) (o := .cells #[.int .i64 a0_0, .int .i64 a0_1] 35 (0, 0)) (by (with_reducible repeat (first | refine blk_drewN ?_ _ | refine blk_drew ?_ | refine blk_alloc ?_ _)); exact BK101.out)) : gb101 ≠ gb102)); have n6_ := Aside0.mk ((by rw [hg]; exact Nat.ne_of_gt (blk_lt (g := gb101) (o := .cells #[.int .i64 a0_0, .int .i64 a0_1] 35 (0, 0)) (by (with_reducible repeat (first | refine blk_drewN ?_ _ | refine blk_drew ?_ | refine blk_alloc ?_ _)); exact BK101.out)) : gb102 ≠ gb101)); clear BK101; clear HB; have BK101 := n0_; have HB := n1_; have BK102 := n2_; have GW102 := n3_; have GE102 := n4_; have NB101_102 := n5_; have NB102_101 := n6_; clear n0_ n1_ n2_ n3_ n4_ n5_ n6_; clear hb hbox hg; have hnb7 := NB101_102.out; have hnc7 := NB102_101.out; have hcz8_0 : w6.cell? ⟨gb101, 0, none⟩ = some (.int .i64 a0_0) := (blk_cell BK101.out 0).trans rfl; have hcz8_1 : w6.cell? ⟨gb101, 1, none⟩ = some (.int .i64 a0_1) := (blk_cell BK101.out 1).trans rfl; have hfz8_0 := blk_frozen BK101.out 0; have hfz8_1 := blk_frozen BK101.out 1; have hcz9_0 : w6.cell? ⟨gb102, 0, none⟩ = some (.int .i64 a1_0) := (blk_cell BK102.out 0).trans rfl; have hcz9_1 : w6.cell? ⟨gb102, 1, none⟩ = some (.int .i64 a1_1) := (blk_cell BK102.out 1).trans rfl; have hfz9_0 := blk_frozen BK102.out 0; have hfz9_1 := blk_frozen BK102.out 1))
      go_ret
      exact ⟨by first | rfl | (simp [errW_none, errW_some] <;> rfl) | (simp [*, errW_none, errW_some] <;> rfl), by repeat (first | (with_reducible first | exact HB.out | apply below_alloc | apply pw_below_drewN | apply below_drew1 | refine below_set ?_ GE101.out | refine below_set ?_ GE102.out) | exact HB.out)⟩
    · rw [if_neg c4] at H
      have c4b0 : (a0_1 == a1_1) = false := beq_eq_false_iff_ne.mpr c4
      have c4b1 : (a0_1 != a1_1) = true := bne_iff_ne.mpr c4
      obtain rfl := Option.some.inj H
      go_enter Try.func25, Try.ntmps25
      go_wp2_with (first | ((with_reducible refine gate_dst (N := 2) rfl ?_); refine box_event ?hg (N := 2) ?hd (cs := #[.int .i64 a0_0, .int .i64 a0_1]) (t := 35) ?hr ?_; (case hd => rfl); (case hg => rfl); (case hr => first | (go_simp; done) | (go_simp; rfl)); intro gb101 hg w10 hbox hb; have n0_ := Aside0.mk (below_step (by repeat (first | (with_reducible first | exact HB.out | apply below_alloc | apply pw_below_drewN | apply below_drew1) | exact HB.out)) hb); have n1_ := Aside0.mk (hbox); have n2_ := Aside0.mk ((by rw [hg]; exact (below_size (by repeat (first | (with_reducible first | exact HB.out | apply below_alloc | apply pw_below_drewN | apply below_drew1) | exact HB.out))) : w.heap.size ≤ gb101)); have n3_ := Aside0.mk ((by rw [hg]; exact (below_size (by repeat (first | (with_reducible first | exact HB.out | apply below_alloc | apply pw_below_drewN | apply below_drew1) | exact HB.out))) : w.heap.size ≤ gb101)); clear HB; have HB := n0_; have BK101 := n1_; have GW101 := n2_; have GE101 := n3_; clear n0_ n1_ n2_ n3_; clear hb hbox hg) | ((with_reducible refine gate_dst (N := 3) rfl ?_); refine box_event ?hg (N := 3) ?hd (cs := #[.int .i64 a1_0, .int .i64 a1_1]) (t := 35) ?hr ?_; (case hd => rfl); (case hg => rfl); (case hr => first | (go_simp; done) | (go_simp; rfl)); intro gb102 hg w11 hbox hb; have n0_ := Aside0.mk (blk_below (g := gb101) (o := .cells #[.int .i64 a0_0, .int .i64 a0_1] 35 (0, 0)) (by (with_reducible repeat (first | refine blk_drewN ?_ _ | refine blk_drew ?_ | refine blk_alloc ?_ _)); exact BK101.out) hb); have n1_ := Aside0.mk (below_step (by repeat (first | (with_reducible first | exact HB.out | apply below_alloc | apply pw_below_drewN | apply below_drew1 | refine below_set ?_ GE101.out) | exact HB.out)) hb); have n2_ := Aside0.mk (hbox); have n3_ := Aside0.mk ((by rw [hg]; exact (below_size (by repeat (first | (with_reducible first | exact HB.out | apply below_alloc | apply pw_below_drewN | apply below_drew1 | refine below_set ?_ GE101.out) | exact HB.out))) : w.heap.size ≤ gb102)); have n4_ := Aside0.mk ((by rw [hg]; exact (below_size (by repeat (first | (with_reducible first | exact HB.out | apply below_alloc | apply pw_below_drewN | apply below_drew1 | refine below_set ?_ GE101.out) | exact HB.out))) : w.heap.size ≤ gb102)); have n5_ := Aside0.mk ((by rw [hg]; exact Nat.ne_of_lt (blk_lt (g := gb101) (o := .cells #[.int .i64 a0_0, .int .i64 a0_1] 35 (0, 0)) (by (with_reducible repeat (first | refine blk_drewN ?_ _ | refine blk_drew ?_ | refine blk_alloc ?_ _)); exact BK101.out)) : gb101 ≠ gb102)); have n6_ := Aside0.mk ((by rw [hg]; exact Nat.ne_of_gt (blk_lt (g := gb101) (o := .cells #[.int .i64 a0_0, .int .i64 a0_1] 35 (0, 0)) (by (with_reducible repeat (first | refine blk_drewN ?_ _ | refine blk_drew ?_ | refine blk_alloc ?_ _)); exact BK101.out)) : gb102 ≠ gb101)); clear BK101; clear HB; have BK101 := n0_; have HB := n1_; have BK102 := n2_; have GW102 := n3_; have GE102 := n4_; have NB101_102 := n5_; have NB102_101 := n6_; clear n0_ n1_ n2_ n3_ n4_ n5_ n6_; clear hb hbox hg; have hnb12 := NB101_102.out; have hnc12 := NB102_101.out; have hcz13_0 : w11.cell? ⟨gb101, 0, none⟩ = some (.int .i64 a0_0) := (blk_cell BK101.out 0).trans rfl; have hcz13_1 : w11.cell? ⟨gb101, 1, none⟩ = some (.int .i64 a0_1) := (blk_cell BK101.out 1).trans rfl; have hfz13_0 := blk_frozen BK101.out 0; have hfz13_1 := blk_frozen BK101.out 1; have hcz14_0 : w11.cell? ⟨gb102, 0, none⟩ = some (.int .i64 a1_0) := (blk_cell BK102.out 0).trans rfl; have hcz14_1 : w11.cell? ⟨gb102, 1, none⟩ = some (.int .i64 a1_1) := (blk_cell BK102.out 1).trans rfl; have hfz14_0 := blk_frozen BK102.out 0; have hfz14_1 := blk_frozen BK102.out 1))
      go_ret
      exact ⟨by first | rfl | (simp [errW_none, errW_some] <;> rfl) | (simp [*, errW_none, errW_some] <;> rfl), by repeat (first | (with_reducible first | exact HB.out | apply below_alloc | apply pw_below_drewN | apply below_drew1 | refine below_set ?_ GE101.out | refine below_set ?_ GE102.out) | exact HB.out)⟩
  · rw [if_neg c3] at H
    have c3b0 : (a0_0 == a1_0) = false := beq_eq_false_iff_ne.mpr c3
    have c3b1 : (a0_0 != a1_0) = true := bne_iff_ne.mpr c3
    obtain rfl := Option.some.inj H
    go_enter Try.func25, Try.ntmps25
    go_wp2_with (first | ((with_reducible refine gate_dst (N := 2) rfl ?_); refine box_event ?hg (N := 2) ?hd (cs := #[.int .i64 a0_0, .int .i64 a0_1]) (t := 35) ?hr ?_; (case hd => rfl); (case hg => rfl); (case hr => first | (go_simp; done) | (go_simp; rfl)); intro gb101 hg w15 hbox hb; have n0_ := Aside0.mk (below_step (by repeat (first | (with_reducible first | exact HB.out | apply below_alloc | apply pw_below_drewN | apply below_drew1) | exact HB.out)) hb); have n1_ := Aside0.mk (hbox); have n2_ := Aside0.mk ((by rw [hg]; exact (below_size (by repeat (first | (with_reducible first | exact HB.out | apply below_alloc | apply pw_below_drewN | apply below_drew1) | exact HB.out))) : w.heap.size ≤ gb101)); have n3_ := Aside0.mk ((by rw [hg]; exact (below_size (by repeat (first | (with_reducible first | exact HB.out | apply below_alloc | apply pw_below_drewN | apply below_drew1) | exact HB.out))) : w.heap.size ≤ gb101)); clear HB; have HB := n0_; have BK101 := n1_; have GW101 := n2_; have GE101 := n3_; clear n0_ n1_ n2_ n3_; clear hb hbox hg) | ((with_reducible refine gate_dst (N := 3) rfl ?_); refine box_event ?hg (N := 3) ?hd (cs := #[.int .i64 a1_0, .int .i64 a1_1]) (t := 35) ?hr ?_; (case hd => rfl); (case hg => rfl); (case hr => first | (go_simp; done) | (go_simp; rfl)); intro gb102 hg w16 hbox hb; have n0_ := Aside0.mk (blk_below (g := gb101) (o := .cells #[.int .i64 a0_0, .int .i64 a0_1] 35 (0, 0)) (by (with_reducible repeat (first | refine blk_drewN ?_ _ | refine blk_drew ?_ | refine blk_alloc ?_ _)); exact BK101.out) hb); have n1_ := Aside0.mk (below_step (by repeat (first | (with_reducible first | exact HB.out | apply below_alloc | apply pw_below_drewN | apply below_drew1 | refine below_set ?_ GE101.out) | exact HB.out)) hb); have n2_ := Aside0.mk (hbox); have n3_ := Aside0.mk ((by rw [hg]; exact (below_size (by repeat (first | (with_reducible first | exact HB.out | apply below_alloc | apply pw_below_drewN | apply below_drew1 | refine below_set ?_ GE101.out) | exact HB.out))) : w.heap.size ≤ gb102)); have n4_ := Aside0.mk ((by rw [hg]; exact (below_size (by repeat (first | (with_reducible first | exact HB.out | apply below_alloc | apply pw_below_drewN | apply below_drew1 | refine below_set ?_ GE101.out) | exact HB.out))) : w.heap.size ≤ gb102)); have n5_ := Aside0.mk ((by rw [hg]; exact Nat.ne_of_lt (blk_lt (g := gb101) (o := .cells #[.int .i64 a0_0, .int .i64 a0_1] 35 (0, 0)) (by (with_reducible repeat (first | refine blk_drewN ?_ _ | refine blk_drew ?_ | refine blk_alloc ?_ _)); exact BK101.out)) : gb101 ≠ gb102)); have n6_ := Aside0.mk ((by rw [hg]; exact Nat.ne_of_gt (blk_lt (g := gb101) (o := .cells #[.int .i64 a0_0, .int .i64 a0_1] 35 (0, 0)) (by (with_reducible repeat (first | refine blk_drewN ?_ _ | refine blk_drew ?_ | refine blk_alloc ?_ _)); exact BK101.out)) : gb102 ≠ gb101)); clear BK101; clear HB; have BK101 := n0_; have HB := n1_; have BK102 := n2_; have GW102 := n3_; have GE102 := n4_; have NB101_102 := n5_; have NB102_101 := n6_; clear n0_ n1_ n2_ n3_ n4_ n5_ n6_; clear hb hbox hg; have hnb17 := NB101_102.out; have hnc17 := NB102_101.out; have hcz18_0 : w16.cell? ⟨gb101, 0, none⟩ = some (.int .i64 a0_0) := (blk_cell BK101.out 0).trans rfl; have hcz18_1 : w16.cell? ⟨gb101, 1, none⟩ = some (.int .i64 a0_1) := (blk_cell BK101.out 1).trans rfl; have hfz18_0 := blk_frozen BK101.out 0; have hfz18_1 := blk_frozen BK101.out 1; have hcz19_0 : w16.cell? ⟨gb102, 0, none⟩ = some (.int .i64 a1_0) := (blk_cell BK102.out 0).trans rfl; have hcz19_1 : w16.cell? ⟨gb102, 1, none⟩ = some (.int .i64 a1_1) := (blk_cell BK102.out 1).trans rfl; have hfz19_0 := blk_frozen BK102.out 0; have hfz19_1 := blk_frozen BK102.out 1))
    go_ret
    exact ⟨by first | rfl | (simp [errW_none, errW_some] <;> rfl) | (simp [*, errW_none, errW_some] <;> rfl), by repeat (first | (with_reducible first | exact HB.out | apply below_alloc | apply pw_below_drewN | apply below_drew1 | refine below_set ?_ GE101.out | refine below_set ?_ GE102.out) | exact HB.out)⟩

/-! ### laws_szVar: function 136 -/
def laws_szVar.f (a0_0 : ByteArray) (a0_1 : Int) (a0_2 : Int) (a0_3 : Int) (a1 : Int) : Option (Int) := if (wrap64 (a1 - (a0_0.size : Int))) < 0 then (some (-1)) else (some (wrap64 (a1 - (a0_0.size : Int))))
set_option maxHeartbeats 8000000 in
set_option maxRecDepth 100000 in
theorem laws_szVar.calls (a0_0 : ByteArray) (a0_1 : Int) (a0_2 : Int) (a0_3 : Int) (a1 : Int) (r : Int) (w : World) (h : laws_szVar.f a0_0 a0_1 a0_2 a0_3 a1 = some r) :
    Calls Try.prog 136 #[.agg #[.string a0_0, .int .i64 a0_1, .int .i64 a0_2, .int .i64 a0_3], .int .i64 a1] w fun e w' => e = .returned (.int .i64 r) ∧ Below w.heap.size w w' := by
  have hu148 := Try.underlying148
  have HB := Aside0.mk (Below.refl w.heap.size w)
  have H : (if (wrap64 (a1 - (a0_0.size : Int))) < 0 then (some (-1)) else (some (wrap64 (a1 - (a0_0.size : Int))))) = some r := h
  clear h
  by_cases c3 : (wrap64 (a1 - (a0_0.size : Int))) < 0
  · rw [if_pos c3] at H
    have c3b0 : decide ((wrap64 (a1 - (a0_0.size : Int))) < 0) = true := decide_eq_true c3
    clear c3
    obtain rfl := Option.some.inj H
    go_enter Try.func136, Try.ntmps136
    go_wp2_with (first | ((with_reducible refine gate_dst (N := 2) rfl ?_); refine box_event ?hg (N := 2) ?hd (cs := #[.string a0_0, .int .i64 a0_1, .int .i64 a0_2, .int .i64 a0_3]) (t := 148) ?hr ?_; (case hd => rfl); (case hg => rfl); (case hr => first | (go_simp; done) | (go_simp; rfl)); intro gb103 hg w4 hbox hb; have n0_ := Aside0.mk (below_step (by repeat (first | (with_reducible first | exact HB.out | apply below_alloc | apply pw_below_drewN | apply below_drew1) | exact HB.out)) hb); have n1_ := Aside0.mk (hbox); have n2_ := Aside0.mk ((by rw [hg]; exact (below_size (by repeat (first | (with_reducible first | exact HB.out | apply below_alloc | apply pw_below_drewN | apply below_drew1) | exact HB.out))) : w.heap.size ≤ gb103)); have n3_ := Aside0.mk ((by rw [hg]; exact (below_size (by repeat (first | (with_reducible first | exact HB.out | apply below_alloc | apply pw_below_drewN | apply below_drew1) | exact HB.out))) : w.heap.size ≤ gb103)); clear HB; have HB := n0_; have BK103 := n1_; have GW103 := n2_; have GE103 := n3_; clear n0_ n1_ n2_ n3_; clear hb hbox hg; have hcz5_0 : w4.cell? ⟨gb103, 0, none⟩ = some (.string a0_0) := (blk_cell BK103.out 0).trans rfl; have hcz5_1 : w4.cell? ⟨gb103, 1, none⟩ = some (.int .i64 a0_1) := (blk_cell BK103.out 1).trans rfl; have hcz5_2 : w4.cell? ⟨gb103, 2, none⟩ = some (.int .i64 a0_2) := (blk_cell BK103.out 2).trans rfl; have hcz5_3 : w4.cell? ⟨gb103, 3, none⟩ = some (.int .i64 a0_3) := (blk_cell BK103.out 3).trans rfl; have hfz5_0 := blk_frozen BK103.out 0; have hfz5_1 := blk_frozen BK103.out 1; have hfz5_2 := blk_frozen BK103.out 2; have hfz5_3 := blk_frozen BK103.out 3))
    go_ret
    exact ⟨by first | rfl | (simp [errW_none, errW_some] <;> rfl) | (simp [*, errW_none, errW_some] <;> rfl), by repeat (first | (with_reducible first | exact HB.out | apply below_alloc | apply pw_below_drewN | apply below_drew1 | refine below_set ?_ GE103.out) | exact HB.out)⟩
  · rw [if_neg c3] at H
    have c3b0 : decide ((wrap64 (a1 - (a0_0.size : Int))) < 0) = false := decide_eq_false c3
    clear c3
    obtain rfl := Option.some.inj H
    go_enter Try.func136, Try.ntmps136
    go_wp2_with (first | ((with_reducible refine gate_dst (N := 2) rfl ?_); refine box_event ?hg (N := 2) ?hd (cs := #[.string a0_0, .int .i64 a0_1, .int .i64 a0_2, .int .i64 a0_3]) (t := 148) ?hr ?_; (case hd => rfl); (case hg => rfl); (case hr => first | (go_simp; done) | (go_simp; rfl)); intro gb103 hg w6 hbox hb; have n0_ := Aside0.mk (below_step (by repeat (first | (with_reducible first | exact HB.out | apply below_alloc | apply pw_below_drewN | apply below_drew1) | exact HB.out)) hb); have n1_ := Aside0.mk (hbox); have n2_ := Aside0.mk ((by rw [hg]; exact (below_size (by repeat (first | (with_reducible first | exact HB.out | apply below_alloc | apply pw_below_drewN | apply below_drew1) | exact HB.out))) : w.heap.size ≤ gb103)); have n3_ := Aside0.mk ((by rw [hg]; exact (below_size (by repeat (first | (with_reducible first | exact HB.out | apply below_alloc | apply pw_below_drewN | apply below_drew1) | exact HB.out))) : w.heap.size ≤ gb103)); clear HB; have HB := n0_; have BK103 := n1_; have GW103 := n2_; have GE103 := n3_; clear n0_ n1_ n2_ n3_; clear hb hbox hg; have hcz7_0 : w6.cell? ⟨gb103, 0, none⟩ = some (.string a0_0) := (blk_cell BK103.out 0).trans rfl; have hcz7_1 : w6.cell? ⟨gb103, 1, none⟩ = some (.int .i64 a0_1) := (blk_cell BK103.out 1).trans rfl; have hcz7_2 : w6.cell? ⟨gb103, 2, none⟩ = some (.int .i64 a0_2) := (blk_cell BK103.out 2).trans rfl; have hcz7_3 : w6.cell? ⟨gb103, 3, none⟩ = some (.int .i64 a0_3) := (blk_cell BK103.out 3).trans rfl; have hfz7_0 := blk_frozen BK103.out 0; have hfz7_1 := blk_frozen BK103.out 1; have hfz7_2 := blk_frozen BK103.out 2; have hfz7_3 := blk_frozen BK103.out 3))
    go_ret
    exact ⟨by first | rfl | (simp [errW_none, errW_some] <;> rfl) | (simp [*, errW_none, errW_some] <;> rfl), by repeat (first | (with_reducible first | exact HB.out | apply below_alloc | apply pw_below_drewN | apply below_drew1 | refine below_set ?_ GE103.out) | exact HB.out)⟩

/-! ### laws_szVarS: function 96 -/
def laws_szVarS.l0 : Nat → List (S148) → Int → Int → Option (Int)
  | 0, _, _, _ => none
  | k + 1, x0, x1, x5 => if x5 < (x0.length : Int) then (if 0 ≤ x5 then ((laws_szVar.f ((rd_T148 x0 x5).f0) ((rd_T148 x0 x5).f1) ((rd_T148 x0 x5).f2) ((rd_T148 x0 x5).f3) x1).bind fun t105 => (if t105 < 0 then (some (-1)) else (laws_szVarS.l0 k x0 t105 (wrap64 (x5 + 1))))) else (none)) else (some x1)
def laws_szVarS.f (k : Nat) (l0 : List (S148)) (a1 : Int) : Option (Int) := if (wrap64 (a1 - (l0.length : Int))) < 0 then (some (-1)) else (laws_szVarS.l0 k l0 (wrap64 (a1 - (l0.length : Int))) 0)
theorem laws_szVarS.mono_l : ∀ k, (∀ y0 y1 y2, LeO (laws_szVarS.l0 k y0 y1 y2) (laws_szVarS.l0 (k + 1) y0 y1 y2))
  | 0 => fun _ _ _ r h => by simp [laws_szVarS.l0] at h
  | k + 1 => by
    have ih0 := laws_szVarS.mono_l k
    · intro y0 y1 y2
      unfold laws_szVarS.l0
      repeat' first
      | (with_reducible exact ih0 _ _ _)
      | (with_reducible exact LeO.refl _)
      | (with_reducible exact LeO.none _)
      | (with_reducible refine LeO.ite ?_ ?_)
      | (with_reducible refine LeO.bind ?_ (fun _ => ?_))
      | exact ih0 _ _ _
      | exact LeO.none _
      | refine LeO.ite ?_ ?_
      | refine LeO.bind ?_ (fun _ => ?_)
theorem laws_szVarS.mono : ∀ a0 a1 k, LeO (laws_szVarS.f k a0 a1) (laws_szVarS.f (k + 1) a0 a1) := by
  intro a0 a1 k
  have ih0 := laws_szVarS.mono_l k
  unfold laws_szVarS.f
  repeat' first
      | (with_reducible exact ih0 _ _ _)
      | (with_reducible exact LeO.refl _)
      | (with_reducible exact LeO.none _)
      | (with_reducible refine LeO.ite ?_ ?_)
      | (with_reducible refine LeO.bind ?_ (fun _ => ?_))
      | exact ih0 _ _ _
      | exact LeO.none _
      | refine LeO.ite ?_ ?_
      | refine LeO.bind ?_ (fun _ => ?_)
set_option maxHeartbeats 8000000 in
set_option maxRecDepth 100000 in
theorem laws_szVarS.calls (k : Nat) (A0 : Option Addr) (c0 : Nat) (l0 : List (S148)) (a1 : Int) (r : Int) (w : World) (hr0 : Kd.C k148 w A0 l0.length l0) (hc0 : l0.length ≤ c0) (h : laws_szVarS.f k l0 a1 = some r) :
    Calls Try.prog 96 #[.slice A0 l0.length c0, .int .i64 a1] w fun e w' => e = .returned (.int .i64 r) ∧ Below w.heap.size w w' := by
  have hu148 := Try.underlying148
  have HR0 := Aside0.mk hr0
  have HC0 := Aside0.mk hc0
  clear hr0 hc0
  have HB := Aside0.mk (Below.refl w.heap.size w)
  have H : (if (wrap64 (a1 - (l0.length : Int))) < 0 then (some (-1)) else (laws_szVarS.l0 k l0 (wrap64 (a1 - (l0.length : Int))) 0)) = some r := h
  clear h
  by_cases c3 : (wrap64 (a1 - (l0.length : Int))) < 0
  · rw [if_pos c3] at H
    have c3b0 : decide ((wrap64 (a1 - (l0.length : Int))) < 0) = true := decide_eq_true c3
    clear c3
    obtain rfl := Option.some.inj H
    go_enter Try.func96, Try.ntmps96
    go_wp2
    go_ret
    exact ⟨by first | rfl | (simp [errW_none, errW_some] <;> rfl) | (simp [*, errW_none, errW_some] <;> rfl), by repeat (first | (with_reducible first | exact HB.out | apply below_alloc | apply pw_below_drewN | apply below_drew1) | exact HB.out)⟩
  · rw [if_neg c3] at H
    have c3b0 : decide ((wrap64 (a1 - (l0.length : Int))) < 0) = false := decide_eq_false c3
    clear c3
    have H' := Aside0.mk H
    clear H
    go_enter Try.func96, Try.ntmps96
    go_wp2
    go_loopg [1, 5] k (fun kq v1 v5 w' => ∃ (x1_1 : Int) (x5_1 : Int), v1 = .int .i64 x1_1 ∧ v5 = .int .i64 x5_1 ∧ Aside0 (laws_szVarS.l0 kq l0 x1_1 x5_1 = some r) ∧ Aside0 (kq ≤ k) ∧ Aside0 (Below w.heap.size w w'))
    case atStart => exact ⟨(wrap64 (a1 - (l0.length : Int))), (0), (by first | rfl | (simp; done) | (simp [*]; done)), (by first | rfl | (simp; done) | (simp [*]; done)), H', ⟨Nat.le_refl _⟩, ⟨by repeat (first | (with_reducible first | exact HB.out | apply below_alloc | apply pw_below_drewN | apply below_drew1) | exact HB.out)⟩⟩
    case round =>
      clear H'
      try clear p2
      try clear c3
      try clear c3b0
      obtain ⟨x1_1, x5_1, rfl, rfl, HA, HK1, HB⟩ := hrel
      cases gk with
      | zero => exact absurd HA.out (by simp [laws_szVarS.l0])
      | succ k1 =>
        have H := HA.out
        clear HA
        simp only [laws_szVarS.l0] at H
        by_cases c4 : x5_1 < (l0.length : Int)
        · rw [if_pos c4] at H
          have c4b0 : decide (x5_1 < (l0.length : Int)) = true := decide_eq_true c4
          clear c4
          by_cases c5 : 0 ≤ x5_1
          · rw [if_pos c5] at H
            have c5b0 : decide (0 ≤ x5_1) = true := decide_eq_true c5
            clear c5
            replace H := Option.bind_eq_some_iff.mp H
            obtain ⟨t105, A60, H⟩ := H
            replace H : (if t105 < 0 then (some (-1)) else (laws_szVarS.l0 k1 l0 t105 (wrap64 (x5_1 + 1)))) = some r := H
            have A6 := Aside0.mk A60
            clear A60
            by_cases c7 : t105 < 0
            · rw [if_pos c7] at H
              have c7b0 : decide (t105 < 0) = true := decide_eq_true c7
              clear c7
              obtain rfl := Option.some.inj H
              have p104 : 0 ≤ (x5_1 : Int) := of_decide_eq_true (by first | (with_reducible assumption) | assumption)
              have q104 : x5_1 < (l0.length : Int) := of_decide_eq_true (by first | (with_reducible assumption) | assumption)
              obtain ⟨ad104, e104, hx104_0, hx104_1, hx104_2, hx104_3⟩ := at_T148 HR0.out x5_1 p104 q104
              cases e104
              replace hx104_0 := (HB.out.cell (World.block_lt_of_cell? w _ hx104_0)).trans hx104_0
              replace hx104_1 := (HB.out.cell (World.block_lt_of_cell? w _ hx104_1)).trans hx104_1
              replace hx104_2 := (HB.out.cell (World.block_lt_of_cell? w _ hx104_2)).trans hx104_2
              replace hx104_3 := (HB.out.cell (World.block_lt_of_cell? w _ hx104_3)).trans hx104_3
              replace p104 := eq_true p104
              replace q104 := eq_true q104
              go_wp2_with (first | ((with_reducible refine gate_callee (f := 136) rfl ?_); refine goesL_ (some 23) rfl rfl Try.func136 (by kernel_rfl) rfl #[.agg #[.string ((rd_T148 l0 x5_1).f0), .int .i64 ((rd_T148 l0 x5_1).f1), .int .i64 ((rd_T148 l0 x5_1).f2), .int .i64 ((rd_T148 l0 x5_1).f3)], .int .i64 x1_1] rfl (by (try simp only [List.map_toArray, List.map_cons, List.map_nil]); first | done | rfl | (simp only [List.length_drop, List.length_take]; rfl)) ?_; (with_reducible refine (laws_szVar.calls ((rd_T148 l0 x5_1).f0) ((rd_T148 l0 x5_1).f1) ((rd_T148 l0 x5_1).f2) ((rd_T148 l0 x5_1).f3) x1_1 t105 _ A6.out).mono ?_); rintro e w8 ⟨rfl, hb⟩; refine ⟨_, rfl, ?_⟩; have n0_ := Aside0.mk (below_step (by repeat (first | (with_reducible first | exact HB.out | apply below_alloc | apply pw_below_drewN | apply below_drew1) | exact HB.out)) hb); clear HB; have HB := n0_; clear n0_; (try clear hb); (try clear hb2); (try clear hk); (try clear hi)))
              go_ret
              exact ⟨by first | rfl | (simp [errW_none, errW_some] <;> rfl) | (simp [*, errW_none, errW_some] <;> rfl), by repeat (first | (with_reducible first | exact HB.out | apply below_alloc | apply pw_below_drewN | apply below_drew1) | exact HB.out)⟩
            · rw [if_neg c7] at H
              have c7b0 : decide (t105 < 0) = false := decide_eq_false c7
              clear c7
              have H' := Aside0.mk H
              clear H
              have p104 : 0 ≤ (x5_1 : Int) := of_decide_eq_true (by first | (with_reducible assumption) | assumption)
              have q104 : x5_1 < (l0.length : Int) := of_decide_eq_true (by first | (with_reducible assumption) | assumption)
              obtain ⟨ad104, e104, hx104_0, hx104_1, hx104_2, hx104_3⟩ := at_T148 HR0.out x5_1 p104 q104
              cases e104
              replace hx104_0 := (HB.out.cell (World.block_lt_of_cell? w _ hx104_0)).trans hx104_0
              replace hx104_1 := (HB.out.cell (World.block_lt_of_cell? w _ hx104_1)).trans hx104_1
              replace hx104_2 := (HB.out.cell (World.block_lt_of_cell? w _ hx104_2)).trans hx104_2
              replace hx104_3 := (HB.out.cell (World.block_lt_of_cell? w _ hx104_3)).trans hx104_3
              replace p104 := eq_true p104
              replace q104 := eq_true q104
              go_wp2_with (first | ((with_reducible refine gate_callee (f := 136) rfl ?_); refine goesL_ (some 23) rfl rfl Try.func136 (by kernel_rfl) rfl #[.agg #[.string ((rd_T148 l0 x5_1).f0), .int .i64 ((rd_T148 l0 x5_1).f1), .int .i64 ((rd_T148 l0 x5_1).f2), .int .i64 ((rd_T148 l0 x5_1).f3)], .int .i64 x1_1] rfl (by (try simp only [List.map_toArray, List.map_cons, List.map_nil]); first | done | rfl | (simp only [List.length_drop, List.length_take]; rfl)) ?_; (with_reducible refine (laws_szVar.calls ((rd_T148 l0 x5_1).f0) ((rd_T148 l0 x5_1).f1) ((rd_T148 l0 x5_1).f2) ((rd_T148 l0 x5_1).f3) x1_1 t105 _ A6.out).mono ?_); rintro e w9 ⟨rfl, hb⟩; refine ⟨_, rfl, ?_⟩; have n0_ := Aside0.mk (below_step (by repeat (first | (with_reducible first | exact HB.out | apply below_alloc | apply pw_below_drewN | apply below_drew1) | exact HB.out)) hb); clear HB; have HB := n0_; clear n0_; (try clear hb); (try clear hb2); (try clear hk); (try clear hi)))
              go_roundg k1
              case measure => have := HK1.out; omega
              case rel => exact ⟨(t105), (wrap64 (x5_1 + 1)), (by first | rfl | (simp; done) | (simp [*]; done)), (by first | rfl | (simp; done) | (simp [*]; done)), H', ⟨by have := HK1.out; omega⟩, ⟨by repeat (first | (with_reducible first | exact HB.out | apply below_alloc | apply pw_below_drewN | apply below_drew1) | exact HB.out)⟩⟩
          · rw [if_neg c5] at H
            exact absurd H (by simp)
        · rw [if_neg c4] at H
          have c4b0 : decide (x5_1 < (l0.length : Int)) = false := decide_eq_false c4
          clear c4
          obtain rfl := Option.some.inj H
          go_wp2
          go_ret
          exact ⟨by first | rfl | (simp [errW_none, errW_some] <;> rfl) | (simp [*, errW_none, errW_some] <;> rfl), by repeat (first | (with_reducible first | exact HB.out | apply below_alloc | apply pw_below_drewN | apply below_drew1) | exact HB.out)⟩

/-! ### laws_szInt64S: function 98 -/
def laws_szInt64S.f (l0 : List Int) (a1 : Int) : Option (Int) := if (wrap64 (a1 - (l0.length : Int))) < 0 then (some (-1)) else (some (wrap64 (a1 - (l0.length : Int))))
set_option maxHeartbeats 8000000 in
set_option maxRecDepth 100000 in
theorem laws_szInt64S.calls (A0 : Option Addr) (c0 : Nat) (l0 : List Int) (a1 : Int) (r : Int) (w : World) (hr0 : Kd.C (Kd.int .i64) w A0 l0.length l0) (hc0 : l0.length ≤ c0) (h : laws_szInt64S.f l0 a1 = some r) :
    Calls Try.prog 98 #[.slice A0 l0.length c0, .int .i64 a1] w fun e w' => e = .returned (.int .i64 r) ∧ Drawn0 w w' := by
  have HR0 := Aside0.mk hr0
  have HC0 := Aside0.mk hc0
  clear hr0 hc0
  have H : (if (wrap64 (a1 - (l0.length : Int))) < 0 then (some (-1)) else (some (wrap64 (a1 - (l0.length : Int))))) = some r := h
  clear h
  by_cases c3 : (wrap64 (a1 - (l0.length : Int))) < 0
  · rw [if_pos c3] at H
    have c3b0 : decide ((wrap64 (a1 - (l0.length : Int))) < 0) = true := decide_eq_true c3
    clear c3
    obtain rfl := Option.some.inj H
    go_enter Try.func98, Try.ntmps98
    go_wp2
    go_ret
    exact ⟨by first | rfl | (simp; done) | (simp [*]; done), by repeat (first | exact Drawn0.refl _ | apply Drawn0.step)⟩
  · rw [if_neg c3] at H
    have c3b0 : decide ((wrap64 (a1 - (l0.length : Int))) < 0) = false := decide_eq_false c3
    clear c3
    obtain rfl := Option.some.inj H
    go_enter Try.func98, Try.ntmps98
    go_wp2
    go_ret
    exact ⟨by first | rfl | (simp; done) | (simp [*]; done), by repeat (first | exact Drawn0.refl _ | apply Drawn0.step)⟩

/-! ### laws_szNode: function 137 -/
def laws_szNode.f (a0_0 : Int) (a0_1 : Int) (a0_2 : ByteArray) (a0_3 : Int) (a0_4 : Int) (l0_5 : List Int) (l0_6 : List Int) (l0_7 : List Int) (a1 : Int) : Option (Int) := if (wrap64 (a1 - (a0_2.size : Int))) < 0 then (some (-1)) else ((laws_szInt64S.f l0_5 (wrap64 (a1 - (a0_2.size : Int)))).bind fun t107 => (if t107 < 0 then (some (-1)) else ((laws_szInt64S.f l0_6 t107).bind fun t108 => (if t108 < 0 then (some (-1)) else ((laws_szInt64S.f l0_7 t108).bind fun t109 => (if t109 < 0 then (some (-1)) else (some t109)))))))
set_option maxHeartbeats 8000000 in
set_option maxRecDepth 100000 in
theorem laws_szNode.calls (a0_0 : Int) (a0_1 : Int) (a0_2 : ByteArray) (a0_3 : Int) (a0_4 : Int) (A0_5 : Option Addr) (c0_5 : Nat) (l0_5 : List Int) (A0_6 : Option Addr) (c0_6 : Nat) (l0_6 : List Int) (A0_7 : Option Addr) (c0_7 : Nat) (l0_7 : List Int) (a1 : Int) (r : Int) (w : World) (hr0_5 : Kd.C (Kd.int .i64) w A0_5 l0_5.length l0_5) (hc0_5 : l0_5.length ≤ c0_5) (hr0_6 : Kd.C (Kd.int .i64) w A0_6 l0_6.length l0_6) (hc0_6 : l0_6.length ≤ c0_6) (hr0_7 : Kd.C (Kd.int .i64) w A0_7 l0_7.length l0_7) (hc0_7 : l0_7.length ≤ c0_7) (h : laws_szNode.f a0_0 a0_1 a0_2 a0_3 a0_4 l0_5 l0_6 l0_7 a1 = some r) :
    Calls Try.prog 137 #[.agg #[.int .i64 a0_0, .int .i64 a0_1, .string a0_2, .int .i64 a0_3, .int .i64 a0_4, .slice A0_5 l0_5.length c0_5, .slice A0_6 l0_6.length c0_6, .slice A0_7 l0_7.length c0_7], .int .i64 a1] w fun e w' => e = .returned (.int .i64 r) ∧ Below w.heap.size w w' := by
  have hu150 := Try.underlying150
  have HR0_5 := Aside0.mk hr0_5
  have HC0_5 := Aside0.mk hc0_5
  clear hr0_5 hc0_5
  have HR0_6 := Aside0.mk hr0_6
  have HC0_6 := Aside0.mk hc0_6
  clear hr0_6 hc0_6
  have HR0_7 := Aside0.mk hr0_7
  have HC0_7 := Aside0.mk hc0_7
  clear hr0_7 hc0_7
  have HB := Aside0.mk (Below.refl w.heap.size w)
  have H : (if (wrap64 (a1 - (a0_2.size : Int))) < 0 then (some (-1)) else ((laws_szInt64S.f l0_5 (wrap64 (a1 - (a0_2.size : Int)))).bind fun t107 => (if t107 < 0 then (some (-1)) else ((laws_szInt64S.f l0_6 t107).bind fun t108 => (if t108 < 0 then (some (-1)) else ((laws_szInt64S.f l0_7 t108).bind fun t109 => (if t109 < 0 then (some (-1)) else (some t109)))))))) = some r := h
  clear h
  by_cases c3 : (wrap64 (a1 - (a0_2.size : Int))) < 0
  · rw [if_pos c3] at H
    have c3b0 : decide ((wrap64 (a1 - (a0_2.size : Int))) < 0) = true := decide_eq_true c3
    clear c3
    obtain rfl := Option.some.inj H
    go_enter Try.func137, Try.ntmps137
    go_wp2_with (first | ((with_reducible refine gate_dst (N := 2) rfl ?_); refine box_event ?hg (N := 2) ?hd (cs := #[.int .i64 a0_0, .int .i64 a0_1, .string a0_2, .int .i64 a0_3, .int .i64 a0_4, .slice A0_5 l0_5.length c0_5, .slice A0_6 l0_6.length c0_6, .slice A0_7 l0_7.length c0_7]) (t := 150) ?hr ?_; (case hd => rfl); (case hg => rfl); (case hr => first | (go_simp; done) | (go_simp; rfl)); intro gb106 hg w4 hbox hb; have n0_ := Aside0.mk (below_step (by repeat (first | (with_reducible first | exact HB.out | apply below_alloc | apply pw_below_drewN | apply below_drew1) | exact HB.out)) hb); have n1_ := Aside0.mk (hbox); have n2_ := Aside0.mk ((by rw [hg]; exact (below_size (by repeat (first | (with_reducible first | exact HB.out | apply below_alloc | apply pw_below_drewN | apply below_drew1) | exact HB.out))) : w.heap.size ≤ gb106)); have n3_ := Aside0.mk ((by rw [hg]; exact (below_size (by repeat (first | (with_reducible first | exact HB.out | apply below_alloc | apply pw_below_drewN | apply below_drew1) | exact HB.out))) : w.heap.size ≤ gb106)); clear HB; have HB := n0_; have BK106 := n1_; have GW106 := n2_; have GE106 := n3_; clear n0_ n1_ n2_ n3_; clear hb hbox hg; have hcz5_0 : w4.cell? ⟨gb106, 0, none⟩ = some (.int .i64 a0_0) := (blk_cell BK106.out 0).trans rfl; have hcz5_1 : w4.cell? ⟨gb106, 1, none⟩ = some (.int .i64 a0_1) := (blk_cell BK106.out 1).trans rfl; have hcz5_2 : w4.cell? ⟨gb106, 2, none⟩ = some (.string a0_2) := (blk_cell BK106.out 2).trans rfl; have hcz5_3 : w4.cell? ⟨gb106, 3, none⟩ = some (.int .i64 a0_3) := (blk_cell BK106.out 3).trans rfl; have hcz5_4 : w4.cell? ⟨gb106, 4, none⟩ = some (.int .i64 a0_4) := (blk_cell BK106.out 4).trans rfl; have hcz5_5 : w4.cell? ⟨gb106, 5, none⟩ = some (.slice A0_5 l0_5.length c0_5) := (blk_cell BK106.out 5).trans rfl; have hcz5_6 : w4.cell? ⟨gb106, 6, none⟩ = some (.slice A0_6 l0_6.length c0_6) := (blk_cell BK106.out 6).trans rfl; have hcz5_7 : w4.cell? ⟨gb106, 7, none⟩ = some (.slice A0_7 l0_7.length c0_7) := (blk_cell BK106.out 7).trans rfl; have hfz5_0 := blk_frozen BK106.out 0; have hfz5_1 := blk_frozen BK106.out 1; have hfz5_2 := blk_frozen BK106.out 2; have hfz5_3 := blk_frozen BK106.out 3; have hfz5_4 := blk_frozen BK106.out 4; have hfz5_5 := blk_frozen BK106.out 5; have hfz5_6 := blk_frozen BK106.out 6; have hfz5_7 := blk_frozen BK106.out 7))
    go_ret
    exact ⟨by first | rfl | (simp [errW_none, errW_some] <;> rfl) | (simp [*, errW_none, errW_some] <;> rfl), by repeat (first | (with_reducible first | exact HB.out | apply below_alloc | apply pw_below_drewN | apply below_drew1 | refine below_set ?_ GE106.out) | exact HB.out)⟩
  · rw [if_neg c3] at H
    have c3b0 : decide ((wrap64 (a1 - (a0_2.size : Int))) < 0) = false := decide_eq_false c3
    clear c3
    replace H := Option.bind_eq_some_iff.mp H
    obtain ⟨t107, A60, H⟩ := H
    replace H : (if t107 < 0 then (some (-1)) else ((laws_szInt64S.f l0_6 t107).bind fun t108 => (if t108 < 0 then (some (-1)) else ((laws_szInt64S.f l0_7 t108).bind fun t109 => (if t109 < 0 then (some (-1)) else (some t109)))))) = some r := H
    have A6 := Aside0.mk A60
    clear A60
    by_cases c7 : t107 < 0
    · rw [if_pos c7] at H
      have c7b0 : decide (t107 < 0) = true := decide_eq_true c7
      clear c7
      obtain rfl := Option.some.inj H
      go_enter Try.func137, Try.ntmps137
      go_wp2_with (first | ((with_reducible refine gate_dst (N := 2) rfl ?_); refine box_event ?hg (N := 2) ?hd (cs := #[.int .i64 a0_0, .int .i64 a0_1, .string a0_2, .int .i64 a0_3, .int .i64 a0_4, .slice A0_5 l0_5.length c0_5, .slice A0_6 l0_6.length c0_6, .slice A0_7 l0_7.length c0_7]) (t := 150) ?hr ?_; (case hd => rfl); (case hg => rfl); (case hr => first | (go_simp; done) | (go_simp; rfl)); intro gb106 hg w8 hbox hb; have n0_ := Aside0.mk (below_step (by repeat (first | (with_reducible first | exact HB.out | apply below_alloc | apply pw_below_drewN | apply below_drew1) | exact HB.out)) hb); have n1_ := Aside0.mk (hbox); have n2_ := Aside0.mk ((by rw [hg]; exact (below_size (by repeat (first | (with_reducible first | exact HB.out | apply below_alloc | apply pw_below_drewN | apply below_drew1) | exact HB.out))) : w.heap.size ≤ gb106)); have n3_ := Aside0.mk ((by rw [hg]; exact (below_size (by repeat (first | (with_reducible first | exact HB.out | apply below_alloc | apply pw_below_drewN | apply below_drew1) | exact HB.out))) : w.heap.size ≤ gb106)); clear HB; have HB := n0_; have BK106 := n1_; have GW106 := n2_; have GE106 := n3_; clear n0_ n1_ n2_ n3_; clear hb hbox hg; have hcz9_0 : w8.cell? ⟨gb106, 0, none⟩ = some (.int .i64 a0_0) := (blk_cell BK106.out 0).trans rfl; have hcz9_1 : w8.cell? ⟨gb106, 1, none⟩ = some (.int .i64 a0_1) := (blk_cell BK106.out 1).trans rfl; have hcz9_2 : w8.cell? ⟨gb106, 2, none⟩ = some (.string a0_2) := (blk_cell BK106.out 2).trans rfl; have hcz9_3 : w8.cell? ⟨gb106, 3, none⟩ = some (.int .i64 a0_3) := (blk_cell BK106.out 3).trans rfl; have hcz9_4 : w8.cell? ⟨gb106, 4, none⟩ = some (.int .i64 a0_4) := (blk_cell BK106.out 4).trans rfl; have hcz9_5 : w8.cell? ⟨gb106, 5, none⟩ = some (.slice A0_5 l0_5.length c0_5) := (blk_cell BK106.out 5).trans rfl; have hcz9_6 : w8.cell? ⟨gb106, 6, none⟩ = some (.slice A0_6 l0_6.length c0_6) := (blk_cell BK106.out 6).trans rfl; have hcz9_7 : w8.cell? ⟨gb106, 7, none⟩ = some (.slice A0_7 l0_7.length c0_7) := (blk_cell BK106.out 7).trans rfl; have hfz9_0 := blk_frozen BK106.out 0; have hfz9_1 := blk_frozen BK106.out 1; have hfz9_2 := blk_frozen BK106.out 2; have hfz9_3 := blk_frozen BK106.out 3; have hfz9_4 := blk_frozen BK106.out 4; have hfz9_5 := blk_frozen BK106.out 5; have hfz9_6 := blk_frozen BK106.out 6; have hfz9_7 := blk_frozen BK106.out 7) | ((with_reducible refine gate_callee (f := 98) rfl ?_); refine goesL_ (some 15) rfl rfl Try.func98 (by kernel_rfl) rfl #[.slice A0_5 l0_5.length c0_5, .int .i64 (wrap64 (a1 - (a0_2.size : Int)))] rfl (by (try simp only [List.map_toArray, List.map_cons, List.map_nil]); first | done | rfl | (simp only [List.length_drop, List.length_take]; rfl)) ?_; (with_reducible refine (laws_szInt64S.calls _ _ l0_5 (wrap64 (a1 - (a0_2.size : Int))) t107 _ ?side1 ?side2 A6.out).mono ?_); (case side1 => repeat (first | exact (Kd.C_below HR0_5.out HB.out) | (with_reducible refine Kd.C_alloc ?_ _) | (with_reducible refine Kd.C_drewN ?_ _) | (with_reducible refine Kd.C_drew ?_))); (case side2 => exact HC0_5.out); rintro e w' ⟨rfl, ⟨nd, rfl⟩⟩; refine ⟨_, rfl, ?_⟩))
      go_ret
      exact ⟨by first | rfl | (simp [errW_none, errW_some] <;> rfl) | (simp [*, errW_none, errW_some] <;> rfl), by repeat (first | (with_reducible first | exact HB.out | apply below_alloc | apply pw_below_drewN | apply below_drew1 | refine below_set ?_ GE106.out) | exact HB.out)⟩
    · rw [if_neg c7] at H
      have c7b0 : decide (t107 < 0) = false := decide_eq_false c7
      clear c7
      replace H := Option.bind_eq_some_iff.mp H
      obtain ⟨t108, A100, H⟩ := H
      replace H : (if t108 < 0 then (some (-1)) else ((laws_szInt64S.f l0_7 t108).bind fun t109 => (if t109 < 0 then (some (-1)) else (some t109)))) = some r := H
      have A10 := Aside0.mk A100
      clear A100
      by_cases c11 : t108 < 0
      · rw [if_pos c11] at H
        have c11b0 : decide (t108 < 0) = true := decide_eq_true c11
        clear c11
        obtain rfl := Option.some.inj H
        go_enter Try.func137, Try.ntmps137
        go_wp2_with (first | ((with_reducible refine gate_dst (N := 2) rfl ?_); refine box_event ?hg (N := 2) ?hd (cs := #[.int .i64 a0_0, .int .i64 a0_1, .string a0_2, .int .i64 a0_3, .int .i64 a0_4, .slice A0_5 l0_5.length c0_5, .slice A0_6 l0_6.length c0_6, .slice A0_7 l0_7.length c0_7]) (t := 150) ?hr ?_; (case hd => rfl); (case hg => rfl); (case hr => first | (go_simp; done) | (go_simp; rfl)); intro gb106 hg w12 hbox hb; have n0_ := Aside0.mk (below_step (by repeat (first | (with_reducible first | exact HB.out | apply below_alloc | apply pw_below_drewN | apply below_drew1) | exact HB.out)) hb); have n1_ := Aside0.mk (hbox); have n2_ := Aside0.mk ((by rw [hg]; exact (below_size (by repeat (first | (with_reducible first | exact HB.out | apply below_alloc | apply pw_below_drewN | apply below_drew1) | exact HB.out))) : w.heap.size ≤ gb106)); have n3_ := Aside0.mk ((by rw [hg]; exact (below_size (by repeat (first | (with_reducible first | exact HB.out | apply below_alloc | apply pw_below_drewN | apply below_drew1) | exact HB.out))) : w.heap.size ≤ gb106)); clear HB; have HB := n0_; have BK106 := n1_; have GW106 := n2_; have GE106 := n3_; clear n0_ n1_ n2_ n3_; clear hb hbox hg; have hcz13_0 : w12.cell? ⟨gb106, 0, none⟩ = some (.int .i64 a0_0) := (blk_cell BK106.out 0).trans rfl; have hcz13_1 : w12.cell? ⟨gb106, 1, none⟩ = some (.int .i64 a0_1) := (blk_cell BK106.out 1).trans rfl; have hcz13_2 : w12.cell? ⟨gb106, 2, none⟩ = some (.string a0_2) := (blk_cell BK106.out 2).trans rfl; have hcz13_3 : w12.cell? ⟨gb106, 3, none⟩ = some (.int .i64 a0_3) := (blk_cell BK106.out 3).trans rfl; have hcz13_4 : w12.cell? ⟨gb106, 4, none⟩ = some (.int .i64 a0_4) := (blk_cell BK106.out 4).trans rfl; have hcz13_5 : w12.cell? ⟨gb106, 5, none⟩ = some (.slice A0_5 l0_5.length c0_5) := (blk_cell BK106.out 5).trans rfl; have hcz13_6 : w12.cell? ⟨gb106, 6, none⟩ = some (.slice A0_6 l0_6.length c0_6) := (blk_cell BK106.out 6).trans rfl; have hcz13_7 : w12.cell? ⟨gb106, 7, none⟩ = some (.slice A0_7 l0_7.length c0_7) := (blk_cell BK106.out 7).trans rfl; have hfz13_0 := blk_frozen BK106.out 0; have hfz13_1 := blk_frozen BK106.out 1; have hfz13_2 := blk_frozen BK106.out 2; have hfz13_3 := blk_frozen BK106.out 3; have hfz13_4 := blk_frozen BK106.out 4; have hfz13_5 := blk_frozen BK106.out 5; have hfz13_6 := blk_frozen BK106.out 6; have hfz13_7 := blk_frozen BK106.out 7) | ((with_reducible refine gate_callee (f := 98) rfl ?_); refine goesL_ (some 15) rfl rfl Try.func98 (by kernel_rfl) rfl #[.slice A0_5 l0_5.length c0_5, .int .i64 (wrap64 (a1 - (a0_2.size : Int)))] rfl (by (try simp only [List.map_toArray, List.map_cons, List.map_nil]); first | done | rfl | (simp only [List.length_drop, List.length_take]; rfl)) ?_; (with_reducible refine (laws_szInt64S.calls _ _ l0_5 (wrap64 (a1 - (a0_2.size : Int))) t107 _ ?side1 ?side2 A6.out).mono ?_); (case side1 => repeat (first | exact (Kd.C_below HR0_5.out HB.out) | (with_reducible refine Kd.C_alloc ?_ _) | (with_reducible refine Kd.C_drewN ?_ _) | (with_reducible refine Kd.C_drew ?_))); (case side2 => exact HC0_5.out); rintro e w' ⟨rfl, ⟨nd, rfl⟩⟩; refine ⟨_, rfl, ?_⟩) | ((with_reducible refine gate_callee (f := 98) rfl ?_); refine goesL_ (some 21) rfl rfl Try.func98 (by kernel_rfl) rfl #[.slice A0_6 l0_6.length c0_6, .int .i64 t107] rfl (by (try simp only [List.map_toArray, List.map_cons, List.map_nil]); first | done | rfl | (simp only [List.length_drop, List.length_take]; rfl)) ?_; (with_reducible refine (laws_szInt64S.calls _ _ l0_6 t107 t108 _ ?side1 ?side2 A10.out).mono ?_); (case side1 => repeat (first | exact (Kd.C_below HR0_6.out (by repeat (first | (with_reducible first | exact HB.out | apply below_alloc | apply pw_below_drewN | apply below_drew1 | refine below_set ?_ GE106.out) | exact HB.out))) | (with_reducible refine Kd.C_alloc ?_ _) | (with_reducible refine Kd.C_drewN ?_ _) | (with_reducible refine Kd.C_drew ?_))); (case side2 => exact HC0_6.out); rintro e w' ⟨rfl, ⟨nd, rfl⟩⟩; refine ⟨_, rfl, ?_⟩))
        go_ret
        exact ⟨by first | rfl | (simp [errW_none, errW_some] <;> rfl) | (simp [*, errW_none, errW_some] <;> rfl), by repeat (first | (with_reducible first | exact HB.out | apply below_alloc | apply pw_below_drewN | apply below_drew1 | refine below_set ?_ GE106.out) | exact HB.out)⟩
      · rw [if_neg c11] at H
        have c11b0 : decide (t108 < 0) = false := decide_eq_false c11
        clear c11
        replace H := Option.bind_eq_some_iff.mp H
        obtain ⟨t109, A140, H⟩ := H
        replace H : (if t109 < 0 then (some (-1)) else (some t109)) = some r := H
        have A14 := Aside0.mk A140
        clear A140
        by_cases c15 : t109 < 0
        · rw [if_pos c15] at H
          have c15b0 : decide (t109 < 0) = true := decide_eq_true c15
          clear c15
          obtain rfl := Option.some.inj H
          go_enter Try.func137, Try.ntmps137
          go_wp2_with (first | ((with_reducible refine gate_dst (N := 2) rfl ?_); refine box_event ?hg (N := 2) ?hd (cs := #[.int .i64 a0_0, .int .i64 a0_1, .string a0_2, .int .i64 a0_3, .int .i64 a0_4, .slice A0_5 l0_5.length c0_5, .slice A0_6 l0_6.length c0_6, .slice A0_7 l0_7.length c0_7]) (t := 150) ?hr ?_; (case hd => rfl); (case hg => rfl); (case hr => first | (go_simp; done) | (go_simp; rfl)); intro gb106 hg w16 hbox hb; have n0_ := Aside0.mk (below_step (by repeat (first | (with_reducible first | exact HB.out | apply below_alloc | apply pw_below_drewN | apply below_drew1) | exact HB.out)) hb); have n1_ := Aside0.mk (hbox); have n2_ := Aside0.mk ((by rw [hg]; exact (below_size (by repeat (first | (with_reducible first | exact HB.out | apply below_alloc | apply pw_below_drewN | apply below_drew1) | exact HB.out))) : w.heap.size ≤ gb106)); have n3_ := Aside0.mk ((by rw [hg]; exact (below_size (by repeat (first | (with_reducible first | exact HB.out | apply below_alloc | apply pw_below_drewN | apply below_drew1) | exact HB.out))) : w.heap.size ≤ gb106)); clear HB; have HB := n0_; have BK106 := n1_; have GW106 := n2_; have GE106 := n3_; clear n0_ n1_ n2_ n3_; clear hb hbox hg; have hcz17_0 : w16.cell? ⟨gb106, 0, none⟩ = some (.int .i64 a0_0) := (blk_cell BK106.out 0).trans rfl; have hcz17_1 : w16.cell? ⟨gb106, 1, none⟩ = some (.int .i64 a0_1) := (blk_cell BK106.out 1).trans rfl; have hcz17_2 : w16.cell? ⟨gb106, 2, none⟩ = some (.string a0_2) := (blk_cell BK106.out 2).trans rfl; have hcz17_3 : w16.cell? ⟨gb106, 3, none⟩ = some (.int .i64 a0_3) := (blk_cell BK106.out 3).trans rfl; have hcz17_4 : w16.cell? ⟨gb106, 4, none⟩ = some (.int .i64 a0_4) := (blk_cell BK106.out 4).trans rfl; have hcz17_5 : w16.cell? ⟨gb106, 5, none⟩ = some (.slice A0_5 l0_5.length c0_5) := (blk_cell BK106.out 5).trans rfl; have hcz17_6 : w16.cell? ⟨gb106, 6, none⟩ = some (.slice A0_6 l0_6.length c0_6) := (blk_cell BK106.out 6).trans rfl; have hcz17_7 : w16.cell? ⟨gb106, 7, none⟩ = some (.slice A0_7 l0_7.length c0_7) := (blk_cell BK106.out 7).trans rfl; have hfz17_0 := blk_frozen BK106.out 0; have hfz17_1 := blk_frozen BK106.out 1; have hfz17_2 := blk_frozen BK106.out 2; have hfz17_3 := blk_frozen BK106.out 3; have hfz17_4 := blk_frozen BK106.out 4; have hfz17_5 := blk_frozen BK106.out 5; have hfz17_6 := blk_frozen BK106.out 6; have hfz17_7 := blk_frozen BK106.out 7) | ((with_reducible refine gate_callee (f := 98) rfl ?_); refine goesL_ (some 15) rfl rfl Try.func98 (by kernel_rfl) rfl #[.slice A0_5 l0_5.length c0_5, .int .i64 (wrap64 (a1 - (a0_2.size : Int)))] rfl (by (try simp only [List.map_toArray, List.map_cons, List.map_nil]); first | done | rfl | (simp only [List.length_drop, List.length_take]; rfl)) ?_; (with_reducible refine (laws_szInt64S.calls _ _ l0_5 (wrap64 (a1 - (a0_2.size : Int))) t107 _ ?side1 ?side2 A6.out).mono ?_); (case side1 => repeat (first | exact (Kd.C_below HR0_5.out HB.out) | (with_reducible refine Kd.C_alloc ?_ _) | (with_reducible refine Kd.C_drewN ?_ _) | (with_reducible refine Kd.C_drew ?_))); (case side2 => exact HC0_5.out); rintro e w' ⟨rfl, ⟨nd, rfl⟩⟩; refine ⟨_, rfl, ?_⟩) | ((with_reducible refine gate_callee (f := 98) rfl ?_); refine goesL_ (some 21) rfl rfl Try.func98 (by kernel_rfl) rfl #[.slice A0_6 l0_6.length c0_6, .int .i64 t107] rfl (by (try simp only [List.map_toArray, List.map_cons, List.map_nil]); first | done | rfl | (simp only [List.length_drop, List.length_take]; rfl)) ?_; (with_reducible refine (laws_szInt64S.calls _ _ l0_6 t107 t108 _ ?side1 ?side2 A10.out).mono ?_); (case side1 => repeat (first | exact (Kd.C_below HR0_6.out (by repeat (first | (with_reducible first | exact HB.out | apply below_alloc | apply pw_below_drewN | apply below_drew1 | refine below_set ?_ GE106.out) | exact HB.out))) | (with_reducible refine Kd.C_alloc ?_ _) | (with_reducible refine Kd.C_drewN ?_ _) | (with_reducible refine Kd.C_drew ?_))); (case side2 => exact HC0_6.out); rintro e w' ⟨rfl, ⟨nd, rfl⟩⟩; refine ⟨_, rfl, ?_⟩) | ((with_reducible refine gate_callee (f := 98) rfl ?_); refine goesL_ (some 27) rfl rfl Try.func98 (by kernel_rfl) rfl #[.slice A0_7 l0_7.length c0_7, .int .i64 t108] rfl (by (try simp only [List.map_toArray, List.map_cons, List.map_nil]); first | done | rfl | (simp only [List.length_drop, List.length_take]; rfl)) ?_; (with_reducible refine (laws_szInt64S.calls _ _ l0_7 t108 t109 _ ?side1 ?side2 A14.out).mono ?_); (case side1 => repeat (first | exact (Kd.C_below HR0_7.out (by repeat (first | (with_reducible first | exact HB.out | apply below_alloc | apply pw_below_drewN | apply below_drew1 | refine below_set ?_ GE106.out) | exact HB.out))) | (with_reducible refine Kd.C_alloc ?_ _) | (with_reducible refine Kd.C_drewN ?_ _) | (with_reducible refine Kd.C_drew ?_))); (case side2 => exact HC0_7.out); rintro e w' ⟨rfl, ⟨nd, rfl⟩⟩; refine ⟨_, rfl, ?_⟩))
          go_ret
          exact ⟨by first | rfl | (simp [errW_none, errW_some] <;> rfl) | (simp [*, errW_none, errW_some] <;> rfl), by repeat (first | (with_reducible first | exact HB.out | apply below_alloc | apply pw_below_drewN | apply below_drew1 | refine below_set ?_ GE106.out) | exact HB.out)⟩
        · rw [if_neg c15] at H
          have c15b0 : decide (t109 < 0) = false := decide_eq_false c15
          clear c15
          obtain rfl := Option.some.inj H
          go_enter Try.func137, Try.ntmps137
          go_wp2_with (first | ((with_reducible refine gate_dst (N := 2) rfl ?_); refine box_event ?hg (N := 2) ?hd (cs := #[.int .i64 a0_0, .int .i64 a0_1, .string a0_2, .int .i64 a0_3, .int .i64 a0_4, .slice A0_5 l0_5.length c0_5, .slice A0_6 l0_6.length c0_6, .slice A0_7 l0_7.length c0_7]) (t := 150) ?hr ?_; (case hd => rfl); (case hg => rfl); (case hr => first | (go_simp; done) | (go_simp; rfl)); intro gb106 hg w18 hbox hb; have n0_ := Aside0.mk (below_step (by repeat (first | (with_reducible first | exact HB.out | apply below_alloc | apply pw_below_drewN | apply below_drew1) | exact HB.out)) hb); have n1_ := Aside0.mk (hbox); have n2_ := Aside0.mk ((by rw [hg]; exact (below_size (by repeat (first | (with_reducible first | exact HB.out | apply below_alloc | apply pw_below_drewN | apply below_drew1) | exact HB.out))) : w.heap.size ≤ gb106)); have n3_ := Aside0.mk ((by rw [hg]; exact (below_size (by repeat (first | (with_reducible first | exact HB.out | apply below_alloc | apply pw_below_drewN | apply below_drew1) | exact HB.out))) : w.heap.size ≤ gb106)); clear HB; have HB := n0_; have BK106 := n1_; have GW106 := n2_; have GE106 := n3_; clear n0_ n1_ n2_ n3_; clear hb hbox hg; have hcz19_0 : w18.cell? ⟨gb106, 0, none⟩ = some (.int .i64 a0_0) := (blk_cell BK106.out 0).trans rfl; have hcz19_1 : w18.cell? ⟨gb106, 1, none⟩ = some (.int .i64 a0_1) := (blk_cell BK106.out 1).trans rfl; have hcz19_2 : w18.cell? ⟨gb106, 2, none⟩ = some (.string a0_2) := (blk_cell BK106.out 2).trans rfl; have hcz19_3 : w18.cell? ⟨gb106, 3, none⟩ = some (.int .i64 a0_3) := (blk_cell BK106.out 3).trans rfl; have hcz19_4 : w18.cell? ⟨gb106, 4, none⟩ = some (.int .i64 a0_4) := (blk_cell BK106.out 4).trans rfl; have hcz19_5 : w18.cell? ⟨gb106, 5, none⟩ = some (.slice A0_5 l0_5.length c0_5) := (blk_cell BK106.out 5).trans rfl; have hcz19_6 : w18.cell? ⟨gb106, 6, none⟩ = some (.slice A0_6 l0_6.length c0_6) := (blk_cell BK106.out 6).trans rfl; have hcz19_7 : w18.cell? ⟨gb106, 7, none⟩ = some (.slice A0_7 l0_7.length c0_7) := (blk_cell BK106.out 7).trans rfl; have hfz19_0 := blk_frozen BK106.out 0; have hfz19_1 := blk_frozen BK106.out 1; have hfz19_2 := blk_frozen BK106.out 2; have hfz19_3 := blk_frozen BK106.out 3; have hfz19_4 := blk_frozen BK106.out 4; have hfz19_5 := blk_frozen BK106.out 5; have hfz19_6 := blk_frozen BK106.out 6; have hfz19_7 := blk_frozen BK106.out 7) | ((with_reducible refine gate_callee (f := 98) rfl ?_); refine goesL_ (some 15) rfl rfl Try.func98 (by kernel_rfl) rfl #[.slice A0_5 l0_5.length c0_5, .int .i64 (wrap64 (a1 - (a0_2.size : Int)))] rfl (by (try simp only [List.map_toArray, List.map_cons, List.map_nil]); first | done | rfl | (simp only [List.length_drop, List.length_take]; rfl)) ?_; (with_reducible refine (laws_szInt64S.calls _ _ l0_5 (wrap64 (a1 - (a0_2.size : Int))) t107 _ ?side1 ?side2 A6.out).mono ?_); (case side1 => repeat (first | exact (Kd.C_below HR0_5.out HB.out) | (with_reducible refine Kd.C_alloc ?_ _) | (with_reducible refine Kd.C_drewN ?_ _) | (with_reducible refine Kd.C_drew ?_))); (case side2 => exact HC0_5.out); rintro e w' ⟨rfl, ⟨nd, rfl⟩⟩; refine ⟨_, rfl, ?_⟩) | ((with_reducible refine gate_callee (f := 98) rfl ?_); refine goesL_ (some 21) rfl rfl Try.func98 (by kernel_rfl) rfl #[.slice A0_6 l0_6.length c0_6, .int .i64 t107] rfl (by (try simp only [List.map_toArray, List.map_cons, List.map_nil]); first | done | rfl | (simp only [List.length_drop, List.length_take]; rfl)) ?_; (with_reducible refine (laws_szInt64S.calls _ _ l0_6 t107 t108 _ ?side1 ?side2 A10.out).mono ?_); (case side1 => repeat (first | exact (Kd.C_below HR0_6.out (by repeat (first | (with_reducible first | exact HB.out | apply below_alloc | apply pw_below_drewN | apply below_drew1 | refine below_set ?_ GE106.out) | exact HB.out))) | (with_reducible refine Kd.C_alloc ?_ _) | (with_reducible refine Kd.C_drewN ?_ _) | (with_reducible refine Kd.C_drew ?_))); (case side2 => exact HC0_6.out); rintro e w' ⟨rfl, ⟨nd, rfl⟩⟩; refine ⟨_, rfl, ?_⟩) | ((with_reducible refine gate_callee (f := 98) rfl ?_); refine goesL_ (some 27) rfl rfl Try.func98 (by kernel_rfl) rfl #[.slice A0_7 l0_7.length c0_7, .int .i64 t108] rfl (by (try simp only [List.map_toArray, List.map_cons, List.map_nil]); first | done | rfl | (simp only [List.length_drop, List.length_take]; rfl)) ?_; (with_reducible refine (laws_szInt64S.calls _ _ l0_7 t108 t109 _ ?side1 ?side2 A14.out).mono ?_); (case side1 => repeat (first | exact (Kd.C_below HR0_7.out (by repeat (first | (with_reducible first | exact HB.out | apply below_alloc | apply pw_below_drewN | apply below_drew1 | refine below_set ?_ GE106.out) | exact HB.out))) | (with_reducible refine Kd.C_alloc ?_ _) | (with_reducible refine Kd.C_drewN ?_ _) | (with_reducible refine Kd.C_drew ?_))); (case side2 => exact HC0_7.out); rintro e w' ⟨rfl, ⟨nd, rfl⟩⟩; refine ⟨_, rfl, ?_⟩))
          go_ret
          exact ⟨by first | rfl | (simp [errW_none, errW_some] <;> rfl) | (simp [*, errW_none, errW_some] <;> rfl), by repeat (first | (with_reducible first | exact HB.out | apply below_alloc | apply pw_below_drewN | apply below_drew1 | refine below_set ?_ GE106.out) | exact HB.out)⟩

/-! ### laws_szNodeS: function 97 -/
def laws_szNodeS.l0 : Nat → List (S150) → Int → Int → Option (Int)
  | 0, _, _, _ => none
  | k + 1, x0, x1, x5 => if x5 < (x0.length : Int) then (if 0 ≤ x5 then ((laws_szNode.f ((rd_T150 x0 x5).f0) ((rd_T150 x0 x5).f1) ((rd_T150 x0 x5).f2) ((rd_T150 x0 x5).f3) ((rd_T150 x0 x5).f4) ((rd_T150 x0 x5).f5) ((rd_T150 x0 x5).f6) ((rd_T150 x0 x5).f7) x1).bind fun t111 => (if t111 < 0 then (some (-1)) else (laws_szNodeS.l0 k x0 t111 (wrap64 (x5 + 1))))) else (none)) else (some x1)
def laws_szNodeS.f (k : Nat) (l0 : List (S150)) (a1 : Int) : Option (Int) := if (wrap64 (a1 - (l0.length : Int))) < 0 then (some (-1)) else (laws_szNodeS.l0 k l0 (wrap64 (a1 - (l0.length : Int))) 0)
theorem laws_szNodeS.mono_l : ∀ k, (∀ y0 y1 y2, LeO (laws_szNodeS.l0 k y0 y1 y2) (laws_szNodeS.l0 (k + 1) y0 y1 y2))
  | 0 => fun _ _ _ r h => by simp [laws_szNodeS.l0] at h
  | k + 1 => by
    have ih0 := laws_szNodeS.mono_l k
    · intro y0 y1 y2
      unfold laws_szNodeS.l0
      repeat' first
      | (with_reducible exact ih0 _ _ _)
      | (with_reducible exact LeO.refl _)
      | (with_reducible exact LeO.none _)
      | (with_reducible refine LeO.ite ?_ ?_)
      | (with_reducible refine LeO.bind ?_ (fun _ => ?_))
      | exact ih0 _ _ _
      | exact LeO.none _
      | refine LeO.ite ?_ ?_
      | refine LeO.bind ?_ (fun _ => ?_)
theorem laws_szNodeS.mono : ∀ a0 a1 k, LeO (laws_szNodeS.f k a0 a1) (laws_szNodeS.f (k + 1) a0 a1) := by
  intro a0 a1 k
  have ih0 := laws_szNodeS.mono_l k
  unfold laws_szNodeS.f
  repeat' first
      | (with_reducible exact ih0 _ _ _)
      | (with_reducible exact LeO.refl _)
      | (with_reducible exact LeO.none _)
      | (with_reducible refine LeO.ite ?_ ?_)
      | (with_reducible refine LeO.bind ?_ (fun _ => ?_))
      | exact ih0 _ _ _
      | exact LeO.none _
      | refine LeO.ite ?_ ?_
      | refine LeO.bind ?_ (fun _ => ?_)
set_option maxHeartbeats 8000000 in
set_option maxRecDepth 100000 in
theorem laws_szNodeS.calls (k : Nat) (A0 : Option Addr) (c0 : Nat) (l0 : List (S150)) (a1 : Int) (r : Int) (w : World) (hr0 : Kd.C k150 w A0 l0.length l0) (hc0 : l0.length ≤ c0) (h : laws_szNodeS.f k l0 a1 = some r) :
    Calls Try.prog 97 #[.slice A0 l0.length c0, .int .i64 a1] w fun e w' => e = .returned (.int .i64 r) ∧ Below w.heap.size w w' := by
  have hu150 := Try.underlying150
  have HR0 := Aside0.mk hr0
  have HC0 := Aside0.mk hc0
  clear hr0 hc0
  have HB := Aside0.mk (Below.refl w.heap.size w)
  have H : (if (wrap64 (a1 - (l0.length : Int))) < 0 then (some (-1)) else (laws_szNodeS.l0 k l0 (wrap64 (a1 - (l0.length : Int))) 0)) = some r := h
  clear h
  by_cases c3 : (wrap64 (a1 - (l0.length : Int))) < 0
  · rw [if_pos c3] at H
    have c3b0 : decide ((wrap64 (a1 - (l0.length : Int))) < 0) = true := decide_eq_true c3
    clear c3
    obtain rfl := Option.some.inj H
    go_enter Try.func97, Try.ntmps97
    go_wp2
    go_ret
    exact ⟨by first | rfl | (simp [errW_none, errW_some] <;> rfl) | (simp [*, errW_none, errW_some] <;> rfl), by repeat (first | (with_reducible first | exact HB.out | apply below_alloc | apply pw_below_drewN | apply below_drew1) | exact HB.out)⟩
  · rw [if_neg c3] at H
    have c3b0 : decide ((wrap64 (a1 - (l0.length : Int))) < 0) = false := decide_eq_false c3
    clear c3
    have H' := Aside0.mk H
    clear H
    go_enter Try.func97, Try.ntmps97
    go_wp2
    go_loopg [1, 5] k (fun kq v1 v5 w' => ∃ (x1_1 : Int) (x5_1 : Int), v1 = .int .i64 x1_1 ∧ v5 = .int .i64 x5_1 ∧ Aside0 (laws_szNodeS.l0 kq l0 x1_1 x5_1 = some r) ∧ Aside0 (kq ≤ k) ∧ Aside0 (Below w.heap.size w w'))
    case atStart => exact ⟨(wrap64 (a1 - (l0.length : Int))), (0), (by first | rfl | (simp; done) | (simp [*]; done)), (by first | rfl | (simp; done) | (simp [*]; done)), H', ⟨Nat.le_refl _⟩, ⟨by repeat (first | (with_reducible first | exact HB.out | apply below_alloc | apply pw_below_drewN | apply below_drew1) | exact HB.out)⟩⟩
    case round =>
      clear H'
      try clear p2
      try clear c3
      try clear c3b0
      obtain ⟨x1_1, x5_1, rfl, rfl, HA, HK1, HB⟩ := hrel
      cases gk with
      | zero => exact absurd HA.out (by simp [laws_szNodeS.l0])
      | succ k1 =>
        have H := HA.out
        clear HA
        simp only [laws_szNodeS.l0] at H
        by_cases c4 : x5_1 < (l0.length : Int)
        · rw [if_pos c4] at H
          have c4b0 : decide (x5_1 < (l0.length : Int)) = true := decide_eq_true c4
          clear c4
          by_cases c5 : 0 ≤ x5_1
          · rw [if_pos c5] at H
            have c5b0 : decide (0 ≤ x5_1) = true := decide_eq_true c5
            clear c5
            replace H := Option.bind_eq_some_iff.mp H
            obtain ⟨t111, A60, H⟩ := H
            replace H : (if t111 < 0 then (some (-1)) else (laws_szNodeS.l0 k1 l0 t111 (wrap64 (x5_1 + 1)))) = some r := H
            have A6 := Aside0.mk A60
            clear A60
            by_cases c7 : t111 < 0
            · rw [if_pos c7] at H
              have c7b0 : decide (t111 < 0) = true := decide_eq_true c7
              clear c7
              obtain rfl := Option.some.inj H
              have p110 : 0 ≤ (x5_1 : Int) := of_decide_eq_true (by first | (with_reducible assumption) | assumption)
              have q110 : x5_1 < (l0.length : Int) := of_decide_eq_true (by first | (with_reducible assumption) | assumption)
              obtain ⟨ad110, A110_5, c110_5, A110_6, c110_6, A110_7, c110_7, e110, hx110_0, hx110_1, hx110_2, hx110_3, hx110_4, hx110_5, hx110_6, hx110_7, hl110_5, hi110_5, hl110_6, hi110_6, hl110_7, hi110_7⟩ := at_T150 HR0.out x5_1 p110 q110
              cases e110
              replace hx110_0 := (HB.out.cell (World.block_lt_of_cell? w _ hx110_0)).trans hx110_0
              replace hx110_1 := (HB.out.cell (World.block_lt_of_cell? w _ hx110_1)).trans hx110_1
              replace hx110_2 := (HB.out.cell (World.block_lt_of_cell? w _ hx110_2)).trans hx110_2
              replace hx110_3 := (HB.out.cell (World.block_lt_of_cell? w _ hx110_3)).trans hx110_3
              replace hx110_4 := (HB.out.cell (World.block_lt_of_cell? w _ hx110_4)).trans hx110_4
              replace hx110_5 := (HB.out.cell (World.block_lt_of_cell? w _ hx110_5)).trans hx110_5
              replace hx110_6 := (HB.out.cell (World.block_lt_of_cell? w _ hx110_6)).trans hx110_6
              replace hx110_7 := (HB.out.cell (World.block_lt_of_cell? w _ hx110_7)).trans hx110_7
              have HR110_5 := Aside0.mk hi110_5
              have HC110_5 := Aside0.mk hl110_5
              clear hi110_5 hl110_5
              have HR110_6 := Aside0.mk hi110_6
              have HC110_6 := Aside0.mk hl110_6
              clear hi110_6 hl110_6
              have HR110_7 := Aside0.mk hi110_7
              have HC110_7 := Aside0.mk hl110_7
              clear hi110_7 hl110_7
              replace p110 := eq_true p110
              replace q110 := eq_true q110
              go_wp2_with (first | ((with_reducible refine gate_callee (f := 137) rfl ?_); refine goesL_ (some 23) rfl rfl Try.func137 (by kernel_rfl) rfl #[.agg #[.int .i64 ((rd_T150 l0 x5_1).f0), .int .i64 ((rd_T150 l0 x5_1).f1), .string ((rd_T150 l0 x5_1).f2), .int .i64 ((rd_T150 l0 x5_1).f3), .int .i64 ((rd_T150 l0 x5_1).f4), .slice A110_5 ((rd_T150 l0 x5_1).f5).length c110_5, .slice A110_6 ((rd_T150 l0 x5_1).f6).length c110_6, .slice A110_7 ((rd_T150 l0 x5_1).f7).length c110_7], .int .i64 x1_1] rfl (by (try simp only [List.map_toArray, List.map_cons, List.map_nil]); first | done | rfl | (simp only [List.length_drop, List.length_take]; rfl)) ?_; (with_reducible refine (laws_szNode.calls ((rd_T150 l0 x5_1).f0) ((rd_T150 l0 x5_1).f1) ((rd_T150 l0 x5_1).f2) ((rd_T150 l0 x5_1).f3) ((rd_T150 l0 x5_1).f4) _ _ ((rd_T150 l0 x5_1).f5) _ _ ((rd_T150 l0 x5_1).f6) _ _ ((rd_T150 l0 x5_1).f7) x1_1 t111 _ ?side1 ?side2 ?side3 ?side4 ?side5 ?side6 A6.out).mono ?_); (case side1 => repeat (first | exact (Kd.C_below HR110_5.out HB.out) | (with_reducible refine Kd.C_alloc ?_ _) | (with_reducible refine Kd.C_drewN ?_ _) | (with_reducible refine Kd.C_drew ?_))); (case side2 => exact HC110_5.out); (case side3 => repeat (first | exact (Kd.C_below HR110_6.out HB.out) | (with_reducible refine Kd.C_alloc ?_ _) | (with_reducible refine Kd.C_drewN ?_ _) | (with_reducible refine Kd.C_drew ?_))); (case side4 => exact HC110_6.out); (case side5 => repeat (first | exact (Kd.C_below HR110_7.out HB.out) | (with_reducible refine Kd.C_alloc ?_ _) | (with_reducible refine Kd.C_drewN ?_ _) | (with_reducible refine Kd.C_drew ?_))); (case side6 => exact HC110_7.out); rintro e w8 ⟨rfl, hb⟩; refine ⟨_, rfl, ?_⟩; have n0_ := Aside0.mk (below_step (by repeat (first | (with_reducible first | exact HB.out | apply below_alloc | apply pw_below_drewN | apply below_drew1) | exact HB.out)) hb); clear HB; have HB := n0_; clear n0_; (try clear hb); (try clear hb2); (try clear hk); (try clear hi)))
              go_ret
              exact ⟨by first | rfl | (simp [errW_none, errW_some] <;> rfl) | (simp [*, errW_none, errW_some] <;> rfl), by repeat (first | (with_reducible first | exact HB.out | apply below_alloc | apply pw_below_drewN | apply below_drew1) | exact HB.out)⟩
            · rw [if_neg c7] at H
              have c7b0 : decide (t111 < 0) = false := decide_eq_false c7
              clear c7
              have H' := Aside0.mk H
              clear H
              have p110 : 0 ≤ (x5_1 : Int) := of_decide_eq_true (by first | (with_reducible assumption) | assumption)
              have q110 : x5_1 < (l0.length : Int) := of_decide_eq_true (by first | (with_reducible assumption) | assumption)
              obtain ⟨ad110, A110_5, c110_5, A110_6, c110_6, A110_7, c110_7, e110, hx110_0, hx110_1, hx110_2, hx110_3, hx110_4, hx110_5, hx110_6, hx110_7, hl110_5, hi110_5, hl110_6, hi110_6, hl110_7, hi110_7⟩ := at_T150 HR0.out x5_1 p110 q110
              cases e110
              replace hx110_0 := (HB.out.cell (World.block_lt_of_cell? w _ hx110_0)).trans hx110_0
              replace hx110_1 := (HB.out.cell (World.block_lt_of_cell? w _ hx110_1)).trans hx110_1
              replace hx110_2 := (HB.out.cell (World.block_lt_of_cell? w _ hx110_2)).trans hx110_2
              replace hx110_3 := (HB.out.cell (World.block_lt_of_cell? w _ hx110_3)).trans hx110_3
              replace hx110_4 := (HB.out.cell (World.block_lt_of_cell? w _ hx110_4)).trans hx110_4
              replace hx110_5 := (HB.out.cell (World.block_lt_of_cell? w _ hx110_5)).trans hx110_5
              replace hx110_6 := (HB.out.cell (World.block_lt_of_cell? w _ hx110_6)).trans hx110_6
              replace hx110_7 := (HB.out.cell (World.block_lt_of_cell? w _ hx110_7)).trans hx110_7
              have HR110_5 := Aside0.mk hi110_5
              have HC110_5 := Aside0.mk hl110_5
              clear hi110_5 hl110_5
              have HR110_6 := Aside0.mk hi110_6
              have HC110_6 := Aside0.mk hl110_6
              clear hi110_6 hl110_6
              have HR110_7 := Aside0.mk hi110_7
              have HC110_7 := Aside0.mk hl110_7
              clear hi110_7 hl110_7
              replace p110 := eq_true p110
              replace q110 := eq_true q110
              go_wp2_with (first | ((with_reducible refine gate_callee (f := 137) rfl ?_); refine goesL_ (some 23) rfl rfl Try.func137 (by kernel_rfl) rfl #[.agg #[.int .i64 ((rd_T150 l0 x5_1).f0), .int .i64 ((rd_T150 l0 x5_1).f1), .string ((rd_T150 l0 x5_1).f2), .int .i64 ((rd_T150 l0 x5_1).f3), .int .i64 ((rd_T150 l0 x5_1).f4), .slice A110_5 ((rd_T150 l0 x5_1).f5).length c110_5, .slice A110_6 ((rd_T150 l0 x5_1).f6).length c110_6, .slice A110_7 ((rd_T150 l0 x5_1).f7).length c110_7], .int .i64 x1_1] rfl (by (try simp only [List.map_toArray, List.map_cons, List.map_nil]); first | done | rfl | (simp only [List.length_drop, List.length_take]; rfl)) ?_; (with_reducible refine (laws_szNode.calls ((rd_T150 l0 x5_1).f0) ((rd_T150 l0 x5_1).f1) ((rd_T150 l0 x5_1).f2) ((rd_T150 l0 x5_1).f3) ((rd_T150 l0 x5_1).f4) _ _ ((rd_T150 l0 x5_1).f5) _ _ ((rd_T150 l0 x5_1).f6) _ _ ((rd_T150 l0 x5_1).f7) x1_1 t111 _ ?side1 ?side2 ?side3 ?side4 ?side5 ?side6 A6.out).mono ?_); (case side1 => repeat (first | exact (Kd.C_below HR110_5.out HB.out) | (with_reducible refine Kd.C_alloc ?_ _) | (with_reducible refine Kd.C_drewN ?_ _) | (with_reducible refine Kd.C_drew ?_))); (case side2 => exact HC110_5.out); (case side3 => repeat (first | exact (Kd.C_below HR110_6.out HB.out) | (with_reducible refine Kd.C_alloc ?_ _) | (with_reducible refine Kd.C_drewN ?_ _) | (with_reducible refine Kd.C_drew ?_))); (case side4 => exact HC110_6.out); (case side5 => repeat (first | exact (Kd.C_below HR110_7.out HB.out) | (with_reducible refine Kd.C_alloc ?_ _) | (with_reducible refine Kd.C_drewN ?_ _) | (with_reducible refine Kd.C_drew ?_))); (case side6 => exact HC110_7.out); rintro e w9 ⟨rfl, hb⟩; refine ⟨_, rfl, ?_⟩; have n0_ := Aside0.mk (below_step (by repeat (first | (with_reducible first | exact HB.out | apply below_alloc | apply pw_below_drewN | apply below_drew1) | exact HB.out)) hb); clear HB; have HB := n0_; clear n0_; (try clear hb); (try clear hb2); (try clear hk); (try clear hi)))
              go_roundg k1
              case measure => have := HK1.out; omega
              case rel => exact ⟨(t111), (wrap64 (x5_1 + 1)), (by first | rfl | (simp; done) | (simp [*]; done)), (by first | rfl | (simp; done) | (simp [*]; done)), H', ⟨by have := HK1.out; omega⟩, ⟨by repeat (first | (with_reducible first | exact HB.out | apply below_alloc | apply pw_below_drewN | apply below_drew1) | exact HB.out)⟩⟩
          · rw [if_neg c5] at H
            exact absurd H (by simp)
        · rw [if_neg c4] at H
          have c4b0 : decide (x5_1 < (l0.length : Int)) = false := decide_eq_false c4
          clear c4
          obtain rfl := Option.some.inj H
          go_wp2
          go_ret
          exact ⟨by first | rfl | (simp [errW_none, errW_some] <;> rfl) | (simp [*, errW_none, errW_some] <;> rfl), by repeat (first | (with_reducible first | exact HB.out | apply below_alloc | apply pw_below_drewN | apply below_drew1) | exact HB.out)⟩

/-! ### laws_szTree: function 45 -/
def laws_szTree.f (k : Nat) (l0_0 : List (S148)) (l0_1 : List (S150)) (l0_2 : List Int) (a1 : Int) : Option (Int) := (laws_szVarS.f k l0_0 a1).bind fun t113 => (if t113 < 0 then (some (-1)) else ((laws_szNodeS.f k l0_1 t113).bind fun t114 => (if t114 < 0 then (some (-1)) else ((laws_szInt64S.f l0_2 t114).bind fun t115 => (if t115 < 0 then (some (-1)) else (some t115))))))
theorem laws_szTree.mono : ∀ a0 a1 a2 a3 k, LeO (laws_szTree.f k a0 a1 a2 a3) (laws_szTree.f (k + 1) a0 a1 a2 a3) := by
  intro a0 a1 a2 a3 k
  unfold laws_szTree.f
  repeat' first
      | (with_reducible exact laws_szNodeS.mono _ _ _)
      | (with_reducible exact laws_szVarS.mono _ _ _)
      | (with_reducible exact LeO.refl _)
      | (with_reducible exact LeO.none _)
      | (with_reducible refine LeO.ite ?_ ?_)
      | (with_reducible refine LeO.bind ?_ (fun _ => ?_))
      | exact laws_szNodeS.mono _ _ _
      | exact laws_szVarS.mono _ _ _
      | exact LeO.none _
      | refine LeO.ite ?_ ?_
      | refine LeO.bind ?_ (fun _ => ?_)
set_option maxHeartbeats 8000000 in
set_option maxRecDepth 100000 in
theorem laws_szTree.calls (k : Nat) (A0_0 : Option Addr) (c0_0 : Nat) (l0_0 : List (S148)) (A0_1 : Option Addr) (c0_1 : Nat) (l0_1 : List (S150)) (A0_2 : Option Addr) (c0_2 : Nat) (l0_2 : List Int) (a1 : Int) (r : Int) (w : World) (hr0_0 : Kd.C k148 w A0_0 l0_0.length l0_0) (hc0_0 : l0_0.length ≤ c0_0) (hr0_1 : Kd.C k150 w A0_1 l0_1.length l0_1) (hc0_1 : l0_1.length ≤ c0_1) (hr0_2 : Kd.C (Kd.int .i64) w A0_2 l0_2.length l0_2) (hc0_2 : l0_2.length ≤ c0_2) (h : laws_szTree.f k l0_0 l0_1 l0_2 a1 = some r) :
    Calls Try.prog 45 #[.agg #[.slice A0_0 l0_0.length c0_0, .slice A0_1 l0_1.length c0_1, .slice A0_2 l0_2.length c0_2], .int .i64 a1] w fun e w' => e = .returned (.int .i64 r) ∧ Below w.heap.size w w' := by
  have hu63 := Try.underlying63
  have HR0_0 := Aside0.mk hr0_0
  have HC0_0 := Aside0.mk hc0_0
  clear hr0_0 hc0_0
  have HR0_1 := Aside0.mk hr0_1
  have HC0_1 := Aside0.mk hc0_1
  clear hr0_1 hc0_1
  have HR0_2 := Aside0.mk hr0_2
  have HC0_2 := Aside0.mk hc0_2
  clear hr0_2 hc0_2
  have HB := Aside0.mk (Below.refl w.heap.size w)
  have H : ((laws_szVarS.f k l0_0 a1).bind fun t113 => (if t113 < 0 then (some (-1)) else ((laws_szNodeS.f k l0_1 t113).bind fun t114 => (if t114 < 0 then (some (-1)) else ((laws_szInt64S.f l0_2 t114).bind fun t115 => (if t115 < 0 then (some (-1)) else (some t115))))))) = some r := h
  clear h
  replace H := Option.bind_eq_some_iff.mp H
  obtain ⟨t113, A30, H⟩ := H
  replace H : (if t113 < 0 then (some (-1)) else ((laws_szNodeS.f k l0_1 t113).bind fun t114 => (if t114 < 0 then (some (-1)) else ((laws_szInt64S.f l0_2 t114).bind fun t115 => (if t115 < 0 then (some (-1)) else (some t115)))))) = some r := H
  have A3 := Aside0.mk A30
  clear A30
  by_cases c4 : t113 < 0
  · rw [if_pos c4] at H
    have c4b0 : decide (t113 < 0) = true := decide_eq_true c4
    clear c4
    obtain rfl := Option.some.inj H
    go_enter Try.func45, Try.ntmps45
    go_wp2_with (first | ((with_reducible refine gate_dst (N := 2) rfl ?_); refine box_event ?hg (N := 2) ?hd (cs := #[.slice A0_0 l0_0.length c0_0, .slice A0_1 l0_1.length c0_1, .slice A0_2 l0_2.length c0_2]) (t := 63) ?hr ?_; (case hd => rfl); (case hg => rfl); (case hr => first | (go_simp; done) | (go_simp; rfl)); intro gb112 hg w5 hbox hb; have n0_ := Aside0.mk (below_step (by repeat (first | (with_reducible first | exact HB.out | apply below_alloc | apply pw_below_drewN | apply below_drew1) | exact HB.out)) hb); have n1_ := Aside0.mk (hbox); have n2_ := Aside0.mk ((by rw [hg]; exact (below_size (by repeat (first | (with_reducible first | exact HB.out | apply below_alloc | apply pw_below_drewN | apply below_drew1) | exact HB.out))) : w.heap.size ≤ gb112)); have n3_ := Aside0.mk ((by rw [hg]; exact (below_size (by repeat (first | (with_reducible first | exact HB.out | apply below_alloc | apply pw_below_drewN | apply below_drew1) | exact HB.out))) : w.heap.size ≤ gb112)); clear HB; have HB := n0_; have BK112 := n1_; have GW112 := n2_; have GE112 := n3_; clear n0_ n1_ n2_ n3_; clear hb hbox hg; have hcz6_0 : w5.cell? ⟨gb112, 0, none⟩ = some (.slice A0_0 l0_0.length c0_0) := (blk_cell BK112.out 0).trans rfl; have hcz6_1 : w5.cell? ⟨gb112, 1, none⟩ = some (.slice A0_1 l0_1.length c0_1) := (blk_cell BK112.out 1).trans rfl; have hcz6_2 : w5.cell? ⟨gb112, 2, none⟩ = some (.slice A0_2 l0_2.length c0_2) := (blk_cell BK112.out 2).trans rfl; have hfz6_0 := blk_frozen BK112.out 0; have hfz6_1 := blk_frozen BK112.out 1; have hfz6_2 := blk_frozen BK112.out 2) | ((with_reducible refine gate_callee (f := 96) rfl ?_); refine goesL_ (some 8) rfl rfl Try.func96 (by kernel_rfl) rfl #[.slice A0_0 l0_0.length c0_0, .int .i64 a1] rfl (by (try simp only [List.map_toArray, List.map_cons, List.map_nil]); first | done | rfl | (simp only [List.length_drop, List.length_take]; rfl)) ?_; (with_reducible refine (laws_szVarS.calls k _ _ l0_0 a1 t113 _ ?side1 ?side2 A3.out).mono ?_); (case side1 => repeat (first | exact (Kd.C_below HR0_0.out HB.out) | (with_reducible refine Kd.C_alloc ?_ _) | (with_reducible refine Kd.C_drewN ?_ _) | (with_reducible refine Kd.C_drew ?_))); (case side2 => exact HC0_0.out); rintro e w7 ⟨rfl, hb⟩; refine ⟨_, rfl, ?_⟩; have n0_ := Aside0.mk (blk_below (g := gb112) (o := .cells #[.slice A0_0 l0_0.length c0_0, .slice A0_1 l0_1.length c0_1, .slice A0_2 l0_2.length c0_2] 63 (0, 0)) (by (with_reducible repeat (first | refine blk_drewN ?_ _ | refine blk_drew ?_ | refine blk_alloc ?_ _)); exact BK112.out) hb); have n1_ := Aside0.mk (below_step (by repeat (first | (with_reducible first | exact HB.out | apply below_alloc | apply pw_below_drewN | apply below_drew1 | refine below_set ?_ GE112.out) | exact HB.out)) hb); clear BK112; clear HB; have BK112 := n0_; have HB := n1_; clear n0_ n1_; (try clear hb); (try clear hb2); (try clear hk); (try clear hi)))
    go_ret
    exact ⟨by first | rfl | (simp [errW_none, errW_some] <;> rfl) | (simp [*, errW_none, errW_some] <;> rfl), by repeat (first | (with_reducible first | exact HB.out | apply below_alloc | apply pw_below_drewN | apply below_drew1 | refine below_set ?_ GE112.out) | exact HB.out)⟩
  · rw [if_neg c4] at H
    have c4b0 : decide (t113 < 0) = false := decide_eq_false c4
    clear c4
    replace H := Option.bind_eq_some_iff.mp H
    obtain ⟨t114, A80, H⟩ := H
    replace H : (if t114 < 0 then (some (-1)) else ((laws_szInt64S.f l0_2 t114).bind fun t115 => (if t115 < 0 then (some (-1)) else (some t115)))) = some r := H
    have A8 := Aside0.mk A80
    clear A80
    by_cases c9 : t114 < 0
    · rw [if_pos c9] at H
      have c9b0 : decide (t114 < 0) = true := decide_eq_true c9
      clear c9
      obtain rfl := Option.some.inj H
      go_enter Try.func45, Try.ntmps45
      go_wp2_with (first | ((with_reducible refine gate_dst (N := 2) rfl ?_); refine box_event ?hg (N := 2) ?hd (cs := #[.slice A0_0 l0_0.length c0_0, .slice A0_1 l0_1.length c0_1, .slice A0_2 l0_2.length c0_2]) (t := 63) ?hr ?_; (case hd => rfl); (case hg => rfl); (case hr => first | (go_simp; done) | (go_simp; rfl)); intro gb112 hg w10 hbox hb; have n0_ := Aside0.mk (below_step (by repeat (first | (with_reducible first | exact HB.out | apply below_alloc | apply pw_below_drewN | apply below_drew1) | exact HB.out)) hb); have n1_ := Aside0.mk (hbox); have n2_ := Aside0.mk ((by rw [hg]; exact (below_size (by repeat (first | (with_reducible first | exact HB.out | apply below_alloc | apply pw_below_drewN | apply below_drew1) | exact HB.out))) : w.heap.size ≤ gb112)); have n3_ := Aside0.mk ((by rw [hg]; exact (below_size (by repeat (first | (with_reducible first | exact HB.out | apply below_alloc | apply pw_below_drewN | apply below_drew1) | exact HB.out))) : w.heap.size ≤ gb112)); clear HB; have HB := n0_; have BK112 := n1_; have GW112 := n2_; have GE112 := n3_; clear n0_ n1_ n2_ n3_; clear hb hbox hg; have hcz11_0 : w10.cell? ⟨gb112, 0, none⟩ = some (.slice A0_0 l0_0.length c0_0) := (blk_cell BK112.out 0).trans rfl; have hcz11_1 : w10.cell? ⟨gb112, 1, none⟩ = some (.slice A0_1 l0_1.length c0_1) := (blk_cell BK112.out 1).trans rfl; have hcz11_2 : w10.cell? ⟨gb112, 2, none⟩ = some (.slice A0_2 l0_2.length c0_2) := (blk_cell BK112.out 2).trans rfl; have hfz11_0 := blk_frozen BK112.out 0; have hfz11_1 := blk_frozen BK112.out 1; have hfz11_2 := blk_frozen BK112.out 2) | ((with_reducible refine gate_callee (f := 96) rfl ?_); refine goesL_ (some 8) rfl rfl Try.func96 (by kernel_rfl) rfl #[.slice A0_0 l0_0.length c0_0, .int .i64 a1] rfl (by (try simp only [List.map_toArray, List.map_cons, List.map_nil]); first | done | rfl | (simp only [List.length_drop, List.length_take]; rfl)) ?_; (with_reducible refine (laws_szVarS.calls k _ _ l0_0 a1 t113 _ ?side1 ?side2 A3.out).mono ?_); (case side1 => repeat (first | exact (Kd.C_below HR0_0.out HB.out) | (with_reducible refine Kd.C_alloc ?_ _) | (with_reducible refine Kd.C_drewN ?_ _) | (with_reducible refine Kd.C_drew ?_))); (case side2 => exact HC0_0.out); rintro e w12 ⟨rfl, hb⟩; refine ⟨_, rfl, ?_⟩; have n0_ := Aside0.mk (blk_below (g := gb112) (o := .cells #[.slice A0_0 l0_0.length c0_0, .slice A0_1 l0_1.length c0_1, .slice A0_2 l0_2.length c0_2] 63 (0, 0)) (by (with_reducible repeat (first | refine blk_drewN ?_ _ | refine blk_drew ?_ | refine blk_alloc ?_ _)); exact BK112.out) hb); have n1_ := Aside0.mk (below_step (by repeat (first | (with_reducible first | exact HB.out | apply below_alloc | apply pw_below_drewN | apply below_drew1 | refine below_set ?_ GE112.out) | exact HB.out)) hb); clear BK112; clear HB; have BK112 := n0_; have HB := n1_; clear n0_ n1_; (try clear hb); (try clear hb2); (try clear hk); (try clear hi); have hcz13_0 : w12.cell? ⟨gb112, 0, none⟩ = some (.slice A0_0 l0_0.length c0_0) := (blk_cell BK112.out 0).trans rfl; have hcz13_1 : w12.cell? ⟨gb112, 1, none⟩ = some (.slice A0_1 l0_1.length c0_1) := (blk_cell BK112.out 1).trans rfl; have hcz13_2 : w12.cell? ⟨gb112, 2, none⟩ = some (.slice A0_2 l0_2.length c0_2) := (blk_cell BK112.out 2).trans rfl; have hfz13_0 := blk_frozen BK112.out 0; have hfz13_1 := blk_frozen BK112.out 1; have hfz13_2 := blk_frozen BK112.out 2) | ((with_reducible refine gate_callee (f := 97) rfl ?_); refine goesL_ (some 14) rfl rfl Try.func97 (by kernel_rfl) rfl #[.slice A0_1 l0_1.length c0_1, .int .i64 t113] rfl (by (try simp only [List.map_toArray, List.map_cons, List.map_nil]); first | done | rfl | (simp only [List.length_drop, List.length_take]; rfl)) ?_; (with_reducible refine (laws_szNodeS.calls k _ _ l0_1 t113 t114 _ ?side1 ?side2 A8.out).mono ?_); (case side1 => repeat (first | exact (Kd.C_below HR0_1.out HB.out) | (with_reducible refine Kd.C_alloc ?_ _) | (with_reducible refine Kd.C_drewN ?_ _) | (with_reducible refine Kd.C_drew ?_))); (case side2 => exact HC0_1.out); rintro e w14 ⟨rfl, hb⟩; refine ⟨_, rfl, ?_⟩; have n0_ := Aside0.mk (blk_below (g := gb112) (o := .cells #[.slice A0_0 l0_0.length c0_0, .slice A0_1 l0_1.length c0_1, .slice A0_2 l0_2.length c0_2] 63 (0, 0)) (by (with_reducible repeat (first | refine blk_drewN ?_ _ | refine blk_drew ?_ | refine blk_alloc ?_ _)); exact BK112.out) hb); have n1_ := Aside0.mk (below_step (by repeat (first | (with_reducible first | exact HB.out | apply below_alloc | apply pw_below_drewN | apply below_drew1 | refine below_set ?_ GE112.out) | exact HB.out)) hb); clear BK112; clear HB; have BK112 := n0_; have HB := n1_; clear n0_ n1_; (try clear hb); (try clear hb2); (try clear hk); (try clear hi)))
      go_ret
      exact ⟨by first | rfl | (simp [errW_none, errW_some] <;> rfl) | (simp [*, errW_none, errW_some] <;> rfl), by repeat (first | (with_reducible first | exact HB.out | apply below_alloc | apply pw_below_drewN | apply below_drew1 | refine below_set ?_ GE112.out) | exact HB.out)⟩
    · rw [if_neg c9] at H
      have c9b0 : decide (t114 < 0) = false := decide_eq_false c9
      clear c9
      replace H := Option.bind_eq_some_iff.mp H
      obtain ⟨t115, A150, H⟩ := H
      replace H : (if t115 < 0 then (some (-1)) else (some t115)) = some r := H
      have A15 := Aside0.mk A150
      clear A150
      by_cases c16 : t115 < 0
      · rw [if_pos c16] at H
        have c16b0 : decide (t115 < 0) = true := decide_eq_true c16
        clear c16
        obtain rfl := Option.some.inj H
        go_enter Try.func45, Try.ntmps45
        go_wp2_with (first | ((with_reducible refine gate_dst (N := 2) rfl ?_); refine box_event ?hg (N := 2) ?hd (cs := #[.slice A0_0 l0_0.length c0_0, .slice A0_1 l0_1.length c0_1, .slice A0_2 l0_2.length c0_2]) (t := 63) ?hr ?_; (case hd => rfl); (case hg => rfl); (case hr => first | (go_simp; done) | (go_simp; rfl)); intro gb112 hg w17 hbox hb; have n0_ := Aside0.mk (below_step (by repeat (first | (with_reducible first | exact HB.out | apply below_alloc | apply pw_below_drewN | apply below_drew1) | exact HB.out)) hb); have n1_ := Aside0.mk (hbox); have n2_ := Aside0.mk ((by rw [hg]; exact (below_size (by repeat (first | (with_reducible first | exact HB.out | apply below_alloc | apply pw_below_drewN | apply below_drew1) | exact HB.out))) : w.heap.size ≤ gb112)); have n3_ := Aside0.mk ((by rw [hg]; exact (below_size (by repeat (first | (with_reducible first | exact HB.out | apply below_alloc | apply pw_below_drewN | apply below_drew1) | exact HB.out))) : w.heap.size ≤ gb112)); clear HB; have HB := n0_; have BK112 := n1_; have GW112 := n2_; have GE112 := n3_; clear n0_ n1_ n2_ n3_; clear hb hbox hg; have hcz18_0 : w17.cell? ⟨gb112, 0, none⟩ = some (.slice A0_0 l0_0.length c0_0) := (blk_cell BK112.out 0).trans rfl; have hcz18_1 : w17.cell? ⟨gb112, 1, none⟩ = some (.slice A0_1 l0_1.length c0_1) := (blk_cell BK112.out 1).trans rfl; have hcz18_2 : w17.cell? ⟨gb112, 2, none⟩ = some (.slice A0_2 l0_2.length c0_2) := (blk_cell BK112.out 2).trans rfl; have hfz18_0 := blk_frozen BK112.out 0; have hfz18_1 := blk_frozen BK112.out 1; have hfz18_2 := blk_frozen BK112.out 2) | ((with_reducible refine gate_callee (f := 96) rfl ?_); refine goesL_ (some 8) rfl rfl Try.func96 (by kernel_rfl) rfl #[.slice A0_0 l0_0.length c0_0, .int .i64 a1] rfl (by (try simp only [List.map_toArray, List.map_cons, List.map_nil]); first | done | rfl | (simp only [List.length_drop, List.length_take]; rfl)) ?_; (with_reducible refine (laws_szVarS.calls k _ _ l0_0 a1 t113 _ ?side1 ?side2 A3.out).mono ?_); (case side1 => repeat (first | exact (Kd.C_below HR0_0.out HB.out) | (with_reducible refine Kd.C_alloc ?_ _) | (with_reducible refine Kd.C_drewN ?_ _) | (with_reducible refine Kd.C_drew ?_))); (case side2 => exact HC0_0.out); rintro e w19 ⟨rfl, hb⟩; refine ⟨_, rfl, ?_⟩; have n0_ := Aside0.mk (blk_below (g := gb112) (o := .cells #[.slice A0_0 l0_0.length c0_0, .slice A0_1 l0_1.length c0_1, .slice A0_2 l0_2.length c0_2] 63 (0, 0)) (by (with_reducible repeat (first | refine blk_drewN ?_ _ | refine blk_drew ?_ | refine blk_alloc ?_ _)); exact BK112.out) hb); have n1_ := Aside0.mk (below_step (by repeat (first | (with_reducible first | exact HB.out | apply below_alloc | apply pw_below_drewN | apply below_drew1 | refine below_set ?_ GE112.out) | exact HB.out)) hb); clear BK112; clear HB; have BK112 := n0_; have HB := n1_; clear n0_ n1_; (try clear hb); (try clear hb2); (try clear hk); (try clear hi); have hcz20_0 : w19.cell? ⟨gb112, 0, none⟩ = some (.slice A0_0 l0_0.length c0_0) := (blk_cell BK112.out 0).trans rfl; have hcz20_1 : w19.cell? ⟨gb112, 1, none⟩ = some (.slice A0_1 l0_1.length c0_1) := (blk_cell BK112.out 1).trans rfl; have hcz20_2 : w19.cell? ⟨gb112, 2, none⟩ = some (.slice A0_2 l0_2.length c0_2) := (blk_cell BK112.out 2).trans rfl; have hfz20_0 := blk_frozen BK112.out 0; have hfz20_1 := blk_frozen BK112.out 1; have hfz20_2 := blk_frozen BK112.out 2) | ((with_reducible refine gate_callee (f := 97) rfl ?_); refine goesL_ (some 14) rfl rfl Try.func97 (by kernel_rfl) rfl #[.slice A0_1 l0_1.length c0_1, .int .i64 t113] rfl (by (try simp only [List.map_toArray, List.map_cons, List.map_nil]); first | done | rfl | (simp only [List.length_drop, List.length_take]; rfl)) ?_; (with_reducible refine (laws_szNodeS.calls k _ _ l0_1 t113 t114 _ ?side1 ?side2 A8.out).mono ?_); (case side1 => repeat (first | exact (Kd.C_below HR0_1.out HB.out) | (with_reducible refine Kd.C_alloc ?_ _) | (with_reducible refine Kd.C_drewN ?_ _) | (with_reducible refine Kd.C_drew ?_))); (case side2 => exact HC0_1.out); rintro e w21 ⟨rfl, hb⟩; refine ⟨_, rfl, ?_⟩; have n0_ := Aside0.mk (blk_below (g := gb112) (o := .cells #[.slice A0_0 l0_0.length c0_0, .slice A0_1 l0_1.length c0_1, .slice A0_2 l0_2.length c0_2] 63 (0, 0)) (by (with_reducible repeat (first | refine blk_drewN ?_ _ | refine blk_drew ?_ | refine blk_alloc ?_ _)); exact BK112.out) hb); have n1_ := Aside0.mk (below_step (by repeat (first | (with_reducible first | exact HB.out | apply below_alloc | apply pw_below_drewN | apply below_drew1 | refine below_set ?_ GE112.out) | exact HB.out)) hb); clear BK112; clear HB; have BK112 := n0_; have HB := n1_; clear n0_ n1_; (try clear hb); (try clear hb2); (try clear hk); (try clear hi); have hcz22_0 : w21.cell? ⟨gb112, 0, none⟩ = some (.slice A0_0 l0_0.length c0_0) := (blk_cell BK112.out 0).trans rfl; have hcz22_1 : w21.cell? ⟨gb112, 1, none⟩ = some (.slice A0_1 l0_1.length c0_1) := (blk_cell BK112.out 1).trans rfl; have hcz22_2 : w21.cell? ⟨gb112, 2, none⟩ = some (.slice A0_2 l0_2.length c0_2) := (blk_cell BK112.out 2).trans rfl; have hfz22_0 := blk_frozen BK112.out 0; have hfz22_1 := blk_frozen BK112.out 1; have hfz22_2 := blk_frozen BK112.out 2) | ((with_reducible refine gate_callee (f := 98) rfl ?_); refine goesL_ (some 20) rfl rfl Try.func98 (by kernel_rfl) rfl #[.slice A0_2 l0_2.length c0_2, .int .i64 t114] rfl (by (try simp only [List.map_toArray, List.map_cons, List.map_nil]); first | done | rfl | (simp only [List.length_drop, List.length_take]; rfl)) ?_; (with_reducible refine (laws_szInt64S.calls _ _ l0_2 t114 t115 _ ?side1 ?side2 A15.out).mono ?_); (case side1 => repeat (first | exact (Kd.C_below HR0_2.out HB.out) | (with_reducible refine Kd.C_alloc ?_ _) | (with_reducible refine Kd.C_drewN ?_ _) | (with_reducible refine Kd.C_drew ?_))); (case side2 => exact HC0_2.out); rintro e w' ⟨rfl, ⟨nd, rfl⟩⟩; refine ⟨_, rfl, ?_⟩))
        go_ret
        exact ⟨by first | rfl | (simp [errW_none, errW_some] <;> rfl) | (simp [*, errW_none, errW_some] <;> rfl), by repeat (first | (with_reducible first | exact HB.out | apply below_alloc | apply pw_below_drewN | apply below_drew1 | refine below_set ?_ GE112.out) | exact HB.out)⟩
      · rw [if_neg c16] at H
        have c16b0 : decide (t115 < 0) = false := decide_eq_false c16
        clear c16
        obtain rfl := Option.some.inj H
        go_enter Try.func45, Try.ntmps45
        go_wp2_with (first | ((with_reducible refine gate_dst (N := 2) rfl ?_); refine box_event ?hg (N := 2) ?hd (cs := #[.slice A0_0 l0_0.length c0_0, .slice A0_1 l0_1.length c0_1, .slice A0_2 l0_2.length c0_2]) (t := 63) ?hr ?_; (case hd => rfl); (case hg => rfl); (case hr => first | (go_simp; done) | (go_simp; rfl)); intro gb112 hg w23 hbox hb; have n0_ := Aside0.mk (below_step (by repeat (first | (with_reducible first | exact HB.out | apply below_alloc | apply pw_below_drewN | apply below_drew1) | exact HB.out)) hb); have n1_ := Aside0.mk (hbox); have n2_ := Aside0.mk ((by rw [hg]; exact (below_size (by repeat (first | (with_reducible first | exact HB.out | apply below_alloc | apply pw_below_drewN | apply below_drew1) | exact HB.out))) : w.heap.size ≤ gb112)); have n3_ := Aside0.mk ((by rw [hg]; exact (below_size (by repeat (first | (with_reducible first | exact HB.out | apply below_alloc | apply pw_below_drewN | apply below_drew1) | exact HB.out))) : w.heap.size ≤ gb112)); clear HB; have HB := n0_; have BK112 := n1_; have GW112 := n2_; have GE112 := n3_; clear n0_ n1_ n2_ n3_; clear hb hbox hg; have hcz24_0 : w23.cell? ⟨gb112, 0, none⟩ = some (.slice A0_0 l0_0.length c0_0) := (blk_cell BK112.out 0).trans rfl; have hcz24_1 : w23.cell? ⟨gb112, 1, none⟩ = some (.slice A0_1 l0_1.length c0_1) := (blk_cell BK112.out 1).trans rfl; have hcz24_2 : w23.cell? ⟨gb112, 2, none⟩ = some (.slice A0_2 l0_2.length c0_2) := (blk_cell BK112.out 2).trans rfl; have hfz24_0 := blk_frozen BK112.out 0; have hfz24_1 := blk_frozen BK112.out 1; have hfz24_2 := blk_frozen BK112.out 2) | ((with_reducible refine gate_callee (f := 96) rfl ?_); refine goesL_ (some 8) rfl rfl Try.func96 (by kernel_rfl) rfl #[.slice A0_0 l0_0.length c0_0, .int .i64 a1] rfl (by (try simp only [List.map_toArray, List.map_cons, List.map_nil]); first | done | rfl | (simp only [List.length_drop, List.length_take]; rfl)) ?_; (with_reducible refine (laws_szVarS.calls k _ _ l0_0 a1 t113 _ ?side1 ?side2 A3.out).mono ?_); (case side1 => repeat (first | exact (Kd.C_below HR0_0.out HB.out) | (with_reducible refine Kd.C_alloc ?_ _) | (with_reducible refine Kd.C_drewN ?_ _) | (with_reducible refine Kd.C_drew ?_))); (case side2 => exact HC0_0.out); rintro e w25 ⟨rfl, hb⟩; refine ⟨_, rfl, ?_⟩; have n0_ := Aside0.mk (blk_below (g := gb112) (o := .cells #[.slice A0_0 l0_0.length c0_0, .slice A0_1 l0_1.length c0_1, .slice A0_2 l0_2.length c0_2] 63 (0, 0)) (by (with_reducible repeat (first | refine blk_drewN ?_ _ | refine blk_drew ?_ | refine blk_alloc ?_ _)); exact BK112.out) hb); have n1_ := Aside0.mk (below_step (by repeat (first | (with_reducible first | exact HB.out | apply below_alloc | apply pw_below_drewN | apply below_drew1 | refine below_set ?_ GE112.out) | exact HB.out)) hb); clear BK112; clear HB; have BK112 := n0_; have HB := n1_; clear n0_ n1_; (try clear hb); (try clear hb2); (try clear hk); (try clear hi); have hcz26_0 : w25.cell? ⟨gb112, 0, none⟩ = some (.slice A0_0 l0_0.length c0_0) := (blk_cell BK112.out 0).trans rfl; have hcz26_1 : w25.cell? ⟨gb112, 1, none⟩ = some (.slice A0_1 l0_1.length c0_1) := (blk_cell BK112.out 1).trans rfl; have hcz26_2 : w25.cell? ⟨gb112, 2, none⟩ = some (.slice A0_2 l0_2.length c0_2) := (blk_cell BK112.out 2).trans rfl; have hfz26_0 := blk_frozen BK112.out 0; have hfz26_1 := blk_frozen BK112.out 1; have hfz26_2 := blk_frozen BK112.out 2) | ((with_reducible refine gate_callee (f := 97) rfl ?_); refine goesL_ (some 14) rfl rfl Try.func97 (by kernel_rfl) rfl #[.slice A0_1 l0_1.length c0_1, .int .i64 t113] rfl (by (try simp only [List.map_toArray, List.map_cons, List.map_nil]); first | done | rfl | (simp only [List.length_drop, List.length_take]; rfl)) ?_; (with_reducible refine (laws_szNodeS.calls k _ _ l0_1 t113 t114 _ ?side1 ?side2 A8.out).mono ?_); (case side1 => repeat (first | exact (Kd.C_below HR0_1.out HB.out) | (with_reducible refine Kd.C_alloc ?_ _) | (with_reducible refine Kd.C_drewN ?_ _) | (with_reducible refine Kd.C_drew ?_))); (case side2 => exact HC0_1.out); rintro e w27 ⟨rfl, hb⟩; refine ⟨_, rfl, ?_⟩; have n0_ := Aside0.mk (blk_below (g := gb112) (o := .cells #[.slice A0_0 l0_0.length c0_0, .slice A0_1 l0_1.length c0_1, .slice A0_2 l0_2.length c0_2] 63 (0, 0)) (by (with_reducible repeat (first | refine blk_drewN ?_ _ | refine blk_drew ?_ | refine blk_alloc ?_ _)); exact BK112.out) hb); have n1_ := Aside0.mk (below_step (by repeat (first | (with_reducible first | exact HB.out | apply below_alloc | apply pw_below_drewN | apply below_drew1 | refine below_set ?_ GE112.out) | exact HB.out)) hb); clear BK112; clear HB; have BK112 := n0_; have HB := n1_; clear n0_ n1_; (try clear hb); (try clear hb2); (try clear hk); (try clear hi); have hcz28_0 : w27.cell? ⟨gb112, 0, none⟩ = some (.slice A0_0 l0_0.length c0_0) := (blk_cell BK112.out 0).trans rfl; have hcz28_1 : w27.cell? ⟨gb112, 1, none⟩ = some (.slice A0_1 l0_1.length c0_1) := (blk_cell BK112.out 1).trans rfl; have hcz28_2 : w27.cell? ⟨gb112, 2, none⟩ = some (.slice A0_2 l0_2.length c0_2) := (blk_cell BK112.out 2).trans rfl; have hfz28_0 := blk_frozen BK112.out 0; have hfz28_1 := blk_frozen BK112.out 1; have hfz28_2 := blk_frozen BK112.out 2) | ((with_reducible refine gate_callee (f := 98) rfl ?_); refine goesL_ (some 20) rfl rfl Try.func98 (by kernel_rfl) rfl #[.slice A0_2 l0_2.length c0_2, .int .i64 t114] rfl (by (try simp only [List.map_toArray, List.map_cons, List.map_nil]); first | done | rfl | (simp only [List.length_drop, List.length_take]; rfl)) ?_; (with_reducible refine (laws_szInt64S.calls _ _ l0_2 t114 t115 _ ?side1 ?side2 A15.out).mono ?_); (case side1 => repeat (first | exact (Kd.C_below HR0_2.out HB.out) | (with_reducible refine Kd.C_alloc ?_ _) | (with_reducible refine Kd.C_drewN ?_ _) | (with_reducible refine Kd.C_drew ?_))); (case side2 => exact HC0_2.out); rintro e w' ⟨rfl, ⟨nd, rfl⟩⟩; refine ⟨_, rfl, ?_⟩))
        go_ret
        exact ⟨by first | rfl | (simp [errW_none, errW_some] <;> rfl) | (simp [*, errW_none, errW_some] <;> rfl), by repeat (first | (with_reducible first | exact HB.out | apply below_alloc | apply pw_below_drewN | apply below_drew1 | refine below_set ?_ GE112.out) | exact HB.out)⟩

/-! ### laws_toInt64S: function 16 -/
def laws_toInt64S.l0 : Nat → List Int → List Int → Int → Option (List Int)
  | 0, _, _, _ => none
  | k + 1, x0, x3, x4 => if x4 < (x0.length : Int) then (if 0 ≤ x4 then (if x4 < (x3.length : Int) then (laws_toInt64S.l0 k x0 (x3.set (x4 : Int).toNat (rd x0 x4)) (wrap64 (x4 + 1))) else (none)) else (none)) else (some x3)
def laws_toInt64S.f (k : Nat) (l0 : List Int) : Option (List Int) := if 0 ≤ (l0.length : Int) then (if ((l0.length : Int) : Int).toNat ≤ 35184372088832 then (laws_toInt64S.l0 k l0 (List.replicate ((l0.length : Int) : Int).toNat 0) 0) else (none)) else (none)
theorem laws_toInt64S.mono_l : ∀ k, (∀ y0 y1 y2, LeO (laws_toInt64S.l0 k y0 y1 y2) (laws_toInt64S.l0 (k + 1) y0 y1 y2))
  | 0 => fun _ _ _ r h => by simp [laws_toInt64S.l0] at h
  | k + 1 => by
    have ih0 := laws_toInt64S.mono_l k
    · intro y0 y1 y2
      unfold laws_toInt64S.l0
      repeat' first
      | (with_reducible exact ih0 _ _ _)
      | (with_reducible exact LeO.refl _)
      | (with_reducible exact LeO.none _)
      | (with_reducible refine LeO.ite ?_ ?_)
      | (with_reducible refine LeO.bind ?_ (fun _ => ?_))
      | exact ih0 _ _ _
      | exact LeO.none _
      | refine LeO.ite ?_ ?_
      | refine LeO.bind ?_ (fun _ => ?_)
theorem laws_toInt64S.mono : ∀ a0 k, LeO (laws_toInt64S.f k a0) (laws_toInt64S.f (k + 1) a0) := by
  intro a0 k
  have ih0 := laws_toInt64S.mono_l k
  unfold laws_toInt64S.f
  repeat' first
      | (with_reducible exact ih0 _ _ _)
      | (with_reducible exact LeO.refl _)
      | (with_reducible exact LeO.none _)
      | (with_reducible refine LeO.ite ?_ ?_)
      | (with_reducible refine LeO.bind ?_ (fun _ => ?_))
      | exact ih0 _ _ _
      | exact LeO.none _
      | refine LeO.ite ?_ ?_
      | refine LeO.bind ?_ (fun _ => ?_)
set_option maxHeartbeats 8000000 in
set_option maxRecDepth 100000 in
theorem laws_toInt64S.calls (k : Nat) (A0 : Option Addr) (c0 : Nat) (l0 : List Int) (r : List Int) (w : World) (hr0 : Kd.C (Kd.int .i64) w A0 l0.length l0) (hc0 : l0.length ≤ c0) (h : laws_toInt64S.f k l0 = some r) :
    Calls Try.prog 16 #[.slice A0 l0.length c0] w fun e w' => ∃ v0_ : Value, e = .returned (v0_) ∧ Kd.R (Kd.int .i64) 2 w' w.heap.size (fun _ => True) v0_ r ∧ Below w.heap.size w w' := by
  have HR0 := Aside0.mk hr0
  have HC0 := Aside0.mk hc0
  clear hr0 hc0
  have HB := Aside0.mk (Below.refl w.heap.size w)
  have H : (if 0 ≤ (l0.length : Int) then (if ((l0.length : Int) : Int).toNat ≤ 35184372088832 then (laws_toInt64S.l0 k l0 (List.replicate ((l0.length : Int) : Int).toNat 0) 0) else (none)) else (none)) = some r := h
  clear h
  by_cases c2 : 0 ≤ (l0.length : Int)
  · rw [if_pos c2] at H
    have c2b0 := eq_true c2
    have c2b1 : decide (0 ≤ (l0.length : Int)) = true := decide_eq_true c2
    clear c2
    by_cases c3 : ((l0.length : Int) : Int).toNat ≤ 35184372088832
    · rw [if_pos c3] at H
      have c3b0 := eq_true c3
      have c3b1 : decide (((l0.length : Int) : Int).toNat ≤ 35184372088832) = true := decide_eq_true c3
      clear c3
      obtain ⟨y116, hy116⟩ : ∃ y_ : List Int, y_ = (List.replicate ((l0.length : Int) : Int).toNat 0) := ⟨_, rfl⟩
      replace H : (laws_toInt64S.l0 k l0 y116 0) = some r := by first | (rw [hy116]; with_reducible exact H) | (have H2_ := (Option.bind_some _ _).symm.trans H; rw [hy116]; with_reducible exact H2_) | (have H2_ := (Option.bind_some _ _).symm.trans H; with_reducible exact H2_) | with_reducible exact H | (rw [hy116]; exact H) | exact H
      have Ny116 := Aside0.mk hy116
      clear hy116
      have H' := Aside0.mk H
      clear H
      go_enter Try.func16, Try.ntmps16
      go_wp2_with (first | ((with_reducible refine gate_dst (N := 7) rfl ?_); refine Kd.R_make (Kd.int .i64) _ 2 rfl (N := 7) rfl 22 _ _ rfl (l0.length : Int) rfl rfl Try.underlying22 (.int .i64 0) 8 info2 rfl (by decide) (by omega) 0 (ok := fun _ => True) (okp := fun _ => True) rfl (fun _ hk => hk) trivial (of_decide_eq_true (by first | (with_reducible assumption) | assumption)) (Nat.le_trans (Nat.mul_le_mul_right _ (of_decide_eq_true (by first | (with_reducible assumption) | assumption) : (l0.length : Int).toNat ≤ 35184372088832)) (by omega)) (Below.refl _ _) (Nat.le_refl _) ?_; intro v117 w4 ho5 hb hg_ hnew_; clear hg_ hnew_; (first | rw [← Ny116.out] at ho5 | (simp only [Int.reduceToNat] at ho5; rw [← Ny116.out] at ho5)); have n0_ := Aside0.mk (Kd.R_lower ho5 (below_size (by repeat (first | (with_reducible first | exact HB.out | apply below_alloc | apply pw_below_drewN | apply below_drew1) | exact HB.out)))); have n1_ := Aside0.mk (below_step (by repeat (first | (with_reducible first | exact HB.out | apply below_alloc | apply pw_below_drewN | apply below_drew1) | exact HB.out)) hb); clear HB; have HO118 := n0_; have HB := n1_; clear n0_ n1_; clear hb ho5))
      go_loopg [4] k (fun kq v4 w' => ∃ (x3_1 : List Int) (x4_1 : Int), v4 = .int .i64 x4_1 ∧ Aside0 (laws_toInt64S.l0 kq l0 x3_1 x4_1 = some r) ∧ Aside0 (kq ≤ k) ∧ Aside0 (Kd.R (Kd.int .i64) 2 w' w.heap.size (fun _ => True) v117 x3_1) ∧ Aside0 (Below w.heap.size w w'))
      case atStart => exact ⟨(y116), (0), (by first | rfl | (simp; done) | (simp [*]; done)), H', ⟨Nat.le_refl _⟩, ⟨by (with_reducible repeat (first | apply Kd.R_alloc | apply Kd.R_drewN | apply Kd.R_drew)); exact HO118.out⟩, ⟨by repeat (first | (with_reducible first | exact HB.out | apply below_alloc | apply pw_below_drewN | apply below_drew1) | exact HB.out)⟩⟩
      case round =>
        clear H'
        try clear c1
        try clear c2
        try clear c2b0
        try clear c2b1
        try clear p2
        try clear c3
        try clear c3b0
        try clear c3b1
        obtain ⟨x3_1, x4_1, rfl, HA, HK1, HO_3, HB⟩ := hrel
        cases gk with
        | zero => exact absurd HA.out (by simp [laws_toInt64S.l0])
        | succ k1 =>
          have H := HA.out
          clear HA
          simp only [laws_toInt64S.l0] at H
          by_cases c6 : x4_1 < (l0.length : Int)
          · rw [if_pos c6] at H
            have c6b0 : decide (x4_1 < (l0.length : Int)) = true := decide_eq_true c6
            clear c6
            by_cases c7 : 0 ≤ x4_1
            · rw [if_pos c7] at H
              have c7b0 : decide (0 ≤ x4_1) = true := decide_eq_true c7
              clear c7
              by_cases c8 : x4_1 < (x3_1.length : Int)
              · rw [if_pos c8] at H
                have c8b0 : decide (x4_1 < (x3_1.length : Int)) = true := decide_eq_true c8
                clear c8
                obtain ⟨y120, hy120⟩ : ∃ y_ : List Int, y_ = (x3_1.set (x4_1 : Int).toNat (rd l0 x4_1)) := ⟨_, rfl⟩
                replace H : (laws_toInt64S.l0 k1 l0 y120 (wrap64 (x4_1 + 1))) = some r := by first | (rw [hy120]; with_reducible exact H) | (have H2_ := (Option.bind_some _ _).symm.trans H; rw [hy120]; with_reducible exact H2_) | (have H2_ := (Option.bind_some _ _).symm.trans H; with_reducible exact H2_) | with_reducible exact H | (rw [hy120]; exact H) | exact H
                have Ny120 := Aside0.mk hy120
                clear hy120
                have H' := Aside0.mk H
                clear H
                have p119 : 0 ≤ (x4_1 : Int) := of_decide_eq_true (by first | (with_reducible assumption) | assumption)
                have q119 : x4_1 < (l0.length : Int) := of_decide_eq_true (by first | (with_reducible assumption) | assumption)
                obtain ⟨ad119, e119, hx119_0⟩ := Kd.at_int HR0.out x4_1 p119 q119
                cases e119
                replace hx119_0 := (HB.out.cell (World.block_lt_of_cell? w _ hx119_0)).trans hx119_0
                replace p119 := eq_true p119
                replace q119 := eq_true q119
                have p9 : 0 ≤ (x4_1 : Int) := of_decide_eq_true (by first | (with_reducible assumption) | assumption)
                have q9 : (x4_1 : Int) < ((x3_1.length : Int) : Int) := of_decide_eq_true (by first | (with_reducible assumption) | assumption)
                obtain ⟨go9, co9, eo9, gb9, gl9, cl9, HG9⟩ := Kd.R_form HO_3.out (by omega)
                (first | cases eo9 | (injection eo9 with ea_ en_ ec_; (first | subst ea_ | (injection ea_ with ea_; subst ea_)); subst ec_; clear en_))
                have GB9 := Aside0.mk gb9
                have GG9 := Aside0.mk HG9
                clear gb9 gl9 HG9
                obtain ⟨hx9_0, hf9_0⟩ := Kd.R_celln 0 HO_3.out (x4_1 : Int) p9 q9
                replace p9 := eq_true p9
                replace q9 := eq_true q9
                have HP10 := Kd.R_putg HO_3.out (x4_1 : Int) (rd l0 x4_1)
                go_wp2_with (first | ((with_reducible refine gate_store (t := 2) (p := 20) rfl ?_); refine store_event (t := 2) (p := 20) (v := ?vo_w11) (w1 := (wr.setCell ⟨go9, (x4_1 : Int).toNat, none⟩ (.int .i64 (rd l0 x4_1)))) ?hg ?ho ?hn ?hr ?_; (case ho => rfl); (case hg => rfl); (case hn => rfl); (case hr => first | (go_simp; done) | (go_simp; rfl)); intro w11 hw; have hg : wr.grownBy w11 (some go9) := (by rw [hw]; exact HP10.2); have hp_ : Kd.R (Kd.int .i64) 2 w11 w.heap.size (fun _ => True) (.slice (some ⟨go9, 0, none⟩) x3_1.length co9) y120 := (by rw [hw, Ny120.out]; exact HP10.1); clear HP10; have n0_ := Aside0.mk (hp_); have n1_ := Aside0.mk ((by rw [hw]; exact below_set (HB.out) GB9.out : Below w.heap.size w w11)); clear HO_3; clear HB; have HO_3 := n0_; have HB := n1_; clear n0_ n1_; clear hg hw hp_))
                go_roundg k1
                case measure => have := HK1.out; omega
                case rel => exact ⟨(y120), (wrap64 (x4_1 + 1)), (by first | rfl | (simp; done) | (simp [*]; done)), H', ⟨by have := HK1.out; omega⟩, ⟨by (with_reducible repeat (first | apply Kd.R_alloc | apply Kd.R_drewN | apply Kd.R_drew)); exact HO_3.out⟩, ⟨by repeat (first | (with_reducible first | exact HB.out | apply below_alloc | apply pw_below_drewN | apply below_drew1) | exact HB.out)⟩⟩
              · rw [if_neg c8] at H
                exact absurd H (by simp)
            · rw [if_neg c7] at H
              exact absurd H (by simp)
          · rw [if_neg c6] at H
            have c6b0 : decide (x4_1 < (l0.length : Int)) = false := decide_eq_false c6
            clear c6
            obtain rfl := Option.some.inj H
            go_wp2
            go_ret
            exact ⟨_, by first | rfl | (simp [errW_none, errW_some] <;> rfl) | (simp [*, errW_none, errW_some] <;> rfl), by (with_reducible repeat (first | apply Kd.R_alloc | apply Kd.R_drewN | apply Kd.R_drew)); exact HO_3.out, by repeat (first | (with_reducible first | exact HB.out | apply below_alloc | apply pw_below_drewN | apply below_drew1) | exact HB.out)⟩
    · rw [if_neg c3] at H
      exact absurd H (by simp)
  · rw [if_neg c2] at H
    exact absurd H (by simp)

/-! ### laws_toVar: function 138 -/
def laws_toVar.f (a0_0 : ByteArray) (a0_1 : Int) (a0_2 : Int) (a0_3 : Int) : Option (ByteArray × Int × Int × Int) := some (a0_0, a0_1, a0_2, a0_3)
set_option maxHeartbeats 8000000 in
set_option maxRecDepth 100000 in
theorem laws_toVar.calls (a0_0 : ByteArray) (a0_1 : Int) (a0_2 : Int) (a0_3 : Int) (r1 : ByteArray) (r2 : Int) (r3 : Int) (r4 : Int) (w : World) (h : laws_toVar.f a0_0 a0_1 a0_2 a0_3 = some (r1, r2, r3, r4)) :
    Calls Try.prog 138 #[.agg #[.string a0_0, .int .i64 a0_1, .int .i64 a0_2, .int .i64 a0_3]] w fun e w' => e = .returned (.agg #[.string r1, .int .i64 r2, .int .i64 r3, .int .i64 r4]) ∧ Below w.heap.size w w' := by
  have hu148 := Try.underlying148
  have hu122 := Try.underlying122
  have HB := Aside0.mk (Below.refl w.heap.size w)
  have H : (some (a0_0, a0_1, a0_2, a0_3)) = some (r1, r2, r3, r4) := h
  clear h
  simp only [Option.some.injEq, Prod.mk.injEq] at H
  obtain ⟨rfl, rfl, rfl, rfl⟩ := H
  go_enter Try.func138, Try.ntmps138
  go_wp2_with (first | ((with_reducible refine gate_dst (N := 1) rfl ?_); refine box_event ?hg (N := 1) ?hd (cs := #[.string a0_0, .int .i64 a0_1, .int .i64 a0_2, .int .i64 a0_3]) (t := 148) ?hr ?_; (case hd => rfl); (case hg => rfl); (case hr => first | (go_simp; done) | (go_simp; rfl)); intro gb121 hg w2 hbox hb; have n0_ := Aside0.mk (below_step (by repeat (first | (with_reducible first | exact HB.out | apply below_alloc | apply pw_below_drewN | apply below_drew1) | exact HB.out)) hb); have n1_ := Aside0.mk (hbox); have n2_ := Aside0.mk ((by rw [hg]; exact (below_size (by repeat (first | (with_reducible first | exact HB.out | apply below_alloc | apply pw_below_drewN | apply below_drew1) | exact HB.out))) : w.heap.size ≤ gb121)); have n3_ := Aside0.mk ((by rw [hg]; exact (below_size (by repeat (first | (with_reducible first | exact HB.out | apply below_alloc | apply pw_below_drewN | apply below_drew1) | exact HB.out))) : w.heap.size ≤ gb121)); clear HB; have HB := n0_; have BK121 := n1_; have GW121 := n2_; have GE121 := n3_; clear n0_ n1_ n2_ n3_; clear hb hbox hg) | ((with_reducible refine gate_dst (N := 2) rfl ?_); refine box_event ?hg (N := 2) ?hd (cs := #[.string (⟨#[]⟩ : ByteArray), .int .i64 0, .int .i64 0, .int .i64 0]) (t := 122) ?hr ?_; (case hd => rfl); (case hg => rfl); (case hr => first | (go_simp; done) | (go_simp; rfl)); intro gb122 hg w3 hbox hb; have n0_ := Aside0.mk (blk_below (g := gb121) (o := .cells #[.string a0_0, .int .i64 a0_1, .int .i64 a0_2, .int .i64 a0_3] 148 (0, 0)) (by (with_reducible repeat (first | refine blk_drewN ?_ _ | refine blk_drew ?_ | refine blk_alloc ?_ _)); exact BK121.out) hb); have n1_ := Aside0.mk (below_step (by repeat (first | (with_reducible first | exact HB.out | apply below_alloc | apply pw_below_drewN | apply below_drew1 | refine below_set ?_ GE121.out) | exact HB.out)) hb); have n2_ := Aside0.mk (hbox); have n3_ := Aside0.mk ((by rw [hg]; exact (below_size (by repeat (first | (with_reducible first | exact HB.out | apply below_alloc | apply pw_below_drewN | apply below_drew1 | refine below_set ?_ GE121.out) | exact HB.out))) : w.heap.size ≤ gb122)); have n4_ := Aside0.mk ((by rw [hg]; exact (below_size (by repeat (first | (with_reducible first | exact HB.out | apply below_alloc | apply pw_below_drewN | apply below_drew1 | refine below_set ?_ GE121.out) | exact HB.out))) : w.heap.size ≤ gb122)); have n5_ := Aside0.mk ((by rw [hg]; exact Nat.ne_of_lt (blk_lt (g := gb121) (o := .cells #[.string a0_0, .int .i64 a0_1, .int .i64 a0_2, .int .i64 a0_3] 148 (0, 0)) (by (with_reducible repeat (first | refine blk_drewN ?_ _ | refine blk_drew ?_ | refine blk_alloc ?_ _)); exact BK121.out)) : gb121 ≠ gb122)); have n6_ := Aside0.mk ((by rw [hg]; exact Nat.ne_of_gt (blk_lt (g := gb121) (o := .cells #[.string a0_0, .int .i64 a0_1, .int .i64 a0_2, .int .i64 a0_3] 148 (0, 0)) (by (with_reducible repeat (first | refine blk_drewN ?_ _ | refine blk_drew ?_ | refine blk_alloc ?_ _)); exact BK121.out)) : gb122 ≠ gb121)); clear BK121; clear HB; have BK121 := n0_; have HB := n1_; have BK122 := n2_; have GW122 := n3_; have GE122 := n4_; have NB121_122 := n5_; have NB122_121 := n6_; clear n0_ n1_ n2_ n3_ n4_ n5_ n6_; clear hb hbox hg) | ((with_reducible refine gate_dst (N := 3) rfl ?_); refine box_event ?hg (N := 3) ?hd (cs := #[.string (⟨#[]⟩ : ByteArray), .int .i64 0, .int .i64 0, .int .i64 0]) (t := 122) ?hr ?_; (case hd => rfl); (case hg => rfl); (case hr => first | (go_simp; done) | (go_simp; rfl)); intro gb123 hg w4 hbox hb; have n0_ := Aside0.mk (blk_below (g := gb121) (o := .cells #[.string a0_0, .int .i64 a0_1, .int .i64 a0_2, .int .i64 a0_3] 148 (0, 0)) (by (with_reducible repeat (first | refine blk_drewN ?_ _ | refine blk_drew ?_ | refine blk_alloc ?_ _)); exact BK121.out) hb); have n1_ := Aside0.mk (blk_below (g := gb122) (o := .cells #[.string (⟨#[]⟩ : ByteArray), .int .i64 0, .int .i64 0, .int .i64 0] 122 (0, 0)) (by (with_reducible repeat (first | refine blk_drewN ?_ _ | refine blk_drew ?_ | refine blk_alloc ?_ _)); exact BK122.out) hb); have n2_ := Aside0.mk (below_step (by repeat (first | (with_reducible first | exact HB.out | apply below_alloc | apply pw_below_drewN | apply below_drew1 | refine below_set ?_ GE121.out | refine below_set ?_ GE122.out) | exact HB.out)) hb); have n3_ := Aside0.mk (hbox); have n4_ := Aside0.mk ((by rw [hg]; exact (below_size (by repeat (first | (with_reducible first | exact HB.out | apply below_alloc | apply pw_below_drewN | apply below_drew1 | refine below_set ?_ GE121.out | refine below_set ?_ GE122.out) | exact HB.out))) : w.heap.size ≤ gb123)); have n5_ := Aside0.mk ((by rw [hg]; exact (below_size (by repeat (first | (with_reducible first | exact HB.out | apply below_alloc | apply pw_below_drewN | apply below_drew1 | refine below_set ?_ GE121.out | refine below_set ?_ GE122.out) | exact HB.out))) : w.heap.size ≤ gb123)); have n6_ := Aside0.mk ((by rw [hg]; exact Nat.ne_of_lt (blk_lt (g := gb121) (o := .cells #[.string a0_0, .int .i64 a0_1, .int .i64 a0_2, .int .i64 a0_3] 148 (0, 0)) (by (with_reducible repeat (first | refine blk_drewN ?_ _ | refine blk_drew ?_ | refine blk_alloc ?_ _)); exact BK121.out)) : gb121 ≠ gb123)); have n7_ := Aside0.mk ((by rw [hg]; exact Nat.ne_of_gt (blk_lt (g := gb121) (o := .cells #[.string a0_0, .int .i64 a0_1, .int .i64 a0_2, .int .i64 a0_3] 148 (0, 0)) (by (with_reducible repeat (first | refine blk_drewN ?_ _ | refine blk_drew ?_ | refine blk_alloc ?_ _)); exact BK121.out)) : gb123 ≠ gb121)); have n8_ := Aside0.mk ((by rw [hg]; exact Nat.ne_of_lt (blk_lt (g := gb122) (o := .cells #[.string (⟨#[]⟩ : ByteArray), .int .i64 0, .int .i64 0, .int .i64 0] 122 (0, 0)) (by (with_reducible repeat (first | refine blk_drewN ?_ _ | refine blk_drew ?_ | refine blk_alloc ?_ _)); exact BK122.out)) : gb122 ≠ gb123)); have n9_ := Aside0.mk ((by rw [hg]; exact Nat.ne_of_gt (blk_lt (g := gb122) (o := .cells #[.string (⟨#[]⟩ : ByteArray), .int .i64 0, .int .i64 0, .int .i64 0] 122 (0, 0)) (by (with_reducible repeat (first | refine blk_drewN ?_ _ | refine blk_drew ?_ | refine blk_alloc ?_ _)); exact BK122.out)) : gb123 ≠ gb122)); clear BK121; clear BK122; clear HB; have BK121 := n0_; have BK122 := n1_; have HB := n2_; have BK123 := n3_; have GW123 := n4_; have GE123 := n5_; have NB121_123 := n6_; have NB123_121 := n7_; have NB122_123 := n8_; have NB123_122 := n9_; clear n0_ n1_ n2_ n3_ n4_ n5_ n6_ n7_ n8_ n9_; clear hb hbox hg; have hnb5 := NB121_122.out; have hnc5 := NB122_121.out; have hnb6 := NB121_123.out; have hnc6 := NB123_121.out; have hcz7_0 : w4.cell? ⟨gb121, 0, none⟩ = some (.string a0_0) := (blk_cell BK121.out 0).trans rfl; have hcz7_1 : w4.cell? ⟨gb121, 1, none⟩ = some (.int .i64 a0_1) := (blk_cell BK121.out 1).trans rfl; have hcz7_2 : w4.cell? ⟨gb121, 2, none⟩ = some (.int .i64 a0_2) := (blk_cell BK121.out 2).trans rfl; have hcz7_3 : w4.cell? ⟨gb121, 3, none⟩ = some (.int .i64 a0_3) := (blk_cell BK121.out 3).trans rfl; have hfz7_0 := blk_frozen BK121.out 0; have hfz7_1 := blk_frozen BK121.out 1; have hfz7_2 := blk_frozen BK121.out 2; have hfz7_3 := blk_frozen BK121.out 3; have hnb8 := NB123_122.out; have hnc8 := NB122_123.out; have hcz9_0 : w4.cell? ⟨gb123, 0, none⟩ = some (.string (⟨#[]⟩ : ByteArray)) := (blk_cell BK123.out 0).trans rfl; have hcz9_1 : w4.cell? ⟨gb123, 1, none⟩ = some (.int .i64 0) := (blk_cell BK123.out 1).trans rfl; have hcz9_2 : w4.cell? ⟨gb123, 2, none⟩ = some (.int .i64 0) := (blk_cell BK123.out 2).trans rfl; have hcz9_3 : w4.cell? ⟨gb123, 3, none⟩ = some (.int .i64 0) := (blk_cell BK123.out 3).trans rfl; have hfz9_0 := blk_frozen BK123.out 0; have hfz9_1 := blk_frozen BK123.out 1; have hfz9_2 := blk_frozen BK123.out 2; have hfz9_3 := blk_frozen BK123.out 3; have hcz10_0 : w4.cell? ⟨gb122, 0, none⟩ = some (.string (⟨#[]⟩ : ByteArray)) := (blk_cell BK122.out 0).trans rfl; have hcz10_1 : w4.cell? ⟨gb122, 1, none⟩ = some (.int .i64 0) := (blk_cell BK122.out 1).trans rfl; have hcz10_2 : w4.cell? ⟨gb122, 2, none⟩ = some (.int .i64 0) := (blk_cell BK122.out 2).trans rfl; have hcz10_3 : w4.cell? ⟨gb122, 3, none⟩ = some (.int .i64 0) := (blk_cell BK122.out 3).trans rfl; have hfz10_0 := blk_frozen BK122.out 0; have hfz10_1 := blk_frozen BK122.out 1; have hfz10_2 := blk_frozen BK122.out 2; have hfz10_3 := blk_frozen BK122.out 3))
  refine bodyPost_ret (results_cell_row rfl _ _ gb122 122 #[.string a0_0, .int .i64 a0_1, .int .i64 a0_2, .int .i64 a0_3] (0, 0) _ rfl (by (with_reducible repeat (first | refine blk_drewN ?_ _ | refine blk_drew ?_ | refine blk_alloc ?_ _)); refine blk_put (cs := #[.string a0_0, .int .i64 a0_1, .int .i64 a0_2, .int .i64 0]) ?_ 3 _ rfl; (with_reducible repeat (first | refine blk_drewN ?_ _ | refine blk_drew ?_ | refine blk_alloc ?_ _)); refine blk_put (cs := #[.string a0_0, .int .i64 a0_1, .int .i64 0, .int .i64 0]) ?_ 2 _ rfl; (with_reducible repeat (first | refine blk_drewN ?_ _ | refine blk_drew ?_ | refine blk_alloc ?_ _)); refine blk_put (cs := #[.string a0_0, .int .i64 0, .int .i64 0, .int .i64 0]) ?_ 1 _ rfl; (with_reducible repeat (first | refine blk_drewN ?_ _ | refine blk_drew ?_ | refine blk_alloc ?_ _)); refine blk_put (cs := #[.string (⟨#[]⟩ : ByteArray), .int .i64 0, .int .i64 0, .int .i64 0]) ?_ 0 _ rfl; (with_reducible repeat (first | refine blk_drewN ?_ _ | refine blk_drew ?_ | refine blk_alloc ?_ _)); refine blk_far ?_ NB122_123.out _; (with_reducible repeat (first | refine blk_drewN ?_ _ | refine blk_drew ?_ | refine blk_alloc ?_ _)); refine blk_far ?_ NB122_123.out _; (with_reducible repeat (first | refine blk_drewN ?_ _ | refine blk_drew ?_ | refine blk_alloc ?_ _)); refine blk_far ?_ NB122_123.out _; (with_reducible repeat (first | refine blk_drewN ?_ _ | refine blk_drew ?_ | refine blk_alloc ?_ _)); refine blk_far ?_ NB122_123.out _; (with_reducible repeat (first | refine blk_drewN ?_ _ | refine blk_drew ?_ | refine blk_alloc ?_ _)); exact BK122.out) Try.underlying122 rfl (by kernel_rfl)) rfl ?_
  exact ⟨by first | rfl | (simp [errW_none, errW_some] <;> rfl) | (simp [*, errW_none, errW_some] <;> rfl), by repeat (first | (with_reducible first | exact HB.out | apply below_alloc | apply pw_below_drewN | apply below_drew1 | refine below_set ?_ GE121.out | refine below_set ?_ GE122.out | refine below_set ?_ GE123.out) | exact HB.out)⟩

/-! ### laws_toVarS: function 100 -/
def laws_toVarS.l0 : Nat → List (S148) → List (S122) → Int → Option ((List (S122)))
  | 0, _, _, _ => none
  | k + 1, x0, x3, x4 => if x4 < (x0.length : Int) then (if 0 ≤ x4 then ((laws_toVar.f ((rd_T148 x0 x4).f0) ((rd_T148 x0 x4).f1) ((rd_T148 x0 x4).f2) ((rd_T148 x0 x4).f3)).bind fun bt128 => (if x4 < (x3.length : Int) then (laws_toVarS.l0 k x0 (x3.set (x4 : Int).toNat (⟨bt128.1, bt128.2.1, bt128.2.2.1, bt128.2.2.2⟩ : S122)) (wrap64 (x4 + 1))) else (none))) else (none)) else (some x3)
def laws_toVarS.f (k : Nat) (l0 : List (S148)) : Option ((List (S122))) := if 0 ≤ (l0.length : Int) then (if ((l0.length : Int) : Int).toNat ≤ 7036874417766 then (laws_toVarS.l0 k l0 (List.replicate ((l0.length : Int) : Int).toNat z122) 0) else (none)) else (none)
theorem laws_toVarS.mono_l : ∀ k, (∀ y0 y1 y2, LeO (laws_toVarS.l0 k y0 y1 y2) (laws_toVarS.l0 (k + 1) y0 y1 y2))
  | 0 => fun _ _ _ r h => by simp [laws_toVarS.l0] at h
  | k + 1 => by
    have ih0 := laws_toVarS.mono_l k
    · intro y0 y1 y2
      unfold laws_toVarS.l0
      repeat' first
      | (with_reducible exact ih0 _ _ _)
      | (with_reducible exact LeO.refl _)
      | (with_reducible exact LeO.none _)
      | (with_reducible refine LeO.ite ?_ ?_)
      | (with_reducible refine LeO.bind ?_ (fun _ => ?_))
      | exact ih0 _ _ _
      | exact LeO.none _
      | refine LeO.ite ?_ ?_
      | refine LeO.bind ?_ (fun _ => ?_)
theorem laws_toVarS.mono : ∀ a0 k, LeO (laws_toVarS.f k a0) (laws_toVarS.f (k + 1) a0) := by
  intro a0 k
  have ih0 := laws_toVarS.mono_l k
  unfold laws_toVarS.f
  repeat' first
      | (with_reducible exact ih0 _ _ _)
      | (with_reducible exact LeO.refl _)
      | (with_reducible exact LeO.none _)
      | (with_reducible refine LeO.ite ?_ ?_)
      | (with_reducible refine LeO.bind ?_ (fun _ => ?_))
      | exact ih0 _ _ _
      | exact LeO.none _
      | refine LeO.ite ?_ ?_
      | refine LeO.bind ?_ (fun _ => ?_)
set_option maxHeartbeats 8000000 in
set_option maxRecDepth 100000 in
theorem laws_toVarS.calls (k : Nat) (A0 : Option Addr) (c0 : Nat) (l0 : List (S148)) (r : List (S122)) (w : World) (hr0 : Kd.C k148 w A0 l0.length l0) (hc0 : l0.length ≤ c0) (h : laws_toVarS.f k l0 = some r) :
    Calls Try.prog 100 #[.slice A0 l0.length c0] w fun e w' => ∃ v0_ : Value, e = .returned (v0_) ∧ Kd.R k122 122 w' w.heap.size (fun _ => True) v0_ r ∧ Below w.heap.size w w' := by
  have hu148 := Try.underlying148
  have hu122 := Try.underlying122
  have HR0 := Aside0.mk hr0
  have HC0 := Aside0.mk hc0
  clear hr0 hc0
  have HB := Aside0.mk (Below.refl w.heap.size w)
  have H : (if 0 ≤ (l0.length : Int) then (if ((l0.length : Int) : Int).toNat ≤ 7036874417766 then (laws_toVarS.l0 k l0 (List.replicate ((l0.length : Int) : Int).toNat z122) 0) else (none)) else (none)) = some r := h
  clear h
  by_cases c2 : 0 ≤ (l0.length : Int)
  · rw [if_pos c2] at H
    have c2b0 := eq_true c2
    have c2b1 : decide (0 ≤ (l0.length : Int)) = true := decide_eq_true c2
    clear c2
    by_cases c3 : ((l0.length : Int) : Int).toNat ≤ 7036874417766
    · rw [if_pos c3] at H
      have c3b0 := eq_true c3
      have c3b1 : decide (((l0.length : Int) : Int).toNat ≤ 7036874417766) = true := decide_eq_true c3
      clear c3
      obtain ⟨y124, hy124⟩ : ∃ y_ : List (S122), y_ = (List.replicate ((l0.length : Int) : Int).toNat z122) := ⟨_, rfl⟩
      replace H : (laws_toVarS.l0 k l0 y124 0) = some r := by first | (rw [hy124]; with_reducible exact H) | (have H2_ := (Option.bind_some _ _).symm.trans H; rw [hy124]; with_reducible exact H2_) | (have H2_ := (Option.bind_some _ _).symm.trans H; with_reducible exact H2_) | with_reducible exact H | (rw [hy124]; exact H) | exact H
      have Ny124 := Aside0.mk hy124
      clear hy124
      have H' := Aside0.mk H
      clear H
      go_enter Try.func100, Try.ntmps100
      go_wp2_with (first | ((with_reducible refine gate_dst (N := 7) rfl ?_); refine Kd.R_make k122 _ 122 rfl (N := 7) rfl 66 _ _ rfl (l0.length : Int) rfl rfl Try.underlying66 (.agg #[(.string ⟨#[]⟩), (.int .i64 0), (.int .i64 0), (.int .i64 0)]) 40 info122 rfl (by decide) (by omega) z122 (ok := fun _ => True) (okp := fun _ => True) (k122_mkM _ _ _ z122 ) (fun _ hk => hk) trivial (of_decide_eq_true (by first | (with_reducible assumption) | assumption)) (Nat.le_trans (Nat.mul_le_mul_right _ (of_decide_eq_true (by first | (with_reducible assumption) | assumption) : (l0.length : Int).toNat ≤ 7036874417766)) (by omega)) (Below.refl _ _) (Nat.le_refl _) ?_; intro v125 w4 ho5 hb hg_ hnew_; clear hg_ hnew_; (first | rw [← Ny124.out] at ho5 | (simp only [Int.reduceToNat] at ho5; rw [← Ny124.out] at ho5)); have n0_ := Aside0.mk (Kd.R_lower ho5 (below_size (by repeat (first | (with_reducible first | exact HB.out | apply below_alloc | apply pw_below_drewN | apply below_drew1) | exact HB.out)))); have n1_ := Aside0.mk (below_step (by repeat (first | (with_reducible first | exact HB.out | apply below_alloc | apply pw_below_drewN | apply below_drew1) | exact HB.out)) hb); clear HB; have HO126 := n0_; have HB := n1_; clear n0_ n1_; clear hb ho5))
      go_loopg [4] k (fun kq v4 w' => ∃ (x3_1 : List (S122)) (x4_1 : Int), v4 = .int .i64 x4_1 ∧ Aside0 (laws_toVarS.l0 kq l0 x3_1 x4_1 = some r) ∧ Aside0 (kq ≤ k) ∧ Aside0 (Kd.R k122 122 w' w.heap.size (fun _ => True) v125 x3_1) ∧ Aside0 (Below w.heap.size w w'))
      case atStart => exact ⟨(y124), (0), (by first | rfl | (simp; done) | (simp [*]; done)), H', ⟨Nat.le_refl _⟩, ⟨by (with_reducible repeat (first | apply Kd.R_alloc | apply Kd.R_drewN | apply Kd.R_drew)); exact HO126.out⟩, ⟨by repeat (first | (with_reducible first | exact HB.out | apply below_alloc | apply pw_below_drewN | apply below_drew1) | exact HB.out)⟩⟩
      case round =>
        clear H'
        try clear c1
        try clear c2
        try clear c2b0
        try clear c2b1
        try clear p2
        try clear c3
        try clear c3b0
        try clear c3b1
        obtain ⟨x3_1, x4_1, rfl, HA, HK1, HO_3, HB⟩ := hrel
        cases gk with
        | zero => exact absurd HA.out (by simp [laws_toVarS.l0])
        | succ k1 =>
          have H := HA.out
          clear HA
          simp only [laws_toVarS.l0] at H
          by_cases c6 : x4_1 < (l0.length : Int)
          · rw [if_pos c6] at H
            have c6b0 : decide (x4_1 < (l0.length : Int)) = true := decide_eq_true c6
            clear c6
            by_cases c7 : 0 ≤ x4_1
            · rw [if_pos c7] at H
              have c7b0 : decide (0 ≤ x4_1) = true := decide_eq_true c7
              clear c7
              replace H := Option.bind_eq_some_iff.mp H
              obtain ⟨⟨t128, t129, t130, t131⟩, A80, H⟩ := H
              replace H : (if x4_1 < (x3_1.length : Int) then (laws_toVarS.l0 k1 l0 (x3_1.set (x4_1 : Int).toNat (⟨t128, t129, t130, t131⟩ : S122)) (wrap64 (x4_1 + 1))) else (none)) = some r := H
              have A8 := Aside0.mk A80
              clear A80
              by_cases c9 : x4_1 < (x3_1.length : Int)
              · rw [if_pos c9] at H
                have c9b0 : decide (x4_1 < (x3_1.length : Int)) = true := decide_eq_true c9
                clear c9
                obtain ⟨y132, hy132⟩ : ∃ y_ : List (S122), y_ = (x3_1.set (x4_1 : Int).toNat (⟨t128, t129, t130, t131⟩ : S122)) := ⟨_, rfl⟩
                replace H : (laws_toVarS.l0 k1 l0 y132 (wrap64 (x4_1 + 1))) = some r := by first | (rw [hy132]; with_reducible exact H) | (have H2_ := (Option.bind_some _ _).symm.trans H; rw [hy132]; with_reducible exact H2_) | (have H2_ := (Option.bind_some _ _).symm.trans H; with_reducible exact H2_) | with_reducible exact H | (rw [hy132]; exact H) | exact H
                have Ny132 := Aside0.mk hy132
                clear hy132
                have H' := Aside0.mk H
                clear H
                have p127 : 0 ≤ (x4_1 : Int) := of_decide_eq_true (by first | (with_reducible assumption) | assumption)
                have q127 : x4_1 < (l0.length : Int) := of_decide_eq_true (by first | (with_reducible assumption) | assumption)
                obtain ⟨ad127, e127, hx127_0, hx127_1, hx127_2, hx127_3⟩ := at_T148 HR0.out x4_1 p127 q127
                cases e127
                replace hx127_0 := (HB.out.cell (World.block_lt_of_cell? w _ hx127_0)).trans hx127_0
                replace hx127_1 := (HB.out.cell (World.block_lt_of_cell? w _ hx127_1)).trans hx127_1
                replace hx127_2 := (HB.out.cell (World.block_lt_of_cell? w _ hx127_2)).trans hx127_2
                replace hx127_3 := (HB.out.cell (World.block_lt_of_cell? w _ hx127_3)).trans hx127_3
                replace p127 := eq_true p127
                replace q127 := eq_true q127
                go_wp2_with (first | ((with_reducible refine gate_callee (f := 138) rfl ?_); refine goesL_ (some 20) rfl rfl Try.func138 (by kernel_rfl) rfl #[.agg #[.string ((rd_T148 l0 x4_1).f0), .int .i64 ((rd_T148 l0 x4_1).f1), .int .i64 ((rd_T148 l0 x4_1).f2), .int .i64 ((rd_T148 l0 x4_1).f3)]] rfl (by (try simp only [List.map_toArray, List.map_cons, List.map_nil]); first | done | rfl | (simp only [List.length_drop, List.length_take]; rfl)) ?_; (with_reducible refine (laws_toVar.calls ((rd_T148 l0 x4_1).f0) ((rd_T148 l0 x4_1).f1) ((rd_T148 l0 x4_1).f2) ((rd_T148 l0 x4_1).f3) t128 t129 t130 t131 _ A8.out).mono ?_); rintro e w11 ⟨rfl, hb⟩; refine ⟨_, rfl, ?_⟩; have n0_ := Aside0.mk (Kd.R_below (by (with_reducible repeat (first | apply Kd.R_alloc | apply Kd.R_drewN | apply Kd.R_drew)); exact HO_3.out) hb); have n1_ := Aside0.mk (below_step (by repeat (first | (with_reducible first | exact HB.out | apply below_alloc | apply pw_below_drewN | apply below_drew1) | exact HB.out)) hb); clear HO_3; clear HB; have HO_3 := n0_; have HB := n1_; clear n0_ n1_; (try clear hb); (try clear hb2); (try clear hk); (try clear hi); have p10 : 0 ≤ (x4_1 : Int) := of_decide_eq_true (by first | (with_reducible assumption) | assumption); have q10 : (x4_1 : Int) < ((x3_1.length : Int) : Int) := of_decide_eq_true (by first | (with_reducible assumption) | assumption); obtain ⟨go10, co10, eo10, gb10, gl10, cl10, HG10⟩ := Kd.R_form HO_3.out (by omega); (first | cases eo10 | (injection eo10 with ea_ en_ ec_; (first | subst ea_ | (injection ea_ with ea_; subst ea_)); subst ec_; clear en_)); have GB10 := Aside0.mk gb10; have GG10 := Aside0.mk HG10; clear gb10 gl10 HG10; obtain ⟨ce10, hcl10, hM10, hcc10, hfr10⟩ := Kd.R_elem HO_3.out z122 (x4_1 : Int) p10 q10; obtain rfl := k122_openM hM10; have hx10_0 : w11.cell? ⟨go10, (x4_1 : Int).toNat * 4, none⟩ = some (.string ((rd_T122 x3_1 x4_1).f0)) := hcc10 0 _ rfl; have hx10_1 : w11.cell? ⟨go10, (x4_1 : Int).toNat * 4 + 1, none⟩ = some (.int .i64 ((rd_T122 x3_1 x4_1).f1)) := hcc10 1 _ rfl; have hx10_2 : w11.cell? ⟨go10, (x4_1 : Int).toNat * 4 + 2, none⟩ = some (.int .i64 ((rd_T122 x3_1 x4_1).f2)) := hcc10 2 _ rfl; have hx10_3 : w11.cell? ⟨go10, (x4_1 : Int).toNat * 4 + 3, none⟩ = some (.int .i64 ((rd_T122 x3_1 x4_1).f3)) := hcc10 3 _ rfl; have hf10_0 : w11.frozen? ⟨go10, (x4_1 : Int).toNat * 4, none⟩ = false := hfr10 0; have hf10_1 : w11.frozen? ⟨go10, (x4_1 : Int).toNat * 4 + 1, none⟩ = false := hfr10 1; have hf10_2 : w11.frozen? ⟨go10, (x4_1 : Int).toNat * 4 + 2, none⟩ = false := hfr10 2; have hf10_3 : w11.frozen? ⟨go10, (x4_1 : Int).toNat * 4 + 3, none⟩ = false := hfr10 3; clear hcl10 hcc10 hfr10 hM10; replace p10 := eq_true p10; replace q10 := eq_true q10; have HX12 := Aside0.mk (show Kd.R k122 122 w11 w.heap.size (fun _ => True) (.slice (some ⟨go10, 0, none⟩) x3_1.length co10) x3_1 from (by (with_reducible repeat (first | apply Kd.R_alloc | apply Kd.R_drewN | apply Kd.R_drew)); exact HO_3.out)); obtain ⟨ce12, hcl12, hM12, hcc12, hfr12⟩ := Kd.R_elem HX12.out z122 (x4_1 : Int) (of_decide_eq_true (by first | (with_reducible assumption) | assumption)) (by have h_ : (x4_1 : Int) < ((x3_1.length : Int) : Int) := of_decide_eq_true (by first | (with_reducible assumption) | assumption); first | exact h_ | (have e_ := (Kd.R_reads' HO_3.out).1; omega) | simpa using h_); obtain rfl := k122_openM hM12; have HP12 := Kd.R_seg HX12.out (x4_1 : Int) (of_decide_eq_true (by first | (with_reducible assumption) | assumption)) (by have h_ : (x4_1 : Int) < ((x3_1.length : Int) : Int) := of_decide_eq_true (by first | (with_reducible assumption) | assumption); first | exact h_ | (have e_ := (Kd.R_reads' HO_3.out).1; omega) | simpa using h_) (seg := [.string t128, .int .i64 t129, .int .i64 t130, .int .i64 t131]) (j := 0) hcl12 hcc12 (show 4 ≤ 4 from by decide) (x' := (⟨t128, t129, t130, t131⟩ : S122)) (k122_mkM _ _ _ (⟨t128, t129, t130, t131⟩ : S122) ) (fun _ hk => hk); have hx12_0 := hcc12 0 _ rfl; (try simp only [show (k122).sz = 4 from rfl, Nat.mul_one, Nat.add_zero] at hx12_0); have hf12_0 := hfr12 0; (try simp only [show (k122).sz = 4 from rfl, Nat.mul_one, Nat.add_zero] at hf12_0); have hx12_1 := hcc12 1 _ rfl; (try simp only [show (k122).sz = 4 from rfl, Nat.mul_one, Nat.add_zero] at hx12_1); have hf12_1 := hfr12 1; (try simp only [show (k122).sz = 4 from rfl, Nat.mul_one, Nat.add_zero] at hf12_1); have hx12_2 := hcc12 2 _ rfl; (try simp only [show (k122).sz = 4 from rfl, Nat.mul_one, Nat.add_zero] at hx12_2); have hf12_2 := hfr12 2; (try simp only [show (k122).sz = 4 from rfl, Nat.mul_one, Nat.add_zero] at hf12_2); have hx12_3 := hcc12 3 _ rfl; (try simp only [show (k122).sz = 4 from rfl, Nat.mul_one, Nat.add_zero] at hx12_3); have hf12_3 := hfr12 3; (try simp only [show (k122).sz = 4 from rfl, Nat.mul_one, Nat.add_zero] at hf12_3); clear hcl12 hcc12 hfr12 hM12) | ((with_reducible refine gate_store (t := 122) (p := 21) rfl ?_); refine store_event (t := 122) (p := 21) (v := ?vo_w13) (w1 := ((((w11.setCell ⟨go10, (x4_1 : Int).toNat * 4, none⟩ (.string t128)).setCell ⟨go10, (x4_1 : Int).toNat * 4 + 1, none⟩ (.int .i64 t129)).setCell ⟨go10, (x4_1 : Int).toNat * 4 + 2, none⟩ (.int .i64 t130)).setCell ⟨go10, (x4_1 : Int).toNat * 4 + 3, none⟩ (.int .i64 t131))) ?hg ?ho ?hn ?hr ?_; (case ho => rfl); (case hg => rfl); (case hn => rfl); (case hr => first | (go_simp; done) | (go_simp; rfl)); intro w13 hw; have hg : w11.grownBy w13 (some go10) := (by rw [hw]; exact HP12.2); have hp_ : Kd.R k122 122 w13 w.heap.size (fun _ => True) (.slice (some ⟨go10, 0, none⟩) x3_1.length co10) y132 := (by rw [hw, Ny132.out]; exact HP12.1); clear HP12; have n0_ := Aside0.mk (hp_); have n1_ := Aside0.mk ((by rw [hw]; exact below_set (below_set (below_set (below_set (HB.out) GB10.out) GB10.out) GB10.out) GB10.out : Below w.heap.size w w13)); clear HO_3; clear HB; have HO_3 := n0_; have HB := n1_; clear n0_ n1_; clear hg hw hp_))
                go_roundg k1
                case measure => have := HK1.out; omega
                case rel => exact ⟨(y132), (wrap64 (x4_1 + 1)), (by first | rfl | (simp; done) | (simp [*]; done)), H', ⟨by have := HK1.out; omega⟩, ⟨by (with_reducible repeat (first | apply Kd.R_alloc | apply Kd.R_drewN | apply Kd.R_drew)); exact HO_3.out⟩, ⟨by repeat (first | (with_reducible first | exact HB.out | apply below_alloc | apply pw_below_drewN | apply below_drew1) | exact HB.out)⟩⟩
              · rw [if_neg c9] at H
                exact absurd H (by simp)
            · rw [if_neg c7] at H
              exact absurd H (by simp)
          · rw [if_neg c6] at H
            have c6b0 : decide (x4_1 < (l0.length : Int)) = false := decide_eq_false c6
            clear c6
            obtain rfl := Option.some.inj H
            go_wp2
            go_ret
            exact ⟨_, by first | rfl | (simp [errW_none, errW_some] <;> rfl) | (simp [*, errW_none, errW_some] <;> rfl), by (with_reducible repeat (first | apply Kd.R_alloc | apply Kd.R_drewN | apply Kd.R_drew)); exact HO_3.out, by repeat (first | (with_reducible first | exact HB.out | apply below_alloc | apply pw_below_drewN | apply below_drew1) | exact HB.out)⟩
    · rw [if_neg c3] at H
      exact absurd H (by simp)
  · rw [if_neg c2] at H
    exact absurd H (by simp)


end Go.Proofs.Ytklhfhnplldgjaa.XFnExactVarAt
