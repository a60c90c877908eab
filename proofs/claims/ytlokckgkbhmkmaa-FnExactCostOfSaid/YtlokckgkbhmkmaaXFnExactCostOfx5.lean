/- Machine side of the law FnExactCostOf: for each Go function that it reaches, a Lean function with the same answers and the proof that the call comes to them. Conditions: what the arguments lead to reads as the lists that each contract is told of. Some functions are told by hand, the others by the kit's print.py under wip/ext.py. -/
import Derived.Test.YtlokckgkbhmkmaaXFnExactCostOfx0
import Derived.Test.YtlokckgkbhmkmaaXFnExactCostOfx1
import Derived.Test.YtlokckgkbhmkmaaXFnExactCostOfx2
import Derived.Test.YtlokckgkbhmkmaaXFnExactCostOfx3
import Derived.Test.YtlokckgkbhmkmaaXFnExactCostOfx4
namespace Go.Proofs.Ytlokckgkbhmkmaa.XFnExactCostOf
open Go.RowKit Go.Proofs.YtlokckgkbhmkmaaW.PrintWords Go.Proofs.YtlokckgkbhmkmaaW.PrintLast
attribute [local go_sem] max2_int min2_int max_two min_two   -- for this text's walks alone
set_option linter.unusedVariables false
set_option linter.unusedSimpArgs false

/-! ### LIB treefault -/
set_option maxHeartbeats 16000000 in
set_option maxRecDepth 100000 in
theorem impl_TreeFault.w (V : List S125) (N : List S134) (B : List Int) (A0 A1 A2 : Option Addr) (c0 c1 c2 : Nat) (w : World) (hv : Kd.C k125 w A0 V.length V) (hn : Kd.C k134 w A1 N.length N) (hb : Kd.C (Kd.int .i64) w A2 B.length B) (hs : Small V N B) :
    Calls Try.prog 92 #[.agg #[.slice A0 V.length c0, .slice A1 N.length c1, .slice A2 B.length c2]] w fun e w' => e = .returned (.int .i64 (faultI V N B)) ∧ Below w.heap.size w w' := by
  have hu := Try.underlying68
  have huv := Try.underlying125
  have hun := Try.underlying134
  have HV := Aside0.mk hv
  have HN := Aside0.mk hn
  have HBd := Aside0.mk hb
  have HS := Aside0.mk hs
  have hvm := Kd.C_max hv
  have hbm := Kd.C_max hb
  clear hv hn hb hs
  by_cases hV : 24 < V.length
  · have e1 : decide (24 < (V.length : Int)) = true := decide_eq_true (by omega)
    have e2 : decide (24 < V.length) = true := decide_eq_true hV
    have HG := Aside0.mk (show faultI V N B = 2 by unfold faultI; rw [if_pos (.inl hV)])
    clear hV
    go_enter Try.func92, Try.ntmps92
    go_wp2
    go_ret
    exact ⟨by rw [HG.out]; rfl, (Below.refl _ _).alloc (Nat.le_refl _) _⟩
  by_cases hNn : 200 < N.length
  · have e1 : decide (24 < (V.length : Int)) = false := decide_eq_false (by omega)
    have e2 : decide (24 < V.length) = false := decide_eq_false hV
    have e3 : decide (200 < (N.length : Int)) = true := decide_eq_true (by omega)
    have e4 : decide (200 < N.length) = true := decide_eq_true hNn
    have HG := Aside0.mk (show faultI V N B = 2 by unfold faultI; rw [if_pos (.inr hNn)])
    clear hNn hV
    go_enter Try.func92, Try.ntmps92
    go_wp2
    go_ret
    exact ⟨by rw [HG.out]; rfl, (Below.refl _ _).alloc (Nat.le_refl _) _⟩
  have e1 : decide (24 < (V.length : Int)) = false := decide_eq_false (by omega)
  have e2 : decide (24 < V.length) = false := decide_eq_false hV
  have e3 : decide (200 < (N.length : Int)) = false := decide_eq_false (by omega)
  have e4 : decide (200 < N.length) = false := decide_eq_false hNn
  have hVl : V.length ≤ 24 := by omega
  have hNl : N.length ≤ 200 := by omega
  have HG := Aside0.mk (show faultI V N B = _ from by unfold faultI; rw [if_neg (by omega)])
  have hmk := print_make (P := Try.prog) 170 3 .i64 8 Try.underlying170 info_int (by omega) N.length (by omega)
  clear hV hNn
  go_enter Try.func92, Try.ntmps92
  go_wp2
  clear e1 e2 e3 e4
  go_loopg [28] V.length (fun gg s28 wr => ∃ kk : Nat, s28 = .int .i64 (kk : Int) ∧ Aside0 (kk ≤ V.length ∧ V.length - kk ≤ gg) ∧ Aside0 (wr.heap[w.heap.size]? = some (.cells #[.slice A0 V.length c0, .slice A1 N.length c1, .slice A2 B.length c2] 68 (0, 0))) ∧ Aside0 (Below w.heap.size w wr) ∧ Aside0 (∀ (j : Nat) (y : S125), j < kk → V[j]? = some y → vf y = 0))
  case atStart => exact ⟨0, rfl, ⟨by omega⟩, ⟨by first | exact blk_new _ _ | simp⟩, ⟨(Below.refl _ _).alloc (Nat.le_refl _) _⟩, ⟨fun j _ hj => absurd hj (Nat.not_lt_zero _)⟩⟩
  case round =>
    obtain ⟨wa, rfl⟩ : ∃ wa : World, wa = wr := ⟨_, rfl⟩
    obtain ⟨kk, rfl, HK, BKT, HB, HA⟩ := hrel
    by_cases hlt : kk < V.length
    · have hltz : (kk : Int) < (V.length : Int) := by omega
      have hd : decide ((kk : Int) < (V.length : Int)) = true := decide_eq_true hltz
      have hd' : decide (kk < V.length) = true := decide_eq_true hlt
      obtain ⟨ad, rfl, hc0, hc1, hc2, hc3⟩ := at_T125 (Kd.C_below HV.out HB.out) kk (by omega) (by omega)
      rw [Int.toNat_natCast] at hc0 hc1 hc2 hc3
      have HX := Aside0.mk (rdV_get hlt)
      have hsz := HS.out.vn _ (rdV_mem hlt)
      have hltq := eq_true hltz
      have h0q : (0 ≤ (kk : Int)) = True := eq_true (by omega)
      revert hc0 hc1 hc2 hc3 HX hsz
      generalize rd_T125 V (kk : Int) = v
      intro hc0 hc1 hc2 hc3 HX hsz
      have HVB := Aside0.mk (fun (c : Int) (hc : vf v = c) (h0 : c ≠ 0) => (show faultI V N B = c by rw [HG.out, varsF_bad V kk v HX.out HA.out (by rw [hc]; exact h0), hc, if_pos h0]))
      clear hlt
      go_wp2_with (first | (go_at_call 137; refine (d_IsName _ hsz _).mono ?_; rintro e w' ⟨rfl, q, rfl⟩) | (go_at_call 65; refine (d_within _ _ _ _).mono ?_; rintro e w' ⟨rfl, q, rfl⟩))
      all_goals first
        | (go_roundg (V.length - (kk + 1))
           case measure => have := HK.out; omega
           case rel =>
             refine ⟨kk + 1, by go_num, ⟨by have := HK.out; omega⟩, ⟨?_⟩, ⟨by repeat (first | exact HB.out.alloc (below_size HB.out) _ | apply pw_below_drewN)⟩, ⟨fun j y hj hy => ?_⟩⟩
             · repeat (first | exact blk_alloc BKT.out _ | refine blk_drewN ?_ _)
             · by_cases e : j = kk
               · subst e
                 rw [HX.out] at hy
                 cases hy
                 simp_all [vf]
               · exact HA.out j y (by omega) hy)
        | (go_ret
           refine ⟨?_, by repeat (first | exact HB.out.alloc (below_size HB.out) _ | apply pw_below_drewN)⟩
           first
             | (rw [HVB.out 5 (by simp_all [vf]) (by decide)]; rfl)
             | (rw [HVB.out 3 (by simp_all [vf]) (by decide)]; rfl))
    · have hd : decide ((kk : Int) < (V.length : Int)) = false := decide_eq_false (by omega)
      have hd' : decide (kk < V.length) = false := decide_eq_false hlt
      have HGv := Aside0.mk (show faultI V N B = _ from by rw [HG.out, varsF_good V (fun j y hy => HA.out j y (by have := (List.getElem?_eq_some_iff.1 hy).1; have := HK.out; omega) hy), if_neg (by decide)])
      clear HA HG
      have q1 : wa.cell? ⟨w.heap.size, 1, none⟩ = some (.slice A1 N.length c1) := (blk_cell BKT.out 1).trans rfl
      go_wp2
      go_loopg [58] N.length (fun gg s58 wr => ∃ kk : Nat, s58 = .int .i64 (kk : Int) ∧ Aside0 (kk ≤ N.length ∧ N.length - kk ≤ gg) ∧ Aside0 (wr.heap[w.heap.size]? = some (.cells #[.slice A0 V.length c0, .slice A1 N.length c1, .slice A2 B.length c2] 68 (0, 0))) ∧ Aside0 (Below w.heap.size w wr) ∧ Aside0 (∀ j : Nat, j < kk → okI N j (rd_T134 N (j : Int)) = true))
      case atStart => exact ⟨0, rfl, ⟨by omega⟩, BKT, HB, ⟨fun j hj => absurd hj (Nat.not_lt_zero _)⟩⟩
      case round =>
        clear HB BKT q1
        obtain ⟨wb, rfl⟩ : ∃ wb : World, wb = wr := ⟨_, rfl⟩
        obtain ⟨kk, rfl, HK, BKT, HB, HA⟩ := hrel
        by_cases hlt : kk < N.length
        · have hltz : (kk : Int) < (N.length : Int) := by omega
          have hd : decide ((kk : Int) < (N.length : Int)) = true := decide_eq_true hltz
          have hd' : decide (kk < N.length) = true := decide_eq_true hlt
          obtain ⟨ad, A5, c5, A6, c6, A7, c7, rfl, n0, n1, n2, n3, n4, n5, n6, n7, l5, r5, l6, r6, l7, r7⟩ := at_T134 HN.out (kk : Int) (by omega) hltz
          rw [Int.toNat_natCast] at n0 n1 n2 n3 n4 n5 n6 n7
          replace n0 := pw_cell_below HB.out n0
          replace n1 := pw_cell_below HB.out n1
          replace n2 := pw_cell_below HB.out n2
          replace n3 := pw_cell_below HB.out n3
          replace n4 := pw_cell_below HB.out n4
          replace n5 := pw_cell_below HB.out n5
          replace n6 := pw_cell_below HB.out n6
          replace n7 := pw_cell_below HB.out n7
          have hmem := rdN_mem hlt
          have hsz := HS.out.nn _ hmem
          have HBAD := Aside0.mk (fun (h : okI N kk (rd_T134 N (kk : Int)) = false) => (show faultI V N B = 1 by rw [HGv.out, if_pos (nodesI_bad hlt h)]))
          have HSELF := Aside0.mk (fun (h : okI N kk (rd_T134 N (kk : Int)) = true) (j : Nat) (hj : j < kk + 1) => (show okI N j (rd_T134 N (j : Int)) = true from if e : j = kk then by subst e; exact h else HA.out j (by omega)))
          have hltq := eq_true hltz
          have h0q : (0 ≤ (kk : Int)) = True := eq_true (by omega)
          clear hmem
          revert n0 n1 n2 n3 n4 n5 n6 n7 l5 r5 l6 r6 l7 r7 hsz HBAD HSELF
          generalize rd_T134 N (kk : Int) = nd
          obtain ⟨d0, d1, d2, d3, d4, F5, F6, F7⟩ := nd
          intro l5 r5 l6 r6 l7 r7 n0 n1 n2 n3 n4 n5 n6 n7 hsz HBAD HSELF
          have HOK := Aside0.mk (show okI N kk ⟨d0, d1, d2, d3, d4, F5, F6, F7⟩ = (fitsB ⟨d0, d1, d2, d3, d4, F5, F6, F7⟩ && (!(F5.any (badB N kk false)) && (!(F6.any (badB N kk true)) && !(F7.any (badB N kk true))))) from rfl)
          have R5 := Aside0.mk r5
          have R6 := Aside0.mk r6
          have R7 := Aside0.mk r7
          clear r5 r6 r7 l5 l6 l7
          go_wp2_with fail
          refine (impl_fits.w ⟨d0, d1, d2, d3, d4, F5, F6, F7⟩ A5 A6 A7 c5 c6 c7 _ hsz).mono ?_
          rintro e w1 ⟨rfl, hb⟩
          have hWb : Below wb.heap.size wb ((wb.alloc (.cells #[.int .i64 (kk : Int)] 3)).alloc (.cells #[.int .i64 d0, .int .i64 d1, .string d2, .int .i64 d3, .int .i64 d4, .slice A5 F5.length c5, .slice A6 F6.length c6, .slice A7 F7.length c7] 134)) := ((Below.refl _ _).alloc (Nat.le_refl _) _).alloc (by simp) _
          have hs1 : (wb.alloc (.cells #[.int .i64 (kk : Int)] 3)).heap.size = wb.heap.size + 1 := by simp
          have hbn := blk_new (wb.alloc (.cells #[.int .i64 (kk : Int)] 3)) (.cells #[.int .i64 d0, .int .i64 d1, .string d2, .int .i64 d3, .int .i64 d4, .slice A5 F5.length c5, .slice A6 F6.length c6, .slice A7 F7.length c7] 134)
          rw [hs1] at hbn
          have BKk := Aside0.mk (blk_below (blk_alloc (blk_new wb (.cells #[.int .i64 (kk : Int)] 3)) _) hb)
          have BKn := Aside0.mk (blk_below hbn hb)
          have BT1 := Aside0.mk (blk_below (blk_alloc (blk_alloc BKT.out _) _) hb)
          have HB1 := Aside0.mk (below_step (below_step HB.out hWb) hb)
          clear hb hWb hs1 hbn n0 n1 n2 n3 n4 n5 n6 n7
          cases hf : fitsB ⟨d0, d1, d2, d3, d4, F5, F6, F7⟩ with
          | false =>
            have HF := Aside0.mk hf
            clear hf
            go_wp2
            go_ret
            exact ⟨by rw [HBAD.out (by rw [HOK.out, HF.out]; rfl)]; rfl, HB1.out⟩
          | true =>
            have HF := Aside0.mk hf
            clear hf
            have y5 : w1.cell? ⟨wb.heap.size + 1, 5, none⟩ = some (.slice A5 F5.length c5) := (blk_cell BKn.out 5).trans rfl
            have y6 : w1.cell? ⟨wb.heap.size + 1, 6, none⟩ = some (.slice A6 F6.length c6) := (blk_cell BKn.out 6).trans rfl
            have y7 : w1.cell? ⟨wb.heap.size + 1, 7, none⟩ = some (.slice A7 F7.length c7) := (blk_cell BKn.out 7).trans rfl
            go_wp2_with fail
            refine (impl_ahead1.w wb.heap.size w.heap.size N kk (by omega) (by omega) false (some ad) c1 w1 ((blk_cell BKk.out 0).trans rfl) ((blk_cell BT1.out 1).trans rfl) (Kd.C_below HN.out HB1.out) A5 c5 F5 (Kd.C_below R5.out HB1.out)).mono ?_
            rintro e w2 ⟨rfl, hb⟩
            have BKk2 := Aside0.mk (blk_below BKk.out hb)
            have BKn2 := Aside0.mk (blk_below BKn.out hb)
            have BT2 := Aside0.mk (blk_below BT1.out hb)
            have HB2 := Aside0.mk (below_step HB1.out hb)
            clear hb y5 y6 y7 BKk BKn BT1
            cases hy5 : F5.any (badB N kk false) with
            | true =>
              have HY5 := Aside0.mk hy5
              clear hy5
              go_wp2
              go_ret
              exact ⟨by rw [HBAD.out (by rw [HOK.out, HF.out, HY5.out]; first | rfl | (simp; done))]; rfl, HB2.out⟩
            | false =>
              have HY5 := Aside0.mk hy5
              clear hy5
              have y5 : w2.cell? ⟨wb.heap.size + 1, 5, none⟩ = some (.slice A5 F5.length c5) := (blk_cell BKn2.out 5).trans rfl
              have y6 : w2.cell? ⟨wb.heap.size + 1, 6, none⟩ = some (.slice A6 F6.length c6) := (blk_cell BKn2.out 6).trans rfl
              have y7 : w2.cell? ⟨wb.heap.size + 1, 7, none⟩ = some (.slice A7 F7.length c7) := (blk_cell BKn2.out 7).trans rfl
              go_wp2_with fail
              refine (impl_ahead1.w wb.heap.size w.heap.size N kk (by omega) (by omega) true (some ad) c1 w2 ((blk_cell BKk2.out 0).trans rfl) ((blk_cell BT2.out 1).trans rfl) (Kd.C_below HN.out HB2.out) A6 c6 F6 (Kd.C_below R6.out HB2.out)).mono ?_
              rintro e w3 ⟨rfl, hb⟩
              have BKk3 := Aside0.mk (blk_below BKk2.out hb)
              have BKn3 := Aside0.mk (blk_below BKn2.out hb)
              have BT3 := Aside0.mk (blk_below BT2.out hb)
              have HB3 := Aside0.mk (below_step HB2.out hb)
              clear hb y5 y6 y7 BKk2 BKn2 BT2
              cases hy6 : F6.any (badB N kk true) with
              | true =>
                have HY6 := Aside0.mk hy6
                clear hy6
                go_wp2
                go_ret
                exact ⟨by rw [HBAD.out (by rw [HOK.out, HF.out, HY5.out, HY6.out]; first | rfl | (simp; done))]; rfl, HB3.out⟩
              | false =>
                have HY6 := Aside0.mk hy6
                clear hy6
                have y5 : w3.cell? ⟨wb.heap.size + 1, 5, none⟩ = some (.slice A5 F5.length c5) := (blk_cell BKn3.out 5).trans rfl
                have y6 : w3.cell? ⟨wb.heap.size + 1, 6, none⟩ = some (.slice A6 F6.length c6) := (blk_cell BKn3.out 6).trans rfl
                have y7 : w3.cell? ⟨wb.heap.size + 1, 7, none⟩ = some (.slice A7 F7.length c7) := (blk_cell BKn3.out 7).trans rfl
                go_wp2_with fail
                refine (impl_ahead1.w wb.heap.size w.heap.size N kk (by omega) (by omega) true (some ad) c1 w3 ((blk_cell BKk3.out 0).trans rfl) ((blk_cell BT3.out 1).trans rfl) (Kd.C_below HN.out HB3.out) A7 c7 F7 (Kd.C_below R7.out HB3.out)).mono ?_
                rintro e w4 ⟨rfl, hb⟩
                have BKk4 := Aside0.mk (blk_below BKk3.out hb)
                have BKn4 := Aside0.mk (blk_below BKn3.out hb)
                have BT4 := Aside0.mk (blk_below BT3.out hb)
                have HB4 := Aside0.mk (below_step HB3.out hb)
                clear hb y5 y6 y7 BKk3 BKn3 BT3
                cases hy7 : F7.any (badB N kk true) with
                | true =>
                  have HY7 := Aside0.mk hy7
                  clear hy7
                  go_wp2
                  go_ret
                  exact ⟨by rw [HBAD.out (by rw [HOK.out, HF.out, HY5.out, HY6.out, HY7.out]; first | rfl | (simp; done))]; rfl, HB4.out⟩
                | false =>
                  have HY7 := Aside0.mk hy7
                  clear hy7
                  go_wp2
                  go_roundg (N.length - (kk + 1))
                  case measure => have := HK.out; omega
                  case rel => exact ⟨kk + 1, by go_num, ⟨by omega⟩, BT4, HB4, ⟨HSELF.out (by rw [HOK.out, HF.out, HY5.out, HY6.out, HY7.out]; rfl)⟩⟩
        · have hd : decide ((kk : Int) < (N.length : Int)) = false := decide_eq_false (by omega)
          have hd' : decide (kk < N.length) = false := decide_eq_false hlt
          have HNG := Aside0.mk (nodesI_good (fun k hk => HA.out k (by have := HK.out; omega)))
          have HGn := Aside0.mk (show faultI V N B = _ from by rw [HGv.out, if_neg (by rw [HNG.out]; decide)])
          have HFR := Aside0.mk (flat_range HNG.out)
          clear HA HGv
          have q1 : wb.cell? ⟨w.heap.size, 1, none⟩ = some (.slice A1 N.length c1) := (blk_cell BKT.out 1).trans rfl
          have q2 : wb.cell? ⟨w.heap.size, 2, none⟩ = some (.slice A2 B.length c2) := (blk_cell BKT.out 2).trans rfl
          have hgz : w.heap.size < wb.heap.size := blk_lt BKT.out
          have hgz' : ¬ (w.heap.size = wb.heap.size) := by omega
          have ho0 := own_made wb wb.heap.size 3 .i64 N.length (Nat.le_refl _) (by omega)
          have HO0 := Aside0.mk (Kd.R_of_own (enc := Value.int .i64) (h1 := fun _ => rfl) (ok := fun _ => True) (xs := List.replicate N.length 0) (by rw [List.length_replicate]; exact ho0) (fun _ _ => trivial))
          clear ho0
          go_wp2
          go_loopg [96] B.length (fun gg s96 wr => ∃ j : Nat, s96 = .int .i64 (j : Int) ∧ Aside0 (j ≤ B.length ∧ B.length - j ≤ gg) ∧ Aside0 (wr.heap[w.heap.size]? = some (.cells #[.slice A0 V.length c0, .slice A1 N.length c1, .slice A2 B.length c2] 68 (0, 0))) ∧ Aside0 (Kd.R (Kd.int .i64) 3 wr wb.heap.size (fun _ => True) (.slice (some ⟨wb.heap.size, 0, none⟩) N.length N.length) (cntL N.length (B.take j))) ∧ Aside0 (Below w.heap.size w wr) ∧ Aside0 (∀ x ∈ B.take j, bodyB N x = true))
          case atStart => exact ⟨0, rfl, ⟨by omega⟩, ⟨blk_alloc BKT.out _⟩, ⟨by rw [List.take_zero]; exact HO0.out⟩, ⟨HB.out.alloc (below_size HB.out) _⟩, ⟨fun x hx => by cases hx⟩⟩
          case round =>
            clear HO0 q1 q2 HB BKT
            obtain ⟨wc, rfl⟩ : ∃ wc : World, wc = wr := ⟨_, rfl⟩
            obtain ⟨j, rfl, HKj, BKT, HO, HB, HA⟩ := hrel
            have q1 : wc.cell? ⟨w.heap.size, 1, none⟩ = some (.slice A1 N.length c1) := (blk_cell BKT.out 1).trans rfl
            by_cases hj : j < B.length
            · have hjz : (j : Int) < (B.length : Int) := by omega
              have hjd : decide ((j : Int) < (B.length : Int)) = true := decide_eq_true hjz
              have hjd' : decide (j < B.length) = true := decide_eq_true hj
              have hjq := eq_true hjz
              have hj0 : (0 ≤ (j : Int)) = True := eq_true (by omega)
              obtain ⟨adB, rfl, hx⟩ := Kd.at_int (Kd.C_below HBd.out HB.out) (j : Int) (by omega) hjz
              rw [Int.toNat_natCast] at hx
              have HBBAD := Aside0.mk (fun (h : bodyB N (rd B (j : Int)) = false) => (show faultI V N B = 1 by rw [HGn.out, if_pos (List.all_eq_false.2 ⟨_, rd_mem hj, by rw [h]; simp⟩)]))
              have HSN := Aside0.mk (show cntL N.length (B.take (j + 1)) = _ from by rw [take_snoc_rd hj, cntL_snoc])
              have HTK := Aside0.mk (take_snoc_rd hj)
              have hnz : IntKind.i64.wrap ((N.length : Int) - 1) = (N.length : Int) - 1 := by rw [IntKind.wrap_i64]; omega
              have hlj : (B.take j).length ≤ 1000000000 := by have := HS.out.b; rw [List.length_take]; omega
              have hrgj : ∀ x ∈ B.take j, 0 ≤ x ∧ x < (N.length : Int) := fun x hx => body_range (HA.out x hx)
              cases hin : inB (rd B (j : Int)) 0 ((N.length : Int) - 1) with
              | false =>
                have HIN := Aside0.mk hin
                clear hrgj hlj
                go_wp2_with (first | (go_at_call 65; refine (d_within _ _ _ _).mono ?_; rintro e w' ⟨rfl, q, rfl⟩))
                go_ret
                exact ⟨by rw [HBBAD.out (by unfold bodyB; rw [HIN.out]; rfl)]; rfl, pw_below_drewN HB.out _⟩
              | true =>
                obtain ⟨hx0, hx1⟩ := inB_true hin
                have hx2 : rd B (j : Int) < (N.length : Int) := by omega
                have hx0q := eq_true hx0
                have hx2q := eq_true hx2
                have HIN := Aside0.mk hin
                obtain ⟨ad, A5, c5, A6, c6, A7, c7, rfl, n0, _⟩ := at_T134 (Kd.C_below HN.out HB.out) (rd B (j : Int)) hx0 hx2
                have hbd := cnt_bd hrgj hlj _ hx0 hx2
                obtain ⟨hc, hfz⟩ := R_cellN (cntL_length _ _) HO.out _ hx0 hx2
                have hb0 := hbd.1
                have hb1 := hbd.2
                clear hbd hrgj hlj
                cases hst : stmtB (rd_T134 N (rd B (j : Int))).f0 with
                | false =>
                  have HST := Aside0.mk hst
                  go_wp2_with (first | (go_at_call 65; refine (d_within _ _ _ _).mono ?_; rintro e w' ⟨rfl, q, rfl⟩) | (go_at_call 108; refine (d_isStatement _ _).mono ?_; rintro e w' ⟨rfl, q, rfl⟩))
                  go_ret
                  exact ⟨by rw [HBBAD.out (by unfold bodyB; rw [HIN.out, HST.out]; rfl)]; rfl, by repeat (first | exact HB.out | apply pw_below_drewN)⟩
                | true =>
                  have HST := Aside0.mk hst
                  have HOp := Aside0.mk (R_putN (cntL_length _ _) HO.out (rd B (j : Int)) (rd (cntL N.length (B.take j)) (rd B (j : Int)) + 1))
                  revert hc hfz hb0 hb1 HOp HSN
                  generalize cntL N.length (B.take j) = xs
                  generalize hcx : rd xs (rd B (j : Int)) = cx
                  intro HSN hc hfz hb0 hb1 HOp
                  go_wp2_with (first | (go_at_call 65; refine (d_within _ _ _ _).mono ?_; rintro e w' ⟨rfl, q, rfl⟩) | (go_at_call 108; refine (d_isStatement _ _).mono ?_; rintro e w' ⟨rfl, q, rfl⟩))
                  go_roundg (B.length - (j + 1))
                  case measure => have := HKj.out; omega
                  case rel =>
                    refine ⟨j + 1, by go_num, ⟨by omega⟩, ⟨?_⟩, ⟨?_⟩, ⟨?_⟩, ⟨?_⟩⟩
                    · first | exact blk_far (blk_drewN (blk_drewN BKT.out _) _) (by show w.heap.size ≠ wb.heap.size; omega) _ | exact blk_far (blk_drewN BKT.out _) (by show w.heap.size ≠ wb.heap.size; omega) _ | exact blk_far BKT.out (by show w.heap.size ≠ wb.heap.size; omega) _
                    · rw [HSN.out, bump, hcx]; exact Kd.R_step HOp.out (fun _ _ _ => rfl)
                    · exact below_set (by repeat (first | exact HB.out | apply pw_below_drewN)) (by show w.heap.size ≤ wb.heap.size; omega)
                    · intro x hx
                      rw [HTK.out] at hx
                      rcases List.mem_append.1 hx with hx | hx
                      · exact HA.out x hx
                      · rw [List.mem_singleton.1 hx]; unfold bodyB; rw [HIN.out, HST.out]; rfl
            · have hjd : decide ((j : Int) < (B.length : Int)) = false := decide_eq_false (by omega)
              have hjd' : decide (j < B.length) = false := decide_eq_false hj
              have hBt : B.take j = B := List.take_of_length_le (by omega)
              rw [hBt] at HO HA
              have HBA := HA
              have HGb := Aside0.mk (show faultI V N B = _ from by rw [HGn.out, if_neg (by rw [List.all_eq_true.2 HA.out]; decide)])
              clear hBt HA HGn
              have HFR' := HFR
              have HBR := Aside0.mk (fun x hx => body_range (HBA.out x hx) : ∀ x ∈ B, 0 ≤ x ∧ x < (N.length : Int))
              go_wp2
              go_loopg [127] N.length (fun gg s127 wr => ∃ i : Nat, s127 = .int .i64 (i : Int) ∧ Aside0 (i ≤ N.length ∧ N.length - i ≤ gg) ∧ Aside0 (wr.heap[w.heap.size]? = some (.cells #[.slice A0 V.length c0, .slice A1 N.length c1, .slice A2 B.length c2] 68 (0, 0))) ∧ Aside0 (Kd.R (Kd.int .i64) 3 wr wb.heap.size (fun _ => True) (.slice (some ⟨wb.heap.size, 0, none⟩) N.length N.length) (cntL N.length (B ++ flatN (N.take i)))) ∧ Aside0 (Below w.heap.size w wr))
              case atStart => exact ⟨0, rfl, ⟨by omega⟩, BKT, ⟨by rw [show flatN (N.take 0) = [] from rfl, List.append_nil]; exact HO.out⟩, HB⟩
              case round =>
                clear HO q1 HB BKT
                obtain ⟨wd, rfl⟩ : ∃ wd : World, wd = wr := ⟨_, rfl⟩
                obtain ⟨i, rfl, HKi, BKT, HO, HB⟩ := hrel
                by_cases hi : i < N.length
                · have hltz : (i : Int) < (N.length : Int) := by omega
                  have hd9 : decide ((i : Int) < (N.length : Int)) = true := decide_eq_true hltz
                  have hd9' : decide (i < N.length) = true := decide_eq_true hi
                  have hltq := eq_true hltz
                  have h0q : (0 ≤ (i : Int)) = True := eq_true (by omega)
                  obtain ⟨ad, A5, c5, A6, c6, A7, c7, rfl, n0, n1, n2, n3, n4, n5, n6, n7, l5, r5, l6, r6, l7, r7⟩ := at_T134 (Kd.C_below HN.out HB.out) (i : Int) (by omega) hltz
                  rw [Int.toNat_natCast] at n0 n1 n2 n3 n4 n5 n6 n7
                  have hmem := rdN_mem hi
                  have HK3 := Aside0.mk (HS.out.k _ hmem)
                  have HRG3 := Aside0.mk (fun x hx => HFR.out x (mem_flatN hmem hx) : ∀ x ∈ flat1 (rd_T134 N (i : Int)), 0 ≤ x ∧ x < (N.length : Int))
                  have HFL := Aside0.mk (flatN_take N i hi)
                  have R5 := Aside0.mk r5
                  have R6 := Aside0.mk r6
                  have R7 := Aside0.mk r7
                  clear r5 r6 r7 l5 l6 l7 hmem
                  revert n0 n1 n2 n3 n4 n5 n6 n7 HK3 HRG3 HFL R5 R6 R7
                  generalize rd_T134 N (i : Int) = nd
                  obtain ⟨d0, d1, d2, d3, d4, F5, F6, F7⟩ := nd
                  intro n0 n1 n2 n3 n4 n5 n6 n7 HK3 HRG3 HFL R5 R6 R7
                  have hWb : Below wd.heap.size wd (wd.alloc (.cells #[.int .i64 d0, .int .i64 d1, .string d2, .int .i64 d3, .int .i64 d4, .slice A5 F5.length c5, .slice A6 F6.length c6, .slice A7 F7.length c7] 134)) := (Below.refl _ _).alloc (Nat.le_refl _) _
                  go_wp2_with fail
                  refine (impl_all.w d0 d1 d3 d4 d2 A5 A6 A7 c5 c6 c7 F5 F6 F7 _ (Kd.C_below R5.out hWb) (Kd.C_below R6.out hWb) (Kd.C_below R7.out hWb) HK3.out.1 HK3.out.2.1 HK3.out.2.2).mono ?_
                  rintro e w1 ⟨va, rfl, hoa, hba⟩
                  have hp3 : F5 ++ F6 ++ F7 = flat1 ⟨d0, d1, d2, d3, d4, F5, F6, F7⟩ := rfl
                  rw [hp3] at hoa
                  have hLl : (flat1 ⟨d0, d1, d2, d3, d4, F5, F6, F7⟩).length ≤ 3145728 := by have h3 := HK3.out; simp only [flat1, List.length_append]; (try simp only at h3); omega
                  clear n0 n1 n2 n3 n4 n5 n6 n7 R5 R6 R7 HK3 hp3
                  revert HRG3 HFL hoa hLl
                  generalize flat1 ⟨d0, d1, d2, d3, d4, F5, F6, F7⟩ = L
                  intro HRG3 HFL hoa hLl
                  obtain ⟨Aa, ca, ea⟩ := Kd.R_slice hoa
                  subst ea
                  have hsA : (wd.alloc (.cells #[.int .i64 d0, .int .i64 d1, .string d2, .int .i64 d3, .int .i64 d4, .slice A5 F5.length c5, .slice A6 F6.length c6, .slice A7 F7.length c7] 134)).heap.size = wd.heap.size + 1 := by simp
                  rw [hsA] at hoa
                  have hgy : wb.heap.size < wd.heap.size := Kd.R_lt HO.out _ rfl
                  have HOa := Aside0.mk (Kd.R_below HO.out (below_step hWb hba))
                  have HOL := Aside0.mk (Kd.R_mono (Kd.R_bound hoa) (fun k hk => (show k ≠ wb.heap.size from fun e => by have := hk.2.1; omega)))
                  have hlm := Kd.C_max (Kd.R_reads' hoa).2.2
                  have BKa := Aside0.mk (blk_below (blk_alloc BKT.out _) hba)
                  have HBa := Aside0.mk (below_step (below_step HB.out hWb) hba)
                  clear hoa hba hWb hsA HO HB BKT
                  go_wp2
                  go_loopg [134] L.length (fun gg s134 w' => ∃ j : Nat, s134 = .int .i64 (j : Int) ∧ Aside0 (j ≤ L.length ∧ L.length - j ≤ gg) ∧ Aside0 (w'.heap[w.heap.size]? = some (.cells #[.slice A0 V.length c0, .slice (some ad) N.length c1, .slice A2 B.length c2] 68 (0, 0))) ∧ Aside0 (Kd.R (Kd.int .i64) 3 w' wb.heap.size (fun _ => True) (.slice (some ⟨wb.heap.size, 0, none⟩) N.length N.length) (cntL N.length ((B ++ flatN (N.take i)) ++ L.take j))) ∧ Aside0 (Kd.R (Kd.int .i64) 2 w' (wd.heap.size + 1) (fun k => k ≠ wb.heap.size) (.slice Aa L.length ca) L) ∧ Aside0 (Below w.heap.size w w'))
                  case atStart => exact ⟨0, rfl, ⟨by omega⟩, BKa, ⟨by rw [List.take_zero, List.append_nil]; exact HOa.out⟩, HOL, HBa⟩
                  case round =>
                    clear HOa HOL HBa BKa
                    obtain ⟨j, rfl, HKj, BKT, HO, HOL, HB⟩ := hrel
                    by_cases hj2 : j < L.length
                    · have hjz : (j : Int) < (L.length : Int) := by omega
                      have hjd9 : decide ((j : Int) < (L.length : Int)) = true := decide_eq_true hjz
                      have hjd9' : decide (j < L.length) = true := decide_eq_true hj2
                      have hjq := eq_true hjz
                      have hj0 : (0 ≤ (j : Int)) = True := eq_true (by omega)
                      obtain ⟨adL, rfl, hx⟩ := Kd.at_int (Kd.R_reads' HOL.out).2.2 (j : Int) (by omega) hjz
                      rw [Int.toNat_natCast] at hx
                      obtain ⟨hx0, hx1⟩ := HRG3.out _ (rd_mem hj2)
                      have hP : ∀ x ∈ (B ++ flatN (N.take i)) ++ L.take j, 0 ≤ x ∧ x < (N.length : Int) := by
                        intro x hx
                        rcases List.mem_append.1 hx with hx | hx
                        · rcases List.mem_append.1 hx with hx | hx
                          · exact HBR.out x hx
                          · exact HFR.out x (flatN_sub hx)
                        · exact HRG3.out x (List.mem_of_mem_take hx)
                      have hPl : ((B ++ flatN (N.take i)) ++ L.take j).length ≤ 1000000000 := by
                        have e1 := flatN_len (N.take i) (fun x hx => HS.out.k x (List.mem_of_mem_take hx))
                        have e2 := HS.out.b
                        have e4 : (N.take i).length ≤ 200 := by rw [List.length_take]; omega
                        have e5 : (L.take j).length ≤ L.length := by rw [List.length_take]; omega
                        have e6 : (N.take i).length * 3145728 ≤ 200 * 3145728 := Nat.mul_le_mul_right _ e4
                        simp only [List.length_append]
                        omega
                      have hbd := cnt_bd hP hPl _ hx0 hx1
                      obtain ⟨hc, hfz⟩ := R_cellN (cntL_length _ _) HO.out _ hx0 hx1
                      have hb0 := hbd.1
                      have hb1 := hbd.2
                      have HOp := Aside0.mk (R_putN (cntL_length _ _) HO.out (rd L (j : Int)) (rd (cntL N.length ((B ++ flatN (N.take i)) ++ L.take j)) (rd L (j : Int)) + 1))
                      have HSN := Aside0.mk (show cntL N.length ((B ++ flatN (N.take i)) ++ L.take (j + 1)) = _ from by rw [take_snoc_rd hj2, ← List.append_assoc, cntL_snoc])
                      have hx0q := eq_true hx0
                      have hx1q := eq_true hx1
                      clear hP hPl hbd
                      revert hc hfz hb0 hb1 HOp HSN
                      generalize cntL N.length ((B ++ flatN (N.take i)) ++ L.take j) = xs
                      generalize hcx : rd xs (rd L (j : Int)) = cx
                      intro hc hfz hb0 hb1 HOp HSN
                      go_wp2
                      go_roundg (L.length - (j + 1))
                      case measure => have := HKj.out; omega
                      case rel => exact ⟨j + 1, by go_num, ⟨by omega⟩, ⟨blk_far BKT.out (by show w.heap.size ≠ wb.heap.size; omega) _⟩, ⟨by rw [HSN.out, bump, hcx]; exact HOp.out⟩, ⟨Kd.R_far (p := ⟨wb.heap.size, _, none⟩) HOL.out (fun k hk => hk) _⟩, ⟨below_set HB.out (by show w.heap.size ≤ wb.heap.size; omega)⟩⟩
                    · have hjd9 : decide ((j : Int) < (L.length : Int)) = false := decide_eq_false (by omega)
                      have hjd9' : decide (j < L.length) = false := decide_eq_false hj2
                      have HLt := Aside0.mk (show L.take j = L from List.take_of_length_le (by omega))
                      go_wp2
                      go_roundg (N.length - (i + 1))
                      case measure => have := HKi.out; omega
                      case rel => exact ⟨i + 1, by go_num, ⟨by omega⟩, BKT, ⟨by rw [HFL.out, ← List.append_assoc]; have := HO.out; rw [HLt.out] at this; exact this⟩, HB⟩
                · have hd9 : decide ((i : Int) < (N.length : Int)) = false := decide_eq_false (by omega)
                  have hd9' : decide (i < N.length) = false := decide_eq_false hi
                  have hNt : N.take i = N := List.take_of_length_le (by omega)
                  rw [hNt] at HO
                  have hCR : Kd.C (Kd.int .i64) wd (some ⟨wb.heap.size, 0, none⟩) (cntL N.length (B ++ flatN N)).length (cntL N.length (B ++ flatN N)) := (Kd.R_reads' HO.out).2.2
                  have hcl : (cntL N.length (B ++ flatN N)).length = N.length := cntL_length _ _
                  have HCF := slices_ContainsFunc_int.calls 144 #[] oneB (enters_of_func Try.func144 (by kernel_rfl) rfl) (some ⟨wb.heap.size, 0, none⟩) N.length (cntL N.length (B ++ flatN N)) wd hCR (fun W x _ => impl_tf2.w W x)
                  rw [hcl] at HCF
                  have HCFa := Aside0.mk HCF
                  clear HCF hCR hcl hNt
                  go_wp2_with fail
                  refine HCFa.out.mono ?_
                  rintro e w5 ⟨rfl, hb5⟩
                  have BK5 := Aside0.mk (blk_below BKT.out hb5)
                  have HB5 := Aside0.mk (below_step HB.out hb5)
                  clear hb5 HCFa HO HB BKT
                  cases hany : (cntL N.length (B ++ flatN N)).any oneB with
                  | true =>
                    have HGc := Aside0.mk (show faultI V N B = 1 by rw [HGb.out, if_pos hany])
                    clear hany
                    go_wp2
                    go_ret
                    exact ⟨by rw [HGc.out]; rfl, HB5.out⟩
                  | false =>
                    have HGc := Aside0.mk (show faultI V N B = _ from by rw [HGb.out, if_neg (by rw [hany]; decide)])
                    clear hany
                    have t0 : w5.cell? ⟨w.heap.size, 0, none⟩ = some (.slice A0 V.length c0) := (blk_cell BK5.out 0).trans rfl
                    have t1 : w5.cell? ⟨w.heap.size, 1, none⟩ = some (.slice A1 N.length c1) := (blk_cell BK5.out 1).trans rfl
                    have t2 : w5.cell? ⟨w.heap.size, 2, none⟩ = some (.slice A2 B.length c2) := (blk_cell BK5.out 2).trans rfl
                    go_wp2_with fail
                    refine (impl_tooDeep.w _ _ A1 c1 N (by omega) w5 (Kd.C_below HN.out HB5.out) HS.out.k).mono ?_
                    rintro e w6 ⟨rfl, hb6⟩
                    have HB6 := Aside0.mk (below_step HB5.out hb6)
                    clear hb6 t0 t1 t2
                    cases hdp : (depthL N).any deepB with
                    | true =>
                      have HGd := Aside0.mk (show faultI V N B = 9 by rw [HGc.out, if_pos hdp])
                      clear hdp
                      go_wp2
                      go_ret
                      exact ⟨by rw [HGd.out]; rfl, HB6.out⟩
                    | false =>
                      have HGd := Aside0.mk (show faultI V N B = 0 by rw [HGc.out, if_neg (by rw [hdp]; decide)])
                      clear hdp
                      go_wp2
                      go_ret
                      exact ⟨by rw [HGd.out]; rfl, HB6.out⟩
/-! ### LIB sfault2 -/
set_option maxHeartbeats 16000000 in
set_option maxRecDepth 100000 in
theorem spec_l4Fault.w (g : Nat) (V : List S125) (N : List S134) (B : List Int) (A0 A1 A2 : Option Addr) (c0 c1 c2 : Nat) (w : World) (h : TreeAt w g V N B A0 c0 A1 c1 A2 c2) (hs : Small V N B) :
    Calls Try.prog 88 #[.pointer (some ⟨g, 0, none⟩)] w fun e w' => e = .returned (.int .i64 (faultS V N B)) ∧ Below w.heap.size w w' := by
  have huv := Try.underlying125
  have hun := Try.underlying134
  have HT := Aside0.mk h
  have HS := Aside0.mk hs
  have hvm := Kd.C_max h.v
  have p0 : w.cell? ⟨g, 0, none⟩ = some (.slice A0 V.length c0) := (blk_cell h.blk 0).trans rfl
  have p1 : w.cell? ⟨g, 1, none⟩ = some (.slice A1 N.length c1) := (blk_cell h.blk 1).trans rfl
  have hgl : g < w.heap.size := blk_lt h.blk
  clear h hs
  by_cases hV : 24 < V.length
  · have e1 : decide (24 < (V.length : Int)) = true := decide_eq_true (by omega)
    have e2 : decide (24 < V.length) = true := decide_eq_true hV
    have HG := Aside0.mk (show faultS V N B = 2 by unfold faultS; rw [if_pos (.inl hV)])
    clear hV
    go_enter Try.func88, Try.ntmps88
    go_wp2
    go_ret
    exact ⟨by rw [HG.out]; rfl, Below.refl _ _⟩
  by_cases hNn : 200 < N.length
  · have e1 : decide (24 < (V.length : Int)) = false := decide_eq_false (by omega)
    have e2 : decide (24 < V.length) = false := decide_eq_false hV
    have e3 : decide (200 < (N.length : Int)) = true := decide_eq_true (by omega)
    have e4 : decide (200 < N.length) = true := decide_eq_true hNn
    have HG := Aside0.mk (show faultS V N B = 2 by unfold faultS; rw [if_pos (.inr hNn)])
    clear hNn hV
    go_enter Try.func88, Try.ntmps88
    go_wp2
    go_ret
    exact ⟨by rw [HG.out]; rfl, Below.refl _ _⟩
  have e1 : decide (24 < (V.length : Int)) = false := decide_eq_false (by omega)
  have e2 : decide (24 < V.length) = false := decide_eq_false hV
  have e3 : decide (200 < (N.length : Int)) = false := decide_eq_false (by omega)
  have e4 : decide (200 < N.length) = false := decide_eq_false hNn
  have hVl : V.length ≤ 24 := by omega
  have hNl : N.length ≤ 200 := by omega
  have HG := Aside0.mk (show faultS V N B = _ from by unfold faultS; rw [if_neg (by omega)])
  clear hV hNn
  go_enter Try.func88, Try.ntmps88
  go_wp2
  clear e1 e2 e3 e4
  go_loopg [3] V.length (fun gg s3 wr => ∃ kk : Nat, s3 = .int .i64 (kk : Int) ∧ Aside0 (kk ≤ V.length ∧ V.length - kk ≤ gg) ∧ Aside0 (Below w.heap.size w wr) ∧ Aside0 (∀ (j : Nat) (y : S125), j < kk → V[j]? = some y → vf y = 0))
  case atStart => exact ⟨0, rfl, ⟨by omega⟩, ⟨Below.refl _ _⟩, ⟨fun j _ hj => absurd hj (Nat.not_lt_zero _)⟩⟩
  case round =>
    obtain ⟨wa, rfl⟩ : ∃ wa : World, wa = wr := ⟨_, rfl⟩
    obtain ⟨kk, rfl, HK, HB, HA⟩ := hrel
    have q0 := pw_cell_below HB.out p0
    by_cases hlt : kk < V.length
    · have hltz : (kk : Int) < (V.length : Int) := by omega
      have hd : decide ((kk : Int) < (V.length : Int)) = true := decide_eq_true hltz
      have hd' : decide (kk < V.length) = true := decide_eq_true hlt
      obtain ⟨ad, rfl, hc0, hc1, hc2, hc3⟩ := at_T125 (Kd.C_below HT.out.v HB.out) kk (by omega) (by omega)
      rw [Int.toNat_natCast] at hc0 hc1 hc2 hc3
      have HX := Aside0.mk (rdV_get hlt)
      have hsz := HS.out.vn _ (rdV_mem hlt)
      have hltq := eq_true hltz
      have h0q : (0 ≤ (kk : Int)) = True := eq_true (by omega)
      revert hc0 hc1 hc2 hc3 HX hsz
      generalize rd_T125 V (kk : Int) = v
      intro hc0 hc1 hc2 hc3 HX hsz
      have HVB := Aside0.mk (fun (c : Int) (hc : vf v = c) (h0 : c ≠ 0) => (show faultS V N B = c by rw [HG.out, varsF_bad V kk v HX.out HA.out (by rw [hc]; exact h0), hc, if_pos h0]))
      clear hlt
      go_wp2_with fail
      refine (w_IsName' _ hsz _).mono ?_
      rintro e w1 ⟨rfl, hb⟩
      have BK1 := Aside0.mk (blk_below (blk_new wa (.cells #[.string v.f0, .int .i64 v.f1, .int .i64 v.f2, .int .i64 v.f3] 125)) hb)
      have HB1 := Aside0.mk (below_step (HB.out.alloc (below_size HB.out) _) hb)
      have x1 : w1.cell? ⟨wa.heap.size, 1, none⟩ = some (.int .i64 v.f1) := (blk_cell BK1.out 1).trans rfl
      have x2 : w1.cell? ⟨wa.heap.size, 2, none⟩ = some (.int .i64 v.f2) := (blk_cell BK1.out 2).trans rfl
      have x3 : w1.cell? ⟨wa.heap.size, 3, none⟩ = some (.int .i64 v.f3) := (blk_cell BK1.out 3).trans rfl
      clear hb hc0 hc1 hc2 hc3 BK1
      go_wp2_with ((go_at_call 67; refine (d_l1In _ _ _ _).mono ?_; rintro e w' ⟨rfl, q, rfl⟩))
      all_goals first
        | (go_roundg (V.length - (kk + 1))
           case measure => have := HK.out; omega
           case rel =>
             refine ⟨kk + 1, by go_num, ⟨by have := HK.out; omega⟩, ⟨by repeat (first | exact HB1.out | apply pw_below_drewN)⟩, ⟨fun j y hj hy => ?_⟩⟩
             by_cases e : j = kk
             · subst e
               rw [HX.out] at hy
               cases hy
               simp_all [vf]
             · exact HA.out j y (by omega) hy)
        | (go_ret
           refine ⟨?_, by repeat (first | exact HB1.out | apply pw_below_drewN)⟩
           first
             | (rw [HVB.out 5 (by simp_all [vf]) (by decide)]; rfl)
             | (rw [HVB.out 3 (by simp_all [vf]) (by decide)]; rfl))
    · have hd : decide ((kk : Int) < (V.length : Int)) = false := decide_eq_false (by omega)
      have hd' : decide (kk < V.length) = false := decide_eq_false hlt
      have HGv := Aside0.mk (show faultS V N B = _ from by rw [HG.out, varsF_good V (fun j y hy => HA.out j y (by have := (List.getElem?_eq_some_iff.1 hy).1; have := HK.out; omega) hy), if_neg (by decide)])
      clear HA HG
      go_wp2
      clear q0
      go_loopg [5] N.length (fun gg s5 wr => ∃ kk : Nat, s5 = .int .i64 (kk : Int) ∧ Aside0 (kk ≤ N.length ∧ N.length - kk ≤ gg) ∧ Aside0 (Below w.heap.size w wr) ∧ Aside0 (∀ j : Nat, j < kk → rightB N j (rd_T134 N (j : Int)) = true))
      case atStart => exact ⟨0, rfl, ⟨by omega⟩, HB, ⟨fun j hj => absurd hj (Nat.not_lt_zero _)⟩⟩
      case round =>
        clear HB
        obtain ⟨wb, rfl⟩ : ∃ wb : World, wb = wr := ⟨_, rfl⟩
        obtain ⟨kk, rfl, HK, HB, HA⟩ := hrel
        have q1 := pw_cell_below HB.out p1
        by_cases hlt : kk < N.length
        · have hltz : (kk : Int) < (N.length : Int) := by omega
          have hd : decide ((kk : Int) < (N.length : Int)) = true := decide_eq_true hltz
          have hd' : decide (kk < N.length) = true := decide_eq_true hlt
          go_wp2_with fail
          refine (spec_l4Right.w g V N B A0 A1 A2 c0 c1 c2 kk hlt (by omega) wb (HT.out.below HB.out) HS.out).mono ?_
          rintro e w1 ⟨rfl, hb⟩
          have HB1 := Aside0.mk (below_step HB.out hb)
          clear hb
          cases hr : rightB N kk (rd_T134 N (kk : Int)) with
          | false =>
            have HR := Aside0.mk (show faultS V N B = 1 by rw [HGv.out, if_pos (nodesS_bad hlt hr)])
            clear hr
            go_wp2
            go_ret
            exact ⟨by rw [HR.out]; rfl, HB1.out⟩
          | true =>
            have HR := Aside0.mk hr
            clear hr
            go_wp2
            go_roundg (N.length - (kk + 1))
            case measure => have := HK.out; omega
            case rel => exact ⟨kk + 1, by go_num, ⟨by omega⟩, HB1, ⟨fun j hj => if e : j = kk then by subst e; exact HR.out else HA.out j (by omega)⟩⟩
        · have hd : decide ((kk : Int) < (N.length : Int)) = false := decide_eq_false (by omega)
          have hd' : decide (kk < N.length) = false := decide_eq_false hlt
          have HNG := Aside0.mk (nodesS_good (fun k hk => HA.out k (by have := HK.out; omega)))
          have HGn := Aside0.mk (show faultS V N B = _ from by rw [HGv.out, if_neg (by rw [HNG.out]; decide)])
          have HFR := Aside0.mk (flat_rangeS HNG.out)
          have q2 : wb.cell? ⟨g, 2, none⟩ = some (.slice A2 B.length c2) := pw_cell_below HB.out ((blk_cell HT.out.blk 2).trans rfl)
          have HRF := Aside0.mk (fun (W : World) (hb : Below w.heap.size w W) => spec_l4Refs.w g V N B A0 A1 A2 c0 c1 c2 N.length (Nat.le_refl _) (by omega) A2 c2 B false W (HT.out.below hb) (Kd.C_below HT.out.b hb))
          clear HA HGv
          go_wp2_with fail
          go_region_held3 (fun w' => w'.cell? ⟨g, 1, none⟩ = some (.slice A1 N.length c1) ∧ w'.cell? ⟨g, 2, none⟩ = some (.slice A2 B.length c2)) (first | go_keep | (go_split_ands; refine ⟨?_, ?_⟩ <;> exact pw_cell_below hb (by assumption)))
            (first | (go_at_call 130; refine (HRF.out _ (by repeat (first | exact HB.out | apply pw_below_drewN))).mono ?_; rintro e w' ⟨rfl, hb⟩))
          all_goals
            have HB1 := Aside0.mk (below_step (pw_below_drewN HB.out _) hb)
            clear hb
            cases hrb : B.all (refB N N.length false) with
            | false =>
              have HR := Aside0.mk (show faultS V N B = 1 by rw [HGn.out, if_pos hrb])
              clear hrb
              go_wp2
              go_ret
              exact ⟨by rw [HR.out]; rfl, HB1.out⟩
            | true =>
              have HGb := Aside0.mk (show faultS V N B = _ from by rw [HGn.out, if_neg (by rw [hrb]; decide)])
              have HBR := Aside0.mk (fun x hx => (by have := ref_range hrb hx; omega) : ∀ x ∈ B, 0 ≤ x ∧ x < (N.length : Int))
              clear hrb HB
              go_wp2_with fail
              refine (spec_l4Count.w g V N B A0 A1 A2 c0 c1 c2 w' (HT.out.below HB1.out) HS.out hNl (fun x hx => (List.mem_append.1 hx).elim (HFR.out x) (HBR.out x))).mono ?_
              rintro e w2 ⟨v2, rfl, ho, hb2⟩
              obtain ⟨Ao, co, eo⟩ := Kd.R_slice ho
              subst eo
              have HC := Aside0.mk (Kd.R_reads' ho).2.2
              have hcl : (cntL N.length (flatN N ++ B)).length = N.length := cntL_length _ _
              have HB2 := Aside0.mk (below_step HB1.out hb2)
              clear ho hb2
              revert HC hcl HGb
              generalize cntL N.length (flatN N ++ B) = xs
              intro HGb HC hcl
              have hxl : xs.length ≤ 200 := by omega
              clear hcl q1 q2
              go_wp2
              go_loopg [7] xs.length (fun gg s7 wr => ∃ j : Nat, s7 = .int .i64 (j : Int) ∧ Aside0 (j ≤ xs.length ∧ xs.length - j ≤ gg) ∧ Aside0 (Below w2.heap.size w2 wr) ∧ Aside0 (∀ i, i < j → oneB (rd xs (i : Int)) = false))
              case atStart => exact ⟨0, rfl, ⟨by omega⟩, ⟨Below.refl _ _⟩, ⟨fun i hi => absurd hi (Nat.not_lt_zero _)⟩⟩
              case round =>
                obtain ⟨wc, rfl⟩ : ∃ wc : World, wc = wr := ⟨_, rfl⟩
                obtain ⟨j, rfl, HKj, HBj, HAj⟩ := hrel
                by_cases hj : j < xs.length
                · have hjz : (j : Int) < (xs.length : Int) := by omega
                  have hjd : decide ((j : Int) < (xs.length : Int)) = true := decide_eq_true hjz
                  have hjd' : decide (j < xs.length) = true := decide_eq_true hj
                  have hjq := eq_true hjz
                  have hj0 : (0 ≤ (j : Int)) = True := eq_true (by omega)
                  obtain ⟨adx, rfl, hx⟩ := Kd.at_int (Kd.C_below HC.out HBj.out) (j : Int) (by omega) hjz
                  rw [Int.toNat_natCast] at hx
                  cases hone : oneB (rd xs (j : Int)) with
                  | true =>
                    have HR := Aside0.mk (show faultS V N B = 1 by rw [HGb.out, if_pos (any_at hj hone)])
                    have hone' : ((rd xs (j : Int)) != 1) = true := hone
                    clear hone
                    go_wp2
                    go_ret
                    exact ⟨by rw [HR.out]; rfl, below_step HB2.out HBj.out⟩
                  | false =>
                    have hone' : ((rd xs (j : Int)) != 1) = false := hone
                    have HO := Aside0.mk hone
                    clear hone
                    go_wp2
                    go_roundg (xs.length - (j + 1))
                    case measure => have := HKj.out; omega
                    case rel => exact ⟨j + 1, by go_num, ⟨by omega⟩, HBj, ⟨fun i hi => if e : i = j then by subst e; exact HO.out else HAj.out i (by omega)⟩⟩
                · have hjd : decide ((j : Int) < (xs.length : Int)) = false := decide_eq_false (by omega)
                  have hjd' : decide (j < xs.length) = false := decide_eq_false hj
                  have HGc := Aside0.mk (show faultS V N B = _ from by rw [HGb.out, if_neg (by rw [any_none (fun i hi => HAj.out i (by have := HKj.out; omega))]; decide)])
                  have HB3 := Aside0.mk (below_step HB2.out HBj.out)
                  clear HGb HAj
                  go_wp2_with fail
                  refine (spec_l4Depths.w g V N B A0 A1 A2 c0 c1 c2 wc (HT.out.below HB3.out) (by omega)).mono ?_
                  rintro e w4 ⟨v4, rfl, ho, hb4⟩
                  obtain ⟨Ad, cd, ed⟩ := Kd.R_slice ho
                  subst ed
                  have HD := Aside0.mk (Kd.R_reads' ho).2.2
                  have hdl : (depthL N).length = N.length := depthL_length _
                  have HB4 := Aside0.mk (below_step HB3.out hb4)
                  clear ho hb4
                  revert HD hdl HGc
                  generalize depthL N = ys
                  intro HGc HD hdl
                  have hyl : ys.length ≤ 200 := by omega
                  clear hdl
                  go_wp2
                  go_loopg [9] ys.length (fun gg s9 wr => ∃ j : Nat, s9 = .int .i64 (j : Int) ∧ Aside0 (j ≤ ys.length ∧ ys.length - j ≤ gg) ∧ Aside0 (Below w4.heap.size w4 wr) ∧ Aside0 (∀ i, i < j → deepB (rd ys (i : Int)) = false))
                  case atStart => exact ⟨0, rfl, ⟨by omega⟩, ⟨Below.refl _ _⟩, ⟨fun i hi => absurd hi (Nat.not_lt_zero _)⟩⟩
                  case round =>
                    obtain ⟨j2, rfl, HKj2, HBj2, HAj2⟩ := hrel
                    by_cases hj2 : j2 < ys.length
                    · have hjz2 : (j2 : Int) < (ys.length : Int) := by omega
                      have hjd2 : decide ((j2 : Int) < (ys.length : Int)) = true := decide_eq_true hjz2
                      have hjd2' : decide (j2 < ys.length) = true := decide_eq_true hj2
                      have hjq2 := eq_true hjz2
                      have hj02 : (0 ≤ (j2 : Int)) = True := eq_true (by omega)
                      obtain ⟨ady, rfl, hy⟩ := Kd.at_int (Kd.C_below HD.out HBj2.out) (j2 : Int) (by omega) hjz2
                      rw [Int.toNat_natCast] at hy
                      cases hdp : deepB (rd ys (j2 : Int)) with
                      | true =>
                        have HR := Aside0.mk (show faultS V N B = 9 by rw [HGc.out, if_pos (any_at hj2 hdp)])
                        have hdp' : decide (20 < rd ys (j2 : Int)) = true := hdp
                        clear hdp
                        go_wp2
                        go_ret
                        exact ⟨by rw [HR.out]; rfl, below_step HB4.out HBj2.out⟩
                      | false =>
                        have hdp' : decide (20 < rd ys (j2 : Int)) = false := hdp
                        have HO := Aside0.mk hdp
                        clear hdp
                        go_wp2
                        go_roundg (ys.length - (j2 + 1))
                        case measure => have := HKj2.out; omega
                        case rel => exact ⟨j2 + 1, by go_num, ⟨by omega⟩, HBj2, ⟨fun i hi => if e : i = j2 then by subst e; exact HO.out else HAj2.out i (by omega)⟩⟩
                    · have hjd2 : decide ((j2 : Int) < (ys.length : Int)) = false := decide_eq_false (by omega)
                      have hjd2' : decide (j2 < ys.length) = false := decide_eq_false hj2
                      have HR := Aside0.mk (show faultS V N B = 0 by rw [HGc.out, if_neg (by rw [any_none (fun i hi => HAj2.out i (by have := HKj2.out; omega))]; decide)])
                      go_wp2
                      go_ret
                      exact ⟨by rw [HR.out]; rfl, below_step HB4.out HBj2.out⟩
/-! ### LIB costdef -/
def sumL (xs L : List Int) : Int := L.foldl (fun d x => d + rd xs x) 0
def roundsN (n : S134) : Int := max 0 (n.f4 - n.f3 + 1)
/-- What a node costs, over the costs of what it names. -/
def costN (n : S134) (s1 s2 s3 : Int) : Int := min 100000 (1 + s1 + (if n.f0 = 9 then max s2 s3 else if n.f0 = 10 then 2 + roundsN n * (3 + s2) else if n.f0 = 11 then 12 else 0))
def cstep (out : List Int) (n : S134) : List Int := out ++ [costN n (sumL out n.f5) (sumL out n.f6) (sumL out n.f7)]
def costL (N : List S134) : List Int := N.foldl cstep []
theorem sumL_snoc (xs L : List Int) (x : Int) : sumL xs (L ++ [x]) = sumL xs L + rd xs x := by simp [sumL, List.foldl_append]
theorem costL_snoc (N : List S134) (n : S134) : costL (N ++ [n]) = cstep (costL N) n := by simp [costL, List.foldl_append]
theorem costL_length (N : List S134) : (costL N).length = N.length := by
  have h : ∀ (N : List S134) (out : List Int), (N.foldl cstep out).length = out.length + N.length := by
    intro N
    induction N with
    | nil => intro out; rfl
    | cons a N ih => intro out; rw [List.foldl_cons, ih]; simp [cstep]; omega
  rw [costL, h]; simp
theorem rounds_nn (n : S134) : 0 ≤ roundsN n := by unfold roundsN; omega
theorem costN_bd (n : S134) (s1 s2 s3 : Int) (h1 : 0 ≤ s1) (h2 : 0 ≤ s2) (h3 : 0 ≤ s3) : 0 ≤ costN n s1 s2 s3 ∧ costN n s1 s2 s3 ≤ 100000 := by
  have hp : 0 ≤ roundsN n * (3 + s2) := Int.mul_nonneg (rounds_nn n) (by omega)
  unfold costN
  split
  · omega
  · split
    · omega
    · split <;> omega
theorem min_cap (s : Int) : (s ≤ 100000 ∧ min s 100000 = s) ∨ (100000 ≤ s ∧ min s 100000 = 100000) := by
  rcases Int.le_total s 100000 with h | h
  · exact .inl ⟨h, Int.min_eq_left h⟩
  · exact .inr ⟨h, Int.min_eq_right h⟩
/-- A cap that is laid at each sum lays no other cap at the whole. -/
theorem costN_cap (n : S134) (s1 s2 s3 : Int) (h1 : 0 ≤ s1) (h2 : 0 ≤ s2) (h3 : 0 ≤ s3) : costN n (min s1 100000) (min s2 100000) (min s3 100000) = costN n s1 s2 s3 := by
  unfold costN
  have m1 := min_cap s1
  have m2 := min_cap s2
  have m3 := min_cap s3
  revert m1 m2 m3
  generalize min s1 100000 = t1
  generalize min s2 100000 = t2
  generalize min s3 100000 = t3
  intro m1 m2 m3
  split
  · omega
  · split
    · have hr := rounds_nn n
      revert hr
      generalize roundsN n = r
      intro hr
      rcases m2 with ⟨_, rfl⟩ | ⟨hs, rfl⟩
      · have hp : 0 ≤ r * (3 + t2) := Int.mul_nonneg hr (by omega)
        omega
      · by_cases hz : r = 0
        · subst hz; simp only [Int.zero_mul]; omega
        · have h1 : 1 * (3 + (100000 : Int)) ≤ r * (3 + 100000) := Int.mul_le_mul_of_nonneg_right (by omega) (by omega)
          have h2 : 1 * (3 + s2) ≤ r * (3 + s2) := Int.mul_le_mul_of_nonneg_right (by omega) (by omega)
          omega
    · split <;> omega
theorem rd_bd {xs : List Int} {b : Int} (hb : 0 ≤ b) (h : ∀ x ∈ xs, 0 ≤ x ∧ x ≤ b) (i : Int) : 0 ≤ rd xs i ∧ rd xs i ≤ b := by
  unfold rd
  rw [List.getD_eq_getElem?_getD]
  cases he : xs[i.toNat]? with
  | none => simp; exact hb
  | some y => simpa using h y (List.mem_of_getElem? he)
theorem sumL_bd {xs : List Int} (h : ∀ x ∈ xs, 0 ≤ x ∧ x ≤ 100000) (L : List Int) : 0 ≤ sumL xs L ∧ sumL xs L ≤ 100000 * (L.length : Int) := by
  have key : ∀ (L : List Int) (d : Int), 0 ≤ d → 0 ≤ L.foldl (fun d x => d + rd xs x) d ∧ L.foldl (fun d x => d + rd xs x) d ≤ d + 100000 * (L.length : Int) := by
    intro L
    induction L with
    | nil => intro d hd; simp; omega
    | cons a L ih =>
      intro d hd
      rw [List.foldl_cons]
      have h1 := rd_bd (by decide) h a
      have h2 := ih (d + rd xs a) (by omega)
      simp only [List.length_cons]
      omega
  have := key L 0 (by omega)
  unfold sumL
  omega
theorem costL_bd (N : List S134) : ∀ x ∈ costL N, 0 ≤ x ∧ x ≤ 100000 := by
  have key : ∀ n, n ≤ N.length → ∀ x ∈ costL (N.take n), 0 ≤ x ∧ x ≤ 100000 := by
    intro n
    induction n with
    | zero => intro _ x hx; simp [costL] at hx
    | succ n ih =>
      intro hn x hx
      rw [List.take_succ_eq_append_getElem (by omega), costL_snoc] at hx
      have h := ih (by omega)
      rcases List.mem_append.1 hx with hx | hx
      · exact h x hx
      · rw [List.mem_singleton.1 hx]
        exact costN_bd _ _ _ _ (sumL_bd h _).1 (sumL_bd h _).1 (sumL_bd h _).1
  have := key N.length (Nat.le_refl _)
  rwa [List.take_length] at this
theorem costL_take (N : List S134) (i : Nat) (hi : i < N.length) : costL (N.take (i + 1)) = costL (N.take i) ++ [costN (rd_T134 N (i : Int)) (sumL (costL (N.take i)) (rd_T134 N (i : Int)).f5) (sumL (costL (N.take i)) (rd_T134 N (i : Int)).f6) (sumL (costL (N.take i)) (rd_T134 N (i : Int)).f7)] := by
  have e : rd_T134 N (i : Int) = N[i] := by simp [rd_T134, List.getD_eq_getElem?_getD, hi]
  rw [e, List.take_succ_eq_append_getElem hi, costL_snoc, cstep]
theorem costL_app (N M : List S134) : ∃ R, costL (N ++ M) = costL N ++ R := by
  induction M generalizing N with
  | nil => exact ⟨[], by simp⟩
  | cons a M ih =>
    obtain ⟨R, hR⟩ := ih (N ++ [a])
    refine ⟨[costN a (sumL (costL N) a.f5) (sumL (costL N) a.f6) (sumL (costL N) a.f7)] ++ R, ?_⟩
    rw [show N ++ a :: M = (N ++ [a]) ++ M by simp, hR, costL_snoc, cstep, List.append_assoc]
theorem cost_pre (N : List S134) (i : Nat) (hi : i ≤ N.length) (x : Int) (h0 : 0 ≤ x) (h1 : x < (i : Int)) : rd (costL (N.take i)) x = rd (costL N) x := by
  obtain ⟨R, hR⟩ := costL_app (N.take i) (N.drop i)
  rw [List.take_append_drop] at hR
  have hl : (costL (N.take i)).length = i := by rw [costL_length, List.length_take]; omega
  rw [hR]
  unfold rd
  rw [List.getD_eq_getElem?_getD, List.getD_eq_getElem?_getD, List.getElem?_append_left (by omega)]
theorem sumL_congr {xs ys L : List Int} (h : ∀ x ∈ L, rd xs x = rd ys x) : sumL xs L = sumL ys L := by
  have key : ∀ (L : List Int) (d : Int), (∀ x ∈ L, rd xs x = rd ys x) → L.foldl (fun d x => d + rd xs x) d = L.foldl (fun d x => d + rd ys x) d := by
    intro L
    induction L with
    | nil => intro d _; rfl
    | cons a L ih => intro d h; rw [List.foldl_cons, List.foldl_cons, h a (List.mem_cons_self ..), ih _ (fun x hx => h x (List.mem_cons_of_mem _ hx))]
  exact key L 0 h
/-- What a node names lies ahead of it. -/
structure Back (i : Nat) (n : S134) : Prop where
  k5 : ∀ x ∈ n.f5, 0 ≤ x ∧ x ≤ (i : Int) - 1
  k6 : ∀ x ∈ n.f6, 0 ≤ x ∧ x ≤ (i : Int) - 1
  k7 : ∀ x ∈ n.f7, 0 ≤ x ∧ x ≤ (i : Int) - 1
  far : n.f0 = 10 → (0 ≤ n.f3 ∧ n.f3 ≤ 65535) ∧ (0 ≤ n.f4 ∧ n.f4 ≤ 65535)
theorem fits_for {n : S134} (h : fitsB n = true) (hk : n.f0 = 10) : (0 ≤ n.f3 ∧ n.f3 ≤ 65535) ∧ (0 ≤ n.f4 ∧ n.f4 ≤ 65535) := by
  unfold fitsB at h
  repeat (rw [if_neg (by omega)] at h)
  rw [if_pos hk] at h
  unfold restB at h
  simp only [Bool.and_eq_true] at h
  obtain ⟨_, _, _, _, _, h3, h4⟩ := h
  exact ⟨inB_true h3, inB_true h4⟩
theorem backs {N : List S134} (h : nodesI N = true) {i : Nat} (hi : i < N.length) : Back i (rd_T134 N (i : Int)) := by
  have ho := List.all_eq_true.1 h i (List.mem_range.2 hi)
  unfold okI at ho
  simp only [Bool.and_eq_true] at ho
  obtain ⟨hf, h5, h6, h7⟩ := ho
  exact ⟨fun x hx => any_bad h5 hx, fun x hx => any_bad h6 hx, fun x hx => any_bad h7 hx, fits_for hf⟩
theorem cost_at {N : List S134} {i : Nat} (hi : i < N.length) (hb : Back i (rd_T134 N (i : Int))) : rd (costL N) (i : Int) = costN (rd_T134 N (i : Int)) (sumL (costL N) (rd_T134 N (i : Int)).f5) (sumL (costL N) (rd_T134 N (i : Int)).f6) (sumL (costL N) (rd_T134 N (i : Int)).f7) := by
  rw [← cost_pre N (i + 1) (by omega) (i : Int) (by omega) (by omega), costL_take N i hi]
  have hl : (costL (N.take i)).length = i := by rw [costL_length, List.length_take]; omega
  have hs : ∀ L : List Int, (∀ x ∈ L, 0 ≤ x ∧ x ≤ (i : Int) - 1) → sumL (costL (N.take i)) L = sumL (costL N) L := fun L hL => sumL_congr fun x hx => by
    have := hL x hx
    exact cost_pre N i (by omega) x this.1 (by omega)
  rw [hs _ hb.k5, hs _ hb.k6, hs _ hb.k7]
  unfold rd
  rw [List.getD_eq_getElem?_getD, Int.toNat_natCast, List.getElem?_append_right (by omega), hl]
  simp
theorem rounds_bd {i : Nat} {n : S134} (hb : Back i n) (hk : n.f0 = 10) : roundsN n ≤ 65536 := by
  have := hb.far hk
  unfold roundsN
  omega
/-- The product at a loop is small. -/
theorem prod_bd {i : Nat} {n : S134} (hb : Back i n) (hk : n.f0 = 10) {s : Int} (h0 : 0 ≤ s) (h1 : s ≤ 104857600000) : 0 ≤ roundsN n * (3 + s) ∧ roundsN n * (3 + s) ≤ 65536 * 104857600003 := by
  have h := rounds_bd hb hk
  refine ⟨Int.mul_nonneg (rounds_nn n) (by omega), ?_⟩
  exact Int.le_trans (Int.mul_le_mul_of_nonneg_right h (by omega)) (Int.mul_le_mul_of_nonneg_left (by omega) (by omega))
theorem fault_nodes {V : List S125} {N : List S134} {B : List Int} (h : faultI V N B = 0) : nodesI N = true := by
  unfold faultI at h
  split at h
  · omega
  split at h
  · omega
  split at h
  · omega
  rename_i hn
  simpa using hn
/-! ### LIB scosts -/
theorem w_l1Min (a b : Int) (w : World) : Calls Try.prog 120 #[.int .i64 a, .int .i64 b] w fun e w' => e = .returned (.int .i64 (min a b)) ∧ Below w.heap.size w w' := (spec_l1Min.calls a b _ w (by unfold spec_l1Min.f; rw [show min a b = (if a < b then a else b) by split <;> omega]; split <;> rfl)).mono fun e w' h => ⟨h.1, h.2.below⟩
theorem w_l1Max (a b : Int) (w : World) : Calls Try.prog 134 #[.int .i64 a, .int .i64 b] w fun e w' => e = .returned (.int .i64 (max a b)) ∧ Below w.heap.size w w' := (spec_l1Max.calls a b _ w (by unfold spec_l1Max.f; rw [show max a b = (if a > b then a else b) by split <;> omega]; split <;> rfl)).mono fun e w' h => ⟨h.1, h.2.below⟩
theorem l5Sum_run (xs L : List Int) (hx : ∀ x ∈ xs, 0 ≤ x ∧ x ≤ 100000) (hL : ∀ x ∈ L, 0 ≤ x ∧ x < (xs.length : Int)) (hl : L.length ≤ 1048576) : ∀ (k j : Nat), j ≤ L.length → L.length - j < k → spec_l5Sum.l0 k xs L (sumL xs (L.take j)) (j : Int) = some (sumL xs L) := by
  intro k
  induction k with
  | zero => intro j _ h; exact absurd h (Nat.not_lt_zero _)
  | succ k ih =>
    intro j hj h
    rw [spec_l5Sum.l0]
    by_cases hlt : j < L.length
    · have h1 : j + 1 ≤ L.length := hlt
      have h2 : L.length - (j + 1) < k := by omega
      have h3 := ih (j + 1) h1 h2
      have hm := hL _ (rd_mem hlt)
      have e1 : wrap64 (sumL xs (L.take j) + rd xs (rd L (j : Int))) = sumL xs (L.take (j + 1)) := by
        have hb := sumL_bd hx (L.take (j + 1))
        rw [List.length_take, Nat.min_eq_left h1] at hb
        have hs : sumL xs (L.take (j + 1)) = sumL xs (L.take j) + rd xs (rd L (j : Int)) := by rw [take_snoc_rd hlt, sumL_snoc]
        rw [← hs]
        revert hb
        generalize sumL xs (L.take (j + 1)) = s
        intro hb
        exact pb_wrap (by omega) (by omega)
      have e2 : wrap64 ((j : Int) + 1) = ((j + 1 : Nat) : Int) := by rw [pb_wrap (by omega) (by omega)]; rfl
      have h4 : (j : Int) < (L.length : Int) := by omega
      rw [if_pos h4, if_pos (by omega), if_pos hm.1, if_pos hm.2, e1, e2]
      exact h3
    · rw [if_neg (by omega), show L.take j = L from List.take_of_length_le (by omega)]
theorem w_l5Sum (xs L : List Int) (A0 A1 : Option Addr) (c0 c1 : Nat) (hx : ∀ x ∈ xs, 0 ≤ x ∧ x ≤ 100000) (hL : ∀ x ∈ L, 0 ≤ x ∧ x < (xs.length : Int)) (hl : L.length ≤ 1048576) (w : World) (h0 : Kd.C (Kd.int .i64) w A0 xs.length xs) (hc0 : xs.length ≤ c0) (h1 : Kd.C (Kd.int .i64) w A1 L.length L) (hc1 : L.length ≤ c1) :
    Calls Try.prog 133 #[.slice A0 xs.length c0, .slice A1 L.length c1] w fun e w' => e = .returned (.int .i64 (sumL xs L)) ∧ Below w.heap.size w w' :=
  (spec_l5Sum.calls (L.length + 1) A0 c0 xs A1 c1 L _ w h0 hc0 h1 hc1 (l5Sum_run xs L hx hL hl (L.length + 1) 0 (Nat.zero_le _) (by omega))).mono fun e w' h => ⟨h.1, h.2.below⟩
/-- A list that a node bears, and what its members cost together. -/
structure SOk (w0 : World) (xs : List Int) (A : Option Addr) (c : Nat) (F : List Int) (t : Int) : Prop where
  h : Kd.C (Kd.int .i64) w0 A F.length F
  r : ∀ x ∈ F, 0 ≤ x ∧ x < (xs.length : Int)
  l : F.length ≤ 1048576
  n : F.length ≤ c
  t : sumL xs F = t
theorem spec_l5Sum.k {w0 : World} {xs : List Int} {m : Nat} (hm : xs.length = m) {A : Option Addr} {c : Nat} {F : List Int} {t : Int} (h : SOk w0 xs A c F t) {A0 : Option Addr} {c0 : Nat} (hx : ∀ x ∈ xs, 0 ≤ x ∧ x ≤ 100000) (h0 : Kd.C (Kd.int .i64) w0 A0 m xs) (hc0 : m ≤ c0) (W : World) (hb : Below w0.heap.size w0 W) :
    Calls Try.prog 133 #[.slice A0 m c0, .slice A F.length c] W fun e w' => e = .returned (.int .i64 t) ∧ Below W.heap.size W w' := by
  subst hm
  rw [← h.t]
  exact w_l5Sum xs F A0 A c0 c hx h.r h.l W (Kd.C_below h0 hb) hc0 (Kd.C_below h.h hb) h.n
set_option maxHeartbeats 8000000 in
set_option maxRecDepth 100000 in
theorem spec_l5Costs.w (g : Nat) (V : List S125) (N : List S134) (B : List Int) (A0 A1 A2 : Option Addr) (c0 c1 c2 : Nat) (w : World) (h : TreeAt w g V N B A0 c0 A1 c1 A2 c2) (hN : N.length ≤ 1048576) (hk : ∀ x ∈ N, x.f5.length ≤ 1048576 ∧ x.f6.length ≤ 1048576 ∧ x.f7.length ≤ 1048576) (hno : nodesI N = true) :
    Calls Try.prog 89 #[.pointer (some ⟨g, 0, none⟩)] w fun e w' => ∃ v : Value, e = .returned v ∧ Kd.R (Kd.int .i64) 2 w' w.heap.size (fun _ => True) v (costL N) ∧ Below w.heap.size w w' := by
  have hu := Try.underlying134
  have q1 : w.cell? ⟨g, 1, none⟩ = some (.slice A1 N.length c1) := (blk_cell h.blk 1).trans rfl
  have HT := Aside0.mk h
  have HSK := Aside0.mk hk
  have HNO := Aside0.mk hno
  clear h hk hno
  go_enter Try.func89, Try.ntmps89
  go_wp2
  go_loopg [3, 4] N.length (fun gg s3 s4 wr => ∃ (i : Nat) (Ao : Option Addr) (co : Nat), s3 = .slice Ao i co ∧ s4 = .int .i64 (i : Int) ∧ Aside0 (i ≤ N.length ∧ N.length - i ≤ gg) ∧ Aside0 (Kd.R (Kd.int .i64) 2 wr w.heap.size (fun _ => True) (.slice Ao i co) (costL (N.take i))) ∧ Aside0 (Below w.heap.size w wr))
  case atStart => exact ⟨0, _, _, rfl, rfl, ⟨by omega⟩, ⟨Kd.R_of_own (enc := Value.int .i64) (h1 := fun _ => rfl) (xs := ([] : List Int)) (own_lit w w.heap.size 2 .i64 [] (Nat.le_refl _) (by simp)) (fun _ _ => trivial)⟩, ⟨(Below.refl _ _).alloc (Nat.le_refl _) _⟩⟩
  case round =>
    obtain ⟨wo, rfl⟩ : ∃ wo : World, wo = wr := ⟨_, rfl⟩
    obtain ⟨i, Ao, co, rfl, rfl, HK, HO, HB⟩ := hrel
    have hT := HT.out.below HB.out
    have q1' : wo.cell? ⟨g, 1, none⟩ = some (.slice A1 N.length c1) := (blk_cell hT.blk 1).trans rfl
    by_cases hlt : i < N.length
    · have hltz : (i : Int) < (N.length : Int) := by omega
      have hd : decide ((i : Int) < (N.length : Int)) = true := decide_eq_true hltz
      have hd' : decide (i < N.length) = true := decide_eq_true hlt
      have hltq := eq_true hltz
      have h0q : (0 ≤ (i : Int)) = True := eq_true (by omega)
      obtain ⟨ad, A5, c5, A6, c6, A7, c7, rfl, n0, n1, n2, n3, n4, n5, n6, n7, l5, r5, l6, r6, l7, r7⟩ := at_T134 hT.n (i : Int) (by omega) hltz
      rw [Int.toNat_natCast] at n0 n1 n2 n3 n4 n5 n6 n7
      have R5 := Aside0.mk r5
      have R6 := Aside0.mk r6
      have R7 := Aside0.mk r7
      clear hT r5 r6 r7
      have HBk := Aside0.mk (backs HNO.out hlt)
      have HK3 := Aside0.mk (HSK.out _ (rdN_mem hlt))
      have HFL := Aside0.mk (costL_take N i hlt)
      revert n0 n1 n2 n3 n4 n5 n6 n7 l5 l6 l7 R5 R6 R7 HBk HK3 HFL
      generalize rd_T134 N (i : Int) = nd
      obtain ⟨d0, d1, d2, d3, d4, F5, F6, F7⟩ := nd
      intro n0 n1 n2 n3 n4 n5 n6 n7 l5 l6 l7 R5 R6 R7 HBk HK3 HFL
      have hol : (costL (N.take i)).length = i := by rw [costL_length, List.length_take]; omega
      have hob := costL_bd (N.take i)
      revert HO HFL hol hob
      generalize costL (N.take i) = xs
      intro HO HFL hol hob
      have HOL := Aside0.mk hol
      have HOB := Aside0.mk hob
      have HRO := Aside0.mk (Kd.R_reads' HO.out)
      have HCO := Aside0.mk (show Kd.C (Kd.int .i64) wo Ao i xs by rw [← HOL.out]; exact HRO.out.2.2)
      have hic : i ≤ co := HRO.out.2.1
      have L5 := Aside0.mk (SOk.mk R5.out (fun x hx => by have := HBk.out.k5 x hx; have := HOL.out; omega) HK3.out.1 l5 rfl : SOk wo xs A5 c5 F5 _)
      have L6 := Aside0.mk (SOk.mk R6.out (fun x hx => by have := HBk.out.k6 x hx; have := HOL.out; omega) HK3.out.2.1 l6 rfl : SOk wo xs A6 c6 F6 _)
      have L7 := Aside0.mk (SOk.mk R7.out (fun x hx => by have := HBk.out.k7 x hx; have := HOL.out; omega) HK3.out.2.2 l7 rfl : SOk wo xs A7 c7 F7 _)
      have b5 := sumL_bd HOB.out F5
      have b6 := sumL_bd HOB.out F6
      have b7 := sumL_bd HOB.out F7
      have h5 := HK3.out.1
      have h6 := HK3.out.2.1
      have h7 := HK3.out.2.2
      simp only at h5 h6 h7
      revert HFL L5 L6 L7 b5 b6 b7
      rw [show (⟨d0, d1, d2, d3, d4, F5, F6, F7⟩ : S134).f5 = F5 from rfl, show (⟨d0, d1, d2, d3, d4, F5, F6, F7⟩ : S134).f6 = F6 from rfl, show (⟨d0, d1, d2, d3, d4, F5, F6, F7⟩ : S134).f7 = F7 from rfl]
      generalize sumL xs F5 = s5
      generalize sumL xs F6 = s6
      generalize sumL xs F7 = s7
      intro HFL L5 L6 L7 b5 b6 b7
      have e50 : 0 ≤ s5 := b5.1
      have e51 : s5 ≤ 104857600000 := by omega
      have e60 : 0 ≤ s6 := b6.1
      have e61 : s6 ≤ 104857600000 := by omega
      have e70 : 0 ≤ s7 := b7.1
      have e71 : s7 ≤ 104857600000 := by omega
      clear b5 b6 b7 h5 h6 h7 hol hob l5 l6 l7 HRO
      go_wp2_with fail
      have HW0 := Aside0.mk ((Below.refl wo.heap.size wo).alloc (Nat.le_refl _) (.cells #[.int .i64 d0, .int .i64 d1, .string d2, .int .i64 d3, .int .i64 d4, .slice A5 F5.length c5, .slice A6 F6.length c6, .slice A7 F7.length c7] 134))
      refine (spec_l5Sum.k HOL.out L5.out HOB.out HCO.out hic _ HW0.out).mono ?_
      rintro e w1 ⟨rfl, hb1⟩
      have BN1 := Aside0.mk (blk_below (blk_new wo (.cells #[.int .i64 d0, .int .i64 d1, .string d2, .int .i64 d3, .int .i64 d4, .slice A5 F5.length c5, .slice A6 F6.length c6, .slice A7 F7.length c7] 134)) hb1)
      have HW1 := Aside0.mk (below_step HW0.out hb1)
      clear hb1 HW0
      clear n0 n1 n2 n3 n4 n5 n6 n7
      have n0 : w1.cell? ⟨wo.heap.size, 0, none⟩ = some (.int .i64 d0) := (blk_cell BN1.out 0).trans rfl
      have n1 : w1.cell? ⟨wo.heap.size, 1, none⟩ = some (.int .i64 d1) := (blk_cell BN1.out 1).trans rfl
      have n2 : w1.cell? ⟨wo.heap.size, 2, none⟩ = some (.string d2) := (blk_cell BN1.out 2).trans rfl
      have n3 : w1.cell? ⟨wo.heap.size, 3, none⟩ = some (.int .i64 d3) := (blk_cell BN1.out 3).trans rfl
      have n4 : w1.cell? ⟨wo.heap.size, 4, none⟩ = some (.int .i64 d4) := (blk_cell BN1.out 4).trans rfl
      have n5 : w1.cell? ⟨wo.heap.size, 5, none⟩ = some (.slice A5 F5.length c5) := (blk_cell BN1.out 5).trans rfl
      have n6 : w1.cell? ⟨wo.heap.size, 6, none⟩ = some (.slice A6 F6.length c6) := (blk_cell BN1.out 6).trans rfl
      have n7 : w1.cell? ⟨wo.heap.size, 7, none⟩ = some (.slice A7 F7.length c7) := (blk_cell BN1.out 7).trans rfl
      by_cases k9 : d0 = 9
      · subst k9
        have HV := Aside0.mk (show costN ⟨9, d1, d2, d3, d4, F5, F6, F7⟩ s5 s6 s7 = min 100000 (1 + s5 + max s6 s7) from by unfold costN; rw [if_pos rfl])
        go_wp2_with fail
        go_region_held3 (fun w' => Below w1.heap.size w1 w' ∧ w'.cell? ⟨wo.heap.size, 6, none⟩ = some (.slice A6 F6.length c6) ∧ w'.cell? ⟨wo.heap.size, 7, none⟩ = some (.slice A7 F7.length c7)) (first | exact ⟨below_drew (Below.refl _ _), n6, n7⟩ | (go_split_ands; refine ⟨?_, ?_, ?_⟩ <;> first | exact pw_cell_below hb (by assumption) | exact below_step (by assumption) hb)) (first | (go_at_call 133; go_split_ands; (first | (with_reducible refine (spec_l5Sum.k HOL.out L6.out HOB.out HCO.out hic _ (below_step HW1.out ?_)).mono ?_) | (with_reducible refine (spec_l5Sum.k HOL.out L7.out HOB.out HCO.out hic _ (below_step HW1.out ?_)).mono ?_)); assumption; rintro e w' ⟨rfl, hb⟩) | (go_at_call 134; refine (w_l1Max _ _ _).mono ?_; rintro e w' ⟨rfl, hb⟩))
        all_goals
          go_split_ands
          have HBZ := Aside0.mk (below_step HW1.out (by assumption))
          have hmx : 0 ≤ max s6 s7 ∧ max s6 s7 ≤ 104857600000 := by omega
          revert HV hmx
          generalize max s6 s7 = mm
          intro HV hmx
          obtain ⟨hm0, hm1⟩ := hmx
          go_wp2_with fail
          refine (w_l1Min _ _ _).mono ?_
          rintro e w8 ⟨rfl, hb8⟩
          have HB8 := Aside0.mk (below_step HBZ.out hb8)
          have HO2 := Aside0.mk (Kd.R_below HO.out HB8.out)
          have HB2 := Aside0.mk (below_step HB.out HB8.out)
          clear hb8 HB8
          have hcm : 0 ≤ min 100000 (1 + s5 + mm) ∧ min 100000 (1 + s5 + mm) ≤ 100000 := by omega
          revert HV hcm
          generalize min 100000 (1 + s5 + mm) = dd
          intro HV hcm
          obtain ⟨hcm0, hcm1⟩ := hcm
          go_wp2_with ((with_reducible refine gate_builtin (b := .append) (xs := #[.tmp 66, .tmp 69]) rfl ?_); at_builtin; refine Kd.R_append (Kd.int .i64) (w0 := w) w.heap.size rfl (.tmp 66) (.tmp 69) 24 2 (.int .i64 0) 8 rfl Try.underlying24 info2 rfl (by decide) (by omega) (.slice Ao i co) xs dd [.int .i64 dd] (fun _ => True) (fun _ => False) rfl rfl ?aP (fun _ hk => hk.elim) (fun _ _ => trivial) HO2.out HB2.out (below_size HB2.out) ?aM ?_; (case aP => exact rfl); (case aM => have := HOL.out; omega); intro v1 w2 ho hb hg ha; clear hg ha; obtain ⟨A9, c9, e9⟩ := Kd.R_slice ho; rw [List.length_append, HOL.out] at e9; have e9 : v1 = .slice A9 (i + 1) c9 := e9; subst e9; have HO3 := Aside0.mk ho; have HB3 := Aside0.mk hb; clear ho hb)
          go_roundg (N.length - (i + 1))
          case measure => have := HK.out; omega
          case rel => exact ⟨i + 1, A9, c9, rfl, by go_num, ⟨by omega⟩, ⟨by rw [HFL.out, HV.out]; exact HO3.out⟩, HB3⟩
      · by_cases k10 : d0 = 10
        · subst k10
          have HV := Aside0.mk (show costN ⟨10, d1, d2, d3, d4, F5, F6, F7⟩ s5 s6 s7 = min 100000 (1 + s5 + (2 + roundsN ⟨10, d1, d2, d3, d4, F5, F6, F7⟩ * (3 + s6))) from by unfold costN; rw [if_neg (show ¬ ((10 : Int) = 9) by omega), if_pos rfl])
          have hfar := HBk.out.far rfl
          obtain ⟨⟨hf0, hf1⟩, hf2, hf3⟩ := hfar
          have hpr := prod_bd HBk.out rfl e60 e61
          have hro : roundsN ⟨10, d1, d2, d3, d4, F5, F6, F7⟩ = max 0 (d4 - d3 + 1) := rfl
          rw [hro] at HV hpr
          simp only at hf0 hf1 hf2 hf3
          have hmx : 0 ≤ max 0 (d4 - d3 + 1) := by omega
          have HMX := Aside0.mk (fun W => w_l1Max 0 (d4 - d3 + 1) W)
          revert HV hpr HMX
          generalize max 0 (d4 - d3 + 1) = rr
          intro HV hpr HMX
          obtain ⟨hp0, hp1⟩ := hpr
          clear hro
          have hw1 : IntKind.i64.wrap (3 + s6) = 3 + s6 := by rw [IntKind.wrap_i64]; omega
          have hw2 : IntKind.i64.wrap (rr * (3 + s6)) = rr * (3 + s6) := by rw [IntKind.wrap_i64]; omega
          have hw3 : IntKind.i64.wrap (1 + s5 + 2 + rr * (3 + s6)) = 1 + s5 + 2 + rr * (3 + s6) := by rw [IntKind.wrap_i64]; omega
          have hw4 : IntKind.i64.wrap (d4 - d3) = d4 - d3 := by rw [IntKind.wrap_i64]; omega
          have hw5 : IntKind.i64.wrap (d4 - d3 + 1) = d4 - d3 + 1 := by rw [IntKind.wrap_i64]; omega
          have hw6 : IntKind.i64.wrap (1 + s5 + 2) = 1 + s5 + 2 := by rw [IntKind.wrap_i64]; omega
          have HWR := Aside0.mk (And.intro hw1 (And.intro hw2 (And.intro hw6 (And.intro hw3 (And.intro hw4 hw5)))))
          clear hw1 hw2 hw3 hw4 hw5 hw6
          go_wp2_with fail
          go_region_held3 (fun w' => Below w1.heap.size w1 w' ∧ w'.cell? ⟨wo.heap.size, 3, none⟩ = some (.int .i64 d3) ∧ w'.cell? ⟨wo.heap.size, 4, none⟩ = some (.int .i64 d4) ∧ w'.cell? ⟨wo.heap.size, 6, none⟩ = some (.slice A6 F6.length c6)) (first | exact ⟨below_drew (Below.refl _ _), n3, n4, n6⟩ | (go_split_ands; refine ⟨?_, ?_, ?_, ?_⟩ <;> first | exact pw_cell_below hb (by assumption) | exact below_step (by assumption) hb)) (first | (go_at_call 133; go_split_ands; refine (spec_l5Sum.k HOL.out L6.out HOB.out HCO.out hic _ (below_step HW1.out ?_)).mono ?_; assumption; rintro e w' ⟨rfl, hb⟩) | (go_at_call 134; rw [HWR.out.2.2.2.2.1, HWR.out.2.2.2.2.2]; refine (HMX.out _).mono ?_; rintro e w' ⟨rfl, hb⟩))
          all_goals
            go_split_ands
            have HBZ := Aside0.mk (below_step HW1.out (by assumption))
            try simp only [HWR.out.1, HWR.out.2.1, HWR.out.2.2.1, HWR.out.2.2.2.1]
            clear HWR HMX
            revert HV hp0 hp1
            generalize rr * (3 + s6) = pp
            intro HV hp0 hp1
            go_wp2_with fail
            refine (w_l1Min _ _ _).mono ?_
            rintro e w8 ⟨rfl, hb8⟩
            have HB8 := Aside0.mk (below_step HBZ.out hb8)
            have HO2 := Aside0.mk (Kd.R_below HO.out HB8.out)
            have HB2 := Aside0.mk (below_step HB.out HB8.out)
            clear hb8 HB8
            have hcm : 0 ≤ min 100000 (1 + s5 + 2 + pp) ∧ min 100000 (1 + s5 + 2 + pp) ≤ 100000 := by omega
            rw [show 1 + s5 + (2 + pp) = 1 + s5 + 2 + pp by omega] at HV
            revert HV hcm
            generalize min 100000 (1 + s5 + 2 + pp) = dd
            intro HV hcm
            obtain ⟨hcm0, hcm1⟩ := hcm
            go_wp2_with ((with_reducible refine gate_builtin (b := .append) (xs := #[.tmp 66, .tmp 69]) rfl ?_); at_builtin; refine Kd.R_append (Kd.int .i64) (w0 := w) w.heap.size rfl (.tmp 66) (.tmp 69) 24 2 (.int .i64 0) 8 rfl Try.underlying24 info2 rfl (by decide) (by omega) (.slice Ao i co) xs dd [.int .i64 dd] (fun _ => True) (fun _ => False) rfl rfl ?aP (fun _ hk => hk.elim) (fun _ _ => trivial) HO2.out HB2.out (below_size HB2.out) ?aM ?_; (case aP => exact rfl); (case aM => have := HOL.out; omega); intro v1 w2 ho hb hg ha; clear hg ha; obtain ⟨A9, c9, e9⟩ := Kd.R_slice ho; rw [List.length_append, HOL.out] at e9; have e9 : v1 = .slice A9 (i + 1) c9 := e9; subst e9; have HO3 := Aside0.mk ho; have HB3 := Aside0.mk hb; clear ho hb)
            go_roundg (N.length - (i + 1))
            case measure => have := HK.out; omega
            case rel => exact ⟨i + 1, A9, c9, rfl, by go_num, ⟨by omega⟩, ⟨by rw [HFL.out, HV.out]; exact HO3.out⟩, HB3⟩
        · by_cases k11 : d0 = 11
          · subst k11
            have HV := Aside0.mk (show costN ⟨11, d1, d2, d3, d4, F5, F6, F7⟩ s5 s6 s7 = min 100000 (1 + s5 + 12) from by unfold costN; rw [if_neg (show ¬ ((11 : Int) = 9) by omega), if_neg (show ¬ ((11 : Int) = 10) by omega), if_pos rfl])
            have HBZ := HW1
            go_wp2_with fail
            refine (w_l1Min _ _ _).mono ?_
            rintro e w8 ⟨rfl, hb8⟩
            have HB8 := Aside0.mk (below_step HBZ.out hb8)
            have HO2 := Aside0.mk (Kd.R_below HO.out HB8.out)
            have HB2 := Aside0.mk (below_step HB.out HB8.out)
            clear hb8 HB8
            have hcm : 0 ≤ min 100000 (1 + s5 + 12) ∧ min 100000 (1 + s5 + 12) ≤ 100000 := by omega
            revert HV hcm
            generalize min 100000 (1 + s5 + 12) = dd
            intro HV hcm
            obtain ⟨hcm0, hcm1⟩ := hcm
            go_wp2_with ((with_reducible refine gate_builtin (b := .append) (xs := #[.tmp 66, .tmp 69]) rfl ?_); at_builtin; refine Kd.R_append (Kd.int .i64) (w0 := w) w.heap.size rfl (.tmp 66) (.tmp 69) 24 2 (.int .i64 0) 8 rfl Try.underlying24 info2 rfl (by decide) (by omega) (.slice Ao i co) xs dd [.int .i64 dd] (fun _ => True) (fun _ => False) rfl rfl ?aP (fun _ hk => hk.elim) (fun _ _ => trivial) HO2.out HB2.out (below_size HB2.out) ?aM ?_; (case aP => exact rfl); (case aM => have := HOL.out; omega); intro v1 w2 ho hb hg ha; clear hg ha; obtain ⟨A9, c9, e9⟩ := Kd.R_slice ho; rw [List.length_append, HOL.out] at e9; have e9 : v1 = .slice A9 (i + 1) c9 := e9; subst e9; have HO3 := Aside0.mk ho; have HB3 := Aside0.mk hb; clear ho hb)
            go_roundg (N.length - (i + 1))
            case measure => have := HK.out; omega
            case rel => exact ⟨i + 1, A9, c9, rfl, by go_num, ⟨by omega⟩, ⟨by rw [HFL.out, HV.out]; exact HO3.out⟩, HB3⟩
          · have k9d : decide (d0 = 9) = false := decide_eq_false k9
            have k9b : (d0 == 9) = false := by simp [k9]
            have k10b : (d0 == 10) = false := by simp [k10]
            have k11b : (d0 == 11) = false := by simp [k11]
            have HV := Aside0.mk (show costN ⟨d0, d1, d2, d3, d4, F5, F6, F7⟩ s5 s6 s7 = min 100000 (1 + s5 + 0) from by unfold costN; rw [if_neg k9, if_neg k10, if_neg k11])
            have HBZ := HW1
            go_wp2_with fail
            refine (w_l1Min _ _ _).mono ?_
            rintro e w8 ⟨rfl, hb8⟩
            have HB8 := Aside0.mk (below_step HBZ.out hb8)
            have HO2 := Aside0.mk (Kd.R_below HO.out HB8.out)
            have HB2 := Aside0.mk (below_step HB.out HB8.out)
            clear hb8 HB8
            have hcm : 0 ≤ min 100000 (1 + s5) ∧ min 100000 (1 + s5) ≤ 100000 := by omega
            rw [show 1 + s5 + 0 = 1 + s5 by omega] at HV
            revert HV hcm
            generalize min 100000 (1 + s5) = dd
            intro HV hcm
            obtain ⟨hcm0, hcm1⟩ := hcm
            go_wp2_with ((with_reducible refine gate_builtin (b := .append) (xs := #[.tmp 66, .tmp 69]) rfl ?_); at_builtin; refine Kd.R_append (Kd.int .i64) (w0 := w) w.heap.size rfl (.tmp 66) (.tmp 69) 24 2 (.int .i64 0) 8 rfl Try.underlying24 info2 rfl (by decide) (by omega) (.slice Ao i co) xs dd [.int .i64 dd] (fun _ => True) (fun _ => False) rfl rfl ?aP (fun _ hk => hk.elim) (fun _ _ => trivial) HO2.out HB2.out (below_size HB2.out) ?aM ?_; (case aP => exact rfl); (case aM => have := HOL.out; omega); intro v1 w2 ho hb hg ha; clear hg ha; obtain ⟨A9, c9, e9⟩ := Kd.R_slice ho; rw [List.length_append, HOL.out] at e9; have e9 : v1 = .slice A9 (i + 1) c9 := e9; subst e9; have HO3 := Aside0.mk ho; have HB3 := Aside0.mk hb; clear ho hb)
            go_roundg (N.length - (i + 1))
            case measure => have := HK.out; omega
            case rel => exact ⟨i + 1, A9, c9, rfl, by go_num, ⟨by omega⟩, ⟨by rw [HFL.out, HV.out]; exact HO3.out⟩, HB3⟩
    · have hd : decide ((i : Int) < (N.length : Int)) = false := decide_eq_false (by omega)
      have hd' : decide (i < N.length) = false := decide_eq_false hlt
      have HLt := Aside0.mk (show N.take i = N from List.take_of_length_le (by omega))
      clear hT
      go_wp2
      go_ret
      exact ⟨_, rfl, by have := HO.out; rw [HLt.out] at this; exact this, HB.out⟩
/-! ### LIB icosts -/
theorem capped (s : Int) : (if (100000 : Int) < s then 100000 else s) = min s 100000 := by
  rcases min_cap s with ⟨h, e⟩ | ⟨h, e⟩
  · rw [e, if_neg (by omega)]
  · rw [e]; split <;> omega
/-- What nodes cost, if each of them costs what the list says. -/
def CostAt (v0 v2 : Value) (A1 : Option Addr) (c1 : Nat) (N : List S134) (j : Nat) : Prop := ∀ w, Kd.C k134 w A1 N.length N → Calls Try.prog 93 #[.agg #[v0, .slice A1 N.length c1, v2], .int .i64 (j : Int)] w fun e w' => e = .returned (.int .i64 (rd (costL N) (j : Int))) ∧ Below w.heap.size w w'
set_option maxHeartbeats 2000000 in
set_option maxRecDepth 100000 in
theorem impl_costs.w (v0 v2 : Value) (A1 : Option Addr) (c1 : Nat) (N : List S134) (i : Nat) (IH : ∀ j, j < i → CostAt v0 v2 A1 c1 N j) (A : Option Addr) (c : Nat) (L : List Int) (hL : ∀ x ∈ L, 0 ≤ x ∧ x ≤ (i : Int) - 1) (hLl : L.length ≤ 1048576) (w : World) (hr : Kd.C k134 w A1 N.length N) (hl : Kd.C (Kd.int .i64) w A L.length L) :
    Calls Try.prog 146 #[.agg #[v0, .slice A1 N.length c1, v2], .slice A L.length c] w fun e w' => e = .returned (.int .i64 (min (sumL (costL N) L) 100000)) ∧ Below w.heap.size w w' := by
  have hu := Try.underlying68
  have HR := Aside0.mk hr
  have HL := Aside0.mk hl
  have HI := Aside0.mk IH
  have HLR := Aside0.mk hL
  clear hr hl IH hL
  go_enter Try.func146, Try.ntmps146
  go_wp2
  go_loopg [5, 10] L.length (fun gg s5 s10 wr => ∃ j : Nat, s10 = .int .i64 (j : Int) ∧ s5 = .int .i64 (sumL (costL N) (L.take j)) ∧ Aside0 (j ≤ L.length ∧ L.length - j ≤ gg) ∧ Aside0 (wr.heap[w.heap.size]? = some (.cells #[v0, .slice A1 N.length c1, v2] 68 (0, 0))) ∧ Aside0 (Below w.heap.size w wr))
  case atStart => exact ⟨0, rfl, by rw [List.take_zero]; rfl, ⟨by omega⟩, ⟨blk_new w _⟩, ⟨(Below.refl _ _).alloc (Nat.le_refl _) _⟩⟩
  case round =>
    obtain ⟨wo, rfl⟩ : ∃ wo : World, wo = wr := ⟨_, rfl⟩
    obtain ⟨j, rfl, rfl, HK, BKT, HB⟩ := hrel
    have q0 : wo.cell? ⟨w.heap.size, 0, none⟩ = some v0 := (blk_cell BKT.out 0).trans rfl
    have q1 : wo.cell? ⟨w.heap.size, 1, none⟩ = some (.slice A1 N.length c1) := (blk_cell BKT.out 1).trans rfl
    have q2 : wo.cell? ⟨w.heap.size, 2, none⟩ = some v2 := (blk_cell BKT.out 2).trans rfl
    by_cases hj : j < L.length
    · have hjz : (j : Int) < (L.length : Int) := by omega
      have hjd : decide ((j : Int) < (L.length : Int)) = true := decide_eq_true hjz
      have hjd' : decide (j < L.length) = true := decide_eq_true hj
      have hjq := eq_true hjz
      have hj0 : (0 ≤ (j : Int)) = True := eq_true (by omega)
      obtain ⟨adL, rfl, hx⟩ := Kd.at_int (Kd.C_below HL.out HB.out) (j : Int) (by omega) hjz
      rw [Int.toNat_natCast] at hx
      have HSN := Aside0.mk (show sumL (costL N) (L.take (j + 1)) = _ from by rw [take_snoc_rd hj, sumL_snoc])
      have hbd := sumL_bd (costL_bd N) (L.take j)
      rw [List.length_take, Nat.min_eq_left (by omega)] at hbd
      have hrb := rd_bd (by decide) (costL_bd N) (rd L (j : Int))
      obtain ⟨hx0, hx1⟩ := HLR.out _ (rd_mem hj)
      obtain ⟨m, hm⟩ := Int.eq_ofNat_of_zero_le hx0
      have HC := Aside0.mk (HI.out m (by omega) wo (Kd.C_below HR.out HB.out))
      revert hx HSN hbd hrb
      rw [hm]
      generalize sumL (costL N) (L.take j) = s
      intro hx HSN hbd hrb
      obtain ⟨hb0, hb1⟩ := hbd
      obtain ⟨hr0, hr1⟩ := hrb
      clear hx0 hx1 hm
      go_wp2_with fail
      refine HC.out.mono ?_
      rintro e w1 ⟨rfl, hb⟩
      have BK1 := Aside0.mk (blk_below BKT.out hb)
      have HB1 := Aside0.mk (below_step HB.out hb)
      clear hb HC BKT HB q0 q1 q2 hx
      go_wp2
      go_roundg (L.length - (j + 1))
      case measure => have := HK.out; omega
      case rel => exact ⟨j + 1, by go_num, by rw [HSN.out], ⟨by omega⟩, BK1, HB1⟩
    · have hjd : decide ((j : Int) < (L.length : Int)) = false := decide_eq_false (by omega)
      have hjd' : decide (j < L.length) = false := decide_eq_false hj
      have hLt : L.take j = L := List.take_of_length_le (by omega)
      rw [hLt]
      have HM := Aside0.mk (capped (sumL (costL N) L))
      clear hLt
      go_wp2
      all_goals
        go_ret
        exact ⟨by rw [← HM.out]; first | rfl | (rw [if_pos (by first | assumption | omega)]; rfl) | (rw [if_neg (by first | assumption | omega)]; rfl), HB.out⟩
theorem maxed (x : Int) : (if x < 0 then 0 else x) = max 0 x := by
  split <;> omega
set_option maxHeartbeats 1000000 in
set_option maxRecDepth 100000 in
theorem impl_rounds.w (d0 d1 : Int) (d2 : ByteArray) (d3 d4 : Int) (F5 F6 F7 : List Int) (A5 A6 A7 : Option Addr) (c5 c6 c7 : Nat) (h3 : 0 ≤ d3 ∧ d3 ≤ 65535) (h4 : 0 ≤ d4 ∧ d4 ≤ 65535) (w : World) :
    Calls Try.prog 147 #[.agg #[.int .i64 d0, .int .i64 d1, .string d2, .int .i64 d3, .int .i64 d4, .slice A5 F5.length c5, .slice A6 F6.length c6, .slice A7 F7.length c7]] w fun e w' => e = .returned (.int .i64 (roundsN ⟨d0, d1, d2, d3, d4, F5, F6, F7⟩)) ∧ Below w.heap.size w w' := by
  have hu := Try.underlying134
  obtain ⟨h30, h31⟩ := h3
  obtain ⟨h40, h41⟩ := h4
  have HM := Aside0.mk (maxed (d4 - d3 + 1))
  go_enter Try.func147, Try.ntmps147
  go_wp2
  all_goals
    go_ret
    refine ⟨?_, (Below.refl _ _).alloc (Nat.le_refl _) _⟩
    unfold roundsN
    show _ = Ending.returned (.int .i64 (max 0 (d4 - d3 + 1)))
    rw [← HM.out]
    first | rfl | (rw [if_pos (by first | assumption | omega)]; rfl) | (rw [if_neg (by first | assumption | omega)]; rfl)
/-- A list that a node bears, and what its members cost. -/
structure LOk (w0 : World) (xs : List Int) (i : Nat) (A : Option Addr) (F : List Int) (t : Int) : Prop where
  c : Kd.C (Kd.int .i64) w0 A F.length F
  r : ∀ x ∈ F, 0 ≤ x ∧ x ≤ (i : Int) - 1
  l : F.length ≤ 1048576
  t : min (sumL xs F) 100000 = t
theorem impl_costs.k {v0 v2 : Value} {A1 : Option Addr} {c1 : Nat} {N : List S134} {i : Nat} (IH : ∀ j, j < i → CostAt v0 v2 A1 c1 N j) {w0 : World} {A : Option Addr} {F : List Int} {t : Int} (h : LOk w0 (costL N) i A F t) (c : Nat) (hr : Kd.C k134 w0 A1 N.length N) (W : World) (hb : Below w0.heap.size w0 W) :
    Calls Try.prog 146 #[.agg #[v0, .slice A1 N.length c1, v2], .slice A F.length c] W fun e w' => e = .returned (.int .i64 t) ∧ Below W.heap.size W w' := by
  rw [← h.t]
  exact impl_costs.w v0 v2 A1 c1 N i IH A c F h.r h.l W (Kd.C_below hr hb) (Kd.C_below h.c hb)
set_option maxHeartbeats 4000000 in
set_option maxRecDepth 100000 in
theorem impl_cost.w (v0 v2 : Value) (A1 : Option Addr) (c1 : Nat) (N : List S134) (hN : N.length ≤ 1048576) (hk : ∀ x ∈ N, x.f5.length ≤ 1048576 ∧ x.f6.length ≤ 1048576 ∧ x.f7.length ≤ 1048576) (hno : nodesI N = true) : ∀ i, i < N.length → CostAt v0 v2 A1 c1 N i := by
  intro i
  induction i using Nat.strongRecOn with
  | ind i IH0 =>
    intro hi w hr
    have hu := Try.underlying68
    have hun := Try.underlying134
    have IH := Aside0.mk (fun j (hj : j < i) => IH0 j hj (by omega : j < N.length))
    have HBk := Aside0.mk (backs hno hi)
    have HCA := Aside0.mk (cost_at hi HBk.out)
    have HK3 := Aside0.mk (hk _ (rdN_mem hi))
    have HA0 := Aside0.mk ((Below.refl w.heap.size w).alloc (Nat.le_refl _) (.cells #[v0, .slice A1 N.length c1, v2] 68))
    have hr1 := Kd.C_below hr HA0.out
    have HR := Aside0.mk hr1
    have hiz : (i : Int) < (N.length : Int) := by omega
    have hizq := eq_true hiz
    have hi0q : (0 ≤ (i : Int)) = True := eq_true (by omega)
    obtain ⟨ad, A5, c5, A6, c6, A7, c7, rfl, n0, n1, n2, n3, n4, n5, n6, n7, l5, r5, l6, r6, l7, r7⟩ := at_T134 hr1 (i : Int) (by omega) hiz
    rw [Int.toNat_natCast] at n0 n1 n2 n3 n4 n5 n6 n7
    have R5 := Aside0.mk r5
    have R6 := Aside0.mk r6
    have R7 := Aside0.mk r7
    clear r5 r6 r7 l5 l6 l7 hr hr1 hk hno IH0
    revert HBk HCA HK3 n0 n1 n2 n3 n4 n5 n6 n7 R5 R6 R7
    generalize rd_T134 N (i : Int) = nd
    obtain ⟨d0, d1, d2, d3, d4, F5, F6, F7⟩ := nd
    intro HBk HCA HK3 n0 n1 n2 n3 n4 n5 n6 n7 R5 R6 R7
    have hS5 := sumL_bd (costL_bd N) F5
    have hS6 := sumL_bd (costL_bd N) F6
    have hS7 := sumL_bd (costL_bd N) F7
    have h5 := HK3.out.1
    have h6 := HK3.out.2.1
    have h7 := HK3.out.2.2
    simp only at h5 h6 h7
    have m5 := min_cap (sumL (costL N) F5)
    have m6 := min_cap (sumL (costL N) F6)
    have m7 := min_cap (sumL (costL N) F7)
    have L5 := Aside0.mk (LOk.mk R5.out HBk.out.k5 h5 rfl : LOk (w.alloc (.cells #[v0, .slice (some ad) N.length c1, v2] 68)) (costL N) i A5 F5 _)
    have L6 := Aside0.mk (LOk.mk R6.out HBk.out.k6 h6 rfl : LOk (w.alloc (.cells #[v0, .slice (some ad) N.length c1, v2] 68)) (costL N) i A6 F6 _)
    have L7 := Aside0.mk (LOk.mk R7.out HBk.out.k7 h7 rfl : LOk (w.alloc (.cells #[v0, .slice (some ad) N.length c1, v2] 68)) (costL N) i A7 F7 _)
    have HCAP := Aside0.mk (costN_cap (⟨d0, d1, d2, d3, d4, F5, F6, F7⟩ : S134) _ _ _ hS5.1 hS6.1 hS7.1)
    have HGOAL := Aside0.mk (HCA.out.trans HCAP.out.symm)
    have HXS := Aside0.mk (rfl : costL N = costL N)
    revert hS5 hS6 hS7 m5 m6 m7 L5 L6 L7 HGOAL
    clear HCA HCAP
    generalize sumL (costL N) F5 = s5
    generalize sumL (costL N) F6 = s6
    generalize sumL (costL N) F7 = s7
    intro hS5 hS6 hS7 m5 m6 m7 L5 L6 L7 HGOAL
    have e5 : 0 ≤ min s5 100000 ∧ min s5 100000 ≤ 100000 := by omega
    have e6 : 0 ≤ min s6 100000 ∧ min s6 100000 ≤ 100000 := by omega
    have e7 : 0 ≤ min s7 100000 ∧ min s7 100000 ≤ 100000 := by omega
    revert L5 L6 L7 HGOAL e5 e6 e7
    generalize min s5 100000 = t5
    generalize min s6 100000 = t6
    generalize min s7 100000 = t7
    intro L5 L6 L7 HGOAL e5 e6 e7
    obtain ⟨e50, e51⟩ := e5
    obtain ⟨e60, e61⟩ := e6
    obtain ⟨e70, e71⟩ := e7
    clear hS5 hS6 hS7 m5 m6 m7 HXS
    go_enter Try.func93, Try.ntmps93
    go_wp2_with fail
    have HW0 := Aside0.mk ((Below.refl (w.alloc (.cells #[v0, .slice (some ad) N.length c1, v2] 68)).heap.size (w.alloc (.cells #[v0, .slice (some ad) N.length c1, v2] 68))).alloc (Nat.le_refl _) (.cells #[.int .i64 d0, .int .i64 d1, .string d2, .int .i64 d3, .int .i64 d4, .slice A5 F5.length c5, .slice A6 F6.length c6, .slice A7 F7.length c7] 134))
    refine (impl_costs.k IH.out L5.out c5 HR.out _ HW0.out).mono ?_
    rintro e w1 ⟨rfl, hb1⟩
    have BT1 := Aside0.mk (blk_below (blk_alloc (blk_new w (.cells #[v0, .slice (some ad) N.length c1, v2] 68)) (.cells #[.int .i64 d0, .int .i64 d1, .string d2, .int .i64 d3, .int .i64 d4, .slice A5 F5.length c5, .slice A6 F6.length c6, .slice A7 F7.length c7] 134)) hb1)
    have BN1 := Aside0.mk (blk_below (blk_new (w.alloc (.cells #[v0, .slice (some ad) N.length c1, v2] 68)) (.cells #[.int .i64 d0, .int .i64 d1, .string d2, .int .i64 d3, .int .i64 d4, .slice A5 F5.length c5, .slice A6 F6.length c6, .slice A7 F7.length c7] 134)) hb1)
    rw [show (w.alloc (.cells #[v0, .slice (some ad) N.length c1, v2] 68)).heap.size = w.heap.size + 1 from by simp] at BN1
    have HB1 := Aside0.mk (below_step HA0.out (below_step HW0.out hb1))
    have HW1 := Aside0.mk (below_step HW0.out hb1)
    clear hb1 HW0
    clear n0 n1 n2 n3 n4 n5 n6 n7
    have t0 : w1.cell? ⟨w.heap.size, 0, none⟩ = some v0 := (blk_cell BT1.out 0).trans rfl
    have t1 : w1.cell? ⟨w.heap.size, 1, none⟩ = some (.slice (some ad) N.length c1) := (blk_cell BT1.out 1).trans rfl
    have t2 : w1.cell? ⟨w.heap.size, 2, none⟩ = some v2 := (blk_cell BT1.out 2).trans rfl
    have n0 : w1.cell? ⟨w.heap.size + 1, 0, none⟩ = some (.int .i64 d0) := (blk_cell BN1.out 0).trans rfl
    have n1 : w1.cell? ⟨w.heap.size + 1, 1, none⟩ = some (.int .i64 d1) := (blk_cell BN1.out 1).trans rfl
    have n2 : w1.cell? ⟨w.heap.size + 1, 2, none⟩ = some (.string d2) := (blk_cell BN1.out 2).trans rfl
    have n3 : w1.cell? ⟨w.heap.size + 1, 3, none⟩ = some (.int .i64 d3) := (blk_cell BN1.out 3).trans rfl
    have n4 : w1.cell? ⟨w.heap.size + 1, 4, none⟩ = some (.int .i64 d4) := (blk_cell BN1.out 4).trans rfl
    have n5 : w1.cell? ⟨w.heap.size + 1, 5, none⟩ = some (.slice A5 F5.length c5) := (blk_cell BN1.out 5).trans rfl
    have n6 : w1.cell? ⟨w.heap.size + 1, 6, none⟩ = some (.slice A6 F6.length c6) := (blk_cell BN1.out 6).trans rfl
    have n7 : w1.cell? ⟨w.heap.size + 1, 7, none⟩ = some (.slice A7 F7.length c7) := (blk_cell BN1.out 7).trans rfl
    by_cases k9 : d0 = 9
    · subst k9
      have HV := Aside0.mk (show rd (costL N) (i : Int) = min 100000 (1 + t5 + max t6 t7) from by rw [HGOAL.out]; unfold costN; rw [if_pos rfl])
      go_wp2_with fail
      go_region_held3 (fun w' => Below w1.heap.size w1 w' ∧ w'.cell? ⟨w.heap.size, 0, none⟩ = some v0 ∧ w'.cell? ⟨w.heap.size, 1, none⟩ = some (.slice (some ad) N.length c1) ∧ w'.cell? ⟨w.heap.size, 2, none⟩ = some v2 ∧ w'.cell? ⟨w.heap.size + 1, 6, none⟩ = some (.slice A6 F6.length c6) ∧ w'.cell? ⟨w.heap.size + 1, 7, none⟩ = some (.slice A7 F7.length c7)) (first | exact ⟨below_drew (Below.refl _ _), t0, t1, t2, n6, n7⟩ | (go_split_ands; refine ⟨?_, ?_, ?_, ?_, ?_, ?_⟩ <;> first | exact pw_cell_below hb (by assumption) | exact below_step (by assumption) hb)) (first | (go_at_call 146; go_split_ands; (first | (with_reducible refine (impl_costs.k IH.out L6.out c6 HR.out _ (below_step HW1.out ?_)).mono ?_) | (with_reducible refine (impl_costs.k IH.out L7.out c7 HR.out _ (below_step HW1.out ?_)).mono ?_)); assumption; rintro e w' ⟨rfl, hb⟩))
      all_goals
        go_split_ands
        have HBZ := Aside0.mk (below_step HB1.out (by assumption))
        rw [show (if t6 < t7 then t7 else t6) = max t6 t7 by split <;> omega]
        have hmx : 0 ≤ max t6 t7 ∧ max t6 t7 ≤ 100000 := by omega
        revert HV hmx
        generalize max t6 t7 = mm
        intro HV hmx
        obtain ⟨hm0, hm1⟩ := hmx
        go_wp2
        all_goals
          go_ret
          exact ⟨by rw [HV.out]; first | (rw [show min 100000 (1 + t5 + mm) = 100000 by omega]; rfl) | (rw [show min 100000 (1 + t5 + mm) = 1 + t5 + mm by omega]; rfl), HBZ.out⟩
    · by_cases k10 : d0 = 10
      · subst k10
        have HV := Aside0.mk (show rd (costL N) (i : Int) = min 100000 (1 + t5 + (2 + roundsN ⟨10, d1, d2, d3, d4, F5, F6, F7⟩ * (3 + t6))) from by rw [HGOAL.out]; unfold costN; rw [if_neg (show ¬ ((10 : Int) = 9) by omega), if_pos rfl])
        have hfar := HBk.out.far rfl
        have hro := fun W => impl_rounds.w 10 d1 d2 d3 d4 F5 F6 F7 A5 A6 A7 c5 c6 c7 hfar.1 hfar.2 W
        have hpr := prod_bd HBk.out rfl e60 (by omega)
        revert HV hro hpr
        generalize roundsN ⟨10, d1, d2, d3, d4, F5, F6, F7⟩ = rr
        intro HV hro hpr
        obtain ⟨hp0, hp1⟩ := hpr
        clear hfar
        have hw1 : IntKind.i64.wrap (3 + t6) = 3 + t6 := by rw [IntKind.wrap_i64]; omega
        have hw2 : IntKind.i64.wrap (rr * (3 + t6)) = rr * (3 + t6) := by rw [IntKind.wrap_i64]; omega
        have hw3 : IntKind.i64.wrap (2 + rr * (3 + t6)) = 2 + rr * (3 + t6) := by rw [IntKind.wrap_i64]; omega
        have HWR := Aside0.mk (And.intro hw1 (And.intro hw2 hw3))
        clear hw1 hw2 hw3
        go_wp2_with fail
        go_region_held3 (fun w' => Below w1.heap.size w1 w' ∧ w'.cell? ⟨w.heap.size, 0, none⟩ = some v0 ∧ w'.cell? ⟨w.heap.size, 1, none⟩ = some (.slice (some ad) N.length c1) ∧ w'.cell? ⟨w.heap.size, 2, none⟩ = some v2 ∧ w'.cell? ⟨w.heap.size + 1, 0, none⟩ = some (.int .i64 10) ∧ w'.cell? ⟨w.heap.size + 1, 1, none⟩ = some (.int .i64 d1) ∧ w'.cell? ⟨w.heap.size + 1, 2, none⟩ = some (.string d2) ∧ w'.cell? ⟨w.heap.size + 1, 3, none⟩ = some (.int .i64 d3) ∧ w'.cell? ⟨w.heap.size + 1, 4, none⟩ = some (.int .i64 d4) ∧ w'.cell? ⟨w.heap.size + 1, 5, none⟩ = some (.slice A5 F5.length c5) ∧ w'.cell? ⟨w.heap.size + 1, 6, none⟩ = some (.slice A6 F6.length c6) ∧ w'.cell? ⟨w.heap.size + 1, 7, none⟩ = some (.slice A7 F7.length c7)) (first | exact ⟨below_drew (Below.refl _ _), t0, t1, t2, n0, n1, n2, n3, n4, n5, n6, n7⟩ | (go_split_ands; refine ⟨?_, ?_, ?_, ?_, ?_, ?_, ?_, ?_, ?_, ?_, ?_, ?_⟩ <;> first | exact pw_cell_below hb (by assumption) | exact below_step (by assumption) hb)) (first | (go_at_call 146; go_split_ands; refine (impl_costs.k IH.out L6.out c6 HR.out _ (below_step HW1.out ?_)).mono ?_; assumption; rintro e w' ⟨rfl, hb⟩) | (go_at_call 147; refine (hro _).mono ?_; rintro e w' ⟨rfl, hb⟩))
        all_goals
          go_split_ands
          have HBZ := Aside0.mk (below_step HB1.out (by assumption))
          rw [HWR.out.1, HWR.out.2.1, HWR.out.2.2]
          clear HWR
          revert HV hp0 hp1
          generalize rr * (3 + t6) = pp
          intro HV hp0 hp1
          go_wp2
          all_goals
            go_ret
            exact ⟨by rw [HV.out]; first | (rw [show min 100000 (1 + t5 + (2 + pp)) = 100000 by omega]; rfl) | (rw [show min 100000 (1 + t5 + (2 + pp)) = 1 + t5 + (2 + pp) by omega]; rfl), HBZ.out⟩
      · by_cases k11 : d0 = 11
        · subst k11
          have HV := Aside0.mk (show rd (costL N) (i : Int) = min 100000 (1 + t5 + 12) from by rw [HGOAL.out]; unfold costN; rw [if_neg (show ¬ ((11 : Int) = 9) by omega), if_neg (show ¬ ((11 : Int) = 10) by omega), if_pos rfl])
          go_wp2_with fail
          all_goals
            go_ret
            exact ⟨by rw [HV.out]; first | (rw [show min 100000 (1 + t5 + 12) = 100000 by omega]; rfl) | (rw [show min 100000 (1 + t5 + 12) = 1 + t5 + 12 by omega]; rfl), HB1.out⟩
        · have k9d : decide (d0 = 9) = false := decide_eq_false k9
          have k9b : (d0 == 9) = false := by simp [k9]
          have k10b : (d0 == 10) = false := by simp [k10]
          have k11b : (d0 == 11) = false := by simp [k11]
          have HV := Aside0.mk (show rd (costL N) (i : Int) = min 100000 (1 + t5 + 0) from by rw [HGOAL.out]; unfold costN; rw [if_neg k9, if_neg k10, if_neg k11])
          go_wp2_with fail
          all_goals
            go_ret
            exact ⟨by rw [HV.out]; first | (rw [show min 100000 (1 + t5 + 0) = 100000 by omega]; rfl) | (rw [show min 100000 (1 + t5 + 0) = 1 + t5 by omega]; rfl), HB1.out⟩

end Go.Proofs.Ytlokckgkbhmkmaa.XFnExactCostOf
