/- Machine side of the law FnExactCellOf: for each Go function that it reaches, a Lean function with the same answers and the proof that the call comes to them. Conditions: what the arguments lead to reads as the lists that each contract is told of. Some functions are told by hand, the others by the kit's print.py under wip/ext.py. -/
import Derived.Test.YtlokckgkbhmkmaaXFnExactCellOfx0
import Derived.Test.YtlokckgkbhmkmaaXFnExactCellOfx1
import Derived.Test.YtlokckgkbhmkmaaXFnExactCellOfx2
import Derived.Test.YtlokckgkbhmkmaaXFnExactCellOfx3
import Derived.Test.YtlokckgkbhmkmaaXFnExactCellOfx4
namespace Go.Proofs.Ytlokckgkbhmkmaa.XFnExactCellOf
open Go.RowKit Go.Proofs.YtlokckgkbhmkmaaW.PrintWords Go.Proofs.YtlokckgkbhmkmaaW.PrintLast
attribute [local go_sem] max2_int min2_int max_two min_two   -- for this text's walks alone
set_option linter.unusedVariables false
set_option linter.unusedSimpArgs false

/-! ### LIB treefault -/
set_option maxHeartbeats 16000000 in
set_option maxRecDepth 100000 in
theorem impl_TreeFault.w (V : List S125) (N : List S134) (B : List Int) (A0 A1 A2 : Option Addr) (c0 c1 c2 : Nat) (w : World) (hv : Kd.C k125 w A0 V.length V) (hn : Kd.C k134 w A1 N.length N) (hb : Kd.C (Kd.int .i64) w A2 B.length B) (hs : Small V N B) :
    Calls Try.prog 92 #[.agg #[.slice A0 V.length c0, .slice A1 N.length c1, .slice A2 B.length c2]] w fun e w' => e = .returned (.int .i64 (faultI V N B)) ∧ Below w.heap.size w w' := by
  have hu := Try.underlying68
  have huv := Try.underlying125
  have hun := Try.underlying134
  have HV := Aside0.mk hv
  have HN := Aside0.mk hn
  have HBd := Aside0.mk hb
  have HS := Aside0.mk hs
  have hvm := Kd.C_max hv
  have hbm := Kd.C_max hb
  clear hv hn hb hs
  by_cases hV : 24 < V.length
  · have e1 : decide (24 < (V.length : Int)) = true := decide_eq_true (by omega)
    have e2 : decide (24 < V.length) = true := decide_eq_true hV
    have HG := Aside0.mk (show faultI V N B = 2 by unfold faultI; rw [if_pos (.inl hV)])
    clear hV
    go_enter Try.func92, Try.ntmps92
    go_wp2
    go_ret
    exact ⟨by rw [HG.out]; rfl, (Below.refl _ _).alloc (Nat.le_refl _) _⟩
  by_cases hNn : 200 < N.length
  · have e1 : decide (24 < (V.length : Int)) = false := decide_eq_false (by omega)
    have e2 : decide (24 < V.length) = false := decide_eq_false hV
    have e3 : decide (200 < (N.length : Int)) = true := decide_eq_true (by omega)
    have e4 : decide (200 < N.length) = true := decide_eq_true hNn
    have HG := Aside0.mk (show faultI V N B = 2 by unfold faultI; rw [if_pos (.inr hNn)])
    clear hNn hV
    go_enter Try.func92, Try.ntmps92
    go_wp2
    go_ret
    exact ⟨by rw [HG.out]; rfl, (Below.refl _ _).alloc (Nat.le_refl _) _⟩
  have e1 : decide (24 < (V.length : Int)) = false := decide_eq_false (by omega)
  have e2 : decide (24 < V.length) = false := decide_eq_false hV
  have e3 : decide (200 < (N.length : Int)) = false := decide_eq_false (by omega)
  have e4 : decide (200 < N.length) = false := decide_eq_false hNn
  have hVl : V.length ≤ 24 := by omega
  have hNl : N.length ≤ 200 := by omega
  have HG := Aside0.mk (show faultI V N B = _ from by unfold faultI; rw [if_neg (by omega)])
  have hmk := print_make (P := Try.prog) 170 3 .i64 8 Try.underlying170 info_int (by omega) N.length (by omega)
  clear hV hNn
  go_enter Try.func92, Try.ntmps92
  go_wp2
  clear e1 e2 e3 e4
  go_loopg [28] V.length (fun gg s28 wr => ∃ kk : Nat, s28 = .int .i64 (kk : Int) ∧ Aside0 (kk ≤ V.length ∧ V.length - kk ≤ gg) ∧ Aside0 (wr.heap[w.heap.size]? = some (.cells #[.slice A0 V.length c0, .slice A1 N.length c1, .slice A2 B.length c2] 68 (0, 0))) ∧ Aside0 (Below w.heap.size w wr) ∧ Aside0 (∀ (j : Nat) (y : S125), j < kk → V[j]? = some y → vf y = 0))
  case atStart => exact ⟨0, rfl, ⟨by omega⟩, ⟨by first | exact blk_new _ _ | simp⟩, ⟨(Below.refl _ _).alloc (Nat.le_refl _) _⟩, ⟨fun j _ hj => absurd hj (Nat.not_lt_zero _)⟩⟩
  case round =>
    obtain ⟨wa, rfl⟩ : ∃ wa : World, wa = wr := ⟨_, rfl⟩
    obtain ⟨kk, rfl, HK, BKT, HB, HA⟩ := hrel
    by_cases hlt : kk < V.length
    · have hltz : (kk : Int) < (V.length : Int) := by omega
      have hd : decide ((kk : Int) < (V.length : Int)) = true := decide_eq_true hltz
      have hd' : decide (kk < V.length) = true := decide_eq_true hlt
      obtain ⟨ad, rfl, hc0, hc1, hc2, hc3⟩ := at_T125 (Kd.C_below HV.out HB.out) kk (by omega) (by omega)
      rw [Int.toNat_natCast] at hc0 hc1 hc2 hc3
      have HX := Aside0.mk (rdV_get hlt)
      have hsz := HS.out.vn _ (rdV_mem hlt)
      have hltq := eq_true hltz
      have h0q : (0 ≤ (kk : Int)) = True := eq_true (by omega)
      revert hc0 hc1 hc2 hc3 HX hsz
      generalize rd_T125 V (kk : Int) = v
      intro hc0 hc1 hc2 hc3 HX hsz
      have HVB := Aside0.mk (fun (c : Int) (hc : vf v = c) (h0 : c ≠ 0) => (show faultI V N B = c by rw [HG.out, varsF_bad V kk v HX.out HA.out (by rw [hc]; exact h0), hc, if_pos h0]))
      clear hlt
      go_wp2_with (first | (go_at_call 137; refine (d_IsName _ hsz _).mono ?_; rintro e w' ⟨rfl, q, rfl⟩) | (go_at_call 65; refine (d_within _ _ _ _).mono ?_; rintro e w' ⟨rfl, q, rfl⟩))
      all_goals first
        | (go_roundg (V.length - (kk + 1))
           case measure => have := HK.out; omega
           case rel =>
             refine ⟨kk + 1, by go_num, ⟨by have := HK.out; omega⟩, ⟨?_⟩, ⟨by repeat (first | exact HB.out.alloc (below_size HB.out) _ | apply pw_below_drewN)⟩, ⟨fun j y hj hy => ?_⟩⟩
             · repeat (first | exact blk_alloc BKT.out _ | refine blk_drewN ?_ _)
             · by_cases e : j = kk
               · subst e
                 rw [HX.out] at hy
                 cases hy
                 simp_all [vf]
               · exact HA.out j y (by omega) hy)
        | (go_ret
           refine ⟨?_, by repeat (first | exact HB.out.alloc (below_size HB.out) _ | apply pw_below_drewN)⟩
           first
             | (rw [HVB.out 5 (by simp_all [vf]) (by decide)]; rfl)
             | (rw [HVB.out 3 (by simp_all [vf]) (by decide)]; rfl))
    · have hd : decide ((kk : Int) < (V.length : Int)) = false := decide_eq_false (by omega)
      have hd' : decide (kk < V.length) = false := decide_eq_false hlt
      have HGv := Aside0.mk (show faultI V N B = _ from by rw [HG.out, varsF_good V (fun j y hy => HA.out j y (by have := (List.getElem?_eq_some_iff.1 hy).1; have := HK.out; omega) hy), if_neg (by decide)])
      clear HA HG
      have q1 : wa.cell? ⟨w.heap.size, 1, none⟩ = some (.slice A1 N.length c1) := (blk_cell BKT.out 1).trans rfl
      go_wp2
      go_loopg [58] N.length (fun gg s58 wr => ∃ kk : Nat, s58 = .int .i64 (kk : Int) ∧ Aside0 (kk ≤ N.length ∧ N.length - kk ≤ gg) ∧ Aside0 (wr.heap[w.heap.size]? = some (.cells #[.slice A0 V.length c0, .slice A1 N.length c1, .slice A2 B.length c2] 68 (0, 0))) ∧ Aside0 (Below w.heap.size w wr) ∧ Aside0 (∀ j : Nat, j < kk → okI N j (rd_T134 N (j : Int)) = true))
      case atStart => exact ⟨0, rfl, ⟨by omega⟩, BKT, HB, ⟨fun j hj => absurd hj (Nat.not_lt_zero _)⟩⟩
      case round =>
        clear HB BKT q1
        obtain ⟨wb, rfl⟩ : ∃ wb : World, wb = wr := ⟨_, rfl⟩
        obtain ⟨kk, rfl, HK, BKT, HB, HA⟩ := hrel
        by_cases hlt : kk < N.length
        · have hltz : (kk : Int) < (N.length : Int) := by omega
          have hd : decide ((kk : Int) < (N.length : Int)) = true := decide_eq_true hltz
          have hd' : decide (kk < N.length) = true := decide_eq_true hlt
          obtain ⟨ad, A5, c5, A6, c6, A7, c7, rfl, n0, n1, n2, n3, n4, n5, n6, n7, l5, r5, l6, r6, l7, r7⟩ := at_T134 HN.out (kk : Int) (by omega) hltz
          rw [Int.toNat_natCast] at n0 n1 n2 n3 n4 n5 n6 n7
          replace n0 := pw_cell_below HB.out n0
          replace n1 := pw_cell_below HB.out n1
          replace n2 := pw_cell_below HB.out n2
          replace n3 := pw_cell_below HB.out n3
          replace n4 := pw_cell_below HB.out n4
          replace n5 := pw_cell_below HB.out n5
          replace n6 := pw_cell_below HB.out n6
          replace n7 := pw_cell_below HB.out n7
          have hmem := rdN_mem hlt
          have hsz := HS.out.nn _ hmem
          have HBAD := Aside0.mk (fun (h : okI N kk (rd_T134 N (kk : Int)) = false) => (show faultI V N B = 1 by rw [HGv.out, if_pos (nodesI_bad hlt h)]))
          have HSELF := Aside0.mk (fun (h : okI N kk (rd_T134 N (kk : Int)) = true) (j : Nat) (hj : j < kk + 1) => (show okI N j (rd_T134 N (j : Int)) = true from if e : j = kk then by subst e; exact h else HA.out j (by omega)))
          have hltq := eq_true hltz
          have h0q : (0 ≤ (kk : Int)) = True := eq_true (by omega)
          clear hmem
          revert n0 n1 n2 n3 n4 n5 n6 n7 l5 r5 l6 r6 l7 r7 hsz HBAD HSELF
          generalize rd_T134 N (kk : Int) = nd
          obtain ⟨d0, d1, d2, d3, d4, F5, F6, F7⟩ := nd
          intro l5 r5 l6 r6 l7 r7 n0 n1 n2 n3 n4 n5 n6 n7 hsz HBAD HSELF
          have HOK := Aside0.mk (show okI N kk ⟨d0, d1, d2, d3, d4, F5, F6, F7⟩ = (fitsB ⟨d0, d1, d2, d3, d4, F5, F6, F7⟩ && (!(F5.any (badB N kk false)) && (!(F6.any (badB N kk true)) && !(F7.any (badB N kk true))))) from rfl)
          have R5 := Aside0.mk r5
          have R6 := Aside0.mk r6
          have R7 := Aside0.mk r7
          clear r5 r6 r7 l5 l6 l7
          go_wp2_with fail
          refine (impl_fits.w ⟨d0, d1, d2, d3, d4, F5, F6, F7⟩ A5 A6 A7 c5 c6 c7 _ hsz).mono ?_
          rintro e w1 ⟨rfl, hb⟩
          have hWb : Below wb.heap.size wb ((wb.alloc (.cells #[.int .i64 (kk : Int)] 3)).alloc (.cells #[.int .i64 d0, .int .i64 d1, .string d2, .int .i64 d3, .int .i64 d4, .slice A5 F5.length c5, .slice A6 F6.length c6, .slice A7 F7.length c7] 134)) := ((Below.refl _ _).alloc (Nat.le_refl _) _).alloc (by simp) _
          have hs1 : (wb.alloc (.cells #[.int .i64 (kk : Int)] 3)).heap.size = wb.heap.size + 1 := by simp
          have hbn := blk_new (wb.alloc (.cells #[.int .i64 (kk : Int)] 3)) (.cells #[.int .i64 d0, .int .i64 d1, .string d2, .int .i64 d3, .int .i64 d4, .slice A5 F5.length c5, .slice A6 F6.length c6, .slice A7 F7.length c7] 134)
          rw [hs1] at hbn
          have BKk := Aside0.mk (blk_below (blk_alloc (blk_new wb (.cells #[.int .i64 (kk : Int)] 3)) _) hb)
          have BKn := Aside0.mk (blk_below hbn hb)
          have BT1 := Aside0.mk (blk_below (blk_alloc (blk_alloc BKT.out _) _) hb)
          have HB1 := Aside0.mk (below_step (below_step HB.out hWb) hb)
          clear hb hWb hs1 hbn n0 n1 n2 n3 n4 n5 n6 n7
          cases hf : fitsB ⟨d0, d1, d2, d3, d4, F5, F6, F7⟩ with
          | false =>
            have HF := Aside0.mk hf
            clear hf
            go_wp2
            go_ret
            exact ⟨by rw [HBAD.out (by rw [HOK.out, HF.out]; rfl)]; rfl, HB1.out⟩
          | true =>
            have HF := Aside0.mk hf
            clear hf
            have y5 : w1.cell? ⟨wb.heap.size + 1, 5, none⟩ = some (.slice A5 F5.length c5) := (blk_cell BKn.out 5).trans rfl
            have y6 : w1.cell? ⟨wb.heap.size + 1, 6, none⟩ = some (.slice A6 F6.length c6) := (blk_cell BKn.out 6).trans rfl
            have y7 : w1.cell? ⟨wb.heap.size + 1, 7, none⟩ = some (.slice A7 F7.length c7) := (blk_cell BKn.out 7).trans rfl
            go_wp2_with fail
            refine (impl_ahead1.w wb.heap.size w.heap.size N kk (by omega) (by omega) false (some ad) c1 w1 ((blk_cell BKk.out 0).trans rfl) ((blk_cell BT1.out 1).trans rfl) (Kd.C_below HN.out HB1.out) A5 c5 F5 (Kd.C_below R5.out HB1.out)).mono ?_
            rintro e w2 ⟨rfl, hb⟩
            have BKk2 := Aside0.mk (blk_below BKk.out hb)
            have BKn2 := Aside0.mk (blk_below BKn.out hb)
            have BT2 := Aside0.mk (blk_below BT1.out hb)
            have HB2 := Aside0.mk (below_step HB1.out hb)
            clear hb y5 y6 y7 BKk BKn BT1
            cases hy5 : F5.any (badB N kk false) with
            | true =>
              have HY5 := Aside0.mk hy5
              clear hy5
              go_wp2
              go_ret
              exact ⟨by rw [HBAD.out (by rw [HOK.out, HF.out, HY5.out]; first | rfl | (simp; done))]; rfl, HB2.out⟩
            | false =>
              have HY5 := Aside0.mk hy5
              clear hy5
              have y5 : w2.cell? ⟨wb.heap.size + 1, 5, none⟩ = some (.slice A5 F5.length c5) := (blk_cell BKn2.out 5).trans rfl
              have y6 : w2.cell? ⟨wb.heap.size + 1, 6, none⟩ = some (.slice A6 F6.length c6) := (blk_cell BKn2.out 6).trans rfl
              have y7 : w2.cell? ⟨wb.heap.size + 1, 7, none⟩ = some (.slice A7 F7.length c7) := (blk_cell BKn2.out 7).trans rfl
              go_wp2_with fail
              refine (impl_ahead1.w wb.heap.size w.heap.size N kk (by omega) (by omega) true (some ad) c1 w2 ((blk_cell BKk2.out 0).trans rfl) ((blk_cell BT2.out 1).trans rfl) (Kd.C_below HN.out HB2.out) A6 c6 F6 (Kd.C_below R6.out HB2.out)).mono ?_
              rintro e w3 ⟨rfl, hb⟩
              have BKk3 := Aside0.mk (blk_below BKk2.out hb)
              have BKn3 := Aside0.mk (blk_below BKn2.out hb)
              have BT3 := Aside0.mk (blk_below BT2.out hb)
              have HB3 := Aside0.mk (below_step HB2.out hb)
              clear hb y5 y6 y7 BKk2 BKn2 BT2
              cases hy6 : F6.any (badB N kk true) with
              | true =>
                have HY6 := Aside0.mk hy6
                clear hy6
                go_wp2
                go_ret
                exact ⟨by rw [HBAD.out (by rw [HOK.out, HF.out, HY5.out, HY6.out]; first | rfl | (simp; done))]; rfl, HB3.out⟩
              | false =>
                have HY6 := Aside0.mk hy6
                clear hy6
                have y5 : w3.cell? ⟨wb.heap.size + 1, 5, none⟩ = some (.slice A5 F5.length c5) := (blk_cell BKn3.out 5).trans rfl
                have y6 : w3.cell? ⟨wb.heap.size + 1, 6, none⟩ = some (.slice A6 F6.length c6) := (blk_cell BKn3.out 6).trans rfl
                have y7 : w3.cell? ⟨wb.heap.size + 1, 7, none⟩ = some (.slice A7 F7.length c7) := (blk_cell BKn3.out 7).trans rfl
                go_wp2_with fail
                refine (impl_ahead1.w wb.heap.size w.heap.size N kk (by omega) (by omega) true (some ad) c1 w3 ((blk_cell BKk3.out 0).trans rfl) ((blk_cell BT3.out 1).trans rfl) (Kd.C_below HN.out HB3.out) A7 c7 F7 (Kd.C_below R7.out HB3.out)).mono ?_
                rintro e w4 ⟨rfl, hb⟩
                have BKk4 := Aside0.mk (blk_below BKk3.out hb)
                have BKn4 := Aside0.mk (blk_below BKn3.out hb)
                have BT4 := Aside0.mk (blk_below BT3.out hb)
                have HB4 := Aside0.mk (below_step HB3.out hb)
                clear hb y5 y6 y7 BKk3 BKn3 BT3
                cases hy7 : F7.any (badB N kk true) with
                | true =>
                  have HY7 := Aside0.mk hy7
                  clear hy7
                  go_wp2
                  go_ret
                  exact ⟨by rw [HBAD.out (by rw [HOK.out, HF.out, HY5.out, HY6.out, HY7.out]; first | rfl | (simp; done))]; rfl, HB4.out⟩
                | false =>
                  have HY7 := Aside0.mk hy7
                  clear hy7
                  go_wp2
                  go_roundg (N.length - (kk + 1))
                  case measure => have := HK.out; omega
                  case rel => exact ⟨kk + 1, by go_num, ⟨by omega⟩, BT4, HB4, ⟨HSELF.out (by rw [HOK.out, HF.out, HY5.out, HY6.out, HY7.out]; rfl)⟩⟩
        · have hd : decide ((kk : Int) < (N.length : Int)) = false := decide_eq_false (by omega)
          have hd' : decide (kk < N.length) = false := decide_eq_false hlt
          have HNG := Aside0.mk (nodesI_good (fun k hk => HA.out k (by have := HK.out; omega)))
          have HGn := Aside0.mk (show faultI V N B = _ from by rw [HGv.out, if_neg (by rw [HNG.out]; decide)])
          have HFR := Aside0.mk (flat_range HNG.out)
          clear HA HGv
          have q1 : wb.cell? ⟨w.heap.size, 1, none⟩ = some (.slice A1 N.length c1) := (blk_cell BKT.out 1).trans rfl
          have q2 : wb.cell? ⟨w.heap.size, 2, none⟩ = some (.slice A2 B.length c2) := (blk_cell BKT.out 2).trans rfl
          have hgz : w.heap.size < wb.heap.size := blk_lt BKT.out
          have hgz' : ¬ (w.heap.size = wb.heap.size) := by omega
          have ho0 := own_made wb wb.heap.size 3 .i64 N.length (Nat.le_refl _) (by omega)
          have HO0 := Aside0.mk (Kd.R_of_own (enc := Value.int .i64) (h1 := fun _ => rfl) (ok := fun _ => True) (xs := List.replicate N.length 0) (by rw [List.length_replicate]; exact ho0) (fun _ _ => trivial))
          clear ho0
          go_wp2
          go_loopg [96] B.length (fun gg s96 wr => ∃ j : Nat, s96 = .int .i64 (j : Int) ∧ Aside0 (j ≤ B.length ∧ B.length - j ≤ gg) ∧ Aside0 (wr.heap[w.heap.size]? = some (.cells #[.slice A0 V.length c0, .slice A1 N.length c1, .slice A2 B.length c2] 68 (0, 0))) ∧ Aside0 (Kd.R (Kd.int .i64) 3 wr wb.heap.size (fun _ => True) (.slice (some ⟨wb.heap.size, 0, none⟩) N.length N.length) (cntL N.length (B.take j))) ∧ Aside0 (Below w.heap.size w wr) ∧ Aside0 (∀ x ∈ B.take j, bodyB N x = true))
          case atStart => exact ⟨0, rfl, ⟨by omega⟩, ⟨blk_alloc BKT.out _⟩, ⟨by rw [List.take_zero]; exact HO0.out⟩, ⟨HB.out.alloc (below_size HB.out) _⟩, ⟨fun x hx => by cases hx⟩⟩
          case round =>
            clear HO0 q1 q2 HB BKT
            obtain ⟨wc, rfl⟩ : ∃ wc : World, wc = wr := ⟨_, rfl⟩
            obtain ⟨j, rfl, HKj, BKT, HO, HB, HA⟩ := hrel
            have q1 : wc.cell? ⟨w.heap.size, 1, none⟩ = some (.slice A1 N.length c1) := (blk_cell BKT.out 1).trans rfl
            by_cases hj : j < B.length
            · have hjz : (j : Int) < (B.length : Int) := by omega
              have hjd : decide ((j : Int) < (B.length : Int)) = true := decide_eq_true hjz
              have hjd' : decide (j < B.length) = true := decide_eq_true hj
              have hjq := eq_true hjz
              have hj0 : (0 ≤ (j : Int)) = True := eq_true (by omega)
              obtain ⟨adB, rfl, hx⟩ := Kd.at_int (Kd.C_below HBd.out HB.out) (j : Int) (by omega) hjz
              rw [Int.toNat_natCast] at hx
              have HBBAD := Aside0.mk (fun (h : bodyB N (rd B (j : Int)) = false) => (show faultI V N B = 1 by rw [HGn.out, if_pos (List.all_eq_false.2 ⟨_, rd_mem hj, by rw [h]; simp⟩)]))
              have HSN := Aside0.mk (show cntL N.length (B.take (j + 1)) = _ from by rw [take_snoc_rd hj, cntL_snoc])
              have HTK := Aside0.mk (take_snoc_rd hj)
              have hnz : IntKind.i64.wrap ((N.length : Int) - 1) = (N.length : Int) - 1 := by rw [IntKind.wrap_i64]; omega
              have hlj : (B.take j).length ≤ 1000000000 := by have := HS.out.b; rw [List.length_take]; omega
              have hrgj : ∀ x ∈ B.take j, 0 ≤ x ∧ x < (N.length : Int) := fun x hx => body_range (HA.out x hx)
              cases hin : inB (rd B (j : Int)) 0 ((N.length : Int) - 1) with
              | false =>
                have HIN := Aside0.mk hin
                clear hrgj hlj
                go_wp2_with (first | (go_at_call 65; refine (d_within _ _ _ _).mono ?_; rintro e w' ⟨rfl, q, rfl⟩))
                go_ret
                exact ⟨by rw [HBBAD.out (by unfold bodyB; rw [HIN.out]; rfl)]; rfl, pw_below_drewN HB.out _⟩
              | true =>
                obtain ⟨hx0, hx1⟩ := inB_true hin
                have hx2 : rd B (j : Int) < (N.length : Int) := by omega
                have hx0q := eq_true hx0
                have hx2q := eq_true hx2
                have HIN := Aside0.mk hin
                obtain ⟨ad, A5, c5, A6, c6, A7, c7, rfl, n0, _⟩ := at_T134 (Kd.C_below HN.out HB.out) (rd B (j : Int)) hx0 hx2
                have hbd := cnt_bd hrgj hlj _ hx0 hx2
                obtain ⟨hc, hfz⟩ := R_cellN (cntL_length _ _) HO.out _ hx0 hx2
                have hb0 := hbd.1
                have hb1 := hbd.2
                clear hbd hrgj hlj
                cases hst : stmtB (rd_T134 N (rd B (j : Int))).f0 with
                | false =>
                  have HST := Aside0.mk hst
                  go_wp2_with (first | (go_at_call 65; refine (d_within _ _ _ _).mono ?_; rintro e w' ⟨rfl, q, rfl⟩) | (go_at_call 108; refine (d_isStatement _ _).mono ?_; rintro e w' ⟨rfl, q, rfl⟩))
                  go_ret
                  exact ⟨by rw [HBBAD.out (by unfold bodyB; rw [HIN.out, HST.out]; rfl)]; rfl, by repeat (first | exact HB.out | apply pw_below_drewN)⟩
                | true =>
                  have HST := Aside0.mk hst
                  have HOp := Aside0.mk (R_putN (cntL_length _ _) HO.out (rd B (j : Int)) (rd (cntL N.length (B.take j)) (rd B (j : Int)) + 1))
                  revert hc hfz hb0 hb1 HOp HSN
                  generalize cntL N.length (B.take j) = xs
                  generalize hcx : rd xs (rd B (j : Int)) = cx
                  intro HSN hc hfz hb0 hb1 HOp
                  go_wp2_with (first | (go_at_call 65; refine (d_within _ _ _ _).mono ?_; rintro e w' ⟨rfl, q, rfl⟩) | (go_at_call 108; refine (d_isStatement _ _).mono ?_; rintro e w' ⟨rfl, q, rfl⟩))
                  go_roundg (B.length - (j + 1))
                  case measure => have := HKj.out; omega
                  case rel =>
                    refine ⟨j + 1, by go_num, ⟨by omega⟩, ⟨?_⟩, ⟨?_⟩, ⟨?_⟩, ⟨?_⟩⟩
                    · first | exact blk_far (blk_drewN (blk_drewN BKT.out _) _) (by show w.heap.size ≠ wb.heap.size; omega) _ | exact blk_far (blk_drewN BKT.out _) (by show w.heap.size ≠ wb.heap.size; omega) _ | exact blk_far BKT.out (by show w.heap.size ≠ wb.heap.size; omega) _
                    · rw [HSN.out, bump, hcx]; exact Kd.R_step HOp.out (fun _ _ _ => rfl)
                    · exact below_set (by repeat (first | exact HB.out | apply pw_below_drewN)) (by show w.heap.size ≤ wb.heap.size; omega)
                    · intro x hx
                      rw [HTK.out] at hx
                      rcases List.mem_append.1 hx with hx | hx
                      · exact HA.out x hx
                      · rw [List.mem_singleton.1 hx]; unfold bodyB; rw [HIN.out, HST.out]; rfl
            · have hjd : decide ((j : Int) < (B.length : Int)) = false := decide_eq_false (by omega)
              have hjd' : decide (j < B.length) = false := decide_eq_false hj
              have hBt : B.take j = B := List.take_of_length_le (by omega)
              rw [hBt] at HO HA
              have HBA := HA
              have HGb := Aside0.mk (show faultI V N B = _ from by rw [HGn.out, if_neg (by rw [List.all_eq_true.2 HA.out]; decide)])
              clear hBt HA HGn
              have HFR' := HFR
              have HBR := Aside0.mk (fun x hx => body_range (HBA.out x hx) : ∀ x ∈ B, 0 ≤ x ∧ x < (N.length : Int))
              go_wp2
              go_loopg [127] N.length (fun gg s127 wr => ∃ i : Nat, s127 = .int .i64 (i : Int) ∧ Aside0 (i ≤ N.length ∧ N.length - i ≤ gg) ∧ Aside0 (wr.heap[w.heap.size]? = some (.cells #[.slice A0 V.length c0, .slice A1 N.length c1, .slice A2 B.length c2] 68 (0, 0))) ∧ Aside0 (Kd.R (Kd.int .i64) 3 wr wb.heap.size (fun _ => True) (.slice (some ⟨wb.heap.size, 0, none⟩) N.length N.length) (cntL N.length (B ++ flatN (N.take i)))) ∧ Aside0 (Below w.heap.size w wr))
              case atStart => exact ⟨0, rfl, ⟨by omega⟩, BKT, ⟨by rw [show flatN (N.take 0) = [] from rfl, List.append_nil]; exact HO.out⟩, HB⟩
              case round =>
                clear HO q1 HB BKT
                obtain ⟨wd, rfl⟩ : ∃ wd : World, wd = wr := ⟨_, rfl⟩
                obtain ⟨i, rfl, HKi, BKT, HO, HB⟩ := hrel
                by_cases hi : i < N.length
                · have hltz : (i : Int) < (N.length : Int) := by omega
                  have hd9 : decide ((i : Int) < (N.length : Int)) = true := decide_eq_true hltz
                  have hd9' : decide (i < N.length) = true := decide_eq_true hi
                  have hltq := eq_true hltz
                  have h0q : (0 ≤ (i : Int)) = True := eq_true (by omega)
                  obtain ⟨ad, A5, c5, A6, c6, A7, c7, rfl, n0, n1, n2, n3, n4, n5, n6, n7, l5, r5, l6, r6, l7, r7⟩ := at_T134 (Kd.C_below HN.out HB.out) (i : Int) (by omega) hltz
                  rw [Int.toNat_natCast] at n0 n1 n2 n3 n4 n5 n6 n7
                  have hmem := rdN_mem hi
                  have HK3 := Aside0.mk (HS.out.k _ hmem)
                  have HRG3 := Aside0.mk (fun x hx => HFR.out x (mem_flatN hmem hx) : ∀ x ∈ flat1 (rd_T134 N (i : Int)), 0 ≤ x ∧ x < (N.length : Int))
                  have HFL := Aside0.mk (flatN_take N i hi)
                  have R5 := Aside0.mk r5
                  have R6 := Aside0.mk r6
                  have R7 := Aside0.mk r7
                  clear r5 r6 r7 l5 l6 l7 hmem
                  revert n0 n1 n2 n3 n4 n5 n6 n7 HK3 HRG3 HFL R5 R6 R7
                  generalize rd_T134 N (i : Int) = nd
                  obtain ⟨d0, d1, d2, d3, d4, F5, F6, F7⟩ := nd
                  intro n0 n1 n2 n3 n4 n5 n6 n7 HK3 HRG3 HFL R5 R6 R7
                  have hWb : Below wd.heap.size wd (wd.alloc (.cells #[.int .i64 d0, .int .i64 d1, .string d2, .int .i64 d3, .int .i64 d4, .slice A5 F5.length c5, .slice A6 F6.length c6, .slice A7 F7.length c7] 134)) := (Below.refl _ _).alloc (Nat.le_refl _) _
                  go_wp2_with fail
                  refine (impl_all.w d0 d1 d3 d4 d2 A5 A6 A7 c5 c6 c7 F5 F6 F7 _ (Kd.C_below R5.out hWb) (Kd.C_below R6.out hWb) (Kd.C_below R7.out hWb) HK3.out.1 HK3.out.2.1 HK3.out.2.2).mono ?_
                  rintro e w1 ⟨va, rfl, hoa, hba⟩
                  have hp3 : F5 ++ F6 ++ F7 = flat1 ⟨d0, d1, d2, d3, d4, F5, F6, F7⟩ := rfl
                  rw [hp3] at hoa
                  have hLl : (flat1 ⟨d0, d1, d2, d3, d4, F5, F6, F7⟩).length ≤ 3145728 := by have h3 := HK3.out; simp only [flat1, List.length_append]; (try simp only at h3); omega
                  clear n0 n1 n2 n3 n4 n5 n6 n7 R5 R6 R7 HK3 hp3
                  revert HRG3 HFL hoa hLl
                  generalize flat1 ⟨d0, d1, d2, d3, d4, F5, F6, F7⟩ = L
                  intro HRG3 HFL hoa hLl
                  obtain ⟨Aa, ca, ea⟩ := Kd.R_slice hoa
                  subst ea
                  have hsA : (wd.alloc (.cells #[.int .i64 d0, .int .i64 d1, .string d2, .int .i64 d3, .int .i64 d4, .slice A5 F5.length c5, .slice A6 F6.length c6, .slice A7 F7.length c7] 134)).heap.size = wd.heap.size + 1 := by simp
                  rw [hsA] at hoa
                  have hgy : wb.heap.size < wd.heap.size := Kd.R_lt HO.out _ rfl
                  have HOa := Aside0.mk (Kd.R_below HO.out (below_step hWb hba))
                  have HOL := Aside0.mk (Kd.R_mono (Kd.R_bound hoa) (fun k hk => (show k ≠ wb.heap.size from fun e => by have := hk.2.1; omega)))
                  have hlm := Kd.C_max (Kd.R_reads' hoa).2.2
                  have BKa := Aside0.mk (blk_below (blk_alloc BKT.out _) hba)
                  have HBa := Aside0.mk (below_step (below_step HB.out hWb) hba)
                  clear hoa hba hWb hsA HO HB BKT
                  go_wp2
                  go_loopg [134] L.length (fun gg s134 w' => ∃ j : Nat, s134 = .int .i64 (j : Int) ∧ Aside0 (j ≤ L.length ∧ L.length - j ≤ gg) ∧ Aside0 (w'.heap[w.heap.size]? = some (.cells #[.slice A0 V.length c0, .slice (some ad) N.length c1, .slice A2 B.length c2] 68 (0, 0))) ∧ Aside0 (Kd.R (Kd.int .i64) 3 w' wb.heap.size (fun _ => True) (.slice (some ⟨wb.heap.size, 0, none⟩) N.length N.length) (cntL N.length ((B ++ flatN (N.take i)) ++ L.take j))) ∧ Aside0 (Kd.R (Kd.int .i64) 2 w' (wd.heap.size + 1) (fun k => k ≠ wb.heap.size) (.slice Aa L.length ca) L) ∧ Aside0 (Below w.heap.size w w'))
                  case atStart => exact ⟨0, rfl, ⟨by omega⟩, BKa, ⟨by rw [List.take_zero, List.append_nil]; exact HOa.out⟩, HOL, HBa⟩
                  case round =>
                    clear HOa HOL HBa BKa
                    obtain ⟨j, rfl, HKj, BKT, HO, HOL, HB⟩ := hrel
                    by_cases hj2 : j < L.length
                    · have hjz : (j : Int) < (L.length : Int) := by omega
                      have hjd9 : decide ((j : Int) < (L.length : Int)) = true := decide_eq_true hjz
                      have hjd9' : decide (j < L.length) = true := decide_eq_true hj2
                      have hjq := eq_true hjz
                      have hj0 : (0 ≤ (j : Int)) = True := eq_true (by omega)
                      obtain ⟨adL, rfl, hx⟩ := Kd.at_int (Kd.R_reads' HOL.out).2.2 (j : Int) (by omega) hjz
                      rw [Int.toNat_natCast] at hx
                      obtain ⟨hx0, hx1⟩ := HRG3.out _ (rd_mem hj2)
                      have hP : ∀ x ∈ (B ++ flatN (N.take i)) ++ L.take j, 0 ≤ x ∧ x < (N.length : Int) := by
                        intro x hx
                        rcases List.mem_append.1 hx with hx | hx
                        · rcases List.mem_append.1 hx with hx | hx
                          · exact HBR.out x hx
                          · exact HFR.out x (flatN_sub hx)
                        · exact HRG3.out x (List.mem_of_mem_take hx)
                      have hPl : ((B ++ flatN (N.take i)) ++ L.take j).length ≤ 1000000000 := by
                        have e1 := flatN_len (N.take i) (fun x hx => HS.out.k x (List.mem_of_mem_take hx))
                        have e2 := HS.out.b
                        have e4 : (N.take i).length ≤ 200 := by rw [List.length_take]; omega
                        have e5 : (L.take j).length ≤ L.length := by rw [List.length_take]; omega
                        have e6 : (N.take i).length * 3145728 ≤ 200 * 3145728 := Nat.mul_le_mul_right _ e4
                        simp only [List.length_append]
                        omega
                      have hbd := cnt_bd hP hPl _ hx0 hx1
                      obtain ⟨hc, hfz⟩ := R_cellN (cntL_length _ _) HO.out _ hx0 hx1
                      have hb0 := hbd.1
                      have hb1 := hbd.2
                      have HOp := Aside0.mk (R_putN (cntL_length _ _) HO.out (rd L (j : Int)) (rd (cntL N.length ((B ++ flatN (N.take i)) ++ L.take j)) (rd L (j : Int)) + 1))
                      have HSN := Aside0.mk (show cntL N.length ((B ++ flatN (N.take i)) ++ L.take (j + 1)) = _ from by rw [take_snoc_rd hj2, ← List.append_assoc, cntL_snoc])
                      have hx0q := eq_true hx0
                      have hx1q := eq_true hx1
                      clear hP hPl hbd
                      revert hc hfz hb0 hb1 HOp HSN
                      generalize cntL N.length ((B ++ flatN (N.take i)) ++ L.take j) = xs
                      generalize hcx : rd xs (rd L (j : Int)) = cx
                      intro hc hfz hb0 hb1 HOp HSN
                      go_wp2
                      go_roundg (L.length - (j + 1))
                      case measure => have := HKj.out; omega
                      case rel => exact ⟨j + 1, by go_num, ⟨by omega⟩, ⟨blk_far BKT.out (by show w.heap.size ≠ wb.heap.size; omega) _⟩, ⟨by rw [HSN.out, bump, hcx]; exact HOp.out⟩, ⟨Kd.R_far (p := ⟨wb.heap.size, _, none⟩) HOL.out (fun k hk => hk) _⟩, ⟨below_set HB.out (by show w.heap.size ≤ wb.heap.size; omega)⟩⟩
                    · have hjd9 : decide ((j : Int) < (L.length : Int)) = false := decide_eq_false (by omega)
                      have hjd9' : decide (j < L.length) = false := decide_eq_false hj2
                      have HLt := Aside0.mk (show L.take j = L from List.take_of_length_le (by omega))
                      go_wp2
                      go_roundg (N.length - (i + 1))
                      case measure => have := HKi.out; omega
                      case rel => exact ⟨i + 1, by go_num, ⟨by omega⟩, BKT, ⟨by rw [HFL.out, ← List.append_assoc]; have := HO.out; rw [HLt.out] at this; exact this⟩, HB⟩
                · have hd9 : decide ((i : Int) < (N.length : Int)) = false := decide_eq_false (by omega)
                  have hd9' : decide (i < N.length) = false := decide_eq_false hi
                  have hNt : N.take i = N := List.take_of_length_le (by omega)
                  rw [hNt] at HO
                  have hCR : Kd.C (Kd.int .i64) wd (some ⟨wb.heap.size, 0, none⟩) (cntL N.length (B ++ flatN N)).length (cntL N.length (B ++ flatN N)) := (Kd.R_reads' HO.out).2.2
                  have hcl : (cntL N.length (B ++ flatN N)).length = N.length := cntL_length _ _
                  have HCF := slices_ContainsFunc_int.calls 144 #[] oneB (enters_of_func Try.func144 (by kernel_rfl) rfl) (some ⟨wb.heap.size, 0, none⟩) N.length (cntL N.length (B ++ flatN N)) wd hCR (fun W x _ => impl_tf2.w W x)
                  rw [hcl] at HCF
                  have HCFa := Aside0.mk HCF
                  clear HCF hCR hcl hNt
                  go_wp2_with fail
                  refine HCFa.out.mono ?_
                  rintro e w5 ⟨rfl, hb5⟩
                  have BK5 := Aside0.mk (blk_below BKT.out hb5)
                  have HB5 := Aside0.mk (below_step HB.out hb5)
                  clear hb5 HCFa HO HB BKT
                  cases hany : (cntL N.length (B ++ flatN N)).any oneB with
                  | true =>
                    have HGc := Aside0.mk (show faultI V N B = 1 by rw [HGb.out, if_pos hany])
                    clear hany
                    go_wp2
                    go_ret
                    exact ⟨by rw [HGc.out]; rfl, HB5.out⟩
                  | false =>
                    have HGc := Aside0.mk (show faultI V N B = _ from by rw [HGb.out, if_neg (by rw [hany]; decide)])
                    clear hany
                    have t0 : w5.cell? ⟨w.heap.size, 0, none⟩ = some (.slice A0 V.length c0) := (blk_cell BK5.out 0).trans rfl
                    have t1 : w5.cell? ⟨w.heap.size, 1, none⟩ = some (.slice A1 N.length c1) := (blk_cell BK5.out 1).trans rfl
                    have t2 : w5.cell? ⟨w.heap.size, 2, none⟩ = some (.slice A2 B.length c2) := (blk_cell BK5.out 2).trans rfl
                    go_wp2_with fail
                    refine (impl_tooDeep.w _ _ A1 c1 N (by omega) w5 (Kd.C_below HN.out HB5.out) HS.out.k).mono ?_
                    rintro e w6 ⟨rfl, hb6⟩
                    have HB6 := Aside0.mk (below_step HB5.out hb6)
                    clear hb6 t0 t1 t2
                    cases hdp : (depthL N).any deepB with
                    | true =>
                      have HGd := Aside0.mk (show faultI V N B = 9 by rw [HGc.out, if_pos hdp])
                      clear hdp
                      go_wp2
                      go_ret
                      exact ⟨by rw [HGd.out]; rfl, HB6.out⟩
                    | false =>
                      have HGd := Aside0.mk (show faultI V N B = 0 by rw [HGc.out, if_neg (by rw [hdp]; decide)])
                      clear hdp
                      go_wp2
                      go_ret
                      exact ⟨by rw [HGd.out]; rfl, HB6.out⟩
/-! ### LIB sfault2 -/
set_option maxHeartbeats 16000000 in
set_option maxRecDepth 100000 in
theorem spec_l4Fault.w (g : Nat) (V : List S125) (N : List S134) (B : List Int) (A0 A1 A2 : Option Addr) (c0 c1 c2 : Nat) (w : World) (h : TreeAt w g V N B A0 c0 A1 c1 A2 c2) (hs : Small V N B) :
    Calls Try.prog 88 #[.pointer (some ⟨g, 0, none⟩)] w fun e w' => e = .returned (.int .i64 (faultS V N B)) ∧ Below w.heap.size w w' := by
  have huv := Try.underlying125
  have hun := Try.underlying134
  have HT := Aside0.mk h
  have HS := Aside0.mk hs
  have hvm := Kd.C_max h.v
  have p0 : w.cell? ⟨g, 0, none⟩ = some (.slice A0 V.length c0) := (blk_cell h.blk 0).trans rfl
  have p1 : w.cell? ⟨g, 1, none⟩ = some (.slice A1 N.length c1) := (blk_cell h.blk 1).trans rfl
  have hgl : g < w.heap.size := blk_lt h.blk
  clear h hs
  by_cases hV : 24 < V.length
  · have e1 : decide (24 < (V.length : Int)) = true := decide_eq_true (by omega)
    have e2 : decide (24 < V.length) = true := decide_eq_true hV
    have HG := Aside0.mk (show faultS V N B = 2 by unfold faultS; rw [if_pos (.inl hV)])
    clear hV
    go_enter Try.func88, Try.ntmps88
    go_wp2
    go_ret
    exact ⟨by rw [HG.out]; rfl, Below.refl _ _⟩
  by_cases hNn : 200 < N.length
  · have e1 : decide (24 < (V.length : Int)) = false := decide_eq_false (by omega)
    have e2 : decide (24 < V.length) = false := decide_eq_false hV
    have e3 : decide (200 < (N.length : Int)) = true := decide_eq_true (by omega)
    have e4 : decide (200 < N.length) = true := decide_eq_true hNn
    have HG := Aside0.mk (show faultS V N B = 2 by unfold faultS; rw [if_pos (.inr hNn)])
    clear hNn hV
    go_enter Try.func88, Try.ntmps88
    go_wp2
    go_ret
    exact ⟨by rw [HG.out]; rfl, Below.refl _ _⟩
  have e1 : decide (24 < (V.length : Int)) = false := decide_eq_false (by omega)
  have e2 : decide (24 < V.length) = false := decide_eq_false hV
  have e3 : decide (200 < (N.length : Int)) = false := decide_eq_false (by omega)
  have e4 : decide (200 < N.length) = false := decide_eq_false hNn
  have hVl : V.length ≤ 24 := by omega
  have hNl : N.length ≤ 200 := by omega
  have HG := Aside0.mk (show faultS V N B = _ from by unfold faultS; rw [if_neg (by omega)])
  clear hV hNn
  go_enter Try.func88, Try.ntmps88
  go_wp2
  clear e1 e2 e3 e4
  go_loopg [3] V.length (fun gg s3 wr => ∃ kk : Nat, s3 = .int .i64 (kk : Int) ∧ Aside0 (kk ≤ V.length ∧ V.length - kk ≤ gg) ∧ Aside0 (Below w.heap.size w wr) ∧ Aside0 (∀ (j : Nat) (y : S125), j < kk → V[j]? = some y → vf y = 0))
  case atStart => exact ⟨0, rfl, ⟨by omega⟩, ⟨Below.refl _ _⟩, ⟨fun j _ hj => absurd hj (Nat.not_lt_zero _)⟩⟩
  case round =>
    obtain ⟨wa, rfl⟩ : ∃ wa : World, wa = wr := ⟨_, rfl⟩
    obtain ⟨kk, rfl, HK, HB, HA⟩ := hrel
    have q0 := pw_cell_below HB.out p0
    by_cases hlt : kk < V.length
    · have hltz : (kk : Int) < (V.length : Int) := by omega
      have hd : decide ((kk : Int) < (V.length : Int)) = true := decide_eq_true hltz
      have hd' : decide (kk < V.length) = true := decide_eq_true hlt
      obtain ⟨ad, rfl, hc0, hc1, hc2, hc3⟩ := at_T125 (Kd.C_below HT.out.v HB.out) kk (by omega) (by omega)
      rw [Int.toNat_natCast] at hc0 hc1 hc2 hc3
      have HX := Aside0.mk (rdV_get hlt)
      have hsz := HS.out.vn _ (rdV_mem hlt)
      have hltq := eq_true hltz
      have h0q : (0 ≤ (kk : Int)) = True := eq_true (by omega)
      revert hc0 hc1 hc2 hc3 HX hsz
      generalize rd_T125 V (kk : Int) = v
      intro hc0 hc1 hc2 hc3 HX hsz
      have HVB := Aside0.mk (fun (c : Int) (hc : vf v = c) (h0 : c ≠ 0) => (show faultS V N B = c by rw [HG.out, varsF_bad V kk v HX.out HA.out (by rw [hc]; exact h0), hc, if_pos h0]))
      clear hlt
      go_wp2_with fail
      refine (w_IsName' _ hsz _).mono ?_
      rintro e w1 ⟨rfl, hb⟩
      have BK1 := Aside0.mk (blk_below (blk_new wa (.cells #[.string v.f0, .int .i64 v.f1, .int .i64 v.f2, .int .i64 v.f3] 125)) hb)
      have HB1 := Aside0.mk (below_step (HB.out.alloc (below_size HB.out) _) hb)
      have x1 : w1.cell? ⟨wa.heap.size, 1, none⟩ = some (.int .i64 v.f1) := (blk_cell BK1.out 1).trans rfl
      have x2 : w1.cell? ⟨wa.heap.size, 2, none⟩ = some (.int .i64 v.f2) := (blk_cell BK1.out 2).trans rfl
      have x3 : w1.cell? ⟨wa.heap.size, 3, none⟩ = some (.int .i64 v.f3) := (blk_cell BK1.out 3).trans rfl
      clear hb hc0 hc1 hc2 hc3 BK1
      go_wp2_with ((go_at_call 67; refine (d_l1In _ _ _ _).mono ?_; rintro e w' ⟨rfl, q, rfl⟩))
      all_goals first
        | (go_roundg (V.length - (kk + 1))
           case measure => have := HK.out; omega
           case rel =>
             refine ⟨kk + 1, by go_num, ⟨by have := HK.out; omega⟩, ⟨by repeat (first | exact HB1.out | apply pw_below_drewN)⟩, ⟨fun j y hj hy => ?_⟩⟩
             by_cases e : j = kk
             · subst e
               rw [HX.out] at hy
               cases hy
               simp_all [vf]
             · exact HA.out j y (by omega) hy)
        | (go_ret
           refine ⟨?_, by repeat (first | exact HB1.out | apply pw_below_drewN)⟩
           first
             | (rw [HVB.out 5 (by simp_all [vf]) (by decide)]; rfl)
             | (rw [HVB.out 3 (by simp_all [vf]) (by decide)]; rfl))
    · have hd : decide ((kk : Int) < (V.length : Int)) = false := decide_eq_false (by omega)
      have hd' : decide (kk < V.length) = false := decide_eq_false hlt
      have HGv := Aside0.mk (show faultS V N B = _ from by rw [HG.out, varsF_good V (fun j y hy => HA.out j y (by have := (List.getElem?_eq_some_iff.1 hy).1; have := HK.out; omega) hy), if_neg (by decide)])
      clear HA HG
      go_wp2
      clear q0
      go_loopg [5] N.length (fun gg s5 wr => ∃ kk : Nat, s5 = .int .i64 (kk : Int) ∧ Aside0 (kk ≤ N.length ∧ N.length - kk ≤ gg) ∧ Aside0 (Below w.heap.size w wr) ∧ Aside0 (∀ j : Nat, j < kk → rightB N j (rd_T134 N (j : Int)) = true))
      case atStart => exact ⟨0, rfl, ⟨by omega⟩, HB, ⟨fun j hj => absurd hj (Nat.not_lt_zero _)⟩⟩
      case round =>
        clear HB
        obtain ⟨wb, rfl⟩ : ∃ wb : World, wb = wr := ⟨_, rfl⟩
        obtain ⟨kk, rfl, HK, HB, HA⟩ := hrel
        have q1 := pw_cell_below HB.out p1
        by_cases hlt : kk < N.length
        · have hltz : (kk : Int) < (N.length : Int) := by omega
          have hd : decide ((kk : Int) < (N.length : Int)) = true := decide_eq_true hltz
          have hd' : decide (kk < N.length) = true := decide_eq_true hlt
          go_wp2_with fail
          refine (spec_l4Right.w g V N B A0 A1 A2 c0 c1 c2 kk hlt (by omega) wb (HT.out.below HB.out) HS.out).mono ?_
          rintro e w1 ⟨rfl, hb⟩
          have HB1 := Aside0.mk (below_step HB.out hb)
          clear hb
          cases hr : rightB N kk (rd_T134 N (kk : Int)) with
          | false =>
            have HR := Aside0.mk (show faultS V N B = 1 by rw [HGv.out, if_pos (nodesS_bad hlt hr)])
            clear hr
            go_wp2
            go_ret
            exact ⟨by rw [HR.out]; rfl, HB1.out⟩
          | true =>
            have HR := Aside0.mk hr
            clear hr
            go_wp2
            go_roundg (N.length - (kk + 1))
            case measure => have := HK.out; omega
            case rel => exact ⟨kk + 1, by go_num, ⟨by omega⟩, HB1, ⟨fun j hj => if e : j = kk then by subst e; exact HR.out else HA.out j (by omega)⟩⟩
        · have hd : decide ((kk : Int) < (N.length : Int)) = false := decide_eq_false (by omega)
          have hd' : decide (kk < N.length) = false := decide_eq_false hlt
          have HNG := Aside0.mk (nodesS_good (fun k hk => HA.out k (by have := HK.out; omega)))
          have HGn := Aside0.mk (show faultS V N B = _ from by rw [HGv.out, if_neg (by rw [HNG.out]; decide)])
          have HFR := Aside0.mk (flat_rangeS HNG.out)
          have q2 : wb.cell? ⟨g, 2, none⟩ = some (.slice A2 B.length c2) := pw_cell_below HB.out ((blk_cell HT.out.blk 2).trans rfl)
          have HRF := Aside0.mk (fun (W : World) (hb : Below w.heap.size w W) => spec_l4Refs.w g V N B A0 A1 A2 c0 c1 c2 N.length (Nat.le_refl _) (by omega) A2 c2 B false W (HT.out.below hb) (Kd.C_below HT.out.b hb))
          clear HA HGv
          go_wp2_with fail
          go_region_held3 (fun w' => w'.cell? ⟨g, 1, none⟩ = some (.slice A1 N.length c1) ∧ w'.cell? ⟨g, 2, none⟩ = some (.slice A2 B.length c2)) (first | go_keep | (go_split_ands; refine ⟨?_, ?_⟩ <;> exact pw_cell_below hb (by assumption)))
            (first | (go_at_call 130; refine (HRF.out _ (by repeat (first | exact HB.out | apply pw_below_drewN))).mono ?_; rintro e w' ⟨rfl, hb⟩))
          all_goals
            have HB1 := Aside0.mk (below_step (pw_below_drewN HB.out _) hb)
            clear hb
            cases hrb : B.all (refB N N.length false) with
            | false =>
              have HR := Aside0.mk (show faultS V N B = 1 by rw [HGn.out, if_pos hrb])
              clear hrb
              go_wp2
              go_ret
              exact ⟨by rw [HR.out]; rfl, HB1.out⟩
            | true =>
              have HGb := Aside0.mk (show faultS V N B = _ from by rw [HGn.out, if_neg (by rw [hrb]; decide)])
              have HBR := Aside0.mk (fun x hx => (by have := ref_range hrb hx; omega) : ∀ x ∈ B, 0 ≤ x ∧ x < (N.length : Int))
              clear hrb HB
              go_wp2_with fail
              refine (spec_l4Count.w g V N B A0 A1 A2 c0 c1 c2 w' (HT.out.below HB1.out) HS.out hNl (fun x hx => (List.mem_append.1 hx).elim (HFR.out x) (HBR.out x))).mono ?_
              rintro e w2 ⟨v2, rfl, ho, hb2⟩
              obtain ⟨Ao, co, eo⟩ := Kd.R_slice ho
              subst eo
              have HC := Aside0.mk (Kd.R_reads' ho).2.2
              have hcl : (cntL N.length (flatN N ++ B)).length = N.length := cntL_length _ _
              have HB2 := Aside0.mk (below_step HB1.out hb2)
              clear ho hb2
              revert HC hcl HGb
              generalize cntL N.length (flatN N ++ B) = xs
              intro HGb HC hcl
              have hxl : xs.length ≤ 200 := by omega
              clear hcl q1 q2
              go_wp2
              go_loopg [7] xs.length (fun gg s7 wr => ∃ j : Nat, s7 = .int .i64 (j : Int) ∧ Aside0 (j ≤ xs.length ∧ xs.length - j ≤ gg) ∧ Aside0 (Below w2.heap.size w2 wr) ∧ Aside0 (∀ i, i < j → oneB (rd xs (i : Int)) = false))
              case atStart => exact ⟨0, rfl, ⟨by omega⟩, ⟨Below.refl _ _⟩, ⟨fun i hi => absurd hi (Nat.not_lt_zero _)⟩⟩
              case round =>
                obtain ⟨wc, rfl⟩ : ∃ wc : World, wc = wr := ⟨_, rfl⟩
                obtain ⟨j, rfl, HKj, HBj, HAj⟩ := hrel
                by_cases hj : j < xs.length
                · have hjz : (j : Int) < (xs.length : Int) := by omega
                  have hjd : decide ((j : Int) < (xs.length : Int)) = true := decide_eq_true hjz
                  have hjd' : decide (j < xs.length) = true := decide_eq_true hj
                  have hjq := eq_true hjz
                  have hj0 : (0 ≤ (j : Int)) = True := eq_true (by omega)
                  obtain ⟨adx, rfl, hx⟩ := Kd.at_int (Kd.C_below HC.out HBj.out) (j : Int) (by omega) hjz
                  rw [Int.toNat_natCast] at hx
                  cases hone : oneB (rd xs (j : Int)) with
                  | true =>
                    have HR := Aside0.mk (show faultS V N B = 1 by rw [HGb.out, if_pos (any_at hj hone)])
                    have hone' : ((rd xs (j : Int)) != 1) = true := hone
                    clear hone
                    go_wp2
                    go_ret
                    exact ⟨by rw [HR.out]; rfl, below_step HB2.out HBj.out⟩
                  | false =>
                    have hone' : ((rd xs (j : Int)) != 1) = false := hone
                    have HO := Aside0.mk hone
                    clear hone
                    go_wp2
                    go_roundg (xs.length - (j + 1))
                    case measure => have := HKj.out; omega
                    case rel => exact ⟨j + 1, by go_num, ⟨by omega⟩, HBj, ⟨fun i hi => if e : i = j then by subst e; exact HO.out else HAj.out i (by omega)⟩⟩
                · have hjd : decide ((j : Int) < (xs.length : Int)) = false := decide_eq_false (by omega)
                  have hjd' : decide (j < xs.length) = false := decide_eq_false hj
                  have HGc := Aside0.mk (show faultS V N B = _ from by rw [HGb.out, if_neg (by rw [any_none (fun i hi => HAj.out i (by have := HKj.out; omega))]; decide)])
                  have HB3 := Aside0.mk (below_step HB2.out HBj.out)
                  clear HGb HAj
                  go_wp2_with fail
                  refine (spec_l4Depths.w g V N B A0 A1 A2 c0 c1 c2 wc (HT.out.below HB3.out) (by omega)).mono ?_
                  rintro e w4 ⟨v4, rfl, ho, hb4⟩
                  obtain ⟨Ad, cd, ed⟩ := Kd.R_slice ho
                  subst ed
                  have HD := Aside0.mk (Kd.R_reads' ho).2.2
                  have hdl : (depthL N).length = N.length := depthL_length _
                  have HB4 := Aside0.mk (below_step HB3.out hb4)
                  clear ho hb4
                  revert HD hdl HGc
                  generalize depthL N = ys
                  intro HGc HD hdl
                  have hyl : ys.length ≤ 200 := by omega
                  clear hdl
                  go_wp2
                  go_loopg [9] ys.length (fun gg s9 wr => ∃ j : Nat, s9 = .int .i64 (j : Int) ∧ Aside0 (j ≤ ys.length ∧ ys.length - j ≤ gg) ∧ Aside0 (Below w4.heap.size w4 wr) ∧ Aside0 (∀ i, i < j → deepB (rd ys (i : Int)) = false))
                  case atStart => exact ⟨0, rfl, ⟨by omega⟩, ⟨Below.refl _ _⟩, ⟨fun i hi => absurd hi (Nat.not_lt_zero _)⟩⟩
                  case round =>
                    obtain ⟨j2, rfl, HKj2, HBj2, HAj2⟩ := hrel
                    by_cases hj2 : j2 < ys.length
                    · have hjz2 : (j2 : Int) < (ys.length : Int) := by omega
                      have hjd2 : decide ((j2 : Int) < (ys.length : Int)) = true := decide_eq_true hjz2
                      have hjd2' : decide (j2 < ys.length) = true := decide_eq_true hj2
                      have hjq2 := eq_true hjz2
                      have hj02 : (0 ≤ (j2 : Int)) = True := eq_true (by omega)
                      obtain ⟨ady, rfl, hy⟩ := Kd.at_int (Kd.C_below HD.out HBj2.out) (j2 : Int) (by omega) hjz2
                      rw [Int.toNat_natCast] at hy
                      cases hdp : deepB (rd ys (j2 : Int)) with
                      | true =>
                        have HR := Aside0.mk (show faultS V N B = 9 by rw [HGc.out, if_pos (any_at hj2 hdp)])
                        have hdp' : decide (20 < rd ys (j2 : Int)) = true := hdp
                        clear hdp
                        go_wp2
                        go_ret
                        exact ⟨by rw [HR.out]; rfl, below_step HB4.out HBj2.out⟩
                      | false =>
                        have hdp' : decide (20 < rd ys (j2 : Int)) = false := hdp
                        have HO := Aside0.mk hdp
                        clear hdp
                        go_wp2
                        go_roundg (ys.length - (j2 + 1))
                        case measure => have := HKj2.out; omega
                        case rel => exact ⟨j2 + 1, by go_num, ⟨by omega⟩, HBj2, ⟨fun i hi => if e : i = j2 then by subst e; exact HO.out else HAj2.out i (by omega)⟩⟩
                    · have hjd2 : decide ((j2 : Int) < (ys.length : Int)) = false := decide_eq_false (by omega)
                      have hjd2' : decide (j2 < ys.length) = false := decide_eq_false hj2
                      have HR := Aside0.mk (show faultS V N B = 0 by rw [HGc.out, if_neg (by rw [any_none (fun i hi => HAj2.out i (by have := HKj2.out; omega))]; decide)])
                      go_wp2
                      go_ret
                      exact ⟨by rw [HR.out]; rfl, below_step HB4.out HBj2.out⟩
/-! ### LIB calls0 -/
def isCall (n : S134) : Bool := n.f0 == 11
theorem raw_empty (w : World) (e : TypeId) : (Kd.raw 8).R e (w.alloc (.cells #[] e)) w.heap.size (fun _ => True) (.slice (some ⟨w.heap.size, 0, none⟩) 0 0) [] := by
  have h := World.ownsRow_lit (base := w.heap.size) (e := e) (size := 8) w #[] 0 (Nat.le_refl _) (Nat.zero_le _) (by simp)
  exact ⟨fun _ _ => trivial, [], by simp at h; exact h, Reps.none _ _⟩
/-! ### LIB delnodeh -/
def RowOk (c : List Value) : Prop := ∃ (k d1 : Int) (d2 : ByteArray) (d3 d4 : Int) (A5 : Option Addr) (n5 c5 : Nat) (A6 : Option Addr) (n6 c6 : Nat) (A7 : Option Addr) (n7 c7 : Nat), c = [.int .i64 k, .int .i64 d1, .string d2, .int .i64 d3, .int .i64 d4, .slice A5 n5 c5, .slice A6 n6 c6, .slice A7 n7 c7]
def headR (c : List Value) : Int × Int × ByteArray := match c with | .int _ k :: .int _ o :: .string s :: _ => (k, o, s) | _ => (0, 0, ⟨#[]⟩)
def headN (x : S134) : Int × Int × ByteArray := (x.f0, x.f1, x.f2)
theorem RowOk.sz {c : List Value} (h : RowOk c) : c = c ∧ c.length = 8 ∧ ∀ u ∈ c, u.oneCell' = true := by
  obtain ⟨k, d1, d2, d3, d4, A5, n5, c5, A6, n6, c6, A7, n7, c7, rfl⟩ := h
  exact ⟨rfl, rfl, by simp [Value.oneCell']⟩
theorem raw_rows {w : World} {A : Option Addr} {n : Nat} {xs : List S134} (h : Kd.C k134 w A n xs) : ∃ rows : List (List Value), rows.length = n ∧ (Kd.raw 8).C w A n rows ∧ (∀ c ∈ rows, RowOk c) ∧ rows.map headR = xs.map headN := by
  obtain ⟨hl, hm, hc⟩ := h
  by_cases h0 : 0 < n
  · obtain ⟨ad, rfl, hc2⟩ := hc h0
    have each : ∀ j, j < n → ∃ c : List Value, RowOk c ∧ (∀ p, xs[j]? = some p → headR c = headN p) ∧ ∀ i u, c[i]? = some u → w.cell? (ad.add (j * 8 + i)) = some u := by
      intro j hj
      obtain ⟨c, _, hK, hcell⟩ := hc2 j _ (List.getElem?_eq_getElem (by omega : j < xs.length))
      obtain ⟨A5, c5, A6, c6, A7, c7, rfl, _⟩ := k134_open hK
      exact ⟨_, ⟨_, _, _, _, _, _, _, _, _, _, _, _, _, _, rfl⟩, fun p hp => by rw [List.getElem?_eq_getElem (by omega : j < xs.length)] at hp; cases hp; rfl, hcell⟩
    obtain ⟨F, hF⟩ : ∃ F : Nat → List Value, ∀ j, j < n → RowOk (F j) ∧ (∀ p, xs[j]? = some p → headR (F j) = headN p) ∧ ∀ i u, (F j)[i]? = some u → w.cell? (ad.add (j * 8 + i)) = some u :=
      ⟨fun j => open Classical in if h : j < n then (each j h).choose else [], fun j hj => by simp only [dif_pos hj]; exact (each j hj).choose_spec⟩
    refine ⟨(List.range n).map F, by simp, ⟨by simp, hm, fun _ => ⟨ad, rfl, fun j p hj => ?_⟩⟩, fun c hc => ?_, ?_⟩
    · obtain ⟨hj1, hj2⟩ := List.getElem?_eq_some_iff.1 hj
      rw [List.getElem_map, List.getElem_range] at hj2
      subst hj2
      have hjn : j < n := by simpa using hj1
      exact ⟨F j, (hF j hjn).1.sz.2.1, (hF j hjn).1.sz, (hF j hjn).2.2⟩
    · obtain ⟨i, hi1, rfl⟩ := List.mem_map.1 hc
      exact (hF i (List.mem_range.1 hi1)).1
    · refine List.ext_getElem (by simp [hl]) fun j h1 h2 => ?_
      have hjn : j < n := by simpa using h1
      simp only [List.getElem_map, List.getElem_range]
      exact (hF j hjn).2.1 _ (List.getElem?_eq_getElem (by omega))
  · obtain rfl : n = 0 := by omega
    have : xs = [] := List.length_eq_zero_iff.1 hl
    subst this
    exact ⟨[], rfl, ⟨rfl, Nat.zero_le _, fun h => absurd h (Nat.lt_irrefl _)⟩, (fun c hc => by cases hc), rfl⟩
/-- One row's cells. -/
theorem raw_at {w : World} {A : Option Addr} {n : Nat} {rows : List (List Value)} (h : (Kd.raw 8).C w A n rows) (hok : ∀ c ∈ rows, RowOk c) (i : Nat) (hi : i < n) :
    ∃ (ad : Addr) (k d1 : Int) (d2 : ByteArray) (d3 d4 : Int) (A5 : Option Addr) (n5 c5 : Nat) (A6 : Option Addr) (n6 c6 : Nat) (A7 : Option Addr) (n7 c7 : Nat), A = some ad ∧ rows[i]? = some [.int .i64 k, .int .i64 d1, .string d2, .int .i64 d3, .int .i64 d4, .slice A5 n5 c5, .slice A6 n6 c6, .slice A7 n7 c7] ∧ w.cell? (ad.add (i * 8)) = some (.int .i64 k) ∧ w.cell? ⟨(ad.add (i * 8)).block, (ad.add (i * 8)).off + 1, none⟩ = some (.int .i64 d1) ∧ w.cell? ⟨(ad.add (i * 8)).block, (ad.add (i * 8)).off + 2, none⟩ = some (.string d2) ∧ w.cell? ⟨(ad.add (i * 8)).block, (ad.add (i * 8)).off + 3, none⟩ = some (.int .i64 d3) ∧ w.cell? ⟨(ad.add (i * 8)).block, (ad.add (i * 8)).off + 4, none⟩ = some (.int .i64 d4)
      ∧ w.cell? ⟨(ad.add (i * 8)).block, (ad.add (i * 8)).off + 5, none⟩ = some (.slice A5 n5 c5) ∧ w.cell? ⟨(ad.add (i * 8)).block, (ad.add (i * 8)).off + 6, none⟩ = some (.slice A6 n6 c6) ∧ w.cell? ⟨(ad.add (i * 8)).block, (ad.add (i * 8)).off + 7, none⟩ = some (.slice A7 n7 c7) := by
  obtain ⟨hl, hm, hc⟩ := h
  obtain ⟨ad, rfl, hc2⟩ := hc (by omega)
  obtain ⟨c, _, hK, hcell⟩ := hc2 i _ (List.getElem?_eq_getElem (by omega : i < rows.length))
  have e : c = rows[i]'(by omega) := hK.1
  obtain ⟨k, d1, d2, d3, d4, A5, n5, c5, A6, n6, c6, A7, n7, c7, e2⟩ := hok _ (List.getElem_mem (by omega : i < rows.length))
  rw [e2] at e
  subst e
  exact ⟨ad, k, d1, d2, d3, d4, A5, n5, c5, A6, n6, c6, A7, n7, c7, rfl, by rw [List.getElem?_eq_getElem (by omega), e2], hcell 0 _ rfl, by rw [← add_field _ _ 1 (by omega)]; exact hcell 1 _ rfl, by rw [← add_field _ _ 2 (by omega)]; exact hcell 2 _ rfl, by rw [← add_field _ _ 3 (by omega)]; exact hcell 3 _ rfl, by rw [← add_field _ _ 4 (by omega)]; exact hcell 4 _ rfl, by rw [← add_field _ _ 5 (by omega)]; exact hcell 5 _ rfl, by rw [← add_field _ _ 6 (by omega)]; exact hcell 6 _ rfl, by rw [← add_field _ _ 7 (by omega)]; exact hcell 7 _ rfl⟩
set_option maxHeartbeats 1000000 in
theorem impl_calls1.w (W : World) (c : List Value) (h : RowOk c) : Calls Try.prog 222 (#[Value.agg c.toArray] ++ #[]) W fun e W' => e = .returned (.bool ((headR c).1 != 11)) ∧ Below W.heap.size W W' := by
  obtain ⟨k, d1, d2, d3, d4, A5, n5, c5, A6, n6, c6, A7, n7, c7, rfl⟩ := h
  have hu := Try.underlying134
  show Calls Try.prog _ #[Value.agg #[.int .i64 k, .int .i64 d1, .string d2, .int .i64 d3, .int .i64 d4, .slice A5 n5 c5, .slice A6 n6 c6, .slice A7 n7 c7]] W _
  go_enter Try.func222, Try.ntmps222
  go_wp2
  go_ret
  exact ⟨rfl, (Below.refl _ _).alloc (Nat.le_refl _) _⟩
/-- A function value asked at whole rows. -/
def PredR (g : Nat) (lb : Array Value) (p : List Value → Bool) : Prop := ∀ (W : World) (c : List Value), RowOk c → Calls Try.prog g (#[Value.agg c.toArray] ++ lb) W fun e W' => e = .returned (.bool (p c)) ∧ Below W.heap.size W W'
set_option maxHeartbeats 2000000 in
set_option maxRecDepth 100000 in
theorem slices_IndexFunc_Node.w (g : Nat) (lb : Array Value) (p : List Value → Bool) (eg : Enters g) (A : Option Addr) (c n : Nat) (l : List (List Value)) (w : World) (hr : (Kd.raw 8).C w A n l) (hok : ∀ c ∈ l, RowOk c) (hp : PredR g lb p) :
    Calls Try.prog 223 #[.slice A n c, .func (.func g) #[] lb] w fun e w' => e = .returned (.int .i64 (idxP p l)) ∧ Below w.heap.size w w' := by
  have hu := Try.underlying134
  have hm := Kd.C_max hr
  have HR := Aside0.mk hr
  have HOK := Aside0.mk hok
  have HP := Aside0.mk hp
  have HLN := Aside0.mk hr.1
  have eg' : ∀ args w, (callFunc g args).run Try.prog w = .ok (.enter g args) w := eg
  clear hr hp eg hok
  go_enter Try.func223, Try.ntmps223
  go_wp2
  go_loopg [5, 8] n (fun gg _ s8 wr => ∃ kk : Nat, s8 = .int .i64 (kk : Int) ∧ Aside0 (kk ≤ n ∧ n - kk ≤ gg) ∧ Aside0 (Below w.heap.size w wr) ∧ Aside0 (∀ (j : Nat) (y : List Value), j < kk → l[j]? = some y → p y = false))
  case atStart => exact ⟨0, rfl, ⟨by omega⟩, ⟨Below.refl _ _⟩, ⟨fun j _ hj => absurd hj (Nat.not_lt_zero _)⟩⟩
  case round =>
    obtain ⟨kk, rfl, HK, HB, HA⟩ := hrel
    by_cases hlt : kk < n
    · have hltz : (kk : Int) < (n : Int) := by omega
      have hd : decide ((kk : Int) < (n : Int)) = true := decide_eq_true hltz
      have hd' : decide (kk < n) = true := decide_eq_true hlt
      obtain ⟨ad, k0, d1, d2, d3, d4, A5, n5, c5, A6, n6, c6, A7, n7, c7, rfl, hx, hc0, hc1, hc2, hc3, hc4, hc5, hc6, hc7⟩ := raw_at (Kd.C_below HR.out HB.out) HOK.out kk hlt
      have hcall := HP.out wr _ (HOK.out _ (List.mem_of_getElem? hx))
      have HX := Aside0.mk hx
      have hltq := eq_true hltz
      have h0q : (0 ≤ (kk : Int)) = True := eq_true (by omega)
      clear hx
      cases hq : p [.int .i64 k0, .int .i64 d1, .string d2, .int .i64 d3, .int .i64 d4, .slice A5 n5 c5, .slice A6 n6 c6, .slice A7 n7 c7] with
      | true =>
        rw [hq] at hcall
        have HQ := Aside0.mk hq
        clear hq
        go_wp2_with fail
        refine hcall.mono ?_
        rintro e w' ⟨rfl, hb⟩
        go_wp2
        go_ret
        refine ⟨?_, below_step HB.out hb⟩
        rw [idxP_hit p l kk _ HX.out HQ.out HA.out]
        rfl
      | false =>
        rw [hq] at hcall
        have HQ := Aside0.mk hq
        clear hq
        go_wp2_with fail
        refine hcall.mono ?_
        rintro e w' ⟨rfl, hb⟩
        have HB2 := Aside0.mk (below_step HB.out hb)
        clear hb
        go_wp2
        go_roundg (n - (kk + 1))
        case measure => have := HK.out; omega
        case rel =>
          refine ⟨kk + 1, by go_num, ⟨by omega⟩, HB2, ⟨fun j y hj hy => ?_⟩⟩
          by_cases e : j = kk
          · subst e
            rw [HX.out] at hy
            cases hy
            exact HQ.out
          · exact HA.out j y (by omega) hy
    · have hd : decide ((kk : Int) < (n : Int)) = false := decide_eq_false (by omega)
      have hd' : decide (kk < n) = false := decide_eq_false hlt
      go_wp2
      go_ret
      refine ⟨?_, HB.out⟩
      rw [idxP_miss p l (fun j y hy => HA.out j y (by have := (List.getElem?_eq_some_iff.1 hy).1; have := HK.out; have := HLN.out; omega) hy)]
      rfl
set_option maxHeartbeats 2000000 in
set_option maxRecDepth 100000 in
theorem slices_Clone_Node.w (A : Option Addr) (c : Nat) (N : List S134) (w : World) (hr : Kd.C k134 w A N.length N) (hN : N.length ≤ 1048576) :
    Calls Try.prog 221 #[.slice A N.length c] w fun e w' => ∃ (v : Value) (rows : List (List Value)), e = .returned v ∧ (Kd.raw 8).R 134 w' w.heap.size (fun _ => True) v rows ∧ (∀ c ∈ rows, RowOk c) ∧ rows.map headR = N.map headN ∧ Below w.heap.size w w' := by
  obtain ⟨rows, hrl, hrr, hok, hks⟩ := raw_rows hr
  have hq := fun (w : World) => Lib.run_eql_slice_nil (P := Try.prog) w 66 134 A N.length c 0 0 Try.underlying66
  have HR := Aside0.mk hrr
  have HOK := Aside0.mk hok
  have HKS := Aside0.mk hks
  have HRL := Aside0.mk hrl
  cases A with
  | none =>
    have hz : N.length = 0 := by
      by_cases h0 : 0 < N.length
      · obtain ⟨ad, e, _⟩ := hr.2.2 h0; cases e
      · omega
    have hz' : rows = [] := List.length_eq_zero_iff.1 (hrl.trans hz)
    subst hz'
    clear hr hrl hrr hok hks hz
    simp only [Option.isNone_none] at hq
    go_enter Try.func221, Try.ntmps221
    go_wp2_with fail
    go_ret
    exact ⟨_, [], rfl, Kd.R_nil _ _ _ _ _, (fun c hc => by cases hc), HKS.out, Below.refl _ _⟩
  | some ad =>
    have hm : N.length * 120 ≤ 140737488355328 := by omega
    clear hr hrl hrr hok hks
    simp only [Option.isNone_some] at hq
    have HE := Aside0.mk (raw_empty w 134)
    go_enter Try.func221, Try.ntmps221
    have HB1 := Aside0.mk ((Below.refl _ w).alloc (Nat.le_refl _) (.cells #[] 134))
    go_wp2_with ((with_reducible refine gate_builtin (b := .append) (xs := #[.tmp 5, .tmp 6]) rfl ?_); at_builtin; refine Kd.R_append_rows (Kd.raw 8) (w0 := w) w.heap.size rfl (.tmp 5) (.tmp 6) 66 134 _ 120 rfl Try.underlying66 info134 rfl (by decide) (by omega) (.slice (some ⟨w.heap.size, 0, none⟩) 0 0) [] rows (some ad) N.length c (fun _ => True) (fun _ => False) rfl rfl HE.out ?aR1 (fun _ _ h => h) (fun _ h => h.elim) (fun _ _ => trivial) HB1.out (below_size HB1.out) ?aM1 ?_; (case aR1 => exact Kd.C_below HR.out HB1.out); (case aM1 => simpa using hm); intro v1 w2 ho hb hg ha; clear hg ha; have HO := Aside0.mk ho; have HB := Aside0.mk hb; clear ho hb)
    go_ret
    exact ⟨_, rows, rfl, by simpa using HO.out, HOK.out, HKS.out, HB.out⟩
/-! ### LIB delfunch -/
def keepN (p : List Value → Bool) (rows : List (List Value)) (j : Nat) : Nat := ((rows.take j).filter (fun c => !p c)).length
def keepL (p : List Value → Bool) (rows : List (List Value)) (j : Nat) : List (List Value) := (rows.take j).filter (fun c => !p c)
theorem keepL_succ (p : List Value → Bool) (rows : List (List Value)) (j : Nat) (c : List Value) (h : rows[j]? = some c) : keepL p rows (j + 1) = keepL p rows j ++ (if p c = true then [] else [c]) := by
  obtain ⟨hl, rfl⟩ := List.getElem?_eq_some_iff.1 h
  unfold keepL
  rw [List.take_succ_eq_append_getElem hl, List.filter_append]
  cases hp : p rows[j] <;> simp [hp]
theorem keepL_all (p : List Value → Bool) (rows : List (List Value)) (k : Nat) (hk : k ≤ rows.length) (h : ∀ (j : Nat) (y : List Value), j < k → rows[j]? = some y → p y = false) : keepL p rows k = rows.take k := by
  induction k with
  | zero => rfl
  | succ k ih =>
    have hlt : k < rows.length := by omega
    have h1 := h k _ (by omega) (List.getElem?_eq_getElem hlt)
    rw [keepL_succ p rows k _ (List.getElem?_eq_getElem hlt), ih (by omega) (fun j y hj => h j y (by omega)), h1, List.take_succ_eq_append_getElem hlt]
    rfl
theorem take_set_succ {α : Type} (l : List α) (i : Nat) (x : α) (h : i < l.length) : (l.set i x).take (i + 1) = l.take i ++ [x] := by
  rw [List.take_succ_eq_append_getElem (by rw [List.length_set]; exact h), List.getElem_set_self]
  congr 1
  refine List.ext_getElem? fun j => ?_
  by_cases hj : j < i
  · rw [List.getElem?_take_of_lt hj, List.getElem?_take_of_lt hj, List.getElem?_set_ne (by omega)]
  · rw [List.getElem?_eq_none (by rw [List.length_take]; omega), List.getElem?_eq_none (by rw [List.length_take]; omega)]
/-- The first rows of a row, read in a world that has the same cells there. -/
theorem raw_take {w wF : World} {go n i : Nat} {cur : List (List Value)} (h : (Kd.raw 8).C w (some ⟨go, 0, none⟩) n cur) (hi : i ≤ n) (hw : ∀ o, o < i * 8 → wF.cell? ⟨go, o, none⟩ = w.cell? ⟨go, o, none⟩) : (Kd.raw 8).C wF (some ⟨go, 0, none⟩) i (cur.take i) := by
  obtain ⟨hl, hm, hc⟩ := h
  refine ⟨by rw [List.length_take]; omega, Nat.le_trans hi hm, fun h0 => ⟨⟨go, 0, none⟩, rfl, fun j p hj => ?_⟩⟩
  obtain ⟨hj1, hj2⟩ := List.getElem?_eq_some_iff.1 hj
  rw [List.length_take] at hj1
  obtain ⟨ad, e, hc2⟩ := hc (by omega)
  cases e
  obtain ⟨c, hcl, hK, hcell⟩ := hc2 j p (by rw [List.getElem?_take_of_lt (by omega)] at hj; exact hj)
  refine ⟨c, hcl, hK, fun m u hu => ?_⟩
  have hm8 : m < 8 := by have := (List.getElem?_eq_some_iff.1 hu).1; have := hK.2.1; omega
  have := hcell m u hu
  rw [show (Kd.raw 8).sz = 8 from rfl] at this ⊢
  rw [show (⟨go, 0, none⟩ : Addr).add (j * 8 + m) = ⟨go, j * 8 + m, none⟩ by simp [Addr.add]; omega] at this ⊢
  rw [hw _ (by omega)]
  exact this
/-- The rows' block holds nodes. -/
def Typed (w : World) (A : Option Addr) : Prop := ∀ ad, A = some ad → ∃ cells, w.heap[ad.block]? = some (.cells cells 134 (0, 0))
theorem Typed.of {w : World} {base n cap : Nat} {ok : Nat → Prop} {A : Option Addr} {rows : List (List Value)} (h : (Kd.raw 8).R 134 w base ok (.slice A n cap) rows) : Typed w A := fun ad e => by
  subst e
  exact Kd.R_typed h ad.block (by simp [Value.ownBlock])
theorem Typed.below {w w' : World} {A : Option Addr} (h : Typed w A) (hb : Below w.heap.size w w') : Typed w' A := fun ad e => by
  obtain ⟨cells, hc⟩ := h ad e
  exact ⟨cells, blk_below hc hb⟩
theorem typed_set (g : Nat) : ∀ (vs : List Value) (o : Nat) (w : World), (∃ cells, w.heap[g]? = some (.cells cells 134 (0, 0))) → ∃ cells, (w.setCells g o vs).heap[g]? = some (.cells cells 134 (0, 0))
  | [], _, _, h => h
  | v :: vs, o, w, ⟨cells, h⟩ => typed_set g vs (o + 1) _ ⟨_, blk_set h o v⟩
theorem Typed.setCells {w : World} {go : Nat} (h : Typed w (some ⟨go, 0, none⟩)) (o : Nat) (vs : List Value) : Typed (w.setCells go o vs) (some ⟨go, 0, none⟩) := fun ad e => by
  cases e
  exact typed_set go vs o w (h _ rfl)
theorem add_block (ad : Addr) (k : Nat) : (ad.add k).block = ad.block := by unfold Addr.add; split <;> rfl
/-- Rows that another row's growth leaves alone: its block holds things of another type. -/
theorem raw_grown {W w1 : World} {A : Option Addr} {n : Nat} {rows : List (List Value)} {row : Option Nat} (h : (Kd.raw 8).C W A n rows) (hg : W.grownBy w1 row) (hne : ∀ ad, A = some ad → some ad.block ≠ row) : (Kd.raw 8).C w1 A n rows := by
  obtain ⟨hl, hm, hc⟩ := h
  refine ⟨hl, hm, fun h0 => ?_⟩
  obtain ⟨ad, rfl, hc2⟩ := hc h0
  refine ⟨ad, rfl, fun j p hj => ?_⟩
  obtain ⟨c, hcl, hK, hcell⟩ := hc2 j p hj
  exact ⟨c, hcl, hK, fun i u hu => hg.cell (hcell i u hu) (by rw [add_block]; exact hne ad rfl)⟩
theorem Typed.grown {W w1 : World} {A : Option Addr} {row : Option Nat} (h : Typed W A) (hg : W.grownBy w1 row) (hne : ∀ ad, A = some ad → some ad.block ≠ row) : Typed w1 A := fun ad e => by
  obtain ⟨cells, hc⟩ := h ad e
  exact ⟨cells, blk_grown hc hg (hne ad e)⟩
/-- A row of variables lies in another block than the nodes. -/
theorem typed_ne {w : World} {base : Nat} {ok : Nat → Prop} {v : Value} {xs : List S125} {A : Option Addr} (h : Typed w A) (hr : Kd.R k125 125 w base ok v xs) : ∀ ad, A = some ad → some ad.block ≠ v.ownBlock := fun ad e he => by
  obtain ⟨cells, hc⟩ := h ad e
  obtain ⟨cells', hc'⟩ := Kd.R_typed hr ad.block he.symm
  rw [hc] at hc'
  simp at hc'
theorem keepN_succ (p : List Value → Bool) (rows : List (List Value)) (j : Nat) (c : List Value) (h : rows[j]? = some c) : keepN p rows (j + 1) = keepN p rows j + (if p c = true then 0 else 1) := by
  obtain ⟨hl, rfl⟩ := List.getElem?_eq_some_iff.1 h
  unfold keepN
  rw [List.take_succ_eq_append_getElem hl, List.filter_append, List.length_append]
  cases hp : p rows[j] <;> simp [hp]
theorem keepN_le (p : List Value → Bool) (rows : List (List Value)) (j : Nat) : keepN p rows j ≤ j := by
  unfold keepN
  exact Nat.le_trans (List.length_filter_le _ _) (by rw [List.length_take]; omega)
theorem keepN_all (p : List Value → Bool) (rows : List (List Value)) (k : Nat) (hk : k ≤ rows.length) (h : ∀ (j : Nat) (y : List Value), j < k → rows[j]? = some y → p y = false) : keepN p rows k = k := by
  induction k with
  | zero => rfl
  | succ k ih =>
    have hlt : k < rows.length := by omega
    have h1 := h k _ (by omega) (List.getElem?_eq_getElem hlt)
    rw [keepN_succ p rows k _ (List.getElem?_eq_getElem hlt), ih (by omega) (fun j y hj => h j y (by omega)), h1]
    rfl
theorem idxP_cases {α : Type} (p : α → Bool) (l : List α) : (idxP p l = -1 ∧ ∀ (j : Nat) (y : α), l[j]? = some y → p y = false) ∨ ∃ (k : Nat) (x : α), idxP p l = (k : Int) ∧ l[k]? = some x ∧ p x = true ∧ ∀ (j : Nat) (y : α), j < k → l[j]? = some y → p y = false := by
  induction l with
  | nil => exact .inl ⟨rfl, fun j y h => by simp at h⟩
  | cons a l ih =>
    cases ha : p a with
    | true =>
      exact .inr ⟨0, a, idxP_hit p (a :: l) 0 a rfl ha (fun j y hj => absurd hj (Nat.not_lt_zero _)), rfl, ha, fun j y hj => absurd hj (Nat.not_lt_zero _)⟩
    | false =>
      rcases ih with ⟨_, h⟩ | ⟨k, x, _, hx, hp, hb⟩
      · have h' : ∀ (j : Nat) (y : α), (a :: l)[j]? = some y → p y = false := fun j y hy => by
          cases j with
          | zero => have e : a = y := by simpa using hy
                    rw [← e]; exact ha
          | succ j => exact h j y (by simpa using hy)
        exact .inl ⟨idxP_miss p _ h', h'⟩
      · have h' : ∀ (j : Nat) (y : α), j < k + 1 → (a :: l)[j]? = some y → p y = false := fun j y hj hy => by
          cases j with
          | zero => have e : a = y := by simpa using hy
                    rw [← e]; exact ha
          | succ j => exact hb j y (by omega) (by simpa using hy)
        exact .inr ⟨k + 1, x, idxP_hit p (a :: l) (k + 1) x (by simpa using hx) hp h', by simpa using hx, hp, h'⟩
theorem run_clear_rows (w : World) (t e ty : TypeId) (z : Value) (ht : Try.prog.underlying t = some (.slice e)) (hv : ∀ w, (zeroValue e).run Try.prog w = .ok z w) (b o n c : Nat) (hn : 0 < n)
    (h1 : ∀ v ∈ (Builtin.zeroCells z.cells n).toList, v.oneCell' = true) (hc : ∀ j, j < n * z.cells.size → (w.cell? ⟨b, o + j, none⟩).isSome = true) (hf : ∀ j, j < n * z.cells.size → w.frozen? ⟨b, o + j, none⟩ = false) :
    (Builtin.clear_ #[t] ty #[.slice (some ⟨b, o, none⟩) n c]).run Try.prog w = .ok (.tuple #[]) (w.setCells b o (Builtin.zeroCells z.cells n).toList) := by
  have hl : (Builtin.zeroCells z.cells n).toList.length = n * z.cells.size := by simp [Builtin.zeroCells]
  have hst := run_storeCells_cells (P := Try.prog) b o (Builtin.zeroCells z.cells n).toList 0 w (by rw [hl]; simpa using hc) (by rw [hl]; simpa using hf) h1
  simp only [Nat.add_zero] at hst
  obtain ⟨m, rfl⟩ : ∃ m, n = m + 1 := ⟨n - 1, by omega⟩
  simp [Builtin.clear_, run_underlying ht, hv, hst]
theorem zeroNode (w : World) : (zeroValue 134).run Try.prog w = .ok (.agg #[.int .i64 0, .int .i64 0, .string ⟨#[]⟩, .int .i64 0, .int .i64 0, .slice none 0 0, .slice none 0 0, .slice none 0 0]) w := by kernel_rfl
theorem zeroNode_one (n : Nat) : ∀ v ∈ (Builtin.zeroCells (Value.agg #[.int .i64 0, .int .i64 0, .string ⟨#[]⟩, .int .i64 0, .int .i64 0, .slice none 0 0, .slice none 0 0, .slice none 0 0]).cells n).toList, v.oneCell' = true := by
  intro v hv
  unfold Builtin.zeroCells at hv
  simp only [Array.toList_map, List.mem_map] at hv
  obtain ⟨i, _, rfl⟩ := hv
  have hz : (Value.agg #[.int .i64 0, .int .i64 0, .string ⟨#[]⟩, .int .i64 0, .int .i64 0, .slice none 0 0, .slice none 0 0, .slice none 0 0]).cells = #[.int .i64 0, .int .i64 0, .string ⟨#[]⟩, .int .i64 0, .int .i64 0, .slice none 0 0, .slice none 0 0, .slice none 0 0] := by kernel_rfl
  rw [hz]
  have h8 : i % 8 < 8 := Nat.mod_lt _ (by decide)
  show (#[Value.int .i64 0, .int .i64 0, .string ⟨#[]⟩, .int .i64 0, .int .i64 0, .slice none 0 0, .slice none 0 0, .slice none 0 0][i % 8]!).oneCell' = true
  generalize i % 8 = m at h8
  match m, h8 with
  | 0, _ => rfl
  | 1, _ => rfl
  | 2, _ => rfl
  | 3, _ => rfl
  | 4, _ => rfl
  | 5, _ => rfl
  | 6, _ => rfl
  | 7, _ => rfl
/-- One element of a row of one's own. -/
theorem raw_own {w : World} {base g n cap : Nat} {rows : List (List Value)} (h : (Kd.raw 8).R 134 w base (fun _ => True) (.slice (some ⟨g, 0, none⟩) n cap) rows) (hok : ∀ c ∈ rows, RowOk c) (i : Nat) (hi : i < n) :
    ∃ (k d1 : Int) (d2 : ByteArray) (d3 d4 : Int) (A5 : Option Addr) (n5 c5 : Nat) (A6 : Option Addr) (n6 c6 : Nat) (A7 : Option Addr) (n7 c7 : Nat), rows[i]? = some [.int .i64 k, .int .i64 d1, .string d2, .int .i64 d3, .int .i64 d4, .slice A5 n5 c5, .slice A6 n6 c6, .slice A7 n7 c7] ∧ w.cell? ⟨g, i * 8, none⟩ = some (.int .i64 k) ∧ w.cell? ⟨g, i * 8 + 1, none⟩ = some (.int .i64 d1) ∧ w.cell? ⟨g, i * 8 + 2, none⟩ = some (.string d2) ∧ w.cell? ⟨g, i * 8 + 3, none⟩ = some (.int .i64 d3) ∧ w.cell? ⟨g, i * 8 + 4, none⟩ = some (.int .i64 d4)
      ∧ w.cell? ⟨g, i * 8 + 5, none⟩ = some (.slice A5 n5 c5) ∧ w.cell? ⟨g, i * 8 + 6, none⟩ = some (.slice A6 n6 c6) ∧ w.cell? ⟨g, i * 8 + 7, none⟩ = some (.slice A7 n7 c7) ∧ ∀ m, w.frozen? ⟨g, i * 8 + m, none⟩ = false := by
  have hl := (Kd.R_reads' h).1
  obtain ⟨c, _, hM, hcell, hfz⟩ := Kd.R_elem h [] (i : Int) (by omega) (by omega)
  have e : c = rows.getD i [] := hM.1
  rw [List.getD_eq_getElem?_getD, List.getElem?_eq_getElem (by omega : i < rows.length)] at e
  obtain ⟨k, d1, d2, d3, d4, A5, n5, c5, A6, n6, c6, A7, n7, c7, e2⟩ := hok _ (List.getElem_mem (by omega : i < rows.length))
  simp only [Option.getD_some] at e
  rw [e2] at e
  subst e
  exact ⟨k, d1, d2, d3, d4, A5, n5, c5, A6, n6, c6, A7, n7, c7, by rw [List.getElem?_eq_getElem (by omega), e2], hcell 0 _ rfl, hcell 1 _ rfl, hcell 2 _ rfl, hcell 3 _ rfl, hcell 4 _ rfl, hcell 5 _ rfl, hcell 6 _ rfl, hcell 7 _ rfl, hfz⟩
set_option maxHeartbeats 8000000 in
set_option maxRecDepth 100000 in
theorem slices_DeleteFunc_Node.w (f : Nat) (lb : Array Value) (p : List Value → Bool) (eg : Enters f) (hp : PredR f lb p) (v : Value) (rows : List (List Value)) (w0 w : World) (hok : ∀ c ∈ rows, RowOk c) (hr : (Kd.raw 8).R 134 w w0.heap.size (fun _ => True) v rows) (HB : Below w0.heap.size w0 w) (hn : rows.length ≤ 1048576) :
    Calls Try.prog 220 #[v, .func (.func f) #[] lb] w fun e w' => ∃ (A : Option Addr) (c : Nat), e = .returned (.slice A (keepN p rows rows.length) c) ∧ (Kd.raw 8).C w' A (keepN p rows rows.length) (keepL p rows rows.length) ∧ Typed w' A ∧ Below w0.heap.size w0 w' := by
  have hu := Try.underlying134
  have hut := Try.underlying66
  obtain ⟨A, cap, rfl⟩ := Kd.R_slice hr
  have HRd := Aside0.mk (Kd.R_reads' hr).2.2
  have HRR0 := Aside0.mk hr
  have HHB := Aside0.mk HB
  have HOK := Aside0.mk hok
  have HP := Aside0.mk hp
  have HN := Aside0.mk hn
  have hidx := fun W (hW : Below w.heap.size w W) => slices_IndexFunc_Node.w f lb p eg A cap rows.length rows W (Kd.C_below HRd.out hW) HOK.out HP.out
  have eg' : ∀ args w, (callFunc f args).run Try.prog w = .ok (.enter f args) w := eg
  rcases idxP_cases p rows with ⟨e1, hall⟩ | ⟨k, x, e1, hkx, hpx, hbef⟩
  · rw [e1] at hidx
    have HK := Aside0.mk (keepN_all p rows rows.length (Nat.le_refl _) (fun j y _ hy => hall j y hy))
    have HKL := Aside0.mk (keepL_all p rows rows.length (Nat.le_refl _) (fun j y _ hy => hall j y hy))
    clear hr HB hok hp hall e1 hn eg
    go_enter Try.func220, Try.ntmps220
    go_wp2_with fail
    refine (hidx _ (Below.refl _ _)).mono ?_
    rintro e w1 ⟨rfl, hb⟩
    go_wp2
    go_ret
    exact ⟨A, cap, by rw [HK.out]; rfl, by rw [HK.out, HKL.out, List.take_length]; exact Kd.C_below HRd.out hb, Typed.below (Typed.of HRR0.out) hb, below_step HHB.out hb⟩
  · rw [e1] at hidx
    have hkl : k < rows.length := (List.getElem?_eq_some_iff.1 hkx).1
    obtain ⟨go, cap', he, hgo, hgl, _⟩ := Kd.R_form hr (by omega)
    injection he with he1 he2 he3
    subst he1
    subst he3
    clear he2
    generalize hcp : cap = cap1 at *
    clear hcp
    have HKX := Aside0.mk hkx
    have HPX := Aside0.mk hpx
    have HGO := Aside0.mk hgo
    have HGL := Aside0.mk hgl
    have hcn : rows.length ≤ cap1 := (Kd.R_reads' hr).2.1
    have HK0 := Aside0.mk (keepN_all p rows k (by omega) hbef)
    have HKL0 := Aside0.mk (keepL_all p rows k (by omega) hbef)
    have HRR := Aside0.mk hr
    have hk1 : (k : Int) ≠ -1 := by omega
    have hke : ((k : Int) == -1) = false := by simp
    have hkd : decide ((k : Int) = -1) = false := decide_eq_false hk1
    clear hr HB hok hp hbef e1 eg hgo hgl hkx hpx
    go_enter Try.func220, Try.ntmps220
    go_wp2_with fail
    refine (hidx _ (Below.refl _ _)).mono ?_
    rintro e w1 ⟨rfl, hb⟩
    have HB1 := Aside0.mk (below_step HHB.out hb)
    have HR1 := Aside0.mk (Kd.R_below HRR.out hb)
    clear hb hidx
    go_wp2
    go_loopg [5, 6] rows.length (fun gg s5 s6 wr => ∃ (i j : Nat) (cur : List (List Value)), s5 = .int .i64 (i : Int) ∧ s6 = .int .i64 (j : Int) ∧ Aside0 (j ≤ rows.length ∧ rows.length - j ≤ gg ∧ i < j) ∧ Aside0 (i = keepN p rows j) ∧ Aside0 (cur.take i = keepL p rows j) ∧ Aside0 (∀ c ∈ cur, RowOk c) ∧ Aside0 (cur.drop j = rows.drop j) ∧ Aside0 (cur.length = rows.length) ∧ Aside0 ((Kd.raw 8).R 134 wr w0.heap.size (fun _ => True) (.slice (some ⟨go, 0, none⟩) rows.length cap1) cur) ∧ Aside0 (Below w0.heap.size w0 wr))
    case atStart => exact ⟨k, k + 1, rows, rfl, by go_num, ⟨by omega⟩, ⟨by rw [keepN_succ p rows k _ HKX.out, HK0.out, HPX.out]; rfl⟩, ⟨by rw [keepL_succ p rows k _ HKX.out, HKL0.out, HPX.out]; simp⟩, HOK, ⟨rfl⟩, ⟨rfl⟩, HR1, HB1⟩
    case round =>
      obtain ⟨wo, rfl⟩ : ∃ wo : World, wo = wr := ⟨_, rfl⟩
      obtain ⟨i, j, cur, rfl, rfl, HK, HI, HIL, HC, HD, HL, HR, HB⟩ := hrel
      have hij := HK.out.2.2
      by_cases hlt : j < rows.length
      · have hltz : (j : Int) < (rows.length : Int) := by omega
        have hd : decide ((j : Int) < (rows.length : Int)) = true := decide_eq_true hltz
        have hd' : decide (j < rows.length) = true := decide_eq_true hlt
        have hltq := eq_true hltz
        have h0q : (0 ≤ (j : Int)) = True := eq_true (by omega)
        obtain ⟨k0, d1, d2, d3, d4, A5, n5, c5, A6, n6, c6, A7, n7, c7, hx, hc0, hc1, hc2, hc3, hc4, hc5, hc6, hc7, _⟩ := raw_own HR.out HC.out j hlt
        have HRW := Aside0.mk (HC.out _ (List.mem_of_getElem? hx))
        have HX := Aside0.mk (show rows[j]? = some [.int .i64 k0, .int .i64 d1, .string d2, .int .i64 d3, .int .i64 d4, .slice A5 n5 c5, .slice A6 n6 c6, .slice A7 n7 c7] by
          have h1 : (cur.drop j)[0]? = (rows.drop j)[0]? := by rw [HD.out]
          rw [List.getElem?_drop, List.getElem?_drop, Nat.add_zero] at h1
          rw [← h1]; exact hx)
        clear hx
        go_wp2_with fail
        refine (HP.out _ [.int .i64 k0, .int .i64 d1, .string d2, .int .i64 d3, .int .i64 d4, .slice A5 n5 c5, .slice A6 n6 c6, .slice A7 n7 c7] HRW.out).mono ?_
        rintro e w2 ⟨rfl, hb⟩
        have hb' := below_step ((Below.refl _ wo).alloc (Nat.le_refl _) (.cells #[.int .i64 k0, .int .i64 d1, .string d2, .int .i64 d3, .int .i64 d4, .slice A5 n5 c5, .slice A6 n6 c6, .slice A7 n7 c7] 134)) hb
        have hbx := blk_below (blk_new wo (.cells #[.int .i64 k0, .int .i64 d1, .string d2, .int .i64 d3, .int .i64 d4, .slice A5 n5 c5, .slice A6 n6 c6, .slice A7 n7 c7] 134)) hb
        have HB2 := Aside0.mk (below_step HB.out hb')
        have HR2 := Aside0.mk (Kd.R_below HR.out hb')
        have b0 : w2.cell? ⟨wo.heap.size, 0, none⟩ = some (.int .i64 k0) := (blk_cell hbx 0).trans rfl
        have b1 : w2.cell? ⟨wo.heap.size, 1, none⟩ = some (.int .i64 d1) := (blk_cell hbx 1).trans rfl
        have b2 : w2.cell? ⟨wo.heap.size, 2, none⟩ = some (.string d2) := (blk_cell hbx 2).trans rfl
        have b3 : w2.cell? ⟨wo.heap.size, 3, none⟩ = some (.int .i64 d3) := (blk_cell hbx 3).trans rfl
        have b4 : w2.cell? ⟨wo.heap.size, 4, none⟩ = some (.int .i64 d4) := (blk_cell hbx 4).trans rfl
        have b5 : w2.cell? ⟨wo.heap.size, 5, none⟩ = some (.slice A5 n5 c5) := (blk_cell hbx 5).trans rfl
        have b6 : w2.cell? ⟨wo.heap.size, 6, none⟩ = some (.slice A6 n6 c6) := (blk_cell hbx 6).trans rfl
        have b7 : w2.cell? ⟨wo.heap.size, 7, none⟩ = some (.slice A7 n7 c7) := (blk_cell hbx 7).trans rfl
        clear hb hb' hbx hc0 hc1 hc2 hc3 hc4 hc5 hc6 hc7
        cases hq : p [.int .i64 k0, .int .i64 d1, .string d2, .int .i64 d3, .int .i64 d4, .slice A5 n5 c5, .slice A6 n6 c6, .slice A7 n7 c7] with
        | true =>
          have HQ := Aside0.mk hq
          clear hq
          go_wp2
          go_roundg (rows.length - (j + 1))
          case measure => have := HK.out; omega
          case rel => exact ⟨i, j + 1, cur, rfl, by go_num, ⟨by omega⟩, ⟨by rw [keepN_succ p rows j _ HX.out, HQ.out, ← HI.out]; rfl⟩, ⟨by rw [keepL_succ p rows j _ HX.out, HQ.out, ← HIL.out]; simp⟩, HC, ⟨by rw [← List.drop_drop (i := 1) (j := j), ← List.drop_drop (i := 1) (j := j), HD.out]⟩, HL, HR2, HB2⟩
        | false =>
          have HQ := Aside0.mk hq
          clear hq
          obtain ⟨x0, x1, x2, x3, x4, B5, m5, e5, B6, m6, e6, B7, m7, e7, hy, hy0, hy1, hy2, hy3, hy4, hy5, hy6, hy7, hfz⟩ := raw_own HR2.out HC.out i (by omega)
          have hf0 := hfz 0
          have hf1 := hfz 1
          have hf2 := hfz 2
          have hf3 := hfz 3
          have hf4 := hfz 4
          have hf5 := hfz 5
          have hf6 := hfz 6
          have hf7 := hfz 7
          rw [Nat.add_zero] at hf0
          have hil : (i : Int) < (rows.length : Int) := by omega
          have hilq := eq_true hil
          have hi0q : (0 ≤ (i : Int)) = True := eq_true (by omega)
          have HS := Aside0.mk (Kd.R_seg (seg := [.int .i64 k0, .int .i64 d1, .string d2, .int .i64 d3, .int .i64 d4, .slice A5 n5 c5, .slice A6 n6 c6, .slice A7 n7 c7]) (j := 0) (c := [.int .i64 x0, .int .i64 x1, .string x2, .int .i64 x3, .int .i64 x4, .slice B5 m5 e5, .slice B6 m6 e6, .slice B7 m7 e7]) (okp := fun _ => False) HR2.out (i : Int) (by omega) hil rfl (fun m u hm => by
            match m, hm with
            | 0, hm => exact (Option.some.inj hm) ▸ hy0
            | 1, hm => exact (Option.some.inj hm) ▸ hy1
            | 2, hm => exact (Option.some.inj hm) ▸ hy2
            | 3, hm => exact (Option.some.inj hm) ▸ hy3
            | 4, hm => exact (Option.some.inj hm) ▸ hy4
            | 5, hm => exact (Option.some.inj hm) ▸ hy5
            | 6, hm => exact (Option.some.inj hm) ▸ hy6
            | 7, hm => exact (Option.some.inj hm) ▸ hy7) (show 8 ≤ 8 from Nat.le_refl _) (x' := [.int .i64 k0, .int .i64 d1, .string d2, .int .i64 d3, .int .i64 d4, .slice A5 n5 c5, .slice A6 n6 c6, .slice A7 n7 c7]) ⟨rfl, rfl, by simp [Value.oneCell']⟩ (fun _ h => h.elim))
          clear hfz hy
          go_wp2
          go_roundg (rows.length - (j + 1))
          case measure => have := HK.out; omega
          case rel =>
            refine ⟨i + 1, j + 1, cur.set i [.int .i64 k0, .int .i64 d1, .string d2, .int .i64 d3, .int .i64 d4, .slice A5 n5 c5, .slice A6 n6 c6, .slice A7 n7 c7], by go_num, by go_num, ⟨by omega⟩, ⟨by rw [keepN_succ p rows j _ HX.out, HQ.out, ← HI.out]; rfl⟩, ⟨by rw [keepL_succ p rows j _ HX.out, HQ.out, ← HIL.out, take_set_succ _ _ _ (by have := HL.out; omega)]; rfl⟩, ⟨fun c hc => ?_⟩, ⟨?_⟩, ⟨by rw [List.length_set]; exact HL.out⟩, ⟨?_⟩, ⟨?_⟩⟩
            · rcases List.mem_or_eq_of_mem_set hc with hc | rfl
              · exact HC.out c hc
              · exact HRW.out
            · rw [List.drop_set_of_lt (by omega), ← List.drop_drop (i := 1) (j := j), ← List.drop_drop (i := 1) (j := j), HD.out]
            · exact HS.out.1
            · iterate 8 (refine Below.setCell ?_ HGO.out _)
              exact HB2.out
      · have hd : decide ((j : Int) < (rows.length : Int)) = false := decide_eq_false (by omega)
        have hd' : decide (j < rows.length) = false := decide_eq_false hlt
        have hjn : j = rows.length := by have := HK.out.1; omega
        have hir : i < rows.length := by omega
        have hin : i ≤ rows.length := by omega
        have hic : i ≤ cap1 := by omega
        have hi0 : (0 ≤ (i : Int)) = True := eq_true (by omega)
        have hi1 : ((i : Int) ≤ (rows.length : Int)) = True := eq_true (by omega)
        have hi2 : ((i : Int) ≤ (cap1 : Int)) = True := eq_true (by omega)
        have HEND := Aside0.mk hjn
        have hl : ∀ m, m < (rows.length - i) * 8 → (wo.cell? ⟨go, i * 8 + m, none⟩).isSome = true ∧ wo.frozen? ⟨go, i * 8 + m, none⟩ = false := by
          intro m hm
          have hq : i + m / 8 < rows.length := by omega
          obtain ⟨x0, x1, x2, x3, x4, B5, m5, e5, B6, m6, e6, B7, m7, e7, hy, hy0, hy1, hy2, hy3, hy4, hy5, hy6, hy7, hfz⟩ := raw_own HR.out HC.out (i + m / 8) hq
          have hmm : i * 8 + m = (i + m / 8) * 8 + m % 8 := by omega
          rw [hmm]
          have h8 : m % 8 < 8 := Nat.mod_lt _ (by decide)
          refine ⟨?_, hfz _⟩
          generalize m % 8 = r at h8
          match r, h8 with
          | 0, _ => rw [Nat.add_zero, hy0]; rfl
          | 1, _ => rw [hy1]; rfl
          | 2, _ => rw [hy2]; rfl
          | 3, _ => rw [hy3]; rfl
          | 4, _ => rw [hy4]; rfl
          | 5, _ => rw [hy5]; rfl
          | 6, _ => rw [hy6]; rfl
          | 7, _ => rw [hy7]; rfl
        have hcl := fun ty => run_clear_rows wo 66 134 ty _ Try.underlying66 zeroNode go (i * 8) (rows.length - i) (cap1 - i) (by omega) (zeroNode_one _) (fun m hm => (hl m hm).1) (fun m hm => (hl m hm).2)
        clear hl hjn
        have hcne : ¬ cap1 = i := by omega
        have hcne2 : ¬ cap1 - i = 0 := by omega
        have hcne3 : ¬ cap1 ≤ i := by omega
        have hlt2 : i < cap1 := by omega
        go_wp2_with fail
        all_goals first | (exfalso; omega) | skip
        go_ret
        refine ⟨some ⟨go, 0, none⟩, cap1, ?_, ?_, Typed.setCells (Typed.of HR.out) _ _, below_setCells HGO.out _ _ _ HB.out⟩
        · rw [HI.out, HEND.out]
          rfl
        · have hkn : i = keepN p rows rows.length := by rw [HI.out, HEND.out]
          have hkl : keepL p rows rows.length = cur.take i := by rw [HIL.out, HEND.out]
          rw [← hkn, hkl]
          exact raw_take (Kd.R_reads' HR.out).2.2 (by rw [HL.out]; exact hin) (fun o ho => World.cell?_setCells_out _ _ _ _ _ (fun _ _ => .inl ho))
/-! ### LIB ownvar -/
def mkV (s : ByteArray) (b : UInt8) : S125 := ⟨s ++ ⟨#[b]⟩, 3, if b = 118 then 1 else 2, 0⟩
def letters (op : Int) : List UInt8 := if op = 1 then [118, 109, 113] else if op = 2 then [118, 113] else if op = 3 then [109, 113] else [113]
/-- What a block has as its own. -/
def ownV (op : Int) (s : ByteArray) : List S125 := (letters op).map (mkV s)
def varCells (xs : List S125) : List Value := (xs.map (fun x => [Value.string x.f0, .int .i64 x.f1, .int .i64 x.f2, .int .i64 x.f3])).flatten
theorem var_reps (R : S125 → List Value → Prop) (h : ∀ x, R x [.string x.f0, .int .i64 x.f1, .int .i64 x.f2, .int .i64 x.f3]) (xs : List S125) : Reps R 4 xs (varCells xs) := by
  suffices h2 : ∀ (ys zs : List S125) (cs : List Value), Reps R 4 ys cs → Reps R 4 (ys ++ zs) (cs ++ varCells zs) from h2 [] xs [] (Reps.none R 4)
  intro ys zs
  induction zs generalizing ys with
  | nil => intro cs hc; simpa [varCells] using hc
  | cons a zs ih =>
    intro cs hc
    have := ih (ys ++ [a]) (cs ++ [.string a.f0, .int .i64 a.f1, .int .i64 a.f2, .int .i64 a.f3]) (Reps.snoc hc (h a) rfl)
    rw [List.append_assoc, List.append_assoc] at this
    exact this
/-- A list of variables, laid out anew. -/
theorem var_lit (W : World) (base : Nat) (hb : base ≤ W.heap.size) (xs : List S125) (hm : xs.length ≤ 1048576) : Kd.R k125 125 (W.alloc (.cells (varCells xs).toArray 125)) base (fun _ => True) (.slice (some ⟨W.heap.size, 0, none⟩) xs.length xs.length) xs := by
  have hr : Reps (k125.M (W.alloc (.cells (varCells xs).toArray 125)) base (fun k => True ∧ some k ≠ (Value.slice (some ⟨W.heap.size, 0, none⟩) xs.length xs.length).ownBlock)) 4 xs (varCells xs) := var_reps _ (fun x => k125_mkM _ _ _ x) xs
  refine ⟨fun _ _ => trivial, varCells xs, ?_, hr⟩
  have h2 := World.ownsRow_lit (base := base) (e := 125) (size := 4) W (varCells xs).toArray xs.length hb (by unfold maxLen; omega) (by have := hr.1; simpa using this)
  simp only [List.toList_toArray] at h2
  exact h2
set_option maxHeartbeats 1000000 in
set_option maxRecDepth 100000 in
theorem o_l5Var (s l : ByteArray) (t : Int) (hs : s.size ≤ 1048576) (hl : l.size ≤ 16) (w : World) :
    Calls Try.prog 216 #[.string s, .string l, .int .i64 t] w fun e w' => e = .returned (.agg #[.string (s ++ l), .int .i64 3, .int .i64 t, .int .i64 0]) ∧ Below w.heap.size w w' := by
  have hu := Try.underlying125
  go_enter Try.func216, Try.ntmps216
  go_wp2
  have HBK := Aside0.mk (blk_new w (.cells #[.string (s ++ l), .int .i64 3, .int .i64 t, .int .i64 0] 125))
  refine bodyPost_ret (results_cell_row rfl _ _ w.heap.size 125 #[.string (s ++ l), .int .i64 3, .int .i64 t, .int .i64 0] (0, 0) _ rfl HBK.out hu rfl (by kernel_rfl)) rfl ?_
  exact ⟨by first | rfl | simp, (Below.refl _ _).alloc (Nat.le_refl _) _⟩
set_option maxHeartbeats 4000000 in
set_option maxRecDepth 100000 in
theorem o_l5Own (d0 d1 : Int) (d2 : ByteArray) (d3 d4 : Int) (A5 : Option Addr) (n5 c5 : Nat) (A6 : Option Addr) (n6 c6 : Nat) (A7 : Option Addr) (n7 c7 : Nat) (hd : 1 ≤ d1 ∧ d1 ≤ 4) (hds : d2.size ≤ 1048576) (w : World) :
    Calls Try.prog 197 #[.agg #[.int .i64 d0, .int .i64 d1, .string d2, .int .i64 d3, .int .i64 d4, .slice A5 n5 c5, .slice A6 n6 c6, .slice A7 n7 c7]] w fun e w' => ∃ v : Value, e = .returned v ∧ Kd.R k125 125 w' w.heap.size (fun _ => True) v (ownV d1 d2) ∧ Below w.heap.size w w' := by
  have hu := Try.underlying134
  have hz : d1 = 1 ∨ d1 = 2 ∨ d1 = 3 ∨ d1 = 4 := by omega
  clear hd
  rcases hz with rfl | rfl | rfl | rfl
  · have e1 : ownV 1 d2 = [mkV d2 118, mkV d2 109, mkV d2 113] := rfl
    rw [e1]
    go_enter Try.func197, Try.ntmps197
    go_wp2_with fail
    go_region_held3 (fun w' => Below w.heap.size w w' ∧ w'.cell? ⟨w.heap.size, 2, none⟩ = some (.string d2)) (first | (refine ⟨below_drew ((Below.refl _ _).alloc (Nat.le_refl _) _), ?_⟩; go_keep) | (go_split_ands; refine ⟨?_, ?_⟩ <;> first | exact pw_cell_below hb (by assumption) | exact below_step (by assumption) hb | exact pw_cell_below ((Below.refl _ _).alloc (Nat.le_refl _) _) (by assumption) | exact below_alloc (by assumption) _)) (first | (go_at_call 216; go_split_ands; refine (o_l5Var _ _ _ hds (by decide) _).mono ?_; rintro e w' ⟨rfl, hb⟩; have hz : Below w.heap.size w w' := below_step (by assumption) hb))
    all_goals
      go_split_ands
      go_wp2
      go_ret
      refine ⟨_, rfl, var_lit _ _ ?_ [mkV d2 118, mkV d2 109, mkV d2 113] (by simp), below_alloc hz _⟩
      exact below_size hz
  · have e1 : ownV 2 d2 = [mkV d2 118, mkV d2 113] := rfl
    rw [e1]
    go_enter Try.func197, Try.ntmps197
    go_wp2_with fail
    go_region_held3 (fun w' => Below w.heap.size w w' ∧ w'.cell? ⟨w.heap.size, 2, none⟩ = some (.string d2)) (first | (refine ⟨below_drew ((Below.refl _ _).alloc (Nat.le_refl _) _), ?_⟩; go_keep) | (go_split_ands; refine ⟨?_, ?_⟩ <;> first | exact pw_cell_below hb (by assumption) | exact below_step (by assumption) hb | exact pw_cell_below ((Below.refl _ _).alloc (Nat.le_refl _) _) (by assumption) | exact below_alloc (by assumption) _)) (first | (go_at_call 216; go_split_ands; refine (o_l5Var _ _ _ hds (by decide) _).mono ?_; rintro e w' ⟨rfl, hb⟩; have hz : Below w.heap.size w w' := below_step (by assumption) hb))
    all_goals
      go_split_ands
      go_wp2
      go_ret
      refine ⟨_, rfl, var_lit _ _ ?_ [mkV d2 118, mkV d2 113] (by simp), below_alloc hz _⟩
      exact below_size hz
  · have e1 : ownV 3 d2 = [mkV d2 109, mkV d2 113] := rfl
    rw [e1]
    go_enter Try.func197, Try.ntmps197
    go_wp2_with fail
    go_region_held3 (fun w' => Below w.heap.size w w' ∧ w'.cell? ⟨w.heap.size, 2, none⟩ = some (.string d2)) (first | (refine ⟨below_drew ((Below.refl _ _).alloc (Nat.le_refl _) _), ?_⟩; go_keep) | (go_split_ands; refine ⟨?_, ?_⟩ <;> first | exact pw_cell_below hb (by assumption) | exact below_step (by assumption) hb | exact pw_cell_below ((Below.refl _ _).alloc (Nat.le_refl _) _) (by assumption) | exact below_alloc (by assumption) _)) (first | (go_at_call 216; go_split_ands; refine (o_l5Var _ _ _ hds (by decide) _).mono ?_; rintro e w' ⟨rfl, hb⟩; have hz : Below w.heap.size w w' := below_step (by assumption) hb))
    all_goals
      go_split_ands
      go_wp2
      go_ret
      refine ⟨_, rfl, var_lit _ _ ?_ [mkV d2 109, mkV d2 113] (by simp), below_alloc hz _⟩
      exact below_size hz
  · have e1 : ownV 4 d2 = [mkV d2 113] := rfl
    rw [e1]
    go_enter Try.func197, Try.ntmps197
    go_wp2_with fail
    refine (o_l5Var _ _ _ hds (by decide) _).mono ?_
    rintro e w1 ⟨rfl, hb⟩
    have HB := Aside0.mk (below_step ((Below.refl w.heap.size w).alloc (Nat.le_refl _) _) hb)
    clear hb
    go_wp2
    go_ret
    exact ⟨_, rfl, var_lit _ _ (below_size HB.out) [mkV d2 113] (by simp), below_alloc HB.out _⟩

end Go.Proofs.Ytlokckgkbhmkmaa.XFnExactCellOf
