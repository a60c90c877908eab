/- Machine side of the law FnExactStartRegs: for each Go function that it reaches, a Lean function with the same answers and the proof that the call comes to them. Conditions: what the arguments lead to reads as the lists that each contract is told of. Some functions are told by hand, the others by the kit's print.py under wip/ext.py. -/
import Derived.Test.YtklhfhnplldgjaaXFnExactStartRegsx0
import Derived.Test.YtklhfhnplldgjaaXFnExactStartRegsx1
import Derived.Test.YtklhfhnplldgjaaXFnExactStartRegsx2
import Derived.Test.YtklhfhnplldgjaaXFnExactStartRegsx3
import Derived.Test.YtklhfhnplldgjaaXFnExactStartRegsx4
import Derived.Test.YtklhfhnplldgjaaXFnExactStartRegsx5
import Derived.Test.YtklhfhnplldgjaaXFnExactStartRegsx6
import Derived.Test.YtklhfhnplldgjaaXFnExactStartRegsx7
namespace Go.Proofs.Ytklhfhnplldgjaa.XFnExactStartRegs
open Go.RowKit Go.Proofs.YtklhfhnplldgjaaW.PrintWords Go.Proofs.YtklhfhnplldgjaaW.PrintLast Go.Proofs.YtklhfhnplldgjaaW.PrintMore
attribute [local go_sem] max2_int min2_int max_two min_two max_three min_three max_four min_four   -- for this text's walks alone
set_option linter.unusedVariables false
set_option linter.unusedSimpArgs false

/-! ### slices_Repeat_int64_int64: function 86 -/
-- IMPORT Derived.Laws.CopyOwn
-- IMPORT Derived.Deep.RegionLaw
def slices_Repeat_int64_int64.f (l0 : List Int) (a1 : Int) : Option (List Int) := match l0 with
  | [x] => if a1 = 24 then some (List.replicate 24 x) else none
  | _ => none
theorem Repeat_mul : bits_Mul.f 1 24 = some (0, 24) := by decide +kernel
set_option maxHeartbeats 4000000 in
set_option maxRecDepth 100000 in
theorem slices_Repeat_int64_int64.calls (A0 : Option Addr) (c0 : Nat) (l0 : List Int) (a1 : Int) (r : List Int) (w : World) (hr0 : Kd.C (Kd.int .i64) w A0 l0.length l0) (hc0 : l0.length ≤ c0) (h : slices_Repeat_int64_int64.f l0 a1 = some r) :
    Calls Try.prog 86 #[.slice A0 l0.length c0, .int .i64 a1] w fun e w' => ∃ v0_ : Value, e = .returned (v0_) ∧ Kd.R (Kd.int .i64) 2 w' w.heap.size (fun _ => True) v0_ r ∧ Below w.heap.size w w' := by
  obtain ⟨x, rfl⟩ : ∃ x, l0 = [x] := by
    unfold slices_Repeat_int64_int64.f at h
    match l0, h with
    | [x], _ => exact ⟨x, rfl⟩
  have h : (if a1 = 24 then some (List.replicate 24 x) else none) = some r := h
  split at h
  case isFalse => cases h
  next ha =>
  subst ha
  obtain rfl := Option.some.inj h
  clear h
  obtain ⟨ad, rfl, hx⟩ := Kd.at_int hr0 0 (by omega) (by simp)
  have hx : w.cell? (ad.add 0) = some (.int .i64 x) := hx
  have HX := Aside0.mk hx
  have HC0 := Aside0.mk hc0
  clear hx hr0 hc0
  have hl1 : ([x] : List Int).length = 1 := rfl
  rw [hl1]
  go_enter Try.func86, Try.ntmps86
  go_wp2_with fail
  refine (bits_Mul.calls 1 24 0 24 _ Repeat_mul).mono ?_
  rintro e wa ⟨rfl, hd⟩
  have hb1 : Below w.heap.size w wa := by obtain ⟨n, rfl⟩ := hd; exact pw_below_drewN (Below.refl _ _) n
  have HB := Aside0.mk hb1
  have HB0 := HB
  clear hb1 hd
  have hmk : ∀ W : World, (Instr.makeSlice 22 (.int .i64 24) (.int .i64 24)).run Try.prog W = .ok (.slice (some ⟨W.heap.size, 0, none⟩) 24 24) (W.alloc (.cells (List.replicate 24 (.int .i64 0)).toArray 2)) := by
    have hm : madeCells #[.int .i64 0] 24 = (List.replicate 24 (.int .i64 0)).toArray := by kernel_rfl
    intro W; rw [← hm]; exact print_make 22 2 .i64 8 Try.underlying22 info2 (by omega) 24 (by omega) W
  go_wp2_with ((with_reducible refine gate_builtin (b := .copy) (xs := #[.tmp 31, .tmp 32]) rfl ?_); refine wpList_copy_splice rfl (.tmp 31) (.tmp 32) 22 22 rfl 2 Try.underlying22 (by kernel_rfl) (some ⟨wa.heap.size, 0, none⟩) (some ad) 24 24 1 c0 rfl rfl wa.heap.size 0 (List.replicate 24 (.int .i64 0)) 2 ?aG [.int .i64 x] rfl ?aP (by simp) (by simp [Value.oneCell']) w.heap.size w ?aB (below_size HB.out) ?_; (case aG => exact blk_new _ _); (case aP => exact fun _ => ⟨rfl, ad, rfl, fun j v hv => by match j, hv with | 0, hv => (obtain rfl := Option.some.inj hv; exact (below_alloc HB.out _).cell (World.block_lt_of_cell? w _ HX.out) |>.trans HX.out)⟩); (case aB => exact below_alloc HB.out _); intro w2 hG hB; have HG := Aside0.mk hG; clear HB; have HB := Aside0.mk hB; clear hG hB)
  have GE := Aside0.mk (below_size HB0.out)
  go_loopg [8] 24 (fun kq v8 w' => ∃ n : Nat, v8 = .int .i64 (n : Int) ∧ Aside0 (1 ≤ n ∧ n ≤ 24 ∧ 24 ≤ n + kq ∧ kq ≤ 24) ∧ Aside0 (w'.heap[wa.heap.size]? = some (.cells (List.replicate n (Value.int .i64 x) ++ List.replicate (24 - n) (Value.int .i64 0)).toArray 2 (0, 0))) ∧ Aside0 (Below w.heap.size w w'))
  case atStart => exact ⟨1, rfl, ⟨by omega⟩, ⟨HG.out⟩, HB⟩
  case round =>
    clear HG HB
    obtain ⟨n, rfl, HK, HG, HB⟩ := hrel
    by_cases hn : n < 24
    · obtain ⟨k1, rfl⟩ : ∃ k1, gk = k1 + 1 := ⟨gk - 1, by have := HK.out; omega⟩
      have hd : decide ((n : Int) < 24) = true := decide_eq_true (by omega)
      have hd' : decide (n < 24) = true := decide_eq_true hn
      have hHG := HG.out
      have hHB := HB.out
      have hle : n ≤ 24 := by omega
      have hle' : (n : Int) ≤ 24 := by omega
      have hne : ¬ (24 = n) := by omega
      have hG : wr.drew.heap[wa.heap.size]? = some (.cells (List.replicate n (Value.int .i64 x) ++ List.replicate (24 - n) (Value.int .i64 0)).toArray 2 (0, 0)) := blk_drew hHG
      have hB : Below w.heap.size w wr.drew := below_drew1 hHB
      have hsrc : ∀ j v, (List.replicate (min n (24 - n)) (Value.int .i64 x))[j]? = some v → wr.drew.cell? ((⟨wa.heap.size, 0, none⟩ : Addr).add j) = some v := by
        intro j v hv
        obtain ⟨hj, rfl⟩ := List.getElem?_eq_some_iff.1 hv
        rw [List.length_replicate] at hj
        have := blk_cell hG j
        have e : (⟨wa.heap.size, 0, none⟩ : Addr).add j = ⟨wa.heap.size, j, none⟩ := by cases j <;> simp [Addr.add]
        rw [e]
        simpa [List.getElem?_append, List.getElem?_replicate, show j < n by omega] using this
      obtain ⟨Z, hZ⟩ : ∃ Z, Z = List.replicate (min n (24 - n)) (Value.int .i64 x) := ⟨_, rfl⟩
      obtain ⟨Y, hY⟩ : ∃ Y, Y = List.replicate n (Value.int .i64 x) ++ List.replicate (24 - n) (Value.int .i64 0) := ⟨_, rfl⟩
      rw [← hZ] at hsrc
      rw [← hY] at hG
      have hZl : Z.length = Nat.min n (24 - n) := by rw [hZ]; simp [Nat.min_def]
      have hYl : n + Z.length ≤ Y.length := by rw [hZl, hY, List.length_append, List.length_replicate, List.length_replicate]; have := Nat.min_le_right n (24 - n); show n + min n (24 - n) ≤ _; omega
      have hZ1 : ∀ v ∈ Z, v.oneCell' = true := by intro v hv; rw [hZ] at hv; rw [List.eq_of_mem_replicate hv]; rfl
      have hZY : splice Y n Z = List.replicate (n + Z.length) (Value.int .i64 x) ++ List.replicate (24 - (n + Z.length)) (Value.int .i64 0) := by
        have hm : min n (24 - n) = Z.length := hZl.symm
        rw [hm] at hZ
        unfold splice
        rw [hY, List.take_left' (by simp), ← List.drop_drop, List.drop_left' (by simp), List.drop_replicate, ← List.append_assoc, show 24 - (n + Z.length) = 24 - n - Z.length by omega]
        congr 1
        rw [hZ, List.length_replicate, List.replicate_append_replicate]
      have AZY := Aside0.mk hZY
      have hZb : n + Z.length ≤ 24 ∧ 1 ≤ Z.length := by rw [hZl]; have := HK.out; show n + min n (24 - n) ≤ _ ∧ 1 ≤ min n (24 - n); omega
      have AZb := Aside0.mk hZb
      have hwz : IntKind.i64.wrap ((n : Int) + (Z.length : Int)) = ((n + Z.length : Nat) : Int) := by rw [IntKind.wrap_i64]; omega
      have AG := Aside0.mk hG
      have AB := Aside0.mk hB
      have AS := Aside0.mk hsrc
      have AZ := Aside0.mk hZ
      have AY := Aside0.mk hY
      have AZl := Aside0.mk hZl
      have AYl := Aside0.mk hYl
      have AZ1 := Aside0.mk hZ1
      clear hHG hHB hG hB hsrc hZ hY hZl hYl hZ1 hZY hZb HG HB
      go_wp2_with fail
      go_region_law (refine step_copy_splice rfl (.tmp 41) (.tmp 44) 22 22 rfl 2 Try.underlying22 (by kernel_rfl) (some ⟨wa.heap.size, n, none⟩) (some ⟨wa.heap.size, 0, none⟩) (24 - n) (24 - n) n 24 (by simp [Act.eval, Act.put]) (by simp [Act.eval, Act.put]) wa.heap.size n Y 2 AG.out Z AZl.out (fun _ => ⟨rfl, _, rfl, AS.out⟩) AYl.out AZ1.out w.heap.size w AB.out GE.out ?_; intro w4 hg4 hb4)
      all_goals (
        go_wp2_with fail
        go_roundg k1
        case measure => have := HK.out; omega
        case rel => exact ⟨n + Z.length, by first | (simp; done) | (simp [hwz]; done) | (rw [← hwz]; done), ⟨by have := HK.out; have := AZb.out; omega⟩, ⟨by rw [← AZY.out]; exact hg4.out⟩, ⟨hb4⟩⟩)
    · have hd : decide ((n : Int) < 24) = false := decide_eq_false (by omega)
      have hd' : decide (n < 24) = false := decide_eq_false hn
      obtain rfl : n = 24 := by have := HK.out; omega
      go_wp2_with fail
      go_ret
      have hG := HG.out
      rw [show 24 - 24 = 0 from rfl, List.replicate_zero, List.append_nil] at hG
      refine ⟨_, rfl, ⟨fun _ _ => trivial, List.replicate 24 (.int .i64 x), ⟨rfl, .inr ⟨wa.heap.size, 24, _, rfl, GE.out, hG, Nat.le_refl _, by decide, rfl, rfl⟩⟩, ?_⟩, HB.out⟩
      have hr : ∀ m : Nat, Reps ((Kd.int .i64).M wr w.heap.size (fun _ => True)) 1 (List.replicate m x) (List.replicate m (Value.int .i64 x)) := by
        intro m
        induction m with
        | zero => exact Reps.none _ _
        | succ m ih => rw [List.replicate_succ, List.replicate_succ]; exact Reps.one rfl ih
      exact (hr 24).imp_ (fun _ _ h => h)


end Go.Proofs.Ytklhfhnplldgjaa.XFnExactStartRegs
