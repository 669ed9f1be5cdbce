/-
  WHAT EACH CALL COMES TO: the reference's SHA-256. Printed by the own generator (wip/gen), one law of the own library for each operation.
-/
import Derived.Test.YtkklgmhmhhbjkaaDoorKitL
import Derived.Test.YtkklgmhmhhbjkaaDoorProg
import Derived.Test.YtkklgmhmhhbjkaaDoorFnA
import Derived.Test.YtkklgmhmhhbjkaaDoorFnSha
namespace Go.Proofs.YtkklgmhmhhbjkaaDoor
open Go Go.Own Go.Proofs
set_option maxRecDepth 100000
set_option linter.unusedVariables false

set_option maxHeartbeats 1000000 in
theorem c_sched {S : World} {hf : Hp} {w : World} (ho : Owns S hf [] w) {v : Value} {l : List UInt8} {q : Nat} (hv : Byts hf v l) (hq : q + 64 ≤ l.length) (hb : l.length ≤ 281474976710656) :
    Calls Tryd.prog 75 [v, .int .i64 (q : Int)].toArray w (RetV S hf [] (.agg ((wS (mw fun i => l.getD (q + i) 0) 64).map U).toArray)) := by
  obtain ⟨bb, hbb⟩ : ∃ bb : Nat → UInt8, bb = fun i => l.getD (q + i) 0 := ⟨_, rfl⟩
  obtain ⟨mg, hm⟩ : ∃ mg, mg = mw bb := ⟨_, rfl⟩
  rw [← hbb, ← hm]
  refine enter (n := 87) (E := [(0, _), (1, _)]) Tryd.func75 rfl Tryd.ntmps75 rfl rfl ho fun a h => ?_
  refine c_seq ?_
  refine c_region ?_
  refine stepO (o_alloc (l := (wS mg 0).map U) Tryd.zeroValue105 (by rw [wS_zero]; rfl) h) h.env rfl ?_
  rintro b1 _ a w h
  refine stepEnd ?_
  refine th_n ?_
  refine c_seq ?_
  refine c_region ?_
  refine stepO (o_alloc (l := (wS mg 0).map U) Tryd.zeroValue105 (by rw [wS_zero]; rfl) h) h.env rfl ?_
  rintro b2 _ a w h
  refine stepEnd ?_
  refine th_n ?_
  refine c_seq ?_
  refine c_seq ?_
  refine c_region ?_
  refine stepP (p_assign h rfl) h rfl fun a w h => ?_
  refine stepEnd ?_
  refine th_n ?_
  refine c_block ?_
  refine c_loop (fun m a w => ∃ (t : Nat), m = 64 - t ∧ t ≤ 64 ∧ St S hf ([(b2, row 105 ((wS mg t).map U))] ++ ([(b1, row 105 ((wS mg 0).map U))])) 87 [(0, v), (1, .int .i64 ((q : Nat) : Int)), (4, ptr b1 0), (5, ptr b2 0), (6, .int .i64 ((t : Nat) : Int))] a w) (N := 64 - 0) ⟨0, rfl, by omega, h.to rfl ⟨rfl, (look_int rfl (by first | rfl | omega)), rfl, rfl, (look_int rfl (by first | rfl | omega)), trivial⟩⟩ ?_
  clear h
  rintro m a w ⟨t, rfl, ht, h⟩
  refine c_seq ?_
  refine c_seq ?_
  refine c_region ?_
  refine stepP (p_move h rfl) h rfl fun a w h => ?_
  refine stepP (p_lss h rfl rfl) h rfl fun a w h => ?_
  refine stepEnd ?_
  refine th_n ?_
  refine c_cond rfl h (fun hc3 => ?_) (fun hc3 => ?_)
  · skip
    refine c_skip ?_
    refine th_n ?_
    refine c_seq ?_
    refine c_block ?_
    refine c_seq ?_
    refine c_seq ?_
    refine c_region ?_
    refine stepP (p_move h rfl) h rfl fun a w h => ?_
    refine stepP (p_lss h rfl rfl) h rfl fun a w h => ?_
    refine stepEnd ?_
    refine th_n ?_
    refine c_cond rfl h (fun hc4 => ?_) (fun hc4 => ?_)
    · skip
      refine c_seq ?_
      refine c_seq ?_
      refine c_region ?_
      refine stepP (p_assign h rfl) h rfl fun a w h => ?_
      refine stepEnd ?_
      refine th_n ?_
      refine c_block ?_
      refine c_loop (fun m a w => ∃ (i : Nat), m = 4 - i ∧ i ≤ 4 ∧ St S hf ([(b2, row 105 ((wP mg t (mpart bb t i)).map U))] ++ ([(b1, row 105 ((wS mg 0).map U))])) 87 [(0, v), (1, .int .i64 ((q : Nat) : Int)), (4, ptr b1 0), (5, ptr b2 0), (6, .int .i64 ((t : Nat) : Int)), (7, .int .i64 ((i : Nat) : Int))] a w) (N := 4 - 0) ⟨0, rfl, by omega, h.to (by rw [show mpart bb t 0 = 0 from rfl, wP_zero mg (by omega)]) ⟨rfl, (look_int rfl (by first | rfl | omega)), rfl, rfl, (look_int rfl (by first | rfl | omega)), (look_int rfl (by first | rfl | omega)), trivial⟩⟩ ?_
      clear h
      rintro m a w ⟨i, rfl, hi, h⟩
      refine c_seq ?_
      refine c_seq ?_
      refine c_region ?_
      refine stepP (p_move h rfl) h rfl fun a w h => ?_
      refine stepP (p_lss h rfl rfl) h rfl fun a w h => ?_
      refine stepEnd ?_
      refine th_n ?_
      refine c_cond rfl h (fun hc5 => ?_) (fun hc5 => ?_)
      · skip
        refine c_skip ?_
        refine th_n ?_
        refine c_seq ?_
        refine c_block ?_
        refine any_begin (N := 18) (by kernel_rfl) rfl h ?_
        clear h; intro w h
        refine any_take (i := 0) rfl (by kernel_rfl) (fun _ _ _ _ h => h) h rfl (fun w h => p_move h rfl) fun a h => ?_
        refine any_take (i := 1) rfl (by kernel_rfl) (fun _ _ _ _ h => h) h rfl (fun w h => p_move h rfl) fun a h => ?_
        refine any_take (i := 2) rfl (by kernel_rfl) (fun _ _ _ _ h => h) h rfl (fun w h => p_indexAddrA1 (j := t) (r := t) Tryd.underlying105 Tryd.sizeOf73 h rfl rfl (by omega) (by omega) (by omega)) fun a h => ?_
        refine any_take (i := 5) rfl (by kernel_rfl) (fun _ _ _ _ h => h) h rfl (fun w h => p_move h rfl) fun a h => ?_
        refine any_take (i := 6) rfl (by kernel_rfl) (fun _ _ _ _ h => h) h rfl (fun w h => p_move h rfl) fun a h => ?_
        refine any_take (i := 7) rfl (by kernel_rfl) (fun _ _ _ _ h => h) h rfl (fun w h => p_move h rfl) fun a h => ?_
        refine any_take (i := 8) rfl (by kernel_rfl) (fun _ _ _ _ h => h) h rfl (fun w h => p_mul h rfl rfl (wi (by omega))) fun a h => ?_
        refine any_take (i := 9) rfl (by kernel_rfl) (fun _ _ _ _ h => h) h rfl (fun w h => p_add h rfl rfl (wi (by omega))) fun a h => ?_
        refine any_take (i := 10) rfl (by kernel_rfl) (fun _ _ _ _ h => h) h rfl (fun w h => p_move h rfl) fun a h => ?_
        refine any_take (i := 11) rfl (by kernel_rfl) (fun _ _ _ _ h => h) h rfl (fun w h => p_add h rfl rfl (wi (by omega))) fun a h => ?_
        refine any_take (i := 12) rfl (by kernel_rfl) (fun _ _ _ _ h => h) h rfl (fun w h => p_idxB Tryd.underlying22 Tryd.sizeOf5 h rfl rfl hv (j := q + (4 * t + i)) (by omega) (by omega)) fun a h => ?_
        have hj6 : q + (4 * t + i) < l.length := by omega
        refine any_take (i := 13) rfl (by kernel_rfl) (fun _ _ _ _ h => h) h rfl (fun w h => p_load Tryd.isAgg5 h rfl (hv.cel (i := q + (4 * t + i)) (x := bb (4 * t + i)) (by rw [hbb]; simp [List.getD, hj6]))) fun a h => ?_
        refine any_take (i := 14) rfl (by kernel_rfl) (fun _ _ _ _ h => h) h rfl (fun w h => p_conv Tryd.underlying5 Tryd.underlying73 h rfl (w32_byte _)) fun a h => ?_
        refine any_one (i := 3) (by kernel_rfl) ?_
        refine any_V rfl h.env rfl (Pure.opT (p_load Tryd.isAgg73 h rfl (Cel.own (k := 0) rfl (wP_get mg (t := t) (mpart bb t i) (by omega)))) h.own) fun a w h => ?_
        refine any_take (i := 4) rfl (by kernel_rfl) (fun _ _ _ _ h => h) h rfl (fun w h => p_mul h rfl rfl (w32_mul _)) fun a h => ?_
        refine any_take (i := 15) rfl (by kernel_rfl) (fun _ _ _ _ h => h) h rfl (fun w h => p_add h rfl rfl (w32_add _ _)) fun a h => ?_
        refine any_take (i := 16) rfl (by kernel_rfl) (fun _ _ _ _ h => h) h rfl (fun w h => p_indexAddrA1 (j := t) (r := t) Tryd.underlying105 Tryd.sizeOf73 h rfl rfl (by omega) (by omega) (by omega)) fun a h => ?_
        refine any_one (i := 17) (by kernel_rfl) ?_
        refine any_N rfl h.env (o_store (kk := 0) (cs' := (wP mg t (mpart bb t (i + 1))).map U) Tryd.sizeOf73 h rfl rfl rfl rfl rfl (by rw [List.length_map, wP_length]; omega) (wP_set mg t _ _)) fun a w h => ?_
        refine any_end (by kernel_rfl) ?_
        refine bl_n ?_
        refine th_n ?_
        refine c_region ?_
        refine stepP (p_move h rfl) h rfl fun a w h => ?_
        refine stepP (p_add h rfl rfl (wi (by omega))) h rfl fun a w h => ?_
        refine stepP (p_assign h rfl) h rfl fun a w h => ?_
        refine stepEnd ?_
        exact th_n ⟨_, by omega, i + 1, rfl, by omega, h.to rfl ⟨rfl, (look_int rfl (by first | rfl | omega)), rfl, rfl, (look_int rfl (by first | rfl | omega)), (look_int rfl (by first | rfl | omega)), trivial⟩⟩
      · skip
        refine c_exit (th_e (th_e (exit_at ?_)))
        refine th_n ?_
        refine c_exit (th_e (exit_at ?_))
        refine th_n ?_
        obtain rfl : i = 4 := by omega
        rw [mpart_four, ← hm, ← wd_lo mg (t := t) (by omega), wP_end mg (by omega)] at h
        refine c_region ?_
        refine stepP (p_move h rfl) h rfl fun a w h => ?_
        refine stepP (p_add h rfl rfl (wi (by omega))) h rfl fun a w h => ?_
        refine stepP (p_assign h rfl) h rfl fun a w h => ?_
        refine stepEnd ?_
        exact th_n ⟨_, by omega, t + 1, rfl, by omega, h.to rfl ⟨rfl, (look_int rfl (by first | rfl | omega)), rfl, rfl, (look_int rfl (by first | rfl | omega)), trivial⟩⟩
    · skip
      refine c_skip ?_
      refine th_n ?_
      refine c_seq ?_
      refine region_quiet (by kernel_rfl) (by kernel_rfl) h ?_
      have he := h.env
      clear h
      refine stepQ he (fun w h => p_move h rfl) rfl fun a he => ?_
      refine stepQ he (fun w h => p_sub (r := ((t - 15 : Nat) : Int)) h rfl rfl ((wi (by omega)).trans (by omega))) rfl fun a he => ?_
      refine stepQ he (fun w h => p_indexAddrA1 (j := (t - 15)) (r := (t - 15)) Tryd.underlying105 Tryd.sizeOf73 h rfl rfl (by omega) (by omega) (by omega)) rfl fun a he => ?_
      have hj7 : t - 15 < t := by omega
      have hj8 : t ≤ 64 := by omega
      refine stepQ he (fun w h => p_load Tryd.isAgg73 h rfl (Cel.own (k := 0) rfl (wS_get mg hj7 hj8))) rfl fun a he => ?_
      refine stepQC he (fun w h => o_call Tryd.call83 h rfl) (fun w ho => call_q0 ho (c_turned ho.lend0 (x := wd mg (t - 15)) (n := 7) (by decide) (by decide))) rfl fun a he => ?_
      refine stepQ he (fun w h => p_move h rfl) rfl fun a he => ?_
      refine stepQ he (fun w h => p_sub (r := ((t - 15 : Nat) : Int)) h rfl rfl ((wi (by omega)).trans (by omega))) rfl fun a he => ?_
      refine stepQ he (fun w h => p_indexAddrA1 (j := (t - 15)) (r := (t - 15)) Tryd.underlying105 Tryd.sizeOf73 h rfl rfl (by omega) (by omega) (by omega)) rfl fun a he => ?_
      have hj9 : t - 15 < t := by omega
      have hj10 : t ≤ 64 := by omega
      refine stepQ he (fun w h => p_load Tryd.isAgg73 h rfl (Cel.own (k := 0) rfl (wS_get mg hj9 hj10))) rfl fun a he => ?_
      refine stepQC he (fun w h => o_call Tryd.call83 h rfl) (fun w ho => call_q0 ho (c_turned ho.lend0 (x := wd mg (t - 15)) (n := 18) (by decide) (by decide))) rfl fun a he => ?_
      refine stepQ he (fun w h => p_xor h rfl rfl (w32_xor _ _)) rfl fun a he => ?_
      refine stepQ he (fun w h => p_move h rfl) rfl fun a he => ?_
      refine stepQ he (fun w h => p_sub (r := ((t - 15 : Nat) : Int)) h rfl rfl ((wi (by omega)).trans (by omega))) rfl fun a he => ?_
      refine stepQ he (fun w h => p_indexAddrA1 (j := (t - 15)) (r := (t - 15)) Tryd.underlying105 Tryd.sizeOf73 h rfl rfl (by omega) (by omega) (by omega)) rfl fun a he => ?_
      have hj11 : t - 15 < t := by omega
      have hj12 : t ≤ 64 := by omega
      refine stepQ he (fun w h => p_load Tryd.isAgg73 h rfl (Cel.own (k := 0) rfl (wS_get mg hj11 hj12))) rfl fun a he => ?_
      refine stepQ he (fun w h => p_shr h rfl rfl (by omega) (w32_shr _ 3 _ (by omega) (by omega))) rfl fun a he => ?_
      refine stepQ he (fun w h => p_xor h rfl rfl (w32_xor _ _)) rfl fun a he => ?_
      refine stepQ he (fun w h => p_assign h rfl) rfl fun a he => ?_
      refine stepQEnd he fun w h => ?_
      refine th_n ?_
      refine c_seq ?_
      refine region_quiet (by kernel_rfl) (by kernel_rfl) h ?_
      have he := h.env
      clear h
      refine stepQ he (fun w h => p_move h rfl) rfl fun a he => ?_
      refine stepQ he (fun w h => p_sub (r := ((t - 2 : Nat) : Int)) h rfl rfl ((wi (by omega)).trans (by omega))) rfl fun a he => ?_
      refine stepQ he (fun w h => p_indexAddrA1 (j := (t - 2)) (r := (t - 2)) Tryd.underlying105 Tryd.sizeOf73 h rfl rfl (by omega) (by omega) (by omega)) rfl fun a he => ?_
      have hj13 : t - 2 < t := by omega
      have hj14 : t ≤ 64 := by omega
      refine stepQ he (fun w h => p_load Tryd.isAgg73 h rfl (Cel.own (k := 0) rfl (wS_get mg hj13 hj14))) rfl fun a he => ?_
      refine stepQC he (fun w h => o_call Tryd.call83 h rfl) (fun w ho => call_q0 ho (c_turned ho.lend0 (x := wd mg (t - 2)) (n := 17) (by decide) (by decide))) rfl fun a he => ?_
      refine stepQ he (fun w h => p_move h rfl) rfl fun a he => ?_
      refine stepQ he (fun w h => p_sub (r := ((t - 2 : Nat) : Int)) h rfl rfl ((wi (by omega)).trans (by omega))) rfl fun a he => ?_
      refine stepQ he (fun w h => p_indexAddrA1 (j := (t - 2)) (r := (t - 2)) Tryd.underlying105 Tryd.sizeOf73 h rfl rfl (by omega) (by omega) (by omega)) rfl fun a he => ?_
      have hj15 : t - 2 < t := by omega
      have hj16 : t ≤ 64 := by omega
      refine stepQ he (fun w h => p_load Tryd.isAgg73 h rfl (Cel.own (k := 0) rfl (wS_get mg hj15 hj16))) rfl fun a he => ?_
      refine stepQC he (fun w h => o_call Tryd.call83 h rfl) (fun w ho => call_q0 ho (c_turned ho.lend0 (x := wd mg (t - 2)) (n := 19) (by decide) (by decide))) rfl fun a he => ?_
      refine stepQ he (fun w h => p_xor h rfl rfl (w32_xor _ _)) rfl fun a he => ?_
      refine stepQ he (fun w h => p_move h rfl) rfl fun a he => ?_
      refine stepQ he (fun w h => p_sub (r := ((t - 2 : Nat) : Int)) h rfl rfl ((wi (by omega)).trans (by omega))) rfl fun a he => ?_
      refine stepQ he (fun w h => p_indexAddrA1 (j := (t - 2)) (r := (t - 2)) Tryd.underlying105 Tryd.sizeOf73 h rfl rfl (by omega) (by omega) (by omega)) rfl fun a he => ?_
      have hj17 : t - 2 < t := by omega
      have hj18 : t ≤ 64 := by omega
      refine stepQ he (fun w h => p_load Tryd.isAgg73 h rfl (Cel.own (k := 0) rfl (wS_get mg hj17 hj18))) rfl fun a he => ?_
      refine stepQ he (fun w h => p_shr h rfl rfl (by omega) (w32_shr _ 10 _ (by omega) (by omega))) rfl fun a he => ?_
      refine stepQ he (fun w h => p_xor h rfl rfl (w32_xor _ _)) rfl fun a he => ?_
      refine stepQ he (fun w h => p_assign h rfl) rfl fun a he => ?_
      refine stepQEnd he fun w h => ?_
      refine th_n ?_
      refine any_begin (N := 16) (by kernel_rfl) rfl h ?_
      clear h; intro w h
      refine any_take (i := 0) rfl (by kernel_rfl) (fun _ _ _ _ h => h) h rfl (fun w h => p_move h rfl) fun a h => ?_
      refine any_take (i := 1) rfl (by kernel_rfl) (fun _ _ _ _ h => h) h rfl (fun w h => p_move h rfl) fun a h => ?_
      refine any_take (i := 2) rfl (by kernel_rfl) (fun _ _ _ _ h => h) h rfl (fun w h => p_sub (r := ((t - 16 : Nat) : Int)) h rfl rfl ((wi (by omega)).trans (by omega))) fun a h => ?_
      refine any_take (i := 3) rfl (by kernel_rfl) (fun _ _ _ _ h => h) h rfl (fun w h => p_indexAddrA1 (j := (t - 16)) (r := (t - 16)) Tryd.underlying105 Tryd.sizeOf73 h rfl rfl (by omega) (by omega) (by omega)) fun a h => ?_
      refine any_take (i := 5) rfl (by kernel_rfl) (fun _ _ _ _ h => h) h rfl (fun w h => p_move h rfl) fun a h => ?_
      refine any_take (i := 7) rfl (by kernel_rfl) (fun _ _ _ _ h => h) h rfl (fun w h => p_move h rfl) fun a h => ?_
      refine any_take (i := 8) rfl (by kernel_rfl) (fun _ _ _ _ h => h) h rfl (fun w h => p_sub (r := ((t - 7 : Nat) : Int)) h rfl rfl ((wi (by omega)).trans (by omega))) fun a h => ?_
      refine any_take (i := 9) rfl (by kernel_rfl) (fun _ _ _ _ h => h) h rfl (fun w h => p_indexAddrA1 (j := (t - 7)) (r := (t - 7)) Tryd.underlying105 Tryd.sizeOf73 h rfl rfl (by omega) (by omega) (by omega)) fun a h => ?_
      refine any_take (i := 12) rfl (by kernel_rfl) (fun _ _ _ _ h => h) h rfl (fun w h => p_move h rfl) fun a h => ?_
      refine any_all (rs := [4, 10]) (by kernel_rfl) rfl ?_
      intro i hi19
      simp only [List.mem_cons, List.not_mem_nil, or_false] at hi19
      rcases hi19 with rfl | rfl
      · skip
        have hj20 : t - 16 < t := by omega
        have hj21 : t ≤ 64 := by omega
        refine any_V rfl h.env rfl (Pure.opT (p_load Tryd.isAgg73 h rfl (Cel.own (k := 0) rfl (wS_get mg hj20 hj21))) h.own) fun a w h => ?_
        refine any_take (i := 6) rfl (by kernel_rfl) (fun _ _ _ _ h => h) h rfl (fun w h => p_add h rfl rfl (w32_add _ _)) fun a h => ?_
        have hj22 : t - 7 < t := by omega
        have hj23 : t ≤ 64 := by omega
        refine any_one (i := 10) (by kernel_rfl) ?_
        refine any_V rfl h.env rfl (Pure.opT (p_load Tryd.isAgg73 h rfl (Cel.own (k := 0) rfl (wS_get mg hj22 hj23))) h.own) fun a w h => ?_
        refine any_take (i := 11) rfl (by kernel_rfl) (fun _ _ _ _ h => h) h rfl (fun w h => p_add h rfl rfl (w32_add _ _)) fun a h => ?_
        refine any_take (i := 13) rfl (by kernel_rfl) (fun _ _ _ _ h => h) h rfl (fun w h => p_add h rfl rfl (w32_add _ _)) fun a h => ?_
        refine any_take (i := 14) rfl (by kernel_rfl) (fun _ _ _ _ h => h) h rfl (fun w h => p_indexAddrA1 (j := t) (r := t) Tryd.underlying105 Tryd.sizeOf73 h rfl rfl (by omega) (by omega) (by omega)) fun a h => ?_
        refine any_one (i := 15) (by kernel_rfl) ?_
        refine any_N rfl h.env (o_store (kk := 0) (cs' := (wS mg (t + 1)).map U) Tryd.sizeOf73 h rfl rfl rfl rfl rfl (by rw [List.length_map, wS_length]; omega) (wS_set mg (t := t) (by omega) ((wd_hi mg (t := t) (by omega)).symm))) fun a w h => ?_
        refine any_end (by kernel_rfl) ?_
        refine bl_n ?_
        refine th_n ?_
        refine c_region ?_
        refine stepP (p_move h rfl) h rfl fun a w h => ?_
        refine stepP (p_add h rfl rfl (wi (by omega))) h rfl fun a w h => ?_
        refine stepP (p_assign h rfl) h rfl fun a w h => ?_
        refine stepEnd ?_
        exact th_n ⟨_, by omega, t + 1, rfl, by omega, h.to rfl ⟨rfl, (look_int rfl (by first | rfl | omega)), rfl, rfl, (look_int rfl (by first | rfl | omega)), trivial⟩⟩
      · skip
        have hj24 : t - 7 < t := by omega
        have hj25 : t ≤ 64 := by omega
        refine any_V rfl h.env rfl (Pure.opT (p_load Tryd.isAgg73 h rfl (Cel.own (k := 0) rfl (wS_get mg hj24 hj25))) h.own) fun a w h => ?_
        have hj26 : t - 16 < t := by omega
        have hj27 : t ≤ 64 := by omega
        refine any_one (i := 4) (by kernel_rfl) ?_
        refine any_V rfl h.env rfl (Pure.opT (p_load Tryd.isAgg73 h rfl (Cel.own (k := 0) rfl (wS_get mg hj26 hj27))) h.own) fun a w h => ?_
        refine any_take (i := 6) rfl (by kernel_rfl) (fun _ _ _ _ h => h) h rfl (fun w h => p_add h rfl rfl (w32_add _ _)) fun a h => ?_
        refine any_take (i := 11) rfl (by kernel_rfl) (fun _ _ _ _ h => h) h rfl (fun w h => p_add h rfl rfl (w32_add _ _)) fun a h => ?_
        refine any_take (i := 13) rfl (by kernel_rfl) (fun _ _ _ _ h => h) h rfl (fun w h => p_add h rfl rfl (w32_add _ _)) fun a h => ?_
        refine any_take (i := 14) rfl (by kernel_rfl) (fun _ _ _ _ h => h) h rfl (fun w h => p_indexAddrA1 (j := t) (r := t) Tryd.underlying105 Tryd.sizeOf73 h rfl rfl (by omega) (by omega) (by omega)) fun a h => ?_
        refine any_one (i := 15) (by kernel_rfl) ?_
        refine any_N rfl h.env (o_store (kk := 0) (cs' := (wS mg (t + 1)).map U) Tryd.sizeOf73 h rfl rfl rfl rfl rfl (by rw [List.length_map, wS_length]; omega) (wS_set mg (t := t) (by omega) ((wd_hi mg (t := t) (by omega)).symm))) fun a w h => ?_
        refine any_end (by kernel_rfl) ?_
        refine bl_n ?_
        refine th_n ?_
        refine c_region ?_
        refine stepP (p_move h rfl) h rfl fun a w h => ?_
        refine stepP (p_add h rfl rfl (wi (by omega))) h rfl fun a w h => ?_
        refine stepP (p_assign h rfl) h rfl fun a w h => ?_
        refine stepEnd ?_
        exact th_n ⟨_, by omega, t + 1, rfl, by omega, h.to rfl ⟨rfl, (look_int rfl (by first | rfl | omega)), rfl, rfl, (look_int rfl (by first | rfl | omega)), trivial⟩⟩
  · skip
    refine c_exit (th_e (th_e (exit_at ?_)))
    refine th_n ?_
    refine c_seq ?_
    obtain rfl : t = 64 := by omega
    refine c_region ?_
    refine stepP (p_loadA (vs := (wS mg 64).map U) Tryd.isAgg105 (fun w => by rw [Tryd.sizeOf105, List.length_map, wS_length]) h rfl (Cels.all (k := 0) rfl)) h rfl fun a w h => ?_
    refine stepN (o_storeA (kk := 1) (vs := (wS mg 64).map U) (cs' := (wS mg 64).map U) (fun w => by rw [Tryd.sizeOf105, List.length_map, wS_length]) h rfl rfl rfl (by intro u hu; obtain ⟨x, _, rfl⟩ := List.mem_map.1 hu; rfl) rfl (by simp [wS_length]) (by simp [wS_length, List.drop_of_length_le])) h.env fun a w h => ?_
    refine stepEnd ?_
    refine th_n ?_
    refine c_ret ?_
    exact finC (.inl rfl) h (vs := (wS mg 64).map U) rfl Tryd.isAgg105 (fun w => by rw [Tryd.sizeOf105, List.length_map, wS_length]) rfl (Cels.all (k := 1) rfl) ⟨rfl, h.own.none⟩

theorem c_rrounds {S : World} {hf : Hp} {w : World} (ho : Owns S hf [] w)  :
    Calls Tryd.prog 73 ([] : List Value).toArray w (RetV S hf [] (.agg ktV.toArray)) := by
  refine enter (n := 2) (E := []) Tryd.func73 rfl Tryd.ntmps73 rfl rfl ho fun a h => ?_
  refine c_seq ?_
  refine c_region ?_
  refine stepO (o_alloc (l := List.replicate 64 (.int .u32 0)) Tryd.zeroValue105 rfl h) h.env rfl ?_
  rintro b1 _ a w h
  refine stepEnd ?_
  refine th_n ?_
  refine c_seq ?_
  refine c_region ?_
  refine stepP (p_buildA (vs := ktV) Tryd.underlying105 Tryd.type105 rfl Tryd.type73 rfl h (by kernel_rfl) rfl (by intro v hv; obtain ⟨x, _, rfl⟩ := List.mem_map.1 hv; rfl) (by rw [ktV_length]) rfl) h rfl fun a w h => ?_
  refine stepN (o_storeA (kk := 0) (vs := ktV) (cs' := ktV) (fun w => by rw [Tryd.sizeOf105, ktV_length]) h rfl rfl rfl (by intro u hu; obtain ⟨x, _, rfl⟩ := List.mem_map.1 hu; rfl) rfl (by rw [ktV_length]; simp) (by rw [ktV_length]; simp [List.drop_of_length_le])) h.env fun a w h => ?_
  refine stepEnd ?_
  refine th_n ?_
  refine c_ret ?_
  exact finC (.inl rfl) h (vs := ktV) rfl Tryd.isAgg105 (fun w => by rw [Tryd.sizeOf105, ktV_length]) rfl (Cels.all (k := 0) rfl) ⟨rfl, h.own.none⟩

theorem c_rfirst {S : World} {hf : Hp} {w : World} (ho : Owns S hf [] w)  :
    Calls Tryd.prog 74 ([] : List Value).toArray w (RetV S hf [] (.agg (s8init.list.map U).toArray)) := by
  refine enter (n := 2) (E := []) Tryd.func74 rfl Tryd.ntmps74 rfl rfl ho fun a h => ?_
  refine c_seq ?_
  refine c_region ?_
  refine stepO (o_alloc (l := List.replicate 8 (.int .u32 0)) Tryd.zeroValue107 rfl h) h.env rfl ?_
  rintro b1 _ a w h
  refine stepEnd ?_
  refine th_n ?_
  refine c_seq ?_
  refine c_region ?_
  refine stepP (p_buildA (vs := (s8init.list.map U)) Tryd.underlying107 Tryd.type107 rfl Tryd.type73 rfl h (by rfl) rfl (by intro v hv; obtain ⟨x, _, rfl⟩ := List.mem_map.1 hv; rfl) (by rw [(show (s8init.list.map U).length = 8 from rfl)]) rfl) h rfl fun a w h => ?_
  refine stepN (o_storeA (kk := 0) (vs := (s8init.list.map U)) (cs' := (s8init.list.map U)) (fun w => by rw [Tryd.sizeOf107, (show (s8init.list.map U).length = 8 from rfl)]) h rfl rfl rfl (by intro u hu; obtain ⟨x, _, rfl⟩ := List.mem_map.1 hu; rfl) rfl (by rw [(show (s8init.list.map U).length = 8 from rfl)]; simp) (by rw [(show (s8init.list.map U).length = 8 from rfl)]; simp [List.drop_of_length_le])) h.env fun a w h => ?_
  refine stepEnd ?_
  refine th_n ?_
  refine c_ret ?_
  exact finC (.inl rfl) h (vs := (s8init.list.map U)) rfl Tryd.isAgg107 (fun w => by rw [Tryd.sizeOf107, (show (s8init.list.map U).length = 8 from rfl)]) rfl (Cels.all (k := 0) rfl) ⟨rfl, h.own.none⟩

set_option maxHeartbeats 1000000 in
theorem c_rblock {S : World} {hf : Hp} {w : World} (ho : Owns S hf [] w) {s : S8} {mg : Nat → W32} :
    Calls Tryd.prog 76 [.agg (s.list.map U).toArray, .agg ((wS mg 64).map U).toArray, .agg ktV.toArray].toArray w (RetV S hf [] (.agg ((S8.add s (rnds kt (wd mg) s 64)).list.map U).toArray)) := by
  refine enter (n := 123) (E := [(0, _), (1, _), (2, _)]) Tryd.func76 rfl Tryd.ntmps76 rfl rfl ho fun a h => ?_
  refine c_seq ?_
  refine c_region ?_
  refine stepO (o_box (l := s.list.map U) h rfl rfl) h.env rfl ?_
  rintro b1 _ a w h
  refine stepO (o_box (l := (wS mg 64).map U) h rfl rfl) h.env rfl ?_
  rintro b2 _ a w h
  refine stepO (o_box (l := ktV) h rfl rfl) h.env rfl ?_
  rintro b3 _ a w h
  refine stepO (o_alloc (l := List.replicate 8 (.int .u32 0)) Tryd.zeroValue107 rfl h) h.env rfl ?_
  rintro b4 _ a w h
  refine stepEnd ?_
  obtain ⟨hf2, hle2, hin2, hbk2, h⟩ := St.freezeR (L1 := ([(b4, row 107 (List.replicate 8 (.int .u32 0)))])) (L2 := ([(b3, row 105 ktV)] ++ ([(b2, row 105 ((wS mg 64).map U))] ++ ([(b1, row 107 (s.list.map U))])))) h
  have ro5 : hf2 b3 = some (row 105 ktV) := hin2 _ _ (List.mem_of_getElem? (i := 0) rfl)
  have ro6 : hf2 b2 = some (row 105 ((wS mg 64).map U)) := hin2 _ _ (List.mem_of_getElem? (i := 1) rfl)
  have ro7 : hf2 b1 = some (row 107 (s.list.map U)) := hin2 _ _ (List.mem_of_getElem? (i := 2) rfl)
  refine th_n ?_
  refine c_seq ?_
  refine c_region ?_
  refine stepP (p_loadA (vs := s.list.map U) Tryd.isAgg107 (fun w => by rw [Tryd.sizeOf107]; rfl) h rfl (Cels.stay ro7)) h rfl fun a w h => ?_
  refine stepO (o_alloc (l := List.replicate 8 (.int .u32 0)) Tryd.zeroValue107 rfl h) h.env rfl ?_
  rintro b8 _ a w h
  refine stepN (o_storeA (kk := 0) (vs := s.list.map U) (cs' := s.list.map U) (fun w => by rw [Tryd.sizeOf107]; rfl) h rfl rfl rfl (by intro u hu; obtain ⟨x, _, rfl⟩ := List.mem_map.1 hu; rfl) rfl (by simp [S8.list]) (by simp [S8.list])) h.env fun a w h => ?_
  refine stepEnd ?_
  refine th_n ?_
  refine c_seq ?_
  refine c_seq ?_
  refine c_region ?_
  refine stepP (p_assign h rfl) h rfl fun a w h => ?_
  refine stepEnd ?_
  refine th_n ?_
  refine c_block ?_
  refine c_loop (fun m a w => ∃ (t : Nat), m = 64 - t ∧ t ≤ 64 ∧ St S hf2 ([(b8, row 107 ((rnds kt (wd mg) s t).list.map U))] ++ ([(b4, row 107 (List.replicate 8 (.int .u32 0)))])) 123 [(3, ptr b1 0), (4, ptr b2 0), (5, ptr b3 0), (6, ptr b4 0), (7, ptr b8 0), (8, .int .i64 ((t : Nat) : Int))] a w) (N := 64 - 0) ⟨0, rfl, by omega, h.to rfl ⟨rfl, rfl, rfl, rfl, rfl, (look_int rfl (by first | rfl | omega)), trivial⟩⟩ ?_
  clear h
  rintro m a w ⟨t, rfl, ht, h⟩
  refine c_seq ?_
  refine c_seq ?_
  refine c_region ?_
  refine stepP (p_move h rfl) h rfl fun a w h => ?_
  refine stepP (p_lss h rfl rfl) h rfl fun a w h => ?_
  refine stepEnd ?_
  refine th_n ?_
  refine c_cond rfl h (fun hc9 => ?_) (fun hc9 => ?_)
  · skip
    refine c_skip ?_
    refine th_n ?_
    refine c_seq ?_
    refine c_block ?_
    refine c_seq ?_
    refine region_quiet (by kernel_rfl) (by kernel_rfl) h ?_
    have he := h.env
    clear h
    refine stepQ he (fun w h => p_indexAddrA1 (j := 4) (r := 4) Tryd.underlying107 Tryd.sizeOf73 h rfl rfl (by omega) (by omega) (by omega)) rfl fun a he => ?_
    refine stepQ he (fun w h => p_load Tryd.isAgg73 h rfl (Cel.own (k := 0) rfl rfl)) rfl fun a he => ?_
    refine stepQC he (fun w h => o_call Tryd.call83 h rfl) (fun w ho => call_q0 ho (c_turned ho.lend0 (x := (rnds kt (wd mg) s t).e) (n := 6) (by decide) (by decide))) rfl fun a he => ?_
    refine stepQ he (fun w h => p_indexAddrA1 (j := 4) (r := 4) Tryd.underlying107 Tryd.sizeOf73 h rfl rfl (by omega) (by omega) (by omega)) rfl fun a he => ?_
    refine stepQ he (fun w h => p_load Tryd.isAgg73 h rfl (Cel.own (k := 0) rfl rfl)) rfl fun a he => ?_
    refine stepQC he (fun w h => o_call Tryd.call83 h rfl) (fun w ho => call_q0 ho (c_turned ho.lend0 (x := (rnds kt (wd mg) s t).e) (n := 11) (by decide) (by decide))) rfl fun a he => ?_
    refine stepQ he (fun w h => p_xor h rfl rfl (w32_xor _ _)) rfl fun a he => ?_
    refine stepQ he (fun w h => p_indexAddrA1 (j := 4) (r := 4) Tryd.underlying107 Tryd.sizeOf73 h rfl rfl (by omega) (by omega) (by omega)) rfl fun a he => ?_
    refine stepQ he (fun w h => p_load Tryd.isAgg73 h rfl (Cel.own (k := 0) rfl rfl)) rfl fun a he => ?_
    refine stepQC he (fun w h => o_call Tryd.call83 h rfl) (fun w ho => call_q0 ho (c_turned ho.lend0 (x := (rnds kt (wd mg) s t).e) (n := 25) (by decide) (by decide))) rfl fun a he => ?_
    refine stepQ he (fun w h => p_xor h rfl rfl (w32_xor _ _)) rfl fun a he => ?_
    refine stepQ he (fun w h => p_assign h rfl) rfl fun a he => ?_
    refine stepQEnd he fun w h => ?_
    refine th_n ?_
    refine c_seq ?_
    refine c_region ?_
    refine stepP (p_indexAddrA1 (j := 4) (r := 4) Tryd.underlying107 Tryd.sizeOf73 h rfl rfl (by omega) (by omega) (by omega)) h rfl fun a w h => ?_
    refine stepP (p_load Tryd.isAgg73 h rfl (Cel.own (k := 0) rfl rfl)) h rfl fun a w h => ?_
    refine stepP (p_indexAddrA1 (j := 5) (r := 5) Tryd.underlying107 Tryd.sizeOf73 h rfl rfl (by omega) (by omega) (by omega)) h rfl fun a w h => ?_
    refine stepP (p_load Tryd.isAgg73 h rfl (Cel.own (k := 0) rfl rfl)) h rfl fun a w h => ?_
    refine stepP (p_and h rfl rfl (w32_and _ _)) h rfl fun a w h => ?_
    refine stepP (p_indexAddrA1 (j := 4) (r := 4) Tryd.underlying107 Tryd.sizeOf73 h rfl rfl (by omega) (by omega) (by omega)) h rfl fun a w h => ?_
    refine stepP (p_load Tryd.isAgg73 h rfl (Cel.own (k := 0) rfl rfl)) h rfl fun a w h => ?_
    refine stepP (p_compl h rfl (w32_compl _)) h rfl fun a w h => ?_
    refine stepP (p_indexAddrA1 (j := 6) (r := 6) Tryd.underlying107 Tryd.sizeOf73 h rfl rfl (by omega) (by omega) (by omega)) h rfl fun a w h => ?_
    refine stepP (p_load Tryd.isAgg73 h rfl (Cel.own (k := 0) rfl rfl)) h rfl fun a w h => ?_
    refine stepP (p_and h rfl rfl (w32_and _ _)) h rfl fun a w h => ?_
    refine stepP (p_xor h rfl rfl (w32_xor _ _)) h rfl fun a w h => ?_
    refine stepP (p_assign (v := U (chf (rnds kt (wd mg) s t).e (rnds kt (wd mg) s t).f (rnds kt (wd mg) s t).g)) h (by rw [← chf_ref]; rfl)) h rfl fun a w h => ?_
    refine stepEnd ?_
    refine th_n ?_
    refine c_seq ?_
    refine region_quiet (by kernel_rfl) (by kernel_rfl) h ?_
    have he := h.env
    clear h
    refine stepQ he (fun w h => p_indexAddrA1 (j := 7) (r := 7) Tryd.underlying107 Tryd.sizeOf73 h rfl rfl (by omega) (by omega) (by omega)) rfl fun a he => ?_
    refine stepQ he (fun w h => p_load Tryd.isAgg73 h rfl (Cel.own (k := 0) rfl rfl)) rfl fun a he => ?_
    refine stepQ he (fun w h => p_move h rfl) rfl fun a he => ?_
    refine stepQ he (fun w h => p_add h rfl rfl (w32_add _ _)) rfl fun a he => ?_
    refine stepQ he (fun w h => p_move h rfl) rfl fun a he => ?_
    refine stepQ he (fun w h => p_add h rfl rfl (w32_add _ _)) rfl fun a he => ?_
    refine stepQ he (fun w h => p_move h rfl) rfl fun a he => ?_
    refine stepQ he (fun w h => p_indexAddrA1 (j := t) (r := t) Tryd.underlying105 Tryd.sizeOf73 h rfl rfl (by omega) (by omega) (by omega)) rfl fun a he => ?_
    refine stepQ he (fun w h => p_load Tryd.isAgg73 h rfl (Cel.stay ro5 (ktV_get (t := t) (by omega)))) rfl fun a he => ?_
    refine stepQ he (fun w h => p_add h rfl rfl (w32_add _ _)) rfl fun a he => ?_
    refine stepQ he (fun w h => p_move h rfl) rfl fun a he => ?_
    refine stepQ he (fun w h => p_indexAddrA1 (j := t) (r := t) Tryd.underlying105 Tryd.sizeOf73 h rfl rfl (by omega) (by omega) (by omega)) rfl fun a he => ?_
    refine stepQ he (fun w h => p_load Tryd.isAgg73 h rfl (Cel.stay ro6 (wS_get mg (t := 64) (i := t) (by omega) (by omega)))) rfl fun a he => ?_
    refine stepQ he (fun w h => p_add h rfl rfl (w32_add _ _)) rfl fun a he => ?_
    refine stepQ he (fun w h => p_assign h rfl) rfl fun a he => ?_
    refine stepQEnd he fun w h => ?_
    refine th_n ?_
    refine c_seq ?_
    refine region_quiet (by kernel_rfl) (by kernel_rfl) h ?_
    have he := h.env
    clear h
    refine stepQ he (fun w h => p_indexAddrA1 (j := 0) (r := 0) Tryd.underlying107 Tryd.sizeOf73 h rfl rfl (by omega) (by omega) (by omega)) rfl fun a he => ?_
    refine stepQ he (fun w h => p_load Tryd.isAgg73 h rfl (Cel.own (k := 0) rfl rfl)) rfl fun a he => ?_
    refine stepQC he (fun w h => o_call Tryd.call83 h rfl) (fun w ho => call_q0 ho (c_turned ho.lend0 (x := (rnds kt (wd mg) s t).a) (n := 2) (by decide) (by decide))) rfl fun a he => ?_
    refine stepQ he (fun w h => p_indexAddrA1 (j := 0) (r := 0) Tryd.underlying107 Tryd.sizeOf73 h rfl rfl (by omega) (by omega) (by omega)) rfl fun a he => ?_
    refine stepQ he (fun w h => p_load Tryd.isAgg73 h rfl (Cel.own (k := 0) rfl rfl)) rfl fun a he => ?_
    refine stepQC he (fun w h => o_call Tryd.call83 h rfl) (fun w ho => call_q0 ho (c_turned ho.lend0 (x := (rnds kt (wd mg) s t).a) (n := 13) (by decide) (by decide))) rfl fun a he => ?_
    refine stepQ he (fun w h => p_xor h rfl rfl (w32_xor _ _)) rfl fun a he => ?_
    refine stepQ he (fun w h => p_indexAddrA1 (j := 0) (r := 0) Tryd.underlying107 Tryd.sizeOf73 h rfl rfl (by omega) (by omega) (by omega)) rfl fun a he => ?_
    refine stepQ he (fun w h => p_load Tryd.isAgg73 h rfl (Cel.own (k := 0) rfl rfl)) rfl fun a he => ?_
    refine stepQC he (fun w h => o_call Tryd.call83 h rfl) (fun w ho => call_q0 ho (c_turned ho.lend0 (x := (rnds kt (wd mg) s t).a) (n := 22) (by decide) (by decide))) rfl fun a he => ?_
    refine stepQ he (fun w h => p_xor h rfl rfl (w32_xor _ _)) rfl fun a he => ?_
    refine stepQ he (fun w h => p_assign h rfl) rfl fun a he => ?_
    refine stepQEnd he fun w h => ?_
    refine th_n ?_
    refine c_seq ?_
    refine c_region ?_
    refine stepP (p_indexAddrA1 (j := 0) (r := 0) Tryd.underlying107 Tryd.sizeOf73 h rfl rfl (by omega) (by omega) (by omega)) h rfl fun a w h => ?_
    refine stepP (p_load Tryd.isAgg73 h rfl (Cel.own (k := 0) rfl rfl)) h rfl fun a w h => ?_
    refine stepP (p_indexAddrA1 (j := 1) (r := 1) Tryd.underlying107 Tryd.sizeOf73 h rfl rfl (by omega) (by omega) (by omega)) h rfl fun a w h => ?_
    refine stepP (p_load Tryd.isAgg73 h rfl (Cel.own (k := 0) rfl rfl)) h rfl fun a w h => ?_
    refine stepP (p_and h rfl rfl (w32_and _ _)) h rfl fun a w h => ?_
    refine stepP (p_indexAddrA1 (j := 0) (r := 0) Tryd.underlying107 Tryd.sizeOf73 h rfl rfl (by omega) (by omega) (by omega)) h rfl fun a w h => ?_
    refine stepP (p_load Tryd.isAgg73 h rfl (Cel.own (k := 0) rfl rfl)) h rfl fun a w h => ?_
    refine stepP (p_indexAddrA1 (j := 2) (r := 2) Tryd.underlying107 Tryd.sizeOf73 h rfl rfl (by omega) (by omega) (by omega)) h rfl fun a w h => ?_
    refine stepP (p_load Tryd.isAgg73 h rfl (Cel.own (k := 0) rfl rfl)) h rfl fun a w h => ?_
    refine stepP (p_and h rfl rfl (w32_and _ _)) h rfl fun a w h => ?_
    refine stepP (p_xor h rfl rfl (w32_xor _ _)) h rfl fun a w h => ?_
    refine stepP (p_indexAddrA1 (j := 1) (r := 1) Tryd.underlying107 Tryd.sizeOf73 h rfl rfl (by omega) (by omega) (by omega)) h rfl fun a w h => ?_
    refine stepP (p_load Tryd.isAgg73 h rfl (Cel.own (k := 0) rfl rfl)) h rfl fun a w h => ?_
    refine stepP (p_indexAddrA1 (j := 2) (r := 2) Tryd.underlying107 Tryd.sizeOf73 h rfl rfl (by omega) (by omega) (by omega)) h rfl fun a w h => ?_
    refine stepP (p_load Tryd.isAgg73 h rfl (Cel.own (k := 0) rfl rfl)) h rfl fun a w h => ?_
    refine stepP (p_and h rfl rfl (w32_and _ _)) h rfl fun a w h => ?_
    refine stepP (p_xor h rfl rfl (w32_xor _ _)) h rfl fun a w h => ?_
    refine stepP (p_assign (v := U (maf (rnds kt (wd mg) s t).a (rnds kt (wd mg) s t).b (rnds kt (wd mg) s t).c)) h (by rw [← maf_ref]; rfl)) h rfl fun a w h => ?_
    refine stepEnd ?_
    refine th_n ?_
    refine c_seq ?_
    refine c_region ?_
    refine stepP (p_move h rfl) h rfl fun a w h => ?_
    refine stepP (p_move h rfl) h rfl fun a w h => ?_
    refine stepP (p_add h rfl rfl (w32_add _ _)) h rfl fun a w h => ?_
    refine stepP (p_assign h rfl) h rfl fun a w h => ?_
    refine stepEnd ?_
    refine th_n ?_
    refine c_region ?_
    refine stepP (p_move h rfl) h rfl fun a w h => ?_
    refine stepP (p_move h rfl) h rfl fun a w h => ?_
    refine stepP (p_add h rfl rfl (w32_add _ _)) h rfl fun a w h => ?_
    refine stepP (p_indexAddrA1 (j := 0) (r := 0) Tryd.underlying107 Tryd.sizeOf73 h rfl rfl (by omega) (by omega) (by omega)) h rfl fun a w h => ?_
    refine stepP (p_load Tryd.isAgg73 h rfl (Cel.own (k := 0) rfl rfl)) h rfl fun a w h => ?_
    refine stepP (p_indexAddrA1 (j := 1) (r := 1) Tryd.underlying107 Tryd.sizeOf73 h rfl rfl (by omega) (by omega) (by omega)) h rfl fun a w h => ?_
    refine stepP (p_load Tryd.isAgg73 h rfl (Cel.own (k := 0) rfl rfl)) h rfl fun a w h => ?_
    refine stepP (p_indexAddrA1 (j := 2) (r := 2) Tryd.underlying107 Tryd.sizeOf73 h rfl rfl (by omega) (by omega) (by omega)) h rfl fun a w h => ?_
    refine stepP (p_load Tryd.isAgg73 h rfl (Cel.own (k := 0) rfl rfl)) h rfl fun a w h => ?_
    refine stepP (p_indexAddrA1 (j := 3) (r := 3) Tryd.underlying107 Tryd.sizeOf73 h rfl rfl (by omega) (by omega) (by omega)) h rfl fun a w h => ?_
    refine stepP (p_load Tryd.isAgg73 h rfl (Cel.own (k := 0) rfl rfl)) h rfl fun a w h => ?_
    refine stepP (p_move h rfl) h rfl fun a w h => ?_
    refine stepP (p_add h rfl rfl (w32_add _ _)) h rfl fun a w h => ?_
    refine stepP (p_indexAddrA1 (j := 4) (r := 4) Tryd.underlying107 Tryd.sizeOf73 h rfl rfl (by omega) (by omega) (by omega)) h rfl fun a w h => ?_
    refine stepP (p_load Tryd.isAgg73 h rfl (Cel.own (k := 0) rfl rfl)) h rfl fun a w h => ?_
    refine stepP (p_indexAddrA1 (j := 5) (r := 5) Tryd.underlying107 Tryd.sizeOf73 h rfl rfl (by omega) (by omega) (by omega)) h rfl fun a w h => ?_
    refine stepP (p_load Tryd.isAgg73 h rfl (Cel.own (k := 0) rfl rfl)) h rfl fun a w h => ?_
    refine stepP (p_indexAddrA1 (j := 6) (r := 6) Tryd.underlying107 Tryd.sizeOf73 h rfl rfl (by omega) (by omega) (by omega)) h rfl fun a w h => ?_
    refine stepP (p_load Tryd.isAgg73 h rfl (Cel.own (k := 0) rfl rfl)) h rfl fun a w h => ?_
    refine stepP (p_buildA (vs := (rnds kt (wd mg) s (t + 1)).list.map U) Tryd.underlying107 Tryd.type107 rfl Tryd.type73 rfl h rfl rfl (onesU _) rfl rfl) h rfl fun a w h => ?_
    refine stepN (o_storeA (kk := 0) (vs := (rnds kt (wd mg) s (t + 1)).list.map U) (cs' := (rnds kt (wd mg) s (t + 1)).list.map U) (fun w => by rw [Tryd.sizeOf107]; rfl) h rfl rfl rfl (by intro u hu; obtain ⟨x, _, rfl⟩ := List.mem_map.1 hu; rfl) rfl (by simp [S8.list]) (by simp [S8.list])) h.env fun a w h => ?_
    refine stepEnd ?_
    refine bl_n ?_
    refine th_n ?_
    refine c_region ?_
    refine stepP (p_move h rfl) h rfl fun a w h => ?_
    refine stepP (p_add h rfl rfl (wi (by omega))) h rfl fun a w h => ?_
    refine stepP (p_assign h rfl) h rfl fun a w h => ?_
    refine stepEnd ?_
    exact th_n ⟨_, by omega, t + 1, rfl, by omega, h.to rfl ⟨rfl, rfl, rfl, rfl, rfl, (look_int rfl (by first | rfl | omega)), trivial⟩⟩
  · skip
    refine c_exit (th_e (th_e (exit_at ?_)))
    refine th_n ?_
    refine c_seq ?_
    refine c_seq ?_
    obtain rfl : t = 64 := by omega
    obtain ⟨v, hv⟩ : ∃ v, v = rnds kt (wd mg) s 64 := ⟨_, rfl⟩
    rw [← hv] at h
    refine c_region ?_
    refine stepP (p_assign h rfl) h rfl fun a w h => ?_
    refine stepEnd ?_
    refine th_n ?_
    refine c_block ?_
    refine c_loop (fun m a w => ∃ (j : Nat), m = 8 - j ∧ j ≤ 8 ∧ St S hf2 ([(b8, row 107 ((addS v s j).map U))] ++ ([(b4, row 107 (List.replicate 8 (.int .u32 0)))])) 123 [(3, ptr b1 0), (6, ptr b4 0), (7, ptr b8 0), (15, .int .i64 ((j : Nat) : Int))] a w) (N := 8 - 0) ⟨0, rfl, by omega, h.to rfl ⟨rfl, rfl, rfl, (look_int rfl (by first | rfl | omega)), trivial⟩⟩ ?_
    clear h
    rintro m a w ⟨j, rfl, hj, h⟩
    refine c_seq ?_
    refine c_seq ?_
    refine c_region ?_
    refine stepP (p_move h rfl) h rfl fun a w h => ?_
    refine stepP (p_lss h rfl rfl) h rfl fun a w h => ?_
    refine stepEnd ?_
    refine th_n ?_
    refine c_cond rfl h (fun hc10 => ?_) (fun hc10 => ?_)
    · skip
      refine c_skip ?_
      refine th_n ?_
      refine c_seq ?_
      refine c_block ?_
      refine any_begin (N := 10) (by kernel_rfl) rfl h ?_
      clear h; intro w h
      refine any_take (i := 0) rfl (by kernel_rfl) (fun _ _ _ _ h => h) h rfl (fun w h => p_move h rfl) fun a h => ?_
      refine any_take (i := 1) rfl (by kernel_rfl) (fun _ _ _ _ h => h) h rfl (fun w h => p_move h rfl) fun a h => ?_
      refine any_take (i := 2) rfl (by kernel_rfl) (fun _ _ _ _ h => h) h rfl (fun w h => p_indexAddrA1 (j := j) (r := j) Tryd.underlying107 Tryd.sizeOf73 h rfl rfl (by omega) (by omega) (by omega)) fun a h => ?_
      refine any_take (i := 4) rfl (by kernel_rfl) (fun _ _ _ _ h => h) h rfl (fun w h => p_move h rfl) fun a h => ?_
      refine any_take (i := 5) rfl (by kernel_rfl) (fun _ _ _ _ h => h) h rfl (fun w h => p_indexAddrA1 (j := j) (r := j) Tryd.underlying107 Tryd.sizeOf73 h rfl rfl (by omega) (by omega) (by omega)) fun a h => ?_
      have hj11 : j < 8 := by omega
      refine any_take (i := 6) rfl (by kernel_rfl) (fun _ _ _ _ h => h) h rfl (fun w h => p_load Tryd.isAgg73 h rfl (Cel.stay ro7 (list_get s hj11))) fun a h => ?_
      refine any_one (i := 3) (by kernel_rfl) ?_
      refine any_V rfl h.env rfl (Pure.opT (p_load Tryd.isAgg73 h rfl (Cel.own (k := 0) (v := U (v.list.getD j 0)) rfl (by rw [List.getElem?_map, addS_get v s (by omega)]; rfl))) h.own) fun a w h => ?_
      refine any_take (i := 7) rfl (by kernel_rfl) (fun _ _ _ _ h => h) h rfl (fun w h => p_add h rfl rfl (w32_add _ _)) fun a h => ?_
      refine any_take (i := 8) rfl (by kernel_rfl) (fun _ _ _ _ h => h) h rfl (fun w h => p_indexAddrA1 (j := j) (r := j) Tryd.underlying107 Tryd.sizeOf73 h rfl rfl (by omega) (by omega) (by omega)) fun a h => ?_
      refine any_one (i := 9) (by kernel_rfl) ?_
      refine any_N rfl h.env (o_store (kk := 0) (cs' := (addS v s (j + 1)).map U) Tryd.sizeOf73 h rfl rfl rfl rfl rfl (by rw [List.length_map, addS_length v s (by omega)]; omega) (by rw [← addS_set v s (by omega), List.map_set])) fun a w h => ?_
      refine any_end (by kernel_rfl) ?_
      refine bl_n ?_
      refine th_n ?_
      refine c_region ?_
      refine stepP (p_move h rfl) h rfl fun a w h => ?_
      refine stepP (p_add h rfl rfl (wi (by omega))) h rfl fun a w h => ?_
      refine stepP (p_assign h rfl) h rfl fun a w h => ?_
      refine stepEnd ?_
      exact th_n ⟨_, by omega, j + 1, rfl, by omega, h.to rfl ⟨rfl, rfl, rfl, (look_int rfl (by first | rfl | omega)), trivial⟩⟩
    · skip
      refine c_exit (th_e (th_e (exit_at ?_)))
      refine th_n ?_
      refine c_seq ?_
      obtain rfl : j = 8 := by omega
      refine c_region ?_
      refine stepP (p_loadA (vs := (S8.add v s).list.map U) Tryd.isAgg107 (fun w => by rw [Tryd.sizeOf107]; rfl) h rfl (Cels.all (k := 0) rfl)) h rfl fun a w h => ?_
      refine stepN (o_storeA (kk := 1) (vs := (S8.add v s).list.map U) (cs' := (S8.add v s).list.map U) (fun w => by rw [Tryd.sizeOf107]; rfl) h rfl rfl rfl (by intro u hu; obtain ⟨x, _, rfl⟩ := List.mem_map.1 hu; rfl) rfl (by simp [S8.list]) (by simp [S8.list])) h.env fun a w h => ?_
      refine stepEnd ?_
      refine th_n ?_
      refine c_ret ?_
      exact finC (.inl rfl) h (vs := (S8.add v s).list.map U) rfl Tryd.isAgg107 (fun w => by rw [Tryd.sizeOf107]; rfl) rfl (Cels.all (k := 1) rfl) ⟨by rw [S8.add_comm v s, hv], (hbk2 _ _ h.own).none⟩

end Go.Proofs.YtkklgmhmhhbjkaaDoor
