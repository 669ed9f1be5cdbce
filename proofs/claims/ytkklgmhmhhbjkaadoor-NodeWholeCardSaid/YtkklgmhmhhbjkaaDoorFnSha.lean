/-
  WHAT EACH CALL COMES TO: SHA-256, word by word. Printed by the own generator (wip/gen), one law of the own library for each operation.
-/
import Derived.Test.YtkklgmhmhhbjkaaDoorKitK
import Derived.Test.YtkklgmhmhhbjkaaDoorProg
import Derived.Test.YtkklgmhmhhbjkaaDoorFnA
namespace Go.Proofs.YtkklgmhmhhbjkaaDoor
open Go Go.Own Go.Proofs
set_option maxRecDepth 100000
set_option linter.unusedVariables false

theorem c_RotateLeft32 {S : World} {hf : Hp} {w : World} (ho : Owns S hf [] w) {x : W32} {n : Nat} (h1 : 1 ≤ n) (h2 : n ≤ 31) :
    Calls Tryd.prog 91 [U x, .int .i64 (-(n : Int))].toArray w (RetV S hf [] (U (rotr x n))) := by
  refine enter (n := 17) (E := [(0, _), (1, _)]) Tryd.func91 rfl Tryd.ntmps91 rfl rfl ho fun a h => ?_
  refine c_seq ?_
  refine c_region ?_
  refine stepP (p_assign h rfl) h rfl fun a w h => ?_
  refine stepEnd ?_
  refine th_n ?_
  refine c_seq ?_
  refine c_region ?_
  refine stepP (p_move h rfl) h rfl fun a w h => ?_
  refine stepP (p_conv (r := 18446744073709551616 - (n : Int)) Tryd.underlying3 Tryd.underlying83 h rfl (by simp only [IntKind.wrap, IntKind.bits, IntKind.signed]; simp; omega)) h rfl fun a w h => ?_
  refine stepP (p_and h rfl rfl (rot_and n h1 h2)) h rfl fun a w h => ?_
  refine stepP (p_assign h rfl) h rfl fun a w h => ?_
  refine stepEnd ?_
  refine th_n ?_
  refine c_seq ?_
  refine c_region ?_
  refine stepP (p_move h rfl) h rfl fun a w h => ?_
  refine stepP (p_move h rfl) h rfl fun a w h => ?_
  refine stepP (p_shl h rfl rfl (by omega) (w32_shl _ (32 - n) _ (by omega) (by omega))) h rfl fun a w h => ?_
  refine stepP (p_move h rfl) h rfl fun a w h => ?_
  refine stepP (p_move h rfl) h rfl fun a w h => ?_
  refine stepP (p_sub (r := (n : Int)) h rfl rfl (by simp only [IntKind.wrap, IntKind.bits, IntKind.signed]; simp; omega)) h rfl fun a w h => ?_
  refine stepP (p_shr h rfl rfl (by omega) (w32_shr _ n _ (by omega) (by omega))) h rfl fun a w h => ?_
  refine stepP (p_or h rfl rfl (w32_or _ _)) h rfl fun a w h => ?_
  refine stepP (p_assign h rfl) h rfl fun a w h => ?_
  refine stepEnd ?_
  refine th_n ?_
  refine c_ret ?_
  exact fin1 (.inl rfl) h rfl rfl ⟨rfl, h.own⟩

theorem c_turned {S : World} {hf : Hp} {w : World} (ho : Owns S hf [] w) {x : W32} {n : Nat} (h1 : 1 ≤ n) (h2 : n ≤ 31) :
    Calls Tryd.prog 83 [U x, .int .i64 (n : Int)].toArray w (RetV S hf [] (U (rotr x n))) := by
  refine enter (n := 13) (E := [(0, _), (1, _)]) Tryd.func83 rfl Tryd.ntmps83 rfl rfl ho fun a h => ?_
  refine c_seq ?_
  refine c_region ?_
  refine stepP (p_assign h rfl) h rfl fun a w h => ?_
  refine stepEnd ?_
  refine th_n ?_
  refine c_seq ?_
  refine region_quiet (by kernel_rfl) (by kernel_rfl) h ?_
  have he := h.env
  clear h
  refine stepQ he (fun w h => p_move h rfl) rfl fun a he => ?_
  refine stepQ he (fun w h => p_move h rfl) rfl fun a he => ?_
  refine stepQ he (fun w h => p_shr h rfl rfl (by omega) (w32_shr _ n _ (by omega) (by omega))) rfl fun a he => ?_
  refine stepQ he (fun w h => p_move h rfl) rfl fun a he => ?_
  refine stepQ he (fun w h => p_move h rfl) rfl fun a he => ?_
  refine stepQ he (fun w h => p_sub h rfl rfl (wi (by omega))) rfl fun a he => ?_
  refine stepQ he (fun w h => p_shl h rfl rfl (by omega) (w32_shl _ (32 - n) _ (by omega) (by omega))) rfl fun a he => ?_
  refine stepQ he (fun w h => p_or h rfl rfl (w32_or _ _)) rfl fun a he => ?_
  refine stepQ he (fun w h => p_assign h rfl) rfl fun a he => ?_
  refine stepQEnd he fun w h => ?_
  refine th_n ?_
  refine c_ret ?_
  exact fin1 (.inl rfl) h rfl rfl ⟨by rw [rotr_comm], h.own⟩

set_option maxHeartbeats 1000000 in
theorem c_dblock {S : World} {hf : Hp} {w : World} {b : Nat} {s : S8} {r : List UInt8} {n : Nat} (ho : Owns S hf [(b, row 116 (hashC s r n))] w) (hr : r.length = 64) (hk : RoundsAt 3 hf) :
    Calls Tryd.prog 81 [ptr b 0].toArray w (RetV S hf [(b, row 116 (hashC (comp s (fun i => r.getD i 0)) r n))] (.tuple #[])) := by
  obtain ⟨mg, hm⟩ : ∃ mg, mg = mw (fun i => r.getD i 0) := ⟨_, rfl⟩
  refine enter (n := 230) (E := [(0, _)]) Tryd.func81 rfl Tryd.ntmps81 rfl rfl ho fun a h => ?_
  refine c_seq ?_
  obtain ⟨hf1, hlef1, hinf1, hbkf1, h⟩ := h.freeze
  replace hk := hk.mono hlef1
  have hle := hlef1
  have ro2 : hf1 b = some (row 116 (hashC s r n)) := hinf1 _ _ (List.mem_of_getElem? (i := 0) rfl)
  refine c_region ?_
  refine stepO (o_alloc (l := (wS mg 0).map U) Tryd.zeroValue105 (by rw [wS_zero]; rfl) h) h.env rfl ?_
  rintro b3 _ a w h
  refine stepEnd ?_
  refine th_n ?_
  refine c_seq ?_
  refine c_seq ?_
  refine c_region ?_
  refine stepP (p_move h rfl) h rfl fun a w h => ?_
  refine stepEnd ?_
  refine th_n ?_
  refine c_block ?_
  refine c_loop (fun m a w => ∃ (t : Nat), m = 64 - t ∧ t ≤ 64 ∧ St S hf1 ([(b3, row 105 ((wS mg t).map U))]) 230 [(0, ptr b 0), (2, ptr b3 0), (25, .int .i64 ((t : Nat) : Int))] a w) (N := 64 - 0) ⟨0, rfl, by omega, h.to rfl ⟨rfl, rfl, (look_int rfl (by first | rfl | omega)), trivial⟩⟩ ?_
  clear h
  rintro m a w ⟨t, rfl, ht, h⟩
  refine c_seq ?_
  refine c_region ?_
  refine stepP (p_lss h rfl rfl) h rfl fun a w h => ?_
  refine stepEnd ?_
  refine th_n ?_
  refine c_seq ?_
  refine c_cond rfl h (fun hc4 => ?_) (fun hc4 => ?_)
  · skip
    refine c_skip ?_
    refine th_n ?_
    refine c_seq ?_
    refine c_block ?_
    refine c_seq ?_
    refine c_region ?_
    refine stepP (p_move h rfl) h rfl fun a w h => ?_
    refine stepP (p_assign h rfl) h rfl fun a w h => ?_
    refine stepEnd ?_
    refine th_n ?_
    refine c_seq ?_
    refine c_seq ?_
    refine c_region ?_
    refine stepP (p_move h rfl) h rfl fun a w h => ?_
    refine stepP (p_lss h rfl rfl) h rfl fun a w h => ?_
    refine stepEnd ?_
    refine th_n ?_
    refine c_cond rfl h (fun hc5 => ?_) (fun hc5 => ?_)
    · skip
      refine c_seq ?_
      refine c_region ?_
      refine stepP (p_move h rfl) h rfl fun a w h => ?_
      refine stepP (p_nilCheck h rfl) h rfl fun a w h => ?_
      refine stepP (p_fieldAddr (r := 8) Tryd.underlying116 rfl Tryd.sizeOf114 rfl rfl h rfl) h rfl fun a w h => ?_
      refine stepP (p_move h rfl) h rfl fun a w h => ?_
      refine stepP (p_mul h rfl rfl (wi (by omega))) h rfl fun a w h => ?_
      refine stepP (p_move h rfl) h rfl fun a w h => ?_
      refine stepP (p_mul h rfl rfl (wi (by omega))) h rfl fun a w h => ?_
      refine stepP (p_add h rfl rfl (wi (by omega))) h rfl fun a w h => ?_
      refine stepP (p_sliceArrLH (lo := 4 * t) (hi := 4 * t + 4) (r := 8 + 4 * t) Tryd.underlying114 Tryd.sizeOf5 h rfl rfl rfl (by omega) (by omega) (by omega) (by omega) (by omega) rfl) h rfl fun a w h => ?_
      refine stepP (p_assign h rfl) h rfl fun a w h => ?_
      refine stepEnd ?_
      refine th_n ?_
      refine c_seq ?_
      refine any_begin (N := 25) (by kernel_rfl) rfl h ?_
      clear h; intro w h
      refine any_take (i := 0) rfl (by kernel_rfl) (fun _ _ _ _ h => h) h rfl (fun w h => p_move h rfl) fun a h => ?_
      refine any_take (i := 1) rfl (by kernel_rfl) (fun _ _ _ _ h => h) h rfl (fun w h => p_move h rfl) fun a h => ?_
      refine any_take (i := 2) rfl (by kernel_rfl) (fun _ _ _ _ h => h) h rfl (fun w h => p_indexAddr1 (j := 0) (r := 8 + (4 * t)) Tryd.underlying22 Tryd.sizeOf5 h rfl rfl rfl (by omega) (by omega)) fun a h => ?_
      have hj6 : 4 * t < r.length := by omega
      refine any_take (i := 3) rfl (by kernel_rfl) (fun _ _ _ _ h => h) h rfl (fun w h => p_load Tryd.isAgg5 h rfl (Cel.stay ro2 (hashC_rest s r n (i := 4 * t) hj6))) fun a h => ?_
      refine any_take (i := 4) rfl (by kernel_rfl) (fun _ _ _ _ h => h) h rfl (fun w h => p_conv Tryd.underlying5 Tryd.underlying73 h rfl (w32_byte _)) fun a h => ?_
      refine any_take (i := 5) rfl (by kernel_rfl) (fun _ _ _ _ h => h) h rfl (fun w h => p_shl h rfl rfl (by omega) (w32_shl _ 24 _ (by omega) (by omega))) fun a h => ?_
      refine any_take (i := 6) rfl (by kernel_rfl) (fun _ _ _ _ h => h) h rfl (fun w h => p_move h rfl) fun a h => ?_
      refine any_take (i := 7) rfl (by kernel_rfl) (fun _ _ _ _ h => h) h rfl (fun w h => p_indexAddr1 (j := 1) (r := 8 + (4 * t + 1)) Tryd.underlying22 Tryd.sizeOf5 h rfl rfl rfl (by omega) (by omega)) fun a h => ?_
      have hj7 : 4 * t + 1 < r.length := by omega
      refine any_take (i := 8) rfl (by kernel_rfl) (fun _ _ _ _ h => h) h rfl (fun w h => p_load Tryd.isAgg5 h rfl (Cel.stay ro2 (hashC_rest s r n (i := 4 * t + 1) hj7))) fun a h => ?_
      refine any_take (i := 9) rfl (by kernel_rfl) (fun _ _ _ _ h => h) h rfl (fun w h => p_conv Tryd.underlying5 Tryd.underlying73 h rfl (w32_byte _)) fun a h => ?_
      refine any_take (i := 10) rfl (by kernel_rfl) (fun _ _ _ _ h => h) h rfl (fun w h => p_shl h rfl rfl (by omega) (w32_shl _ 16 _ (by omega) (by omega))) fun a h => ?_
      refine any_take (i := 11) rfl (by kernel_rfl) (fun _ _ _ _ h => h) h rfl (fun w h => p_or h rfl rfl (w32_or _ _)) fun a h => ?_
      refine any_take (i := 12) rfl (by kernel_rfl) (fun _ _ _ _ h => h) h rfl (fun w h => p_move h rfl) fun a h => ?_
      refine any_take (i := 13) rfl (by kernel_rfl) (fun _ _ _ _ h => h) h rfl (fun w h => p_indexAddr1 (j := 2) (r := 8 + (4 * t + 2)) Tryd.underlying22 Tryd.sizeOf5 h rfl rfl rfl (by omega) (by omega)) fun a h => ?_
      have hj8 : 4 * t + 2 < r.length := by omega
      refine any_take (i := 14) rfl (by kernel_rfl) (fun _ _ _ _ h => h) h rfl (fun w h => p_load Tryd.isAgg5 h rfl (Cel.stay ro2 (hashC_rest s r n (i := 4 * t + 2) hj8))) fun a h => ?_
      refine any_take (i := 15) rfl (by kernel_rfl) (fun _ _ _ _ h => h) h rfl (fun w h => p_conv Tryd.underlying5 Tryd.underlying73 h rfl (w32_byte _)) fun a h => ?_
      refine any_take (i := 16) rfl (by kernel_rfl) (fun _ _ _ _ h => h) h rfl (fun w h => p_shl h rfl rfl (by omega) (w32_shl _ 8 _ (by omega) (by omega))) fun a h => ?_
      refine any_take (i := 17) rfl (by kernel_rfl) (fun _ _ _ _ h => h) h rfl (fun w h => p_or h rfl rfl (w32_or _ _)) fun a h => ?_
      refine any_take (i := 18) rfl (by kernel_rfl) (fun _ _ _ _ h => h) h rfl (fun w h => p_move h rfl) fun a h => ?_
      refine any_take (i := 19) rfl (by kernel_rfl) (fun _ _ _ _ h => h) h rfl (fun w h => p_indexAddr1 (j := 3) (r := 8 + (4 * t + 3)) Tryd.underlying22 Tryd.sizeOf5 h rfl rfl rfl (by omega) (by omega)) fun a h => ?_
      have hj9 : 4 * t + 3 < r.length := by omega
      refine any_take (i := 20) rfl (by kernel_rfl) (fun _ _ _ _ h => h) h rfl (fun w h => p_load Tryd.isAgg5 h rfl (Cel.stay ro2 (hashC_rest s r n (i := 4 * t + 3) hj9))) fun a h => ?_
      refine any_take (i := 21) rfl (by kernel_rfl) (fun _ _ _ _ h => h) h rfl (fun w h => p_conv Tryd.underlying5 Tryd.underlying73 h rfl (w32_byte _)) fun a h => ?_
      refine any_take (i := 22) rfl (by kernel_rfl) (fun _ _ _ _ h => h) h rfl (fun w h => p_or h rfl rfl (w32_or _ _)) fun a h => ?_
      refine any_take (i := 23) rfl (by kernel_rfl) (fun _ _ _ _ h => h) h rfl (fun w h => p_indexAddrA1 (j := t) (r := t) Tryd.underlying105 Tryd.sizeOf73 h rfl rfl (by omega) (by omega) (by omega)) fun a h => ?_
      refine any_one (i := 24) (by kernel_rfl) ?_
      refine any_N rfl h.env (o_store (kk := 0) (cs' := (wS mg (t + 1)).map U) Tryd.sizeOf73 h rfl rfl rfl rfl rfl (by rw [List.length_map, wS_length]; omega) (wS_set mg (t := t) (by omega) (by rw [wd_lo mg (t := t) (by omega), hm]; rfl))) fun a w h => ?_
      refine any_end (by kernel_rfl) ?_
      refine th_n ?_
      refine c_exit (th_e (exit_at ?_))
      refine th_n ?_
      refine c_region ?_
      refine stepP (p_add h rfl rfl (wi (by omega))) h rfl fun a w h => ?_
      refine stepP (p_move h rfl) h rfl fun a w h => ?_
      refine stepEnd ?_
      exact th_n ⟨_, by omega, t + 1, rfl, by omega, h.to rfl ⟨rfl, rfl, (look_int rfl (by first | rfl | omega)), trivial⟩⟩
    · skip
      refine c_skip ?_
      refine th_n ?_
      refine c_seq ?_
      refine region_quiet (by kernel_rfl) (by kernel_rfl) h ?_
      have he := h.env
      clear h
      refine stepQ he (fun w h => p_move h rfl) rfl fun a he => ?_
      refine stepQ he (fun w h => p_sub (r := ((t - 15 : Nat) : Int)) h rfl rfl ((wi (by omega)).trans (by omega))) rfl fun a he => ?_
      refine stepQ he (fun w h => p_indexAddrA1 (j := (t - 15)) (r := (t - 15)) Tryd.underlying105 Tryd.sizeOf73 h rfl rfl (by omega) (by omega) (by omega)) rfl fun a he => ?_
      have hj10 : t - 15 < t := by omega
      have hj11 : t ≤ 64 := by omega
      refine stepQ he (fun w h => p_load Tryd.isAgg73 h rfl (Cel.own (k := 0) rfl (wS_get mg hj10 hj11))) rfl fun a he => ?_
      refine stepQ he (fun w h => p_move h rfl) rfl fun a he => ?_
      refine stepQ he (fun w h => p_sub (r := ((t - 2 : Nat) : Int)) h rfl rfl ((wi (by omega)).trans (by omega))) rfl fun a he => ?_
      refine stepQ he (fun w h => p_indexAddrA1 (j := (t - 2)) (r := (t - 2)) Tryd.underlying105 Tryd.sizeOf73 h rfl rfl (by omega) (by omega) (by omega)) rfl fun a he => ?_
      have hj12 : t - 2 < t := by omega
      have hj13 : t ≤ 64 := by omega
      refine stepQ he (fun w h => p_load Tryd.isAgg73 h rfl (Cel.own (k := 0) rfl (wS_get mg hj12 hj13))) rfl fun a he => ?_
      refine stepQ he (fun w h => p_assign h rfl) rfl fun a he => ?_
      refine stepQ he (fun w h => p_assign h rfl) rfl fun a he => ?_
      refine stepQEnd he fun w h => ?_
      refine th_n ?_
      refine c_seq ?_
      refine c_region ?_
      refine stepP (p_move h rfl) h rfl fun a w h => ?_
      refine stepV (Enter.opT (o_call Tryd.call91 h rfl) (call_val0 h.own (c_RotateLeft32 h.own.lend0 (x := wd mg (t - 15)) (n := 7) (by decide) (by decide)))) h.env rfl fun a w h => ?_
      refine stepP (p_move h rfl) h rfl fun a w h => ?_
      refine stepV (Enter.opT (o_call Tryd.call91 h rfl) (call_val0 h.own (c_RotateLeft32 h.own.lend0 (x := wd mg (t - 15)) (n := 18) (by decide) (by decide)))) h.env rfl fun a w h => ?_
      refine stepP (p_xor h rfl rfl (w32_xor _ _)) h rfl fun a w h => ?_
      refine stepP (p_move h rfl) h rfl fun a w h => ?_
      refine stepP (p_shr h rfl rfl (by omega) (w32_shr _ 3 _ (by omega) (by omega))) h rfl fun a w h => ?_
      refine stepP (p_xor h rfl rfl (w32_xor _ _)) h rfl fun a w h => ?_
      refine stepP (p_assign h rfl) h rfl fun a w h => ?_
      refine stepEnd ?_
      refine th_n ?_
      refine c_seq ?_
      refine c_region ?_
      refine stepP (p_move h rfl) h rfl fun a w h => ?_
      refine stepV (Enter.opT (o_call Tryd.call91 h rfl) (call_val0 h.own (c_RotateLeft32 h.own.lend0 (x := wd mg (t - 2)) (n := 17) (by decide) (by decide)))) h.env rfl fun a w h => ?_
      refine stepP (p_move h rfl) h rfl fun a w h => ?_
      refine stepV (Enter.opT (o_call Tryd.call91 h rfl) (call_val0 h.own (c_RotateLeft32 h.own.lend0 (x := wd mg (t - 2)) (n := 19) (by decide) (by decide)))) h.env rfl fun a w h => ?_
      refine stepP (p_xor h rfl rfl (w32_xor _ _)) h rfl fun a w h => ?_
      refine stepP (p_move h rfl) h rfl fun a w h => ?_
      refine stepP (p_shr h rfl rfl (by omega) (w32_shr _ 10 _ (by omega) (by omega))) h rfl fun a w h => ?_
      refine stepP (p_xor h rfl rfl (w32_xor _ _)) h rfl fun a w h => ?_
      refine stepP (p_assign h rfl) h rfl fun a w h => ?_
      refine stepEnd ?_
      refine th_n ?_
      refine any_begin (N := 16) (by kernel_rfl) rfl h ?_
      clear h; intro w h
      refine any_take (i := 0) rfl (by kernel_rfl) (fun _ _ _ _ h => h) h rfl (fun w h => p_move h rfl) fun a h => ?_
      refine any_take (i := 1) rfl (by kernel_rfl) (fun _ _ _ _ h => h) h rfl (fun w h => p_move h rfl) fun a h => ?_
      refine any_take (i := 2) rfl (by kernel_rfl) (fun _ _ _ _ h => h) h rfl (fun w h => p_sub (r := ((t - 16 : Nat) : Int)) h rfl rfl ((wi (by omega)).trans (by omega))) fun a h => ?_
      refine any_take (i := 3) rfl (by kernel_rfl) (fun _ _ _ _ h => h) h rfl (fun w h => p_indexAddrA1 (j := (t - 16)) (r := (t - 16)) Tryd.underlying105 Tryd.sizeOf73 h rfl rfl (by omega) (by omega) (by omega)) fun a h => ?_
      refine any_take (i := 5) rfl (by kernel_rfl) (fun _ _ _ _ h => h) h rfl (fun w h => p_move h rfl) fun a h => ?_
      refine any_take (i := 7) rfl (by kernel_rfl) (fun _ _ _ _ h => h) h rfl (fun w h => p_move h rfl) fun a h => ?_
      refine any_take (i := 8) rfl (by kernel_rfl) (fun _ _ _ _ h => h) h rfl (fun w h => p_sub (r := ((t - 7 : Nat) : Int)) h rfl rfl ((wi (by omega)).trans (by omega))) fun a h => ?_
      refine any_take (i := 9) rfl (by kernel_rfl) (fun _ _ _ _ h => h) h rfl (fun w h => p_indexAddrA1 (j := (t - 7)) (r := (t - 7)) Tryd.underlying105 Tryd.sizeOf73 h rfl rfl (by omega) (by omega) (by omega)) fun a h => ?_
      refine any_take (i := 12) rfl (by kernel_rfl) (fun _ _ _ _ h => h) h rfl (fun w h => p_move h rfl) fun a h => ?_
      refine any_all (rs := [4, 10]) (by kernel_rfl) rfl ?_
      intro i hi14
      simp only [List.mem_cons, List.not_mem_nil, or_false] at hi14
      rcases hi14 with rfl | rfl
      · skip
        have hj15 : t - 16 < t := by omega
        have hj16 : t ≤ 64 := by omega
        refine any_V rfl h.env rfl (Pure.opT (p_load Tryd.isAgg73 h rfl (Cel.own (k := 0) rfl (wS_get mg hj15 hj16))) h.own) fun a w h => ?_
        refine any_take (i := 6) rfl (by kernel_rfl) (fun _ _ _ _ h => h) h rfl (fun w h => p_add h rfl rfl (w32_add _ _)) fun a h => ?_
        have hj17 : t - 7 < t := by omega
        have hj18 : t ≤ 64 := by omega
        refine any_one (i := 10) (by kernel_rfl) ?_
        refine any_V rfl h.env rfl (Pure.opT (p_load Tryd.isAgg73 h rfl (Cel.own (k := 0) rfl (wS_get mg hj17 hj18))) h.own) fun a w h => ?_
        refine any_take (i := 11) rfl (by kernel_rfl) (fun _ _ _ _ h => h) h rfl (fun w h => p_add h rfl rfl (w32_add _ _)) fun a h => ?_
        refine any_take (i := 13) rfl (by kernel_rfl) (fun _ _ _ _ h => h) h rfl (fun w h => p_add h rfl rfl (w32_add _ _)) fun a h => ?_
        refine any_take (i := 14) rfl (by kernel_rfl) (fun _ _ _ _ h => h) h rfl (fun w h => p_indexAddrA1 (j := t) (r := t) Tryd.underlying105 Tryd.sizeOf73 h rfl rfl (by omega) (by omega) (by omega)) fun a h => ?_
        refine any_one (i := 15) (by kernel_rfl) ?_
        refine any_N rfl h.env (o_store (kk := 0) (cs' := (wS mg (t + 1)).map U) Tryd.sizeOf73 h rfl rfl rfl rfl rfl (by rw [List.length_map, wS_length]; omega) (wS_set mg (t := t) (by omega) ((wd_hi mg (t := t) (by omega)).symm))) fun a w h => ?_
        refine any_end (by kernel_rfl) ?_
        refine bl_n ?_
        refine th_n ?_
        refine c_region ?_
        refine stepP (p_add h rfl rfl (wi (by omega))) h rfl fun a w h => ?_
        refine stepP (p_move h rfl) h rfl fun a w h => ?_
        refine stepEnd ?_
        exact th_n ⟨_, by omega, t + 1, rfl, by omega, h.to rfl ⟨rfl, rfl, (look_int rfl (by first | rfl | omega)), trivial⟩⟩
      · skip
        have hj19 : t - 7 < t := by omega
        have hj20 : t ≤ 64 := by omega
        refine any_V rfl h.env rfl (Pure.opT (p_load Tryd.isAgg73 h rfl (Cel.own (k := 0) rfl (wS_get mg hj19 hj20))) h.own) fun a w h => ?_
        have hj21 : t - 16 < t := by omega
        have hj22 : t ≤ 64 := by omega
        refine any_one (i := 4) (by kernel_rfl) ?_
        refine any_V rfl h.env rfl (Pure.opT (p_load Tryd.isAgg73 h rfl (Cel.own (k := 0) rfl (wS_get mg hj21 hj22))) h.own) fun a w h => ?_
        refine any_take (i := 6) rfl (by kernel_rfl) (fun _ _ _ _ h => h) h rfl (fun w h => p_add h rfl rfl (w32_add _ _)) fun a h => ?_
        refine any_take (i := 11) rfl (by kernel_rfl) (fun _ _ _ _ h => h) h rfl (fun w h => p_add h rfl rfl (w32_add _ _)) fun a h => ?_
        refine any_take (i := 13) rfl (by kernel_rfl) (fun _ _ _ _ h => h) h rfl (fun w h => p_add h rfl rfl (w32_add _ _)) fun a h => ?_
        refine any_take (i := 14) rfl (by kernel_rfl) (fun _ _ _ _ h => h) h rfl (fun w h => p_indexAddrA1 (j := t) (r := t) Tryd.underlying105 Tryd.sizeOf73 h rfl rfl (by omega) (by omega) (by omega)) fun a h => ?_
        refine any_one (i := 15) (by kernel_rfl) ?_
        refine any_N rfl h.env (o_store (kk := 0) (cs' := (wS mg (t + 1)).map U) Tryd.sizeOf73 h rfl rfl rfl rfl rfl (by rw [List.length_map, wS_length]; omega) (wS_set mg (t := t) (by omega) ((wd_hi mg (t := t) (by omega)).symm))) fun a w h => ?_
        refine any_end (by kernel_rfl) ?_
        refine bl_n ?_
        refine th_n ?_
        refine c_region ?_
        refine stepP (p_add h rfl rfl (wi (by omega))) h rfl fun a w h => ?_
        refine stepP (p_move h rfl) h rfl fun a w h => ?_
        refine stepEnd ?_
        exact th_n ⟨_, by omega, t + 1, rfl, by omega, h.to rfl ⟨rfl, rfl, (look_int rfl (by first | rfl | omega)), trivial⟩⟩
  · skip
    refine c_exit (th_e (th_e (exit_at ?_)))
    refine th_n ?_
    refine c_seq ?_
    obtain rfl : t = 64 := by omega
    refine region_quiet (by kernel_rfl) (by kernel_rfl) h ?_
    have he := h.env
    clear h
    refine stepQ he (fun w h => p_move h rfl) rfl fun a he => ?_
    refine stepQ he (fun w h => p_nilCheck h rfl) rfl fun a he => ?_
    refine stepQ he (fun w h => p_fieldAddr (r := 0) Tryd.underlying116 rfl Tryd.sizeOf107 rfl rfl h rfl) rfl fun a he => ?_
    refine stepQ he (fun w h => p_indexAddrA1 (j := 0) (r := 0) Tryd.underlying107 Tryd.sizeOf73 h rfl rfl (by omega) (by omega) (by omega)) rfl fun a he => ?_
    refine stepQ he (fun w h => p_load Tryd.isAgg73 h rfl (Cel.stay ro2 (hashC_state s r n (i := 0) (by decide)))) rfl fun a he => ?_
    refine stepQ he (fun w h => p_move h rfl) rfl fun a he => ?_
    refine stepQ he (fun w h => p_nilCheck h rfl) rfl fun a he => ?_
    refine stepQ he (fun w h => p_fieldAddr (r := 0) Tryd.underlying116 rfl Tryd.sizeOf107 rfl rfl h rfl) rfl fun a he => ?_
    refine stepQ he (fun w h => p_indexAddrA1 (j := 1) (r := 1) Tryd.underlying107 Tryd.sizeOf73 h rfl rfl (by omega) (by omega) (by omega)) rfl fun a he => ?_
    refine stepQ he (fun w h => p_load Tryd.isAgg73 h rfl (Cel.stay ro2 (hashC_state s r n (i := 1) (by decide)))) rfl fun a he => ?_
    refine stepQ he (fun w h => p_move h rfl) rfl fun a he => ?_
    refine stepQ he (fun w h => p_nilCheck h rfl) rfl fun a he => ?_
    refine stepQ he (fun w h => p_fieldAddr (r := 0) Tryd.underlying116 rfl Tryd.sizeOf107 rfl rfl h rfl) rfl fun a he => ?_
    refine stepQ he (fun w h => p_indexAddrA1 (j := 2) (r := 2) Tryd.underlying107 Tryd.sizeOf73 h rfl rfl (by omega) (by omega) (by omega)) rfl fun a he => ?_
    refine stepQ he (fun w h => p_load Tryd.isAgg73 h rfl (Cel.stay ro2 (hashC_state s r n (i := 2) (by decide)))) rfl fun a he => ?_
    refine stepQ he (fun w h => p_move h rfl) rfl fun a he => ?_
    refine stepQ he (fun w h => p_nilCheck h rfl) rfl fun a he => ?_
    refine stepQ he (fun w h => p_fieldAddr (r := 0) Tryd.underlying116 rfl Tryd.sizeOf107 rfl rfl h rfl) rfl fun a he => ?_
    refine stepQ he (fun w h => p_indexAddrA1 (j := 3) (r := 3) Tryd.underlying107 Tryd.sizeOf73 h rfl rfl (by omega) (by omega) (by omega)) rfl fun a he => ?_
    refine stepQ he (fun w h => p_load Tryd.isAgg73 h rfl (Cel.stay ro2 (hashC_state s r n (i := 3) (by decide)))) rfl fun a he => ?_
    refine stepQ he (fun w h => p_move h rfl) rfl fun a he => ?_
    refine stepQ he (fun w h => p_nilCheck h rfl) rfl fun a he => ?_
    refine stepQ he (fun w h => p_fieldAddr (r := 0) Tryd.underlying116 rfl Tryd.sizeOf107 rfl rfl h rfl) rfl fun a he => ?_
    refine stepQ he (fun w h => p_indexAddrA1 (j := 4) (r := 4) Tryd.underlying107 Tryd.sizeOf73 h rfl rfl (by omega) (by omega) (by omega)) rfl fun a he => ?_
    refine stepQ he (fun w h => p_load Tryd.isAgg73 h rfl (Cel.stay ro2 (hashC_state s r n (i := 4) (by decide)))) rfl fun a he => ?_
    refine stepQ he (fun w h => p_move h rfl) rfl fun a he => ?_
    refine stepQ he (fun w h => p_nilCheck h rfl) rfl fun a he => ?_
    refine stepQ he (fun w h => p_fieldAddr (r := 0) Tryd.underlying116 rfl Tryd.sizeOf107 rfl rfl h rfl) rfl fun a he => ?_
    refine stepQ he (fun w h => p_indexAddrA1 (j := 5) (r := 5) Tryd.underlying107 Tryd.sizeOf73 h rfl rfl (by omega) (by omega) (by omega)) rfl fun a he => ?_
    refine stepQ he (fun w h => p_load Tryd.isAgg73 h rfl (Cel.stay ro2 (hashC_state s r n (i := 5) (by decide)))) rfl fun a he => ?_
    refine stepQ he (fun w h => p_move h rfl) rfl fun a he => ?_
    refine stepQ he (fun w h => p_nilCheck h rfl) rfl fun a he => ?_
    refine stepQ he (fun w h => p_fieldAddr (r := 0) Tryd.underlying116 rfl Tryd.sizeOf107 rfl rfl h rfl) rfl fun a he => ?_
    refine stepQ he (fun w h => p_indexAddrA1 (j := 6) (r := 6) Tryd.underlying107 Tryd.sizeOf73 h rfl rfl (by omega) (by omega) (by omega)) rfl fun a he => ?_
    refine stepQ he (fun w h => p_load Tryd.isAgg73 h rfl (Cel.stay ro2 (hashC_state s r n (i := 6) (by decide)))) rfl fun a he => ?_
    refine stepQ he (fun w h => p_move h rfl) rfl fun a he => ?_
    refine stepQ he (fun w h => p_nilCheck h rfl) rfl fun a he => ?_
    refine stepQ he (fun w h => p_fieldAddr (r := 0) Tryd.underlying116 rfl Tryd.sizeOf107 rfl rfl h rfl) rfl fun a he => ?_
    refine stepQ he (fun w h => p_indexAddrA1 (j := 7) (r := 7) Tryd.underlying107 Tryd.sizeOf73 h rfl rfl (by omega) (by omega) (by omega)) rfl fun a he => ?_
    refine stepQ he (fun w h => p_load Tryd.isAgg73 h rfl (Cel.stay ro2 (hashC_state s r n (i := 7) (by decide)))) rfl fun a he => ?_
    refine stepQ he (fun w h => p_assign h rfl) rfl fun a he => ?_
    refine stepQ he (fun w h => p_assign h rfl) rfl fun a he => ?_
    refine stepQ he (fun w h => p_assign h rfl) rfl fun a he => ?_
    refine stepQ he (fun w h => p_assign h rfl) rfl fun a he => ?_
    refine stepQ he (fun w h => p_assign h rfl) rfl fun a he => ?_
    refine stepQ he (fun w h => p_assign h rfl) rfl fun a he => ?_
    refine stepQ he (fun w h => p_assign h rfl) rfl fun a he => ?_
    refine stepQ he (fun w h => p_assign h rfl) rfl fun a he => ?_
    refine stepQEnd he fun w h => ?_
    refine th_n ?_
    refine c_seq ?_
    refine c_seq ?_
    refine c_region ?_
    refine stepP (p_loadA (vs := ktV) Tryd.isAgg105 (fun w => by rw [Tryd.sizeOf105, ktV_length]) h rfl hk.cels) h rfl fun a w h => ?_
    refine stepP (p_move h rfl) h rfl fun a w h => ?_
    refine stepEnd ?_
    refine th_n ?_
    refine c_block ?_
    refine c_loop (fun m a w => ∃ (t : Nat), m = 64 - t ∧ t ≤ 64 ∧ St S hf1 ([(b3, row 105 ((wS mg 64).map U))]) 230 [(0, ptr b 0), (2, ptr b3 0), (9, .int .u32 (((rnds kt (wd mg) s t).a).toNat : Int)), (10, .int .u32 (((rnds kt (wd mg) s t).b).toNat : Int)), (11, .int .u32 (((rnds kt (wd mg) s t).c).toNat : Int)), (12, .int .u32 (((rnds kt (wd mg) s t).d).toNat : Int)), (13, .int .u32 (((rnds kt (wd mg) s t).e).toNat : Int)), (14, .int .u32 (((rnds kt (wd mg) s t).f).toNat : Int)), (15, .int .u32 (((rnds kt (wd mg) s t).g).toNat : Int)), (16, .int .u32 (((rnds kt (wd mg) s t).h).toNat : Int)), (143, .agg ktV.toArray), (144, .int .i64 ((t : Nat) : Int))] a w) (N := 64 - 0) ⟨0, rfl, by omega, h.to rfl ⟨rfl, rfl, (look_int rfl (by first | rfl | omega)), (look_int rfl (by first | rfl | omega)), (look_int rfl (by first | rfl | omega)), (look_int rfl (by first | rfl | omega)), (look_int rfl (by first | rfl | omega)), (look_int rfl (by first | rfl | omega)), (look_int rfl (by first | rfl | omega)), (look_int rfl (by first | rfl | omega)), rfl, (look_int rfl (by first | rfl | omega)), trivial⟩⟩ ?_
    clear h
    rintro m a w ⟨t, rfl, ht, h⟩
    refine c_seq ?_
    refine c_region ?_
    refine stepP (p_lss h rfl rfl) h rfl fun a w h => ?_
    refine stepEnd ?_
    refine th_n ?_
    refine c_seq ?_
    refine c_cond rfl h (fun hc23 => ?_) (fun hc23 => ?_)
    · skip
      refine c_skip ?_
      refine th_n ?_
      refine c_seq ?_
      refine c_block ?_
      refine c_seq ?_
      refine c_region ?_
      refine stepP (p_move h rfl) h rfl fun a w h => ?_
      refine stepP (p_indexV Tryd.underlying105 Tryd.sizeOf73 Tryd.isAgg73 h rfl rfl rfl (by omega) (ktV_get (t := t) (by omega))) h rfl fun a w h => ?_
      refine stepP (p_assign h rfl) h rfl fun a w h => ?_
      refine stepP (p_assign h rfl) h rfl fun a w h => ?_
      refine stepEnd ?_
      refine th_n ?_
      refine c_seq ?_
      refine c_region ?_
      refine stepP (p_move h rfl) h rfl fun a w h => ?_
      refine stepV (Enter.opT (o_call Tryd.call91 h rfl) (call_val0 h.own (c_RotateLeft32 h.own.lend0 (x := (rnds kt (wd mg) s t).e) (n := 6) (by decide) (by decide)))) h.env rfl fun a w h => ?_
      refine stepP (p_move h rfl) h rfl fun a w h => ?_
      refine stepV (Enter.opT (o_call Tryd.call91 h rfl) (call_val0 h.own (c_RotateLeft32 h.own.lend0 (x := (rnds kt (wd mg) s t).e) (n := 11) (by decide) (by decide)))) h.env rfl fun a w h => ?_
      refine stepP (p_xor h rfl rfl (w32_xor _ _)) h rfl fun a w h => ?_
      refine stepP (p_move h rfl) h rfl fun a w h => ?_
      refine stepV (Enter.opT (o_call Tryd.call91 h rfl) (call_val0 h.own (c_RotateLeft32 h.own.lend0 (x := (rnds kt (wd mg) s t).e) (n := 25) (by decide) (by decide)))) h.env rfl fun a w h => ?_
      refine stepP (p_xor h rfl rfl (w32_xor _ _)) h rfl fun a w h => ?_
      refine stepP (p_assign h rfl) h rfl fun a w h => ?_
      refine stepEnd ?_
      refine th_n ?_
      refine c_seq ?_
      refine c_region ?_
      refine stepP (p_move h rfl) h rfl fun a w h => ?_
      refine stepP (p_move h rfl) h rfl fun a w h => ?_
      refine stepP (p_add h rfl rfl (w32_add _ _)) h rfl fun a w h => ?_
      refine stepP (p_move h rfl) h rfl fun a w h => ?_
      refine stepP (p_move h rfl) h rfl fun a w h => ?_
      refine stepP (p_move h rfl) h rfl fun a w h => ?_
      refine stepP (p_move h rfl) h rfl fun a w h => ?_
      refine stepP (p_xor h rfl rfl (w32_xor _ _)) h rfl fun a w h => ?_
      refine stepP (p_and h rfl rfl (w32_and _ _)) h rfl fun a w h => ?_
      refine stepP (p_xor h rfl rfl (w32_xor _ _)) h rfl fun a w h => ?_
      refine stepP (p_add h rfl rfl (w32_add _ _)) h rfl fun a w h => ?_
      refine stepP (p_move h rfl) h rfl fun a w h => ?_
      refine stepP (p_add h rfl rfl (w32_add _ _)) h rfl fun a w h => ?_
      refine stepP (p_move h rfl) h rfl fun a w h => ?_
      refine stepP (p_indexAddrA1 (j := t) (r := t) Tryd.underlying105 Tryd.sizeOf73 h rfl rfl (by omega) (by omega) (by omega)) h rfl fun a w h => ?_
      refine stepP (p_load Tryd.isAgg73 h rfl (Cel.own (k := 0) rfl (wS_get mg (t := 64) (i := t) (by omega) (by omega)))) h rfl fun a w h => ?_
      refine stepP (p_add h rfl rfl (w32_add _ _)) h rfl fun a w h => ?_
      refine stepP (p_assign h rfl) h rfl fun a w h => ?_
      refine stepEnd ?_
      refine th_n ?_
      refine c_seq ?_
      refine c_region ?_
      refine stepP (p_move h rfl) h rfl fun a w h => ?_
      refine stepV (Enter.opT (o_call Tryd.call91 h rfl) (call_val0 h.own (c_RotateLeft32 h.own.lend0 (x := (rnds kt (wd mg) s t).a) (n := 2) (by decide) (by decide)))) h.env rfl fun a w h => ?_
      refine stepP (p_move h rfl) h rfl fun a w h => ?_
      refine stepV (Enter.opT (o_call Tryd.call91 h rfl) (call_val0 h.own (c_RotateLeft32 h.own.lend0 (x := (rnds kt (wd mg) s t).a) (n := 13) (by decide) (by decide)))) h.env rfl fun a w h => ?_
      refine stepP (p_xor h rfl rfl (w32_xor _ _)) h rfl fun a w h => ?_
      refine stepP (p_move h rfl) h rfl fun a w h => ?_
      refine stepV (Enter.opT (o_call Tryd.call91 h rfl) (call_val0 h.own (c_RotateLeft32 h.own.lend0 (x := (rnds kt (wd mg) s t).a) (n := 22) (by decide) (by decide)))) h.env rfl fun a w h => ?_
      refine stepP (p_xor h rfl rfl (w32_xor _ _)) h rfl fun a w h => ?_
      refine stepP (p_assign h rfl) h rfl fun a w h => ?_
      refine stepEnd ?_
      refine th_n ?_
      refine c_seq ?_
      refine c_region ?_
      refine stepP (p_move h rfl) h rfl fun a w h => ?_
      refine stepP (p_move h rfl) h rfl fun a w h => ?_
      refine stepP (p_move h rfl) h rfl fun a w h => ?_
      refine stepP (p_and h rfl rfl (w32_and _ _)) h rfl fun a w h => ?_
      refine stepP (p_move h rfl) h rfl fun a w h => ?_
      refine stepP (p_move h rfl) h rfl fun a w h => ?_
      refine stepP (p_move h rfl) h rfl fun a w h => ?_
      refine stepP (p_or h rfl rfl (w32_or _ _)) h rfl fun a w h => ?_
      refine stepP (p_and h rfl rfl (w32_and _ _)) h rfl fun a w h => ?_
      refine stepP (p_or h rfl rfl (w32_or _ _)) h rfl fun a w h => ?_
      refine stepP (p_add h rfl rfl (w32_add _ _)) h rfl fun a w h => ?_
      refine stepP (p_assign h rfl) h rfl fun a w h => ?_
      refine stepEnd ?_
      refine th_n ?_
      refine c_region ?_
      refine stepP (p_move h rfl) h rfl fun a w h => ?_
      refine stepP (p_move h rfl) h rfl fun a w h => ?_
      refine stepP (p_move h rfl) h rfl fun a w h => ?_
      refine stepP (p_move h rfl) h rfl fun a w h => ?_
      refine stepP (p_move h rfl) h rfl fun a w h => ?_
      refine stepP (p_add h rfl rfl (w32_add _ _)) h rfl fun a w h => ?_
      refine stepP (p_move h rfl) h rfl fun a w h => ?_
      refine stepP (p_move h rfl) h rfl fun a w h => ?_
      refine stepP (p_move h rfl) h rfl fun a w h => ?_
      refine stepP (p_move h rfl) h rfl fun a w h => ?_
      refine stepP (p_move h rfl) h rfl fun a w h => ?_
      refine stepP (p_add h rfl rfl (w32_add _ _)) h rfl fun a w h => ?_
      refine stepP (p_assign h rfl) h rfl fun a w h => ?_
      refine stepP (p_assign h rfl) h rfl fun a w h => ?_
      refine stepP (p_assign h rfl) h rfl fun a w h => ?_
      refine stepP (p_assign h rfl) h rfl fun a w h => ?_
      refine stepP (p_assign h rfl) h rfl fun a w h => ?_
      refine stepP (p_assign h rfl) h rfl fun a w h => ?_
      refine stepP (p_assign h rfl) h rfl fun a w h => ?_
      refine stepP (p_assign h rfl) h rfl fun a w h => ?_
      refine stepEnd ?_
      refine bl_n ?_
      refine th_n ?_
      refine c_region ?_
      refine stepP (p_add h rfl rfl (wi (by omega))) h rfl fun a w h => ?_
      refine stepP (p_move h rfl) h rfl fun a w h => ?_
      refine stepEnd ?_
      exact th_n ⟨_, by omega, t + 1, rfl, by omega, h.to rfl ⟨rfl, rfl, (look_int rfl (by first | rfl | omega)), (look_int rfl (by first | rfl | omega)), (look_int rfl (by first | rfl | omega)), (look_int rfl (by first | rfl | omega)), (look_int rfl (by first | rfl | omega)), (look_int rfl (by first | rfl | omega)), (look_int rfl (by first | rfl | omega)), (look_int rfl (by first | rfl | omega)), rfl, (look_int rfl (by first | rfl | omega)), trivial⟩⟩
    · skip
      refine c_exit (th_e (th_e (exit_at ?_)))
      refine th_n ?_
      refine c_seq ?_
      obtain rfl : t = 64 := by omega
      replace h := h.re (hbkf1 _ _ h.own)
      obtain ⟨v, hv⟩ : ∃ v, v = rnds kt (wd mg) s 64 := ⟨_, rfl⟩
      refine c_region ?_
      refine stepP (p_move h rfl) h rfl fun a w h => ?_
      refine stepP (p_move h rfl) h rfl fun a w h => ?_
      refine stepP (p_move h rfl) h rfl fun a w h => ?_
      refine stepP (p_move h rfl) h rfl fun a w h => ?_
      refine stepP (p_move h rfl) h rfl fun a w h => ?_
      refine stepP (p_move h rfl) h rfl fun a w h => ?_
      refine stepP (p_move h rfl) h rfl fun a w h => ?_
      refine stepP (p_move h rfl) h rfl fun a w h => ?_
      refine stepP (p_buildA (vs := (rnds kt (wd mg) s 64).list.map U) Tryd.underlying107 Tryd.type107 rfl Tryd.type73 rfl h rfl rfl (onesU _) rfl rfl) h rfl fun a w h => ?_
      refine stepP (p_move h rfl) h rfl fun a w h => ?_
      refine stepEnd ?_
      rw [← hv] at h
      refine th_n ?_
      refine c_block ?_
      refine c_loop (fun m a w => ∃ (j : Nat), m = 8 - j ∧ j ≤ 8 ∧ St S hf ([(b3, row 105 ((wS mg 64).map U))] ++ ([(b, row 116 (hashA s v j r n))])) 230 [(0, ptr b 0), (213, .agg (v.list.map U).toArray), (214, .int .i64 ((j : Nat) : Int))] a w) (N := 8 - 0) ⟨0, rfl, by omega, h.to rfl ⟨rfl, rfl, (look_int rfl (by first | rfl | omega)), trivial⟩⟩ ?_
      clear h
      rintro m a w ⟨j, rfl, hj, h⟩
      refine c_seq ?_
      refine c_region ?_
      refine stepP (p_lss h rfl rfl) h rfl fun a w h => ?_
      refine stepEnd ?_
      refine th_n ?_
      refine c_seq ?_
      refine c_cond rfl h (fun hc24 => ?_) (fun hc24 => ?_)
      · skip
        refine c_skip ?_
        refine th_n ?_
        refine c_seq ?_
        refine c_block ?_
        refine c_seq ?_
        refine c_region ?_
        refine stepP (p_move h rfl) h rfl fun a w h => ?_
        refine stepP (p_indexV Tryd.underlying107 Tryd.sizeOf73 Tryd.isAgg73 h rfl rfl rfl (by omega) (list_get v (j := j) (by omega))) h rfl fun a w h => ?_
        refine stepP (p_assign h rfl) h rfl fun a w h => ?_
        refine stepP (p_assign h rfl) h rfl fun a w h => ?_
        refine stepEnd ?_
        refine th_n ?_
        refine any_begin (N := 12) (by kernel_rfl) rfl h ?_
        clear h; intro w h
        refine any_take (i := 0) rfl (by kernel_rfl) (fun _ _ _ _ h => h) h rfl (fun w h => p_move h rfl) fun a h => ?_
        refine any_take (i := 1) rfl (by kernel_rfl) (fun _ _ _ _ h => h) h rfl (fun w h => p_move h rfl) fun a h => ?_
        refine any_take (i := 6) rfl (by kernel_rfl) (fun _ _ _ _ h => h) h rfl (fun w h => p_move h rfl) fun a h => ?_
        refine any_take (i := 2) rfl (by kernel_rfl) (fun _ _ _ _ h => h) h rfl (fun w h => p_nilCheck h rfl) fun a h => ?_
        refine any_take (i := 3) rfl (by kernel_rfl) (fun _ _ _ _ h => h) h rfl (fun w h => p_fieldAddr (r := 0) Tryd.underlying116 rfl Tryd.sizeOf107 rfl rfl h rfl) fun a h => ?_
        refine any_take (i := 4) rfl (by kernel_rfl) (fun _ _ _ _ h => h) h rfl (fun w h => p_indexAddrA1 (j := j) (r := j) Tryd.underlying107 Tryd.sizeOf73 h rfl rfl (by omega) (by omega) (by omega)) fun a h => ?_
        refine any_take (i := 8) rfl (by kernel_rfl) (fun _ _ _ _ h => h) h rfl (fun w h => p_nilCheck h rfl) fun a h => ?_
        refine any_take (i := 9) rfl (by kernel_rfl) (fun _ _ _ _ h => h) h rfl (fun w h => p_fieldAddr (r := 0) Tryd.underlying116 rfl Tryd.sizeOf107 rfl rfl h rfl) fun a h => ?_
        refine any_one (i := 5) (by kernel_rfl) ?_
        refine any_V rfl h.env rfl (Pure.opT (p_load Tryd.isAgg73 h rfl (Cel.own (k := 1) rfl (hashA_get s v (j := j) r n (by omega)))) h.own) fun a w h => ?_
        refine any_take (i := 7) rfl (by kernel_rfl) (fun _ _ _ _ h => h) h rfl (fun w h => p_add h rfl rfl (w32_add _ _)) fun a h => ?_
        refine any_take (i := 10) rfl (by kernel_rfl) (fun _ _ _ _ h => h) h rfl (fun w h => p_indexAddrA1 (j := j) (r := j) Tryd.underlying107 Tryd.sizeOf73 h rfl rfl (by omega) (by omega) (by omega)) fun a h => ?_
        refine any_one (i := 11) (by kernel_rfl) ?_
        refine any_N rfl h.env (o_store (kk := 1) (cs' := hashA s v (j + 1) r n) Tryd.sizeOf73 h rfl rfl rfl rfl rfl (by rw [hashA_length s v r n (by omega) hr]; omega) (hashA_set s v r n (by omega))) fun a w h => ?_
        refine any_end (by kernel_rfl) ?_
        refine bl_n ?_
        refine th_n ?_
        refine c_region ?_
        refine stepP (p_add h rfl rfl (wi (by omega))) h rfl fun a w h => ?_
        refine stepP (p_move h rfl) h rfl fun a w h => ?_
        refine stepEnd ?_
        exact th_n ⟨_, by omega, j + 1, rfl, by omega, h.to rfl ⟨rfl, rfl, (look_int rfl (by first | rfl | omega)), trivial⟩⟩
      · skip
        refine c_exit (th_e (th_e (exit_at ?_)))
        obtain rfl : j = 8 := by omega
        subst hv hm
        exact fin0 (.inr rfl) h rfl ⟨rfl, h.own.sub (List.sublist_cons_self _ _)⟩

end Go.Proofs.YtkklgmhmhhbjkaaDoor
