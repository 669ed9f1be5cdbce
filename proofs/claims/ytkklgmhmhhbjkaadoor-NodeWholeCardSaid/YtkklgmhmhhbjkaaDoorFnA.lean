/-
  WHAT EACH CALL COMES TO: the functions on bytes that copy and compare. Printed by the own generator (wip/gen), one law of the own library for each operation.
-/
import Derived.Test.YtkklgmhmhhbjkaaDoorKitG
import Derived.Test.YtkklgmhmhhbjkaaDoorProg
namespace Go.Proofs.YtkklgmhmhhbjkaaDoor
open Go Go.Own Go.Proofs
set_option maxRecDepth 100000
set_option linter.unusedVariables false

theorem c_CopyBytes {S : World} {hf : Hp} {w : World} (ho : Owns S hf [] w) {v : Value} {l : List UInt8} (hv : Byts hf v l) (hb : l.length ≤ 281474976710656) :
    Calls Tryd.prog 16 [v].toArray w (Ret S hf (fun b : Nat => slc b 0 l.length l.length) (fun b => [(b, row 5 (l.map B))]) (fun _ => True)) := by
  refine enter (n := 11) (E := [(0, _)]) Tryd.func16 rfl Tryd.ntmps16 rfl rfl ho fun a h => ?_
  refine c_seq ?_
  refine c_region ?_
  refine stepP (p_assign h rfl) h rfl fun a w h => ?_
  refine stepEnd ?_
  refine th_n ?_
  refine c_seq ?_
  refine c_region ?_
  refine stepP (p_move h rfl) h rfl fun a w h => ?_
  refine stepP (p_lenB Tryd.underlying22 h rfl hv) h rfl fun a w h => ?_
  refine stepO (o_make (l := l.length) Tryd.underlying22 Tryd.type5 rfl rfl rfl h rfl rfl (by omega) (by omega) (by show 1 * _ ≤ _; omega) (by unfold maxLen; omega)) h.env rfl ?_
  rintro b1 _ a w h
  refine stepP (p_assign h rfl) h rfl fun a w h => ?_
  refine stepEnd ?_
  refine th_n ?_
  refine c_seq ?_
  refine c_region ?_
  refine stepP (p_move h rfl) h rfl fun a w h => ?_
  refine stepP (p_move h rfl) h rfl fun a w h => ?_
  refine stepV (o_copy (kk := 0) Tryd.underlying22 (by rw [show Tryd.prog.info? 5 = _ from Tryd.type5]; rfl) h rfl rfl rfl hv.src (by simp) (oneB l) (by simp) (cs' := l.map B) (by simp [List.take_of_length_le])) h.env rfl fun a w h => ?_
  refine stepEnd ?_
  refine th_n ?_
  refine c_seq ?_
  refine c_region ?_
  refine stepP (p_move h rfl) h rfl fun a w h => ?_
  refine stepP (p_assign h rfl) h rfl fun a w h => ?_
  refine stepEnd ?_
  refine th_n ?_
  refine c_ret ?_
  exact fin1 (.inl rfl) h rfl rfl ⟨_, rfl, h.own, trivial⟩

theorem c_Compare {S : World} {hf : Hp} {w : World} (ho : Owns S hf [] w) {v u : Value} {l r : List UInt8} (hv : Byts hf v l) (hu : Byts hf u r) :
    Calls Tryd.prog 52 [v, u].toArray w (RetV S hf [] (.int .i64 (cmpB l r))) := by
  have hl1 : (l.length : Int) ≤ 9223372036854775807 := by have := hv.len_le; unfold maxLen at this; omega
  refine enter (n := 46) (E := [(0, _), (1, _)]) Tryd.func52 rfl Tryd.ntmps52 rfl rfl ho fun a h => ?_
  refine c_seq ?_
  refine c_region ?_
  refine stepP (p_assign h rfl) h rfl fun a w h => ?_
  refine stepEnd ?_
  refine th_n ?_
  refine c_seq ?_
  refine c_seq ?_
  refine c_region ?_
  refine stepP (p_assign h rfl) h rfl fun a w h => ?_
  refine stepEnd ?_
  refine th_n ?_
  refine c_block ?_
  refine c_loop (fun m a w => ∃ (i : Nat), m = l.length - i ∧ i ≤ l.length ∧ i ≤ r.length ∧ cmpB l r = cmpB (l.drop i) (r.drop i) ∧ St S hf [] 46 [(0, v), (1, u), (5, .int .i64 ((i : Nat) : Int))] a w) (N := l.length - 0) ⟨0, rfl, Nat.zero_le _, Nat.zero_le _, rfl, h.to rfl ⟨rfl, rfl, (look_int rfl (by first | rfl | omega)), trivial⟩⟩ ?_
  clear h
  rintro m a w ⟨i, rfl, hi1, hi2, hcm, h⟩
  refine c_seq ?_
  refine c_cut (fun a w => St S hf [] 46 [(0, v), (1, u), (5, .int .i64 ((i : Nat) : Int)), (15, .bool (decide (((((i : Nat) : Int) : Int) < ((l.length : Nat) : Int)) ∧ ((((i : Nat) : Int) : Int) < ((r.length : Nat) : Int)))))] a w) ?_ ?_
  · skip
    refine c_region ?_
    refine stepP (p_move h rfl) h rfl fun a w h => ?_
    refine stepP (p_move h rfl) h rfl fun a w h => ?_
    refine stepP (p_lenB Tryd.underlying22 h rfl hv) h rfl fun a w h => ?_
    refine stepP (p_lss h rfl rfl) h rfl fun a w h => ?_
    refine stepP (p_move h rfl) h rfl fun a w h => ?_
    rcases Decidable.em ((((i : Nat) : Int) : Int) < ((l.length : Nat) : Int)) with hb1 | hb1
    · have h := h.bool_of (t := 10) (b' := true) rfl (decide_eq_true hb1)
      refine stepGP rfl rfl rfl rfl (p_move h rfl) h rfl fun a w h => ?_
      refine stepGP rfl rfl rfl rfl (p_move h rfl) h rfl fun a w h => ?_
      refine stepGP rfl rfl rfl rfl (p_lenB Tryd.underlying22 h rfl hu) h rfl fun a w h => ?_
      refine stepGP rfl rfl rfl rfl (p_lss h rfl rfl) h rfl fun a w h => ?_
      refine stepP (p_pickT h rfl rfl) h rfl fun a w h => ?_
      refine stepEnd ?_
      have h := h.bool_of (t := 15) (b' := decide (((((i : Nat) : Int) : Int) < ((l.length : Nat) : Int)) ∧ ((((i : Nat) : Int) : Int) < ((r.length : Nat) : Int)))) rfl (by simp [hb1])
      exact th_n (h.to rfl ⟨rfl, rfl, (look_int rfl (by first | rfl | omega)), rfl, trivial⟩)
    · have h := h.bool_of (t := 10) (b' := false) rfl (decide_eq_false hb1)
      refine stepSkip rfl rfl rfl rfl h rfl fun a w h => ?_
      refine stepSkip rfl rfl rfl rfl h rfl fun a w h => ?_
      refine stepSkip rfl rfl rfl rfl h rfl fun a w h => ?_
      refine stepSkip rfl rfl rfl rfl h rfl fun a w h => ?_
      refine stepP (p_pickF h rfl rfl) h rfl fun a w h => ?_
      refine stepEnd ?_
      have h := h.bool_of (t := 15) (b' := decide (((((i : Nat) : Int) : Int) < ((l.length : Nat) : Int)) ∧ ((((i : Nat) : Int) : Int) < ((r.length : Nat) : Int)))) rfl (by simp [hb1])
      exact th_n (h.to rfl ⟨rfl, rfl, (look_int rfl (by first | rfl | omega)), rfl, trivial⟩)
  · intro a w h
    refine c_cond rfl h (fun hc2 => ?_) (fun hc2 => ?_)
    · skip
      refine c_skip ?_
      refine th_n ?_
      refine c_seq ?_
      refine c_block ?_
      refine c_seq ?_
      refine region_quiet (by kernel_rfl) (by kernel_rfl) h ?_
      have he := h.env
      clear h
      refine stepQ he (fun w h => p_move h rfl) rfl fun a he => ?_
      refine stepQ he (fun w h => p_move h rfl) rfl fun a he => ?_
      refine stepQ he (fun w h => p_idxB Tryd.underlying22 Tryd.sizeOf5 h rfl rfl hv (j := i) (by first | omega | (simp <;> omega)) (by first | omega | (simp <;> omega))) rfl fun a he => ?_
      have hj3 : i < l.length := by omega
      refine stepQ he (fun w h => p_load Tryd.isAgg5 h rfl (hv.cel (List.getElem?_eq_getElem hj3))) rfl fun a he => ?_
      refine stepQ he (fun w h => p_move h rfl) rfl fun a he => ?_
      refine stepQ he (fun w h => p_move h rfl) rfl fun a he => ?_
      refine stepQ he (fun w h => p_idxB Tryd.underlying22 Tryd.sizeOf5 h rfl rfl hu (j := i) (by first | omega | (simp <;> omega)) (by first | omega | (simp <;> omega))) rfl fun a he => ?_
      have hj4 : i < r.length := by omega
      refine stepQ he (fun w h => p_load Tryd.isAgg5 h rfl (hu.cel (List.getElem?_eq_getElem hj4))) rfl fun a he => ?_
      refine stepQ he (fun w h => p_neq h rfl rfl) rfl fun a he => ?_
      refine stepQEnd he fun w h => ?_
      refine th_n ?_
      refine c_cond rfl h (fun hc5 => ?_) (fun hc5 => ?_)
      · skip
        refine c_seq ?_
        refine c_seq ?_
        refine region_quiet (by kernel_rfl) (by kernel_rfl) h ?_
        have he := h.env
        clear h
        refine stepQ he (fun w h => p_move h rfl) rfl fun a he => ?_
        refine stepQ he (fun w h => p_move h rfl) rfl fun a he => ?_
        refine stepQ he (fun w h => p_idxB Tryd.underlying22 Tryd.sizeOf5 h rfl rfl hv (j := i) (by first | omega | (simp <;> omega)) (by first | omega | (simp <;> omega))) rfl fun a he => ?_
        have hj6 : i < l.length := by omega
        refine stepQ he (fun w h => p_load Tryd.isAgg5 h rfl (hv.cel (List.getElem?_eq_getElem hj6))) rfl fun a he => ?_
        refine stepQ he (fun w h => p_move h rfl) rfl fun a he => ?_
        refine stepQ he (fun w h => p_move h rfl) rfl fun a he => ?_
        refine stepQ he (fun w h => p_idxB Tryd.underlying22 Tryd.sizeOf5 h rfl rfl hu (j := i) (by first | omega | (simp <;> omega)) (by first | omega | (simp <;> omega))) rfl fun a he => ?_
        have hj7 : i < r.length := by omega
        refine stepQ he (fun w h => p_load Tryd.isAgg5 h rfl (hu.cel (List.getElem?_eq_getElem hj7))) rfl fun a he => ?_
        refine stepQ he (fun w h => p_lss h rfl rfl) rfl fun a he => ?_
        refine stepQEnd he fun w h => ?_
        refine th_n ?_
        refine c_cond rfl h (fun hc8 => ?_) (fun hc8 => ?_)
        · skip
          refine c_seq ?_
          refine c_region ?_
          refine stepP (p_assign h rfl) h rfl fun a w h => ?_
          refine stepEnd ?_
          refine th_n ?_
          refine c_ret (th_r (bl_r (th_r (th_r (bl_r (th_r ?_))))))
          exact fin1 (.inl rfl) h rfl rfl ⟨by rw [cmpB_ne (by omega) (by omega) hcm hc5 hc8], h.own⟩
        · skip
          refine c_skip ?_
          refine th_n ?_
          refine c_seq ?_
          refine c_region ?_
          refine stepP (p_assign h rfl) h rfl fun a w h => ?_
          refine stepEnd ?_
          refine th_n ?_
          refine c_ret (bl_r (th_r (th_r (bl_r (th_r ?_)))))
          exact fin1 (.inl rfl) h rfl rfl ⟨by rw [cmpB_ne' (by omega) (by omega) hcm hc5 hc8], h.own⟩
      · skip
        refine c_skip ?_
        refine bl_n ?_
        refine th_n ?_
        refine c_region ?_
        refine stepP (p_move h rfl) h rfl fun a w h => ?_
        refine stepP (p_add h rfl rfl (wi (by omega))) h rfl fun a w h => ?_
        refine stepP (p_assign h rfl) h rfl fun a w h => ?_
        refine stepEnd ?_
        exact th_n ⟨_, by omega, i + 1, rfl, by omega, by omega, (cmpB_go (by omega) (by omega) hcm hc5), h.to rfl ⟨rfl, rfl, (look_int rfl (by first | rfl | omega)), trivial⟩⟩
    · skip
      refine c_exit (th_e (th_e (exit_at ?_)))
      refine th_n ?_
      refine c_seq ?_
      refine c_seq ?_
      refine c_region ?_
      refine stepP (p_move h rfl) h rfl fun a w h => ?_
      refine stepP (p_lenB Tryd.underlying22 h rfl hv) h rfl fun a w h => ?_
      refine stepP (p_move h rfl) h rfl fun a w h => ?_
      refine stepP (p_lenB Tryd.underlying22 h rfl hu) h rfl fun a w h => ?_
      refine stepP (p_lss h rfl rfl) h rfl fun a w h => ?_
      refine stepEnd ?_
      refine th_n ?_
      refine c_cond rfl h (fun hc9 => ?_) (fun hc9 => ?_)
      · skip
        refine c_seq ?_
        refine c_region ?_
        refine stepP (p_assign h rfl) h rfl fun a w h => ?_
        refine stepEnd ?_
        refine th_n ?_
        refine c_ret (th_r ?_)
        exact fin1 (.inl rfl) h rfl rfl ⟨by rw [cmpB_end_lt hcm hi1 hi2 hc2 hc9], h.own⟩
      · skip
        refine c_skip ?_
        refine th_n ?_
        refine c_seq ?_
        refine c_seq ?_
        refine c_region ?_
        refine stepP (p_move h rfl) h rfl fun a w h => ?_
        refine stepP (p_lenB Tryd.underlying22 h rfl hv) h rfl fun a w h => ?_
        refine stepP (p_move h rfl) h rfl fun a w h => ?_
        refine stepP (p_lenB Tryd.underlying22 h rfl hu) h rfl fun a w h => ?_
        refine stepP (p_gtr h rfl rfl) h rfl fun a w h => ?_
        refine stepEnd ?_
        refine th_n ?_
        refine c_cond rfl h (fun hc10 => ?_) (fun hc10 => ?_)
        · skip
          refine c_seq ?_
          refine c_region ?_
          refine stepP (p_assign h rfl) h rfl fun a w h => ?_
          refine stepEnd ?_
          refine th_n ?_
          refine c_ret (th_r ?_)
          exact fin1 (.inl rfl) h rfl rfl ⟨by rw [cmpB_end_gt hcm hi1 hi2 hc2 hc10], h.own⟩
        · skip
          refine c_skip ?_
          refine th_n ?_
          refine c_seq ?_
          refine c_region ?_
          refine stepP (p_assign h rfl) h rfl fun a w h => ?_
          refine stepEnd ?_
          refine th_n ?_
          refine c_ret ?_
          exact fin1 (.inl rfl) h rfl rfl ⟨by rw [cmpB_end_eq hcm hi1 hi2 hc2 hc9 hc10], h.own⟩

theorem c_SameBytes {S : World} {hf : Hp} {w : World} (ho : Owns S hf [] w) {v u : Value} {l r : List UInt8} (hv : Byts hf v l) (hu : Byts hf u r) :
    Calls Tryd.prog 17 [v, u].toArray w (RetV S hf [] (.bool (decide (l = r)))) := by
  refine enter (n := 9) (E := [(0, _), (1, _)]) Tryd.func17 rfl Tryd.ntmps17 rfl rfl ho fun a h => ?_
  refine c_seq ?_
  refine c_region ?_
  refine stepP (p_assign h rfl) h rfl fun a w h => ?_
  refine stepEnd ?_
  refine th_n ?_
  refine c_seq ?_
  refine c_region ?_
  refine stepP (p_move h rfl) h rfl fun a w h => ?_
  refine stepP (p_move h rfl) h rfl fun a w h => ?_
  refine stepV (Enter.opT (o_call Tryd.call52 h rfl) (call_val0 h.own (c_Compare h.own.lend0 (hv.mono h.own.le0) (hu.mono h.own.le0)))) h.env rfl fun a w h => ?_
  refine stepP (p_eql h rfl rfl) h rfl fun a w h => ?_
  refine stepP (p_assign h rfl) h rfl fun a w h => ?_
  refine stepEnd ?_
  refine th_n ?_
  refine c_ret ?_
  exact fin1 (.inl rfl) h rfl rfl ⟨by simp [cmpB_zero], h.own⟩

theorem c_Roomy {S : World} {hf : Hp} {w : World} (ho : Owns S hf [] w) {v : Value} {l : List UInt8} (hv : Byts hf v l) (hb : l.length ≤ 140737488351232) :
    Calls Tryd.prog 10 [v].toArray w (Ret S hf (fun y : Nat × Nat × List Value => .tuple #[slc y.1 0 l.length y.2.1, slc y.1 0 (l.length + 2) y.2.1]) (fun y => [(y.1, row 5 ((l ++ [165, 90]).map B ++ y.2.2))]) (fun y => l.length + 2 ≤ y.2.1 ∧ y.2.1 ≤ maxLen ∧ ((l ++ [165, 90]).map B ++ y.2.2).length = y.2.1 * 1)) := by
  refine enter (n := 14) (E := [(0, _)]) Tryd.func10 rfl Tryd.ntmps10 rfl rfl ho fun a h => ?_
  refine c_seq ?_
  refine c_region ?_
  refine stepP (p_assign h rfl) h rfl fun a w h => ?_
  refine stepP (p_assign h rfl) h rfl fun a w h => ?_
  refine stepEnd ?_
  refine th_n ?_
  refine c_seq ?_
  refine c_region ?_
  refine stepP (p_move h rfl) h rfl fun a w h => ?_
  refine stepO (Enter.opT (o_call Tryd.call16 h rfl) (call_out0 h.own (c_CopyBytes h.own.lend0 (hv.mono h.own.le0) (by omega)))) h.env rfl ?_
  rintro b1 _ a w h
  refine stepO (o_buildSlice Tryd.underlying22 Tryd.sizeOf5 Tryd.zeroValue5 h rfl rfl (by simp [Value.cells]) rfl rfl rfl) h.env rfl ?_
  rintro b2 _ a w h
  refine stepO (o_appendK (kk := 1) (s := 1) (xs := (l).map B) (rest := []) (news := ([165, 90]).map B) (ys := (l ++ [165, 90]).map B) Tryd.underlying22 Tryd.type5 rfl rfl rfl (by decide) h rfl rfl (by simp) (by simp) (by simp <;> omega) (by unfold maxLen; omega) (by simp <;> omega) rfl (.inr ⟨_, _, _, rfl, Cels.all (k := 0) rfl⟩) (by simp) (oneB _) (by unfold maxLen; omega) (by show _ * 1 ≤ _; omega) (by simp)) h.env rfl ?_
  rintro ⟨b3, cap4, rest5⟩ ⟨hc6, hc7, hc8⟩ a w h
  refine stepP (p_assign h rfl) h rfl fun a w h => ?_
  refine stepEnd ?_
  refine th_n ?_
  refine c_seq ?_
  refine c_region ?_
  refine stepP (p_move h rfl) h rfl fun a w h => ?_
  refine stepP (p_move h rfl) h rfl fun a w h => ?_
  refine stepP (p_lenB Tryd.underlying22 h rfl hv) h rfl fun a w h => ?_
  refine stepP (p_sliceHead (q := l.length) Tryd.underlying22 Tryd.sizeOf5 h rfl rfl rfl (by omega)) h rfl fun a w h => ?_
  refine stepP (p_move h rfl) h rfl fun a w h => ?_
  refine stepP (p_assign h rfl) h rfl fun a w h => ?_
  refine stepP (p_assign h rfl) h rfl fun a w h => ?_
  refine stepEnd ?_
  refine th_n ?_
  refine c_ret ?_
  exact fin2 (.inl rfl) h rfl rfl rfl ⟨(_, _, _), rfl, h.own.sub (by simp), by assumption, by assumption, by assumption⟩

theorem c_Untouched {S : World} {hf : Hp} {w : World} (ho : Owns S hf [] w) {v u : Value} {l r : List UInt8} (hv : Byts hf v l) (hu : Byts hf u r) (hb : r.length ≤ 140737488351232) :
    Calls Tryd.prog 15 [v, u].toArray w (RetV S hf [] (.bool (decide (l = r ++ [165, 90])))) := by
  have hl1 : (l.length : Int) ≤ 9223372036854775807 := by have := hv.len_le; unfold maxLen at this; omega
  refine enter (n := 35) (E := [(0, _), (1, _)]) Tryd.func15 rfl Tryd.ntmps15 rfl rfl ho fun a h => ?_
  refine c_seq ?_
  refine c_region ?_
  refine stepP (p_assign h rfl) h rfl fun a w h => ?_
  refine stepEnd ?_
  refine th_n ?_
  refine c_seq ?_
  refine c_region ?_
  refine stepP (p_move h rfl) h rfl fun a w h => ?_
  refine stepP (p_lenB Tryd.underlying22 h rfl hu) h rfl fun a w h => ?_
  refine stepP (p_assign h rfl) h rfl fun a w h => ?_
  refine stepEnd ?_
  refine th_n ?_
  refine c_seq ?_
  refine c_region ?_
  refine stepP (p_move h rfl) h rfl fun a w h => ?_
  refine stepP (p_lenB Tryd.underlying22 h rfl hv) h rfl fun a w h => ?_
  refine stepP (p_move h rfl) h rfl fun a w h => ?_
  refine stepP (p_add h rfl rfl (wi (by omega))) h rfl fun a w h => ?_
  refine stepP (p_eql h rfl rfl) h rfl fun a w h => ?_
  refine stepP (p_move h rfl) h rfl fun a w h => ?_
  rcases Decidable.em ((((l.length : Nat) : Int) : Int) = ((r.length : Nat) : Int) + 2) with hb1 | hb1
  · have h := h.bool_of (t := 13) (b' := true) rfl (decide_eq_true hb1)
    refine stepGP rfl rfl rfl rfl (p_move h rfl) h rfl fun a w h => ?_
    refine stepGP rfl rfl rfl rfl (p_move h rfl) h rfl fun a w h => ?_
    have hq2 : l.length = r.length + 2 := by omega
    have hshq2 : Byts hf (subS v 1 0 r.length) (l.take r.length) := by simpa using hv.sub (lo := 0) (hi := r.length) (by omega) (by omega)
    refine stepGP rfl rfl rfl rfl (p_sliceB (q := r.length) Tryd.underlying22 Tryd.sizeOf5 h rfl rfl hv rfl (by omega)) h rfl fun a w h => ?_
    refine stepGP rfl rfl rfl rfl (p_move h rfl) h rfl fun a w h => ?_
    refine stepGV rfl rfl rfl rfl (Enter.opT (o_call Tryd.call17 h rfl) (call_val0 h.own (c_SameBytes h.own.lend0 (hshq2.mono h.own.le0) (hu.mono h.own.le0)))) h rfl fun a w h => ?_
    refine stepP (p_pickT h rfl rfl) h rfl fun a w h => ?_
    refine stepP (p_move h rfl) h rfl fun a w h => ?_
    rcases Decidable.em ((l.take r.length) = r) with hb3 | hb3
    · have h := h.bool_of (t := 20) (b' := true) rfl (decide_eq_true hb3)
      refine stepGP rfl rfl rfl rfl (p_move h rfl) h rfl fun a w h => ?_
      refine stepGP rfl rfl rfl rfl (p_move h rfl) h rfl fun a w h => ?_
      refine stepGP rfl rfl rfl rfl (p_idxB Tryd.underlying22 Tryd.sizeOf5 h rfl rfl hv (j := r.length) (by first | omega | (simp <;> omega)) (by first | omega | (simp <;> omega))) h rfl fun a w h => ?_
      have hj4 : r.length < l.length := by omega
      refine stepGP rfl rfl rfl rfl (p_load Tryd.isAgg5 h rfl (hv.cel (List.getElem?_eq_getElem hj4))) h rfl fun a w h => ?_
      refine stepGP rfl rfl rfl rfl (p_eql h rfl rfl) h rfl fun a w h => ?_
      refine stepP (p_pickT h rfl rfl) h rfl fun a w h => ?_
      refine stepP (p_move h rfl) h rfl fun a w h => ?_
      rcases Decidable.em ((((l[r.length]'hj4).toNat : Int) : Int) = 165) with hb5 | hb5
      · have h := h.bool_of (t := 27) (b' := true) rfl (decide_eq_true hb5)
        refine stepGP rfl rfl rfl rfl (p_move h rfl) h rfl fun a w h => ?_
        refine stepGP rfl rfl rfl rfl (p_move h rfl) h rfl fun a w h => ?_
        refine stepGP rfl rfl rfl rfl (p_add h rfl rfl (wi (by omega))) h rfl fun a w h => ?_
        refine stepGP rfl rfl rfl rfl (p_idxB Tryd.underlying22 Tryd.sizeOf5 h rfl rfl hv (j := r.length + 1) (by first | omega | (simp <;> omega)) (by first | omega | (simp <;> omega))) h rfl fun a w h => ?_
        have hj6 : r.length + 1 < l.length := by omega
        refine stepGP rfl rfl rfl rfl (p_load Tryd.isAgg5 h rfl (hv.cel (List.getElem?_eq_getElem hj6))) h rfl fun a w h => ?_
        refine stepGP rfl rfl rfl rfl (p_eql h rfl rfl) h rfl fun a w h => ?_
        refine stepP (p_pickT h rfl rfl) h rfl fun a w h => ?_
        refine stepP (p_assign h rfl) h rfl fun a w h => ?_
        refine stepEnd ?_
        refine th_n ?_
        refine c_ret ?_
        exact fin1 (.inl rfl) h rfl rfl ⟨congrArg (fun b => Ending.returned (.bool b)) (unt_4 hb1 hb3 (by omega) hb5 (by omega)), h.own⟩
      · have h := h.bool_of (t := 27) (b' := false) rfl (decide_eq_false hb5)
        refine stepSkip rfl rfl rfl rfl h rfl fun a w h => ?_
        refine stepSkip rfl rfl rfl rfl h rfl fun a w h => ?_
        refine stepSkip rfl rfl rfl rfl h rfl fun a w h => ?_
        refine stepSkip rfl rfl rfl rfl h rfl fun a w h => ?_
        refine stepSkip rfl rfl rfl rfl h rfl fun a w h => ?_
        refine stepSkip rfl rfl rfl rfl h rfl fun a w h => ?_
        refine stepP (p_pickF h rfl rfl) h rfl fun a w h => ?_
        refine stepP (p_assign h rfl) h rfl fun a w h => ?_
        refine stepEnd ?_
        refine th_n ?_
        refine c_ret ?_
        exact fin1 (.inl rfl) h rfl rfl ⟨congrArg (fun b => Ending.returned (.bool b)) (unt_3 (by omega) hb5), h.own⟩
    · have h := h.bool_of (t := 20) (b' := false) rfl (decide_eq_false hb3)
      refine stepSkip rfl rfl rfl rfl h rfl fun a w h => ?_
      refine stepSkip rfl rfl rfl rfl h rfl fun a w h => ?_
      refine stepSkip rfl rfl rfl rfl h rfl fun a w h => ?_
      refine stepSkip rfl rfl rfl rfl h rfl fun a w h => ?_
      refine stepSkip rfl rfl rfl rfl h rfl fun a w h => ?_
      refine stepP (p_pickF h rfl rfl) h rfl fun a w h => ?_
      refine stepP (p_move h rfl) h rfl fun a w h => ?_
      refine stepSkip rfl rfl rfl rfl h rfl fun a w h => ?_
      refine stepSkip rfl rfl rfl rfl h rfl fun a w h => ?_
      refine stepSkip rfl rfl rfl rfl h rfl fun a w h => ?_
      refine stepSkip rfl rfl rfl rfl h rfl fun a w h => ?_
      refine stepSkip rfl rfl rfl rfl h rfl fun a w h => ?_
      refine stepSkip rfl rfl rfl rfl h rfl fun a w h => ?_
      refine stepP (p_pickF h rfl rfl) h rfl fun a w h => ?_
      refine stepP (p_assign h rfl) h rfl fun a w h => ?_
      refine stepEnd ?_
      refine th_n ?_
      refine c_ret ?_
      exact fin1 (.inl rfl) h rfl rfl ⟨congrArg (fun b => Ending.returned (.bool b)) (unt_2 hb3), h.own⟩
  · have h := h.bool_of (t := 13) (b' := false) rfl (decide_eq_false hb1)
    refine stepSkip rfl rfl rfl rfl h rfl fun a w h => ?_
    refine stepSkip rfl rfl rfl rfl h rfl fun a w h => ?_
    refine stepSkip rfl rfl rfl rfl h rfl fun a w h => ?_
    refine stepSkip rfl rfl rfl rfl h rfl fun a w h => ?_
    refine stepSkip rfl rfl rfl rfl h rfl fun a w h => ?_
    refine stepP (p_pickF h rfl rfl) h rfl fun a w h => ?_
    refine stepP (p_move h rfl) h rfl fun a w h => ?_
    refine stepSkip rfl rfl rfl rfl h rfl fun a w h => ?_
    refine stepSkip rfl rfl rfl rfl h rfl fun a w h => ?_
    refine stepSkip rfl rfl rfl rfl h rfl fun a w h => ?_
    refine stepSkip rfl rfl rfl rfl h rfl fun a w h => ?_
    refine stepSkip rfl rfl rfl rfl h rfl fun a w h => ?_
    refine stepP (p_pickF h rfl rfl) h rfl fun a w h => ?_
    refine stepP (p_move h rfl) h rfl fun a w h => ?_
    refine stepSkip rfl rfl rfl rfl h rfl fun a w h => ?_
    refine stepSkip rfl rfl rfl rfl h rfl fun a w h => ?_
    refine stepSkip rfl rfl rfl rfl h rfl fun a w h => ?_
    refine stepSkip rfl rfl rfl rfl h rfl fun a w h => ?_
    refine stepSkip rfl rfl rfl rfl h rfl fun a w h => ?_
    refine stepSkip rfl rfl rfl rfl h rfl fun a w h => ?_
    refine stepP (p_pickF h rfl rfl) h rfl fun a w h => ?_
    refine stepP (p_assign h rfl) h rfl fun a w h => ?_
    refine stepEnd ?_
    refine th_n ?_
    refine c_ret ?_
    exact fin1 (.inl rfl) h rfl rfl ⟨congrArg (fun b => Ending.returned (.bool b)) (unt_1 hb1), h.own⟩

end Go.Proofs.YtkklgmhmhhbjkaaDoor
