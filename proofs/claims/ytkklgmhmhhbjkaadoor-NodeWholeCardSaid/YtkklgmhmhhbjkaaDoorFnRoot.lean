/-
  WHAT EACH CALL COMES TO: root labels. Printed by the own generator (wip/gen), one law of the own library for each operation.
-/
import Derived.Test.YtkklgmhmhhbjkaaDoorKitU
import Derived.Test.YtkklgmhmhhbjkaaDoorProg
import Derived.Test.YtkklgmhmhhbjkaaDoorFnA
import Derived.Test.YtkklgmhmhhbjkaaDoorFnHei
import Derived.Test.YtkklgmhmhhbjkaaDoorFnTow
import Derived.Test.YtkklgmhmhhbjkaaDoorFnLab
import Derived.Test.YtkklgmhmhhbjkaaDoorFnHang
namespace Go.Proofs.YtkklgmhmhhbjkaaDoor
open Go Go.Own Go.Proofs
set_option maxRecDepth 100000
set_option linter.unusedVariables false

set_option maxHeartbeats 1000000 in
theorem c_nRoot {S : World} {hf : Hp} {w : World} (ho : Owns S hf [] w) {es : List EntP} {v : Value} {evs : List EntV} (hes : EntsOk hf es v evs) (hbn : es.length * 48 ≤ 140737488355328) (htg : TagsAt 0 hf) (hk : RoundsAt 3 hf) (hf1 : FirstAt 1 hf) :
    Calls Tryd.prog 38 [v].toArray w (RetV S hf [] (.tuple #[sumV (rootP es), .int .i64 (fitP es)])) := by
  have hmany := hes.many
  refine enter (n := 62) (E := [(0, _)]) Tryd.func38 rfl Tryd.ntmps38 rfl rfl ho fun a h => ?_
  refine c_seq ?_
  refine c_region ?_
  refine stepO (o_alloc (l := List.replicate 32 (.int .u8 0)) Tryd.zeroValue25 rfl h) h.env rfl ?_
  rintro b1 _ a w h
  refine stepP (p_assign h rfl) h rfl fun a w h => ?_
  refine stepEnd ?_
  refine th_n ?_
  refine c_seq ?_
  refine c_region ?_
  refine stepP (p_move h rfl) h rfl fun a w h => ?_
  refine stepP (p_lenS Tryd.underlying57 h rfl hes.sl) h rfl fun a w h => ?_
  refine stepO (o_make (l := es.length) Tryd.underlying87 Tryd.type3 rfl rfl rfl h rfl rfl (by omega) (by omega) (by show 8 * _ ≤ _; omega) (by unfold maxLen; omega)) h.env rfl ?_
  rintro b2 _ a w h
  refine stepP (p_assign h rfl) h rfl fun a w h => ?_
  refine stepEnd ?_
  refine th_n ?_
  refine c_seq ?_
  refine c_seq ?_
  refine c_region ?_
  refine stepP (p_move h rfl) h rfl fun a w h => ?_
  refine stepP (p_lenS Tryd.underlying57 h rfl hes.sl) h rfl fun a w h => ?_
  refine stepP (p_move h rfl) h rfl fun a w h => ?_
  refine stepEnd ?_
  rw [← hS_zero] at h
  refine th_n ?_
  refine c_block ?_
  refine c_loop (fun m a w => ∃ (i : Nat), m = es.length - i ∧ i ≤ es.length ∧ (∀ j, j < i → entOk es j) ∧ St S hf ([(b2, row 3 (hS es i))] ++ ([(b1, row 25 (List.replicate 32 (.int .u8 0)))])) 62 [(0, v), (2, ptr b1 0), (4, slc b2 0 es.length es.length), (11, v), (12, .int .i64 ((es.length : Nat) : Int)), (13, .int .i64 ((i : Nat) : Int))] a w) (N := es.length - 0) ⟨0, rfl, by omega, fun j h => absurd h (Nat.not_lt_zero _), h.to rfl ⟨rfl, rfl, rfl, rfl, (look_int rfl (by first | rfl | omega)), (look_int rfl (by first | rfl | omega)), trivial⟩⟩ ?_
  clear h
  rintro m a w ⟨i, rfl, hi, hok, h⟩
  refine c_seq ?_
  refine c_region ?_
  refine stepP (p_lss h rfl rfl) h rfl fun a w h => ?_
  refine stepEnd ?_
  refine th_n ?_
  refine c_seq ?_
  refine c_cond rfl h (fun hc3 => ?_) (fun hc3 => ?_)
  · skip
    refine c_skip ?_
    refine th_n ?_
    refine c_seq ?_
    refine c_block ?_
    refine c_seq ?_
    refine c_region ?_
    refine stepP (p_move h rfl) h rfl fun a w h => ?_
    have hi4 : i < es.length := by omega
    refine stepP (p_idxS (s := 2) (j := i) Tryd.underlying57 Tryd.sizeOf65 h rfl rfl hes.sl (by omega) hi4) h rfl fun a w h => ?_
    refine stepP (p_loadA (vs := [(evAt evs i).1, (evAt evs i).2]) Tryd.isAgg65 Tryd.sizeOf65 h rfl (hes.cels hi4)) h rfl fun a w h => ?_
    refine stepO (o_alloc (l := [nilS, nilS]) Tryd.zeroValue65 rfl h) h.env rfl ?_
    rintro b5 _ a w h
    refine stepP (p_assign h rfl) h rfl fun a w h => ?_
    refine stepN (o_storeA (kk := 0) (vs := [(evAt evs i).1, (evAt evs i).2]) (cs' := [(evAt evs i).1, (evAt evs i).2]) Tryd.sizeOf65 h rfl rfl rfl (by intro u hu; simp only [List.mem_cons, List.not_mem_nil, or_false] at hu; rcases hu with rfl | rfl; exact ((hes.key hi4)).one; exact ((hes.val hi4)).one) rfl (by simp) rfl) h.env fun a w h => ?_
    refine stepEnd ?_
    have hil : i < es.length := by omega
    refine th_n ?_
    refine c_seq ?_
    refine c_cut (fun a w => St S hf ([(b5, row 65 ([(evAt evs i).1, (evAt evs i).2]))] ++ ([(b2, row 3 (hS es i))] ++ ([(b1, row 25 (List.replicate 32 (.int .u8 0)))]))) 62 [(0, v), (2, ptr b1 0), (4, slc b2 0 es.length es.length), (5, .int .i64 ((i : Nat) : Int)), (6, ptr b5 0), (11, v), (12, .int .i64 ((es.length : Nat) : Int)), (13, .int .i64 ((i : Nat) : Int)), (27, .bool (decide (((1024 : Int) < ((((entAt es i).key).length : Nat) : Int)) ∨ ((65536 : Int) < ((((entAt es i).val).length : Nat) : Int)))))] a w) ?_ ?_
    · skip
      refine c_region ?_
      refine stepP (p_fieldAddr (r := 0) Tryd.underlying65 rfl Tryd.sizeOf22 rfl rfl h rfl) h rfl fun a w h => ?_
      refine stepP (p_load (v := (evAt evs i).1) Tryd.isAgg22 h rfl (Cel.own (k := 0) rfl rfl)) h rfl fun a w h => ?_
      refine stepP (p_lenB Tryd.underlying22 h rfl (hes.key hi4)) h rfl fun a w h => ?_
      refine stepP (p_gtr h rfl rfl) h rfl fun a w h => ?_
      refine stepP (p_move h rfl) h rfl fun a w h => ?_
      rcases Decidable.em ((1024 : Int) < ((((entAt es i).key).length : Nat) : Int)) with hb6 | hb6
      · have h := h.bool_of (t := 22) (b' := true) rfl (decide_eq_true hb6)
        refine stepSkip rfl rfl rfl rfl h rfl fun a w h => ?_
        refine stepSkip rfl rfl rfl rfl h rfl fun a w h => ?_
        refine stepSkip rfl rfl rfl rfl h rfl fun a w h => ?_
        refine stepSkip rfl rfl rfl rfl h rfl fun a w h => ?_
        refine stepP (p_pickT h rfl rfl) h rfl fun a w h => ?_
        refine stepEnd ?_
        have h := h.bool_of (t := 27) (b' := decide (((1024 : Int) < ((((entAt es i).key).length : Nat) : Int)) ∨ ((65536 : Int) < ((((entAt es i).val).length : Nat) : Int)))) rfl (by first | (simp [hb6]; done) | grind)
        exact th_n (h.to rfl ⟨rfl, rfl, rfl, (look_int rfl (by first | rfl | omega)), rfl, rfl, (look_int rfl (by first | rfl | omega)), (look_int rfl (by first | rfl | omega)), rfl, trivial⟩)
      · have h := h.bool_of (t := 22) (b' := false) rfl (decide_eq_false hb6)
        refine stepGP rfl rfl rfl rfl (p_fieldAddr (r := 1) Tryd.underlying65 rfl Tryd.sizeOf22 rfl rfl h rfl) h rfl fun a w h => ?_
        refine stepGP rfl rfl rfl rfl (p_load (v := (evAt evs i).2) Tryd.isAgg22 h rfl (Cel.own (k := 0) rfl rfl)) h rfl fun a w h => ?_
        refine stepGP rfl rfl rfl rfl (p_lenB Tryd.underlying22 h rfl (hes.val hi4)) h rfl fun a w h => ?_
        refine stepGP rfl rfl rfl rfl (p_gtr h rfl rfl) h rfl fun a w h => ?_
        refine stepP (p_pickF h rfl rfl) h rfl fun a w h => ?_
        refine stepEnd ?_
        have h := h.bool_of (t := 27) (b' := decide (((1024 : Int) < ((((entAt es i).key).length : Nat) : Int)) ∨ ((65536 : Int) < ((((entAt es i).val).length : Nat) : Int)))) rfl (by first | (simp [hb6]; done) | grind)
        exact th_n (h.to rfl ⟨rfl, rfl, rfl, (look_int rfl (by first | rfl | omega)), rfl, rfl, (look_int rfl (by first | rfl | omega)), (look_int rfl (by first | rfl | omega)), rfl, trivial⟩)
    · intro a w h
      refine c_cond rfl h (fun hc7 => ?_) (fun hc7 => ?_)
      · skip
        refine c_seq ?_
        refine c_region ?_
        refine stepP (p_buildA0 (out := zeroS.map B) Tryd.underlying25 Tryd.type25 rfl Tryd.type5 rfl h) h rfl fun a w h => ?_
        refine stepN (o_storeA (kk := 2) (vs := zeroS.map B) (cs' := zeroS.map B) (fun w => by rw [Tryd.sizeOf25, (show (zeroS.map B).length = 32 by rw [List.length_map, (show zeroS.length = 32 from rfl)])]) h rfl rfl rfl (oneB _) rfl (by rw [(show (zeroS.map B).length = 32 by rw [List.length_map, (show zeroS.length = 32 from rfl)])]; simp) (by rw [(show (zeroS.map B).length = 32 by rw [List.length_map, (show zeroS.length = 32 from rfl)])]; simp [List.drop_of_length_le])) h.env fun a w h => ?_
        refine stepP (p_assign h rfl) h rfl fun a w h => ?_
        refine stepEnd ?_
        refine th_n ?_
        refine c_ret (th_r (bl_r (th_r (th_r (bl_r (th_r ?_))))))
        have hfp := fit_size hil hok hc7
        exact finC2 (.inl rfl) h (vs := zeroS.map B) (v2 := .int .i64 80) rfl Tryd.isAgg25 (fun w => by rw [Tryd.sizeOf25, List.length_map, (show zeroS.length = 32 from rfl)]) rfl rfl (Cels.all (k := 2) rfl) ⟨by rw [rootP_bad (by rw [hfp]; decide), hfp] <;> rfl, h.own.none⟩
      · skip
        refine c_skip ?_
        refine th_n ?_
        refine c_seq ?_
        refine c_cut (fun a w => St S hf ([(b5, row 65 ([(evAt evs i).1, (evAt evs i).2]))] ++ ([(b2, row 3 (hS es i))] ++ ([(b1, row 25 (List.replicate 32 (.int .u8 0)))]))) 62 [(0, v), (2, ptr b1 0), (4, slc b2 0 es.length es.length), (5, .int .i64 ((i : Nat) : Int)), (6, ptr b5 0), (11, v), (12, .int .i64 ((es.length : Nat) : Int)), (13, .int .i64 ((i : Nat) : Int)), (42, .bool (decide (((0 : Int) < ((i : Nat) : Int)) ∧ ((0 : Int) ≤ cmpB ((entAt es (i - 1)).key) ((entAt es i).key)))))] a w) ?_ ?_
        · skip
          refine region_quiet (by kernel_rfl) (by kernel_rfl) h ?_
          have he := h.env
          clear h
          refine stepQ he (fun w h => p_move h rfl) rfl fun a he => ?_
          refine stepQ he (fun w h => p_gtr h rfl rfl) rfl fun a he => ?_
          refine stepQ he (fun w h => p_move h rfl) rfl fun a he => ?_
          rcases Decidable.em ((0 : Int) < ((i : Nat) : Int)) with hb8 | hb8
          · have he := he.bool_of (t := 31) (b' := true) rfl (decide_eq_true hb8)
            refine stepQG rfl rfl rfl rfl he (fun w h => p_move h rfl) rfl fun a he => ?_
            refine stepQG rfl rfl rfl rfl he (fun w h => p_move h rfl) rfl fun a he => ?_
            refine stepQG rfl rfl rfl rfl he (fun w h => p_sub (r := ((i - 1 : Nat) : Int)) h rfl rfl ((wi (by omega)).trans (by omega))) rfl fun a he => ?_
            have hi9 : (i - 1) < es.length := by omega
            refine stepQG rfl rfl rfl rfl he (fun w h => p_idxS (s := 2) (j := (i - 1)) Tryd.underlying57 Tryd.sizeOf65 h rfl rfl hes.sl (by omega) hi9) rfl fun a he => ?_
            refine stepQG rfl rfl rfl rfl he (fun w h => p_fieldAddr (r := sOff v + (i - 1) * 2) Tryd.underlying65 rfl Tryd.sizeOf22 rfl rfl h rfl) rfl fun a he => ?_
            refine stepQG rfl rfl rfl rfl he (fun w h => p_load (v := (evAt evs (i - 1)).1) Tryd.isAgg22 h rfl ((hes.cels hi9) 0 _ rfl)) rfl fun a he => ?_
            refine stepQG rfl rfl rfl rfl he (fun w h => p_fieldAddr (r := 0) Tryd.underlying65 rfl Tryd.sizeOf22 rfl rfl h rfl) rfl fun a he => ?_
            refine stepQG rfl rfl rfl rfl he (fun w h => p_load (v := (evAt evs i).1) Tryd.isAgg22 h rfl (Cel.own (k := 0) rfl rfl)) rfl fun a he => ?_
            refine stepQGC rfl rfl rfl rfl he (fun w h => o_call Tryd.call62 h rfl) (fun w ho => call_q0 ho (c_bCompare ho.lend0 ((hes.key hi9).mono ho.le0) ((hes.key hi4).mono ho.le0))) rfl fun a he => ?_
            refine stepQG rfl rfl rfl rfl he (fun w h => p_geq h rfl rfl) rfl fun a he => ?_
            refine stepQ he (fun w h => p_pickT h rfl rfl) rfl fun a he => ?_
            refine stepQEnd he fun w h => ?_
            have h := h.bool_of (t := 42) (b' := decide (((0 : Int) < ((i : Nat) : Int)) ∧ ((0 : Int) ≤ cmpB ((entAt es (i - 1)).key) ((entAt es i).key)))) rfl (by first | (simp [hb8]; done) | grind)
            exact th_n (h.to rfl ⟨rfl, rfl, rfl, (look_int rfl (by first | rfl | omega)), rfl, rfl, (look_int rfl (by first | rfl | omega)), (look_int rfl (by first | rfl | omega)), rfl, trivial⟩)
          · have he := he.bool_of (t := 31) (b' := false) rfl (decide_eq_false hb8)
            refine stepQSkip rfl rfl rfl rfl he rfl fun a he => ?_
            refine stepQSkip rfl rfl rfl rfl he rfl fun a he => ?_
            refine stepQSkip rfl rfl rfl rfl he rfl fun a he => ?_
            refine stepQSkip rfl rfl rfl rfl he rfl fun a he => ?_
            refine stepQSkip rfl rfl rfl rfl he rfl fun a he => ?_
            refine stepQSkip rfl rfl rfl rfl he rfl fun a he => ?_
            refine stepQSkip rfl rfl rfl rfl he rfl fun a he => ?_
            refine stepQSkip rfl rfl rfl rfl he rfl fun a he => ?_
            refine stepQSkip rfl rfl rfl rfl he rfl fun a he => ?_
            refine stepQSkip rfl rfl rfl rfl he rfl fun a he => ?_
            refine stepQ he (fun w h => p_pickF h rfl rfl) rfl fun a he => ?_
            refine stepQEnd he fun w h => ?_
            have h := h.bool_of (t := 42) (b' := decide (((0 : Int) < ((i : Nat) : Int)) ∧ ((0 : Int) ≤ cmpB ((entAt es (i - 1)).key) ((entAt es i).key)))) rfl (by first | (simp [hb8]; done) | grind)
            exact th_n (h.to rfl ⟨rfl, rfl, rfl, (look_int rfl (by first | rfl | omega)), rfl, rfl, (look_int rfl (by first | rfl | omega)), (look_int rfl (by first | rfl | omega)), rfl, trivial⟩)
        · intro a w h
          refine c_cond rfl h (fun hc10 => ?_) (fun hc10 => ?_)
          · skip
            refine c_seq ?_
            refine c_region ?_
            refine stepP (p_buildA0 (out := zeroS.map B) Tryd.underlying25 Tryd.type25 rfl Tryd.type5 rfl h) h rfl fun a w h => ?_
            refine stepN (o_storeA (kk := 2) (vs := zeroS.map B) (cs' := zeroS.map B) (fun w => by rw [Tryd.sizeOf25, (show (zeroS.map B).length = 32 by rw [List.length_map, (show zeroS.length = 32 from rfl)])]) h rfl rfl rfl (oneB _) rfl (by rw [(show (zeroS.map B).length = 32 by rw [List.length_map, (show zeroS.length = 32 from rfl)])]; simp) (by rw [(show (zeroS.map B).length = 32 by rw [List.length_map, (show zeroS.length = 32 from rfl)])]; simp [List.drop_of_length_le])) h.env fun a w h => ?_
            refine stepP (p_assign h rfl) h rfl fun a w h => ?_
            refine stepEnd ?_
            refine th_n ?_
            refine c_ret (th_r (bl_r (th_r (th_r (bl_r (th_r ?_))))))
            have hfp := fit_order hil hok hc7 hc10
            exact finC2 (.inl rfl) h (vs := zeroS.map B) (v2 := .int .i64 26) rfl Tryd.isAgg25 (fun w => by rw [Tryd.sizeOf25, List.length_map, (show zeroS.length = 32 from rfl)]) rfl rfl (Cels.all (k := 2) rfl) ⟨by rw [rootP_bad (by rw [hfp]; decide), hfp] <;> rfl, h.own.none⟩
          · skip
            refine c_skip ?_
            refine th_n ?_
            have hent : entOk es i := ent_ok hc7 hc10
            refine c_region ?_
            refine stepP (p_move h rfl) h rfl fun a w h => ?_
            refine stepP (p_move h rfl) h rfl fun a w h => ?_
            refine stepP (p_fieldAddr (r := 0) Tryd.underlying65 rfl Tryd.sizeOf22 rfl rfl h rfl) h rfl fun a w h => ?_
            refine stepP (p_load (v := (evAt evs i).1) Tryd.isAgg22 h rfl (Cel.own (k := 0) rfl rfl)) h rfl fun a w h => ?_
            refine stepV (Enter.opT (o_call Tryd.call23 h rfl) (call_val0 h.own (c_nHeight h.own.lend0 (htg.mono h.own.le0) (hk.mono h.own.le0) (hf1.mono h.own.le0) ((hes.key hi4).mono h.own.le0) (by omega)))) h.env rfl fun a w h => ?_
            refine stepP (p_indexAddr1 (j := i) (r := i) Tryd.underlying87 Tryd.sizeOf3 h rfl rfl (by omega) (by omega) (by omega)) h rfl fun a w h => ?_
            refine stepN (o_store (kk := 1) (cs' := hS es (i + 1)) Tryd.sizeOf3 h rfl rfl rfl rfl rfl (by rw [hS_length es (by omega)]; exact hil) (hS_set es hil)) h.env fun a w h => ?_
            refine stepEnd ?_
            refine bl_n ?_
            refine th_n ?_
            replace h := St.pick (xs := [(b2, row 3 (hS es (i + 1))), (b1, row 25 (List.replicate 32 (.int .u8 0)))]) h [1, 2] (by decide) rfl
            refine c_region ?_
            refine stepP (p_add h rfl rfl (wi (by omega))) h rfl fun a w h => ?_
            refine stepP (p_move h rfl) h rfl fun a w h => ?_
            refine stepEnd ?_
            exact th_n ⟨_, by omega, i + 1, rfl, by omega, all_succ hok hent, h.to rfl ⟨rfl, rfl, rfl, rfl, (look_int rfl (by first | rfl | omega)), (look_int rfl (by first | rfl | omega)), trivial⟩⟩
  · skip
    refine c_exit (th_e (th_e (exit_at ?_)))
    refine th_n ?_
    refine c_seq ?_
    have hin : i = es.length := by omega
    subst hin
    rw [hS_end] at h
    have hmap : isMap es := hok
    replace h := St.pick (xs := [(b1, row 25 (List.replicate 32 (.int .u8 0))), (b2, row 3 (hcells es))]) h [1, 0] (by decide) rfl
    obtain ⟨hf3, hle, hin3, hbk3, h⟩ := St.freezeR (L1 := [(b1, row 25 (List.replicate 32 (.int .u8 0)))]) (L2 := [(b2, row 3 (hcells es))]) h
    replace hes := hes.mono hle
    replace htg := htg.mono hle
    replace hk := hk.mono hle
    replace hf1 := hf1.mono hle
    have hh : Sl hf3 1 (slc b2 0 es.length es.length) es.length (hcells es) := Sl.row (hin3 _ _ (List.mem_singleton.2 rfl)) (by simp [List.take_of_length_le]) (by simp) (Nat.le_refl _) (by unfold maxLen; omega)
    refine c_region ?_
    refine stepP (p_build (pl := [(0, 1), (1, 1), (2, 33), (35, 1)]) (out := towH.cells ⟨nilS, nilS, []⟩) Tryd.underlying46 Tryd.type46 rfl (by kernel_rfl) h rfl (FillR.cons rfl rfl rfl (by decide) rfl FillR.nil)) h rfl fun a w h => ?_
    refine stepP (p_move h rfl) h rfl fun a w h => ?_
    refine stepP (p_move h rfl) h rfl fun a w h => ?_
    refine stepV (Enter.opT (o_call Tryd.call63 h rfl) (call_val0 h.own (c_hangN (es.length + 1) h.own.lend0 towH_ok (by decide) rfl rfl (htg.mono h.own.le0) (hk.mono h.own.le0) (hf1.mono h.own.le0) (hes.mono h.own.le0) (hh.mono h.own.le0) (isMap_sizes hmap) (by omega)))) h.env rfl fun a w h => ?_
    refine stepO (o_alloc (l := List.replicate 32 (.int .u8 0)) Tryd.zeroValue25 rfl h) h.env rfl ?_
    rintro b11 _ a w h
    refine stepN (o_storeA (kk := 0) (vs := (hangL (ownL towH) es).map B) (cs' := (hangL (ownL towH) es).map B) (fun w => by rw [Tryd.sizeOf25, (show ((hangL (ownL towH) es).map B).length = 32 by rw [List.length_map, (hangL_length _ _ (ownL_length _))])]) h rfl rfl rfl (oneB _) rfl (by rw [(show ((hangL (ownL towH) es).map B).length = 32 by rw [List.length_map, (hangL_length _ _ (ownL_length _))])]; simp) (by rw [(show ((hangL (ownL towH) es).map B).length = 32 by rw [List.length_map, (hangL_length _ _ (ownL_length _))])]; simp [List.drop_of_length_le])) h.env fun a w h => ?_
    refine stepEnd ?_
    refine th_n ?_
    refine c_seq ?_
    refine c_region ?_
    refine stepP (p_move h rfl) h rfl fun a w h => ?_
    refine stepP (p_lenS Tryd.underlying57 h rfl hes.sl) h rfl fun a w h => ?_
    refine stepP (p_conv Tryd.underlying3 Tryd.underlying23 h rfl (wu64 (by omega))) h rfl fun a w h => ?_
    refine stepP (p_loadA (vs := (hangL (ownL towH) es).map B) Tryd.isAgg25 (fun w => by rw [Tryd.sizeOf25, List.length_map, (hangL_length _ _ (ownL_length _))]) h rfl (Cels.all (k := 0) rfl)) h rfl fun a w h => ?_
    refine stepO (Enter.opT (o_call Tryd.call14 h rfl) (call_out0 h.own (c_NRootText (q := es.length) h.own.lend0 (htg.mono h.own.le0) (by first | omega | decide) (hangL_length _ _ (ownL_length _))))) h.env rfl ?_
    rintro b12 _ a w h
    refine stepO (o_buildSlice (vs := [slc b12 0 ((rootText es.length (hangL (ownL towH) es)).length) ((rootText es.length (hangL (ownL towH) es)).length)]) Tryd.underlying39 Tryd.sizeOf22 Tryd.zeroValue22 h rfl rfl (by simp [Value.cells]) rfl rfl rfl) h.env rfl ?_
    rintro b13 _ a w h
    refine stepV (Enter.opT (o_call Tryd.call44 h rfl) (call_val0 h.own (c_dOf1 h.own.lend0 (Sl.row (s := 1) (o := 0) (cap := 1) (n := 1) (cs := [slc b12 0 ((rootText es.length (hangL (ownL towH) es)).length) ((rootText es.length (hangL (ownL towH) es)).length)]) (h.own.in0 (k := 0) rfl) rfl rfl (by decide) (by decide)) (byts_block (l := rootText es.length (hangL (ownL towH) es)) (h.own.in0 (k := 1) rfl) (by unfold maxLen; simp <;> omega)) (hk.mono h.own.le0) (hf1.mono h.own.le0) (by simp <;> omega)))) h.env rfl fun a w h => ?_
    refine stepN (o_storeA (kk := 3) (vs := (sha (rootText es.length (hangL (ownL towH) es))).map B) (cs' := (sha (rootText es.length (hangL (ownL towH) es))).map B) (fun w => by rw [Tryd.sizeOf25, (show ((sha (rootText es.length (hangL (ownL towH) es))).map B).length = 32 by rw [List.length_map, (sha_length _)])]) h rfl rfl rfl (oneB _) rfl (by rw [(show ((sha (rootText es.length (hangL (ownL towH) es))).map B).length = 32 by rw [List.length_map, (sha_length _)])]; simp) (by rw [(show ((sha (rootText es.length (hangL (ownL towH) es))).map B).length = 32 by rw [List.length_map, (sha_length _)])]; simp [List.drop_of_length_le])) h.env fun a w h => ?_
    refine stepP (p_assign h rfl) h rfl fun a w h => ?_
    refine stepEnd ?_
    refine th_n ?_
    refine c_ret ?_
    have hfp := fit_ok hmap
    exact finC2 (.inl rfl) h (vs := (sha (rootText es.length (hangL (ownL towH) es))).map B) (v2 := .int .i64 0) rfl Tryd.isAgg25 (fun w => by rw [Tryd.sizeOf25, List.length_map, (sha_length _)]) rfl rfl (Cels.all (k := 3) rfl) ⟨by rw [rootP_ok hmap, hfp] <;> rfl, h.own.none.weaken hle⟩

theorem c_sorted {S : World} {hf : Hp} {w : World} (ho : Owns S hf [] w) {es : List EntP} {v : Value} {evs : List EntV} (hes : EntsOk hf es v evs) :
    Calls Tryd.prog 42 [v].toArray w (RetV S hf [] (.bool (decide (isMap es)))) := by
  have hmany := hes.many
  refine enter (n := 39) (E := [(0, _)]) Tryd.func42 rfl Tryd.ntmps42 rfl rfl ho fun a h => ?_
  refine c_seq ?_
  refine c_region ?_
  refine stepP (p_assign h rfl) h rfl fun a w h => ?_
  refine stepEnd ?_
  refine th_n ?_
  refine c_seq ?_
  refine c_seq ?_
  refine c_region ?_
  refine stepP (p_move h rfl) h rfl fun a w h => ?_
  refine stepP (p_lenS Tryd.underlying57 h rfl hes.sl) h rfl fun a w h => ?_
  refine stepP (p_move h rfl) h rfl fun a w h => ?_
  refine stepEnd ?_
  refine th_n ?_
  refine c_block ?_
  refine c_loop (fun m a w => ∃ (i : Nat), m = es.length - i ∧ i ≤ es.length ∧ (∀ j, j < i → entOk es j) ∧ St S hf [] 39 [(0, v), (5, v), (6, .int .i64 ((es.length : Nat) : Int)), (7, .int .i64 ((i : Nat) : Int))] a w) (N := es.length - 0) ⟨0, rfl, by omega, fun j h => absurd h (Nat.not_lt_zero _), h.to rfl ⟨rfl, rfl, (look_int rfl (by first | rfl | omega)), (look_int rfl (by first | rfl | omega)), trivial⟩⟩ ?_
  clear h
  rintro m a w ⟨i, rfl, hi, hok, h⟩
  refine c_seq ?_
  refine c_region ?_
  refine stepP (p_lss h rfl rfl) h rfl fun a w h => ?_
  refine stepEnd ?_
  refine th_n ?_
  refine c_seq ?_
  refine c_cond rfl h (fun hc1 => ?_) (fun hc1 => ?_)
  · skip
    refine c_skip ?_
    refine th_n ?_
    refine c_seq ?_
    refine c_block ?_
    refine c_seq ?_
    refine c_region ?_
    refine stepP (p_move h rfl) h rfl fun a w h => ?_
    have hi2 : i < es.length := by omega
    refine stepP (p_idxS (s := 2) (j := i) Tryd.underlying57 Tryd.sizeOf65 h rfl rfl hes.sl (by omega) hi2) h rfl fun a w h => ?_
    refine stepP (p_loadA (vs := [(evAt evs i).1, (evAt evs i).2]) Tryd.isAgg65 Tryd.sizeOf65 h rfl (hes.cels hi2)) h rfl fun a w h => ?_
    refine stepO (o_alloc (l := [nilS, nilS]) Tryd.zeroValue65 rfl h) h.env rfl ?_
    rintro b3 _ a w h
    refine stepP (p_assign h rfl) h rfl fun a w h => ?_
    refine stepN (o_storeA (kk := 0) (vs := [(evAt evs i).1, (evAt evs i).2]) (cs' := [(evAt evs i).1, (evAt evs i).2]) Tryd.sizeOf65 h rfl rfl rfl (by intro u hu; simp only [List.mem_cons, List.not_mem_nil, or_false] at hu; rcases hu with rfl | rfl; exact ((hes.key hi2)).one; exact ((hes.val hi2)).one) rfl (by simp) rfl) h.env fun a w h => ?_
    refine stepEnd ?_
    have hil : i < es.length := by omega
    refine th_n ?_
    refine c_cut (fun a w => St S hf ([(b3, row 65 ([(evAt evs i).1, (evAt evs i).2]))]) 39 [(0, v), (5, v), (6, .int .i64 ((es.length : Nat) : Int)), (7, .int .i64 ((i : Nat) : Int)), (37, .bool (decide ((((1024 : Int) < ((((entAt es i).key).length : Nat) : Int)) ∨ ((65536 : Int) < ((((entAt es i).val).length : Nat) : Int))) ∨ (((0 : Int) < ((i : Nat) : Int)) ∧ ((0 : Int) ≤ cmpB ((entAt es (i - 1)).key) ((entAt es i).key))))))] a w) ?_ ?_
    · skip
      refine region_quiet (by kernel_rfl) (by kernel_rfl) h ?_
      have he := h.env
      clear h
      refine stepQ he (fun w h => p_fieldAddr (r := 0) Tryd.underlying65 rfl Tryd.sizeOf22 rfl rfl h rfl) rfl fun a he => ?_
      refine stepQ he (fun w h => p_load (v := (evAt evs i).1) Tryd.isAgg22 h rfl (Cel.own (k := 0) rfl rfl)) rfl fun a he => ?_
      refine stepQ he (fun w h => p_lenB Tryd.underlying22 h rfl (hes.key hi2)) rfl fun a he => ?_
      refine stepQ he (fun w h => p_gtr h rfl rfl) rfl fun a he => ?_
      refine stepQ he (fun w h => p_move h rfl) rfl fun a he => ?_
      rcases Decidable.em ((1024 : Int) < ((((entAt es i).key).length : Nat) : Int)) with hb4 | hb4
      · have he := he.bool_of (t := 16) (b' := true) rfl (decide_eq_true hb4)
        refine stepQSkip rfl rfl rfl rfl he rfl fun a he => ?_
        refine stepQSkip rfl rfl rfl rfl he rfl fun a he => ?_
        refine stepQSkip rfl rfl rfl rfl he rfl fun a he => ?_
        refine stepQSkip rfl rfl rfl rfl he rfl fun a he => ?_
        refine stepQ he (fun w h => p_pickT h rfl rfl) rfl fun a he => ?_
        refine stepQ he (fun w h => p_move h rfl) rfl fun a he => ?_
        refine stepQSkip rfl rfl rfl rfl he rfl fun a he => ?_
        refine stepQSkip rfl rfl rfl rfl he rfl fun a he => ?_
        refine stepQSkip rfl rfl rfl rfl he rfl fun a he => ?_
        refine stepQSkipU rfl rfl rfl he rfl fun a he => ?_
        refine stepQSkipU rfl rfl rfl he rfl fun a he => ?_
        refine stepQSkipU rfl rfl rfl he rfl fun a he => ?_
        refine stepQSkipU rfl rfl rfl he rfl fun a he => ?_
        refine stepQSkipU rfl rfl rfl he rfl fun a he => ?_
        refine stepQSkipU rfl rfl rfl he rfl fun a he => ?_
        refine stepQSkipU rfl rfl rfl he rfl fun a he => ?_
        refine stepQSkipU rfl rfl rfl he rfl fun a he => ?_
        refine stepQSkipU rfl rfl rfl he rfl fun a he => ?_
        refine stepQSkipU rfl rfl rfl he rfl fun a he => ?_
        refine stepQSkip rfl rfl rfl rfl he rfl fun a he => ?_
        refine stepQ he (fun w h => p_pickT h rfl rfl) rfl fun a he => ?_
        refine stepQEnd he fun w h => ?_
        have h := h.bool_of (t := 37) (b' := decide ((((1024 : Int) < ((((entAt es i).key).length : Nat) : Int)) ∨ ((65536 : Int) < ((((entAt es i).val).length : Nat) : Int))) ∨ (((0 : Int) < ((i : Nat) : Int)) ∧ ((0 : Int) ≤ cmpB ((entAt es (i - 1)).key) ((entAt es i).key))))) rfl (by first | (simp [hb4]; done) | grind)
        exact th_n (h.to rfl ⟨rfl, rfl, (look_int rfl (by first | rfl | omega)), (look_int rfl (by first | rfl | omega)), rfl, trivial⟩)
      · have he := he.bool_of (t := 16) (b' := false) rfl (decide_eq_false hb4)
        refine stepQG rfl rfl rfl rfl he (fun w h => p_fieldAddr (r := 1) Tryd.underlying65 rfl Tryd.sizeOf22 rfl rfl h rfl) rfl fun a he => ?_
        refine stepQG rfl rfl rfl rfl he (fun w h => p_load (v := (evAt evs i).2) Tryd.isAgg22 h rfl (Cel.own (k := 0) rfl rfl)) rfl fun a he => ?_
        refine stepQG rfl rfl rfl rfl he (fun w h => p_lenB Tryd.underlying22 h rfl (hes.val hi2)) rfl fun a he => ?_
        refine stepQG rfl rfl rfl rfl he (fun w h => p_gtr h rfl rfl) rfl fun a he => ?_
        refine stepQ he (fun w h => p_pickF h rfl rfl) rfl fun a he => ?_
        refine stepQ he (fun w h => p_move h rfl) rfl fun a he => ?_
        rcases Decidable.em ((65536 : Int) < ((((entAt es i).val).length : Nat) : Int)) with hb5 | hb5
        · have he := he.bool_of (t := 22) (b' := true) rfl (decide_eq_true hb5)
          refine stepQSkip rfl rfl rfl rfl he rfl fun a he => ?_
          refine stepQSkip rfl rfl rfl rfl he rfl fun a he => ?_
          refine stepQSkip rfl rfl rfl rfl he rfl fun a he => ?_
          refine stepQSkipU rfl rfl rfl he rfl fun a he => ?_
          refine stepQSkipU rfl rfl rfl he rfl fun a he => ?_
          refine stepQSkipU rfl rfl rfl he rfl fun a he => ?_
          refine stepQSkipU rfl rfl rfl he rfl fun a he => ?_
          refine stepQSkipU rfl rfl rfl he rfl fun a he => ?_
          refine stepQSkipU rfl rfl rfl he rfl fun a he => ?_
          refine stepQSkipU rfl rfl rfl he rfl fun a he => ?_
          refine stepQSkipU rfl rfl rfl he rfl fun a he => ?_
          refine stepQSkipU rfl rfl rfl he rfl fun a he => ?_
          refine stepQSkipU rfl rfl rfl he rfl fun a he => ?_
          refine stepQSkip rfl rfl rfl rfl he rfl fun a he => ?_
          refine stepQ he (fun w h => p_pickT h rfl rfl) rfl fun a he => ?_
          refine stepQEnd he fun w h => ?_
          have h := h.bool_of (t := 37) (b' := decide ((((1024 : Int) < ((((entAt es i).key).length : Nat) : Int)) ∨ ((65536 : Int) < ((((entAt es i).val).length : Nat) : Int))) ∨ (((0 : Int) < ((i : Nat) : Int)) ∧ ((0 : Int) ≤ cmpB ((entAt es (i - 1)).key) ((entAt es i).key))))) rfl (by first | (simp [hb4, hb5]; done) | grind)
          exact th_n (h.to rfl ⟨rfl, rfl, (look_int rfl (by first | rfl | omega)), (look_int rfl (by first | rfl | omega)), rfl, trivial⟩)
        · have he := he.bool_of (t := 22) (b' := false) rfl (decide_eq_false hb5)
          refine stepQG rfl rfl rfl rfl he (fun w h => p_move h rfl) rfl fun a he => ?_
          refine stepQG rfl rfl rfl rfl he (fun w h => p_gtr h rfl rfl) rfl fun a he => ?_
          refine stepQG rfl rfl rfl rfl he (fun w h => p_move h rfl) rfl fun a he => ?_
          rcases Decidable.em ((0 : Int) < ((i : Nat) : Int)) with hb6 | hb6
          · have he := he.bool_of (t := 25) (b' := true) rfl (decide_eq_true hb6)
            refine stepQG rfl rfl rfl rfl he (fun w h => p_move h rfl) rfl fun a he => ?_
            refine stepQG rfl rfl rfl rfl he (fun w h => p_move h rfl) rfl fun a he => ?_
            refine stepQG rfl rfl rfl rfl he (fun w h => p_sub (r := ((i - 1 : Nat) : Int)) h rfl rfl ((wi (by omega)).trans (by omega))) rfl fun a he => ?_
            have hi7 : (i - 1) < es.length := by omega
            refine stepQG rfl rfl rfl rfl he (fun w h => p_idxS (s := 2) (j := (i - 1)) Tryd.underlying57 Tryd.sizeOf65 h rfl rfl hes.sl (by omega) hi7) rfl fun a he => ?_
            refine stepQG rfl rfl rfl rfl he (fun w h => p_fieldAddr (r := sOff v + (i - 1) * 2) Tryd.underlying65 rfl Tryd.sizeOf22 rfl rfl h rfl) rfl fun a he => ?_
            refine stepQG rfl rfl rfl rfl he (fun w h => p_load (v := (evAt evs (i - 1)).1) Tryd.isAgg22 h rfl ((hes.cels hi7) 0 _ rfl)) rfl fun a he => ?_
            refine stepQG rfl rfl rfl rfl he (fun w h => p_fieldAddr (r := 0) Tryd.underlying65 rfl Tryd.sizeOf22 rfl rfl h rfl) rfl fun a he => ?_
            refine stepQG rfl rfl rfl rfl he (fun w h => p_load (v := (evAt evs i).1) Tryd.isAgg22 h rfl (Cel.own (k := 0) rfl rfl)) rfl fun a he => ?_
            refine stepQGC rfl rfl rfl rfl he (fun w h => o_call Tryd.call52 h rfl) (fun w ho => call_q0 ho (c_Compare ho.lend0 ((hes.key hi7).mono ho.le0) ((hes.key hi2).mono ho.le0))) rfl fun a he => ?_
            refine stepQG rfl rfl rfl rfl he (fun w h => p_geq h rfl rfl) rfl fun a he => ?_
            refine stepQG rfl rfl rfl rfl he (fun w h => p_pickT h rfl rfl) rfl fun a he => ?_
            refine stepQ he (fun w h => p_pickF h rfl rfl) rfl fun a he => ?_
            refine stepQEnd he fun w h => ?_
            have h := h.bool_of (t := 37) (b' := decide ((((1024 : Int) < ((((entAt es i).key).length : Nat) : Int)) ∨ ((65536 : Int) < ((((entAt es i).val).length : Nat) : Int))) ∨ (((0 : Int) < ((i : Nat) : Int)) ∧ ((0 : Int) ≤ cmpB ((entAt es (i - 1)).key) ((entAt es i).key))))) rfl (by first | (simp [hb4, hb5, hb6]; done) | grind)
            exact th_n (h.to rfl ⟨rfl, rfl, (look_int rfl (by first | rfl | omega)), (look_int rfl (by first | rfl | omega)), rfl, trivial⟩)
          · have he := he.bool_of (t := 25) (b' := false) rfl (decide_eq_false hb6)
            refine stepQSkip rfl rfl rfl rfl he rfl fun a he => ?_
            refine stepQSkip rfl rfl rfl rfl he rfl fun a he => ?_
            refine stepQSkip rfl rfl rfl rfl he rfl fun a he => ?_
            refine stepQSkip rfl rfl rfl rfl he rfl fun a he => ?_
            refine stepQSkip rfl rfl rfl rfl he rfl fun a he => ?_
            refine stepQSkip rfl rfl rfl rfl he rfl fun a he => ?_
            refine stepQSkip rfl rfl rfl rfl he rfl fun a he => ?_
            refine stepQSkip rfl rfl rfl rfl he rfl fun a he => ?_
            refine stepQSkip rfl rfl rfl rfl he rfl fun a he => ?_
            refine stepQSkip rfl rfl rfl rfl he rfl fun a he => ?_
            refine stepQG rfl rfl rfl rfl he (fun w h => p_pickF h rfl rfl) rfl fun a he => ?_
            refine stepQ he (fun w h => p_pickF h rfl rfl) rfl fun a he => ?_
            refine stepQEnd he fun w h => ?_
            have h := h.bool_of (t := 37) (b' := decide ((((1024 : Int) < ((((entAt es i).key).length : Nat) : Int)) ∨ ((65536 : Int) < ((((entAt es i).val).length : Nat) : Int))) ∨ (((0 : Int) < ((i : Nat) : Int)) ∧ ((0 : Int) ≤ cmpB ((entAt es (i - 1)).key) ((entAt es i).key))))) rfl (by first | (simp [hb4, hb5, hb6]; done) | grind)
            exact th_n (h.to rfl ⟨rfl, rfl, (look_int rfl (by first | rfl | omega)), (look_int rfl (by first | rfl | omega)), rfl, trivial⟩)
    · intro a w h
      refine c_cond rfl h (fun hc8 => ?_) (fun hc8 => ?_)
      · skip
        refine c_seq ?_
        refine c_region ?_
        refine stepP (p_assign h rfl) h rfl fun a w h => ?_
        refine stepEnd ?_
        refine th_n ?_
        refine c_ret (bl_r (th_r (th_r (bl_r (th_r ?_)))))
        exact fin1 (.inl rfl) h rfl rfl ⟨by rw [decide_eq_false (fun hm : isMap es => ent_bad hc8 (hm i hil))], h.own.none⟩
      · skip
        refine c_skip ?_
        refine bl_n ?_
        refine th_n ?_
        have hent : entOk es i := ent_ok (fun hx => hc8 (.inl hx)) (fun hx => hc8 (.inr hx))
        replace h := h.drop (List.nil_sublist _)
        refine c_region ?_
        refine stepP (p_add h rfl rfl (wi (by omega))) h rfl fun a w h => ?_
        refine stepP (p_move h rfl) h rfl fun a w h => ?_
        refine stepEnd ?_
        exact th_n ⟨_, by omega, i + 1, rfl, by omega, all_succ hok hent, h.to rfl ⟨rfl, rfl, (look_int rfl (by first | rfl | omega)), (look_int rfl (by first | rfl | omega)), trivial⟩⟩
  · skip
    refine c_exit (th_e (th_e (exit_at ?_)))
    refine th_n ?_
    refine c_seq ?_
    refine c_region ?_
    refine stepP (p_assign h rfl) h rfl fun a w h => ?_
    refine stepEnd ?_
    refine th_n ?_
    refine c_ret ?_
    exact fin1 (.inl rfl) h rfl rfl ⟨by rw [decide_eq_true (show isMap es from fun j hj => hok j (by omega))], h.own.none⟩

theorem c_reach {S : World} {hf : Hp} {w : World} (ho : Owns S hf [] w) {es : List EntP} {v : Value} {evs : List EntV} (hes : EntsOk hf es v evs) (hbe : ∀ e ∈ es, e.key.length ≤ 1024 ∧ e.val.length ≤ 65536) (htg : TagsAt 0 hf) (hk : RoundsAt 3 hf) (hf1 : FirstAt 1 hf) {i : Nat} (hil : i < es.length) :
    Calls Tryd.prog 68 [v, .int .i64 (i : Int)].toArray w (RetV S hf [] (.int .i64 ((reachP es i : Nat) : Int))) := by
  have hmany := hes.many
  have hbi := hbe _ (entAt_mem hil)
  have hbx : ∀ k, k < es.length → (entAt es k).key.length ≤ 1024 := fun k hk => (hbe _ (entAt_mem hk)).1
  refine enter (n := 30) (E := [(0, _), (1, _)]) Tryd.func68 rfl Tryd.ntmps68 rfl rfl ho fun a h => ?_
  refine c_seq ?_
  refine c_region ?_
  refine stepP (p_assign h rfl) h rfl fun a w h => ?_
  refine stepEnd ?_
  refine th_n ?_
  refine c_seq ?_
  refine c_region ?_
  refine stepP (p_move h rfl) h rfl fun a w h => ?_
  refine stepP (p_add h rfl rfl (wi (by omega))) h rfl fun a w h => ?_
  refine stepP (p_assign h rfl) h rfl fun a w h => ?_
  refine stepEnd ?_
  refine th_n ?_
  refine c_seq ?_
  refine c_block ?_
  refine c_loop (fun m a w => ∃ (e : Nat), m = es.length - e ∧ i < e ∧ e ≤ es.length ∧ (∀ k, i < k → k < e → hgt (entAt es k) ≤ hgt (entAt es i)) ∧ St S hf [] 30 [(0, v), (1, .int .i64 ((i : Nat) : Int)), (5, .int .i64 ((e : Nat) : Int))] a w) (N := es.length - (i + 1)) ⟨i + 1, rfl, by omega, by omega, fun k h1 h2 => by omega, h.to rfl ⟨rfl, (look_int rfl (by first | rfl | omega)), (look_int rfl (by first | rfl | omega)), trivial⟩⟩ ?_
  clear h
  rintro m a w ⟨e, rfl, hie, hee, hal, h⟩
  refine c_seq ?_
  refine c_cut (fun a w => St S hf [] 30 [(0, v), (1, .int .i64 ((i : Nat) : Int)), (5, .int .i64 ((e : Nat) : Int)), (26, .bool (decide (((((e : Nat) : Int) : Int) < ((es.length : Nat) : Int)) ∧ (((((hgt (entAt es e)) : Nat) : Int) : Int) ≤ (((hgt (entAt es i)) : Nat) : Int)))))] a w) ?_ ?_
  · skip
    refine region_quiet (by kernel_rfl) (by kernel_rfl) h ?_
    have he := h.env
    clear h
    refine stepQ he (fun w h => p_move h rfl) rfl fun a he => ?_
    refine stepQ he (fun w h => p_move h rfl) rfl fun a he => ?_
    refine stepQ he (fun w h => p_lenS Tryd.underlying57 h rfl hes.sl) rfl fun a he => ?_
    refine stepQ he (fun w h => p_lss h rfl rfl) rfl fun a he => ?_
    refine stepQ he (fun w h => p_move h rfl) rfl fun a he => ?_
    rcases Decidable.em ((((e : Nat) : Int) : Int) < ((es.length : Nat) : Int)) with hb1 | hb1
    · have he := he.bool_of (t := 12) (b' := true) rfl (decide_eq_true hb1)
      refine stepQG rfl rfl rfl rfl he (fun w h => p_move h rfl) rfl fun a he => ?_
      refine stepQG rfl rfl rfl rfl he (fun w h => p_move h rfl) rfl fun a he => ?_
      have hi2 : e < es.length := by omega
      refine stepQG rfl rfl rfl rfl he (fun w h => p_idxS (s := 2) (j := e) Tryd.underlying57 Tryd.sizeOf65 h rfl rfl hes.sl (by omega) hi2) rfl fun a he => ?_
      refine stepQG rfl rfl rfl rfl he (fun w h => p_fieldAddr (r := sOff v + e * 2) Tryd.underlying65 rfl Tryd.sizeOf22 rfl rfl h rfl) rfl fun a he => ?_
      refine stepQG rfl rfl rfl rfl he (fun w h => p_load (v := (evAt evs e).1) Tryd.isAgg22 h rfl ((hes.cels hi2) 0 _ rfl)) rfl fun a he => ?_
      refine stepQGC rfl rfl rfl rfl he (fun w h => o_call Tryd.call23 h rfl) (fun w ho => (c_nHeight ho htg hk hf1 (hes.key hi2) (Nat.le_trans (hbx e (by omega)) (by decide)))) rfl fun a he => ?_
      refine stepQG rfl rfl rfl rfl he (fun w h => p_move h rfl) rfl fun a he => ?_
      refine stepQG rfl rfl rfl rfl he (fun w h => p_move h rfl) rfl fun a he => ?_
      have hi3 : i < es.length := by omega
      refine stepQG rfl rfl rfl rfl he (fun w h => p_idxS (s := 2) (j := i) Tryd.underlying57 Tryd.sizeOf65 h rfl rfl hes.sl (by omega) hi3) rfl fun a he => ?_
      refine stepQG rfl rfl rfl rfl he (fun w h => p_fieldAddr (r := sOff v + i * 2) Tryd.underlying65 rfl Tryd.sizeOf22 rfl rfl h rfl) rfl fun a he => ?_
      refine stepQG rfl rfl rfl rfl he (fun w h => p_load (v := (evAt evs i).1) Tryd.isAgg22 h rfl ((hes.cels hi3) 0 _ rfl)) rfl fun a he => ?_
      refine stepQGC rfl rfl rfl rfl he (fun w h => o_call Tryd.call23 h rfl) (fun w ho => (c_nHeight ho htg hk hf1 (hes.key hi3) (Nat.le_trans (hbx i (by omega)) (by decide)))) rfl fun a he => ?_
      refine stepQG rfl rfl rfl rfl he (fun w h => p_leq h rfl rfl) rfl fun a he => ?_
      refine stepQ he (fun w h => p_pickT h rfl rfl) rfl fun a he => ?_
      refine stepQEnd he fun w h => ?_
      have h := h.bool_of (t := 26) (b' := decide (((((e : Nat) : Int) : Int) < ((es.length : Nat) : Int)) ∧ (((((hgt (entAt es e)) : Nat) : Int) : Int) ≤ (((hgt (entAt es i)) : Nat) : Int)))) rfl (by first | (simp [hb1]; done) | grind)
      exact th_n (h.to rfl ⟨rfl, (look_int rfl (by first | rfl | omega)), (look_int rfl (by first | rfl | omega)), rfl, trivial⟩)
    · have he := he.bool_of (t := 12) (b' := false) rfl (decide_eq_false hb1)
      refine stepQSkip rfl rfl rfl rfl he rfl fun a he => ?_
      refine stepQSkip rfl rfl rfl rfl he rfl fun a he => ?_
      refine stepQSkip rfl rfl rfl rfl he rfl fun a he => ?_
      refine stepQSkip rfl rfl rfl rfl he rfl fun a he => ?_
      refine stepQSkip rfl rfl rfl rfl he rfl fun a he => ?_
      refine stepQSkip rfl rfl rfl rfl he rfl fun a he => ?_
      refine stepQSkip rfl rfl rfl rfl he rfl fun a he => ?_
      refine stepQSkip rfl rfl rfl rfl he rfl fun a he => ?_
      refine stepQSkip rfl rfl rfl rfl he rfl fun a he => ?_
      refine stepQSkip rfl rfl rfl rfl he rfl fun a he => ?_
      refine stepQSkip rfl rfl rfl rfl he rfl fun a he => ?_
      refine stepQSkip rfl rfl rfl rfl he rfl fun a he => ?_
      refine stepQSkip rfl rfl rfl rfl he rfl fun a he => ?_
      refine stepQ he (fun w h => p_pickF h rfl rfl) rfl fun a he => ?_
      refine stepQEnd he fun w h => ?_
      have h := h.bool_of (t := 26) (b' := decide (((((e : Nat) : Int) : Int) < ((es.length : Nat) : Int)) ∧ (((((hgt (entAt es e)) : Nat) : Int) : Int) ≤ (((hgt (entAt es i)) : Nat) : Int)))) rfl (by first | (simp [hb1]; done) | grind)
      exact th_n (h.to rfl ⟨rfl, (look_int rfl (by first | rfl | omega)), (look_int rfl (by first | rfl | omega)), rfl, trivial⟩)
  · intro a w h
    refine c_cond rfl h (fun hc4 => ?_) (fun hc4 => ?_)
    · skip
      refine c_skip ?_
      refine th_n ?_
      refine c_block ?_
      refine c_region ?_
      refine stepP (p_move h rfl) h rfl fun a w h => ?_
      refine stepP (p_add h rfl rfl (wi (by omega))) h rfl fun a w h => ?_
      refine stepP (p_assign h rfl) h rfl fun a w h => ?_
      refine stepEnd ?_
      refine bl_n ?_
      exact th_n ⟨_, by omega, e + 1, rfl, by omega, by omega, fun k h1 h2 => by rcases Nat.lt_or_ge k e with h3 | h3; exact hal k h1 h3; (obtain rfl : k = e := by omega); omega, h.to rfl ⟨rfl, (look_int rfl (by first | rfl | omega)), (look_int rfl (by first | rfl | omega)), trivial⟩⟩
    · skip
      refine c_exit (th_e (th_e (exit_at ?_)))
      refine th_n ?_
      refine c_seq ?_
      refine c_region ?_
      refine stepP (p_move h rfl) h rfl fun a w h => ?_
      refine stepP (p_assign h rfl) h rfl fun a w h => ?_
      refine stepEnd ?_
      refine th_n ?_
      refine c_ret ?_
      have hex : e = es.length ∨ ¬ hgt (entAt es e) ≤ hgt (entAt es i) := by rcases Nat.lt_or_ge e es.length with h1 | h1; (refine .inr fun h2 => ?_; exact hc4 ⟨by omega, by omega⟩); (exact .inl (by omega))
      exact fin1 (.inl rfl) h rfl rfl ⟨by rw [reach_at hie hee hal hex], h.own⟩

end Go.Proofs.YtkklgmhmhhbjkaaDoor
