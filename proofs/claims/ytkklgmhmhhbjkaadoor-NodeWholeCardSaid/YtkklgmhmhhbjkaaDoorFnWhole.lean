/-
  WHAT EACH CALL COMES TO: the law NodeWhole. Printed by the own generator (wip/gen), one law of the own library for each operation.
-/
import Derived.Test.YtkklgmhmhhbjkaaDoorKitW
import Derived.Test.YtkklgmhmhhbjkaaDoorProg
import Derived.Test.YtkklgmhmhhbjkaaDoorFnA
import Derived.Test.YtkklgmhmhhbjkaaDoorFnB
import Derived.Test.YtkklgmhmhhbjkaaDoorFnHei
import Derived.Test.YtkklgmhmhhbjkaaDoorFnTow
import Derived.Test.YtkklgmhmhhbjkaaDoorFnLab
import Derived.Test.YtkklgmhmhhbjkaaDoorFnHang
import Derived.Test.YtkklgmhmhhbjkaaDoorFnRoot
import Derived.Test.YtkklgmhmhhbjkaaDoorFnHung
import Derived.Test.YtkklgmhmhhbjkaaDoorFnAlone
namespace Go.Proofs.YtkklgmhmhhbjkaaDoor
open Go Go.Own Go.Proofs
set_option maxRecDepth 100000
set_option linter.unusedVariables false

theorem c_nValidM {S : World} {hf : Hp} {w : World} (ho : Owns S hf [] w) {es : List EntP} {x : TowV} (ht : TowOk hf (mapT es) x) (hm : isMap es) (hn : es.length ≤ 4611686018427387904) (htg : TagsAt 0 hf) (hk : RoundsAt 3 hf) (hf1 : FirstAt 1 hf) :
    Calls Tryd.prog 26 [(mapT es).val x].toArray w (RetV S hf [] (.int .i64 0)) := by
  have := c_nValid ho ht htg hk hf1
  rwa [mapT_valid hm hn] at this

theorem c_nCountM {S : World} {hf : Hp} {w : World} (ho : Owns S hf [] w) {es : List EntP} {x : TowV} (ht : TowOk hf (mapT es) x) (hn : es.length ≤ 4611686018427387904) :
    Calls Tryd.prog 35 [(mapT es).val x].toArray w (RetV S hf [] (.int .u64 ((es.length : Nat) : Int))) := by
  have := c_nCount ho ht
  rwa [mapT_count (by omega)] at this


set_option maxHeartbeats 2000000 in
theorem c_NodeWhole {S : World} {hf : Hp} {w : World} (ho : Owns S hf [] w) {es : List EntP} {v : Value} {evs : List EntV} (hk : RoundsAt 3 hf) (hf1 : FirstAt 1 hf) (htg : TagsAt 0 hf) (hes : EntsOk hf es v evs) (hbn : es.length * 48 ≤ 140737488355328) :
    Calls Tryd.prog 9 [v].toArray w (RetV S hf [] (.bool true)) := by
  have hmany := hes.many
  have hnm : es.length ≤ 4611686018427387904 := by omega
  refine enter (n := 98) (E := [(0, _)]) Tryd.func9 rfl Tryd.ntmps9 rfl rfl ho fun a h => ?_
  have hle := Hp.le_refl hf
  refine c_seq ?_
  refine c_region ?_
  refine stepP (p_assign h rfl) h rfl fun a w h => ?_
  refine stepEnd ?_
  refine th_n ?_
  refine c_seq ?_
  refine c_seq ?_
  refine c_region ?_
  refine stepV (Enter.opT (o_call Tryd.call41 h rfl) (call_valA (c_alone h.own htg hk hf1))) h.env rfl fun a w h => ?_
  have h := h.bool_of (t := 10) (b' := true) rfl (by simp)
  refine stepP (p_not h rfl) h rfl fun a w h => ?_
  refine stepEnd ?_
  refine th_n ?_
  refine c_false rfl h ?_
  refine c_skip ?_
  refine th_n ?_
  refine c_seq ?_
  refine c_region ?_
  refine stepP (p_move h rfl) h rfl fun a w h => ?_
  refine stepV (Enter.opT (o_call Tryd.call38 h rfl) (call_valA (c_nRoot h.own hes hbn htg hk hf1))) h.env rfl fun a w h => ?_
  refine stepP (p_move h rfl) h rfl fun a w h => ?_
  refine stepP (p_extract h rfl rfl) h rfl fun a w h => ?_
  refine stepP (p_extract h rfl rfl) h rfl fun a w h => ?_
  refine stepO (o_alloc (l := List.replicate 32 (.int .u8 0)) Tryd.zeroValue25 rfl h) h.env rfl ?_
  rintro b1 _ a w h
  refine stepN (o_storeA (kk := 0) (vs := (rootP es).map B) (cs' := (rootP es).map B) (fun w => by rw [Tryd.sizeOf25, (show ((rootP es).map B).length = 32 by rw [List.length_map, (rootP_length _)])]) h rfl rfl rfl (oneB _) rfl (by rw [(show ((rootP es).map B).length = 32 by rw [List.length_map, (rootP_length _)])]; simp) (by rw [(show ((rootP es).map B).length = 32 by rw [List.length_map, (rootP_length _)])]; simp [List.drop_of_length_le])) h.env fun a w h => ?_
  refine stepP (p_assign h rfl) h rfl fun a w h => ?_
  refine stepEnd ?_
  obtain ⟨hf2, hlef2, hinf2, hbkf2, h⟩ := h.freeze
  replace htg := htg.mono hlef2
  replace hk := hk.mono hlef2
  replace hf1 := hf1.mono hlef2
  replace hes := hes.mono hlef2
  replace hle := Hp.le_trans hle hlef2
  have ro3 : hf2 b1 = some (row 25 ((rootP es).map B)) := hinf2 _ _ (List.mem_of_getElem? (i := 0) rfl)
  refine th_n ?_
  refine c_seq ?_
  refine c_seq ?_
  refine c_region ?_
  refine stepP (p_move h rfl) h rfl fun a w h => ?_
  refine stepV (Enter.opT (o_call Tryd.call42 h rfl) (call_valA (c_sorted h.own hes))) h.env rfl fun a w h => ?_
  refine stepP (p_not h rfl) h rfl fun a w h => ?_
  refine stepEnd ?_
  refine th_n ?_
  refine c_condB rfl h (fun hc4 => ?_) (fun hc4 => ?_)
  · skip
    refine c_cut (fun a w => St S hf2 [] 98 [(2, .bool (decide ((((fitP es) : Int) = 80) ∨ (((fitP es) : Int) = 26))))] a w) ?_ ?_
    · skip
      refine c_region ?_
      refine stepP (p_move h rfl) h rfl fun a w h => ?_
      refine stepP (p_eql h rfl rfl) h rfl fun a w h => ?_
      refine stepP (p_move h rfl) h rfl fun a w h => ?_
      rcases Decidable.em (((fitP es) : Int) = 80) with hb5 | hb5
      · have h := h.bool_of (t := 22) (b' := true) rfl (decide_eq_true hb5)
        refine stepSkip rfl rfl rfl rfl h rfl fun a w h => ?_
        refine stepSkip rfl rfl rfl rfl h rfl fun a w h => ?_
        refine stepP (p_pickT h rfl rfl) h rfl fun a w h => ?_
        refine stepP (p_assign h rfl) h rfl fun a w h => ?_
        refine stepEnd ?_
        have h := h.bool_of (t := 2) (b' := decide ((((fitP es) : Int) = 80) ∨ (((fitP es) : Int) = 26))) rfl (by first | (simp [hb5]; done) | grind)
        exact th_n (h.to rfl ⟨rfl, trivial⟩)
      · have h := h.bool_of (t := 22) (b' := false) rfl (decide_eq_false hb5)
        refine stepGP rfl rfl rfl rfl (p_move h rfl) h rfl fun a w h => ?_
        refine stepGP rfl rfl rfl rfl (p_eql h rfl rfl) h rfl fun a w h => ?_
        refine stepP (p_pickF h rfl rfl) h rfl fun a w h => ?_
        refine stepP (p_assign h rfl) h rfl fun a w h => ?_
        refine stepEnd ?_
        have h := h.bool_of (t := 2) (b' := decide ((((fitP es) : Int) = 80) ∨ (((fitP es) : Int) = 26))) rfl (by first | (simp [hb5]; done) | grind)
        exact th_n (h.to rfl ⟨rfl, trivial⟩)
    · intro a w h
      refine c_ret (th_r ?_)
      have hnm2 : ¬ isMap es := by simpa using hc4
      exact fin1 (.inl rfl) h rfl rfl ⟨congrArg (fun b => Ending.returned (.bool b)) (decide_eq_true (fit_not hnm2)), h.own.none.weaken hle⟩
  · skip
    refine c_skip ?_
    refine th_n ?_
    refine c_seq ?_
    have hmap : isMap es := by simpa using hc4
    have hkeys := mapT_keys hmap
    have hfit := fit_ok hmap
    refine c_region ?_
    refine stepP (p_build (pl := [(0, 1), (1, 1), (2, 33), (35, 1)]) (out := towH.cells ⟨nilS, nilS, []⟩) Tryd.underlying46 Tryd.type46 rfl (by kernel_rfl) h rfl (FillR.cons rfl rfl rfl (by decide) rfl FillR.nil)) h rfl fun a w h => ?_
    refine stepP (p_move h rfl) h rfl fun a w h => ?_
    refine stepO (Enter.opT (o_call Tryd.call43 h rfl) (call_outA (c_hungN (es.length + 1) h.own (Hp.le_refl _) towH_ok rfl rfl htg hk hf1 hes (isMap_sizes hmap) (by omega)))) h.env rfl ?_
    rintro ⟨yy, Ly⟩ hyy a w h
    obtain ⟨hf6, hlef6, hinf6, hbkf6, h⟩ := h.freeze
    replace htg := htg.mono hlef6
    replace hk := hk.mono hlef6
    replace hf1 := hf1.mono hlef6
    replace hes := hes.mono hlef6
    replace ro3 := hlef6 _ _ ro3
    replace hle := Hp.le_trans hle hlef6
    have hty : TowOk hf6 (mapT es) yy := hyy hf6 hlef6 hinf6
    refine stepO (o_alloc (l := ((⟨false, [], zeroS, 0, []⟩ : TowP).cells ⟨nilS, nilS, []⟩)) Tryd.zeroValue46 rfl h) h.env rfl ?_
    rintro b7 _ a w h
    refine stepN (o_storeA (kk := 0) (vs := (mapT es).cells yy) (cs' := (mapT es).cells yy) (fun w => by rw [Tryd.sizeOf46, hty.length]) h rfl rfl rfl hty.one rfl (by rw [hty.length]; simp [tow_len (t := ⟨false, [], zeroS, 0, []⟩) rfl]) (by rw [hty.length]; simp [hty.length, tow_len (t := ⟨false, [], zeroS, 0, []⟩) rfl, List.drop_of_length_le])) h.env fun a w h => ?_
    refine stepEnd ?_
    obtain ⟨hf8, hlef8, hinf8, hbkf8, h⟩ := h.freeze
    replace htg := htg.mono hlef8
    replace hk := hk.mono hlef8
    replace hf1 := hf1.mono hlef8
    replace hes := hes.mono hlef8
    replace hty := hty.mono hlef8
    replace ro3 := hlef8 _ _ ro3
    replace hle := Hp.le_trans hle hlef8
    have ro9 : hf8 b7 = some (row 46 ((mapT es).cells yy)) := hinf8 _ _ (List.mem_of_getElem? (i := 0) rfl)
    have hkmany := hty.many
    refine th_n ?_
    refine c_seq ?_
    refine c_seq ?_
    refine any_begin (N := 27) (by kernel_rfl) rfl h ?_
    clear h; intro w h
    refine any_take (i := 0) rfl (by kernel_rfl) (fun _ _ _ _ h => h) h rfl (fun w h => p_move h rfl) fun a h => ?_
    refine any_take (i := 1) rfl (by kernel_rfl) (fun _ _ _ _ h => h) h rfl (fun w h => p_neq h rfl rfl) fun a h => ?_
    have h := h.bool_of (t := 30) (b' := false) rfl (by simp [hfit])
    refine any_take (i := 2) rfl (by kernel_rfl) (fun _ _ _ _ h => h) h rfl (fun w h => p_move h rfl) fun a h => ?_
    have h := h.bool_of (t := 30) (b' := false) rfl (by simp [hfit])
    refine any_takeG (i := 3) rfl (by kernel_rfl) (fun _ _ _ _ h => h) h rfl rfl rfl rfl rfl (fun w h => p_loadA (vs := (mapT es).cells yy) Tryd.isAgg46 (fun w => by rw [Tryd.sizeOf46, hty.length]) h rfl (Cels.stay ro9)) fun a h => ?_
    refine any_one (i := 4) (by kernel_rfl) ?_
    refine any_GV rfl h.env rfl rfl rfl rfl rfl (Enter.opT (o_call Tryd.call26 h rfl) (call_valA (c_nValidM h.own hty hmap hnm htg hk hf1))) fun a w h => ?_
    refine any_takeG (i := 5) rfl (by kernel_rfl) (fun _ _ _ _ h => h) h rfl rfl rfl rfl rfl (fun w h => p_neq h rfl rfl) fun a h => ?_
    refine any_take (i := 6) rfl (by kernel_rfl) (fun _ _ _ _ h => h) h rfl (fun w h => p_pickF h rfl rfl) fun a h => ?_
    refine any_take (i := 7) rfl (by kernel_rfl) (fun _ _ _ _ h => h) h rfl (fun w h => p_move h rfl) fun a h => ?_
    refine any_takeG (i := 8) rfl (by kernel_rfl) (fun _ _ _ _ h => h) h rfl rfl rfl rfl rfl (fun w h => p_loadA (vs := (mapT es).cells yy) Tryd.isAgg46 (fun w => by rw [Tryd.sizeOf46, hty.length]) h rfl (Cels.stay ro9)) fun a h => ?_
    refine any_takeG (i := 10) rfl (by kernel_rfl) (fun _ _ _ _ h => h) h rfl rfl rfl rfl rfl (fun w h => p_move h rfl) fun a h => ?_
    refine any_takeG (i := 11) rfl (by kernel_rfl) (fun _ _ _ _ h => h) h rfl rfl rfl rfl rfl (fun w h => p_lenS Tryd.underlying57 h rfl hes.sl) fun a h => ?_
    refine any_takeG (i := 12) rfl (by kernel_rfl) (fun _ _ _ _ h => h) h rfl rfl rfl rfl rfl (fun w h => p_conv Tryd.underlying3 Tryd.underlying23 h rfl (wu64 (by omega))) fun a h => ?_
    refine any_one (i := 9) (by kernel_rfl) ?_
    refine any_GV rfl h.env rfl rfl rfl rfl rfl (Enter.opT (o_call Tryd.call35 h rfl) (call_valA (c_nCountM h.own hty hnm))) fun a w h => ?_
    refine any_takeG (i := 13) rfl (by kernel_rfl) (fun _ _ _ _ h => h) h rfl rfl rfl rfl rfl (fun w h => p_neq h rfl rfl) fun a h => ?_
    have h := h.bool_of (t := 42) (b' := false) rfl (by simp)
    refine any_take (i := 14) rfl (by kernel_rfl) (fun _ _ _ _ h => h) h rfl (fun w h => p_pickF h rfl rfl) fun a h => ?_
    have h := h.bool_of (t := 42) (b' := false) rfl (by simp)
    refine any_take (i := 15) rfl (by kernel_rfl) (fun _ _ _ _ h => h) h rfl (fun w h => p_move h rfl) fun a h => ?_
    have h := h.bool_of (t := 42) (b' := false) rfl (by simp)
    refine any_takeG (i := 16) rfl (by kernel_rfl) (fun _ _ _ _ h => h) h rfl rfl rfl rfl rfl (fun w h => p_loadA (vs := (rootP es).map B) Tryd.isAgg25 (fun w => by rw [Tryd.sizeOf25, List.length_map, (rootP_length _)]) h rfl (Cels.stay ro3)) fun a h => ?_
    refine any_takeG (i := 17) rfl (by kernel_rfl) (fun _ _ _ _ h => h) h rfl rfl rfl rfl rfl (fun w h => p_move h rfl) fun a h => ?_
    refine any_takeG (i := 18) rfl (by kernel_rfl) (fun _ _ _ _ h => h) h rfl rfl rfl rfl rfl (fun w h => p_lenS Tryd.underlying57 h rfl hes.sl) fun a h => ?_
    refine any_takeG (i := 19) rfl (by kernel_rfl) (fun _ _ _ _ h => h) h rfl rfl rfl rfl rfl (fun w h => p_conv Tryd.underlying3 Tryd.underlying23 h rfl (wu64 (by omega))) fun a h => ?_
    refine any_takeG (i := 20) rfl (by kernel_rfl) (fun _ _ _ _ h => h) h rfl rfl rfl rfl rfl (fun w h => p_loadA (vs := (mapT es).cells yy) Tryd.isAgg46 (fun w => by rw [Tryd.sizeOf46, hty.length]) h rfl (Cels.stay ro9)) fun a h => ?_
    refine any_one (i := 21) (by kernel_rfl) ?_
    refine any_GV rfl h.env rfl rfl rfl rfl rfl (Enter.opT (o_call Tryd.call33 h rfl) (call_valA (c_nLabel h.own hty (Nat.zero_le _) hkeys htg hk hf1))) fun a w h => ?_
    refine any_one (i := 22) (by kernel_rfl) ?_
    refine any_GO rfl h.env rfl rfl rfl rfl rfl (Enter.opT (o_call Tryd.call14 h rfl) (call_outA (c_NRootText (q := es.length) h.own htg (by first | omega | decide) (labP_length _ _ _)))) ?_
    rintro b10 _ a w h
    refine any_one (i := 23) (by kernel_rfl) ?_
    refine any_GO rfl h.env rfl rfl rfl rfl rfl (o_buildSlice (vs := [slc b10 0 ((rootText es.length (labP (fun _ => true) (mapT es) 0)).length) ((rootText es.length (labP (fun _ => true) (mapT es) 0)).length)]) Tryd.underlying39 Tryd.sizeOf22 Tryd.zeroValue22 h rfl rfl (by simp [Value.cells]) rfl rfl rfl) ?_
    rintro b11 _ a w h
    refine any_one (i := 24) (by kernel_rfl) ?_
    refine any_GV rfl h.env rfl rfl rfl rfl rfl (Enter.opT (o_call Tryd.call44 h rfl) (call_val0 h.own (c_dOf1 h.own.lend0 (Sl.row (s := 1) (o := 0) (cap := 1) (n := 1) (cs := [slc b10 0 ((rootText es.length (labP (fun _ => true) (mapT es) 0)).length) ((rootText es.length (labP (fun _ => true) (mapT es) 0)).length)]) (h.own.in0 (k := 0) rfl) rfl rfl (by decide) (by decide)) (byts_block (l := rootText es.length (labP (fun _ => true) (mapT es) 0)) (h.own.in0 (k := 1) rfl) (by unfold maxLen; simp <;> omega)) (hk.mono h.own.le0) (hf1.mono h.own.le0) (by simp <;> omega)))) fun a w h => ?_
    refine any_takeG (i := 25) rfl (by kernel_rfl) (fun _ _ _ _ h => h) h rfl rfl rfl rfl rfl (fun w h => p_neqS Tryd.underlying25 Tryd.underlying5 Tryd.sizeOf5 Tryd.isAgg5 Tryd.eqGuardType25 h rfl rfl (rootP_length _) (sha_length _)) fun a h => ?_
    have h := h.bool_of (t := 54) (b' := false) rfl (by simp [whole_root hmap])
    refine any_take (i := 26) rfl (by kernel_rfl) (fun _ _ _ _ h => h) h rfl (fun w h => p_pickF h rfl rfl) fun a h => ?_
    have h := h.bool_of (t := 54) (b' := false) rfl (by simp [whole_root hmap])
    refine any_end (by kernel_rfl) ?_
    refine th_n ?_
    refine c_false rfl h ?_
    refine c_skip ?_
    refine th_n ?_
    refine c_seq ?_
    refine c_seq ?_
    replace h := h.drop (List.nil_sublist _)
    refine c_region ?_
    refine stepP (p_assign h rfl) h rfl fun a w h => ?_
    refine stepEnd ?_
    refine th_n ?_
    refine c_block ?_
    refine c_loop (fun m a w => ∃ (q : Nat), m = 25 - q ∧ q ≤ 25 ∧ St S hf8 [] 98 [(5, ptr b7 0), (6, .int .i64 ((q : Nat) : Int))] a w) (N := 25 - 0) ⟨0, rfl, by omega, h.to rfl ⟨rfl, (look_int rfl (by first | rfl | omega)), trivial⟩⟩ ?_
    clear h
    rintro m a w ⟨q, rfl, hq, h⟩
    refine c_seq ?_
    refine c_seq ?_
    refine c_region ?_
    refine stepP (p_move h rfl) h rfl fun a w h => ?_
    refine stepP (p_leq h rfl rfl) h rfl fun a w h => ?_
    refine stepEnd ?_
    refine th_n ?_
    refine c_cond rfl h (fun hc12 => ?_) (fun hc12 => ?_)
    · skip
      refine c_skip ?_
      refine th_n ?_
      refine c_seq ?_
      refine c_block ?_
      refine c_seq ?_
      refine c_region ?_
      refine stepP (p_loadA (vs := (mapT es).cells yy) Tryd.isAgg46 (fun w => by rw [Tryd.sizeOf46, hty.length]) h rfl (Cels.stay ro9)) h rfl fun a w h => ?_
      refine stepP (p_move h rfl) h rfl fun a w h => ?_
      refine stepV (Enter.opT (o_call Tryd.call31 h rfl) (call_valA (c_nBelow (lv := ((q : Nat) : Int)) h.own hty (Nat.zero_le _) hkeys htg hk hf1))) h.env rfl fun a w h => ?_
      refine stepO (o_alloc (l := List.replicate 32 (.int .u8 0)) Tryd.zeroValue25 rfl h) h.env rfl ?_
      rintro b13 _ a w h
      refine stepN (o_storeA (kk := 0) (vs := (labP (fun k => decide (k.lvl < ((q : Nat) : Int))) (mapT es) 0).map B) (cs' := (labP (fun k => decide (k.lvl < ((q : Nat) : Int))) (mapT es) 0).map B) (fun w => by rw [Tryd.sizeOf25, (show ((labP (fun k => decide (k.lvl < ((q : Nat) : Int))) (mapT es) 0).map B).length = 32 by rw [List.length_map, (labP_length _ _ _)])]) h rfl rfl rfl (oneB _) rfl (by rw [(show ((labP (fun k => decide (k.lvl < ((q : Nat) : Int))) (mapT es) 0).map B).length = 32 by rw [List.length_map, (labP_length _ _ _)])]; simp) (by rw [(show ((labP (fun k => decide (k.lvl < ((q : Nat) : Int))) (mapT es) 0).map B).length = 32 by rw [List.length_map, (labP_length _ _ _)])]; simp [List.drop_of_length_le])) h.env fun a w h => ?_
      refine stepEnd ?_
      rw [← walk_zero] at h
      refine th_n ?_
      refine c_seq ?_
      refine c_seq ?_
      refine c_region ?_
      refine stepP (p_fieldAddr (r := 35) Tryd.underlying46 rfl Tryd.sizeOf44 rfl rfl h rfl) h rfl fun a w h => ?_
      refine stepP (p_load Tryd.isAgg44 h rfl (Cel.stay ro9 hty.kidsAt)) h rfl fun a w h => ?_
      refine stepP (p_lenS Tryd.underlying44 h rfl hty.kids.sl) h rfl fun a w h => ?_
      refine stepP (p_move h rfl) h rfl fun a w h => ?_
      refine stepEnd ?_
      refine th_n ?_
      refine c_block ?_
      refine c_loop (fun m a w => ∃ (i : Nat), m = (mapT es).kids.length - i ∧ i ≤ (mapT es).kids.length ∧ St S hf8 ([(b13, row 25 ((walkL es ((q : Nat) : Int) i).map B))]) 98 [(5, ptr b7 0), (6, .int .i64 ((q : Nat) : Int)), (7, ptr b13 0), (64, yy.kids), (65, .int .i64 (((mapT es).kids.length : Nat) : Int)), (66, .int .i64 ((i : Nat) : Int))] a w) (N := (mapT es).kids.length - 0) ⟨0, rfl, by omega, h.to rfl ⟨rfl, (look_int rfl (by first | rfl | omega)), rfl, rfl, (look_int rfl (by first | rfl | omega)), (look_int rfl (by first | rfl | omega)), trivial⟩⟩ ?_
      clear h
      rintro m a w ⟨i, rfl, hi, h⟩
      refine c_seq ?_
      refine c_region ?_
      refine stepP (p_lss h rfl rfl) h rfl fun a w h => ?_
      refine stepEnd ?_
      refine th_n ?_
      refine c_seq ?_
      refine c_cond rfl h (fun hc14 => ?_) (fun hc14 => ?_)
      · skip
        refine c_skip ?_
        refine th_n ?_
        refine c_seq ?_
        refine c_block ?_
        refine c_seq ?_
        refine c_region ?_
        have hi15 : i < (mapT es).kids.length := by omega
        refine stepP (p_idxS (s := 68) (j := i) Tryd.underlying44 Tryd.sizeOf29 h rfl rfl hty.kids.sl (by omega) hi15) h rfl fun a w h => ?_
        refine stepP (p_loadA (vs := ((kidAt (mapT es).kids i).at (vkAt yy.kvs i)).cells) Tryd.isAgg29 (fun w => by rw [Tryd.sizeOf29, KidV.Ok.length (hty.kids.ok hi15)]) h rfl (hty.kids.cels hi15)) h rfl fun a w h => ?_
        refine stepO (o_alloc (l := Tryd.zeroCells29.toList) Tryd.zeroValue29 rfl h) h.env rfl ?_
        rintro b16 _ a w h
        refine stepN (o_storeA (kk := 0) (vs := ((kidAt (mapT es).kids i).at (vkAt yy.kvs i)).cells) (cs' := ((kidAt (mapT es).kids i).at (vkAt yy.kvs i)).cells) (fun w => by rw [Tryd.sizeOf29, (hty.kids.ok hi15).length]) h rfl rfl rfl (KidV.Ok.one (hty.kids.ok hi15)) rfl (by rw [(hty.kids.ok hi15).length]; simp [Tryd.zeroCells29_size]) (by rw [(hty.kids.ok hi15).length]; simp [(hty.kids.ok hi15).length, Tryd.zeroCells29_size, List.drop_of_length_le])) h.env fun a w h => ?_
        refine stepEnd ?_
        have hil : i < (mapT es).kids.length := by omega
        have hkk := hty.kids.ok hil
        have hkl := hkk.label
        have hkb := hkeys _ (List.mem_of_getElem? (kidAt_get hil))
        simp only [KidP.at_label] at hkl
        refine th_n ?_
        refine c_seq ?_
        refine c_region ?_
        refine stepP (p_fieldAddr (r := 0) Tryd.underlying29 rfl Tryd.sizeOf3 rfl rfl h rfl) h rfl fun a w h => ?_
        refine stepP (p_load (v := .int .i64 (kidAt (mapT es).kids i).lvl) Tryd.isAgg3 h rfl (Cel.own (k := 0) rfl rfl)) h rfl fun a w h => ?_
        refine stepP (p_move h rfl) h rfl fun a w h => ?_
        refine stepP (p_eql h rfl rfl) h rfl fun a w h => ?_
        refine stepEnd ?_
        refine th_n ?_
        refine c_cond rfl h (fun hc17 => ?_) (fun hc17 => ?_)
        · skip
          refine c_region ?_
          refine stepP (p_loadA (vs := ((kidAt (mapT es).kids i).at (vkAt yy.kvs i)).cells) Tryd.isAgg29 (fun w => by rw [Tryd.sizeOf29]; simp [(hty.kids.ok hi15).length]) h rfl (Cels.all (k := 0) rfl)) h rfl fun a w h => ?_
          refine stepP (p_loadA (vs := (walkL es ((q : Nat) : Int) i).map B) Tryd.isAgg25 (fun w => by rw [Tryd.sizeOf25, List.length_map, (walkL_length _ _ _)]) h rfl (Cels.all (k := 1) rfl)) h rfl fun a w h => ?_
          refine stepO (Enter.opT (o_call Tryd.call12 h rfl) (call_out0 h.own (c_NPairText h.own.lend0 (htg.mono h.own.le0) ((hty.kids.ok hi15).mono h.own.le0) (walkL_length _ _ _) (by omega)))) h.env rfl ?_
          rintro b18 _ a w h
          refine stepO (o_buildSlice (vs := [slc b18 0 ((pairText (kidAt (mapT es).kids i).lvl ((kidAt (mapT es).kids i).key) (kidAt (mapT es).kids i).cnt (kidAt (mapT es).kids i).label (walkL es ((q : Nat) : Int) i)).length) ((pairText (kidAt (mapT es).kids i).lvl ((kidAt (mapT es).kids i).key) (kidAt (mapT es).kids i).cnt (kidAt (mapT es).kids i).label (walkL es ((q : Nat) : Int) i)).length)]) Tryd.underlying39 Tryd.sizeOf22 Tryd.zeroValue22 h rfl rfl (by simp [Value.cells]) rfl rfl rfl) h.env rfl ?_
          rintro b19 _ a w h
          refine stepV (Enter.opT (o_call Tryd.call44 h rfl) (call_val0 h.own (c_dOf1 h.own.lend0 (Sl.row (s := 1) (o := 0) (cap := 1) (n := 1) (cs := [slc b18 0 ((pairText (kidAt (mapT es).kids i).lvl ((kidAt (mapT es).kids i).key) (kidAt (mapT es).kids i).cnt (kidAt (mapT es).kids i).label (walkL es ((q : Nat) : Int) i)).length) ((pairText (kidAt (mapT es).kids i).lvl ((kidAt (mapT es).kids i).key) (kidAt (mapT es).kids i).cnt (kidAt (mapT es).kids i).label (walkL es ((q : Nat) : Int) i)).length)]) (h.own.in0 (k := 0) rfl) rfl rfl (by decide) (by decide)) (byts_block (l := pairText (kidAt (mapT es).kids i).lvl ((kidAt (mapT es).kids i).key) (kidAt (mapT es).kids i).cnt (kidAt (mapT es).kids i).label (walkL es ((q : Nat) : Int) i)) (h.own.in0 (k := 1) rfl) (by unfold maxLen; simp <;> omega)) (hk.mono h.own.le0) (hf1.mono h.own.le0) (by simp <;> omega)))) h.env rfl fun a w h => ?_
          refine stepN (o_storeA (kk := 3) (vs := (sha (pairText (kidAt (mapT es).kids i).lvl ((kidAt (mapT es).kids i).key) (kidAt (mapT es).kids i).cnt (kidAt (mapT es).kids i).label (walkL es ((q : Nat) : Int) i))).map B) (cs' := (sha (pairText (kidAt (mapT es).kids i).lvl ((kidAt (mapT es).kids i).key) (kidAt (mapT es).kids i).cnt (kidAt (mapT es).kids i).label (walkL es ((q : Nat) : Int) i))).map B) (fun w => by rw [Tryd.sizeOf25, (show ((sha (pairText (kidAt (mapT es).kids i).lvl ((kidAt (mapT es).kids i).key) (kidAt (mapT es).kids i).cnt (kidAt (mapT es).kids i).label (walkL es ((q : Nat) : Int) i))).map B).length = 32 by rw [List.length_map, (sha_length _)])]) h rfl rfl rfl (oneB _) rfl (by rw [(show ((sha (pairText (kidAt (mapT es).kids i).lvl ((kidAt (mapT es).kids i).key) (kidAt (mapT es).kids i).cnt (kidAt (mapT es).kids i).label (walkL es ((q : Nat) : Int) i))).map B).length = 32 by rw [List.length_map, (sha_length _)]), List.length_map, (walkL_length _ _ _)]; decide) (by rw [(show ((sha (pairText (kidAt (mapT es).kids i).lvl ((kidAt (mapT es).kids i).key) (kidAt (mapT es).kids i).cnt (kidAt (mapT es).kids i).label (walkL es ((q : Nat) : Int) i))).map B).length = 32 by rw [List.length_map, (sha_length _)]), List.drop_of_length_le (by rw [List.length_map, (walkL_length _ _ _)]; decide)]; simp)) h.env fun a w h => ?_
          refine stepEnd ?_
          refine bl_n ?_
          refine th_n ?_
          replace h := St.pick (xs := [(b13, row 25 ((sha (pairText (kidAt (mapT es).kids i).lvl ((kidAt (mapT es).kids i).key) (kidAt (mapT es).kids i).cnt (kidAt (mapT es).kids i).label (walkL es ((q : Nat) : Int) i))).map B))]) h [3] (by decide) rfl
          rw [show sha (pairText (kidAt (mapT es).kids i).lvl (kidAt (mapT es).kids i).key (kidAt (mapT es).kids i).cnt (kidAt (mapT es).kids i).label (walkL es ((q : Nat) : Int) i)) = (walkL es ((q : Nat) : Int) (i + 1)) from walk_yes hil hc17] at h
          refine c_region ?_
          refine stepP (p_add h rfl rfl (wi (by omega))) h rfl fun a w h => ?_
          refine stepP (p_move h rfl) h rfl fun a w h => ?_
          refine stepEnd ?_
          exact th_n ⟨_, by omega, i + 1, rfl, by omega, h.to rfl ⟨rfl, (look_int rfl (by first | rfl | omega)), rfl, rfl, (look_int rfl (by first | rfl | omega)), (look_int rfl (by first | rfl | omega)), trivial⟩⟩
        · skip
          refine c_skip ?_
          refine bl_n ?_
          refine th_n ?_
          replace h := St.pick (xs := [(b13, row 25 ((walkL es ((q : Nat) : Int) i).map B))]) h [1] (by decide) rfl
          rw [walk_no hil hc17] at h
          refine c_region ?_
          refine stepP (p_add h rfl rfl (wi (by omega))) h rfl fun a w h => ?_
          refine stepP (p_move h rfl) h rfl fun a w h => ?_
          refine stepEnd ?_
          exact th_n ⟨_, by omega, i + 1, rfl, by omega, h.to rfl ⟨rfl, (look_int rfl (by first | rfl | omega)), rfl, rfl, (look_int rfl (by first | rfl | omega)), (look_int rfl (by first | rfl | omega)), trivial⟩⟩
      · skip
        refine c_exit (th_e (th_e (exit_at ?_)))
        refine th_n ?_
        refine c_seq ?_
        have hin : i = (mapT es).kids.length := by omega
        rw [hin, walk_end hmap] at h
        have hleo := hle
        have hle := Hp.le_refl hf8
        obtain ⟨hf20, hlef20, hinf20, hbkf20, h⟩ := h.freeze
        replace htg := htg.mono hlef20
        replace hk := hk.mono hlef20
        replace hf1 := hf1.mono hlef20
        replace hes := hes.mono hlef20
        replace hty := hty.mono hlef20
        replace ro3 := hlef20 _ _ ro3
        replace ro9 := hlef20 _ _ ro9
        replace hle := Hp.le_trans hle hlef20
        have ro21 : hf20 b13 = some (row 25 ((labP (fun k => decide (k.lvl < ((q : Nat) : Int) + 1)) (mapT es) 0).map B)) := hinf20 _ _ (List.mem_of_getElem? (i := 0) rfl)
        refine any_begin (N := 6) (by kernel_rfl) rfl h ?_
        clear h; intro w h
        refine any_take (i := 0) rfl (by kernel_rfl) (fun _ _ _ _ h => h) h rfl (fun w h => p_loadA (vs := (mapT es).cells yy) Tryd.isAgg46 (fun w => by rw [Tryd.sizeOf46, hty.length]) h rfl (Cels.stay ro9)) fun a h => ?_
        refine any_take (i := 1) rfl (by kernel_rfl) (fun _ _ _ _ h => h) h rfl (fun w h => p_move h rfl) fun a h => ?_
        refine any_take (i := 2) rfl (by kernel_rfl) (fun _ _ _ _ h => h) h rfl (fun w h => p_add h rfl rfl (wi (by omega))) fun a h => ?_
        refine any_take (i := 4) rfl (by kernel_rfl) (fun _ _ _ _ h => h) h rfl (fun w h => p_loadA (vs := (labP (fun k => decide (k.lvl < ((q : Nat) : Int) + 1)) (mapT es) 0).map B) Tryd.isAgg25 (fun w => by rw [Tryd.sizeOf25, List.length_map, (labP_length _ _ _)]) h rfl (Cels.stay ro21)) fun a h => ?_
        refine any_one (i := 3) (by kernel_rfl) ?_
        refine any_V rfl h.env rfl (Enter.opT (o_call Tryd.call31 h rfl) (call_valA (c_nBelow (lv := ((q : Nat) : Int) + 1) h.own hty (Nat.zero_le _) hkeys htg hk hf1))) fun a w h => ?_
        refine any_take (i := 5) rfl (by kernel_rfl) (fun _ _ _ _ h => h) h rfl (fun w h => p_neqS Tryd.underlying25 Tryd.underlying5 Tryd.sizeOf5 Tryd.isAgg5 Tryd.eqGuardType25 h rfl rfl (labP_length _ _ _) (labP_length _ _ _)) fun a h => ?_
        have h := h.bool_of (t := 85) (b' := false) rfl (by simp)
        refine any_end (by kernel_rfl) ?_
        refine th_n ?_
        refine c_false rfl h ?_
        refine c_skip ?_
        refine bl_n ?_
        refine th_n ?_
        replace h := h.re (h.own.weaken hle)
        refine c_region ?_
        refine stepP (p_move h rfl) h rfl fun a w h => ?_
        refine stepP (p_add h rfl rfl (wi (by omega))) h rfl fun a w h => ?_
        refine stepP (p_assign h rfl) h rfl fun a w h => ?_
        refine stepEnd ?_
        exact th_n ⟨_, by omega, q + 1, rfl, by omega, h.to rfl ⟨rfl, (look_int rfl (by first | rfl | omega)), trivial⟩⟩
    · skip
      refine c_exit (th_e (th_e (exit_at ?_)))
      refine th_n ?_
      refine c_seq ?_
      refine region_quiet (by kernel_rfl) (by kernel_rfl) h ?_
      have he := h.env
      clear h
      refine stepQ he (fun w h => p_loadA (vs := (mapT es).cells yy) Tryd.isAgg46 (fun w => by rw [Tryd.sizeOf46, hty.length]) h rfl (Cels.stay ro9)) rfl fun a he => ?_
      refine stepQC he (fun w h => o_call Tryd.call31 h rfl) (fun w ho => (c_nBelow (lv := 0) ho hty (Nat.zero_le _) hkeys htg hk hf1)) rfl fun a he => ?_
      refine stepQ he (fun w h => p_loadA (vs := (mapT es).cells yy) Tryd.isAgg46 (fun w => by rw [Tryd.sizeOf46, hty.length]) h rfl (Cels.stay ro9)) rfl fun a he => ?_
      refine stepQC he (fun w h => o_call Tryd.call29 h rfl) (fun w ho => (c_nOwn ho hty (Nat.zero_le _) hkeys htg hk hf1)) rfl fun a he => ?_
      refine stepQ he (fun w h => p_eqlS Tryd.underlying25 Tryd.underlying5 Tryd.sizeOf5 Tryd.isAgg5 Tryd.eqGuardType25 h rfl rfl (labP_length _ _ _) (ownL_length _)) rfl fun a he => ?_
      have he := he.bool_of (t := 90) (b' := true) rfl (by simp [below_zero])
      refine stepQ he (fun w h => p_move h rfl) rfl fun a he => ?_
      have he := he.bool_of (t := 90) (b' := true) rfl (by simp [below_zero])
      refine stepQG rfl rfl rfl rfl he (fun w h => p_loadA (vs := (mapT es).cells yy) Tryd.isAgg46 (fun w => by rw [Tryd.sizeOf46, hty.length]) h rfl (Cels.stay ro9)) rfl fun a he => ?_
      refine stepQGC rfl rfl rfl rfl he (fun w h => o_call Tryd.call31 h rfl) (fun w ho => (c_nBelow (lv := 24) ho hty (Nat.zero_le _) hkeys htg hk hf1)) rfl fun a he => ?_
      refine stepQG rfl rfl rfl rfl he (fun w h => p_loadA (vs := (mapT es).cells yy) Tryd.isAgg46 (fun w => by rw [Tryd.sizeOf46, hty.length]) h rfl (Cels.stay ro9)) rfl fun a he => ?_
      refine stepQGC rfl rfl rfl rfl he (fun w h => o_call Tryd.call33 h rfl) (fun w ho => (c_nLabel ho hty (Nat.zero_le _) hkeys htg hk hf1)) rfl fun a he => ?_
      refine stepQG rfl rfl rfl rfl he (fun w h => p_eqlS Tryd.underlying25 Tryd.underlying5 Tryd.sizeOf5 Tryd.isAgg5 Tryd.eqGuardType25 h rfl rfl (labP_length _ _ _) (labP_length _ _ _)) rfl fun a he => ?_
      have he := he.bool_of (t := 96) (b' := true) rfl (by simp [below_top])
      refine stepQ he (fun w h => p_pickT h rfl rfl) rfl fun a he => ?_
      have he := he.bool_of (t := 96) (b' := true) rfl (by simp [below_top])
      refine stepQ he (fun w h => p_assign h rfl) rfl fun a he => ?_
      have he := he.bool_of (t := 96) (b' := true) rfl (by simp [below_top])
      refine stepQEnd he fun w h => ?_
      refine th_n ?_
      refine c_ret ?_
      exact fin1 (.inl rfl) h rfl rfl ⟨rfl, h.own.none.weaken hle⟩

end Go.Proofs.YtkklgmhmhhbjkaaDoor
