/-
  WHAT EACH CALL COMES TO: the map without keys, the map of one. Printed by the own generator (wip/gen), one law of the own library for each operation.
-/
import Derived.Test.YtkklgmhmhhbjkaaDoorKitW
import Derived.Test.YtkklgmhmhhbjkaaDoorProg
import Derived.Test.YtkklgmhmhhbjkaaDoorFnA
import Derived.Test.YtkklgmhmhhbjkaaDoorFnB
import Derived.Test.YtkklgmhmhhbjkaaDoorFnHei
import Derived.Test.YtkklgmhmhhbjkaaDoorFnTow
import Derived.Test.YtkklgmhmhhbjkaaDoorFnLab
import Derived.Test.YtkklgmhmhhbjkaaDoorFnHang
import Derived.Test.YtkklgmhmhhbjkaaDoorFnRoot
namespace Go.Proofs.YtkklgmhmhhbjkaaDoor
open Go Go.Own Go.Proofs
set_option maxRecDepth 100000
set_option linter.unusedVariables false

set_option maxHeartbeats 1000000 in
theorem c_alone {S : World} {hf : Hp} {w : World} (ho : Owns S hf [] w) (htg : TagsAt 0 hf) (hk : RoundsAt 3 hf) (hf1 : FirstAt 1 hf) :
    Calls Tryd.prog 41 ([] : List Value).toArray w (RetV S hf [] (.bool true)) := by
  refine enter (n := 68) (E := []) Tryd.func41 rfl Tryd.ntmps41 rfl rfl ho fun a h => ?_
  have hle := Hp.le_refl hf
  refine c_seq ?_
  refine c_region ?_
  refine stepP (p_assign h rfl) h rfl fun a w h => ?_
  refine stepEnd ?_
  refine th_n ?_
  refine c_seq ?_
  refine c_region ?_
  refine stepV (Enter.opT (o_call Tryd.call38 h rfl) (call_valA (c_nRoot (es := []) (evs := []) h.own ⟨Sl.nil, rfl, fun i e u h _ => by simp at h⟩ (by decide) htg hk hf1))) h.env rfl fun a w h => ?_
  refine stepP (p_move h rfl) h rfl fun a w h => ?_
  refine stepP (p_extract h rfl rfl) h rfl fun a w h => ?_
  refine stepP (p_extract h rfl rfl) h rfl fun a w h => ?_
  refine stepO (o_alloc (l := List.replicate 32 (.int .u8 0)) Tryd.zeroValue25 rfl h) h.env rfl ?_
  rintro b1 _ a w h
  refine stepN (o_storeA (kk := 0) (vs := (rootP []).map B) (cs' := (rootP []).map B) (fun w => by rw [Tryd.sizeOf25, (show ((rootP []).map B).length = 32 by rw [List.length_map, (rootP_length _)])]) h rfl rfl rfl (oneB _) rfl (by rw [(show ((rootP []).map B).length = 32 by rw [List.length_map, (rootP_length _)])]; simp) (by rw [(show ((rootP []).map B).length = 32 by rw [List.length_map, (rootP_length _)])]; simp [List.drop_of_length_le])) h.env fun a w h => ?_
  refine stepP (p_assign h rfl) h rfl fun a w h => ?_
  refine stepEnd ?_
  obtain ⟨hf2, hlef2, hinf2, hbkf2, h⟩ := h.freeze
  replace htg := htg.mono hlef2
  replace hk := hk.mono hlef2
  replace hf1 := hf1.mono hlef2
  replace hle := Hp.le_trans hle hlef2
  have ro3 : hf2 b1 = some (row 25 ((rootP []).map B)) := hinf2 _ _ (List.mem_of_getElem? (i := 0) rfl)
  refine th_n ?_
  refine c_seq ?_
  refine c_seq ?_
  refine any_begin (N := 12) (by kernel_rfl) rfl h ?_
  clear h; intro w h
  refine any_take (i := 0) rfl (by kernel_rfl) (fun _ _ _ _ h => h) h rfl (fun w h => p_move h rfl) fun a h => ?_
  refine any_take (i := 1) rfl (by kernel_rfl) (fun _ _ _ _ h => h) h rfl (fun w h => p_neq h rfl rfl) fun a h => ?_
  refine any_take (i := 2) rfl (by kernel_rfl) (fun _ _ _ _ h => h) h rfl (fun w h => p_move h rfl) fun a h => ?_
  refine any_takeG (i := 3) rfl (by kernel_rfl) (fun _ _ _ _ h => h) h rfl rfl rfl rfl rfl (fun w h => p_loadA (vs := (rootP []).map B) Tryd.isAgg25 (fun w => by rw [Tryd.sizeOf25, List.length_map, (rootP_length _)]) h rfl (Cels.stay ro3)) fun a h => ?_
  refine any_one (i := 4) (by kernel_rfl) ?_
  refine any_GO rfl h.env rfl rfl rfl rfl rfl (Enter.opT (o_call Tryd.call13 h rfl) (call_outA (c_NHeadText h.own htg))) ?_
  rintro b4 _ a w h
  refine any_one (i := 5) (by kernel_rfl) ?_
  refine any_GO rfl h.env rfl rfl rfl rfl rfl (o_buildSlice (vs := [slc b4 0 headText.length headText.length]) Tryd.underlying39 Tryd.sizeOf22 Tryd.zeroValue22 h rfl rfl (by simp [Value.cells]) rfl rfl rfl) ?_
  rintro b5 _ a w h
  refine any_one (i := 6) (by kernel_rfl) ?_
  refine any_GV rfl h.env rfl rfl rfl rfl rfl (Enter.opT (o_call Tryd.call44 h rfl) (call_val0 h.own (c_dOf1 h.own.lend0 (Sl.row (s := 1) (o := 0) (cap := 1) (n := 1) (cs := [slc b4 0 headText.length headText.length]) (h.own.in0 (k := 0) rfl) rfl rfl (by decide) (by decide)) (byts_block (l := headText) (h.own.in0 (k := 1) rfl) (by unfold maxLen; simp <;> omega)) (hk.mono h.own.le0) (hf1.mono h.own.le0) (by simp <;> omega)))) fun a w h => ?_
  refine any_one (i := 7) (by kernel_rfl) ?_
  refine any_GO rfl h.env rfl rfl rfl rfl rfl (Enter.opT (o_call Tryd.call14 h rfl) (call_out0 h.own (c_NRootText (q := 0) h.own.lend0 (htg.mono h.own.le0) (by first | omega | decide) (sha_length _)))) ?_
  rintro b6 _ a w h
  refine any_one (i := 8) (by kernel_rfl) ?_
  refine any_GO rfl h.env rfl rfl rfl rfl rfl (o_buildSlice (vs := [slc b6 0 ((rootText 0 (sha headText)).length) ((rootText 0 (sha headText)).length)]) Tryd.underlying39 Tryd.sizeOf22 Tryd.zeroValue22 h rfl rfl (by simp [Value.cells]) rfl rfl rfl) ?_
  rintro b7 _ a w h
  refine any_one (i := 9) (by kernel_rfl) ?_
  refine any_GV rfl h.env rfl rfl rfl rfl rfl (Enter.opT (o_call Tryd.call44 h rfl) (call_val0 h.own (c_dOf1 h.own.lend0 (Sl.row (s := 1) (o := 0) (cap := 1) (n := 1) (cs := [slc b6 0 ((rootText 0 (sha headText)).length) ((rootText 0 (sha headText)).length)]) (h.own.in0 (k := 0) rfl) rfl rfl (by decide) (by decide)) (byts_block (l := rootText 0 (sha headText)) (h.own.in0 (k := 1) rfl) (by unfold maxLen; simp <;> omega)) (hk.mono h.own.le0) (hf1.mono h.own.le0) (by simp <;> omega)))) fun a w h => ?_
  refine any_takeG (i := 10) rfl (by kernel_rfl) (fun _ _ _ _ h => h) h rfl rfl rfl rfl rfl (fun w h => p_neqS Tryd.underlying25 Tryd.underlying5 Tryd.sizeOf5 Tryd.isAgg5 Tryd.eqGuardType25 h rfl rfl (rootP_length _) (sha_length _)) fun a h => ?_
  have h := h.bool_of (t := 19) (b' := false) rfl (by simp [rootP_none])
  refine any_take (i := 11) rfl (by kernel_rfl) (fun _ _ _ _ h => h) h rfl (fun w h => p_pickF h rfl rfl) fun a h => ?_
  have h := h.bool_of (t := 19) (b' := false) rfl (by simp [rootP_none])
  refine any_end (by kernel_rfl) ?_
  refine th_n ?_
  refine c_false rfl h ?_
  refine c_skip ?_
  refine th_n ?_
  refine c_seq ?_
  replace h := h.drop (List.nil_sublist _)
  refine c_region ?_
  refine stepO (o_buildSlice (vs := ([97] : List UInt8).map B) Tryd.underlying22 Tryd.sizeOf5 Tryd.zeroValue5 h rfl rfl (by simp [Value.cells]) rfl rfl rfl) h.env rfl ?_
  rintro b8 _ a w h
  refine stepV (o_markS (kk := 0) Tryd.underlying22 Tryd.underlying5 h rfl rfl) h.env rfl fun a w h => ?_
  obtain ⟨hf9, hlef9, hinf9, hbkf9, h⟩ := h.freeze
  replace htg := htg.mono hlef9
  replace hk := hk.mono hlef9
  replace hf1 := hf1.mono hlef9
  replace ro3 := hlef9 _ _ ro3
  replace hle := Hp.le_trans hle hlef9
  have hby10 : Byts hf9 (slc b8 0 1 1) ([97] : List UInt8) := byts_cells (hinf9 _ _ (List.mem_singleton.2 rfl)) (by decide)
  refine stepO (o_buildSlice (vs := ([49] : List UInt8).map B) Tryd.underlying22 Tryd.sizeOf5 Tryd.zeroValue5 h rfl rfl (by simp [Value.cells]) rfl rfl rfl) h.env rfl ?_
  rintro b11 _ a w h
  refine stepV (o_markS (kk := 0) Tryd.underlying22 Tryd.underlying5 h rfl rfl) h.env rfl fun a w h => ?_
  obtain ⟨hf12, hlef12, hinf12, hbkf12, h⟩ := h.freeze
  replace htg := htg.mono hlef12
  replace hk := hk.mono hlef12
  replace hf1 := hf1.mono hlef12
  replace hby10 := hby10.mono hlef12
  replace ro3 := hlef12 _ _ ro3
  replace hle := Hp.le_trans hle hlef12
  have hby13 : Byts hf12 (slc b11 0 1 1) ([49] : List UInt8) := byts_cells (hinf12 _ _ (List.mem_singleton.2 rfl)) (by decide)
  refine stepP (p_build (pl := [(0, 1), (1, 1)]) (out := [slc b8 0 1 1, slc b11 0 1 1]) Tryd.underlying65 Tryd.type65 rfl (by kernel_rfl) h rfl (ent_filled rfl rfl rfl)) h rfl fun a w h => ?_
  refine stepO (o_buildSlice_one (vs := [slc b8 0 1 1, slc b11 0 1 1]) Tryd.underlying57 Tryd.sizeOf65 Tryd.zeroValue65 (by kernel_rfl) h rfl rfl rfl rfl rfl) h.env rfl ?_
  rintro b14 _ a w h
  obtain ⟨hf15, hlef15, hinf15, hbkf15, h⟩ := h.freeze
  replace htg := htg.mono hlef15
  replace hk := hk.mono hlef15
  replace hf1 := hf1.mono hlef15
  replace hby10 := hby10.mono hlef15
  replace hby13 := hby13.mono hlef15
  replace ro3 := hlef15 _ _ ro3
  replace hle := Hp.le_trans hle hlef15
  have ro16 : hf15 b14 = some (row 65 ([slc b8 0 1 1, slc b11 0 1 1])) := hinf15 _ _ (List.mem_of_getElem? (i := 0) rfl)
  have hents : EntsOk hf15 [entA] (slc b14 0 1 1) [((slc b8 0 1 1), (slc b11 0 1 1))] := ⟨Sl.row (o := 0) (cs := [slc b8 0 1 1, slc b11 0 1 1]) ro16 rfl rfl (by decide) (by decide), rfl, fun i e u h1 h2 => by cases i with | zero => (cases h1; cases h2; exact ⟨hby10, hby13⟩) | succ i => simp at h1⟩
  refine stepV (Enter.opT (o_call Tryd.call38 h rfl) (call_valA (fit_one ▸ c_nRoot (es := [entA]) h.own hents (by decide) htg hk hf1))) h.env rfl fun a w h => ?_
  refine stepP (p_move h rfl) h rfl fun a w h => ?_
  refine stepP (p_extract h rfl rfl) h rfl fun a w h => ?_
  refine stepP (p_extract h rfl rfl) h rfl fun a w h => ?_
  refine stepO (o_alloc (l := List.replicate 32 (.int .u8 0)) Tryd.zeroValue25 rfl h) h.env rfl ?_
  rintro b17 _ a w h
  refine stepN (o_storeA (kk := 0) (vs := (rootP [entA]).map B) (cs' := (rootP [entA]).map B) (fun w => by rw [Tryd.sizeOf25, (show ((rootP [entA]).map B).length = 32 by rw [List.length_map, (rootP_length _)])]) h rfl rfl rfl (oneB _) rfl (by rw [(show ((rootP [entA]).map B).length = 32 by rw [List.length_map, (rootP_length _)])]; simp) (by rw [(show ((rootP [entA]).map B).length = 32 by rw [List.length_map, (rootP_length _)])]; simp [List.drop_of_length_le])) h.env fun a w h => ?_
  refine stepP (p_assign h rfl) h rfl fun a w h => ?_
  refine stepEnd ?_
  obtain ⟨hf18, hlef18, hinf18, hbkf18, h⟩ := h.freeze
  replace htg := htg.mono hlef18
  replace hk := hk.mono hlef18
  replace hf1 := hf1.mono hlef18
  replace hby10 := hby10.mono hlef18
  replace hby13 := hby13.mono hlef18
  replace ro3 := hlef18 _ _ ro3
  replace ro16 := hlef18 _ _ ro16
  replace hle := Hp.le_trans hle hlef18
  have ro19 : hf18 b17 = some (row 25 ((rootP [entA]).map B)) := hinf18 _ _ (List.mem_of_getElem? (i := 0) rfl)
  refine th_n ?_
  refine c_seq ?_
  refine c_region ?_
  refine stepO (o_buildSlice (vs := ([97] : List UInt8).map B) Tryd.underlying22 Tryd.sizeOf5 Tryd.zeroValue5 h rfl rfl (by simp [Value.cells]) rfl rfl rfl) h.env rfl ?_
  rintro b20 _ a w h
  refine stepV (o_markS (kk := 0) Tryd.underlying22 Tryd.underlying5 h rfl rfl) h.env rfl fun a w h => ?_
  obtain ⟨hf21, hlef21, hinf21, hbkf21, h⟩ := h.freeze
  replace htg := htg.mono hlef21
  replace hk := hk.mono hlef21
  replace hf1 := hf1.mono hlef21
  replace hby10 := hby10.mono hlef21
  replace hby13 := hby13.mono hlef21
  replace ro3 := hlef21 _ _ ro3
  replace ro16 := hlef21 _ _ ro16
  replace ro19 := hlef21 _ _ ro19
  replace hle := Hp.le_trans hle hlef21
  have hby22 : Byts hf21 (slc b20 0 1 1) ([97] : List UInt8) := byts_cells (hinf21 _ _ (List.mem_singleton.2 rfl)) (by decide)
  refine stepV (Enter.opT (o_call Tryd.call23 h rfl) (call_valA (c_nHeight h.own htg hk hf1 hby22 (by decide)))) h.env rfl fun a w h => ?_
  refine stepP (p_sub (r := (height [97] : Int) - 1) h rfl rfl (wi (by have := height_hi [97]; omega))) h rfl fun a w h => ?_
  refine stepO (o_buildSlice (vs := ([97] : List UInt8).map B) Tryd.underlying22 Tryd.sizeOf5 Tryd.zeroValue5 h rfl rfl (by simp [Value.cells]) rfl rfl rfl) h.env rfl ?_
  rintro b23 _ a w h
  refine stepV (o_markS (kk := 0) Tryd.underlying22 Tryd.underlying5 h rfl rfl) h.env rfl fun a w h => ?_
  obtain ⟨hf24, hlef24, hinf24, hbkf24, h⟩ := h.freeze
  replace htg := htg.mono hlef24
  replace hk := hk.mono hlef24
  replace hf1 := hf1.mono hlef24
  replace hby10 := hby10.mono hlef24
  replace hby13 := hby13.mono hlef24
  replace hby22 := hby22.mono hlef24
  replace ro3 := hlef24 _ _ ro3
  replace ro16 := hlef24 _ _ ro16
  replace ro19 := hlef24 _ _ ro19
  replace hle := Hp.le_trans hle hlef24
  have hby25 : Byts hf24 (slc b23 0 1 1) ([97] : List UInt8) := byts_cells (hinf24 _ _ (List.mem_singleton.2 rfl)) (by decide)
  refine stepO (o_buildSlice (vs := ([97] : List UInt8).map B) Tryd.underlying22 Tryd.sizeOf5 Tryd.zeroValue5 h rfl rfl (by simp [Value.cells]) rfl rfl rfl) h.env rfl ?_
  rintro b26 _ a w h
  refine stepV (o_markS (kk := 0) Tryd.underlying22 Tryd.underlying5 h rfl rfl) h.env rfl fun a w h => ?_
  obtain ⟨hf27, hlef27, hinf27, hbkf27, h⟩ := h.freeze
  replace htg := htg.mono hlef27
  replace hk := hk.mono hlef27
  replace hf1 := hf1.mono hlef27
  replace hby10 := hby10.mono hlef27
  replace hby13 := hby13.mono hlef27
  replace hby22 := hby22.mono hlef27
  replace hby25 := hby25.mono hlef27
  replace ro3 := hlef27 _ _ ro3
  replace ro16 := hlef27 _ _ ro16
  replace ro19 := hlef27 _ _ ro19
  replace hle := Hp.le_trans hle hlef27
  have hby28 : Byts hf27 (slc b26 0 1 1) ([97] : List UInt8) := byts_cells (hinf27 _ _ (List.mem_singleton.2 rfl)) (by decide)
  refine stepO (o_buildSlice (vs := ([1, 49] : List UInt8).map B) Tryd.underlying22 Tryd.sizeOf5 Tryd.zeroValue5 h rfl rfl (by simp [Value.cells]) rfl rfl rfl) h.env rfl ?_
  rintro b29 _ a w h
  refine stepV (o_markS (kk := 0) Tryd.underlying22 Tryd.underlying5 h rfl rfl) h.env rfl fun a w h => ?_
  obtain ⟨hf30, hlef30, hinf30, hbkf30, h⟩ := h.freeze
  replace htg := htg.mono hlef30
  replace hk := hk.mono hlef30
  replace hf1 := hf1.mono hlef30
  replace hby10 := hby10.mono hlef30
  replace hby13 := hby13.mono hlef30
  replace hby22 := hby22.mono hlef30
  replace hby25 := hby25.mono hlef30
  replace hby28 := hby28.mono hlef30
  replace ro3 := hlef30 _ _ ro3
  replace ro16 := hlef30 _ _ ro16
  replace ro19 := hlef30 _ _ ro19
  replace hle := Hp.le_trans hle hlef30
  have hby31 : Byts hf30 (slc b29 0 2 2) ([1, 49] : List UInt8) := byts_cells (hinf30 _ _ (List.mem_singleton.2 rfl)) (by decide)
  refine stepO (o_buildSlice (vs := [(slc b29 0 2 2)]) Tryd.underlying39 Tryd.sizeOf22 Tryd.zeroValue22 h rfl rfl (by simp [Value.cells]) rfl rfl rfl) h.env rfl ?_
  rintro b32 _ a w h
  refine stepV (Enter.opT (o_call Tryd.call44 h rfl) (call_val0 h.own (c_dOf1 (l := ([1, 49] : List UInt8)) h.own.lend0 (Sl.row (s := 1) (o := 0) (cap := 1) (n := 1) (cs := [(slc b29 0 2 2)]) (h.own.in0 (k := 0) rfl) rfl rfl (by decide) (by decide)) (hby31.mono h.own.le0) (hk.mono h.own.le0) (hf1.mono h.own.le0) (by simp <;> omega)))) h.env rfl fun a w h => ?_
  refine stepO (Enter.opT (o_call Tryd.call11 h rfl) (call_out0 h.own (c_NLeafText h.own.lend0 (htg.mono h.own.le0) (hby28.mono h.own.le0) (sha_length _) (by decide)))) h.env rfl ?_
  rintro b33 _ a w h
  refine stepO (o_buildSlice (vs := [slc b33 0 ((leafText ([97] : List UInt8) (sha ([1, 49] : List UInt8))).length) ((leafText ([97] : List UInt8) (sha ([1, 49] : List UInt8))).length)]) Tryd.underlying39 Tryd.sizeOf22 Tryd.zeroValue22 h rfl rfl (by simp [Value.cells]) rfl rfl rfl) h.env rfl ?_
  rintro b34 _ a w h
  refine stepV (Enter.opT (o_call Tryd.call44 h rfl) (call_val0 h.own (c_dOf1 h.own.lend0 (Sl.row (s := 1) (o := 0) (cap := 1) (n := 1) (cs := [slc b33 0 ((leafText ([97] : List UInt8) (sha ([1, 49] : List UInt8))).length) ((leafText ([97] : List UInt8) (sha ([1, 49] : List UInt8))).length)]) (h.own.in0 (k := 0) rfl) rfl rfl (by decide) (by decide)) (byts_block (l := leafText ([97] : List UInt8) (sha ([1, 49] : List UInt8))) (h.own.in0 (k := 1) rfl) (by unfold maxLen; simp <;> omega)) (hk.mono h.own.le0) (hf1.mono h.own.le0) (by simp <;> omega)))) h.env rfl fun a w h => ?_
  refine stepP (p_build (pl := [(0, 1), (1, 1), (2, 1), (3, 33), (36, 32)]) (out := (kidA.at (slc b23 0 1 1)).cells) Tryd.underlying29 Tryd.type29 rfl (by kernel_rfl) h rfl (kid_filled4 (k := kidA) rfl rfl rfl rfl (sha_length _))) h rfl fun a w h => ?_
  refine stepO (o_alloc (l := Tryd.zeroCells29.toList) Tryd.zeroValue29 rfl h) h.env rfl ?_
  rintro b35 _ a w h
  refine stepN (o_storeA (kk := 0) (vs := (kidA.at (slc b23 0 1 1)).cells) (cs' := (kidA.at (slc b23 0 1 1)).cells) (fun w => by rw [Tryd.sizeOf29, (kidA_ok hby25).length]) h rfl rfl rfl (KidV.Ok.one (kidA_ok hby25)) rfl (by rw [(kidA_ok hby25).length]; simp [Tryd.zeroCells29_size]) (by rw [(kidA_ok hby25).length]; simp [(kidA_ok hby25).length, Tryd.zeroCells29_size, List.drop_of_length_le])) h.env fun a w h => ?_
  refine stepEnd ?_
  obtain ⟨hf36, hlef36, hinf36, hbkf36, h⟩ := h.freeze
  replace htg := htg.mono hlef36
  replace hk := hk.mono hlef36
  replace hf1 := hf1.mono hlef36
  replace hby10 := hby10.mono hlef36
  replace hby13 := hby13.mono hlef36
  replace hby22 := hby22.mono hlef36
  replace hby25 := hby25.mono hlef36
  replace hby28 := hby28.mono hlef36
  replace hby31 := hby31.mono hlef36
  replace ro3 := hlef36 _ _ ro3
  replace ro16 := hlef36 _ _ ro16
  replace ro19 := hlef36 _ _ ro19
  replace hle := Hp.le_trans hle hlef36
  have ro37 : hf36 b35 = some (row 29 ((kidA.at (slc b23 0 1 1)).cells)) := hinf36 _ _ (List.mem_of_getElem? (i := 0) rfl)
  have ro38 : hf36 b34 = some (row 22 ([slc b33 0 ((leafText ([97] : List UInt8) (sha ([1, 49] : List UInt8))).length) ((leafText ([97] : List UInt8) (sha ([1, 49] : List UInt8))).length)])) := hinf36 _ _ (List.mem_of_getElem? (i := 1) rfl)
  have ro39 : hf36 b33 = some (row 5 ((leafText ([97] : List UInt8) (sha ([1, 49] : List UInt8))).map B)) := hinf36 _ _ (List.mem_of_getElem? (i := 2) rfl)
  have ro40 : hf36 b32 = some (row 22 ([(slc b29 0 2 2)])) := hinf36 _ _ (List.mem_of_getElem? (i := 3) rfl)
  refine th_n ?_
  refine c_seq ?_
  have hkA : kidA.key.length = 1 := rfl
  have hkL : kidA.label.length = 32 := sha_length _
  refine any_begin (N := 22) (by kernel_rfl) rfl h ?_
  clear h; intro w h
  refine any_take (i := 0) rfl (by kernel_rfl) (fun _ _ _ _ h => h) h rfl (fun w h => p_move h rfl) fun a h => ?_
  refine any_take (i := 1) rfl (by kernel_rfl) (fun _ _ _ _ h => h) h rfl (fun w h => p_eql h rfl rfl) fun a h => ?_
  refine any_take (i := 2) rfl (by kernel_rfl) (fun _ _ _ _ h => h) h rfl (fun w h => p_move h rfl) fun a h => ?_
  refine any_takeG (i := 3) rfl (by kernel_rfl) (fun _ _ _ _ h => h) h rfl rfl rfl rfl rfl (fun w h => p_fieldAddr (r := 0) Tryd.underlying29 rfl Tryd.sizeOf3 rfl rfl h rfl) fun a h => ?_
  refine any_takeG (i := 4) rfl (by kernel_rfl) (fun _ _ _ _ h => h) h rfl rfl rfl rfl rfl (fun w h => p_load (v := .int .i64 kidA.lvl) Tryd.isAgg3 h rfl (Cel.stay ro37 rfl)) fun a h => ?_
  refine any_takeG (i := 5) rfl (by kernel_rfl) (fun _ _ _ _ h => h) h rfl rfl rfl rfl rfl (fun w h => p_geq h rfl rfl) fun a h => ?_
  have h := h.bool_of (t := 52) (b' := true) rfl (by have := height_lo [97]; simp [kidA] <;> omega)
  refine any_take (i := 6) rfl (by kernel_rfl) (fun _ _ _ _ h => h) h rfl (fun w h => p_pickT h rfl rfl) fun a h => ?_
  have h := h.bool_of (t := 52) (b' := true) rfl (by have := height_lo [97]; simp [kidA] <;> omega)
  refine any_take (i := 7) rfl (by kernel_rfl) (fun _ _ _ _ h => h) h rfl (fun w h => p_move h rfl) fun a h => ?_
  have h := h.bool_of (t := 52) (b' := true) rfl (by have := height_lo [97]; simp [kidA] <;> omega)
  refine any_takeG (i := 8) rfl (by kernel_rfl) (fun _ _ _ _ h => h) h rfl rfl rfl rfl rfl (fun w h => p_loadA (vs := (rootP [entA]).map B) Tryd.isAgg25 (fun w => by rw [Tryd.sizeOf25, List.length_map, (rootP_length _)]) h rfl (Cels.stay ro19)) fun a h => ?_
  refine any_takeG (i := 9) rfl (by kernel_rfl) (fun _ _ _ _ h => h) h rfl rfl rfl rfl rfl (fun w h => p_loadA (vs := (kidA.at (slc b23 0 1 1)).cells) Tryd.isAgg29 (fun w => by rw [Tryd.sizeOf29]; simp [(kidA_ok hby25).length]) h rfl (Cels.stay ro37)) fun a h => ?_
  refine any_one (i := 10) (by kernel_rfl) ?_
  refine any_GO rfl h.env rfl rfl rfl rfl rfl (Enter.opT (o_call Tryd.call13 h rfl) (call_outA (c_NHeadText h.own htg))) ?_
  rintro b41 _ a w h
  refine any_one (i := 11) (by kernel_rfl) ?_
  refine any_GO rfl h.env rfl rfl rfl rfl rfl (o_buildSlice (vs := [slc b41 0 headText.length headText.length]) Tryd.underlying39 Tryd.sizeOf22 Tryd.zeroValue22 h rfl rfl (by simp [Value.cells]) rfl rfl rfl) ?_
  rintro b42 _ a w h
  refine any_one (i := 12) (by kernel_rfl) ?_
  refine any_GV rfl h.env rfl rfl rfl rfl rfl (Enter.opT (o_call Tryd.call44 h rfl) (call_val0 h.own (c_dOf1 h.own.lend0 (Sl.row (s := 1) (o := 0) (cap := 1) (n := 1) (cs := [slc b41 0 headText.length headText.length]) (h.own.in0 (k := 0) rfl) rfl rfl (by decide) (by decide)) (byts_block (l := headText) (h.own.in0 (k := 1) rfl) (by unfold maxLen; simp <;> omega)) (hk.mono h.own.le0) (hf1.mono h.own.le0) (by simp <;> omega)))) fun a w h => ?_
  refine any_one (i := 13) (by kernel_rfl) ?_
  refine any_GO rfl h.env rfl rfl rfl rfl rfl (Enter.opT (o_call Tryd.call12 h rfl) (call_out0 h.own (c_NPairText h.own.lend0 (htg.mono h.own.le0) ((kidA_ok hby25).mono h.own.le0) (sha_length _) (by omega)))) ?_
  rintro b43 _ a w h
  refine any_one (i := 14) (by kernel_rfl) ?_
  refine any_GO rfl h.env rfl rfl rfl rfl rfl (o_buildSlice (vs := [slc b43 0 ((pairText kidA.lvl kidA.key kidA.cnt kidA.label (sha headText)).length) ((pairText kidA.lvl kidA.key kidA.cnt kidA.label (sha headText)).length)]) Tryd.underlying39 Tryd.sizeOf22 Tryd.zeroValue22 h rfl rfl (by simp [Value.cells]) rfl rfl rfl) ?_
  rintro b44 _ a w h
  refine any_one (i := 15) (by kernel_rfl) ?_
  refine any_GV rfl h.env rfl rfl rfl rfl rfl (Enter.opT (o_call Tryd.call44 h rfl) (call_val0 h.own (c_dOf1 h.own.lend0 (Sl.row (s := 1) (o := 0) (cap := 1) (n := 1) (cs := [slc b43 0 ((pairText kidA.lvl kidA.key kidA.cnt kidA.label (sha headText)).length) ((pairText kidA.lvl kidA.key kidA.cnt kidA.label (sha headText)).length)]) (h.own.in0 (k := 0) rfl) rfl rfl (by decide) (by decide)) (byts_block (l := pairText kidA.lvl kidA.key kidA.cnt kidA.label (sha headText)) (h.own.in0 (k := 1) rfl) (by unfold maxLen; simp <;> omega)) (hk.mono h.own.le0) (hf1.mono h.own.le0) (by simp <;> omega)))) fun a w h => ?_
  refine any_one (i := 16) (by kernel_rfl) ?_
  refine any_GO rfl h.env rfl rfl rfl rfl rfl (Enter.opT (o_call Tryd.call14 h rfl) (call_out0 h.own (c_NRootText (q := 1) h.own.lend0 (htg.mono h.own.le0) (by first | omega | decide) (sha_length _)))) ?_
  rintro b45 _ a w h
  refine any_one (i := 17) (by kernel_rfl) ?_
  refine any_GO rfl h.env rfl rfl rfl rfl rfl (o_buildSlice (vs := [slc b45 0 ((rootText 1 (sha (pairText kidA.lvl kidA.key kidA.cnt kidA.label (sha headText)))).length) ((rootText 1 (sha (pairText kidA.lvl kidA.key kidA.cnt kidA.label (sha headText)))).length)]) Tryd.underlying39 Tryd.sizeOf22 Tryd.zeroValue22 h rfl rfl (by simp [Value.cells]) rfl rfl rfl) ?_
  rintro b46 _ a w h
  refine any_one (i := 18) (by kernel_rfl) ?_
  refine any_GV rfl h.env rfl rfl rfl rfl rfl (Enter.opT (o_call Tryd.call44 h rfl) (call_val0 h.own (c_dOf1 h.own.lend0 (Sl.row (s := 1) (o := 0) (cap := 1) (n := 1) (cs := [slc b45 0 ((rootText 1 (sha (pairText kidA.lvl kidA.key kidA.cnt kidA.label (sha headText)))).length) ((rootText 1 (sha (pairText kidA.lvl kidA.key kidA.cnt kidA.label (sha headText)))).length)]) (h.own.in0 (k := 0) rfl) rfl rfl (by decide) (by decide)) (byts_block (l := rootText 1 (sha (pairText kidA.lvl kidA.key kidA.cnt kidA.label (sha headText)))) (h.own.in0 (k := 1) rfl) (by unfold maxLen; simp <;> omega)) (hk.mono h.own.le0) (hf1.mono h.own.le0) (by simp <;> omega)))) fun a w h => ?_
  refine any_takeG (i := 19) rfl (by kernel_rfl) (fun _ _ _ _ h => h) h rfl rfl rfl rfl rfl (fun w h => p_eqlS Tryd.underlying25 Tryd.underlying5 Tryd.sizeOf5 Tryd.isAgg5 Tryd.eqGuardType25 h rfl rfl (rootP_length _) (sha_length _)) fun a h => ?_
  have h := h.bool_of (t := 66) (b' := true) rfl (by simp [rootP_one, pairK])
  refine any_take (i := 20) rfl (by kernel_rfl) (fun _ _ _ _ h => h) h rfl (fun w h => p_pickT h rfl rfl) fun a h => ?_
  have h := h.bool_of (t := 66) (b' := true) rfl (by simp [rootP_one, pairK])
  refine any_take (i := 21) rfl (by kernel_rfl) (fun _ _ _ _ h => h) h rfl (fun w h => p_assign h rfl) fun a h => ?_
  have h := h.bool_of (t := 66) (b' := true) rfl (by simp [rootP_one, pairK])
  refine any_end (by kernel_rfl) ?_
  refine th_n ?_
  refine c_ret ?_
  exact fin1 (.inl rfl) h rfl rfl ⟨rfl, h.own.none.weaken hle⟩

end Go.Proofs.YtkklgmhmhhbjkaaDoor
