/-
  WHAT EACH CALL COMES TO: the law NodeLabels. Printed by the own generator (wip/gen), one law of the own library for each operation.
-/
import Derived.Test.YtkklgmhmhhbjkaaDoorKitS
import Derived.Test.YtkklgmhmhhbjkaaDoorProg
import Derived.Test.YtkklgmhmhhbjkaaDoorFnA
import Derived.Test.YtkklgmhmhhbjkaaDoorFnTow
import Derived.Test.YtkklgmhmhhbjkaaDoorFnCopyT
import Derived.Test.YtkklgmhmhhbjkaaDoorFnSameT
import Derived.Test.YtkklgmhmhhbjkaaDoorFnLab
namespace Go.Proofs.YtkklgmhmhhbjkaaDoor
open Go Go.Own Go.Proofs
set_option maxRecDepth 100000
set_option linter.unusedVariables false

set_option maxHeartbeats 1000000 in
theorem c_NodeLabels {S : World} {hf : Hp} {w : World} (ho : Owns S hf [] w) {t : TowP} {x : TowV} {lv : Int} (hk : RoundsAt 3 hf) (hf1 : FirstAt 1 hf) (htg : TagsAt 0 hf) (ht : TowOk hf t x) (hb : t.key.length ≤ 140737488351232) (hbk : ∀ p ∈ t.kids, p.key.length ≤ 140737488351232) (hbn : t.kids.length * 112 ≤ 140737488355328) :
    Calls Tryd.prog 7 [t.val x, .int .i64 lv].toArray w (RetV S hf [] (.bool true)) := by
  refine enter (n := 39) (E := [(0, _), (1, _)]) Tryd.func7 rfl Tryd.ntmps7 rfl rfl ho fun a h => ?_
  refine c_seq ?_
  refine c_region ?_
  refine stepO (o_box (l := t.cells x) h rfl rfl) h.env rfl ?_
  rintro b1 _ a w h
  refine stepP (p_assign h rfl) h rfl fun a w h => ?_
  refine stepEnd ?_
  obtain ⟨hf2, hlef2, hinf2, hbkf2, h⟩ := h.freeze
  replace ht := ht.mono hlef2
  replace htg := htg.mono hlef2
  replace hk := hk.mono hlef2
  replace hf1 := hf1.mono hlef2
  have hle := hlef2
  have ro3 : hf2 b1 = some (row 46 (t.cells x)) := hinf2 _ _ (List.mem_of_getElem? (i := 0) rfl)
  refine th_n ?_
  refine c_seq ?_
  refine c_region ?_
  refine stepP (p_loadA (vs := t.cells x) Tryd.isAgg46 (fun w => by rw [Tryd.sizeOf46, ht.length]) h rfl (Cels.stay ro3)) h rfl fun a w h => ?_
  refine stepO (Enter.opT (o_call Tryd.call25 h rfl) (call_outA (c_CopyTower h.own ht hb hbk hbn))) h.env rfl ?_
  rintro ⟨y4, Ly5⟩ hcp6 a w h
  obtain ⟨hf7, hlef7, hinf7, hbkf7, h⟩ := h.freeze
  replace ht := ht.mono hlef7
  replace htg := htg.mono hlef7
  replace hk := hk.mono hlef7
  replace hf1 := hf1.mono hlef7
  replace ro3 := hlef7 _ _ ro3
  replace hle := Hp.le_trans hle hlef7
  have hy4 : TowOk hf7 t y4 := hcp6 _ hinf7
  refine stepO (o_alloc (l := ((⟨false, [], zeroS, 0, []⟩ : TowP).cells ⟨nilS, nilS, []⟩)) Tryd.zeroValue46 rfl h) h.env rfl ?_
  rintro b8 _ a w h
  refine stepN (o_storeA (kk := 0) (vs := t.cells y4) (cs' := t.cells y4) (fun w => by rw [Tryd.sizeOf46, hy4.length]) h rfl rfl rfl hy4.one rfl (by rw [hy4.length]; simp [tow_len (t := ⟨false, [], zeroS, 0, []⟩) rfl]) (by rw [hy4.length]; simp [hy4.length, tow_len (t := ⟨false, [], zeroS, 0, []⟩) rfl, List.drop_of_length_le])) h.env fun a w h => ?_
  refine stepEnd ?_
  obtain ⟨hf9, hlef9, hinf9, hbkf9, h⟩ := h.freeze
  replace ht := ht.mono hlef9
  replace htg := htg.mono hlef9
  replace hk := hk.mono hlef9
  replace hf1 := hf1.mono hlef9
  replace hy4 := hy4.mono hlef9
  replace ro3 := hlef9 _ _ ro3
  replace hle := Hp.le_trans hle hlef9
  have ro10 : hf9 b8 = some (row 46 (t.cells y4)) := hinf9 _ _ (List.mem_of_getElem? (i := 0) rfl)
  refine th_n ?_
  refine c_seq ?_
  refine c_seq ?_
  refine region_quiet (by kernel_rfl) (by kernel_rfl) h ?_
  have he := h.env
  clear h
  refine stepQ he (fun w h => p_loadA (vs := t.cells y4) Tryd.isAgg46 (fun w => by rw [Tryd.sizeOf46, hy4.length]) h rfl (Cels.stay ro10)) rfl fun a he => ?_
  refine stepQC he (fun w h => o_call Tryd.call29 h rfl) (fun w ho => (c_nOwn ho hy4 hb hbk htg hk hf1)) rfl fun a he => ?_
  refine stepQ he (fun w h => p_loadA (vs := t.cells x) Tryd.isAgg46 (fun w => by rw [Tryd.sizeOf46, ht.length]) h rfl (Cels.stay ro3)) rfl fun a he => ?_
  refine stepQC he (fun w h => o_call Tryd.call30 h rfl) (fun w ho => (c_rOwn ho ht hb)) rfl fun a he => ?_
  refine stepQ he (fun w h => p_neqS Tryd.underlying25 Tryd.underlying5 Tryd.sizeOf5 Tryd.isAgg5 Tryd.eqGuardType25 h rfl rfl (ownL_length _) (ownL_length _)) rfl fun a he => ?_
  have he := he.bool_of (t := 12) (b' := false) rfl (by simp)
  refine stepQ he (fun w h => p_move h rfl) rfl fun a he => ?_
  have he := he.bool_of (t := 12) (b' := false) rfl (by simp)
  refine stepQG rfl rfl rfl rfl he (fun w h => p_loadA (vs := t.cells y4) Tryd.isAgg46 (fun w => by rw [Tryd.sizeOf46, hy4.length]) h rfl (Cels.stay ro10)) rfl fun a he => ?_
  refine stepQG rfl rfl rfl rfl he (fun w h => p_move h rfl) rfl fun a he => ?_
  refine stepQGC rfl rfl rfl rfl he (fun w h => o_call Tryd.call31 h rfl) (fun w ho => (c_nBelow ho hy4 hb hbk htg hk hf1)) rfl fun a he => ?_
  refine stepQG rfl rfl rfl rfl he (fun w h => p_loadA (vs := t.cells x) Tryd.isAgg46 (fun w => by rw [Tryd.sizeOf46, ht.length]) h rfl (Cels.stay ro3)) rfl fun a he => ?_
  refine stepQG rfl rfl rfl rfl he (fun w h => p_move h rfl) rfl fun a he => ?_
  refine stepQGC rfl rfl rfl rfl he (fun w h => o_call Tryd.call32 h rfl) (fun w ho => (c_rBelow ho ht hb hbk)) rfl fun a he => ?_
  refine stepQG rfl rfl rfl rfl he (fun w h => p_neqS Tryd.underlying25 Tryd.underlying5 Tryd.sizeOf5 Tryd.isAgg5 Tryd.eqGuardType25 h rfl rfl (labP_length _ _ _) (labP_length _ _ _)) rfl fun a he => ?_
  have he := he.bool_of (t := 20) (b' := false) rfl (by simp)
  refine stepQ he (fun w h => p_pickF h rfl rfl) rfl fun a he => ?_
  have he := he.bool_of (t := 20) (b' := false) rfl (by simp)
  refine stepQEnd he fun w h => ?_
  refine th_n ?_
  refine c_false rfl h ?_
  refine c_skip ?_
  refine th_n ?_
  refine c_seq ?_
  refine region_quiet (by kernel_rfl) (by kernel_rfl) h ?_
  have he := h.env
  clear h
  refine stepQ he (fun w h => p_loadA (vs := t.cells y4) Tryd.isAgg46 (fun w => by rw [Tryd.sizeOf46, hy4.length]) h rfl (Cels.stay ro10)) rfl fun a he => ?_
  refine stepQC he (fun w h => o_call Tryd.call33 h rfl) (fun w ho => (c_nLabel ho hy4 hb hbk htg hk hf1)) rfl fun a he => ?_
  refine stepQ he (fun w h => p_loadA (vs := t.cells x) Tryd.isAgg46 (fun w => by rw [Tryd.sizeOf46, ht.length]) h rfl (Cels.stay ro3)) rfl fun a he => ?_
  refine stepQC he (fun w h => o_call Tryd.call34 h rfl) (fun w ho => (c_rLabel ho ht hb hbk)) rfl fun a he => ?_
  refine stepQ he (fun w h => p_eqlS Tryd.underlying25 Tryd.underlying5 Tryd.sizeOf5 Tryd.isAgg5 Tryd.eqGuardType25 h rfl rfl (labP_length _ _ _) (labP_length _ _ _)) rfl fun a he => ?_
  have he := he.bool_of (t := 26) (b' := true) rfl (by simp)
  refine stepQ he (fun w h => p_move h rfl) rfl fun a he => ?_
  have he := he.bool_of (t := 26) (b' := true) rfl (by simp)
  refine stepQG rfl rfl rfl rfl he (fun w h => p_loadA (vs := t.cells y4) Tryd.isAgg46 (fun w => by rw [Tryd.sizeOf46, hy4.length]) h rfl (Cels.stay ro10)) rfl fun a he => ?_
  refine stepQGC rfl rfl rfl rfl he (fun w h => o_call Tryd.call35 h rfl) (fun w ho => (c_nCount ho hy4)) rfl fun a he => ?_
  refine stepQG rfl rfl rfl rfl he (fun w h => p_loadA (vs := t.cells x) Tryd.isAgg46 (fun w => by rw [Tryd.sizeOf46, ht.length]) h rfl (Cels.stay ro3)) rfl fun a he => ?_
  refine stepQGC rfl rfl rfl rfl he (fun w h => o_call Tryd.call36 h rfl) (fun w ho => (c_rCount ho ht)) rfl fun a he => ?_
  refine stepQG rfl rfl rfl rfl he (fun w h => p_eql h rfl rfl) rfl fun a he => ?_
  have he := he.bool_of (t := 32) (b' := true) rfl (by simp)
  refine stepQ he (fun w h => p_pickT h rfl rfl) rfl fun a he => ?_
  have he := he.bool_of (t := 32) (b' := true) rfl (by simp)
  refine stepQ he (fun w h => p_move h rfl) rfl fun a he => ?_
  have he := he.bool_of (t := 32) (b' := true) rfl (by simp)
  refine stepQG rfl rfl rfl rfl he (fun w h => p_loadA (vs := t.cells y4) Tryd.isAgg46 (fun w => by rw [Tryd.sizeOf46, hy4.length]) h rfl (Cels.stay ro10)) rfl fun a he => ?_
  refine stepQG rfl rfl rfl rfl he (fun w h => p_loadA (vs := t.cells x) Tryd.isAgg46 (fun w => by rw [Tryd.sizeOf46, ht.length]) h rfl (Cels.stay ro3)) rfl fun a he => ?_
  refine stepQGC rfl rfl rfl rfl he (fun w h => o_call Tryd.call28 h rfl) (fun w ho => (c_SameTower ho hy4 ht)) rfl fun a he => ?_
  refine stepQ he (fun w h => p_pickT h rfl rfl) rfl fun a he => ?_
  have he := he.bool_of (t := 37) (b' := true) rfl (by simp)
  refine stepQ he (fun w h => p_assign h rfl) rfl fun a he => ?_
  have he := he.bool_of (t := 37) (b' := true) rfl (by simp)
  refine stepQEnd he fun w h => ?_
  refine th_n ?_
  refine c_ret ?_
  exact fin1 (.inl rfl) h rfl rfl ⟨rfl, h.own.weaken hle⟩

end Go.Proofs.YtkklgmhmhhbjkaaDoor
