/-
  WHAT EACH CALL COMES TO: the law NodeHeights. Printed by the own generator (wip/gen), one law of the own library for each operation.
-/
import Derived.Test.YtkklgmhmhhbjkaaDoorKitO
import Derived.Test.YtkklgmhmhhbjkaaDoorProg
import Derived.Test.YtkklgmhmhhbjkaaDoorFnA
import Derived.Test.YtkklgmhmhhbjkaaDoorFnHei
namespace Go.Proofs.YtkklgmhmhhbjkaaDoor
open Go Go.Own Go.Proofs
set_option maxRecDepth 100000
set_option linter.unusedVariables false

theorem c_NodeHeights {S : World} {hf : Hp} {w : World} (ho : Owns S hf [] w) {v : Value} {l : List UInt8} (hk : RoundsAt 3 hf) (hf1 : FirstAt 1 hf) (ht : TagsAt 0 hf) (hv : Byts hf v l) (hb : l.length ≤ 140737488351232) :
    Calls Tryd.prog 5 [v].toArray w (RetV S hf [] (.bool true)) := by
  refine enter (n := 20) (E := [(0, _)]) Tryd.func5 rfl Tryd.ntmps5 rfl rfl ho fun a h => ?_
  refine c_seq ?_
  refine c_region ?_
  refine stepP (p_assign h rfl) h rfl fun a w h => ?_
  refine stepEnd ?_
  refine th_n ?_
  refine c_seq ?_
  refine c_region ?_
  refine stepP (p_move h rfl) h rfl fun a w h => ?_
  refine stepO (Enter.opT (o_call Tryd.call10 h rfl) (call_out0 h.own (c_Roomy h.own.lend0 (hv.mono h.own.le0) (by omega)))) h.env rfl ?_
  rintro ⟨b1, cap2, rest3⟩ ⟨hc4, hc5, hc6⟩ a w h
  replace hc4 : l.length + 2 ≤ cap2 := hc4
  replace hc5 : cap2 ≤ maxLen := hc5
  refine stepP (p_move h rfl) h rfl fun a w h => ?_
  refine stepP (p_extract h rfl rfl) h rfl fun a w h => ?_
  refine stepP (p_extract h rfl rfl) h rfl fun a w h => ?_
  refine stepP (p_assign h rfl) h rfl fun a w h => ?_
  refine stepP (p_assign h rfl) h rfl fun a w h => ?_
  refine stepEnd ?_
  obtain ⟨hf7, hlef7, hinf7, hbkf7, h⟩ := h.freeze
  replace hk := hk.mono hlef7
  replace hf1 := hf1.mono hlef7
  replace ht := ht.mono hlef7
  replace hv := hv.mono hlef7
  have hle := hlef7
  have ro8 : hf7 b1 = some (row 5 ((l ++ [165, 90]).map B ++ rest3)) := hinf7 _ _ (List.mem_of_getElem? (i := 0) rfl)
  have hby9 : Byts hf7 (slc b1 0 l.length cap2) l := Byts.row ro8 rfl (headB _ _ _) (by omega) hc5
  have hby10 : Byts hf7 (slc b1 0 (l.length + 2) cap2) (l ++ [165, 90]) := Byts.row ro8 (by simp) (wholeB _ _) (by simp; omega) hc5
  have hby11 : Byts hf7 (slc b1 0 l.length cap2) l := Byts.row ro8 rfl (headB _ _ _) (by omega) hc5
  have hby12 : Byts hf7 (slc b1 0 (l.length + 2) cap2) (l ++ [165, 90]) := Byts.row ro8 (by simp) (wholeB _ _) (by simp; omega) hc5
  refine th_n ?_
  refine c_seq ?_
  refine c_region ?_
  refine stepP (p_move h rfl) h rfl fun a w h => ?_
  refine stepV (Enter.opT (o_call Tryd.call23 h rfl) (call_valA (c_nHeight h.own ht hk hf1 hby9 (by omega)))) h.env rfl fun a w h => ?_
  refine stepP (p_move h rfl) h rfl fun a w h => ?_
  refine stepV (Enter.opT (o_call Tryd.call24 h rfl) (call_valA (c_rHeight h.own hv (by omega)))) h.env rfl fun a w h => ?_
  refine stepP (p_eql h rfl rfl) h rfl fun a w h => ?_
  have h := h.bool_of (t := 14) (b' := true) rfl (by simp)
  refine stepP (p_move h rfl) h rfl fun a w h => ?_
  have h := h.bool_of (t := 14) (b' := true) rfl (by simp)
  refine stepGP rfl rfl rfl rfl (p_move h rfl) h rfl fun a w h => ?_
  refine stepGP rfl rfl rfl rfl (p_move h rfl) h rfl fun a w h => ?_
  refine stepGV rfl rfl rfl rfl (Enter.opT (o_call Tryd.call15 h rfl) (call_valA (c_Untouched h.own hby10 hv (by omega)))) h rfl fun a w h => ?_
  have h := h.bool_of (t := 18) (b' := true) rfl (by simp)
  refine stepP (p_pickT h rfl rfl) h rfl fun a w h => ?_
  have h := h.bool_of (t := 18) (b' := true) rfl (by simp)
  refine stepP (p_assign h rfl) h rfl fun a w h => ?_
  have h := h.bool_of (t := 18) (b' := true) rfl (by simp)
  refine stepEnd ?_
  refine th_n ?_
  refine c_ret ?_
  exact fin1 (.inl rfl) h rfl rfl ⟨rfl, h.own.weaken hle⟩

end Go.Proofs.YtkklgmhmhhbjkaaDoor
