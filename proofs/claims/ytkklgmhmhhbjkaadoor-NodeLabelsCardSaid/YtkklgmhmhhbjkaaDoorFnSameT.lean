/-
  WHAT EACH CALL COMES TO: towers compared. Printed by the own generator (wip/gen), one law of the own library for each operation.
-/
import Derived.Test.YtkklgmhmhhbjkaaDoorKitQ
import Derived.Test.YtkklgmhmhhbjkaaDoorProg
import Derived.Test.YtkklgmhmhhbjkaaDoorFnA
import Derived.Test.YtkklgmhmhhbjkaaDoorFnTow
namespace Go.Proofs.YtkklgmhmhhbjkaaDoor
open Go Go.Own Go.Proofs
set_option maxRecDepth 100000
set_option linter.unusedVariables false

theorem c_SameKid {S : World} {hf : Hp} {w : World} (ho : Owns S hf [] w) {p : KidP} {u1 u2 : Value} (hk1 : (p.at u1).Ok hf p.key) (hk2 : (p.at u2).Ok hf p.key) :
    Calls Tryd.prog 57 [(p.at u1).val, (p.at u2).val].toArray w (RetV S hf [] (.bool true)) := by
  refine enter (n := 38) (E := [(0, _), (1, _)]) Tryd.func57 rfl Tryd.ntmps57 rfl rfl ho fun a h => ?_
  refine c_seq ?_
  refine c_region ?_
  refine stepO (o_box (l := (p.at u1).cells) h rfl rfl) h.env rfl ?_
  rintro b1 _ a w h
  refine stepO (o_box (l := (p.at u2).cells) h rfl rfl) h.env rfl ?_
  rintro b2 _ a w h
  refine stepP (p_assign h rfl) h rfl fun a w h => ?_
  refine stepEnd ?_
  obtain ⟨hf3, hlef3, hinf3, hbkf3, h⟩ := h.freeze
  replace hk1 := hk1.mono hlef3
  replace hk2 := hk2.mono hlef3
  have hle := hlef3
  have ro4 : hf3 b2 = some (row 29 ((p.at u2).cells)) := hinf3 _ _ (List.mem_of_getElem? (i := 0) rfl)
  have ro5 : hf3 b1 = some (row 29 ((p.at u1).cells)) := hinf3 _ _ (List.mem_of_getElem? (i := 1) rfl)
  refine th_n ?_
  refine c_seq ?_
  refine c_region ?_
  refine stepP (p_fieldAddr (r := 0) Tryd.underlying29 rfl Tryd.sizeOf3 rfl rfl h rfl) h rfl fun a w h => ?_
  refine stepP (p_load (v := .int .i64 p.lvl) Tryd.isAgg3 h rfl (Cel.stay ro5 rfl)) h rfl fun a w h => ?_
  refine stepP (p_fieldAddr (r := 0) Tryd.underlying29 rfl Tryd.sizeOf3 rfl rfl h rfl) h rfl fun a w h => ?_
  refine stepP (p_load (v := .int .i64 p.lvl) Tryd.isAgg3 h rfl (Cel.stay ro4 rfl)) h rfl fun a w h => ?_
  refine stepP (p_eql h rfl rfl) h rfl fun a w h => ?_
  have h := h.bool_of (t := 9) (b' := true) rfl (by simp)
  refine stepP (p_move h rfl) h rfl fun a w h => ?_
  have h := h.bool_of (t := 9) (b' := true) rfl (by simp)
  refine stepGP rfl rfl rfl rfl (p_fieldAddr (r := 2) Tryd.underlying29 rfl Tryd.sizeOf23 rfl rfl h rfl) h rfl fun a w h => ?_
  refine stepGP rfl rfl rfl rfl (p_load (v := .int .u64 (p.cnt : Int)) Tryd.isAgg23 h rfl (Cel.stay ro5 rfl)) h rfl fun a w h => ?_
  refine stepGP rfl rfl rfl rfl (p_fieldAddr (r := 2) Tryd.underlying29 rfl Tryd.sizeOf23 rfl rfl h rfl) h rfl fun a w h => ?_
  refine stepGP rfl rfl rfl rfl (p_load (v := .int .u64 (p.cnt : Int)) Tryd.isAgg23 h rfl (Cel.stay ro4 rfl)) h rfl fun a w h => ?_
  refine stepGP rfl rfl rfl rfl (p_eql h rfl rfl) h rfl fun a w h => ?_
  have h := h.bool_of (t := 15) (b' := true) rfl (by simp)
  refine stepP (p_pickT h rfl rfl) h rfl fun a w h => ?_
  have h := h.bool_of (t := 15) (b' := true) rfl (by simp)
  refine stepP (p_move h rfl) h rfl fun a w h => ?_
  have h := h.bool_of (t := 15) (b' := true) rfl (by simp)
  refine stepGP rfl rfl rfl rfl (p_fieldAddr (r := 3) Tryd.underlying29 rfl Tryd.sizeOf27 rfl rfl h rfl) h rfl fun a w h => ?_
  refine stepGP rfl rfl rfl rfl (p_loadA (vs := addrC p.sum p.nth) Tryd.isAgg27 (fun w => by rw [Tryd.sizeOf27, addrC_length _ _ (show p.sum.length = 32 from hk1.sum)]) h rfl (Cels.stayPart ro5 (kidAddrAt hk1))) h rfl fun a w h => ?_
  refine stepGP rfl rfl rfl rfl (p_fieldAddr (r := 3) Tryd.underlying29 rfl Tryd.sizeOf27 rfl rfl h rfl) h rfl fun a w h => ?_
  refine stepGP rfl rfl rfl rfl (p_loadA (vs := addrC p.sum p.nth) Tryd.isAgg27 (fun w => by rw [Tryd.sizeOf27, addrC_length _ _ (show p.sum.length = 32 from hk2.sum)]) h rfl (Cels.stayPart ro4 (kidAddrAt hk2))) h rfl fun a w h => ?_
  refine stepGP rfl rfl rfl rfl (p_eqlAd addrT h rfl rfl hk1.sum hk2.sum) h rfl fun a w h => ?_
  have h := h.bool_of (t := 22) (b' := true) rfl (by simp)
  refine stepP (p_pickT h rfl rfl) h rfl fun a w h => ?_
  have h := h.bool_of (t := 22) (b' := true) rfl (by simp)
  refine stepP (p_move h rfl) h rfl fun a w h => ?_
  have h := h.bool_of (t := 22) (b' := true) rfl (by simp)
  refine stepGP rfl rfl rfl rfl (p_fieldAddr (r := 36) Tryd.underlying29 rfl Tryd.sizeOf25 rfl rfl h rfl) h rfl fun a w h => ?_
  refine stepGP rfl rfl rfl rfl (p_loadA (vs := p.label.map B) Tryd.isAgg25 (fun w => by rw [Tryd.sizeOf25, List.length_map, show p.label.length = 32 from hk1.label]) h rfl (Cels.stayPart ro5 hk1.labelAt)) h rfl fun a w h => ?_
  refine stepGP rfl rfl rfl rfl (p_fieldAddr (r := 36) Tryd.underlying29 rfl Tryd.sizeOf25 rfl rfl h rfl) h rfl fun a w h => ?_
  refine stepGP rfl rfl rfl rfl (p_loadA (vs := p.label.map B) Tryd.isAgg25 (fun w => by rw [Tryd.sizeOf25, List.length_map, show p.label.length = 32 from hk2.label]) h rfl (Cels.stayPart ro4 hk2.labelAt)) h rfl fun a w h => ?_
  refine stepGP rfl rfl rfl rfl (p_eqlS Tryd.underlying25 Tryd.underlying5 Tryd.sizeOf5 Tryd.isAgg5 Tryd.eqGuardType25 h rfl rfl hk1.label hk2.label) h rfl fun a w h => ?_
  have h := h.bool_of (t := 29) (b' := true) rfl (by simp)
  refine stepP (p_pickT h rfl rfl) h rfl fun a w h => ?_
  have h := h.bool_of (t := 29) (b' := true) rfl (by simp)
  refine stepP (p_move h rfl) h rfl fun a w h => ?_
  have h := h.bool_of (t := 29) (b' := true) rfl (by simp)
  refine stepGP rfl rfl rfl rfl (p_fieldAddr (r := 1) Tryd.underlying29 rfl Tryd.sizeOf22 rfl rfl h rfl) h rfl fun a w h => ?_
  refine stepGP rfl rfl rfl rfl (p_load (v := u1) Tryd.isAgg22 h rfl (Cel.stay ro5 rfl)) h rfl fun a w h => ?_
  refine stepGP rfl rfl rfl rfl (p_fieldAddr (r := 1) Tryd.underlying29 rfl Tryd.sizeOf22 rfl rfl h rfl) h rfl fun a w h => ?_
  refine stepGP rfl rfl rfl rfl (p_load (v := u2) Tryd.isAgg22 h rfl (Cel.stay ro4 rfl)) h rfl fun a w h => ?_
  refine stepGV rfl rfl rfl rfl (Enter.opT (o_call Tryd.call17 h rfl) (call_valA (c_SameBytes h.own hk1.key hk2.key))) h rfl fun a w h => ?_
  have h := h.bool_of (t := 36) (b' := true) rfl (by simp)
  refine stepP (p_pickT h rfl rfl) h rfl fun a w h => ?_
  have h := h.bool_of (t := 36) (b' := true) rfl (by simp)
  refine stepP (p_assign h rfl) h rfl fun a w h => ?_
  have h := h.bool_of (t := 36) (b' := true) rfl (by simp)
  refine stepEnd ?_
  refine th_n ?_
  refine c_ret ?_
  exact fin1 (.inl rfl) h rfl rfl ⟨rfl, h.own.weaken hle⟩

theorem c_SameTower {S : World} {hf : Hp} {w : World} (ho : Owns S hf [] w) {t : TowP} {x y : TowV} (ht : TowOk hf t x) (hy : TowOk hf t y) :
    Calls Tryd.prog 28 [t.val x, t.val y].toArray w (RetV S hf [] (.bool true)) := by
  have hmany := ht.many
  refine enter (n := 54) (E := [(0, _), (1, _)]) Tryd.func28 rfl Tryd.ntmps28 rfl rfl ho fun a h => ?_
  refine c_seq ?_
  refine c_region ?_
  refine stepO (o_box (l := t.cells x) h rfl rfl) h.env rfl ?_
  rintro b1 _ a w h
  refine stepO (o_box (l := t.cells y) h rfl rfl) h.env rfl ?_
  rintro b2 _ a w h
  refine stepP (p_assign h rfl) h rfl fun a w h => ?_
  refine stepEnd ?_
  obtain ⟨hf3, hlef3, hinf3, hbkf3, h⟩ := h.freeze
  replace ht := ht.mono hlef3
  replace hy := hy.mono hlef3
  have hle := hlef3
  have ro4 : hf3 b2 = some (row 46 (t.cells y)) := hinf3 _ _ (List.mem_of_getElem? (i := 0) rfl)
  have ro5 : hf3 b1 = some (row 46 (t.cells x)) := hinf3 _ _ (List.mem_of_getElem? (i := 1) rfl)
  refine th_n ?_
  refine c_seq ?_
  refine c_seq ?_
  refine c_region ?_
  refine stepP (p_fieldAddr (r := 0) Tryd.underlying46 rfl Tryd.sizeOf4 rfl rfl h rfl) h rfl fun a w h => ?_
  refine stepP (p_load Tryd.isAgg4 h rfl (Cel.stay ro5 rfl)) h rfl fun a w h => ?_
  refine stepP (p_fieldAddr (r := 0) Tryd.underlying46 rfl Tryd.sizeOf4 rfl rfl h rfl) h rfl fun a w h => ?_
  refine stepP (p_load Tryd.isAgg4 h rfl (Cel.stay ro4 rfl)) h rfl fun a w h => ?_
  refine stepP (p_neqB Tryd.underlying4 h rfl rfl) h rfl fun a w h => ?_
  have h := h.bool_of (t := 10) (b' := false) rfl (by simp)
  refine stepP (p_move h rfl) h rfl fun a w h => ?_
  have h := h.bool_of (t := 10) (b' := false) rfl (by simp)
  refine stepGP rfl rfl rfl rfl (p_fieldAddr (r := 2) Tryd.underlying46 rfl Tryd.sizeOf27 rfl rfl h rfl) h rfl fun a w h => ?_
  refine stepGP rfl rfl rfl rfl (p_loadA (vs := addrC t.sum t.nth) Tryd.isAgg27 (fun w => by rw [Tryd.sizeOf27, addrC_length _ _ ht.sum]) h rfl (Cels.stayPart ro5 ht.addrAt)) h rfl fun a w h => ?_
  refine stepGP rfl rfl rfl rfl (p_fieldAddr (r := 2) Tryd.underlying46 rfl Tryd.sizeOf27 rfl rfl h rfl) h rfl fun a w h => ?_
  refine stepGP rfl rfl rfl rfl (p_loadA (vs := addrC t.sum t.nth) Tryd.isAgg27 (fun w => by rw [Tryd.sizeOf27, addrC_length _ _ hy.sum]) h rfl (Cels.stayPart ro4 hy.addrAt)) h rfl fun a w h => ?_
  refine stepGP rfl rfl rfl rfl (p_neqAd addrT h rfl rfl ht.sum hy.sum) h rfl fun a w h => ?_
  have h := h.bool_of (t := 16) (b' := false) rfl (by simp)
  refine stepP (p_pickF h rfl rfl) h rfl fun a w h => ?_
  have h := h.bool_of (t := 16) (b' := false) rfl (by simp)
  refine stepP (p_move h rfl) h rfl fun a w h => ?_
  have h := h.bool_of (t := 16) (b' := false) rfl (by simp)
  refine stepGP rfl rfl rfl rfl (p_fieldAddr (r := 1) Tryd.underlying46 rfl Tryd.sizeOf22 rfl rfl h rfl) h rfl fun a w h => ?_
  refine stepGP rfl rfl rfl rfl (p_load Tryd.isAgg22 h rfl (Cel.stay ro5 rfl)) h rfl fun a w h => ?_
  refine stepGP rfl rfl rfl rfl (p_fieldAddr (r := 1) Tryd.underlying46 rfl Tryd.sizeOf22 rfl rfl h rfl) h rfl fun a w h => ?_
  refine stepGP rfl rfl rfl rfl (p_load Tryd.isAgg22 h rfl (Cel.stay ro4 rfl)) h rfl fun a w h => ?_
  refine stepGV rfl rfl rfl rfl (Enter.opT (o_call Tryd.call17 h rfl) (call_valA (c_SameBytes h.own ht.key hy.key))) h rfl fun a w h => ?_
  have h := h.bool_of (t := 23) (b' := true) rfl (by simp)
  refine stepGP rfl rfl rfl rfl (p_not h rfl) h rfl fun a w h => ?_
  refine stepP (p_pickF h rfl rfl) h rfl fun a w h => ?_
  refine stepP (p_move h rfl) h rfl fun a w h => ?_
  refine stepGP rfl rfl rfl rfl (p_fieldAddr (r := 35) Tryd.underlying46 rfl Tryd.sizeOf44 rfl rfl h rfl) h rfl fun a w h => ?_
  refine stepGP rfl rfl rfl rfl (p_load Tryd.isAgg44 h rfl (Cel.stay ro5 ht.kidsAt)) h rfl fun a w h => ?_
  refine stepGP rfl rfl rfl rfl (p_lenS Tryd.underlying44 h rfl ht.kids.sl) h rfl fun a w h => ?_
  refine stepGP rfl rfl rfl rfl (p_fieldAddr (r := 35) Tryd.underlying46 rfl Tryd.sizeOf44 rfl rfl h rfl) h rfl fun a w h => ?_
  refine stepGP rfl rfl rfl rfl (p_load Tryd.isAgg44 h rfl (Cel.stay ro4 hy.kidsAt)) h rfl fun a w h => ?_
  refine stepGP rfl rfl rfl rfl (p_lenS Tryd.underlying44 h rfl hy.kids.sl) h rfl fun a w h => ?_
  refine stepGP rfl rfl rfl rfl (p_neq h rfl rfl) h rfl fun a w h => ?_
  have h := h.bool_of (t := 33) (b' := false) rfl (by simp)
  refine stepP (p_pickF h rfl rfl) h rfl fun a w h => ?_
  have h := h.bool_of (t := 33) (b' := false) rfl (by simp)
  refine stepEnd ?_
  refine th_n ?_
  refine c_false rfl h ?_
  refine c_skip ?_
  refine th_n ?_
  refine c_seq ?_
  refine c_seq ?_
  refine c_region ?_
  refine stepP (p_fieldAddr (r := 35) Tryd.underlying46 rfl Tryd.sizeOf44 rfl rfl h rfl) h rfl fun a w h => ?_
  refine stepP (p_load Tryd.isAgg44 h rfl (Cel.stay ro5 ht.kidsAt)) h rfl fun a w h => ?_
  refine stepP (p_lenS Tryd.underlying44 h rfl ht.kids.sl) h rfl fun a w h => ?_
  refine stepP (p_move h rfl) h rfl fun a w h => ?_
  refine stepEnd ?_
  refine th_n ?_
  refine c_block ?_
  refine c_loop (fun m a w => ∃ (i : Nat), m = t.kids.length - i ∧ i ≤ t.kids.length ∧ St S hf3 [] 54 [(2, ptr b1 0), (3, ptr b2 0), (37, .int .i64 ((t.kids.length : Nat) : Int)), (38, .int .i64 ((i : Nat) : Int))] a w) (N := t.kids.length - 0) ⟨0, rfl, by omega, h.to rfl ⟨rfl, rfl, (look_int rfl (by first | rfl | omega)), (look_int rfl (by first | rfl | omega)), trivial⟩⟩ ?_
  clear h
  rintro m a w ⟨i, rfl, hi, h⟩
  refine c_seq ?_
  refine c_region ?_
  refine stepP (p_lss h rfl rfl) h rfl fun a w h => ?_
  refine stepEnd ?_
  refine th_n ?_
  refine c_seq ?_
  refine c_cond rfl h (fun hc6 => ?_) (fun hc6 => ?_)
  · skip
    refine c_skip ?_
    refine th_n ?_
    refine c_seq ?_
    refine c_block ?_
    refine c_seq ?_
    refine c_region ?_
    refine stepP (p_move h rfl) h rfl fun a w h => ?_
    refine stepP (p_assign h rfl) h rfl fun a w h => ?_
    refine stepEnd ?_
    refine th_n ?_
    refine c_seq ?_
    refine region_quiet (by kernel_rfl) (by kernel_rfl) h ?_
    have he := h.env
    clear h
    refine stepQ he (fun w h => p_fieldAddr (r := 35) Tryd.underlying46 rfl Tryd.sizeOf44 rfl rfl h rfl) rfl fun a he => ?_
    refine stepQ he (fun w h => p_load Tryd.isAgg44 h rfl (Cel.stay ro5 ht.kidsAt)) rfl fun a he => ?_
    refine stepQ he (fun w h => p_move h rfl) rfl fun a he => ?_
    have hi7 : i < t.kids.length := by omega
    refine stepQ he (fun w h => p_idxS (s := 68) (j := i) Tryd.underlying44 Tryd.sizeOf29 h rfl rfl ht.kids.sl (by omega) hi7) rfl fun a he => ?_
    refine stepQ he (fun w h => p_loadA (vs := ((kidAt t.kids i).at (vkAt x.kvs i)).cells) Tryd.isAgg29 (fun w => by rw [Tryd.sizeOf29, KidV.Ok.length (ht.kids.ok hi7)]) h rfl (ht.kids.cels hi7)) rfl fun a he => ?_
    refine stepQ he (fun w h => p_fieldAddr (r := 35) Tryd.underlying46 rfl Tryd.sizeOf44 rfl rfl h rfl) rfl fun a he => ?_
    refine stepQ he (fun w h => p_load Tryd.isAgg44 h rfl (Cel.stay ro4 hy.kidsAt)) rfl fun a he => ?_
    refine stepQ he (fun w h => p_move h rfl) rfl fun a he => ?_
    have hi8 : i < t.kids.length := by omega
    refine stepQ he (fun w h => p_idxS (s := 68) (j := i) Tryd.underlying44 Tryd.sizeOf29 h rfl rfl hy.kids.sl (by omega) hi8) rfl fun a he => ?_
    refine stepQ he (fun w h => p_loadA (vs := ((kidAt t.kids i).at (vkAt y.kvs i)).cells) Tryd.isAgg29 (fun w => by rw [Tryd.sizeOf29, KidV.Ok.length (hy.kids.ok hi8)]) h rfl (hy.kids.cels hi8)) rfl fun a he => ?_
    refine stepQC he (fun w h => o_call Tryd.call57 h rfl) (fun w ho => (c_SameKid ho (p := (kidAt t.kids i)) (ht.kids.ok hi7) (hy.kids.ok hi8))) rfl fun a he => ?_
    refine stepQ he (fun w h => p_not h rfl) rfl fun a he => ?_
    refine stepQEnd he fun w h => ?_
    refine th_n ?_
    refine c_false rfl h ?_
    refine c_skip ?_
    refine bl_n ?_
    refine th_n ?_
    refine c_region ?_
    refine stepP (p_add h rfl rfl (wi (by omega))) h rfl fun a w h => ?_
    refine stepP (p_move h rfl) h rfl fun a w h => ?_
    refine stepEnd ?_
    exact th_n ⟨_, by omega, i + 1, rfl, by omega, h.to rfl ⟨rfl, rfl, (look_int rfl (by first | rfl | omega)), (look_int rfl (by first | rfl | omega)), trivial⟩⟩
  · skip
    refine c_exit (th_e (th_e (exit_at ?_)))
    refine th_n ?_
    refine c_seq ?_
    refine c_region ?_
    refine stepP (p_assign h rfl) h rfl fun a w h => ?_
    refine stepEnd ?_
    refine th_n ?_
    refine c_ret ?_
    exact fin1 (.inl rfl) h rfl rfl ⟨rfl, h.own.weaken hle⟩

end Go.Proofs.YtkklgmhmhhbjkaaDoor
