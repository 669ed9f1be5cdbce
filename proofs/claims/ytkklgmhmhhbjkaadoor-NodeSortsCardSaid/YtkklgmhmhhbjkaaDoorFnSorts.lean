/-
  WHAT EACH CALL COMES TO: the law NodeSorts. Printed by the own generator (wip/gen), one law of the own library for each operation.
-/
import Derived.Test.YtkklgmhmhhbjkaaDoorKitG
import Derived.Test.YtkklgmhmhhbjkaaDoorProg
import Derived.Test.YtkklgmhmhhbjkaaDoorFnA
import Derived.Test.YtkklgmhmhhbjkaaDoorFnB
namespace Go.Proofs.YtkklgmhmhhbjkaaDoor
open Go Go.Own Go.Proofs
set_option maxRecDepth 100000
set_option linter.unusedVariables false

set_option maxHeartbeats 1000000 in
theorem c_NodeSorts {S : World} {hf : Hp} {w : World} (ho : Owns S hf [] w) (ht : TagsAt 0 hf) {v1 v2 : Value} {l1 l2 kb s : List UInt8} {k : KidV} {q : Nat} (h1 : Byts hf v1 l1) (h2 : Byts hf v2 l2) (hk : k.Ok hf kb) (hs : s.length = 32) (hq : q < 18446744073709551616)
    (hb1 : l1.length ≤ 140737488355232) (hb2 : l2.length ≤ 140737488355232) (hb3 : kb.length ≤ 140737488355232) :
    Calls Tryd.prog 4 [v1, v2, k.val, sumV s, .int .u64 (q : Int)].toArray w (RetV S hf [] (.bool true)) := by
  refine enter (n := 115) (E := [(0, _), (1, _), (2, _), (3, _), (4, _)]) Tryd.func4 rfl Tryd.ntmps4 rfl rfl ho fun a h => ?_
  have hkl := hk.label
  have hs2 : (k.relabel s).label.length = 32 := hs
  refine c_seq ?_
  refine c_region ?_
  refine stepO (o_box (l := k.cells) h rfl rfl) h.env rfl ?_
  rintro b1 _ a w h
  refine stepO (o_box (l := s.map B) h rfl rfl) h.env rfl ?_
  rintro b2 _ a w h
  refine stepP (p_assign h rfl) h rfl fun a w h => ?_
  refine stepEnd ?_
  obtain ⟨hf3, hlef3, hinf3, hbkf3, h⟩ := h.freeze
  replace ht := ht.mono hlef3
  replace h1 := h1.mono hlef3
  replace h2 := h2.mono hlef3
  replace hk := hk.mono hlef3
  have hle := hlef3
  have ro4 : hf3 b2 = some (row 25 (s.map B)) := hinf3 _ _ (by simp)
  have ro5 : hf3 b1 = some (row 29 k.cells) := hinf3 _ _ (by simp)
  refine th_n ?_
  refine c_seq ?_
  refine any_begin (N := 9) (by kernel_rfl) rfl h ?_
  clear h; intro w h
  refine any_take (i := 0) rfl (by kernel_rfl) (fun _ _ _ _ h => h) h rfl (fun w h => p_move h rfl) fun a h => ?_
  refine any_take (i := 1) rfl (by kernel_rfl) (fun _ _ _ _ h => h) h rfl (fun w h => p_loadA (vs := s.map B) Tryd.isAgg25 (fun w => by rw [Tryd.sizeOf25]; simp [hs]) h rfl (Cels.stay ro4)) fun a h => ?_
  refine any_take (i := 3) rfl (by kernel_rfl) (fun _ _ _ _ h => h) h rfl (fun w h => p_move h rfl) fun a h => ?_
  refine any_take (i := 4) rfl (by kernel_rfl) (fun _ _ _ _ h => h) h rfl (fun w h => p_fieldAddr (r := 36) Tryd.underlying29 rfl Tryd.sizeOf25 rfl rfl h rfl) fun a h => ?_
  refine any_take (i := 5) rfl (by kernel_rfl) (fun _ _ _ _ h => h) h rfl (fun w h => p_loadA (vs := k.label.map B) Tryd.isAgg25 (fun w => by rw [Tryd.sizeOf25]; simp [hk.label]) h rfl (Cels.stayPart ro5 hk.labelAt)) fun a h => ?_
  refine any_one (i := 2) (by kernel_rfl) ?_
  refine any_O rfl h.env rfl (Enter.opT (o_call Tryd.call11 h rfl) (call_outA (c_NLeafText h.own ht h1 hs (by omega)))) ?_
  rintro b6 _ a w h
  obtain ⟨hf7, hlef7, hinf7, hbkf7, h⟩ := h.freeze
  refine any_lend hlef7 ?_
  replace ht := ht.mono hlef7
  replace h1 := h1.mono hlef7
  replace h2 := h2.mono hlef7
  replace hk := hk.mono hlef7
  replace ro4 := hlef7 _ _ ro4
  replace ro5 := hlef7 _ _ ro5
  replace hle := Hp.le_trans hle hlef7
  have ro8 : hf7 b6 = some (row 5 ((leafText l1 s).map B)) := hinf7 _ _ (by simp)
  have hby9 : Byts hf7 (slc b6 0 ((leafText l1 s).length) ((leafText l1 s).length)) (leafText l1 s) := Byts.row ro8 (by (try simp) <;> omega) (by simp [List.take_of_length_le]) (by (try simp) <;> omega) (by first | assumption | (unfold maxLen; (try simp) <;> omega))
  refine any_one (i := 6) (by kernel_rfl) ?_
  refine any_O rfl h.env rfl (Enter.opT (o_call Tryd.call11 h rfl) (call_outA (c_NLeafText h.own ht h2 hk.label (by omega)))) ?_
  rintro b10 _ a w h
  obtain ⟨hf11, hlef11, hinf11, hbkf11, h⟩ := h.freeze
  refine any_lend hlef11 ?_
  replace ht := ht.mono hlef11
  replace h1 := h1.mono hlef11
  replace h2 := h2.mono hlef11
  replace hk := hk.mono hlef11
  replace hby9 := hby9.mono hlef11
  replace ro4 := hlef11 _ _ ro4
  replace ro5 := hlef11 _ _ ro5
  replace ro8 := hlef11 _ _ ro8
  replace hle := Hp.le_trans hle hlef11
  have ro12 : hf11 b10 = some (row 5 ((leafText l2 k.label).map B)) := hinf11 _ _ (by simp)
  have hby13 : Byts hf11 (slc b10 0 ((leafText l2 k.label).length) ((leafText l2 k.label).length)) (leafText l2 k.label) := Byts.row ro12 (by (try simp) <;> omega) (by simp [List.take_of_length_le]) (by (try simp) <;> omega) (by first | assumption | (unfold maxLen; (try simp) <;> omega))
  refine any_take (i := 7) rfl (by kernel_rfl) (fun _ _ _ _ h => h) h rfl (fun w h => p_assign h rfl) fun a h => ?_
  refine any_take (i := 8) rfl (by kernel_rfl) (fun _ _ _ _ h => h) h rfl (fun w h => p_assign h rfl) fun a h => ?_
  refine any_end (by kernel_rfl) ?_
  refine th_n ?_
  refine c_seq ?_
  refine c_cut (fun a w => St S hf11 [] 115 [(4, .int .u64 (q : Int)), (7, ptr b1 0), (8, ptr b2 0), (11, (slc b6 0 ((leafText l1 s).length) ((leafText l1 s).length))), (38, .bool (!(decide (leafText l1 s = leafText l2 k.label) == decide (l1 = l2 ∧ (s = k.label)))))] a w) ?_ ?_
  · skip
    refine c_region ?_
    refine stepP (p_move h rfl) h rfl fun a w h => ?_
    refine stepP (p_move h rfl) h rfl fun a w h => ?_
    refine stepV (Enter.opT (o_call Tryd.call17 h rfl) (call_valA (c_SameBytes h.own hby9 hby13))) h.env rfl fun a w h => ?_
    refine stepP (p_move h rfl) h rfl fun a w h => ?_
    refine stepP (p_move h rfl) h rfl fun a w h => ?_
    refine stepV (Enter.opT (o_call Tryd.call17 h rfl) (call_valA (c_SameBytes h.own h1 h2))) h.env rfl fun a w h => ?_
    refine stepP (p_move h rfl) h rfl fun a w h => ?_
    rcases Decidable.em (l1 = l2) with hb14 | hb14
    · have h := h.bool_of (t := 32) (b' := true) rfl (decide_eq_true hb14)
      refine stepGP rfl rfl rfl rfl (p_loadA (vs := s.map B) Tryd.isAgg25 (fun w => by rw [Tryd.sizeOf25]; simp [hs]) h rfl (Cels.stay ro4)) h rfl fun a w h => ?_
      refine stepGP rfl rfl rfl rfl (p_fieldAddr (r := 36) Tryd.underlying29 rfl Tryd.sizeOf25 rfl rfl h rfl) h rfl fun a w h => ?_
      refine stepGP rfl rfl rfl rfl (p_loadA (vs := k.label.map B) Tryd.isAgg25 (fun w => by rw [Tryd.sizeOf25]; simp [hk.label]) h rfl (Cels.stayPart ro5 hk.labelAt)) h rfl fun a w h => ?_
      refine stepGP rfl rfl rfl rfl (p_eqlS Tryd.underlying25 Tryd.underlying5 Tryd.sizeOf5 Tryd.isAgg5 Tryd.eqGuardType25 h rfl rfl hs hk.label) h rfl fun a w h => ?_
      refine stepP (p_pickT h rfl rfl) h rfl fun a w h => ?_
      refine stepP (p_neqB Tryd.underlying4 h rfl rfl) h rfl fun a w h => ?_
      refine stepEnd ?_
      have h := h.bool_of (t := 38) (b' := !(decide (leafText l1 s = leafText l2 k.label) == decide (l1 = l2 ∧ (s = k.label)))) rfl (by simp [hb14])
      exact th_n (h.to rfl ⟨(look_int rfl (by first | rfl | omega)), rfl, rfl, rfl, rfl, trivial⟩)
    · have h := h.bool_of (t := 32) (b' := false) rfl (decide_eq_false hb14)
      refine stepSkip rfl rfl rfl rfl h rfl fun a w h => ?_
      refine stepSkip rfl rfl rfl rfl h rfl fun a w h => ?_
      refine stepSkip rfl rfl rfl rfl h rfl fun a w h => ?_
      refine stepSkip rfl rfl rfl rfl h rfl fun a w h => ?_
      refine stepP (p_pickF h rfl rfl) h rfl fun a w h => ?_
      refine stepP (p_neqB Tryd.underlying4 h rfl rfl) h rfl fun a w h => ?_
      refine stepEnd ?_
      have h := h.bool_of (t := 38) (b' := !(decide (leafText l1 s = leafText l2 k.label) == decide (l1 = l2 ∧ (s = k.label)))) rfl (by simp [hb14])
      exact th_n (h.to rfl ⟨(look_int rfl (by first | rfl | omega)), rfl, rfl, rfl, rfl, trivial⟩)
  · intro a w h
    refine c_condB rfl h (fun hc15 => ?_) (fun hc15 => ?_)
    · skip
      exfalso
      simp [leafText_inj hs hk.label] at hc15
    · skip
      refine c_skip ?_
      refine th_n ?_
      refine c_seq ?_
      refine any_begin (N := 8) (by kernel_rfl) rfl h ?_
      clear h; intro w h
      refine any_take (i := 0) rfl (by kernel_rfl) (fun _ _ _ _ h => h) h rfl (fun w h => p_loadA (vs := k.cells) Tryd.isAgg29 (fun w => by rw [Tryd.sizeOf29]; simp [hk.length]) h rfl (Cels.stay ro5)) fun a h => ?_
      refine any_take (i := 1) rfl (by kernel_rfl) (fun _ _ _ _ h => h) h rfl (fun w h => p_loadA (vs := s.map B) Tryd.isAgg25 (fun w => by rw [Tryd.sizeOf25]; simp [hs]) h rfl (Cels.stay ro4)) fun a h => ?_
      refine any_take (i := 3) rfl (by kernel_rfl) (fun _ _ _ _ h => h) h rfl (fun w h => p_move h rfl) fun a h => ?_
      refine any_take (i := 4) rfl (by kernel_rfl) (fun _ _ _ _ h => h) h rfl (fun w h => p_loadA (vs := s.map B) Tryd.isAgg25 (fun w => by rw [Tryd.sizeOf25]; simp [hs]) h rfl (Cels.stay ro4)) fun a h => ?_
      refine any_one (i := 2) (by kernel_rfl) ?_
      refine any_O rfl h.env rfl (Enter.opT (o_call Tryd.call12 h rfl) (call_outA (c_NPairText h.own ht hk hs (by omega)))) ?_
      rintro b16 _ a w h
      obtain ⟨hf17, hlef17, hinf17, hbkf17, h⟩ := h.freeze
      refine any_lend hlef17 ?_
      replace ht := ht.mono hlef17
      replace h1 := h1.mono hlef17
      replace h2 := h2.mono hlef17
      replace hk := hk.mono hlef17
      replace hby9 := hby9.mono hlef17
      replace hby13 := hby13.mono hlef17
      replace ro4 := hlef17 _ _ ro4
      replace ro5 := hlef17 _ _ ro5
      replace ro8 := hlef17 _ _ ro8
      replace ro12 := hlef17 _ _ ro12
      replace hle := Hp.le_trans hle hlef17
      have ro18 : hf17 b16 = some (row 5 ((pairText k.lvl kb k.cnt k.label s).map B)) := hinf17 _ _ (by simp)
      have hby19 : Byts hf17 (slc b16 0 ((pairText k.lvl kb k.cnt k.label s).length) ((pairText k.lvl kb k.cnt k.label s).length)) (pairText k.lvl kb k.cnt k.label s) := Byts.row ro18 (by (try simp) <;> omega) (by simp [List.take_of_length_le]) (by (try simp) <;> omega) (by first | assumption | (unfold maxLen; (try simp) <;> omega))
      refine any_one (i := 5) (by kernel_rfl) ?_
      refine any_O rfl h.env rfl (Enter.opT (o_call Tryd.call14 h rfl) (call_outA (c_NRootText h.own ht (by omega) hs))) ?_
      rintro b20 _ a w h
      obtain ⟨hf21, hlef21, hinf21, hbkf21, h⟩ := h.freeze
      refine any_lend hlef21 ?_
      replace ht := ht.mono hlef21
      replace h1 := h1.mono hlef21
      replace h2 := h2.mono hlef21
      replace hk := hk.mono hlef21
      replace hby9 := hby9.mono hlef21
      replace hby13 := hby13.mono hlef21
      replace hby19 := hby19.mono hlef21
      replace ro4 := hlef21 _ _ ro4
      replace ro5 := hlef21 _ _ ro5
      replace ro8 := hlef21 _ _ ro8
      replace ro12 := hlef21 _ _ ro12
      replace ro18 := hlef21 _ _ ro18
      replace hle := Hp.le_trans hle hlef21
      have ro22 : hf21 b20 = some (row 5 ((rootText q s).map B)) := hinf21 _ _ (by simp)
      have hby23 : Byts hf21 (slc b20 0 ((rootText q s).length) ((rootText q s).length)) (rootText q s) := Byts.row ro22 (by (try simp) <;> omega) (by simp [List.take_of_length_le]) (by (try simp) <;> omega) (by first | assumption | (unfold maxLen; (try simp) <;> omega))
      refine any_take (i := 6) rfl (by kernel_rfl) (fun _ _ _ _ h => h) h rfl (fun w h => p_assign h rfl) fun a h => ?_
      refine any_take (i := 7) rfl (by kernel_rfl) (fun _ _ _ _ h => h) h rfl (fun w h => p_assign h rfl) fun a h => ?_
      refine any_end (by kernel_rfl) ?_
      refine th_n ?_
      refine c_seq ?_
      refine c_seq ?_
      refine c_region ?_
      refine stepP (p_move h rfl) h rfl fun a w h => ?_
      refine stepP (p_lenB Tryd.underlying22 h rfl hby9) h rfl fun a w h => ?_
      refine stepP (p_eql h rfl rfl) h rfl fun a w h => ?_
      have h := h.bool_of (t := 47) (b' := false) rfl (by simp <;> omega)
      refine stepP (p_move h rfl) h rfl fun a w h => ?_
      have h := h.bool_of (t := 47) (b' := false) rfl (by simp <;> omega)
      refine stepGP rfl rfl rfl rfl (p_move h rfl) h rfl fun a w h => ?_
      refine stepGP rfl rfl rfl rfl (p_lenB Tryd.underlying22 h rfl hby19) h rfl fun a w h => ?_
      refine stepGP rfl rfl rfl rfl (p_eql h rfl rfl) h rfl fun a w h => ?_
      have h := h.bool_of (t := 51) (b' := false) rfl (by simp <;> omega)
      refine stepP (p_pickF h rfl rfl) h rfl fun a w h => ?_
      have h := h.bool_of (t := 51) (b' := false) rfl (by simp <;> omega)
      refine stepP (p_move h rfl) h rfl fun a w h => ?_
      have h := h.bool_of (t := 51) (b' := false) rfl (by simp <;> omega)
      refine stepGP rfl rfl rfl rfl (p_move h rfl) h rfl fun a w h => ?_
      refine stepGP rfl rfl rfl rfl (p_lenB Tryd.underlying22 h rfl hby23) h rfl fun a w h => ?_
      refine stepGP rfl rfl rfl rfl (p_eql h rfl rfl) h rfl fun a w h => ?_
      have h := h.bool_of (t := 56) (b' := false) rfl (by simp <;> omega)
      refine stepP (p_pickF h rfl rfl) h rfl fun a w h => ?_
      have h := h.bool_of (t := 56) (b' := false) rfl (by simp <;> omega)
      refine stepP (p_move h rfl) h rfl fun a w h => ?_
      have h := h.bool_of (t := 56) (b' := false) rfl (by simp <;> omega)
      refine stepGO rfl rfl rfl rfl (Enter.opT (o_call Tryd.call13 h rfl) (call_outA (c_NHeadText h.own ht ))) h rfl ?_
      rintro b24 _ a w h
      refine stepGP rfl rfl rfl rfl (p_len Tryd.underlying22 h rfl) h rfl fun a w h => ?_
      refine stepGP rfl rfl rfl rfl (p_eql h rfl rfl) h rfl fun a w h => ?_
      have h := h.bool_of (t := 61) (b' := false) rfl (by simp <;> omega)
      refine stepP (p_pickF h rfl rfl) h rfl fun a w h => ?_
      have h := h.bool_of (t := 61) (b' := false) rfl (by simp <;> omega)
      refine stepEnd ?_
      obtain ⟨hf25, hlef25, hinf25, hbkf25, h⟩ := h.freeze
      replace ht := ht.mono hlef25
      replace h1 := h1.mono hlef25
      replace h2 := h2.mono hlef25
      replace hk := hk.mono hlef25
      replace hby9 := hby9.mono hlef25
      replace hby13 := hby13.mono hlef25
      replace hby19 := hby19.mono hlef25
      replace hby23 := hby23.mono hlef25
      replace ro4 := hlef25 _ _ ro4
      replace ro5 := hlef25 _ _ ro5
      replace ro8 := hlef25 _ _ ro8
      replace ro12 := hlef25 _ _ ro12
      replace ro18 := hlef25 _ _ ro18
      replace ro22 := hlef25 _ _ ro22
      replace hle := Hp.le_trans hle hlef25
      have ro26 : hf25 b24 = some (row 5 (headText.map B)) := hinf25 _ _ (by simp)
      have hby27 : Byts hf25 (slc b24 0 headText.length headText.length) headText := Byts.row ro26 (by (try simp) <;> omega) (by simp [List.take_of_length_le]) (by (try simp) <;> omega) (by first | assumption | (unfold maxLen; (try simp) <;> omega))
      refine th_n ?_
      refine c_false rfl h ?_
      refine c_skip ?_
      refine th_n ?_
      refine c_seq ?_
      refine any_begin (N := 14) (by kernel_rfl) rfl h ?_
      clear h; intro w h
      refine any_take (i := 0) rfl (by kernel_rfl) (fun _ _ _ _ h => h) h rfl (fun w h => p_move h rfl) fun a h => ?_
      refine any_take (i := 1) rfl (by kernel_rfl) (fun _ _ _ _ h => h) h rfl (fun w h => p_idxB Tryd.underlying22 Tryd.sizeOf5 h rfl rfl hby9 (j := 0) (by first | omega | (simp <;> omega)) (by first | omega | (simp <;> omega))) fun a h => ?_
      refine any_take (i := 2) rfl (by kernel_rfl) (fun _ _ _ _ h => h) h rfl (fun w h => p_load Tryd.isAgg5 h rfl (hby9.cel (i := 0) (x := 17) (by simp [leafText]))) fun a h => ?_
      refine any_take (i := 3) rfl (by kernel_rfl) (fun _ _ _ _ h => h) h rfl (fun w h => p_move h rfl) fun a h => ?_
      refine any_take (i := 4) rfl (by kernel_rfl) (fun _ _ _ _ h => h) h rfl (fun w h => p_idxB Tryd.underlying22 Tryd.sizeOf5 h rfl rfl hby19 (j := 0) (by first | omega | (simp <;> omega)) (by first | omega | (simp <;> omega))) fun a h => ?_
      refine any_take (i := 5) rfl (by kernel_rfl) (fun _ _ _ _ h => h) h rfl (fun w h => p_load Tryd.isAgg5 h rfl (hby19.cel (i := 0) (x := 19) (by simp [pairText]))) fun a h => ?_
      refine any_take (i := 6) rfl (by kernel_rfl) (fun _ _ _ _ h => h) h rfl (fun w h => p_move h rfl) fun a h => ?_
      refine any_take (i := 7) rfl (by kernel_rfl) (fun _ _ _ _ h => h) h rfl (fun w h => p_idxB Tryd.underlying22 Tryd.sizeOf5 h rfl rfl hby23 (j := 0) (by first | omega | (simp <;> omega)) (by first | omega | (simp <;> omega))) fun a h => ?_
      refine any_take (i := 8) rfl (by kernel_rfl) (fun _ _ _ _ h => h) h rfl (fun w h => p_load Tryd.isAgg5 h rfl (hby23.cel (i := 0) (x := 20) (by simp [rootText]))) fun a h => ?_
      refine any_one (i := 9) (by kernel_rfl) ?_
      refine any_O rfl h.env rfl (Enter.opT (o_call Tryd.call13 h rfl) (call_outA (c_NHeadText h.own ht ))) ?_
      rintro b28 _ a w h
      obtain ⟨hf29, hlef29, hinf29, hbkf29, h⟩ := h.freeze
      refine any_lend hlef29 ?_
      replace ht := ht.mono hlef29
      replace h1 := h1.mono hlef29
      replace h2 := h2.mono hlef29
      replace hk := hk.mono hlef29
      replace hby9 := hby9.mono hlef29
      replace hby13 := hby13.mono hlef29
      replace hby19 := hby19.mono hlef29
      replace hby23 := hby23.mono hlef29
      replace hby27 := hby27.mono hlef29
      replace ro4 := hlef29 _ _ ro4
      replace ro5 := hlef29 _ _ ro5
      replace ro8 := hlef29 _ _ ro8
      replace ro12 := hlef29 _ _ ro12
      replace ro18 := hlef29 _ _ ro18
      replace ro22 := hlef29 _ _ ro22
      replace ro26 := hlef29 _ _ ro26
      replace hle := Hp.le_trans hle hlef29
      have ro30 : hf29 b28 = some (row 5 (headText.map B)) := hinf29 _ _ (by simp)
      have hby31 : Byts hf29 (slc b28 0 headText.length headText.length) headText := Byts.row ro30 (by (try simp) <;> omega) (by simp [List.take_of_length_le]) (by (try simp) <;> omega) (by first | assumption | (unfold maxLen; (try simp) <;> omega))
      refine any_take (i := 10) rfl (by kernel_rfl) (fun _ _ _ _ h => h) h rfl (fun w h => p_idxB Tryd.underlying22 Tryd.sizeOf5 h rfl rfl hby31 (j := 0) (by first | omega | (simp <;> omega)) (by first | omega | (simp <;> omega))) fun a h => ?_
      refine any_take (i := 11) rfl (by kernel_rfl) (fun _ _ _ _ h => h) h rfl (fun w h => p_load Tryd.isAgg5 h rfl (hby31.cel (i := 0) (x := 18) (by simp [headText]))) fun a h => ?_
      refine any_one (i := 12) (by kernel_rfl) ?_
      refine any_O rfl h.env rfl (o_buildSlice (vs := ([17, 19, 20, 18] : List UInt8).map B) Tryd.underlying22 Tryd.sizeOf5 Tryd.zeroValue5 h rfl rfl (by simp [Value.cells]) rfl rfl rfl) ?_
      rintro b32 _ a w h
      obtain ⟨hf33, hlef33, hinf33, hbkf33, h⟩ := h.freeze
      refine any_lend hlef33 ?_
      replace ht := ht.mono hlef33
      replace h1 := h1.mono hlef33
      replace h2 := h2.mono hlef33
      replace hk := hk.mono hlef33
      replace hby9 := hby9.mono hlef33
      replace hby13 := hby13.mono hlef33
      replace hby19 := hby19.mono hlef33
      replace hby23 := hby23.mono hlef33
      replace hby27 := hby27.mono hlef33
      replace hby31 := hby31.mono hlef33
      replace ro4 := hlef33 _ _ ro4
      replace ro5 := hlef33 _ _ ro5
      replace ro8 := hlef33 _ _ ro8
      replace ro12 := hlef33 _ _ ro12
      replace ro18 := hlef33 _ _ ro18
      replace ro22 := hlef33 _ _ ro22
      replace ro26 := hlef33 _ _ ro26
      replace ro30 := hlef33 _ _ ro30
      replace hle := Hp.le_trans hle hlef33
      have ro34 : hf33 b32 = some (row 5 (([17, 19, 20, 18] : List UInt8).map B)) := hinf33 _ _ (by simp)
      have hby35 : Byts hf33 (slc b32 0 4 4) ([17, 19, 20, 18] : List UInt8) := Byts.row ro34 (by (try simp) <;> omega) (by simp [List.take_of_length_le]) (by (try simp) <;> omega) (by first | assumption | (unfold maxLen; (try simp) <;> omega))
      refine any_take (i := 13) rfl (by kernel_rfl) (fun _ _ _ _ h => h) h rfl (fun w h => p_assign h rfl) fun a h => ?_
      refine any_end (by kernel_rfl) ?_
      refine th_n ?_
      refine c_seq ?_
      refine c_seq ?_
      refine c_region ?_
      refine stepP (p_move h rfl) h rfl fun a w h => ?_
      refine stepP (p_lenB Tryd.underlying22 h rfl hby35) h rfl fun a w h => ?_
      refine stepP (p_move h rfl) h rfl fun a w h => ?_
      refine stepEnd ?_
      refine th_n ?_
      refine c_block ?_
      refine c_loop (fun m a w => ∃ (i : Nat), m = 4 - i ∧ i ≤ 4 ∧ St S hf33 [] 115 [(7, ptr b1 0), (8, ptr b2 0), (13, (slc b16 0 ((pairText k.lvl kb k.cnt k.label s).length) ((pairText k.lvl kb k.cnt k.label s).length))), (15, (slc b32 0 4 4)), (77, .int .i64 ((([17, 19, 20, 18] : List UInt8).length : Nat) : Int)), (78, .int .i64 ((i : Nat) : Int))] a w) (N := 4 - 0) ⟨0, rfl, by omega, h.to rfl ⟨rfl, rfl, rfl, rfl, (look_int rfl (by first | rfl | omega)), (look_int rfl (by first | rfl | omega)), trivial⟩⟩ ?_
      clear h
      rintro m a w ⟨i, rfl, hi, h⟩
      refine c_seq ?_
      refine c_region ?_
      refine stepP (p_lss h rfl rfl) h rfl fun a w h => ?_
      refine stepEnd ?_
      refine th_n ?_
      refine c_seq ?_
      refine c_cond rfl h (fun hc36 => ?_) (fun hc36 => ?_)
      · skip
        refine c_skip ?_
        refine th_n ?_
        refine c_seq ?_
        refine c_block ?_
        refine c_seq ?_
        refine c_region ?_
        refine stepP (p_move h rfl) h rfl fun a w h => ?_
        refine stepP (p_assign h rfl) h rfl fun a w h => ?_
        refine stepEnd ?_
        refine th_n ?_
        refine c_seq ?_
        refine c_seq ?_
        refine c_region ?_
        refine stepP (p_move h rfl) h rfl fun a w h => ?_
        refine stepP (p_move h rfl) h rfl fun a w h => ?_
        refine stepP (p_idxB Tryd.underlying22 Tryd.sizeOf5 h rfl rfl hby35 (j := i) (by first | omega | (simp <;> omega)) (by first | omega | (simp <;> omega))) h rfl fun a w h => ?_
        have hj37 : i < ([17, 19, 20, 18] : List UInt8).length := by omega
        refine stepP (p_load Tryd.isAgg5 h rfl (hby35.cel (List.getElem?_eq_getElem hj37))) h rfl fun a w h => ?_
        refine stepP (p_leq h rfl rfl) h rfl fun a w h => ?_
        refine stepEnd ?_
        refine th_n ?_
        refine c_cond rfl h (fun hc38 => ?_) (fun hc38 => ?_)
        · skip
          exfalso
          have hi4 : i < 4 := by simp at *; omega
          have : i = 0 ∨ i = 1 ∨ i = 2 ∨ i = 3 := by omega
          rcases this with rfl | rfl | rfl | rfl <;> simp at hc38
        · skip
          refine c_skip ?_
          refine th_n ?_
          refine c_seq ?_
          refine c_region ?_
          refine stepP (p_assign h rfl) h rfl fun a w h => ?_
          refine stepEnd ?_
          refine th_n ?_
          refine c_block ?_
          refine c_loop (fun m a w => ∃ (j : Nat), m = i - j ∧ j ≤ i ∧ St S hf33 [] 115 [(7, ptr b1 0), (8, ptr b2 0), (13, (slc b16 0 ((pairText k.lvl kb k.cnt k.label s).length) ((pairText k.lvl kb k.cnt k.label s).length))), (15, (slc b32 0 4 4)), (16, .int .i64 ((i : Nat) : Int)), (17, .int .i64 ((j : Nat) : Int)), (77, .int .i64 ((([17, 19, 20, 18] : List UInt8).length : Nat) : Int)), (78, .int .i64 ((i : Nat) : Int))] a w) (N := i - 0) ⟨0, rfl, by omega, h.to rfl ⟨rfl, rfl, rfl, rfl, (look_int rfl (by first | rfl | omega)), (look_int rfl (by first | rfl | omega)), (look_int rfl (by first | rfl | omega)), (look_int rfl (by first | rfl | omega)), trivial⟩⟩ ?_
          clear h
          rintro m a w ⟨j, rfl, hj, h⟩
          refine c_seq ?_
          refine c_seq ?_
          refine c_region ?_
          refine stepP (p_move h rfl) h rfl fun a w h => ?_
          refine stepP (p_move h rfl) h rfl fun a w h => ?_
          refine stepP (p_lss h rfl rfl) h rfl fun a w h => ?_
          refine stepEnd ?_
          refine th_n ?_
          refine c_cond rfl h (fun hc39 => ?_) (fun hc39 => ?_)
          · skip
            refine c_skip ?_
            refine th_n ?_
            refine c_seq ?_
            refine c_block ?_
            refine c_seq ?_
            refine region_quiet (by kernel_rfl) (by kernel_rfl) h ?_
            have he := h.env
            clear h
            refine stepQ he (fun w h => p_move h rfl) rfl fun a he => ?_
            refine stepQ he (fun w h => p_move h rfl) rfl fun a he => ?_
            refine stepQ he (fun w h => p_idxB Tryd.underlying22 Tryd.sizeOf5 h rfl rfl hby35 (j := i) (by first | omega | (simp <;> omega)) (by first | omega | (simp <;> omega))) rfl fun a he => ?_
            have hj40 : i < ([17, 19, 20, 18] : List UInt8).length := by omega
            refine stepQ he (fun w h => p_load Tryd.isAgg5 h rfl (hby35.cel (List.getElem?_eq_getElem hj40))) rfl fun a he => ?_
            refine stepQ he (fun w h => p_move h rfl) rfl fun a he => ?_
            refine stepQ he (fun w h => p_move h rfl) rfl fun a he => ?_
            refine stepQ he (fun w h => p_idxB Tryd.underlying22 Tryd.sizeOf5 h rfl rfl hby35 (j := j) (by first | omega | (simp <;> omega)) (by first | omega | (simp <;> omega))) rfl fun a he => ?_
            have hj41 : j < ([17, 19, 20, 18] : List UInt8).length := by omega
            refine stepQ he (fun w h => p_load Tryd.isAgg5 h rfl (hby35.cel (List.getElem?_eq_getElem hj41))) rfl fun a he => ?_
            refine stepQ he (fun w h => p_eql h rfl rfl) rfl fun a he => ?_
            refine stepQEnd he fun w h => ?_
            refine th_n ?_
            refine c_cond rfl h (fun hc42 => ?_) (fun hc42 => ?_)
            · skip
              exfalso
              have hi4 : i < 4 := by simp at *; omega
              have hji : j < i := by omega
              have : (i = 1 ∧ j = 0) ∨ (i = 2 ∧ j = 0) ∨ (i = 2 ∧ j = 1) ∨ (i = 3 ∧ j = 0) ∨ (i = 3 ∧ j = 1) ∨ (i = 3 ∧ j = 2) := by omega
              rcases this with ⟨rfl, rfl⟩ | ⟨rfl, rfl⟩ | ⟨rfl, rfl⟩ | ⟨rfl, rfl⟩ | ⟨rfl, rfl⟩ | ⟨rfl, rfl⟩ <;> simp at hc42
            · skip
              refine c_skip ?_
              refine bl_n ?_
              refine th_n ?_
              refine c_region ?_
              refine stepP (p_move h rfl) h rfl fun a w h => ?_
              refine stepP (p_add h rfl rfl (wi (by omega))) h rfl fun a w h => ?_
              refine stepP (p_assign h rfl) h rfl fun a w h => ?_
              refine stepEnd ?_
              exact th_n ⟨_, by omega, j + 1, rfl, by omega, h.to rfl ⟨rfl, rfl, rfl, rfl, (look_int rfl (by first | rfl | omega)), (look_int rfl (by first | rfl | omega)), (look_int rfl (by first | rfl | omega)), (look_int rfl (by first | rfl | omega)), trivial⟩⟩
          · skip
            refine c_exit (th_e (th_e (exit_at ?_)))
            refine bl_n ?_
            refine th_n ?_
            refine c_region ?_
            refine stepP (p_add h rfl rfl (wi (by omega))) h rfl fun a w h => ?_
            refine stepP (p_move h rfl) h rfl fun a w h => ?_
            refine stepEnd ?_
            exact th_n ⟨_, by simp at *; omega, i + 1, rfl, by simp at *; omega, h.to rfl ⟨rfl, rfl, rfl, rfl, (look_int rfl (by first | rfl | omega)), (look_int rfl (by first | rfl | omega)), trivial⟩⟩
      · skip
        refine c_exit (th_e (th_e (exit_at ?_)))
        refine th_n ?_
        refine c_seq ?_
        refine c_region ?_
        refine stepP (p_loadA (vs := k.cells) Tryd.isAgg29 (fun w => by rw [Tryd.sizeOf29]; simp [hk.length]) h rfl (Cels.stay ro5)) h rfl fun a w h => ?_
        refine stepO (o_alloc (l := Tryd.zeroCells29.toList) Tryd.zeroValue29 rfl h) h.env rfl ?_
        rintro b43 _ a w h
        refine stepN (o_storeA (kk := 0) (vs := k.cells) (cs' := k.cells) (fun w => by rw [Tryd.sizeOf29]; simp [hk.length]) h rfl rfl rfl hk.one rfl (by simp [hk.length, Tryd.zeroCells29_size]) (by simp [hk.length, Tryd.zeroCells29_size])) h.env fun a w h => ?_
        refine stepEnd ?_
        refine th_n ?_
        refine c_seq ?_
        refine c_region ?_
        refine stepP (p_loadA (vs := s.map B) Tryd.isAgg25 (fun w => by rw [Tryd.sizeOf25]; simp [hs]) h rfl (Cels.stay ro4)) h rfl fun a w h => ?_
        refine stepP (p_fieldAddr (r := 36) Tryd.underlying29 rfl Tryd.sizeOf25 rfl rfl h rfl) h rfl fun a w h => ?_
        refine stepN (o_storeA (kk := 0) (vs := s.map B) (cs' := (k.relabel s).cells) (fun w => by rw [Tryd.sizeOf25]; simp [hs]) h rfl rfl rfl (oneB s) rfl (by simp [hk.length, hs]) (by simp [hs, hk.relabelAt])) h.env fun a w h => ?_
        refine stepEnd ?_
        obtain ⟨hf44, hlef44, hinf44, hbkf44, h⟩ := h.freeze
        replace ht := ht.mono hlef44
        replace h1 := h1.mono hlef44
        replace h2 := h2.mono hlef44
        replace hk := hk.mono hlef44
        replace hby9 := hby9.mono hlef44
        replace hby13 := hby13.mono hlef44
        replace hby19 := hby19.mono hlef44
        replace hby23 := hby23.mono hlef44
        replace hby27 := hby27.mono hlef44
        replace hby31 := hby31.mono hlef44
        replace hby35 := hby35.mono hlef44
        replace ro4 := hlef44 _ _ ro4
        replace ro5 := hlef44 _ _ ro5
        replace ro8 := hlef44 _ _ ro8
        replace ro12 := hlef44 _ _ ro12
        replace ro18 := hlef44 _ _ ro18
        replace ro22 := hlef44 _ _ ro22
        replace ro26 := hlef44 _ _ ro26
        replace ro30 := hlef44 _ _ ro30
        replace ro34 := hlef44 _ _ ro34
        replace hle := Hp.le_trans hle hlef44
        have ro45 : hf44 b43 = some (row 29 ((k.relabel s).cells)) := hinf44 _ _ (by simp)
        refine th_n ?_
        refine c_seq ?_
        refine any_begin (N := 12) (by kernel_rfl) rfl h ?_
        clear h; intro w h
        refine any_take (i := 0) rfl (by kernel_rfl) (fun _ _ _ _ h => h) h rfl (fun w h => p_move h rfl) fun a h => ?_
        refine any_take (i := 1) rfl (by kernel_rfl) (fun _ _ _ _ h => h) h rfl (fun w h => p_loadA (vs := (k.relabel s).cells) Tryd.isAgg29 (fun w => by rw [Tryd.sizeOf29]; simp [(hk.relabel hs).length]) h rfl (Cels.stay ro45)) fun a h => ?_
        refine any_take (i := 2) rfl (by kernel_rfl) (fun _ _ _ _ h => h) h rfl (fun w h => p_fieldAddr (r := 36) Tryd.underlying29 rfl Tryd.sizeOf25 rfl rfl h rfl) fun a h => ?_
        refine any_take (i := 3) rfl (by kernel_rfl) (fun _ _ _ _ h => h) h rfl (fun w h => p_loadA (vs := k.label.map B) Tryd.isAgg25 (fun w => by rw [Tryd.sizeOf25]; simp [hk.label]) h rfl (Cels.stayPart ro5 hk.labelAt)) fun a h => ?_
        refine any_take (i := 6) rfl (by kernel_rfl) (fun _ _ _ _ h => h) h rfl (fun w h => p_loadA (vs := s.map B) Tryd.isAgg25 (fun w => by rw [Tryd.sizeOf25]; simp [hs]) h rfl (Cels.stay ro4)) fun a h => ?_
        refine any_take (i := 7) rfl (by kernel_rfl) (fun _ _ _ _ h => h) h rfl (fun w h => p_fieldAddr (r := 36) Tryd.underlying29 rfl Tryd.sizeOf25 rfl rfl h rfl) fun a h => ?_
        refine any_take (i := 8) rfl (by kernel_rfl) (fun _ _ _ _ h => h) h rfl (fun w h => p_loadA (vs := k.label.map B) Tryd.isAgg25 (fun w => by rw [Tryd.sizeOf25]; simp [hk.label]) h rfl (Cels.stayPart ro5 hk.labelAt)) fun a h => ?_
        refine any_take (i := 9) rfl (by kernel_rfl) (fun _ _ _ _ h => h) h rfl (fun w h => p_eqlS Tryd.underlying25 Tryd.underlying5 Tryd.sizeOf5 Tryd.isAgg5 Tryd.eqGuardType25 h rfl rfl hs hk.label) fun a h => ?_
        refine any_one (i := 4) (by kernel_rfl) ?_
        refine any_O rfl h.env rfl (Enter.opT (o_call Tryd.call12 h rfl) (call_outA (c_NPairText h.own ht (hk.relabel hs) hk.label (by omega)))) ?_
        rintro b46 _ a w h
        obtain ⟨hf47, hlef47, hinf47, hbkf47, h⟩ := h.freeze
        refine any_lend hlef47 ?_
        replace ht := ht.mono hlef47
        replace h1 := h1.mono hlef47
        replace h2 := h2.mono hlef47
        replace hk := hk.mono hlef47
        replace hby9 := hby9.mono hlef47
        replace hby13 := hby13.mono hlef47
        replace hby19 := hby19.mono hlef47
        replace hby23 := hby23.mono hlef47
        replace hby27 := hby27.mono hlef47
        replace hby31 := hby31.mono hlef47
        replace hby35 := hby35.mono hlef47
        replace ro4 := hlef47 _ _ ro4
        replace ro5 := hlef47 _ _ ro5
        replace ro8 := hlef47 _ _ ro8
        replace ro12 := hlef47 _ _ ro12
        replace ro18 := hlef47 _ _ ro18
        replace ro22 := hlef47 _ _ ro22
        replace ro26 := hlef47 _ _ ro26
        replace ro30 := hlef47 _ _ ro30
        replace ro34 := hlef47 _ _ ro34
        replace ro45 := hlef47 _ _ ro45
        replace hle := Hp.le_trans hle hlef47
        have ro48 : hf47 b46 = some (row 5 ((pairText (k.relabel s).lvl kb (k.relabel s).cnt (k.relabel s).label k.label).map B)) := hinf47 _ _ (by simp)
        have hby49 : Byts hf47 (slc b46 0 ((pairText (k.relabel s).lvl kb (k.relabel s).cnt (k.relabel s).label k.label).length) ((pairText (k.relabel s).lvl kb (k.relabel s).cnt (k.relabel s).label k.label).length)) (pairText (k.relabel s).lvl kb (k.relabel s).cnt (k.relabel s).label k.label) := Byts.row ro48 (by (try simp) <;> omega) (by simp [List.take_of_length_le]) (by (try simp) <;> omega) (by first | assumption | (unfold maxLen; (try simp) <;> omega))
        refine any_one (i := 5) (by kernel_rfl) ?_
        refine any_V rfl h.env rfl (Enter.opT (o_call Tryd.call17 h rfl) (call_valA (c_SameBytes h.own hby19 hby49))) fun a w h => ?_
        refine any_take (i := 10) rfl (by kernel_rfl) (fun _ _ _ _ h => h) h rfl (fun w h => p_eqlB Tryd.underlying4 h rfl rfl) fun a h => ?_
        refine any_take (i := 11) rfl (by kernel_rfl) (fun _ _ _ _ h => h) h rfl (fun w h => p_assign h rfl) fun a h => ?_
        refine any_end (by kernel_rfl) ?_
        refine th_n ?_
        refine c_ret ?_
        exact fin1 (.inl rfl) h rfl rfl ⟨by simp [KidV.relabel, pairText_swap hs hk.label], h.own.weaken hle⟩

end Go.Proofs.YtkklgmhmhhbjkaaDoor
