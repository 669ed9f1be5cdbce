/-
  WHAT EACH CALL COMES TO: the law NodeTexts. Printed by the own generator (wip/gen), one law of the own library for each operation.
-/
import Derived.Test.YtkklgmhmhhbjkaaDoorKitI
import Derived.Test.YtkklgmhmhhbjkaaDoorProg
import Derived.Test.YtkklgmhmhhbjkaaDoorFnA
import Derived.Test.YtkklgmhmhhbjkaaDoorFnB
import Derived.Test.YtkklgmhmhhbjkaaDoorFnC
import Derived.Test.YtkklgmhmhhbjkaaDoorFnApart
namespace Go.Proofs.YtkklgmhmhhbjkaaDoor
open Go Go.Own Go.Proofs
set_option maxRecDepth 100000
set_option linter.unusedVariables false

set_option maxHeartbeats 4000000 in
theorem c_NodeTexts {S : World} {hf : Hp} {w : World} (ho : Owns S hf [] w) (ht : TagsAt 0 hf) {v : Value} {l kb s : List UInt8} {k : KidV} {q : Nat} (h1 : Byts hf v l) (hk : k.Ok hf kb) (hs : s.length = 32) (hq : q < 18446744073709551616)
    (hb1 : l.length ≤ 140737488351232) (hb2 : kb.length ≤ 140737488351232) :
    Calls Tryd.prog 3 [v, k.val, sumV s, .int .u64 (q : Int)].toArray w (RetV S hf [] (.bool true)) := by
  refine enter (n := 200) (E := [(0, _), (1, _), (2, _), (3, _)]) Tryd.func3 rfl Tryd.ntmps3 rfl rfl ho fun a h => ?_
  have hkl := hk.label
  refine c_seq ?_
  refine c_region ?_
  refine stepO (o_box (l := k.cells) h rfl rfl) h.env rfl ?_
  rintro b1 _ a w h
  refine stepO (o_box (l := s.map B) h rfl rfl) h.env rfl ?_
  rintro b2 _ a w h
  refine stepP (p_assign h rfl) h rfl fun a w h => ?_
  refine stepEnd ?_
  refine th_n ?_
  refine c_seq ?_
  refine c_region ?_
  refine stepP (p_move h rfl) h rfl fun a w h => ?_
  refine stepO (Enter.opT (o_call Tryd.call10 h rfl) (call_out0 h.own (c_Roomy h.own.lend0 (h1.mono h.own.le0) (by omega)))) h.env rfl ?_
  rintro ⟨b3, cap4, rest5⟩ ⟨hc6, hc7, hc8⟩ a w h
  replace hc6 : l.length + 2 ≤ cap4 := hc6
  replace hc7 : cap4 ≤ maxLen := hc7
  refine stepP (p_move h rfl) h rfl fun a w h => ?_
  refine stepP (p_extract h rfl rfl) h rfl fun a w h => ?_
  refine stepP (p_extract h rfl rfl) h rfl fun a w h => ?_
  refine stepP (p_assign h rfl) h rfl fun a w h => ?_
  refine stepP (p_assign h rfl) h rfl fun a w h => ?_
  refine stepEnd ?_
  refine th_n ?_
  refine c_seq ?_
  refine c_region ?_
  refine stepP (p_loadA (vs := k.cells) Tryd.isAgg29 (fun w => by rw [Tryd.sizeOf29]; simp [hk.length]) h rfl (Cels.all (k := 2) rfl)) h rfl fun a w h => ?_
  refine stepO (o_alloc (l := Tryd.zeroCells29.toList) Tryd.zeroValue29 rfl h) h.env rfl ?_
  rintro b9 _ a w h
  refine stepN (o_storeA (kk := 0) (vs := k.cells) (cs' := k.cells) (fun w => by rw [Tryd.sizeOf29]; simp [hk.length]) h rfl rfl rfl hk.one rfl (by simp [hk.length, Tryd.zeroCells29_size]) (by simp [hk.length, Tryd.zeroCells29_size])) h.env fun a w h => ?_
  refine stepEnd ?_
  refine th_n ?_
  refine c_seq ?_
  refine c_region ?_
  refine stepP (p_fieldAddr (r := 1) Tryd.underlying29 rfl Tryd.sizeOf22 rfl rfl h rfl) h rfl fun a w h => ?_
  refine stepP (p_load Tryd.isAgg22 h rfl (Cel.own (k := 3) rfl rfl)) h rfl fun a w h => ?_
  refine stepO (Enter.opT (o_call Tryd.call10 h rfl) (call_out0 h.own (c_Roomy h.own.lend0 (hk.key.mono h.own.le0) (by omega)))) h.env rfl ?_
  rintro ⟨b10, cap11, rest12⟩ ⟨hc13, hc14, hc15⟩ a w h
  replace hc13 : kb.length + 2 ≤ cap11 := hc13
  replace hc14 : cap11 ≤ maxLen := hc14
  refine stepP (p_move h rfl) h rfl fun a w h => ?_
  refine stepP (p_extract h rfl rfl) h rfl fun a w h => ?_
  refine stepP (p_extract h rfl rfl) h rfl fun a w h => ?_
  refine stepP (p_assign h rfl) h rfl fun a w h => ?_
  refine stepP (p_assign h rfl) h rfl fun a w h => ?_
  refine stepEnd ?_
  refine th_n ?_
  refine c_seq ?_
  refine c_region ?_
  refine stepP (p_move h rfl) h rfl fun a w h => ?_
  refine stepP (p_fieldAddr (r := 1) Tryd.underlying29 rfl Tryd.sizeOf22 rfl rfl h rfl) h rfl fun a w h => ?_
  refine stepN (o_store (kk := 1) (cs' := (k.rekey (slc b10 0 kb.length cap11)).cells) Tryd.sizeOf22 h rfl rfl rfl rfl rfl (by simp [hk.length]) rfl) h.env fun a w h => ?_
  refine stepEnd ?_
  refine th_n ?_
  refine c_seq ?_
  have ht0 := ht
  have h10 := h1
  have hk0 := hk
  obtain ⟨hf16, hlef16, hinf16, hbkf16, h⟩ := h.freeze
  replace ht := ht.mono hlef16
  replace h1 := h1.mono hlef16
  replace hk := hk.mono hlef16
  have hle := hlef16
  have ro17 : hf16 b10 = some (row 5 ((kb ++ [165, 90]).map B ++ rest12)) := hinf16 _ _ (List.mem_of_getElem? (i := 0) rfl)
  have ro18 : hf16 b9 = some (row 29 ((k.rekey (slc b10 0 kb.length cap11)).cells)) := hinf16 _ _ (List.mem_of_getElem? (i := 1) rfl)
  have ro19 : hf16 b3 = some (row 5 ((l ++ [165, 90]).map B ++ rest5)) := hinf16 _ _ (List.mem_of_getElem? (i := 2) rfl)
  have ro20 : hf16 b2 = some (row 25 (s.map B)) := hinf16 _ _ (List.mem_of_getElem? (i := 3) rfl)
  have ro21 : hf16 b1 = some (row 29 k.cells) := hinf16 _ _ (List.mem_of_getElem? (i := 4) rfl)
  refine any_begin (N := 8) (by kernel_rfl) rfl h ?_
  clear h; intro w h
  refine any_take (i := 0) rfl (by kernel_rfl) (fun _ _ _ _ h => h) h rfl (fun w h => p_move h rfl) fun a h => ?_
  refine any_take (i := 1) rfl (by kernel_rfl) (fun _ _ _ _ h => h) h rfl (fun w h => p_loadA (vs := s.map B) Tryd.isAgg25 (fun w => by rw [Tryd.sizeOf25]; simp [hs]) h rfl (Cels.stay ro20)) fun a h => ?_
  refine any_take (i := 3) rfl (by kernel_rfl) (fun _ _ _ _ h => h) h rfl (fun w h => p_loadA (vs := (k.rekey (slc b10 0 kb.length cap11)).cells) Tryd.isAgg29 (fun w => by rw [Tryd.sizeOf29]; simp [KidV.rekey_length, hk.length]) h rfl (Cels.stay ro18)) fun a h => ?_
  refine any_take (i := 4) rfl (by kernel_rfl) (fun _ _ _ _ h => h) h rfl (fun w h => p_loadA (vs := s.map B) Tryd.isAgg25 (fun w => by rw [Tryd.sizeOf25]; simp [hs]) h rfl (Cels.stay ro20)) fun a h => ?_
  refine any_one (i := 2) (by kernel_rfl) ?_
  refine any_O rfl h.env rfl (Enter.opT (o_call Tryd.call11 h rfl) (call_out0 h.own (c_NLeafText h.own.lend0 (ht.mono h.own.le0) ((Byts.row ro19 rfl (headB _ _ _) (by omega) hc7 : Byts _ (slc b3 0 l.length cap4) l).mono h.own.le0) hs (by first | omega | (simp <;> omega))))) ?_
  rintro b22 _ a w h
  refine any_one (i := 5) (by kernel_rfl) ?_
  refine any_O rfl h.env rfl (Enter.opT (o_call Tryd.call12 h rfl) (call_out0 h.own (c_NPairText h.own.lend0 (ht.mono h.own.le0) (hk.rekey ((Byts.row ro17 rfl (headB _ _ _) (by omega) hc14 : Byts _ (slc b10 0 kb.length cap11) kb).mono h.own.le0)) hs (by first | omega | (simp <;> omega))))) ?_
  rintro b23 _ a w h
  refine any_take (i := 6) rfl (by kernel_rfl) (fun _ _ _ _ h => h) h rfl (fun w h => p_assign h rfl) fun a h => ?_
  refine any_take (i := 7) rfl (by kernel_rfl) (fun _ _ _ _ h => h) h rfl (fun w h => p_assign h rfl) fun a h => ?_
  refine any_end (by kernel_rfl) ?_
  refine th_n ?_
  refine c_seq ?_
  refine any_begin (N := 6) (by kernel_rfl) rfl h ?_
  clear h; intro w h
  refine any_take (i := 1) rfl (by kernel_rfl) (fun _ _ _ _ h => h) h rfl (fun w h => p_move h rfl) fun a h => ?_
  refine any_take (i := 2) rfl (by kernel_rfl) (fun _ _ _ _ h => h) h rfl (fun w h => p_loadA (vs := s.map B) Tryd.isAgg25 (fun w => by rw [Tryd.sizeOf25]; simp [hs]) h rfl (Cels.stay ro20)) fun a h => ?_
  refine any_one (i := 0) (by kernel_rfl) ?_
  refine any_O rfl h.env rfl (Enter.opT (o_call Tryd.call13 h rfl) (call_out0 h.own (c_NHeadText h.own.lend0 (ht.mono h.own.le0) ))) ?_
  rintro b24 _ a w h
  refine any_one (i := 3) (by kernel_rfl) ?_
  refine any_O rfl h.env rfl (Enter.opT (o_call Tryd.call14 h rfl) (call_out0 h.own (c_NRootText h.own.lend0 (ht.mono h.own.le0) (by omega) hs))) ?_
  rintro b25 _ a w h
  refine any_take (i := 4) rfl (by kernel_rfl) (fun _ _ _ _ h => h) h rfl (fun w h => p_assign h rfl) fun a h => ?_
  refine any_take (i := 5) rfl (by kernel_rfl) (fun _ _ _ _ h => h) h rfl (fun w h => p_assign h rfl) fun a h => ?_
  refine any_end (by kernel_rfl) ?_
  replace h := h.re (hbkf16 _ _ h.own)
  replace ht := ht0
  replace h1 := h10
  replace hk := hk0
  refine th_n ?_
  refine c_seq ?_
  refine c_seq ?_
  refine c_region ?_
  refine stepP (p_move h rfl) h rfl fun a w h => ?_
  refine stepP (p_move h rfl) h rfl fun a w h => ?_
  refine stepV (Enter.opT (o_call Tryd.call15 h rfl) (call_val0 h.own (c_Untouched h.own.lend0 (Byts.row (T := 5) (h.own.in0 (k := 6) rfl) (by simp) (wholeB _ _) (by simp; omega) hc7) (h1.mono h.own.le0) (by omega)))) h.env rfl fun a w h => ?_
  have h := h.bool_of (t := 53) (b' := true) rfl (by simp)
  refine stepP (p_not h rfl) h rfl fun a w h => ?_
  refine stepP (p_move h rfl) h rfl fun a w h => ?_
  refine stepGP rfl rfl rfl rfl (p_move h rfl) h rfl fun a w h => ?_
  refine stepGP rfl rfl rfl rfl (p_fieldAddr (r := 1) Tryd.underlying29 rfl Tryd.sizeOf22 rfl rfl h rfl) h rfl fun a w h => ?_
  refine stepGP rfl rfl rfl rfl (p_load Tryd.isAgg22 h rfl (Cel.own (k := 8) rfl rfl)) h rfl fun a w h => ?_
  refine stepGV rfl rfl rfl rfl (Enter.opT (o_call Tryd.call15 h rfl) (call_val0 h.own (c_Untouched h.own.lend0 (Byts.row (T := 5) (h.own.in0 (k := 4) rfl) (by simp) (wholeB _ _) (by simp; omega) hc14) (hk.key.mono h.own.le0) (by omega)))) h rfl fun a w h => ?_
  have h := h.bool_of (t := 59) (b' := true) rfl (by simp)
  refine stepGP rfl rfl rfl rfl (p_not h rfl) h rfl fun a w h => ?_
  refine stepP (p_pickF h rfl rfl) h rfl fun a w h => ?_
  refine stepEnd ?_
  refine th_n ?_
  refine c_false rfl h ?_
  refine c_skip ?_
  refine th_n ?_
  refine c_seq ?_
  refine c_region ?_
  refine stepP (p_move h rfl) h rfl fun a w h => ?_
  refine stepO (Enter.opT (o_call Tryd.call16 h rfl) (call_out0 h.own (c_CopyBytes h.own.lend0 (h1.mono h.own.le0) (by omega)))) h.env rfl ?_
  rintro b26 _ a w h
  refine stepP (p_assign h rfl) h rfl fun a w h => ?_
  refine stepEnd ?_
  refine th_n ?_
  refine c_seq ?_
  refine c_seq ?_
  refine c_region ?_
  refine stepP (p_move h rfl) h rfl fun a w h => ?_
  refine stepP (p_len Tryd.underlying22 h rfl) h rfl fun a w h => ?_
  refine stepP (p_move h rfl) h rfl fun a w h => ?_
  refine stepEnd ?_
  refine th_n ?_
  refine c_block ?_
  refine c_loop (fun m a w => ∃ (i : Nat), m = l.length - i ∧ i ≤ l.length ∧ St S hf ([(b26, row 5 ((notS l i).map B))] ++ ([(b25, row 5 ((rootText q s).map B))] ++ ([(b24, row 5 (headText.map B))] ++ ([(b23, row 5 ((pairText k.lvl kb k.cnt k.label s).map B))] ++ ([(b22, row 5 ((leafText l s).map B))] ++ ([(b10, row 5 ((kb ++ [165, 90]).map B ++ rest12))] ++ ([(b9, row 29 ((k.rekey (slc b10 0 kb.length cap11)).cells))] ++ ([(b3, row 5 ((notS l i ++ [165, 90]).map B ++ rest5))] ++ ([(b2, row 25 (s.map B))] ++ ([(b1, row 29 k.cells)])))))))))) 200 [(0, v), (3, .int .u64 (q : Int)), (5, ptr b1 0), (6, ptr b2 0), (9, slc b3 0 l.length cap4), (11, ptr b9 0), (12, slc b10 0 kb.length cap11), (14, slc b22 0 ((leafText l s).length) ((leafText l s).length)), (15, slc b23 0 ((pairText k.lvl kb k.cnt k.label s).length) ((pairText k.lvl kb k.cnt k.label s).length)), (16, slc b24 0 headText.length headText.length), (17, slc b25 0 ((rootText q s).length) ((rootText q s).length)), (18, slc b26 0 l.length l.length), (65, .int .i64 ((l.length : Nat) : Int)), (66, .int .i64 ((i : Nat) : Int))] a w) (N := l.length - 0) ⟨0, rfl, by omega, h.to (by first | (rw [notS_zero]; done) | (rw [notS_zero]; rfl)) ⟨rfl, (look_int rfl (by first | rfl | omega)), rfl, rfl, rfl, rfl, rfl, rfl, rfl, rfl, rfl, rfl, (look_int rfl (by first | rfl | omega)), (look_int rfl (by first | rfl | omega)), trivial⟩⟩ ?_
  clear h
  rintro m a w ⟨i, rfl, hi, h⟩
  refine c_seq ?_
  refine c_region ?_
  refine stepP (p_lss h rfl rfl) h rfl fun a w h => ?_
  refine stepEnd ?_
  refine th_n ?_
  refine c_seq ?_
  refine c_cond rfl h (fun hc27 => ?_) (fun hc27 => ?_)
  · skip
    refine c_skip ?_
    refine th_n ?_
    refine c_seq ?_
    refine c_block ?_
    refine c_seq ?_
    refine c_region ?_
    refine stepP (p_move h rfl) h rfl fun a w h => ?_
    refine stepP (p_assign h rfl) h rfl fun a w h => ?_
    refine stepEnd ?_
    refine th_n ?_
    refine c_seq ?_
    refine c_region ?_
    refine stepP (p_move h rfl) h rfl fun a w h => ?_
    refine stepP (p_move h rfl) h rfl fun a w h => ?_
    refine stepP (p_move h rfl) h rfl fun a w h => ?_
    refine stepP (p_move h rfl) h rfl fun a w h => ?_
    refine stepP (p_indexAddr1 (j := i) (r := i) Tryd.underlying22 Tryd.sizeOf5 h rfl rfl (by omega) (by omega) (by omega)) h rfl fun a w h => ?_
    have hlt : i < l.length := by omega
    refine stepP (p_load Tryd.isAgg5 h rfl (Cel.own (k := 7) rfl (notS_at l [165, 90] rest5 hlt))) h rfl fun a w h => ?_
    refine stepP (p_compl h rfl (compl_u8 l[i])) h rfl fun a w h => ?_
    refine stepP (p_indexAddr1 (j := i) (r := i) Tryd.underlying22 Tryd.sizeOf5 h rfl rfl (by omega) (by omega) (by omega)) h rfl fun a w h => ?_
    refine stepN (o_store (kk := 7) Tryd.sizeOf5 h rfl rfl rfl rfl rfl (notS_fit l [165, 90] rest5 hlt) (notS_set l [165, 90] rest5 hlt)) h.env fun a w h => ?_
    refine stepEnd ?_
    refine th_n ?_
    refine c_region ?_
    refine stepP (p_move h rfl) h rfl fun a w h => ?_
    refine stepP (p_move h rfl) h rfl fun a w h => ?_
    refine stepP (p_move h rfl) h rfl fun a w h => ?_
    refine stepP (p_move h rfl) h rfl fun a w h => ?_
    refine stepP (p_indexAddr1 (j := i) (r := i) Tryd.underlying22 Tryd.sizeOf5 h rfl rfl (by omega) (by omega) (by omega)) h rfl fun a w h => ?_
    have hlt : i < l.length := by omega
    refine stepP (p_load Tryd.isAgg5 h rfl (Cel.own (k := 0) rfl (notS_at0 l hlt))) h rfl fun a w h => ?_
    refine stepP (p_compl h rfl (compl_u8 l[i])) h rfl fun a w h => ?_
    refine stepP (p_indexAddr1 (j := i) (r := i) Tryd.underlying22 Tryd.sizeOf5 h rfl rfl (by omega) (by omega) (by omega)) h rfl fun a w h => ?_
    refine stepN (o_store (kk := 0) Tryd.sizeOf5 h rfl rfl rfl rfl rfl (notS_fit0 l hlt) (notS_set0 l hlt)) h.env fun a w h => ?_
    refine stepEnd ?_
    refine bl_n ?_
    refine th_n ?_
    refine c_region ?_
    refine stepP (p_add h rfl rfl (wi (by omega))) h rfl fun a w h => ?_
    refine stepP (p_move h rfl) h rfl fun a w h => ?_
    refine stepEnd ?_
    exact th_n ⟨_, by omega, i + 1, rfl, by omega, h.to rfl ⟨rfl, (look_int rfl (by first | rfl | omega)), rfl, rfl, rfl, rfl, rfl, rfl, rfl, rfl, rfl, rfl, (look_int rfl (by first | rfl | omega)), (look_int rfl (by first | rfl | omega)), trivial⟩⟩
  · skip
    refine c_exit (th_e (th_e (exit_at ?_)))
    refine th_n ?_
    refine c_seq ?_
    have hie : l.length ≤ i := by omega
    rw [notS_end l hie] at h
    refine c_region ?_
    refine stepP (p_loadA (vs := k.cells) Tryd.isAgg29 (fun w => by rw [Tryd.sizeOf29]; simp [hk.length]) h rfl (Cels.all (k := 9) rfl)) h rfl fun a w h => ?_
    refine stepO (o_alloc (l := Tryd.zeroCells29.toList) Tryd.zeroValue29 rfl h) h.env rfl ?_
    rintro b28 _ a w h
    refine stepN (o_storeA (kk := 0) (vs := k.cells) (cs' := k.cells) (fun w => by rw [Tryd.sizeOf29]; simp [hk.length]) h rfl rfl rfl hk.one rfl (by simp [hk.length, Tryd.zeroCells29_size]) (by simp [hk.length, Tryd.zeroCells29_size])) h.env fun a w h => ?_
    refine stepEnd ?_
    refine th_n ?_
    refine c_seq ?_
    refine c_region ?_
    refine stepP (p_fieldAddr (r := 1) Tryd.underlying29 rfl Tryd.sizeOf22 rfl rfl h rfl) h rfl fun a w h => ?_
    refine stepP (p_load Tryd.isAgg22 h rfl (Cel.own (k := 10) rfl rfl)) h rfl fun a w h => ?_
    refine stepO (Enter.opT (o_call Tryd.call16 h rfl) (call_out0 h.own (c_CopyBytes h.own.lend0 (hk.key.mono h.own.le0) (by omega)))) h.env rfl ?_
    rintro b29 _ a w h
    refine stepP (p_fieldAddr (r := 1) Tryd.underlying29 rfl Tryd.sizeOf22 rfl rfl h rfl) h rfl fun a w h => ?_
    refine stepN (o_store (kk := 1) (cs' := (k.rekey (slc b29 0 kb.length kb.length)).cells) Tryd.sizeOf22 h rfl rfl rfl rfl rfl (by simp [hk.length]) rfl) h.env fun a w h => ?_
    refine stepEnd ?_
    refine th_n ?_
    refine c_seq ?_
    refine c_seq ?_
    refine c_region ?_
    refine stepP (p_move h rfl) h rfl fun a w h => ?_
    refine stepP (p_len Tryd.underlying22 h rfl) h rfl fun a w h => ?_
    refine stepP (p_move h rfl) h rfl fun a w h => ?_
    refine stepEnd ?_
    refine th_n ?_
    refine c_block ?_
    refine c_loop (fun m a w => ∃ (j : Nat), m = kb.length - j ∧ j ≤ kb.length ∧ St S hf ([(b29, row 5 ((notS kb j).map B))] ++ ([(b28, row 29 ((k.rekey (slc b29 0 kb.length kb.length)).cells))] ++ ([(b26, row 5 ((notB l).map B))] ++ ([(b25, row 5 ((rootText q s).map B))] ++ ([(b24, row 5 (headText.map B))] ++ ([(b23, row 5 ((pairText k.lvl kb k.cnt k.label s).map B))] ++ ([(b22, row 5 ((leafText l s).map B))] ++ ([(b10, row 5 ((notS kb j ++ [165, 90]).map B ++ rest12))] ++ ([(b9, row 29 ((k.rekey (slc b10 0 kb.length cap11)).cells))] ++ ([(b3, row 5 ((notB l ++ [165, 90]).map B ++ rest5))] ++ ([(b2, row 25 (s.map B))] ++ ([(b1, row 29 k.cells)])))))))))))) 200 [(0, v), (3, .int .u64 (q : Int)), (5, ptr b1 0), (6, ptr b2 0), (9, slc b3 0 l.length cap4), (11, ptr b9 0), (12, slc b10 0 kb.length cap11), (14, slc b22 0 ((leafText l s).length) ((leafText l s).length)), (15, slc b23 0 ((pairText k.lvl kb k.cnt k.label s).length) ((pairText k.lvl kb k.cnt k.label s).length)), (16, slc b24 0 headText.length headText.length), (17, slc b25 0 ((rootText q s).length) ((rootText q s).length)), (18, slc b26 0 l.length l.length), (20, ptr b28 0), (92, .int .i64 ((kb.length : Nat) : Int)), (93, .int .i64 ((j : Nat) : Int))] a w) (N := kb.length - 0) ⟨0, rfl, by omega, h.to (by first | (rw [notS_zero]; done) | (rw [notS_zero]; rfl)) ⟨rfl, (look_int rfl (by first | rfl | omega)), rfl, rfl, rfl, rfl, rfl, rfl, rfl, rfl, rfl, rfl, rfl, (look_int rfl (by first | rfl | omega)), (look_int rfl (by first | rfl | omega)), trivial⟩⟩ ?_
    clear h
    rintro m a w ⟨j, rfl, hj, h⟩
    refine c_seq ?_
    refine c_region ?_
    refine stepP (p_lss h rfl rfl) h rfl fun a w h => ?_
    refine stepEnd ?_
    refine th_n ?_
    refine c_seq ?_
    refine c_cond rfl h (fun hc30 => ?_) (fun hc30 => ?_)
    · skip
      refine c_skip ?_
      refine th_n ?_
      refine c_seq ?_
      refine c_block ?_
      refine c_seq ?_
      refine c_region ?_
      refine stepP (p_move h rfl) h rfl fun a w h => ?_
      refine stepP (p_assign h rfl) h rfl fun a w h => ?_
      refine stepEnd ?_
      refine th_n ?_
      refine c_seq ?_
      refine c_region ?_
      refine stepP (p_move h rfl) h rfl fun a w h => ?_
      refine stepP (p_move h rfl) h rfl fun a w h => ?_
      refine stepP (p_move h rfl) h rfl fun a w h => ?_
      refine stepP (p_move h rfl) h rfl fun a w h => ?_
      refine stepP (p_indexAddr1 (j := j) (r := j) Tryd.underlying22 Tryd.sizeOf5 h rfl rfl (by omega) (by omega) (by omega)) h rfl fun a w h => ?_
      have hlt : j < kb.length := by omega
      refine stepP (p_load Tryd.isAgg5 h rfl (Cel.own (k := 7) rfl (notS_at kb [165, 90] rest12 hlt))) h rfl fun a w h => ?_
      refine stepP (p_compl h rfl (compl_u8 kb[j])) h rfl fun a w h => ?_
      refine stepP (p_indexAddr1 (j := j) (r := j) Tryd.underlying22 Tryd.sizeOf5 h rfl rfl (by omega) (by omega) (by omega)) h rfl fun a w h => ?_
      refine stepN (o_store (kk := 7) Tryd.sizeOf5 h rfl rfl rfl rfl rfl (notS_fit kb [165, 90] rest12 hlt) (notS_set kb [165, 90] rest12 hlt)) h.env fun a w h => ?_
      refine stepEnd ?_
      refine th_n ?_
      obtain ⟨hfz, hlez, hinz, hbkz, h⟩ := St.freezeR (L1 := ([(b29, row 5 ((notS kb j).map B))])) (L2 := ([(b28, row 29 ((k.rekey (slc b29 0 kb.length kb.length)).cells))] ++ ([(b26, row 5 ((notB l).map B))] ++ ([(b25, row 5 ((rootText q s).map B))] ++ ([(b24, row 5 (headText.map B))] ++ ([(b23, row 5 ((pairText k.lvl kb k.cnt k.label s).map B))] ++ ([(b22, row 5 ((leafText l s).map B))] ++ ([(b10, row 5 ((notS kb (j + 1) ++ [165, 90]).map B ++ rest12))] ++ ([(b9, row 29 ((k.rekey (slc b10 0 kb.length cap11)).cells))] ++ ([(b3, row 5 ((notB l ++ [165, 90]).map B ++ rest5))] ++ ([(b2, row 25 (s.map B))] ++ ([(b1, row 29 k.cells)])))))))))))) h
      refine any_begin (N := 11) (by kernel_rfl) rfl h ?_
      clear h; intro w h
      refine any_take (i := 0) rfl (by kernel_rfl) (fun _ _ _ _ h => h) h rfl (fun w h => p_fieldAddr (r := 1) Tryd.underlying29 rfl Tryd.sizeOf22 rfl rfl h rfl) fun a h => ?_
      refine any_take (i := 2) rfl (by kernel_rfl) (fun _ _ _ _ h => h) h rfl (fun w h => p_move h rfl) fun a h => ?_
      refine any_take (i := 3) rfl (by kernel_rfl) (fun _ _ _ _ h => h) h rfl (fun w h => p_fieldAddr (r := 1) Tryd.underlying29 rfl Tryd.sizeOf22 rfl rfl h rfl) fun a h => ?_
      refine any_take (i := 5) rfl (by kernel_rfl) (fun _ _ _ _ h => h) h rfl (fun w h => p_move h rfl) fun a h => ?_
      refine any_take (i := 1) rfl (by kernel_rfl) (fun _ _ _ _ h => h) h rfl (fun w h => p_load Tryd.isAgg22 h rfl (Cel.stay (hinz _ _ (List.mem_of_getElem? (i := 0) rfl)) rfl)) fun a h => ?_
      refine any_take (i := 4) rfl (by kernel_rfl) (fun _ _ _ _ h => h) h rfl (fun w h => p_load Tryd.isAgg22 h rfl (Cel.stay (hinz _ _ (List.mem_of_getElem? (i := 0) rfl)) rfl)) fun a h => ?_
      refine any_take (i := 6) rfl (by kernel_rfl) (fun _ _ _ _ h => h) h rfl (fun w h => p_indexAddr1 (j := j) (r := j) Tryd.underlying22 Tryd.sizeOf5 h rfl rfl (by omega) (by omega) (by omega)) fun a h => ?_
      have hlt : j < kb.length := by omega
      refine any_one (i := 7) (by kernel_rfl) ?_
      refine any_V rfl h.env rfl (Pure.opT (p_load Tryd.isAgg5 h rfl (Cel.own (k := 0) rfl (notS_at0 kb hlt))) h.own) fun a w h => ?_
      refine any_take (i := 8) rfl (by kernel_rfl) (fun _ _ _ _ h => h) h rfl (fun w h => p_compl h rfl (compl_u8 kb[j])) fun a h => ?_
      refine any_take (i := 9) rfl (by kernel_rfl) (fun _ _ _ _ h => h) h rfl (fun w h => p_indexAddr1 (j := j) (r := j) Tryd.underlying22 Tryd.sizeOf5 h rfl rfl (by omega) (by omega) (by omega)) fun a h => ?_
      refine any_one (i := 10) (by kernel_rfl) ?_
      refine any_N rfl h.env (o_store (kk := 0) Tryd.sizeOf5 h rfl rfl rfl rfl rfl (notS_fit0 kb hlt) (notS_set0 kb hlt)) fun a w h => ?_
      refine any_end (by kernel_rfl) ?_
      replace h := h.re (hbkz _ _ h.own)
      refine bl_n ?_
      refine th_n ?_
      refine c_region ?_
      refine stepP (p_add h rfl rfl (wi (by omega))) h rfl fun a w h => ?_
      refine stepP (p_move h rfl) h rfl fun a w h => ?_
      refine stepEnd ?_
      exact th_n ⟨_, by omega, j + 1, rfl, by omega, h.to rfl ⟨rfl, (look_int rfl (by first | rfl | omega)), rfl, rfl, rfl, rfl, rfl, rfl, rfl, rfl, rfl, rfl, rfl, (look_int rfl (by first | rfl | omega)), (look_int rfl (by first | rfl | omega)), trivial⟩⟩
    · skip
      refine c_exit (th_e (th_e (exit_at ?_)))
      refine th_n ?_
      refine c_seq ?_
      have hje : kb.length ≤ j := by omega
      rw [notS_end kb hje] at h
      obtain ⟨hf31, hlef31, hinf31, hbkf31, h⟩ := h.freeze
      replace ht := ht.mono hlef31
      replace h1 := h1.mono hlef31
      replace hk := hk.mono hlef31
      have hle := hlef31
      have ro32 : hf31 b29 = some (row 5 ((notB kb).map B)) := hinf31 _ _ (List.mem_of_getElem? (i := 0) rfl)
      have ro33 : hf31 b28 = some (row 29 ((k.rekey (slc b29 0 kb.length kb.length)).cells)) := hinf31 _ _ (List.mem_of_getElem? (i := 1) rfl)
      have ro34 : hf31 b26 = some (row 5 ((notB l).map B)) := hinf31 _ _ (List.mem_of_getElem? (i := 2) rfl)
      have ro35 : hf31 b25 = some (row 5 ((rootText q s).map B)) := hinf31 _ _ (List.mem_of_getElem? (i := 3) rfl)
      have hby36 : Byts hf31 (slc b25 0 ((rootText q s).length) ((rootText q s).length)) (rootText q s) := Byts.row ro35 (by (try simp) <;> omega) (by simp [List.take_of_length_le]) (by (try simp) <;> omega) (by first | assumption | (unfold maxLen; (try simp) <;> omega))
      have ro37 : hf31 b24 = some (row 5 (headText.map B)) := hinf31 _ _ (List.mem_of_getElem? (i := 4) rfl)
      have hby38 : Byts hf31 (slc b24 0 headText.length headText.length) headText := Byts.row ro37 (by (try simp) <;> omega) (by simp [List.take_of_length_le]) (by (try simp) <;> omega) (by first | assumption | (unfold maxLen; (try simp) <;> omega))
      have ro39 : hf31 b23 = some (row 5 ((pairText k.lvl kb k.cnt k.label s).map B)) := hinf31 _ _ (List.mem_of_getElem? (i := 5) rfl)
      have hby40 : Byts hf31 (slc b23 0 ((pairText k.lvl kb k.cnt k.label s).length) ((pairText k.lvl kb k.cnt k.label s).length)) (pairText k.lvl kb k.cnt k.label s) := Byts.row ro39 (by (try simp) <;> omega) (by simp [List.take_of_length_le]) (by (try simp) <;> omega) (by first | assumption | (unfold maxLen; (try simp) <;> omega))
      have ro41 : hf31 b22 = some (row 5 ((leafText l s).map B)) := hinf31 _ _ (List.mem_of_getElem? (i := 6) rfl)
      have hby42 : Byts hf31 (slc b22 0 ((leafText l s).length) ((leafText l s).length)) (leafText l s) := Byts.row ro41 (by (try simp) <;> omega) (by simp [List.take_of_length_le]) (by (try simp) <;> omega) (by first | assumption | (unfold maxLen; (try simp) <;> omega))
      have ro43 : hf31 b10 = some (row 5 ((notB kb ++ [165, 90]).map B ++ rest12)) := hinf31 _ _ (List.mem_of_getElem? (i := 7) rfl)
      have ro44 : hf31 b9 = some (row 29 ((k.rekey (slc b10 0 kb.length cap11)).cells)) := hinf31 _ _ (List.mem_of_getElem? (i := 8) rfl)
      have ro45 : hf31 b3 = some (row 5 ((notB l ++ [165, 90]).map B ++ rest5)) := hinf31 _ _ (List.mem_of_getElem? (i := 9) rfl)
      have ro46 : hf31 b2 = some (row 25 (s.map B)) := hinf31 _ _ (List.mem_of_getElem? (i := 10) rfl)
      have ro47 : hf31 b1 = some (row 29 k.cells) := hinf31 _ _ (List.mem_of_getElem? (i := 11) rfl)
      have hko := hk.rekey (v := slc b29 0 kb.length kb.length) (Byts.row ro32 (by simp) (wholeB0 _) (by simp) (by unfold maxLen; omega) : Byts _ _ (notB kb))
      have hbt : Byts _ (slc b26 0 l.length l.length) (notB l) := Byts.row ro34 (by simp) (wholeB0 _) (by simp) (by unfold maxLen; omega)
      refine any_begin (N := 8) (by kernel_rfl) rfl h ?_
      clear h; intro w h
      refine any_take (i := 0) rfl (by kernel_rfl) (fun _ _ _ _ h => h) h rfl (fun w h => p_move h rfl) fun a h => ?_
      refine any_take (i := 1) rfl (by kernel_rfl) (fun _ _ _ _ h => h) h rfl (fun w h => p_loadA (vs := s.map B) Tryd.isAgg25 (fun w => by rw [Tryd.sizeOf25]; simp [hs]) h rfl (Cels.stay ro46)) fun a h => ?_
      refine any_take (i := 3) rfl (by kernel_rfl) (fun _ _ _ _ h => h) h rfl (fun w h => p_loadA (vs := (k.rekey (slc b10 0 kb.length cap11)).cells) Tryd.isAgg29 (fun w => by rw [Tryd.sizeOf29]; simp [KidV.rekey_length, hk.length]) h rfl (Cels.stay ro44)) fun a h => ?_
      refine any_take (i := 4) rfl (by kernel_rfl) (fun _ _ _ _ h => h) h rfl (fun w h => p_loadA (vs := s.map B) Tryd.isAgg25 (fun w => by rw [Tryd.sizeOf25]; simp [hs]) h rfl (Cels.stay ro46)) fun a h => ?_
      refine any_one (i := 2) (by kernel_rfl) ?_
      refine any_O rfl h.env rfl (Enter.opT (o_call Tryd.call11 h rfl) (call_out0 h.own (c_NLeafText h.own.lend0 (ht.mono h.own.le0) ((Byts.row ro45 (by simp) (headB _ _ _) (by simp; omega) hc7 : Byts _ (slc b3 0 l.length cap4) (notB l)).mono h.own.le0) hs (by first | omega | (simp <;> omega))))) ?_
      rintro b48 _ a w h
      refine any_one (i := 5) (by kernel_rfl) ?_
      refine any_O rfl h.env rfl (Enter.opT (o_call Tryd.call12 h rfl) (call_out0 h.own (c_NPairText h.own.lend0 (ht.mono h.own.le0) (hk.rekey ((Byts.row ro43 (by simp) (headB _ _ _) (by simp; omega) hc14 : Byts _ (slc b10 0 kb.length cap11) (notB kb)).mono h.own.le0)) hs (by first | omega | (simp <;> omega))))) ?_
      rintro b49 _ a w h
      refine any_take (i := 6) rfl (by kernel_rfl) (fun _ _ _ _ h => h) h rfl (fun w h => p_assign h rfl) fun a h => ?_
      refine any_take (i := 7) rfl (by kernel_rfl) (fun _ _ _ _ h => h) h rfl (fun w h => p_assign h rfl) fun a h => ?_
      refine any_end (by kernel_rfl) ?_
      refine th_n ?_
      refine c_seq ?_
      refine any_begin (N := 7) (by kernel_rfl) rfl h ?_
      clear h; intro w h
      refine any_take (i := 1) rfl (by kernel_rfl) (fun _ _ _ _ h => h) h rfl (fun w h => p_move h rfl) fun a h => ?_
      refine any_take (i := 2) rfl (by kernel_rfl) (fun _ _ _ _ h => h) h rfl (fun w h => p_add (r := ((((q + 1) % 18446744073709551616) : Nat) : Int)) h rfl rfl (by rw [← wrap_u64_nat]; rfl)) fun a h => ?_
      refine any_take (i := 3) rfl (by kernel_rfl) (fun _ _ _ _ h => h) h rfl (fun w h => p_loadA (vs := s.map B) Tryd.isAgg25 (fun w => by rw [Tryd.sizeOf25]; simp [hs]) h rfl (Cels.stay ro46)) fun a h => ?_
      refine any_one (i := 0) (by kernel_rfl) ?_
      refine any_O rfl h.env rfl (Enter.opT (o_call Tryd.call13 h rfl) (call_out0 h.own (c_NHeadText h.own.lend0 (ht.mono h.own.le0) ))) ?_
      rintro b50 _ a w h
      refine any_one (i := 4) (by kernel_rfl) ?_
      refine any_O rfl h.env rfl (Enter.opT (o_call Tryd.call14 h rfl) (call_out0 h.own (c_NRootText h.own.lend0 (ht.mono h.own.le0) (by omega) hs))) ?_
      rintro b51 _ a w h
      refine any_take (i := 5) rfl (by kernel_rfl) (fun _ _ _ _ h => h) h rfl (fun w h => p_assign h rfl) fun a h => ?_
      refine any_take (i := 6) rfl (by kernel_rfl) (fun _ _ _ _ h => h) h rfl (fun w h => p_assign h rfl) fun a h => ?_
      refine any_end (by kernel_rfl) ?_
      obtain ⟨hf52, hlef52, hinf52, hbkf52, h⟩ := h.freeze
      replace ht := ht.mono hlef52
      replace h1 := h1.mono hlef52
      replace hk := hk.mono hlef52
      replace hby36 := hby36.mono hlef52
      replace hby38 := hby38.mono hlef52
      replace hby40 := hby40.mono hlef52
      replace hby42 := hby42.mono hlef52
      replace hko := hko.mono hlef52
      replace hbt := hbt.mono hlef52
      replace ro32 := hlef52 _ _ ro32
      replace ro33 := hlef52 _ _ ro33
      replace ro34 := hlef52 _ _ ro34
      replace ro35 := hlef52 _ _ ro35
      replace ro37 := hlef52 _ _ ro37
      replace ro39 := hlef52 _ _ ro39
      replace ro41 := hlef52 _ _ ro41
      replace ro43 := hlef52 _ _ ro43
      replace ro44 := hlef52 _ _ ro44
      replace ro45 := hlef52 _ _ ro45
      replace ro46 := hlef52 _ _ ro46
      replace ro47 := hlef52 _ _ ro47
      replace hle := Hp.le_trans hle hlef52
      have ro53 : hf52 b51 = some (row 5 ((rootText ((q + 1) % 18446744073709551616) s).map B)) := hinf52 _ _ (List.mem_of_getElem? (i := 0) rfl)
      have hby54 : Byts hf52 (slc b51 0 ((rootText ((q + 1) % 18446744073709551616) s).length) ((rootText ((q + 1) % 18446744073709551616) s).length)) (rootText ((q + 1) % 18446744073709551616) s) := Byts.row ro53 (by (try simp) <;> omega) (by simp [List.take_of_length_le]) (by (try simp) <;> omega) (by first | assumption | (unfold maxLen; (try simp) <;> omega))
      have hby55 : Byts hf52 (slc b51 0 ((rootText ((q + 1) % 18446744073709551616) s).length) ((rootText ((q + 1) % 18446744073709551616) s).length)) (rootText ((q + 1) % 18446744073709551616) s) := Byts.row ro53 (by (try simp) <;> omega) (by simp [List.take_of_length_le]) (by (try simp) <;> omega) (by first | assumption | (unfold maxLen; (try simp) <;> omega))
      have ro56 : hf52 b50 = some (row 5 (headText.map B)) := hinf52 _ _ (List.mem_of_getElem? (i := 1) rfl)
      have hby57 : Byts hf52 (slc b50 0 headText.length headText.length) headText := Byts.row ro56 (by (try simp) <;> omega) (by simp [List.take_of_length_le]) (by (try simp) <;> omega) (by first | assumption | (unfold maxLen; (try simp) <;> omega))
      have hby58 : Byts hf52 (slc b50 0 headText.length headText.length) headText := Byts.row ro56 (by (try simp) <;> omega) (by simp [List.take_of_length_le]) (by (try simp) <;> omega) (by first | assumption | (unfold maxLen; (try simp) <;> omega))
      have ro59 : hf52 b49 = some (row 5 ((pairText k.lvl (notB kb) k.cnt k.label s).map B)) := hinf52 _ _ (List.mem_of_getElem? (i := 2) rfl)
      have hby60 : Byts hf52 (slc b49 0 ((pairText k.lvl (notB kb) k.cnt k.label s).length) ((pairText k.lvl (notB kb) k.cnt k.label s).length)) (pairText k.lvl (notB kb) k.cnt k.label s) := Byts.row ro59 (by (try simp) <;> omega) (by simp [List.take_of_length_le]) (by (try simp) <;> omega) (by first | assumption | (unfold maxLen; (try simp) <;> omega))
      have hby61 : Byts hf52 (slc b49 0 ((pairText k.lvl (notB kb) k.cnt k.label s).length) ((pairText k.lvl (notB kb) k.cnt k.label s).length)) (pairText k.lvl (notB kb) k.cnt k.label s) := Byts.row ro59 (by (try simp) <;> omega) (by simp [List.take_of_length_le]) (by (try simp) <;> omega) (by first | assumption | (unfold maxLen; (try simp) <;> omega))
      have ro62 : hf52 b48 = some (row 5 ((leafText (notB l) s).map B)) := hinf52 _ _ (List.mem_of_getElem? (i := 3) rfl)
      have hby63 : Byts hf52 (slc b48 0 ((leafText (notB l) s).length) ((leafText (notB l) s).length)) (leafText (notB l) s) := Byts.row ro62 (by (try simp) <;> omega) (by simp [List.take_of_length_le]) (by (try simp) <;> omega) (by first | assumption | (unfold maxLen; (try simp) <;> omega))
      have hby64 : Byts hf52 (slc b48 0 ((leafText (notB l) s).length) ((leafText (notB l) s).length)) (leafText (notB l) s) := Byts.row ro62 (by (try simp) <;> omega) (by simp [List.take_of_length_le]) (by (try simp) <;> omega) (by first | assumption | (unfold maxLen; (try simp) <;> omega))
      refine th_n ?_
      refine c_seq ?_
      refine c_seq ?_
      refine c_region ?_
      refine stepP (p_move h rfl) h rfl fun a w h => ?_
      refine stepP (p_move h rfl) h rfl fun a w h => ?_
      refine stepP (p_loadA (vs := s.map B) Tryd.isAgg25 (fun w => by rw [Tryd.sizeOf25]; simp [hs]) h rfl (Cels.stay ro46)) h rfl fun a w h => ?_
      refine stepO (Enter.opT (o_call Tryd.call18 h rfl) (call_outA (c_RLeafText h.own hbt hs (by first | omega | (simp <;> omega))))) h.env rfl ?_
      rintro ⟨b65, cap66, rest67⟩ ⟨hc68, hc69⟩ a w h
      replace hc68 : (leafText (notB l) s).length ≤ cap66 := hc68
      replace hc69 : cap66 ≤ maxLen := hc69
      obtain ⟨hf70, hlef70, hinf70, hbkf70, h⟩ := h.freeze
      replace ht := ht.mono hlef70
      replace h1 := h1.mono hlef70
      replace hk := hk.mono hlef70
      replace hby36 := hby36.mono hlef70
      replace hby38 := hby38.mono hlef70
      replace hby40 := hby40.mono hlef70
      replace hby42 := hby42.mono hlef70
      replace hko := hko.mono hlef70
      replace hbt := hbt.mono hlef70
      replace hby54 := hby54.mono hlef70
      replace hby55 := hby55.mono hlef70
      replace hby57 := hby57.mono hlef70
      replace hby58 := hby58.mono hlef70
      replace hby60 := hby60.mono hlef70
      replace hby61 := hby61.mono hlef70
      replace hby63 := hby63.mono hlef70
      replace hby64 := hby64.mono hlef70
      replace ro32 := hlef70 _ _ ro32
      replace ro33 := hlef70 _ _ ro33
      replace ro34 := hlef70 _ _ ro34
      replace ro35 := hlef70 _ _ ro35
      replace ro37 := hlef70 _ _ ro37
      replace ro39 := hlef70 _ _ ro39
      replace ro41 := hlef70 _ _ ro41
      replace ro43 := hlef70 _ _ ro43
      replace ro44 := hlef70 _ _ ro44
      replace ro45 := hlef70 _ _ ro45
      replace ro46 := hlef70 _ _ ro46
      replace ro47 := hlef70 _ _ ro47
      replace ro53 := hlef70 _ _ ro53
      replace ro56 := hlef70 _ _ ro56
      replace ro59 := hlef70 _ _ ro59
      replace ro62 := hlef70 _ _ ro62
      replace hle := Hp.le_trans hle hlef70
      have ro71 : hf70 b65 = some (row 5 ((leafText (notB l) s).map B ++ rest67)) := hinf70 _ _ (List.mem_of_getElem? (i := 0) rfl)
      have hby72 : Byts hf70 (slc b65 0 ((leafText (notB l) s).length) cap66) (leafText (notB l) s) := Byts.row ro71 rfl (wholeB _ _) hc68 hc69
      refine stepV (Enter.opT (o_call Tryd.call17 h rfl) (call_valA (c_SameBytes h.own hby63 hby72))) h.env rfl fun a w h => ?_
      have h := h.bool_of (t := 130) (b' := true) rfl (by first | rfl | exact decide_eq_true rfl)
      refine stepP (p_not h rfl) h rfl fun a w h => ?_
      refine stepP (p_move h rfl) h rfl fun a w h => ?_
      refine stepGP rfl rfl rfl rfl (p_move h rfl) h rfl fun a w h => ?_
      refine stepGP rfl rfl rfl rfl (p_loadA (vs := (k.rekey (slc b29 0 kb.length kb.length)).cells) Tryd.isAgg29 (fun w => by rw [Tryd.sizeOf29]; simp [KidV.rekey_length, hk.length]) h rfl (Cels.stay ro33)) h rfl fun a w h => ?_
      refine stepGP rfl rfl rfl rfl (p_loadA (vs := s.map B) Tryd.isAgg25 (fun w => by rw [Tryd.sizeOf25]; simp [hs]) h rfl (Cels.stay ro46)) h rfl fun a w h => ?_
      refine stepGO rfl rfl rfl rfl (Enter.opT (o_call Tryd.call19 h rfl) (call_outA (c_RPairText h.own hko hs (by first | omega | (simp <;> omega))))) h rfl ?_
      rintro ⟨b73, cap74, rest75⟩ ⟨hc76, hc77⟩ a w h
      replace hc76 : (pairText k.lvl (notB kb) k.cnt k.label s).length ≤ cap74 := hc76
      replace hc77 : cap74 ≤ maxLen := hc77
      obtain ⟨hf78, hlef78, hinf78, hbkf78, h⟩ := h.freeze
      replace ht := ht.mono hlef78
      replace h1 := h1.mono hlef78
      replace hk := hk.mono hlef78
      replace hby36 := hby36.mono hlef78
      replace hby38 := hby38.mono hlef78
      replace hby40 := hby40.mono hlef78
      replace hby42 := hby42.mono hlef78
      replace hko := hko.mono hlef78
      replace hbt := hbt.mono hlef78
      replace hby54 := hby54.mono hlef78
      replace hby55 := hby55.mono hlef78
      replace hby57 := hby57.mono hlef78
      replace hby58 := hby58.mono hlef78
      replace hby60 := hby60.mono hlef78
      replace hby61 := hby61.mono hlef78
      replace hby63 := hby63.mono hlef78
      replace hby64 := hby64.mono hlef78
      replace hby72 := hby72.mono hlef78
      replace ro32 := hlef78 _ _ ro32
      replace ro33 := hlef78 _ _ ro33
      replace ro34 := hlef78 _ _ ro34
      replace ro35 := hlef78 _ _ ro35
      replace ro37 := hlef78 _ _ ro37
      replace ro39 := hlef78 _ _ ro39
      replace ro41 := hlef78 _ _ ro41
      replace ro43 := hlef78 _ _ ro43
      replace ro44 := hlef78 _ _ ro44
      replace ro45 := hlef78 _ _ ro45
      replace ro46 := hlef78 _ _ ro46
      replace ro47 := hlef78 _ _ ro47
      replace ro53 := hlef78 _ _ ro53
      replace ro56 := hlef78 _ _ ro56
      replace ro59 := hlef78 _ _ ro59
      replace ro62 := hlef78 _ _ ro62
      replace ro71 := hlef78 _ _ ro71
      replace hle := Hp.le_trans hle hlef78
      have ro79 : hf78 b73 = some (row 5 ((pairText k.lvl (notB kb) k.cnt k.label s).map B ++ rest75)) := hinf78 _ _ (List.mem_of_getElem? (i := 0) rfl)
      have hby80 : Byts hf78 (slc b73 0 ((pairText k.lvl (notB kb) k.cnt k.label s).length) cap74) (pairText k.lvl (notB kb) k.cnt k.label s) := Byts.row ro79 rfl (wholeB _ _) hc76 hc77
      refine stepGV rfl rfl rfl rfl (Enter.opT (o_call Tryd.call17 h rfl) (call_valA (c_SameBytes h.own hby60 hby80))) h rfl fun a w h => ?_
      have h := h.bool_of (t := 137) (b' := true) rfl (by first | rfl | exact decide_eq_true rfl)
      refine stepGP rfl rfl rfl rfl (p_not h rfl) h rfl fun a w h => ?_
      refine stepP (p_pickF h rfl rfl) h rfl fun a w h => ?_
      refine stepEnd ?_
      refine th_n ?_
      refine c_false rfl h ?_
      refine c_skip ?_
      refine th_n ?_
      refine c_seq ?_
      refine c_seq ?_
      refine c_region ?_
      refine stepP (p_move h rfl) h rfl fun a w h => ?_
      refine stepP (p_move h rfl) h rfl fun a w h => ?_
      refine stepP (p_loadA (vs := s.map B) Tryd.isAgg25 (fun w => by rw [Tryd.sizeOf25]; simp [hs]) h rfl (Cels.stay ro46)) h rfl fun a w h => ?_
      refine stepO (Enter.opT (o_call Tryd.call18 h rfl) (call_outA (c_RLeafText h.own h1 hs (by first | omega | (simp <;> omega))))) h.env rfl ?_
      rintro ⟨b81, cap82, rest83⟩ ⟨hc84, hc85⟩ a w h
      replace hc84 : (leafText l s).length ≤ cap82 := hc84
      replace hc85 : cap82 ≤ maxLen := hc85
      obtain ⟨hf86, hlef86, hinf86, hbkf86, h⟩ := h.freeze
      replace ht := ht.mono hlef86
      replace h1 := h1.mono hlef86
      replace hk := hk.mono hlef86
      replace hby36 := hby36.mono hlef86
      replace hby38 := hby38.mono hlef86
      replace hby40 := hby40.mono hlef86
      replace hby42 := hby42.mono hlef86
      replace hko := hko.mono hlef86
      replace hbt := hbt.mono hlef86
      replace hby54 := hby54.mono hlef86
      replace hby55 := hby55.mono hlef86
      replace hby57 := hby57.mono hlef86
      replace hby58 := hby58.mono hlef86
      replace hby60 := hby60.mono hlef86
      replace hby61 := hby61.mono hlef86
      replace hby63 := hby63.mono hlef86
      replace hby64 := hby64.mono hlef86
      replace hby72 := hby72.mono hlef86
      replace hby80 := hby80.mono hlef86
      replace ro32 := hlef86 _ _ ro32
      replace ro33 := hlef86 _ _ ro33
      replace ro34 := hlef86 _ _ ro34
      replace ro35 := hlef86 _ _ ro35
      replace ro37 := hlef86 _ _ ro37
      replace ro39 := hlef86 _ _ ro39
      replace ro41 := hlef86 _ _ ro41
      replace ro43 := hlef86 _ _ ro43
      replace ro44 := hlef86 _ _ ro44
      replace ro45 := hlef86 _ _ ro45
      replace ro46 := hlef86 _ _ ro46
      replace ro47 := hlef86 _ _ ro47
      replace ro53 := hlef86 _ _ ro53
      replace ro56 := hlef86 _ _ ro56
      replace ro59 := hlef86 _ _ ro59
      replace ro62 := hlef86 _ _ ro62
      replace ro71 := hlef86 _ _ ro71
      replace ro79 := hlef86 _ _ ro79
      replace hle := Hp.le_trans hle hlef86
      have ro87 : hf86 b81 = some (row 5 ((leafText l s).map B ++ rest83)) := hinf86 _ _ (List.mem_of_getElem? (i := 0) rfl)
      have hby88 : Byts hf86 (slc b81 0 ((leafText l s).length) cap82) (leafText l s) := Byts.row ro87 rfl (wholeB _ _) hc84 hc85
      refine stepV (Enter.opT (o_call Tryd.call17 h rfl) (call_valA (c_SameBytes h.own hby42 hby88))) h.env rfl fun a w h => ?_
      have h := h.bool_of (t := 144) (b' := true) rfl (by first | rfl | exact decide_eq_true rfl)
      refine stepP (p_not h rfl) h rfl fun a w h => ?_
      refine stepP (p_move h rfl) h rfl fun a w h => ?_
      refine stepGP rfl rfl rfl rfl (p_move h rfl) h rfl fun a w h => ?_
      refine stepGP rfl rfl rfl rfl (p_loadA (vs := k.cells) Tryd.isAgg29 (fun w => by rw [Tryd.sizeOf29]; simp [hk.length]) h rfl (Cels.stay ro47)) h rfl fun a w h => ?_
      refine stepGP rfl rfl rfl rfl (p_loadA (vs := s.map B) Tryd.isAgg25 (fun w => by rw [Tryd.sizeOf25]; simp [hs]) h rfl (Cels.stay ro46)) h rfl fun a w h => ?_
      refine stepGO rfl rfl rfl rfl (Enter.opT (o_call Tryd.call19 h rfl) (call_outA (c_RPairText h.own hk hs (by first | omega | (simp <;> omega))))) h rfl ?_
      rintro ⟨b89, cap90, rest91⟩ ⟨hc92, hc93⟩ a w h
      replace hc92 : (pairText k.lvl kb k.cnt k.label s).length ≤ cap90 := hc92
      replace hc93 : cap90 ≤ maxLen := hc93
      obtain ⟨hf94, hlef94, hinf94, hbkf94, h⟩ := h.freeze
      replace ht := ht.mono hlef94
      replace h1 := h1.mono hlef94
      replace hk := hk.mono hlef94
      replace hby36 := hby36.mono hlef94
      replace hby38 := hby38.mono hlef94
      replace hby40 := hby40.mono hlef94
      replace hby42 := hby42.mono hlef94
      replace hko := hko.mono hlef94
      replace hbt := hbt.mono hlef94
      replace hby54 := hby54.mono hlef94
      replace hby55 := hby55.mono hlef94
      replace hby57 := hby57.mono hlef94
      replace hby58 := hby58.mono hlef94
      replace hby60 := hby60.mono hlef94
      replace hby61 := hby61.mono hlef94
      replace hby63 := hby63.mono hlef94
      replace hby64 := hby64.mono hlef94
      replace hby72 := hby72.mono hlef94
      replace hby80 := hby80.mono hlef94
      replace hby88 := hby88.mono hlef94
      replace ro32 := hlef94 _ _ ro32
      replace ro33 := hlef94 _ _ ro33
      replace ro34 := hlef94 _ _ ro34
      replace ro35 := hlef94 _ _ ro35
      replace ro37 := hlef94 _ _ ro37
      replace ro39 := hlef94 _ _ ro39
      replace ro41 := hlef94 _ _ ro41
      replace ro43 := hlef94 _ _ ro43
      replace ro44 := hlef94 _ _ ro44
      replace ro45 := hlef94 _ _ ro45
      replace ro46 := hlef94 _ _ ro46
      replace ro47 := hlef94 _ _ ro47
      replace ro53 := hlef94 _ _ ro53
      replace ro56 := hlef94 _ _ ro56
      replace ro59 := hlef94 _ _ ro59
      replace ro62 := hlef94 _ _ ro62
      replace ro71 := hlef94 _ _ ro71
      replace ro79 := hlef94 _ _ ro79
      replace ro87 := hlef94 _ _ ro87
      replace hle := Hp.le_trans hle hlef94
      have ro95 : hf94 b89 = some (row 5 ((pairText k.lvl kb k.cnt k.label s).map B ++ rest91)) := hinf94 _ _ (List.mem_of_getElem? (i := 0) rfl)
      have hby96 : Byts hf94 (slc b89 0 ((pairText k.lvl kb k.cnt k.label s).length) cap90) (pairText k.lvl kb k.cnt k.label s) := Byts.row ro95 rfl (wholeB _ _) hc92 hc93
      refine stepGV rfl rfl rfl rfl (Enter.opT (o_call Tryd.call17 h rfl) (call_valA (c_SameBytes h.own hby40 hby96))) h rfl fun a w h => ?_
      have h := h.bool_of (t := 151) (b' := true) rfl (by first | rfl | exact decide_eq_true rfl)
      refine stepGP rfl rfl rfl rfl (p_not h rfl) h rfl fun a w h => ?_
      refine stepP (p_pickF h rfl rfl) h rfl fun a w h => ?_
      refine stepP (p_move h rfl) h rfl fun a w h => ?_
      refine stepGP rfl rfl rfl rfl (p_move h rfl) h rfl fun a w h => ?_
      refine stepGO rfl rfl rfl rfl (Enter.opT (o_call Tryd.call20 h rfl) (call_outA (c_RHeadText h.own ))) h rfl ?_
      rintro ⟨b97, cap98, rest99⟩ ⟨hc100, hc101⟩ a w h
      replace hc100 : (headText).length ≤ cap98 := hc100
      replace hc101 : cap98 ≤ maxLen := hc101
      obtain ⟨hf102, hlef102, hinf102, hbkf102, h⟩ := h.freeze
      replace ht := ht.mono hlef102
      replace h1 := h1.mono hlef102
      replace hk := hk.mono hlef102
      replace hby36 := hby36.mono hlef102
      replace hby38 := hby38.mono hlef102
      replace hby40 := hby40.mono hlef102
      replace hby42 := hby42.mono hlef102
      replace hko := hko.mono hlef102
      replace hbt := hbt.mono hlef102
      replace hby54 := hby54.mono hlef102
      replace hby55 := hby55.mono hlef102
      replace hby57 := hby57.mono hlef102
      replace hby58 := hby58.mono hlef102
      replace hby60 := hby60.mono hlef102
      replace hby61 := hby61.mono hlef102
      replace hby63 := hby63.mono hlef102
      replace hby64 := hby64.mono hlef102
      replace hby72 := hby72.mono hlef102
      replace hby80 := hby80.mono hlef102
      replace hby88 := hby88.mono hlef102
      replace hby96 := hby96.mono hlef102
      replace ro32 := hlef102 _ _ ro32
      replace ro33 := hlef102 _ _ ro33
      replace ro34 := hlef102 _ _ ro34
      replace ro35 := hlef102 _ _ ro35
      replace ro37 := hlef102 _ _ ro37
      replace ro39 := hlef102 _ _ ro39
      replace ro41 := hlef102 _ _ ro41
      replace ro43 := hlef102 _ _ ro43
      replace ro44 := hlef102 _ _ ro44
      replace ro45 := hlef102 _ _ ro45
      replace ro46 := hlef102 _ _ ro46
      replace ro47 := hlef102 _ _ ro47
      replace ro53 := hlef102 _ _ ro53
      replace ro56 := hlef102 _ _ ro56
      replace ro59 := hlef102 _ _ ro59
      replace ro62 := hlef102 _ _ ro62
      replace ro71 := hlef102 _ _ ro71
      replace ro79 := hlef102 _ _ ro79
      replace ro87 := hlef102 _ _ ro87
      replace ro95 := hlef102 _ _ ro95
      replace hle := Hp.le_trans hle hlef102
      have ro103 : hf102 b97 = some (row 5 (headText.map B ++ rest99)) := hinf102 _ _ (List.mem_of_getElem? (i := 0) rfl)
      have hby104 : Byts hf102 (slc b97 0 headText.length cap98) headText := Byts.row ro103 rfl (wholeB _ _) hc100 hc101
      refine stepGV rfl rfl rfl rfl (Enter.opT (o_call Tryd.call17 h rfl) (call_valA (c_SameBytes h.own hby38 hby104))) h rfl fun a w h => ?_
      have h := h.bool_of (t := 157) (b' := true) rfl (by first | rfl | exact decide_eq_true rfl)
      refine stepGP rfl rfl rfl rfl (p_not h rfl) h rfl fun a w h => ?_
      refine stepP (p_pickF h rfl rfl) h rfl fun a w h => ?_
      refine stepP (p_move h rfl) h rfl fun a w h => ?_
      refine stepGP rfl rfl rfl rfl (p_move h rfl) h rfl fun a w h => ?_
      refine stepGP rfl rfl rfl rfl (p_move h rfl) h rfl fun a w h => ?_
      refine stepGP rfl rfl rfl rfl (p_loadA (vs := s.map B) Tryd.isAgg25 (fun w => by rw [Tryd.sizeOf25]; simp [hs]) h rfl (Cels.stay ro46)) h rfl fun a w h => ?_
      refine stepGO rfl rfl rfl rfl (Enter.opT (o_call Tryd.call21 h rfl) (call_outA (c_RRootText h.own (by omega) hs))) h rfl ?_
      rintro ⟨b105, cap106, rest107⟩ ⟨hc108, hc109⟩ a w h
      replace hc108 : (rootText q s).length ≤ cap106 := hc108
      replace hc109 : cap106 ≤ maxLen := hc109
      obtain ⟨hf110, hlef110, hinf110, hbkf110, h⟩ := h.freeze
      replace ht := ht.mono hlef110
      replace h1 := h1.mono hlef110
      replace hk := hk.mono hlef110
      replace hby36 := hby36.mono hlef110
      replace hby38 := hby38.mono hlef110
      replace hby40 := hby40.mono hlef110
      replace hby42 := hby42.mono hlef110
      replace hko := hko.mono hlef110
      replace hbt := hbt.mono hlef110
      replace hby54 := hby54.mono hlef110
      replace hby55 := hby55.mono hlef110
      replace hby57 := hby57.mono hlef110
      replace hby58 := hby58.mono hlef110
      replace hby60 := hby60.mono hlef110
      replace hby61 := hby61.mono hlef110
      replace hby63 := hby63.mono hlef110
      replace hby64 := hby64.mono hlef110
      replace hby72 := hby72.mono hlef110
      replace hby80 := hby80.mono hlef110
      replace hby88 := hby88.mono hlef110
      replace hby96 := hby96.mono hlef110
      replace hby104 := hby104.mono hlef110
      replace ro32 := hlef110 _ _ ro32
      replace ro33 := hlef110 _ _ ro33
      replace ro34 := hlef110 _ _ ro34
      replace ro35 := hlef110 _ _ ro35
      replace ro37 := hlef110 _ _ ro37
      replace ro39 := hlef110 _ _ ro39
      replace ro41 := hlef110 _ _ ro41
      replace ro43 := hlef110 _ _ ro43
      replace ro44 := hlef110 _ _ ro44
      replace ro45 := hlef110 _ _ ro45
      replace ro46 := hlef110 _ _ ro46
      replace ro47 := hlef110 _ _ ro47
      replace ro53 := hlef110 _ _ ro53
      replace ro56 := hlef110 _ _ ro56
      replace ro59 := hlef110 _ _ ro59
      replace ro62 := hlef110 _ _ ro62
      replace ro71 := hlef110 _ _ ro71
      replace ro79 := hlef110 _ _ ro79
      replace ro87 := hlef110 _ _ ro87
      replace ro95 := hlef110 _ _ ro95
      replace ro103 := hlef110 _ _ ro103
      replace hle := Hp.le_trans hle hlef110
      have ro111 : hf110 b105 = some (row 5 ((rootText q s).map B ++ rest107)) := hinf110 _ _ (List.mem_of_getElem? (i := 0) rfl)
      have hby112 : Byts hf110 (slc b105 0 ((rootText q s).length) cap106) (rootText q s) := Byts.row ro111 rfl (wholeB _ _) hc108 hc109
      refine stepGV rfl rfl rfl rfl (Enter.opT (o_call Tryd.call17 h rfl) (call_valA (c_SameBytes h.own hby36 hby112))) h rfl fun a w h => ?_
      have h := h.bool_of (t := 165) (b' := true) rfl (by first | rfl | exact decide_eq_true rfl)
      refine stepGP rfl rfl rfl rfl (p_not h rfl) h rfl fun a w h => ?_
      refine stepP (p_pickF h rfl rfl) h rfl fun a w h => ?_
      refine stepEnd ?_
      refine th_n ?_
      refine c_false rfl h ?_
      refine c_skip ?_
      refine th_n ?_
      refine c_seq ?_
      refine c_seq ?_
      refine c_region ?_
      refine stepP (p_move h rfl) h rfl fun a w h => ?_
      refine stepO (Enter.opT (o_call Tryd.call20 h rfl) (call_outA (c_RHeadText h.own ))) h.env rfl ?_
      rintro ⟨b113, cap114, rest115⟩ ⟨hc116, hc117⟩ a w h
      replace hc116 : (headText).length ≤ cap114 := hc116
      replace hc117 : cap114 ≤ maxLen := hc117
      obtain ⟨hf118, hlef118, hinf118, hbkf118, h⟩ := h.freeze
      replace ht := ht.mono hlef118
      replace h1 := h1.mono hlef118
      replace hk := hk.mono hlef118
      replace hby36 := hby36.mono hlef118
      replace hby38 := hby38.mono hlef118
      replace hby40 := hby40.mono hlef118
      replace hby42 := hby42.mono hlef118
      replace hko := hko.mono hlef118
      replace hbt := hbt.mono hlef118
      replace hby54 := hby54.mono hlef118
      replace hby55 := hby55.mono hlef118
      replace hby57 := hby57.mono hlef118
      replace hby58 := hby58.mono hlef118
      replace hby60 := hby60.mono hlef118
      replace hby61 := hby61.mono hlef118
      replace hby63 := hby63.mono hlef118
      replace hby64 := hby64.mono hlef118
      replace hby72 := hby72.mono hlef118
      replace hby80 := hby80.mono hlef118
      replace hby88 := hby88.mono hlef118
      replace hby96 := hby96.mono hlef118
      replace hby104 := hby104.mono hlef118
      replace hby112 := hby112.mono hlef118
      replace ro32 := hlef118 _ _ ro32
      replace ro33 := hlef118 _ _ ro33
      replace ro34 := hlef118 _ _ ro34
      replace ro35 := hlef118 _ _ ro35
      replace ro37 := hlef118 _ _ ro37
      replace ro39 := hlef118 _ _ ro39
      replace ro41 := hlef118 _ _ ro41
      replace ro43 := hlef118 _ _ ro43
      replace ro44 := hlef118 _ _ ro44
      replace ro45 := hlef118 _ _ ro45
      replace ro46 := hlef118 _ _ ro46
      replace ro47 := hlef118 _ _ ro47
      replace ro53 := hlef118 _ _ ro53
      replace ro56 := hlef118 _ _ ro56
      replace ro59 := hlef118 _ _ ro59
      replace ro62 := hlef118 _ _ ro62
      replace ro71 := hlef118 _ _ ro71
      replace ro79 := hlef118 _ _ ro79
      replace ro87 := hlef118 _ _ ro87
      replace ro95 := hlef118 _ _ ro95
      replace ro103 := hlef118 _ _ ro103
      replace ro111 := hlef118 _ _ ro111
      replace hle := Hp.le_trans hle hlef118
      have ro119 : hf118 b113 = some (row 5 (headText.map B ++ rest115)) := hinf118 _ _ (List.mem_of_getElem? (i := 0) rfl)
      have hby120 : Byts hf118 (slc b113 0 headText.length cap114) headText := Byts.row ro119 rfl (wholeB _ _) hc116 hc117
      refine stepV (Enter.opT (o_call Tryd.call17 h rfl) (call_valA (c_SameBytes h.own hby57 hby120))) h.env rfl fun a w h => ?_
      have h := h.bool_of (t := 170) (b' := true) rfl (by first | rfl | exact decide_eq_true rfl)
      refine stepP (p_not h rfl) h rfl fun a w h => ?_
      refine stepP (p_move h rfl) h rfl fun a w h => ?_
      refine stepGP rfl rfl rfl rfl (p_move h rfl) h rfl fun a w h => ?_
      refine stepGP rfl rfl rfl rfl (p_move h rfl) h rfl fun a w h => ?_
      refine stepGP rfl rfl rfl rfl (p_add (r := ((((q + 1) % 18446744073709551616) : Nat) : Int)) h rfl rfl (by rw [← wrap_u64_nat]; rfl)) h rfl fun a w h => ?_
      refine stepGP rfl rfl rfl rfl (p_loadA (vs := s.map B) Tryd.isAgg25 (fun w => by rw [Tryd.sizeOf25]; simp [hs]) h rfl (Cels.stay ro46)) h rfl fun a w h => ?_
      refine stepGO rfl rfl rfl rfl (Enter.opT (o_call Tryd.call21 h rfl) (call_outA (c_RRootText h.own (by omega) hs))) h rfl ?_
      rintro ⟨b121, cap122, rest123⟩ ⟨hc124, hc125⟩ a w h
      replace hc124 : (rootText ((q + 1) % 18446744073709551616) s).length ≤ cap122 := hc124
      replace hc125 : cap122 ≤ maxLen := hc125
      obtain ⟨hf126, hlef126, hinf126, hbkf126, h⟩ := h.freeze
      replace ht := ht.mono hlef126
      replace h1 := h1.mono hlef126
      replace hk := hk.mono hlef126
      replace hby36 := hby36.mono hlef126
      replace hby38 := hby38.mono hlef126
      replace hby40 := hby40.mono hlef126
      replace hby42 := hby42.mono hlef126
      replace hko := hko.mono hlef126
      replace hbt := hbt.mono hlef126
      replace hby54 := hby54.mono hlef126
      replace hby55 := hby55.mono hlef126
      replace hby57 := hby57.mono hlef126
      replace hby58 := hby58.mono hlef126
      replace hby60 := hby60.mono hlef126
      replace hby61 := hby61.mono hlef126
      replace hby63 := hby63.mono hlef126
      replace hby64 := hby64.mono hlef126
      replace hby72 := hby72.mono hlef126
      replace hby80 := hby80.mono hlef126
      replace hby88 := hby88.mono hlef126
      replace hby96 := hby96.mono hlef126
      replace hby104 := hby104.mono hlef126
      replace hby112 := hby112.mono hlef126
      replace hby120 := hby120.mono hlef126
      replace ro32 := hlef126 _ _ ro32
      replace ro33 := hlef126 _ _ ro33
      replace ro34 := hlef126 _ _ ro34
      replace ro35 := hlef126 _ _ ro35
      replace ro37 := hlef126 _ _ ro37
      replace ro39 := hlef126 _ _ ro39
      replace ro41 := hlef126 _ _ ro41
      replace ro43 := hlef126 _ _ ro43
      replace ro44 := hlef126 _ _ ro44
      replace ro45 := hlef126 _ _ ro45
      replace ro46 := hlef126 _ _ ro46
      replace ro47 := hlef126 _ _ ro47
      replace ro53 := hlef126 _ _ ro53
      replace ro56 := hlef126 _ _ ro56
      replace ro59 := hlef126 _ _ ro59
      replace ro62 := hlef126 _ _ ro62
      replace ro71 := hlef126 _ _ ro71
      replace ro79 := hlef126 _ _ ro79
      replace ro87 := hlef126 _ _ ro87
      replace ro95 := hlef126 _ _ ro95
      replace ro103 := hlef126 _ _ ro103
      replace ro111 := hlef126 _ _ ro111
      replace ro119 := hlef126 _ _ ro119
      replace hle := Hp.le_trans hle hlef126
      have ro127 : hf126 b121 = some (row 5 ((rootText ((q + 1) % 18446744073709551616) s).map B ++ rest123)) := hinf126 _ _ (List.mem_of_getElem? (i := 0) rfl)
      have hby128 : Byts hf126 (slc b121 0 ((rootText ((q + 1) % 18446744073709551616) s).length) cap122) (rootText ((q + 1) % 18446744073709551616) s) := Byts.row ro127 rfl (wholeB _ _) hc124 hc125
      refine stepGV rfl rfl rfl rfl (Enter.opT (o_call Tryd.call17 h rfl) (call_valA (c_SameBytes h.own hby54 hby128))) h rfl fun a w h => ?_
      have h := h.bool_of (t := 178) (b' := true) rfl (by first | rfl | exact decide_eq_true rfl)
      refine stepGP rfl rfl rfl rfl (p_not h rfl) h rfl fun a w h => ?_
      refine stepP (p_pickF h rfl rfl) h rfl fun a w h => ?_
      refine stepEnd ?_
      refine th_n ?_
      refine c_false rfl h ?_
      refine c_skip ?_
      refine th_n ?_
      refine c_seq ?_
      refine c_region ?_
      refine stepP (p_move h rfl) h rfl fun a w h => ?_
      refine stepP (p_loadA (vs := s.map B) Tryd.isAgg25 (fun w => by rw [Tryd.sizeOf25]; simp [hs]) h rfl (Cels.stay ro46)) h rfl fun a w h => ?_
      refine stepO (Enter.opT (o_call Tryd.call11 h rfl) (call_out0 h.own (c_NLeafText h.own.lend0 (ht.mono h.own.le0) ((Byts.row ro45 (by simp) (headB _ _ _) (by simp; omega) hc7 : Byts _ (slc b3 0 l.length cap4) (notB l)).mono h.own.le0) hs (by first | omega | (simp <;> omega))))) h.env rfl ?_
      rintro b129 _ a w h
      obtain ⟨hf130, hlef130, hinf130, hbkf130, h⟩ := h.freeze
      replace ht := ht.mono hlef130
      replace h1 := h1.mono hlef130
      replace hk := hk.mono hlef130
      replace hby36 := hby36.mono hlef130
      replace hby38 := hby38.mono hlef130
      replace hby40 := hby40.mono hlef130
      replace hby42 := hby42.mono hlef130
      replace hko := hko.mono hlef130
      replace hbt := hbt.mono hlef130
      replace hby54 := hby54.mono hlef130
      replace hby55 := hby55.mono hlef130
      replace hby57 := hby57.mono hlef130
      replace hby58 := hby58.mono hlef130
      replace hby60 := hby60.mono hlef130
      replace hby61 := hby61.mono hlef130
      replace hby63 := hby63.mono hlef130
      replace hby64 := hby64.mono hlef130
      replace hby72 := hby72.mono hlef130
      replace hby80 := hby80.mono hlef130
      replace hby88 := hby88.mono hlef130
      replace hby96 := hby96.mono hlef130
      replace hby104 := hby104.mono hlef130
      replace hby112 := hby112.mono hlef130
      replace hby120 := hby120.mono hlef130
      replace hby128 := hby128.mono hlef130
      replace ro32 := hlef130 _ _ ro32
      replace ro33 := hlef130 _ _ ro33
      replace ro34 := hlef130 _ _ ro34
      replace ro35 := hlef130 _ _ ro35
      replace ro37 := hlef130 _ _ ro37
      replace ro39 := hlef130 _ _ ro39
      replace ro41 := hlef130 _ _ ro41
      replace ro43 := hlef130 _ _ ro43
      replace ro44 := hlef130 _ _ ro44
      replace ro45 := hlef130 _ _ ro45
      replace ro46 := hlef130 _ _ ro46
      replace ro47 := hlef130 _ _ ro47
      replace ro53 := hlef130 _ _ ro53
      replace ro56 := hlef130 _ _ ro56
      replace ro59 := hlef130 _ _ ro59
      replace ro62 := hlef130 _ _ ro62
      replace ro71 := hlef130 _ _ ro71
      replace ro79 := hlef130 _ _ ro79
      replace ro87 := hlef130 _ _ ro87
      replace ro95 := hlef130 _ _ ro95
      replace ro103 := hlef130 _ _ ro103
      replace ro111 := hlef130 _ _ ro111
      replace ro119 := hlef130 _ _ ro119
      replace ro127 := hlef130 _ _ ro127
      replace hle := Hp.le_trans hle hlef130
      have ro131 : hf130 b129 = some (row 5 ((leafText (notB l) s).map B)) := hinf130 _ _ (List.mem_of_getElem? (i := 0) rfl)
      have hby132 : Byts hf130 (slc b129 0 ((leafText (notB l) s).length) ((leafText (notB l) s).length)) (leafText (notB l) s) := Byts.row ro131 (by (try simp) <;> omega) (by simp [List.take_of_length_le]) (by (try simp) <;> omega) (by first | assumption | (unfold maxLen; (try simp) <;> omega))
      refine stepP (p_assign h rfl) h rfl fun a w h => ?_
      refine stepEnd ?_
      refine th_n ?_
      refine c_seq ?_
      refine c_region ?_
      refine stepP (p_move h rfl) h rfl fun a w h => ?_
      refine stepP (p_move h rfl) h rfl fun a w h => ?_
      refine stepV (Enter.opT (o_call Tryd.call17 h rfl) (call_valA (c_SameBytes h.own hby132 hby63))) h.env rfl fun a w h => ?_
      have h := h.bool_of (t := 186) (b' := true) rfl (by first | rfl | exact decide_eq_true rfl)
      refine stepP (p_move h rfl) h rfl fun a w h => ?_
      have h := h.bool_of (t := 186) (b' := true) rfl (by first | rfl | exact decide_eq_true rfl)
      refine stepGP rfl rfl rfl rfl (p_move h rfl) h rfl fun a w h => ?_
      refine stepGP rfl rfl rfl rfl (p_move h rfl) h rfl fun a w h => ?_
      refine stepGP rfl rfl rfl rfl (p_move h rfl) h rfl fun a w h => ?_
      refine stepGP rfl rfl rfl rfl (p_move h rfl) h rfl fun a w h => ?_
      refine stepGP rfl rfl rfl rfl (p_move h rfl) h rfl fun a w h => ?_
      refine stepGP rfl rfl rfl rfl (p_move h rfl) h rfl fun a w h => ?_
      refine stepGP rfl rfl rfl rfl (p_move h rfl) h rfl fun a w h => ?_
      refine stepGP rfl rfl rfl rfl (p_move h rfl) h rfl fun a w h => ?_
      refine stepGP rfl rfl rfl rfl (p_move h rfl) h rfl fun a w h => ?_
      replace h := h.re (hbkf31 _ _ (hbkf52 _ _ (hbkf70 _ _ (hbkf78 _ _ (hbkf86 _ _ (hbkf94 _ _ (hbkf102 _ _ (hbkf110 _ _ (hbkf118 _ _ (hbkf126 _ _ (hbkf130 _ _ h.own)))))))))))
      obtain ⟨es, hes⟩ : ∃ es, es = ([(b22, leafText l s), (b23, pairText k.lvl kb k.cnt k.label s), (b24, headText), (b25, rootText q s), (b48, leafText (notB l) s), (b49, pairText k.lvl (notB kb) k.cnt k.label s), (b50, headText), (b51, rootText ((q + 1) % 18446744073709551616) s), (b129, leafText (notB l) s)] : List (Nat × List UInt8)) := ⟨_, rfl⟩
      replace h := h.pick (xs := Lof 5 es) [19, 18, 17, 16, 12, 11, 10, 9, 0] (by decide) (by subst hes; rfl)
      refine stepGO rfl rfl rfl rfl (o_buildSlice (vs := vof es) Tryd.underlying39 Tryd.sizeOf22 Tryd.zeroValue22 h (by subst hes; rfl) rfl (by intro u hu; obtain ⟨e, _, rfl⟩ := List.mem_map.1 hu; rfl) (by subst hes; rfl) rfl rfl) h rfl ?_
      rintro b133 _ a w h
      obtain ⟨hf9, hle9, hin9, hbk9, h⟩ := St.freezeL (L1 := [(b133, row 22 (vof es))]) (L2 := Lof 5 es) h
      have hen : es.length = 9 := by subst hes; rfl
      have hsl9 : Sl hf9 1 (slc b133 0 9 9) es.length (vof es) := by rw [hen]; exact Sl.row (hin9 _ _ (List.mem_singleton.2 rfl)) (by simp [List.take_of_length_le]) (by simp [hen]) (by decide) (by decide)
      have hme : ∀ (j b : Nat) (x : List UInt8), es[j]? = some (b, x) → x.length ≤ 140737488355000 := by
        intro j b x hx
        have hm := List.mem_of_getElem? hx
        rw [hes] at hm
        simp only [List.mem_cons, Prod.mk.injEq, List.not_mem_nil, or_false] at hm
        rcases hm with ⟨_, rfl⟩ | ⟨_, rfl⟩ | ⟨_, rfl⟩ | ⟨_, rfl⟩ | ⟨_, rfl⟩ | ⟨_, rfl⟩ | ⟨_, rfl⟩ | ⟨_, rfl⟩ | ⟨_, rfl⟩ <;> simp <;> omega
      refine stepGV rfl rfl rfl rfl (Enter.opT (o_call Tryd.call22 h rfl) (call_valA (c_apart h.own hsl9 (by omega) hme))) h rfl fun a w h => ?_
      refine stepP (p_pickT h rfl rfl) h rfl fun a w h => ?_
      refine stepP (p_assign h rfl) h rfl fun a w h => ?_
      refine stepEnd ?_
      refine th_n ?_
      refine c_ret ?_
      exact fin1 (.inl rfl) h rfl rfl ⟨rfl, (hbk9 _ _ h.own).none⟩

end Go.Proofs.YtkklgmhmhhbjkaaDoor
