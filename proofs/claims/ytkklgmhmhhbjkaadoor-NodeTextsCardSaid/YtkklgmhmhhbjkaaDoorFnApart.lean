/-
  WHAT EACH CALL COMES TO: texts that share no memory. Printed by the own generator (wip/gen), one law of the own library for each operation.
-/
import Derived.Test.YtkklgmhmhhbjkaaDoorKitI
import Derived.Test.YtkklgmhmhhbjkaaDoorProg
namespace Go.Proofs.YtkklgmhmhhbjkaaDoor
open Go Go.Own Go.Proofs
set_option maxRecDepth 100000
set_option linter.unusedVariables false

set_option maxHeartbeats 1000000 in
theorem c_apart {S : World} {hf : Hp} {w : World} {es : List (Nat × List UInt8)} {vl : Value} (ho : Owns S hf (Lof 5 es) w) (hl : Sl hf 1 vl es.length (vof es)) (hn : es.length ≤ 1000) (hm : ∀ (j b : Nat) (l : List UInt8), es[j]? = some (b, l) → l.length ≤ 140737488355000) :
    Calls Tryd.prog 22 [vl].toArray w (RetV S hf [] (.bool true)) := by
  refine enter (n := 130) (E := [(0, _)]) Tryd.func22 rfl Tryd.ntmps22 rfl rfl ho fun a h => ?_
  refine c_seq ?_
  refine c_region ?_
  refine stepP (p_assign h rfl) h rfl fun a w h => ?_
  refine stepEnd ?_
  refine th_n ?_
  refine c_seq ?_
  refine c_seq ?_
  refine c_region ?_
  refine stepP (p_move h rfl) h rfl fun a w h => ?_
  refine stepP (p_lenS Tryd.underlying39 h rfl hl) h rfl fun a w h => ?_
  refine stepP (p_move h rfl) h rfl fun a w h => ?_
  refine stepEnd ?_
  refine th_n ?_
  refine c_block ?_
  refine c_loop (fun m a w => ∃ (hf2 : Hp) (k : Nat), m = es.length - k ∧ k ≤ es.length ∧ hf.le hf2 ∧ (∀ L' w', Owns S hf2 L' w' → Owns S hf [] w') ∧ Marked hf2 es k ∧ St S hf2 (Lof 5 (es.drop k)) 130 [(0, vl), (16, vl), (17, .int .i64 ((es.length : Nat) : Int)), (18, .int .i64 ((k : Nat) : Int))] a w) (N := es.length - 0) ⟨hf, 0, rfl, by omega, Hp.le_refl _, fun _ _ h => h.none, Marked.zero, h.to rfl ⟨rfl, rfl, (look_int rfl (by first | rfl | omega)), (look_int rfl (by first | rfl | omega)), trivial⟩⟩ ?_
  clear h
  rintro m a w ⟨hf2, k, rfl, hk, hle2, hbk2, hmk2, h⟩
  refine c_seq ?_
  refine c_region ?_
  refine stepP (p_lss h rfl rfl) h rfl fun a w h => ?_
  refine stepEnd ?_
  refine th_n ?_
  refine c_seq ?_
  refine c_cond rfl h (fun hc1 => ?_) (fun hc1 => ?_)
  · skip
    refine c_skip ?_
    refine th_n ?_
    refine c_seq ?_
    refine c_block ?_
    refine c_seq ?_
    obtain ⟨⟨b, l⟩, he⟩ : ∃ e, es[k]? = some e := ⟨es[k]'(by omega), List.getElem?_eq_getElem _⟩
    have hvk := vof_get he
    have hlm := hm _ _ _ he
    rw [Lof_drop he] at h
    refine c_region ?_
    refine stepP (p_move h rfl) h rfl fun a w h => ?_
    refine stepP (p_idxS1 Tryd.underlying39 Tryd.sizeOf22 h rfl rfl (hl.mono hle2) (j := k) (by omega) (by omega)) h rfl fun a w h => ?_
    refine stepP (p_load Tryd.isAgg22 h rfl (Sl.cel (hl.mono hle2) hvk)) h rfl fun a w h => ?_
    refine stepP (p_assign h rfl) h rfl fun a w h => ?_
    refine stepP (p_assign h rfl) h rfl fun a w h => ?_
    refine stepEnd ?_
    refine th_n ?_
    refine c_seq ?_
    refine c_region ?_
    refine stepP (p_move h rfl) h rfl fun a w h => ?_
    refine stepP (p_len Tryd.underlying22 h rfl) h rfl fun a w h => ?_
    refine stepP (p_move h rfl) h rfl fun a w h => ?_
    refine stepEnd ?_
    refine th_n ?_
    refine c_block ?_
    refine c_loop (fun m a w => ∃ (i : Nat), m = l.length - i ∧ i ≤ l.length ∧ St S hf2 ([(b, row 5 ((markS k l i).map B))] ++ (Lof 5 (es.drop (k + 1)))) 130 [(0, vl), (3, .int .i64 ((k : Nat) : Int)), (4, slc b 0 l.length l.length), (16, vl), (17, .int .i64 ((es.length : Nat) : Int)), (18, .int .i64 ((k : Nat) : Int)), (24, .int .i64 ((l.length : Nat) : Int)), (25, .int .i64 ((i : Nat) : Int))] a w) (N := l.length - 0) ⟨0, rfl, by omega, h.to (by rw [markS_zero]) ⟨rfl, (look_int rfl (by first | rfl | omega)), rfl, rfl, (look_int rfl (by first | rfl | omega)), (look_int rfl (by first | rfl | omega)), (look_int rfl (by first | rfl | omega)), (look_int rfl (by first | rfl | omega)), trivial⟩⟩ ?_
    clear h
    rintro m a w ⟨i, rfl, hi, h⟩
    refine c_seq ?_
    refine c_region ?_
    refine stepP (p_lss h rfl rfl) h rfl fun a w h => ?_
    refine stepEnd ?_
    refine th_n ?_
    refine c_seq ?_
    refine c_cond rfl h (fun hc2 => ?_) (fun hc2 => ?_)
    · skip
      refine c_skip ?_
      refine th_n ?_
      refine c_seq ?_
      refine c_block ?_
      refine c_seq ?_
      refine c_region ?_
      refine stepP (p_move h rfl) h rfl fun a w h => ?_
      refine stepP (p_assign h rfl) h rfl fun a w h => ?_
      refine stepEnd ?_
      refine th_n ?_
      refine c_region ?_
      refine stepP (p_move h rfl) h rfl fun a w h => ?_
      refine stepP (p_move h rfl) h rfl fun a w h => ?_
      refine stepP (p_move h rfl) h rfl fun a w h => ?_
      refine stepP (p_mul h rfl rfl (wi (by omega))) h rfl fun a w h => ?_
      refine stepP (p_move h rfl) h rfl fun a w h => ?_
      refine stepP (p_mul h rfl rfl (wi (by omega))) h rfl fun a w h => ?_
      refine stepP (p_add h rfl rfl (wi (by omega))) h rfl fun a w h => ?_
      refine stepP (p_add h rfl rfl (wi (by omega))) h rfl fun a w h => ?_
      refine stepP (p_conv Tryd.underlying3 Tryd.underlying5 h rfl (byteAt_conv _)) h rfl fun a w h => ?_
      refine stepP (p_indexAddr1 (j := i) (r := i) Tryd.underlying22 Tryd.sizeOf5 h rfl rfl (by omega) (by omega) (by omega)) h rfl fun a w h => ?_
      refine stepN (o_store (kk := 0) Tryd.sizeOf5 h rfl rfl rfl rfl rfl (by rw [List.length_map, markS_length k l (by omega)]; omega) (cs' := (markS k l (i + 1)).map B) (by rw [← markS_step k l (show i < l.length by omega), List.map_set])) h.env fun a w h => ?_
      refine stepEnd ?_
      refine bl_n ?_
      refine th_n ?_
      refine c_region ?_
      refine stepP (p_add h rfl rfl (wi (by omega))) h rfl fun a w h => ?_
      refine stepP (p_move h rfl) h rfl fun a w h => ?_
      refine stepEnd ?_
      exact th_n ⟨_, by omega, i + 1, rfl, by omega, h.to rfl ⟨rfl, (look_int rfl (by first | rfl | omega)), rfl, rfl, (look_int rfl (by first | rfl | omega)), (look_int rfl (by first | rfl | omega)), (look_int rfl (by first | rfl | omega)), (look_int rfl (by first | rfl | omega)), trivial⟩⟩
    · skip
      refine c_exit (th_e (th_e (exit_at ?_)))
      refine bl_n ?_
      refine th_n ?_
      have hie : l.length ≤ i := by omega
      rw [markS_end k l hie] at h
      obtain ⟨hf3, hle3', hin3, hbk3', h⟩ := St.freezeL h
      have hle3 := Hp.le_trans hle2 hle3'
      have hby : Byts hf3 (slc b 0 l.length l.length) (marks k l.length) := Byts.row (hin3 _ _ (List.mem_singleton.2 rfl)) (by simp) (by simp [List.take_of_length_le]) (by simp) (by unfold maxLen; omega)
      have hmk3 := (hmk2.mono hle3').succ he hby
      have hbk3 : (∀ L' w', Owns S hf3 L' w' → Owns S hf [] w') := fun L' w' h' => hbk2 _ _ (hbk3' L' w' h')
      refine c_region ?_
      refine stepP (p_add h rfl rfl (wi (by omega))) h rfl fun a w h => ?_
      refine stepP (p_move h rfl) h rfl fun a w h => ?_
      refine stepEnd ?_
      exact th_n ⟨_, by omega, hf3, k + 1, rfl, by omega, hle3, hbk3, hmk3, h.to rfl ⟨rfl, rfl, (look_int rfl (by first | rfl | omega)), (look_int rfl (by first | rfl | omega)), trivial⟩⟩
  · skip
    refine c_exit (th_e (th_e (exit_at ?_)))
    refine th_n ?_
    refine c_seq ?_
    obtain rfl : k = es.length := by omega
    replace h := h.drop (List.nil_sublist _)
    refine c_region ?_
    refine stepP (p_assign h rfl) h rfl fun a w h => ?_
    refine stepEnd ?_
    refine th_n ?_
    refine c_seq ?_
    refine c_seq ?_
    refine c_region ?_
    refine stepP (p_move h rfl) h rfl fun a w h => ?_
    refine stepP (p_lenS Tryd.underlying39 h rfl (hl.mono hle2)) h rfl fun a w h => ?_
    refine stepP (p_move h rfl) h rfl fun a w h => ?_
    refine stepEnd ?_
    refine th_n ?_
    refine c_block ?_
    refine c_loop (fun m a w => ∃ (hf4 : Hp) (q : Nat) (v : Value) (ms : List Value) (Lv : Res), m = es.length - q ∧ q ≤ es.length ∧ hf2.le hf4 ∧ (∀ L' w', Owns S hf4 L' w' → Owns S hf [] w') ∧ Vec 22 1 v q ms Lv ∧ Longer hf4 es ms q ∧ St S hf4 (Lv) 130 [(0, vl), (6, v), (40, vl), (41, .int .i64 ((es.length : Nat) : Int)), (42, .int .i64 ((q : Nat) : Int))] a w) (N := es.length - 0) ⟨hf2, 0, nilS, [], [], rfl, by omega, Hp.le_refl _, hbk2, ⟨rfl, .inl ⟨rfl, rfl, rfl⟩⟩, Longer.zero, h.to rfl ⟨rfl, rfl, rfl, (look_int rfl (by first | rfl | omega)), (look_int rfl (by first | rfl | omega)), trivial⟩⟩ ?_
    clear h
    rintro m a w ⟨hf4, q, v, ms, Lv, rfl, hq, hle4, hbk4, hvec, hlg, h⟩
    refine c_seq ?_
    refine c_region ?_
    refine stepP (p_lss h rfl rfl) h rfl fun a w h => ?_
    refine stepEnd ?_
    refine th_n ?_
    refine c_seq ?_
    refine c_cond rfl h (fun hc3 => ?_) (fun hc3 => ?_)
    · skip
      refine c_skip ?_
      refine th_n ?_
      refine c_seq ?_
      refine c_block ?_
      refine c_seq ?_
      obtain ⟨⟨b, l⟩, he⟩ : ∃ e, es[q]? = some e := ⟨es[q]'(by omega), List.getElem?_eq_getElem _⟩
      have hvk := vof_get he
      have hlm := hm _ _ _ he
      have hby0 := (hmk2 q b l he (by omega)).mono hle4
      refine c_region ?_
      refine stepP (p_move h rfl) h rfl fun a w h => ?_
      refine stepP (p_idxS1 Tryd.underlying39 Tryd.sizeOf22 h rfl rfl (hl.mono (Hp.le_trans hle2 hle4)) (j := q) (by omega) (by omega)) h rfl fun a w h => ?_
      refine stepP (p_load Tryd.isAgg22 h rfl (Sl.cel (hl.mono (Hp.le_trans hle2 hle4)) hvk)) h rfl fun a w h => ?_
      refine stepP (p_assign h rfl) h rfl fun a w h => ?_
      refine stepP (p_assign h rfl) h rfl fun a w h => ?_
      refine stepEnd ?_
      refine th_n ?_
      refine c_seq ?_
      refine c_region ?_
      refine stepO (o_make (l := 70) Tryd.underlying22 Tryd.type5 rfl rfl rfl h rfl rfl (by omega) (by omega) (by show 1 * _ ≤ _; omega) (by unfold maxLen; omega)) h.env rfl ?_
      rintro b4 _ a w h
      refine stepP (p_assign h rfl) h rfl fun a w h => ?_
      refine stepEnd ?_
      refine th_n ?_
      refine c_seq ?_
      refine c_seq ?_
      refine c_region ?_
      refine stepP (p_move h rfl) h rfl fun a w h => ?_
      refine stepP (p_len Tryd.underlying22 h rfl) h rfl fun a w h => ?_
      refine stepP (p_move h rfl) h rfl fun a w h => ?_
      refine stepEnd ?_
      refine th_n ?_
      refine c_block ?_
      refine c_loop (fun m a w => ∃ (j : Nat), m = 70 - j ∧ j ≤ 70 ∧ St S hf4 ([(b4, row 5 ((tailS q j).map B))] ++ (Lv)) 130 [(0, vl), (6, v), (7, .int .i64 ((q : Nat) : Int)), (8, (slc b 0 l.length l.length)), (9, slc b4 0 70 70), (40, vl), (41, .int .i64 ((es.length : Nat) : Int)), (42, .int .i64 ((q : Nat) : Int)), (49, .int .i64 ((70 : Nat) : Int)), (50, .int .i64 ((j : Nat) : Int))] a w) (N := 70 - 0) ⟨0, rfl, by omega, h.to (by rw [tailS_zero]; rfl) ⟨rfl, rfl, (look_int rfl (by first | rfl | omega)), rfl, rfl, rfl, (look_int rfl (by first | rfl | omega)), (look_int rfl (by first | rfl | omega)), (look_int rfl (by first | rfl | omega)), (look_int rfl (by first | rfl | omega)), trivial⟩⟩ ?_
      clear h
      rintro m a w ⟨j, rfl, hj, h⟩
      refine c_seq ?_
      refine c_region ?_
      refine stepP (p_lss h rfl rfl) h rfl fun a w h => ?_
      refine stepEnd ?_
      refine th_n ?_
      refine c_seq ?_
      refine c_cond rfl h (fun hc5 => ?_) (fun hc5 => ?_)
      · skip
        refine c_skip ?_
        refine th_n ?_
        refine c_seq ?_
        refine c_block ?_
        refine c_seq ?_
        refine c_region ?_
        refine stepP (p_move h rfl) h rfl fun a w h => ?_
        refine stepP (p_assign h rfl) h rfl fun a w h => ?_
        refine stepEnd ?_
        refine th_n ?_
        refine c_region ?_
        refine stepP (p_move h rfl) h rfl fun a w h => ?_
        refine stepP (p_move h rfl) h rfl fun a w h => ?_
        refine stepP (p_move h rfl) h rfl fun a w h => ?_
        refine stepP (p_add h rfl rfl (wi (by omega))) h rfl fun a w h => ?_
        refine stepP (p_conv Tryd.underlying3 Tryd.underlying5 h rfl (byteAt_conv _)) h rfl fun a w h => ?_
        refine stepP (p_indexAddr1 (j := j) (r := j) Tryd.underlying22 Tryd.sizeOf5 h rfl rfl (by omega) (by omega) (by omega)) h rfl fun a w h => ?_
        refine stepN (o_store (kk := 0) Tryd.sizeOf5 h rfl rfl rfl rfl rfl (by rw [List.length_map, tailS_length q (by omega)]; omega) (cs' := (tailS q (j + 1)).map B) (by rw [← tailS_step q (show j < 70 by omega), List.map_set])) h.env fun a w h => ?_
        refine stepEnd ?_
        refine bl_n ?_
        refine th_n ?_
        refine c_region ?_
        refine stepP (p_add h rfl rfl (wi (by omega))) h rfl fun a w h => ?_
        refine stepP (p_move h rfl) h rfl fun a w h => ?_
        refine stepEnd ?_
        exact th_n ⟨_, by omega, j + 1, rfl, by omega, h.to rfl ⟨rfl, rfl, (look_int rfl (by first | rfl | omega)), rfl, rfl, rfl, (look_int rfl (by first | rfl | omega)), (look_int rfl (by first | rfl | omega)), (look_int rfl (by first | rfl | omega)), (look_int rfl (by first | rfl | omega)), trivial⟩⟩
      · skip
        refine c_exit (th_e (th_e (exit_at ?_)))
        refine th_n ?_
        refine c_seq ?_
        have hje : 70 ≤ j := by omega
        rw [tailS_end q hje] at h
        refine c_region ?_
        refine stepP (p_move h rfl) h rfl fun a w h => ?_
        refine stepP (p_move h rfl) h rfl fun a w h => ?_
        refine stepO (o_appendG (s := 1) (l := l.length) (q := 70) (xs := (marks q l.length).map B) (news := (List.replicate 70 (byteAt (200 + (q : Int)))).map B) (ys := (marks q l.length ++ (List.replicate 70 (byteAt (200 + (q : Int))))).map B) Tryd.underlying22 Tryd.type5 rfl rfl rfl h rfl (Sl.cels (j := 0) (m := l.length) hby0 (by simp [List.take_of_length_le])) (by simp) rfl (.inr ⟨_, _, _, rfl, Cels.own (k := 0) rfl (by simp only [List.drop_zero, List.take_length])⟩) (by omega) (by simp) (by unfold maxLen; omega) (by show _ * 1 ≤ _; omega) (by simp only [List.map_append])) h.env rfl ?_
        rintro ⟨b6, cap7, rest8⟩ ⟨hc9, hc10, hc11⟩ a w h
        refine stepP (p_assign h rfl) h rfl fun a w h => ?_
        refine stepEnd ?_
        refine th_n ?_
        refine c_region ?_
        refine stepP (p_move h rfl) h rfl fun a w h => ?_
        refine stepP (p_move h rfl) h rfl fun a w h => ?_
        refine stepO (o_buildSlice Tryd.underlying39 Tryd.sizeOf22 Tryd.zeroValue22 h rfl rfl (by simp [Value.cells]) rfl rfl rfl) h.env rfl ?_
        rintro b12 _ a w h
        replace h := h.perm (L' := Lv ++ [(b12, row 22 [slc b6 0 (l.length + 70) cap7]), (b6, row 5 ((marks q l.length ++ (List.replicate 70 (byteAt (200 + (q : Int))))).map B ++ rest8)), (b4, row 5 ((List.replicate 70 (byteAt (200 + (q : Int)))).map B))]) (List.perm_append_comm (l₁ := [(b12, row 22 [slc b6 0 (l.length + 70) cap7]), (b6, row 5 ((marks q l.length ++ (List.replicate 70 (byteAt (200 + (q : Int))))).map B ++ rest8)), (b4, row 5 ((List.replicate 70 (byteAt (200 + (q : Int)))).map B))]) (l₂ := Lv))
        refine stepO (o_append (Lv := Lv) (Lr := [(b12, row 22 [slc b6 0 (l.length + 70) cap7]), (b6, row 5 ((marks q l.length ++ (List.replicate 70 (byteAt (200 + (q : Int))))).map B ++ rest8)), (b4, row 5 ((List.replicate 70 (byteAt (200 + (q : Int)))).map B))]) (s := 1) (news := [slc b6 0 (l.length + 70) cap7]) Tryd.underlying39 Tryd.type22 rfl rfl rfl (by decide) h rfl hvec rfl (.inr ⟨_, _, _, rfl, Cels.mem (T := 22) (cs := [slc b6 0 (l.length + 70) cap7]) (by simp)⟩) rfl (by intro u hu; rw [List.mem_singleton] at hu; subst hu; rfl) (by unfold maxLen; omega) (by show _ * 24 ≤ _; omega)) h.env rfl ?_
        rintro ⟨v13, Lv14⟩ hvec15 a w h
        refine stepP (p_assign h rfl) h rfl fun a w h => ?_
        refine stepEnd ?_
        refine bl_n ?_
        refine th_n ?_
        obtain ⟨hf5, hle5', hin5, hbk5', h⟩ := St.freezeR h
        have hle5 := Hp.le_trans hle4 hle5'
        have hbm : Byts hf5 (slc b6 0 (l.length + 70) cap7) (marks q l.length ++ (List.replicate 70 (byteAt (200 + (q : Int))))) := Byts.row (T := 5) (ds := (marks q l.length ++ (List.replicate 70 (byteAt (200 + (q : Int))))).map B ++ rest8) (hin5 b6 _ (List.mem_cons_of_mem _ List.mem_cons_self)) (by simp only [List.length_append, marks_length, List.length_replicate]) (by rw [List.drop_zero, List.take_left' (by rw [List.length_map])]) (by simp only [List.length_append, marks_length, List.length_replicate]; exact hc9) hc10
        have hlg5 := (hlg.mono hle5').succ (by have := hvec.1; omega) he hbm
        have hbk5 : (∀ L' w', Owns S hf5 L' w' → Owns S hf [] w') := fun L' w' h' => hbk4 _ _ (hbk5' L' w' h').none
        refine c_region ?_
        refine stepP (p_add h rfl rfl (wi (by omega))) h rfl fun a w h => ?_
        refine stepP (p_move h rfl) h rfl fun a w h => ?_
        refine stepEnd ?_
        exact th_n ⟨_, by omega, hf5, q + 1, v13, ms ++ [slc b6 0 (l.length + 70) cap7], Lv14, rfl, by omega, hle5, hbk5, hvec15, hlg5, h.to rfl ⟨rfl, rfl, rfl, (look_int rfl (by first | rfl | omega)), (look_int rfl (by first | rfl | omega)), trivial⟩⟩
    · skip
      refine c_exit (th_e (th_e (exit_at ?_)))
      refine th_n ?_
      refine c_seq ?_
      refine c_seq ?_
      obtain rfl : q = es.length := by omega
      obtain ⟨hf6, hle6', hin6, hbk6', h⟩ := h.freeze
      have hle6 := Hp.le_trans hle2 (Hp.le_trans hle4 hle6')
      have hsl : Sl hf6 1 v es.length ms := hvec.sl hin6
      have hmk6 := hmk2.mono (Hp.le_trans hle4 hle6')
      have hlg6 := hlg.mono hle6'
      have hbk6 : (∀ L' w', Owns S hf6 L' w' → Owns S hf [] w') := fun L' w' h' => hbk4 _ _ (hbk6' L' w' h')
      refine c_region ?_
      refine stepP (p_move h rfl) h rfl fun a w h => ?_
      refine stepP (p_lenS Tryd.underlying39 h rfl (hl.mono hle6)) h rfl fun a w h => ?_
      refine stepP (p_move h rfl) h rfl fun a w h => ?_
      refine stepEnd ?_
      refine th_n ?_
      refine c_block ?_
      refine c_loop (fun m a w => ∃ (p : Nat), m = es.length - p ∧ p ≤ es.length ∧ St S hf6 [] 130 [(6, v), (68, vl), (69, .int .i64 ((es.length : Nat) : Int)), (70, .int .i64 ((p : Nat) : Int))] a w) (N := es.length - 0) ⟨0, rfl, by omega, h.to rfl ⟨rfl, rfl, (look_int rfl (by first | rfl | omega)), (look_int rfl (by first | rfl | omega)), trivial⟩⟩ ?_
      clear h
      rintro m a w ⟨p, rfl, hp, h⟩
      refine c_seq ?_
      refine c_region ?_
      refine stepP (p_lss h rfl rfl) h rfl fun a w h => ?_
      refine stepEnd ?_
      refine th_n ?_
      refine c_seq ?_
      refine c_cond rfl h (fun hc16 => ?_) (fun hc16 => ?_)
      · skip
        refine c_skip ?_
        refine th_n ?_
        refine c_seq ?_
        refine c_block ?_
        refine c_seq ?_
        obtain ⟨⟨b, l⟩, he⟩ : ∃ e, es[p]? = some e := ⟨es[p]'(by omega), List.getElem?_eq_getElem _⟩
        have hvk := vof_get he
        have hlm := hm _ _ _ he
        have hb1 := hmk6 p b l he (by omega)
        obtain ⟨u, hu, hbu⟩ := hlg6 p b l he (by omega)
        have hml := marks_length p l.length
        have hal : (marks p l.length ++ List.replicate 70 (byteAt (200 + (p : Int)))).length = l.length + 70 := by simp
        refine c_region ?_
        refine stepP (p_move h rfl) h rfl fun a w h => ?_
        refine stepP (p_idxS1 Tryd.underlying39 Tryd.sizeOf22 h rfl rfl (hl.mono hle6) (j := p) (by omega) (by omega)) h rfl fun a w h => ?_
        refine stepP (p_load Tryd.isAgg22 h rfl (Sl.cel (hl.mono hle6) hvk)) h rfl fun a w h => ?_
        refine stepP (p_assign h rfl) h rfl fun a w h => ?_
        refine stepP (p_assign h rfl) h rfl fun a w h => ?_
        refine stepEnd ?_
        refine th_n ?_
        refine c_seq ?_
        refine c_seq ?_
        refine c_region ?_
        refine stepP (p_move h rfl) h rfl fun a w h => ?_
        refine stepP (p_lenB Tryd.underlying22 h rfl hb1) h rfl fun a w h => ?_
        refine stepP (p_move h rfl) h rfl fun a w h => ?_
        refine stepEnd ?_
        refine th_n ?_
        refine c_block ?_
        refine c_loop (fun m a w => ∃ (i : Nat), m = l.length - i ∧ i ≤ l.length ∧ St S hf6 [] 130 [(6, v), (12, .int .i64 ((p : Nat) : Int)), (13, (slc b 0 l.length l.length)), (68, vl), (69, .int .i64 ((es.length : Nat) : Int)), (70, .int .i64 ((p : Nat) : Int)), (76, .int .i64 (((marks p l.length).length : Nat) : Int)), (77, .int .i64 ((i : Nat) : Int))] a w) (N := l.length - 0) ⟨0, rfl, by omega, h.to rfl ⟨rfl, (look_int rfl (by first | rfl | omega)), rfl, rfl, (look_int rfl (by first | rfl | omega)), (look_int rfl (by first | rfl | omega)), (look_int rfl (by first | rfl | omega)), (look_int rfl (by first | rfl | omega)), trivial⟩⟩ ?_
        clear h
        rintro m a w ⟨i, rfl, hi, h⟩
        refine c_seq ?_
        refine c_region ?_
        refine stepP (p_lss h rfl rfl) h rfl fun a w h => ?_
        refine stepEnd ?_
        refine th_n ?_
        refine c_seq ?_
        refine c_cond rfl h (fun hc17 => ?_) (fun hc17 => ?_)
        · skip
          refine c_skip ?_
          refine th_n ?_
          refine c_seq ?_
          refine c_block ?_
          refine c_seq ?_
          refine c_region ?_
          refine stepP (p_move h rfl) h rfl fun a w h => ?_
          refine stepP (p_assign h rfl) h rfl fun a w h => ?_
          refine stepEnd ?_
          refine th_n ?_
          refine c_seq ?_
          refine region_quiet (by kernel_rfl) (by kernel_rfl) h ?_
          have he := h.env
          clear h
          refine stepQ he (fun w h => p_move h rfl) rfl fun a he => ?_
          refine stepQ he (fun w h => p_move h rfl) rfl fun a he => ?_
          refine stepQ he (fun w h => p_idxB Tryd.underlying22 Tryd.sizeOf5 h rfl rfl hb1 (j := i) (by first | omega | (simp <;> omega)) (by first | omega | (simp <;> omega))) rfl fun a he => ?_
          have hj18 : i < (marks p l.length).length := by omega
          refine stepQ he (fun w h => p_load Tryd.isAgg5 h rfl (hb1.cel (List.getElem?_eq_getElem hj18))) rfl fun a he => ?_
          refine stepQ he (fun w h => p_move h rfl) rfl fun a he => ?_
          refine stepQ he (fun w h => p_mul h rfl rfl (wi (by omega))) rfl fun a he => ?_
          refine stepQ he (fun w h => p_move h rfl) rfl fun a he => ?_
          refine stepQ he (fun w h => p_mul h rfl rfl (wi (by omega))) rfl fun a he => ?_
          refine stepQ he (fun w h => p_add h rfl rfl (wi (by omega))) rfl fun a he => ?_
          refine stepQ he (fun w h => p_add h rfl rfl (wi (by omega))) rfl fun a he => ?_
          refine stepQ he (fun w h => p_conv Tryd.underlying3 Tryd.underlying5 h rfl (byteAt_conv _)) rfl fun a he => ?_
          refine stepQ he (fun w h => p_neq h rfl rfl) rfl fun a he => ?_
          have he := he.bool_of (t := 91) (b' := false) rfl (by simp [marks])
          refine stepQ he (fun w h => p_move h rfl) rfl fun a he => ?_
          have he := he.bool_of (t := 91) (b' := false) rfl (by simp [marks])
          refine stepQG rfl rfl rfl rfl he (fun w h => p_move h rfl) rfl fun a he => ?_
          refine stepQG rfl rfl rfl rfl he (fun w h => p_move h rfl) rfl fun a he => ?_
          refine stepQG rfl rfl rfl rfl he (fun w h => p_idxS1 Tryd.underlying39 Tryd.sizeOf22 h rfl rfl hsl (j := p) (by omega) (by omega)) rfl fun a he => ?_
          refine stepQG rfl rfl rfl rfl he (fun w h => p_load Tryd.isAgg22 h rfl (Sl.cel hsl hu)) rfl fun a he => ?_
          refine stepQG rfl rfl rfl rfl he (fun w h => p_move h rfl) rfl fun a he => ?_
          refine stepQG rfl rfl rfl rfl he (fun w h => p_idxB Tryd.underlying22 Tryd.sizeOf5 h rfl rfl hbu (j := i) (by first | omega | (simp <;> omega)) (by first | omega | (simp <;> omega))) rfl fun a he => ?_
          have hj19 : i < (marks p l.length ++ List.replicate 70 (byteAt (200 + (p : Int)))).length := by omega
          refine stepQG rfl rfl rfl rfl he (fun w h => p_load Tryd.isAgg5 h rfl (hbu.cel (List.getElem?_eq_getElem hj19))) rfl fun a he => ?_
          refine stepQG rfl rfl rfl rfl he (fun w h => p_move h rfl) rfl fun a he => ?_
          refine stepQG rfl rfl rfl rfl he (fun w h => p_move h rfl) rfl fun a he => ?_
          refine stepQG rfl rfl rfl rfl he (fun w h => p_idxB Tryd.underlying22 Tryd.sizeOf5 h rfl rfl hb1 (j := i) (by first | omega | (simp <;> omega)) (by first | omega | (simp <;> omega))) rfl fun a he => ?_
          have hj20 : i < (marks p l.length).length := by omega
          refine stepQG rfl rfl rfl rfl he (fun w h => p_load Tryd.isAgg5 h rfl (hb1.cel (List.getElem?_eq_getElem hj20))) rfl fun a he => ?_
          refine stepQG rfl rfl rfl rfl he (fun w h => p_neq h rfl rfl) rfl fun a he => ?_
          have he := he.bool_of (t := 104) (b' := false) rfl (by first | rfl | (rw [List.getElem_append_left (by omega)]; simp))
          refine stepQ he (fun w h => p_pickF h rfl rfl) rfl fun a he => ?_
          have he := he.bool_of (t := 104) (b' := false) rfl (by first | rfl | (rw [List.getElem_append_left (by omega)]; simp))
          refine stepQEnd he fun w h => ?_
          refine th_n ?_
          refine c_false rfl h ?_
          refine c_skip ?_
          refine bl_n ?_
          refine th_n ?_
          refine c_region ?_
          refine stepP (p_add h rfl rfl (wi (by omega))) h rfl fun a w h => ?_
          refine stepP (p_move h rfl) h rfl fun a w h => ?_
          refine stepEnd ?_
          exact th_n ⟨_, by omega, i + 1, rfl, by omega, h.to rfl ⟨rfl, (look_int rfl (by first | rfl | omega)), rfl, rfl, (look_int rfl (by first | rfl | omega)), (look_int rfl (by first | rfl | omega)), (look_int rfl (by first | rfl | omega)), (look_int rfl (by first | rfl | omega)), trivial⟩⟩
        · skip
          refine c_exit (th_e (th_e (exit_at ?_)))
          refine th_n ?_
          refine c_seq ?_
          refine c_region ?_
          refine stepP (p_move h rfl) h rfl fun a w h => ?_
          refine stepP (p_lenB Tryd.underlying22 h rfl hb1) h rfl fun a w h => ?_
          refine stepP (p_assign h rfl) h rfl fun a w h => ?_
          refine stepEnd ?_
          refine th_n ?_
          refine c_block ?_
          refine c_loop (fun m a w => ∃ (i : Nat), m = l.length + 70 - i ∧ i ≤ l.length + 70 ∧ l.length ≤ i ∧ St S hf6 [] 130 [(6, v), (12, .int .i64 ((p : Nat) : Int)), (15, .int .i64 ((i : Nat) : Int)), (68, vl), (69, .int .i64 ((es.length : Nat) : Int)), (70, .int .i64 ((p : Nat) : Int))] a w) (N := l.length + 70 - l.length) ⟨l.length, rfl, by omega, by omega, h.to rfl ⟨rfl, (look_int rfl (by first | rfl | omega)), (look_int rfl (by first | rfl | omega)), rfl, (look_int rfl (by first | rfl | omega)), (look_int rfl (by first | rfl | omega)), trivial⟩⟩ ?_
          clear h
          rintro m a w ⟨i, rfl, hi, hi2, h⟩
          refine c_seq ?_
          refine c_seq ?_
          refine c_region ?_
          refine stepP (p_move h rfl) h rfl fun a w h => ?_
          refine stepP (p_move h rfl) h rfl fun a w h => ?_
          refine stepP (p_move h rfl) h rfl fun a w h => ?_
          refine stepP (p_idxS1 Tryd.underlying39 Tryd.sizeOf22 h rfl rfl hsl (j := p) (by omega) (by omega)) h rfl fun a w h => ?_
          refine stepP (p_load Tryd.isAgg22 h rfl (Sl.cel hsl hu)) h rfl fun a w h => ?_
          refine stepP (p_lenB Tryd.underlying22 h rfl hbu) h rfl fun a w h => ?_
          refine stepP (p_lss h rfl rfl) h rfl fun a w h => ?_
          refine stepEnd ?_
          refine th_n ?_
          refine c_cond rfl h (fun hc21 => ?_) (fun hc21 => ?_)
          · skip
            refine c_skip ?_
            refine th_n ?_
            refine c_seq ?_
            refine c_block ?_
            refine c_seq ?_
            refine c_region ?_
            refine stepP (p_move h rfl) h rfl fun a w h => ?_
            refine stepP (p_move h rfl) h rfl fun a w h => ?_
            refine stepP (p_idxS1 Tryd.underlying39 Tryd.sizeOf22 h rfl rfl hsl (j := p) (by omega) (by omega)) h rfl fun a w h => ?_
            refine stepP (p_load Tryd.isAgg22 h rfl (Sl.cel hsl hu)) h rfl fun a w h => ?_
            refine stepP (p_move h rfl) h rfl fun a w h => ?_
            refine stepP (p_idxB Tryd.underlying22 Tryd.sizeOf5 h rfl rfl hbu (j := i) (by first | omega | (simp <;> omega)) (by first | omega | (simp <;> omega))) h rfl fun a w h => ?_
            have hj22 : i < (marks p l.length ++ List.replicate 70 (byteAt (200 + (p : Int)))).length := by omega
            refine stepP (p_load Tryd.isAgg5 h rfl (hbu.cel (List.getElem?_eq_getElem hj22))) h rfl fun a w h => ?_
            refine stepP (p_move h rfl) h rfl fun a w h => ?_
            refine stepP (p_add h rfl rfl (wi (by omega))) h rfl fun a w h => ?_
            refine stepP (p_conv Tryd.underlying3 Tryd.underlying5 h rfl (byteAt_conv _)) h rfl fun a w h => ?_
            refine stepP (p_neq h rfl rfl) h rfl fun a w h => ?_
            have h := h.bool_of (t := 128) (b' := false) rfl (by first | rfl | (rw [List.getElem_append_right (by omega), List.getElem_replicate]; simp))
            refine stepEnd ?_
            refine th_n ?_
            refine c_false rfl h ?_
            refine c_skip ?_
            refine bl_n ?_
            refine th_n ?_
            refine c_region ?_
            refine stepP (p_move h rfl) h rfl fun a w h => ?_
            refine stepP (p_add h rfl rfl (wi (by omega))) h rfl fun a w h => ?_
            refine stepP (p_assign h rfl) h rfl fun a w h => ?_
            refine stepEnd ?_
            exact th_n ⟨_, by omega, i + 1, rfl, by omega, by omega, h.to rfl ⟨rfl, (look_int rfl (by first | rfl | omega)), (look_int rfl (by first | rfl | omega)), rfl, (look_int rfl (by first | rfl | omega)), (look_int rfl (by first | rfl | omega)), trivial⟩⟩
          · skip
            refine c_exit (th_e (th_e (exit_at ?_)))
            refine bl_n ?_
            refine th_n ?_
            refine c_region ?_
            refine stepP (p_add h rfl rfl (wi (by omega))) h rfl fun a w h => ?_
            refine stepP (p_move h rfl) h rfl fun a w h => ?_
            refine stepEnd ?_
            exact th_n ⟨_, by omega, p + 1, rfl, by omega, h.to rfl ⟨rfl, rfl, (look_int rfl (by first | rfl | omega)), (look_int rfl (by first | rfl | omega)), trivial⟩⟩
      · skip
        refine c_exit (th_e (th_e (exit_at ?_)))
        refine th_n ?_
        refine c_seq ?_
        refine c_region ?_
        refine stepP (p_assign h rfl) h rfl fun a w h => ?_
        refine stepEnd ?_
        refine th_n ?_
        refine c_ret ?_
        exact fin1 (.inl rfl) h rfl rfl ⟨rfl, hbk6 _ _ h.own⟩

end Go.Proofs.YtkklgmhmhhbjkaaDoor
