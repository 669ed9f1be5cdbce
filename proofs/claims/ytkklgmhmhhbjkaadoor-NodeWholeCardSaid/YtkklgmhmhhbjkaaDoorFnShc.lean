/-
  WHAT EACH CALL COMES TO: the reference's SHA-256, whole. Printed by the own generator (wip/gen), one law of the own library for each operation.
-/
import Derived.Test.YtkklgmhmhhbjkaaDoorKitM
import Derived.Test.YtkklgmhmhhbjkaaDoorProg
import Derived.Test.YtkklgmhmhhbjkaaDoorFnA
import Derived.Test.YtkklgmhmhhbjkaaDoorFnShb
namespace Go.Proofs.YtkklgmhmhhbjkaaDoor
open Go Go.Own Go.Proofs
set_option maxRecDepth 100000
set_option linter.unusedVariables false

set_option maxHeartbeats 1000000 in
theorem c_rOf {S : World} {hf : Hp} {w : World} (ho : Owns S hf [] w) {v : Value} {l : List UInt8} (hv : Byts hf v l) (hb : l.length ≤ 140737488355200) :
    Calls Tryd.prog 55 [v].toArray w (RetV S hf [] (sumV (sha l))) := by
  refine enter (n := 72) (E := [(0, _)]) Tryd.func55 rfl Tryd.ntmps55 rfl rfl ho fun a h => ?_
  refine c_seq ?_
  refine c_region ?_
  refine stepO (o_alloc (l := List.replicate 32 (.int .u8 0)) Tryd.zeroValue25 rfl h) h.env rfl ?_
  rintro b1 _ a w h
  refine stepEnd ?_
  obtain ⟨hf2, hlef2, hinf2, hbkf2, h⟩ := h.freeze
  replace hv := hv.mono hlef2
  have hle := hlef2
  have ro3 : hf2 b1 = some (row 25 (List.replicate 32 (.int .u8 0))) := hinf2 _ _ (List.mem_of_getElem? (i := 0) rfl)
  refine th_n ?_
  refine c_seq ?_
  refine c_region ?_
  refine stepP (p_assign h rfl) h rfl fun a w h => ?_
  refine stepEnd ?_
  refine th_n ?_
  refine c_seq ?_
  refine c_region ?_
  refine stepP (p_move h rfl) h rfl fun a w h => ?_
  refine stepP (p_move h rfl) h rfl fun a w h => ?_
  refine stepO (o_append (Lv := []) (Lr := []) (l := 0) (xs := []) (s := 1) (news := l.map B) Tryd.underlying22 Tryd.type5 rfl rfl rfl (by decide) h rfl ⟨rfl, .inl ⟨rfl, rfl, rfl⟩⟩ rfl hv.src (by simp) (oneB l) (by unfold maxLen; omega) (by show _ * 1 ≤ _; omega)) h.env rfl ?_
  rintro ⟨v4, Lv5⟩ hvec6 a w h
  replace h := h.drop (List.sublist_append_left _ _)
  refine stepP (p_assign h rfl) h rfl fun a w h => ?_
  refine stepEnd ?_
  refine th_n ?_
  refine c_seq ?_
  refine c_region ?_
  refine stepP (p_move h rfl) h rfl fun a w h => ?_
  refine stepO (o_buildSlice Tryd.underlying22 Tryd.sizeOf5 Tryd.zeroValue5 h rfl rfl (by simp [Value.cells]) rfl rfl rfl) h.env rfl ?_
  rintro b7 _ a w h
  replace h := h.perm (L' := Lv5 ++ [(b7, row 5 [.int .u8 128])]) (List.perm_append_comm (l₁ := [(b7, row 5 [.int .u8 128])]) (l₂ := Lv5))
  refine stepO (o_append (Lv := Lv5) (Lr := [(b7, row 5 [.int .u8 128])]) (s := 1) (news := [.int .u8 128]) Tryd.underlying22 Tryd.type5 rfl rfl rfl (by decide) h rfl hvec6 rfl (.inr ⟨_, _, _, rfl, Cels.mem (T := 5) (cs := [.int .u8 128]) (by simp)⟩) rfl (by intro u hu; rw [List.mem_singleton] at hu; subst hu; rfl) (by unfold maxLen; omega) (by show _ * 1 ≤ _; omega)) h.env rfl ?_
  rintro ⟨v8, Lv9⟩ hvec10 a w h
  replace h := h.drop (List.sublist_append_left _ _)
  refine stepP (p_assign h rfl) h rfl fun a w h => ?_
  refine stepEnd ?_
  refine th_n ?_
  refine c_seq ?_
  refine c_block ?_
  refine c_loop (fun m a w => ∃ (z : Nat) (v3 : Value) (Lv3 : Res), m = zc l.length - z ∧ z ≤ zc l.length ∧ Vec 5 1 v3 (l.length + 1 + z) ((prePad l z).map B) Lv3 ∧ St S hf2 (Lv3) 72 [(0, v), (2, ptr b1 0), (3, v3)] a w) (N := zc l.length - 0) ⟨0, v8, Lv9, rfl, by omega, hvec10.cast (by omega) (by simp [prePad]), h.to rfl ⟨rfl, rfl, rfl, trivial⟩⟩ ?_
  clear h
  rintro m a w ⟨z, v3, Lv3, rfl, hz, hvec, h⟩
  refine c_seq ?_
  refine c_seq ?_
  refine c_region ?_
  refine stepP (p_move h rfl) h rfl fun a w h => ?_
  refine stepP (p_lenV Tryd.underlying22 h rfl hvec) h rfl fun a w h => ?_
  refine stepP (p_rem h rfl rfl (by decide) (tmod_nat (l.length + 1 + z) 64)) h rfl fun a w h => ?_
  refine stepP (p_neq h rfl rfl) h rfl fun a w h => ?_
  refine stepEnd ?_
  refine th_n ?_
  refine c_cond rfl h (fun hc11 => ?_) (fun hc11 => ?_)
  · skip
    refine c_skip ?_
    refine th_n ?_
    refine c_block ?_
    have hne : (l.length + 1 + z) % 64 ≠ 56 := by omega
    have hzc : zc l.length ≤ 63 := by unfold zc; omega
    refine c_region ?_
    refine stepP (p_move h rfl) h rfl fun a w h => ?_
    refine stepO (o_buildSlice Tryd.underlying22 Tryd.sizeOf5 Tryd.zeroValue5 h rfl rfl (by simp [Value.cells]) rfl rfl rfl) h.env rfl ?_
    rintro b12 _ a w h
    replace h := h.perm (L' := Lv3 ++ [(b12, row 5 [.int .u8 0])]) (List.perm_append_comm (l₁ := [(b12, row 5 [.int .u8 0])]) (l₂ := Lv3))
    refine stepO (o_append (Lv := Lv3) (Lr := [(b12, row 5 [.int .u8 0])]) (s := 1) (news := [.int .u8 0]) Tryd.underlying22 Tryd.type5 rfl rfl rfl (by decide) h rfl hvec rfl (.inr ⟨_, _, _, rfl, Cels.mem (T := 5) (cs := [.int .u8 0]) (by simp)⟩) rfl (by intro u hu; rw [List.mem_singleton] at hu; subst hu; rfl) (by unfold maxLen; omega) (by show _ * 1 ≤ _; omega)) h.env rfl ?_
    rintro ⟨v13, Lv14⟩ hvec15 a w h
    replace h := h.drop (List.sublist_append_left _ _)
    refine stepP (p_assign h rfl) h rfl fun a w h => ?_
    refine stepEnd ?_
    refine bl_n ?_
    exact th_n ⟨_, by have := hne; unfold zc at *; omega, z + 1, v13, Lv14, rfl, by have := hne; unfold zc at *; omega, hvec15.cast (by omega) (by rw [prePad_succ, List.map_append]; rfl), h.to rfl ⟨rfl, rfl, rfl, trivial⟩⟩
  · skip
    refine c_exit (th_e (th_e (exit_at ?_)))
    refine th_n ?_
    refine c_seq ?_
    have hzc : zc l.length ≤ 63 := by unfold zc; omega
    obtain rfl : z = zc l.length := by unfold zc at *; omega
    obtain ⟨q, hqq⟩ : ∃ q, q = l.length * 8 := ⟨_, rfl⟩
    refine c_region ?_
    refine stepP (p_move h rfl) h rfl fun a w h => ?_
    refine stepP (p_lenB Tryd.underlying22 h rfl hv) h rfl fun a w h => ?_
    refine stepP (p_conv Tryd.underlying3 Tryd.underlying23 h rfl (wu64 (by omega))) h rfl fun a w h => ?_
    refine stepP (p_mul (r := (q : Int)) h rfl rfl ((wu64 (by omega)).trans (by omega))) h rfl fun a w h => ?_
    refine stepP (p_assign h rfl) h rfl fun a w h => ?_
    refine stepEnd ?_
    refine th_n ?_
    refine c_seq ?_
    refine c_seq ?_
    refine c_region ?_
    refine stepP (p_assign h rfl) h rfl fun a w h => ?_
    refine stepEnd ?_
    refine th_n ?_
    refine c_block ?_
    refine c_loop (fun m a w => ∃ (k : Nat) (v4 : Value) (Lv4 : Res), m = 8 - k ∧ k ≤ 8 ∧ Vec 5 1 v4 (l.length + 1 + zc l.length + k) ((prePad l (zc l.length) ++ l8 q k).map B) Lv4 ∧ St S hf2 (Lv4) 72 [(2, ptr b1 0), (3, v4), (4, .int .u64 (q : Int)), (5, .int .i64 (56 - 8 * (k : Int)))] a w) (N := 8 - 0) ⟨0, v3, Lv3, rfl, by omega, hvec.cast (by omega) (by simp [l8]), h.to rfl ⟨rfl, rfl, (look_int rfl (by first | rfl | omega)), (look_int rfl (by first | rfl | omega)), trivial⟩⟩ ?_
    clear h
    rintro m a w ⟨k, v4, Lv4, rfl, hk8, hvec4, h⟩
    refine c_seq ?_
    refine c_seq ?_
    refine c_region ?_
    refine stepP (p_move h rfl) h rfl fun a w h => ?_
    refine stepP (p_geq h rfl rfl) h rfl fun a w h => ?_
    refine stepEnd ?_
    refine th_n ?_
    refine c_cond rfl h (fun hc16 => ?_) (fun hc16 => ?_)
    · skip
      refine c_skip ?_
      refine th_n ?_
      refine c_seq ?_
      refine c_block ?_
      refine c_region ?_
      refine stepP (p_move h rfl) h rfl fun a w h => ?_
      refine stepP (p_move h rfl) h rfl fun a w h => ?_
      refine stepP (p_move h rfl) h rfl fun a w h => ?_
      refine stepP (p_shr h rfl rfl (by omega) (shr64 q (56 - 8 * k) _ (by omega) (by omega))) h rfl fun a w h => ?_
      refine stepP (p_conv Tryd.underlying23 Tryd.underlying5 h rfl (conv_u8n _)) h rfl fun a w h => ?_
      refine stepO (o_buildSlice Tryd.underlying22 Tryd.sizeOf5 Tryd.zeroValue5 h rfl rfl (by simp [Value.cells]) rfl rfl rfl) h.env rfl ?_
      rintro b17 _ a w h
      replace h := h.perm (L' := Lv4 ++ [(b17, row 5 [.int .u8 (((UInt8.ofNat (q / 2 ^ (56 - 8 * k)))).toNat : Int)])]) (List.perm_append_comm (l₁ := [(b17, row 5 [.int .u8 (((UInt8.ofNat (q / 2 ^ (56 - 8 * k)))).toNat : Int)])]) (l₂ := Lv4))
      refine stepO (o_append (Lv := Lv4) (Lr := [(b17, row 5 [.int .u8 (((UInt8.ofNat (q / 2 ^ (56 - 8 * k)))).toNat : Int)])]) (s := 1) (news := [.int .u8 (((UInt8.ofNat (q / 2 ^ (56 - 8 * k)))).toNat : Int)]) Tryd.underlying22 Tryd.type5 rfl rfl rfl (by decide) h rfl hvec4 rfl (.inr ⟨_, _, _, rfl, Cels.mem (T := 5) (cs := [.int .u8 (((UInt8.ofNat (q / 2 ^ (56 - 8 * k)))).toNat : Int)]) (by simp)⟩) rfl (by intro u hu; rw [List.mem_singleton] at hu; subst hu; rfl) (by unfold maxLen; omega) (by show _ * 1 ≤ _; omega)) h.env rfl ?_
      rintro ⟨v18, Lv19⟩ hvec20 a w h
      replace h := h.drop (List.sublist_append_left _ _)
      refine stepP (p_assign h rfl) h rfl fun a w h => ?_
      refine stepEnd ?_
      refine bl_n ?_
      refine th_n ?_
      refine c_region ?_
      refine stepP (p_move h rfl) h rfl fun a w h => ?_
      refine stepP (p_sub h rfl rfl (wi (by omega))) h rfl fun a w h => ?_
      refine stepP (p_assign h rfl) h rfl fun a w h => ?_
      refine stepEnd ?_
      exact th_n ⟨_, by omega, k + 1, v18, Lv19, rfl, by omega, hvec20.cast (by omega) (by rw [l8_succ, ← List.append_assoc, List.map_append (l₂ := [_])]; rfl), h.to rfl ⟨rfl, rfl, (look_int rfl (by first | rfl | omega)), (look_int rfl (by first | rfl | omega)), trivial⟩⟩
    · skip
      refine c_exit (th_e (th_e (exit_at ?_)))
      refine th_n ?_
      refine c_seq ?_
      obtain rfl : k = 8 := by omega
      obtain ⟨pl, hpl⟩ : ∃ pl, pl = prePad l (zc l.length) ++ l8 q 8 := ⟨_, rfl⟩
      have hpp : pl = padded l := by rw [hpl, hqq]; rfl
      have hple : pl.length = l.length + 9 + zc l.length := by rw [hpp, padded_length]
      obtain ⟨N, hN⟩ : ∃ N, pl.length = 64 * N := by rw [hpp]; exact padded_blocks l
      rw [← hpl] at hvec4
      obtain ⟨hf21, hlef21, hinf21, hbkf21, h⟩ := h.freeze
      replace hv := hv.mono hlef21
      replace ro3 := hlef21 _ _ ro3
      replace hle := Hp.le_trans hle hlef21
      have hby : Byts _ v4 pl := hvec4.byts (by omega) hinf21
      refine c_region ?_
      refine stepV (Enter.opT (o_call Tryd.call73 h rfl) (call_val0 h.own (c_rrounds h.own.lend0))) h.env rfl fun a w h => ?_
      refine stepO (o_alloc (l := List.replicate 64 (.int .u32 0)) Tryd.zeroValue105 rfl h) h.env rfl ?_
      rintro b22 _ a w h
      refine stepN (o_storeA (kk := 0) (vs := ktV) (cs' := ktV) (fun w => by rw [Tryd.sizeOf105, ktV_length]) h rfl rfl rfl (by intro u hu; obtain ⟨x, _, rfl⟩ := List.mem_map.1 hu; rfl) rfl (by rw [ktV_length]; simp [wS_length, S8.list_length]) (by rw [ktV_length]; simp [wS_length, S8.list_length, List.drop_of_length_le])) h.env fun a w h => ?_
      refine stepEnd ?_
      refine th_n ?_
      refine c_seq ?_
      refine c_region ?_
      refine stepV (Enter.opT (o_call Tryd.call74 h rfl) (call_val0 h.own (c_rfirst h.own.lend0))) h.env rfl fun a w h => ?_
      refine stepO (o_alloc (l := List.replicate 8 (.int .u32 0)) Tryd.zeroValue107 rfl h) h.env rfl ?_
      rintro b23 _ a w h
      refine stepN (o_storeA (kk := 0) (vs := s8init.list.map U) (cs' := s8init.list.map U) (fun w => by rw [Tryd.sizeOf107, (show (s8init.list.map U).length = 8 from rfl)]) h rfl rfl rfl (by intro u hu; obtain ⟨x, _, rfl⟩ := List.mem_map.1 hu; rfl) rfl (by rw [(show (s8init.list.map U).length = 8 from rfl)]; simp [wS_length, S8.list_length]) (by rw [(show (s8init.list.map U).length = 8 from rfl)]; simp [wS_length, S8.list_length, List.drop_of_length_le])) h.env fun a w h => ?_
      refine stepEnd ?_
      refine th_n ?_
      refine c_seq ?_
      refine c_seq ?_
      refine c_region ?_
      refine stepP (p_assign h rfl) h rfl fun a w h => ?_
      refine stepEnd ?_
      refine th_n ?_
      refine c_block ?_
      refine c_loop (fun m a w => ∃ (j : Nat), m = N - j ∧ j ≤ N ∧ St S hf21 ([(b23, row 107 ((shaN pl j).list.map U))] ++ ([(b22, row 105 ktV)])) 72 [(2, ptr b1 0), (3, v4), (6, ptr b22 0), (7, ptr b23 0), (8, .int .i64 ((64 * j : Nat) : Int))] a w) (N := N - 0) ⟨0, rfl, by omega, h.to rfl ⟨rfl, rfl, rfl, rfl, (look_int rfl (by first | rfl | omega)), trivial⟩⟩ ?_
      clear h
      rintro m a w ⟨j, rfl, hj, h⟩
      refine c_seq ?_
      refine c_seq ?_
      refine c_region ?_
      refine stepP (p_move h rfl) h rfl fun a w h => ?_
      refine stepP (p_move h rfl) h rfl fun a w h => ?_
      refine stepP (p_lenB Tryd.underlying22 h rfl hby) h rfl fun a w h => ?_
      refine stepP (p_lss h rfl rfl) h rfl fun a w h => ?_
      refine stepEnd ?_
      refine th_n ?_
      refine c_cond rfl h (fun hc24 => ?_) (fun hc24 => ?_)
      · skip
        refine c_skip ?_
        refine th_n ?_
        refine c_seq ?_
        refine c_block ?_
        refine c_seq ?_
        refine c_region ?_
        refine stepP (p_move h rfl) h rfl fun a w h => ?_
        refine stepP (p_move h rfl) h rfl fun a w h => ?_
        refine stepV (Enter.opT (o_call Tryd.call75 h rfl) (call_val0 h.own (c_sched (q := 64 * j) h.own.lend0 (hby.mono h.own.le0) (by omega) (by omega)))) h.env rfl fun a w h => ?_
        refine stepO (o_alloc (l := List.replicate 64 (.int .u32 0)) Tryd.zeroValue105 rfl h) h.env rfl ?_
        rintro b25 _ a w h
        refine stepN (o_storeA (kk := 0) (vs := (wS (mw fun i => pl.getD (64 * j + i) 0) 64).map U) (cs' := (wS (mw fun i => pl.getD (64 * j + i) 0) 64).map U) (fun w => by rw [Tryd.sizeOf105, (show ((wS (mw fun i => pl.getD (64 * j + i) 0) 64).map U).length = 64 by rw [List.length_map, wS_length])]) h rfl rfl rfl (by intro u hu; obtain ⟨x, _, rfl⟩ := List.mem_map.1 hu; rfl) rfl (by rw [(show ((wS (mw fun i => pl.getD (64 * j + i) 0) 64).map U).length = 64 by rw [List.length_map, wS_length])]; simp [wS_length, S8.list_length]) (by rw [(show ((wS (mw fun i => pl.getD (64 * j + i) 0) 64).map U).length = 64 by rw [List.length_map, wS_length])]; simp [wS_length, S8.list_length, List.drop_of_length_le])) h.env fun a w h => ?_
        refine stepEnd ?_
        refine th_n ?_
        refine c_region ?_
        refine stepP (p_loadA (vs := (shaN pl j).list.map U) Tryd.isAgg107 (fun w => by rw [Tryd.sizeOf107, (show ((shaN pl j).list.map U).length = 8 from rfl)]) h rfl (Cels.all (k := 1) rfl)) h rfl fun a w h => ?_
        refine stepP (p_loadA (vs := (wS (mw fun i => pl.getD (64 * j + i) 0) 64).map U) Tryd.isAgg105 (fun w => by rw [Tryd.sizeOf105, (show ((wS (mw fun i => pl.getD (64 * j + i) 0) 64).map U).length = 64 by rw [List.length_map, wS_length])]) h rfl (Cels.all (k := 0) rfl)) h rfl fun a w h => ?_
        refine stepP (p_loadA (vs := ktV) Tryd.isAgg105 (fun w => by rw [Tryd.sizeOf105, ktV_length]) h rfl (Cels.all (k := 2) rfl)) h rfl fun a w h => ?_
        refine stepV (Enter.opT (o_call Tryd.call76 h rfl) (call_val0 h.own (c_rblock (s := shaN pl j) (mg := (mw fun i => pl.getD (64 * j + i) 0)) h.own.lend0))) h.env rfl fun a w h => ?_
        refine stepN (o_storeA (kk := 1) (vs := (shaN pl (j + 1)).list.map U) (cs' := (shaN pl (j + 1)).list.map U) (fun w => by rw [Tryd.sizeOf107, (show ((shaN pl (j + 1)).list.map U).length = 8 from rfl)]) h rfl rfl rfl (by intro u hu; obtain ⟨x, _, rfl⟩ := List.mem_map.1 hu; rfl) rfl (by rw [(show ((shaN pl (j + 1)).list.map U).length = 8 from rfl)]; simp [wS_length, S8.list_length]) (by rw [(show ((shaN pl (j + 1)).list.map U).length = 8 from rfl)]; simp [wS_length, S8.list_length, List.drop_of_length_le])) h.env fun a w h => ?_
        refine stepEnd ?_
        refine bl_n ?_
        refine th_n ?_
        replace h := h.drop (List.sublist_cons_self _ _)
        refine c_region ?_
        refine stepP (p_move h rfl) h rfl fun a w h => ?_
        refine stepP (p_add h rfl rfl (wi (by omega))) h rfl fun a w h => ?_
        refine stepP (p_assign h rfl) h rfl fun a w h => ?_
        refine stepEnd ?_
        exact th_n ⟨_, by omega, j + 1, rfl, by omega, h.to rfl ⟨rfl, rfl, rfl, rfl, (look_int rfl (by first | rfl | omega)), trivial⟩⟩
      · skip
        refine c_exit (th_e (th_e (exit_at ?_)))
        refine th_n ?_
        refine c_seq ?_
        obtain rfl : j = N := by omega
        obtain ⟨sN, hsN⟩ : ∃ sN, sN = shaN pl j := ⟨_, rfl⟩
        rw [← hsN] at h
        refine c_region ?_
        refine stepO (o_alloc (l := (oS sN 0).map B) Tryd.zeroValue25 (by rw [oS_zero]; rfl) h) h.env rfl ?_
        rintro b26 _ a w h
        refine stepEnd ?_
        refine th_n ?_
        refine c_seq ?_
        refine c_seq ?_
        refine c_region ?_
        refine stepP (p_assign h rfl) h rfl fun a w h => ?_
        refine stepEnd ?_
        refine th_n ?_
        refine c_block ?_
        refine c_loop (fun m a w => ∃ (i : Nat), m = 32 - i ∧ i ≤ 32 ∧ St S hf21 ([(b26, row 25 ((oS sN i).map B))] ++ ([(b23, row 107 (sN.list.map U))] ++ ([(b22, row 105 ktV)]))) 72 [(2, ptr b1 0), (7, ptr b23 0), (10, ptr b26 0), (11, .int .i64 ((i : Nat) : Int))] a w) (N := 32 - 0) ⟨0, rfl, by omega, h.to rfl ⟨rfl, rfl, rfl, (look_int rfl (by first | rfl | omega)), trivial⟩⟩ ?_
        clear h
        rintro m a w ⟨i, rfl, hi, h⟩
        refine c_seq ?_
        refine c_seq ?_
        refine c_region ?_
        refine stepP (p_move h rfl) h rfl fun a w h => ?_
        refine stepP (p_lss h rfl rfl) h rfl fun a w h => ?_
        refine stepEnd ?_
        refine th_n ?_
        refine c_cond rfl h (fun hc27 => ?_) (fun hc27 => ?_)
        · skip
          refine c_skip ?_
          refine th_n ?_
          refine c_seq ?_
          refine c_block ?_
          refine c_region ?_
          refine stepP (p_move h rfl) h rfl fun a w h => ?_
          refine stepP (p_move h rfl) h rfl fun a w h => ?_
          refine stepP (p_quo (r := ((i / 4 : Nat) : Int)) h rfl rfl (by decide) ((congrArg IntKind.i64.wrap (tdiv_nat i 4)).trans (wi (by omega)))) h rfl fun a w h => ?_
          refine stepP (p_indexAddrA1 (j := (i / 4)) (r := (i / 4)) Tryd.underlying107 Tryd.sizeOf73 h rfl rfl (by omega) (by omega) (by omega)) h rfl fun a w h => ?_
          refine stepP (p_load Tryd.isAgg73 h rfl (Cel.own (k := 1) rfl (list_get sN (j := i / 4) (by omega)))) h rfl fun a w h => ?_
          refine stepP (p_move h rfl) h rfl fun a w h => ?_
          refine stepP (p_rem h rfl rfl (by decide) (tmod_nat i 4)) h rfl fun a w h => ?_
          refine stepP (p_mul h rfl rfl (wi (by omega))) h rfl fun a w h => ?_
          refine stepP (p_sub (r := 24 - 8 * ((i % 4 : Nat) : Int)) h rfl rfl (wi (by omega))) h rfl fun a w h => ?_
          refine stepP (p_shr h rfl rfl (by omega) (w32_shr _ (24 - 8 * (i % 4)) _ (by omega) (by omega))) h rfl fun a w h => ?_
          refine stepP (p_conv Tryd.underlying73 Tryd.underlying5 h rfl (u8_word _)) h rfl fun a w h => ?_
          refine stepP (p_indexAddrA1 (j := i) (r := i) Tryd.underlying25 Tryd.sizeOf5 h rfl rfl (by omega) (by omega) (by omega)) h rfl fun a w h => ?_
          refine stepN (o_store (kk := 0) (cs' := (oS sN (i + 1)).map B) Tryd.sizeOf5 h rfl rfl rfl rfl rfl (by rw [List.length_map, oS_length sN (by omega)]; omega) (oS_set sN (i := i) (by omega) rfl)) h.env fun a w h => ?_
          refine stepEnd ?_
          refine bl_n ?_
          refine th_n ?_
          refine c_region ?_
          refine stepP (p_move h rfl) h rfl fun a w h => ?_
          refine stepP (p_add h rfl rfl (wi (by omega))) h rfl fun a w h => ?_
          refine stepP (p_assign h rfl) h rfl fun a w h => ?_
          refine stepEnd ?_
          exact th_n ⟨_, by omega, i + 1, rfl, by omega, h.to rfl ⟨rfl, rfl, rfl, (look_int rfl (by first | rfl | omega)), trivial⟩⟩
        · skip
          refine c_exit (th_e (th_e (exit_at ?_)))
          refine th_n ?_
          refine c_seq ?_
          obtain rfl : i = 32 := by omega
          rw [oS_end] at h
          replace h := h.re (hbkf2 _ _ (hbkf21 _ _ h.own))
          refine c_region ?_
          refine stepP (p_loadA (vs := (outB sN).map B) Tryd.isAgg25 (fun w => by rw [Tryd.sizeOf25, (show ((outB sN).map B).length = 32 by simp)]) h rfl (Cels.all (k := 0) rfl)) h rfl fun a w h => ?_
          replace h := h.drop (L' := [(b26, row 25 ((outB sN).map B))] ++ ([(b1, row 25 (List.replicate 32 (.int .u8 0)))])) (by first | exact (List.sublist_append_left _ _).append (List.Sublist.refl _) | simp)
          refine stepN (o_storeA (kk := 1) (vs := (outB sN).map B) (cs' := (outB sN).map B) (fun w => by rw [Tryd.sizeOf25, (show ((outB sN).map B).length = 32 by simp)]) h rfl rfl rfl (by intro u hu; obtain ⟨x, _, rfl⟩ := List.mem_map.1 hu; rfl) rfl (by rw [(show ((outB sN).map B).length = 32 by simp)]; simp [wS_length, S8.list_length]) (by rw [(show ((outB sN).map B).length = 32 by simp)]; simp [wS_length, S8.list_length, List.drop_of_length_le])) h.env fun a w h => ?_
          refine stepEnd ?_
          refine th_n ?_
          refine c_ret ?_
          exact finC (.inl rfl) h (vs := (outB sN).map B) rfl Tryd.isAgg25 (fun w => by rw [Tryd.sizeOf25, (show ((outB sN).map B).length = 32 by simp)]) rfl (Cels.all (k := 1) rfl) ⟨by rw [hsN, hpp]; unfold sha; rw [← hpp, hN, Nat.mul_div_cancel_left _ (by decide)], h.own.none⟩

end Go.Proofs.YtkklgmhmhhbjkaaDoor
