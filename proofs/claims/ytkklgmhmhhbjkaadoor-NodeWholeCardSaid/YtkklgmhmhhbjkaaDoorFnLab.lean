/-
  WHAT EACH CALL COMES TO: labels of towers. Printed by the own generator (wip/gen), one law of the own library for each operation.
-/
import Derived.Test.YtkklgmhmhhbjkaaDoorKitS
import Derived.Test.YtkklgmhmhhbjkaaDoorProg
import Derived.Test.YtkklgmhmhhbjkaaDoorFnA
import Derived.Test.YtkklgmhmhhbjkaaDoorFnB
import Derived.Test.YtkklgmhmhhbjkaaDoorFnC
import Derived.Test.YtkklgmhmhhbjkaaDoorFnShc
import Derived.Test.YtkklgmhmhhbjkaaDoorFnShd
import Derived.Test.YtkklgmhmhhbjkaaDoorFnTow
namespace Go.Proofs.YtkklgmhmhhbjkaaDoor
open Go Go.Own Go.Proofs
set_option maxRecDepth 100000
set_option linter.unusedVariables false

theorem c_dOf1 {S : World} {hf : Hp} {w : World} (ho : Owns S hf [] w) {vl v : Value} {l : List UInt8} (hl : Sl hf 1 vl 1 [v]) (hv : Byts hf v l) (hk : RoundsAt 3 hf) (hf1 : FirstAt 1 hf) (hb : l.length ≤ 140737488355300) :
    Calls Tryd.prog 44 [vl].toArray w (RetV S hf [] (sumV (sha l))) := by
  have := c_dOf (ls := [l]) ho hl (BytsAll.cons hv BytsAll.nil) hk hf1 (by simpa using hb)
  simpa using this

set_option maxHeartbeats 1000000 in
theorem c_nlabel {S : World} {hf : Hp} {w : World} (ho : Owns S hf [] w) {t : TowP} {x : TowV} (ht : TowOk hf t x) (hb : t.key.length ≤ 140737488351232) (hbk : ∀ p ∈ t.kids, p.key.length ≤ 140737488351232) (htg : TagsAt 0 hf) (hk : RoundsAt 3 hf) (hf1 : FirstAt 1 hf) {fid : Nat} {caps : List Value} {only : KidP → Bool}
    (hcall : ∀ args w, (callFunc fid args).run Tryd.prog w = .ok (.enter fid args) w) (hon : ∀ {hf' : Hp} {w : World} {p : KidP} {u : Value}, hf.le hf' → Owns S hf' [] w → (p.at u).Ok hf' p.key → Calls Tryd.prog fid ([(p.at u).val] ++ caps).toArray w (RetV S hf' [] (.bool (only p)))) :
    Calls Tryd.prog 58 [t.val x, .func (.func fid) #[] caps.toArray].toArray w (RetV S hf [] (sumV (labP only t 0))) := by
  have hmany := ht.many
  have hts := ht.sum
  refine enter (n := 62) (E := [(0, _), (1, _)]) Tryd.func58 rfl Tryd.ntmps58 rfl rfl ho fun a h => ?_
  refine c_seq ?_
  refine c_region ?_
  refine stepO (o_box (l := t.cells x) h rfl rfl) h.env rfl ?_
  rintro b1 _ a w h
  refine stepO (o_alloc (l := List.replicate 32 (.int .u8 0)) Tryd.zeroValue25 rfl h) h.env rfl ?_
  rintro b2 _ a w h
  refine stepEnd ?_
  obtain ⟨hf2, hle, hin1, hbk1, h⟩ := St.freezeR (L1 := [(b2, row 25 (List.replicate 32 (.int .u8 0)))]) (L2 := [(b1, row 46 (t.cells x))]) h
  replace ht := ht.mono hle
  replace htg := htg.mono hle
  replace hk := hk.mono hle
  replace hf1 := hf1.mono hle
  have ro1 : hf2 b1 = some (row 46 (t.cells x)) := hin1 _ _ (by simp)
  refine th_n ?_
  refine c_seq ?_
  refine c_region ?_
  refine stepO (o_alloc (l := List.replicate 32 (.int .u8 0)) Tryd.zeroValue25 rfl h) h.env rfl ?_
  rintro b3 _ a w h
  refine stepEnd ?_
  refine th_n ?_
  refine c_seq ?_
  refine c_block ?_
  refine c_seq ?_
  refine c_block ?_
  refine c_seq ?_
  refine c_block ?_
  refine c_seq ?_
  refine c_block ?_
  refine c_seq ?_
  refine c_seq ?_
  refine c_seq ?_
  refine c_region ?_
  refine stepP (p_fieldAddr (r := 0) Tryd.underlying46 rfl Tryd.sizeOf4 rfl rfl h rfl) h rfl fun a w h => ?_
  refine stepP (p_load Tryd.isAgg4 h rfl (Cel.stay ro1 rfl)) h rfl fun a w h => ?_
  refine stepP (p_assign h rfl) h rfl fun a w h => ?_
  refine stepEnd ?_
  refine th_n ?_
  refine c_condB rfl h (fun hc4 => ?_) (fun hc4 => ?_)
  · skip
    refine c_exit (th_e (th_e (exit_at ?_)))
    refine th_n ?_
    refine c_region ?_
    refine stepO (Enter.opT (o_call Tryd.call13 h rfl) (call_out0 h.own (c_NHeadText h.own.lend0 (htg.mono h.own.le0)))) h.env rfl ?_
    rintro b5 _ a w h
    refine stepO (o_buildSlice (vs := [slc b5 0 headText.length headText.length]) Tryd.underlying39 Tryd.sizeOf22 Tryd.zeroValue22 h rfl rfl (by simp [Value.cells]) rfl rfl rfl) h.env rfl ?_
    rintro b6 _ a w h
    refine stepV (Enter.opT (o_call Tryd.call44 h rfl) (call_val0 h.own (c_dOf1 h.own.lend0 (Sl.row (s := 1) (o := 0) (cap := 1) (n := 1) (cs := [slc b5 0 headText.length headText.length]) (h.own.in0 (k := 0) rfl) rfl rfl (by decide) (by decide)) (byts_block (l := headText) (h.own.in0 (k := 1) rfl) (by unfold maxLen; simp <;> omega)) (hk.mono h.own.le0) (hf1.mono h.own.le0) (by simp <;> omega)))) h.env rfl fun a w h => ?_
    refine stepN (o_storeA (kk := 2) (vs := (sha headText).map B) (cs' := (sha headText).map B) (fun w => by rw [Tryd.sizeOf25, (show ((sha headText).map B).length = 32 by rw [List.length_map, (sha_length _)])]) h rfl rfl rfl (oneB _) rfl (by rw [(show ((sha headText).map B).length = 32 by rw [List.length_map, (sha_length _)])]; simp) (by rw [(show ((sha headText).map B).length = 32 by rw [List.length_map, (sha_length _)])]; simp [List.drop_of_length_le])) h.env fun a w h => ?_
    refine stepEnd ?_
    refine bl_n ?_
    refine th_n ?_
    refine c_seq ?_
    refine c_seq ?_
    refine c_seq ?_
    refine c_region ?_
    refine stepP (p_fieldAddr (r := 0) Tryd.underlying46 rfl Tryd.sizeOf4 rfl rfl h rfl) h rfl fun a w h => ?_
    refine stepP (p_load Tryd.isAgg4 h rfl (Cel.stay ro1 rfl)) h rfl fun a w h => ?_
    refine stepP (p_not h rfl) h rfl fun a w h => ?_
    refine stepEnd ?_
    refine th_n ?_
    refine c_condB rfl h (fun hc7 => ?_) (fun hc7 => ?_)
    · skip
      exact absurd hc7 (by rw [hc4]; decide)
    · skip
      refine c_skip ?_
      refine th_n ?_
      refine c_seq ?_
      refine c_region ?_
      refine stepP (p_fieldAddr (r := 35) Tryd.underlying46 rfl Tryd.sizeOf44 rfl rfl h rfl) h rfl fun a w h => ?_
      refine stepP (p_load Tryd.isAgg44 h rfl (Cel.stay ro1 ht.kidsAt)) h rfl fun a w h => ?_
      refine stepP (p_lenS Tryd.underlying44 h rfl ht.kids.sl) h rfl fun a w h => ?_
      refine stepP (p_sub h rfl rfl (wi (by omega))) h rfl fun a w h => ?_
      refine stepP (p_assign h rfl) h rfl fun a w h => ?_
      refine stepEnd ?_
      replace h := St.pick (xs := [(b3, row 25 ((sha headText).map B)), (b2, row 25 (List.replicate 32 (.int .u8 0)))]) h [2, 3] (by decide) rfl
      rw [← own_headL hc4, ← lab_full only t] at h
      refine th_n ?_
      refine c_block ?_
      refine c_loop (fun m a w => ∃ (j : Nat), m = j * 1 ∧ j ≤ t.kids.length ∧ St S hf2 ([(b3, row 25 ((labP only t j).map B))] ++ ([(b2, row 25 (List.replicate 32 (.int .u8 0)))])) 62 [(1, .func (.func fid) #[] caps.toArray), (2, ptr b1 0), (4, ptr b2 0), (5, ptr b3 0), (6, .int .i64 ((j : Int) - 1))] a w) (N := t.kids.length * 1) ⟨t.kids.length, rfl, Nat.le_refl _, h.to rfl ⟨rfl, rfl, rfl, rfl, (look_int rfl (by first | rfl | omega)), trivial⟩⟩ ?_
      clear h
      rintro m a w ⟨j, rfl, hj, h⟩
      refine c_seq ?_
      refine c_seq ?_
      refine c_region ?_
      refine stepP (p_move h rfl) h rfl fun a w h => ?_
      refine stepP (p_geq h rfl rfl) h rfl fun a w h => ?_
      refine stepEnd ?_
      refine th_n ?_
      refine c_cond rfl h (fun hc8 => ?_) (fun hc8 => ?_)
      · skip
        refine c_skip ?_
        refine th_n ?_
        refine c_seq ?_
        refine c_block ?_
        refine c_seq ?_
        have hj0 : 0 < j := by omega
        have hj1 : j - 1 < t.kids.length := by omega
        have hkk := ht.kids.ok hj1
        have hkl := hkk.label
        have hkb := hbk _ (List.mem_of_getElem? (kidAt_get hj1))
        simp only [KidP.at_label] at hkl
        refine c_region ?_
        refine stepP (p_move h rfl) h rfl fun a w h => ?_
        refine stepP (p_fieldAddr (r := 35) Tryd.underlying46 rfl Tryd.sizeOf44 rfl rfl h rfl) h rfl fun a w h => ?_
        refine stepP (p_load Tryd.isAgg44 h rfl (Cel.stay ro1 ht.kidsAt)) h rfl fun a w h => ?_
        refine stepP (p_move h rfl) h rfl fun a w h => ?_
        have hi9 : (j - 1) < t.kids.length := by omega
        refine stepP (p_idxS (s := 68) (j := (j - 1)) Tryd.underlying44 Tryd.sizeOf29 h rfl rfl ht.kids.sl (by omega) hi9) h rfl fun a w h => ?_
        refine stepP (p_loadA (vs := ((kidAt t.kids (j - 1)).at (vkAt x.kvs (j - 1))).cells) Tryd.isAgg29 (fun w => by rw [Tryd.sizeOf29, KidV.Ok.length (ht.kids.ok hi9)]) h rfl (ht.kids.cels hi9)) h rfl fun a w h => ?_
        refine stepV (Enter.opT (o_callDyn (c1 := []) (c2 := caps) hcall h rfl rfl) (call_val0 h.own (hon (Hp.le_trans hle h.own.le0) h.own.lend0 (hkk.mono h.own.le0)))) h.env rfl fun a w h => ?_
        refine stepEnd ?_
        refine th_n ?_
        refine c_condB rfl h (fun hc10 => ?_) (fun hc10 => ?_)
        · skip
          refine any_begin (N := 10) (by kernel_rfl) rfl h ?_
          clear h; intro w h
          refine any_take (i := 0) rfl (by kernel_rfl) (fun _ _ _ _ h => h) h rfl (fun w h => p_fieldAddr (r := 35) Tryd.underlying46 rfl Tryd.sizeOf44 rfl rfl h rfl) fun a h => ?_
          refine any_take (i := 1) rfl (by kernel_rfl) (fun _ _ _ _ h => h) h rfl (fun w h => p_load Tryd.isAgg44 h rfl (Cel.stay ro1 ht.kidsAt)) fun a h => ?_
          refine any_take (i := 2) rfl (by kernel_rfl) (fun _ _ _ _ h => h) h rfl (fun w h => p_move h rfl) fun a h => ?_
          have hi11 : (j - 1) < t.kids.length := by omega
          refine any_take (i := 3) rfl (by kernel_rfl) (fun _ _ _ _ h => h) h rfl (fun w h => p_idxS (s := 68) (j := (j - 1)) Tryd.underlying44 Tryd.sizeOf29 h rfl rfl ht.kids.sl (by omega) hi11) fun a h => ?_
          refine any_take (i := 4) rfl (by kernel_rfl) (fun _ _ _ _ h => h) h rfl (fun w h => p_loadA (vs := ((kidAt t.kids (j - 1)).at (vkAt x.kvs (j - 1))).cells) Tryd.isAgg29 (fun w => by rw [Tryd.sizeOf29, KidV.Ok.length (ht.kids.ok hi11)]) h rfl (ht.kids.cels hi11)) fun a h => ?_
          refine any_one (i := 5) (by kernel_rfl) ?_
          refine any_V rfl h.env rfl (Pure.opT (p_loadA (vs := (labP only t j).map B) Tryd.isAgg25 (fun w => by rw [Tryd.sizeOf25, List.length_map, (labP_length _ _ _)]) h rfl (Cels.all (k := 0) rfl)) h.own) fun a w h => ?_
          refine any_one (i := 6) (by kernel_rfl) ?_
          refine any_O rfl h.env rfl (Enter.opT (o_call Tryd.call12 h rfl) (call_out0 h.own (c_NPairText h.own.lend0 (htg.mono h.own.le0) ((ht.kids.ok hi11).mono h.own.le0) (labP_length _ _ _) (by omega)))) ?_
          rintro b12 _ a w h
          refine any_one (i := 7) (by kernel_rfl) ?_
          refine any_O rfl h.env rfl (o_buildSlice (vs := [slc b12 0 ((pairText (kidAt t.kids (j - 1)).lvl ((kidAt t.kids (j - 1)).key) (kidAt t.kids (j - 1)).cnt (kidAt t.kids (j - 1)).label (labP only t j)).length) ((pairText (kidAt t.kids (j - 1)).lvl ((kidAt t.kids (j - 1)).key) (kidAt t.kids (j - 1)).cnt (kidAt t.kids (j - 1)).label (labP only t j)).length)]) Tryd.underlying39 Tryd.sizeOf22 Tryd.zeroValue22 h rfl rfl (by simp [Value.cells]) rfl rfl rfl) ?_
          rintro b13 _ a w h
          refine any_one (i := 8) (by kernel_rfl) ?_
          refine any_V rfl h.env rfl (Enter.opT (o_call Tryd.call44 h rfl) (call_val0 h.own (c_dOf1 h.own.lend0 (Sl.row (s := 1) (o := 0) (cap := 1) (n := 1) (cs := [slc b12 0 ((pairText (kidAt t.kids (j - 1)).lvl ((kidAt t.kids (j - 1)).key) (kidAt t.kids (j - 1)).cnt (kidAt t.kids (j - 1)).label (labP only t j)).length) ((pairText (kidAt t.kids (j - 1)).lvl ((kidAt t.kids (j - 1)).key) (kidAt t.kids (j - 1)).cnt (kidAt t.kids (j - 1)).label (labP only t j)).length)]) (h.own.in0 (k := 0) rfl) rfl rfl (by decide) (by decide)) (byts_block (l := pairText (kidAt t.kids (j - 1)).lvl ((kidAt t.kids (j - 1)).key) (kidAt t.kids (j - 1)).cnt (kidAt t.kids (j - 1)).label (labP only t j)) (h.own.in0 (k := 1) rfl) (by unfold maxLen; simp <;> omega)) (hk.mono h.own.le0) (hf1.mono h.own.le0) (by simp <;> omega)))) fun a w h => ?_
          refine any_one (i := 9) (by kernel_rfl) ?_
          refine any_N rfl h.env (o_storeA (kk := 2) (vs := (sha (pairText (kidAt t.kids (j - 1)).lvl ((kidAt t.kids (j - 1)).key) (kidAt t.kids (j - 1)).cnt (kidAt t.kids (j - 1)).label (labP only t j))).map B) (cs' := (sha (pairText (kidAt t.kids (j - 1)).lvl ((kidAt t.kids (j - 1)).key) (kidAt t.kids (j - 1)).cnt (kidAt t.kids (j - 1)).label (labP only t j))).map B) (fun w => by rw [Tryd.sizeOf25, (show ((sha (pairText (kidAt t.kids (j - 1)).lvl ((kidAt t.kids (j - 1)).key) (kidAt t.kids (j - 1)).cnt (kidAt t.kids (j - 1)).label (labP only t j))).map B).length = 32 by rw [List.length_map, (sha_length _)])]) h rfl rfl rfl (oneB _) rfl (by rw [(show ((sha (pairText (kidAt t.kids (j - 1)).lvl ((kidAt t.kids (j - 1)).key) (kidAt t.kids (j - 1)).cnt (kidAt t.kids (j - 1)).label (labP only t j))).map B).length = 32 by rw [List.length_map, (sha_length _)]), List.length_map, (labP_length _ _ _)]; decide) (by rw [(show ((sha (pairText (kidAt t.kids (j - 1)).lvl ((kidAt t.kids (j - 1)).key) (kidAt t.kids (j - 1)).cnt (kidAt t.kids (j - 1)).label (labP only t j))).map B).length = 32 by rw [List.length_map, (sha_length _)]), List.drop_of_length_le (by rw [List.length_map, (labP_length _ _ _)]; decide)]; simp)) fun a w h => ?_
          refine any_end (by kernel_rfl) ?_
          refine bl_n ?_
          refine th_n ?_
          replace h := St.pick (xs := [(b3, row 25 ((sha (pairText (kidAt t.kids (j - 1)).lvl ((kidAt t.kids (j - 1)).key) (kidAt t.kids (j - 1)).cnt (kidAt t.kids (j - 1)).label (labP only t j))).map B)), (b2, row 25 (List.replicate 32 (.int .u8 0)))]) h [2, 3] (by decide) rfl
          rw [show sha (pairText (kidAt t.kids (j - 1)).lvl (kidAt t.kids (j - 1)).key (kidAt t.kids (j - 1)).cnt (kidAt t.kids (j - 1)).label (labP only t j)) = labP only t (j - 1) from lab_yes hj0 hj hc10] at h
          refine c_region ?_
          refine stepP (p_move h rfl) h rfl fun a w h => ?_
          refine stepP (p_sub (r := (((j - 1 : Nat) : Int) - 1)) h rfl rfl ((wi (by omega)).trans (by omega))) h rfl fun a w h => ?_
          refine stepP (p_assign h rfl) h rfl fun a w h => ?_
          refine stepEnd ?_
          exact th_n ⟨_, by omega, j - 1, rfl, by omega, h.to rfl ⟨rfl, rfl, rfl, rfl, (look_int rfl (by first | rfl | omega)), trivial⟩⟩
        · skip
          refine c_skip ?_
          refine bl_n ?_
          refine th_n ?_
          rw [lab_no hj0 hj hc10] at h
          refine c_region ?_
          refine stepP (p_move h rfl) h rfl fun a w h => ?_
          refine stepP (p_sub (r := (((j - 1 : Nat) : Int) - 1)) h rfl rfl ((wi (by omega)).trans (by omega))) h rfl fun a w h => ?_
          refine stepP (p_assign h rfl) h rfl fun a w h => ?_
          refine stepEnd ?_
          exact th_n ⟨_, by omega, j - 1, rfl, by omega, h.to rfl ⟨rfl, rfl, rfl, rfl, (look_int rfl (by first | rfl | omega)), trivial⟩⟩
      · skip
        refine c_exit (th_e (th_e (exit_at ?_)))
        refine th_n ?_
        refine c_exit (bl_e rfl (th_e (exit_at ?_)))
        refine th_n ?_
        refine c_seq ?_
        obtain rfl : j = 0 := by omega
        refine c_region ?_
        refine stepP (p_loadA (vs := (labP only t 0).map B) Tryd.isAgg25 (fun w => by rw [Tryd.sizeOf25, List.length_map, (labP_length _ _ _)]) h rfl (Cels.all (k := 0) rfl)) h rfl fun a w h => ?_
        refine stepN (o_storeA (kk := 1) (vs := (labP only t 0).map B) (cs' := (labP only t 0).map B) (fun w => by rw [Tryd.sizeOf25, (show ((labP only t 0).map B).length = 32 by rw [List.length_map, (labP_length _ _ _)])]) h rfl rfl rfl (oneB _) rfl (by rw [(show ((labP only t 0).map B).length = 32 by rw [List.length_map, (labP_length _ _ _)])]; simp) (by rw [(show ((labP only t 0).map B).length = 32 by rw [List.length_map, (labP_length _ _ _)])]; simp [List.drop_of_length_le])) h.env fun a w h => ?_
        refine stepEnd ?_
        refine th_n ?_
        refine c_ret ?_
        exact finC (.inl rfl) h (vs := (labP only t 0).map B) rfl Tryd.isAgg25 (fun w => by rw [Tryd.sizeOf25, List.length_map, (labP_length _ _ _)]) rfl (Cels.all (k := 1) rfl) ⟨rfl, h.own.none.weaken hle⟩
  · skip
    refine c_skip ?_
    refine th_n ?_
    refine c_seq ?_
    refine c_region ?_
    refine stepP (p_fieldAddr (r := 35) Tryd.underlying46 rfl Tryd.sizeOf44 rfl rfl h rfl) h rfl fun a w h => ?_
    refine stepP (p_load Tryd.isAgg44 h rfl (Cel.stay ro1 ht.kidsAt)) h rfl fun a w h => ?_
    refine stepP (p_lenS Tryd.underlying44 h rfl ht.kids.sl) h rfl fun a w h => ?_
    refine stepP (p_gtr h rfl rfl) h rfl fun a w h => ?_
    refine stepP (p_assign h rfl) h rfl fun a w h => ?_
    refine stepEnd ?_
    refine th_n ?_
    refine c_cond rfl h (fun hc14 => ?_) (fun hc14 => ?_)
    · skip
      refine c_exit (th_e (bl_e rfl (th_e (exit_at ?_))))
      refine th_n ?_
      refine c_seq ?_
      refine c_seq ?_
      refine c_seq ?_
      refine c_region ?_
      refine stepP (p_fieldAddr (r := 0) Tryd.underlying46 rfl Tryd.sizeOf4 rfl rfl h rfl) h rfl fun a w h => ?_
      refine stepP (p_load Tryd.isAgg4 h rfl (Cel.stay ro1 rfl)) h rfl fun a w h => ?_
      refine stepP (p_not h rfl) h rfl fun a w h => ?_
      refine stepEnd ?_
      refine th_n ?_
      refine c_condB rfl h (fun hc15 => ?_) (fun hc15 => ?_)
      · skip
        have hhd : t.head = false := by simpa using hc4
        refine c_region ?_
        refine stepP (p_fieldAddr (r := 1) Tryd.underlying46 rfl Tryd.sizeOf22 rfl rfl h rfl) h rfl fun a w h => ?_
        refine stepP (p_load Tryd.isAgg22 h rfl (Cel.stay ro1 rfl)) h rfl fun a w h => ?_
        refine stepP (p_fieldAddr (r := 2) Tryd.underlying46 rfl Tryd.sizeOf27 rfl rfl h rfl) h rfl fun a w h => ?_
        refine stepP (p_fieldAddr (r := 2) Tryd.underlying27 rfl Tryd.sizeOf25 rfl rfl h rfl) h rfl fun a w h => ?_
        refine stepP (p_loadA (vs := t.sum.map B) Tryd.isAgg25 (fun w => by rw [Tryd.sizeOf25, List.length_map, show t.sum.length = 32 from ht.sum]) h rfl (Cels.stayPart ro1 (towSumAt ht))) h rfl fun a w h => ?_
        refine stepO (Enter.opT (o_call Tryd.call11 h rfl) (call_out0 h.own (c_NLeafText h.own.lend0 (htg.mono h.own.le0) (ht.key.mono h.own.le0) ht.sum (by omega)))) h.env rfl ?_
        rintro b16 _ a w h
        refine stepO (o_buildSlice (vs := [slc b16 0 ((leafText t.key t.sum).length) ((leafText t.key t.sum).length)]) Tryd.underlying39 Tryd.sizeOf22 Tryd.zeroValue22 h rfl rfl (by simp [Value.cells]) rfl rfl rfl) h.env rfl ?_
        rintro b17 _ a w h
        refine stepV (Enter.opT (o_call Tryd.call44 h rfl) (call_val0 h.own (c_dOf1 h.own.lend0 (Sl.row (s := 1) (o := 0) (cap := 1) (n := 1) (cs := [slc b16 0 ((leafText t.key t.sum).length) ((leafText t.key t.sum).length)]) (h.own.in0 (k := 0) rfl) rfl rfl (by decide) (by decide)) (byts_block (l := leafText t.key t.sum) (h.own.in0 (k := 1) rfl) (by unfold maxLen; simp <;> omega)) (hk.mono h.own.le0) (hf1.mono h.own.le0) (by simp <;> omega)))) h.env rfl fun a w h => ?_
        refine stepN (o_storeA (kk := 2) (vs := (sha (leafText t.key t.sum)).map B) (cs' := (sha (leafText t.key t.sum)).map B) (fun w => by rw [Tryd.sizeOf25, (show ((sha (leafText t.key t.sum)).map B).length = 32 by rw [List.length_map, (sha_length _)])]) h rfl rfl rfl (oneB _) rfl (by rw [(show ((sha (leafText t.key t.sum)).map B).length = 32 by rw [List.length_map, (sha_length _)])]; simp) (by rw [(show ((sha (leafText t.key t.sum)).map B).length = 32 by rw [List.length_map, (sha_length _)])]; simp [List.drop_of_length_le])) h.env fun a w h => ?_
        refine stepEnd ?_
        refine th_n ?_
        refine c_seq ?_
        refine c_region ?_
        refine stepP (p_fieldAddr (r := 35) Tryd.underlying46 rfl Tryd.sizeOf44 rfl rfl h rfl) h rfl fun a w h => ?_
        refine stepP (p_load Tryd.isAgg44 h rfl (Cel.stay ro1 ht.kidsAt)) h rfl fun a w h => ?_
        refine stepP (p_lenS Tryd.underlying44 h rfl ht.kids.sl) h rfl fun a w h => ?_
        refine stepP (p_sub h rfl rfl (wi (by omega))) h rfl fun a w h => ?_
        refine stepP (p_assign h rfl) h rfl fun a w h => ?_
        refine stepEnd ?_
        replace h := St.pick (xs := [(b3, row 25 ((sha (leafText t.key t.sum)).map B)), (b2, row 25 (List.replicate 32 (.int .u8 0)))]) h [2, 3] (by decide) rfl
        rw [← own_tailL hhd, ← lab_full only t] at h
        refine th_n ?_
        refine c_block ?_
        refine c_loop (fun m a w => ∃ (j : Nat), m = j * 1 ∧ j ≤ t.kids.length ∧ St S hf2 ([(b3, row 25 ((labP only t j).map B))] ++ ([(b2, row 25 (List.replicate 32 (.int .u8 0)))])) 62 [(1, .func (.func fid) #[] caps.toArray), (2, ptr b1 0), (4, ptr b2 0), (5, ptr b3 0), (6, .int .i64 ((j : Int) - 1))] a w) (N := t.kids.length * 1) ⟨t.kids.length, rfl, Nat.le_refl _, h.to rfl ⟨rfl, rfl, rfl, rfl, (look_int rfl (by first | rfl | omega)), trivial⟩⟩ ?_
        clear h
        rintro m a w ⟨j, rfl, hj, h⟩
        refine c_seq ?_
        refine c_seq ?_
        refine c_region ?_
        refine stepP (p_move h rfl) h rfl fun a w h => ?_
        refine stepP (p_geq h rfl rfl) h rfl fun a w h => ?_
        refine stepEnd ?_
        refine th_n ?_
        refine c_cond rfl h (fun hc18 => ?_) (fun hc18 => ?_)
        · skip
          refine c_skip ?_
          refine th_n ?_
          refine c_seq ?_
          refine c_block ?_
          refine c_seq ?_
          have hj0 : 0 < j := by omega
          have hj1 : j - 1 < t.kids.length := by omega
          have hkk := ht.kids.ok hj1
          have hkl := hkk.label
          have hkb := hbk _ (List.mem_of_getElem? (kidAt_get hj1))
          simp only [KidP.at_label] at hkl
          refine c_region ?_
          refine stepP (p_move h rfl) h rfl fun a w h => ?_
          refine stepP (p_fieldAddr (r := 35) Tryd.underlying46 rfl Tryd.sizeOf44 rfl rfl h rfl) h rfl fun a w h => ?_
          refine stepP (p_load Tryd.isAgg44 h rfl (Cel.stay ro1 ht.kidsAt)) h rfl fun a w h => ?_
          refine stepP (p_move h rfl) h rfl fun a w h => ?_
          have hi19 : (j - 1) < t.kids.length := by omega
          refine stepP (p_idxS (s := 68) (j := (j - 1)) Tryd.underlying44 Tryd.sizeOf29 h rfl rfl ht.kids.sl (by omega) hi19) h rfl fun a w h => ?_
          refine stepP (p_loadA (vs := ((kidAt t.kids (j - 1)).at (vkAt x.kvs (j - 1))).cells) Tryd.isAgg29 (fun w => by rw [Tryd.sizeOf29, KidV.Ok.length (ht.kids.ok hi19)]) h rfl (ht.kids.cels hi19)) h rfl fun a w h => ?_
          refine stepV (Enter.opT (o_callDyn (c1 := []) (c2 := caps) hcall h rfl rfl) (call_val0 h.own (hon (Hp.le_trans hle h.own.le0) h.own.lend0 (hkk.mono h.own.le0)))) h.env rfl fun a w h => ?_
          refine stepEnd ?_
          refine th_n ?_
          refine c_condB rfl h (fun hc20 => ?_) (fun hc20 => ?_)
          · skip
            refine any_begin (N := 10) (by kernel_rfl) rfl h ?_
            clear h; intro w h
            refine any_take (i := 0) rfl (by kernel_rfl) (fun _ _ _ _ h => h) h rfl (fun w h => p_fieldAddr (r := 35) Tryd.underlying46 rfl Tryd.sizeOf44 rfl rfl h rfl) fun a h => ?_
            refine any_take (i := 1) rfl (by kernel_rfl) (fun _ _ _ _ h => h) h rfl (fun w h => p_load Tryd.isAgg44 h rfl (Cel.stay ro1 ht.kidsAt)) fun a h => ?_
            refine any_take (i := 2) rfl (by kernel_rfl) (fun _ _ _ _ h => h) h rfl (fun w h => p_move h rfl) fun a h => ?_
            have hi21 : (j - 1) < t.kids.length := by omega
            refine any_take (i := 3) rfl (by kernel_rfl) (fun _ _ _ _ h => h) h rfl (fun w h => p_idxS (s := 68) (j := (j - 1)) Tryd.underlying44 Tryd.sizeOf29 h rfl rfl ht.kids.sl (by omega) hi21) fun a h => ?_
            refine any_take (i := 4) rfl (by kernel_rfl) (fun _ _ _ _ h => h) h rfl (fun w h => p_loadA (vs := ((kidAt t.kids (j - 1)).at (vkAt x.kvs (j - 1))).cells) Tryd.isAgg29 (fun w => by rw [Tryd.sizeOf29, KidV.Ok.length (ht.kids.ok hi21)]) h rfl (ht.kids.cels hi21)) fun a h => ?_
            refine any_one (i := 5) (by kernel_rfl) ?_
            refine any_V rfl h.env rfl (Pure.opT (p_loadA (vs := (labP only t j).map B) Tryd.isAgg25 (fun w => by rw [Tryd.sizeOf25, List.length_map, (labP_length _ _ _)]) h rfl (Cels.all (k := 0) rfl)) h.own) fun a w h => ?_
            refine any_one (i := 6) (by kernel_rfl) ?_
            refine any_O rfl h.env rfl (Enter.opT (o_call Tryd.call12 h rfl) (call_out0 h.own (c_NPairText h.own.lend0 (htg.mono h.own.le0) ((ht.kids.ok hi21).mono h.own.le0) (labP_length _ _ _) (by omega)))) ?_
            rintro b22 _ a w h
            refine any_one (i := 7) (by kernel_rfl) ?_
            refine any_O rfl h.env rfl (o_buildSlice (vs := [slc b22 0 ((pairText (kidAt t.kids (j - 1)).lvl ((kidAt t.kids (j - 1)).key) (kidAt t.kids (j - 1)).cnt (kidAt t.kids (j - 1)).label (labP only t j)).length) ((pairText (kidAt t.kids (j - 1)).lvl ((kidAt t.kids (j - 1)).key) (kidAt t.kids (j - 1)).cnt (kidAt t.kids (j - 1)).label (labP only t j)).length)]) Tryd.underlying39 Tryd.sizeOf22 Tryd.zeroValue22 h rfl rfl (by simp [Value.cells]) rfl rfl rfl) ?_
            rintro b23 _ a w h
            refine any_one (i := 8) (by kernel_rfl) ?_
            refine any_V rfl h.env rfl (Enter.opT (o_call Tryd.call44 h rfl) (call_val0 h.own (c_dOf1 h.own.lend0 (Sl.row (s := 1) (o := 0) (cap := 1) (n := 1) (cs := [slc b22 0 ((pairText (kidAt t.kids (j - 1)).lvl ((kidAt t.kids (j - 1)).key) (kidAt t.kids (j - 1)).cnt (kidAt t.kids (j - 1)).label (labP only t j)).length) ((pairText (kidAt t.kids (j - 1)).lvl ((kidAt t.kids (j - 1)).key) (kidAt t.kids (j - 1)).cnt (kidAt t.kids (j - 1)).label (labP only t j)).length)]) (h.own.in0 (k := 0) rfl) rfl rfl (by decide) (by decide)) (byts_block (l := pairText (kidAt t.kids (j - 1)).lvl ((kidAt t.kids (j - 1)).key) (kidAt t.kids (j - 1)).cnt (kidAt t.kids (j - 1)).label (labP only t j)) (h.own.in0 (k := 1) rfl) (by unfold maxLen; simp <;> omega)) (hk.mono h.own.le0) (hf1.mono h.own.le0) (by simp <;> omega)))) fun a w h => ?_
            refine any_one (i := 9) (by kernel_rfl) ?_
            refine any_N rfl h.env (o_storeA (kk := 2) (vs := (sha (pairText (kidAt t.kids (j - 1)).lvl ((kidAt t.kids (j - 1)).key) (kidAt t.kids (j - 1)).cnt (kidAt t.kids (j - 1)).label (labP only t j))).map B) (cs' := (sha (pairText (kidAt t.kids (j - 1)).lvl ((kidAt t.kids (j - 1)).key) (kidAt t.kids (j - 1)).cnt (kidAt t.kids (j - 1)).label (labP only t j))).map B) (fun w => by rw [Tryd.sizeOf25, (show ((sha (pairText (kidAt t.kids (j - 1)).lvl ((kidAt t.kids (j - 1)).key) (kidAt t.kids (j - 1)).cnt (kidAt t.kids (j - 1)).label (labP only t j))).map B).length = 32 by rw [List.length_map, (sha_length _)])]) h rfl rfl rfl (oneB _) rfl (by rw [(show ((sha (pairText (kidAt t.kids (j - 1)).lvl ((kidAt t.kids (j - 1)).key) (kidAt t.kids (j - 1)).cnt (kidAt t.kids (j - 1)).label (labP only t j))).map B).length = 32 by rw [List.length_map, (sha_length _)]), List.length_map, (labP_length _ _ _)]; decide) (by rw [(show ((sha (pairText (kidAt t.kids (j - 1)).lvl ((kidAt t.kids (j - 1)).key) (kidAt t.kids (j - 1)).cnt (kidAt t.kids (j - 1)).label (labP only t j))).map B).length = 32 by rw [List.length_map, (sha_length _)]), List.drop_of_length_le (by rw [List.length_map, (labP_length _ _ _)]; decide)]; simp)) fun a w h => ?_
            refine any_end (by kernel_rfl) ?_
            refine bl_n ?_
            refine th_n ?_
            replace h := St.pick (xs := [(b3, row 25 ((sha (pairText (kidAt t.kids (j - 1)).lvl ((kidAt t.kids (j - 1)).key) (kidAt t.kids (j - 1)).cnt (kidAt t.kids (j - 1)).label (labP only t j))).map B)), (b2, row 25 (List.replicate 32 (.int .u8 0)))]) h [2, 3] (by decide) rfl
            rw [show sha (pairText (kidAt t.kids (j - 1)).lvl (kidAt t.kids (j - 1)).key (kidAt t.kids (j - 1)).cnt (kidAt t.kids (j - 1)).label (labP only t j)) = labP only t (j - 1) from lab_yes hj0 hj hc20] at h
            refine c_region ?_
            refine stepP (p_move h rfl) h rfl fun a w h => ?_
            refine stepP (p_sub (r := (((j - 1 : Nat) : Int) - 1)) h rfl rfl ((wi (by omega)).trans (by omega))) h rfl fun a w h => ?_
            refine stepP (p_assign h rfl) h rfl fun a w h => ?_
            refine stepEnd ?_
            exact th_n ⟨_, by omega, j - 1, rfl, by omega, h.to rfl ⟨rfl, rfl, rfl, rfl, (look_int rfl (by first | rfl | omega)), trivial⟩⟩
          · skip
            refine c_skip ?_
            refine bl_n ?_
            refine th_n ?_
            rw [lab_no hj0 hj hc20] at h
            refine c_region ?_
            refine stepP (p_move h rfl) h rfl fun a w h => ?_
            refine stepP (p_sub (r := (((j - 1 : Nat) : Int) - 1)) h rfl rfl ((wi (by omega)).trans (by omega))) h rfl fun a w h => ?_
            refine stepP (p_assign h rfl) h rfl fun a w h => ?_
            refine stepEnd ?_
            exact th_n ⟨_, by omega, j - 1, rfl, by omega, h.to rfl ⟨rfl, rfl, rfl, rfl, (look_int rfl (by first | rfl | omega)), trivial⟩⟩
        · skip
          refine c_exit (th_e (th_e (exit_at ?_)))
          refine th_n ?_
          refine c_exit (bl_e rfl (th_e (exit_at ?_)))
          refine th_n ?_
          refine c_seq ?_
          obtain rfl : j = 0 := by omega
          refine c_region ?_
          refine stepP (p_loadA (vs := (labP only t 0).map B) Tryd.isAgg25 (fun w => by rw [Tryd.sizeOf25, List.length_map, (labP_length _ _ _)]) h rfl (Cels.all (k := 0) rfl)) h rfl fun a w h => ?_
          refine stepN (o_storeA (kk := 1) (vs := (labP only t 0).map B) (cs' := (labP only t 0).map B) (fun w => by rw [Tryd.sizeOf25, (show ((labP only t 0).map B).length = 32 by rw [List.length_map, (labP_length _ _ _)])]) h rfl rfl rfl (oneB _) rfl (by rw [(show ((labP only t 0).map B).length = 32 by rw [List.length_map, (labP_length _ _ _)])]; simp) (by rw [(show ((labP only t 0).map B).length = 32 by rw [List.length_map, (labP_length _ _ _)])]; simp [List.drop_of_length_le])) h.env fun a w h => ?_
          refine stepEnd ?_
          refine th_n ?_
          refine c_ret ?_
          exact finC (.inl rfl) h (vs := (labP only t 0).map B) rfl Tryd.isAgg25 (fun w => by rw [Tryd.sizeOf25, List.length_map, (labP_length _ _ _)]) rfl (Cels.all (k := 1) rfl) ⟨rfl, h.own.none.weaken hle⟩
      · skip
        exact absurd hc15 (by rw [hc4]; decide)
    · skip
      refine c_skip ?_
      refine th_n ?_
      refine c_exit (bl_e rfl (th_e (bl_e rfl (th_e (exit_at ?_)))))
      refine th_n ?_
      refine c_seq ?_
      have hhd : t.head = false := by simpa using hc4
      refine c_region ?_
      refine stepP (p_fieldAddr (r := 1) Tryd.underlying46 rfl Tryd.sizeOf22 rfl rfl h rfl) h rfl fun a w h => ?_
      refine stepP (p_load Tryd.isAgg22 h rfl (Cel.stay ro1 rfl)) h rfl fun a w h => ?_
      refine stepP (p_fieldAddr (r := 2) Tryd.underlying46 rfl Tryd.sizeOf27 rfl rfl h rfl) h rfl fun a w h => ?_
      refine stepP (p_fieldAddr (r := 2) Tryd.underlying27 rfl Tryd.sizeOf25 rfl rfl h rfl) h rfl fun a w h => ?_
      refine stepP (p_loadA (vs := t.sum.map B) Tryd.isAgg25 (fun w => by rw [Tryd.sizeOf25, List.length_map, show t.sum.length = 32 from ht.sum]) h rfl (Cels.stayPart ro1 (towSumAt ht))) h rfl fun a w h => ?_
      refine stepO (Enter.opT (o_call Tryd.call11 h rfl) (call_out0 h.own (c_NLeafText h.own.lend0 (htg.mono h.own.le0) (ht.key.mono h.own.le0) ht.sum (by omega)))) h.env rfl ?_
      rintro b24 _ a w h
      refine stepO (o_buildSlice (vs := [slc b24 0 ((leafText t.key t.sum).length) ((leafText t.key t.sum).length)]) Tryd.underlying39 Tryd.sizeOf22 Tryd.zeroValue22 h rfl rfl (by simp [Value.cells]) rfl rfl rfl) h.env rfl ?_
      rintro b25 _ a w h
      refine stepV (Enter.opT (o_call Tryd.call44 h rfl) (call_val0 h.own (c_dOf1 h.own.lend0 (Sl.row (s := 1) (o := 0) (cap := 1) (n := 1) (cs := [slc b24 0 ((leafText t.key t.sum).length) ((leafText t.key t.sum).length)]) (h.own.in0 (k := 0) rfl) rfl rfl (by decide) (by decide)) (byts_block (l := leafText t.key t.sum) (h.own.in0 (k := 1) rfl) (by unfold maxLen; simp <;> omega)) (hk.mono h.own.le0) (hf1.mono h.own.le0) (by simp <;> omega)))) h.env rfl fun a w h => ?_
      refine stepN (o_storeA (kk := 2) (vs := (sha (leafText t.key t.sum)).map B) (cs' := (sha (leafText t.key t.sum)).map B) (fun w => by rw [Tryd.sizeOf25, (show ((sha (leafText t.key t.sum)).map B).length = 32 by rw [List.length_map, (sha_length _)])]) h rfl rfl rfl (oneB _) rfl (by rw [(show ((sha (leafText t.key t.sum)).map B).length = 32 by rw [List.length_map, (sha_length _)])]; simp) (by rw [(show ((sha (leafText t.key t.sum)).map B).length = 32 by rw [List.length_map, (sha_length _)])]; simp [List.drop_of_length_le])) h.env fun a w h => ?_
      refine stepEnd ?_
      replace h := St.pick (xs := [(b3, row 25 ((sha (leafText t.key t.sum)).map B)), (b2, row 25 (List.replicate 32 (.int .u8 0)))]) h [2, 3] (by decide) rfl
      rw [← own_tailL hhd, ← lab_zero only hc14] at h
      refine th_n ?_
      refine c_exit (exit_at ?_)
      refine th_n ?_
      refine c_seq ?_
      refine c_region ?_
      refine stepP (p_loadA (vs := (labP only t 0).map B) Tryd.isAgg25 (fun w => by rw [Tryd.sizeOf25, List.length_map, (labP_length _ _ _)]) h rfl (Cels.all (k := 0) rfl)) h rfl fun a w h => ?_
      refine stepN (o_storeA (kk := 1) (vs := (labP only t 0).map B) (cs' := (labP only t 0).map B) (fun w => by rw [Tryd.sizeOf25, (show ((labP only t 0).map B).length = 32 by rw [List.length_map, (labP_length _ _ _)])]) h rfl rfl rfl (oneB _) rfl (by rw [(show ((labP only t 0).map B).length = 32 by rw [List.length_map, (labP_length _ _ _)])]; simp) (by rw [(show ((labP only t 0).map B).length = 32 by rw [List.length_map, (labP_length _ _ _)])]; simp [List.drop_of_length_le])) h.env fun a w h => ?_
      refine stepEnd ?_
      refine th_n ?_
      refine c_ret ?_
      exact finC (.inl rfl) h (vs := (labP only t 0).map B) rfl Tryd.isAgg25 (fun w => by rw [Tryd.sizeOf25, List.length_map, (labP_length _ _ _)]) rfl (Cels.all (k := 1) rfl) ⟨rfl, h.own.none.weaken hle⟩

theorem c_own1 {S : World} {hf : Hp} {w : World} (ho : Owns S hf [] w) {p : KidP} {u : Value} (hkk : (p.at u).Ok hf p.key) :
    Calls Tryd.prog 59 ([(p.at u).val] ++ []).toArray w (RetV S hf [] (.bool (false))) := by
  refine enter (n := 3) (E := [(0, _)]) Tryd.func59 rfl Tryd.ntmps59 rfl rfl ho fun a h => ?_
  refine c_seq ?_
  refine c_region ?_
  refine stepO (o_box (l := (p.at u).cells) h rfl rfl) h.env rfl ?_
  rintro b1 _ a w h
  refine stepP (p_assign h rfl) h rfl fun a w h => ?_
  refine stepEnd ?_
  obtain ⟨hf2, hlef2, hinf2, hbkf2, h⟩ := h.freeze
  replace hkk := hkk.mono hlef2
  have hle := hlef2
  have ro3 : hf2 b1 = some (row 29 ((p.at u).cells)) := hinf2 _ _ (List.mem_of_getElem? (i := 0) rfl)
  refine th_n ?_
  refine c_seq ?_
  refine c_region ?_
  refine stepP (p_assign h rfl) h rfl fun a w h => ?_
  refine stepEnd ?_
  refine th_n ?_
  refine c_ret ?_
  exact fin1 (.inl rfl) h rfl rfl ⟨rfl, h.own.weaken hle⟩

theorem c_label1 {S : World} {hf : Hp} {w : World} (ho : Owns S hf [] w) {p : KidP} {u : Value} (hkk : (p.at u).Ok hf p.key) :
    Calls Tryd.prog 61 ([(p.at u).val] ++ []).toArray w (RetV S hf [] (.bool (true))) := by
  refine enter (n := 3) (E := [(0, _)]) Tryd.func61 rfl Tryd.ntmps61 rfl rfl ho fun a h => ?_
  refine c_seq ?_
  refine c_region ?_
  refine stepO (o_box (l := (p.at u).cells) h rfl rfl) h.env rfl ?_
  rintro b1 _ a w h
  refine stepP (p_assign h rfl) h rfl fun a w h => ?_
  refine stepEnd ?_
  obtain ⟨hf2, hlef2, hinf2, hbkf2, h⟩ := h.freeze
  replace hkk := hkk.mono hlef2
  have hle := hlef2
  have ro3 : hf2 b1 = some (row 29 ((p.at u).cells)) := hinf2 _ _ (List.mem_of_getElem? (i := 0) rfl)
  refine th_n ?_
  refine c_seq ?_
  refine c_region ?_
  refine stepP (p_assign h rfl) h rfl fun a w h => ?_
  refine stepEnd ?_
  refine th_n ?_
  refine c_ret ?_
  exact fin1 (.inl rfl) h rfl rfl ⟨rfl, h.own.weaken hle⟩

theorem c_below1 {S : World} {hf : Hp} {w : World} (ho : Owns S hf [] w) {p : KidP} {u : Value} (hkk : (p.at u).Ok hf p.key) {b : Nat} {lv : Int} (hm : hf b = some (row 3 [.int .i64 lv])) :
    Calls Tryd.prog 60 ([(p.at u).val] ++ [ptr b 0]).toArray w (RetV S hf [] (.bool (decide (p.lvl < lv)))) := by
  refine enter (n := 8) (E := [(0, _), (1, _)]) Tryd.func60 rfl Tryd.ntmps60 rfl rfl ho fun a h => ?_
  refine c_seq ?_
  refine c_region ?_
  refine stepO (o_box (l := (p.at u).cells) h rfl rfl) h.env rfl ?_
  rintro b1 _ a w h
  refine stepP (p_assign h rfl) h rfl fun a w h => ?_
  refine stepEnd ?_
  obtain ⟨hf2, hlef2, hinf2, hbkf2, h⟩ := h.freeze
  replace hkk := hkk.mono hlef2
  have hle := hlef2
  have ro3 : hf2 b1 = some (row 29 ((p.at u).cells)) := hinf2 _ _ (List.mem_of_getElem? (i := 0) rfl)
  replace hm := hlef2 _ _ hm
  refine th_n ?_
  refine c_seq ?_
  refine c_region ?_
  refine stepP (p_fieldAddr (r := 0) Tryd.underlying29 rfl Tryd.sizeOf3 rfl rfl h rfl) h rfl fun a w h => ?_
  refine stepP (p_load (v := .int .i64 p.lvl) Tryd.isAgg3 h rfl (Cel.stay ro3 rfl)) h rfl fun a w h => ?_
  refine stepP (p_load (v := .int .i64 lv) Tryd.isAgg3 h rfl (Cel.stay hm rfl)) h rfl fun a w h => ?_
  refine stepP (p_lss h rfl rfl) h rfl fun a w h => ?_
  refine stepP (p_assign h rfl) h rfl fun a w h => ?_
  refine stepEnd ?_
  refine th_n ?_
  refine c_ret ?_
  exact fin1 (.inl rfl) h rfl rfl ⟨rfl, h.own.weaken hle⟩


theorem c_nOwn {S : World} {hf : Hp} {w : World} (ho : Owns S hf [] w) {t : TowP} {x : TowV} (ht : TowOk hf t x) (hb : t.key.length ≤ 140737488351232) (hbk : ∀ p ∈ t.kids, p.key.length ≤ 140737488351232) (htg : TagsAt 0 hf) (hk : RoundsAt 3 hf) (hf1 : FirstAt 1 hf) :
    Calls Tryd.prog 29 [t.val x].toArray w (RetV S hf [] (sumV (ownL t))) := by
  refine enter (n := 5) (E := [(0, _)]) Tryd.func29 rfl Tryd.ntmps29 rfl rfl ho fun a h => ?_
  refine c_seq ?_
  refine c_region ?_
  refine stepO (o_box (l := t.cells x) h rfl rfl) h.env rfl ?_
  rintro b1 _ a w h
  refine stepO (o_alloc (l := List.replicate 32 (.int .u8 0)) Tryd.zeroValue25 rfl h) h.env rfl ?_
  rintro b2 _ a w h
  refine stepEnd ?_
  obtain ⟨hf2, hle, hin1, hbk1, h⟩ := St.freezeR (L1 := [(b2, row 25 (List.replicate 32 (.int .u8 0)))]) (L2 := [(b1, row 46 (t.cells x))]) h
  replace ht := ht.mono hle
  replace htg := htg.mono hle
  replace hk := hk.mono hle
  replace hf1 := hf1.mono hle
  have ro1 : hf2 b1 = some (row 46 (t.cells x)) := hin1 _ _ (by simp)
  refine th_n ?_
  refine c_seq ?_
  refine c_region ?_
  refine stepP (p_loadA (vs := t.cells x) Tryd.isAgg46 (fun w => by rw [Tryd.sizeOf46, ht.length]) h rfl (Cels.stay ro1)) h rfl fun a w h => ?_
  refine stepV (Enter.opT (o_call Tryd.call58 h rfl) (call_val0 h.own (c_nlabel (only := (fun _ => false)) (caps := []) h.own.lend0 (ht.mono h.own.le0) hb hbk (htg.mono h.own.le0) (hk.mono h.own.le0) (hf1.mono h.own.le0) Tryd.call59 (fun hle2 ho2 hk2 => c_own1 ho2 hk2)))) h.env rfl fun a w h => ?_
  refine stepN (o_storeA (kk := 0) (vs := (labP (fun _ => false) t 0).map B) (cs' := (labP (fun _ => false) t 0).map B) (fun w => by rw [Tryd.sizeOf25, (show ((labP (fun _ => false) t 0).map B).length = 32 by rw [List.length_map, (labP_length _ _ _)])]) h rfl rfl rfl (oneB _) rfl (by rw [(show ((labP (fun _ => false) t 0).map B).length = 32 by rw [List.length_map, (labP_length _ _ _)])]; simp) (by rw [(show ((labP (fun _ => false) t 0).map B).length = 32 by rw [List.length_map, (labP_length _ _ _)])]; simp [List.drop_of_length_le])) h.env fun a w h => ?_
  refine stepEnd ?_
  refine th_n ?_
  refine c_ret ?_
  rw [lab_false] at h
  exact finC (.inl rfl) h (vs := (ownL t).map B) rfl Tryd.isAgg25 (fun w => by rw [Tryd.sizeOf25, List.length_map, (ownL_length _)]) rfl (Cels.all (k := 0) rfl) ⟨rfl, h.own.none.weaken hle⟩

theorem c_nLabel {S : World} {hf : Hp} {w : World} (ho : Owns S hf [] w) {t : TowP} {x : TowV} (ht : TowOk hf t x) (hb : t.key.length ≤ 140737488351232) (hbk : ∀ p ∈ t.kids, p.key.length ≤ 140737488351232) (htg : TagsAt 0 hf) (hk : RoundsAt 3 hf) (hf1 : FirstAt 1 hf) :
    Calls Tryd.prog 33 [t.val x].toArray w (RetV S hf [] (sumV (labP (fun _ => true) t 0))) := by
  refine enter (n := 5) (E := [(0, _)]) Tryd.func33 rfl Tryd.ntmps33 rfl rfl ho fun a h => ?_
  refine c_seq ?_
  refine c_region ?_
  refine stepO (o_box (l := t.cells x) h rfl rfl) h.env rfl ?_
  rintro b1 _ a w h
  refine stepO (o_alloc (l := List.replicate 32 (.int .u8 0)) Tryd.zeroValue25 rfl h) h.env rfl ?_
  rintro b2 _ a w h
  refine stepEnd ?_
  obtain ⟨hf2, hle, hin1, hbk1, h⟩ := St.freezeR (L1 := [(b2, row 25 (List.replicate 32 (.int .u8 0)))]) (L2 := [(b1, row 46 (t.cells x))]) h
  replace ht := ht.mono hle
  replace htg := htg.mono hle
  replace hk := hk.mono hle
  replace hf1 := hf1.mono hle
  have ro1 : hf2 b1 = some (row 46 (t.cells x)) := hin1 _ _ (by simp)
  refine th_n ?_
  refine c_seq ?_
  refine c_region ?_
  refine stepP (p_loadA (vs := t.cells x) Tryd.isAgg46 (fun w => by rw [Tryd.sizeOf46, ht.length]) h rfl (Cels.stay ro1)) h rfl fun a w h => ?_
  refine stepV (Enter.opT (o_call Tryd.call58 h rfl) (call_val0 h.own (c_nlabel (only := (fun _ => true)) (caps := []) h.own.lend0 (ht.mono h.own.le0) hb hbk (htg.mono h.own.le0) (hk.mono h.own.le0) (hf1.mono h.own.le0) Tryd.call61 (fun hle2 ho2 hk2 => c_label1 ho2 hk2)))) h.env rfl fun a w h => ?_
  refine stepN (o_storeA (kk := 0) (vs := (labP (fun _ => true) t 0).map B) (cs' := (labP (fun _ => true) t 0).map B) (fun w => by rw [Tryd.sizeOf25, (show ((labP (fun _ => true) t 0).map B).length = 32 by rw [List.length_map, (labP_length _ _ _)])]) h rfl rfl rfl (oneB _) rfl (by rw [(show ((labP (fun _ => true) t 0).map B).length = 32 by rw [List.length_map, (labP_length _ _ _)])]; simp) (by rw [(show ((labP (fun _ => true) t 0).map B).length = 32 by rw [List.length_map, (labP_length _ _ _)])]; simp [List.drop_of_length_le])) h.env fun a w h => ?_
  refine stepEnd ?_
  refine th_n ?_
  refine c_ret ?_
  exact finC (.inl rfl) h (vs := (labP (fun _ => true) t 0).map B) rfl Tryd.isAgg25 (fun w => by rw [Tryd.sizeOf25, List.length_map, (labP_length _ _ _)]) rfl (Cels.all (k := 0) rfl) ⟨rfl, h.own.none.weaken hle⟩

theorem c_nBelow {S : World} {hf : Hp} {w : World} (ho : Owns S hf [] w) {t : TowP} {x : TowV} {lv : Int} (ht : TowOk hf t x) (hb : t.key.length ≤ 140737488351232) (hbk : ∀ p ∈ t.kids, p.key.length ≤ 140737488351232) (htg : TagsAt 0 hf) (hk : RoundsAt 3 hf) (hf1 : FirstAt 1 hf) :
    Calls Tryd.prog 31 [t.val x, .int .i64 lv].toArray w (RetV S hf [] (sumV (labP (fun k => decide (k.lvl < lv)) t 0))) := by
  refine enter (n := 8) (E := [(0, _), (1, _)]) Tryd.func31 rfl Tryd.ntmps31 rfl rfl ho fun a h => ?_
  refine c_seq ?_
  refine c_region ?_
  refine stepO (o_box (l := t.cells x) h rfl rfl) h.env rfl ?_
  rintro b1 _ a w h
  refine stepO (o_box (l := [.int .i64 lv]) h rfl rfl) h.env rfl ?_
  rintro b2 _ a w h
  refine stepO (o_alloc (l := List.replicate 32 (.int .u8 0)) Tryd.zeroValue25 rfl h) h.env rfl ?_
  rintro b3 _ a w h
  refine stepEnd ?_
  obtain ⟨hf2, hle, hin1, hbk1, h⟩ := St.freezeR (L1 := [(b3, row 25 (List.replicate 32 (.int .u8 0)))]) (L2 := [(b2, row 3 [.int .i64 lv]), (b1, row 46 (t.cells x))]) h
  replace ht := ht.mono hle
  replace htg := htg.mono hle
  replace hk := hk.mono hle
  replace hf1 := hf1.mono hle
  have ro1 : hf2 b1 = some (row 46 (t.cells x)) := hin1 _ _ (by simp)
  have ro2 : hf2 b2 = some (row 3 ([.int .i64 lv])) := hin1 _ _ (by simp)
  refine th_n ?_
  refine c_seq ?_
  refine c_region ?_
  refine stepP (p_loadA (vs := t.cells x) Tryd.isAgg46 (fun w => by rw [Tryd.sizeOf46, ht.length]) h rfl (Cels.stay ro1)) h rfl fun a w h => ?_
  refine stepP (p_makeFunc h rfl rfl) h rfl fun a w h => ?_
  refine stepV (Enter.opT (o_call Tryd.call58 h rfl) (call_val0 h.own (c_nlabel (only := (fun k => decide (k.lvl < lv))) (caps := [ptr b2 0]) h.own.lend0 (ht.mono h.own.le0) hb hbk (htg.mono h.own.le0) (hk.mono h.own.le0) (hf1.mono h.own.le0) Tryd.call60 (fun hle2 ho2 hk2 => c_below1 ho2 hk2 (hle2 _ _ (h.own.le0 _ _ ro2)))))) h.env rfl fun a w h => ?_
  refine stepN (o_storeA (kk := 0) (vs := (labP (fun k => decide (k.lvl < lv)) t 0).map B) (cs' := (labP (fun k => decide (k.lvl < lv)) t 0).map B) (fun w => by rw [Tryd.sizeOf25, (show ((labP (fun k => decide (k.lvl < lv)) t 0).map B).length = 32 by rw [List.length_map, (labP_length _ _ _)])]) h rfl rfl rfl (oneB _) rfl (by rw [(show ((labP (fun k => decide (k.lvl < lv)) t 0).map B).length = 32 by rw [List.length_map, (labP_length _ _ _)])]; simp) (by rw [(show ((labP (fun k => decide (k.lvl < lv)) t 0).map B).length = 32 by rw [List.length_map, (labP_length _ _ _)])]; simp [List.drop_of_length_le])) h.env fun a w h => ?_
  refine stepEnd ?_
  refine th_n ?_
  refine c_ret ?_
  exact finC (.inl rfl) h (vs := (labP (fun k => decide (k.lvl < lv)) t 0).map B) rfl Tryd.isAgg25 (fun w => by rw [Tryd.sizeOf25, List.length_map, (labP_length _ _ _)]) rfl (Cels.all (k := 0) rfl) ⟨rfl, h.own.none.weaken hle⟩


theorem c_rOwn {S : World} {hf : Hp} {w : World} (ho : Owns S hf [] w) {t : TowP} {x : TowV} (ht : TowOk hf t x) (hb : t.key.length ≤ 140737488351232) :
    Calls Tryd.prog 30 [t.val x].toArray w (RetV S hf [] (sumV (ownL t))) := by
  have hts := ht.sum
  refine enter (n := 14) (E := [(0, _)]) Tryd.func30 rfl Tryd.ntmps30 rfl rfl ho fun a h => ?_
  refine c_seq ?_
  refine c_region ?_
  refine stepO (o_box (l := t.cells x) h rfl rfl) h.env rfl ?_
  rintro b1 _ a w h
  refine stepO (o_alloc (l := List.replicate 32 (.int .u8 0)) Tryd.zeroValue25 rfl h) h.env rfl ?_
  rintro b2 _ a w h
  refine stepEnd ?_
  obtain ⟨hf2, hle, hin1, hbk1, h⟩ := St.freezeR (L1 := [(b2, row 25 (List.replicate 32 (.int .u8 0)))]) (L2 := [(b1, row 46 (t.cells x))]) h
  replace ht := ht.mono hle
  have ro1 : hf2 b1 = some (row 46 (t.cells x)) := hin1 _ _ (by simp)
  refine th_n ?_
  refine c_seq ?_
  refine c_seq ?_
  refine c_region ?_
  refine stepP (p_fieldAddr (r := 0) Tryd.underlying46 rfl Tryd.sizeOf4 rfl rfl h rfl) h rfl fun a w h => ?_
  refine stepP (p_load Tryd.isAgg4 h rfl (Cel.stay ro1 rfl)) h rfl fun a w h => ?_
  refine stepEnd ?_
  refine th_n ?_
  refine c_condB rfl h (fun hc3 => ?_) (fun hc3 => ?_)
  · skip
    refine c_seq ?_
    refine c_region ?_
    refine stepO (Enter.opT (o_call Tryd.call20 h rfl) (call_out0 h.own (c_RHeadText h.own.lend0 ))) h.env rfl ?_
    rintro ⟨b4, cap5, rest6⟩ ⟨hc7, hc8⟩ a w h
    refine stepV (Enter.opT (o_call Tryd.call55 h rfl) (call_val0 h.own (c_rOf (l := headText) h.own.lend0 (Byts.row (h.own.in0 (k := 0) rfl) rfl (by simp) hc7 hc8) (by simp <;> omega)))) h.env rfl fun a w h => ?_
    refine stepN (o_storeA (kk := 1) (vs := (sha headText).map B) (cs' := (sha headText).map B) (fun w => by rw [Tryd.sizeOf25, (show ((sha headText).map B).length = 32 by rw [List.length_map, (sha_length _)])]) h rfl rfl rfl (oneB _) rfl (by rw [(show ((sha headText).map B).length = 32 by rw [List.length_map, (sha_length _)])]; simp) (by rw [(show ((sha headText).map B).length = 32 by rw [List.length_map, (sha_length _)])]; simp [List.drop_of_length_le])) h.env fun a w h => ?_
    refine stepEnd ?_
    refine th_n ?_
    refine c_ret (th_r ?_)
    rw [← own_headL hc3] at h
    exact finC (.inl rfl) h (vs := (ownL t).map B) rfl Tryd.isAgg25 (fun w => by rw [Tryd.sizeOf25, List.length_map, (ownL_length _)]) rfl (Cels.all (k := 1) rfl) ⟨rfl, h.own.none.weaken hle⟩
  · skip
    refine c_skip ?_
    refine th_n ?_
    refine c_seq ?_
    refine c_region ?_
    refine stepP (p_fieldAddr (r := 1) Tryd.underlying46 rfl Tryd.sizeOf22 rfl rfl h rfl) h rfl fun a w h => ?_
    refine stepP (p_load Tryd.isAgg22 h rfl (Cel.stay ro1 rfl)) h rfl fun a w h => ?_
    refine stepP (p_fieldAddr (r := 2) Tryd.underlying46 rfl Tryd.sizeOf27 rfl rfl h rfl) h rfl fun a w h => ?_
    refine stepP (p_fieldAddr (r := 2) Tryd.underlying27 rfl Tryd.sizeOf25 rfl rfl h rfl) h rfl fun a w h => ?_
    refine stepP (p_loadA (vs := t.sum.map B) Tryd.isAgg25 (fun w => by rw [Tryd.sizeOf25, List.length_map, show t.sum.length = 32 from ht.sum]) h rfl (Cels.stayPart ro1 (towSumAt ht))) h rfl fun a w h => ?_
    refine stepO (Enter.opT (o_call Tryd.call18 h rfl) (call_out0 h.own (c_RLeafText h.own.lend0 (ht.key.mono h.own.le0) ht.sum (by omega)))) h.env rfl ?_
    rintro ⟨b9, cap10, rest11⟩ ⟨hc12, hc13⟩ a w h
    refine stepV (Enter.opT (o_call Tryd.call55 h rfl) (call_val0 h.own (c_rOf (l := leafText t.key t.sum) h.own.lend0 (Byts.row (h.own.in0 (k := 0) rfl) rfl (by simp) hc12 hc13) (by simp <;> omega)))) h.env rfl fun a w h => ?_
    refine stepN (o_storeA (kk := 1) (vs := (sha (leafText t.key t.sum)).map B) (cs' := (sha (leafText t.key t.sum)).map B) (fun w => by rw [Tryd.sizeOf25, (show ((sha (leafText t.key t.sum)).map B).length = 32 by rw [List.length_map, (sha_length _)])]) h rfl rfl rfl (oneB _) rfl (by rw [(show ((sha (leafText t.key t.sum)).map B).length = 32 by rw [List.length_map, (sha_length _)])]; simp) (by rw [(show ((sha (leafText t.key t.sum)).map B).length = 32 by rw [List.length_map, (sha_length _)])]; simp [List.drop_of_length_le])) h.env fun a w h => ?_
    refine stepEnd ?_
    refine th_n ?_
    refine c_ret ?_
    rw [← own_tailL (t := t) (by simpa using hc3)] at h
    exact finC (.inl rfl) h (vs := (ownL t).map B) rfl Tryd.isAgg25 (fun w => by rw [Tryd.sizeOf25, List.length_map, (ownL_length _)]) rfl (Cels.all (k := 1) rfl) ⟨rfl, h.own.none.weaken hle⟩

set_option maxHeartbeats 1000000 in
theorem c_rBelow {S : World} {hf : Hp} {w : World} (ho : Owns S hf [] w) {t : TowP} {x : TowV} {lv : Int} (ht : TowOk hf t x) (hb : t.key.length ≤ 140737488351232) (hbk : ∀ p ∈ t.kids, p.key.length ≤ 140737488351232) :
    Calls Tryd.prog 32 [t.val x, .int .i64 lv].toArray w (RetV S hf [] (sumV (labP (fun k => decide (k.lvl < lv)) t 0))) := by
  have hmany := ht.many
  have hts := ht.sum
  refine enter (n := 34) (E := [(0, _), (1, _)]) Tryd.func32 rfl Tryd.ntmps32 rfl rfl ho fun a h => ?_
  refine c_seq ?_
  refine c_region ?_
  refine stepO (o_box (l := t.cells x) h rfl rfl) h.env rfl ?_
  rintro b1 _ a w h
  refine stepO (o_alloc (l := List.replicate 32 (.int .u8 0)) Tryd.zeroValue25 rfl h) h.env rfl ?_
  rintro b2 _ a w h
  refine stepEnd ?_
  obtain ⟨hf2, hle, hin1, hbk1, h⟩ := St.freezeR (L1 := [(b2, row 25 (List.replicate 32 (.int .u8 0)))]) (L2 := [(b1, row 46 (t.cells x))]) h
  replace ht := ht.mono hle
  have ro1 : hf2 b1 = some (row 46 (t.cells x)) := hin1 _ _ (by simp)
  refine th_n ?_
  refine c_seq ?_
  refine c_region ?_
  refine stepP (p_loadA (vs := t.cells x) Tryd.isAgg46 (fun w => by rw [Tryd.sizeOf46, ht.length]) h rfl (Cels.stay ro1)) h rfl fun a w h => ?_
  refine stepV (Enter.opT (o_call Tryd.call30 h rfl) (call_val0 h.own (c_rOwn h.own.lend0 (ht.mono h.own.le0) hb))) h.env rfl fun a w h => ?_
  refine stepO (o_alloc (l := List.replicate 32 (.int .u8 0)) Tryd.zeroValue25 rfl h) h.env rfl ?_
  rintro b3 _ a w h
  refine stepN (o_storeA (kk := 0) (vs := (ownL t).map B) (cs' := (ownL t).map B) (fun w => by rw [Tryd.sizeOf25, (show ((ownL t).map B).length = 32 by rw [List.length_map, (ownL_length _)])]) h rfl rfl rfl (oneB _) rfl (by rw [(show ((ownL t).map B).length = 32 by rw [List.length_map, (ownL_length _)])]; simp) (by rw [(show ((ownL t).map B).length = 32 by rw [List.length_map, (ownL_length _)])]; simp [List.drop_of_length_le])) h.env fun a w h => ?_
  refine stepEnd ?_
  refine th_n ?_
  refine c_seq ?_
  refine c_seq ?_
  refine c_region ?_
  refine stepP (p_fieldAddr (r := 35) Tryd.underlying46 rfl Tryd.sizeOf44 rfl rfl h rfl) h rfl fun a w h => ?_
  refine stepP (p_load Tryd.isAgg44 h rfl (Cel.stay ro1 ht.kidsAt)) h rfl fun a w h => ?_
  refine stepP (p_lenS Tryd.underlying44 h rfl ht.kids.sl) h rfl fun a w h => ?_
  refine stepP (p_sub h rfl rfl (wi (by omega))) h rfl fun a w h => ?_
  refine stepP (p_assign h rfl) h rfl fun a w h => ?_
  refine stepEnd ?_
  rw [← lab_full (fun k => decide (k.lvl < lv)) t] at h
  refine th_n ?_
  refine c_block ?_
  refine c_loop (fun m a w => ∃ (j : Nat), m = j * 1 ∧ j ≤ t.kids.length ∧ St S hf2 ([(b3, row 25 ((labP (fun k => decide (k.lvl < lv)) t j).map B))] ++ ([(b2, row 25 (List.replicate 32 (.int .u8 0)))])) 34 [(1, .int .i64 lv), (2, ptr b1 0), (4, ptr b2 0), (5, ptr b3 0), (6, .int .i64 ((j : Int) - 1))] a w) (N := t.kids.length * 1) ⟨t.kids.length, rfl, Nat.le_refl _, h.to rfl ⟨(look_int rfl (by first | rfl | omega)), rfl, rfl, rfl, (look_int rfl (by first | rfl | omega)), trivial⟩⟩ ?_
  clear h
  rintro m a w ⟨j, rfl, hj, h⟩
  refine c_seq ?_
  refine c_seq ?_
  refine c_region ?_
  refine stepP (p_move h rfl) h rfl fun a w h => ?_
  refine stepP (p_geq h rfl rfl) h rfl fun a w h => ?_
  refine stepEnd ?_
  refine th_n ?_
  refine c_cond rfl h (fun hc4 => ?_) (fun hc4 => ?_)
  · skip
    refine c_skip ?_
    refine th_n ?_
    refine c_seq ?_
    refine c_block ?_
    refine c_seq ?_
    have hj0 : 0 < j := by omega
    have hj1 : j - 1 < t.kids.length := by omega
    have hkk := ht.kids.ok hj1
    have hkl := hkk.label
    have hkb := hbk _ (List.mem_of_getElem? (kidAt_get hj1))
    simp only [KidP.at_label] at hkl
    refine c_region ?_
    refine stepP (p_fieldAddr (r := 35) Tryd.underlying46 rfl Tryd.sizeOf44 rfl rfl h rfl) h rfl fun a w h => ?_
    refine stepP (p_load Tryd.isAgg44 h rfl (Cel.stay ro1 ht.kidsAt)) h rfl fun a w h => ?_
    refine stepP (p_move h rfl) h rfl fun a w h => ?_
    have hi5 : (j - 1) < t.kids.length := by omega
    refine stepP (p_idxS (s := 68) (j := (j - 1)) Tryd.underlying44 Tryd.sizeOf29 h rfl rfl ht.kids.sl (by omega) hi5) h rfl fun a w h => ?_
    refine stepP (p_fieldAddr (r := sOff x.kids + (j - 1) * 68) Tryd.underlying29 rfl Tryd.sizeOf3 rfl rfl h rfl) h rfl fun a w h => ?_
    refine stepP (p_load (v := .int .i64 (kidAt t.kids (j - 1)).lvl) Tryd.isAgg3 h rfl ((ht.kids.cels hi5) 0 _ rfl)) h rfl fun a w h => ?_
    refine stepP (p_move h rfl) h rfl fun a w h => ?_
    refine stepP (p_lss h rfl rfl) h rfl fun a w h => ?_
    refine stepEnd ?_
    refine th_n ?_
    refine c_cond rfl h (fun hc6 => ?_) (fun hc6 => ?_)
    · skip
      refine any_begin (N := 9) (by kernel_rfl) rfl h ?_
      clear h; intro w h
      refine any_take (i := 0) rfl (by kernel_rfl) (fun _ _ _ _ h => h) h rfl (fun w h => p_fieldAddr (r := 35) Tryd.underlying46 rfl Tryd.sizeOf44 rfl rfl h rfl) fun a h => ?_
      refine any_take (i := 1) rfl (by kernel_rfl) (fun _ _ _ _ h => h) h rfl (fun w h => p_load Tryd.isAgg44 h rfl (Cel.stay ro1 ht.kidsAt)) fun a h => ?_
      refine any_take (i := 2) rfl (by kernel_rfl) (fun _ _ _ _ h => h) h rfl (fun w h => p_move h rfl) fun a h => ?_
      have hi7 : (j - 1) < t.kids.length := by omega
      refine any_take (i := 3) rfl (by kernel_rfl) (fun _ _ _ _ h => h) h rfl (fun w h => p_idxS (s := 68) (j := (j - 1)) Tryd.underlying44 Tryd.sizeOf29 h rfl rfl ht.kids.sl (by omega) hi7) fun a h => ?_
      refine any_take (i := 4) rfl (by kernel_rfl) (fun _ _ _ _ h => h) h rfl (fun w h => p_loadA (vs := ((kidAt t.kids (j - 1)).at (vkAt x.kvs (j - 1))).cells) Tryd.isAgg29 (fun w => by rw [Tryd.sizeOf29, KidV.Ok.length (ht.kids.ok hi7)]) h rfl (ht.kids.cels hi7)) fun a h => ?_
      refine any_one (i := 5) (by kernel_rfl) ?_
      refine any_V rfl h.env rfl (Pure.opT (p_loadA (vs := (labP (fun k => decide (k.lvl < lv)) t j).map B) Tryd.isAgg25 (fun w => by rw [Tryd.sizeOf25, List.length_map, (labP_length _ _ _)]) h rfl (Cels.all (k := 0) rfl)) h.own) fun a w h => ?_
      refine any_one (i := 6) (by kernel_rfl) ?_
      refine any_O rfl h.env rfl (Enter.opT (o_call Tryd.call19 h rfl) (call_out0 h.own (c_RPairText h.own.lend0 ((ht.kids.ok hi7).mono h.own.le0) (labP_length _ _ _) (by omega)))) ?_
      rintro ⟨b8, cap9, rest10⟩ ⟨hc11, hc12⟩ a w h
      refine any_one (i := 7) (by kernel_rfl) ?_
      refine any_V rfl h.env rfl (Enter.opT (o_call Tryd.call55 h rfl) (call_val0 h.own (c_rOf (l := pairText (kidAt t.kids (j - 1)).lvl ((kidAt t.kids (j - 1)).key) (kidAt t.kids (j - 1)).cnt (kidAt t.kids (j - 1)).label (labP (fun k => decide (k.lvl < lv)) t j)) h.own.lend0 (Byts.row (h.own.in0 (k := 0) rfl) rfl (by simp) hc11 hc12) (by simp <;> omega)))) fun a w h => ?_
      refine any_one (i := 8) (by kernel_rfl) ?_
      refine any_N rfl h.env (o_storeA (kk := 1) (vs := (sha (pairText (kidAt t.kids (j - 1)).lvl ((kidAt t.kids (j - 1)).key) (kidAt t.kids (j - 1)).cnt (kidAt t.kids (j - 1)).label (labP (fun k => decide (k.lvl < lv)) t j))).map B) (cs' := (sha (pairText (kidAt t.kids (j - 1)).lvl ((kidAt t.kids (j - 1)).key) (kidAt t.kids (j - 1)).cnt (kidAt t.kids (j - 1)).label (labP (fun k => decide (k.lvl < lv)) t j))).map B) (fun w => by rw [Tryd.sizeOf25, (show ((sha (pairText (kidAt t.kids (j - 1)).lvl ((kidAt t.kids (j - 1)).key) (kidAt t.kids (j - 1)).cnt (kidAt t.kids (j - 1)).label (labP (fun k => decide (k.lvl < lv)) t j))).map B).length = 32 by rw [List.length_map, (sha_length _)])]) h rfl rfl rfl (oneB _) rfl (by rw [(show ((sha (pairText (kidAt t.kids (j - 1)).lvl ((kidAt t.kids (j - 1)).key) (kidAt t.kids (j - 1)).cnt (kidAt t.kids (j - 1)).label (labP (fun k => decide (k.lvl < lv)) t j))).map B).length = 32 by rw [List.length_map, (sha_length _)]), List.length_map, (labP_length _ _ _)]; decide) (by rw [(show ((sha (pairText (kidAt t.kids (j - 1)).lvl ((kidAt t.kids (j - 1)).key) (kidAt t.kids (j - 1)).cnt (kidAt t.kids (j - 1)).label (labP (fun k => decide (k.lvl < lv)) t j))).map B).length = 32 by rw [List.length_map, (sha_length _)]), List.drop_of_length_le (by rw [List.length_map, (labP_length _ _ _)]; decide)]; simp)) fun a w h => ?_
      refine any_end (by kernel_rfl) ?_
      refine bl_n ?_
      refine th_n ?_
      replace h := St.pick (xs := [(b3, row 25 ((sha (pairText (kidAt t.kids (j - 1)).lvl ((kidAt t.kids (j - 1)).key) (kidAt t.kids (j - 1)).cnt (kidAt t.kids (j - 1)).label (labP (fun k => decide (k.lvl < lv)) t j))).map B)), (b2, row 25 (List.replicate 32 (.int .u8 0)))]) h [1, 2] (by decide) rfl
      rw [show sha (pairText (kidAt t.kids (j - 1)).lvl (kidAt t.kids (j - 1)).key (kidAt t.kids (j - 1)).cnt (kidAt t.kids (j - 1)).label (labP (fun k => decide (k.lvl < lv)) t j)) = (labP (fun k => decide (k.lvl < lv)) t (j - 1)) from lab_yes (only := (fun k => decide (k.lvl < lv))) hj0 hj (decide_eq_true hc6)] at h
      refine c_region ?_
      refine stepP (p_move h rfl) h rfl fun a w h => ?_
      refine stepP (p_sub (r := (((j - 1 : Nat) : Int) - 1)) h rfl rfl ((wi (by omega)).trans (by omega))) h rfl fun a w h => ?_
      refine stepP (p_assign h rfl) h rfl fun a w h => ?_
      refine stepEnd ?_
      exact th_n ⟨_, by omega, j - 1, rfl, by omega, h.to rfl ⟨(look_int rfl (by first | rfl | omega)), rfl, rfl, rfl, (look_int rfl (by first | rfl | omega)), trivial⟩⟩
    · skip
      refine c_skip ?_
      refine bl_n ?_
      refine th_n ?_
      rw [lab_no (only := (fun k => decide (k.lvl < lv))) hj0 hj (decide_eq_false hc6)] at h
      refine c_region ?_
      refine stepP (p_move h rfl) h rfl fun a w h => ?_
      refine stepP (p_sub (r := (((j - 1 : Nat) : Int) - 1)) h rfl rfl ((wi (by omega)).trans (by omega))) h rfl fun a w h => ?_
      refine stepP (p_assign h rfl) h rfl fun a w h => ?_
      refine stepEnd ?_
      exact th_n ⟨_, by omega, j - 1, rfl, by omega, h.to rfl ⟨(look_int rfl (by first | rfl | omega)), rfl, rfl, rfl, (look_int rfl (by first | rfl | omega)), trivial⟩⟩
  · skip
    refine c_exit (th_e (th_e (exit_at ?_)))
    refine th_n ?_
    refine c_seq ?_
    obtain rfl : j = 0 := by omega
    refine c_region ?_
    refine stepP (p_loadA (vs := (labP (fun k => decide (k.lvl < lv)) t 0).map B) Tryd.isAgg25 (fun w => by rw [Tryd.sizeOf25, List.length_map, (labP_length _ _ _)]) h rfl (Cels.all (k := 0) rfl)) h rfl fun a w h => ?_
    refine stepN (o_storeA (kk := 1) (vs := (labP (fun k => decide (k.lvl < lv)) t 0).map B) (cs' := (labP (fun k => decide (k.lvl < lv)) t 0).map B) (fun w => by rw [Tryd.sizeOf25, (show ((labP (fun k => decide (k.lvl < lv)) t 0).map B).length = 32 by rw [List.length_map, (labP_length _ _ _)])]) h rfl rfl rfl (oneB _) rfl (by rw [(show ((labP (fun k => decide (k.lvl < lv)) t 0).map B).length = 32 by rw [List.length_map, (labP_length _ _ _)])]; simp) (by rw [(show ((labP (fun k => decide (k.lvl < lv)) t 0).map B).length = 32 by rw [List.length_map, (labP_length _ _ _)])]; simp [List.drop_of_length_le])) h.env fun a w h => ?_
    refine stepEnd ?_
    refine th_n ?_
    refine c_ret ?_
    exact finC (.inl rfl) h (vs := (labP (fun k => decide (k.lvl < lv)) t 0).map B) rfl Tryd.isAgg25 (fun w => by rw [Tryd.sizeOf25, List.length_map, (labP_length _ _ _)]) rfl (Cels.all (k := 1) rfl) ⟨rfl, h.own.none.weaken hle⟩

set_option maxHeartbeats 1000000 in
theorem c_rLabel {S : World} {hf : Hp} {w : World} (ho : Owns S hf [] w) {t : TowP} {x : TowV} (ht : TowOk hf t x) (hb : t.key.length ≤ 140737488351232) (hbk : ∀ p ∈ t.kids, p.key.length ≤ 140737488351232) :
    Calls Tryd.prog 34 [t.val x].toArray w (RetV S hf [] (sumV (labP (fun _ => true) t 0))) := by
  have hmany := ht.many
  have hts := ht.sum
  refine enter (n := 24) (E := [(0, _)]) Tryd.func34 rfl Tryd.ntmps34 rfl rfl ho fun a h => ?_
  refine c_seq ?_
  refine c_region ?_
  refine stepO (o_box (l := t.cells x) h rfl rfl) h.env rfl ?_
  rintro b1 _ a w h
  refine stepO (o_alloc (l := List.replicate 32 (.int .u8 0)) Tryd.zeroValue25 rfl h) h.env rfl ?_
  rintro b2 _ a w h
  refine stepEnd ?_
  obtain ⟨hf2, hle, hin1, hbk1, h⟩ := St.freezeR (L1 := [(b2, row 25 (List.replicate 32 (.int .u8 0)))]) (L2 := [(b1, row 46 (t.cells x))]) h
  replace ht := ht.mono hle
  have ro1 : hf2 b1 = some (row 46 (t.cells x)) := hin1 _ _ (by simp)
  refine th_n ?_
  refine c_seq ?_
  refine c_region ?_
  refine stepP (p_loadA (vs := t.cells x) Tryd.isAgg46 (fun w => by rw [Tryd.sizeOf46, ht.length]) h rfl (Cels.stay ro1)) h rfl fun a w h => ?_
  refine stepV (Enter.opT (o_call Tryd.call30 h rfl) (call_val0 h.own (c_rOwn h.own.lend0 (ht.mono h.own.le0) hb))) h.env rfl fun a w h => ?_
  refine stepO (o_alloc (l := List.replicate 32 (.int .u8 0)) Tryd.zeroValue25 rfl h) h.env rfl ?_
  rintro b3 _ a w h
  refine stepN (o_storeA (kk := 0) (vs := (ownL t).map B) (cs' := (ownL t).map B) (fun w => by rw [Tryd.sizeOf25, (show ((ownL t).map B).length = 32 by rw [List.length_map, (ownL_length _)])]) h rfl rfl rfl (oneB _) rfl (by rw [(show ((ownL t).map B).length = 32 by rw [List.length_map, (ownL_length _)])]; simp) (by rw [(show ((ownL t).map B).length = 32 by rw [List.length_map, (ownL_length _)])]; simp [List.drop_of_length_le])) h.env fun a w h => ?_
  refine stepEnd ?_
  refine th_n ?_
  refine c_seq ?_
  refine c_seq ?_
  refine c_region ?_
  refine stepP (p_fieldAddr (r := 35) Tryd.underlying46 rfl Tryd.sizeOf44 rfl rfl h rfl) h rfl fun a w h => ?_
  refine stepP (p_load Tryd.isAgg44 h rfl (Cel.stay ro1 ht.kidsAt)) h rfl fun a w h => ?_
  refine stepP (p_lenS Tryd.underlying44 h rfl ht.kids.sl) h rfl fun a w h => ?_
  refine stepP (p_sub h rfl rfl (wi (by omega))) h rfl fun a w h => ?_
  refine stepP (p_assign h rfl) h rfl fun a w h => ?_
  refine stepEnd ?_
  rw [← lab_full (fun _ => true) t] at h
  refine th_n ?_
  refine c_block ?_
  refine c_loop (fun m a w => ∃ (j : Nat), m = j * 1 ∧ j ≤ t.kids.length ∧ St S hf2 ([(b3, row 25 ((labP (fun _ => true) t j).map B))] ++ ([(b2, row 25 (List.replicate 32 (.int .u8 0)))])) 24 [(1, ptr b1 0), (2, ptr b2 0), (3, ptr b3 0), (4, .int .i64 ((j : Int) - 1))] a w) (N := t.kids.length * 1) ⟨t.kids.length, rfl, Nat.le_refl _, h.to rfl ⟨rfl, rfl, rfl, (look_int rfl (by first | rfl | omega)), trivial⟩⟩ ?_
  clear h
  rintro m a w ⟨j, rfl, hj, h⟩
  refine c_seq ?_
  refine c_seq ?_
  refine c_region ?_
  refine stepP (p_move h rfl) h rfl fun a w h => ?_
  refine stepP (p_geq h rfl rfl) h rfl fun a w h => ?_
  refine stepEnd ?_
  refine th_n ?_
  refine c_cond rfl h (fun hc4 => ?_) (fun hc4 => ?_)
  · skip
    refine c_skip ?_
    refine th_n ?_
    refine c_seq ?_
    refine c_block ?_
    have hj0 : 0 < j := by omega
    have hj1 : j - 1 < t.kids.length := by omega
    have hkk := ht.kids.ok hj1
    have hkl := hkk.label
    have hkb := hbk _ (List.mem_of_getElem? (kidAt_get hj1))
    simp only [KidP.at_label] at hkl
    refine any_begin (N := 9) (by kernel_rfl) rfl h ?_
    clear h; intro w h
    refine any_take (i := 0) rfl (by kernel_rfl) (fun _ _ _ _ h => h) h rfl (fun w h => p_fieldAddr (r := 35) Tryd.underlying46 rfl Tryd.sizeOf44 rfl rfl h rfl) fun a h => ?_
    refine any_take (i := 1) rfl (by kernel_rfl) (fun _ _ _ _ h => h) h rfl (fun w h => p_load Tryd.isAgg44 h rfl (Cel.stay ro1 ht.kidsAt)) fun a h => ?_
    refine any_take (i := 2) rfl (by kernel_rfl) (fun _ _ _ _ h => h) h rfl (fun w h => p_move h rfl) fun a h => ?_
    have hi5 : (j - 1) < t.kids.length := by omega
    refine any_take (i := 3) rfl (by kernel_rfl) (fun _ _ _ _ h => h) h rfl (fun w h => p_idxS (s := 68) (j := (j - 1)) Tryd.underlying44 Tryd.sizeOf29 h rfl rfl ht.kids.sl (by omega) hi5) fun a h => ?_
    refine any_take (i := 4) rfl (by kernel_rfl) (fun _ _ _ _ h => h) h rfl (fun w h => p_loadA (vs := ((kidAt t.kids (j - 1)).at (vkAt x.kvs (j - 1))).cells) Tryd.isAgg29 (fun w => by rw [Tryd.sizeOf29, KidV.Ok.length (ht.kids.ok hi5)]) h rfl (ht.kids.cels hi5)) fun a h => ?_
    refine any_one (i := 5) (by kernel_rfl) ?_
    refine any_V rfl h.env rfl (Pure.opT (p_loadA (vs := (labP (fun _ => true) t j).map B) Tryd.isAgg25 (fun w => by rw [Tryd.sizeOf25, List.length_map, (labP_length _ _ _)]) h rfl (Cels.all (k := 0) rfl)) h.own) fun a w h => ?_
    refine any_one (i := 6) (by kernel_rfl) ?_
    refine any_O rfl h.env rfl (Enter.opT (o_call Tryd.call19 h rfl) (call_out0 h.own (c_RPairText h.own.lend0 ((ht.kids.ok hi5).mono h.own.le0) (labP_length _ _ _) (by omega)))) ?_
    rintro ⟨b6, cap7, rest8⟩ ⟨hc9, hc10⟩ a w h
    refine any_one (i := 7) (by kernel_rfl) ?_
    refine any_V rfl h.env rfl (Enter.opT (o_call Tryd.call55 h rfl) (call_val0 h.own (c_rOf (l := pairText (kidAt t.kids (j - 1)).lvl ((kidAt t.kids (j - 1)).key) (kidAt t.kids (j - 1)).cnt (kidAt t.kids (j - 1)).label (labP (fun _ => true) t j)) h.own.lend0 (Byts.row (h.own.in0 (k := 0) rfl) rfl (by simp) hc9 hc10) (by simp <;> omega)))) fun a w h => ?_
    refine any_one (i := 8) (by kernel_rfl) ?_
    refine any_N rfl h.env (o_storeA (kk := 1) (vs := (sha (pairText (kidAt t.kids (j - 1)).lvl ((kidAt t.kids (j - 1)).key) (kidAt t.kids (j - 1)).cnt (kidAt t.kids (j - 1)).label (labP (fun _ => true) t j))).map B) (cs' := (sha (pairText (kidAt t.kids (j - 1)).lvl ((kidAt t.kids (j - 1)).key) (kidAt t.kids (j - 1)).cnt (kidAt t.kids (j - 1)).label (labP (fun _ => true) t j))).map B) (fun w => by rw [Tryd.sizeOf25, (show ((sha (pairText (kidAt t.kids (j - 1)).lvl ((kidAt t.kids (j - 1)).key) (kidAt t.kids (j - 1)).cnt (kidAt t.kids (j - 1)).label (labP (fun _ => true) t j))).map B).length = 32 by rw [List.length_map, (sha_length _)])]) h rfl rfl rfl (oneB _) rfl (by rw [(show ((sha (pairText (kidAt t.kids (j - 1)).lvl ((kidAt t.kids (j - 1)).key) (kidAt t.kids (j - 1)).cnt (kidAt t.kids (j - 1)).label (labP (fun _ => true) t j))).map B).length = 32 by rw [List.length_map, (sha_length _)]), List.length_map, (labP_length _ _ _)]; decide) (by rw [(show ((sha (pairText (kidAt t.kids (j - 1)).lvl ((kidAt t.kids (j - 1)).key) (kidAt t.kids (j - 1)).cnt (kidAt t.kids (j - 1)).label (labP (fun _ => true) t j))).map B).length = 32 by rw [List.length_map, (sha_length _)]), List.drop_of_length_le (by rw [List.length_map, (labP_length _ _ _)]; decide)]; simp)) fun a w h => ?_
    refine any_end (by kernel_rfl) ?_
    refine bl_n ?_
    refine th_n ?_
    replace h := St.pick (xs := [(b3, row 25 ((sha (pairText (kidAt t.kids (j - 1)).lvl ((kidAt t.kids (j - 1)).key) (kidAt t.kids (j - 1)).cnt (kidAt t.kids (j - 1)).label (labP (fun _ => true) t j))).map B)), (b2, row 25 (List.replicate 32 (.int .u8 0)))]) h [1, 2] (by decide) rfl
    rw [show sha (pairText (kidAt t.kids (j - 1)).lvl (kidAt t.kids (j - 1)).key (kidAt t.kids (j - 1)).cnt (kidAt t.kids (j - 1)).label (labP (fun _ => true) t j)) = (labP (fun _ => true) t (j - 1)) from lab_yes (only := (fun _ => true)) hj0 hj rfl] at h
    refine c_region ?_
    refine stepP (p_move h rfl) h rfl fun a w h => ?_
    refine stepP (p_sub (r := (((j - 1 : Nat) : Int) - 1)) h rfl rfl ((wi (by omega)).trans (by omega))) h rfl fun a w h => ?_
    refine stepP (p_assign h rfl) h rfl fun a w h => ?_
    refine stepEnd ?_
    exact th_n ⟨_, by omega, j - 1, rfl, by omega, h.to rfl ⟨rfl, rfl, rfl, (look_int rfl (by first | rfl | omega)), trivial⟩⟩
  · skip
    refine c_exit (th_e (th_e (exit_at ?_)))
    refine th_n ?_
    refine c_seq ?_
    obtain rfl : j = 0 := by omega
    refine c_region ?_
    refine stepP (p_loadA (vs := (labP (fun _ => true) t 0).map B) Tryd.isAgg25 (fun w => by rw [Tryd.sizeOf25, List.length_map, (labP_length _ _ _)]) h rfl (Cels.all (k := 0) rfl)) h rfl fun a w h => ?_
    refine stepN (o_storeA (kk := 1) (vs := (labP (fun _ => true) t 0).map B) (cs' := (labP (fun _ => true) t 0).map B) (fun w => by rw [Tryd.sizeOf25, (show ((labP (fun _ => true) t 0).map B).length = 32 by rw [List.length_map, (labP_length _ _ _)])]) h rfl rfl rfl (oneB _) rfl (by rw [(show ((labP (fun _ => true) t 0).map B).length = 32 by rw [List.length_map, (labP_length _ _ _)])]; simp) (by rw [(show ((labP (fun _ => true) t 0).map B).length = 32 by rw [List.length_map, (labP_length _ _ _)])]; simp [List.drop_of_length_le])) h.env fun a w h => ?_
    refine stepEnd ?_
    refine th_n ?_
    refine c_ret ?_
    exact finC (.inl rfl) h (vs := (labP (fun _ => true) t 0).map B) rfl Tryd.isAgg25 (fun w => by rw [Tryd.sizeOf25, List.length_map, (labP_length _ _ _)]) rfl (Cels.all (k := 1) rfl) ⟨rfl, h.own.none.weaken hle⟩


end Go.Proofs.YtkklgmhmhhbjkaaDoor
