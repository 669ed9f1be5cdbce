/-
  WHAT EACH CALL COMES TO: copies of towers. Printed by the own generator (wip/gen), one law of the own library for each operation.
-/
import Derived.Test.YtkklgmhmhhbjkaaDoorKitQ
import Derived.Test.YtkklgmhmhhbjkaaDoorProg
import Derived.Test.YtkklgmhmhhbjkaaDoorFnA
namespace Go.Proofs.YtkklgmhmhhbjkaaDoor
open Go Go.Own Go.Proofs
set_option maxRecDepth 100000
set_option linter.unusedVariables false

set_option maxHeartbeats 1000000 in
theorem c_CopyTower {S : World} {hf : Hp} {w : World} (ho : Owns S hf [] w) {t : TowP} {x : TowV} (ht : TowOk hf t x) (hb : t.key.length ≤ 140737488351232) (hbk : ∀ p ∈ t.kids, p.key.length ≤ 140737488351232) (hbn : t.kids.length * 112 ≤ 140737488355328) :
    Calls Tryd.prog 25 [t.val x].toArray w (Ret S hf (fun y : TowV × Res => t.val y.1) (fun y => y.2) (fun y => ∀ hf' : Hp, (∀ b o, (b, o) ∈ y.2 → hf' b = some o) → TowOk hf' t y.1)) := by
  have hmany := ht.many
  have hkl : ∀ i, i < t.kids.length → (kidAt t.kids i).key.length ≤ 140737488351232 := fun i hi => hbk _ (List.mem_of_getElem? (kidAt_get hi))
  refine enter (n := 33) (E := [(0, _)]) Tryd.func25 rfl Tryd.ntmps25 rfl rfl ho fun a h => ?_
  refine c_seq ?_
  refine c_region ?_
  refine stepO (o_box (l := t.cells x) h rfl rfl) h.env rfl ?_
  rintro b1 _ a w h
  refine stepO (o_alloc (l := ((⟨false, [], zeroS, 0, []⟩ : TowP).cells ⟨nilS, nilS, []⟩)) Tryd.zeroValue46 rfl h) h.env rfl ?_
  rintro b2 _ a w h
  refine stepEnd ?_
  obtain ⟨hf1, hle, hin1, hbk1, h⟩ := St.freezeR (L1 := [(b2, row 46 ((⟨false, [], zeroS, 0, []⟩ : TowP).cells ⟨nilS, nilS, []⟩))]) (L2 := [(b1, row 46 (t.cells x))]) h
  replace ht := ht.mono hle
  have ro1 : hf1 b1 = some (row 46 (t.cells x)) := hin1 _ _ (by simp)
  refine th_n ?_
  refine c_cut (fun a w => ∃ (b3 bk : Nat), St S hf1 ([(b3, row 46 (t.cells ⟨slc bk 0 t.key.length t.key.length, nilS, []⟩))] ++ ([(b2, row 46 ((⟨false, [], zeroS, 0, []⟩ : TowP).cells ⟨nilS, nilS, []⟩))] ++ ([(bk, row 5 (t.key.map B))]))) 33 [(1, ptr b1 0), (2, ptr b2 0), (3, ptr b3 0)] a w) ?_ ?_
  · skip
    refine any_begin (N := 10) (by kernel_rfl) rfl h ?_
    clear h; intro w h
    refine any_take (i := 0) rfl (by kernel_rfl) (fun _ _ _ _ h => h) h rfl (fun w h => p_fieldAddr (r := 0) Tryd.underlying46 rfl Tryd.sizeOf4 rfl rfl h rfl) fun a h => ?_
    refine any_take (i := 1) rfl (by kernel_rfl) (fun _ _ _ _ h => h) h rfl (fun w h => p_load Tryd.isAgg4 h rfl (Cel.stay ro1 rfl)) fun a h => ?_
    refine any_take (i := 2) rfl (by kernel_rfl) (fun _ _ _ _ h => h) h rfl (fun w h => p_fieldAddr (r := 1) Tryd.underlying46 rfl Tryd.sizeOf22 rfl rfl h rfl) fun a h => ?_
    refine any_take (i := 3) rfl (by kernel_rfl) (fun _ _ _ _ h => h) h rfl (fun w h => p_load Tryd.isAgg22 h rfl (Cel.stay ro1 rfl)) fun a h => ?_
    refine any_take (i := 5) rfl (by kernel_rfl) (fun _ _ _ _ h => h) h rfl (fun w h => p_fieldAddr (r := 2) Tryd.underlying46 rfl Tryd.sizeOf27 rfl rfl h rfl) fun a h => ?_
    refine any_take (i := 6) rfl (by kernel_rfl) (fun _ _ _ _ h => h) h rfl (fun w h => p_loadA (vs := addrC t.sum t.nth) Tryd.isAgg27 (fun w => by rw [Tryd.sizeOf27, addrC_length _ _ ht.sum]) h rfl (Cels.stayPart ro1 ht.addrAt)) fun a h => ?_
    refine any_all (rs := [4, 8]) (by kernel_rfl) rfl ?_
    intro i hi3
    simp only [List.mem_cons, List.not_mem_nil, or_false] at hi3
    rcases hi3 with rfl | rfl
    · skip
      refine any_O rfl h.env rfl (Enter.opT (o_call Tryd.call16 h rfl) (call_out0 h.own (c_CopyBytes h.own.lend0 (ht.key.mono h.own.le0) (by omega)))) ?_
      rintro b4 _ a w h
      refine any_take (i := 7) rfl (by kernel_rfl) (fun _ _ _ _ h => h) h rfl (fun w h => p_build (pl := [(0, 1), (1, 1), (2, 33), (35, 1)]) (out := t.cells ⟨slc b4 0 t.key.length t.key.length, nilS, []⟩) Tryd.underlying46 Tryd.type46 rfl (by kernel_rfl) h rfl (tow_filled ht.sum rfl rfl)) fun a h => ?_
      refine any_one (i := 8) (by kernel_rfl) ?_
      refine any_O rfl h.env rfl (o_alloc (l := ((⟨false, [], zeroS, 0, []⟩ : TowP).cells ⟨nilS, nilS, []⟩)) Tryd.zeroValue46 rfl h) ?_
      rintro b5 _ a w h
      refine any_one (i := 9) (by kernel_rfl) ?_
      refine any_N rfl h.env (o_storeA (kk := 0) (vs := t.cells ⟨slc b4 0 t.key.length t.key.length, nilS, []⟩) (cs' := t.cells ⟨slc b4 0 t.key.length t.key.length, nilS, []⟩) (fun w => by rw [Tryd.sizeOf46, (tow_len (x := ⟨slc b4 0 t.key.length t.key.length, nilS, []⟩) ht.sum)]) h rfl rfl rfl (tow_one rfl rfl) rfl (by rw [(tow_len (x := ⟨slc b4 0 t.key.length t.key.length, nilS, []⟩) ht.sum)]; simp [tow_len (t := ⟨false, [], zeroS, 0, []⟩) rfl]) (by rw [(tow_len (x := ⟨slc b4 0 t.key.length t.key.length, nilS, []⟩) ht.sum)]; simp [(tow_len (x := ⟨slc b4 0 t.key.length t.key.length, nilS, []⟩) ht.sum), tow_len (t := ⟨false, [], zeroS, 0, []⟩) rfl, List.drop_of_length_le])) fun a w h => ?_
      refine any_end (by kernel_rfl) ?_
      replace h := St.pick (xs := [(b5, row 46 (t.cells ⟨slc b4 0 t.key.length t.key.length, nilS, []⟩)), (b2, row 46 ((⟨false, [], zeroS, 0, []⟩ : TowP).cells ⟨nilS, nilS, []⟩)), (b4, row 5 (t.key.map B))]) h [0, 2, 1] (by decide) rfl
      exact th_n ⟨b5, b4, h.to rfl ⟨rfl, rfl, rfl, trivial⟩⟩
    · skip
      refine any_O rfl h.env rfl (o_alloc (l := ((⟨false, [], zeroS, 0, []⟩ : TowP).cells ⟨nilS, nilS, []⟩)) Tryd.zeroValue46 rfl h) ?_
      rintro b6 _ a w h
      refine any_one (i := 4) (by kernel_rfl) ?_
      refine any_O rfl h.env rfl (Enter.opT (o_call Tryd.call16 h rfl) (call_out0 h.own (c_CopyBytes h.own.lend0 (ht.key.mono h.own.le0) (by omega)))) ?_
      rintro b7 _ a w h
      refine any_take (i := 7) rfl (by kernel_rfl) (fun _ _ _ _ h => h) h rfl (fun w h => p_build (pl := [(0, 1), (1, 1), (2, 33), (35, 1)]) (out := t.cells ⟨slc b7 0 t.key.length t.key.length, nilS, []⟩) Tryd.underlying46 Tryd.type46 rfl (by kernel_rfl) h rfl (tow_filled ht.sum rfl rfl)) fun a h => ?_
      refine any_one (i := 9) (by kernel_rfl) ?_
      refine any_N rfl h.env (o_storeA (kk := 1) (vs := t.cells ⟨slc b7 0 t.key.length t.key.length, nilS, []⟩) (cs' := t.cells ⟨slc b7 0 t.key.length t.key.length, nilS, []⟩) (fun w => by rw [Tryd.sizeOf46, (tow_len (x := ⟨slc b7 0 t.key.length t.key.length, nilS, []⟩) ht.sum)]) h rfl rfl rfl (tow_one rfl rfl) rfl (by rw [(tow_len (x := ⟨slc b7 0 t.key.length t.key.length, nilS, []⟩) ht.sum)]; simp [tow_len (t := ⟨false, [], zeroS, 0, []⟩) rfl]) (by rw [(tow_len (x := ⟨slc b7 0 t.key.length t.key.length, nilS, []⟩) ht.sum)]; simp [(tow_len (x := ⟨slc b7 0 t.key.length t.key.length, nilS, []⟩) ht.sum), tow_len (t := ⟨false, [], zeroS, 0, []⟩) rfl, List.drop_of_length_le])) fun a w h => ?_
      refine any_end (by kernel_rfl) ?_
      replace h := St.pick (xs := [(b6, row 46 (t.cells ⟨slc b7 0 t.key.length t.key.length, nilS, []⟩)), (b2, row 46 ((⟨false, [], zeroS, 0, []⟩ : TowP).cells ⟨nilS, nilS, []⟩)), (b7, row 5 (t.key.map B))]) h [1, 2, 0] (by decide) rfl
      exact th_n ⟨b6, b7, h.to rfl ⟨rfl, rfl, rfl, trivial⟩⟩
  · rintro a w ⟨b3, bk, h⟩
    refine c_seq ?_
    refine c_seq ?_
    have hkeys := Keys.first (b := bk) (T := 5) (key := t.key) (by unfold maxLen; omega)
    replace h := St.perm (L := [(b3, row 46 (t.cells ⟨slc bk 0 t.key.length t.key.length, nilS, []⟩)), (b2, row 46 ((⟨false, [], zeroS, 0, []⟩ : TowP).cells ⟨nilS, nilS, []⟩))] ++ [(bk, row 5 (t.key.map B))]) (L' := [(b3, row 46 (t.cells ⟨slc bk 0 t.key.length t.key.length, nilS, []⟩)), (b2, row 46 ((⟨false, [], zeroS, 0, []⟩ : TowP).cells ⟨nilS, nilS, []⟩))] ++ ([(bk, row 5 (t.key.map B))] ++ [])) h (by rw [List.append_nil])
    refine c_region ?_
    refine stepP (p_fieldAddr (r := 35) Tryd.underlying46 rfl Tryd.sizeOf44 rfl rfl h rfl) h rfl fun a w h => ?_
    refine stepP (p_load Tryd.isAgg44 h rfl (Cel.stay ro1 ht.kidsAt)) h rfl fun a w h => ?_
    refine stepP (p_lenS Tryd.underlying44 h rfl ht.kids.sl) h rfl fun a w h => ?_
    refine stepP (p_move h rfl) h rfl fun a w h => ?_
    refine stepEnd ?_
    refine th_n ?_
    refine c_block ?_
    refine c_loop (fun m a w => ∃ (i : Nat) (v : Value) (kvs : List Value) (Lk Lv : Res), m = t.kids.length - i ∧ i ≤ t.kids.length ∧ Keys Lk (t.kids.take i) kvs (slc bk 0 t.key.length t.key.length) t.key ∧ Vec 29 68 v i (kcells (t.kids.take i) kvs) Lv ∧ St S hf1 ([(b3, row 46 (t.cells ⟨slc bk 0 t.key.length t.key.length, v, []⟩))] ++ ([(b2, row 46 ((⟨false, [], zeroS, 0, []⟩ : TowP).cells ⟨nilS, nilS, []⟩))] ++ (Lk ++ (Lv)))) 33 [(2, ptr b2 0), (3, ptr b3 0), (15, x.kids), (16, .int .i64 ((t.kids.length : Nat) : Int)), (17, .int .i64 ((i : Nat) : Int))] a w) (N := t.kids.length - 0) ⟨0, nilS, [], _, [], rfl, by omega, hkeys, ⟨rfl, .inl ⟨rfl, rfl, rfl⟩⟩, h.to rfl ⟨rfl, rfl, rfl, (look_int rfl (by first | rfl | omega)), (look_int rfl (by first | rfl | omega)), trivial⟩⟩ ?_
    clear h
    rintro m a w ⟨i, v, kvs, Lk, Lv, rfl, hi, hkeys, hvec, h⟩
    refine c_seq ?_
    refine c_region ?_
    refine stepP (p_lss h rfl rfl) h rfl fun a w h => ?_
    refine stepEnd ?_
    refine th_n ?_
    refine c_seq ?_
    refine c_cond rfl h (fun hc8 => ?_) (fun hc8 => ?_)
    · skip
      refine c_skip ?_
      refine th_n ?_
      refine c_seq ?_
      refine c_block ?_
      refine c_seq ?_
      refine c_region ?_
      have hi9 : i < t.kids.length := by omega
      refine stepP (p_idxS (s := 68) (j := i) Tryd.underlying44 Tryd.sizeOf29 h rfl rfl ht.kids.sl (by omega) hi9) h rfl fun a w h => ?_
      refine stepP (p_loadA (vs := ((kidAt t.kids i).at (vkAt x.kvs i)).cells) Tryd.isAgg29 (fun w => by rw [Tryd.sizeOf29, KidV.Ok.length (ht.kids.ok hi9)]) h rfl (ht.kids.cels hi9)) h rfl fun a w h => ?_
      refine stepO (o_alloc (l := Tryd.zeroCells29.toList) Tryd.zeroValue29 rfl h) h.env rfl ?_
      rintro b10 _ a w h
      refine stepN (o_storeA (kk := 0) (vs := ((kidAt t.kids i).at (vkAt x.kvs i)).cells) (cs' := ((kidAt t.kids i).at (vkAt x.kvs i)).cells) (fun w => by rw [Tryd.sizeOf29, (ht.kids.ok hi9).length]) h rfl rfl rfl (KidV.Ok.one (ht.kids.ok hi9)) rfl (by rw [(ht.kids.ok hi9).length]; simp [Tryd.zeroCells29_size]) (by rw [(ht.kids.ok hi9).length]; simp [(ht.kids.ok hi9).length, Tryd.zeroCells29_size, List.drop_of_length_le])) h.env fun a w h => ?_
      refine stepEnd ?_
      have hi2 : i < t.kids.length := by omega
      have hkk := ht.kids.ok hi2
      have hkl2 := hkl i hi2
      refine th_n ?_
      refine c_seq ?_
      refine c_region ?_
      refine stepP (p_fieldAddr (r := 1) Tryd.underlying29 rfl Tryd.sizeOf22 rfl rfl h rfl) h rfl fun a w h => ?_
      refine stepP (p_load (v := (vkAt x.kvs i)) Tryd.isAgg22 h rfl (Cel.own (k := 0) rfl rfl)) h rfl fun a w h => ?_
      refine stepO (Enter.opT (o_call Tryd.call16 h rfl) (call_out0 h.own (c_CopyBytes h.own.lend0 (hkk.key.mono h.own.le0) (by omega)))) h.env rfl ?_
      rintro b11 _ a w h
      refine stepP (p_fieldAddr (r := 1) Tryd.underlying29 rfl Tryd.sizeOf22 rfl rfl h rfl) h rfl fun a w h => ?_
      refine stepN (o_store (kk := 1) (cs' := ((kidAt t.kids i).at (slc b11 0 (kidAt t.kids i).key.length (kidAt t.kids i).key.length)).cells) Tryd.sizeOf22 h rfl rfl rfl rfl rfl (by rw [kid_len hkk]; decide) rfl) h.env fun a w h => ?_
      refine stepEnd ?_
      refine th_n ?_
      refine c_region ?_
      refine stepP (p_fieldAddr (r := 35) Tryd.underlying46 rfl Tryd.sizeOf44 rfl rfl h rfl) h rfl fun a w h => ?_
      refine stepP (p_load (v := v) Tryd.isAgg44 h rfl (Cel.own (k := 2) rfl (tow_kidsAt ht.sum))) h rfl fun a w h => ?_
      refine stepP (p_loadA (vs := ((kidAt t.kids i).at (slc b11 0 (kidAt t.kids i).key.length (kidAt t.kids i).key.length)).cells) Tryd.isAgg29 (fun w => by rw [Tryd.sizeOf29, kid_len hkk]) h rfl (Cels.all (k := 1) rfl)) h rfl fun a w h => ?_
      refine stepO (o_buildSlice_one (vs := ((kidAt t.kids i).at (slc b11 0 (kidAt t.kids i).key.length (kidAt t.kids i).key.length)).cells) Tryd.underlying44 Tryd.sizeOf29 Tryd.zeroValue29 (by kernel_rfl) h rfl rfl (kid_len hkk _) rfl rfl) h.env rfl ?_
      rintro b12 _ a w h
      replace h := St.perm (L := ([(b12, row 29 (((kidAt t.kids i).at (slc b11 0 (kidAt t.kids i).key.length (kidAt t.kids i).key.length)).cells)), (b11, row 5 ((kidAt t.kids i).key.map B)), (b10, row 29 (((kidAt t.kids i).at (slc b11 0 (kidAt t.kids i).key.length (kidAt t.kids i).key.length)).cells)), (b3, row 46 (t.cells ⟨slc bk 0 t.key.length t.key.length, v, []⟩)), (b2, row 46 ((⟨false, [], zeroS, 0, []⟩ : TowP).cells ⟨nilS, nilS, []⟩))] ++ Lk) ++ Lv) h (List.perm_append_comm (l₁ := [(b12, row 29 (((kidAt t.kids i).at (slc b11 0 (kidAt t.kids i).key.length (kidAt t.kids i).key.length)).cells)), (b11, row 5 ((kidAt t.kids i).key.map B)), (b10, row 29 (((kidAt t.kids i).at (slc b11 0 (kidAt t.kids i).key.length (kidAt t.kids i).key.length)).cells)), (b3, row 46 (t.cells ⟨slc bk 0 t.key.length t.key.length, v, []⟩)), (b2, row 46 ((⟨false, [], zeroS, 0, []⟩ : TowP).cells ⟨nilS, nilS, []⟩))] ++ Lk) (l₂ := Lv))
      refine stepO (o_append (Lv := Lv) (Lr := [(b12, row 29 (((kidAt t.kids i).at (slc b11 0 (kidAt t.kids i).key.length (kidAt t.kids i).key.length)).cells)), (b11, row 5 ((kidAt t.kids i).key.map B)), (b10, row 29 (((kidAt t.kids i).at (slc b11 0 (kidAt t.kids i).key.length (kidAt t.kids i).key.length)).cells)), (b3, row 46 (t.cells ⟨slc bk 0 t.key.length t.key.length, v, []⟩)), (b2, row 46 ((⟨false, [], zeroS, 0, []⟩ : TowP).cells ⟨nilS, nilS, []⟩))] ++ Lk) (s := 68) (l := i) (q := 1) (news := ((kidAt t.kids i).at (slc b11 0 (kidAt t.kids i).key.length (kidAt t.kids i).key.length)).cells) Tryd.underlying44 Tryd.type29 rfl rfl (by kernel_rfl) (by decide) h rfl hvec rfl (.inr ⟨_, _, _, rfl, Cels.mem (T := 29) (cs := ((kidAt t.kids i).at (slc b11 0 (kidAt t.kids i).key.length (kidAt t.kids i).key.length)).cells) (by simp)⟩) (kid_len hkk _) (kid_one hkk rfl) (by unfold maxLen; omega) (by show _ * 112 ≤ _; omega)) h.env rfl ?_
      rintro ⟨v13, Lv14⟩ hvec15 a w h
      replace h := St.perm (L' := ([(b12, row 29 (((kidAt t.kids i).at (slc b11 0 (kidAt t.kids i).key.length (kidAt t.kids i).key.length)).cells)), (b11, row 5 ((kidAt t.kids i).key.map B)), (b10, row 29 (((kidAt t.kids i).at (slc b11 0 (kidAt t.kids i).key.length (kidAt t.kids i).key.length)).cells)), (b3, row 46 (t.cells ⟨slc bk 0 t.key.length t.key.length, v, []⟩)), (b2, row 46 ((⟨false, [], zeroS, 0, []⟩ : TowP).cells ⟨nilS, nilS, []⟩))] ++ Lk) ++ Lv14) h (List.perm_append_comm (l₁ := Lv14) (l₂ := [(b12, row 29 (((kidAt t.kids i).at (slc b11 0 (kidAt t.kids i).key.length (kidAt t.kids i).key.length)).cells)), (b11, row 5 ((kidAt t.kids i).key.map B)), (b10, row 29 (((kidAt t.kids i).at (slc b11 0 (kidAt t.kids i).key.length (kidAt t.kids i).key.length)).cells)), (b3, row 46 (t.cells ⟨slc bk 0 t.key.length t.key.length, v, []⟩)), (b2, row 46 ((⟨false, [], zeroS, 0, []⟩ : TowP).cells ⟨nilS, nilS, []⟩))] ++ Lk))
      replace h := St.perm (L' := [(b12, row 29 (((kidAt t.kids i).at (slc b11 0 (kidAt t.kids i).key.length (kidAt t.kids i).key.length)).cells)), (b11, row 5 ((kidAt t.kids i).key.map B)), (b10, row 29 (((kidAt t.kids i).at (slc b11 0 (kidAt t.kids i).key.length (kidAt t.kids i).key.length)).cells)), (b3, row 46 (t.cells ⟨slc bk 0 t.key.length t.key.length, v, []⟩)), (b2, row 46 ((⟨false, [], zeroS, 0, []⟩ : TowP).cells ⟨nilS, nilS, []⟩))] ++ (Lk ++ Lv14)) h (by simp)
      refine stepP (p_fieldAddr (r := 35) Tryd.underlying46 rfl Tryd.sizeOf44 rfl rfl h rfl) h rfl fun a w h => ?_
      refine stepN (o_store (kk := 3) (cs' := t.cells ⟨slc bk 0 t.key.length t.key.length, v13, []⟩) Tryd.sizeOf44 h rfl rfl (vec_one hvec15).1 (vec_one hvec15).2 rfl (by rw [tow_len ht.sum]; decide) (kids_set ht.sum)) h.env fun a w h => ?_
      refine stepEnd ?_
      refine bl_n ?_
      refine th_n ?_
      have hkeys2 := Keys.next (b := b11) (T := 5) (p := (kidAt t.kids i)) hkeys (by unfold maxLen; omega)
      rw [← take_next hi2] at hkeys2
      have hvec2 := hvec15.cast rfl (kcells_append (kidAt t.kids i) (slc b11 0 (kidAt t.kids i).key.length (kidAt t.kids i).key.length) hkeys.1).symm
      rw [← take_next hi2] at hvec2
      replace h := St.pickL (A := [(b12, row 29 (((kidAt t.kids i).at (slc b11 0 (kidAt t.kids i).key.length (kidAt t.kids i).key.length)).cells)), (b11, row 5 ((kidAt t.kids i).key.map B)), (b10, row 29 (((kidAt t.kids i).at (slc b11 0 (kidAt t.kids i).key.length (kidAt t.kids i).key.length)).cells)), (b3, row 46 (t.cells ⟨slc bk 0 t.key.length t.key.length, v13, []⟩)), (b2, row 46 ((⟨false, [], zeroS, 0, []⟩ : TowP).cells ⟨nilS, nilS, []⟩))]) (R := Lk ++ Lv14) (xs := [(b3, row 46 (t.cells ⟨slc bk 0 t.key.length t.key.length, v13, []⟩)), (b2, row 46 ((⟨false, [], zeroS, 0, []⟩ : TowP).cells ⟨nilS, nilS, []⟩)), (b11, row 5 ((kidAt t.kids i).key.map B))]) h [3, 4, 1] (by decide) rfl
      refine c_region ?_
      refine stepP (p_add h rfl rfl (wi (by omega))) h rfl fun a w h => ?_
      refine stepP (p_move h rfl) h rfl fun a w h => ?_
      refine stepEnd ?_
      exact th_n ⟨_, by omega, i + 1, _, _, _, _, rfl, by omega, hkeys2, hvec2, h.to rfl ⟨rfl, rfl, rfl, (look_int rfl (by first | rfl | omega)), (look_int rfl (by first | rfl | omega)), trivial⟩⟩
    · skip
      refine c_exit (th_e (th_e (exit_at ?_)))
      refine th_n ?_
      refine c_seq ?_
      have hin : i = t.kids.length := by omega
      subst hin
      rw [List.take_length] at hkeys hvec
      refine c_region ?_
      refine stepP (p_loadA (vs := t.cells ⟨slc bk 0 t.key.length t.key.length, v, []⟩) Tryd.isAgg46 (fun w => by rw [Tryd.sizeOf46, tow_len ht.sum]) h rfl (Cels.all (k := 0) rfl)) h rfl fun a w h => ?_
      refine stepN (o_storeA (kk := 1) (vs := t.cells ⟨slc bk 0 t.key.length t.key.length, v, []⟩) (cs' := t.cells ⟨slc bk 0 t.key.length t.key.length, v, []⟩) (fun w => by rw [Tryd.sizeOf46, (tow_len (x := ⟨slc bk 0 t.key.length t.key.length, v, []⟩) ht.sum)]) h rfl rfl rfl (tow_one rfl (vec_one hvec).2) rfl (by rw [(tow_len (x := ⟨slc bk 0 t.key.length t.key.length, v, []⟩) ht.sum)]; simp [tow_len (t := ⟨false, [], zeroS, 0, []⟩) rfl]) (by rw [(tow_len (x := ⟨slc bk 0 t.key.length t.key.length, v, []⟩) ht.sum)]; simp [(tow_len (x := ⟨slc bk 0 t.key.length t.key.length, v, []⟩) ht.sum), tow_len (t := ⟨false, [], zeroS, 0, []⟩) rfl, List.drop_of_length_le])) h.env fun a w h => ?_
      refine stepEnd ?_
      refine th_n ?_
      refine c_ret ?_
      exact finC (.inl rfl) h (vs := t.cells ⟨slc bk 0 t.key.length t.key.length, v, []⟩) rfl Tryd.isAgg46 (fun w => by rw [Tryd.sizeOf46, tow_len ht.sum]) rfl (Cels.all (k := 1) rfl) ⟨(⟨slc bk 0 t.key.length t.key.length, v, kvs⟩, Lk ++ Lv), rfl, (h.own.sub (by simp)).weaken hle, TowOk.copied ht hkeys hvec⟩

end Go.Proofs.YtkklgmhmhhbjkaaDoor
