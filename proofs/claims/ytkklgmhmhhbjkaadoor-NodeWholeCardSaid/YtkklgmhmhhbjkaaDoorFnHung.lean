/-
  WHAT EACH CALL COMES TO: towers as they hang. Printed by the own generator (wip/gen), one law of the own library for each operation.
-/
import Derived.Test.YtkklgmhmhhbjkaaDoorKitW
import Derived.Test.YtkklgmhmhhbjkaaDoorProg
import Derived.Test.YtkklgmhmhhbjkaaDoorFnA
import Derived.Test.YtkklgmhmhhbjkaaDoorFnHei
import Derived.Test.YtkklgmhmhhbjkaaDoorFnTow
import Derived.Test.YtkklgmhmhhbjkaaDoorFnLab
import Derived.Test.YtkklgmhmhhbjkaaDoorFnHang
import Derived.Test.YtkklgmhmhhbjkaaDoorFnRoot
namespace Go.Proofs.YtkklgmhmhhbjkaaDoor
open Go Go.Own Go.Proofs
set_option maxRecDepth 100000
set_option linter.unusedVariables false

theorem c_dOf2 {S : World} {hf : Hp} {w : World} (ho : Owns S hf [] w) {vl v1 v2 : Value} {l1 l2 : List UInt8} (hl : Sl hf 1 vl 2 [v1, v2]) (h1 : Byts hf v1 l1) (h2 : Byts hf v2 l2) (hk : RoundsAt 3 hf) (hf1 : FirstAt 1 hf) (hb : l1.length + l2.length ≤ 140737488355300) :
    Calls Tryd.prog 44 [vl].toArray w (RetV S hf [] (sumV (sha (l1 ++ l2)))) := by
  have := c_dOf (ls := [l1, l2]) ho hl (BytsAll.cons h1 (BytsAll.cons h2 BytsAll.nil)) hk hf1 (by simpa using hb)
  simpa using this

theorem c_nCountU {S : World} {hf : Hp} {w : World} (ho : Owns S hf [] w) {e : EntP} {g : List EntP} {x : TowV} (ht : TowOk hf (hungT (towE e) g) x) (hg : g.length + 1 < 18446744073709551616) :
    Calls Tryd.prog 35 [(hungT (towE e) g).val x].toArray w (RetV S hf [] (.int .u64 ((g.length + 1 : Nat) : Int))) := by
  have := c_nCount ho ht
  rwa [hungT_count hg] at this

theorem c_nLabelU {S : World} {hf : Hp} {w : World} (ho : Owns S hf [] w) {e : EntP} {g : List EntP} {x : TowV} (ht : TowOk hf (hungT (towE e) g) x) (hb : e.key.length ≤ 140737488351232) (hbk : ∀ p ∈ (hungT (towE e) g).kids, p.key.length ≤ 140737488351232) (htg : TagsAt 0 hf) (hk : RoundsAt 3 hf) (hf1 : FirstAt 1 hf) :
    Calls Tryd.prog 33 [(hungT (towE e) g).val x].toArray w (RetV S hf [] (sumV (hangL (leafD e) g))) := by
  have := c_nLabel ho ht hb hbk htg hk hf1
  rwa [hungT_label] at this


set_option maxHeartbeats 2000000 in
theorem c_hungN (n : Nat) : ∀ {S : World} {hf0 hf : Hp} {w : World} (_ : Owns S hf [] w) (_ : hf0.le hf) {t : TowP} {x : TowV} (_ : TowOk hf0 t x) (_ : t.kids = []) (_ : x.kids = nilS) (_ : TagsAt 0 hf) (_ : RoundsAt 3 hf) (_ : FirstAt 1 hf) {es : List EntP} {v : Value} {evs : List EntV} (_ : EntsOk hf0 es v evs) (_ : ∀ e ∈ es, e.key.length ≤ 1024 ∧ e.val.length ≤ 65536) (_ : es.length < n),
    Calls Tryd.prog 43 [t.val x, v].toArray w (Ret S hf (fun y : TowV × Res => (hungT t es).val y.1) (fun y => y.2) (fun y => ∀ hf' : Hp, hf0.le hf' → (∀ b o, (b, o) ∈ y.2 → hf' b = some o) → TowOk hf' (hungT t es) y.1)) := by
  induction n with
  | zero => intros; omega
  | succ nn ih =>
    intro S hf0 hf w ho h0 t x ht0 hkn hxk htg hk hf1 es v evs hes0 hbe hlt
    have ht := ht0.mono h0
    have hes := hes0.mono h0
    have hts := ht.sum
    have hmany := hes.many
    refine enter (n := 76) (E := [(0, _), (1, _)]) Tryd.func43 rfl Tryd.ntmps43 rfl rfl ho fun a h => ?_
    refine c_seq ?_
    refine c_region ?_
    refine stepO (o_box (l := t.cells x) h rfl rfl) h.env rfl ?_
    rintro b1 _ a w h
    refine stepO (o_alloc (l := ((⟨false, [], zeroS, 0, []⟩ : TowP).cells ⟨nilS, nilS, []⟩)) Tryd.zeroValue46 rfl h) h.env rfl ?_
    rintro b2 _ a w h
    refine stepEnd ?_
    have e0 : t.cells x = t.cells ⟨x.key, nilS, []⟩ := by unfold TowP.cells; rw [hxk]
    rw [e0] at h
    refine th_n ?_
    refine c_seq ?_
    refine c_region ?_
    refine stepP (p_assign h rfl) h rfl fun a w h => ?_
    refine stepEnd ?_
    refine th_n ?_
    refine c_seq ?_
    refine c_seq ?_
    refine c_region ?_
    refine stepP (p_assign h rfl) h rfl fun a w h => ?_
    refine stepEnd ?_
    replace h := St.perm (L' := [(b2, row 46 ((⟨false, [], zeroS, 0, []⟩ : TowP).cells ⟨nilS, nilS, []⟩)), (b1, row 46 (t.cells ⟨x.key, nilS, []⟩))] ++ []) h (by rw [List.append_nil])
    refine th_n ?_
    refine c_block ?_
    refine c_loop (fun m a w => ∃ (i m2 ph : Nat) (kv : Value) (ks : List KidP) (kvs : List Value) (Lv : Res), m = es.length - i ∧ i ≤ es.length ∧ kidsOf es = ks ++ kidsOf (es.drop i) ∧ Vec 29 68 kv m2 (kcells ks kvs) Lv ∧ ks.length = m2 ∧ kvs.length = ks.length ∧ EachOk hf0 ks kvs ∧ m2 ≤ ph ∧ ph ≤ 24 ∧ (i = es.length ∨ ph < hgt (entAt es i)) ∧ St S hf ([(b2, row 46 ((⟨false, [], zeroS, 0, []⟩ : TowP).cells ⟨nilS, nilS, []⟩))] ++ ([(b1, row 46 (t.cells ⟨x.key, nilS, []⟩))] ++ (Lv))) 76 [(1, v), (2, ptr b1 0), (4, ptr b2 0), (5, kv), (6, .int .i64 ((i : Nat) : Int))] a w) (N := es.length - 0) ⟨0, 0, 0, nilS, [], [], [], rfl, by omega, rfl, ⟨rfl, .inl ⟨rfl, rfl, rfl⟩⟩, rfl, rfl, each_nil, by omega, by omega, .inr (hgt_lo _), h.to rfl ⟨rfl, rfl, rfl, rfl, (look_int rfl (by first | rfl | omega)), trivial⟩⟩ ?_
    clear h
    rintro m a w ⟨i, m2, ph, kv, ks, kvs, Lv, rfl, hi, hgo, hvec, hml, hkl, hok, hlo, hph, hnx, h⟩
    refine c_seq ?_
    refine c_seq ?_
    refine c_region ?_
    refine stepP (p_move h rfl) h rfl fun a w h => ?_
    refine stepP (p_move h rfl) h rfl fun a w h => ?_
    refine stepP (p_lenS Tryd.underlying57 h rfl hes.sl) h rfl fun a w h => ?_
    refine stepP (p_lss h rfl rfl) h rfl fun a w h => ?_
    refine stepEnd ?_
    refine th_n ?_
    refine c_cond rfl h (fun hc3 => ?_) (fun hc3 => ?_)
    · skip
      refine c_skip ?_
      refine th_n ?_
      refine c_block ?_
      refine c_seq ?_
      have hil : i < es.length := by omega
      obtain ⟨hri, hre, _, _, _⟩ := reach_group hil
      have hkeyi := hes.key hil
      have hkeyi0 := hes0.key hil
      have hvali := hes.val hil
      have hbei := hbe _ (entAt_mem hil)
      have hgl := sub_len (lo := i + 1) (hi := (reachP es i)) (by omega) hre
      have hph2 := hgt_hi (entAt es i)
      have hph1 := hgt_lo (entAt es i)
      have hone := hkeyi.one
      refine c_region ?_
      refine stepP (p_move h rfl) h rfl fun a w h => ?_
      refine stepP (p_move h rfl) h rfl fun a w h => ?_
      refine stepV (Enter.opT (o_call Tryd.call68 h rfl) (call_val0 h.own (c_reach h.own.lend0 (hes.mono h.own.le0) hbe (htg.mono h.own.le0) (hk.mono h.own.le0) (hf1.mono h.own.le0) hil))) h.env rfl fun a w h => ?_
      refine stepP (p_assign h rfl) h rfl fun a w h => ?_
      refine stepEnd ?_
      refine th_n ?_
      refine c_cut (fun a w => ∃ (b8 : Nat) (yy : TowV) (Ly : Res), (∀ hf' : Hp, hf0.le hf' → (∀ b o, (b, o) ∈ Ly → hf' b = some o) → TowOk hf' (hungT (towE (entAt es i)) ((es.drop (i + 1)).take (reachP es i - (i + 1)))) yy) ∧ St S hf ([(b8, row 46 ((hungT (towE (entAt es i)) ((es.drop (i + 1)).take (reachP es i - (i + 1)))).cells yy))] ++ ([(b2, row 46 ((⟨false, [], zeroS, 0, []⟩ : TowP).cells ⟨nilS, nilS, []⟩))] ++ ([(b1, row 46 (t.cells ⟨x.key, nilS, []⟩))] ++ (Lv ++ (Ly))))) 76 [(1, v), (2, ptr b1 0), (4, ptr b2 0), (5, kv), (6, .int .i64 ((i : Nat) : Int)), (7, .int .i64 (((reachP es i) : Nat) : Int)), (8, ptr b8 0)] a w) ?_ ?_
      · skip
        refine any_begin (N := 23) (by kernel_rfl) rfl h ?_
        clear h; intro w h
        refine any_take (i := 0) rfl (by kernel_rfl) (fun _ _ _ _ h => h) h rfl (fun w h => p_move h rfl) fun a h => ?_
        refine any_take (i := 1) rfl (by kernel_rfl) (fun _ _ _ _ h => h) h rfl (fun w h => p_move h rfl) fun a h => ?_
        have hi4 : i < es.length := by omega
        refine any_take (i := 2) rfl (by kernel_rfl) (fun _ _ _ _ h => h) h rfl (fun w h => p_idxS (s := 2) (j := i) Tryd.underlying57 Tryd.sizeOf65 h rfl rfl hes.sl (by omega) hi4) fun a h => ?_
        refine any_take (i := 3) rfl (by kernel_rfl) (fun _ _ _ _ h => h) h rfl (fun w h => p_fieldAddr (r := sOff v + i * 2) Tryd.underlying65 rfl Tryd.sizeOf22 rfl rfl h rfl) fun a h => ?_
        refine any_take (i := 4) rfl (by kernel_rfl) (fun _ _ _ _ h => h) h rfl (fun w h => p_load (v := (evAt evs i).1) Tryd.isAgg22 h rfl ((hes.cels hi4) 0 _ rfl)) fun a h => ?_
        refine any_take (i := 6) rfl (by kernel_rfl) (fun _ _ _ _ h => h) h rfl (fun w h => p_move h rfl) fun a h => ?_
        refine any_take (i := 7) rfl (by kernel_rfl) (fun _ _ _ _ h => h) h rfl (fun w h => p_move h rfl) fun a h => ?_
        have hi5 : i < es.length := by omega
        refine any_take (i := 8) rfl (by kernel_rfl) (fun _ _ _ _ h => h) h rfl (fun w h => p_idxS (s := 2) (j := i) Tryd.underlying57 Tryd.sizeOf65 h rfl rfl hes.sl (by omega) hi5) fun a h => ?_
        refine any_take (i := 9) rfl (by kernel_rfl) (fun _ _ _ _ h => h) h rfl (fun w h => p_fieldAddr (r := sOff v + i * 2 + 1) Tryd.underlying65 rfl Tryd.sizeOf22 rfl rfl h rfl) fun a h => ?_
        refine any_take (i := 10) rfl (by kernel_rfl) (fun _ _ _ _ h => h) h rfl (fun w h => p_load (v := (evAt evs i).2) Tryd.isAgg22 h rfl ((hes.cels hi5) 1 _ rfl)) fun a h => ?_
        refine any_take (i := 15) rfl (by kernel_rfl) (fun _ _ _ _ h => h) h rfl (fun w h => p_move h rfl) fun a h => ?_
        refine any_take (i := 16) rfl (by kernel_rfl) (fun _ _ _ _ h => h) h rfl (fun w h => p_move h rfl) fun a h => ?_
        refine any_take (i := 17) rfl (by kernel_rfl) (fun _ _ _ _ h => h) h rfl (fun w h => p_add h rfl rfl (wi (by omega))) fun a h => ?_
        refine any_take (i := 18) rfl (by kernel_rfl) (fun _ _ _ _ h => h) h rfl (fun w h => p_move h rfl) fun a h => ?_
        refine any_take (i := 19) rfl (by kernel_rfl) (fun _ _ _ _ h => h) h rfl (fun w h => p_sliceS (lo := i + 1) (hi := (reachP es i)) Tryd.underlying57 Tryd.sizeOf65 h rfl rfl rfl hes.sl (by omega) (by omega) (by omega) (by omega)) fun a h => ?_
        refine any_all (rs := [5, 21]) (by kernel_rfl) rfl ?_
        intro i hi6
        simp only [List.mem_cons, List.not_mem_nil, or_false] at hi6
        rcases hi6 with rfl | rfl
        · skip
          refine any_O rfl h.env rfl (o_buildSlice (vs := ([1] : List UInt8).map B) Tryd.underlying22 Tryd.sizeOf5 Tryd.zeroValue5 h rfl rfl (by simp [Value.cells]) rfl rfl rfl) ?_
          rintro b7 _ a w h
          refine any_all (rs := [11, 21]) (by kernel_rfl) rfl ?_
          intro i hi8
          simp only [List.mem_cons, List.not_mem_nil, or_false] at hi8
          rcases hi8 with rfl | rfl
          · skip
            refine any_O rfl h.env rfl (o_buildSlice (vs := [slc b7 0 1 1, (evAt evs i).2]) Tryd.underlying39 Tryd.sizeOf22 Tryd.zeroValue22 h rfl rfl (two_cells rfl hvali) rfl rfl rfl) ?_
            rintro b9 _ a w h
            refine any_all (rs := [12, 21]) (by kernel_rfl) rfl ?_
            intro i hi10
            simp only [List.mem_cons, List.not_mem_nil, or_false] at hi10
            rcases hi10 with rfl | rfl
            · skip
              refine any_V rfl h.env rfl (Enter.opT (o_call Tryd.call44 h rfl) (call_val0 h.own (c_dOf2 h.own.lend0 (Sl.row (s := 1) (o := 0) (cap := 2) (n := 2) (cs := [slc b7 0 1 1, (evAt evs i).2]) (h.own.in0 (k := 0) rfl) rfl rfl (by decide) (by decide)) (byts_block (l := [1]) (h.own.in0 (k := 1) rfl) (by decide)) (hvali.mono h.own.le0) (hk.mono h.own.le0) (hf1.mono h.own.le0) (by have := hbei.2; simp; omega)))) fun a w h => ?_
              refine any_take (i := 13) rfl (by kernel_rfl) (fun _ _ _ _ h => h) h rfl (fun w h => p_build (pl := [(0, 32), (32, 1)]) (out := addrC (valD (entAt es i)) 0) Tryd.underlying27 Tryd.type27 rfl (by kernel_rfl) h rfl (addr_filled (valD_length _) rfl)) fun a h => ?_
              refine any_take (i := 14) rfl (by kernel_rfl) (fun _ _ _ _ h => h) h rfl (fun w h => p_build (pl := [(0, 1), (1, 1), (2, 33), (35, 1)]) (out := (towE (entAt es i)).cells ⟨(evAt evs i).1, nilS, []⟩) Tryd.underlying46 Tryd.type46 rfl (by kernel_rfl) h rfl (tow_filled2 (t := towE (entAt es i)) (valD_length _) hkeyi.cells1 rfl rfl)) fun a h => ?_
              refine any_all (rs := [20, 21]) (by kernel_rfl) rfl ?_
              intro i hi11
              simp only [List.mem_cons, List.not_mem_nil, or_false] at hi11
              rcases hi11 with rfl | rfl
              · skip
                refine any_O rfl h.env rfl (Enter.opT (o_call Tryd.call43 h rfl) (call_out0 h.own (ih h.own.lend0 (Hp.le_trans h0 h.own.le0) (towE_ok hkeyi0) rfl rfl (htg.mono h.own.le0) (hk.mono h.own.le0) (hf1.mono h.own.le0) (hes0.sub (lo := i + 1) (hi := (reachP es i)) (by omega) (by omega)) (fun f hf => hbe f (sub_mem hf)) (by rw [hgl]; omega)))) ?_
                rintro ⟨yy11, Ly12⟩ hyy13 a w h
                replace h := St.perm (L' := ([(b9, row 22 ([slc b7 0 1 1, (evAt evs i).2])), (b7, row 5 (([1] : List UInt8).map B)), (b2, row 46 ((⟨false, [], zeroS, 0, []⟩ : TowP).cells ⟨nilS, nilS, []⟩)), (b1, row 46 (t.cells ⟨x.key, nilS, []⟩))] ++ Lv) ++ Ly12) h (List.perm_append_comm (l₁ := Ly12) (l₂ := [(b9, row 22 ([slc b7 0 1 1, (evAt evs i).2])), (b7, row 5 (([1] : List UInt8).map B)), (b2, row 46 ((⟨false, [], zeroS, 0, []⟩ : TowP).cells ⟨nilS, nilS, []⟩)), (b1, row 46 (t.cells ⟨x.key, nilS, []⟩))] ++ Lv))
                replace h := St.perm (L' := [(b9, row 22 ([slc b7 0 1 1, (evAt evs i).2])), (b7, row 5 (([1] : List UInt8).map B)), (b2, row 46 ((⟨false, [], zeroS, 0, []⟩ : TowP).cells ⟨nilS, nilS, []⟩)), (b1, row 46 (t.cells ⟨x.key, nilS, []⟩))] ++ (Lv ++ Ly12)) h (by simp)
                have hyy := hyy13
                refine any_one (i := 21) (by kernel_rfl) ?_
                refine any_O rfl h.env rfl (o_alloc (l := ((⟨false, [], zeroS, 0, []⟩ : TowP).cells ⟨nilS, nilS, []⟩)) Tryd.zeroValue46 rfl h) ?_
                rintro b14 _ a w h
                have htw : TowOk _ (hungT (towE (entAt es i)) ((es.drop (i + 1)).take (reachP es i - (i + 1)))) yy11 := hyy _ (Hp.le_trans h0 h.own.le0) (fun b o m => h.own.in0M (List.mem_append_right [(b14, row 46 ((⟨false, [], zeroS, 0, []⟩ : TowP).cells ⟨nilS, nilS, []⟩)), (b9, row 22 ([slc b7 0 1 1, (evAt evs i).2])), (b7, row 5 (([1] : List UInt8).map B)), (b2, row 46 ((⟨false, [], zeroS, 0, []⟩ : TowP).cells ⟨nilS, nilS, []⟩)), (b1, row 46 (t.cells ⟨x.key, nilS, []⟩))] (List.mem_append_right Lv m)))
                refine any_one (i := 22) (by kernel_rfl) ?_
                refine any_N rfl h.env (o_storeA (kk := 0) (vs := (hungT (towE (entAt es i)) ((es.drop (i + 1)).take (reachP es i - (i + 1)))).cells yy11) (cs' := (hungT (towE (entAt es i)) ((es.drop (i + 1)).take (reachP es i - (i + 1)))).cells yy11) (fun w => by rw [Tryd.sizeOf46, htw.length]) h rfl rfl rfl htw.one rfl (by rw [htw.length]; simp [tow_len (t := ⟨false, [], zeroS, 0, []⟩) rfl]) (by rw [htw.length]; simp [htw.length, tow_len (t := ⟨false, [], zeroS, 0, []⟩) rfl, List.drop_of_length_le])) fun a w h => ?_
                refine any_end (by kernel_rfl) ?_
                replace h := St.pickL (A := [(b14, row 46 ((hungT (towE (entAt es i)) ((es.drop (i + 1)).take (reachP es i - (i + 1)))).cells yy11)), (b9, row 22 ([slc b7 0 1 1, (evAt evs i).2])), (b7, row 5 (([1] : List UInt8).map B)), (b2, row 46 ((⟨false, [], zeroS, 0, []⟩ : TowP).cells ⟨nilS, nilS, []⟩)), (b1, row 46 (t.cells ⟨x.key, nilS, []⟩))]) (R := Lv ++ Ly12) (xs := [(b14, row 46 ((hungT (towE (entAt es i)) ((es.drop (i + 1)).take (reachP es i - (i + 1)))).cells yy11)), (b2, row 46 ((⟨false, [], zeroS, 0, []⟩ : TowP).cells ⟨nilS, nilS, []⟩)), (b1, row 46 (t.cells ⟨x.key, nilS, []⟩))]) h [0, 3, 4] (by decide) rfl
                exact th_n ⟨b14, yy11, Ly12, hyy, h.to rfl ⟨rfl, rfl, rfl, rfl, (look_int rfl (by first | rfl | omega)), (look_int rfl (by first | rfl | omega)), rfl, trivial⟩⟩
              · skip
                refine any_O rfl h.env rfl (o_alloc (l := ((⟨false, [], zeroS, 0, []⟩ : TowP).cells ⟨nilS, nilS, []⟩)) Tryd.zeroValue46 rfl h) ?_
                rintro b15 _ a w h
                refine any_one (i := 20) (by kernel_rfl) ?_
                refine any_O rfl h.env rfl (Enter.opT (o_call Tryd.call43 h rfl) (call_out0 h.own (ih h.own.lend0 (Hp.le_trans h0 h.own.le0) (towE_ok hkeyi0) rfl rfl (htg.mono h.own.le0) (hk.mono h.own.le0) (hf1.mono h.own.le0) (hes0.sub (lo := i + 1) (hi := (reachP es i)) (by omega) (by omega)) (fun f hf => hbe f (sub_mem hf)) (by rw [hgl]; omega)))) ?_
                rintro ⟨yy15, Ly16⟩ hyy17 a w h
                replace h := St.perm (L' := ([(b15, row 46 ((⟨false, [], zeroS, 0, []⟩ : TowP).cells ⟨nilS, nilS, []⟩)), (b9, row 22 ([slc b7 0 1 1, (evAt evs i).2])), (b7, row 5 (([1] : List UInt8).map B)), (b2, row 46 ((⟨false, [], zeroS, 0, []⟩ : TowP).cells ⟨nilS, nilS, []⟩)), (b1, row 46 (t.cells ⟨x.key, nilS, []⟩))] ++ Lv) ++ Ly16) h (List.perm_append_comm (l₁ := Ly16) (l₂ := [(b15, row 46 ((⟨false, [], zeroS, 0, []⟩ : TowP).cells ⟨nilS, nilS, []⟩)), (b9, row 22 ([slc b7 0 1 1, (evAt evs i).2])), (b7, row 5 (([1] : List UInt8).map B)), (b2, row 46 ((⟨false, [], zeroS, 0, []⟩ : TowP).cells ⟨nilS, nilS, []⟩)), (b1, row 46 (t.cells ⟨x.key, nilS, []⟩))] ++ Lv))
                replace h := St.perm (L' := [(b15, row 46 ((⟨false, [], zeroS, 0, []⟩ : TowP).cells ⟨nilS, nilS, []⟩)), (b9, row 22 ([slc b7 0 1 1, (evAt evs i).2])), (b7, row 5 (([1] : List UInt8).map B)), (b2, row 46 ((⟨false, [], zeroS, 0, []⟩ : TowP).cells ⟨nilS, nilS, []⟩)), (b1, row 46 (t.cells ⟨x.key, nilS, []⟩))] ++ (Lv ++ Ly16)) h (by simp)
                have hyy := hyy17
                have htw : TowOk _ (hungT (towE (entAt es i)) ((es.drop (i + 1)).take (reachP es i - (i + 1)))) yy15 := hyy _ (Hp.le_trans h0 h.own.le0) (fun b o m => h.own.in0M (List.mem_append_right [(b15, row 46 ((⟨false, [], zeroS, 0, []⟩ : TowP).cells ⟨nilS, nilS, []⟩)), (b9, row 22 ([slc b7 0 1 1, (evAt evs i).2])), (b7, row 5 (([1] : List UInt8).map B)), (b2, row 46 ((⟨false, [], zeroS, 0, []⟩ : TowP).cells ⟨nilS, nilS, []⟩)), (b1, row 46 (t.cells ⟨x.key, nilS, []⟩))] (List.mem_append_right Lv m)))
                refine any_one (i := 22) (by kernel_rfl) ?_
                refine any_N rfl h.env (o_storeA (kk := 0) (vs := (hungT (towE (entAt es i)) ((es.drop (i + 1)).take (reachP es i - (i + 1)))).cells yy15) (cs' := (hungT (towE (entAt es i)) ((es.drop (i + 1)).take (reachP es i - (i + 1)))).cells yy15) (fun w => by rw [Tryd.sizeOf46, htw.length]) h rfl rfl rfl htw.one rfl (by rw [htw.length]; simp [tow_len (t := ⟨false, [], zeroS, 0, []⟩) rfl]) (by rw [htw.length]; simp [htw.length, tow_len (t := ⟨false, [], zeroS, 0, []⟩) rfl, List.drop_of_length_le])) fun a w h => ?_
                refine any_end (by kernel_rfl) ?_
                replace h := St.pickL (A := [(b15, row 46 ((hungT (towE (entAt es i)) ((es.drop (i + 1)).take (reachP es i - (i + 1)))).cells yy15)), (b9, row 22 ([slc b7 0 1 1, (evAt evs i).2])), (b7, row 5 (([1] : List UInt8).map B)), (b2, row 46 ((⟨false, [], zeroS, 0, []⟩ : TowP).cells ⟨nilS, nilS, []⟩)), (b1, row 46 (t.cells ⟨x.key, nilS, []⟩))]) (R := Lv ++ Ly16) (xs := [(b15, row 46 ((hungT (towE (entAt es i)) ((es.drop (i + 1)).take (reachP es i - (i + 1)))).cells yy15)), (b2, row 46 ((⟨false, [], zeroS, 0, []⟩ : TowP).cells ⟨nilS, nilS, []⟩)), (b1, row 46 (t.cells ⟨x.key, nilS, []⟩))]) h [0, 3, 4] (by decide) rfl
                exact th_n ⟨b15, yy15, Ly16, hyy, h.to rfl ⟨rfl, rfl, rfl, rfl, (look_int rfl (by first | rfl | omega)), (look_int rfl (by first | rfl | omega)), rfl, trivial⟩⟩
            · skip
              refine any_O rfl h.env rfl (o_alloc (l := ((⟨false, [], zeroS, 0, []⟩ : TowP).cells ⟨nilS, nilS, []⟩)) Tryd.zeroValue46 rfl h) ?_
              rintro b18 _ a w h
              refine any_one (i := 12) (by kernel_rfl) ?_
              refine any_V rfl h.env rfl (Enter.opT (o_call Tryd.call44 h rfl) (call_val0 h.own (c_dOf2 h.own.lend0 (Sl.row (s := 1) (o := 0) (cap := 2) (n := 2) (cs := [slc b7 0 1 1, (evAt evs i).2]) (h.own.in0 (k := 1) rfl) rfl rfl (by decide) (by decide)) (byts_block (l := [1]) (h.own.in0 (k := 2) rfl) (by decide)) (hvali.mono h.own.le0) (hk.mono h.own.le0) (hf1.mono h.own.le0) (by have := hbei.2; simp; omega)))) fun a w h => ?_
              refine any_take (i := 13) rfl (by kernel_rfl) (fun _ _ _ _ h => h) h rfl (fun w h => p_build (pl := [(0, 32), (32, 1)]) (out := addrC (valD (entAt es i)) 0) Tryd.underlying27 Tryd.type27 rfl (by kernel_rfl) h rfl (addr_filled (valD_length _) rfl)) fun a h => ?_
              refine any_take (i := 14) rfl (by kernel_rfl) (fun _ _ _ _ h => h) h rfl (fun w h => p_build (pl := [(0, 1), (1, 1), (2, 33), (35, 1)]) (out := (towE (entAt es i)).cells ⟨(evAt evs i).1, nilS, []⟩) Tryd.underlying46 Tryd.type46 rfl (by kernel_rfl) h rfl (tow_filled2 (t := towE (entAt es i)) (valD_length _) hkeyi.cells1 rfl rfl)) fun a h => ?_
              refine any_one (i := 20) (by kernel_rfl) ?_
              refine any_O rfl h.env rfl (Enter.opT (o_call Tryd.call43 h rfl) (call_out0 h.own (ih h.own.lend0 (Hp.le_trans h0 h.own.le0) (towE_ok hkeyi0) rfl rfl (htg.mono h.own.le0) (hk.mono h.own.le0) (hf1.mono h.own.le0) (hes0.sub (lo := i + 1) (hi := (reachP es i)) (by omega) (by omega)) (fun f hf => hbe f (sub_mem hf)) (by rw [hgl]; omega)))) ?_
              rintro ⟨yy18, Ly19⟩ hyy20 a w h
              replace h := St.perm (L' := ([(b18, row 46 ((⟨false, [], zeroS, 0, []⟩ : TowP).cells ⟨nilS, nilS, []⟩)), (b9, row 22 ([slc b7 0 1 1, (evAt evs i).2])), (b7, row 5 (([1] : List UInt8).map B)), (b2, row 46 ((⟨false, [], zeroS, 0, []⟩ : TowP).cells ⟨nilS, nilS, []⟩)), (b1, row 46 (t.cells ⟨x.key, nilS, []⟩))] ++ Lv) ++ Ly19) h (List.perm_append_comm (l₁ := Ly19) (l₂ := [(b18, row 46 ((⟨false, [], zeroS, 0, []⟩ : TowP).cells ⟨nilS, nilS, []⟩)), (b9, row 22 ([slc b7 0 1 1, (evAt evs i).2])), (b7, row 5 (([1] : List UInt8).map B)), (b2, row 46 ((⟨false, [], zeroS, 0, []⟩ : TowP).cells ⟨nilS, nilS, []⟩)), (b1, row 46 (t.cells ⟨x.key, nilS, []⟩))] ++ Lv))
              replace h := St.perm (L' := [(b18, row 46 ((⟨false, [], zeroS, 0, []⟩ : TowP).cells ⟨nilS, nilS, []⟩)), (b9, row 22 ([slc b7 0 1 1, (evAt evs i).2])), (b7, row 5 (([1] : List UInt8).map B)), (b2, row 46 ((⟨false, [], zeroS, 0, []⟩ : TowP).cells ⟨nilS, nilS, []⟩)), (b1, row 46 (t.cells ⟨x.key, nilS, []⟩))] ++ (Lv ++ Ly19)) h (by simp)
              have hyy := hyy20
              have htw : TowOk _ (hungT (towE (entAt es i)) ((es.drop (i + 1)).take (reachP es i - (i + 1)))) yy18 := hyy _ (Hp.le_trans h0 h.own.le0) (fun b o m => h.own.in0M (List.mem_append_right [(b18, row 46 ((⟨false, [], zeroS, 0, []⟩ : TowP).cells ⟨nilS, nilS, []⟩)), (b9, row 22 ([slc b7 0 1 1, (evAt evs i).2])), (b7, row 5 (([1] : List UInt8).map B)), (b2, row 46 ((⟨false, [], zeroS, 0, []⟩ : TowP).cells ⟨nilS, nilS, []⟩)), (b1, row 46 (t.cells ⟨x.key, nilS, []⟩))] (List.mem_append_right Lv m)))
              refine any_one (i := 22) (by kernel_rfl) ?_
              refine any_N rfl h.env (o_storeA (kk := 0) (vs := (hungT (towE (entAt es i)) ((es.drop (i + 1)).take (reachP es i - (i + 1)))).cells yy18) (cs' := (hungT (towE (entAt es i)) ((es.drop (i + 1)).take (reachP es i - (i + 1)))).cells yy18) (fun w => by rw [Tryd.sizeOf46, htw.length]) h rfl rfl rfl htw.one rfl (by rw [htw.length]; simp [tow_len (t := ⟨false, [], zeroS, 0, []⟩) rfl]) (by rw [htw.length]; simp [htw.length, tow_len (t := ⟨false, [], zeroS, 0, []⟩) rfl, List.drop_of_length_le])) fun a w h => ?_
              refine any_end (by kernel_rfl) ?_
              replace h := St.pickL (A := [(b18, row 46 ((hungT (towE (entAt es i)) ((es.drop (i + 1)).take (reachP es i - (i + 1)))).cells yy18)), (b9, row 22 ([slc b7 0 1 1, (evAt evs i).2])), (b7, row 5 (([1] : List UInt8).map B)), (b2, row 46 ((⟨false, [], zeroS, 0, []⟩ : TowP).cells ⟨nilS, nilS, []⟩)), (b1, row 46 (t.cells ⟨x.key, nilS, []⟩))]) (R := Lv ++ Ly19) (xs := [(b18, row 46 ((hungT (towE (entAt es i)) ((es.drop (i + 1)).take (reachP es i - (i + 1)))).cells yy18)), (b2, row 46 ((⟨false, [], zeroS, 0, []⟩ : TowP).cells ⟨nilS, nilS, []⟩)), (b1, row 46 (t.cells ⟨x.key, nilS, []⟩))]) h [0, 3, 4] (by decide) rfl
              exact th_n ⟨b18, yy18, Ly19, hyy, h.to rfl ⟨rfl, rfl, rfl, rfl, (look_int rfl (by first | rfl | omega)), (look_int rfl (by first | rfl | omega)), rfl, trivial⟩⟩
          · skip
            refine any_O rfl h.env rfl (o_alloc (l := ((⟨false, [], zeroS, 0, []⟩ : TowP).cells ⟨nilS, nilS, []⟩)) Tryd.zeroValue46 rfl h) ?_
            rintro b21 _ a w h
            refine any_one (i := 11) (by kernel_rfl) ?_
            refine any_O rfl h.env rfl (o_buildSlice (vs := [slc b7 0 1 1, (evAt evs i).2]) Tryd.underlying39 Tryd.sizeOf22 Tryd.zeroValue22 h rfl rfl (two_cells rfl hvali) rfl rfl rfl) ?_
            rintro b22 _ a w h
            refine any_one (i := 12) (by kernel_rfl) ?_
            refine any_V rfl h.env rfl (Enter.opT (o_call Tryd.call44 h rfl) (call_val0 h.own (c_dOf2 h.own.lend0 (Sl.row (s := 1) (o := 0) (cap := 2) (n := 2) (cs := [slc b7 0 1 1, (evAt evs i).2]) (h.own.in0 (k := 0) rfl) rfl rfl (by decide) (by decide)) (byts_block (l := [1]) (h.own.in0 (k := 2) rfl) (by decide)) (hvali.mono h.own.le0) (hk.mono h.own.le0) (hf1.mono h.own.le0) (by have := hbei.2; simp; omega)))) fun a w h => ?_
            refine any_take (i := 13) rfl (by kernel_rfl) (fun _ _ _ _ h => h) h rfl (fun w h => p_build (pl := [(0, 32), (32, 1)]) (out := addrC (valD (entAt es i)) 0) Tryd.underlying27 Tryd.type27 rfl (by kernel_rfl) h rfl (addr_filled (valD_length _) rfl)) fun a h => ?_
            refine any_take (i := 14) rfl (by kernel_rfl) (fun _ _ _ _ h => h) h rfl (fun w h => p_build (pl := [(0, 1), (1, 1), (2, 33), (35, 1)]) (out := (towE (entAt es i)).cells ⟨(evAt evs i).1, nilS, []⟩) Tryd.underlying46 Tryd.type46 rfl (by kernel_rfl) h rfl (tow_filled2 (t := towE (entAt es i)) (valD_length _) hkeyi.cells1 rfl rfl)) fun a h => ?_
            refine any_one (i := 20) (by kernel_rfl) ?_
            refine any_O rfl h.env rfl (Enter.opT (o_call Tryd.call43 h rfl) (call_out0 h.own (ih h.own.lend0 (Hp.le_trans h0 h.own.le0) (towE_ok hkeyi0) rfl rfl (htg.mono h.own.le0) (hk.mono h.own.le0) (hf1.mono h.own.le0) (hes0.sub (lo := i + 1) (hi := (reachP es i)) (by omega) (by omega)) (fun f hf => hbe f (sub_mem hf)) (by rw [hgl]; omega)))) ?_
            rintro ⟨yy22, Ly23⟩ hyy24 a w h
            replace h := St.perm (L' := ([(b22, row 22 ([slc b7 0 1 1, (evAt evs i).2])), (b21, row 46 ((⟨false, [], zeroS, 0, []⟩ : TowP).cells ⟨nilS, nilS, []⟩)), (b7, row 5 (([1] : List UInt8).map B)), (b2, row 46 ((⟨false, [], zeroS, 0, []⟩ : TowP).cells ⟨nilS, nilS, []⟩)), (b1, row 46 (t.cells ⟨x.key, nilS, []⟩))] ++ Lv) ++ Ly23) h (List.perm_append_comm (l₁ := Ly23) (l₂ := [(b22, row 22 ([slc b7 0 1 1, (evAt evs i).2])), (b21, row 46 ((⟨false, [], zeroS, 0, []⟩ : TowP).cells ⟨nilS, nilS, []⟩)), (b7, row 5 (([1] : List UInt8).map B)), (b2, row 46 ((⟨false, [], zeroS, 0, []⟩ : TowP).cells ⟨nilS, nilS, []⟩)), (b1, row 46 (t.cells ⟨x.key, nilS, []⟩))] ++ Lv))
            replace h := St.perm (L' := [(b22, row 22 ([slc b7 0 1 1, (evAt evs i).2])), (b21, row 46 ((⟨false, [], zeroS, 0, []⟩ : TowP).cells ⟨nilS, nilS, []⟩)), (b7, row 5 (([1] : List UInt8).map B)), (b2, row 46 ((⟨false, [], zeroS, 0, []⟩ : TowP).cells ⟨nilS, nilS, []⟩)), (b1, row 46 (t.cells ⟨x.key, nilS, []⟩))] ++ (Lv ++ Ly23)) h (by simp)
            have hyy := hyy24
            have htw : TowOk _ (hungT (towE (entAt es i)) ((es.drop (i + 1)).take (reachP es i - (i + 1)))) yy22 := hyy _ (Hp.le_trans h0 h.own.le0) (fun b o m => h.own.in0M (List.mem_append_right [(b22, row 22 ([slc b7 0 1 1, (evAt evs i).2])), (b21, row 46 ((⟨false, [], zeroS, 0, []⟩ : TowP).cells ⟨nilS, nilS, []⟩)), (b7, row 5 (([1] : List UInt8).map B)), (b2, row 46 ((⟨false, [], zeroS, 0, []⟩ : TowP).cells ⟨nilS, nilS, []⟩)), (b1, row 46 (t.cells ⟨x.key, nilS, []⟩))] (List.mem_append_right Lv m)))
            refine any_one (i := 22) (by kernel_rfl) ?_
            refine any_N rfl h.env (o_storeA (kk := 1) (vs := (hungT (towE (entAt es i)) ((es.drop (i + 1)).take (reachP es i - (i + 1)))).cells yy22) (cs' := (hungT (towE (entAt es i)) ((es.drop (i + 1)).take (reachP es i - (i + 1)))).cells yy22) (fun w => by rw [Tryd.sizeOf46, htw.length]) h rfl rfl rfl htw.one rfl (by rw [htw.length]; simp [tow_len (t := ⟨false, [], zeroS, 0, []⟩) rfl]) (by rw [htw.length]; simp [htw.length, tow_len (t := ⟨false, [], zeroS, 0, []⟩) rfl, List.drop_of_length_le])) fun a w h => ?_
            refine any_end (by kernel_rfl) ?_
            replace h := St.pickL (A := [(b22, row 22 ([slc b7 0 1 1, (evAt evs i).2])), (b21, row 46 ((hungT (towE (entAt es i)) ((es.drop (i + 1)).take (reachP es i - (i + 1)))).cells yy22)), (b7, row 5 (([1] : List UInt8).map B)), (b2, row 46 ((⟨false, [], zeroS, 0, []⟩ : TowP).cells ⟨nilS, nilS, []⟩)), (b1, row 46 (t.cells ⟨x.key, nilS, []⟩))]) (R := Lv ++ Ly23) (xs := [(b21, row 46 ((hungT (towE (entAt es i)) ((es.drop (i + 1)).take (reachP es i - (i + 1)))).cells yy22)), (b2, row 46 ((⟨false, [], zeroS, 0, []⟩ : TowP).cells ⟨nilS, nilS, []⟩)), (b1, row 46 (t.cells ⟨x.key, nilS, []⟩))]) h [1, 3, 4] (by decide) rfl
            exact th_n ⟨b21, yy22, Ly23, hyy, h.to rfl ⟨rfl, rfl, rfl, rfl, (look_int rfl (by first | rfl | omega)), (look_int rfl (by first | rfl | omega)), rfl, trivial⟩⟩
        · skip
          refine any_O rfl h.env rfl (o_alloc (l := ((⟨false, [], zeroS, 0, []⟩ : TowP).cells ⟨nilS, nilS, []⟩)) Tryd.zeroValue46 rfl h) ?_
          rintro b25 _ a w h
          refine any_one (i := 5) (by kernel_rfl) ?_
          refine any_O rfl h.env rfl (o_buildSlice (vs := ([1] : List UInt8).map B) Tryd.underlying22 Tryd.sizeOf5 Tryd.zeroValue5 h rfl rfl (by simp [Value.cells]) rfl rfl rfl) ?_
          rintro b26 _ a w h
          refine any_one (i := 11) (by kernel_rfl) ?_
          refine any_O rfl h.env rfl (o_buildSlice (vs := [slc b26 0 1 1, (evAt evs i).2]) Tryd.underlying39 Tryd.sizeOf22 Tryd.zeroValue22 h rfl rfl (two_cells rfl hvali) rfl rfl rfl) ?_
          rintro b27 _ a w h
          refine any_one (i := 12) (by kernel_rfl) ?_
          refine any_V rfl h.env rfl (Enter.opT (o_call Tryd.call44 h rfl) (call_val0 h.own (c_dOf2 h.own.lend0 (Sl.row (s := 1) (o := 0) (cap := 2) (n := 2) (cs := [slc b26 0 1 1, (evAt evs i).2]) (h.own.in0 (k := 0) rfl) rfl rfl (by decide) (by decide)) (byts_block (l := [1]) (h.own.in0 (k := 1) rfl) (by decide)) (hvali.mono h.own.le0) (hk.mono h.own.le0) (hf1.mono h.own.le0) (by have := hbei.2; simp; omega)))) fun a w h => ?_
          refine any_take (i := 13) rfl (by kernel_rfl) (fun _ _ _ _ h => h) h rfl (fun w h => p_build (pl := [(0, 32), (32, 1)]) (out := addrC (valD (entAt es i)) 0) Tryd.underlying27 Tryd.type27 rfl (by kernel_rfl) h rfl (addr_filled (valD_length _) rfl)) fun a h => ?_
          refine any_take (i := 14) rfl (by kernel_rfl) (fun _ _ _ _ h => h) h rfl (fun w h => p_build (pl := [(0, 1), (1, 1), (2, 33), (35, 1)]) (out := (towE (entAt es i)).cells ⟨(evAt evs i).1, nilS, []⟩) Tryd.underlying46 Tryd.type46 rfl (by kernel_rfl) h rfl (tow_filled2 (t := towE (entAt es i)) (valD_length _) hkeyi.cells1 rfl rfl)) fun a h => ?_
          refine any_one (i := 20) (by kernel_rfl) ?_
          refine any_O rfl h.env rfl (Enter.opT (o_call Tryd.call43 h rfl) (call_out0 h.own (ih h.own.lend0 (Hp.le_trans h0 h.own.le0) (towE_ok hkeyi0) rfl rfl (htg.mono h.own.le0) (hk.mono h.own.le0) (hf1.mono h.own.le0) (hes0.sub (lo := i + 1) (hi := (reachP es i)) (by omega) (by omega)) (fun f hf => hbe f (sub_mem hf)) (by rw [hgl]; omega)))) ?_
          rintro ⟨yy27, Ly28⟩ hyy29 a w h
          replace h := St.perm (L' := ([(b27, row 22 ([slc b26 0 1 1, (evAt evs i).2])), (b26, row 5 (([1] : List UInt8).map B)), (b25, row 46 ((⟨false, [], zeroS, 0, []⟩ : TowP).cells ⟨nilS, nilS, []⟩)), (b2, row 46 ((⟨false, [], zeroS, 0, []⟩ : TowP).cells ⟨nilS, nilS, []⟩)), (b1, row 46 (t.cells ⟨x.key, nilS, []⟩))] ++ Lv) ++ Ly28) h (List.perm_append_comm (l₁ := Ly28) (l₂ := [(b27, row 22 ([slc b26 0 1 1, (evAt evs i).2])), (b26, row 5 (([1] : List UInt8).map B)), (b25, row 46 ((⟨false, [], zeroS, 0, []⟩ : TowP).cells ⟨nilS, nilS, []⟩)), (b2, row 46 ((⟨false, [], zeroS, 0, []⟩ : TowP).cells ⟨nilS, nilS, []⟩)), (b1, row 46 (t.cells ⟨x.key, nilS, []⟩))] ++ Lv))
          replace h := St.perm (L' := [(b27, row 22 ([slc b26 0 1 1, (evAt evs i).2])), (b26, row 5 (([1] : List UInt8).map B)), (b25, row 46 ((⟨false, [], zeroS, 0, []⟩ : TowP).cells ⟨nilS, nilS, []⟩)), (b2, row 46 ((⟨false, [], zeroS, 0, []⟩ : TowP).cells ⟨nilS, nilS, []⟩)), (b1, row 46 (t.cells ⟨x.key, nilS, []⟩))] ++ (Lv ++ Ly28)) h (by simp)
          have hyy := hyy29
          have htw : TowOk _ (hungT (towE (entAt es i)) ((es.drop (i + 1)).take (reachP es i - (i + 1)))) yy27 := hyy _ (Hp.le_trans h0 h.own.le0) (fun b o m => h.own.in0M (List.mem_append_right [(b27, row 22 ([slc b26 0 1 1, (evAt evs i).2])), (b26, row 5 (([1] : List UInt8).map B)), (b25, row 46 ((⟨false, [], zeroS, 0, []⟩ : TowP).cells ⟨nilS, nilS, []⟩)), (b2, row 46 ((⟨false, [], zeroS, 0, []⟩ : TowP).cells ⟨nilS, nilS, []⟩)), (b1, row 46 (t.cells ⟨x.key, nilS, []⟩))] (List.mem_append_right Lv m)))
          refine any_one (i := 22) (by kernel_rfl) ?_
          refine any_N rfl h.env (o_storeA (kk := 2) (vs := (hungT (towE (entAt es i)) ((es.drop (i + 1)).take (reachP es i - (i + 1)))).cells yy27) (cs' := (hungT (towE (entAt es i)) ((es.drop (i + 1)).take (reachP es i - (i + 1)))).cells yy27) (fun w => by rw [Tryd.sizeOf46, htw.length]) h rfl rfl rfl htw.one rfl (by rw [htw.length]; simp [tow_len (t := ⟨false, [], zeroS, 0, []⟩) rfl]) (by rw [htw.length]; simp [htw.length, tow_len (t := ⟨false, [], zeroS, 0, []⟩) rfl, List.drop_of_length_le])) fun a w h => ?_
          refine any_end (by kernel_rfl) ?_
          replace h := St.pickL (A := [(b27, row 22 ([slc b26 0 1 1, (evAt evs i).2])), (b26, row 5 (([1] : List UInt8).map B)), (b25, row 46 ((hungT (towE (entAt es i)) ((es.drop (i + 1)).take (reachP es i - (i + 1)))).cells yy27)), (b2, row 46 ((⟨false, [], zeroS, 0, []⟩ : TowP).cells ⟨nilS, nilS, []⟩)), (b1, row 46 (t.cells ⟨x.key, nilS, []⟩))]) (R := Lv ++ Ly28) (xs := [(b25, row 46 ((hungT (towE (entAt es i)) ((es.drop (i + 1)).take (reachP es i - (i + 1)))).cells yy27)), (b2, row 46 ((⟨false, [], zeroS, 0, []⟩ : TowP).cells ⟨nilS, nilS, []⟩)), (b1, row 46 (t.cells ⟨x.key, nilS, []⟩))]) h [2, 3, 4] (by decide) rfl
          exact th_n ⟨b25, yy27, Ly28, hyy, h.to rfl ⟨rfl, rfl, rfl, rfl, (look_int rfl (by first | rfl | omega)), (look_int rfl (by first | rfl | omega)), rfl, trivial⟩⟩
      · rintro a w ⟨b8, yy, Ly, hyy, h⟩
        refine c_seq ?_
        have hkE : ((kidE (entAt es i) ((es.drop (i + 1)).take (reachP es i - (i + 1)))).at (evAt evs i).1).Ok hf0 (kidE (entAt es i) ((es.drop (i + 1)).take (reachP es i - (i + 1)))).key := kidE_ok hkeyi0 (by rw [hgl]; omega)
        have hok2 := each_snoc hok hkl hkE
        replace h := St.perm (L' := ([(b2, row 46 ((⟨false, [], zeroS, 0, []⟩ : TowP).cells ⟨nilS, nilS, []⟩)), (b1, row 46 (t.cells ⟨x.key, nilS, []⟩))] ++ Lv) ++ ([(b8, row 46 ((hungT (towE (entAt es i)) ((es.drop (i + 1)).take (reachP es i - (i + 1)))).cells yy))] ++ Ly)) h (List.perm_append_comm_assoc [(b8, row 46 ((hungT (towE (entAt es i)) ((es.drop (i + 1)).take (reachP es i - (i + 1)))).cells yy))] ([(b2, row 46 ((⟨false, [], zeroS, 0, []⟩ : TowP).cells ⟨nilS, nilS, []⟩)), (b1, row 46 (t.cells ⟨x.key, nilS, []⟩))] ++ Lv) Ly)
        obtain ⟨hf6, hle6, hin6, hbk6, h⟩ := St.freezeR (L1 := ([(b2, row 46 ((⟨false, [], zeroS, 0, []⟩ : TowP).cells ⟨nilS, nilS, []⟩)), (b1, row 46 (t.cells ⟨x.key, nilS, []⟩))] ++ Lv)) (L2 := [(b8, row 46 ((hungT (towE (entAt es i)) ((es.drop (i + 1)).take (reachP es i - (i + 1)))).cells yy))] ++ Ly) h
        have hty : TowOk hf6 (hungT (towE (entAt es i)) ((es.drop (i + 1)).take (reachP es i - (i + 1)))) yy := hyy hf6 (Hp.le_trans h0 hle6) (fun b o m => hin6 b o (List.mem_append_right _ m))
        have ro8 : hf6 b8 = some (row 46 ((hungT (towE (entAt es i)) ((es.drop (i + 1)).take (reachP es i - (i + 1)))).cells yy)) := hin6 _ _ (List.mem_append_left _ (List.mem_singleton.2 rfl))
        have hkeyi6 := hkeyi.mono hle6
        have htg6 := htg.mono hle6
        have hk6 := hk.mono hle6
        have hf16 := hf1.mono hle6
        have hes6 := hes.mono hle6
        have hbU : ∀ p ∈ (hungT (towE (entAt es i)) ((es.drop (i + 1)).take (reachP es i - (i + 1)))).kids, p.key.length ≤ 140737488351232 := fun p hp => by obtain ⟨e, he, hke⟩ := few_kids rfl p (List.mem_reverse.1 hp); rw [hke]; have := hbe e (sub_mem he); omega
        refine any_begin (N := 21) (by kernel_rfl) rfl h ?_
        clear h; intro w h
        refine any_take (i := 0) rfl (by kernel_rfl) (fun _ _ _ _ h => h) h rfl (fun w h => p_move h rfl) fun a h => ?_
        refine any_take (i := 1) rfl (by kernel_rfl) (fun _ _ _ _ h => h) h rfl (fun w h => p_move h rfl) fun a h => ?_
        refine any_take (i := 2) rfl (by kernel_rfl) (fun _ _ _ _ h => h) h rfl (fun w h => p_move h rfl) fun a h => ?_
        have hi30 : i < es.length := by omega
        refine any_take (i := 3) rfl (by kernel_rfl) (fun _ _ _ _ h => h) h rfl (fun w h => p_idxS (s := 2) (j := i) Tryd.underlying57 Tryd.sizeOf65 h rfl rfl hes6.sl (by omega) hi30) fun a h => ?_
        refine any_take (i := 4) rfl (by kernel_rfl) (fun _ _ _ _ h => h) h rfl (fun w h => p_fieldAddr (r := sOff v + i * 2) Tryd.underlying65 rfl Tryd.sizeOf22 rfl rfl h rfl) fun a h => ?_
        refine any_take (i := 5) rfl (by kernel_rfl) (fun _ _ _ _ h => h) h rfl (fun w h => p_load (v := (evAt evs i).1) Tryd.isAgg22 h rfl ((hes6.cels hi30) 0 _ rfl)) fun a h => ?_
        refine any_take (i := 8) rfl (by kernel_rfl) (fun _ _ _ _ h => h) h rfl (fun w h => p_move h rfl) fun a h => ?_
        refine any_take (i := 9) rfl (by kernel_rfl) (fun _ _ _ _ h => h) h rfl (fun w h => p_move h rfl) fun a h => ?_
        have hi31 : i < es.length := by omega
        refine any_take (i := 10) rfl (by kernel_rfl) (fun _ _ _ _ h => h) h rfl (fun w h => p_idxS (s := 2) (j := i) Tryd.underlying57 Tryd.sizeOf65 h rfl rfl hes6.sl (by omega) hi31) fun a h => ?_
        refine any_take (i := 11) rfl (by kernel_rfl) (fun _ _ _ _ h => h) h rfl (fun w h => p_fieldAddr (r := sOff v + i * 2) Tryd.underlying65 rfl Tryd.sizeOf22 rfl rfl h rfl) fun a h => ?_
        refine any_take (i := 12) rfl (by kernel_rfl) (fun _ _ _ _ h => h) h rfl (fun w h => p_load (v := (evAt evs i).1) Tryd.isAgg22 h rfl ((hes6.cels hi31) 0 _ rfl)) fun a h => ?_
        refine any_take (i := 13) rfl (by kernel_rfl) (fun _ _ _ _ h => h) h rfl (fun w h => p_loadA (vs := (hungT (towE (entAt es i)) ((es.drop (i + 1)).take (reachP es i - (i + 1)))).cells yy) Tryd.isAgg46 (fun w => by rw [Tryd.sizeOf46, hty.length]) h rfl (Cels.stay ro8)) fun a h => ?_
        refine any_take (i := 15) rfl (by kernel_rfl) (fun _ _ _ _ h => h) h rfl (fun w h => p_loadA (vs := (hungT (towE (entAt es i)) ((es.drop (i + 1)).take (reachP es i - (i + 1)))).cells yy) Tryd.isAgg46 (fun w => by rw [Tryd.sizeOf46, hty.length]) h rfl (Cels.stay ro8)) fun a h => ?_
        refine any_one (i := 6) (by kernel_rfl) ?_
        refine any_V rfl h.env rfl (Enter.opT (o_call Tryd.call23 h rfl) (call_val0 h.own (c_nHeight h.own.lend0 (htg6.mono h.own.le0) (hk6.mono h.own.le0) (hf16.mono h.own.le0) ((hes6.key hi30).mono h.own.le0) (by omega)))) fun a w h => ?_
        refine any_take (i := 7) rfl (by kernel_rfl) (fun _ _ _ _ h => h) h rfl (fun w h => p_sub (r := (hgt (entAt es i) : Int) - 1) h rfl rfl (wi (by have := height_hi (entAt es i).key; omega))) fun a h => ?_
        refine any_one (i := 14) (by kernel_rfl) ?_
        refine any_V rfl h.env rfl (Enter.opT (o_call Tryd.call35 h rfl) (call_val0 h.own (c_nCountU h.own.lend0 (hty.mono h.own.le0) (by rw [hgl]; omega)))) fun a w h => ?_
        refine any_one (i := 16) (by kernel_rfl) ?_
        refine any_V rfl h.env rfl (Enter.opT (o_call Tryd.call33 h rfl) (call_val0 h.own (c_nLabelU h.own.lend0 (hty.mono h.own.le0) (by omega) hbU (htg6.mono h.own.le0) (hk6.mono h.own.le0) (hf16.mono h.own.le0)))) fun a w h => ?_
        refine any_take (i := 17) rfl (by kernel_rfl) (fun _ _ _ _ h => h) h rfl (fun w h => p_build (pl := [(0, 1), (1, 1), (2, 1), (3, 33), (36, 32)]) (out := ((kidE (entAt es i) ((es.drop (i + 1)).take (reachP es i - (i + 1)))).at (evAt evs i).1).cells) Tryd.underlying29 Tryd.type29 rfl (by kernel_rfl) h rfl (kid_filled4 (k := (kidE (entAt es i) ((es.drop (i + 1)).take (reachP es i - (i + 1))))) hkeyi.cells1 rfl rfl rfl (hangL_length _ _ (leafD_length _)))) fun a h => ?_
        refine any_one (i := 18) (by kernel_rfl) ?_
        refine any_O rfl h.env rfl (o_buildSlice_one (vs := ((kidE (entAt es i) ((es.drop (i + 1)).take (reachP es i - (i + 1)))).at (evAt evs i).1).cells) Tryd.underlying44 Tryd.sizeOf29 Tryd.zeroValue29 (by kernel_rfl) h rfl rfl hkE.length rfl rfl) ?_
        rintro b32 _ a w h
        replace h := St.perm (L := [(b32, row 29 (((kidE (entAt es i) ((es.drop (i + 1)).take (reachP es i - (i + 1)))).at (evAt evs i).1).cells)), (b2, row 46 ((⟨false, [], zeroS, 0, []⟩ : TowP).cells ⟨nilS, nilS, []⟩)), (b1, row 46 (t.cells ⟨x.key, nilS, []⟩))] ++ Lv) h (List.perm_append_comm (l₁ := [(b32, row 29 (((kidE (entAt es i) ((es.drop (i + 1)).take (reachP es i - (i + 1)))).at (evAt evs i).1).cells)), (b2, row 46 ((⟨false, [], zeroS, 0, []⟩ : TowP).cells ⟨nilS, nilS, []⟩)), (b1, row 46 (t.cells ⟨x.key, nilS, []⟩))]) (l₂ := Lv))
        refine any_one (i := 19) (by kernel_rfl) ?_
        refine any_O rfl h.env rfl (o_append (Lv := Lv) (Lr := [(b32, row 29 (((kidE (entAt es i) ((es.drop (i + 1)).take (reachP es i - (i + 1)))).at (evAt evs i).1).cells)), (b2, row 46 ((⟨false, [], zeroS, 0, []⟩ : TowP).cells ⟨nilS, nilS, []⟩)), (b1, row 46 (t.cells ⟨x.key, nilS, []⟩))]) (s := 68) (l := m2) (q := 1) (news := ((kidE (entAt es i) ((es.drop (i + 1)).take (reachP es i - (i + 1)))).at (evAt evs i).1).cells) Tryd.underlying44 Tryd.type29 rfl rfl (by kernel_rfl) (by decide) h rfl hvec rfl (.inr ⟨_, _, _, rfl, Cels.mem (T := 29) (cs := ((kidE (entAt es i) ((es.drop (i + 1)).take (reachP es i - (i + 1)))).at (evAt evs i).1).cells) (by simp)⟩) hkE.length hkE.one (by unfold maxLen; omega) (by show _ * 112 ≤ _; omega)) ?_
        rintro ⟨v33, Lv34⟩ hvec35 a w h
        replace h := St.perm (L' := [(b32, row 29 (((kidE (entAt es i) ((es.drop (i + 1)).take (reachP es i - (i + 1)))).at (evAt evs i).1).cells)), (b2, row 46 ((⟨false, [], zeroS, 0, []⟩ : TowP).cells ⟨nilS, nilS, []⟩)), (b1, row 46 (t.cells ⟨x.key, nilS, []⟩))] ++ Lv34) h (List.perm_append_comm (l₁ := Lv34) (l₂ := [(b32, row 29 (((kidE (entAt es i) ((es.drop (i + 1)).take (reachP es i - (i + 1)))).at (evAt evs i).1).cells)), (b2, row 46 ((⟨false, [], zeroS, 0, []⟩ : TowP).cells ⟨nilS, nilS, []⟩)), (b1, row 46 (t.cells ⟨x.key, nilS, []⟩))]))
        have hvec2 := hvec35.cast rfl (kcells_append (kidE (entAt es i) ((es.drop (i + 1)).take (reachP es i - (i + 1)))) ((evAt evs i).1) hkl).symm
        refine any_take (i := 20) rfl (by kernel_rfl) (fun _ _ _ _ h => h) h rfl (fun w h => p_assign h rfl) fun a h => ?_
        refine any_end (by kernel_rfl) ?_
        refine th_n ?_
        replace h := St.pickL (A := [(b32, row 29 (((kidE (entAt es i) ((es.drop (i + 1)).take (reachP es i - (i + 1)))).at (evAt evs i).1).cells)), (b2, row 46 ((⟨false, [], zeroS, 0, []⟩ : TowP).cells ⟨nilS, nilS, []⟩)), (b1, row 46 (t.cells ⟨x.key, nilS, []⟩))]) (R := Lv34) (xs := [(b2, row 46 ((⟨false, [], zeroS, 0, []⟩ : TowP).cells ⟨nilS, nilS, []⟩)), (b1, row 46 (t.cells ⟨x.key, nilS, []⟩))]) h [1, 2] (by decide) rfl
        replace h := h.re (h.own.weaken hle6)
        refine c_region ?_
        refine stepP (p_move h rfl) h rfl fun a w h => ?_
        refine stepP (p_assign h rfl) h rfl fun a w h => ?_
        refine stepEnd ?_
        refine bl_n ?_
        exact th_n ⟨_, by omega, (reachP es i), _, hgt (entAt es i), _, _, _, _, rfl, hre, kids_next hil hgo, hvec2, by rw [List.length_append]; show _ + 1 = _; omega, by rw [List.length_append, List.length_append, hkl]; rfl, hok2, by omega, hgt_hi _, reach_next hil, h.to rfl ⟨rfl, rfl, rfl, rfl, (look_int rfl (by first | rfl | omega)), trivial⟩⟩
    · skip
      refine c_exit (th_e (th_e (exit_at ?_)))
      refine th_n ?_
      refine c_seq ?_
      refine c_seq ?_
      have hin : i = es.length := by omega
      subst hin
      rw [List.drop_length, kidsOf_nil, List.append_nil] at hgo
      obtain ⟨hf8, hle8, hin8, hbk8, h⟩ := St.freezeR (L1 := [(b2, row 46 ((⟨false, [], zeroS, 0, []⟩ : TowP).cells ⟨nilS, nilS, []⟩)), (b1, row 46 (t.cells ⟨x.key, nilS, []⟩))]) (L2 := Lv) h
      have hkt : TowOk hf8 (towH.with ks) ⟨nilS, kv, kvs⟩ := ⟨rfl, Sl.nil, ⟨by show Sl _ _ _ ks.length _; rw [hml]; exact hvec.sl hin8, hkl, each_mono hok (Hp.le_trans h0 hle8)⟩⟩
      have hktn : (towH.with ks).kids.length = m2 := hml
      replace h := St.perm (L' := [(b2, row 46 ((⟨false, [], zeroS, 0, []⟩ : TowP).cells ⟨nilS, nilS, []⟩)), (b1, row 46 (t.cells ⟨x.key, nilS, []⟩))] ++ []) h (by rw [List.append_nil])
      refine c_region ?_
      refine stepP (p_move h rfl) h rfl fun a w h => ?_
      refine stepP (p_lenV Tryd.underlying44 h rfl hvec) h rfl fun a w h => ?_
      refine stepP (p_sub h rfl rfl (wi (by omega))) h rfl fun a w h => ?_
      refine stepP (p_assign h rfl) h rfl fun a w h => ?_
      refine stepEnd ?_
      refine th_n ?_
      refine c_block ?_
      refine c_loop (fun m a w => ∃ (j q : Nat) (kw : Value) (Lw : Res), m = j * 1 ∧ j ≤ m2 ∧ q + j = m2 ∧ Vec 29 68 kw q (kcells (tailR ks j) (tailR kvs j)) Lw ∧ St S hf8 ([(b2, row 46 ((⟨false, [], zeroS, 0, []⟩ : TowP).cells ⟨nilS, nilS, []⟩))] ++ ([(b1, row 46 (t.cells ⟨x.key, kw, []⟩))] ++ (Lw))) 76 [(2, ptr b1 0), (4, ptr b2 0), (5, kv), (9, .int .i64 ((j : Int) - 1))] a w) (N := m2 * 1) ⟨m2, 0, nilS, [], rfl, Nat.le_refl _, by omega, (by rw [← hml, tailR_full]; exact ⟨rfl, .inl ⟨rfl, rfl, rfl⟩⟩), h.to rfl ⟨rfl, rfl, rfl, (look_int rfl (by first | rfl | omega)), trivial⟩⟩ ?_
      clear h
      rintro m a w ⟨j, q, kw, Lw, rfl, hj, hq, hvw, h⟩
      refine c_seq ?_
      refine c_seq ?_
      refine c_region ?_
      refine stepP (p_move h rfl) h rfl fun a w h => ?_
      refine stepP (p_geq h rfl rfl) h rfl fun a w h => ?_
      refine stepEnd ?_
      refine th_n ?_
      refine c_cond rfl h (fun hc36 => ?_) (fun hc36 => ?_)
      · skip
        refine c_skip ?_
        refine th_n ?_
        refine c_seq ?_
        refine c_block ?_
        have hj0 : 0 < j := by omega
        have hj1 : j - 1 < (towH.with ks).kids.length := by omega
        have hkk := hkt.kids.ok hj1
        refine any_begin (N := 10) (by kernel_rfl) rfl h ?_
        clear h; intro w h
        refine any_take (i := 0) rfl (by kernel_rfl) (fun _ _ _ _ h => h) h rfl (fun w h => p_fieldAddr (r := 35) Tryd.underlying46 rfl Tryd.sizeOf44 rfl rfl h rfl) fun a h => ?_
        refine any_take (i := 2) rfl (by kernel_rfl) (fun _ _ _ _ h => h) h rfl (fun w h => p_move h rfl) fun a h => ?_
        refine any_take (i := 3) rfl (by kernel_rfl) (fun _ _ _ _ h => h) h rfl (fun w h => p_move h rfl) fun a h => ?_
        have hi37 : (j - 1) < (towH.with ks).kids.length := by omega
        refine any_take (i := 4) rfl (by kernel_rfl) (fun _ _ _ _ h => h) h rfl (fun w h => p_idxS (s := 68) (j := (j - 1)) Tryd.underlying44 Tryd.sizeOf29 h rfl rfl hkt.kids.sl (by omega) hi37) fun a h => ?_
        refine any_take (i := 5) rfl (by kernel_rfl) (fun _ _ _ _ h => h) h rfl (fun w h => p_loadA (vs := ((kidAt (towH.with ks).kids (j - 1)).at (vkAt (⟨nilS, kv, kvs⟩ : TowV).kvs (j - 1))).cells) Tryd.isAgg29 (fun w => by rw [Tryd.sizeOf29, KidV.Ok.length (hkt.kids.ok hi37)]) h rfl (hkt.kids.cels hi37)) fun a h => ?_
        refine any_all (rs := [1, 6]) (by kernel_rfl) rfl ?_
        intro i hi38
        simp only [List.mem_cons, List.not_mem_nil, or_false] at hi38
        rcases hi38 with rfl | rfl
        · skip
          refine any_V rfl h.env rfl (Pure.opT (p_load (v := kw) Tryd.isAgg44 h rfl (Cel.own (k := 1) rfl (tow_kidsAt hts))) h.own) fun a w h => ?_
          refine any_one (i := 6) (by kernel_rfl) ?_
          refine any_O rfl h.env rfl (o_buildSlice_one (vs := ((kidAt (towH.with ks).kids (j - 1)).at (vkAt (⟨nilS, kv, kvs⟩ : TowV).kvs (j - 1))).cells) Tryd.underlying44 Tryd.sizeOf29 Tryd.zeroValue29 (by kernel_rfl) h rfl rfl hkk.length rfl rfl) ?_
          rintro b39 _ a w h
          replace h := St.perm (L := [(b39, row 29 (((kidAt (towH.with ks).kids (j - 1)).at (vkAt (⟨nilS, kv, kvs⟩ : TowV).kvs (j - 1))).cells)), (b2, row 46 ((⟨false, [], zeroS, 0, []⟩ : TowP).cells ⟨nilS, nilS, []⟩)), (b1, row 46 (t.cells ⟨x.key, kw, []⟩))] ++ Lw) h (List.perm_append_comm (l₁ := [(b39, row 29 (((kidAt (towH.with ks).kids (j - 1)).at (vkAt (⟨nilS, kv, kvs⟩ : TowV).kvs (j - 1))).cells)), (b2, row 46 ((⟨false, [], zeroS, 0, []⟩ : TowP).cells ⟨nilS, nilS, []⟩)), (b1, row 46 (t.cells ⟨x.key, kw, []⟩))]) (l₂ := Lw))
          refine any_one (i := 7) (by kernel_rfl) ?_
          refine any_O rfl h.env rfl (o_append (Lv := Lw) (Lr := [(b39, row 29 (((kidAt (towH.with ks).kids (j - 1)).at (vkAt (⟨nilS, kv, kvs⟩ : TowV).kvs (j - 1))).cells)), (b2, row 46 ((⟨false, [], zeroS, 0, []⟩ : TowP).cells ⟨nilS, nilS, []⟩)), (b1, row 46 (t.cells ⟨x.key, kw, []⟩))]) (s := 68) (l := q) (q := 1) (news := ((kidAt (towH.with ks).kids (j - 1)).at (vkAt (⟨nilS, kv, kvs⟩ : TowV).kvs (j - 1))).cells) Tryd.underlying44 Tryd.type29 rfl rfl (by kernel_rfl) (by decide) h rfl hvw rfl (.inr ⟨_, _, _, rfl, Cels.mem (T := 29) (cs := ((kidAt (towH.with ks).kids (j - 1)).at (vkAt (⟨nilS, kv, kvs⟩ : TowV).kvs (j - 1))).cells) (by simp)⟩) hkk.length hkk.one (by unfold maxLen; omega) (by show _ * 112 ≤ _; omega)) ?_
          rintro ⟨v40, Lv41⟩ hvec42 a w h
          replace h := St.perm (L' := [(b39, row 29 (((kidAt (towH.with ks).kids (j - 1)).at (vkAt (⟨nilS, kv, kvs⟩ : TowV).kvs (j - 1))).cells)), (b2, row 46 ((⟨false, [], zeroS, 0, []⟩ : TowP).cells ⟨nilS, nilS, []⟩)), (b1, row 46 (t.cells ⟨x.key, kw, []⟩))] ++ Lv41) h (List.perm_append_comm (l₁ := Lv41) (l₂ := [(b39, row 29 (((kidAt (towH.with ks).kids (j - 1)).at (vkAt (⟨nilS, kv, kvs⟩ : TowV).kvs (j - 1))).cells)), (b2, row 46 ((⟨false, [], zeroS, 0, []⟩ : TowP).cells ⟨nilS, nilS, []⟩)), (b1, row 46 (t.cells ⟨x.key, kw, []⟩))]))
          have hvw2 := hvec42.cast rfl (kids_cells_next hkl hj0 (by omega))
          refine any_take (i := 8) rfl (by kernel_rfl) (fun _ _ _ _ h => h) h rfl (fun w h => p_fieldAddr (r := 35) Tryd.underlying46 rfl Tryd.sizeOf44 rfl rfl h rfl) fun a h => ?_
          refine any_one (i := 9) (by kernel_rfl) ?_
          refine any_N rfl h.env (o_store (kk := 2) (cs' := t.cells ⟨x.key, v40, []⟩) Tryd.sizeOf44 h rfl rfl (vec_one hvw2).1 (vec_one hvw2).2 rfl (by rw [tow_len hts]; decide) (kids_set hts)) fun a w h => ?_
          refine any_end (by kernel_rfl) ?_
          refine bl_n ?_
          refine th_n ?_
          replace h := St.pickL (A := [(b39, row 29 (((kidAt (towH.with ks).kids (j - 1)).at (vkAt (⟨nilS, kv, kvs⟩ : TowV).kvs (j - 1))).cells)), (b2, row 46 ((⟨false, [], zeroS, 0, []⟩ : TowP).cells ⟨nilS, nilS, []⟩)), (b1, row 46 (t.cells ⟨x.key, v40, []⟩))]) (R := Lv41) (xs := [(b2, row 46 ((⟨false, [], zeroS, 0, []⟩ : TowP).cells ⟨nilS, nilS, []⟩)), (b1, row 46 (t.cells ⟨x.key, v40, []⟩))]) h [1, 2] (by decide) rfl
          refine c_region ?_
          refine stepP (p_move h rfl) h rfl fun a w h => ?_
          refine stepP (p_sub (r := (((j - 1 : Nat) : Int) - 1)) h rfl rfl ((wi (by omega)).trans (by omega))) h rfl fun a w h => ?_
          refine stepP (p_assign h rfl) h rfl fun a w h => ?_
          refine stepEnd ?_
          exact th_n ⟨_, by omega, j - 1, _, _, _, rfl, by omega, by omega, hvw2, h.to rfl ⟨rfl, rfl, rfl, (look_int rfl (by first | rfl | omega)), trivial⟩⟩
        · skip
          refine any_O rfl h.env rfl (o_buildSlice_one (vs := ((kidAt (towH.with ks).kids (j - 1)).at (vkAt (⟨nilS, kv, kvs⟩ : TowV).kvs (j - 1))).cells) Tryd.underlying44 Tryd.sizeOf29 Tryd.zeroValue29 (by kernel_rfl) h rfl rfl hkk.length rfl rfl) ?_
          rintro b43 _ a w h
          refine any_one (i := 1) (by kernel_rfl) ?_
          refine any_V rfl h.env rfl (Pure.opT (p_load (v := kw) Tryd.isAgg44 h rfl (Cel.own (k := 2) rfl (tow_kidsAt hts))) h.own) fun a w h => ?_
          replace h := St.perm (L := [(b43, row 29 (((kidAt (towH.with ks).kids (j - 1)).at (vkAt (⟨nilS, kv, kvs⟩ : TowV).kvs (j - 1))).cells)), (b2, row 46 ((⟨false, [], zeroS, 0, []⟩ : TowP).cells ⟨nilS, nilS, []⟩)), (b1, row 46 (t.cells ⟨x.key, kw, []⟩))] ++ Lw) h (List.perm_append_comm (l₁ := [(b43, row 29 (((kidAt (towH.with ks).kids (j - 1)).at (vkAt (⟨nilS, kv, kvs⟩ : TowV).kvs (j - 1))).cells)), (b2, row 46 ((⟨false, [], zeroS, 0, []⟩ : TowP).cells ⟨nilS, nilS, []⟩)), (b1, row 46 (t.cells ⟨x.key, kw, []⟩))]) (l₂ := Lw))
          refine any_one (i := 7) (by kernel_rfl) ?_
          refine any_O rfl h.env rfl (o_append (Lv := Lw) (Lr := [(b43, row 29 (((kidAt (towH.with ks).kids (j - 1)).at (vkAt (⟨nilS, kv, kvs⟩ : TowV).kvs (j - 1))).cells)), (b2, row 46 ((⟨false, [], zeroS, 0, []⟩ : TowP).cells ⟨nilS, nilS, []⟩)), (b1, row 46 (t.cells ⟨x.key, kw, []⟩))]) (s := 68) (l := q) (q := 1) (news := ((kidAt (towH.with ks).kids (j - 1)).at (vkAt (⟨nilS, kv, kvs⟩ : TowV).kvs (j - 1))).cells) Tryd.underlying44 Tryd.type29 rfl rfl (by kernel_rfl) (by decide) h rfl hvw rfl (.inr ⟨_, _, _, rfl, Cels.mem (T := 29) (cs := ((kidAt (towH.with ks).kids (j - 1)).at (vkAt (⟨nilS, kv, kvs⟩ : TowV).kvs (j - 1))).cells) (by simp)⟩) hkk.length hkk.one (by unfold maxLen; omega) (by show _ * 112 ≤ _; omega)) ?_
          rintro ⟨v44, Lv45⟩ hvec46 a w h
          replace h := St.perm (L' := [(b43, row 29 (((kidAt (towH.with ks).kids (j - 1)).at (vkAt (⟨nilS, kv, kvs⟩ : TowV).kvs (j - 1))).cells)), (b2, row 46 ((⟨false, [], zeroS, 0, []⟩ : TowP).cells ⟨nilS, nilS, []⟩)), (b1, row 46 (t.cells ⟨x.key, kw, []⟩))] ++ Lv45) h (List.perm_append_comm (l₁ := Lv45) (l₂ := [(b43, row 29 (((kidAt (towH.with ks).kids (j - 1)).at (vkAt (⟨nilS, kv, kvs⟩ : TowV).kvs (j - 1))).cells)), (b2, row 46 ((⟨false, [], zeroS, 0, []⟩ : TowP).cells ⟨nilS, nilS, []⟩)), (b1, row 46 (t.cells ⟨x.key, kw, []⟩))]))
          have hvw2 := hvec46.cast rfl (kids_cells_next hkl hj0 (by omega))
          refine any_take (i := 8) rfl (by kernel_rfl) (fun _ _ _ _ h => h) h rfl (fun w h => p_fieldAddr (r := 35) Tryd.underlying46 rfl Tryd.sizeOf44 rfl rfl h rfl) fun a h => ?_
          refine any_one (i := 9) (by kernel_rfl) ?_
          refine any_N rfl h.env (o_store (kk := 2) (cs' := t.cells ⟨x.key, v44, []⟩) Tryd.sizeOf44 h rfl rfl (vec_one hvw2).1 (vec_one hvw2).2 rfl (by rw [tow_len hts]; decide) (kids_set hts)) fun a w h => ?_
          refine any_end (by kernel_rfl) ?_
          refine bl_n ?_
          refine th_n ?_
          replace h := St.pickL (A := [(b43, row 29 (((kidAt (towH.with ks).kids (j - 1)).at (vkAt (⟨nilS, kv, kvs⟩ : TowV).kvs (j - 1))).cells)), (b2, row 46 ((⟨false, [], zeroS, 0, []⟩ : TowP).cells ⟨nilS, nilS, []⟩)), (b1, row 46 (t.cells ⟨x.key, v44, []⟩))]) (R := Lv45) (xs := [(b2, row 46 ((⟨false, [], zeroS, 0, []⟩ : TowP).cells ⟨nilS, nilS, []⟩)), (b1, row 46 (t.cells ⟨x.key, v44, []⟩))]) h [1, 2] (by decide) rfl
          refine c_region ?_
          refine stepP (p_move h rfl) h rfl fun a w h => ?_
          refine stepP (p_sub (r := (((j - 1 : Nat) : Int) - 1)) h rfl rfl ((wi (by omega)).trans (by omega))) h rfl fun a w h => ?_
          refine stepP (p_assign h rfl) h rfl fun a w h => ?_
          refine stepEnd ?_
          exact th_n ⟨_, by omega, j - 1, _, _, _, rfl, by omega, by omega, hvw2, h.to rfl ⟨rfl, rfl, rfl, (look_int rfl (by first | rfl | omega)), trivial⟩⟩
      · skip
        refine c_exit (th_e (th_e (exit_at ?_)))
        refine th_n ?_
        refine c_seq ?_
        have hj0 : j = 0 := by omega
        subst hj0
        refine c_region ?_
        refine stepP (p_loadA (vs := t.cells ⟨x.key, kw, []⟩) Tryd.isAgg46 (fun w => by rw [Tryd.sizeOf46, tow_len hts]) h rfl (Cels.all (k := 1) rfl)) h rfl fun a w h => ?_
        refine stepN (o_storeA (kk := 0) (vs := t.cells ⟨x.key, kw, []⟩) (cs' := t.cells ⟨x.key, kw, []⟩) (fun w => by rw [Tryd.sizeOf46, (tow_len (x := ⟨x.key, kw, []⟩) hts)]) h rfl rfl rfl (tow_one ht.key.one (vec_one hvw).2) rfl (by rw [(tow_len (x := ⟨x.key, kw, []⟩) hts)]; simp [tow_len (t := ⟨false, [], zeroS, 0, []⟩) rfl]) (by rw [(tow_len (x := ⟨x.key, kw, []⟩) hts)]; simp [(tow_len (x := ⟨x.key, kw, []⟩) hts), tow_len (t := ⟨false, [], zeroS, 0, []⟩) rfl, List.drop_of_length_le])) h.env fun a w h => ?_
        refine stepEnd ?_
        refine th_n ?_
        refine c_ret ?_
        exact finC (.inl rfl) h (vs := t.cells ⟨x.key, kw, []⟩) rfl Tryd.isAgg46 (fun w => by rw [Tryd.sizeOf46, tow_len hts]) rfl (Cels.all (k := 0) rfl) ⟨(⟨x.key, kw, tailR kvs 0⟩, Lw), rfl, (h.own.sub (by simp)).weaken hle8, fun hf' h1 h2 => hungT_ok ht0 h1 hgo hkl hok hvw (by omega) h2⟩

end Go.Proofs.YtkklgmhmhhbjkaaDoor
