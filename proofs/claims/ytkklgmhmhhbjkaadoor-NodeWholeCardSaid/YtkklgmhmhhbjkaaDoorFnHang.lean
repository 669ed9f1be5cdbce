/-
  WHAT EACH CALL COMES TO: what hangs at a tower. Printed by the own generator (wip/gen), one law of the own library for each operation.
-/
import Derived.Test.YtkklgmhmhhbjkaaDoorKitU
import Derived.Test.YtkklgmhmhhbjkaaDoorProg
import Derived.Test.YtkklgmhmhhbjkaaDoorFnA
import Derived.Test.YtkklgmhmhhbjkaaDoorFnHei
import Derived.Test.YtkklgmhmhhbjkaaDoorFnTow
import Derived.Test.YtkklgmhmhhbjkaaDoorFnLab
namespace Go.Proofs.YtkklgmhmhhbjkaaDoor
open Go Go.Own Go.Proofs
set_option maxRecDepth 100000
set_option linter.unusedVariables false

theorem c_bDigest {S : World} {hf : Hp} {w : World} (ho : Owns S hf [] w) {v : Value} {l : List UInt8} (hk : RoundsAt 3 hf) (hf1 : FirstAt 1 hf) (hv : Byts hf v l) (hb : l.length ≤ 140737488351232) :
    Calls Tryd.prog 78 [.int .u8 1, v].toArray w (RetV S hf [] (sumV (sha (1 :: l)))) := by
  have hfl : ([[1], l] : List (List UInt8)).flatten = 1 :: l := by simp
  obtain ⟨av, cv, hve⟩ := hv.shape
  subst hve
  refine enter (n := 10) (E := [(0, _), (1, _)]) Tryd.func78 rfl Tryd.ntmps78 rfl rfl ho fun a h => ?_
  refine c_seq ?_
  refine c_region ?_
  refine stepO (o_alloc (l := List.replicate 32 (.int .u8 0)) Tryd.zeroValue25 rfl h) h.env rfl ?_
  rintro b1 _ a w h
  refine stepEnd ?_
  refine th_n ?_
  refine c_seq ?_
  refine c_region ?_
  refine stepP (p_move h rfl) h rfl fun a w h => ?_
  refine stepO (o_buildSlice (vs := ([1] : List UInt8).map B) Tryd.underlying22 Tryd.sizeOf5 Tryd.zeroValue5 h rfl rfl (by simp [Value.cells]) rfl rfl rfl) h.env rfl ?_
  rintro b2 _ a w h
  refine stepP (p_move h rfl) h rfl fun a w h => ?_
  refine stepO (o_buildSlice (vs := [slc b2 0 1 1, (Value.slice av l.length cv)]) Tryd.underlying39 Tryd.sizeOf22 Tryd.zeroValue22 h rfl rfl (by simp [Value.cells]) rfl rfl rfl) h.env rfl ?_
  rintro b3 _ a w h
  replace h := St.pick (xs := [(b1, row 25 (List.replicate 32 (.int .u8 0))), (b3, row 22 ([slc b2 0 1 1, (Value.slice av l.length cv)])), (b2, row 5 (([1] : List UInt8).map B))]) h [2, 0, 1] (by decide) rfl
  obtain ⟨hf2, hle, hin1, hbk1, h⟩ := St.freezeR (L1 := [(b1, row 25 (List.replicate 32 (.int .u8 0)))]) (L2 := [(b3, row 22 ([slc b2 0 1 1, (Value.slice av l.length cv)])), (b2, row 5 (([1] : List UInt8).map B))]) h
  replace hk := hk.mono hle
  replace hf1 := hf1.mono hle
  replace hv := hv.mono hle
  have hsl := Sl.row (s := 1) (o := 0) (cap := 2) (n := 2) (cs := [slc b2 0 1 1, (Value.slice av l.length cv)]) (hin1 _ _ (List.mem_of_getElem? (i := 0) rfl)) rfl rfl (by decide) (by decide)
  have hb1 : Byts hf2 (slc b2 0 1 1) [1] := byts_block (l := [1]) (hin1 _ _ (List.mem_of_getElem? (i := 1) rfl)) (by decide)
  have hbya : BytsAll hf2 [slc b2 0 1 1, (Value.slice av l.length cv)] [[1], l] := BytsAll.cons hb1 (BytsAll.cons hv BytsAll.nil)
  refine stepV (Enter.opT (o_call Tryd.call44 h rfl) (call_val0 h.own (c_dOf h.own.lend0 (ls := [[1], l]) (hsl.mono h.own.le0) (hbya.mono h.own.le0) (hk.mono h.own.le0) (hf1.mono h.own.le0) (by simp; omega)))) h.env rfl fun a w h => ?_
  refine stepN (o_storeA (kk := 0) (vs := (sha ([[1], l] : List (List UInt8)).flatten).map B) (cs' := (sha ([[1], l] : List (List UInt8)).flatten).map B) (fun w => by rw [Tryd.sizeOf25, (show ((sha ([[1], l] : List (List UInt8)).flatten).map B).length = 32 by rw [List.length_map, (sha_length _)])]) h rfl rfl rfl (oneB _) rfl (by rw [(show ((sha ([[1], l] : List (List UInt8)).flatten).map B).length = 32 by rw [List.length_map, (sha_length _)])]; simp) (by rw [(show ((sha ([[1], l] : List (List UInt8)).flatten).map B).length = 32 by rw [List.length_map, (sha_length _)])]; simp [List.drop_of_length_le])) h.env fun a w h => ?_
  refine stepEnd ?_
  refine th_n ?_
  refine c_ret ?_
  rw [hfl] at h
  exact finC (.inl rfl) h (vs := (sha (1 :: l)).map B) rfl Tryd.isAgg25 (fun w => by rw [Tryd.sizeOf25, List.length_map, (sha_length _)]) rfl (Cels.all (k := 0) rfl) ⟨rfl, h.own.none.weaken hle⟩

set_option maxHeartbeats 1000000 in
theorem c_hangN (n : Nat) : ∀ {S : World} {hf : Hp} {w : World} (_ : Owns S hf [] w) {t : TowP} {x : TowV} (_ : TowOk hf t x) (_ : t.key.length ≤ 1024) (_ : t.kids = []) (_ : x.kids = nilS) (_ : TagsAt 0 hf) (_ : RoundsAt 3 hf) (_ : FirstAt 1 hf) {es : List EntP} {v : Value} {evs : List EntV} {hv : Value} (_ : EntsOk hf es v evs) (_ : Sl hf 1 hv es.length (hcells es)) (_ : ∀ e ∈ es, e.key.length ≤ 1024 ∧ e.val.length ≤ 65536) (_ : es.length < n),
    Calls Tryd.prog 63 [t.val x, v, hv].toArray w (RetV S hf [] (sumV (hangL (ownL t) es))) := by
  induction n with
  | zero => intros; omega
  | succ nn ih =>
    intro S hf w ho t x ht hkey hkn hxk htg hk hf1 es v evs hv hes hh hbe hlt
    have hts := ht.sum
    have hmany := hes.many
    refine enter (n := 84) (E := [(0, _), (1, _), (2, _)]) Tryd.func63 rfl Tryd.ntmps63 rfl rfl ho fun a h => ?_
    refine c_seq ?_
    refine c_region ?_
    refine stepO (o_box (l := t.cells x) h rfl rfl) h.env rfl ?_
    rintro b1 _ a w h
    refine stepO (o_alloc (l := List.replicate 32 (.int .u8 0)) Tryd.zeroValue25 rfl h) h.env rfl ?_
    rintro b2 _ a w h
    refine stepEnd ?_
    have e0 : t.cells x = t.cells ⟨x.key, nilS, []⟩ := by unfold TowP.cells; rw [hxk]
    rw [e0] at h
    refine th_n ?_
    refine c_seq ?_
    refine c_seq ?_
    refine c_region ?_
    refine stepP (p_assign h rfl) h rfl fun a w h => ?_
    refine stepEnd ?_
    replace h := St.perm (L' := [(b2, row 25 (List.replicate 32 (.int .u8 0))), (b1, row 46 (t.cells ⟨x.key, nilS, []⟩))] ++ []) h (by rw [List.append_nil])
    refine th_n ?_
    refine c_block ?_
    refine c_loop (fun m a w => ∃ (i m2 ph : Nat) (kv : Value) (ks : List KidP) (kvs : List Value) (Lv : Res), m = es.length - i ∧ i ≤ es.length ∧ hangL (labP (fun _ => true) (t.with ks) 0) (es.drop i) = hangL (ownL t) es ∧ Vec 29 68 kv m2 (kcells ks kvs) Lv ∧ ks.length = m2 ∧ kvs.length = ks.length ∧ (∀ (i : Nat) (p : KidP) (u : Value), ks[i]? = some p → kvs[i]? = some u → (p.at u).Ok hf p.key) ∧ (∀ p ∈ ks, p.key.length ≤ 1024) ∧ m2 ≤ ph ∧ ph ≤ 24 ∧ (i = es.length ∨ ph < hgt (entAt es i)) ∧ St S hf ([(b2, row 25 (List.replicate 32 (.int .u8 0)))] ++ ([(b1, row 46 (t.cells ⟨x.key, kv, []⟩))] ++ (Lv))) 84 [(1, v), (2, hv), (3, ptr b1 0), (6, ptr b2 0), (7, .int .i64 ((i : Nat) : Int))] a w) (N := es.length - 0) ⟨0, 0, 0, nilS, [], [], [], rfl, by omega, by rw [show t.with [] = t by rw [← hkn]; rfl, lab_true, hkn]; rfl, ⟨rfl, .inl ⟨rfl, rfl, rfl⟩⟩, rfl, rfl, (fun i p u h _ => by simp at h), (fun p h => nomatch h), by omega, by omega, .inr (hgt_lo _), h.to rfl ⟨rfl, rfl, rfl, rfl, (look_int rfl (by first | rfl | omega)), trivial⟩⟩ ?_
    clear h
    rintro m a w ⟨i, m2, ph, kv, ks, kvs, Lv, rfl, hi, hgo, hvec, hml, hkl, hok, hkb, hlo, hph, hnx, h⟩
    refine c_seq ?_
    refine c_seq ?_
    refine c_region ?_
    refine stepP (p_move h rfl) h rfl fun a w h => ?_
    refine stepP (p_move h rfl) h rfl fun a w h => ?_
    refine stepP (p_lenS Tryd.underlying57 h rfl hes.sl) h rfl fun a w h => ?_
    refine stepP (p_lss h rfl rfl) h rfl fun a w h => ?_
    refine stepEnd ?_
    refine th_n ?_
    refine c_cond rfl h (fun hc3 => ?_) (fun hc3 => ?_)
    · skip
      refine c_skip ?_
      refine th_n ?_
      refine c_block ?_
      refine c_seq ?_
      refine c_region ?_
      refine stepP (p_move h rfl) h rfl fun a w h => ?_
      refine stepP (p_add h rfl rfl (wi (by omega))) h rfl fun a w h => ?_
      refine stepP (p_assign h rfl) h rfl fun a w h => ?_
      refine stepEnd ?_
      refine th_n ?_
      refine c_seq ?_
      refine c_block ?_
      refine c_loop (fun m a w => ∃ (e : Nat), m = es.length - e ∧ i < e ∧ e ≤ es.length ∧ (∀ k, i < k → k < e → hgt (entAt es k) ≤ hgt (entAt es i)) ∧ St S hf ([(b2, row 25 (List.replicate 32 (.int .u8 0)))] ++ ([(b1, row 46 (t.cells ⟨x.key, kv, []⟩))] ++ (Lv))) 84 [(1, v), (2, hv), (3, ptr b1 0), (6, ptr b2 0), (7, .int .i64 ((i : Nat) : Int)), (8, .int .i64 ((e : Nat) : Int))] a w) (N := es.length - (i + 1)) ⟨i + 1, rfl, by omega, by omega, fun k h1 h2 => by omega, h.to rfl ⟨rfl, rfl, rfl, rfl, (look_int rfl (by first | rfl | omega)), (look_int rfl (by first | rfl | omega)), trivial⟩⟩ ?_
      clear h
      rintro m a w ⟨e, rfl, hie, hee, hal, h⟩
      refine c_seq ?_
      refine c_cut (fun a w => St S hf ([(b2, row 25 (List.replicate 32 (.int .u8 0)))] ++ ([(b1, row 46 (t.cells ⟨x.key, kv, []⟩))] ++ (Lv))) 84 [(1, v), (2, hv), (3, ptr b1 0), (6, ptr b2 0), (7, .int .i64 ((i : Nat) : Int)), (8, .int .i64 ((e : Nat) : Int)), (31, .bool (decide (((((e : Nat) : Int) : Int) < ((es.length : Nat) : Int)) ∧ (((((hgt (entAt es e)) : Nat) : Int) : Int) ≤ (((hgt (entAt es i)) : Nat) : Int)))))] a w) ?_ ?_
      · skip
        refine region_quiet (by kernel_rfl) (by kernel_rfl) h ?_
        have he := h.env
        clear h
        refine stepQ he (fun w h => p_move h rfl) rfl fun a he => ?_
        refine stepQ he (fun w h => p_move h rfl) rfl fun a he => ?_
        refine stepQ he (fun w h => p_lenS Tryd.underlying57 h rfl hes.sl) rfl fun a he => ?_
        refine stepQ he (fun w h => p_lss h rfl rfl) rfl fun a he => ?_
        refine stepQ he (fun w h => p_move h rfl) rfl fun a he => ?_
        rcases Decidable.em ((((e : Nat) : Int) : Int) < ((es.length : Nat) : Int)) with hb4 | hb4
        · have he := he.bool_of (t := 21) (b' := true) rfl (decide_eq_true hb4)
          refine stepQG rfl rfl rfl rfl he (fun w h => p_move h rfl) rfl fun a he => ?_
          refine stepQG rfl rfl rfl rfl he (fun w h => p_move h rfl) rfl fun a he => ?_
          have hi5 : e < es.length := by omega
          refine stepQG rfl rfl rfl rfl he (fun w h => p_idxS1 (j := e) Tryd.underlying87 Tryd.sizeOf3 h rfl rfl hh (by omega) hi5) rfl fun a he => ?_
          refine stepQG rfl rfl rfl rfl he (fun w h => p_load Tryd.isAgg3 h rfl (hh.cel (hcells_at hi5))) rfl fun a he => ?_
          refine stepQG rfl rfl rfl rfl he (fun w h => p_move h rfl) rfl fun a he => ?_
          refine stepQG rfl rfl rfl rfl he (fun w h => p_move h rfl) rfl fun a he => ?_
          have hi6 : i < es.length := by omega
          refine stepQG rfl rfl rfl rfl he (fun w h => p_idxS1 (j := i) Tryd.underlying87 Tryd.sizeOf3 h rfl rfl hh (by omega) hi6) rfl fun a he => ?_
          refine stepQG rfl rfl rfl rfl he (fun w h => p_load Tryd.isAgg3 h rfl (hh.cel (hcells_at hi6))) rfl fun a he => ?_
          refine stepQG rfl rfl rfl rfl he (fun w h => p_leq h rfl rfl) rfl fun a he => ?_
          refine stepQ he (fun w h => p_pickT h rfl rfl) rfl fun a he => ?_
          refine stepQEnd he fun w h => ?_
          have h := h.bool_of (t := 31) (b' := decide (((((e : Nat) : Int) : Int) < ((es.length : Nat) : Int)) ∧ (((((hgt (entAt es e)) : Nat) : Int) : Int) ≤ (((hgt (entAt es i)) : Nat) : Int)))) rfl (by first | (simp [hb4]; done) | grind)
          exact th_n (h.to rfl ⟨rfl, rfl, rfl, rfl, (look_int rfl (by first | rfl | omega)), (look_int rfl (by first | rfl | omega)), rfl, trivial⟩)
        · have he := he.bool_of (t := 21) (b' := false) rfl (decide_eq_false hb4)
          refine stepQSkip rfl rfl rfl rfl he rfl fun a he => ?_
          refine stepQSkip rfl rfl rfl rfl he rfl fun a he => ?_
          refine stepQSkip rfl rfl rfl rfl he rfl fun a he => ?_
          refine stepQSkip rfl rfl rfl rfl he rfl fun a he => ?_
          refine stepQSkip rfl rfl rfl rfl he rfl fun a he => ?_
          refine stepQSkip rfl rfl rfl rfl he rfl fun a he => ?_
          refine stepQSkip rfl rfl rfl rfl he rfl fun a he => ?_
          refine stepQSkip rfl rfl rfl rfl he rfl fun a he => ?_
          refine stepQSkip rfl rfl rfl rfl he rfl fun a he => ?_
          refine stepQ he (fun w h => p_pickF h rfl rfl) rfl fun a he => ?_
          refine stepQEnd he fun w h => ?_
          have h := h.bool_of (t := 31) (b' := decide (((((e : Nat) : Int) : Int) < ((es.length : Nat) : Int)) ∧ (((((hgt (entAt es e)) : Nat) : Int) : Int) ≤ (((hgt (entAt es i)) : Nat) : Int)))) rfl (by first | (simp [hb4]; done) | grind)
          exact th_n (h.to rfl ⟨rfl, rfl, rfl, rfl, (look_int rfl (by first | rfl | omega)), (look_int rfl (by first | rfl | omega)), rfl, trivial⟩)
      · intro a w h
        refine c_cond rfl h (fun hc7 => ?_) (fun hc7 => ?_)
        · skip
          refine c_skip ?_
          refine th_n ?_
          refine c_block ?_
          refine c_region ?_
          refine stepP (p_move h rfl) h rfl fun a w h => ?_
          refine stepP (p_add h rfl rfl (wi (by omega))) h rfl fun a w h => ?_
          refine stepP (p_assign h rfl) h rfl fun a w h => ?_
          refine stepEnd ?_
          refine bl_n ?_
          exact th_n ⟨_, by omega, e + 1, rfl, by omega, by omega, fun k h1 h2 => by rcases Nat.lt_or_ge k e with h3 | h3; exact hal k h1 h3; (obtain rfl : k = e := by omega); omega, h.to rfl ⟨rfl, rfl, rfl, rfl, (look_int rfl (by first | rfl | omega)), (look_int rfl (by first | rfl | omega)), trivial⟩⟩
        · skip
          refine c_exit (th_e (th_e (exit_at ?_)))
          refine th_n ?_
          have hil : i < es.length := by omega
          have hex : e = es.length ∨ ¬ hgt (entAt es e) ≤ hgt (entAt es i) := by rcases Nat.lt_or_ge e es.length with h1 | h1; (refine .inr fun h2 => ?_; exact hc7 ⟨by omega, by omega⟩); (exact .inl (by omega))
          have hkeyi := hes.key hil
          have hbei := hbe _ (entAt_mem hil)
          have hgl := sub_len (lo := i + 1) (hi := e) (by omega) hee
          have hph2 := hgt_hi (entAt es i)
          have hph1 := hgt_lo (entAt es i)
          have hone := hkeyi.one
          refine c_cut (fun a w => ∃ (b9 : Nat), St S hf ([(b9, row 46 ((towE (entAt es i)).cells ⟨(evAt evs i).1, nilS, []⟩))] ++ ([(b2, row 25 (List.replicate 32 (.int .u8 0)))] ++ ([(b1, row 46 (t.cells ⟨x.key, kv, []⟩))] ++ (Lv)))) 84 [(1, v), (2, hv), (3, ptr b1 0), (6, ptr b2 0), (7, .int .i64 ((i : Nat) : Int)), (8, .int .i64 ((e : Nat) : Int)), (9, ptr b9 0)] a w) ?_ ?_
          · skip
            refine any_begin (N := 15) (by kernel_rfl) rfl h ?_
            clear h; intro w h
            refine any_take (i := 0) rfl (by kernel_rfl) (fun _ _ _ _ h => h) h rfl (fun w h => p_move h rfl) fun a h => ?_
            refine any_take (i := 1) rfl (by kernel_rfl) (fun _ _ _ _ h => h) h rfl (fun w h => p_move h rfl) fun a h => ?_
            have hi8 : i < es.length := by omega
            refine any_take (i := 2) rfl (by kernel_rfl) (fun _ _ _ _ h => h) h rfl (fun w h => p_idxS (s := 2) (j := i) Tryd.underlying57 Tryd.sizeOf65 h rfl rfl hes.sl (by omega) hi8) fun a h => ?_
            refine any_take (i := 3) rfl (by kernel_rfl) (fun _ _ _ _ h => h) h rfl (fun w h => p_fieldAddr (r := sOff v + i * 2) Tryd.underlying65 rfl Tryd.sizeOf22 rfl rfl h rfl) fun a h => ?_
            refine any_take (i := 4) rfl (by kernel_rfl) (fun _ _ _ _ h => h) h rfl (fun w h => p_load (v := (evAt evs i).1) Tryd.isAgg22 h rfl ((hes.cels hi8) 0 _ rfl)) fun a h => ?_
            refine any_take (i := 5) rfl (by kernel_rfl) (fun _ _ _ _ h => h) h rfl (fun w h => p_move h rfl) fun a h => ?_
            refine any_take (i := 6) rfl (by kernel_rfl) (fun _ _ _ _ h => h) h rfl (fun w h => p_move h rfl) fun a h => ?_
            have hi9 : i < es.length := by omega
            refine any_take (i := 7) rfl (by kernel_rfl) (fun _ _ _ _ h => h) h rfl (fun w h => p_idxS (s := 2) (j := i) Tryd.underlying57 Tryd.sizeOf65 h rfl rfl hes.sl (by omega) hi9) fun a h => ?_
            refine any_take (i := 8) rfl (by kernel_rfl) (fun _ _ _ _ h => h) h rfl (fun w h => p_fieldAddr (r := sOff v + i * 2 + 1) Tryd.underlying65 rfl Tryd.sizeOf22 rfl rfl h rfl) fun a h => ?_
            refine any_take (i := 9) rfl (by kernel_rfl) (fun _ _ _ _ h => h) h rfl (fun w h => p_load (v := (evAt evs i).2) Tryd.isAgg22 h rfl ((hes.cels hi9) 1 _ rfl)) fun a h => ?_
            refine any_all (rs := [10, 13]) (by kernel_rfl) rfl ?_
            intro i hi10
            simp only [List.mem_cons, List.not_mem_nil, or_false] at hi10
            rcases hi10 with rfl | rfl
            · skip
              refine any_V rfl h.env rfl (Enter.opT (o_call Tryd.call78 h rfl) (call_val0 h.own (c_bDigest h.own.lend0 (hk.mono h.own.le0) (hf1.mono h.own.le0) ((hes.val hi9).mono h.own.le0) (by omega)))) fun a w h => ?_
              refine any_take (i := 11) rfl (by kernel_rfl) (fun _ _ _ _ h => h) h rfl (fun w h => p_build (pl := [(0, 32), (32, 1)]) (out := addrC (valD (entAt es i)) 0) Tryd.underlying27 Tryd.type27 rfl (by kernel_rfl) h rfl (addr_filled (valD_length _) rfl)) fun a h => ?_
              refine any_take (i := 12) rfl (by kernel_rfl) (fun _ _ _ _ h => h) h rfl (fun w h => p_build (pl := [(0, 1), (1, 1), (2, 33), (35, 1)]) (out := (towE (entAt es i)).cells ⟨(evAt evs i).1, nilS, []⟩) Tryd.underlying46 Tryd.type46 rfl (by kernel_rfl) h rfl (tow_filled2 (t := towE (entAt es i)) (valD_length _) hkeyi.cells1 rfl rfl)) fun a h => ?_
              refine any_one (i := 13) (by kernel_rfl) ?_
              refine any_O rfl h.env rfl (o_alloc (l := ((⟨false, [], zeroS, 0, []⟩ : TowP).cells ⟨nilS, nilS, []⟩)) Tryd.zeroValue46 rfl h) ?_
              rintro b11 _ a w h
              refine any_one (i := 14) (by kernel_rfl) ?_
              refine any_N rfl h.env (o_storeA (kk := 0) (vs := (towE (entAt es i)).cells ⟨(evAt evs i).1, nilS, []⟩) (cs' := (towE (entAt es i)).cells ⟨(evAt evs i).1, nilS, []⟩) (fun w => by rw [Tryd.sizeOf46, (tow_len (t := towE (entAt es i)) (x := ⟨(evAt evs i).1, nilS, []⟩) (valD_length _))]) h rfl rfl rfl (tow_one hone rfl) rfl (by rw [(tow_len (t := towE (entAt es i)) (x := ⟨(evAt evs i).1, nilS, []⟩) (valD_length _))]; simp [tow_len (t := ⟨false, [], zeroS, 0, []⟩) rfl]) (by rw [(tow_len (t := towE (entAt es i)) (x := ⟨(evAt evs i).1, nilS, []⟩) (valD_length _))]; simp [(tow_len (t := towE (entAt es i)) (x := ⟨(evAt evs i).1, nilS, []⟩) (valD_length _)), tow_len (t := ⟨false, [], zeroS, 0, []⟩) rfl, List.drop_of_length_le])) fun a w h => ?_
              refine any_end (by kernel_rfl) ?_
              exact th_n ⟨b11, h.to rfl ⟨rfl, rfl, rfl, rfl, (look_int rfl (by first | rfl | omega)), (look_int rfl (by first | rfl | omega)), rfl, trivial⟩⟩
            · skip
              refine any_O rfl h.env rfl (o_alloc (l := ((⟨false, [], zeroS, 0, []⟩ : TowP).cells ⟨nilS, nilS, []⟩)) Tryd.zeroValue46 rfl h) ?_
              rintro b12 _ a w h
              refine any_one (i := 10) (by kernel_rfl) ?_
              refine any_V rfl h.env rfl (Enter.opT (o_call Tryd.call78 h rfl) (call_val0 h.own (c_bDigest h.own.lend0 (hk.mono h.own.le0) (hf1.mono h.own.le0) ((hes.val hi9).mono h.own.le0) (by omega)))) fun a w h => ?_
              refine any_take (i := 11) rfl (by kernel_rfl) (fun _ _ _ _ h => h) h rfl (fun w h => p_build (pl := [(0, 32), (32, 1)]) (out := addrC (valD (entAt es i)) 0) Tryd.underlying27 Tryd.type27 rfl (by kernel_rfl) h rfl (addr_filled (valD_length _) rfl)) fun a h => ?_
              refine any_take (i := 12) rfl (by kernel_rfl) (fun _ _ _ _ h => h) h rfl (fun w h => p_build (pl := [(0, 1), (1, 1), (2, 33), (35, 1)]) (out := (towE (entAt es i)).cells ⟨(evAt evs i).1, nilS, []⟩) Tryd.underlying46 Tryd.type46 rfl (by kernel_rfl) h rfl (tow_filled2 (t := towE (entAt es i)) (valD_length _) hkeyi.cells1 rfl rfl)) fun a h => ?_
              refine any_one (i := 14) (by kernel_rfl) ?_
              refine any_N rfl h.env (o_storeA (kk := 0) (vs := (towE (entAt es i)).cells ⟨(evAt evs i).1, nilS, []⟩) (cs' := (towE (entAt es i)).cells ⟨(evAt evs i).1, nilS, []⟩) (fun w => by rw [Tryd.sizeOf46, (tow_len (t := towE (entAt es i)) (x := ⟨(evAt evs i).1, nilS, []⟩) (valD_length _))]) h rfl rfl rfl (tow_one hone rfl) rfl (by rw [(tow_len (t := towE (entAt es i)) (x := ⟨(evAt evs i).1, nilS, []⟩) (valD_length _))]; simp [tow_len (t := ⟨false, [], zeroS, 0, []⟩) rfl]) (by rw [(tow_len (t := towE (entAt es i)) (x := ⟨(evAt evs i).1, nilS, []⟩) (valD_length _))]; simp [(tow_len (t := towE (entAt es i)) (x := ⟨(evAt evs i).1, nilS, []⟩) (valD_length _)), tow_len (t := ⟨false, [], zeroS, 0, []⟩) rfl, List.drop_of_length_le])) fun a w h => ?_
              refine any_end (by kernel_rfl) ?_
              exact th_n ⟨b12, h.to rfl ⟨rfl, rfl, rfl, rfl, (look_int rfl (by first | rfl | omega)), (look_int rfl (by first | rfl | omega)), rfl, trivial⟩⟩
          · rintro a w ⟨b9, h⟩
            refine c_seq ?_
            refine any_begin (N := 17) (by kernel_rfl) rfl h ?_
            clear h; intro w h
            refine any_take (i := 0) rfl (by kernel_rfl) (fun _ _ _ _ h => h) h rfl (fun w h => p_move h rfl) fun a h => ?_
            refine any_take (i := 1) rfl (by kernel_rfl) (fun _ _ _ _ h => h) h rfl (fun w h => p_move h rfl) fun a h => ?_
            have hi13 : i < es.length := by omega
            refine any_take (i := 2) rfl (by kernel_rfl) (fun _ _ _ _ h => h) h rfl (fun w h => p_idxS1 (j := i) Tryd.underlying87 Tryd.sizeOf3 h rfl rfl hh (by omega) hi13) fun a h => ?_
            refine any_take (i := 3) rfl (by kernel_rfl) (fun _ _ _ _ h => h) h rfl (fun w h => p_load Tryd.isAgg3 h rfl (hh.cel (hcells_at hi13))) fun a h => ?_
            refine any_take (i := 4) rfl (by kernel_rfl) (fun _ _ _ _ h => h) h rfl (fun w h => p_sub (r := (hgt (entAt es i) : Int) - 1) h rfl rfl (wi (by have := hgt_hi (entAt es i); omega))) fun a h => ?_
            refine any_take (i := 5) rfl (by kernel_rfl) (fun _ _ _ _ h => h) h rfl (fun w h => p_move h rfl) fun a h => ?_
            refine any_take (i := 6) rfl (by kernel_rfl) (fun _ _ _ _ h => h) h rfl (fun w h => p_move h rfl) fun a h => ?_
            have hi14 : i < es.length := by omega
            refine any_take (i := 7) rfl (by kernel_rfl) (fun _ _ _ _ h => h) h rfl (fun w h => p_idxS (s := 2) (j := i) Tryd.underlying57 Tryd.sizeOf65 h rfl rfl hes.sl (by omega) hi14) fun a h => ?_
            refine any_take (i := 8) rfl (by kernel_rfl) (fun _ _ _ _ h => h) h rfl (fun w h => p_fieldAddr (r := sOff v + i * 2) Tryd.underlying65 rfl Tryd.sizeOf22 rfl rfl h rfl) fun a h => ?_
            refine any_take (i := 9) rfl (by kernel_rfl) (fun _ _ _ _ h => h) h rfl (fun w h => p_load (v := (evAt evs i).1) Tryd.isAgg22 h rfl ((hes.cels hi14) 0 _ rfl)) fun a h => ?_
            refine any_take (i := 10) rfl (by kernel_rfl) (fun _ _ _ _ h => h) h rfl (fun w h => p_move h rfl) fun a h => ?_
            refine any_take (i := 11) rfl (by kernel_rfl) (fun _ _ _ _ h => h) h rfl (fun w h => p_move h rfl) fun a h => ?_
            refine any_take (i := 12) rfl (by kernel_rfl) (fun _ _ _ _ h => h) h rfl (fun w h => p_sub (r := ((e - i : Nat) : Int)) h rfl rfl ((wi (by omega)).trans (by omega))) fun a h => ?_
            refine any_take (i := 13) rfl (by kernel_rfl) (fun _ _ _ _ h => h) h rfl (fun w h => p_conv Tryd.underlying3 Tryd.underlying23 h rfl (wu64 (by omega))) fun a h => ?_
            refine any_take (i := 14) rfl (by kernel_rfl) (fun _ _ _ _ h => h) h rfl (fun w h => p_build (pl := [(0, 1), (1, 1), (2, 1), (3, 33), (36, 32)]) (out := ((kid0 (entAt es i) (e - i)).at (evAt evs i).1).cells) Tryd.underlying29 Tryd.type29 rfl (by kernel_rfl) h rfl (kid_filled hkeyi.cells1 rfl)) fun a h => ?_
            refine any_one (i := 15) (by kernel_rfl) ?_
            refine any_O rfl h.env rfl (o_alloc (l := Tryd.zeroCells29.toList) Tryd.zeroValue29 rfl h) ?_
            rintro b15 _ a w h
            refine any_one (i := 16) (by kernel_rfl) ?_
            refine any_N rfl h.env (o_storeA (kk := 0) (vs := ((kid0 (entAt es i) (e - i)).at (evAt evs i).1).cells) (cs' := ((kid0 (entAt es i) (e - i)).at (evAt evs i).1).cells) (fun w => by rw [Tryd.sizeOf29, (kid0_ok (n := e - i) hkeyi (by omega)).length]) h rfl rfl rfl (kid0_ok (n := e - i) hkeyi (by omega)).one rfl (by rw [(kid0_ok (n := e - i) hkeyi (by omega)).length]; simp [Tryd.zeroCells29_size]) (by rw [(kid0_ok (n := e - i) hkeyi (by omega)).length]; simp [(kid0_ok (n := e - i) hkeyi (by omega)).length, Tryd.zeroCells29_size])) fun a w h => ?_
            refine any_end (by kernel_rfl) ?_
            refine th_n ?_
            refine c_seq ?_
            refine any_begin (N := 14) (by kernel_rfl) rfl h ?_
            clear h; intro w h
            refine any_take (i := 1) rfl (by kernel_rfl) (fun _ _ _ _ h => h) h rfl (fun w h => p_move h rfl) fun a h => ?_
            refine any_take (i := 2) rfl (by kernel_rfl) (fun _ _ _ _ h => h) h rfl (fun w h => p_move h rfl) fun a h => ?_
            refine any_take (i := 3) rfl (by kernel_rfl) (fun _ _ _ _ h => h) h rfl (fun w h => p_add h rfl rfl (wi (by omega))) fun a h => ?_
            refine any_take (i := 4) rfl (by kernel_rfl) (fun _ _ _ _ h => h) h rfl (fun w h => p_move h rfl) fun a h => ?_
            refine any_take (i := 5) rfl (by kernel_rfl) (fun _ _ _ _ h => h) h rfl (fun w h => p_sliceS (lo := i + 1) (hi := e) Tryd.underlying57 Tryd.sizeOf65 h rfl rfl rfl hes.sl (by omega) (by omega) (by omega) (by omega)) fun a h => ?_
            refine any_take (i := 6) rfl (by kernel_rfl) (fun _ _ _ _ h => h) h rfl (fun w h => p_move h rfl) fun a h => ?_
            refine any_take (i := 7) rfl (by kernel_rfl) (fun _ _ _ _ h => h) h rfl (fun w h => p_move h rfl) fun a h => ?_
            refine any_take (i := 8) rfl (by kernel_rfl) (fun _ _ _ _ h => h) h rfl (fun w h => p_add h rfl rfl (wi (by omega))) fun a h => ?_
            refine any_take (i := 9) rfl (by kernel_rfl) (fun _ _ _ _ h => h) h rfl (fun w h => p_move h rfl) fun a h => ?_
            refine any_take (i := 10) rfl (by kernel_rfl) (fun _ _ _ _ h => h) h rfl (fun w h => p_sliceS (lo := i + 1) (hi := e) Tryd.underlying87 Tryd.sizeOf3 h rfl rfl rfl hh (by omega) (by omega) (by omega) (by omega)) fun a h => ?_
            refine any_one (i := 0) (by kernel_rfl) ?_
            refine any_V rfl h.env rfl (Pure.opT (p_loadA (vs := (towE (entAt es i)).cells ⟨(evAt evs i).1, nilS, []⟩) Tryd.isAgg46 (fun w => by rw [Tryd.sizeOf46, (towE_ok hkeyi).length]) h rfl (Cels.all (k := 1) rfl)) h.own) fun a w h => ?_
            refine any_one (i := 11) (by kernel_rfl) ?_
            refine any_V rfl h.env rfl (Enter.opT (o_call Tryd.call63 h rfl) (call_val0 h.own (ih h.own.lend0 ((towE_ok hkeyi).mono h.own.le0) hbei.1 rfl rfl (htg.mono h.own.le0) (hk.mono h.own.le0) (hf1.mono h.own.le0) ((hes.sub (lo := i + 1) (hi := e) (by omega) (by omega)).mono h.own.le0) ((hcells_sub hh (lo := i + 1) (hi := e) (by omega) (by omega)).mono h.own.le0) (fun f hf => hbe f (sub_mem hf)) (by rw [hgl]; omega)))) fun a w h => ?_
            refine any_take (i := 12) rfl (by kernel_rfl) (fun _ _ _ _ h => h) h rfl (fun w h => p_fieldAddr (r := 36) Tryd.underlying29 rfl Tryd.sizeOf25 rfl rfl h rfl) fun a h => ?_
            refine any_one (i := 13) (by kernel_rfl) ?_
            refine any_N rfl h.env (o_storeA (kk := 0) (vs := (hangL (ownL (towE (entAt es i))) ((es.drop (i + 1)).take (e - (i + 1)))).map B) (cs' := ((kidE (entAt es i) ((es.drop (i + 1)).take (e - (i + 1)))).at (evAt evs i).1).cells) (fun w => by rw [Tryd.sizeOf25, (show ((hangL (ownL (towE (entAt es i))) ((es.drop (i + 1)).take (e - (i + 1)))).map B).length = 32 by rw [List.length_map, hangL_length _ _ (ownL_length _)])]) h rfl rfl rfl (oneB _) rfl (by rw [(show ((hangL (ownL (towE (entAt es i))) ((es.drop (i + 1)).take (e - (i + 1)))).map B).length = 32 by rw [List.length_map, hangL_length _ _ (ownL_length _)]), (kid0_ok (n := e - i) hkeyi (by omega)).length]; decide) (by rw [(show ((hangL (ownL (towE (entAt es i))) ((es.drop (i + 1)).take (e - (i + 1)))).map B).length = 32 by rw [List.length_map, hangL_length _ _ (ownL_length _)])]; exact kid0_label (by rw [hgl]; omega))) fun a w h => ?_
            refine any_end (by kernel_rfl) ?_
            have hkE : ((kidE (entAt es i) ((es.drop (i + 1)).take (e - (i + 1)))).at (evAt evs i).1).Ok hf (kidE (entAt es i) ((es.drop (i + 1)).take (e - (i + 1)))).key := kidE_ok hkeyi (by rw [hgl]; omega)
            refine th_n ?_
            refine c_seq ?_
            refine c_region ?_
            refine stepP (p_loadA (vs := ((kidE (entAt es i) ((es.drop (i + 1)).take (e - (i + 1)))).at (evAt evs i).1).cells) Tryd.isAgg29 (fun w => by rw [Tryd.sizeOf29, hkE.length]) h rfl (Cels.all (k := 0) rfl)) h rfl fun a w h => ?_
            refine stepO (o_buildSlice_one (vs := ((kidE (entAt es i) ((es.drop (i + 1)).take (e - (i + 1)))).at (evAt evs i).1).cells) Tryd.underlying44 Tryd.sizeOf29 Tryd.zeroValue29 (by kernel_rfl) h rfl rfl hkE.length rfl rfl) h.env rfl ?_
            rintro b16 _ a w h
            refine stepP (p_fieldAddr (r := 35) Tryd.underlying46 rfl Tryd.sizeOf44 rfl rfl h rfl) h rfl fun a w h => ?_
            refine stepP (p_load (v := kv) Tryd.isAgg44 h rfl (Cel.own (k := 4) rfl (tow_kidsAt hts))) h rfl fun a w h => ?_
            refine stepO (o_append (Lv := [(b16, row 29 (((kidE (entAt es i) ((es.drop (i + 1)).take (e - (i + 1)))).at (evAt evs i).1).cells))]) (Lr := [(b15, row 29 (((kidE (entAt es i) ((es.drop (i + 1)).take (e - (i + 1)))).at (evAt evs i).1).cells)), (b9, row 46 ((towE (entAt es i)).cells ⟨(evAt evs i).1, nilS, []⟩)), (b2, row 25 (List.replicate 32 (.int .u8 0))), (b1, row 46 (t.cells ⟨x.key, kv, []⟩))] ++ Lv) (s := 68) (l := 1) (q := m2) (xs := ((kidE (entAt es i) ((es.drop (i + 1)).take (e - (i + 1)))).at (evAt evs i).1).cells) (news := kcells ks kvs) Tryd.underlying44 Tryd.type29 rfl rfl (by kernel_rfl) (by decide) h rfl (Vec.ofRow hkE.length) rfl (hvec.srcR (L1 := [(b16, row 29 (((kidE (entAt es i) ((es.drop (i + 1)).take (e - (i + 1)))).at (evAt evs i).1).cells))] ++ [(b15, row 29 (((kidE (entAt es i) ((es.drop (i + 1)).take (e - (i + 1)))).at (evAt evs i).1).cells)), (b9, row 46 ((towE (entAt es i)).cells ⟨(evAt evs i).1, nilS, []⟩)), (b2, row 25 (List.replicate 32 (.int .u8 0))), (b1, row 46 (t.cells ⟨x.key, kv, []⟩))])) (hml ▸ kcells_length hkl hok) (kcells_one hok) (by unfold maxLen; omega) (by show _ * 112 ≤ _; omega)) h.env rfl ?_
            rintro ⟨v17, Lv18⟩ hvec19 a w h
            replace h := St.drop (L' := Lv18 ++ [(b15, row 29 (((kidE (entAt es i) ((es.drop (i + 1)).take (e - (i + 1)))).at (evAt evs i).1).cells)), (b9, row 46 ((towE (entAt es i)).cells ⟨(evAt evs i).1, nilS, []⟩)), (b2, row 25 (List.replicate 32 (.int .u8 0))), (b1, row 46 (t.cells ⟨x.key, kv, []⟩))]) h (List.Sublist.append (List.Sublist.refl _) (List.sublist_append_left _ _))
            replace h := St.perm (L' := [(b15, row 29 (((kidE (entAt es i) ((es.drop (i + 1)).take (e - (i + 1)))).at (evAt evs i).1).cells)), (b9, row 46 ((towE (entAt es i)).cells ⟨(evAt evs i).1, nilS, []⟩)), (b2, row 25 (List.replicate 32 (.int .u8 0))), (b1, row 46 (t.cells ⟨x.key, kv, []⟩))] ++ Lv18) h (List.perm_append_comm (l₁ := Lv18) (l₂ := [(b15, row 29 (((kidE (entAt es i) ((es.drop (i + 1)).take (e - (i + 1)))).at (evAt evs i).1).cells)), (b9, row 46 ((towE (entAt es i)).cells ⟨(evAt evs i).1, nilS, []⟩)), (b2, row 25 (List.replicate 32 (.int .u8 0))), (b1, row 46 (t.cells ⟨x.key, kv, []⟩))]))
            have hvec2 : Vec 29 68 v17 (m2 + 1) (kcells (kidE (entAt es i) ((es.drop (i + 1)).take (e - (i + 1))) :: ks) ((evAt evs i).1 :: kvs)) Lv18 := hvec19.cast (by omega) rfl
            refine stepP (p_fieldAddr (r := 35) Tryd.underlying46 rfl Tryd.sizeOf44 rfl rfl h rfl) h rfl fun a w h => ?_
            refine stepN (o_store (kk := 3) (cs' := t.cells ⟨x.key, v17, []⟩) Tryd.sizeOf44 h rfl rfl (vec_one hvec2).1 (vec_one hvec2).2 rfl (by rw [tow_len hts]; decide) (kids_set hts)) h.env fun a w h => ?_
            refine stepEnd ?_
            refine th_n ?_
            replace h := St.pickL (A := [(b15, row 29 (((kidE (entAt es i) ((es.drop (i + 1)).take (e - (i + 1)))).at (evAt evs i).1).cells)), (b9, row 46 ((towE (entAt es i)).cells ⟨(evAt evs i).1, nilS, []⟩)), (b2, row 25 (List.replicate 32 (.int .u8 0))), (b1, row 46 (t.cells ⟨x.key, v17, []⟩))]) (R := Lv18) (xs := [(b2, row 25 (List.replicate 32 (.int .u8 0))), (b1, row 46 (t.cells ⟨x.key, v17, []⟩))]) h [2, 3] (by decide) rfl
            have hkb2 : ∀ p ∈ kidE (entAt es i) ((es.drop (i + 1)).take (e - (i + 1))) :: ks, p.key.length ≤ 1024 := fun p hp => by rcases List.mem_cons.1 hp with rfl | hp; exact hbei.1; exact hkb p hp
            have hlo2 : m2 + 1 ≤ hgt (entAt es i) := by rcases hnx with h1 | h1 <;> omega
            have hnx2 : e = es.length ∨ hgt (entAt es i) < hgt (entAt es e) := by rcases hex with h1 | h1; exact .inl h1; exact .inr (by omega)
            refine c_region ?_
            refine stepP (p_move h rfl) h rfl fun a w h => ?_
            refine stepP (p_assign h rfl) h rfl fun a w h => ?_
            refine stepEnd ?_
            refine bl_n ?_
            exact th_n ⟨_, by omega, e, _, hgt (entAt es i), _, _, _, _, rfl, by omega, hang_step hie hee hal hex hgo, hvec2, by rw [List.length_cons]; omega, by rw [List.length_cons, List.length_cons, hkl], kids_cons_ok hok hkE, hkb2, by omega, hgt_hi _, hnx2, h.to rfl ⟨rfl, rfl, rfl, rfl, (look_int rfl (by first | rfl | omega)), trivial⟩⟩
    · skip
      refine c_exit (th_e (th_e (exit_at ?_)))
      refine th_n ?_
      refine c_seq ?_
      have hin : i = es.length := by omega
      subst hin
      rw [List.drop_length, hangL_nil] at hgo
      obtain ⟨hf3, hle3, hin3, hbk3, h⟩ := St.freezeR (L1 := [(b2, row 25 (List.replicate 32 (.int .u8 0))), (b1, row 46 (t.cells ⟨x.key, kv, []⟩))]) (L2 := Lv) h
      have htow : TowOk hf3 (t.with ks) ⟨x.key, kv, kvs⟩ := ⟨hts, ht.key.mono hle3, ⟨by show Sl _ _ _ ks.length _; rw [hml]; exact hvec.sl hin3, hkl, fun i p u h1 h2 => (hok i p u h1 h2).mono hle3⟩⟩
      replace htg := htg.mono hle3
      replace hk := hk.mono hle3
      replace hf1 := hf1.mono hle3
      refine c_region ?_
      refine stepP (p_loadA (vs := t.cells ⟨x.key, kv, []⟩) Tryd.isAgg46 (fun w => by rw [Tryd.sizeOf46, tow_len hts]) h rfl (Cels.all (k := 1) rfl)) h rfl fun a w h => ?_
      refine stepV (Enter.opT (o_call Tryd.call33 h rfl) (call_val0 h.own (c_nLabel (t := t.with ks) (x := ⟨x.key, kv, kvs⟩) h.own.lend0 (htow.mono h.own.le0) (by show t.key.length ≤ _; omega) (fun p hp => Nat.le_trans (hkb p hp) (by decide)) (htg.mono h.own.le0) (hk.mono h.own.le0) (hf1.mono h.own.le0)))) h.env rfl fun a w h => ?_
      refine stepN (o_storeA (kk := 0) (vs := (labP (fun _ => true) (t.with ks) 0).map B) (cs' := (labP (fun _ => true) (t.with ks) 0).map B) (fun w => by rw [Tryd.sizeOf25, (show ((labP (fun _ => true) (t.with ks) 0).map B).length = 32 by rw [List.length_map, (labP_length _ _ _)])]) h rfl rfl rfl (oneB _) rfl (by rw [(show ((labP (fun _ => true) (t.with ks) 0).map B).length = 32 by rw [List.length_map, (labP_length _ _ _)])]; simp) (by rw [(show ((labP (fun _ => true) (t.with ks) 0).map B).length = 32 by rw [List.length_map, (labP_length _ _ _)])]; simp [List.drop_of_length_le])) h.env fun a w h => ?_
      refine stepEnd ?_
      refine th_n ?_
      refine c_ret ?_
      rw [hgo] at h
      exact finC (.inl rfl) h (vs := (hangL (ownL t) es).map B) rfl Tryd.isAgg25 (fun w => by rw [Tryd.sizeOf25, List.length_map, hangL_length _ _ (ownL_length _)]) rfl (Cels.all (k := 0) rfl) ⟨rfl, h.own.none.weaken hle3⟩

end Go.Proofs.YtkklgmhmhhbjkaaDoor
