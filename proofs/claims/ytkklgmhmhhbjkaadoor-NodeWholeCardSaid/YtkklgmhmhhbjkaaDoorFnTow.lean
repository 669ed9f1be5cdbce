/-
  WHAT EACH CALL COMES TO: towers: counts and what is valid. Printed by the own generator (wip/gen), one law of the own library for each operation.
-/
import Derived.Test.YtkklgmhmhhbjkaaDoorKitQ
import Derived.Test.YtkklgmhmhhbjkaaDoorProg
import Derived.Test.YtkklgmhmhhbjkaaDoorFnA
import Derived.Test.YtkklgmhmhhbjkaaDoorFnHei
namespace Go.Proofs.YtkklgmhmhhbjkaaDoor
open Go Go.Own Go.Proofs
set_option maxRecDepth 100000
set_option linter.unusedVariables false

theorem addrT : AddrT Tryd.prog 27 where
  out := fun w s1 s2 n1 n2 h1 h2 => run_equalIn_addr (w := w) 9996 (ts := 25) (tb := 5) Tryd.underlying27 (by kernel_rfl) ⟨_, _, rfl, by decide, by decide, rfl, rfl, rfl, rfl⟩ Tryd.underlying25 Tryd.underlying5 Tryd.underlying5 Tryd.sizeOf5 Tryd.isAgg5 Tryd.sizeOf25 Tryd.isAgg25 Tryd.isAgg5 s1 s2 n1 n2 h1 h2
  grd := Tryd.eqGuardType27

theorem c_bCompare {S : World} {hf : Hp} {w : World} (ho : Owns S hf [] w) {v u : Value} {l r : List UInt8} (hv : Byts hf v l) (hu : Byts hf u r) :
    Calls Tryd.prog 62 [v, u].toArray w (RetV S hf [] (.int .i64 (cmpB l r))) := by
  refine enter (n := 8) (E := [(0, _), (1, _)]) Tryd.func62 rfl Tryd.ntmps62 rfl rfl ho fun a h => ?_
  refine c_seq ?_
  refine c_region ?_
  refine stepP (p_assign h rfl) h rfl fun a w h => ?_
  refine stepEnd ?_
  refine th_n ?_
  refine c_seq ?_
  refine c_region ?_
  refine stepP (p_move h rfl) h rfl fun a w h => ?_
  refine stepP (p_move h rfl) h rfl fun a w h => ?_
  refine stepP (p_callExt (e := Extern.BytealgCompare.compare) Tryd.func77 (by kernel_rfl) (by kernel_rfl) (by kernel_rfl) (by kernel_rfl) h rfl (run_compareS h.own hv hu)) h rfl fun a w h => ?_
  refine stepP (p_assign h rfl) h rfl fun a w h => ?_
  refine stepEnd ?_
  refine th_n ?_
  refine c_ret ?_
  exact fin1 (.inl rfl) h rfl rfl ⟨rfl, h.own⟩

theorem c_nCount {S : World} {hf : Hp} {w : World} (ho : Owns S hf [] w) {t : TowP} {x : TowV} (ht : TowOk hf t x) :
    Calls Tryd.prog 35 [t.val x].toArray w (RetV S hf [] (.int .u64 (t.count : Int))) := by
  have hmany := ht.many
  refine enter (n := 22) (E := [(0, _)]) Tryd.func35 rfl Tryd.ntmps35 rfl rfl ho fun a h => ?_
  refine c_seq ?_
  refine c_region ?_
  refine stepO (o_box (l := t.cells x) h rfl rfl) h.env rfl ?_
  rintro b1 _ a w h
  refine stepP (p_assign h rfl) h rfl fun a w h => ?_
  refine stepEnd ?_
  obtain ⟨hf2, hlef2, hinf2, hbkf2, h⟩ := h.freeze
  replace ht := ht.mono hlef2
  have hle := hlef2
  have ro3 : hf2 b1 = some (row 46 (t.cells x)) := hinf2 _ _ (List.mem_of_getElem? (i := 0) rfl)
  refine th_n ?_
  refine c_seq ?_
  refine c_region ?_
  refine stepP (p_assign h rfl) h rfl fun a w h => ?_
  refine stepEnd ?_
  refine th_n ?_
  refine c_cut (fun a w => St S hf2 [] 22 [(1, ptr b1 0), (3, .int .u64 ((base t.head : Nat) : Int))] a w) ?_ ?_
  · skip
    refine c_seq ?_
    refine c_region ?_
    refine stepP (p_fieldAddr (r := 0) Tryd.underlying46 rfl Tryd.sizeOf4 rfl rfl h rfl) h rfl fun a w h => ?_
    refine stepP (p_load Tryd.isAgg4 h rfl (Cel.stay ro3 rfl)) h rfl fun a w h => ?_
    refine stepP (p_not h rfl) h rfl fun a w h => ?_
    refine stepEnd ?_
    refine th_n ?_
    refine c_condB rfl h (fun hc4 => ?_) (fun hc4 => ?_)
    · skip
      refine c_region ?_
      refine stepP (p_assign h rfl) h rfl fun a w h => ?_
      refine stepEnd ?_
      have hbase : ((base t.head : Nat) : Int) = 1 := by cases hd : t.head <;> simp_all [base]
      exact th_n (h.to rfl ⟨rfl, (look_int rfl (by first | rfl | omega)), trivial⟩)
    · skip
      refine c_skip ?_
      have hbase : ((base t.head : Nat) : Int) = 0 := by cases hd : t.head <;> simp_all [base]
      exact th_n (h.to rfl ⟨rfl, (look_int rfl (by first | rfl | omega)), trivial⟩)
  · intro a w h
    refine c_seq ?_
    refine c_seq ?_
    refine c_region ?_
    refine stepP (p_fieldAddr (r := 35) Tryd.underlying46 rfl Tryd.sizeOf44 rfl rfl h rfl) h rfl fun a w h => ?_
    refine stepP (p_load Tryd.isAgg44 h rfl (Cel.stay ro3 ht.kidsAt)) h rfl fun a w h => ?_
    refine stepP (p_lenS Tryd.underlying44 h rfl ht.kids.sl) h rfl fun a w h => ?_
    refine stepP (p_move h rfl) h rfl fun a w h => ?_
    refine stepEnd ?_
    refine th_n ?_
    refine c_block ?_
    refine c_loop (fun m a w => ∃ (i : Nat), m = t.kids.length - i ∧ i ≤ t.kids.length ∧ St S hf2 [] 22 [(3, .int .u64 ((cntN (base t.head) (t.kids.take i) : Nat) : Int)), (10, x.kids), (11, .int .i64 ((t.kids.length : Nat) : Int)), (12, .int .i64 ((i : Nat) : Int))] a w) (N := t.kids.length - 0) ⟨0, rfl, by omega, h.to rfl ⟨(look_int rfl (by first | rfl | omega)), rfl, (look_int rfl (by first | rfl | omega)), (look_int rfl (by first | rfl | omega)), trivial⟩⟩ ?_
    clear h
    rintro m a w ⟨i, rfl, hi, h⟩
    refine c_seq ?_
    refine c_region ?_
    refine stepP (p_lss h rfl rfl) h rfl fun a w h => ?_
    refine stepEnd ?_
    refine th_n ?_
    refine c_seq ?_
    refine c_cond rfl h (fun hc5 => ?_) (fun hc5 => ?_)
    · skip
      refine c_skip ?_
      refine th_n ?_
      refine c_seq ?_
      refine c_block ?_
      refine c_seq ?_
      refine c_region ?_
      have hi6 : i < t.kids.length := by omega
      refine stepP (p_idxS (s := 68) (j := i) Tryd.underlying44 Tryd.sizeOf29 h rfl rfl ht.kids.sl (by omega) hi6) h rfl fun a w h => ?_
      refine stepP (p_loadA (vs := ((kidAt t.kids i).at (vkAt x.kvs i)).cells) Tryd.isAgg29 (fun w => by rw [Tryd.sizeOf29, KidV.Ok.length (ht.kids.ok hi6)]) h rfl (ht.kids.cels hi6)) h rfl fun a w h => ?_
      refine stepO (o_alloc (l := Tryd.zeroCells29.toList) Tryd.zeroValue29 rfl h) h.env rfl ?_
      rintro b7 _ a w h
      refine stepN (o_storeA (kk := 0) (vs := ((kidAt t.kids i).at (vkAt x.kvs i)).cells) (cs' := ((kidAt t.kids i).at (vkAt x.kvs i)).cells) (fun w => by rw [Tryd.sizeOf29, (ht.kids.ok hi6).length]) h rfl rfl rfl (KidV.Ok.one (ht.kids.ok hi6)) rfl (by rw [(ht.kids.ok hi6).length]; simp [Tryd.zeroCells29_size]) (by rw [(ht.kids.ok hi6).length]; simp [(ht.kids.ok hi6).length, Tryd.zeroCells29_size, List.drop_of_length_le])) h.env fun a w h => ?_
      refine stepEnd ?_
      refine th_n ?_
      refine c_region ?_
      refine stepP (p_move h rfl) h rfl fun a w h => ?_
      refine stepP (p_fieldAddr (r := 2) Tryd.underlying29 rfl Tryd.sizeOf23 rfl rfl h rfl) h rfl fun a w h => ?_
      refine stepP (p_load (v := .int .u64 ((kidAt t.kids i).cnt : Int)) Tryd.isAgg23 h rfl (Cel.own (k := 0) rfl rfl)) h rfl fun a w h => ?_
      refine stepP (p_add (r := ((cntN (base t.head) (t.kids.take (i + 1)) : Nat) : Int)) h rfl rfl (u64_addN _ _ _ (cntN_at _ (by omega)))) h rfl fun a w h => ?_
      refine stepP (p_assign h rfl) h rfl fun a w h => ?_
      refine stepEnd ?_
      refine bl_n ?_
      refine th_n ?_
      replace h := h.drop (List.nil_sublist _)
      refine c_region ?_
      refine stepP (p_add h rfl rfl (wi (by omega))) h rfl fun a w h => ?_
      refine stepP (p_move h rfl) h rfl fun a w h => ?_
      refine stepEnd ?_
      exact th_n ⟨_, by omega, i + 1, rfl, by omega, h.to rfl ⟨(look_int rfl (by first | rfl | omega)), rfl, (look_int rfl (by first | rfl | omega)), (look_int rfl (by first | rfl | omega)), trivial⟩⟩
    · skip
      refine c_exit (th_e (th_e (exit_at ?_)))
      refine th_n ?_
      refine c_seq ?_
      refine c_region ?_
      refine stepP (p_move h rfl) h rfl fun a w h => ?_
      refine stepP (p_assign h rfl) h rfl fun a w h => ?_
      refine stepEnd ?_
      refine th_n ?_
      refine c_ret ?_
      have hin : i = t.kids.length := by omega
      exact fin1 (.inl rfl) h rfl rfl ⟨by rw [hin, List.take_length]; rfl, h.own.weaken hle⟩

theorem c_rCount {S : World} {hf : Hp} {w : World} (ho : Owns S hf [] w) {t : TowP} {x : TowV} (ht : TowOk hf t x) :
    Calls Tryd.prog 36 [t.val x].toArray w (RetV S hf [] (.int .u64 (t.count : Int))) := by
  have hmany := ht.many
  refine enter (n := 21) (E := [(0, _)]) Tryd.func36 rfl Tryd.ntmps36 rfl rfl ho fun a h => ?_
  refine c_seq ?_
  refine c_region ?_
  refine stepO (o_box (l := t.cells x) h rfl rfl) h.env rfl ?_
  rintro b1 _ a w h
  refine stepP (p_assign h rfl) h rfl fun a w h => ?_
  refine stepEnd ?_
  obtain ⟨hf2, hlef2, hinf2, hbkf2, h⟩ := h.freeze
  replace ht := ht.mono hlef2
  have hle := hlef2
  have ro3 : hf2 b1 = some (row 46 (t.cells x)) := hinf2 _ _ (List.mem_of_getElem? (i := 0) rfl)
  refine th_n ?_
  refine c_seq ?_
  refine c_region ?_
  refine stepP (p_assign h rfl) h rfl fun a w h => ?_
  refine stepEnd ?_
  refine th_n ?_
  refine c_cut (fun a w => St S hf2 [] 21 [(1, ptr b1 0), (3, .int .u64 ((base t.head : Nat) : Int))] a w) ?_ ?_
  · skip
    refine c_seq ?_
    refine c_region ?_
    refine stepP (p_fieldAddr (r := 0) Tryd.underlying46 rfl Tryd.sizeOf4 rfl rfl h rfl) h rfl fun a w h => ?_
    refine stepP (p_load Tryd.isAgg4 h rfl (Cel.stay ro3 rfl)) h rfl fun a w h => ?_
    refine stepEnd ?_
    refine th_n ?_
    refine c_condB rfl h (fun hc4 => ?_) (fun hc4 => ?_)
    · skip
      refine c_region ?_
      refine stepP (p_assign h rfl) h rfl fun a w h => ?_
      refine stepEnd ?_
      have hbase : ((base t.head : Nat) : Int) = 0 := by cases hd : t.head <;> simp_all [base]
      exact th_n (h.to rfl ⟨rfl, (look_int rfl (by first | rfl | omega)), trivial⟩)
    · skip
      refine c_skip ?_
      have hbase : ((base t.head : Nat) : Int) = 1 := by cases hd : t.head <;> simp_all [base]
      exact th_n (h.to rfl ⟨rfl, (look_int rfl (by first | rfl | omega)), trivial⟩)
  · intro a w h
    refine c_seq ?_
    refine c_seq ?_
    refine c_region ?_
    refine stepP (p_fieldAddr (r := 35) Tryd.underlying46 rfl Tryd.sizeOf44 rfl rfl h rfl) h rfl fun a w h => ?_
    refine stepP (p_load Tryd.isAgg44 h rfl (Cel.stay ro3 ht.kidsAt)) h rfl fun a w h => ?_
    refine stepP (p_lenS Tryd.underlying44 h rfl ht.kids.sl) h rfl fun a w h => ?_
    refine stepP (p_move h rfl) h rfl fun a w h => ?_
    refine stepEnd ?_
    refine th_n ?_
    refine c_block ?_
    refine c_loop (fun m a w => ∃ (i : Nat), m = t.kids.length - i ∧ i ≤ t.kids.length ∧ St S hf2 [] 21 [(3, .int .u64 ((cntN (base t.head) (t.kids.take i) : Nat) : Int)), (9, x.kids), (10, .int .i64 ((t.kids.length : Nat) : Int)), (11, .int .i64 ((i : Nat) : Int))] a w) (N := t.kids.length - 0) ⟨0, rfl, by omega, h.to rfl ⟨(look_int rfl (by first | rfl | omega)), rfl, (look_int rfl (by first | rfl | omega)), (look_int rfl (by first | rfl | omega)), trivial⟩⟩ ?_
    clear h
    rintro m a w ⟨i, rfl, hi, h⟩
    refine c_seq ?_
    refine c_region ?_
    refine stepP (p_lss h rfl rfl) h rfl fun a w h => ?_
    refine stepEnd ?_
    refine th_n ?_
    refine c_seq ?_
    refine c_cond rfl h (fun hc5 => ?_) (fun hc5 => ?_)
    · skip
      refine c_skip ?_
      refine th_n ?_
      refine c_seq ?_
      refine c_block ?_
      refine c_seq ?_
      refine c_region ?_
      have hi6 : i < t.kids.length := by omega
      refine stepP (p_idxS (s := 68) (j := i) Tryd.underlying44 Tryd.sizeOf29 h rfl rfl ht.kids.sl (by omega) hi6) h rfl fun a w h => ?_
      refine stepP (p_loadA (vs := ((kidAt t.kids i).at (vkAt x.kvs i)).cells) Tryd.isAgg29 (fun w => by rw [Tryd.sizeOf29, KidV.Ok.length (ht.kids.ok hi6)]) h rfl (ht.kids.cels hi6)) h rfl fun a w h => ?_
      refine stepO (o_alloc (l := Tryd.zeroCells29.toList) Tryd.zeroValue29 rfl h) h.env rfl ?_
      rintro b7 _ a w h
      refine stepN (o_storeA (kk := 0) (vs := ((kidAt t.kids i).at (vkAt x.kvs i)).cells) (cs' := ((kidAt t.kids i).at (vkAt x.kvs i)).cells) (fun w => by rw [Tryd.sizeOf29, (ht.kids.ok hi6).length]) h rfl rfl rfl (KidV.Ok.one (ht.kids.ok hi6)) rfl (by rw [(ht.kids.ok hi6).length]; simp [Tryd.zeroCells29_size]) (by rw [(ht.kids.ok hi6).length]; simp [(ht.kids.ok hi6).length, Tryd.zeroCells29_size, List.drop_of_length_le])) h.env fun a w h => ?_
      refine stepEnd ?_
      refine th_n ?_
      refine c_region ?_
      refine stepP (p_move h rfl) h rfl fun a w h => ?_
      refine stepP (p_fieldAddr (r := 2) Tryd.underlying29 rfl Tryd.sizeOf23 rfl rfl h rfl) h rfl fun a w h => ?_
      refine stepP (p_load (v := .int .u64 ((kidAt t.kids i).cnt : Int)) Tryd.isAgg23 h rfl (Cel.own (k := 0) rfl rfl)) h rfl fun a w h => ?_
      refine stepP (p_add (r := ((cntN (base t.head) (t.kids.take (i + 1)) : Nat) : Int)) h rfl rfl (u64_addN _ _ _ (cntN_at _ (by omega)))) h rfl fun a w h => ?_
      refine stepP (p_assign h rfl) h rfl fun a w h => ?_
      refine stepEnd ?_
      refine bl_n ?_
      refine th_n ?_
      replace h := h.drop (List.nil_sublist _)
      refine c_region ?_
      refine stepP (p_add h rfl rfl (wi (by omega))) h rfl fun a w h => ?_
      refine stepP (p_move h rfl) h rfl fun a w h => ?_
      refine stepEnd ?_
      exact th_n ⟨_, by omega, i + 1, rfl, by omega, h.to rfl ⟨(look_int rfl (by first | rfl | omega)), rfl, (look_int rfl (by first | rfl | omega)), (look_int rfl (by first | rfl | omega)), trivial⟩⟩
    · skip
      refine c_exit (th_e (th_e (exit_at ?_)))
      refine th_n ?_
      refine c_seq ?_
      refine c_region ?_
      refine stepP (p_move h rfl) h rfl fun a w h => ?_
      refine stepP (p_assign h rfl) h rfl fun a w h => ?_
      refine stepEnd ?_
      refine th_n ?_
      refine c_ret ?_
      have hin : i = t.kids.length := by omega
      exact fin1 (.inl rfl) h rfl rfl ⟨by rw [hin, List.take_length]; rfl, h.own.weaken hle⟩

set_option maxHeartbeats 1000000 in
theorem c_kidsFit {S : World} {hf : Hp} {w : World} (ho : Owns S hf [] w) {t : TowP} {x : TowV} (ht : TowOk hf t x) (htg : TagsAt 0 hf) (hk : RoundsAt 3 hf) (hf1 : FirstAt 1 hf) :
    Calls Tryd.prog 56 [t.val x, .int .i64 t.top].toArray w (RetV S hf [] (.bool (decide (kidsOk t)))) := by
  have htop23 := top_hi t
  have hmany := ht.many
  refine enter (n := 92) (E := [(0, _), (1, _)]) Tryd.func56 rfl Tryd.ntmps56 rfl rfl ho fun a h => ?_
  refine c_seq ?_
  refine c_region ?_
  refine stepO (o_box (l := t.cells x) h rfl rfl) h.env rfl ?_
  rintro b1 _ a w h
  refine stepP (p_assign h rfl) h rfl fun a w h => ?_
  refine stepEnd ?_
  obtain ⟨hf2, hlef2, hinf2, hbkf2, h⟩ := h.freeze
  replace ht := ht.mono hlef2
  replace htg := htg.mono hlef2
  replace hk := hk.mono hlef2
  replace hf1 := hf1.mono hlef2
  have hle := hlef2
  have ro3 : hf2 b1 = some (row 46 (t.cells x)) := hinf2 _ _ (List.mem_of_getElem? (i := 0) rfl)
  refine th_n ?_
  refine c_seq ?_
  refine c_region ?_
  refine stepP (p_fieldAddr (r := 0) Tryd.underlying46 rfl Tryd.sizeOf4 rfl rfl h rfl) h rfl fun a w h => ?_
  refine stepP (p_load Tryd.isAgg4 h rfl (Cel.stay ro3 rfl)) h rfl fun a w h => ?_
  refine stepP (p_build (pl := [(0, 1), (1, 1), (2, 33), (35, 1)]) (out := ((⟨t.head, [], zeroS, 0, []⟩ : TowP).cells ⟨nilS, nilS, []⟩)) Tryd.underlying46 Tryd.type46 rfl (by kernel_rfl) h rfl (FillR.cons rfl rfl rfl (by decide) rfl FillR.nil)) h rfl fun a w h => ?_
  refine stepV (Enter.opT (o_call Tryd.call35 h rfl) (call_valA (c_nCount h.own (tow0 t.head)))) h.env rfl fun a w h => ?_
  refine stepP (p_assign h rfl) h rfl fun a w h => ?_
  refine stepEnd ?_
  refine th_n ?_
  refine c_seq ?_
  refine c_region ?_
  refine stepP (p_assign h rfl) h rfl fun a w h => ?_
  refine stepEnd ?_
  refine th_n ?_
  refine c_seq ?_
  refine c_seq ?_
  refine c_region ?_
  refine stepP (p_fieldAddr (r := 35) Tryd.underlying46 rfl Tryd.sizeOf44 rfl rfl h rfl) h rfl fun a w h => ?_
  refine stepP (p_load Tryd.isAgg44 h rfl (Cel.stay ro3 ht.kidsAt)) h rfl fun a w h => ?_
  refine stepP (p_lenS Tryd.underlying44 h rfl ht.kids.sl) h rfl fun a w h => ?_
  refine stepP (p_move h rfl) h rfl fun a w h => ?_
  refine stepEnd ?_
  refine th_n ?_
  refine c_block ?_
  refine c_loop (fun m a w => ∃ (i : Nat) (tp : Int) (av : Value) (ab : List UInt8), m = t.kids.length - i ∧ i ≤ t.kids.length ∧ (∀ j, j < i → kidOk t j) ∧ ((i = 0 ∧ tp = t.top) ∨ (0 < i ∧ tp = (kidAt t.kids (i - 1)).lvl - 1)) ∧ Byts hf2 av ab ∧ (i = 0 ∨ ab = (kidAt t.kids (i - 1)).key) ∧ St S hf2 [] 92 [(1, .int .i64 tp), (2, ptr b1 0), (5, .int .u64 ((cntN (base t.head) (t.kids.take i) : Nat) : Int)), (6, av), (14, x.kids), (15, .int .i64 ((t.kids.length : Nat) : Int)), (16, .int .i64 ((i : Nat) : Int))] a w) (N := t.kids.length - 0) ⟨0, t.top, nilS, [], rfl, by omega, fun j h => absurd h (Nat.not_lt_zero _), .inl ⟨rfl, rfl⟩, Sl.nil, .inl rfl, h.to rfl ⟨(look_int rfl (by first | rfl | omega)), rfl, (look_int rfl (by first | rfl | omega)), rfl, rfl, (look_int rfl (by first | rfl | omega)), (look_int rfl (by first | rfl | omega)), trivial⟩⟩ ?_
  clear h
  rintro m a w ⟨i, tp, av, ab, rfl, hi, hok, htp, hav, hab, h⟩
  refine c_seq ?_
  refine c_region ?_
  refine stepP (p_lss h rfl rfl) h rfl fun a w h => ?_
  refine stepEnd ?_
  refine th_n ?_
  refine c_seq ?_
  refine c_cond rfl h (fun hc4 => ?_) (fun hc4 => ?_)
  · skip
    refine c_skip ?_
    refine th_n ?_
    refine c_seq ?_
    refine c_block ?_
    refine c_seq ?_
    refine c_region ?_
    refine stepP (p_move h rfl) h rfl fun a w h => ?_
    have hi5 : i < t.kids.length := by omega
    refine stepP (p_idxS (s := 68) (j := i) Tryd.underlying44 Tryd.sizeOf29 h rfl rfl ht.kids.sl (by omega) hi5) h rfl fun a w h => ?_
    refine stepP (p_loadA (vs := ((kidAt t.kids i).at (vkAt x.kvs i)).cells) Tryd.isAgg29 (fun w => by rw [Tryd.sizeOf29, KidV.Ok.length (ht.kids.ok hi5)]) h rfl (ht.kids.cels hi5)) h rfl fun a w h => ?_
    refine stepO (o_alloc (l := Tryd.zeroCells29.toList) Tryd.zeroValue29 rfl h) h.env rfl ?_
    rintro b6 _ a w h
    refine stepP (p_assign h rfl) h rfl fun a w h => ?_
    refine stepN (o_storeA (kk := 0) (vs := ((kidAt t.kids i).at (vkAt x.kvs i)).cells) (cs' := ((kidAt t.kids i).at (vkAt x.kvs i)).cells) (fun w => by rw [Tryd.sizeOf29, (ht.kids.ok hi5).length]) h rfl rfl rfl (KidV.Ok.one (ht.kids.ok hi5)) rfl (by rw [(ht.kids.ok hi5).length]; simp [Tryd.zeroCells29_size]) (by rw [(ht.kids.ok hi5).length]; simp [(ht.kids.ok hi5).length, Tryd.zeroCells29_size, List.drop_of_length_le])) h.env fun a w h => ?_
    refine stepEnd ?_
    have hi2 : i < t.kids.length := by omega
    have htop : 0 < i → (kidAt t.kids (i - 1)).lvl ≤ t.top := fun h0 => (kidOk_lvl (hok (i - 1) (by omega))).2
    have htp23 : tp ≤ 23 := by rcases htp with ⟨_, h'⟩ | ⟨h0, h'⟩ <;> first | omega | (have := htop h0; omega)
    refine th_n ?_
    refine c_seq ?_
    refine c_cut (fun a w => St S hf2 ([(b6, row 29 (((kidAt t.kids i).at (vkAt x.kvs i)).cells))]) 92 [(2, ptr b1 0), (5, .int .u64 ((cntN (base t.head) (t.kids.take i) : Nat) : Int)), (6, av), (7, .int .i64 ((i : Nat) : Int)), (8, ptr b6 0), (14, x.kids), (15, .int .i64 ((t.kids.length : Nat) : Int)), (16, .int .i64 ((i : Nat) : Int)), (44, .bool (decide ((((((kidAt t.kids i).lvl : Int) < 0) ∨ ((tp : Int) < (kidAt t.kids i).lvl)) ∨ ((1024 : Int) < ((((kidAt t.kids i).key).length : Nat) : Int))) ∨ (((((height ((kidAt t.kids i).key)) : Nat) : Int) : Int) ≠ ((kidAt t.kids i).lvl) + 1))))] a w) ?_ ?_
    · skip
      refine region_quiet (by kernel_rfl) (by kernel_rfl) h ?_
      have he := h.env
      clear h
      refine stepQ he (fun w h => p_fieldAddr (r := 0) Tryd.underlying29 rfl Tryd.sizeOf3 rfl rfl h rfl) rfl fun a he => ?_
      refine stepQ he (fun w h => p_load (v := .int .i64 (kidAt t.kids i).lvl) Tryd.isAgg3 h rfl (Cel.own (k := 0) rfl rfl)) rfl fun a he => ?_
      refine stepQ he (fun w h => p_lss h rfl rfl) rfl fun a he => ?_
      refine stepQ he (fun w h => p_move h rfl) rfl fun a he => ?_
      rcases Decidable.em (((kidAt t.kids i).lvl : Int) < 0) with hb7 | hb7
      · have he := he.bool_of (t := 24) (b' := true) rfl (decide_eq_true hb7)
        refine stepQSkip rfl rfl rfl rfl he rfl fun a he => ?_
        refine stepQSkip rfl rfl rfl rfl he rfl fun a he => ?_
        refine stepQSkip rfl rfl rfl rfl he rfl fun a he => ?_
        refine stepQSkip rfl rfl rfl rfl he rfl fun a he => ?_
        refine stepQ he (fun w h => p_pickT h rfl rfl) rfl fun a he => ?_
        refine stepQ he (fun w h => p_move h rfl) rfl fun a he => ?_
        refine stepQSkip rfl rfl rfl rfl he rfl fun a he => ?_
        refine stepQSkip rfl rfl rfl rfl he rfl fun a he => ?_
        refine stepQSkip rfl rfl rfl rfl he rfl fun a he => ?_
        refine stepQSkip rfl rfl rfl rfl he rfl fun a he => ?_
        refine stepQ he (fun w h => p_pickT h rfl rfl) rfl fun a he => ?_
        refine stepQ he (fun w h => p_move h rfl) rfl fun a he => ?_
        refine stepQSkip rfl rfl rfl rfl he rfl fun a he => ?_
        refine stepQSkip rfl rfl rfl rfl he rfl fun a he => ?_
        refine stepQSkip rfl rfl rfl rfl he rfl fun a he => ?_
        refine stepQSkip rfl rfl rfl rfl he rfl fun a he => ?_
        refine stepQSkip rfl rfl rfl rfl he rfl fun a he => ?_
        refine stepQSkip rfl rfl rfl rfl he rfl fun a he => ?_
        refine stepQSkip rfl rfl rfl rfl he rfl fun a he => ?_
        refine stepQ he (fun w h => p_pickT h rfl rfl) rfl fun a he => ?_
        refine stepQEnd he fun w h => ?_
        have h := h.bool_of (t := 44) (b' := decide ((((((kidAt t.kids i).lvl : Int) < 0) ∨ ((tp : Int) < (kidAt t.kids i).lvl)) ∨ ((1024 : Int) < ((((kidAt t.kids i).key).length : Nat) : Int))) ∨ (((((height ((kidAt t.kids i).key)) : Nat) : Int) : Int) ≠ ((kidAt t.kids i).lvl) + 1))) rfl (by first | (simp [hb7]; done) | grind)
        exact th_n (h.to rfl ⟨rfl, (look_int rfl (by first | rfl | omega)), rfl, (look_int rfl (by first | rfl | omega)), rfl, rfl, (look_int rfl (by first | rfl | omega)), (look_int rfl (by first | rfl | omega)), rfl, trivial⟩)
      · have he := he.bool_of (t := 24) (b' := false) rfl (decide_eq_false hb7)
        refine stepQG rfl rfl rfl rfl he (fun w h => p_fieldAddr (r := 0) Tryd.underlying29 rfl Tryd.sizeOf3 rfl rfl h rfl) rfl fun a he => ?_
        refine stepQG rfl rfl rfl rfl he (fun w h => p_load (v := .int .i64 (kidAt t.kids i).lvl) Tryd.isAgg3 h rfl (Cel.own (k := 0) rfl rfl)) rfl fun a he => ?_
        refine stepQG rfl rfl rfl rfl he (fun w h => p_move h rfl) rfl fun a he => ?_
        refine stepQG rfl rfl rfl rfl he (fun w h => p_gtr h rfl rfl) rfl fun a he => ?_
        refine stepQ he (fun w h => p_pickF h rfl rfl) rfl fun a he => ?_
        refine stepQ he (fun w h => p_move h rfl) rfl fun a he => ?_
        rcases Decidable.em ((tp : Int) < (kidAt t.kids i).lvl) with hb8 | hb8
        · have he := he.bool_of (t := 30) (b' := true) rfl (decide_eq_true hb8)
          refine stepQSkip rfl rfl rfl rfl he rfl fun a he => ?_
          refine stepQSkip rfl rfl rfl rfl he rfl fun a he => ?_
          refine stepQSkip rfl rfl rfl rfl he rfl fun a he => ?_
          refine stepQSkip rfl rfl rfl rfl he rfl fun a he => ?_
          refine stepQ he (fun w h => p_pickT h rfl rfl) rfl fun a he => ?_
          refine stepQ he (fun w h => p_move h rfl) rfl fun a he => ?_
          refine stepQSkip rfl rfl rfl rfl he rfl fun a he => ?_
          refine stepQSkip rfl rfl rfl rfl he rfl fun a he => ?_
          refine stepQSkip rfl rfl rfl rfl he rfl fun a he => ?_
          refine stepQSkip rfl rfl rfl rfl he rfl fun a he => ?_
          refine stepQSkip rfl rfl rfl rfl he rfl fun a he => ?_
          refine stepQSkip rfl rfl rfl rfl he rfl fun a he => ?_
          refine stepQSkip rfl rfl rfl rfl he rfl fun a he => ?_
          refine stepQ he (fun w h => p_pickT h rfl rfl) rfl fun a he => ?_
          refine stepQEnd he fun w h => ?_
          have h := h.bool_of (t := 44) (b' := decide ((((((kidAt t.kids i).lvl : Int) < 0) ∨ ((tp : Int) < (kidAt t.kids i).lvl)) ∨ ((1024 : Int) < ((((kidAt t.kids i).key).length : Nat) : Int))) ∨ (((((height ((kidAt t.kids i).key)) : Nat) : Int) : Int) ≠ ((kidAt t.kids i).lvl) + 1))) rfl (by first | (simp [hb7, hb8]; done) | grind)
          exact th_n (h.to rfl ⟨rfl, (look_int rfl (by first | rfl | omega)), rfl, (look_int rfl (by first | rfl | omega)), rfl, rfl, (look_int rfl (by first | rfl | omega)), (look_int rfl (by first | rfl | omega)), rfl, trivial⟩)
        · have he := he.bool_of (t := 30) (b' := false) rfl (decide_eq_false hb8)
          refine stepQG rfl rfl rfl rfl he (fun w h => p_fieldAddr (r := 1) Tryd.underlying29 rfl Tryd.sizeOf22 rfl rfl h rfl) rfl fun a he => ?_
          refine stepQG rfl rfl rfl rfl he (fun w h => p_load (v := (vkAt x.kvs i)) Tryd.isAgg22 h rfl (Cel.own (k := 0) rfl rfl)) rfl fun a he => ?_
          refine stepQG rfl rfl rfl rfl he (fun w h => p_lenB Tryd.underlying22 h rfl (ht.kids.ok hi5).key) rfl fun a he => ?_
          refine stepQG rfl rfl rfl rfl he (fun w h => p_gtr h rfl rfl) rfl fun a he => ?_
          refine stepQ he (fun w h => p_pickF h rfl rfl) rfl fun a he => ?_
          refine stepQ he (fun w h => p_move h rfl) rfl fun a he => ?_
          rcases Decidable.em ((1024 : Int) < ((((kidAt t.kids i).key).length : Nat) : Int)) with hb9 | hb9
          · have he := he.bool_of (t := 36) (b' := true) rfl (decide_eq_true hb9)
            refine stepQSkip rfl rfl rfl rfl he rfl fun a he => ?_
            refine stepQSkip rfl rfl rfl rfl he rfl fun a he => ?_
            refine stepQSkip rfl rfl rfl rfl he rfl fun a he => ?_
            refine stepQSkip rfl rfl rfl rfl he rfl fun a he => ?_
            refine stepQSkip rfl rfl rfl rfl he rfl fun a he => ?_
            refine stepQSkip rfl rfl rfl rfl he rfl fun a he => ?_
            refine stepQSkip rfl rfl rfl rfl he rfl fun a he => ?_
            refine stepQ he (fun w h => p_pickT h rfl rfl) rfl fun a he => ?_
            refine stepQEnd he fun w h => ?_
            have h := h.bool_of (t := 44) (b' := decide ((((((kidAt t.kids i).lvl : Int) < 0) ∨ ((tp : Int) < (kidAt t.kids i).lvl)) ∨ ((1024 : Int) < ((((kidAt t.kids i).key).length : Nat) : Int))) ∨ (((((height ((kidAt t.kids i).key)) : Nat) : Int) : Int) ≠ ((kidAt t.kids i).lvl) + 1))) rfl (by first | (simp [hb7, hb8, hb9]; done) | grind)
            exact th_n (h.to rfl ⟨rfl, (look_int rfl (by first | rfl | omega)), rfl, (look_int rfl (by first | rfl | omega)), rfl, rfl, (look_int rfl (by first | rfl | omega)), (look_int rfl (by first | rfl | omega)), rfl, trivial⟩)
          · have he := he.bool_of (t := 36) (b' := false) rfl (decide_eq_false hb9)
            refine stepQG rfl rfl rfl rfl he (fun w h => p_fieldAddr (r := 1) Tryd.underlying29 rfl Tryd.sizeOf22 rfl rfl h rfl) rfl fun a he => ?_
            refine stepQG rfl rfl rfl rfl he (fun w h => p_load (v := (vkAt x.kvs i)) Tryd.isAgg22 h rfl (Cel.own (k := 0) rfl rfl)) rfl fun a he => ?_
            refine stepQGC rfl rfl rfl rfl he (fun w h => o_call Tryd.call23 h rfl) (fun w ho => call_q0 ho (c_nHeight ho.lend0 (htg.mono ho.le0) (hk.mono ho.le0) (hf1.mono ho.le0) ((ht.kids.ok hi5).key.mono ho.le0) (by omega))) rfl fun a he => ?_
            refine stepQG rfl rfl rfl rfl he (fun w h => p_fieldAddr (r := 0) Tryd.underlying29 rfl Tryd.sizeOf3 rfl rfl h rfl) rfl fun a he => ?_
            refine stepQG rfl rfl rfl rfl he (fun w h => p_load (v := .int .i64 (kidAt t.kids i).lvl) Tryd.isAgg3 h rfl (Cel.own (k := 0) rfl rfl)) rfl fun a he => ?_
            refine stepQG rfl rfl rfl rfl he (fun w h => p_add h rfl rfl (wi (by omega))) rfl fun a he => ?_
            refine stepQG rfl rfl rfl rfl he (fun w h => p_neq h rfl rfl) rfl fun a he => ?_
            refine stepQ he (fun w h => p_pickF h rfl rfl) rfl fun a he => ?_
            refine stepQEnd he fun w h => ?_
            have h := h.bool_of (t := 44) (b' := decide ((((((kidAt t.kids i).lvl : Int) < 0) ∨ ((tp : Int) < (kidAt t.kids i).lvl)) ∨ ((1024 : Int) < ((((kidAt t.kids i).key).length : Nat) : Int))) ∨ (((((height ((kidAt t.kids i).key)) : Nat) : Int) : Int) ≠ ((kidAt t.kids i).lvl) + 1))) rfl (by first | (simp [hb7, hb8, hb9]; done) | grind)
            exact th_n (h.to rfl ⟨rfl, (look_int rfl (by first | rfl | omega)), rfl, (look_int rfl (by first | rfl | omega)), rfl, rfl, (look_int rfl (by first | rfl | omega)), (look_int rfl (by first | rfl | omega)), rfl, trivial⟩)
    · intro a w h
      refine c_cond rfl h (fun hc10 => ?_) (fun hc10 => ?_)
      · skip
        refine c_seq ?_
        refine c_region ?_
        refine stepP (p_assign h rfl) h rfl fun a w h => ?_
        refine stepEnd ?_
        refine th_n ?_
        refine c_ret (th_r (bl_r (th_r (th_r (bl_r (th_r ?_))))))
        exact fin1 (.inl rfl) h rfl rfl ⟨by rw [decide_eq_false (kids_not hi2 (fun kk => ((kidOk_prog htp htop hab).1 kk).1 hc10))], h.own.none.weaken hle⟩
      · skip
        refine c_skip ?_
        refine th_n ?_
        refine c_seq ?_
        refine c_cut (fun a w => St S hf2 ([(b6, row 29 (((kidAt t.kids i).at (vkAt x.kvs i)).cells))]) 92 [(2, ptr b1 0), (5, .int .u64 ((cntN (base t.head) (t.kids.take i) : Nat) : Int)), (8, ptr b6 0), (14, x.kids), (15, .int .i64 ((t.kids.length : Nat) : Int)), (16, .int .i64 ((i : Nat) : Int)), (66, .bool (decide (((t.head = false) ∧ ((cmpB ((kidAt t.kids i).key) t.key : Int) ≤ 0)) ∨ (((0 : Int) < ((i : Nat) : Int)) ∧ ((0 : Int) ≤ cmpB ((kidAt t.kids i).key) ab)))))] a w) ?_ ?_
        · skip
          refine c_region ?_
          refine stepP (p_fieldAddr (r := 0) Tryd.underlying46 rfl Tryd.sizeOf4 rfl rfl h rfl) h rfl fun a w h => ?_
          refine stepP (p_load Tryd.isAgg4 h rfl (Cel.stay ro3 rfl)) h rfl fun a w h => ?_
          refine stepP (p_not h rfl) h rfl fun a w h => ?_
          have h := h.bool_of (t := 47) (b' := decide (t.head = false)) rfl (by cases t.head <;> rfl)
          refine stepP (p_move h rfl) h rfl fun a w h => ?_
          have h := h.bool_of (t := 47) (b' := decide (t.head = false)) rfl (by cases t.head <;> rfl)
          rcases Decidable.em (t.head = false) with hb11 | hb11
          · have h := h.bool_of (t := 48) (b' := true) rfl (decide_eq_true hb11)
            refine stepGP rfl rfl rfl rfl (p_fieldAddr (r := 1) Tryd.underlying29 rfl Tryd.sizeOf22 rfl rfl h rfl) h rfl fun a w h => ?_
            refine stepGP rfl rfl rfl rfl (p_load (v := (vkAt x.kvs i)) Tryd.isAgg22 h rfl (Cel.own (k := 0) rfl rfl)) h rfl fun a w h => ?_
            refine stepGP rfl rfl rfl rfl (p_fieldAddr (r := 1) Tryd.underlying46 rfl Tryd.sizeOf22 rfl rfl h rfl) h rfl fun a w h => ?_
            refine stepGP rfl rfl rfl rfl (p_load Tryd.isAgg22 h rfl (Cel.stay ro3 rfl)) h rfl fun a w h => ?_
            refine stepGV rfl rfl rfl rfl (Enter.opT (o_call Tryd.call62 h rfl) (call_val0 h.own (c_bCompare h.own.lend0 ((ht.kids.ok hi5).key.mono h.own.le0) (ht.key.mono h.own.le0)))) h rfl fun a w h => ?_
            refine stepGP rfl rfl rfl rfl (p_leq h rfl rfl) h rfl fun a w h => ?_
            refine stepP (p_pickT h rfl rfl) h rfl fun a w h => ?_
            refine stepP (p_move h rfl) h rfl fun a w h => ?_
            rcases Decidable.em ((cmpB ((kidAt t.kids i).key) t.key : Int) ≤ 0) with hb12 | hb12
            · have h := h.bool_of (t := 56) (b' := true) rfl (decide_eq_true hb12)
              refine stepSkip rfl rfl rfl rfl h rfl fun a w h => ?_
              refine stepSkip rfl rfl rfl rfl h rfl fun a w h => ?_
              refine stepSkip rfl rfl rfl rfl h rfl fun a w h => ?_
              refine stepSkipU rfl rfl rfl h rfl fun a w h => ?_
              refine stepSkipU rfl rfl rfl h rfl fun a w h => ?_
              refine stepSkipU rfl rfl rfl h rfl fun a w h => ?_
              refine stepSkipU rfl rfl rfl h rfl fun a w h => ?_
              refine stepSkipU rfl rfl rfl h rfl fun a w h => ?_
              refine stepSkip rfl rfl rfl rfl h rfl fun a w h => ?_
              refine stepP (p_pickT h rfl rfl) h rfl fun a w h => ?_
              refine stepEnd ?_
              have h := h.bool_of (t := 66) (b' := decide (((t.head = false) ∧ ((cmpB ((kidAt t.kids i).key) t.key : Int) ≤ 0)) ∨ (((0 : Int) < ((i : Nat) : Int)) ∧ ((0 : Int) ≤ cmpB ((kidAt t.kids i).key) ab)))) rfl (by first | (simp [hb11, hb12]; done) | grind)
              exact th_n (h.to rfl ⟨rfl, (look_int rfl (by first | rfl | omega)), rfl, rfl, (look_int rfl (by first | rfl | omega)), (look_int rfl (by first | rfl | omega)), rfl, trivial⟩)
            · have h := h.bool_of (t := 56) (b' := false) rfl (decide_eq_false hb12)
              refine stepGP rfl rfl rfl rfl (p_move h rfl) h rfl fun a w h => ?_
              refine stepGP rfl rfl rfl rfl (p_gtr h rfl rfl) h rfl fun a w h => ?_
              refine stepGP rfl rfl rfl rfl (p_move h rfl) h rfl fun a w h => ?_
              rcases Decidable.em ((0 : Int) < ((i : Nat) : Int)) with hb13 | hb13
              · have h := h.bool_of (t := 59) (b' := true) rfl (decide_eq_true hb13)
                refine stepGP rfl rfl rfl rfl (p_fieldAddr (r := 1) Tryd.underlying29 rfl Tryd.sizeOf22 rfl rfl h rfl) h rfl fun a w h => ?_
                refine stepGP rfl rfl rfl rfl (p_load (v := (vkAt x.kvs i)) Tryd.isAgg22 h rfl (Cel.own (k := 0) rfl rfl)) h rfl fun a w h => ?_
                refine stepGP rfl rfl rfl rfl (p_move h rfl) h rfl fun a w h => ?_
                refine stepGV rfl rfl rfl rfl (Enter.opT (o_call Tryd.call62 h rfl) (call_val0 h.own (c_bCompare h.own.lend0 ((ht.kids.ok hi5).key.mono h.own.le0) (hav.mono h.own.le0)))) h rfl fun a w h => ?_
                refine stepGP rfl rfl rfl rfl (p_geq h rfl rfl) h rfl fun a w h => ?_
                refine stepGP rfl rfl rfl rfl (p_pickT h rfl rfl) h rfl fun a w h => ?_
                refine stepP (p_pickF h rfl rfl) h rfl fun a w h => ?_
                refine stepEnd ?_
                have h := h.bool_of (t := 66) (b' := decide (((t.head = false) ∧ ((cmpB ((kidAt t.kids i).key) t.key : Int) ≤ 0)) ∨ (((0 : Int) < ((i : Nat) : Int)) ∧ ((0 : Int) ≤ cmpB ((kidAt t.kids i).key) ab)))) rfl (by first | (simp [hb11, hb12, hb13]; done) | grind)
                exact th_n (h.to rfl ⟨rfl, (look_int rfl (by first | rfl | omega)), rfl, rfl, (look_int rfl (by first | rfl | omega)), (look_int rfl (by first | rfl | omega)), rfl, trivial⟩)
              · have h := h.bool_of (t := 59) (b' := false) rfl (decide_eq_false hb13)
                refine stepSkip rfl rfl rfl rfl h rfl fun a w h => ?_
                refine stepSkip rfl rfl rfl rfl h rfl fun a w h => ?_
                refine stepSkip rfl rfl rfl rfl h rfl fun a w h => ?_
                refine stepSkip rfl rfl rfl rfl h rfl fun a w h => ?_
                refine stepSkip rfl rfl rfl rfl h rfl fun a w h => ?_
                refine stepGP rfl rfl rfl rfl (p_pickF h rfl rfl) h rfl fun a w h => ?_
                refine stepP (p_pickF h rfl rfl) h rfl fun a w h => ?_
                refine stepEnd ?_
                have h := h.bool_of (t := 66) (b' := decide (((t.head = false) ∧ ((cmpB ((kidAt t.kids i).key) t.key : Int) ≤ 0)) ∨ (((0 : Int) < ((i : Nat) : Int)) ∧ ((0 : Int) ≤ cmpB ((kidAt t.kids i).key) ab)))) rfl (by first | (simp [hb11, hb12, hb13]; done) | grind)
                exact th_n (h.to rfl ⟨rfl, (look_int rfl (by first | rfl | omega)), rfl, rfl, (look_int rfl (by first | rfl | omega)), (look_int rfl (by first | rfl | omega)), rfl, trivial⟩)
          · have h := h.bool_of (t := 48) (b' := false) rfl (decide_eq_false hb11)
            refine stepSkip rfl rfl rfl rfl h rfl fun a w h => ?_
            refine stepSkip rfl rfl rfl rfl h rfl fun a w h => ?_
            refine stepSkip rfl rfl rfl rfl h rfl fun a w h => ?_
            refine stepSkip rfl rfl rfl rfl h rfl fun a w h => ?_
            refine stepSkip rfl rfl rfl rfl h rfl fun a w h => ?_
            refine stepSkip rfl rfl rfl rfl h rfl fun a w h => ?_
            refine stepP (p_pickF h rfl rfl) h rfl fun a w h => ?_
            refine stepP (p_move h rfl) h rfl fun a w h => ?_
            refine stepGP rfl rfl rfl rfl (p_move h rfl) h rfl fun a w h => ?_
            refine stepGP rfl rfl rfl rfl (p_gtr h rfl rfl) h rfl fun a w h => ?_
            refine stepGP rfl rfl rfl rfl (p_move h rfl) h rfl fun a w h => ?_
            rcases Decidable.em ((0 : Int) < ((i : Nat) : Int)) with hb14 | hb14
            · have h := h.bool_of (t := 59) (b' := true) rfl (decide_eq_true hb14)
              refine stepGP rfl rfl rfl rfl (p_fieldAddr (r := 1) Tryd.underlying29 rfl Tryd.sizeOf22 rfl rfl h rfl) h rfl fun a w h => ?_
              refine stepGP rfl rfl rfl rfl (p_load (v := (vkAt x.kvs i)) Tryd.isAgg22 h rfl (Cel.own (k := 0) rfl rfl)) h rfl fun a w h => ?_
              refine stepGP rfl rfl rfl rfl (p_move h rfl) h rfl fun a w h => ?_
              refine stepGV rfl rfl rfl rfl (Enter.opT (o_call Tryd.call62 h rfl) (call_val0 h.own (c_bCompare h.own.lend0 ((ht.kids.ok hi5).key.mono h.own.le0) (hav.mono h.own.le0)))) h rfl fun a w h => ?_
              refine stepGP rfl rfl rfl rfl (p_geq h rfl rfl) h rfl fun a w h => ?_
              refine stepGP rfl rfl rfl rfl (p_pickT h rfl rfl) h rfl fun a w h => ?_
              refine stepP (p_pickF h rfl rfl) h rfl fun a w h => ?_
              refine stepEnd ?_
              have h := h.bool_of (t := 66) (b' := decide (((t.head = false) ∧ ((cmpB ((kidAt t.kids i).key) t.key : Int) ≤ 0)) ∨ (((0 : Int) < ((i : Nat) : Int)) ∧ ((0 : Int) ≤ cmpB ((kidAt t.kids i).key) ab)))) rfl (by first | (simp [hb11, hb14]; done) | grind)
              exact th_n (h.to rfl ⟨rfl, (look_int rfl (by first | rfl | omega)), rfl, rfl, (look_int rfl (by first | rfl | omega)), (look_int rfl (by first | rfl | omega)), rfl, trivial⟩)
            · have h := h.bool_of (t := 59) (b' := false) rfl (decide_eq_false hb14)
              refine stepSkip rfl rfl rfl rfl h rfl fun a w h => ?_
              refine stepSkip rfl rfl rfl rfl h rfl fun a w h => ?_
              refine stepSkip rfl rfl rfl rfl h rfl fun a w h => ?_
              refine stepSkip rfl rfl rfl rfl h rfl fun a w h => ?_
              refine stepSkip rfl rfl rfl rfl h rfl fun a w h => ?_
              refine stepGP rfl rfl rfl rfl (p_pickF h rfl rfl) h rfl fun a w h => ?_
              refine stepP (p_pickF h rfl rfl) h rfl fun a w h => ?_
              refine stepEnd ?_
              have h := h.bool_of (t := 66) (b' := decide (((t.head = false) ∧ ((cmpB ((kidAt t.kids i).key) t.key : Int) ≤ 0)) ∨ (((0 : Int) < ((i : Nat) : Int)) ∧ ((0 : Int) ≤ cmpB ((kidAt t.kids i).key) ab)))) rfl (by first | (simp [hb11, hb14]; done) | grind)
              exact th_n (h.to rfl ⟨rfl, (look_int rfl (by first | rfl | omega)), rfl, rfl, (look_int rfl (by first | rfl | omega)), (look_int rfl (by first | rfl | omega)), rfl, trivial⟩)
        · intro a w h
          refine c_cond rfl h (fun hc15 => ?_) (fun hc15 => ?_)
          · skip
            refine c_seq ?_
            refine c_region ?_
            refine stepP (p_assign h rfl) h rfl fun a w h => ?_
            refine stepEnd ?_
            refine th_n ?_
            refine c_ret (th_r (bl_r (th_r (th_r (bl_r (th_r ?_))))))
            exact fin1 (.inl rfl) h rfl rfl ⟨by rw [decide_eq_false (kids_not hi2 (fun kk => ((kidOk_prog htp htop hab).1 kk).2.1 hc15))], h.own.none.weaken hle⟩
          · skip
            refine c_skip ?_
            refine th_n ?_
            refine c_seq ?_
            refine c_cut (fun a w => St S hf2 ([(b6, row 29 (((kidAt t.kids i).at (vkAt x.kvs i)).cells))]) 92 [(2, ptr b1 0), (5, .int .u64 ((cntN (base t.head) (t.kids.take i) : Nat) : Int)), (8, ptr b6 0), (14, x.kids), (15, .int .i64 ((t.kids.length : Nat) : Int)), (16, .int .i64 ((i : Nat) : Int)), (81, .bool (decide ((((((kidAt t.kids i).cnt : Int) : Int) = 0) ∨ ((4611686018427387904 : Int) < ((kidAt t.kids i).cnt : Int))) ∨ ((((4611686018427387904 - (kidAt t.kids i).cnt : Nat) : Int) : Int) < ((cntN (base t.head) (t.kids.take i) : Nat) : Int)))))] a w) ?_ ?_
            · skip
              refine c_region ?_
              refine stepP (p_fieldAddr (r := 2) Tryd.underlying29 rfl Tryd.sizeOf23 rfl rfl h rfl) h rfl fun a w h => ?_
              refine stepP (p_load (v := .int .u64 ((kidAt t.kids i).cnt : Int)) Tryd.isAgg23 h rfl (Cel.own (k := 0) rfl rfl)) h rfl fun a w h => ?_
              refine stepP (p_eql h rfl rfl) h rfl fun a w h => ?_
              refine stepP (p_move h rfl) h rfl fun a w h => ?_
              rcases Decidable.em ((((kidAt t.kids i).cnt : Int) : Int) = 0) with hb16 | hb16
              · have h := h.bool_of (t := 70) (b' := true) rfl (decide_eq_true hb16)
                refine stepSkip rfl rfl rfl rfl h rfl fun a w h => ?_
                refine stepSkip rfl rfl rfl rfl h rfl fun a w h => ?_
                refine stepSkip rfl rfl rfl rfl h rfl fun a w h => ?_
                refine stepP (p_pickT h rfl rfl) h rfl fun a w h => ?_
                refine stepP (p_move h rfl) h rfl fun a w h => ?_
                refine stepSkip rfl rfl rfl rfl h rfl fun a w h => ?_
                refine stepSkip rfl rfl rfl rfl h rfl fun a w h => ?_
                refine stepSkip rfl rfl rfl rfl h rfl fun a w h => ?_
                refine stepSkip rfl rfl rfl rfl h rfl fun a w h => ?_
                refine stepSkip rfl rfl rfl rfl h rfl fun a w h => ?_
                refine stepP (p_pickT h rfl rfl) h rfl fun a w h => ?_
                refine stepEnd ?_
                have h := h.bool_of (t := 81) (b' := decide ((((((kidAt t.kids i).cnt : Int) : Int) = 0) ∨ ((4611686018427387904 : Int) < ((kidAt t.kids i).cnt : Int))) ∨ ((((4611686018427387904 - (kidAt t.kids i).cnt : Nat) : Int) : Int) < ((cntN (base t.head) (t.kids.take i) : Nat) : Int)))) rfl (by first | (simp [hb16]; done) | grind)
                exact th_n (h.to rfl ⟨rfl, (look_int rfl (by first | rfl | omega)), rfl, rfl, (look_int rfl (by first | rfl | omega)), (look_int rfl (by first | rfl | omega)), rfl, trivial⟩)
              · have h := h.bool_of (t := 70) (b' := false) rfl (decide_eq_false hb16)
                refine stepGP rfl rfl rfl rfl (p_fieldAddr (r := 2) Tryd.underlying29 rfl Tryd.sizeOf23 rfl rfl h rfl) h rfl fun a w h => ?_
                refine stepGP rfl rfl rfl rfl (p_load (v := .int .u64 ((kidAt t.kids i).cnt : Int)) Tryd.isAgg23 h rfl (Cel.own (k := 0) rfl rfl)) h rfl fun a w h => ?_
                refine stepGP rfl rfl rfl rfl (p_gtr h rfl rfl) h rfl fun a w h => ?_
                refine stepP (p_pickF h rfl rfl) h rfl fun a w h => ?_
                refine stepP (p_move h rfl) h rfl fun a w h => ?_
                rcases Decidable.em ((4611686018427387904 : Int) < ((kidAt t.kids i).cnt : Int)) with hb17 | hb17
                · have h := h.bool_of (t := 75) (b' := true) rfl (decide_eq_true hb17)
                  refine stepSkip rfl rfl rfl rfl h rfl fun a w h => ?_
                  refine stepSkip rfl rfl rfl rfl h rfl fun a w h => ?_
                  refine stepSkip rfl rfl rfl rfl h rfl fun a w h => ?_
                  refine stepSkip rfl rfl rfl rfl h rfl fun a w h => ?_
                  refine stepSkip rfl rfl rfl rfl h rfl fun a w h => ?_
                  refine stepP (p_pickT h rfl rfl) h rfl fun a w h => ?_
                  refine stepEnd ?_
                  have h := h.bool_of (t := 81) (b' := decide ((((((kidAt t.kids i).cnt : Int) : Int) = 0) ∨ ((4611686018427387904 : Int) < ((kidAt t.kids i).cnt : Int))) ∨ ((((4611686018427387904 - (kidAt t.kids i).cnt : Nat) : Int) : Int) < ((cntN (base t.head) (t.kids.take i) : Nat) : Int)))) rfl (by first | (simp [hb16, hb17]; done) | grind)
                  exact th_n (h.to rfl ⟨rfl, (look_int rfl (by first | rfl | omega)), rfl, rfl, (look_int rfl (by first | rfl | omega)), (look_int rfl (by first | rfl | omega)), rfl, trivial⟩)
                · have h := h.bool_of (t := 75) (b' := false) rfl (decide_eq_false hb17)
                  refine stepGP rfl rfl rfl rfl (p_move h rfl) h rfl fun a w h => ?_
                  refine stepGP rfl rfl rfl rfl (p_fieldAddr (r := 2) Tryd.underlying29 rfl Tryd.sizeOf23 rfl rfl h rfl) h rfl fun a w h => ?_
                  refine stepGP rfl rfl rfl rfl (p_load (v := .int .u64 ((kidAt t.kids i).cnt : Int)) Tryd.isAgg23 h rfl (Cel.own (k := 0) rfl rfl)) h rfl fun a w h => ?_
                  refine stepGP rfl rfl rfl rfl (p_sub (r := ((4611686018427387904 - (kidAt t.kids i).cnt : Nat) : Int)) h rfl rfl ((wu64 (by omega)).trans (by omega))) h rfl fun a w h => ?_
                  refine stepGP rfl rfl rfl rfl (p_gtr h rfl rfl) h rfl fun a w h => ?_
                  refine stepP (p_pickF h rfl rfl) h rfl fun a w h => ?_
                  refine stepEnd ?_
                  have h := h.bool_of (t := 81) (b' := decide ((((((kidAt t.kids i).cnt : Int) : Int) = 0) ∨ ((4611686018427387904 : Int) < ((kidAt t.kids i).cnt : Int))) ∨ ((((4611686018427387904 - (kidAt t.kids i).cnt : Nat) : Int) : Int) < ((cntN (base t.head) (t.kids.take i) : Nat) : Int)))) rfl (by first | (simp [hb16, hb17]; done) | grind)
                  exact th_n (h.to rfl ⟨rfl, (look_int rfl (by first | rfl | omega)), rfl, rfl, (look_int rfl (by first | rfl | omega)), (look_int rfl (by first | rfl | omega)), rfl, trivial⟩)
            · intro a w h
              refine c_cond rfl h (fun hc18 => ?_) (fun hc18 => ?_)
              · skip
                refine c_seq ?_
                refine c_region ?_
                refine stepP (p_assign h rfl) h rfl fun a w h => ?_
                refine stepEnd ?_
                refine th_n ?_
                refine c_ret (th_r (bl_r (th_r (th_r (bl_r (th_r ?_))))))
                exact fin1 (.inl rfl) h rfl rfl ⟨by rw [decide_eq_false (kids_not hi2 (fun kk => ((kidOk_prog htp htop hab).1 kk).2.2 hc18))], h.own.none.weaken hle⟩
              · skip
                refine c_skip ?_
                refine th_n ?_
                refine c_seq ?_
                have hkid : kidOk t i := (kidOk_prog htp htop hab).2 ⟨hc10, hc15, hc18⟩
                refine c_region ?_
                refine stepP (p_move h rfl) h rfl fun a w h => ?_
                refine stepP (p_fieldAddr (r := 2) Tryd.underlying29 rfl Tryd.sizeOf23 rfl rfl h rfl) h rfl fun a w h => ?_
                refine stepP (p_load (v := .int .u64 ((kidAt t.kids i).cnt : Int)) Tryd.isAgg23 h rfl (Cel.own (k := 0) rfl rfl)) h rfl fun a w h => ?_
                refine stepP (p_add (r := ((cntN (base t.head) (t.kids.take (i + 1)) : Nat) : Int)) h rfl rfl (u64_addN _ _ _ (cntN_at _ hi2))) h rfl fun a w h => ?_
                refine stepP (p_assign h rfl) h rfl fun a w h => ?_
                refine stepEnd ?_
                refine th_n ?_
                have hkl := kidOk_lvl hkid
                refine region_quiet (by kernel_rfl) (by kernel_rfl) h ?_
                have he := h.env
                clear h
                refine stepQ he (fun w h => p_fieldAddr (r := 0) Tryd.underlying29 rfl Tryd.sizeOf3 rfl rfl h rfl) rfl fun a he => ?_
                refine stepQ he (fun w h => p_load (v := .int .i64 (kidAt t.kids i).lvl) Tryd.isAgg3 h rfl (Cel.own (k := 0) rfl rfl)) rfl fun a he => ?_
                refine stepQ he (fun w h => p_sub h rfl rfl (wi (by omega))) rfl fun a he => ?_
                refine stepQ he (fun w h => p_fieldAddr (r := 1) Tryd.underlying29 rfl Tryd.sizeOf22 rfl rfl h rfl) rfl fun a he => ?_
                refine stepQ he (fun w h => p_load (v := (vkAt x.kvs i)) Tryd.isAgg22 h rfl (Cel.own (k := 0) rfl rfl)) rfl fun a he => ?_
                refine stepQ he (fun w h => p_assign h rfl) rfl fun a he => ?_
                refine stepQ he (fun w h => p_assign h rfl) rfl fun a he => ?_
                refine stepQEnd he fun w h => ?_
                refine bl_n ?_
                refine th_n ?_
                replace h := h.drop (List.nil_sublist _)
                refine c_region ?_
                refine stepP (p_add h rfl rfl (wi (by omega))) h rfl fun a w h => ?_
                refine stepP (p_move h rfl) h rfl fun a w h => ?_
                refine stepEnd ?_
                exact th_n ⟨_, by omega, i + 1, _, _, _, rfl, by omega, all_succ hok hkid, .inr ⟨by omega, rfl⟩, (ht.kids.ok hi2).key, .inr rfl, h.to rfl ⟨(look_int rfl (by first | rfl | omega)), rfl, (look_int rfl (by first | rfl | omega)), rfl, rfl, (look_int rfl (by first | rfl | omega)), (look_int rfl (by first | rfl | omega)), trivial⟩⟩
  · skip
    refine c_exit (th_e (th_e (exit_at ?_)))
    refine th_n ?_
    refine c_seq ?_
    refine c_region ?_
    refine stepP (p_assign h rfl) h rfl fun a w h => ?_
    refine stepEnd ?_
    refine th_n ?_
    refine c_ret ?_
    exact fin1 (.inl rfl) h rfl rfl ⟨by rw [decide_eq_true (show kidsOk t from fun j hj => hok j (by omega))], h.own.none.weaken hle⟩

theorem c_nValid {S : World} {hf : Hp} {w : World} (ho : Owns S hf [] w) {t : TowP} {x : TowV} (ht : TowOk hf t x) (htg : TagsAt 0 hf) (hk : RoundsAt 3 hf) (hf1 : FirstAt 1 hf) :
    Calls Tryd.prog 26 [t.val x].toArray w (RetV S hf [] (.int .i64 (validP t))) := by
  have hmany := ht.many
  refine enter (n := 34) (E := [(0, _)]) Tryd.func26 rfl Tryd.ntmps26 rfl rfl ho fun a h => ?_
  refine c_seq ?_
  refine c_region ?_
  refine stepO (o_box (l := t.cells x) h rfl rfl) h.env rfl ?_
  rintro b1 _ a w h
  refine stepP (p_assign h rfl) h rfl fun a w h => ?_
  refine stepEnd ?_
  obtain ⟨hf2, hlef2, hinf2, hbkf2, h⟩ := h.freeze
  replace ht := ht.mono hlef2
  replace htg := htg.mono hlef2
  replace hk := hk.mono hlef2
  replace hf1 := hf1.mono hlef2
  have hle := hlef2
  have ro3 : hf2 b1 = some (row 46 (t.cells x)) := hinf2 _ _ (List.mem_of_getElem? (i := 0) rfl)
  refine th_n ?_
  refine c_seq ?_
  refine c_region ?_
  refine stepP (p_assign h rfl) h rfl fun a w h => ?_
  refine stepEnd ?_
  refine th_n ?_
  refine c_cut (fun a w => ¬ ownBad t ∧ St S hf2 [] 34 [(1, ptr b1 0), (3, .int .i64 t.top)] a w) ?_ ?_
  · skip
    refine c_seq ?_
    refine c_region ?_
    refine stepP (p_fieldAddr (r := 0) Tryd.underlying46 rfl Tryd.sizeOf4 rfl rfl h rfl) h rfl fun a w h => ?_
    refine stepP (p_load Tryd.isAgg4 h rfl (Cel.stay ro3 rfl)) h rfl fun a w h => ?_
    refine stepEnd ?_
    refine th_n ?_
    refine c_condB rfl h (fun hc4 => ?_) (fun hc4 => ?_)
    · skip
      refine c_cut (fun a w => St S hf2 [] 34 [(1, ptr b1 0), (3, .int .i64 23), (15, .bool (decide (((0 : Int) < ((t.key.length : Nat) : Int)) ∨ (¬ (t.sum = zeroS ∧ t.nth = 0)))))] a w) ?_ ?_
      · skip
        refine c_region ?_
        refine stepP (p_fieldAddr (r := 1) Tryd.underlying46 rfl Tryd.sizeOf22 rfl rfl h rfl) h rfl fun a w h => ?_
        refine stepP (p_load Tryd.isAgg22 h rfl (Cel.stay ro3 rfl)) h rfl fun a w h => ?_
        refine stepP (p_lenB Tryd.underlying22 h rfl ht.key) h rfl fun a w h => ?_
        refine stepP (p_gtr h rfl rfl) h rfl fun a w h => ?_
        refine stepP (p_move h rfl) h rfl fun a w h => ?_
        rcases Decidable.em ((0 : Int) < ((t.key.length : Nat) : Int)) with hb5 | hb5
        · have h := h.bool_of (t := 10) (b' := true) rfl (decide_eq_true hb5)
          refine stepSkip rfl rfl rfl rfl h rfl fun a w h => ?_
          refine stepSkip rfl rfl rfl rfl h rfl fun a w h => ?_
          refine stepSkip rfl rfl rfl rfl h rfl fun a w h => ?_
          refine stepSkip rfl rfl rfl rfl h rfl fun a w h => ?_
          refine stepP (p_pickT h rfl rfl) h rfl fun a w h => ?_
          refine stepEnd ?_
          have h := h.bool_of (t := 15) (b' := decide (((0 : Int) < ((t.key.length : Nat) : Int)) ∨ (¬ (t.sum = zeroS ∧ t.nth = 0)))) rfl (by first | (simp [hb5]; done) | grind)
          exact th_n (h.to rfl ⟨rfl, rfl, rfl, trivial⟩)
        · have h := h.bool_of (t := 10) (b' := false) rfl (decide_eq_false hb5)
          refine stepGP rfl rfl rfl rfl (p_fieldAddr (r := 2) Tryd.underlying46 rfl Tryd.sizeOf27 rfl rfl h rfl) h rfl fun a w h => ?_
          refine stepGP rfl rfl rfl rfl (p_loadA (vs := addrC t.sum t.nth) Tryd.isAgg27 (fun w => by rw [Tryd.sizeOf27, addrC_length _ _ ht.sum]) h rfl (Cels.stayPart ro3 ht.addrAt)) h rfl fun a w h => ?_
          refine stepGP rfl rfl rfl rfl (p_build (pl := [(0, 32), (32, 1)]) (out := addrC zeroS 0) Tryd.underlying27 Tryd.type27 rfl (by kernel_rfl) h rfl (by exact FillR.nil)) h rfl fun a w h => ?_
          refine stepGP rfl rfl rfl rfl (p_neqAd addrT h rfl rfl ht.sum rfl) h rfl fun a w h => ?_
          refine stepP (p_pickF h rfl rfl) h rfl fun a w h => ?_
          refine stepEnd ?_
          have h := h.bool_of (t := 15) (b' := decide (((0 : Int) < ((t.key.length : Nat) : Int)) ∨ (¬ (t.sum = zeroS ∧ t.nth = 0)))) rfl (by first | (simp [hb5]; done) | grind)
          exact th_n (h.to rfl ⟨rfl, rfl, rfl, trivial⟩)
      · intro a w h
        refine c_cond rfl h (fun hc6 => ?_) (fun hc6 => ?_)
        · skip
          refine c_seq ?_
          refine c_region ?_
          refine stepP (p_assign h rfl) h rfl fun a w h => ?_
          refine stepEnd ?_
          refine th_n ?_
          refine c_ret (th_r ?_)
          exact fin1 (.inl rfl) h rfl rfl ⟨by rw [validP_own ((own_head hc4).2 hc6)], h.own.none.weaken hle⟩
        · skip
          refine c_skip ?_
          have htv := top_head hc4
          exact th_n ⟨(fun hb => hc6 ((own_head hc4).1 hb)), h.to rfl ⟨rfl, (look_int rfl (by first | rfl | omega)), trivial⟩⟩
    · skip
      refine c_seq ?_
      refine c_seq ?_
      refine c_region ?_
      refine stepP (p_fieldAddr (r := 1) Tryd.underlying46 rfl Tryd.sizeOf22 rfl rfl h rfl) h rfl fun a w h => ?_
      refine stepP (p_load Tryd.isAgg22 h rfl (Cel.stay ro3 rfl)) h rfl fun a w h => ?_
      refine stepP (p_lenB Tryd.underlying22 h rfl ht.key) h rfl fun a w h => ?_
      refine stepP (p_gtr h rfl rfl) h rfl fun a w h => ?_
      refine stepEnd ?_
      refine th_n ?_
      refine c_cond rfl h (fun hc7 => ?_) (fun hc7 => ?_)
      · skip
        refine c_seq ?_
        refine c_region ?_
        refine stepP (p_assign h rfl) h rfl fun a w h => ?_
        refine stepEnd ?_
        refine th_n ?_
        refine c_ret (th_r (th_r ?_))
        exact fin1 (.inl rfl) h rfl rfl ⟨by rw [validP_own ((own_tail hc4).2 hc7)], h.own.none.weaken hle⟩
      · skip
        refine c_skip ?_
        refine th_n ?_
        have hh24 := height_hi t.key
        refine c_region ?_
        refine stepP (p_fieldAddr (r := 1) Tryd.underlying46 rfl Tryd.sizeOf22 rfl rfl h rfl) h rfl fun a w h => ?_
        refine stepP (p_load Tryd.isAgg22 h rfl (Cel.stay ro3 rfl)) h rfl fun a w h => ?_
        refine stepV (Enter.opT (o_call Tryd.call23 h rfl) (call_valA (c_nHeight h.own htg hk hf1 ht.key (by omega)))) h.env rfl fun a w h => ?_
        refine stepP (p_sub h rfl rfl (wi (by omega))) h rfl fun a w h => ?_
        refine stepP (p_assign h rfl) h rfl fun a w h => ?_
        refine stepEnd ?_
        have htv := top_tail hc4
        exact th_n ⟨(fun hb => hc7 ((own_tail hc4).1 hb)), h.to rfl ⟨rfl, (look_int rfl (by first | rfl | omega)), trivial⟩⟩
  · rintro a w ⟨hnb, h⟩
    refine c_seq ?_
    refine c_cut (fun a w => St S hf2 [] 34 [(33, .bool (decide (((24 : Int) < ((t.kids.length : Nat) : Int)) ∨ (¬ kidsOk t))))] a w) ?_ ?_
    · skip
      refine c_region ?_
      refine stepP (p_fieldAddr (r := 35) Tryd.underlying46 rfl Tryd.sizeOf44 rfl rfl h rfl) h rfl fun a w h => ?_
      refine stepP (p_load Tryd.isAgg44 h rfl (Cel.stay ro3 ht.kidsAt)) h rfl fun a w h => ?_
      refine stepP (p_lenS Tryd.underlying44 h rfl ht.kids.sl) h rfl fun a w h => ?_
      refine stepP (p_gtr h rfl rfl) h rfl fun a w h => ?_
      refine stepP (p_move h rfl) h rfl fun a w h => ?_
      rcases Decidable.em ((24 : Int) < ((t.kids.length : Nat) : Int)) with hb8 | hb8
      · have h := h.bool_of (t := 28) (b' := true) rfl (decide_eq_true hb8)
        refine stepSkip rfl rfl rfl rfl h rfl fun a w h => ?_
        refine stepSkip rfl rfl rfl rfl h rfl fun a w h => ?_
        refine stepSkip rfl rfl rfl rfl h rfl fun a w h => ?_
        refine stepSkip rfl rfl rfl rfl h rfl fun a w h => ?_
        refine stepP (p_pickT h rfl rfl) h rfl fun a w h => ?_
        refine stepEnd ?_
        have h := h.bool_of (t := 33) (b' := decide (((24 : Int) < ((t.kids.length : Nat) : Int)) ∨ (¬ kidsOk t))) rfl (by first | (simp [hb8]; done) | grind)
        exact th_n (h.to rfl ⟨rfl, trivial⟩)
      · have h := h.bool_of (t := 28) (b' := false) rfl (decide_eq_false hb8)
        refine stepGP rfl rfl rfl rfl (p_loadA (vs := t.cells x) Tryd.isAgg46 (fun w => by rw [Tryd.sizeOf46, ht.length]) h rfl (Cels.stay ro3)) h rfl fun a w h => ?_
        refine stepGP rfl rfl rfl rfl (p_move h rfl) h rfl fun a w h => ?_
        refine stepGV rfl rfl rfl rfl (Enter.opT (o_call Tryd.call56 h rfl) (call_valA (c_kidsFit h.own ht htg hk hf1))) h rfl fun a w h => ?_
        refine stepGP rfl rfl rfl rfl (p_not h rfl) h rfl fun a w h => ?_
        have h := h.bool_of (t := 32) (b' := decide (¬ kidsOk t)) rfl (by simp)
        refine stepP (p_pickF h rfl rfl) h rfl fun a w h => ?_
        have h := h.bool_of (t := 32) (b' := decide (¬ kidsOk t)) rfl (by simp)
        refine stepEnd ?_
        have h := h.bool_of (t := 33) (b' := decide (((24 : Int) < ((t.kids.length : Nat) : Int)) ∨ (¬ kidsOk t))) rfl (by first | (simp [hb8]; done) | grind)
        exact th_n (h.to rfl ⟨rfl, trivial⟩)
    · intro a w h
      refine c_cond rfl h (fun hc9 => ?_) (fun hc9 => ?_)
      · skip
        refine c_seq ?_
        refine c_region ?_
        refine stepP (p_assign h rfl) h rfl fun a w h => ?_
        refine stepEnd ?_
        refine th_n ?_
        refine c_ret (th_r ?_)
        exact fin1 (.inl rfl) h rfl rfl ⟨by rw [validP_71 hnb hc9], h.own.none.weaken hle⟩
      · skip
        refine c_skip ?_
        refine th_n ?_
        refine c_seq ?_
        refine c_region ?_
        refine stepP (p_assign h rfl) h rfl fun a w h => ?_
        refine stepEnd ?_
        refine th_n ?_
        refine c_ret ?_
        exact fin1 (.inl rfl) h rfl rfl ⟨by rw [validP_0 hnb hc9], h.own.none.weaken hle⟩

set_option maxHeartbeats 1000000 in
theorem c_rValid {S : World} {hf : Hp} {w : World} (ho : Owns S hf [] w) {t : TowP} {x : TowV} (ht : TowOk hf t x) :
    Calls Tryd.prog 27 [t.val x].toArray w (RetV S hf [] (.int .i64 (validP t))) := by
  have htop23 := top_hi t
  have hmany := ht.many
  refine enter (n := 137) (E := [(0, _)]) Tryd.func27 rfl Tryd.ntmps27 rfl rfl ho fun a h => ?_
  refine c_seq ?_
  refine c_region ?_
  refine stepO (o_box (l := t.cells x) h rfl rfl) h.env rfl ?_
  rintro b1 _ a w h
  refine stepP (p_assign h rfl) h rfl fun a w h => ?_
  refine stepEnd ?_
  obtain ⟨hf2, hlef2, hinf2, hbkf2, h⟩ := h.freeze
  replace ht := ht.mono hlef2
  have hle := hlef2
  have ro3 : hf2 b1 = some (row 46 (t.cells x)) := hinf2 _ _ (List.mem_of_getElem? (i := 0) rfl)
  refine th_n ?_
  refine c_seq ?_
  refine c_cut (fun a w => St S hf2 [] 137 [(1, ptr b1 0), (31, .bool (decide (((t.head = true) ∧ (((0 : Int) < ((t.key.length : Nat) : Int)) ∨ (¬ (t.sum = zeroS ∧ t.nth = 0)))) ∨ ((t.head = false) ∧ ((1024 : Int) < ((t.key.length : Nat) : Int))))))] a w) ?_ ?_
  · skip
    refine c_region ?_
    refine stepP (p_fieldAddr (r := 0) Tryd.underlying46 rfl Tryd.sizeOf4 rfl rfl h rfl) h rfl fun a w h => ?_
    refine stepP (p_load Tryd.isAgg4 h rfl (Cel.stay ro3 rfl)) h rfl fun a w h => ?_
    have h := h.bool_of (t := 8) (b' := decide (t.head = true)) rfl (by simp)
    refine stepP (p_move h rfl) h rfl fun a w h => ?_
    have h := h.bool_of (t := 8) (b' := decide (t.head = true)) rfl (by simp)
    rcases Decidable.em (t.head = true) with hb4 | hb4
    · have h := h.bool_of (t := 9) (b' := true) rfl (decide_eq_true hb4)
      refine stepGP rfl rfl rfl rfl (p_fieldAddr (r := 1) Tryd.underlying46 rfl Tryd.sizeOf22 rfl rfl h rfl) h rfl fun a w h => ?_
      refine stepGP rfl rfl rfl rfl (p_load Tryd.isAgg22 h rfl (Cel.stay ro3 rfl)) h rfl fun a w h => ?_
      refine stepGP rfl rfl rfl rfl (p_lenB Tryd.underlying22 h rfl ht.key) h rfl fun a w h => ?_
      refine stepGP rfl rfl rfl rfl (p_gtr h rfl rfl) h rfl fun a w h => ?_
      refine stepGP rfl rfl rfl rfl (p_move h rfl) h rfl fun a w h => ?_
      rcases Decidable.em ((0 : Int) < ((t.key.length : Nat) : Int)) with hb5 | hb5
      · have h := h.bool_of (t := 14) (b' := true) rfl (decide_eq_true hb5)
        refine stepSkip rfl rfl rfl rfl h rfl fun a w h => ?_
        refine stepSkip rfl rfl rfl rfl h rfl fun a w h => ?_
        refine stepSkip rfl rfl rfl rfl h rfl fun a w h => ?_
        refine stepSkip rfl rfl rfl rfl h rfl fun a w h => ?_
        refine stepGP rfl rfl rfl rfl (p_pickT h rfl rfl) h rfl fun a w h => ?_
        refine stepP (p_pickT h rfl rfl) h rfl fun a w h => ?_
        refine stepP (p_move h rfl) h rfl fun a w h => ?_
        refine stepSkip rfl rfl rfl rfl h rfl fun a w h => ?_
        refine stepSkip rfl rfl rfl rfl h rfl fun a w h => ?_
        refine stepSkip rfl rfl rfl rfl h rfl fun a w h => ?_
        refine stepSkip rfl rfl rfl rfl h rfl fun a w h => ?_
        refine stepSkipU rfl rfl rfl h rfl fun a w h => ?_
        refine stepSkipU rfl rfl rfl h rfl fun a w h => ?_
        refine stepSkipU rfl rfl rfl h rfl fun a w h => ?_
        refine stepSkipU rfl rfl rfl h rfl fun a w h => ?_
        refine stepSkip rfl rfl rfl rfl h rfl fun a w h => ?_
        refine stepP (p_pickT h rfl rfl) h rfl fun a w h => ?_
        refine stepEnd ?_
        have h := h.bool_of (t := 31) (b' := decide (((t.head = true) ∧ (((0 : Int) < ((t.key.length : Nat) : Int)) ∨ (¬ (t.sum = zeroS ∧ t.nth = 0)))) ∨ ((t.head = false) ∧ ((1024 : Int) < ((t.key.length : Nat) : Int))))) rfl (by first | (simp [hb4, hb5]; done) | grind)
        exact th_n (h.to rfl ⟨rfl, rfl, trivial⟩)
      · have h := h.bool_of (t := 14) (b' := false) rfl (decide_eq_false hb5)
        refine stepGP rfl rfl rfl rfl (p_fieldAddr (r := 2) Tryd.underlying46 rfl Tryd.sizeOf27 rfl rfl h rfl) h rfl fun a w h => ?_
        refine stepGP rfl rfl rfl rfl (p_loadA (vs := addrC t.sum t.nth) Tryd.isAgg27 (fun w => by rw [Tryd.sizeOf27, addrC_length _ _ ht.sum]) h rfl (Cels.stayPart ro3 ht.addrAt)) h rfl fun a w h => ?_
        refine stepGP rfl rfl rfl rfl (p_build (pl := [(0, 32), (32, 1)]) (out := addrC zeroS 0) Tryd.underlying27 Tryd.type27 rfl (by kernel_rfl) h rfl (by exact FillR.nil)) h rfl fun a w h => ?_
        refine stepGP rfl rfl rfl rfl (p_neqAd addrT h rfl rfl ht.sum rfl) h rfl fun a w h => ?_
        refine stepGP rfl rfl rfl rfl (p_pickF h rfl rfl) h rfl fun a w h => ?_
        refine stepP (p_pickT h rfl rfl) h rfl fun a w h => ?_
        refine stepP (p_move h rfl) h rfl fun a w h => ?_
        rcases Decidable.em (¬ (t.sum = zeroS ∧ t.nth = 0)) with hb6 | hb6
        · have h := h.bool_of (t := 21) (b' := true) rfl (decide_eq_true hb6)
          refine stepSkip rfl rfl rfl rfl h rfl fun a w h => ?_
          refine stepSkip rfl rfl rfl rfl h rfl fun a w h => ?_
          refine stepSkip rfl rfl rfl rfl h rfl fun a w h => ?_
          refine stepSkip rfl rfl rfl rfl h rfl fun a w h => ?_
          refine stepSkipU rfl rfl rfl h rfl fun a w h => ?_
          refine stepSkipU rfl rfl rfl h rfl fun a w h => ?_
          refine stepSkipU rfl rfl rfl h rfl fun a w h => ?_
          refine stepSkipU rfl rfl rfl h rfl fun a w h => ?_
          refine stepSkip rfl rfl rfl rfl h rfl fun a w h => ?_
          refine stepP (p_pickT h rfl rfl) h rfl fun a w h => ?_
          refine stepEnd ?_
          have h := h.bool_of (t := 31) (b' := decide (((t.head = true) ∧ (((0 : Int) < ((t.key.length : Nat) : Int)) ∨ (¬ (t.sum = zeroS ∧ t.nth = 0)))) ∨ ((t.head = false) ∧ ((1024 : Int) < ((t.key.length : Nat) : Int))))) rfl (by first | (simp [hb4, hb5, hb6]; done) | grind)
          exact th_n (h.to rfl ⟨rfl, rfl, trivial⟩)
        · have h := h.bool_of (t := 21) (b' := false) rfl (decide_eq_false hb6)
          refine stepGP rfl rfl rfl rfl (p_fieldAddr (r := 0) Tryd.underlying46 rfl Tryd.sizeOf4 rfl rfl h rfl) h rfl fun a w h => ?_
          refine stepGP rfl rfl rfl rfl (p_load Tryd.isAgg4 h rfl (Cel.stay ro3 rfl)) h rfl fun a w h => ?_
          refine stepGP rfl rfl rfl rfl (p_not h rfl) h rfl fun a w h => ?_
          have h := h.bool_of (t := 24) (b' := decide (t.head = false)) rfl (by cases t.head <;> rfl)
          refine stepGP rfl rfl rfl rfl (p_move h rfl) h rfl fun a w h => ?_
          have h := h.bool_of (t := 24) (b' := decide (t.head = false)) rfl (by cases t.head <;> rfl)
          rcases Decidable.em (t.head = false) with hb7 | hb7
          · have h := h.bool_of (t := 25) (b' := true) rfl (decide_eq_true hb7)
            refine stepGP rfl rfl rfl rfl (p_fieldAddr (r := 1) Tryd.underlying46 rfl Tryd.sizeOf22 rfl rfl h rfl) h rfl fun a w h => ?_
            refine stepGP rfl rfl rfl rfl (p_load Tryd.isAgg22 h rfl (Cel.stay ro3 rfl)) h rfl fun a w h => ?_
            refine stepGP rfl rfl rfl rfl (p_lenB Tryd.underlying22 h rfl ht.key) h rfl fun a w h => ?_
            refine stepGP rfl rfl rfl rfl (p_gtr h rfl rfl) h rfl fun a w h => ?_
            refine stepGP rfl rfl rfl rfl (p_pickT h rfl rfl) h rfl fun a w h => ?_
            refine stepP (p_pickF h rfl rfl) h rfl fun a w h => ?_
            refine stepEnd ?_
            have h := h.bool_of (t := 31) (b' := decide (((t.head = true) ∧ (((0 : Int) < ((t.key.length : Nat) : Int)) ∨ (¬ (t.sum = zeroS ∧ t.nth = 0)))) ∨ ((t.head = false) ∧ ((1024 : Int) < ((t.key.length : Nat) : Int))))) rfl (by first | (simp [hb4, hb5, hb6, hb7]; done) | grind)
            exact th_n (h.to rfl ⟨rfl, rfl, trivial⟩)
          · have h := h.bool_of (t := 25) (b' := false) rfl (decide_eq_false hb7)
            refine stepSkip rfl rfl rfl rfl h rfl fun a w h => ?_
            refine stepSkip rfl rfl rfl rfl h rfl fun a w h => ?_
            refine stepSkip rfl rfl rfl rfl h rfl fun a w h => ?_
            refine stepSkip rfl rfl rfl rfl h rfl fun a w h => ?_
            refine stepGP rfl rfl rfl rfl (p_pickF h rfl rfl) h rfl fun a w h => ?_
            refine stepP (p_pickF h rfl rfl) h rfl fun a w h => ?_
            refine stepEnd ?_
            have h := h.bool_of (t := 31) (b' := decide (((t.head = true) ∧ (((0 : Int) < ((t.key.length : Nat) : Int)) ∨ (¬ (t.sum = zeroS ∧ t.nth = 0)))) ∨ ((t.head = false) ∧ ((1024 : Int) < ((t.key.length : Nat) : Int))))) rfl (by first | (simp [hb4, hb5, hb6, hb7]; done) | grind)
            exact th_n (h.to rfl ⟨rfl, rfl, trivial⟩)
    · have h := h.bool_of (t := 9) (b' := false) rfl (decide_eq_false hb4)
      refine stepSkip rfl rfl rfl rfl h rfl fun a w h => ?_
      refine stepSkip rfl rfl rfl rfl h rfl fun a w h => ?_
      refine stepSkip rfl rfl rfl rfl h rfl fun a w h => ?_
      refine stepSkip rfl rfl rfl rfl h rfl fun a w h => ?_
      refine stepSkip rfl rfl rfl rfl h rfl fun a w h => ?_
      refine stepSkipU rfl rfl rfl h rfl fun a w h => ?_
      refine stepSkipU rfl rfl rfl h rfl fun a w h => ?_
      refine stepSkipU rfl rfl rfl h rfl fun a w h => ?_
      refine stepSkipU rfl rfl rfl h rfl fun a w h => ?_
      refine stepSkip rfl rfl rfl rfl h rfl fun a w h => ?_
      refine stepP (p_pickF h rfl rfl) h rfl fun a w h => ?_
      refine stepP (p_move h rfl) h rfl fun a w h => ?_
      refine stepGP rfl rfl rfl rfl (p_fieldAddr (r := 0) Tryd.underlying46 rfl Tryd.sizeOf4 rfl rfl h rfl) h rfl fun a w h => ?_
      refine stepGP rfl rfl rfl rfl (p_load Tryd.isAgg4 h rfl (Cel.stay ro3 rfl)) h rfl fun a w h => ?_
      refine stepGP rfl rfl rfl rfl (p_not h rfl) h rfl fun a w h => ?_
      have h := h.bool_of (t := 24) (b' := decide (t.head = false)) rfl (by cases t.head <;> rfl)
      refine stepGP rfl rfl rfl rfl (p_move h rfl) h rfl fun a w h => ?_
      have h := h.bool_of (t := 24) (b' := decide (t.head = false)) rfl (by cases t.head <;> rfl)
      rcases Decidable.em (t.head = false) with hb8 | hb8
      · have h := h.bool_of (t := 25) (b' := true) rfl (decide_eq_true hb8)
        refine stepGP rfl rfl rfl rfl (p_fieldAddr (r := 1) Tryd.underlying46 rfl Tryd.sizeOf22 rfl rfl h rfl) h rfl fun a w h => ?_
        refine stepGP rfl rfl rfl rfl (p_load Tryd.isAgg22 h rfl (Cel.stay ro3 rfl)) h rfl fun a w h => ?_
        refine stepGP rfl rfl rfl rfl (p_lenB Tryd.underlying22 h rfl ht.key) h rfl fun a w h => ?_
        refine stepGP rfl rfl rfl rfl (p_gtr h rfl rfl) h rfl fun a w h => ?_
        refine stepGP rfl rfl rfl rfl (p_pickT h rfl rfl) h rfl fun a w h => ?_
        refine stepP (p_pickF h rfl rfl) h rfl fun a w h => ?_
        refine stepEnd ?_
        have h := h.bool_of (t := 31) (b' := decide (((t.head = true) ∧ (((0 : Int) < ((t.key.length : Nat) : Int)) ∨ (¬ (t.sum = zeroS ∧ t.nth = 0)))) ∨ ((t.head = false) ∧ ((1024 : Int) < ((t.key.length : Nat) : Int))))) rfl (by first | (simp [hb4, hb8]; done) | grind)
        exact th_n (h.to rfl ⟨rfl, rfl, trivial⟩)
      · have h := h.bool_of (t := 25) (b' := false) rfl (decide_eq_false hb8)
        refine stepSkip rfl rfl rfl rfl h rfl fun a w h => ?_
        refine stepSkip rfl rfl rfl rfl h rfl fun a w h => ?_
        refine stepSkip rfl rfl rfl rfl h rfl fun a w h => ?_
        refine stepSkip rfl rfl rfl rfl h rfl fun a w h => ?_
        refine stepGP rfl rfl rfl rfl (p_pickF h rfl rfl) h rfl fun a w h => ?_
        refine stepP (p_pickF h rfl rfl) h rfl fun a w h => ?_
        refine stepEnd ?_
        have h := h.bool_of (t := 31) (b' := decide (((t.head = true) ∧ (((0 : Int) < ((t.key.length : Nat) : Int)) ∨ (¬ (t.sum = zeroS ∧ t.nth = 0)))) ∨ ((t.head = false) ∧ ((1024 : Int) < ((t.key.length : Nat) : Int))))) rfl (by first | (simp [hb4, hb8]; done) | grind)
        exact th_n (h.to rfl ⟨rfl, rfl, trivial⟩)
  · intro a w h
    refine c_cond rfl h (fun hc9 => ?_) (fun hc9 => ?_)
    · skip
      refine c_seq ?_
      refine c_region ?_
      refine stepP (p_assign h rfl) h rfl fun a w h => ?_
      refine stepEnd ?_
      refine th_n ?_
      refine c_ret (th_r ?_)
      exact fin1 (.inl rfl) h rfl rfl ⟨by rw [validP_own (own_ref.2 hc9)], h.own.none.weaken hle⟩
    · skip
      refine c_skip ?_
      refine th_n ?_
      refine c_seq ?_
      refine c_seq ?_
      have hnb : ¬ ownBad t := fun hb => hc9 (own_ref.1 hb)
      refine c_region ?_
      refine stepP (p_fieldAddr (r := 35) Tryd.underlying46 rfl Tryd.sizeOf44 rfl rfl h rfl) h rfl fun a w h => ?_
      refine stepP (p_load Tryd.isAgg44 h rfl (Cel.stay ro3 ht.kidsAt)) h rfl fun a w h => ?_
      refine stepP (p_lenS Tryd.underlying44 h rfl ht.kids.sl) h rfl fun a w h => ?_
      refine stepP (p_gtr h rfl rfl) h rfl fun a w h => ?_
      refine stepEnd ?_
      refine th_n ?_
      refine c_cond rfl h (fun hc10 => ?_) (fun hc10 => ?_)
      · skip
        refine c_seq ?_
        refine c_region ?_
        refine stepP (p_assign h rfl) h rfl fun a w h => ?_
        refine stepEnd ?_
        refine th_n ?_
        refine c_ret (th_r ?_)
        exact fin1 (.inl rfl) h rfl rfl ⟨by rw [validP_71 hnb (.inl hc10)], h.own.none.weaken hle⟩
      · skip
        refine c_skip ?_
        refine th_n ?_
        refine c_seq ?_
        refine c_region ?_
        refine stepP (p_assign h rfl) h rfl fun a w h => ?_
        refine stepEnd ?_
        refine th_n ?_
        refine c_seq ?_
        refine c_region ?_
        refine stepP (p_assign h rfl) h rfl fun a w h => ?_
        refine stepEnd ?_
        refine th_n ?_
        refine c_cut (fun a w => St S hf2 [] 137 [(1, ptr b1 0), (3, .int .i64 t.top), (4, .int .u64 ((base t.head : Nat) : Int))] a w) ?_ ?_
        · skip
          refine c_seq ?_
          refine c_region ?_
          refine stepP (p_fieldAddr (r := 0) Tryd.underlying46 rfl Tryd.sizeOf4 rfl rfl h rfl) h rfl fun a w h => ?_
          refine stepP (p_load Tryd.isAgg4 h rfl (Cel.stay ro3 rfl)) h rfl fun a w h => ?_
          refine stepP (p_not h rfl) h rfl fun a w h => ?_
          refine stepEnd ?_
          refine th_n ?_
          refine c_condB rfl h (fun hc11 => ?_) (fun hc11 => ?_)
          · skip
            refine c_seq ?_
            have hlen := own_len hnb (by simpa using hc11)
            have hh24 := height_hi t.key
            refine c_region ?_
            refine stepP (p_fieldAddr (r := 1) Tryd.underlying46 rfl Tryd.sizeOf22 rfl rfl h rfl) h rfl fun a w h => ?_
            refine stepP (p_load Tryd.isAgg22 h rfl (Cel.stay ro3 rfl)) h rfl fun a w h => ?_
            refine stepV (Enter.opT (o_call Tryd.call24 h rfl) (call_valA (c_rHeight h.own ht.key (by omega)))) h.env rfl fun a w h => ?_
            refine stepP (p_sub h rfl rfl (wi (by omega))) h rfl fun a w h => ?_
            refine stepP (p_assign h rfl) h rfl fun a w h => ?_
            refine stepEnd ?_
            refine th_n ?_
            refine c_region ?_
            refine stepP (p_assign h rfl) h rfl fun a w h => ?_
            refine stepEnd ?_
            have hhd : t.head = false := by simpa using hc11
            have htv := top_tail hhd
            have hbv := base_tail hhd
            exact th_n (h.to rfl ⟨rfl, (look_int rfl (by first | rfl | omega)), (look_int rfl (by first | rfl | omega)), trivial⟩)
          · skip
            refine c_skip ?_
            have hhd : t.head = true := by simpa using hc11
            have htv := top_head hhd
            have hbv := base_head hhd
            exact th_n (h.to rfl ⟨rfl, (look_int rfl (by first | rfl | omega)), (look_int rfl (by first | rfl | omega)), trivial⟩)
        · intro a w h
          refine c_seq ?_
          refine c_seq ?_
          refine c_region ?_
          refine stepP (p_fieldAddr (r := 35) Tryd.underlying46 rfl Tryd.sizeOf44 rfl rfl h rfl) h rfl fun a w h => ?_
          refine stepP (p_load Tryd.isAgg44 h rfl (Cel.stay ro3 ht.kidsAt)) h rfl fun a w h => ?_
          refine stepP (p_lenS Tryd.underlying44 h rfl ht.kids.sl) h rfl fun a w h => ?_
          refine stepP (p_move h rfl) h rfl fun a w h => ?_
          refine stepEnd ?_
          refine th_n ?_
          refine c_block ?_
          refine c_loop (fun m a w => ∃ (i : Nat), m = t.kids.length - i ∧ i ≤ t.kids.length ∧ (∀ j, j < i → kidOk t j) ∧ St S hf2 [] 137 [(1, ptr b1 0), (3, .int .i64 t.top), (4, .int .u64 ((cntN (base t.head) (t.kids.take i) : Nat) : Int)), (44, x.kids), (45, .int .i64 ((t.kids.length : Nat) : Int)), (46, .int .i64 ((i : Nat) : Int))] a w) (N := t.kids.length - 0) ⟨0, rfl, by omega, fun j h => absurd h (Nat.not_lt_zero _), h.to rfl ⟨rfl, (look_int rfl (by first | rfl | omega)), (look_int rfl (by first | rfl | omega)), rfl, (look_int rfl (by first | rfl | omega)), (look_int rfl (by first | rfl | omega)), trivial⟩⟩ ?_
          clear h
          rintro m a w ⟨i, rfl, hi, hok, h⟩
          refine c_seq ?_
          refine c_region ?_
          refine stepP (p_lss h rfl rfl) h rfl fun a w h => ?_
          refine stepEnd ?_
          refine th_n ?_
          refine c_seq ?_
          refine c_cond rfl h (fun hc12 => ?_) (fun hc12 => ?_)
          · skip
            refine c_skip ?_
            refine th_n ?_
            refine c_seq ?_
            refine c_block ?_
            refine c_seq ?_
            refine c_region ?_
            refine stepP (p_move h rfl) h rfl fun a w h => ?_
            have hi13 : i < t.kids.length := by omega
            refine stepP (p_idxS (s := 68) (j := i) Tryd.underlying44 Tryd.sizeOf29 h rfl rfl ht.kids.sl (by omega) hi13) h rfl fun a w h => ?_
            refine stepP (p_loadA (vs := ((kidAt t.kids i).at (vkAt x.kvs i)).cells) Tryd.isAgg29 (fun w => by rw [Tryd.sizeOf29, KidV.Ok.length (ht.kids.ok hi13)]) h rfl (ht.kids.cels hi13)) h rfl fun a w h => ?_
            refine stepO (o_alloc (l := Tryd.zeroCells29.toList) Tryd.zeroValue29 rfl h) h.env rfl ?_
            rintro b14 _ a w h
            refine stepP (p_assign h rfl) h rfl fun a w h => ?_
            refine stepN (o_storeA (kk := 0) (vs := ((kidAt t.kids i).at (vkAt x.kvs i)).cells) (cs' := ((kidAt t.kids i).at (vkAt x.kvs i)).cells) (fun w => by rw [Tryd.sizeOf29, (ht.kids.ok hi13).length]) h rfl rfl rfl (KidV.Ok.one (ht.kids.ok hi13)) rfl (by rw [(ht.kids.ok hi13).length]; simp [Tryd.zeroCells29_size]) (by rw [(ht.kids.ok hi13).length]; simp [(ht.kids.ok hi13).length, Tryd.zeroCells29_size, List.drop_of_length_le])) h.env fun a w h => ?_
            refine stepEnd ?_
            have hi2 : i < t.kids.length := by omega
            refine th_n ?_
            refine c_seq ?_
            refine c_cut (fun a w => St S hf2 ([(b14, row 29 (((kidAt t.kids i).at (vkAt x.kvs i)).cells))]) 137 [(1, ptr b1 0), (3, .int .i64 t.top), (4, .int .u64 ((cntN (base t.head) (t.kids.take i) : Nat) : Int)), (5, .int .i64 ((i : Nat) : Int)), (6, ptr b14 0), (44, x.kids), (45, .int .i64 ((t.kids.length : Nat) : Int)), (46, .int .i64 ((i : Nat) : Int)), (75, .bool (decide (((((kidAt t.kids i).lvl : Int) < 0) ∨ ((t.top : Int) < (kidAt t.kids i).lvl)) ∨ (((0 : Int) < ((i : Nat) : Int)) ∧ (((kidAt t.kids (i - 1)).lvl : Int) ≤ (kidAt t.kids i).lvl)))))] a w) ?_ ?_
            · skip
              refine region_quiet (by kernel_rfl) (by kernel_rfl) h ?_
              have he := h.env
              clear h
              refine stepQ he (fun w h => p_fieldAddr (r := 0) Tryd.underlying29 rfl Tryd.sizeOf3 rfl rfl h rfl) rfl fun a he => ?_
              refine stepQ he (fun w h => p_load (v := .int .i64 (kidAt t.kids i).lvl) Tryd.isAgg3 h rfl (Cel.own (k := 0) rfl rfl)) rfl fun a he => ?_
              refine stepQ he (fun w h => p_lss h rfl rfl) rfl fun a he => ?_
              refine stepQ he (fun w h => p_move h rfl) rfl fun a he => ?_
              rcases Decidable.em (((kidAt t.kids i).lvl : Int) < 0) with hb15 | hb15
              · have he := he.bool_of (t := 54) (b' := true) rfl (decide_eq_true hb15)
                refine stepQSkip rfl rfl rfl rfl he rfl fun a he => ?_
                refine stepQSkip rfl rfl rfl rfl he rfl fun a he => ?_
                refine stepQSkip rfl rfl rfl rfl he rfl fun a he => ?_
                refine stepQSkip rfl rfl rfl rfl he rfl fun a he => ?_
                refine stepQ he (fun w h => p_pickT h rfl rfl) rfl fun a he => ?_
                refine stepQ he (fun w h => p_move h rfl) rfl fun a he => ?_
                refine stepQSkip rfl rfl rfl rfl he rfl fun a he => ?_
                refine stepQSkip rfl rfl rfl rfl he rfl fun a he => ?_
                refine stepQSkip rfl rfl rfl rfl he rfl fun a he => ?_
                refine stepQSkipU rfl rfl rfl he rfl fun a he => ?_
                refine stepQSkipU rfl rfl rfl he rfl fun a he => ?_
                refine stepQSkipU rfl rfl rfl he rfl fun a he => ?_
                refine stepQSkipU rfl rfl rfl he rfl fun a he => ?_
                refine stepQSkipU rfl rfl rfl he rfl fun a he => ?_
                refine stepQSkipU rfl rfl rfl he rfl fun a he => ?_
                refine stepQSkipU rfl rfl rfl he rfl fun a he => ?_
                refine stepQSkipU rfl rfl rfl he rfl fun a he => ?_
                refine stepQSkipU rfl rfl rfl he rfl fun a he => ?_
                refine stepQSkipU rfl rfl rfl he rfl fun a he => ?_
                refine stepQSkip rfl rfl rfl rfl he rfl fun a he => ?_
                refine stepQ he (fun w h => p_pickT h rfl rfl) rfl fun a he => ?_
                refine stepQEnd he fun w h => ?_
                have h := h.bool_of (t := 75) (b' := decide (((((kidAt t.kids i).lvl : Int) < 0) ∨ ((t.top : Int) < (kidAt t.kids i).lvl)) ∨ (((0 : Int) < ((i : Nat) : Int)) ∧ (((kidAt t.kids (i - 1)).lvl : Int) ≤ (kidAt t.kids i).lvl)))) rfl (by first | (simp [hb15]; done) | grind)
                exact th_n (h.to rfl ⟨rfl, (look_int rfl (by first | rfl | omega)), (look_int rfl (by first | rfl | omega)), (look_int rfl (by first | rfl | omega)), rfl, rfl, (look_int rfl (by first | rfl | omega)), (look_int rfl (by first | rfl | omega)), rfl, trivial⟩)
              · have he := he.bool_of (t := 54) (b' := false) rfl (decide_eq_false hb15)
                refine stepQG rfl rfl rfl rfl he (fun w h => p_fieldAddr (r := 0) Tryd.underlying29 rfl Tryd.sizeOf3 rfl rfl h rfl) rfl fun a he => ?_
                refine stepQG rfl rfl rfl rfl he (fun w h => p_load (v := .int .i64 (kidAt t.kids i).lvl) Tryd.isAgg3 h rfl (Cel.own (k := 0) rfl rfl)) rfl fun a he => ?_
                refine stepQG rfl rfl rfl rfl he (fun w h => p_move h rfl) rfl fun a he => ?_
                refine stepQG rfl rfl rfl rfl he (fun w h => p_gtr h rfl rfl) rfl fun a he => ?_
                refine stepQ he (fun w h => p_pickF h rfl rfl) rfl fun a he => ?_
                refine stepQ he (fun w h => p_move h rfl) rfl fun a he => ?_
                rcases Decidable.em ((t.top : Int) < (kidAt t.kids i).lvl) with hb16 | hb16
                · have he := he.bool_of (t := 60) (b' := true) rfl (decide_eq_true hb16)
                  refine stepQSkip rfl rfl rfl rfl he rfl fun a he => ?_
                  refine stepQSkip rfl rfl rfl rfl he rfl fun a he => ?_
                  refine stepQSkip rfl rfl rfl rfl he rfl fun a he => ?_
                  refine stepQSkipU rfl rfl rfl he rfl fun a he => ?_
                  refine stepQSkipU rfl rfl rfl he rfl fun a he => ?_
                  refine stepQSkipU rfl rfl rfl he rfl fun a he => ?_
                  refine stepQSkipU rfl rfl rfl he rfl fun a he => ?_
                  refine stepQSkipU rfl rfl rfl he rfl fun a he => ?_
                  refine stepQSkipU rfl rfl rfl he rfl fun a he => ?_
                  refine stepQSkipU rfl rfl rfl he rfl fun a he => ?_
                  refine stepQSkipU rfl rfl rfl he rfl fun a he => ?_
                  refine stepQSkipU rfl rfl rfl he rfl fun a he => ?_
                  refine stepQSkipU rfl rfl rfl he rfl fun a he => ?_
                  refine stepQSkip rfl rfl rfl rfl he rfl fun a he => ?_
                  refine stepQ he (fun w h => p_pickT h rfl rfl) rfl fun a he => ?_
                  refine stepQEnd he fun w h => ?_
                  have h := h.bool_of (t := 75) (b' := decide (((((kidAt t.kids i).lvl : Int) < 0) ∨ ((t.top : Int) < (kidAt t.kids i).lvl)) ∨ (((0 : Int) < ((i : Nat) : Int)) ∧ (((kidAt t.kids (i - 1)).lvl : Int) ≤ (kidAt t.kids i).lvl)))) rfl (by first | (simp [hb15, hb16]; done) | grind)
                  exact th_n (h.to rfl ⟨rfl, (look_int rfl (by first | rfl | omega)), (look_int rfl (by first | rfl | omega)), (look_int rfl (by first | rfl | omega)), rfl, rfl, (look_int rfl (by first | rfl | omega)), (look_int rfl (by first | rfl | omega)), rfl, trivial⟩)
                · have he := he.bool_of (t := 60) (b' := false) rfl (decide_eq_false hb16)
                  refine stepQG rfl rfl rfl rfl he (fun w h => p_move h rfl) rfl fun a he => ?_
                  refine stepQG rfl rfl rfl rfl he (fun w h => p_gtr h rfl rfl) rfl fun a he => ?_
                  refine stepQG rfl rfl rfl rfl he (fun w h => p_move h rfl) rfl fun a he => ?_
                  rcases Decidable.em ((0 : Int) < ((i : Nat) : Int)) with hb17 | hb17
                  · have he := he.bool_of (t := 63) (b' := true) rfl (decide_eq_true hb17)
                    refine stepQG rfl rfl rfl rfl he (fun w h => p_fieldAddr (r := 0) Tryd.underlying29 rfl Tryd.sizeOf3 rfl rfl h rfl) rfl fun a he => ?_
                    refine stepQG rfl rfl rfl rfl he (fun w h => p_load (v := .int .i64 (kidAt t.kids i).lvl) Tryd.isAgg3 h rfl (Cel.own (k := 0) rfl rfl)) rfl fun a he => ?_
                    refine stepQG rfl rfl rfl rfl he (fun w h => p_fieldAddr (r := 35) Tryd.underlying46 rfl Tryd.sizeOf44 rfl rfl h rfl) rfl fun a he => ?_
                    refine stepQG rfl rfl rfl rfl he (fun w h => p_load Tryd.isAgg44 h rfl (Cel.stay ro3 ht.kidsAt)) rfl fun a he => ?_
                    refine stepQG rfl rfl rfl rfl he (fun w h => p_move h rfl) rfl fun a he => ?_
                    refine stepQG rfl rfl rfl rfl he (fun w h => p_sub (r := ((i - 1 : Nat) : Int)) h rfl rfl ((wi (by omega)).trans (by omega))) rfl fun a he => ?_
                    have hi18 : (i - 1) < t.kids.length := by omega
                    refine stepQG rfl rfl rfl rfl he (fun w h => p_idxS (s := 68) (j := (i - 1)) Tryd.underlying44 Tryd.sizeOf29 h rfl rfl ht.kids.sl (by omega) hi18) rfl fun a he => ?_
                    refine stepQG rfl rfl rfl rfl he (fun w h => p_fieldAddr (r := sOff x.kids + (i - 1) * 68) Tryd.underlying29 rfl Tryd.sizeOf3 rfl rfl h rfl) rfl fun a he => ?_
                    refine stepQG rfl rfl rfl rfl he (fun w h => p_load (v := .int .i64 (kidAt t.kids (i - 1)).lvl) Tryd.isAgg3 h rfl ((ht.kids.cels hi18) 0 _ rfl)) rfl fun a he => ?_
                    refine stepQG rfl rfl rfl rfl he (fun w h => p_geq h rfl rfl) rfl fun a he => ?_
                    refine stepQG rfl rfl rfl rfl he (fun w h => p_pickT h rfl rfl) rfl fun a he => ?_
                    refine stepQ he (fun w h => p_pickF h rfl rfl) rfl fun a he => ?_
                    refine stepQEnd he fun w h => ?_
                    have h := h.bool_of (t := 75) (b' := decide (((((kidAt t.kids i).lvl : Int) < 0) ∨ ((t.top : Int) < (kidAt t.kids i).lvl)) ∨ (((0 : Int) < ((i : Nat) : Int)) ∧ (((kidAt t.kids (i - 1)).lvl : Int) ≤ (kidAt t.kids i).lvl)))) rfl (by first | (simp [hb15, hb16, hb17]; done) | grind)
                    exact th_n (h.to rfl ⟨rfl, (look_int rfl (by first | rfl | omega)), (look_int rfl (by first | rfl | omega)), (look_int rfl (by first | rfl | omega)), rfl, rfl, (look_int rfl (by first | rfl | omega)), (look_int rfl (by first | rfl | omega)), rfl, trivial⟩)
                  · have he := he.bool_of (t := 63) (b' := false) rfl (decide_eq_false hb17)
                    refine stepQSkip rfl rfl rfl rfl he rfl fun a he => ?_
                    refine stepQSkip rfl rfl rfl rfl he rfl fun a he => ?_
                    refine stepQSkip rfl rfl rfl rfl he rfl fun a he => ?_
                    refine stepQSkip rfl rfl rfl rfl he rfl fun a he => ?_
                    refine stepQSkip rfl rfl rfl rfl he rfl fun a he => ?_
                    refine stepQSkip rfl rfl rfl rfl he rfl fun a he => ?_
                    refine stepQSkip rfl rfl rfl rfl he rfl fun a he => ?_
                    refine stepQSkip rfl rfl rfl rfl he rfl fun a he => ?_
                    refine stepQSkip rfl rfl rfl rfl he rfl fun a he => ?_
                    refine stepQSkip rfl rfl rfl rfl he rfl fun a he => ?_
                    refine stepQG rfl rfl rfl rfl he (fun w h => p_pickF h rfl rfl) rfl fun a he => ?_
                    refine stepQ he (fun w h => p_pickF h rfl rfl) rfl fun a he => ?_
                    refine stepQEnd he fun w h => ?_
                    have h := h.bool_of (t := 75) (b' := decide (((((kidAt t.kids i).lvl : Int) < 0) ∨ ((t.top : Int) < (kidAt t.kids i).lvl)) ∨ (((0 : Int) < ((i : Nat) : Int)) ∧ (((kidAt t.kids (i - 1)).lvl : Int) ≤ (kidAt t.kids i).lvl)))) rfl (by first | (simp [hb15, hb16, hb17]; done) | grind)
                    exact th_n (h.to rfl ⟨rfl, (look_int rfl (by first | rfl | omega)), (look_int rfl (by first | rfl | omega)), (look_int rfl (by first | rfl | omega)), rfl, rfl, (look_int rfl (by first | rfl | omega)), (look_int rfl (by first | rfl | omega)), rfl, trivial⟩)
            · intro a w h
              refine c_cond rfl h (fun hc19 => ?_) (fun hc19 => ?_)
              · skip
                refine c_seq ?_
                refine c_region ?_
                refine stepP (p_assign h rfl) h rfl fun a w h => ?_
                refine stepEnd ?_
                refine th_n ?_
                refine c_ret (th_r (bl_r (th_r (th_r (bl_r (th_r ?_))))))
                exact fin1 (.inl rfl) h rfl rfl ⟨by rw [validP_kids hnb (kids_not hi2 (fun kk => (kidOk_ref.1 kk).1 hc19))], h.own.none.weaken hle⟩
              · skip
                refine c_skip ?_
                refine th_n ?_
                refine c_seq ?_
                refine c_cut (fun a w => St S hf2 ([(b14, row 29 (((kidAt t.kids i).at (vkAt x.kvs i)).cells))]) 137 [(1, ptr b1 0), (3, .int .i64 t.top), (4, .int .u64 ((cntN (base t.head) (t.kids.take i) : Nat) : Int)), (5, .int .i64 ((i : Nat) : Int)), (6, ptr b14 0), (44, x.kids), (45, .int .i64 ((t.kids.length : Nat) : Int)), (46, .int .i64 ((i : Nat) : Int)), (88, .bool (decide (((1024 : Int) < ((((kidAt t.kids i).key).length : Nat) : Int)) ∨ (((((height ((kidAt t.kids i).key)) : Nat) : Int) : Int) ≠ ((kidAt t.kids i).lvl) + 1))))] a w) ?_ ?_
                · skip
                  refine region_quiet (by kernel_rfl) (by kernel_rfl) h ?_
                  have he := h.env
                  clear h
                  refine stepQ he (fun w h => p_fieldAddr (r := 1) Tryd.underlying29 rfl Tryd.sizeOf22 rfl rfl h rfl) rfl fun a he => ?_
                  refine stepQ he (fun w h => p_load (v := (vkAt x.kvs i)) Tryd.isAgg22 h rfl (Cel.own (k := 0) rfl rfl)) rfl fun a he => ?_
                  refine stepQ he (fun w h => p_lenB Tryd.underlying22 h rfl (ht.kids.ok hi13).key) rfl fun a he => ?_
                  refine stepQ he (fun w h => p_gtr h rfl rfl) rfl fun a he => ?_
                  refine stepQ he (fun w h => p_move h rfl) rfl fun a he => ?_
                  rcases Decidable.em ((1024 : Int) < ((((kidAt t.kids i).key).length : Nat) : Int)) with hb20 | hb20
                  · have he := he.bool_of (t := 80) (b' := true) rfl (decide_eq_true hb20)
                    refine stepQSkip rfl rfl rfl rfl he rfl fun a he => ?_
                    refine stepQSkip rfl rfl rfl rfl he rfl fun a he => ?_
                    refine stepQSkip rfl rfl rfl rfl he rfl fun a he => ?_
                    refine stepQSkip rfl rfl rfl rfl he rfl fun a he => ?_
                    refine stepQSkip rfl rfl rfl rfl he rfl fun a he => ?_
                    refine stepQSkip rfl rfl rfl rfl he rfl fun a he => ?_
                    refine stepQSkip rfl rfl rfl rfl he rfl fun a he => ?_
                    refine stepQ he (fun w h => p_pickT h rfl rfl) rfl fun a he => ?_
                    refine stepQEnd he fun w h => ?_
                    have h := h.bool_of (t := 88) (b' := decide (((1024 : Int) < ((((kidAt t.kids i).key).length : Nat) : Int)) ∨ (((((height ((kidAt t.kids i).key)) : Nat) : Int) : Int) ≠ ((kidAt t.kids i).lvl) + 1))) rfl (by first | (simp [hb20]; done) | grind)
                    exact th_n (h.to rfl ⟨rfl, (look_int rfl (by first | rfl | omega)), (look_int rfl (by first | rfl | omega)), (look_int rfl (by first | rfl | omega)), rfl, rfl, (look_int rfl (by first | rfl | omega)), (look_int rfl (by first | rfl | omega)), rfl, trivial⟩)
                  · have he := he.bool_of (t := 80) (b' := false) rfl (decide_eq_false hb20)
                    refine stepQG rfl rfl rfl rfl he (fun w h => p_fieldAddr (r := 1) Tryd.underlying29 rfl Tryd.sizeOf22 rfl rfl h rfl) rfl fun a he => ?_
                    refine stepQG rfl rfl rfl rfl he (fun w h => p_load (v := (vkAt x.kvs i)) Tryd.isAgg22 h rfl (Cel.own (k := 0) rfl rfl)) rfl fun a he => ?_
                    refine stepQGC rfl rfl rfl rfl he (fun w h => o_call Tryd.call24 h rfl) (fun w ho => call_q0 ho (c_rHeight ho.lend0 ((ht.kids.ok hi13).key.mono ho.le0) (by omega))) rfl fun a he => ?_
                    refine stepQG rfl rfl rfl rfl he (fun w h => p_fieldAddr (r := 0) Tryd.underlying29 rfl Tryd.sizeOf3 rfl rfl h rfl) rfl fun a he => ?_
                    refine stepQG rfl rfl rfl rfl he (fun w h => p_load (v := .int .i64 (kidAt t.kids i).lvl) Tryd.isAgg3 h rfl (Cel.own (k := 0) rfl rfl)) rfl fun a he => ?_
                    refine stepQG rfl rfl rfl rfl he (fun w h => p_add h rfl rfl (wi (by omega))) rfl fun a he => ?_
                    refine stepQG rfl rfl rfl rfl he (fun w h => p_neq h rfl rfl) rfl fun a he => ?_
                    refine stepQ he (fun w h => p_pickF h rfl rfl) rfl fun a he => ?_
                    refine stepQEnd he fun w h => ?_
                    have h := h.bool_of (t := 88) (b' := decide (((1024 : Int) < ((((kidAt t.kids i).key).length : Nat) : Int)) ∨ (((((height ((kidAt t.kids i).key)) : Nat) : Int) : Int) ≠ ((kidAt t.kids i).lvl) + 1))) rfl (by first | (simp [hb20]; done) | grind)
                    exact th_n (h.to rfl ⟨rfl, (look_int rfl (by first | rfl | omega)), (look_int rfl (by first | rfl | omega)), (look_int rfl (by first | rfl | omega)), rfl, rfl, (look_int rfl (by first | rfl | omega)), (look_int rfl (by first | rfl | omega)), rfl, trivial⟩)
                · intro a w h
                  refine c_cond rfl h (fun hc21 => ?_) (fun hc21 => ?_)
                  · skip
                    refine c_seq ?_
                    refine c_region ?_
                    refine stepP (p_assign h rfl) h rfl fun a w h => ?_
                    refine stepEnd ?_
                    refine th_n ?_
                    refine c_ret (th_r (bl_r (th_r (th_r (bl_r (th_r ?_))))))
                    exact fin1 (.inl rfl) h rfl rfl ⟨by rw [validP_kids hnb (kids_not hi2 (fun kk => (kidOk_ref.1 kk).2.1 hc21))], h.own.none.weaken hle⟩
                  · skip
                    refine c_skip ?_
                    refine th_n ?_
                    refine c_seq ?_
                    refine c_cut (fun a w => St S hf2 ([(b14, row 29 (((kidAt t.kids i).at (vkAt x.kvs i)).cells))]) 137 [(1, ptr b1 0), (3, .int .i64 t.top), (4, .int .u64 ((cntN (base t.head) (t.kids.take i) : Nat) : Int)), (6, ptr b14 0), (44, x.kids), (45, .int .i64 ((t.kids.length : Nat) : Int)), (46, .int .i64 ((i : Nat) : Int)), (116, .bool (decide (((t.head = false) ∧ ((cmpB ((kidAt t.kids i).key) t.key : Int) ≤ 0)) ∨ (((0 : Int) < ((i : Nat) : Int)) ∧ ((0 : Int) ≤ cmpB ((kidAt t.kids i).key) ((kidAt t.kids (i - 1)).key))))))] a w) ?_ ?_
                    · skip
                      refine region_quiet (by kernel_rfl) (by kernel_rfl) h ?_
                      have he := h.env
                      clear h
                      refine stepQ he (fun w h => p_fieldAddr (r := 0) Tryd.underlying46 rfl Tryd.sizeOf4 rfl rfl h rfl) rfl fun a he => ?_
                      refine stepQ he (fun w h => p_load Tryd.isAgg4 h rfl (Cel.stay ro3 rfl)) rfl fun a he => ?_
                      refine stepQ he (fun w h => p_not h rfl) rfl fun a he => ?_
                      have he := he.bool_of (t := 91) (b' := decide (t.head = false)) rfl (by cases t.head <;> rfl)
                      refine stepQ he (fun w h => p_move h rfl) rfl fun a he => ?_
                      have he := he.bool_of (t := 91) (b' := decide (t.head = false)) rfl (by cases t.head <;> rfl)
                      rcases Decidable.em (t.head = false) with hb22 | hb22
                      · have he := he.bool_of (t := 92) (b' := true) rfl (decide_eq_true hb22)
                        refine stepQG rfl rfl rfl rfl he (fun w h => p_fieldAddr (r := 1) Tryd.underlying29 rfl Tryd.sizeOf22 rfl rfl h rfl) rfl fun a he => ?_
                        refine stepQG rfl rfl rfl rfl he (fun w h => p_load (v := (vkAt x.kvs i)) Tryd.isAgg22 h rfl (Cel.own (k := 0) rfl rfl)) rfl fun a he => ?_
                        refine stepQG rfl rfl rfl rfl he (fun w h => p_fieldAddr (r := 1) Tryd.underlying46 rfl Tryd.sizeOf22 rfl rfl h rfl) rfl fun a he => ?_
                        refine stepQG rfl rfl rfl rfl he (fun w h => p_load Tryd.isAgg22 h rfl (Cel.stay ro3 rfl)) rfl fun a he => ?_
                        refine stepQGC rfl rfl rfl rfl he (fun w h => o_call Tryd.call52 h rfl) (fun w ho => call_q0 ho (c_Compare ho.lend0 ((ht.kids.ok hi13).key.mono ho.le0) (ht.key.mono ho.le0))) rfl fun a he => ?_
                        refine stepQG rfl rfl rfl rfl he (fun w h => p_leq h rfl rfl) rfl fun a he => ?_
                        refine stepQ he (fun w h => p_pickT h rfl rfl) rfl fun a he => ?_
                        refine stepQ he (fun w h => p_move h rfl) rfl fun a he => ?_
                        rcases Decidable.em ((cmpB ((kidAt t.kids i).key) t.key : Int) ≤ 0) with hb23 | hb23
                        · have he := he.bool_of (t := 100) (b' := true) rfl (decide_eq_true hb23)
                          refine stepQSkip rfl rfl rfl rfl he rfl fun a he => ?_
                          refine stepQSkip rfl rfl rfl rfl he rfl fun a he => ?_
                          refine stepQSkip rfl rfl rfl rfl he rfl fun a he => ?_
                          refine stepQSkipU rfl rfl rfl he rfl fun a he => ?_
                          refine stepQSkipU rfl rfl rfl he rfl fun a he => ?_
                          refine stepQSkipU rfl rfl rfl he rfl fun a he => ?_
                          refine stepQSkipU rfl rfl rfl he rfl fun a he => ?_
                          refine stepQSkipU rfl rfl rfl he rfl fun a he => ?_
                          refine stepQSkipU rfl rfl rfl he rfl fun a he => ?_
                          refine stepQSkipU rfl rfl rfl he rfl fun a he => ?_
                          refine stepQSkipU rfl rfl rfl he rfl fun a he => ?_
                          refine stepQSkipU rfl rfl rfl he rfl fun a he => ?_
                          refine stepQSkipU rfl rfl rfl he rfl fun a he => ?_
                          refine stepQSkipU rfl rfl rfl he rfl fun a he => ?_
                          refine stepQSkip rfl rfl rfl rfl he rfl fun a he => ?_
                          refine stepQ he (fun w h => p_pickT h rfl rfl) rfl fun a he => ?_
                          refine stepQEnd he fun w h => ?_
                          have h := h.bool_of (t := 116) (b' := decide (((t.head = false) ∧ ((cmpB ((kidAt t.kids i).key) t.key : Int) ≤ 0)) ∨ (((0 : Int) < ((i : Nat) : Int)) ∧ ((0 : Int) ≤ cmpB ((kidAt t.kids i).key) ((kidAt t.kids (i - 1)).key))))) rfl (by first | (simp [hb22, hb23]; done) | grind)
                          exact th_n (h.to rfl ⟨rfl, (look_int rfl (by first | rfl | omega)), (look_int rfl (by first | rfl | omega)), rfl, rfl, (look_int rfl (by first | rfl | omega)), (look_int rfl (by first | rfl | omega)), rfl, trivial⟩)
                        · have he := he.bool_of (t := 100) (b' := false) rfl (decide_eq_false hb23)
                          refine stepQG rfl rfl rfl rfl he (fun w h => p_move h rfl) rfl fun a he => ?_
                          refine stepQG rfl rfl rfl rfl he (fun w h => p_gtr h rfl rfl) rfl fun a he => ?_
                          refine stepQG rfl rfl rfl rfl he (fun w h => p_move h rfl) rfl fun a he => ?_
                          rcases Decidable.em ((0 : Int) < ((i : Nat) : Int)) with hb24 | hb24
                          · have he := he.bool_of (t := 103) (b' := true) rfl (decide_eq_true hb24)
                            refine stepQG rfl rfl rfl rfl he (fun w h => p_fieldAddr (r := 1) Tryd.underlying29 rfl Tryd.sizeOf22 rfl rfl h rfl) rfl fun a he => ?_
                            refine stepQG rfl rfl rfl rfl he (fun w h => p_load (v := (vkAt x.kvs i)) Tryd.isAgg22 h rfl (Cel.own (k := 0) rfl rfl)) rfl fun a he => ?_
                            refine stepQG rfl rfl rfl rfl he (fun w h => p_fieldAddr (r := 35) Tryd.underlying46 rfl Tryd.sizeOf44 rfl rfl h rfl) rfl fun a he => ?_
                            refine stepQG rfl rfl rfl rfl he (fun w h => p_load Tryd.isAgg44 h rfl (Cel.stay ro3 ht.kidsAt)) rfl fun a he => ?_
                            refine stepQG rfl rfl rfl rfl he (fun w h => p_move h rfl) rfl fun a he => ?_
                            refine stepQG rfl rfl rfl rfl he (fun w h => p_sub (r := ((i - 1 : Nat) : Int)) h rfl rfl ((wi (by omega)).trans (by omega))) rfl fun a he => ?_
                            have hi25 : (i - 1) < t.kids.length := by omega
                            refine stepQG rfl rfl rfl rfl he (fun w h => p_idxS (s := 68) (j := (i - 1)) Tryd.underlying44 Tryd.sizeOf29 h rfl rfl ht.kids.sl (by omega) hi25) rfl fun a he => ?_
                            refine stepQG rfl rfl rfl rfl he (fun w h => p_fieldAddr (r := sOff x.kids + (i - 1) * 68 + 1) Tryd.underlying29 rfl Tryd.sizeOf22 rfl rfl h rfl) rfl fun a he => ?_
                            refine stepQG rfl rfl rfl rfl he (fun w h => p_load (v := (vkAt x.kvs (i - 1))) Tryd.isAgg22 h rfl ((ht.kids.cels hi25) 1 _ rfl)) rfl fun a he => ?_
                            refine stepQGC rfl rfl rfl rfl he (fun w h => o_call Tryd.call52 h rfl) (fun w ho => call_q0 ho (c_Compare ho.lend0 ((ht.kids.ok hi13).key.mono ho.le0) ((ht.kids.ok hi25).key.mono ho.le0))) rfl fun a he => ?_
                            refine stepQG rfl rfl rfl rfl he (fun w h => p_geq h rfl rfl) rfl fun a he => ?_
                            refine stepQG rfl rfl rfl rfl he (fun w h => p_pickT h rfl rfl) rfl fun a he => ?_
                            refine stepQ he (fun w h => p_pickF h rfl rfl) rfl fun a he => ?_
                            refine stepQEnd he fun w h => ?_
                            have h := h.bool_of (t := 116) (b' := decide (((t.head = false) ∧ ((cmpB ((kidAt t.kids i).key) t.key : Int) ≤ 0)) ∨ (((0 : Int) < ((i : Nat) : Int)) ∧ ((0 : Int) ≤ cmpB ((kidAt t.kids i).key) ((kidAt t.kids (i - 1)).key))))) rfl (by first | (simp [hb22, hb23, hb24]; done) | grind)
                            exact th_n (h.to rfl ⟨rfl, (look_int rfl (by first | rfl | omega)), (look_int rfl (by first | rfl | omega)), rfl, rfl, (look_int rfl (by first | rfl | omega)), (look_int rfl (by first | rfl | omega)), rfl, trivial⟩)
                          · have he := he.bool_of (t := 103) (b' := false) rfl (decide_eq_false hb24)
                            refine stepQSkip rfl rfl rfl rfl he rfl fun a he => ?_
                            refine stepQSkip rfl rfl rfl rfl he rfl fun a he => ?_
                            refine stepQSkip rfl rfl rfl rfl he rfl fun a he => ?_
                            refine stepQSkip rfl rfl rfl rfl he rfl fun a he => ?_
                            refine stepQSkip rfl rfl rfl rfl he rfl fun a he => ?_
                            refine stepQSkip rfl rfl rfl rfl he rfl fun a he => ?_
                            refine stepQSkip rfl rfl rfl rfl he rfl fun a he => ?_
                            refine stepQSkip rfl rfl rfl rfl he rfl fun a he => ?_
                            refine stepQSkip rfl rfl rfl rfl he rfl fun a he => ?_
                            refine stepQSkip rfl rfl rfl rfl he rfl fun a he => ?_
                            refine stepQSkip rfl rfl rfl rfl he rfl fun a he => ?_
                            refine stepQG rfl rfl rfl rfl he (fun w h => p_pickF h rfl rfl) rfl fun a he => ?_
                            refine stepQ he (fun w h => p_pickF h rfl rfl) rfl fun a he => ?_
                            refine stepQEnd he fun w h => ?_
                            have h := h.bool_of (t := 116) (b' := decide (((t.head = false) ∧ ((cmpB ((kidAt t.kids i).key) t.key : Int) ≤ 0)) ∨ (((0 : Int) < ((i : Nat) : Int)) ∧ ((0 : Int) ≤ cmpB ((kidAt t.kids i).key) ((kidAt t.kids (i - 1)).key))))) rfl (by first | (simp [hb22, hb23, hb24]; done) | grind)
                            exact th_n (h.to rfl ⟨rfl, (look_int rfl (by first | rfl | omega)), (look_int rfl (by first | rfl | omega)), rfl, rfl, (look_int rfl (by first | rfl | omega)), (look_int rfl (by first | rfl | omega)), rfl, trivial⟩)
                      · have he := he.bool_of (t := 92) (b' := false) rfl (decide_eq_false hb22)
                        refine stepQSkip rfl rfl rfl rfl he rfl fun a he => ?_
                        refine stepQSkip rfl rfl rfl rfl he rfl fun a he => ?_
                        refine stepQSkip rfl rfl rfl rfl he rfl fun a he => ?_
                        refine stepQSkip rfl rfl rfl rfl he rfl fun a he => ?_
                        refine stepQSkip rfl rfl rfl rfl he rfl fun a he => ?_
                        refine stepQSkip rfl rfl rfl rfl he rfl fun a he => ?_
                        refine stepQ he (fun w h => p_pickF h rfl rfl) rfl fun a he => ?_
                        refine stepQ he (fun w h => p_move h rfl) rfl fun a he => ?_
                        refine stepQG rfl rfl rfl rfl he (fun w h => p_move h rfl) rfl fun a he => ?_
                        refine stepQG rfl rfl rfl rfl he (fun w h => p_gtr h rfl rfl) rfl fun a he => ?_
                        refine stepQG rfl rfl rfl rfl he (fun w h => p_move h rfl) rfl fun a he => ?_
                        rcases Decidable.em ((0 : Int) < ((i : Nat) : Int)) with hb26 | hb26
                        · have he := he.bool_of (t := 103) (b' := true) rfl (decide_eq_true hb26)
                          refine stepQG rfl rfl rfl rfl he (fun w h => p_fieldAddr (r := 1) Tryd.underlying29 rfl Tryd.sizeOf22 rfl rfl h rfl) rfl fun a he => ?_
                          refine stepQG rfl rfl rfl rfl he (fun w h => p_load (v := (vkAt x.kvs i)) Tryd.isAgg22 h rfl (Cel.own (k := 0) rfl rfl)) rfl fun a he => ?_
                          refine stepQG rfl rfl rfl rfl he (fun w h => p_fieldAddr (r := 35) Tryd.underlying46 rfl Tryd.sizeOf44 rfl rfl h rfl) rfl fun a he => ?_
                          refine stepQG rfl rfl rfl rfl he (fun w h => p_load Tryd.isAgg44 h rfl (Cel.stay ro3 ht.kidsAt)) rfl fun a he => ?_
                          refine stepQG rfl rfl rfl rfl he (fun w h => p_move h rfl) rfl fun a he => ?_
                          refine stepQG rfl rfl rfl rfl he (fun w h => p_sub (r := ((i - 1 : Nat) : Int)) h rfl rfl ((wi (by omega)).trans (by omega))) rfl fun a he => ?_
                          have hi27 : (i - 1) < t.kids.length := by omega
                          refine stepQG rfl rfl rfl rfl he (fun w h => p_idxS (s := 68) (j := (i - 1)) Tryd.underlying44 Tryd.sizeOf29 h rfl rfl ht.kids.sl (by omega) hi27) rfl fun a he => ?_
                          refine stepQG rfl rfl rfl rfl he (fun w h => p_fieldAddr (r := sOff x.kids + (i - 1) * 68 + 1) Tryd.underlying29 rfl Tryd.sizeOf22 rfl rfl h rfl) rfl fun a he => ?_
                          refine stepQG rfl rfl rfl rfl he (fun w h => p_load (v := (vkAt x.kvs (i - 1))) Tryd.isAgg22 h rfl ((ht.kids.cels hi27) 1 _ rfl)) rfl fun a he => ?_
                          refine stepQGC rfl rfl rfl rfl he (fun w h => o_call Tryd.call52 h rfl) (fun w ho => call_q0 ho (c_Compare ho.lend0 ((ht.kids.ok hi13).key.mono ho.le0) ((ht.kids.ok hi27).key.mono ho.le0))) rfl fun a he => ?_
                          refine stepQG rfl rfl rfl rfl he (fun w h => p_geq h rfl rfl) rfl fun a he => ?_
                          refine stepQG rfl rfl rfl rfl he (fun w h => p_pickT h rfl rfl) rfl fun a he => ?_
                          refine stepQ he (fun w h => p_pickF h rfl rfl) rfl fun a he => ?_
                          refine stepQEnd he fun w h => ?_
                          have h := h.bool_of (t := 116) (b' := decide (((t.head = false) ∧ ((cmpB ((kidAt t.kids i).key) t.key : Int) ≤ 0)) ∨ (((0 : Int) < ((i : Nat) : Int)) ∧ ((0 : Int) ≤ cmpB ((kidAt t.kids i).key) ((kidAt t.kids (i - 1)).key))))) rfl (by first | (simp [hb22, hb26]; done) | grind)
                          exact th_n (h.to rfl ⟨rfl, (look_int rfl (by first | rfl | omega)), (look_int rfl (by first | rfl | omega)), rfl, rfl, (look_int rfl (by first | rfl | omega)), (look_int rfl (by first | rfl | omega)), rfl, trivial⟩)
                        · have he := he.bool_of (t := 103) (b' := false) rfl (decide_eq_false hb26)
                          refine stepQSkip rfl rfl rfl rfl he rfl fun a he => ?_
                          refine stepQSkip rfl rfl rfl rfl he rfl fun a he => ?_
                          refine stepQSkip rfl rfl rfl rfl he rfl fun a he => ?_
                          refine stepQSkip rfl rfl rfl rfl he rfl fun a he => ?_
                          refine stepQSkip rfl rfl rfl rfl he rfl fun a he => ?_
                          refine stepQSkip rfl rfl rfl rfl he rfl fun a he => ?_
                          refine stepQSkip rfl rfl rfl rfl he rfl fun a he => ?_
                          refine stepQSkip rfl rfl rfl rfl he rfl fun a he => ?_
                          refine stepQSkip rfl rfl rfl rfl he rfl fun a he => ?_
                          refine stepQSkip rfl rfl rfl rfl he rfl fun a he => ?_
                          refine stepQSkip rfl rfl rfl rfl he rfl fun a he => ?_
                          refine stepQG rfl rfl rfl rfl he (fun w h => p_pickF h rfl rfl) rfl fun a he => ?_
                          refine stepQ he (fun w h => p_pickF h rfl rfl) rfl fun a he => ?_
                          refine stepQEnd he fun w h => ?_
                          have h := h.bool_of (t := 116) (b' := decide (((t.head = false) ∧ ((cmpB ((kidAt t.kids i).key) t.key : Int) ≤ 0)) ∨ (((0 : Int) < ((i : Nat) : Int)) ∧ ((0 : Int) ≤ cmpB ((kidAt t.kids i).key) ((kidAt t.kids (i - 1)).key))))) rfl (by first | (simp [hb22, hb26]; done) | grind)
                          exact th_n (h.to rfl ⟨rfl, (look_int rfl (by first | rfl | omega)), (look_int rfl (by first | rfl | omega)), rfl, rfl, (look_int rfl (by first | rfl | omega)), (look_int rfl (by first | rfl | omega)), rfl, trivial⟩)
                    · intro a w h
                      refine c_cond rfl h (fun hc28 => ?_) (fun hc28 => ?_)
                      · skip
                        refine c_seq ?_
                        refine c_region ?_
                        refine stepP (p_assign h rfl) h rfl fun a w h => ?_
                        refine stepEnd ?_
                        refine th_n ?_
                        refine c_ret (th_r (bl_r (th_r (th_r (bl_r (th_r ?_))))))
                        exact fin1 (.inl rfl) h rfl rfl ⟨by rw [validP_kids hnb (kids_not hi2 (fun kk => (kidOk_ref.1 kk).2.2.1 hc28))], h.own.none.weaken hle⟩
                      · skip
                        refine c_skip ?_
                        refine th_n ?_
                        refine c_seq ?_
                        refine c_cut (fun a w => St S hf2 ([(b14, row 29 (((kidAt t.kids i).at (vkAt x.kvs i)).cells))]) 137 [(1, ptr b1 0), (3, .int .i64 t.top), (4, .int .u64 ((cntN (base t.head) (t.kids.take i) : Nat) : Int)), (6, ptr b14 0), (44, x.kids), (45, .int .i64 ((t.kids.length : Nat) : Int)), (46, .int .i64 ((i : Nat) : Int)), (131, .bool (decide ((((((kidAt t.kids i).cnt : Int) : Int) = 0) ∨ ((4611686018427387904 : Int) < ((kidAt t.kids i).cnt : Int))) ∨ ((((4611686018427387904 - (kidAt t.kids i).cnt : Nat) : Int) : Int) < ((cntN (base t.head) (t.kids.take i) : Nat) : Int)))))] a w) ?_ ?_
                        · skip
                          refine c_region ?_
                          refine stepP (p_fieldAddr (r := 2) Tryd.underlying29 rfl Tryd.sizeOf23 rfl rfl h rfl) h rfl fun a w h => ?_
                          refine stepP (p_load (v := .int .u64 ((kidAt t.kids i).cnt : Int)) Tryd.isAgg23 h rfl (Cel.own (k := 0) rfl rfl)) h rfl fun a w h => ?_
                          refine stepP (p_eql h rfl rfl) h rfl fun a w h => ?_
                          refine stepP (p_move h rfl) h rfl fun a w h => ?_
                          rcases Decidable.em ((((kidAt t.kids i).cnt : Int) : Int) = 0) with hb29 | hb29
                          · have h := h.bool_of (t := 120) (b' := true) rfl (decide_eq_true hb29)
                            refine stepSkip rfl rfl rfl rfl h rfl fun a w h => ?_
                            refine stepSkip rfl rfl rfl rfl h rfl fun a w h => ?_
                            refine stepSkip rfl rfl rfl rfl h rfl fun a w h => ?_
                            refine stepP (p_pickT h rfl rfl) h rfl fun a w h => ?_
                            refine stepP (p_move h rfl) h rfl fun a w h => ?_
                            refine stepSkip rfl rfl rfl rfl h rfl fun a w h => ?_
                            refine stepSkip rfl rfl rfl rfl h rfl fun a w h => ?_
                            refine stepSkip rfl rfl rfl rfl h rfl fun a w h => ?_
                            refine stepSkip rfl rfl rfl rfl h rfl fun a w h => ?_
                            refine stepSkip rfl rfl rfl rfl h rfl fun a w h => ?_
                            refine stepP (p_pickT h rfl rfl) h rfl fun a w h => ?_
                            refine stepEnd ?_
                            have h := h.bool_of (t := 131) (b' := decide ((((((kidAt t.kids i).cnt : Int) : Int) = 0) ∨ ((4611686018427387904 : Int) < ((kidAt t.kids i).cnt : Int))) ∨ ((((4611686018427387904 - (kidAt t.kids i).cnt : Nat) : Int) : Int) < ((cntN (base t.head) (t.kids.take i) : Nat) : Int)))) rfl (by first | (simp [hb29]; done) | grind)
                            exact th_n (h.to rfl ⟨rfl, (look_int rfl (by first | rfl | omega)), (look_int rfl (by first | rfl | omega)), rfl, rfl, (look_int rfl (by first | rfl | omega)), (look_int rfl (by first | rfl | omega)), rfl, trivial⟩)
                          · have h := h.bool_of (t := 120) (b' := false) rfl (decide_eq_false hb29)
                            refine stepGP rfl rfl rfl rfl (p_fieldAddr (r := 2) Tryd.underlying29 rfl Tryd.sizeOf23 rfl rfl h rfl) h rfl fun a w h => ?_
                            refine stepGP rfl rfl rfl rfl (p_load (v := .int .u64 ((kidAt t.kids i).cnt : Int)) Tryd.isAgg23 h rfl (Cel.own (k := 0) rfl rfl)) h rfl fun a w h => ?_
                            refine stepGP rfl rfl rfl rfl (p_gtr h rfl rfl) h rfl fun a w h => ?_
                            refine stepP (p_pickF h rfl rfl) h rfl fun a w h => ?_
                            refine stepP (p_move h rfl) h rfl fun a w h => ?_
                            rcases Decidable.em ((4611686018427387904 : Int) < ((kidAt t.kids i).cnt : Int)) with hb30 | hb30
                            · have h := h.bool_of (t := 125) (b' := true) rfl (decide_eq_true hb30)
                              refine stepSkip rfl rfl rfl rfl h rfl fun a w h => ?_
                              refine stepSkip rfl rfl rfl rfl h rfl fun a w h => ?_
                              refine stepSkip rfl rfl rfl rfl h rfl fun a w h => ?_
                              refine stepSkip rfl rfl rfl rfl h rfl fun a w h => ?_
                              refine stepSkip rfl rfl rfl rfl h rfl fun a w h => ?_
                              refine stepP (p_pickT h rfl rfl) h rfl fun a w h => ?_
                              refine stepEnd ?_
                              have h := h.bool_of (t := 131) (b' := decide ((((((kidAt t.kids i).cnt : Int) : Int) = 0) ∨ ((4611686018427387904 : Int) < ((kidAt t.kids i).cnt : Int))) ∨ ((((4611686018427387904 - (kidAt t.kids i).cnt : Nat) : Int) : Int) < ((cntN (base t.head) (t.kids.take i) : Nat) : Int)))) rfl (by first | (simp [hb29, hb30]; done) | grind)
                              exact th_n (h.to rfl ⟨rfl, (look_int rfl (by first | rfl | omega)), (look_int rfl (by first | rfl | omega)), rfl, rfl, (look_int rfl (by first | rfl | omega)), (look_int rfl (by first | rfl | omega)), rfl, trivial⟩)
                            · have h := h.bool_of (t := 125) (b' := false) rfl (decide_eq_false hb30)
                              refine stepGP rfl rfl rfl rfl (p_move h rfl) h rfl fun a w h => ?_
                              refine stepGP rfl rfl rfl rfl (p_fieldAddr (r := 2) Tryd.underlying29 rfl Tryd.sizeOf23 rfl rfl h rfl) h rfl fun a w h => ?_
                              refine stepGP rfl rfl rfl rfl (p_load (v := .int .u64 ((kidAt t.kids i).cnt : Int)) Tryd.isAgg23 h rfl (Cel.own (k := 0) rfl rfl)) h rfl fun a w h => ?_
                              refine stepGP rfl rfl rfl rfl (p_sub (r := ((4611686018427387904 - (kidAt t.kids i).cnt : Nat) : Int)) h rfl rfl ((wu64 (by omega)).trans (by omega))) h rfl fun a w h => ?_
                              refine stepGP rfl rfl rfl rfl (p_gtr h rfl rfl) h rfl fun a w h => ?_
                              refine stepP (p_pickF h rfl rfl) h rfl fun a w h => ?_
                              refine stepEnd ?_
                              have h := h.bool_of (t := 131) (b' := decide ((((((kidAt t.kids i).cnt : Int) : Int) = 0) ∨ ((4611686018427387904 : Int) < ((kidAt t.kids i).cnt : Int))) ∨ ((((4611686018427387904 - (kidAt t.kids i).cnt : Nat) : Int) : Int) < ((cntN (base t.head) (t.kids.take i) : Nat) : Int)))) rfl (by first | (simp [hb29, hb30]; done) | grind)
                              exact th_n (h.to rfl ⟨rfl, (look_int rfl (by first | rfl | omega)), (look_int rfl (by first | rfl | omega)), rfl, rfl, (look_int rfl (by first | rfl | omega)), (look_int rfl (by first | rfl | omega)), rfl, trivial⟩)
                        · intro a w h
                          refine c_cond rfl h (fun hc31 => ?_) (fun hc31 => ?_)
                          · skip
                            refine c_seq ?_
                            refine c_region ?_
                            refine stepP (p_assign h rfl) h rfl fun a w h => ?_
                            refine stepEnd ?_
                            refine th_n ?_
                            refine c_ret (th_r (bl_r (th_r (th_r (bl_r (th_r ?_))))))
                            exact fin1 (.inl rfl) h rfl rfl ⟨by rw [validP_kids hnb (kids_not hi2 (fun kk => (kidOk_ref.1 kk).2.2.2 hc31))], h.own.none.weaken hle⟩
                          · skip
                            refine c_skip ?_
                            refine th_n ?_
                            have hkid : kidOk t i := kidOk_ref.2 ⟨hc19, hc21, hc28, hc31⟩
                            refine c_region ?_
                            refine stepP (p_move h rfl) h rfl fun a w h => ?_
                            refine stepP (p_fieldAddr (r := 2) Tryd.underlying29 rfl Tryd.sizeOf23 rfl rfl h rfl) h rfl fun a w h => ?_
                            refine stepP (p_load (v := .int .u64 ((kidAt t.kids i).cnt : Int)) Tryd.isAgg23 h rfl (Cel.own (k := 0) rfl rfl)) h rfl fun a w h => ?_
                            refine stepP (p_add (r := ((cntN (base t.head) (t.kids.take (i + 1)) : Nat) : Int)) h rfl rfl (u64_addN _ _ _ (cntN_at _ hi2))) h rfl fun a w h => ?_
                            refine stepP (p_assign h rfl) h rfl fun a w h => ?_
                            refine stepEnd ?_
                            refine bl_n ?_
                            refine th_n ?_
                            replace h := h.drop (List.nil_sublist _)
                            refine c_region ?_
                            refine stepP (p_add h rfl rfl (wi (by omega))) h rfl fun a w h => ?_
                            refine stepP (p_move h rfl) h rfl fun a w h => ?_
                            refine stepEnd ?_
                            exact th_n ⟨_, by omega, i + 1, rfl, by omega, all_succ hok hkid, h.to rfl ⟨rfl, (look_int rfl (by first | rfl | omega)), (look_int rfl (by first | rfl | omega)), rfl, (look_int rfl (by first | rfl | omega)), (look_int rfl (by first | rfl | omega)), trivial⟩⟩
          · skip
            refine c_exit (th_e (th_e (exit_at ?_)))
            refine th_n ?_
            refine c_seq ?_
            refine c_region ?_
            refine stepP (p_assign h rfl) h rfl fun a w h => ?_
            refine stepEnd ?_
            refine th_n ?_
            refine c_ret ?_
            exact fin1 (.inl rfl) h rfl rfl ⟨by rw [validP_ok hnb (by omega) (show kidsOk t from fun j hj => hok j (by omega))], h.own.none.weaken hle⟩

end Go.Proofs.YtkklgmhmhhbjkaaDoor
