/-
  WHAT EACH CALL COMES TO: the reference's texts. Printed by the own generator (wip/gen), one law of the own library for each operation.
-/
import Derived.Test.YtkklgmhmhhbjkaaDoorKitG
import Derived.Test.YtkklgmhmhhbjkaaDoorProg
import Derived.Test.YtkklgmhmhhbjkaaDoorFnA
namespace Go.Proofs.YtkklgmhmhhbjkaaDoor
open Go Go.Own Go.Proofs
set_option maxRecDepth 100000
set_option linter.unusedVariables false

theorem c_RFixed {S : World} {hf : Hp} {w : World} (ho : Owns S hf [] w) {q k : Nat} (hq : q < 18446744073709551616) (hk : k ≤ 1000) :
    Calls Tryd.prog 53 [.int .u64 (q : Int), .int .i64 (k : Int)].toArray w (Ret S hf (fun b : Nat => slc b 0 k k) (fun b => [(b, row 5 ((fixed q k).map B))]) (fun _ => True)) := by
  refine enter (n := 24) (E := [(0, _), (1, _)]) Tryd.func53 rfl Tryd.ntmps53 rfl rfl ho fun a h => ?_
  refine c_seq ?_
  refine c_region ?_
  refine stepP (p_assign h rfl) h rfl fun a w h => ?_
  refine stepEnd ?_
  refine th_n ?_
  refine c_seq ?_
  refine c_region ?_
  refine stepP (p_move h rfl) h rfl fun a w h => ?_
  refine stepO (o_make (l := k) Tryd.underlying22 Tryd.type5 rfl rfl rfl h rfl rfl (by omega) (by omega) (by show 1 * _ ≤ _; omega) (by unfold maxLen; omega)) h.env rfl ?_
  rintro b1 _ a w h
  refine stepP (p_assign h rfl) h rfl fun a w h => ?_
  refine stepEnd ?_
  refine th_n ?_
  refine c_seq ?_
  refine c_seq ?_
  refine c_region ?_
  refine stepP (p_move h rfl) h rfl fun a w h => ?_
  refine stepP (p_sub h rfl rfl (wi (by omega))) h rfl fun a w h => ?_
  refine stepP (p_assign h rfl) h rfl fun a w h => ?_
  refine stepEnd ?_
  refine th_n ?_
  refine c_block ?_
  have hq0 := dv_zero q
  refine c_loop (fun m a w => ∃ (j : Nat), m = k - j ∧ j ≤ k ∧ St S hf ([(b1, row 5 ((fixS q k j).map B))]) 24 [(0, .int .u64 ((dv q j : Nat) : Int)), (5, slc b1 0 k k), (6, .int .i64 ((k : Int) - 1 - (j : Int)))] a w) (N := k - 0) ⟨0, rfl, by omega, h.to (by rw [fixS_zero]) ⟨(look_int rfl (by first | rfl | omega)), rfl, (look_int rfl (by first | rfl | omega)), trivial⟩⟩ ?_
  clear h
  rintro m a w ⟨j, rfl, hj, h⟩
  have hqj := dv_le q j
  have hqs := dv_succ q j
  refine c_seq ?_
  refine c_seq ?_
  refine c_region ?_
  refine stepP (p_move h rfl) h rfl fun a w h => ?_
  refine stepP (p_geq h rfl rfl) h rfl fun a w h => ?_
  refine stepEnd ?_
  refine th_n ?_
  refine c_cond rfl h (fun hc2 => ?_) (fun hc2 => ?_)
  · skip
    refine c_skip ?_
    refine th_n ?_
    refine c_seq ?_
    refine c_block ?_
    refine c_seq ?_
    refine c_region ?_
    refine stepP (p_move h rfl) h rfl fun a w h => ?_
    refine stepP (p_move h rfl) h rfl fun a w h => ?_
    refine stepP (p_move h rfl) h rfl fun a w h => ?_
    refine stepP (p_rem (r := ((dv q j % 256 : Nat) : Int)) h rfl rfl (by decide) (by rw [Int.tmod_eq_emod_of_nonneg (by omega)]; rfl)) h rfl fun a w h => ?_
    refine stepP (p_conv (r := ((UInt8.ofNat (dv q j)).toNat : Int)) Tryd.underlying23 Tryd.underlying5 h rfl (by rw [wrap_u8_nat]; simp)) h rfl fun a w h => ?_
    refine stepP (p_indexAddr1 (j := k - 1 - j) (r := k - 1 - j) Tryd.underlying22 Tryd.sizeOf5 h rfl rfl (by omega) (by omega) (by omega)) h rfl fun a w h => ?_
    refine stepN (o_store (kk := 0) (cs' := (fixS q k (j + 1)).map B) Tryd.sizeOf5 h rfl rfl rfl rfl rfl (by simp [fixS_length, hj]; omega) (by rw [← fixS_stepd q k j (by omega), List.map_set])) h.env fun a w h => ?_
    refine stepEnd ?_
    refine th_n ?_
    refine c_region ?_
    refine stepP (p_move h rfl) h rfl fun a w h => ?_
    refine stepP (p_quo (r := ((dv q (j + 1) : Nat) : Int)) h rfl rfl (by decide) (by rw [Int.tdiv_eq_ediv_of_nonneg (by omega)]; rw [show ((dv q j : Nat) : Int) / 256 = ((dv q (j + 1) : Nat) : Int) from by omega]; exact wu64 (by omega))) h rfl fun a w h => ?_
    refine stepP (p_assign h rfl) h rfl fun a w h => ?_
    refine stepEnd ?_
    refine bl_n ?_
    refine th_n ?_
    refine c_region ?_
    refine stepP (p_move h rfl) h rfl fun a w h => ?_
    refine stepP (p_sub h rfl rfl (wi (by omega))) h rfl fun a w h => ?_
    refine stepP (p_assign h rfl) h rfl fun a w h => ?_
    refine stepEnd ?_
    exact th_n ⟨_, by omega, j + 1, rfl, by omega, h.to rfl ⟨(look_int rfl (by first | rfl | omega)), rfl, (look_int rfl (by first | rfl | omega)), trivial⟩⟩
  · skip
    refine c_exit (th_e (th_e (exit_at ?_)))
    refine th_n ?_
    refine c_seq ?_
    refine c_region ?_
    refine stepP (p_move h rfl) h rfl fun a w h => ?_
    refine stepP (p_assign h rfl) h rfl fun a w h => ?_
    refine stepEnd ?_
    refine th_n ?_
    refine c_ret ?_
    obtain rfl : j = k := by omega
    rw [fixS_all] at h
    exact fin1 (.inl rfl) h rfl rfl ⟨_, rfl, h.own, trivial⟩

theorem c_RLeafText {S : World} {hf : Hp} {w : World} (ho : Owns S hf [] w) {v : Value} {l s : List UInt8} (hv : Byts hf v l) (hs : s.length = 32) (hb : l.length ≤ 140737488355232) :
    Calls Tryd.prog 18 [v, sumV s].toArray w (Ret S hf (fun y : Nat × Nat × List Value => slc y.1 0 (leafText l s).length y.2.1) (fun y => [(y.1, row 5 ((leafText l s).map B ++ y.2.2))]) (fun y => (leafText l s).length ≤ y.2.1 ∧ y.2.1 ≤ maxLen)) := by
  refine enter (n := 20) (E := [(0, _), (1, _)]) Tryd.func18 rfl Tryd.ntmps18 rfl rfl ho fun a h => ?_
  refine c_seq ?_
  refine c_region ?_
  refine stepO (o_box (l := s.map B) h rfl rfl) h.env rfl ?_
  rintro b1 _ a w h
  refine stepP (p_assign h rfl) h rfl fun a w h => ?_
  refine stepEnd ?_
  refine th_n ?_
  refine c_seq ?_
  refine c_region ?_
  refine stepO (o_buildSlice Tryd.underlying22 Tryd.sizeOf5 Tryd.zeroValue5 h rfl rfl (by simp [Value.cells]) rfl rfl rfl) h.env rfl ?_
  rintro b2 _ a w h
  refine stepP (p_assign h rfl) h rfl fun a w h => ?_
  refine stepEnd ?_
  refine th_n ?_
  refine c_seq ?_
  refine c_region ?_
  refine stepP (p_move h rfl) h rfl fun a w h => ?_
  refine stepP (p_move h rfl) h rfl fun a w h => ?_
  refine stepP (p_lenB Tryd.underlying22 h rfl hv) h rfl fun a w h => ?_
  refine stepP (p_conv Tryd.underlying3 Tryd.underlying23 h rfl (wu64 (by omega))) h rfl fun a w h => ?_
  refine stepO (Enter.opT (o_call Tryd.call53 h rfl) (call_out0 h.own (c_RFixed h.own.lend0 (q := l.length) (k := 4) (by omega) (by omega)))) h.env rfl ?_
  rintro b3 _ a w h
  refine stepO (o_appendK (kk := 1) (s := 1) (q := 4) (xs := ([17]).map B) (rest := []) (news := (fixed (l.length) 4).map B) (ys := ([17] ++ (fixed (l.length) 4)).map B) Tryd.underlying22 Tryd.type5 rfl rfl rfl (by decide) h rfl rfl (by simp) (by (try simp) <;> omega) (by (try simp) <;> omega) (by unfold maxLen; (try simp) <;> omega) (by (try simp) <;> omega) rfl (.inr ⟨_, _, _, rfl, Cels.own (k := 0) rfl (by simp [List.take_of_length_le])⟩) (by (try simp) <;> omega) (oneB _) (by unfold maxLen; (try simp) <;> omega) (by show _ * 1 ≤ _; (try simp) <;> omega) (by simp)) h.env rfl ?_
  rintro ⟨b4, cap5, rest6⟩ ⟨hc7, hc8, hc9⟩ a w h
  refine stepP (p_assign h rfl) h rfl fun a w h => ?_
  refine stepEnd ?_
  refine th_n ?_
  refine c_seq ?_
  refine c_region ?_
  refine stepP (p_move h rfl) h rfl fun a w h => ?_
  refine stepP (p_move h rfl) h rfl fun a w h => ?_
  refine stepO (o_appendK (kk := 1) (s := 1) (q := l.length) (xs := ([17] ++ (fixed (l.length) 4)).map B) (rest := rest6) (news := l.map B) (ys := ([17] ++ (fixed (l.length) 4) ++ l).map B) Tryd.underlying22 Tryd.type5 rfl rfl rfl (by decide) h rfl rfl (by simp) (by (try simp) <;> omega) (by first | exact hc7 | (simpa using hc7) | ((try simp) <;> omega)) (by first | exact hc8 | (simpa using hc8) | ((try simp) <;> omega)) (by first | exact hc9 | (simpa using hc9) | ((try simp) <;> omega)) rfl hv.src (by (try simp) <;> omega) (oneB _) (by unfold maxLen; (try simp) <;> omega) (by show _ * 1 ≤ _; (try simp) <;> omega) (by simp)) h.env rfl ?_
  rintro ⟨b10, cap11, rest12⟩ ⟨hc13, hc14, hc15⟩ a w h
  refine stepP (p_assign h rfl) h rfl fun a w h => ?_
  refine stepEnd ?_
  refine th_n ?_
  refine c_seq ?_
  refine c_region ?_
  refine stepP (p_move h rfl) h rfl fun a w h => ?_
  refine stepP (p_sliceArr Tryd.underlying25 Tryd.sizeOf5 h rfl) h rfl fun a w h => ?_
  refine stepO (o_appendK (kk := 1) (s := 1) (q := 32) (xs := ([17] ++ (fixed (l.length) 4) ++ l).map B) (rest := rest12) (news := s.map B) (ys := ([17] ++ (fixed (l.length) 4) ++ l ++ s).map B) Tryd.underlying22 Tryd.type5 rfl rfl rfl (by decide) h rfl rfl (by simp) (by (try simp) <;> omega) (by first | exact hc13 | (simpa using hc13) | ((try simp) <;> omega)) (by first | exact hc14 | (simpa using hc14) | ((try simp) <;> omega)) (by first | exact hc15 | (simpa using hc15) | ((try simp) <;> omega)) rfl (.inr ⟨_, _, _, rfl, Cels.own (k := 2) rfl (by simp [List.take_of_length_le])⟩) (by (try simp) <;> omega) (oneB _) (by unfold maxLen; (try simp) <;> omega) (by show _ * 1 ≤ _; (try simp) <;> omega) (by simp)) h.env rfl ?_
  rintro ⟨b16, cap17, rest18⟩ ⟨hc19, hc20, hc21⟩ a w h
  refine stepP (p_assign h rfl) h rfl fun a w h => ?_
  refine stepEnd ?_
  refine th_n ?_
  refine c_seq ?_
  refine c_region ?_
  refine stepP (p_move h rfl) h rfl fun a w h => ?_
  refine stepP (p_assign h rfl) h rfl fun a w h => ?_
  refine stepEnd ?_
  refine th_n ?_
  refine c_ret ?_
  have hfin : [17] ++ (fixed (l.length) 4) ++ l ++ s = leafText l s := by simp [leafText, fixed4, hs]
  have hlen : (leafText l s).length = 1 + 4 + l.length + 32 := by simp [leafText, fixed4, hs] <;> omega
  rw [← hfin, hfin, hlen]
  rw [hfin] at h
  exact fin1 (.inl rfl) h rfl rfl ⟨(b16, cap17, rest18), rfl, h.own.sub (List.singleton_sublist.2 (by simp)), by omega, hc20⟩

theorem c_RHeadText {S : World} {hf : Hp} {w : World} (ho : Owns S hf [] w)  :
    Calls Tryd.prog 20 ([] : List Value).toArray w (Ret S hf (fun y : Nat × Nat × List Value => slc y.1 0 headText.length y.2.1) (fun y => [(y.1, row 5 (headText.map B ++ y.2.2))]) (fun y => headText.length ≤ y.2.1 ∧ y.2.1 ≤ maxLen)) := by
  refine enter (n := 2) (E := []) Tryd.func20 rfl Tryd.ntmps20 rfl rfl ho fun a h => ?_
  refine c_seq ?_
  refine c_region ?_
  refine stepP (p_assign h rfl) h rfl fun a w h => ?_
  refine stepEnd ?_
  refine th_n ?_
  refine c_seq ?_
  refine c_region ?_
  refine stepO (o_buildSlice Tryd.underlying22 Tryd.sizeOf5 Tryd.zeroValue5 h rfl rfl (by simp [Value.cells]) rfl rfl rfl) h.env rfl ?_
  rintro b1 _ a w h
  refine stepP (p_assign h rfl) h rfl fun a w h => ?_
  refine stepEnd ?_
  refine th_n ?_
  refine c_ret ?_
  exact fin1 (.inl rfl) h rfl rfl ⟨(b1, 1, []), rfl, h.own, by simp [headText], by show 1 ≤ maxLen; unfold maxLen; omega⟩

theorem c_RRootText {S : World} {hf : Hp} {w : World} (ho : Owns S hf [] w) {q : Nat} {s : List UInt8} (hq : q < 18446744073709551616) (hs : s.length = 32) :
    Calls Tryd.prog 21 [.int .u64 (q : Int), sumV s].toArray w (Ret S hf (fun y : Nat × Nat × List Value => slc y.1 0 (rootText q s).length y.2.1) (fun y => [(y.1, row 5 ((rootText q s).map B ++ y.2.2))]) (fun y => (rootText q s).length ≤ y.2.1 ∧ y.2.1 ≤ maxLen)) := by
  refine enter (n := 15) (E := [(0, _), (1, _)]) Tryd.func21 rfl Tryd.ntmps21 rfl rfl ho fun a h => ?_
  refine c_seq ?_
  refine c_region ?_
  refine stepO (o_box (l := s.map B) h rfl rfl) h.env rfl ?_
  rintro b1 _ a w h
  refine stepP (p_assign h rfl) h rfl fun a w h => ?_
  refine stepEnd ?_
  refine th_n ?_
  refine c_seq ?_
  refine c_region ?_
  refine stepO (o_buildSlice Tryd.underlying22 Tryd.sizeOf5 Tryd.zeroValue5 h rfl rfl (by simp [Value.cells]) rfl rfl rfl) h.env rfl ?_
  rintro b2 _ a w h
  refine stepP (p_assign h rfl) h rfl fun a w h => ?_
  refine stepEnd ?_
  refine th_n ?_
  refine c_seq ?_
  refine c_region ?_
  refine stepP (p_move h rfl) h rfl fun a w h => ?_
  refine stepP (p_move h rfl) h rfl fun a w h => ?_
  refine stepO (Enter.opT (o_call Tryd.call53 h rfl) (call_out0 h.own (c_RFixed h.own.lend0 (q := q) (k := 8) (by omega) (by omega)))) h.env rfl ?_
  rintro b3 _ a w h
  refine stepO (o_appendK (kk := 1) (s := 1) (q := 8) (xs := ([20]).map B) (rest := []) (news := (fixed (q) 8).map B) (ys := ([20] ++ (fixed (q) 8)).map B) Tryd.underlying22 Tryd.type5 rfl rfl rfl (by decide) h rfl rfl (by simp) (by (try simp) <;> omega) (by (try simp) <;> omega) (by unfold maxLen; (try simp) <;> omega) (by (try simp) <;> omega) rfl (.inr ⟨_, _, _, rfl, Cels.own (k := 0) rfl (by simp [List.take_of_length_le])⟩) (by (try simp) <;> omega) (oneB _) (by unfold maxLen; (try simp) <;> omega) (by show _ * 1 ≤ _; (try simp) <;> omega) (by simp)) h.env rfl ?_
  rintro ⟨b4, cap5, rest6⟩ ⟨hc7, hc8, hc9⟩ a w h
  refine stepP (p_assign h rfl) h rfl fun a w h => ?_
  refine stepEnd ?_
  refine th_n ?_
  refine c_seq ?_
  refine c_region ?_
  refine stepP (p_move h rfl) h rfl fun a w h => ?_
  refine stepP (p_sliceArr Tryd.underlying25 Tryd.sizeOf5 h rfl) h rfl fun a w h => ?_
  refine stepO (o_appendK (kk := 1) (s := 1) (q := 32) (xs := ([20] ++ (fixed (q) 8)).map B) (rest := rest6) (news := s.map B) (ys := ([20] ++ (fixed (q) 8) ++ s).map B) Tryd.underlying22 Tryd.type5 rfl rfl rfl (by decide) h rfl rfl (by simp) (by (try simp) <;> omega) (by first | exact hc7 | (simpa using hc7) | ((try simp) <;> omega)) (by first | exact hc8 | (simpa using hc8) | ((try simp) <;> omega)) (by first | exact hc9 | (simpa using hc9) | ((try simp) <;> omega)) rfl (.inr ⟨_, _, _, rfl, Cels.own (k := 2) rfl (by simp [List.take_of_length_le])⟩) (by (try simp) <;> omega) (oneB _) (by unfold maxLen; (try simp) <;> omega) (by show _ * 1 ≤ _; (try simp) <;> omega) (by simp)) h.env rfl ?_
  rintro ⟨b10, cap11, rest12⟩ ⟨hc13, hc14, hc15⟩ a w h
  refine stepP (p_assign h rfl) h rfl fun a w h => ?_
  refine stepEnd ?_
  refine th_n ?_
  refine c_seq ?_
  refine c_region ?_
  refine stepP (p_move h rfl) h rfl fun a w h => ?_
  refine stepP (p_assign h rfl) h rfl fun a w h => ?_
  refine stepEnd ?_
  refine th_n ?_
  refine c_ret ?_
  have hfin : [20] ++ (fixed (q) 8) ++ s = rootText q s := by simp [rootText, fixed8, hs]
  have hlen : (rootText q s).length = 1 + 8 + 32 := by simp [rootText, fixed8, hs] <;> omega
  rw [← hfin, hfin, hlen]
  rw [hfin] at h
  exact fin1 (.inl rfl) h rfl rfl ⟨(b10, cap11, rest12), rfl, h.own.sub (List.singleton_sublist.2 (by simp)), by omega, hc14⟩

theorem c_RPairText {S : World} {hf : Hp} {w : World} (ho : Owns S hf [] w) {k : KidV} {kb s : List UInt8} (hk : k.Ok hf kb) (hs : s.length = 32) (hb : kb.length ≤ 140737488355232) :
    Calls Tryd.prog 19 [k.val, sumV s].toArray w (Ret S hf (fun y : Nat × Nat × List Value => slc y.1 0 (pairText k.lvl kb k.cnt k.label s).length y.2.1) (fun y => [(y.1, row 5 ((pairText k.lvl kb k.cnt k.label s).map B ++ y.2.2))]) (fun y => (pairText k.lvl kb k.cnt k.label s).length ≤ y.2.1 ∧ y.2.1 ≤ maxLen)) := by
  refine enter (n := 36) (E := [(0, _), (1, _)]) Tryd.func19 rfl Tryd.ntmps19 rfl rfl ho fun a h => ?_
  have hs1 := hk.label
  have hs2 := hk.cnt
  refine c_seq ?_
  refine c_region ?_
  refine stepO (o_box (l := k.cells) h rfl rfl) h.env rfl ?_
  rintro b1 _ a w h
  refine stepO (o_box (l := s.map B) h rfl rfl) h.env rfl ?_
  rintro b2 _ a w h
  refine stepP (p_assign h rfl) h rfl fun a w h => ?_
  refine stepEnd ?_
  refine th_n ?_
  refine c_seq ?_
  refine c_region ?_
  refine stepP (p_fieldAddr (r := 36) Tryd.underlying29 rfl Tryd.sizeOf25 rfl rfl h rfl) h rfl fun a w h => ?_
  refine stepP (p_loadA (vs := k.label.map B) Tryd.isAgg25 (fun w => by rw [Tryd.sizeOf25]; simp [hk.label]) h rfl (Cels.memPart (T := 29) (cs := k.cells) (by simp) hk.labelAt)) h rfl fun a w h => ?_
  refine stepO (o_alloc (l := List.replicate 32 (.int .u8 0)) Tryd.zeroValue25 rfl h) h.env rfl ?_
  rintro b3 _ a w h
  refine stepN (o_storeA (kk := 0) (vs := k.label.map B) (cs' := k.label.map B) (fun w => by rw [Tryd.sizeOf25]; simp [hk.label]) h rfl rfl rfl (oneB _) rfl (by simp [hk.label]) (by simp [hk.label])) h.env fun a w h => ?_
  refine stepEnd ?_
  refine th_n ?_
  refine c_seq ?_
  refine c_region ?_
  refine stepP (p_fieldAddr (r := 0) Tryd.underlying29 rfl Tryd.sizeOf3 rfl rfl h rfl) h rfl fun a w h => ?_
  refine stepP (p_load Tryd.isAgg3 h rfl (Cel.own (k := 2) (T := 29) rfl (cs := k.cells) rfl)) h rfl fun a w h => ?_
  refine stepP (p_conv (r := ((UInt8.ofNat (k.lvl % 256).toNat).toNat : Int)) Tryd.underlying3 Tryd.underlying5 h rfl (conv_u8 _)) h rfl fun a w h => ?_
  refine stepO (o_buildSlice (vs := ([19, UInt8.ofNat (k.lvl % 256).toNat] : List UInt8).map B) Tryd.underlying22 Tryd.sizeOf5 Tryd.zeroValue5 h rfl rfl (by simp [Value.cells]) rfl rfl rfl) h.env rfl ?_
  rintro b4 _ a w h
  refine stepP (p_assign h rfl) h rfl fun a w h => ?_
  refine stepEnd ?_
  refine th_n ?_
  refine c_seq ?_
  refine c_region ?_
  refine stepP (p_move h rfl) h rfl fun a w h => ?_
  refine stepP (p_fieldAddr (r := 2) Tryd.underlying29 rfl Tryd.sizeOf23 rfl rfl h rfl) h rfl fun a w h => ?_
  refine stepP (p_load Tryd.isAgg23 h rfl (Cel.own (k := 3) (T := 29) rfl (cs := k.cells) rfl)) h rfl fun a w h => ?_
  refine stepO (Enter.opT (o_call Tryd.call53 h rfl) (call_out0 h.own (c_RFixed h.own.lend0 (q := k.cnt) (k := 8) (by omega) (by omega)))) h.env rfl ?_
  rintro b5 _ a w h
  refine stepO (o_appendK (kk := 1) (s := 1) (q := 8) (xs := ([19, UInt8.ofNat (k.lvl % 256).toNat] : List UInt8).map B) (rest := []) (news := (fixed (k.cnt) 8).map B) (ys := (([19, UInt8.ofNat (k.lvl % 256).toNat] : List UInt8) ++ (fixed (k.cnt) 8)).map B) Tryd.underlying22 Tryd.type5 rfl rfl rfl (by decide) h rfl rfl (by simp) (by (try simp) <;> omega) (by (try simp) <;> omega) (by unfold maxLen; (try simp) <;> omega) (by (try simp) <;> omega) rfl (.inr ⟨_, _, _, rfl, Cels.own (k := 0) rfl (by simp [List.take_of_length_le])⟩) (by (try simp) <;> omega) (oneB _) (by unfold maxLen; (try simp) <;> omega) (by show _ * 1 ≤ _; (try simp) <;> omega) (by simp)) h.env rfl ?_
  rintro ⟨b6, cap7, rest8⟩ ⟨hc9, hc10, hc11⟩ a w h
  refine stepP (p_assign h rfl) h rfl fun a w h => ?_
  refine stepEnd ?_
  refine th_n ?_
  refine c_seq ?_
  refine c_region ?_
  refine stepP (p_move h rfl) h rfl fun a w h => ?_
  refine stepP (p_fieldAddr (r := 1) Tryd.underlying29 rfl Tryd.sizeOf22 rfl rfl h rfl) h rfl fun a w h => ?_
  refine stepP (p_load Tryd.isAgg22 h rfl (Cel.own (k := 4) (T := 29) rfl (cs := k.cells) rfl)) h rfl fun a w h => ?_
  refine stepP (p_lenB Tryd.underlying22 h rfl hk.key) h rfl fun a w h => ?_
  refine stepP (p_conv Tryd.underlying3 Tryd.underlying23 h rfl (wu64 (by omega))) h rfl fun a w h => ?_
  refine stepO (Enter.opT (o_call Tryd.call53 h rfl) (call_out0 h.own (c_RFixed h.own.lend0 (q := kb.length) (k := 4) (by omega) (by omega)))) h.env rfl ?_
  rintro b12 _ a w h
  refine stepO (o_appendK (kk := 2) (s := 1) (q := 4) (xs := (([19, UInt8.ofNat (k.lvl % 256).toNat] : List UInt8) ++ (fixed (k.cnt) 8)).map B) (rest := rest8) (news := (fixed (kb.length) 4).map B) (ys := (([19, UInt8.ofNat (k.lvl % 256).toNat] : List UInt8) ++ (fixed (k.cnt) 8) ++ (fixed (kb.length) 4)).map B) Tryd.underlying22 Tryd.type5 rfl rfl rfl (by decide) h rfl rfl (by simp) (by (try simp) <;> omega) (by first | exact hc9 | (simpa using hc9) | ((try simp) <;> omega)) (by first | exact hc10 | (simpa using hc10) | ((try simp) <;> omega)) (by first | exact hc11 | (simpa using hc11) | ((try simp) <;> omega)) rfl (.inr ⟨_, _, _, rfl, Cels.own (k := 0) rfl (by simp [List.take_of_length_le])⟩) (by (try simp) <;> omega) (oneB _) (by unfold maxLen; (try simp) <;> omega) (by show _ * 1 ≤ _; (try simp) <;> omega) (by simp)) h.env rfl ?_
  rintro ⟨b13, cap14, rest15⟩ ⟨hc16, hc17, hc18⟩ a w h
  refine stepP (p_assign h rfl) h rfl fun a w h => ?_
  refine stepEnd ?_
  refine th_n ?_
  refine c_seq ?_
  refine c_region ?_
  refine stepP (p_move h rfl) h rfl fun a w h => ?_
  refine stepP (p_fieldAddr (r := 1) Tryd.underlying29 rfl Tryd.sizeOf22 rfl rfl h rfl) h rfl fun a w h => ?_
  refine stepP (p_load Tryd.isAgg22 h rfl (Cel.own (k := 5) (T := 29) rfl (cs := k.cells) rfl)) h rfl fun a w h => ?_
  refine stepO (o_appendK (kk := 2) (s := 1) (q := kb.length) (xs := (([19, UInt8.ofNat (k.lvl % 256).toNat] : List UInt8) ++ (fixed (k.cnt) 8) ++ (fixed (kb.length) 4)).map B) (rest := rest15) (news := kb.map B) (ys := (([19, UInt8.ofNat (k.lvl % 256).toNat] : List UInt8) ++ (fixed (k.cnt) 8) ++ (fixed (kb.length) 4) ++ kb).map B) Tryd.underlying22 Tryd.type5 rfl rfl rfl (by decide) h rfl rfl (by simp) (by (try simp) <;> omega) (by first | exact hc16 | (simpa using hc16) | ((try simp) <;> omega)) (by first | exact hc17 | (simpa using hc17) | ((try simp) <;> omega)) (by first | exact hc18 | (simpa using hc18) | ((try simp) <;> omega)) rfl hk.key.src (by (try simp) <;> omega) (oneB _) (by unfold maxLen; (try simp) <;> omega) (by show _ * 1 ≤ _; (try simp) <;> omega) (by simp)) h.env rfl ?_
  rintro ⟨b19, cap20, rest21⟩ ⟨hc22, hc23, hc24⟩ a w h
  refine stepP (p_assign h rfl) h rfl fun a w h => ?_
  refine stepEnd ?_
  refine th_n ?_
  refine c_seq ?_
  refine c_region ?_
  refine stepP (p_move h rfl) h rfl fun a w h => ?_
  refine stepP (p_sliceArr Tryd.underlying25 Tryd.sizeOf5 h rfl) h rfl fun a w h => ?_
  refine stepO (o_appendK (kk := 2) (s := 1) (q := 32) (xs := (([19, UInt8.ofNat (k.lvl % 256).toNat] : List UInt8) ++ (fixed (k.cnt) 8) ++ (fixed (kb.length) 4) ++ kb).map B) (rest := rest21) (news := s.map B) (ys := (([19, UInt8.ofNat (k.lvl % 256).toNat] : List UInt8) ++ (fixed (k.cnt) 8) ++ (fixed (kb.length) 4) ++ kb ++ s).map B) Tryd.underlying22 Tryd.type5 rfl rfl rfl (by decide) h rfl rfl (by simp) (by (try simp) <;> omega) (by first | exact hc22 | (simpa using hc22) | ((try simp) <;> omega)) (by first | exact hc23 | (simpa using hc23) | ((try simp) <;> omega)) (by first | exact hc24 | (simpa using hc24) | ((try simp) <;> omega)) rfl (.inr ⟨_, _, _, rfl, Cels.own (k := 4) rfl (by simp [List.take_of_length_le])⟩) (by (try simp) <;> omega) (oneB _) (by unfold maxLen; (try simp) <;> omega) (by show _ * 1 ≤ _; (try simp) <;> omega) (by simp)) h.env rfl ?_
  rintro ⟨b25, cap26, rest27⟩ ⟨hc28, hc29, hc30⟩ a w h
  refine stepP (p_assign h rfl) h rfl fun a w h => ?_
  refine stepEnd ?_
  refine th_n ?_
  refine c_seq ?_
  refine c_region ?_
  refine stepP (p_move h rfl) h rfl fun a w h => ?_
  refine stepP (p_sliceArr Tryd.underlying25 Tryd.sizeOf5 h rfl) h rfl fun a w h => ?_
  refine stepO (o_appendK (kk := 2) (s := 1) (q := 32) (xs := (([19, UInt8.ofNat (k.lvl % 256).toNat] : List UInt8) ++ (fixed (k.cnt) 8) ++ (fixed (kb.length) 4) ++ kb ++ s).map B) (rest := rest27) (news := k.label.map B) (ys := (([19, UInt8.ofNat (k.lvl % 256).toNat] : List UInt8) ++ (fixed (k.cnt) 8) ++ (fixed (kb.length) 4) ++ kb ++ s ++ k.label).map B) Tryd.underlying22 Tryd.type5 rfl rfl rfl (by decide) h rfl rfl (by simp) (by (try simp) <;> omega) (by first | exact hc28 | (simpa using hc28) | ((try simp) <;> omega)) (by first | exact hc29 | (simpa using hc29) | ((try simp) <;> omega)) (by first | exact hc30 | (simpa using hc30) | ((try simp) <;> omega)) rfl (.inr ⟨_, _, _, rfl, Cels.own (k := 3) rfl (by simp [List.take_of_length_le])⟩) (by (try simp) <;> omega) (oneB _) (by unfold maxLen; (try simp) <;> omega) (by show _ * 1 ≤ _; (try simp) <;> omega) (by simp)) h.env rfl ?_
  rintro ⟨b31, cap32, rest33⟩ ⟨hc34, hc35, hc36⟩ a w h
  refine stepP (p_assign h rfl) h rfl fun a w h => ?_
  refine stepEnd ?_
  refine th_n ?_
  refine c_seq ?_
  refine c_region ?_
  refine stepP (p_move h rfl) h rfl fun a w h => ?_
  refine stepP (p_assign h rfl) h rfl fun a w h => ?_
  refine stepEnd ?_
  refine th_n ?_
  refine c_ret ?_
  have hfin : ([19, UInt8.ofNat (k.lvl % 256).toNat] : List UInt8) ++ (fixed (k.cnt) 8) ++ (fixed (kb.length) 4) ++ kb ++ s ++ k.label = pairText k.lvl kb k.cnt k.label s := by simp [pairText, fixed4, fixed8, hs, hs1]
  have hlen : (pairText k.lvl kb k.cnt k.label s).length = 2 + 8 + 4 + kb.length + 32 + 32 := by simp [pairText, fixed4, fixed8, hs, hs1] <;> omega
  rw [← hfin, hfin, hlen]
  rw [hfin] at h
  exact fin1 (.inl rfl) h rfl rfl ⟨(b31, cap32, rest33), rfl, h.own.sub (List.singleton_sublist.2 (by simp)), by omega, hc35⟩

end Go.Proofs.YtkklgmhmhhbjkaaDoor
