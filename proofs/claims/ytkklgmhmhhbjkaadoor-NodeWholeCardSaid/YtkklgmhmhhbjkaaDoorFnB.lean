/-
  WHAT EACH CALL COMES TO: the writer's methods and node's texts. Printed by the own generator (wip/gen), one law of the own library for each operation.
-/
import Derived.Test.YtkklgmhmhhbjkaaDoorKitG
import Derived.Test.YtkklgmhmhhbjkaaDoorProg
import Derived.Test.YtkklgmhmhhbjkaaDoorFnA
namespace Go.Proofs.YtkklgmhmhhbjkaaDoor
open Go Go.Own Go.Proofs
set_option maxRecDepth 100000
set_option linter.unusedVariables false

theorem c_WByte {S : World} {hf : Hp} {w : World} {p : Nat} {l : List UInt8} {L1 : Res} (hw : Wr 103 5 p l L1) (ho : Owns S hf L1 w) {u : Value} {x : UInt8} (hu : u = B x) (hb : l.length + 1 ≤ 140737488355328) :
    Calls Tryd.prog 50 [ptr p 0, u].toArray w (Ret S hf (fun _ : Res => .tuple #[]) (fun L => L) (fun L => Wr 103 5 p (l ++ [x]) L)) := by
  subst hu
  obtain ⟨v, Lv, rfl, hv⟩ := hw
  refine enter (n := 14) (E := [(0, _), (1, _)]) Tryd.func50 rfl Tryd.ntmps50 rfl rfl ho fun a h => ?_
  refine c_region ?_
  refine stepP (p_move h rfl) h rfl fun a w h => ?_
  refine stepP (p_move h rfl) h rfl fun a w h => ?_
  refine stepP (p_nilCheck h rfl) h rfl fun a w h => ?_
  refine stepP (p_fieldAddr (r := 0) Tryd.underlying103 rfl Tryd.sizeOf22 rfl rfl h rfl) h rfl fun a w h => ?_
  refine stepP (p_load Tryd.isAgg22 h rfl (Cel.own (k := 0) rfl rfl)) h rfl fun a w h => ?_
  refine stepP (p_move h rfl) h rfl fun a w h => ?_
  refine stepO (o_buildSlice Tryd.underlying22 Tryd.sizeOf5 Tryd.zeroValue5 h rfl rfl (by simp [Value.cells]) rfl rfl rfl) h.env rfl ?_
  rintro b1 _ a w h
  have h := h.perm (List.perm_append_comm (l₁ := [_, _]))
  refine stepO (o_append (Lv := Lv) (s := 1) (news := [B x]) Tryd.underlying22 Tryd.type5 rfl rfl rfl (by decide) h rfl hv rfl (.inr ⟨_, _, _, rfl, Cels.own (k := Lv.length) (b := b1) (cs := [B x]) (T := 5) (by simp) rfl⟩) rfl (oneB [x]) (by unfold maxLen; omega) (by show _ * 1 ≤ _; omega)) h.env rfl ?_
  rintro ⟨v3, Lv4⟩ hv5 a w h
  have h := h.perm (List.perm_append_comm (l₂ := [_, _]))
  refine stepP (p_nilCheck h rfl) h rfl fun a w h => ?_
  refine stepP (p_fieldAddr (r := 0) Tryd.underlying103 rfl Tryd.sizeOf22 rfl rfl h rfl) h rfl fun a w h => ?_
  obtain ⟨hq1, hq2⟩ := Vec.one ‹Vec _ _ _ (l.length + 1) _ _›
  refine stepN (o_store (kk := 1) Tryd.sizeOf22 h rfl rfl hq1 hq2 rfl (by simp) rfl) h.env fun a w h => ?_
  refine stepEnd ?_
  exact fin0 (.inr rfl) h rfl ⟨_, rfl, h.own.sub (List.sublist_cons_self _ _), ⟨_, _, rfl, Vec.cast ‹Vec _ _ _ (l.length + 1) _ _› (by simp) (by simp)⟩⟩

theorem c_WRaw {S : World} {hf : Hp} {w : World} {p : Nat} {l : List UInt8} {L1 : Res} (hw : Wr 103 5 p l L1) (ho : Owns S hf L1 w) {u : Value} {r : List UInt8} (hu : Byts hf u r) (hb : l.length + r.length ≤ 140737488355328) :
    Calls Tryd.prog 47 [ptr p 0, u].toArray w (Ret S hf (fun _ : Res => .tuple #[]) (fun L => L) (fun L => Wr 103 5 p (l ++ r) L)) := by
  obtain ⟨v, Lv, rfl, hv⟩ := hw
  refine enter (n := 13) (E := [(0, _), (1, _)]) Tryd.func47 rfl Tryd.ntmps47 rfl rfl ho fun a h => ?_
  refine c_region ?_
  refine stepP (p_move h rfl) h rfl fun a w h => ?_
  refine stepP (p_move h rfl) h rfl fun a w h => ?_
  refine stepP (p_nilCheck h rfl) h rfl fun a w h => ?_
  refine stepP (p_fieldAddr (r := 0) Tryd.underlying103 rfl Tryd.sizeOf22 rfl rfl h rfl) h rfl fun a w h => ?_
  refine stepP (p_load Tryd.isAgg22 h rfl (Cel.own (k := 0) rfl rfl)) h rfl fun a w h => ?_
  refine stepP (p_move h rfl) h rfl fun a w h => ?_
  have h := h.perm (List.perm_append_comm (l₁ := [_]))
  refine stepO (o_append (Lv := Lv) (s := 1) (news := r.map B) Tryd.underlying22 Tryd.type5 rfl rfl rfl (by decide) h rfl hv rfl hu.src (by simp) (oneB r) (by unfold maxLen; omega) (by show _ * 1 ≤ _; omega)) h.env rfl ?_
  rintro ⟨v1, Lv2⟩ hv3 a w h
  have h := h.perm (List.perm_append_comm (l₂ := [_]))
  refine stepP (p_nilCheck h rfl) h rfl fun a w h => ?_
  refine stepP (p_fieldAddr (r := 0) Tryd.underlying103 rfl Tryd.sizeOf22 rfl rfl h rfl) h rfl fun a w h => ?_
  obtain ⟨hq1, hq2⟩ := Vec.one ‹Vec _ _ _ (l.length + r.length) _ _›
  refine stepN (o_store (kk := 0) Tryd.sizeOf22 h rfl rfl hq1 hq2 rfl (by simp) rfl) h.env fun a w h => ?_
  refine stepEnd ?_
  exact fin0 (.inr rfl) h rfl ⟨_, rfl, h.own, ⟨_, _, rfl, Vec.cast ‹Vec _ _ _ (l.length + r.length) _ _› (by simp) (by simp)⟩⟩

theorem c_WWord {S : World} {hf : Hp} {w : World} {p : Nat} {l : List UInt8} {L1 : Res} (hw : Wr 103 5 p l L1) (ho : Owns S hf L1 w) {u : Value} {q : Nat} (hu : u = .int .u32 (q : Int)) (hb : l.length + 4 ≤ 140737488355328) :
    Calls Tryd.prog 46 [ptr p 0, u].toArray w (Ret S hf (fun _ : Res => .tuple #[]) (fun L => L) (fun L => Wr 103 5 p (l ++ word q) L)) := by
  subst hu
  refine enter (n := 15) (E := [(0, _), (1, _)]) Tryd.func46 rfl Tryd.ntmps46 rfl rfl ho fun a h => ?_
  refine c_seq ?_
  refine c_region ?_
  refine stepP (p_assign h rfl) h rfl fun a w h => ?_
  refine stepEnd ?_
  refine th_n ?_
  refine c_block ?_
  refine c_loop (fun m a w => ∃ (j : Nat) (Lj : Res), m = 4 - j ∧ j ≤ 4 ∧ Wr 103 5 p (l ++ w32 q j) Lj ∧ St S hf (Lj) 15 [(0, ptr p 0), (1, .int .u32 (q : Int)), (4, .int .i64 (24 - 8 * (j : Int)))] a w) (N := 4 - 0) ⟨0, L1, rfl, by omega, by simpa [w32] using hw, h.to rfl ⟨rfl, (look_int rfl (by first | rfl | omega)), (look_int rfl (by first | rfl | omega)), trivial⟩⟩ ?_
  clear h
  rintro m a w ⟨j, Lj, rfl, hj, hwj, h⟩
  refine c_seq ?_
  refine c_seq ?_
  refine c_region ?_
  refine stepP (p_move h rfl) h rfl fun a w h => ?_
  refine stepP (p_geq h rfl rfl) h rfl fun a w h => ?_
  refine stepEnd ?_
  refine th_n ?_
  refine c_cond rfl h (fun hc1 => ?_) (fun hc1 => ?_)
  · skip
    refine c_skip ?_
    refine th_n ?_
    refine c_seq ?_
    refine c_block ?_
    refine c_region ?_
    refine stepP (p_move h rfl) h rfl fun a w h => ?_
    refine stepP (p_move h rfl) h rfl fun a w h => ?_
    refine stepP (p_move h rfl) h rfl fun a w h => ?_
    refine stepP (p_shr h rfl rfl (by omega) rfl) h rfl fun a w h => ?_
    refine stepP (p_conv (r := ((UInt8.ofNat (q / 2 ^ (24 - 8 * j))).toNat : Int)) Tryd.underlying73 Tryd.underlying5 h rfl (by rw [show (min (24 - 8 * (j : Int)).toNat IntKind.u32.bits) = 24 - 8 * j from by simp [IntKind.bits] <;> omega]; exact conv_shr)) h rfl fun a w h => ?_
    refine stepO (Enter.opT (o_call Tryd.call50 h rfl) (call_outA (c_WByte hwj h.own rfl (by (try simp) <;> omega)))) h.env rfl ?_
    rintro Lw2 hw3 a w h
    refine stepEnd ?_
    refine bl_n ?_
    refine th_n ?_
    refine c_region ?_
    refine stepP (p_move h rfl) h rfl fun a w h => ?_
    refine stepP (p_sub h rfl rfl (wi (by omega))) h rfl fun a w h => ?_
    refine stepP (p_assign h rfl) h rfl fun a w h => ?_
    refine stepEnd ?_
    exact th_n ⟨_, by omega, j + 1, Lw2, rfl, by omega, by rw [w32_succ, ← List.append_assoc]; exact hw3, h.to rfl ⟨rfl, (look_int rfl (by first | rfl | omega)), (look_int rfl (by first | rfl | omega)), trivial⟩⟩
  · skip
    refine c_exit (th_e (th_e (exit_at ?_)))
    obtain rfl : j = 4 := by omega
    exact fin0 (.inr rfl) h rfl ⟨_, rfl, h.own, hwj⟩

theorem c_WLong {S : World} {hf : Hp} {w : World} {p : Nat} {l : List UInt8} {L1 : Res} (hw : Wr 103 5 p l L1) (ho : Owns S hf L1 w) {u : Value} {q : Nat} (hu : u = .int .u64 (q : Int)) (hq : q < 18446744073709551616) (hb : l.length + 8 ≤ 140737488355328) :
    Calls Tryd.prog 51 [ptr p 0, u].toArray w (Ret S hf (fun _ : Res => .tuple #[]) (fun L => L) (fun L => Wr 103 5 p (l ++ long q) L)) := by
  subst hu
  refine enter (n := 13) (E := [(0, _), (1, _)]) Tryd.func51 rfl Tryd.ntmps51 rfl rfl ho fun a h => ?_
  refine c_seq ?_
  refine c_region ?_
  refine stepP (p_move h rfl) h rfl fun a w h => ?_
  refine stepP (p_move h rfl) h rfl fun a w h => ?_
  refine stepP (p_shr h rfl rfl (by omega) rfl) h rfl fun a w h => ?_
  refine stepP (p_conv Tryd.underlying23 Tryd.underlying73 h rfl (r := ((q / 4294967296 : Nat) : Int)) (by rw [show (min (32 : Int).toNat IntKind.u64.bits) = 32 from rfl, fdiv_nat, wrap_u32_nat]; congr 1; omega)) h rfl fun a w h => ?_
  refine stepO (Enter.opT (o_call Tryd.call46 h rfl) (call_outA (c_WWord hw h.own rfl (by (try simp) <;> omega)))) h.env rfl ?_
  rintro Lw1 hw2 a w h
  refine stepEnd ?_
  refine th_n ?_
  refine c_region ?_
  refine stepP (p_move h rfl) h rfl fun a w h => ?_
  refine stepP (p_move h rfl) h rfl fun a w h => ?_
  refine stepP (p_conv Tryd.underlying23 Tryd.underlying73 h rfl (wrap_u32_nat q)) h rfl fun a w h => ?_
  refine stepO (Enter.opT (o_call Tryd.call46 h rfl) (call_outA (c_WWord hw2 h.own rfl (by (try simp) <;> omega)))) h.env rfl ?_
  rintro Lw3 hw4 a w h
  refine stepEnd ?_
  exact fin0 (.inr rfl) h rfl ⟨_, rfl, h.own, by simpa [long] using hw4⟩

theorem c_WSum {S : World} {hf : Hp} {w : World} {p : Nat} {l : List UInt8} {L1 : Res} (hw : Wr 103 5 p l L1) (ho : Owns S hf L1 w) {u : Value} {s : List UInt8} (hu : u = sumV s) (hs : s.length = 32) (hb : l.length + 32 ≤ 140737488355328) :
    Calls Tryd.prog 48 [ptr p 0, u].toArray w (Ret S hf (fun _ : Res => .tuple #[]) (fun L => L) (fun L => Wr 103 5 p (l ++ s) L)) := by
  subst hu
  refine enter (n := 7) (E := [(0, _), (1, _)]) Tryd.func48 rfl Tryd.ntmps48 rfl rfl ho fun a h => ?_
  refine c_seq ?_
  refine c_region ?_
  refine stepO (o_box (l := s.map B) h rfl rfl) h.env rfl ?_
  rintro b1 _ a w h
  refine stepEnd ?_
  refine th_n ?_
  refine c_region ?_
  refine stepP (p_move h rfl) h rfl fun a w h => ?_
  refine stepP (p_sliceArr Tryd.underlying25 Tryd.sizeOf5 h rfl) h rfl fun a w h => ?_
  have h := h.perm (L' := (L1 ++ ([(b1, row 25 (s.map B))]))) (List.perm_append_comm (l₁ := ([(b1, row 25 (s.map B))])) (l₂ := L1))
  refine stepO (Enter.opT (o_call Tryd.call47 h rfl) (call_out (L1 := L1) (L2 := ([(b1, row 25 (s.map B))])) h.own (c_WRaw hw (h.own.lend (L1 := L1) (L2 := ([(b1, row 25 (s.map B))]))) (Byts.row (l := s) (Owns.inL (L1 := L1) (k := 0) h.own rfl) (by (try simp) <;> omega) (by simp [List.take_of_length_le]) (by (try simp) <;> omega) (by unfold maxLen; (try simp) <;> omega)) (by (try simp) <;> omega)))) h.env rfl ?_
  rintro Lw2 hw3 a w h
  refine stepEnd ?_
  exact fin0 (.inr rfl) h rfl ⟨_, rfl, h.own.sub (List.sublist_append_left _ _), hw3⟩

theorem c_WBytes {S : World} {hf : Hp} {w : World} {p : Nat} {l : List UInt8} {L1 : Res} (hw : Wr 103 5 p l L1) (ho : Owns S hf L1 w) (hb : l.length ≤ 281474976710656) :
    Calls Tryd.prog 49 [ptr p 0].toArray w (Ret S hf (fun b : Nat => slc b 0 l.length l.length) (fun b => (b, row 5 (l.map B)) :: L1) (fun _ => True)) := by
  obtain ⟨v, Lv, rfl, hv⟩ := hw
  obtain ⟨va, vc, rfl⟩ := Vec.len hv
  refine enter (n := 17) (E := [(0, _)]) Tryd.func49 rfl Tryd.ntmps49 rfl rfl ho fun a h => ?_
  refine c_seq ?_
  refine c_region ?_
  refine stepP (p_assign h rfl) h rfl fun a w h => ?_
  refine stepEnd ?_
  refine th_n ?_
  refine c_seq ?_
  refine c_region ?_
  refine stepP (p_move h rfl) h rfl fun a w h => ?_
  refine stepP (p_nilCheck h rfl) h rfl fun a w h => ?_
  refine stepP (p_fieldAddr (r := 0) Tryd.underlying103 rfl Tryd.sizeOf22 rfl rfl h rfl) h rfl fun a w h => ?_
  refine stepP (p_load Tryd.isAgg22 h rfl (Cel.own (k := 0) rfl rfl)) h rfl fun a w h => ?_
  refine stepP (p_len Tryd.underlying22 h rfl) h rfl fun a w h => ?_
  refine stepO (o_make (l := l.length) Tryd.underlying22 Tryd.type5 rfl rfl rfl h rfl rfl (by omega) (by omega) (by show 1 * _ ≤ _; omega) (by unfold maxLen; omega)) h.env rfl ?_
  rintro b1 _ a w h
  refine stepP (p_assign h rfl) h rfl fun a w h => ?_
  refine stepEnd ?_
  refine th_n ?_
  refine c_seq ?_
  refine c_region ?_
  refine stepP (p_move h rfl) h rfl fun a w h => ?_
  refine stepP (p_move h rfl) h rfl fun a w h => ?_
  refine stepP (p_nilCheck h rfl) h rfl fun a w h => ?_
  refine stepP (p_fieldAddr (r := 0) Tryd.underlying103 rfl Tryd.sizeOf22 rfl rfl h rfl) h rfl fun a w h => ?_
  refine stepP (p_load Tryd.isAgg22 h rfl (Cel.own (k := 1) rfl rfl)) h rfl fun a w h => ?_
  refine stepV (o_copy (kk := 0) (news := l.map B) Tryd.underlying22 (by rw [show Tryd.prog.info? 5 = _ from Tryd.type5]; rfl) h rfl rfl rfl (Vec.srcR (L1 := [_, _]) hv) (by simp) (oneB l) (by simp) (cs' := l.map B) (by simp [List.take_of_length_le])) h.env rfl fun a w h => ?_
  refine stepEnd ?_
  refine th_n ?_
  refine c_seq ?_
  refine c_region ?_
  refine stepP (p_move h rfl) h rfl fun a w h => ?_
  refine stepP (p_assign h rfl) h rfl fun a w h => ?_
  refine stepEnd ?_
  refine th_n ?_
  refine c_ret ?_
  exact fin1 (.inl rfl) h rfl rfl ⟨_, rfl, h.own, trivial⟩

theorem c_begin {S : World} {hf : Hp} {w : World} (ho : Owns S hf [] w) (ht : TagsAt 0 hf) (i : Nat) (hi : i < 5) :
    Calls Tryd.prog 45 [.int .i64 (i : Int)].toArray w (Ret S hf (fun y : Nat × Res => ptr y.1 0) (fun y => y.2) (fun y => Wr 103 5 y.1 [tagB i] y.2)) := by
  refine enter (n := 12) (E := [(0, _)]) Tryd.func45 rfl Tryd.ntmps45 rfl rfl ho fun a h => ?_
  refine c_seq ?_
  refine c_region ?_
  refine stepP (p_assign h rfl) h rfl fun a w h => ?_
  refine stepEnd ?_
  refine th_n ?_
  refine c_seq ?_
  refine c_region ?_
  refine stepP (p_build (out := [nilS]) (pl := [(0, 1)]) Tryd.underlying103 Tryd.type103 rfl (by kernel_rfl) h rfl .nil) h rfl fun a w h => ?_
  refine stepO (o_box (l := [nilS]) h rfl rfl) h.env rfl ?_
  rintro b1 _ a w h
  refine stepP (p_assign h rfl) h rfl fun a w h => ?_
  refine stepEnd ?_
  refine th_n ?_
  refine c_seq ?_
  refine c_region ?_
  refine stepP (p_move h rfl) h rfl fun a w h => ?_
  refine stepP (p_move h rfl) h rfl fun a w h => ?_
  refine stepP (p_indexAddrA1 (j := i) (r := 0 + i) Tryd.underlying81 Tryd.sizeOf5 h rfl rfl rfl (by omega) rfl) h rfl fun a w h => ?_
  refine stepP (p_load Tryd.isAgg5 h rfl ((ht i hi).cel)) h rfl fun a w h => ?_
  have hw0 : Wr 103 5 b1 [] [(b1, row 103 [nilS])] := ⟨nilS, [], rfl, rfl, .inl ⟨rfl, rfl, rfl⟩⟩
  refine stepO (Enter.opT (o_call Tryd.call50 h rfl) (call_outA (c_WByte hw0 h.own rfl (by (try simp) <;> omega)))) h.env rfl ?_
  rintro Lw2 hw3 a w h
  refine stepEnd ?_
  refine th_n ?_
  refine c_seq ?_
  refine c_region ?_
  refine stepP (p_move h rfl) h rfl fun a w h => ?_
  refine stepP (p_assign h rfl) h rfl fun a w h => ?_
  refine stepEnd ?_
  refine th_n ?_
  refine c_ret ?_
  exact fin1 (.inl rfl) h rfl rfl ⟨(_, _), rfl, h.own, hw3⟩

theorem c_NLeafText {S : World} {hf : Hp} {w : World} (ho : Owns S hf [] w) (ht : TagsAt 0 hf) {v : Value} {l s : List UInt8} (hv : Byts hf v l) (hs : s.length = 32) (hb : l.length ≤ 140737488355232) :
    Calls Tryd.prog 11 [v, sumV s].toArray w (Ret S hf (fun b : Nat => slc b 0 (leafText l s).length (leafText l s).length) (fun b => [(b, row 5 ((leafText l s).map B))]) (fun _ => True)) := by
  refine enter (n := 20) (E := [(0, _), (1, _)]) Tryd.func11 rfl Tryd.ntmps11 rfl rfl ho fun a h => ?_
  refine c_seq ?_
  refine c_region ?_
  refine stepO (o_box (l := s.map B) h rfl rfl) h.env rfl ?_
  rintro b1 _ a w h
  refine stepP (p_assign h rfl) h rfl fun a w h => ?_
  refine stepEnd ?_
  refine th_n ?_
  refine c_seq ?_
  refine c_region ?_
  refine stepO (Enter.opT (o_call Tryd.call45 h rfl) (call_out0 h.own (c_begin h.own.lend0 (ht.mono h.own.le0) 0 (by omega)))) h.env rfl ?_
  rintro ⟨p2, Lw3⟩ hw4 a w h
  refine stepP (p_assign h rfl) h rfl fun a w h => ?_
  refine stepEnd ?_
  refine th_n ?_
  refine c_seq ?_
  refine c_region ?_
  refine stepP (p_move h rfl) h rfl fun a w h => ?_
  refine stepP (p_move h rfl) h rfl fun a w h => ?_
  refine stepP (p_lenB Tryd.underlying22 h rfl hv) h rfl fun a w h => ?_
  refine stepP (p_conv (r := ((l.length % 4294967296 : Nat) : Int)) Tryd.underlying3 Tryd.underlying73 h rfl (wrap_u32_nat _)) h rfl fun a w h => ?_
  refine stepO (Enter.opT (o_call Tryd.call46 h rfl) (call_out (L1 := Lw3) (L2 := ([(b1, row 25 (s.map B))])) h.own (c_WWord hw4 (h.own.lend (L1 := Lw3) (L2 := ([(b1, row 25 (s.map B))]))) rfl (by (try simp) <;> omega)))) h.env rfl ?_
  rintro Lw5 hw6 a w h
  refine stepEnd ?_
  refine th_n ?_
  refine c_seq ?_
  refine c_region ?_
  refine stepP (p_move h rfl) h rfl fun a w h => ?_
  refine stepP (p_move h rfl) h rfl fun a w h => ?_
  refine stepO (Enter.opT (o_call Tryd.call47 h rfl) (call_out (L1 := Lw5) (L2 := ([(b1, row 25 (s.map B))])) h.own (c_WRaw hw6 (h.own.lend (L1 := Lw5) (L2 := ([(b1, row 25 (s.map B))]))) (hv.mono (Owns.le_with (L1 := Lw5) h.own)) (by (try simp) <;> omega)))) h.env rfl ?_
  rintro Lw7 hw8 a w h
  refine stepEnd ?_
  refine th_n ?_
  refine c_seq ?_
  refine c_region ?_
  refine stepP (p_move h rfl) h rfl fun a w h => ?_
  refine stepP (p_loadA (vs := s.map B) Tryd.isAgg25 (fun w => by rw [Tryd.sizeOf25]; simp [hs]) h rfl (Cels.mem (T := 25) (cs := s.map B) (by simp))) h rfl fun a w h => ?_
  refine stepO (Enter.opT (o_call Tryd.call48 h rfl) (call_out (L1 := Lw7) (L2 := ([(b1, row 25 (s.map B))])) h.own (c_WSum hw8 (h.own.lend (L1 := Lw7) (L2 := ([(b1, row 25 (s.map B))]))) rfl hs (by (try simp) <;> omega)))) h.env rfl ?_
  rintro Lw9 hw10 a w h
  refine stepEnd ?_
  refine th_n ?_
  refine c_seq ?_
  refine c_region ?_
  refine stepP (p_move h rfl) h rfl fun a w h => ?_
  refine stepO (Enter.opT (o_call Tryd.call49 h rfl) (call_out (L1 := Lw9) (L2 := ([(b1, row 25 (s.map B))])) h.own (c_WBytes hw10 (h.own.lend (L1 := Lw9) (L2 := ([(b1, row 25 (s.map B))]))) (by (try simp) <;> omega)))) h.env rfl ?_
  rintro b11 _ a w h
  refine stepP (p_assign h rfl) h rfl fun a w h => ?_
  refine stepEnd ?_
  refine th_n ?_
  refine c_ret ?_
  have hfin : [tagB 0] ++ word (l.length % 4294967296) ++ l ++ s = leafText l s := by simp [leafText, tagB]
  rw [← hfin]
  exact fin1 (.inl rfl) h rfl rfl ⟨_, rfl, h.own.sub (List.singleton_sublist.2 (by simp)), trivial⟩

theorem c_NHeadText {S : World} {hf : Hp} {w : World} (ho : Owns S hf [] w) (ht : TagsAt 0 hf)  :
    Calls Tryd.prog 13 ([] : List Value).toArray w (Ret S hf (fun b : Nat => slc b 0 headText.length headText.length) (fun b => [(b, row 5 (headText.map B))]) (fun _ => True)) := by
  refine enter (n := 3) (E := []) Tryd.func13 rfl Tryd.ntmps13 rfl rfl ho fun a h => ?_
  refine c_seq ?_
  refine c_region ?_
  refine stepP (p_assign h rfl) h rfl fun a w h => ?_
  refine stepEnd ?_
  refine th_n ?_
  refine c_seq ?_
  refine c_region ?_
  refine stepO (Enter.opT (o_call Tryd.call45 h rfl) (call_outA (c_begin h.own ht 1 (by omega)))) h.env rfl ?_
  rintro ⟨p1, Lw2⟩ hw3 a w h
  refine stepO (Enter.opT (o_call Tryd.call49 h rfl) (call_outA (c_WBytes hw3 h.own (by (try simp) <;> omega)))) h.env rfl ?_
  rintro b4 _ a w h
  refine stepP (p_assign h rfl) h rfl fun a w h => ?_
  refine stepEnd ?_
  refine th_n ?_
  refine c_ret ?_
  have hfin : [tagB 1] = headText := by simp [headText, tagB]
  rw [← hfin]
  exact fin1 (.inl rfl) h rfl rfl ⟨_, rfl, h.own.sub (List.singleton_sublist.2 (by simp)), trivial⟩

theorem c_NRootText {S : World} {hf : Hp} {w : World} (ho : Owns S hf [] w) (ht : TagsAt 0 hf) {q : Nat} {s : List UInt8} (hq : q < 18446744073709551616) (hs : s.length = 32) :
    Calls Tryd.prog 14 [.int .u64 (q : Int), sumV s].toArray w (Ret S hf (fun b : Nat => slc b 0 (rootText q s).length (rootText q s).length) (fun b => [(b, row 5 ((rootText q s).map B))]) (fun _ => True)) := by
  refine enter (n := 15) (E := [(0, _), (1, _)]) Tryd.func14 rfl Tryd.ntmps14 rfl rfl ho fun a h => ?_
  refine c_seq ?_
  refine c_region ?_
  refine stepO (o_box (l := s.map B) h rfl rfl) h.env rfl ?_
  rintro b1 _ a w h
  refine stepP (p_assign h rfl) h rfl fun a w h => ?_
  refine stepEnd ?_
  refine th_n ?_
  refine c_seq ?_
  refine c_region ?_
  refine stepO (Enter.opT (o_call Tryd.call45 h rfl) (call_out0 h.own (c_begin h.own.lend0 (ht.mono h.own.le0) 3 (by omega)))) h.env rfl ?_
  rintro ⟨p2, Lw3⟩ hw4 a w h
  refine stepP (p_assign h rfl) h rfl fun a w h => ?_
  refine stepEnd ?_
  refine th_n ?_
  refine c_seq ?_
  refine c_region ?_
  refine stepP (p_move h rfl) h rfl fun a w h => ?_
  refine stepP (p_move h rfl) h rfl fun a w h => ?_
  refine stepO (Enter.opT (o_call Tryd.call51 h rfl) (call_out (L1 := Lw3) (L2 := ([(b1, row 25 (s.map B))])) h.own (c_WLong hw4 (h.own.lend (L1 := Lw3) (L2 := ([(b1, row 25 (s.map B))]))) rfl hq (by (try simp) <;> omega)))) h.env rfl ?_
  rintro Lw5 hw6 a w h
  refine stepEnd ?_
  refine th_n ?_
  refine c_seq ?_
  refine c_region ?_
  refine stepP (p_move h rfl) h rfl fun a w h => ?_
  refine stepP (p_loadA (vs := s.map B) Tryd.isAgg25 (fun w => by rw [Tryd.sizeOf25]; simp [hs]) h rfl (Cels.mem (T := 25) (cs := s.map B) (by simp))) h rfl fun a w h => ?_
  refine stepO (Enter.opT (o_call Tryd.call48 h rfl) (call_out (L1 := Lw5) (L2 := ([(b1, row 25 (s.map B))])) h.own (c_WSum hw6 (h.own.lend (L1 := Lw5) (L2 := ([(b1, row 25 (s.map B))]))) rfl hs (by (try simp) <;> omega)))) h.env rfl ?_
  rintro Lw7 hw8 a w h
  refine stepEnd ?_
  refine th_n ?_
  refine c_seq ?_
  refine c_region ?_
  refine stepP (p_move h rfl) h rfl fun a w h => ?_
  refine stepO (Enter.opT (o_call Tryd.call49 h rfl) (call_out (L1 := Lw7) (L2 := ([(b1, row 25 (s.map B))])) h.own (c_WBytes hw8 (h.own.lend (L1 := Lw7) (L2 := ([(b1, row 25 (s.map B))]))) (by (try simp) <;> omega)))) h.env rfl ?_
  rintro b9 _ a w h
  refine stepP (p_assign h rfl) h rfl fun a w h => ?_
  refine stepEnd ?_
  refine th_n ?_
  refine c_ret ?_
  have hfin : [tagB 3] ++ long (q) ++ s = rootText q s := by simp [rootText, tagB]
  rw [← hfin]
  exact fin1 (.inl rfl) h rfl rfl ⟨_, rfl, h.own.sub (List.singleton_sublist.2 (by simp)), trivial⟩

theorem c_NPairText {S : World} {hf : Hp} {w : World} (ho : Owns S hf [] w) (ht : TagsAt 0 hf) {k : KidV} {kb s : List UInt8} (hk : k.Ok hf kb) (hs : s.length = 32) (hb : kb.length ≤ 140737488355232) :
    Calls Tryd.prog 12 [k.val, sumV s].toArray w (Ret S hf (fun b : Nat => slc b 0 (pairText k.lvl kb k.cnt k.label s).length (pairText k.lvl kb k.cnt k.label s).length) (fun b => [(b, row 5 ((pairText k.lvl kb k.cnt k.label s).map B))]) (fun _ => True)) := by
  refine enter (n := 35) (E := [(0, _), (1, _)]) Tryd.func12 rfl Tryd.ntmps12 rfl rfl ho fun a h => ?_
  have hs1 := hk.label
  refine c_seq ?_
  refine c_region ?_
  refine stepO (o_box (l := k.cells) h rfl rfl) h.env rfl ?_
  rintro b1 _ a w h
  refine stepO (o_box (l := s.map B) h rfl rfl) h.env rfl ?_
  rintro b2 _ a w h
  refine stepP (p_assign h rfl) h rfl fun a w h => ?_
  refine stepEnd ?_
  refine th_n ?_
  refine c_seq ?_
  refine c_region ?_
  refine stepO (Enter.opT (o_call Tryd.call45 h rfl) (call_out0 h.own (c_begin h.own.lend0 (ht.mono h.own.le0) 2 (by omega)))) h.env rfl ?_
  rintro ⟨p3, Lw4⟩ hw5 a w h
  refine stepP (p_assign h rfl) h rfl fun a w h => ?_
  refine stepEnd ?_
  refine th_n ?_
  refine c_seq ?_
  refine c_region ?_
  refine stepP (p_move h rfl) h rfl fun a w h => ?_
  refine stepP (p_fieldAddr (r := 0) Tryd.underlying29 rfl Tryd.sizeOf3 rfl rfl h rfl) h rfl fun a w h => ?_
  refine stepP (p_load Tryd.isAgg3 h rfl (Cel.mem (T := 29) (b := b1) (by simp) (cs := k.cells) rfl)) h rfl fun a w h => ?_
  refine stepP (p_conv (r := ((UInt8.ofNat (k.lvl % 256).toNat).toNat : Int)) Tryd.underlying3 Tryd.underlying5 h rfl (conv_u8 _)) h rfl fun a w h => ?_
  refine stepO (Enter.opT (o_call Tryd.call50 h rfl) (call_out (L1 := Lw4) (L2 := ([(b2, row 25 (s.map B))] ++ ([(b1, row 29 k.cells)]))) h.own (c_WByte hw5 (h.own.lend (L1 := Lw4) (L2 := ([(b2, row 25 (s.map B))] ++ ([(b1, row 29 k.cells)])))) rfl (by (try simp) <;> omega)))) h.env rfl ?_
  rintro Lw6 hw7 a w h
  refine stepEnd ?_
  refine th_n ?_
  refine c_seq ?_
  refine c_region ?_
  refine stepP (p_move h rfl) h rfl fun a w h => ?_
  refine stepP (p_fieldAddr (r := 2) Tryd.underlying29 rfl Tryd.sizeOf23 rfl rfl h rfl) h rfl fun a w h => ?_
  refine stepP (p_load Tryd.isAgg23 h rfl (Cel.mem (T := 29) (b := b1) (by simp) (cs := k.cells) rfl)) h rfl fun a w h => ?_
  refine stepO (Enter.opT (o_call Tryd.call51 h rfl) (call_out (L1 := Lw6) (L2 := ([(b2, row 25 (s.map B))] ++ ([(b1, row 29 k.cells)]))) h.own (c_WLong hw7 (h.own.lend (L1 := Lw6) (L2 := ([(b2, row 25 (s.map B))] ++ ([(b1, row 29 k.cells)])))) rfl hk.cnt (by (try simp) <;> omega)))) h.env rfl ?_
  rintro Lw8 hw9 a w h
  refine stepEnd ?_
  refine th_n ?_
  refine c_seq ?_
  refine c_region ?_
  refine stepP (p_move h rfl) h rfl fun a w h => ?_
  refine stepP (p_fieldAddr (r := 1) Tryd.underlying29 rfl Tryd.sizeOf22 rfl rfl h rfl) h rfl fun a w h => ?_
  refine stepP (p_load Tryd.isAgg22 h rfl (Cel.mem (T := 29) (b := b1) (by simp) (cs := k.cells) rfl)) h rfl fun a w h => ?_
  refine stepP (p_lenB Tryd.underlying22 h rfl hk.key) h rfl fun a w h => ?_
  refine stepP (p_conv (r := ((kb.length % 4294967296 : Nat) : Int)) Tryd.underlying3 Tryd.underlying73 h rfl (wrap_u32_nat _)) h rfl fun a w h => ?_
  refine stepO (Enter.opT (o_call Tryd.call46 h rfl) (call_out (L1 := Lw8) (L2 := ([(b2, row 25 (s.map B))] ++ ([(b1, row 29 k.cells)]))) h.own (c_WWord hw9 (h.own.lend (L1 := Lw8) (L2 := ([(b2, row 25 (s.map B))] ++ ([(b1, row 29 k.cells)])))) rfl (by (try simp) <;> omega)))) h.env rfl ?_
  rintro Lw10 hw11 a w h
  refine stepEnd ?_
  refine th_n ?_
  refine c_seq ?_
  refine c_region ?_
  refine stepP (p_move h rfl) h rfl fun a w h => ?_
  refine stepP (p_fieldAddr (r := 1) Tryd.underlying29 rfl Tryd.sizeOf22 rfl rfl h rfl) h rfl fun a w h => ?_
  refine stepP (p_load Tryd.isAgg22 h rfl (Cel.mem (T := 29) (b := b1) (by simp) (cs := k.cells) rfl)) h rfl fun a w h => ?_
  refine stepO (Enter.opT (o_call Tryd.call47 h rfl) (call_out (L1 := Lw10) (L2 := ([(b2, row 25 (s.map B))] ++ ([(b1, row 29 k.cells)]))) h.own (c_WRaw hw11 (h.own.lend (L1 := Lw10) (L2 := ([(b2, row 25 (s.map B))] ++ ([(b1, row 29 k.cells)])))) (hk.key.mono (Owns.le_with (L1 := Lw10) h.own)) (by (try simp) <;> omega)))) h.env rfl ?_
  rintro Lw12 hw13 a w h
  refine stepEnd ?_
  refine th_n ?_
  refine c_seq ?_
  refine c_region ?_
  refine stepP (p_move h rfl) h rfl fun a w h => ?_
  refine stepP (p_loadA (vs := s.map B) Tryd.isAgg25 (fun w => by rw [Tryd.sizeOf25]; simp [hs]) h rfl (Cels.mem (T := 25) (cs := s.map B) (by simp))) h rfl fun a w h => ?_
  refine stepO (Enter.opT (o_call Tryd.call48 h rfl) (call_out (L1 := Lw12) (L2 := ([(b2, row 25 (s.map B))] ++ ([(b1, row 29 k.cells)]))) h.own (c_WSum hw13 (h.own.lend (L1 := Lw12) (L2 := ([(b2, row 25 (s.map B))] ++ ([(b1, row 29 k.cells)])))) rfl hs (by (try simp) <;> omega)))) h.env rfl ?_
  rintro Lw14 hw15 a w h
  refine stepEnd ?_
  refine th_n ?_
  refine c_seq ?_
  refine c_region ?_
  refine stepP (p_move h rfl) h rfl fun a w h => ?_
  refine stepP (p_fieldAddr (r := 36) Tryd.underlying29 rfl Tryd.sizeOf25 rfl rfl h rfl) h rfl fun a w h => ?_
  refine stepP (p_loadA (vs := k.label.map B) Tryd.isAgg25 (fun w => by rw [Tryd.sizeOf25]; simp [hk.label]) h rfl (Cels.memPart (T := 29) (cs := k.cells) (by simp) hk.labelAt)) h rfl fun a w h => ?_
  refine stepO (Enter.opT (o_call Tryd.call48 h rfl) (call_out (L1 := Lw14) (L2 := ([(b2, row 25 (s.map B))] ++ ([(b1, row 29 k.cells)]))) h.own (c_WSum hw15 (h.own.lend (L1 := Lw14) (L2 := ([(b2, row 25 (s.map B))] ++ ([(b1, row 29 k.cells)])))) rfl hk.label (by (try simp) <;> omega)))) h.env rfl ?_
  rintro Lw16 hw17 a w h
  refine stepEnd ?_
  refine th_n ?_
  refine c_seq ?_
  refine c_region ?_
  refine stepP (p_move h rfl) h rfl fun a w h => ?_
  refine stepO (Enter.opT (o_call Tryd.call49 h rfl) (call_out (L1 := Lw16) (L2 := ([(b2, row 25 (s.map B))] ++ ([(b1, row 29 k.cells)]))) h.own (c_WBytes hw17 (h.own.lend (L1 := Lw16) (L2 := ([(b2, row 25 (s.map B))] ++ ([(b1, row 29 k.cells)])))) (by (try simp) <;> omega)))) h.env rfl ?_
  rintro b18 _ a w h
  refine stepP (p_assign h rfl) h rfl fun a w h => ?_
  refine stepEnd ?_
  refine th_n ?_
  refine c_ret ?_
  have hfin : [tagB 2] ++ [UInt8.ofNat (k.lvl % 256).toNat] ++ long (k.cnt) ++ word (kb.length % 4294967296) ++ kb ++ s ++ k.label = pairText k.lvl kb k.cnt k.label s := by simp [pairText, tagB]
  rw [← hfin]
  exact fin1 (.inl rfl) h rfl rfl ⟨_, rfl, h.own.sub (List.singleton_sublist.2 (by simp)), trivial⟩

end Go.Proofs.YtkklgmhmhhbjkaaDoor
