/-
  WHAT EACH CALL COMES TO: heights of keys. Printed by the own generator (wip/gen), one law of the own library for each operation.
-/
import Derived.Test.YtkklgmhmhhbjkaaDoorKitO
import Derived.Test.YtkklgmhmhhbjkaaDoorProg
import Derived.Test.YtkklgmhmhhbjkaaDoorFnA
import Derived.Test.YtkklgmhmhhbjkaaDoorFnShc
import Derived.Test.YtkklgmhmhhbjkaaDoorFnShd
namespace Go.Proofs.YtkklgmhmhhbjkaaDoor
open Go Go.Own Go.Proofs
set_option maxRecDepth 100000
set_option linter.unusedVariables false

theorem c_Len8 {S : World} {hf : Hp} {w : World} (ho : Owns S hf [] w) {x : UInt8} :
    Calls Tryd.prog 82 [.int .u8 (x.toNat : Int)].toArray w (RetV S hf [] (.int .i64 ((len8 x : Nat) : Int))) := by
  have hlt := x.toNat_lt
  have hl8 := len8_le x
  refine enter (n := 6) (E := [(0, _)]) Tryd.func82 rfl Tryd.ntmps82 rfl rfl ho fun a h => ?_
  refine c_seq ?_
  refine c_region ?_
  refine stepP (p_assign h rfl) h rfl fun a w h => ?_
  refine stepEnd ?_
  refine th_n ?_
  refine c_seq ?_
  refine c_region ?_
  refine stepP (p_move h rfl) h rfl fun a w h => ?_
  refine stepP (p_indexStr (s := lenTab) Tryd.underlying9 h rfl rfl rfl (lenTab_at x)) h rfl fun a w h => ?_
  refine stepP (p_conv (r := ((len8 x : Nat) : Int)) Tryd.underlying5 Tryd.underlying3 h rfl (by rw [show (((UInt8.ofNat (len8 x)).toNat : Nat) : Int) = ((len8 x : Nat) : Int) by simp; omega]; exact wi (by omega))) h rfl fun a w h => ?_
  refine stepP (p_assign h rfl) h rfl fun a w h => ?_
  refine stepEnd ?_
  refine th_n ?_
  refine c_ret ?_
  exact fin1 (.inl rfl) h rfl rfl ⟨rfl, h.own⟩

theorem c_LeadingZeros8 {S : World} {hf : Hp} {w : World} (ho : Owns S hf [] w) {x : UInt8} :
    Calls Tryd.prog 72 [.int .u8 (x.toNat : Int)].toArray w (RetV S hf [] (.int .i64 ((lz8 x : Nat) : Int))) := by
  have hl8 := lz8_le x
  have hle8 : len8 x = 8 - lz8 x := rfl
  refine enter (n := 6) (E := [(0, _)]) Tryd.func72 rfl Tryd.ntmps72 rfl rfl ho fun a h => ?_
  refine c_seq ?_
  refine c_region ?_
  refine stepP (p_assign h rfl) h rfl fun a w h => ?_
  refine stepEnd ?_
  refine th_n ?_
  refine c_seq ?_
  refine c_region ?_
  refine stepP (p_move h rfl) h rfl fun a w h => ?_
  refine stepV (Enter.opT (o_call Tryd.call82 h rfl) (call_valA (c_Len8 h.own (x := x)))) h.env rfl fun a w h => ?_
  refine stepP (p_sub (r := ((lz8 x : Nat) : Int)) h rfl rfl ((wi (by omega)).trans (by omega))) h rfl fun a w h => ?_
  refine stepP (p_assign h rfl) h rfl fun a w h => ?_
  refine stepEnd ?_
  refine th_n ?_
  refine c_ret ?_
  exact fin1 (.inl rfl) h rfl rfl ⟨rfl, h.own⟩

theorem c_Zeros {S : World} {hf : Hp} {w : World} (ho : Owns S hf [] w) {s : List UInt8} (hs : s.length = 32) :
    Calls Tryd.prog 54 [sumV s].toArray w (RetV S hf [] (.int .i64 ((zerosB s : Nat) : Int))) := by
  have hz8 := zeros_le s
  refine enter (n := 18) (E := [(0, _)]) Tryd.func54 rfl Tryd.ntmps54 rfl rfl ho fun a h => ?_
  refine c_seq ?_
  refine c_region ?_
  refine stepO (o_box (l := s.map B) h rfl rfl) h.env rfl ?_
  rintro b1 _ a w h
  refine stepP (p_assign h rfl) h rfl fun a w h => ?_
  refine stepEnd ?_
  refine th_n ?_
  refine c_seq ?_
  refine c_seq ?_
  refine c_region ?_
  refine stepP (p_loadA (vs := s.map B) Tryd.isAgg25 (fun w => by rw [Tryd.sizeOf25]; simp [hs]) h rfl (Cels.all (k := 0) rfl)) h rfl fun a w h => ?_
  refine stepP (p_move h rfl) h rfl fun a w h => ?_
  refine stepEnd ?_
  replace h := h.drop (List.nil_sublist _)
  refine th_n ?_
  refine c_block ?_
  refine c_loop (fun m a w => ∃ (i : Nat), m = 32 - i ∧ i ≤ 32 ∧ (∀ j, j < i → s[j]? = some 0) ∧ St S hf [] 18 [(5, sumV s), (6, .int .i64 ((i : Nat) : Int))] a w) (N := 32 - 0) ⟨0, rfl, by omega, fun _ h => absurd h (Nat.not_lt_zero _), h.to rfl ⟨rfl, (look_int rfl (by first | rfl | omega)), trivial⟩⟩ ?_
  clear h
  rintro m a w ⟨i, rfl, hi, hz, h⟩
  refine c_seq ?_
  refine c_region ?_
  refine stepP (p_lss h rfl rfl) h rfl fun a w h => ?_
  refine stepEnd ?_
  refine th_n ?_
  refine c_seq ?_
  refine c_cond rfl h (fun hc2 => ?_) (fun hc2 => ?_)
  · skip
    refine c_skip ?_
    refine th_n ?_
    refine c_seq ?_
    refine c_block ?_
    refine c_seq ?_
    refine c_region ?_
    refine stepP (p_move h rfl) h rfl fun a w h => ?_
    have hj0 : i < s.length := by omega
    refine stepP (p_indexV Tryd.underlying25 Tryd.sizeOf5 Tryd.isAgg5 h rfl rfl rfl (by omega) (show (s.map B)[i]? = some (B s[i]) by simp [hj0])) h rfl fun a w h => ?_
    refine stepP (p_assign h rfl) h rfl fun a w h => ?_
    refine stepP (p_assign h rfl) h rfl fun a w h => ?_
    refine stepEnd ?_
    refine th_n ?_
    refine c_seq ?_
    refine c_region ?_
    refine stepP (p_move h rfl) h rfl fun a w h => ?_
    refine stepP (p_neq h rfl rfl) h rfl fun a w h => ?_
    refine stepEnd ?_
    refine th_n ?_
    refine c_cond rfl h (fun hc3 => ?_) (fun hc3 => ?_)
    · skip
      refine c_seq ?_
      have hze := zeros_here s hj0 hz (fun e => hc3 (by rw [e]; rfl))
      refine c_region ?_
      refine stepP (p_move h rfl) h rfl fun a w h => ?_
      refine stepP (p_mul h rfl rfl (wi (by omega))) h rfl fun a w h => ?_
      refine stepP (p_move h rfl) h rfl fun a w h => ?_
      refine stepV (Enter.opT (o_call Tryd.call72 h rfl) (call_valA (c_LeadingZeros8 h.own (x := (s[i]'hj0))))) h.env rfl fun a w h => ?_
      refine stepP (p_add h rfl rfl (wi (by omega))) h rfl fun a w h => ?_
      refine stepP (p_assign h rfl) h rfl fun a w h => ?_
      refine stepEnd ?_
      refine th_n ?_
      refine c_ret (bl_r (th_r (th_r (bl_r (th_r ?_)))))
      exact fin1 (.inl rfl) h rfl rfl ⟨by rw [show (8 * ((i : Nat) : Int)) + (((lz8 (s[i]'hj0)) : Nat) : Int) = ((zerosB s : Nat) : Int) by rw [hze]; omega], h.own⟩
    · skip
      refine c_skip ?_
      refine bl_n ?_
      refine th_n ?_
      refine c_region ?_
      refine stepP (p_add h rfl rfl (wi (by omega))) h rfl fun a w h => ?_
      refine stepP (p_move h rfl) h rfl fun a w h => ?_
      refine stepEnd ?_
      exact th_n ⟨_, by omega, i + 1, rfl, by omega, zeros_next hj0 hz hc3, h.to rfl ⟨rfl, (look_int rfl (by first | rfl | omega)), trivial⟩⟩
  · skip
    refine c_exit (th_e (th_e (exit_at ?_)))
    refine th_n ?_
    refine c_seq ?_
    have hze := zeros_all s (fun j hj => hz j (by omega))
    refine c_region ?_
    refine stepP (p_assign h rfl) h rfl fun a w h => ?_
    refine stepEnd ?_
    refine th_n ?_
    refine c_ret ?_
    exact fin1 (.inl rfl) h rfl rfl ⟨by rw [show 256 = ((zerosB s : Nat) : Int) by rw [hze]; omega], h.own⟩

theorem c_nHeight {S : World} {hf : Hp} {w : World} (ho : Owns S hf [] w) {v : Value} {l : List UInt8} (ht : TagsAt 0 hf) (hk : RoundsAt 3 hf) (hf1 : FirstAt 1 hf) (hv : Byts hf v l) (hb : l.length ≤ 140737488355200) :
    Calls Tryd.prog 23 [v].toArray w (RetV S hf [] (.int .i64 ((height l : Nat) : Int))) := by
  have hfl : ([[23], l] : List (List UInt8)).flatten = 23 :: l := by simp
  obtain ⟨av, cv, hve⟩ := hv.shape
  subst hve
  refine enter (n := 12) (E := [(0, _)]) Tryd.func23 rfl Tryd.ntmps23 rfl rfl ho fun a h => ?_
  refine c_seq ?_
  refine c_region ?_
  refine stepP (p_assign h rfl) h rfl fun a w h => ?_
  refine stepEnd ?_
  refine th_n ?_
  refine c_seq ?_
  refine c_region ?_
  refine stepP (p_indexAddrA1 (j := 4) (r := 0 + 4) Tryd.underlying81 Tryd.sizeOf5 h rfl rfl rfl (by omega) rfl) h rfl fun a w h => ?_
  refine stepP (p_load Tryd.isAgg5 h rfl ((ht 4 (by decide)).cel)) h rfl fun a w h => ?_
  refine stepO (o_buildSlice (vs := ([23] : List UInt8).map B) Tryd.underlying22 Tryd.sizeOf5 Tryd.zeroValue5 h rfl rfl (by simp [Value.cells]) rfl rfl rfl) h.env rfl ?_
  rintro b1 _ a w h
  refine stepP (p_move h rfl) h rfl fun a w h => ?_
  refine stepO (o_buildSlice (vs := [slc b1 0 1 1, (Value.slice av l.length cv)]) Tryd.underlying39 Tryd.sizeOf22 Tryd.zeroValue22 h rfl rfl (by simp [Value.cells]) rfl rfl rfl) h.env rfl ?_
  rintro b2 _ a w h
  obtain ⟨hf3, hlef3, hinf3, hbkf3, h⟩ := h.freeze
  replace ht := ht.mono hlef3
  replace hk := hk.mono hlef3
  replace hf1 := hf1.mono hlef3
  replace hv := hv.mono hlef3
  have hle := hlef3
  have ro4 : hf3 b2 = some (row 22 ([slc b1 0 1 1, (Value.slice av l.length cv)])) := hinf3 _ _ (List.mem_of_getElem? (i := 0) rfl)
  have ro5 : hf3 b1 = some (row 5 (([23] : List UInt8).map B)) := hinf3 _ _ (List.mem_of_getElem? (i := 1) rfl)
  have hby6 : Byts hf3 (slc b1 0 1 1) ([23] : List UInt8) := Byts.row ro5 (by (try simp) <;> omega) (by simp [List.take_of_length_le]) (by (try simp) <;> omega) (by first | assumption | (unfold maxLen; (try simp) <;> omega))
  have hsl := Sl.row (s := 1) (o := 0) (cap := 2) (n := 2) (cs := [slc b1 0 1 1, (Value.slice av l.length cv)]) ro4 rfl rfl (by decide) (by decide)
  have hbya : BytsAll _ [slc b1 0 1 1, (Value.slice av l.length cv)] [[23], l] := BytsAll.cons hby6 (BytsAll.cons hv BytsAll.nil)
  refine stepV (Enter.opT (o_call Tryd.call44 h rfl) (call_valA (c_dOf h.own (ls := [[23], l]) hsl hbya hk hf1 (by simp; omega)))) h.env rfl fun a w h => ?_
  refine stepV (Enter.opT (o_call Tryd.call54 h rfl) (call_valA (c_Zeros h.own (sha_length _)))) h.env rfl fun a w h => ?_
  refine stepP (p_add (r := ((1 + zerosB (sha (23 :: l)) : Nat) : Int)) h rfl rfl (by rw [hfl]; exact (wi (by have := zeros_le (sha (23 :: l)); rw [sha_length] at this; omega)).trans (by omega))) h rfl fun a w h => ?_
  refine stepP (p_minI (r := ((height l : Nat) : Int)) h rfl rfl (by unfold height; split <;> omega)) h rfl fun a w h => ?_
  refine stepP (p_assign h rfl) h rfl fun a w h => ?_
  refine stepEnd ?_
  refine th_n ?_
  refine c_ret ?_
  exact fin1 (.inl rfl) h rfl rfl ⟨rfl, h.own.weaken hle⟩

theorem c_rHeight {S : World} {hf : Hp} {w : World} (ho : Owns S hf [] w) {v : Value} {l : List UInt8} (hv : Byts hf v l) (hb : l.length ≤ 140737488355000) :
    Calls Tryd.prog 24 [v].toArray w (RetV S hf [] (.int .i64 ((height l : Nat) : Int))) := by
  refine enter (n := 35) (E := [(0, _)]) Tryd.func24 rfl Tryd.ntmps24 rfl rfl ho fun a h => ?_
  refine c_seq ?_
  refine c_region ?_
  refine stepP (p_assign h rfl) h rfl fun a w h => ?_
  refine stepEnd ?_
  refine th_n ?_
  refine c_seq ?_
  refine c_region ?_
  refine stepO (o_buildSlice (vs := ([23] : List UInt8).map B) Tryd.underlying22 Tryd.sizeOf5 Tryd.zeroValue5 h rfl rfl (by simp [Value.cells]) rfl rfl rfl) h.env rfl ?_
  rintro b1 _ a w h
  refine stepP (p_move h rfl) h rfl fun a w h => ?_
  refine stepO (o_appendK (kk := 0) (s := 1) (q := l.length) (xs := ([23]).map B) (rest := []) (news := l.map B) (ys := ([23] ++ l).map B) Tryd.underlying22 Tryd.type5 rfl rfl rfl (by decide) h rfl rfl (by simp) (by (try simp) <;> omega) (by (try simp) <;> omega) (by unfold maxLen; (try simp) <;> omega) (by (try simp) <;> omega) rfl hv.src (by (try simp) <;> omega) (oneB _) (by unfold maxLen; (try simp) <;> omega) (by show _ * 1 ≤ _; (try simp) <;> omega) (by simp)) h.env rfl ?_
  rintro ⟨b2, cap3, rest4⟩ ⟨hc5, hc6, hc7⟩ a w h
  refine stepP (p_assign h rfl) h rfl fun a w h => ?_
  refine stepEnd ?_
  obtain ⟨hf8, hlef8, hinf8, hbkf8, h⟩ := h.freeze
  replace hv := hv.mono hlef8
  have hle := hlef8
  have ro9 : hf8 b2 = some (row 5 (([23] ++ l).map B ++ rest4)) := hinf8 _ _ (List.mem_of_getElem? (i := 0) rfl)
  have hby10 : Byts hf8 (slc b2 0 (1 + l.length) cap3) (23 :: l) := Byts.row ro9 (by simp; omega) (by simp [List.take_of_length_le]) (by have := hc5; simp at this ⊢; omega) hc6
  have hby11 : Byts hf8 (slc b2 0 (1 + l.length) cap3) (23 :: l) := Byts.row ro9 (by simp; omega) (by simp [List.take_of_length_le]) (by have := hc5; simp at this ⊢; omega) hc6
  refine th_n ?_
  refine c_seq ?_
  refine c_region ?_
  refine stepP (p_move h rfl) h rfl fun a w h => ?_
  refine stepV (Enter.opT (o_call Tryd.call55 h rfl) (call_valA (c_rOf h.own hby10 (by simp; omega)))) h.env rfl fun a w h => ?_
  refine stepO (o_alloc (l := List.replicate 32 (.int .u8 0)) Tryd.zeroValue25 rfl h) h.env rfl ?_
  rintro b12 _ a w h
  refine stepN (o_storeA (kk := 0) (vs := (sha (23 :: l)).map B) (cs' := (sha (23 :: l)).map B) (fun w => by rw [Tryd.sizeOf25, (show ((sha (23 :: l)).map B).length = 32 by simp)]) h rfl rfl rfl (oneB _) rfl (by rw [(show ((sha (23 :: l)).map B).length = 32 by simp)]; simp) (by rw [(show ((sha (23 :: l)).map B).length = 32 by simp)]; simp [List.drop_of_length_le])) h.env fun a w h => ?_
  refine stepEnd ?_
  refine th_n ?_
  refine c_seq ?_
  refine c_region ?_
  refine stepP (p_assign h rfl) h rfl fun a w h => ?_
  refine stepEnd ?_
  refine th_n ?_
  refine c_seq ?_
  refine c_seq ?_
  refine c_region ?_
  refine stepP (p_assign h rfl) h rfl fun a w h => ?_
  refine stepEnd ?_
  refine th_n ?_
  refine c_block ?_
  refine c_loop (fun m a w => ∃ (i : Nat), m = 23 - i ∧ i ≤ 23 ∧ i ≤ zerosB (sha (23 :: l)) ∧ St S hf8 ([(b12, row 25 ((sha (23 :: l)).map B))]) 35 [(4, ptr b12 0), (5, .int .i64 (((i + 1) : Nat) : Int)), (6, .int .i64 ((i : Nat) : Int))] a w) (N := 23 - 0) ⟨0, rfl, by omega, Nat.zero_le _, h.to rfl ⟨rfl, (look_int rfl (by first | rfl | omega)), (look_int rfl (by first | rfl | omega)), trivial⟩⟩ ?_
  clear h
  rintro m a w ⟨i, rfl, hi, hz, h⟩
  refine c_seq ?_
  refine c_cut (fun a w => St S hf8 ([(b12, row 25 ((sha (23 :: l)).map B))]) 35 [(4, ptr b12 0), (5, .int .i64 (((i + 1) : Nat) : Int)), (6, .int .i64 ((i : Nat) : Int)), (17, .bool (decide (((((i : Nat) : Int) : Int) < 256) ∧ (((((i + 1) : Nat) : Int) : Int) < 24))))] a w) ?_ ?_
  · skip
    refine c_region ?_
    refine stepP (p_move h rfl) h rfl fun a w h => ?_
    refine stepP (p_lss h rfl rfl) h rfl fun a w h => ?_
    refine stepP (p_move h rfl) h rfl fun a w h => ?_
    rcases Decidable.em ((((i : Nat) : Int) : Int) < 256) with hb13 | hb13
    · have h := h.bool_of (t := 14) (b' := true) rfl (decide_eq_true hb13)
      refine stepGP rfl rfl rfl rfl (p_move h rfl) h rfl fun a w h => ?_
      refine stepGP rfl rfl rfl rfl (p_lss h rfl rfl) h rfl fun a w h => ?_
      refine stepP (p_pickT h rfl rfl) h rfl fun a w h => ?_
      refine stepEnd ?_
      have h := h.bool_of (t := 17) (b' := decide (((((i : Nat) : Int) : Int) < 256) ∧ (((((i + 1) : Nat) : Int) : Int) < 24))) rfl (by simp [hb13])
      exact th_n (h.to rfl ⟨rfl, (look_int rfl (by first | rfl | omega)), (look_int rfl (by first | rfl | omega)), rfl, trivial⟩)
    · have h := h.bool_of (t := 14) (b' := false) rfl (decide_eq_false hb13)
      refine stepSkip rfl rfl rfl rfl h rfl fun a w h => ?_
      refine stepSkip rfl rfl rfl rfl h rfl fun a w h => ?_
      refine stepP (p_pickF h rfl rfl) h rfl fun a w h => ?_
      refine stepEnd ?_
      have h := h.bool_of (t := 17) (b' := decide (((((i : Nat) : Int) : Int) < 256) ∧ (((((i + 1) : Nat) : Int) : Int) < 24))) rfl (by simp [hb13])
      exact th_n (h.to rfl ⟨rfl, (look_int rfl (by first | rfl | omega)), (look_int rfl (by first | rfl | omega)), rfl, trivial⟩)
  · intro a w h
    refine c_cond rfl h (fun hc14 => ?_) (fun hc14 => ?_)
    · skip
      refine c_skip ?_
      refine th_n ?_
      refine c_seq ?_
      refine c_block ?_
      refine c_seq ?_
      refine c_seq ?_
      have hi2 : i < 23 := by omega
      have hi8 : i / 8 < (sha (23 :: l)).length := by rw [sha_length]; omega
      obtain ⟨xb, hxb⟩ : ∃ xb, xb = (sha (23 :: l)).getD (i / 8) 0 := ⟨_, rfl⟩
      have hxlt := xb.toNat_lt
      have hq8 : xb.toNat / 2 ^ (7 - i % 8) < 256 := Nat.lt_of_le_of_lt (Nat.div_le_self _ _) hxlt
      refine c_region ?_
      refine stepP (p_move h rfl) h rfl fun a w h => ?_
      refine stepP (p_quo (r := ((i / 8 : Nat) : Int)) h rfl rfl (by decide) ((congrArg IntKind.i64.wrap (tdiv_nat i 8)).trans (wi (by omega)))) h rfl fun a w h => ?_
      refine stepP (p_indexAddrA1 (j := i / 8) (r := i / 8) Tryd.underlying25 Tryd.sizeOf5 h rfl rfl rfl (by omega) (by omega)) h rfl fun a w h => ?_
      refine stepP (p_load Tryd.isAgg5 h rfl (Cel.own (k := 0) rfl (hxb ▸ sumB_at hi8))) h rfl fun a w h => ?_
      refine stepP (p_move h rfl) h rfl fun a w h => ?_
      refine stepP (p_rem h rfl rfl (by decide) (tmod_nat i 8)) h rfl fun a w h => ?_
      refine stepP (p_sub (r := ((7 - i % 8 : Nat) : Int)) h rfl rfl ((wi (by omega)).trans (by omega))) h rfl fun a w h => ?_
      refine stepP (p_conv (r := ((7 - i % 8 : Nat) : Int)) Tryd.underlying3 Tryd.underlying83 h rfl (wu64 (by omega))) h rfl fun a w h => ?_
      refine stepP (p_shr h rfl rfl (by omega) (shr8 xb.toNat (7 - i % 8) _ rfl (by omega))) h rfl fun a w h => ?_
      refine stepP (p_and h rfl rfl (u8_and1 _ hq8)) h rfl fun a w h => ?_
      have hbit : (((xb.toNat / 2 ^ (7 - i % 8) % 2 : Nat) : Int) = 1) = (bitB (sha (23 :: l)) i = 1) := propext (by subst hxb; exact ⟨fun h => Int.ofNat.inj h, fun h => congrArg Int.ofNat h⟩)
      refine stepP (p_eql h rfl rfl) h rfl fun a w h => ?_
      have h := h.bool_of (t := 30) (b' := decide (bitB (sha (23 :: l)) i = 1)) rfl (by rw [decide_eq_decide, hbit])
      refine stepEnd ?_
      refine th_n ?_
      refine c_cond rfl h (fun hc15 => ?_) (fun hc15 => ?_)
      · skip
        refine c_seq ?_
        refine c_region ?_
        refine stepP (p_move h rfl) h rfl fun a w h => ?_
        refine stepP (p_assign h rfl) h rfl fun a w h => ?_
        refine stepEnd ?_
        refine th_n ?_
        refine c_ret (th_r (bl_r (th_r (th_r (bl_r (th_r ?_))))))
        exact fin1 (.inl rfl) h rfl rfl ⟨by rw [height_found hi2 hz hc15], h.own.none.weaken hle⟩
      · skip
        refine c_skip ?_
        refine th_n ?_
        refine c_region ?_
        refine stepP (p_move h rfl) h rfl fun a w h => ?_
        refine stepP (p_add h rfl rfl (wi (by omega))) h rfl fun a w h => ?_
        refine stepP (p_assign h rfl) h rfl fun a w h => ?_
        refine stepEnd ?_
        refine bl_n ?_
        refine th_n ?_
        refine c_region ?_
        refine stepP (p_move h rfl) h rfl fun a w h => ?_
        refine stepP (p_add h rfl rfl (wi (by omega))) h rfl fun a w h => ?_
        refine stepP (p_assign h rfl) h rfl fun a w h => ?_
        refine stepEnd ?_
        exact th_n ⟨_, by omega, i + 1, rfl, by omega, height_more hi2 hz hc15, h.to rfl ⟨rfl, (look_int rfl (by first | rfl | omega)), (look_int rfl (by first | rfl | omega)), trivial⟩⟩
    · skip
      refine c_exit (th_e (th_e (exit_at ?_)))
      refine th_n ?_
      refine c_seq ?_
      refine c_region ?_
      refine stepP (p_move h rfl) h rfl fun a w h => ?_
      refine stepP (p_assign h rfl) h rfl fun a w h => ?_
      refine stepEnd ?_
      refine th_n ?_
      refine c_ret ?_
      have hi23 : i = 23 := by omega
      subst hi23
      exact fin1 (.inl rfl) h rfl rfl ⟨by rw [height_full hz], h.own.none.weaken hle⟩

end Go.Proofs.YtkklgmhmhhbjkaaDoor
