/-
  WHAT EACH CALL COMES TO: digest, piece by piece. Printed by the own generator (wip/gen), one law of the own library for each operation.
-/
import Derived.Test.YtkklgmhmhhbjkaaDoorKitN
import Derived.Test.YtkklgmhmhhbjkaaDoorProg
import Derived.Test.YtkklgmhmhhbjkaaDoorFnA
import Derived.Test.YtkklgmhmhhbjkaaDoorFnSha
namespace Go.Proofs.YtkklgmhmhhbjkaaDoor
open Go Go.Own Go.Proofs
set_option maxRecDepth 100000
set_option linter.unusedVariables false

theorem c_dNew {S : World} {hf : Hp} {w : World} (ho : Owns S hf [] w) (hf1 : FirstAt 1 hf) :
    Calls Tryd.prog 69 ([] : List Value).toArray w (Ret S hf (fun b : Nat => ptr b 0) (fun b => [(b, row 116 (hashC s8init (List.replicate 64 0) 0))]) (fun _ => True)) := by
  refine enter (n := 4) (E := []) Tryd.func69 rfl Tryd.ntmps69 rfl rfl ho fun a h => ?_
  refine c_seq ?_
  refine c_region ?_
  refine stepP (p_assign h rfl) h rfl fun a w h => ?_
  refine stepEnd ?_
  refine th_n ?_
  refine c_seq ?_
  refine c_region ?_
  refine stepP (p_loadA (vs := s8init.list.map U) Tryd.isAgg107 (fun w => by rw [Tryd.sizeOf107]; rfl) h rfl hf1.cels) h rfl fun a w h => ?_
  refine stepP (p_build (pl := [(0, 8), (8, 64), (72, 1)]) (out := (hashC s8init (List.replicate 64 0) 0)) Tryd.underlying116 Tryd.type116 rfl rfl h rfl (FillR.cons rfl rfl rfl (by decide) (by kernel_rfl) FillR.nil)) h rfl fun a w h => ?_
  refine stepO (o_box (l := (hashC s8init (List.replicate 64 0) 0)) h rfl rfl) h.env rfl ?_
  rintro b1 _ a w h
  refine stepP (p_assign h rfl) h rfl fun a w h => ?_
  refine stepEnd ?_
  refine th_n ?_
  refine c_ret ?_
  exact fin1 (.inl rfl) h rfl rfl ⟨_, rfl, h.own, trivial⟩

set_option maxHeartbeats 1000000 in
theorem c_dWrite {S : World} {hf : Hp} {w : World} {b : Nat} {r p : List UInt8} {v : Value} {l : List UInt8} (ho : Owns S hf [(b, row 116 (hashC (shaN p (p.length / 64)) r p.length))] w) (hr : Taken p r) (hk : RoundsAt 3 hf) (hv : Byts hf v l) (hb : p.length + l.length ≤ 9223372036854775000) :
    Calls Tryd.prog 70 [ptr b 0, v].toArray w (Ret S hf (fun _ : List UInt8 => .tuple #[]) (fun r2 => [(b, row 116 (hashC (shaN (p ++ l) ((p ++ l).length / 64)) r2 (p ++ l).length))]) (fun r2 => Taken (p ++ l) r2)) := by
  obtain ⟨s0, hs0⟩ : ∃ s0, s0 = shaN p (p.length / 64) := ⟨_, rfl⟩
  rw [← hs0] at ho
  have hr64 := hr.1
  refine enter (n := 42) (E := [(0, _), (1, _)]) Tryd.func70 rfl Tryd.ntmps70 rfl rfl ho fun a h => ?_
  refine c_seq ?_
  refine c_region ?_
  refine stepP (p_move h rfl) h rfl fun a w h => ?_
  refine stepP (p_nilCheck h rfl) h rfl fun a w h => ?_
  refine stepP (p_fieldAddr (r := 72) Tryd.underlying116 rfl Tryd.sizeOf23 rfl rfl h rfl) h rfl fun a w h => ?_
  refine stepP (p_load Tryd.isAgg23 h rfl (Cel.own (k := 0) rfl (hashC_size _ _ _ hr64))) h rfl fun a w h => ?_
  refine stepP (p_rem h rfl rfl (by decide) (tmod_nat p.length 64)) h rfl fun a w h => ?_
  refine stepP (p_conv Tryd.underlying23 Tryd.underlying3 h rfl (wi (by omega))) h rfl fun a w h => ?_
  refine stepP (p_assign h rfl) h rfl fun a w h => ?_
  refine stepEnd ?_
  refine th_n ?_
  refine c_seq ?_
  refine c_region ?_
  refine stepP (p_move h rfl) h rfl fun a w h => ?_
  refine stepP (p_nilCheck h rfl) h rfl fun a w h => ?_
  refine stepP (p_fieldAddr (r := 72) Tryd.underlying116 rfl Tryd.sizeOf23 rfl rfl h rfl) h rfl fun a w h => ?_
  refine stepP (p_load Tryd.isAgg23 h rfl (Cel.own (k := 0) rfl (hashC_size _ _ _ hr64))) h rfl fun a w h => ?_
  refine stepP (p_move h rfl) h rfl fun a w h => ?_
  refine stepP (p_lenB Tryd.underlying22 h rfl hv) h rfl fun a w h => ?_
  refine stepP (p_conv Tryd.underlying3 Tryd.underlying23 h rfl (wu64 (by omega))) h rfl fun a w h => ?_
  refine stepP (p_add (r := ((p.length + l.length : Nat) : Int)) h rfl rfl ((wu64 (by omega)).trans (by omega))) h rfl fun a w h => ?_
  refine stepP (p_nilCheck h rfl) h rfl fun a w h => ?_
  refine stepP (p_fieldAddr (r := 72) Tryd.underlying116 rfl Tryd.sizeOf23 rfl rfl h rfl) h rfl fun a w h => ?_
  refine stepN (o_store (kk := 0) (cs' := hashC s0 r (p.length + l.length)) Tryd.sizeOf23 h rfl rfl rfl rfl rfl (by rw [hashC_length s0 r _ hr64]; decide) (by simp [hashC, S8.list, hr64, List.set_append])) h.env fun a w h => ?_
  refine stepEnd ?_
  refine th_n ?_
  refine c_block ?_
  refine c_loop (fun m a w => ∃ (c : Nat) (v2 : Value) (r2 : List UInt8) (s2 : S8), m = l.length - c ∧ c ≤ l.length ∧ Byts hf v2 (l.drop c) ∧ Taken (p ++ l.take c) r2 ∧ s2 = shaN (p ++ l.take c) ((p ++ l.take c).length / 64) ∧ St S hf ([(b, row 116 (hashC s2 r2 (p.length + l.length)))]) 42 [(0, ptr b 0), (1, v2), (4, .int .i64 ((((p.length + c) % 64) : Nat) : Int))] a w) (N := l.length - 0) ⟨0, v, r, s0, rfl, by omega, by simpa using hv, by simpa using hr, by simpa using hs0, h.to rfl ⟨rfl, rfl, (look_int rfl (by first | rfl | omega)), trivial⟩⟩ ?_
  clear h
  rintro m a w ⟨c, v2, r2, s2, rfl, hc, hv2, hr2, hs2, h⟩
  refine c_seq ?_
  refine c_seq ?_
  refine c_region ?_
  refine stepP (p_move h rfl) h rfl fun a w h => ?_
  refine stepP (p_lenB Tryd.underlying22 h rfl hv2) h rfl fun a w h => ?_
  refine stepP (p_gtr h rfl rfl) h rfl fun a w h => ?_
  refine stepEnd ?_
  refine th_n ?_
  refine c_cond rfl h (fun hc1 => ?_) (fun hc1 => ?_)
  · skip
    refine c_skip ?_
    refine th_n ?_
    refine c_block ?_
    refine c_seq ?_
    have hld : (l.drop c).length = l.length - c := by simp
    have hpl : (p ++ l.take c).length = p.length + c := by simp; omega
    obtain ⟨m0, hm0⟩ : ∃ m0, m0 = min (l.drop c).length (64 - ((p.length + c) % 64)) := ⟨_, rfl⟩
    obtain ⟨x, hx⟩ : ∃ x, x = (l.drop c).take m0 := ⟨_, rfl⟩
    have hxl : x.length = m0 := by rw [hx]; simp; omega
    have hm1 : 0 < m0 := by omega
    have hm2 : ((p.length + c) % 64) + m0 ≤ 64 := by omega
    have hm3 : m0 ≤ l.length - c := by omega
    have hpx : p ++ l.take (c + m0) = (p ++ l.take c) ++ x := by rw [hx, List.append_assoc, List.take_add]
    have hat : (p ++ l.take c).length % 64 = ((p.length + c) % 64) := by rw [hpl]
    refine c_region ?_
    refine stepP (p_move h rfl) h rfl fun a w h => ?_
    refine stepP (p_nilCheck h rfl) h rfl fun a w h => ?_
    refine stepP (p_fieldAddr (r := 8) Tryd.underlying116 rfl Tryd.sizeOf114 rfl rfl h rfl) h rfl fun a w h => ?_
    refine stepP (p_move h rfl) h rfl fun a w h => ?_
    refine stepP (p_sliceArrL (lo := ((p.length + c) % 64)) (r := 8 + ((p.length + c) % 64)) Tryd.underlying114 Tryd.sizeOf5 h rfl rfl rfl (by omega) rfl) h rfl fun a w h => ?_
    refine stepP (p_move h rfl) h rfl fun a w h => ?_
    refine stepV (o_copy (kk := 0) (news := (l.drop c).map B) Tryd.underlying22 (by rw [show Tryd.prog.info? 5 = _ from Tryd.type5]; rfl) h rfl rfl rfl hv2.src (by simp) (oneB _) (by rw [hashC_length s2 r2 _ hr2.1]; omega) (cs' := hashC s2 (copyR r2 ((p.length + c) % 64) x) (p.length + l.length)) (by rw [hashC_copy s2 r2 (l.drop c) _ _ _ hr2.1 (by omega) rfl, hx, hm0])) h.env rfl fun a w h => ?_
    refine stepP (p_assign h rfl) h rfl fun a w h => ?_
    refine stepEnd ?_
    rw [← hm0] at h
    refine th_n ?_
    refine c_seq ?_
    refine c_region ?_
    refine stepP (p_move h rfl) h rfl fun a w h => ?_
    refine stepP (p_move h rfl) h rfl fun a w h => ?_
    refine stepP (p_sliceT Tryd.underlying22 Tryd.sizeOf5 h rfl rfl hv2 rfl (by omega)) h rfl fun a w h => ?_
    refine stepP (p_assign h rfl) h rfl fun a w h => ?_
    refine stepEnd ?_
    refine th_n ?_
    refine c_seq ?_
    refine c_region ?_
    refine stepP (p_move h rfl) h rfl fun a w h => ?_
    refine stepP (p_move h rfl) h rfl fun a w h => ?_
    refine stepP (p_add h rfl rfl (wi (by omega))) h rfl fun a w h => ?_
    refine stepP (p_assign h rfl) h rfl fun a w h => ?_
    refine stepEnd ?_
    refine th_n ?_
    refine c_seq ?_
    refine c_region ?_
    refine stepP (p_move h rfl) h rfl fun a w h => ?_
    refine stepP (p_eql h rfl rfl) h rfl fun a w h => ?_
    refine stepEnd ?_
    refine th_n ?_
    refine c_cond rfl h (fun hc2 => ?_) (fun hc2 => ?_)
    · skip
      refine c_seq ?_
      have hfull : (p ++ l.take c).length % 64 + x.length = 64 := by omega
      refine c_region ?_
      refine stepP (p_move h rfl) h rfl fun a w h => ?_
      refine stepV (Enter.opT (o_call Tryd.call81 h rfl) (call_valA (c_dblock h.own (copyR_length hr2.1 (by omega)) hk))) h.env rfl fun a w h => ?_
      refine stepEnd ?_
      refine th_n ?_
      refine c_region ?_
      refine stepP (p_assign h rfl) h rfl fun a w h => ?_
      refine stepEnd ?_
      refine bl_n ?_
      exact th_n ⟨_, by omega, c + m0, subS v2 1 m0 (l.drop c).length, copyR r2 ((p.length + c) % 64) x, comp s2 (fun i => (copyR r2 ((p.length + c) % 64) x).getD i 0), rfl, by omega, by rw [← List.drop_drop]; exact hv2.tail (by omega), by rw [hpx, ← hat]; exact hr2.full hfull, by rw [hpx, shaN_full hr2 hfull, ← hs2, hat], h.to rfl ⟨rfl, rfl, (look_int rfl (by first | rfl | omega)), trivial⟩⟩
    · skip
      refine c_skip ?_
      refine bl_n ?_
      exact th_n ⟨_, by omega, c + m0, subS v2 1 m0 (l.drop c).length, copyR r2 ((p.length + c) % 64) x, s2, rfl, by omega, by rw [← List.drop_drop]; exact hv2.tail (by omega), by rw [hpx, ← hat]; exact hr2.part (by omega), by rw [hpx, shaN_part hr2 (by omega), ← hs2], h.to rfl ⟨rfl, rfl, (look_int rfl (by first | rfl | omega)), trivial⟩⟩
  · skip
    refine c_exit (th_e (th_e (exit_at ?_)))
    have hcl : c = l.length := by have := hv2; simp at *; omega
    subst hcl
    rw [List.take_length] at hr2 hs2
    subst hs2
    exact fin0 (.inr rfl) h rfl ⟨r2, rfl, by rw [List.length_append] ; simpa using h.own, hr2⟩

set_option maxHeartbeats 1000000 in
theorem c_dSum {S : World} {hf : Hp} {w : World} {b : Nat} {r p : List UInt8} (ho : Owns S hf [] w) (hh : hf b = some (row 116 (hashC (shaN p (p.length / 64)) r p.length))) (hr : Taken p r) (hk : RoundsAt 3 hf) (hb : p.length ≤ 140737488355300) :
    Calls Tryd.prog 71 [ptr b 0].toArray w (RetV S hf [] (sumV (sha p))) := by
  have hr64 := hr.1
  refine enter (n := 79) (E := [(0, _)]) Tryd.func71 rfl Tryd.ntmps71 rfl rfl ho fun a h => ?_
  refine c_seq ?_
  refine c_region ?_
  refine stepO (o_alloc (l := List.replicate 32 (.int .u8 0)) Tryd.zeroValue25 rfl h) h.env rfl ?_
  rintro b1 _ a w h
  refine stepEnd ?_
  refine th_n ?_
  refine c_seq ?_
  refine c_region ?_
  refine stepP (p_move h rfl) h rfl fun a w h => ?_
  refine stepP (p_nilCheck h rfl) h rfl fun a w h => ?_
  refine stepP (p_loadA (vs := hashC (shaN p (p.length / 64)) r p.length) Tryd.isAgg116 (fun w => by rw [Tryd.sizeOf116, (hashC_length (shaN p (p.length / 64)) r p.length hr64)]) h rfl (Cels.stay hh)) h rfl fun a w h => ?_
  refine stepO (o_alloc (l := Tryd.zeroCells116.toList) Tryd.zeroValue116 rfl h) h.env rfl ?_
  rintro b2 _ a w h
  refine stepN (o_storeA (kk := 0) (vs := hashC (shaN p (p.length / 64)) r p.length) (cs' := hashC (shaN p (p.length / 64)) r p.length) (fun w => by rw [Tryd.sizeOf116, (hashC_length (shaN p (p.length / 64)) r p.length hr64)]) h rfl rfl rfl (by intro u hu; simp only [hashC, List.mem_append, List.mem_map, List.mem_singleton] at hu; rcases hu with ⟨x, _, rfl⟩ | ⟨x, _, rfl⟩ | rfl <;> rfl) rfl (by rw [(hashC_length (shaN p (p.length / 64)) r p.length hr64)]; simp [Tryd.zeroCells116_size]) (by rw [(hashC_length (shaN p (p.length / 64)) r p.length hr64)]; simp [Tryd.zeroCells116_size])) h.env fun a w h => ?_
  refine stepEnd ?_
  have hk0 := hk
  obtain ⟨hf3, hlef3, hinf3, hbkf3, h⟩ := h.freeze
  replace hk := hk.mono hlef3
  have hle := hlef3
  have ro4 : hf3 b2 = some (row 116 (hashC (shaN p (p.length / 64)) r p.length)) := hinf3 _ _ (List.mem_of_getElem? (i := 0) rfl)
  have ro5 : hf3 b1 = some (row 25 (List.replicate 32 (.int .u8 0))) := hinf3 _ _ (List.mem_of_getElem? (i := 1) rfl)
  replace hh := hlef3 _ _ hh
  refine th_n ?_
  refine c_seq ?_
  obtain ⟨q, hqq⟩ : ∃ q, q = p.length * 8 := ⟨_, rfl⟩
  refine c_region ?_
  refine stepP (p_move h rfl) h rfl fun a w h => ?_
  refine stepP (p_nilCheck h rfl) h rfl fun a w h => ?_
  refine stepP (p_fieldAddr (r := 72) Tryd.underlying116 rfl Tryd.sizeOf23 rfl rfl h rfl) h rfl fun a w h => ?_
  refine stepP (p_load Tryd.isAgg23 h rfl (Cel.stay hh (hashC_size _ _ _ hr64))) h rfl fun a w h => ?_
  refine stepP (p_mul (r := (q : Int)) h rfl rfl ((wu64 (by omega)).trans (by omega))) h rfl fun a w h => ?_
  refine stepP (p_assign h rfl) h rfl fun a w h => ?_
  refine stepEnd ?_
  refine th_n ?_
  refine c_seq ?_
  refine c_region ?_
  refine stepO (o_buildSlice Tryd.underlying22 Tryd.sizeOf5 Tryd.zeroValue5 h rfl rfl (by simp [Value.cells]) rfl rfl rfl) h.env rfl ?_
  rintro b6 _ a w h
  refine stepP (p_assign h rfl) h rfl fun a w h => ?_
  refine stepEnd ?_
  refine th_n ?_
  refine c_seq ?_
  refine c_block ?_
  refine c_loop (fun m a w => ∃ (z : Nat) (v3 : Value) (Lv3 : Res), m = zc p.length - z ∧ z ≤ zc p.length ∧ Vec 5 1 v3 (1 + z) ((prePad [] z).map B) Lv3 ∧ St S hf3 (Lv3) 79 [(0, ptr b 0), (2, ptr b1 0), (3, ptr b2 0), (4, .int .u64 (q : Int)), (5, v3)] a w) (N := zc p.length - 0) ⟨0, _, _, rfl, by omega, ⟨rfl, .inr ⟨b6, 1, [], rfl, rfl, by decide, by decide, rfl⟩⟩, h.to rfl ⟨rfl, rfl, rfl, (look_int rfl (by first | rfl | omega)), rfl, trivial⟩⟩ ?_
  clear h
  rintro m a w ⟨z, v3, Lv3, rfl, hz, hvec, h⟩
  refine c_seq ?_
  refine c_seq ?_
  have hzc0 : zc p.length ≤ 63 := by unfold zc; omega
  refine c_region ?_
  refine stepP (p_move h rfl) h rfl fun a w h => ?_
  refine stepP (p_nilCheck h rfl) h rfl fun a w h => ?_
  refine stepP (p_fieldAddr (r := 72) Tryd.underlying116 rfl Tryd.sizeOf23 rfl rfl h rfl) h rfl fun a w h => ?_
  refine stepP (p_load Tryd.isAgg23 h rfl (Cel.stay hh (hashC_size _ _ _ hr64))) h rfl fun a w h => ?_
  refine stepP (p_move h rfl) h rfl fun a w h => ?_
  refine stepP (p_lenV Tryd.underlying22 h rfl hvec) h rfl fun a w h => ?_
  refine stepP (p_conv Tryd.underlying3 Tryd.underlying23 h rfl (wu64 (by omega))) h rfl fun a w h => ?_
  refine stepP (p_add (r := ((p.length + (1 + z) : Nat) : Int)) h rfl rfl ((wu64 (by have : zc p.length ≤ 63 := (by unfold zc; omega); omega)).trans (by omega))) h rfl fun a w h => ?_
  refine stepP (p_rem h rfl rfl (by decide) (tmod_nat (p.length + (1 + z)) 64)) h rfl fun a w h => ?_
  refine stepP (p_neq h rfl rfl) h rfl fun a w h => ?_
  refine stepEnd ?_
  refine th_n ?_
  refine c_cond rfl h (fun hc7 => ?_) (fun hc7 => ?_)
  · skip
    refine c_skip ?_
    refine th_n ?_
    refine c_block ?_
    have hne : (p.length + (1 + z)) % 64 ≠ 56 := by omega
    have hzc : zc p.length ≤ 63 := by unfold zc; omega
    refine c_region ?_
    refine stepP (p_move h rfl) h rfl fun a w h => ?_
    refine stepO (o_buildSlice Tryd.underlying22 Tryd.sizeOf5 Tryd.zeroValue5 h rfl rfl (by simp [Value.cells]) rfl rfl rfl) h.env rfl ?_
    rintro b8 _ a w h
    replace h := h.perm (L' := Lv3 ++ [(b8, row 5 [.int .u8 0])]) (List.perm_append_comm (l₁ := [(b8, row 5 [.int .u8 0])]) (l₂ := Lv3))
    refine stepO (o_append (Lv := Lv3) (Lr := [(b8, row 5 [.int .u8 0])]) (s := 1) (news := [.int .u8 0]) Tryd.underlying22 Tryd.type5 rfl rfl rfl (by decide) h rfl hvec rfl (.inr ⟨_, _, _, rfl, Cels.mem (T := 5) (cs := [.int .u8 0]) (by simp)⟩) rfl (by intro u hu; rw [List.mem_singleton] at hu; subst hu; rfl) (by unfold maxLen; omega) (by show _ * 1 ≤ _; omega)) h.env rfl ?_
    rintro ⟨v9, Lv10⟩ hvec11 a w h
    replace h := h.drop (List.sublist_append_left _ _)
    refine stepP (p_assign h rfl) h rfl fun a w h => ?_
    refine stepEnd ?_
    refine bl_n ?_
    exact th_n ⟨_, by have := hne; unfold zc at *; omega, z + 1, v9, Lv10, rfl, by have := hne; unfold zc at *; omega, hvec11.cast (by omega) (by rw [prePad_succ, List.map_append]; rfl), h.to rfl ⟨rfl, rfl, rfl, (look_int rfl (by first | rfl | omega)), rfl, trivial⟩⟩
  · skip
    refine c_exit (th_e (th_e (exit_at ?_)))
    refine th_n ?_
    refine c_seq ?_
    refine c_seq ?_
    have hzc : zc p.length ≤ 63 := by unfold zc; omega
    obtain rfl : z = zc p.length := by unfold zc at *; omega
    refine c_region ?_
    refine stepP (p_assign h rfl) h rfl fun a w h => ?_
    refine stepEnd ?_
    refine th_n ?_
    refine c_block ?_
    refine c_loop (fun m a w => ∃ (k : Nat) (v4 : Value) (Lv4 : Res), m = 8 - k ∧ k ≤ 8 ∧ Vec 5 1 v4 (1 + zc p.length + k) ((prePad [] (zc p.length) ++ l8 q k).map B) Lv4 ∧ St S hf3 (Lv4) 79 [(2, ptr b1 0), (3, ptr b2 0), (4, .int .u64 (q : Int)), (5, v4), (6, .int .i64 (56 - 8 * (k : Int)))] a w) (N := 8 - 0) ⟨0, v3, Lv3, rfl, by omega, hvec.cast (by omega) (by simp [l8]), h.to rfl ⟨rfl, rfl, (look_int rfl (by first | rfl | omega)), rfl, (look_int rfl (by first | rfl | omega)), trivial⟩⟩ ?_
    clear h
    rintro m a w ⟨k, v4, Lv4, rfl, hk8, hvec4, h⟩
    refine c_seq ?_
    refine c_seq ?_
    refine c_region ?_
    refine stepP (p_move h rfl) h rfl fun a w h => ?_
    refine stepP (p_geq h rfl rfl) h rfl fun a w h => ?_
    refine stepEnd ?_
    refine th_n ?_
    refine c_cond rfl h (fun hc12 => ?_) (fun hc12 => ?_)
    · skip
      refine c_skip ?_
      refine th_n ?_
      refine c_seq ?_
      refine c_block ?_
      refine c_region ?_
      refine stepP (p_move h rfl) h rfl fun a w h => ?_
      refine stepP (p_move h rfl) h rfl fun a w h => ?_
      refine stepP (p_move h rfl) h rfl fun a w h => ?_
      refine stepP (p_shr h rfl rfl (by omega) (shr64 q (56 - 8 * k) _ (by omega) (by omega))) h rfl fun a w h => ?_
      refine stepP (p_conv Tryd.underlying23 Tryd.underlying5 h rfl (conv_u8n _)) h rfl fun a w h => ?_
      refine stepO (o_buildSlice Tryd.underlying22 Tryd.sizeOf5 Tryd.zeroValue5 h rfl rfl (by simp [Value.cells]) rfl rfl rfl) h.env rfl ?_
      rintro b13 _ a w h
      replace h := h.perm (L' := Lv4 ++ [(b13, row 5 [.int .u8 (((UInt8.ofNat (q / 2 ^ (56 - 8 * k)))).toNat : Int)])]) (List.perm_append_comm (l₁ := [(b13, row 5 [.int .u8 (((UInt8.ofNat (q / 2 ^ (56 - 8 * k)))).toNat : Int)])]) (l₂ := Lv4))
      refine stepO (o_append (Lv := Lv4) (Lr := [(b13, row 5 [.int .u8 (((UInt8.ofNat (q / 2 ^ (56 - 8 * k)))).toNat : Int)])]) (s := 1) (news := [.int .u8 (((UInt8.ofNat (q / 2 ^ (56 - 8 * k)))).toNat : Int)]) Tryd.underlying22 Tryd.type5 rfl rfl rfl (by decide) h rfl hvec4 rfl (.inr ⟨_, _, _, rfl, Cels.mem (T := 5) (cs := [.int .u8 (((UInt8.ofNat (q / 2 ^ (56 - 8 * k)))).toNat : Int)]) (by simp)⟩) rfl (by intro u hu; rw [List.mem_singleton] at hu; subst hu; rfl) (by unfold maxLen; omega) (by show _ * 1 ≤ _; omega)) h.env rfl ?_
      rintro ⟨v14, Lv15⟩ hvec16 a w h
      replace h := h.drop (List.sublist_append_left _ _)
      refine stepP (p_assign h rfl) h rfl fun a w h => ?_
      refine stepEnd ?_
      refine bl_n ?_
      refine th_n ?_
      refine c_region ?_
      refine stepP (p_move h rfl) h rfl fun a w h => ?_
      refine stepP (p_sub h rfl rfl (wi (by omega))) h rfl fun a w h => ?_
      refine stepP (p_assign h rfl) h rfl fun a w h => ?_
      refine stepEnd ?_
      exact th_n ⟨_, by omega, k + 1, v14, Lv15, rfl, by omega, hvec16.cast (by omega) (by rw [l8_succ, ← List.append_assoc, List.map_append (l₂ := [_])]; rfl), h.to rfl ⟨rfl, rfl, (look_int rfl (by first | rfl | omega)), rfl, (look_int rfl (by first | rfl | omega)), trivial⟩⟩
    · skip
      refine c_exit (th_e (th_e (exit_at ?_)))
      refine th_n ?_
      refine c_seq ?_
      obtain rfl : k = 8 := by omega
      obtain ⟨pd, hpd⟩ : ∃ pd, pd = prePad [] (zc p.length) ++ l8 q 8 := ⟨_, rfl⟩
      have hpl : pd.length = 1 + zc p.length + 8 := by rw [hpd]; simp
      have hpp : p ++ pd = padded p := by rw [hpd, hqq]; exact padded_split p
      rw [← hpd] at hvec4
      replace h := h.re (hbkf3 _ _ h.own)
      replace h := h.perm (List.perm_append_comm (l₁ := Lv4) (l₂ := [(b2, row 116 (hashC (shaN p (p.length / 64)) r p.length)), (b1, row 25 (List.replicate 32 (.int .u8 0)))]))
      obtain ⟨hf3, hle3, hin3, hbk3, h⟩ := St.freezeR (L1 := [(b2, row 116 (hashC (shaN p (p.length / 64)) r p.length))]) (L2 := [(b1, row 25 (List.replicate 32 (.int .u8 0)))] ++ Lv4) h
      have hby : Byts hf3 v4 pd := hvec4.byts (by omega) (fun b o m => hin3 b o (List.mem_append_right _ m))
      refine c_region ?_
      refine stepP (p_move h rfl) h rfl fun a w h => ?_
      refine stepO (Enter.opT (o_call Tryd.call70 h rfl) (call_outA (c_dWrite h.own hr (hk0.mono hle3) hby (by omega)))) h.env rfl ?_
      rintro r17 htk18 a w h
      refine stepEnd ?_
      obtain ⟨sN, hsN⟩ : ∃ sN, sN = shaN (p ++ pd) ((p ++ pd).length / 64) := ⟨_, rfl⟩
      rw [← hsN] at h
      refine th_n ?_
      refine c_seq ?_
      refine c_region ?_
      refine stepO (o_alloc (l := (oS sN 0).map B) Tryd.zeroValue25 (by rw [oS_zero]; rfl) h) h.env rfl ?_
      rintro b19 _ a w h
      refine stepEnd ?_
      refine th_n ?_
      refine c_seq ?_
      refine c_seq ?_
      refine c_region ?_
      refine stepP (p_fieldAddr (r := 0) Tryd.underlying116 rfl Tryd.sizeOf107 rfl rfl h rfl) h rfl fun a w h => ?_
      refine stepP (p_loadA (vs := sN.list.map U) Tryd.isAgg107 (fun w => by rw [Tryd.sizeOf107]; rfl) h rfl (Cels.own (k := 1) (T := 116) (cs := hashC sN r17 (p ++ pd).length) rfl rfl)) h rfl fun a w h => ?_
      refine stepP (p_move h rfl) h rfl fun a w h => ?_
      refine stepEnd ?_
      refine th_n ?_
      refine c_block ?_
      refine c_loop (fun m a w => ∃ (j : Nat), m = 8 - j ∧ j ≤ 8 ∧ St S hf3 ([(b19, row 25 ((oS sN (4 * j)).map B))] ++ ([(b2, row 116 (hashC sN r17 (p ++ pd).length))])) 79 [(2, ptr b1 0), (7, ptr b19 0), (46, .agg (sN.list.map U).toArray), (47, .int .i64 ((j : Nat) : Int))] a w) (N := 8 - 0) ⟨0, rfl, by omega, h.to rfl ⟨rfl, rfl, rfl, (look_int rfl (by first | rfl | omega)), trivial⟩⟩ ?_
      clear h
      rintro m a w ⟨j, rfl, hj, h⟩
      refine c_seq ?_
      refine c_region ?_
      refine stepP (p_lss h rfl rfl) h rfl fun a w h => ?_
      refine stepEnd ?_
      refine th_n ?_
      refine c_seq ?_
      refine c_cond rfl h (fun hc20 => ?_) (fun hc20 => ?_)
      · skip
        refine c_skip ?_
        refine th_n ?_
        refine c_seq ?_
        refine c_block ?_
        refine c_seq ?_
        refine c_region ?_
        refine stepP (p_move h rfl) h rfl fun a w h => ?_
        refine stepP (p_indexV Tryd.underlying107 Tryd.sizeOf73 Tryd.isAgg73 h rfl rfl rfl (by omega) (list_get sN (j := j) (by omega))) h rfl fun a w h => ?_
        refine stepP (p_assign h rfl) h rfl fun a w h => ?_
        refine stepP (p_assign h rfl) h rfl fun a w h => ?_
        refine stepEnd ?_
        refine th_n ?_
        refine c_region ?_
        refine stepP (p_move h rfl) h rfl fun a w h => ?_
        refine stepP (p_mul h rfl rfl (wi (by omega))) h rfl fun a w h => ?_
        refine stepP (p_move h rfl) h rfl fun a w h => ?_
        refine stepP (p_mul h rfl rfl (wi (by omega))) h rfl fun a w h => ?_
        refine stepP (p_add h rfl rfl (wi (by omega))) h rfl fun a w h => ?_
        refine stepP (p_move h rfl) h rfl fun a w h => ?_
        refine stepP (p_mul h rfl rfl (wi (by omega))) h rfl fun a w h => ?_
        refine stepP (p_add h rfl rfl (wi (by omega))) h rfl fun a w h => ?_
        refine stepP (p_move h rfl) h rfl fun a w h => ?_
        refine stepP (p_mul h rfl rfl (wi (by omega))) h rfl fun a w h => ?_
        refine stepP (p_add h rfl rfl (wi (by omega))) h rfl fun a w h => ?_
        refine stepP (p_move h rfl) h rfl fun a w h => ?_
        refine stepP (p_shr h rfl rfl (by omega) (w32_shr _ 24 _ (by omega) (by omega))) h rfl fun a w h => ?_
        refine stepP (p_conv Tryd.underlying73 Tryd.underlying5 h rfl (u8_word _)) h rfl fun a w h => ?_
        refine stepP (p_move h rfl) h rfl fun a w h => ?_
        refine stepP (p_shr h rfl rfl (by omega) (w32_shr _ 16 _ (by omega) (by omega))) h rfl fun a w h => ?_
        refine stepP (p_conv Tryd.underlying73 Tryd.underlying5 h rfl (u8_word _)) h rfl fun a w h => ?_
        refine stepP (p_move h rfl) h rfl fun a w h => ?_
        refine stepP (p_shr h rfl rfl (by omega) (w32_shr _ 8 _ (by omega) (by omega))) h rfl fun a w h => ?_
        refine stepP (p_conv Tryd.underlying73 Tryd.underlying5 h rfl (u8_word _)) h rfl fun a w h => ?_
        refine stepP (p_move h rfl) h rfl fun a w h => ?_
        refine stepP (p_conv Tryd.underlying73 Tryd.underlying5 h rfl (u8_word _)) h rfl fun a w h => ?_
        refine stepP (p_indexAddrA1 (j := 4 * j) (r := 4 * j) Tryd.underlying25 Tryd.sizeOf5 h rfl rfl (by omega) (by omega) (by omega)) h rfl fun a w h => ?_
        refine stepN (o_store (kk := 0) (cs' := (oS sN (4 * j + 1)).map B) Tryd.sizeOf5 h rfl rfl rfl rfl rfl (by rw [List.length_map, oS_length sN (by omega)]; omega) (oS_set sN (i := (4 * j)) (by omega) (by rw [show (4 * j) / 4 = j by omega, show (4 * j) % 4 = 0 by omega]))) h.env fun a w h => ?_
        refine stepP (p_indexAddrA1 (j := (4 * j) + 1) (r := (4 * j) + 1) Tryd.underlying25 Tryd.sizeOf5 h rfl rfl (by omega) (by omega) (by omega)) h rfl fun a w h => ?_
        refine stepN (o_store (kk := 0) (cs' := (oS sN (4 * j + 2)).map B) Tryd.sizeOf5 h rfl rfl rfl rfl rfl (by rw [List.length_map, oS_length sN (by omega)]; omega) (oS_set sN (i := (4 * j + 1)) (by omega) (by rw [show (4 * j + 1) / 4 = j by omega, show (4 * j + 1) % 4 = 1 by omega]))) h.env fun a w h => ?_
        refine stepP (p_indexAddrA1 (j := (4 * j) + 2) (r := (4 * j) + 2) Tryd.underlying25 Tryd.sizeOf5 h rfl rfl (by omega) (by omega) (by omega)) h rfl fun a w h => ?_
        refine stepN (o_store (kk := 0) (cs' := (oS sN (4 * j + 3)).map B) Tryd.sizeOf5 h rfl rfl rfl rfl rfl (by rw [List.length_map, oS_length sN (by omega)]; omega) (oS_set sN (i := (4 * j + 2)) (by omega) (by rw [show (4 * j + 2) / 4 = j by omega, show (4 * j + 2) % 4 = 2 by omega]))) h.env fun a w h => ?_
        refine stepP (p_indexAddrA1 (j := (4 * j) + 3) (r := (4 * j) + 3) Tryd.underlying25 Tryd.sizeOf5 h rfl rfl (by omega) (by omega) (by omega)) h rfl fun a w h => ?_
        refine stepN (o_store (kk := 0) (cs' := (oS sN (4 * (j + 1))).map B) Tryd.sizeOf5 h rfl rfl rfl rfl rfl (by rw [List.length_map, oS_length sN (by omega)]; omega) (oS_set sN (i := (4 * j + 3)) (by omega) (by rw [show (4 * j + 3) / 4 = j by omega, show (4 * j + 3) % 4 = 3 by omega]; simp))) h.env fun a w h => ?_
        refine stepEnd ?_
        refine bl_n ?_
        refine th_n ?_
        refine c_region ?_
        refine stepP (p_add h rfl rfl (wi (by omega))) h rfl fun a w h => ?_
        refine stepP (p_move h rfl) h rfl fun a w h => ?_
        refine stepEnd ?_
        exact th_n ⟨_, by omega, j + 1, rfl, by omega, h.to rfl ⟨rfl, rfl, rfl, (look_int rfl (by first | rfl | omega)), trivial⟩⟩
      · skip
        refine c_exit (th_e (th_e (exit_at ?_)))
        refine th_n ?_
        refine c_seq ?_
        obtain rfl : j = 8 := by omega
        rw [show 4 * 8 = 32 from rfl, oS_end] at h
        replace h := h.re (hbk3 _ _ h.own)
        refine c_region ?_
        refine stepP (p_loadA (vs := (outB sN).map B) Tryd.isAgg25 (fun w => by rw [Tryd.sizeOf25, (show ((outB sN).map B).length = 32 by simp)]) h rfl (Cels.all (k := 0) rfl)) h rfl fun a w h => ?_
        refine stepN (o_storeA (kk := 2) (vs := (outB sN).map B) (cs' := (outB sN).map B) (fun w => by rw [Tryd.sizeOf25, (show ((outB sN).map B).length = 32 by simp)]) h rfl rfl rfl (by intro u hu; obtain ⟨x, _, rfl⟩ := List.mem_map.1 hu; rfl) rfl (by rw [(show ((outB sN).map B).length = 32 by simp)]; simp) (by rw [(show ((outB sN).map B).length = 32 by simp)]; simp [List.drop_of_length_le])) h.env fun a w h => ?_
        refine stepEnd ?_
        refine th_n ?_
        refine c_ret ?_
        exact finC (.inl rfl) h (vs := (outB sN).map B) rfl Tryd.isAgg25 (fun w => by rw [Tryd.sizeOf25, (show ((outB sN).map B).length = 32 by simp)]) rfl (Cels.all (k := 2) rfl) ⟨by rw [hsN, hpp]; rfl, h.own.none⟩

set_option maxHeartbeats 1000000 in
theorem c_dOf {S : World} {hf : Hp} {w : World} {vl : Value} {vs : List Value} {ls : List (List UInt8)} (ho : Owns S hf [] w) (hl : Sl hf 1 vl ls.length vs) (hby : BytsAll hf vs ls) (hk : RoundsAt 3 hf) (hf1 : FirstAt 1 hf) (hb : ls.flatten.length ≤ 140737488355300) :
    Calls Tryd.prog 44 [vl].toArray w (RetV S hf [] (sumV (sha ls.flatten))) := by
  have hvl : vs.length = ls.length := by have := hl.1; omega
  have hll := hl.len_le
  unfold maxLen at hll
  refine enter (n := 19) (E := [(0, _)]) Tryd.func44 rfl Tryd.ntmps44 rfl rfl ho fun a h => ?_
  refine c_seq ?_
  refine c_region ?_
  refine stepO (o_alloc (l := List.replicate 32 (.int .u8 0)) Tryd.zeroValue25 rfl h) h.env rfl ?_
  rintro b1 _ a w h
  refine stepEnd ?_
  obtain ⟨hf2, hlef2, hinf2, hbkf2, h⟩ := h.freeze
  replace hl := hl.mono hlef2
  replace hby := hby.mono hlef2
  replace hk := hk.mono hlef2
  replace hf1 := hf1.mono hlef2
  have hle := hlef2
  have ro3 : hf2 b1 = some (row 25 (List.replicate 32 (.int .u8 0))) := hinf2 _ _ (List.mem_of_getElem? (i := 0) rfl)
  refine th_n ?_
  refine c_seq ?_
  refine c_region ?_
  refine stepO (Enter.opT (o_call Tryd.call69 h rfl) (call_outA (c_dNew h.own hf1))) h.env rfl ?_
  rintro b4 _ a w h
  refine stepP (p_assign h rfl) h rfl fun a w h => ?_
  refine stepEnd ?_
  refine th_n ?_
  refine c_seq ?_
  refine c_seq ?_
  refine c_region ?_
  refine stepP (p_move h rfl) h rfl fun a w h => ?_
  refine stepP (p_lenS Tryd.underlying39 h rfl hl) h rfl fun a w h => ?_
  refine stepP (p_move h rfl) h rfl fun a w h => ?_
  refine stepEnd ?_
  refine th_n ?_
  refine c_block ?_
  refine c_loop (fun m a w => ∃ (i : Nat) (r : List UInt8), m = ls.length - i ∧ i ≤ ls.length ∧ Taken (ls.take i).flatten r ∧ St S hf2 ([(b4, row 116 (hashC (shaN (ls.take i).flatten ((ls.take i).flatten.length / 64)) r (ls.take i).flatten.length))]) 19 [(2, ptr b1 0), (3, ptr b4 0), (7, vl), (8, .int .i64 ((ls.length : Nat) : Int)), (9, .int .i64 ((i : Nat) : Int))] a w) (N := ls.length - 0) ⟨0, List.replicate 64 0, rfl, by omega, Taken.nil, h.to (by simp only [List.take_zero, List.flatten_nil]; rfl) ⟨rfl, rfl, rfl, (look_int rfl (by first | rfl | omega)), (look_int rfl (by first | rfl | omega)), trivial⟩⟩ ?_
  clear h
  rintro m a w ⟨i, r, rfl, hi, htk, h⟩
  refine c_seq ?_
  refine c_region ?_
  refine stepP (p_lss h rfl rfl) h rfl fun a w h => ?_
  refine stepEnd ?_
  refine th_n ?_
  refine c_seq ?_
  refine c_cond rfl h (fun hc5 => ?_) (fun hc5 => ?_)
  · skip
    refine c_skip ?_
    refine th_n ?_
    refine c_seq ?_
    refine c_block ?_
    refine c_seq ?_
    obtain ⟨vi, hvi⟩ : ∃ vi, vs[i]? = some vi := ⟨_, List.getElem?_eq_getElem (by omega)⟩
    obtain ⟨l, hli⟩ : ∃ l, ls[i]? = some l := ⟨_, List.getElem?_eq_getElem (by omega)⟩
    have hbi := hby i vi l hvi hli
    have hfl := flatten_take ls hli
    have hlen : (ls.take i).flatten.length + l.length ≤ ls.flatten.length := by rw [← List.length_append, ← hfl]; exact flatten_le ls _
    refine c_region ?_
    refine stepP (p_idxS1 Tryd.underlying39 Tryd.sizeOf22 h rfl rfl hl (j := i) (by omega) (by omega)) h rfl fun a w h => ?_
    refine stepP (p_load Tryd.isAgg22 h rfl (Sl.cel hl hvi)) h rfl fun a w h => ?_
    refine stepP (p_assign h rfl) h rfl fun a w h => ?_
    refine stepEnd ?_
    refine th_n ?_
    refine c_region ?_
    refine stepP (p_move h rfl) h rfl fun a w h => ?_
    refine stepP (p_move h rfl) h rfl fun a w h => ?_
    refine stepO (Enter.opT (o_call Tryd.call70 h rfl) (call_outA (c_dWrite h.own htk hk hbi (by omega)))) h.env rfl ?_
    rintro r6 htk7 a w h
    rw [← hfl] at h htk7
    refine stepEnd ?_
    refine bl_n ?_
    refine th_n ?_
    refine c_region ?_
    refine stepP (p_add h rfl rfl (wi (by omega))) h rfl fun a w h => ?_
    refine stepP (p_move h rfl) h rfl fun a w h => ?_
    refine stepEnd ?_
    exact th_n ⟨_, by omega, i + 1, r6, rfl, by omega, htk7, h.to rfl ⟨rfl, rfl, rfl, (look_int rfl (by first | rfl | omega)), (look_int rfl (by first | rfl | omega)), trivial⟩⟩
  · skip
    refine c_exit (th_e (th_e (exit_at ?_)))
    refine th_n ?_
    refine c_seq ?_
    refine c_region ?_
    refine stepP (p_move h rfl) h rfl fun a w h => ?_
    refine stepV (Enter.opT (o_call Tryd.call71 h rfl) (call_val0 h.own (c_dSum h.own.lend0 (h.own.in0 (k := 0) rfl) htk (hk.mono h.own.le0) (by have := flatten_le ls i; omega)))) h.env rfl fun a w h => ?_
    replace h := h.re (hbkf2 _ _ h.own)
    refine stepN (o_storeA (kk := 1) (vs := (sha (ls.take i).flatten).map B) (cs' := (sha (ls.take i).flatten).map B) (fun w => by rw [Tryd.sizeOf25, (show ((sha (ls.take i).flatten).map B).length = 32 by simp)]) h rfl rfl rfl (by intro u hu; obtain ⟨x, _, rfl⟩ := List.mem_map.1 hu; rfl) rfl (by rw [(show ((sha (ls.take i).flatten).map B).length = 32 by simp)]; simp) (by rw [(show ((sha (ls.take i).flatten).map B).length = 32 by simp)]; simp [List.drop_of_length_le])) h.env fun a w h => ?_
    refine stepEnd ?_
    refine th_n ?_
    refine c_ret ?_
    have hie : (ls.take i).flatten = ls.flatten := by rw [List.take_of_length_le (by omega)]
    exact finC (.inl rfl) h (vs := (sha (ls.take i).flatten).map B) rfl Tryd.isAgg25 (fun w => by rw [Tryd.sizeOf25, (show ((sha (ls.take i).flatten).map B).length = 32 by simp)]) rfl (Cels.all (k := 1) rfl) ⟨by rw [hie], h.own.none⟩

end Go.Proofs.YtkklgmhmhhbjkaaDoor
