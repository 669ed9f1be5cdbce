/-
  OWN LIBRARY, part 11: for SHA-256's walks: slices of arrays, arrays written out, the table of a block's words, the state.
-/
import Derived.Test.YtkklgmhmhhbjkaaDoorKitJ
namespace Go.Own
open Go
section ops
variable {P : Program} {S : World} {hf : Hp} {L : Res} {n : Nat} {E : List (Nat × Value)} {a : Act} {w : World} {v u : Value} {b o : Nat}
  {dst : Option Tmp} {ty : TypeId} {pos : String} {after : Array Edge} {g : Option (Nat × Bool)} {x y : Operand} {T : TypeId} {k : IntKind} {m : Int}
theorem p_sliceArrL {e : TypeId} {l lo : Nat} {z : Operand} (hT : P.underlying T = some (.array l e)) (hs : ∀ w, (sizeOf e).run P w = .ok 1 w) (h : St S hf L n E a w) (hx : ev E x = some (ptr b o)) (hz : ev E z = some (.int k m)) (hm : m = (lo : Int)) (hlt : lo < l) {r : Nat} (hr : o + lo = r) :
    Pure P ⟨dst, .slice T x (some z) none none, ty, pos, after, g⟩ a w (slc b r (l - lo) (l - lo)) := by
  subst hm hr
  have h1 : lo ≤ l := by omega
  have h2 : l ≠ lo := by omega
  simp [Pure, execOp, h.env.ev hx, h.env.ev hz, Instr.sliceAt, run_underlying hT, Instr.sureAddr, Instr.sliceBounds, Instr.sliceBound, asIntOf, hs, h1, h2, Addr.add_at]
theorem p_sliceArrLH {e : TypeId} {l lo hi : Nat} {z1 z2 : Operand} {k2 : IntKind} {m2 : Int} (hT : P.underlying T = some (.array l e)) (hs : ∀ w, (sizeOf e).run P w = .ok 1 w) (h : St S hf L n E a w) (hx : ev E x = some (ptr b o)) (hz : ev E z1 = some (.int k m)) (hz2 : ev E z2 = some (.int k2 m2)) (hm : m = (lo : Int)) (hm2 : m2 = (hi : Int))
    (h1 : lo ≤ hi) (h2 : hi ≤ l) (hlt : lo < l) {r : Nat} (hr : o + lo = r) :
    Pure P ⟨dst, .slice T x (some z1) (some z2) none, ty, pos, after, g⟩ a w (slc b r (hi - lo) (l - lo)) := by
  subst hm hm2 hr
  have h3 : l ≠ lo := by omega
  simp [Pure, execOp, h.env.ev hx, h.env.ev hz, h.env.ev hz2, Instr.sliceAt, run_underlying hT, Instr.sureAddr, Instr.sliceBounds, Instr.sliceBound, asIntOf, hs, h1, h2, h3, Addr.add_at]
theorem p_buildA {e : TypeId} {l : Nat} {it ie : TypeInfo} {z : Value} {parts : Array (Nat × Operand)} {vs : List Value} (hT : P.underlying T = some (.array l e)) (hi : P.info? T = some it) (hz : it.zero = some z) (he : P.info? e = some ie) (hs : ie.size = 1)
    (h : St S hf L n E a w) (hev : evs E (parts.toList.map (·.2)) = some vs) (hidx : parts.toList.map (·.1) = List.range' 0 l) (h1 : ∀ v ∈ vs, v.cells = #[v]) (hl : vs.length = l) (hzl : z.cells.toList.length = l) :
    Pure P ⟨dst, .build T parts, ty, pos, after, g⟩ a w (.agg vs.toArray) := by
  have e1 : (parts.map fun (i, x) => (i, a.eval x)).toList = (List.range' 0 vs.length).zip vs := by
    rw [hl, ← hidx, ← h.env.evs hev]
    simp only [Array.toList_map, List.map_map]
    rw [List.zip_map']
    rfl
  have hf := fill_ones vs 0 [] z.cells.toList h1 rfl (by rw [hzl, hl])
  have hb : P.built T (parts.map fun (i, x) => (i, a.eval x)).toList = some vs.toArray := by
    unfold Program.built
    simp only [hi, hT, hz, he, e1, hs]
    simpa using hf
  simp [Pure, execOp, run_build w T _ _ hb]
end ops

/-- the table of a block's words, its first t filled -/
def wS (m : Nat → W32) (t : Nat) : List W32 := (List.range 64).map fun i => if i < t then wd m i else 0
theorem wS_length (m : Nat → W32) (t : Nat) : (wS m t).length = 64 := by simp [wS]
theorem wS_zero (m : Nat → W32) : (wS m 0).map U = List.replicate 64 (.int .u32 0) := by
  simp only [wS, Nat.not_lt_zero, if_false]
  rfl
theorem wS_get (m : Nat → W32) {t i : Nat} (h : i < t) (ht : t ≤ 64) : ((wS m t).map U)[i]? = some (U (wd m i)) := by
  have h64 : i < 64 := by omega
  simp [wS, h64, h]
theorem wS_set (m : Nat → W32) {t : Nat} (h : t < 64) {x : W32} (hx : x = wd m t) : ((wS m t).map U).set t (U x) = (wS m (t + 1)).map U := by
  subst hx
  rw [← List.map_set]
  congr 1
  apply List.ext_getElem?
  intro i
  rw [List.getElem?_set]
  simp only [wS, List.getElem?_map, List.length_map, List.length_range]
  by_cases hi : i < 64
  · rw [List.getElem?_range hi]
    by_cases hti : t = i
    · subst hti; simp [h]
    · rw [if_neg hti]
      simp only [Option.map_some]
      by_cases h2 : i < t
      · rw [if_pos h2, if_pos (by omega)]
      · rw [if_neg h2, if_neg (by omega)]
  · have e : (List.range 64)[i]? = none := List.getElem?_eq_none (by simp; omega)
    rw [e]
    by_cases hti : t = i
    · omega
    · rw [if_neg hti]
      rfl
theorem ktV_get {t : Nat} (h : t < 64) : ktV[t]? = some (U (kt t)) := by simp [ktV, h]
/-- a hash's cells -/
def hashC (s : S8) (r : List UInt8) (n : Nat) : List Value := s.list.map U ++ (r.map B ++ [.int .u64 (n : Int)])
theorem hashC_length (s : S8) (r : List UInt8) (n : Nat) (h : r.length = 64) : (hashC s r n).length = 73 := by simp [hashC, S8.list, h]
theorem hashC_state (s : S8) (r : List UInt8) (n : Nat) {i : Nat} (h : i < 8) : (hashC s r n)[i]? = some (U (s.list.getD i 0)) := by
  have : i < s.list.length := h
  rw [hashC, List.getElem?_append_left (by simpa using this)]
  simp [List.getD, this]
theorem hashC_rest (s : S8) (r : List UInt8) (n : Nat) {i : Nat} (h : i < r.length) : (hashC s r n)[8 + i]? = some (B (r.getD i 0)) := by
  rw [hashC, List.getElem?_append_right (by simp [S8.list])]
  simp [S8.list, h, List.getElem?_append_left, List.getD]
theorem hashC_size (s : S8) (r : List UInt8) (n : Nat) (h : r.length = 64) : (hashC s r n)[72]? = some (.int .u64 (n : Int)) := by
  rw [hashC, List.getElem?_append_right (by simp [S8.list])]
  simp [S8.list, h]
/-- the state while it is added to, word by word -/
def addS (s v : S8) (j : Nat) : List W32 := (S8.add s v).list.take j ++ s.list.drop j
theorem addS_zero (s v : S8) : addS s v 0 = s.list := rfl
theorem addS_end (s v : S8) : addS s v 8 = (S8.add s v).list := rfl
theorem addS_length (s v : S8) {j : Nat} (h : j ≤ 8) : (addS s v j).length = 8 := by simp [addS, S8.list]; omega
theorem add_getD (s v : S8) {j : Nat} (h : j < 8) : (S8.add s v).list.getD j 0 = s.list.getD j 0 + v.list.getD j 0 := by
  match j, h with
  | 0, _ => rfl
  | 1, _ => rfl
  | 2, _ => rfl
  | 3, _ => rfl
  | 4, _ => rfl
  | 5, _ => rfl
  | 6, _ => rfl
  | 7, _ => rfl
theorem list_get (s : S8) {j : Nat} (h : j < 8) : (s.list.map U)[j]? = some (U (s.list.getD j 0)) := by
  have : j < s.list.length := h
  simp [List.getD, this]
theorem addS_get (s v : S8) {j : Nat} (h : j < 8) : (addS s v j)[j]? = some (s.list.getD j 0) := by
  have h8 : (S8.add s v).list.length = 8 := rfl
  have e : ((S8.add s v).list.take j).length = j := by rw [List.length_take]; omega
  have : j < s.list.length := h
  rw [addS, List.getElem?_append_right (by omega), e]
  simp [List.getD, this]
theorem addS_set (s v : S8) {j : Nat} (h : j < 8) : (addS s v j).set j (s.list.getD j 0 + v.list.getD j 0) = addS s v (j + 1) := by
  have h8 : j < (S8.add s v).list.length := h
  refine take_drop_step _ _ _ _ h ?_
  rw [← add_getD s v h]
  simp [List.getD, h8]
/-- a hash's cells while its state is added to -/
def hashA (s v : S8) (j : Nat) (r : List UInt8) (n : Nat) : List Value := (addS s v j).map U ++ (r.map B ++ [.int .u64 (n : Int)])
theorem hashA_zero (s v : S8) (r : List UInt8) (n : Nat) : hashA s v 0 r n = hashC s r n := rfl
theorem hashA_end (s v : S8) (r : List UInt8) (n : Nat) : hashA s v 8 r n = hashC (S8.add s v) r n := rfl
theorem hashA_get (s v : S8) {j : Nat} (r : List UInt8) (n : Nat) (h : j < 8) : (hashA s v j r n)[j]? = some (U (s.list.getD j 0)) := by
  rw [hashA, List.getElem?_append_left (by rw [List.length_map, addS_length s v (by omega)]; exact h), List.getElem?_map, addS_get s v h]
  rfl
theorem hashA_set (s v : S8) {j : Nat} (r : List UInt8) (n : Nat) (h : j < 8) : (hashA s v j r n).set j (U (s.list.getD j 0 + v.list.getD j 0)) = hashA s v (j + 1) r n := by
  rw [hashA, List.set_append_left _ _ (by rw [List.length_map, addS_length s v (by omega)]; exact h), ← List.map_set, addS_set s v h]
  rfl
theorem hashA_length (s v : S8) {j : Nat} (r : List UInt8) (n : Nat) (hj : j ≤ 8) (h : r.length = 64) : (hashA s v j r n).length = 73 := by simp [hashA, addS_length s v hj, h]
/-- the table of rounds lies where the program laid it -/
def RoundsAt (gl : Nat) (hf : Hp) : Prop := ∀ i v, ktV[i]? = some v → HCel hf gl (0 + i) v
theorem RoundsAt.mono {gl : Nat} {hf hf' : Hp} (h : RoundsAt gl hf) (hle : hf.le hf') : RoundsAt gl hf' := fun i v hi => (h i v hi).mono hle
theorem RoundsAt.cels {gl : Nat} {hf : Hp} {S : World} {L : Res} (h : RoundsAt gl hf) : Cels S hf L gl 0 ktV := fun i v hi => (h i v hi).cel
theorem onesU (l : List W32) : ∀ v ∈ l.map U, v.cells = #[v] := by
  intro v hv
  obtain ⟨x, _, rfl⟩ := List.mem_map.1 hv
  rfl
theorem ktV_length : ktV.length = 64 := by simp [ktV]
def FirstAt (gl : Nat) (hf : Hp) : Prop := ∀ i v, (s8init.list.map U)[i]? = some v → HCel hf gl (0 + i) v
theorem FirstAt.mono {gl : Nat} {hf hf' : Hp} (h : FirstAt gl hf) (hle : hf.le hf') : FirstAt gl hf' := fun i v hi => (h i v hi).mono hle
theorem FirstAt.cels {gl : Nat} {hf : Hp} {S : World} {L : Res} (h : FirstAt gl hf) : Cels S hf L gl 0 (s8init.list.map U) := fun i v hi => (h i v hi).cel
end Go.Own
