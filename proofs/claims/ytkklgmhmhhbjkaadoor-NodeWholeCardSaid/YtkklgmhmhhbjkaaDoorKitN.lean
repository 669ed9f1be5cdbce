/-
  OWN LIBRARY, part 14: a hash that takes a text piece by piece.
-/
import Derived.Test.YtkklgmhmhhbjkaaDoorKitM
namespace Go.Own
open Go
theorem wd_congr {m m' : Nat → W32} (h : ∀ t, t < 16 → m t = m' t) (t : Nat) : wd m t = wd m' t := by
  induction t using Nat.strongRecOn with
  | _ t ih =>
    by_cases ht : t < 16
    · rw [wd_lo m ht, wd_lo m' ht, h t ht]
    · rw [wd_hi m ht, wd_hi m' ht, ih (t - 16) (by omega), ih (t - 15) (by omega), ih (t - 7) (by omega), ih (t - 2) (by omega)]
theorem comp_congr (s : S8) {b b' : Nat → UInt8} (h : ∀ i, i < 64 → b i = b' i) : comp s b = comp s b' := by
  have e : wd (mw b) = wd (mw b') := funext fun t => wd_congr (fun t ht => by
    unfold mw
    rw [h (4 * t) (by omega), h (4 * t + 1) (by omega), h (4 * t + 2) (by omega), h (4 * t + 3) (by omega)]) t
  unfold comp
  rw [e]
theorem shaN_ext (p x : List UInt8) : ∀ k, 64 * k ≤ p.length → shaN (p ++ x) k = shaN p k
  | 0, _ => rfl
  | k + 1, h => by
    show comp _ _ = comp _ _
    rw [shaN_ext p x k (by omega)]
    exact comp_congr _ fun i hi => by
      rw [List.getD_eq_getElem?_getD, List.getD_eq_getElem?_getD, List.getElem?_append_left (by omega)]
/-- what a hash's 'rest' holds when it has taken p -/
def Taken (p r : List UInt8) : Prop := r.length = 64 ∧ r.take (p.length % 64) = p.drop (p.length / 64 * 64)
theorem Taken.nil : Taken [] (List.replicate 64 0) := ⟨by simp, by simp⟩
/-- 'rest' with a piece copied in -/
def copyR (r : List UInt8) (i : Nat) (x : List UInt8) : List UInt8 := r.take i ++ x ++ r.drop (i + x.length)
theorem copyR_length {r x : List UInt8} {i : Nat} (h : r.length = 64) (hx : i + x.length ≤ 64) : (copyR r i x).length = 64 := by
  simp [copyR]; omega
theorem copyR_head {p r x : List UInt8} (h : Taken p r) (hx : p.length % 64 + x.length ≤ 64) : (copyR r (p.length % 64) x).take (p.length % 64 + x.length) = (p ++ x).drop (p.length / 64 * 64) := by
  have hle : p.length / 64 * 64 ≤ p.length := by omega
  rw [copyR, List.take_left' (by rw [List.length_append, List.length_take, h.1]; omega), h.2, List.drop_append_of_le_length hle]
theorem Taken.part {p r x : List UInt8} (h : Taken p r) (hx : p.length % 64 + x.length < 64) : Taken (p ++ x) (copyR r (p.length % 64) x) := by
  refine ⟨copyR_length h.1 (by omega), ?_⟩
  have e1 : (p ++ x).length % 64 = p.length % 64 + x.length := by rw [List.length_append]; omega
  have e2 : (p ++ x).length / 64 = p.length / 64 := by rw [List.length_append]; omega
  rw [e1, e2]
  exact copyR_head h (by omega)
theorem shaN_part {p r x : List UInt8} (h : Taken p r) (hx : p.length % 64 + x.length < 64) : shaN (p ++ x) ((p ++ x).length / 64) = shaN p (p.length / 64) := by
  have e2 : (p ++ x).length / 64 = p.length / 64 := by rw [List.length_append]; omega
  rw [e2]
  exact shaN_ext p x _ (by omega)
theorem Taken.full {p r x : List UInt8} (h : Taken p r) (hx : p.length % 64 + x.length = 64) : Taken (p ++ x) (copyR r (p.length % 64) x) := by
  refine ⟨copyR_length h.1 (by omega), ?_⟩
  have e1 : (p ++ x).length % 64 = 0 := by rw [List.length_append]; omega
  have e2 : (p ++ x).length / 64 * 64 = (p ++ x).length := by omega
  rw [e1, e2]
  simp
theorem shaN_full {p r x : List UInt8} (h : Taken p r) (hx : p.length % 64 + x.length = 64) : shaN (p ++ x) ((p ++ x).length / 64) = comp (shaN p (p.length / 64)) (fun i => (copyR r (p.length % 64) x).getD i 0) := by
  have e2 : (p ++ x).length / 64 = p.length / 64 + 1 := by rw [List.length_append]; omega
  rw [e2]
  show comp _ _ = _
  rw [shaN_ext p x _ (by omega)]
  refine comp_congr _ fun i hi => ?_
  have hh := copyR_head h (by omega : p.length % 64 + x.length ≤ 64)
  rw [hx, List.take_of_length_le (by rw [copyR_length h.1 (by omega)]; exact Nat.le_refl _)] at hh
  rw [hh, List.getD_eq_getElem?_getD, List.getD_eq_getElem?_getD, List.getElem?_drop]
  congr 2
  omega
/-- a hash's cells with a piece copied into 'rest' -/
theorem hashC_copy (s : S8) (r x : List UInt8) (n i m : Nat) (hr : r.length = 64) (hi : i ≤ 64) (hm : m = min x.length (64 - i)) :
    (hashC s r n).take (8 + i) ++ (x.map B).take (64 - i) ++ (hashC s r n).drop (8 + i + m) = hashC s (copyR r i (x.take m)) n := by
  subst hm
  have h8 : (s.list.map U).length = 8 := rfl
  have e1 : (hashC s r n).take (8 + i) = s.list.map U ++ (r.take i).map B := by
    rw [hashC, List.take_append, h8, List.take_of_length_le (by omega)]
    congr 1
    rw [show 8 + i - 8 = i by omega, List.take_append_of_le_length (by simp; omega), List.map_take]
  have e2 : (hashC s r n).drop (8 + i + min x.length (64 - i)) = (r.drop (i + min x.length (64 - i))).map B ++ [.int .u64 (n : Int)] := by
    rw [hashC, List.drop_append, h8, List.drop_of_length_le (by omega), List.nil_append]
    rw [show 8 + i + min x.length (64 - i) - 8 = i + min x.length (64 - i) by omega, List.drop_append_of_le_length (by simp; omega), List.map_drop]
  have e3 : (x.map B).take (64 - i) = (x.take (min x.length (64 - i))).map B := by
    rw [List.map_take]
    by_cases h : x.length ≤ 64 - i
    · rw [Nat.min_eq_left h, List.take_of_length_le (by simpa using h), List.take_of_length_le (by simp)]
    · rw [Nat.min_eq_right (by omega)]
  have e4 : (x.take (min x.length (64 - i))).length = min x.length (64 - i) := by simp
  rw [e1, e2, e3]
  simp only [hashC, copyR, e4, List.map_append, List.append_assoc]
theorem Byts.tail {hf : Hp} {v : Value} {l : List UInt8} (h : Byts hf v l) {lo : Nat} (h1 : lo ≤ l.length) : Byts hf (subS v 1 lo l.length) (l.drop lo) := by
  have := h.sub h1 (Nat.le_refl _)
  rwa [List.take_of_length_le (by simp)] at this
/-- texts that are only read -/
def BytsAll (hf : Hp) (vs : List Value) (ls : List (List UInt8)) : Prop := ∀ (i : Nat) (v : Value) (l : List UInt8), vs[i]? = some v → ls[i]? = some l → Byts hf v l
theorem BytsAll.mono {hf hf' : Hp} {vs : List Value} {ls : List (List UInt8)} (h : BytsAll hf vs ls) (hle : hf.le hf') : BytsAll hf' vs ls := fun i v l h1 h2 => (h i v l h1 h2).mono hle
theorem flatten_take (ls : List (List UInt8)) {i : Nat} {l : List UInt8} (h : ls[i]? = some l) : (ls.take (i + 1)).flatten = (ls.take i).flatten ++ l := by
  rw [List.take_add_one, h]; simp
theorem flatten_le (ls : List (List UInt8)) (i : Nat) : (ls.take i).flatten.length ≤ ls.flatten.length := by
  conv => rhs; rw [← List.take_append_drop i ls, List.flatten_append, List.length_append]
  omega
theorem padded_split (p : List UInt8) : p ++ (prePad [] (zc p.length) ++ l8 (p.length * 8) 8) = padded p := by
  simp [padded, prePad, List.append_assoc]
section ops
variable {P : Program} {S : World} {hf : Hp} {L : Res} {n : Nat} {E : List (Nat × Value)} {a : Act} {w : World} {v u : Value} {b o : Nat}
  {dst : Option Tmp} {ty : TypeId} {pos : String} {after : Array Edge} {g : Option (Nat × Bool)} {x y : Operand} {T : TypeId} {k : IntKind} {m : Int}
theorem p_sliceT {e : TypeId} {q : Nat} {z : Operand} {l : List UInt8} (hT : P.underlying T = some (.slice e)) (hs : ∀ w, (sizeOf e).run P w = .ok 1 w) (h : St S hf L n E a w) (hx : ev E x = some v)
    (hz : ev E z = some (.int k m)) (hv : Byts hf v l) (hm : m = (q : Int)) (h2 : q ≤ l.length) :
    Pure P ⟨dst, .slice T x (some z) none none, ty, pos, after, g⟩ a w (subS v 1 q l.length) := by
  rcases hv.2 with ⟨⟨a0, c0, rfl, _⟩, h0⟩ | ⟨b, o, cap, rfl, h3, _, _⟩
  · have hl : l.length = 0 := h0
    exact p_slice (lo := q) (hi := l.length) hT hs h hx ⟨k, m, hz, hm⟩ (by simpa using hl) h2 (by omega)
  · exact p_slice (lo := q) (hi := l.length) hT hs h hx ⟨k, m, hz, hm⟩ rfl h2 h3
end ops
end Go.Own
