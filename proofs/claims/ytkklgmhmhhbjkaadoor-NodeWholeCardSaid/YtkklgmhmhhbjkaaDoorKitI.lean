/-
  OWN LIBRARY, part 9: one part of what is owned made memory that stays; append to a full row; texts that are marked, one list of blocks.
-/
import Derived.Test.YtkklgmhmhhbjkaaDoorKitG
namespace Go.Own
open Go

section freeze
variable {S : World} {hf : Hp} {L1 L2 : Res} {n : Nat} {E : List (Nat × Value)} {a : Act} {w : World}
/-- the right part becomes memory that stays -/
theorem St.freezeR (h : St S hf (L1 ++ L2) n E a w) : ∃ hf', hf.le hf' ∧ (∀ b o, (b, o) ∈ L2 → hf' b = some o) ∧ (∀ L' w', Owns S hf' L' w' → Owns S hf (L' ++ L2) w') ∧ St S hf' L1 n E a w :=
  ⟨hf.with L2, h.own.le_with, fun _ _ m => h.own.inM m, fun _ _ h' => Owns.back (L0 := L1) h.own h', ⟨h.env, h.own.lend⟩⟩
/-- the left part -/
theorem St.freezeL (h : St S hf (L1 ++ L2) n E a w) : ∃ hf', hf.le hf' ∧ (∀ b o, (b, o) ∈ L1 → hf' b = some o) ∧ (∀ L' w', Owns S hf' L' w' → Owns S hf (L' ++ L1) w') ∧ St S hf' L2 n E a w :=
  (h.perm List.perm_append_comm).freezeR
theorem Owns.none {w : World} {L : Res} (h : Owns S hf L w) : Owns S hf [] w := h.sub (List.nil_sublist _)
theorem Vec.sl {T : TypeId} {s n : Nat} {v : Value} {xs : List Value} {Lv : Res} (hv : Vec T s v n xs Lv) (hb : ∀ b o, (b, o) ∈ Lv → hf b = some o) : Sl hf s v n xs := by
  refine ⟨hv.1, ?_⟩
  rcases hv.2 with ⟨rfl, rfl, rfl⟩ | ⟨b, cap, rest, rfl, rfl, hn, hc, hrl⟩
  · exact .inl ⟨⟨_, _, rfl, Nat.zero_le _⟩, rfl⟩
  · refine .inr ⟨b, 0, cap, rfl, hn, hc, fun i x hx => ⟨_, _, _, hb b _ (List.mem_singleton.2 rfl), ?_⟩⟩
    have hi : i < xs.length := (List.getElem?_eq_some_iff.1 hx).1
    simp [List.getElem?_append_left hi, hx]
end freeze

section grow
variable {P : Program} {S : World} {hf : Hp} {L : Res} {n : Nat} {E : List (Nat × Value)} {a : Act} {w : World} {v u : Value} {b o : Nat}
  {dst : Option Tmp} {ty : TypeId} {pos : String} {after : Array Edge} {g : Option (Nat × Bool)} {x y : Operand} {T : TypeId}
theorem p_idxS1 {k : IntKind} {m : Int} {l : Nat} {cs : List Value} {e : TypeId} {j : Nat} (hT : P.underlying T = some (.slice e)) (hs : ∀ w, (sizeOf e).run P w = .ok 1 w) (h : St S hf L n E a w) (hx : ev E x = some v) (hi : ev E y = some (.int k m)) (hS : Sl hf 1 v l cs) (hj : m = (j : Int)) (hlt : j < l) :
    Pure P ⟨dst, .indexAddr T x y, ty, pos, after, g⟩ a w (ptr (sBlk v) (sOff v + j)) := by
  have := p_idxS (dst := dst) (ty := ty) (pos := pos) (after := after) (g := g) hT hs h hx hi hS hj hlt
  simpa using this
/-- append behind a row that is full: a new row, the old one is left alone -/
theorem o_appendG {e : TypeId} {inf : TypeInfo} {z : Value} {s l q : Nat} {xs news ys : List Value} (hT : P.underlying T = some (.slice e)) (hi : P.info? e = some inf) (hz : inf.zero = some z) (hs : inf.size = s) (hzs : z.cells.size = s)
    (h : St S hf L n E a w) (hx : ev E x = some (slc b o l l)) (hxc : Cels S hf L b o xs) (hxl : xs.length = l * s) (hy : ev E y = some u) (hu : Src S hf L u q news) (hq : 0 < q) (hlen : news.length = q * s)
    (h63 : l + q ≤ maxLen) (hb : (l + q) * inf.bytes ≤ 140737488355328) (hys : xs ++ news = ys) :
    OpT P ⟨dst, .call { callee := .builtin .append, args := #[x, y], argTypes := #[T, T] }, ty, pos, after, g⟩ a.eval w
      (Out S hf (fun y : Nat × Nat × List Value => slc y.1 0 (l + q) y.2.1) (fun y => (y.1, row e (ys ++ y.2.2)) :: L) (fun y => l + q ≤ y.2.1 ∧ y.2.1 ≤ maxLen ∧ (ys ++ y.2.2).length = y.2.1 * s)) := by
  subst hs hys
  have hsmall : l + q ≤ 9223372036854775807 := by simp only [maxLen] at h63; omega
  have hlen2 : (xs ++ news).length = (l + q) * inf.size := by rw [List.length_append, hxl, hlen, Nat.add_mul]
  rcases hu with ⟨⟨a0, c0, rfl⟩, rfl, rfl⟩ | ⟨sb, so, sc, rfl, hcels⟩
  · omega
  · have hnews := hcels.at h.own
    have holds : ∀ j u, xs[j]? = some u → w.cell? ((⟨b, o, none⟩ : Addr).add j) = some u := fun j u hj => by
      rw [Addr.add_at]
      exact hxc j u hj w h.own
    have hr := run_append_grow (P := P) w T ty e inf z hT hi hz ⟨b, o, none⟩ l l xs hxl holds ⟨sb, so, none⟩ q sc news hlen hnews (by omega) (by omega) (growslice_fits (by omega) hb)
    have hge := grownCap_ge w (l + q) l e
    have hcm : grownCap w (l + q) l e ≤ maxLen := grownCap_le_maxLen w (l + q) l e h63
    have rowEq : ∀ (A B : List Value) (C : Array Value), (row e (A ++ B ++ C.toList)) = .cells (A.toArray ++ B.toArray ++ C) e := by
      intro A B C; simp [row]
    have r2 : (execOp a.eval ⟨dst, .call { callee := .builtin .append, args := #[x, y], argTypes := #[T, T] }, ty, pos, after, g⟩).run P w =
        .ok (.value (slc w.heap.size 0 (l + q) (grownCap w (l + q) l e))) (w.drew.alloc (row e ((xs ++ news) ++ (Builtin.zeroCells z.cells (grownCap w (l + q) l e - (l + q))).toList))) := by
      rw [rowEq]
      simp [execOp, resolve, invoke, builtin, h.env.ev hx, h.env.ev hy, hr]
    unfold OpT
    rw [r2]
    refine ⟨(w.heap.size, grownCap w (l + q) l e, (Builtin.zeroCells z.cells (grownCap w (l + q) l e - (l + q))).toList), rfl, (h.own.drew).alloc _, hge, hcm, ?_⟩
    rw [List.length_append, hlen2, Array.length_toList, size_zeroCells, hzs, ← Nat.add_mul]
    congr 1
    show l + q + (grownCap w (l + q) l e - (l + q)) = grownCap w (l + q) l e
    omega
end grow

def byteAt (m : Int) : UInt8 := UInt8.ofNat (m % 256).toNat
theorem byteAt_conv (m : Int) : IntKind.u8.wrap m = ((byteAt m).toNat : Int) := conv_u8 m
/-- a text's own marks -/
def marks (k n : Nat) : List UInt8 := (List.range n).map fun (i : Nat) => byteAt (41 * (k : Int) + 7 * (i : Int) + 1)
@[simp] theorem marks_length (k n : Nat) : (marks k n).length = n := by simp [marks]
def markS (k : Nat) (l : List UInt8) (i : Nat) : List UInt8 := (marks k l.length).take i ++ l.drop i
theorem markS_length (k : Nat) (l : List UInt8) {i : Nat} (h : i ≤ l.length) : (markS k l i).length = l.length := by simp [markS]; omega
theorem markS_zero (k : Nat) (l : List UInt8) : markS k l 0 = l := by simp [markS]
theorem markS_end (k : Nat) (l : List UInt8) {i : Nat} (h : l.length ≤ i) : markS k l i = marks k l.length := by
  simp [markS, List.drop_of_length_le h, List.take_of_length_le, h]
theorem take_drop_step {α : Type} (m l : List α) (i : Nat) (x : α) (hl : i < l.length) (hm : m[i]? = some x) : (m.take i ++ l.drop i).set i x = m.take (i + 1) ++ l.drop (i + 1) := by
  have hml : i < m.length := (List.getElem?_eq_some_iff.1 hm).1
  rw [List.set_append_right _ _ (by simp; omega)]
  have e : i - (m.take i).length = 0 := by simp; omega
  rw [e, List.drop_eq_getElem_cons hl, List.set_cons_zero, List.take_add_one, hm]
  simp
theorem markS_step (k : Nat) (l : List UInt8) {i : Nat} (h : i < l.length) : (markS k l i).set i (byteAt (41 * (k : Int) + 7 * (i : Int) + 1)) = markS k l (i + 1) :=
  take_drop_step _ _ _ _ h (by simp [marks, h])
def tailS (k i : Nat) : List UInt8 := (List.replicate 70 (byteAt (200 + (k : Int)))).take i ++ (List.replicate 70 (0 : UInt8)).drop i
theorem tailS_length (k : Nat) {i : Nat} (h : i ≤ 70) : (tailS k i).length = 70 := by simp [tailS]; omega
theorem tailS_zero (k : Nat) : (tailS k 0).map B = List.replicate 70 (.int .u8 0) := by
  simp only [tailS, List.take_zero, List.drop_zero, List.nil_append, List.map_replicate]
  rfl
theorem tailS_end (k : Nat) {i : Nat} (h : 70 ≤ i) : tailS k i = List.replicate 70 (byteAt (200 + (k : Int))) := by
  unfold tailS
  rw [List.take_of_length_le (by simpa using h), List.drop_of_length_le (by simpa using h), List.append_nil]
theorem tailS_step (k : Nat) {i : Nat} (h : i < 70) : (tailS k i).set i (byteAt (200 + (k : Int))) = tailS k (i + 1) :=
  take_drop_step _ _ _ _ (by simpa using h) (by rw [List.getElem?_replicate, if_pos h])

/-- a list of texts, each in a block of its own, its row full -/
def Lof (T : TypeId) (es : List (Nat × List UInt8)) : Res := es.map fun e => (e.1, row T (e.2.map B))
def vof (es : List (Nat × List UInt8)) : List Value := es.map fun e => slc e.1 0 e.2.length e.2.length
@[simp] theorem vof_length (es : List (Nat × List UInt8)) : (vof es).length = es.length := by simp [vof]
theorem Lof_drop {T : TypeId} {es : List (Nat × List UInt8)} {k b : Nat} {l : List UInt8} (h : es[k]? = some (b, l)) : Lof T (es.drop k) = [(b, row T (l.map B))] ++ Lof T (es.drop (k + 1)) := by
  obtain ⟨hk, e⟩ := List.getElem?_eq_some_iff.1 h
  rw [List.drop_eq_getElem_cons hk, e]
  rfl
theorem vof_get {es : List (Nat × List UInt8)} {k b : Nat} {l : List UInt8} (h : es[k]? = some (b, l)) : (vof es)[k]? = some (slc b 0 l.length l.length) := by
  simp [vof, h]
/-- what the list's first k texts are, all of them marked -/
def Marked (hf : Hp) (es : List (Nat × List UInt8)) (k : Nat) : Prop := ∀ (j b : Nat) (l : List UInt8), es[j]? = some (b, l) → j < k → Byts hf (slc b 0 l.length l.length) (marks j l.length)
theorem Marked.zero {hf : Hp} {es : List (Nat × List UInt8)} : Marked hf es 0 := fun _ _ _ _ h => absurd h (Nat.not_lt_zero _)
theorem Marked.mono {hf hf' : Hp} {es : List (Nat × List UInt8)} {k : Nat} (h : Marked hf es k) (hle : hf.le hf') : Marked hf' es k := fun j b l he hj => (h j b l he hj).mono hle
theorem Marked.succ {hf : Hp} {es : List (Nat × List UInt8)} {k b : Nat} {l : List UInt8} (h : Marked hf es k) (he : es[k]? = some (b, l)) (hb : Byts hf (slc b 0 l.length l.length) (marks k l.length)) : Marked hf es (k + 1) := fun j b' l' he' hj => by
  by_cases hjk : j = k
  · subst hjk
    rw [he] at he'
    cases he'
    exact hb
  · exact h j b' l' he' (by omega)
/-- the longer texts -/
def Longer (hf : Hp) (es : List (Nat × List UInt8)) (ms : List Value) (k : Nat) : Prop :=
  ∀ (j b : Nat) (l : List UInt8), es[j]? = some (b, l) → j < k → ∃ u, ms[j]? = some u ∧ Byts hf u (marks j l.length ++ List.replicate 70 (byteAt (200 + (j : Int))))
theorem Longer.zero {hf : Hp} {es : List (Nat × List UInt8)} {ms : List Value} : Longer hf es ms 0 := fun _ _ _ _ h => absurd h (Nat.not_lt_zero _)
theorem Longer.mono {hf hf' : Hp} {es : List (Nat × List UInt8)} {ms : List Value} {k : Nat} (h : Longer hf es ms k) (hle : hf.le hf') : Longer hf' es ms k := fun j b l he hj => by
  obtain ⟨u, h1, h2⟩ := h j b l he hj
  exact ⟨u, h1, h2.mono hle⟩
theorem Longer.succ {hf : Hp} {es : List (Nat × List UInt8)} {ms : List Value} {k b : Nat} {l : List UInt8} {u : Value} (h : Longer hf es ms k) (hl : ms.length = k) (he : es[k]? = some (b, l))
    (hb : Byts hf u (marks k l.length ++ List.replicate 70 (byteAt (200 + (k : Int))))) : Longer hf es (ms ++ [u]) (k + 1) := fun j b' l' he' hj => by
  by_cases hjk : j = k
  · subst hjk
    rw [he] at he'
    cases he'
    exact ⟨u, by rw [List.getElem?_append_right (by omega)]; simp [hl], hb⟩
  · obtain ⟨u', h1, h2⟩ := h j b' l' he' (by omega)
    exact ⟨u', by rw [List.getElem?_append_left (by omega)]; exact h1, h2⟩

/-! ### bytes turned over; a kid under another key; blocks picked out -/
def notB (l : List UInt8) : List UInt8 := l.map fun x => ~~~x
@[simp] theorem notB_length (l : List UInt8) : (notB l).length = l.length := by simp [notB]
def notS (l : List UInt8) (i : Nat) : List UInt8 := (notB l).take i ++ l.drop i
theorem notS_length (l : List UInt8) {i : Nat} (h : i ≤ l.length) : (notS l i).length = l.length := by simp [notS]; omega
theorem notS_zero (l : List UInt8) : notS l 0 = l := by simp [notS]
theorem notS_end (l : List UInt8) {i : Nat} (h : l.length ≤ i) : notS l i = notB l := by
  simp [notS, List.drop_of_length_le h, List.take_of_length_le, h]
theorem notS_step (l : List UInt8) {i : Nat} (h : i < l.length) : (notS l i).set i (~~~l[i]) = notS l (i + 1) :=
  take_drop_step _ _ _ _ h (by simp [notB, h])
theorem notS_get (l : List UInt8) {i : Nat} (h : i < l.length) : (notS l i)[i]? = some l[i] := by
  have e : ((notB l).take i).length = i := by simp; omega
  rw [notS, List.getElem?_append_right (by omega), e]
  simp [h]
theorem notS_at (l r : List UInt8) (rest : List Value) {i : Nat} (h : i < l.length) : ((notS l i ++ r).map B ++ rest)[i]? = some (B l[i]) := by
  have h1 : i < (notS l i).length := by rw [notS_length l (by omega)]; exact h
  rw [List.getElem?_append_left (by simp; omega), List.getElem?_map, List.getElem?_append_left h1, notS_get l h]
  rfl
theorem notS_at0 (l : List UInt8) {i : Nat} (h : i < l.length) : ((notS l i).map B)[i]? = some (B l[i]) := by
  rw [List.getElem?_map, notS_get l h]
  rfl
theorem notS_set (l r : List UInt8) (rest : List Value) {i : Nat} (h : i < l.length) : ((notS l i ++ r).map B ++ rest).set i (B (~~~l[i])) = (notS l (i + 1) ++ r).map B ++ rest := by
  have h1 : i < (notS l i).length := by rw [notS_length l (by omega)]; exact h
  rw [List.set_append_left _ _ (by simp; omega), ← List.map_set, List.set_append_left _ _ h1, notS_step l h]
theorem notS_set0 (l : List UInt8) {i : Nat} (h : i < l.length) : ((notS l i).map B).set i (B (~~~l[i])) = (notS l (i + 1)).map B := by
  rw [← List.map_set, notS_step l h]
theorem notS_fit (l r : List UInt8) (rest : List Value) {i : Nat} (h : i < l.length) : i < ((notS l i ++ r).map B ++ rest).length := by
  have h1 : i < (notS l i).length := by rw [notS_length l (by omega)]; exact h
  simp only [List.length_append, List.length_map]; omega
theorem notS_fit0 (l : List UInt8) {i : Nat} (h : i < l.length) : i < ((notS l i).map B).length := by
  rw [List.length_map, notS_length l (by omega)]; exact h
theorem compl_u8 (x : UInt8) : bits .xor .u8 (if IntKind.u8.signed then -1 else IntKind.u8.max) (x.toNat : Int) = ((~~~x).toNat : Int) := by
  have h : ∀ n : Fin 256, bits .xor .u8 255 ((n.val : Nat) : Int) = (((~~~(UInt8.ofNat n.val)).toNat : Nat) : Int) := by decide +kernel
  have := h ⟨x.toNat, x.toNat_lt⟩
  have e : (if IntKind.u8.signed then -1 else IntKind.u8.max) = (255 : Int) := by decide
  rw [e]
  simpa using this
theorem headB (l m : List UInt8) (rest : List Value) : (((l ++ m).map B ++ rest).drop 0).take l.length = l.map B := by
  rw [List.drop_zero, List.map_append, List.append_assoc, List.take_left' (by rw [List.length_map])]
theorem wholeB (l : List UInt8) (rest : List Value) : ((l.map B ++ rest).drop 0).take l.length = l.map B := by
  rw [List.drop_zero, List.take_left' (by rw [List.length_map])]
theorem wholeB0 (l : List UInt8) : ((l.map B).drop 0).take l.length = l.map B := by
  rw [List.drop_zero, List.take_of_length_le (by rw [List.length_map]; exact Nat.le_refl _)]
def KidV.rekey (k : KidV) (v : Value) : KidV := { k with key := v }
theorem KidV.Ok.rekey {hf hf' : Hp} {k : KidV} {kb kb' : List UInt8} {v : Value} (h : k.Ok hf kb) (hv : Byts hf' v kb') : (k.rekey v).Ok hf' kb' := ⟨h.sum, h.label, h.cnt, h.lvl, hv⟩
theorem KidV.rekey_length (k : KidV) (v : Value) : (k.rekey v).cells.length = k.cells.length := rfl
section pick
variable {S : World} {hf hf' : Hp} {L : Res} {n : Nat} {E : List (Nat × Value)} {a : Act} {w : World}
theorem St.re {L' : Res} (h : St S hf L n E a w) (ho : Owns S hf' L' w) : St S hf' L' n E a w := ⟨h.env, ho⟩
theorem Owns.pick (h : Owns S hf L w) (is : List Nat) (hd : is.Nodup) {xs : Res} (hx : is.map (L[·]?) = xs.map some) : Owns S hf xs w := by
  have hm : ∀ (j : Nat) (x : Nat × Obj), xs[j]? = some x → ∃ i : Nat, is[j]? = some i ∧ L[i]? = some x := by
    intro j x hj
    have h1 : (is.map (L[·]?))[j]? = some (some x) := by rw [hx, List.getElem?_map, hj]; rfl
    rw [List.getElem?_map, Option.map_eq_some_iff] at h1
    exact h1
  have hmem : ∀ x, x ∈ xs → x ∈ L := fun x hx => by
    obtain ⟨j, hj⟩ := List.getElem?_of_mem hx
    obtain ⟨i, _, hi⟩ := hm j x hj
    exact List.mem_of_getElem? hi
  refine ⟨h.os, h.tape, h.output, h.old, fun b o m => h.own b o (hmem _ m), fun b o m => h.apart b o (hmem _ m), ?_⟩
  have hnd := h.nodup
  unfold List.Nodup at hnd hd ⊢
  rw [List.pairwise_iff_getElem] at hnd hd ⊢
  intro j1 j2 hj1 hj2 hlt he
  simp only [List.length_map] at hj1 hj2
  simp only [List.getElem_map] at he
  obtain ⟨i1, a1, b1⟩ := hm j1 xs[j1] (List.getElem?_eq_getElem hj1)
  obtain ⟨i2, a2, b2⟩ := hm j2 xs[j2] (List.getElem?_eq_getElem hj2)
  obtain ⟨ha1, a1⟩ := List.getElem?_eq_some_iff.1 a1
  obtain ⟨ha2, a2⟩ := List.getElem?_eq_some_iff.1 a2
  obtain ⟨hb1, b1⟩ := List.getElem?_eq_some_iff.1 b1
  obtain ⟨hb2, b2⟩ := List.getElem?_eq_some_iff.1 b2
  have hne : i1 ≠ i2 := fun e => hd j1 j2 ha1 ha2 hlt (by rw [a1, a2, e])
  rcases Nat.lt_or_gt_of_ne hne with hlt' | hlt'
  · exact hnd i1 i2 (by simpa using hb1) (by simpa using hb2) hlt' (by simp only [List.getElem_map, b1, b2, he])
  · exact hnd i2 i1 (by simpa using hb2) (by simpa using hb1) hlt' (by simp only [List.getElem_map, b1, b2, he])
theorem St.pick (h : St S hf L n E a w) (is : List Nat) (hd : is.Nodup) {xs : Res} (hx : is.map (L[·]?) = xs.map some) : St S hf xs n E a w := ⟨h.env, h.own.pick is hd hx⟩
end pick
end Go.Own
