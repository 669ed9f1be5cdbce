/-
  OWN LIBRARY, part 1: worlds described by what must stay ('hf') and by the blocks that are owned ('L'); frames described by a list of slots; the local judgement 'OpT' on one operation; the rules of control.
-/
import Derived.WalkKit
import Derived.OrdersHeld
import Derived.Deep.Quiet
namespace Go.Own
open Go

abbrev Hp := Nat → Option Obj
abbrev Res := List (Nat × Obj)

def findB : Res → Nat → Option Obj
  | [], _ => none
  | (b, o) :: r, k => if b = k then some o else findB r k

/-- the memory 'hf' with the blocks of 'L' laid over it -/
def Hp.with (hf : Hp) (L : Res) : Hp := fun k => match findB L k with | some o => some o | none => hf k
def Hp.le (h h' : Hp) : Prop := ∀ b o, h b = some o → h' b = some o
theorem Hp.le_refl (h : Hp) : h.le h := fun _ _ e => e
theorem Hp.le_trans {a b c : Hp} (h : a.le b) (k : b.le c) : a.le c := fun x o e => k x o (h x o e)

theorem findB_mem {L : Res} {k : Nat} {o : Obj} (h : findB L k = some o) : (k, o) ∈ L := by
  induction L with
  | nil => cases h
  | cons x r ih =>
    obtain ⟨b, u⟩ := x
    simp only [findB] at h
    split at h
    · rename_i e; subst e; cases h; exact List.mem_cons_self
    · exact List.mem_cons_of_mem _ (ih h)
theorem findB_none {L : Res} {k : Nat} (h : k ∉ L.map (·.1)) : findB L k = none := by
  induction L with
  | nil => rfl
  | cons x r ih =>
    obtain ⟨b, u⟩ := x
    simp only [List.map_cons, List.mem_cons, not_or] at h
    simp only [findB]
    rw [if_neg (fun e => h.1 e.symm)]
    exact ih h.2
theorem findB_of_mem {L : Res} {k : Nat} {o : Obj} (hn : (L.map (·.1)).Nodup) (h : (k, o) ∈ L) : findB L k = some o := by
  induction L with
  | nil => cases h
  | cons x r ih =>
    obtain ⟨b, u⟩ := x
    simp only [List.map_cons, List.nodup_cons] at hn
    simp only [findB]
    cases List.mem_cons.1 h with
    | inl e => cases e; simp
    | inr e =>
      rw [if_neg (fun eb => hn.1 (by subst eb; exact List.mem_map.2 ⟨_, e, rfl⟩))]
      exact ih hn.2 e

structure Owns (S : World) (hf : Hp) (L : Res) (w : World) : Prop where
  os : w.os = S.os
  tape : w.tape = S.tape
  output : w.output = S.output
  old : ∀ b o, hf b = some o → w.heap[b]? = some o
  own : ∀ b o, (b, o) ∈ L → w.heap[b]? = some o
  apart : ∀ b o, (b, o) ∈ L → hf b = none
  nodup : (L.map (·.1)).Nodup

section owns
variable {S : World} {hf : Hp} {L L1 L2 : Res} {w : World}

theorem Owns.drew (h : Owns S hf L w) : Owns S hf L w.drew := ⟨h.os, h.tape, h.output, h.old, h.own, h.apart, h.nodup⟩

theorem Owns.perm (h : Owns S hf L1 w) (p : L1.Perm L2) : Owns S hf L2 w :=
  ⟨h.os, h.tape, h.output, h.old, fun b o m => h.own b o (p.mem_iff.2 m), fun b o m => h.apart b o (p.mem_iff.2 m), (p.map _).nodup_iff.1 h.nodup⟩

theorem Owns.sub (h : Owns S hf L1 w) (p : L2.Sublist L1) : Owns S hf L2 w :=
  ⟨h.os, h.tape, h.output, h.old, fun b o m => h.own b o (p.subset m), fun b o m => h.apart b o (p.subset m), (p.map _).nodup h.nodup⟩

theorem Owns.le_with (h : Owns S hf (L1 ++ L2) w) : hf.le (hf.with L2) := fun b o e => by
  unfold Hp.with
  cases hx : findB L2 b with
  | none => exact e
  | some u =>
    have := h.apart b u (List.mem_append_right _ (findB_mem hx))
    rw [this] at e; cases e

/-- owned blocks are counted among what must stay -/
theorem Owns.lend (h : Owns S hf (L1 ++ L2) w) : Owns S (hf.with L2) L1 w := by
  refine ⟨h.os, h.tape, h.output, fun b o e => ?_, fun b o m => h.own b o (List.mem_append_left _ m), fun b o m => ?_, ?_⟩
  · unfold Hp.with at e
    cases hx : findB L2 b with
    | none => rw [hx] at e; exact h.old b o e
    | some u => rw [hx] at e; cases e; exact h.own b _ (List.mem_append_right _ (findB_mem hx))
  · have hn := h.nodup
    rw [List.map_append, List.nodup_append] at hn
    have : b ∉ L2.map (·.1) := fun hb => hn.2.2 b (List.mem_map.2 ⟨_, m, rfl⟩) b hb rfl
    unfold Hp.with
    rw [findB_none this]
    exact h.apart b o (List.mem_append_left _ m)
  · have hn := h.nodup
    rw [List.map_append, List.nodup_append] at hn
    exact hn.1

theorem Hp.with_mem (hn : (L2.map (·.1)).Nodup) {b : Nat} {o : Obj} (h : (b, o) ∈ L2) : hf.with L2 b = some o := by
  unfold Hp.with
  rw [findB_of_mem hn h]

theorem Owns.nodup_right (h : Owns S hf (L1 ++ L2) w) : (L2.map (·.1)).Nodup := by
  have hn := h.nodup
  rw [List.map_append, List.nodup_append] at hn
  exact hn.2.1

/-- .. and back -/
theorem Owns.back {L0 : Res} {w0 : World} (h0 : Owns S hf (L0 ++ L2) w0) (h : Owns S (hf.with L2) L1 w) : Owns S hf (L1 ++ L2) w := by
  have hn2 := h0.nodup_right
  have hle := h0.le_with
  refine ⟨h.os, h.tape, h.output, fun b o e => h.old b o (hle b o e), fun b o m => ?_, fun b o m => ?_, ?_⟩
  · cases List.mem_append.1 m with
    | inl m => exact h.own b o m
    | inr m => exact h.old b o (Hp.with_mem hn2 m)
  · cases List.mem_append.1 m with
    | inl m =>
      have e := h.apart b o m
      unfold Hp.with at e
      cases hx : findB L2 b with
      | none => rw [hx] at e; exact e
      | some u => rw [hx] at e; cases e
    | inr m => exact h0.apart b o (List.mem_append_right _ m)
  · rw [List.map_append, List.nodup_append]
    refine ⟨h.nodup, hn2, fun a ha b hb hab => ?_⟩
    subst hab
    obtain ⟨⟨k, o⟩, m, rfl⟩ := List.mem_map.1 ha
    obtain ⟨⟨k2, o2⟩, m2, e2⟩ := List.mem_map.1 hb
    simp only at e2
    subst e2
    have e := h.apart k2 o m
    rw [Hp.with_mem hn2 m2] at e
    cases e

theorem Owns.fresh (h : Owns S hf L w) : hf w.heap.size = none := by
  cases hx : hf w.heap.size with
  | none => rfl
  | some o => have := h.old _ _ hx; simp at this

theorem Owns.alloc (h : Owns S hf L w) (o : Obj) : Owns S hf ((w.heap.size, o) :: L) (w.alloc o) := by
  have up : ∀ b u, w.heap[b]? = some u → (w.alloc o).heap[b]? = some u := fun b u e => by
    have hb : b < w.heap.size := (Array.getElem?_eq_some_iff.1 e).1
    show (w.heap.push o)[b]? = _
    rw [Array.getElem?_push, if_neg (by omega)]; exact e
  refine ⟨h.os, h.tape, h.output, fun b u e => up b u (h.old b u e), fun b u m => ?_, fun b u m => ?_, ?_⟩
  · cases List.mem_cons.1 m with
    | inl e => cases e; show (w.heap.push o)[w.heap.size]? = _; simp
    | inr e => exact up b u (h.own b u e)
  · cases List.mem_cons.1 m with
    | inl e => cases e; exact h.fresh
    | inr e => exact h.apart b u e
  · simp only [List.map_cons, List.nodup_cons]
    refine ⟨fun hm => ?_, h.nodup⟩
    obtain ⟨⟨k, u⟩, m, e⟩ := List.mem_map.1 hm
    simp only at e
    have hb : k < w.heap.size := (Array.getElem?_eq_some_iff.1 (h.own k u m)).1
    omega

/-- one owned block is written over -/
theorem Owns.put (h : Owns S hf L w) {k b : Nat} {o o' : Obj} (hk : L[k]? = some (b, o)) {w' : World} (h1 : w'.os = w.os) (h2 : w'.tape = w.tape) (h3 : w'.output = w.output)
    (h4 : w'.heap[b]? = some o') (h5 : ∀ c, c ≠ b → w'.heap[c]? = w.heap[c]?) : Owns S hf (L.set k (b, o')) w' := by
  have hmem : (b, o) ∈ L := List.mem_of_getElem? hk
  have hkl : k < L.length := (List.getElem?_eq_some_iff.1 hk).1
  have hmap : (L.set k (b, o')).map (·.1) = L.map (·.1) := by
    rw [List.map_set]
    apply List.ext_getElem?
    intro i
    by_cases hi : k = i
    · subst hi
      have h2 : (L.map (·.1))[k]? = some b := by rw [List.getElem?_map, hk]; rfl
      rw [List.getElem?_set_self (by simpa using hkl), h2]
    · rw [List.getElem?_set_ne hi]
  have hn : ((L.set k (b, o')).map (·.1)).Nodup := by rw [hmap]; exact h.nodup
  have m2 : (b, o') ∈ L.set k (b, o') := List.mem_of_getElem? (i := k) (by rw [List.getElem?_set_self hkl])
  refine ⟨h1.trans h.os, h2.trans h.tape, h3.trans h.output, fun c u e => ?_, fun c u m => ?_, fun c u m => ?_, hn⟩
  · have hne : c ≠ b := fun e2 => by subst e2; rw [h.apart c o hmem] at e; cases e
    rw [h5 c hne]; exact h.old c u e
  · by_cases hc : c = b
    · subst hc
      have e1 := findB_of_mem hn m
      have e2 := findB_of_mem hn m2
      rw [e1] at e2; cases e2
      exact h4
    · rw [h5 c hc]
      cases List.mem_or_eq_of_mem_set m with
      | inl e => exact h.own c u e
      | inr e => cases e; exact absurd rfl hc
  · cases List.mem_or_eq_of_mem_set m with
    | inl e => exact h.apart c u e
    | inr e => cases e; exact h.apart _ o hmem
theorem Owns.setRow (h : Owns S hf L w) {k b : Nat} {cs cs' : Array Value} {T : TypeId} {fr : Nat × Nat} (hk : L[k]? = some (b, .cells cs T fr)) : Owns S hf (L.set k (b, .cells cs' T fr)) (w.setRow b cs') :=
  h.put hk rfl rfl rfl (setRow_heap w b cs cs' T fr (h.own b _ (List.mem_of_getElem? hk))) (fun c hc => setRow_other w b c cs' hc)

/-- what is counted among what stays, seen anew -/
theorem Owns.freeze (h : Owns S hf (L1 ++ L2) w) : Owns S (hf.with L2) L1 w ∧ hf.le (hf.with L2) ∧ (∀ b o, (b, o) ∈ L2 → hf.with L2 b = some o) :=
  ⟨h.lend, h.le_with, fun _ _ m => Hp.with_mem h.nodup_right m⟩
theorem Owns.weaken {hf' : Hp} (h : Owns S hf' L w) (hle : hf.le hf') : Owns S hf L w :=
  ⟨h.os, h.tape, h.output, fun b o e => h.old b o (hle b o e), h.own, fun b o m => (by
    cases hx : hf b with
    | none => rfl
    | some u => have := hle b u hx; rw [h.apart b o m] at this; cases this), h.nodup⟩

end owns

/-! ### frames -/
def look : List (Nat × Value) → Nat → Option Value
  | [], _ => none
  | (k, v) :: r, t => cond (Nat.beq k t) (some v) (look r t)
def ev (E : List (Nat × Value)) : Operand → Option Value
  | .tmp t => look E t
  | .const v => some v
  | .global g => some (.pointer (some ⟨g, 0, none⟩))
  | .func f => some (.func (.func f) #[] #[])
def evs (E : List (Nat × Value)) : List Operand → Option (List Value)
  | [] => some []
  | x :: r => match ev E x, evs E r with
    | some v, some l => some (v :: l)
    | _, _ => none
def subs (E : List (Nat × Value)) : List (Nat × Value) → Prop
  | [] => True
  | (t, v) :: r => look E t = some v ∧ subs E r

structure Env (a : Act) (n : Nat) (E : List (Nat × Value)) : Prop where
  defers : a.defers = []
  size : a.tmps.size = n
  get : ∀ t v, look E t = some v → a.tmps[t]? = some v

theorem look_cons_self (t : Nat) (v : Value) (E : List (Nat × Value)) : look ((t, v) :: E) t = some v := by
  simp [look]
theorem look_cons_ne {k t : Nat} (h : k ≠ t) (v : Value) (E : List (Nat × Value)) : look ((k, v) :: E) t = look E t := by
  have : Nat.beq k t = false := by
    cases hb : Nat.beq k t with
    | false => rfl
    | true => exact absurd (Nat.eq_of_beq_eq_true hb) h
  simp [look, this]
theorem look_mem {E : List (Nat × Value)} {t : Nat} {v : Value} (h : look E t = some v) : (t, v) ∈ E := by
  induction E with
  | nil => cases h
  | cons x r ih =>
    obtain ⟨k, u⟩ := x
    by_cases hk : k = t
    · subst hk; rw [look_cons_self] at h; cases h; exact List.mem_cons_self
    · rw [look_cons_ne hk] at h; exact List.mem_cons_of_mem _ (ih h)
theorem subs_mem {E E' : List (Nat × Value)} (h : subs E E') : ∀ t v, (t, v) ∈ E' → look E t = some v := by
  induction E' with
  | nil => intro t v m; cases m
  | cons x r ih =>
    obtain ⟨k, u⟩ := x
    intro t v m
    cases List.mem_cons.1 m with
    | inl e => cases e; exact h.1
    | inr e => exact ih h.2 t v e

theorem Env.put {a : Act} {n : Nat} {E : List (Nat × Value)} (h : Env a n E) {d : Nat} (hd : Nat.blt d n = true) (v : Value) : Env (a.put (some d) v) n ((d, v) :: E) := by
  have hd' : d < a.tmps.size := by rw [h.size]; exact Nat.le_of_ble_eq_true hd
  refine ⟨h.defers, by simp [Act.put, h.size], fun t u e => ?_⟩
  by_cases hk : d = t
  · subst hk
    rw [look_cons_self] at e; cases e
    simp [Act.put, hd']
  · rw [look_cons_ne hk] at e
    simp only [Act.put]
    rw [Array.getElem?_setIfInBounds_ne hk]
    exact h.get t u e
theorem Env.weaken {a : Act} {n : Nat} {E E' : List (Nat × Value)} (h : Env a n E) (hs : subs E E') : Env a n E' :=
  ⟨h.defers, h.size, fun t v e => h.get t v (subs_mem hs t v (look_mem e))⟩
theorem Env.ev {a : Act} {n : Nat} {E : List (Nat × Value)} (h : Env a n E) {x : Operand} {v : Value} (hx : ev E x = some v) : a.eval x = v := by
  cases x with
  | tmp t => have := h.get t v hx; simp [Act.eval, Array.getD_eq_getD_getElem?, this]
  | const u => cases hx; rfl
  | global g => cases hx; rfl
  | func f => cases hx; rfl
theorem Env.evs {a : Act} {n : Nat} {E : List (Nat × Value)} (h : Env a n E) {l : List Operand} {vs : List Value} (hx : evs E l = some vs) : l.map a.eval = vs := by
  revert vs
  induction l with
  | nil => intro vs hx; cases hx; rfl
  | cons x r ih =>
    intro vs hx
    simp only [Own.evs] at hx
    cases hv : Own.ev E x with
    | none => rw [hv] at hx; simp at hx
    | some v =>
      cases hl : Own.evs E r with
      | none => rw [hv, hl] at hx; simp at hx
      | some l =>
        rw [hv, hl] at hx; cases hx
        rw [List.map_cons, h.ev hv, ih hl]

structure St (S : World) (hf : Hp) (L : Res) (n : Nat) (E : List (Nat × Value)) (a : Act) (w : World) : Prop where
  env : Env a n E
  own : Owns S hf L w

section st
variable {S : World} {hf : Hp} {L : Res} {n : Nat} {E : List (Nat × Value)} {a : Act} {w : World}
theorem St.keep (h : St S hf L n E a w) {E' : List (Nat × Value)} (hs : subs E E') : St S hf L n E' a w := ⟨h.env.weaken hs, h.own⟩
end st

/-! ### one operation -/
def OpT (P : Program) (o : Oper) (ρ : Operand → Value) (w : World) (Φ : Value → World → Prop) : Prop :=
  match (execOp ρ o).run P w with
  | .ok (.value v) w' => Φ v w'
  | .ok .skip w' => Φ undef w'
  | .ok (.enter f args) w' => Calls P f args w' (fun e w'' => ∃ v, e = .returned v ∧ Φ v w'')
  | _ => False

theorem OpT.mono {P : Program} {o : Oper} {ρ : Operand → Value} {w : World} {Φ Ψ : Value → World → Prop} (h : OpT P o ρ w Φ) (k : ∀ v w', Φ v w' → Ψ v w') : OpT P o ρ w Ψ := by
  unfold OpT at *
  split at h
  · exact k _ _ h
  · exact k _ _ h
  · exact h.mono fun e w'' ⟨v, he, hv⟩ => ⟨v, he, k _ _ hv⟩
  · exact h.elim

theorem OpT.wp {P : Program} {o : Oper} {a : Act} {w : World} {Φ : Value → World → Prop} {next : Act → World → Prop} {Q : Exit → Act → World → Prop}
    (h : OpT P o a.eval w Φ) (k : ∀ v w', Φ v w' → next (a.put o.dst v) w') : o.wp P a w next Q := by
  unfold OpT at h
  unfold Oper.wp
  split at h
  · rename_i v w' hr; rw [hr]; exact k _ _ h
  · rename_i w' hr; rw [hr]; exact k _ _ h
  · rename_i f args w' hr
    rw [hr]
    refine h.mono ?_
    rintro e w'' ⟨v, rfl, hv⟩
    exact k _ _ hv
  · exact h.elim

/-- the value is v, the world is as it was -/
def Same (v : Value) (w : World) : Value → World → Prop := fun v' w' => v' = v ∧ w' = w
/-- the value is v, and the world is one of the class (it may hold new blocks that nobody owns) -/
def Val (S : World) (hf : Hp) (L : Res) (v : Value) : Value → World → Prop := fun v' w' => v' = v ∧ Owns S hf L w'
/-- the value and what is owned hang on something new -/
def Out (S : World) (hf : Hp) {α : Type} (V : α → Value) (R : α → Res) (φ : α → Prop) : Value → World → Prop := fun v w => ∃ y, v = V y ∧ Owns S hf (R y) w ∧ φ y

section steps
variable {P : Program} {ops : Array Oper} {Q : Exit → Act → World → Prop} {rest : List Oper} {S : World} {hf : Hp} {L : Res} {n : Nat} {E : List (Nat × Value)} {a : Act} {w : World}
  {op : Op} {ty : TypeId} {pos : String} {after : Array Edge} {d : Nat}

/-- the next operation: its value is known -/
theorem stepV {v : Value} (ho : OpT P ⟨some d, op, ty, pos, after, none⟩ a.eval w (Val S hf L v)) (h : Env a n E) (hd : Nat.blt d n = true)
    (k : ∀ a w, St S hf L n ((d, v) :: E) a w → wpList P ops Q rest a w) : wpList P ops Q (⟨some d, op, ty, pos, after, none⟩ :: rest) a w :=
  wpList_plain rfl fun K hK => ho.wp fun v' w' hv => hK _ _ (by obtain ⟨rfl, hw⟩ := hv; exact k _ _ ⟨h.put hd _, hw⟩)
theorem stepO {α : Type} {V : α → Value} {R : α → Res} {φ : α → Prop} (ho : OpT P ⟨some d, op, ty, pos, after, none⟩ a.eval w (Out S hf V R φ)) (h : Env a n E) (hd : Nat.blt d n = true)
    (k : ∀ y, φ y → ∀ a w, St S hf (R y) n ((d, V y) :: E) a w → wpList P ops Q rest a w) : wpList P ops Q (⟨some d, op, ty, pos, after, none⟩ :: rest) a w :=
  wpList_plain rfl fun K hK => ho.wp fun v' w' hv => hK _ _ (by obtain ⟨y, rfl, hw, hy⟩ := hv; exact k y hy _ _ ⟨h.put hd _, hw⟩)
/-- .. that writes no slot -/
theorem stepN {L' : Res} {v : Value} (ho : OpT P ⟨none, op, ty, pos, after, none⟩ a.eval w (Val S hf L' v)) (h : Env a n E)
    (k : ∀ a w, St S hf L' n E a w → wpList P ops Q rest a w) : wpList P ops Q (⟨none, op, ty, pos, after, none⟩ :: rest) a w :=
  wpList_plain rfl fun K hK => ho.wp fun v' w' hv => hK _ _ (by obtain ⟨_, hw⟩ := hv; exact k _ _ ⟨h, hw⟩)
theorem stepNO {α : Type} {V : α → Value} {R : α → Res} {φ : α → Prop} (ho : OpT P ⟨none, op, ty, pos, after, none⟩ a.eval w (Out S hf V R φ)) (h : Env a n E)
    (k : ∀ y, φ y → ∀ a w, St S hf (R y) n E a w → wpList P ops Q rest a w) : wpList P ops Q (⟨none, op, ty, pos, after, none⟩ :: rest) a w :=
  wpList_plain rfl fun K hK => ho.wp fun v' w' hv => hK _ _ (by obtain ⟨y, _, hw, hy⟩ := hv; exact k y hy _ _ ⟨h, hw⟩)

/-- the operation's run: a value, and the world as it is -/
def Pure (P : Program) (o : Oper) (a : Act) (w : World) (v : Value) : Prop := (execOp a.eval o).run P w = .ok (.value v) w
/-- the operation's run: function f is entered -/
def Enter (P : Program) (o : Oper) (a : Act) (w : World) (f : FuncId) (args : Array Value) : Prop := (execOp a.eval o).run P w = .ok (.enter f args) w
theorem Pure.opT {o : Oper} {v : Value} (h : Pure P o a w v) (hw : Owns S hf L w) : OpT P o a.eval w (Val S hf L v) := by
  unfold OpT; rw [h]; exact ⟨rfl, hw⟩
theorem Enter.opT {o : Oper} {f : FuncId} {args : Array Value} {Φ : Value → World → Prop} (h : Enter P o a w f args) (hc : Calls P f args w (fun e w' => ∃ v, e = .returned v ∧ Φ v w')) : OpT P o a.eval w Φ := by
  unfold OpT; rw [h]; exact hc
theorem stepP {v : Value} (hp : Pure P ⟨some d, op, ty, pos, after, none⟩ a w v) (h : St S hf L n E a w) (hd : Nat.blt d n = true)
    (k : ∀ a w, St S hf L n ((d, v) :: E) a w → wpList P ops Q rest a w) : wpList P ops Q (⟨some d, op, ty, pos, after, none⟩ :: rest) a w :=
  stepV (hp.opT h.own) h.env hd k

theorem yielded_of {j t : Nat} {o : Oper} {b : Bool} (hj : ops[j]? = some o) (hd : o.dst = some t) (h : St S hf L n E a w) (hb : look E t = some (.bool b)) : yielded ops a.tmps j = some b := by
  simp [yielded, hj, hd, h.env.get t _ hb]

/-- a guarded operation that is passed over -/
theorem stepSkip {j t : Nat} {want b : Bool} {o : Oper} (hj : ops[j]? = some o) (hdst : o.dst = some t) (hb : look E t = some (.bool b)) (hne : (b == want) = false) (h : St S hf L n E a w) (hd : Nat.blt d n = true)
    (k : ∀ a w, St S hf L n ((d, undef) :: E) a w → wpList P ops Q rest a w) : wpList P ops Q (⟨some d, op, ty, pos, after, some (j, want)⟩ :: rest) a w := by
  have hy := yielded_of hj hdst h hb
  unfold wpList
  rw [if_neg (by simp only [Region.wanted, hy]; intro e; simp only [Option.some_beq_some] at e; rw [hne] at e; cases e)]
  exact k _ _ ⟨h.env.put hd _, h.own⟩
theorem stepGo {j t : Nat} {want b : Bool} {o : Oper} (hj : ops[j]? = some o) (hdst : o.dst = some t) (hb : look E t = some (.bool b)) (hne : (b == want) = true) (h : St S hf L n E a w)
    (ho : (⟨some d, op, ty, pos, after, some (j, want)⟩ : Oper).wp P a w (wpList P ops Q rest) Q) : wpList P ops Q (⟨some d, op, ty, pos, after, some (j, want)⟩ :: rest) a w := by
  have hy := yielded_of hj hdst h hb
  unfold wpList
  rw [if_pos (by simp only [Region.wanted, hy]; simpa using hne)]
  exact .inl ho
theorem stepGV {j t : Nat} {want b : Bool} {o : Oper} {v : Value} (hj : ops[j]? = some o) (hdst : o.dst = some t) (hb : look E t = some (.bool b)) (hne : (b == want) = true)
    {L' : Res} (ho : OpT P ⟨some d, op, ty, pos, after, some (j, want)⟩ a.eval w (Val S hf L' v)) (h : St S hf L n E a w) (hd : Nat.blt d n = true)
    (k : ∀ a w, St S hf L' n ((d, v) :: E) a w → wpList P ops Q rest a w) : wpList P ops Q (⟨some d, op, ty, pos, after, some (j, want)⟩ :: rest) a w :=
  stepGo hj hdst hb hne h (ho.wp fun v' w' hv => by obtain ⟨rfl, hw⟩ := hv; exact k _ _ ⟨h.env.put hd _, hw⟩)
theorem stepGO {j t : Nat} {want b : Bool} {o : Oper} {α : Type} {V : α → Value} {R : α → Res} {φ : α → Prop} (hj : ops[j]? = some o) (hdst : o.dst = some t) (hb : look E t = some (.bool b)) (hne : (b == want) = true)
    (ho : OpT P ⟨some d, op, ty, pos, after, some (j, want)⟩ a.eval w (Out S hf V R φ)) (h : St S hf L n E a w) (hd : Nat.blt d n = true)
    (k : ∀ y, φ y → ∀ a w, St S hf (R y) n ((d, V y) :: E) a w → wpList P ops Q rest a w) : wpList P ops Q (⟨some d, op, ty, pos, after, some (j, want)⟩ :: rest) a w :=
  stepGo hj hdst hb hne h (ho.wp fun v' w' hv => by obtain ⟨y, rfl, hw, hy⟩ := hv; exact k y hy _ _ ⟨h.env.put hd _, hw⟩)
theorem stepGP {j t : Nat} {want b : Bool} {o : Oper} {v : Value} (hj : ops[j]? = some o) (hdst : o.dst = some t) (hb : look E t = some (.bool b)) (hne : (b == want) = true)
    (hp : Pure P ⟨some d, op, ty, pos, after, some (j, want)⟩ a w v) (h : St S hf L n E a w) (hd : Nat.blt d n = true)
    (k : ∀ a w, St S hf L n ((d, v) :: E) a w → wpList P ops Q rest a w) : wpList P ops Q (⟨some d, op, ty, pos, after, some (j, want)⟩ :: rest) a w :=
  stepGV hj hdst hb hne (hp.opT h.own) h hd k
theorem stepEnd (k : Q .normal a w) : wpList P ops Q [] a w := k
end steps

/-! ### regions that draw their order -/
section draws
variable {P : Program} {ops : Array Oper} {Q : Exit → Act → World → Prop} {S : World} {hf : Hp} {L : Res} {n : Nat} {E : List (Nat × Value)} {a : Act} {w : World}
  {op : Op} {ty : TypeId} {pos : String} {after : Array Edge} {d : Nat}

theorem Val.mono {v : Value} {o : Oper} {ρ : Operand → Value} (h : OpT P o ρ w (Same v w)) (hw : Owns S hf L w) : OpT P o ρ w (Val S hf L v) :=
  h.mono fun _ _ ⟨e1, e2⟩ => ⟨e1, e2 ▸ hw⟩

/-- a whole region whose operations are quiet in the class: the order of the text serves -/
theorem region_quiet {id : Nat} {l : List Oper} (hm : P.follows .mixedOrders = true) (hB : Region.lexB .any l.toArray = true) (h : St S hf L n E a w)
    (k : wpQuiet P l.toArray (Owns S hf L) (fun a' => ∀ w', Owns S hf L w' → Q .normal a' w') l a) : (Code.region id l.toArray true).wp P Q a w :=
  wp_region_quiet (C := Owns S hf L) hm hB h.own.drew (by simpa using k)

theorem stepQ {l : List Oper} {QQ : Act → Prop} {v : Value} (henv : Env a n E) (hp : ∀ w, St S hf L n E a w → Pure P ⟨some d, op, ty, pos, after, none⟩ a w v) (hd : Nat.blt d n = true)
    (k : ∀ a, Env a n ((d, v) :: E) → wpQuiet P ops (Owns S hf L) QQ l a) : wpQuiet P ops (Owns S hf L) QQ (⟨some d, op, ty, pos, after, none⟩ :: l) a :=
  wpQuiet_step fun K hK => by
    simp only [Region.wanted, if_true]
    refine ⟨v, fun w hw => ?_, hK _ (k _ (henv.put hd v))⟩
    unfold Oper.quietAt
    rw [hp w ⟨henv, hw⟩]
    exact ⟨rfl, rfl⟩
theorem stepQC {l : List Oper} {QQ : Act → Prop} {v : Value} {f : FuncId} {args : Array Value} (henv : Env a n E) (hp : ∀ w, St S hf L n E a w → Enter P ⟨some d, op, ty, pos, after, none⟩ a w f args)
    (hc : ∀ w, Owns S hf L w → Calls P f args w (fun e w' => e = .returned v ∧ Owns S hf L w')) (hd : Nat.blt d n = true)
    (k : ∀ a, Env a n ((d, v) :: E) → wpQuiet P ops (Owns S hf L) QQ l a) : wpQuiet P ops (Owns S hf L) QQ (⟨some d, op, ty, pos, after, none⟩ :: l) a :=
  wpQuiet_step fun K hK => by
    simp only [Region.wanted, if_true]
    refine ⟨v, fun w hw => ?_, hK _ (k _ (henv.put hd v))⟩
    unfold Oper.quietAt
    rw [hp w ⟨henv, hw⟩]
    exact ⟨rfl, hc w hw⟩
theorem Env.yielded {j t : Nat} {o : Oper} {b : Bool} (hj : ops[j]? = some o) (hd : o.dst = some t) (h : Env a n E) (hb : look E t = some (.bool b)) : yielded ops a.tmps j = some b := by
  simp [Go.yielded, hj, hd, h.get t _ hb]
theorem stepQSkip {l : List Oper} {QQ : Act → Prop} {j t : Nat} {want b : Bool} {o : Oper} (hj : ops[j]? = some o) (hdst : o.dst = some t) (hb : look E t = some (.bool b)) (hne : (b == want) = false) (henv : Env a n E) (hd : Nat.blt d n = true)
    (k : ∀ a, Env a n ((d, undef) :: E) → wpQuiet P ops (Owns S hf L) QQ l a) : wpQuiet P ops (Owns S hf L) QQ (⟨some d, op, ty, pos, after, some (j, want)⟩ :: l) a := by
  have hy := henv.yielded hj hdst hb
  unfold wpQuiet
  rw [if_neg (by simp only [Region.wanted, hy]; intro e; simp only [Option.some_beq_some] at e; rw [hne] at e; cases e)]
  exact k _ (henv.put hd _)
theorem stepQG {l : List Oper} {QQ : Act → Prop} {j t : Nat} {want b : Bool} {o : Oper} {v : Value} (hj : ops[j]? = some o) (hdst : o.dst = some t) (hb : look E t = some (.bool b)) (hne : (b == want) = true)
    (henv : Env a n E) (hp : ∀ w, St S hf L n E a w → Pure P ⟨some d, op, ty, pos, after, some (j, want)⟩ a w v) (hd : Nat.blt d n = true)
    (k : ∀ a, Env a n ((d, v) :: E) → wpQuiet P ops (Owns S hf L) QQ l a) : wpQuiet P ops (Owns S hf L) QQ (⟨some d, op, ty, pos, after, some (j, want)⟩ :: l) a := by
  have hy := henv.yielded hj hdst hb
  refine wpQuiet_step fun K hK => ?_
  rw [if_pos (by simp only [Region.wanted, hy]; simpa using hne)]
  refine ⟨v, fun w hw => ?_, hK _ (k _ (henv.put hd v))⟩
  unfold Oper.quietAt
  rw [hp w ⟨henv, hw⟩]
  exact ⟨rfl, rfl⟩
theorem stepQGC {l : List Oper} {QQ : Act → Prop} {j t : Nat} {want b : Bool} {o : Oper} {v : Value} {f : FuncId} {args : Array Value} (hj : ops[j]? = some o) (hdst : o.dst = some t) (hb : look E t = some (.bool b)) (hne : (b == want) = true)
    (henv : Env a n E) (hp : ∀ w, St S hf L n E a w → Enter P ⟨some d, op, ty, pos, after, some (j, want)⟩ a w f args)
    (hc : ∀ w, Owns S hf L w → Calls P f args w (fun e w' => e = .returned v ∧ Owns S hf L w')) (hd : Nat.blt d n = true)
    (k : ∀ a, Env a n ((d, v) :: E) → wpQuiet P ops (Owns S hf L) QQ l a) : wpQuiet P ops (Owns S hf L) QQ (⟨some d, op, ty, pos, after, some (j, want)⟩ :: l) a := by
  have hy := henv.yielded hj hdst hb
  refine wpQuiet_step fun K hK => ?_
  rw [if_pos (by simp only [Region.wanted, hy]; simpa using hne)]
  refine ⟨v, fun w hw => ?_, hK _ (k _ (henv.put hd v))⟩
  unfold Oper.quietAt
  rw [hp w ⟨henv, hw⟩]
  exact ⟨rfl, hc w hw⟩
theorem stepQEnd {Q : Exit → Act → World → Prop} (henv : Env a n E) (k : ∀ w, St S hf L n E a w → Q .normal a w) : wpQuiet P ops (Owns S hf L) (fun a' => ∀ w', Owns S hf L w' → Q .normal a' w') [] a :=
  fun w hw => k w ⟨henv, hw⟩
end draws

/-! ### control -/
section control
variable {P : Program} {Q : Exit → Act → World → Prop} {S : World} {hf : Hp} {L : Res} {n : Nat} {E : List (Nat × Value)} {a : Act} {w : World} {x y : Code}

theorem c_region {id : Nat} {l : List Oper} (k : wpList P l.toArray Q l a w) : (Code.region id l.toArray false).wp P Q a w := wp_region_lit k
theorem c_seq (k : x.wp P (Exit.then (y.wp P Q) Q) a w) : (Code.seq x y).wp P Q a w := wp_seq k
/-- the ways through x meet again in J -/
theorem c_cut (J : Act → World → Prop) (h : x.wp P (Exit.then J Q) a w) (k : ∀ a w, J a w → y.wp P Q a w) : (Code.seq x y).wp P Q a w :=
  wp_seq (wp_mono h fun e a w hq => by cases e <;> first | exact k _ _ hq | exact hq)
theorem c_cond {c : Operand} {p : Prop} [Decidable p] (hc : ev E c = some (.bool (decide p))) (h : St S hf L n E a w) (ht : p → x.wp P Q a w) (hn : ¬ p → y.wp P Q a w) : (Code.cond c x y).wp P Q a w :=
  wp_cond_split (h.env.ev hc) (fun e => ht (of_decide_eq_true e)) (fun e => hn (of_decide_eq_false e))
theorem c_condB {c : Operand} {b : Bool} (hc : ev E c = some (.bool b)) (h : St S hf L n E a w) (ht : b = true → x.wp P Q a w) (hn : b = false → y.wp P Q a w) : (Code.cond c x y).wp P Q a w :=
  wp_cond_split (h.env.ev hc) ht hn
theorem c_true {c : Operand} (hc : ev E c = some (.bool true)) (h : St S hf L n E a w) (k : x.wp P Q a w) : (Code.cond c x y).wp P Q a w := wp_cond_true (h.env.ev hc) k
theorem c_false {c : Operand} (hc : ev E c = some (.bool false)) (h : St S hf L n E a w) (k : y.wp P Q a w) : (Code.cond c x y).wp P Q a w := wp_cond_false (h.env.ev hc) k
theorem c_block {id : Nat} (k : x.wp P (Exit.inBlock id Q) a w) : (Code.block id x).wp P Q a w := wp_block k
theorem c_skip (k : Q .normal a w) : Code.skip.wp P Q a w := wp_skip k
theorem c_ret (k : Q .ret a w) : Code.ret.wp P Q a w := wp_ret k
theorem c_exit {id : Nat} (k : Q (.exit id) a w) : (Code.exit id).wp P Q a w := wp_exit k
/-- a loop: what holds at a round's head, with a number that falls -/
theorem c_loop (I : Nat → Act → World → Prop) {N : Nat} (h0 : I N a w) (round : ∀ m a w, I m a w → x.wp P (Exit.then (fun a' w' => ∃ m', m' < m ∧ I m' a' w') Q) a w) : (Code.loop x).wp P Q a w := by
  classical
  refine wp_loop (fun a w => ∃ m, I m a w) (fun a w => if h : ∃ m, I m a w then Classical.choose (show ∃ m, I m a w ∧ ∀ k, I k a w → m ≤ k from ?_) else 0) ⟨N, h0⟩ ?_
  · obtain ⟨m, hm⟩ := h
    induction m using Nat.strongRecOn with
    | _ m ih =>
      by_cases hk : ∃ k, k < m ∧ I k a w
      · obtain ⟨k, hkm, hk⟩ := hk
        exact ih k hkm hk
      · exact ⟨m, hm, fun k hk' => Nat.le_of_not_lt fun hlt => hk ⟨k, hlt, hk'⟩⟩
  · intro a w hI
    have key : ∀ (a : Act) (w : World) (hI : ∃ m, I m a w), ∃ m, I m a w ∧ ∀ k, I k a w → m ≤ k := fun a w hI => by
      obtain ⟨m, hm⟩ := hI
      induction m using Nat.strongRecOn with
      | _ m ih =>
        by_cases hk : ∃ k, k < m ∧ I k a w
        · obtain ⟨k, hkm, hk⟩ := hk
          exact ih k hkm hk
        · exact ⟨m, hm, fun k hk' => Nat.le_of_not_lt fun hlt => hk ⟨k, hlt, hk'⟩⟩
    have h1 := Classical.choose_spec (key a w hI)
    refine wp_mono (round _ a w h1.1) fun e a' w' hq => ?_
    cases e with
    | normal =>
      obtain ⟨m', hlt, hm'⟩ := hq
      refine ⟨⟨m', hm'⟩, ?_⟩
      have hI' : ∃ m, I m a' w' := ⟨m', hm'⟩
      rw [dif_pos hI', dif_pos hI]
      have h2 := Classical.choose_spec (key a' w' hI')
      exact Nat.lt_of_le_of_lt (h2.2 m' hm') hlt
    | _ => exact hq
end control

/-! ### a call, from its entry to its end -/
def Ret (S : World) (hf : Hp) {α : Type} (V : α → Value) (R : α → Res) (φ : α → Prop) : Ending → World → Prop := fun e w => ∃ y, e = .returned (V y) ∧ Owns S hf (R y) w ∧ φ y
/-- the value is known, nothing new is owned -/
def RetV (S : World) (hf : Hp) (L : Res) (v : Value) : Ending → World → Prop := fun e w => e = .returned v ∧ Owns S hf L w

def argsE : List Value → Nat → List (Nat × Value)
  | [], _ => []
  | v :: r, k => (k, v) :: argsE r (k + 1)
theorem look_argsE {l : List Value} {k t : Nat} {v : Value} (h : look (argsE l k) t = some v) : k ≤ t ∧ l[t - k]? = some v := by
  induction l generalizing k with
  | nil => cases h
  | cons x r ih =>
    simp only [argsE] at h
    by_cases hk : k = t
    · subst hk; rw [look_cons_self] at h; cases h; simp
    · rw [look_cons_ne hk] at h
      obtain ⟨h1, h2⟩ := ih h
      refine ⟨by omega, ?_⟩
      have : t - k = (t - (k + 1)) + 1 := by omega
      rw [this, List.getElem?_cons_succ]
      exact h2
section calls
variable {P : Program} {S : World} {hf : Hp} {L : Res} {n : Nat} {E : List (Nat × Value)} {a : Act} {w : World}
theorem enter {f : FuncId} {fn : Func} {c : Code} {l : List Value} {R : Ending → World → Prop} (hfn : P.funcs[f]? = some fn) (hb : fn.body = some c) (hn : fn.ntmps = n) (hl : Nat.ble l.length n = true)
    (hE : argsE l 0 = E) (ho : Owns S hf L w) (k : ∀ a, St S hf L n E a w → c.wp P (bodyPost P fn R) a w) : Calls P f l.toArray w R := by
  refine calls_of_wp hfn hb (k _ ⟨⟨rfl, ?_, fun t v e => ?_⟩, ho⟩)
  · have := Nat.le_of_ble_eq_true hl
    simp [hn]; omega
  · subst hE
    obtain ⟨_, h2⟩ := look_argsE e
    simp only [Nat.sub_zero] at h2
    have ht : t < l.length := (List.getElem?_eq_some_iff.1 h2).1
    show (l.toArray ++ _)[t]? = _
    rw [Array.getElem?_append_left (by simpa using ht)]
    simpa using h2
theorem fin0 {fn : Func} {R : Ending → World → Prop} {e : Exit} (he : e = .ret ∨ e = .normal) (h : St S hf L n E a w) (hr : fn.results = #[]) (k : R (.returned (.tuple #[])) w) : bodyPost P fn R e a w := by
  rcases he with rfl | rfl <;> exact ⟨h.env.defers, _, results_none hr _ _ _, k⟩
theorem fin1 {fn : Func} {R : Ending → World → Prop} {e : Exit} (he : e = .ret ∨ e = .normal) (h : St S hf L n E a w) {t : Nat} {v : Value} (hr : fn.results = #[.tmp t]) (hv : look E t = some v) (k : R (.returned v) w) : bodyPost P fn R e a w := by
  have e1 : a.tmps.getD t undef = v := by simp [Array.getD_eq_getD_getElem?, h.env.get t v hv]
  have e2 := results_tmp hr a.tmps P w
  rw [e1] at e2
  rcases he with rfl | rfl <;> exact ⟨h.env.defers, _, e2, k⟩
theorem fin2 {fn : Func} {R : Ending → World → Prop} {e : Exit} (he : e = .ret ∨ e = .normal) (h : St S hf L n E a w) {t u : Nat} {v x : Value} (hr : fn.results = #[.tmp t, .tmp u]) (hv : look E t = some v) (hx : look E u = some x)
    (k : R (.returned (.tuple #[v, x])) w) : bodyPost P fn R e a w := by
  have e1 : a.tmps.getD t undef = v := by simp [Array.getD_eq_getD_getElem?, h.env.get t v hv]
  have e3 : a.tmps.getD u undef = x := by simp [Array.getD_eq_getD_getElem?, h.env.get u x hx]
  have e2 := results_tmp2 hr a.tmps P w
  rw [e1, e3] at e2
  rcases he with rfl | rfl <;> exact ⟨h.env.defers, _, e2, k⟩
end calls
end Go.Own
