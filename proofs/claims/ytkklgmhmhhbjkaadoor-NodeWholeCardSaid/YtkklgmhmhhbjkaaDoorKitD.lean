/-
  OWN LIBRARY, part 4: small moves on states; regions that draw their order and hold what writes.
-/
import Derived.Test.YtkklgmhmhhbjkaaDoorKitC
namespace Go.Own
open Go

section moves
variable {P : Program} {Q : Exit → Act → World → Prop} {S : World} {hf : Hp} {L L1 L2 : Res} {n : Nat} {E : List (Nat × Value)} {a : Act} {w : World}

/-- a slot's Bool, by another name -/
theorem St.bool_of {t : Nat} {b b' : Bool} (h : St S hf L n E a w) (ht : look E t = some (.bool b)) (e : b = b') : St S hf L n ((t, .bool b') :: E) a w := by
  subst e
  refine ⟨⟨h.env.defers, h.env.size, fun s v hs => ?_⟩, h.own⟩
  by_cases hk : t = s
  · subst hk; rw [look_cons_self] at hs; cases hs; exact h.env.get _ _ ht
  · rw [look_cons_ne hk] at hs; exact h.env.get _ _ hs
theorem Env.bool_of {t : Nat} {b b' : Bool} (h : Env a n E) (ht : look E t = some (.bool b)) (e : b = b') : Env a n ((t, .bool b') :: E) := by
  subst e
  refine ⟨h.defers, h.size, fun s v hs => ?_⟩
  by_cases hk : t = s
  · subst hk; rw [look_cons_self] at hs; cases hs; exact h.get _ _ ht
  · rw [look_cons_ne hk] at hs; exact h.get _ _ hs
/-- a slot's value, by another name -/
theorem Env.name {t : Nat} {v v' : Value} (h : Env a n E) (ht : look E t = some v) (e : v = v') : Env a n ((t, v') :: E) := by
  subst e
  refine ⟨h.defers, h.size, fun s x hs => ?_⟩
  by_cases hk : t = s
  · subst hk; rw [look_cons_self] at hs; cases hs; exact h.get _ _ ht
  · rw [look_cons_ne hk] at hs; exact h.get _ _ hs
theorem St.name {t : Nat} {v v' : Value} (h : St S hf L n E a w) (ht : look E t = some v) (e : v = v') : St S hf L n ((t, v') :: E) a w := ⟨h.env.name ht e, h.own⟩
theorem St.to {L' : Res} {E' : List (Nat × Value)} (h : St S hf L n E a w) (hL : L = L') (hs : subs E E') : St S hf L' n E' a w := hL ▸ h.keep hs
theorem St.perm {L' : Res} (h : St S hf L n E a w) (p : L.Perm L') : St S hf L' n E a w := ⟨h.env, h.own.perm p⟩
theorem St.drop {L' : Res} (h : St S hf L n E a w) (p : L'.Sublist L) : St S hf L' n E a w := ⟨h.env, h.own.sub p⟩
theorem St.lend (h : St S hf (L1 ++ L2) n E a w) : St S (hf.with L2) L1 n E a w := ⟨h.env, h.own.lend⟩
theorem St.back {L0 : Res} {w0 : World} (h : St S (hf.with L2) L1 n E a w) (h0 : Owns S hf (L0 ++ L2) w0) : St S hf (L1 ++ L2) n E a w := ⟨h.env, h0.back h.own⟩

theorem Owns.lend0 (h : Owns S hf L w) : Owns S (hf.with L) [] w := Owns.lend (L1 := []) h
theorem Owns.le0 (h : Owns S hf L w) : hf.le (hf.with L) := Owns.le_with (L1 := []) h
theorem Owns.in0 (h : Owns S hf L w) {k b : Nat} {o : Obj} (hk : L[k]? = some (b, o)) : hf.with L b = some o := Hp.with_mem h.nodup (List.mem_of_getElem? hk)
theorem call_out0 {f : FuncId} {args : Array Value} {α : Type} {V : α → Value} {R : α → Res} {φ : α → Prop} (h : Owns S hf L w) (hc : Calls P f args w (Ret S (hf.with L) V R φ)) :
    Calls P f args w (fun e w' => ∃ v, e = .returned v ∧ Out S hf V (fun y => R y ++ L) φ v w') := call_out (L1 := []) h hc
theorem call_val0 {f : FuncId} {args : Array Value} {v : Value} (h : Owns S hf L w) (hc : Calls P f args w (RetV S (hf.with L) [] v)) :
    Calls P f args w (fun e w' => ∃ v', e = .returned v' ∧ Val S hf L v v' w') := call_val (L := []) (L1 := []) h hc
theorem call_q0 {f : FuncId} {args : Array Value} {v : Value} (h : Owns S hf L w) (hc : Calls P f args w (RetV S (hf.with L) [] v)) :
    Calls P f args w (fun e w' => e = .returned v ∧ Owns S hf L w') := call_q h hc
theorem call_outA {f : FuncId} {args : Array Value} {α : Type} {V : α → Value} {R : α → Res} {φ : α → Prop} (hc : Calls P f args w (Ret S hf V R φ)) :
    Calls P f args w (fun e w' => ∃ v, e = .returned v ∧ Out S hf V R φ v w') := hc.mono fun _ _ ⟨y, he, hw, hy⟩ => ⟨_, he, y, rfl, hw, hy⟩
theorem call_valA {f : FuncId} {args : Array Value} {v : Value} (hc : Calls P f args w (RetV S hf L v)) :
    Calls P f args w (fun e w' => ∃ v', e = .returned v' ∧ Val S hf L v v' w') := hc.mono fun _ _ ⟨he, hw⟩ => ⟨_, he, rfl, hw⟩
theorem look_int {t : Nat} {k : IntKind} {m m' : Int} (h : look E t = some (.int k m)) (e : m = m') : look E t = some (.int k m') := e ▸ h
theorem Cel.mem {b o : Nat} {v : Value} {cs : List Value} {T : TypeId} (hk : (b, row T cs) ∈ L) (hc : cs[o]? = some v) : Cel S hf L b o v := fun w hw => by
  simp [World.cell?, hw.own _ _ hk, hc]
theorem Cels.mem {b : Nat} {cs : List Value} {T : TypeId} (hk : (b, row T cs) ∈ L) : Cels S hf L b 0 cs := fun i v hv => Cel.mem hk (by simpa using hv)
theorem Cels.memPart {b o : Nat} {vs : List Value} {cs : List Value} {T : TypeId} (hk : (b, row T cs) ∈ L) (hc : (cs.drop o).take vs.length = vs) : Cels S hf L b o vs := fun i v hv => by
  refine Cel.mem hk ?_
  rw [← hc, List.getElem?_take] at hv
  split at hv
  · simpa [Nat.add_comm] using hv
  · cases hv
theorem Owns.inM (h : Owns S hf (L1 ++ L2) w) {b : Nat} {o : Obj} (hk : (b, o) ∈ L2) : hf.with L2 b = some o := Hp.with_mem h.nodup_right hk
theorem Owns.in0M (h : Owns S hf L w) {b : Nat} {o : Obj} (hk : (b, o) ∈ L) : hf.with L b = some o := Hp.with_mem h.nodup hk
theorem perm_bring {A B C : Res} : (A ++ (B ++ C)).Perm (B ++ (A ++ C)) := by
  rw [← List.append_assoc, ← List.append_assoc]; exact List.perm_append_comm.append_right C
theorem Owns.inL (h : Owns S hf (L1 ++ L2) w) {k b : Nat} {o : Obj} (hk : L2[k]? = some (b, o)) : hf.with L2 b = some o := Hp.with_mem h.nodup_right (List.mem_of_getElem? hk)
theorem Byts.row {b o n cap : Nat} {T : TypeId} {ds : List Value} {l : List UInt8} (hb : hf b = some (row T ds)) (hn : n = l.length) (hc : (ds.drop o).take l.length = l.map B) (h1 : l.length ≤ cap) (h2 : cap ≤ maxLen) : Byts hf (slc b o n cap) l := by
  subst hn
  exact Sl.row hb (by simpa using hc) (by simp) h1 h2
theorem oneB (l : List UInt8) : ∀ u ∈ l.map B, u.oneCell' = true := fun u hu => by
  obtain ⟨x, _, rfl⟩ := List.mem_map.1 hu; rfl

section jumps
variable {next : Act → World → Prop} {R : Ending → World → Prop} {fn : Func} {id id' : Nat}
theorem th_n (k : next a w) : Exit.then next Q .normal a w := k
theorem th_e (k : Q (.exit id) a w) : Exit.then next Q (.exit id) a w := k
theorem th_r (k : Q .ret a w) : Exit.then next Q .ret a w := k
theorem bl_n (k : Q .normal a w) : Exit.inBlock id Q .normal a w := k
theorem bl_r (k : Q .ret a w) : Exit.inBlock id Q .ret a w := k
theorem bl_e (h : Nat.beq id' id = false) (k : Q (.exit id') a w) : Exit.inBlock id Q (.exit id') a w := by
  have : id' ≠ id := fun e => by subst e; simp at h
  simp only [Exit.inBlock, if_neg this]; exact k
theorem exit_at (k : Q .normal a w) : Exit.inBlock id Q (.exit id) a w := by
  simp only [Exit.inBlock, if_true]; exact k
end jumps
end moves

section draws
variable {P : Program} {l : List Oper} {Q : Exit → Act → World → Prop} {S : World} {hf : Hp} {L : Res} {n : Nat} {E : List (Nat × Value)} {a : Act} {w : World}
  {op : Op} {ty : TypeId} {pos : String} {after : Array Edge} {d : Nat}

/-- operation i may be taken first -/
def takeOk (l : List Oper) (listed : Array Bool) (i : Nat) : Bool :=
  Region.noSelect l.toArray && Region.free .any l.toArray listed i && (Region.ready .any l.toArray listed).contains i

/-- a region that draws its order: 'Owns S hf []' is what holds throughout -/
theorem any_begin {id N : Nat} (hm : P.follows .mixedOrders = true) (hN : l.length = N) (h : St S hf L n E a w)
    (k : ∀ w, St S hf L n E a w → wpAnyH P .any l.toArray Q (Owns S hf []) N (Array.replicate N false) a w) : (Code.region id l.toArray true).wp P Q a w :=
  wp_region_held (S := Owns S hf []) hm (by
    have hs : l.toArray.size = N := by simpa using hN
    rw [hs]
    exact k _ ⟨h.env, h.own.drew⟩)

theorem Owns.bare (h : Owns S hf L w) : Owns S hf [] w := h.sub (List.nil_sublist _)

theorem any_take {fuel i : Nat} {listed : Array Bool} {v : Value} (hi : l[i]? = some ⟨some d, op, ty, pos, after, none⟩) (hok : takeOk l listed i = true)
    (hQ : ∀ c a w v, Q (.panic c) (a.put (some d) v) w → Q (.panic c) a w) (h : St S hf L n E a w) (hd : Nat.blt d n = true)
    (hp : ∀ w, St S hf [] n E a w → Pure P ⟨some d, op, ty, pos, after, none⟩ a w v)
    (k : ∀ a, St S hf L n ((d, v) :: E) a w → wpAnyH P .any l.toArray Q (Owns S hf []) fuel (listed.setIfInBounds i true) a w) :
    wpAnyH P .any l.toArray Q (Owns S hf []) (fuel + 1) listed a w := by
  simp only [takeOk, Bool.and_eq_true] at hok
  exact wpAnyH_take (by simpa using hi) hok.1.1 hok.1.2 hok.2 (fun c a w => hQ c a w v)
    (.inl ⟨rfl, fun w hw => hp w ⟨h.env, hw⟩⟩) h.own.bare (k _ ⟨h.env.put hd v, h.own⟩)
theorem any_takeG {fuel i j t : Nat} {listed : Array Bool} {v : Value} {want b : Bool} {o : Oper} (hi : l[i]? = some ⟨some d, op, ty, pos, after, some (j, want)⟩) (hok : takeOk l listed i = true)
    (hQ : ∀ c a w v, Q (.panic c) (a.put (some d) v) w → Q (.panic c) a w) (h : St S hf L n E a w) (hd : Nat.blt d n = true)
    (hj : l[j]? = some o) (hdst : o.dst = some t) (hb : look E t = some (.bool b)) (hne : (b == want) = true)
    (hp : ∀ w, St S hf [] n E a w → Pure P ⟨some d, op, ty, pos, after, some (j, want)⟩ a w v)
    (k : ∀ a, St S hf L n ((d, v) :: E) a w → wpAnyH P .any l.toArray Q (Owns S hf []) fuel (listed.setIfInBounds i true) a w) :
    wpAnyH P .any l.toArray Q (Owns S hf []) (fuel + 1) listed a w := by
  simp only [takeOk, Bool.and_eq_true] at hok
  have hy := h.env.yielded (ops := l.toArray) (by simpa using hj) hdst hb
  exact wpAnyH_take (by simpa using hi) hok.1.1 hok.1.2 hok.2 (fun c a w => hQ c a w v)
    (.inl ⟨by simp only [Region.wanted, hy]; simpa using hne, fun w hw => hp w ⟨h.env, hw⟩⟩) h.own.bare (k _ ⟨h.env.put hd v, h.own⟩)
theorem any_skip {fuel i j t : Nat} {listed : Array Bool} {want b : Bool} {o : Oper} (hi : l[i]? = some ⟨some d, op, ty, pos, after, some (j, want)⟩) (hok : takeOk l listed i = true)
    (hQ : ∀ c a w v, Q (.panic c) (a.put (some d) v) w → Q (.panic c) a w) (h : St S hf L n E a w) (hd : Nat.blt d n = true)
    (hj : l[j]? = some o) (hdst : o.dst = some t) (hb : look E t = some (.bool b)) (hne : (b == want) = false)
    (k : ∀ a, St S hf L n ((d, undef) :: E) a w → wpAnyH P .any l.toArray Q (Owns S hf []) fuel (listed.setIfInBounds i true) a w) :
    wpAnyH P .any l.toArray Q (Owns S hf []) (fuel + 1) listed a w := by
  simp only [takeOk, Bool.and_eq_true] at hok
  have hy := h.env.yielded (ops := l.toArray) (by simpa using hj) hdst hb
  exact wpAnyH_take (by simpa using hi) hok.1.1 hok.1.2 hok.2 (fun c a w => hQ c a w undef)
    (.inr ⟨(by simp only [Region.wanted, hy]; cases b <;> cases want <;> first | rfl | (cases hne)), rfl⟩) h.own.bare (k _ ⟨h.env.put hd undef, h.own⟩)

/-- those that may come up now -/
theorem any_all {fuel : Nat} {listed : Array Bool} {rs : List Nat} (hr : Region.ready .any l.toArray listed = rs) (hne : rs.isEmpty = false)
    (k : ∀ i ∈ rs, wpOp P l.toArray Q i (fun a' w' => Owns S hf [] w' ∧ wpAnyH P .any l.toArray Q (Owns S hf []) fuel (listed.setIfInBounds i true) a' w') a w) :
    wpAnyH P .any l.toArray Q (Owns S hf []) (fuel + 1) listed a w :=
  wpAnyH_all hr (fun e => by subst e; cases hne) k
theorem any_one {fuel i : Nat} {listed : Array Bool} (hr : Region.ready .any l.toArray listed = [i])
    (k : wpOp P l.toArray Q i (fun a' w' => Owns S hf [] w' ∧ wpAnyH P .any l.toArray Q (Owns S hf []) fuel (listed.setIfInBounds i true) a' w') a w) :
    wpAnyH P .any l.toArray Q (Owns S hf []) (fuel + 1) listed a w :=
  wpAnyH_all hr (by simp) (fun j hj => by cases List.mem_singleton.1 hj; exact k)
theorem any_O {K : Act → World → Prop} {i : Nat} {α : Type} {V : α → Value} {R : α → Res} {φ : α → Prop} (hi : l[i]? = some ⟨some d, op, ty, pos, after, none⟩) (h : Env a n E) (hd : Nat.blt d n = true)
    (ho : OpT P ⟨some d, op, ty, pos, after, none⟩ a.eval w (Out S hf V R φ))
    (k : ∀ y, φ y → ∀ a w, St S hf (R y) n ((d, V y) :: E) a w → K a w) :
    wpOp P l.toArray Q i (fun a' w' => Owns S hf [] w' ∧ K a' w') a w := by
  unfold wpOp
  simp only [List.getElem?_toArray, hi, Region.wanted, if_true]
  exact .inl (ho.wp fun v' w' hv => by obtain ⟨y, rfl, hw, hy⟩ := hv; exact ⟨hw.bare, k y hy _ _ ⟨h.put hd _, hw⟩⟩)
theorem any_V {K : Act → World → Prop} {i : Nat} {L' : Res} {v : Value} (hi : l[i]? = some ⟨some d, op, ty, pos, after, none⟩) (h : Env a n E) (hd : Nat.blt d n = true)
    (ho : OpT P ⟨some d, op, ty, pos, after, none⟩ a.eval w (Val S hf L' v))
    (k : ∀ a w, St S hf L' n ((d, v) :: E) a w → K a w) :
    wpOp P l.toArray Q i (fun a' w' => Owns S hf [] w' ∧ K a' w') a w := by
  unfold wpOp
  simp only [List.getElem?_toArray, hi, Region.wanted, if_true]
  exact .inl (ho.wp fun v' w' hv => by obtain ⟨rfl, hw⟩ := hv; exact ⟨hw.bare, k _ _ ⟨h.put hd _, hw⟩⟩)
theorem any_N {K : Act → World → Prop} {i : Nat} {L' : Res} {v : Value} (hi : l[i]? = some ⟨none, op, ty, pos, after, none⟩) (h : Env a n E)
    (ho : OpT P ⟨none, op, ty, pos, after, none⟩ a.eval w (Val S hf L' v))
    (k : ∀ a w, St S hf L' n E a w → K a w) :
    wpOp P l.toArray Q i (fun a' w' => Owns S hf [] w' ∧ K a' w') a w := by
  unfold wpOp
  simp only [List.getElem?_toArray, hi, Region.wanted, if_true]
  exact .inl (ho.wp fun v' w' hv => by obtain ⟨_, hw⟩ := hv; exact ⟨hw.bare, k _ _ ⟨h, hw⟩⟩)
theorem any_GO {K : Act → World → Prop} {i j t : Nat} {want b : Bool} {o : Oper} {α : Type} {V : α → Value} {R : α → Res} {φ : α → Prop} (hi : l[i]? = some ⟨some d, op, ty, pos, after, some (j, want)⟩) (h : Env a n E) (hd : Nat.blt d n = true)
    (hj : l[j]? = some o) (hdst : o.dst = some t) (hb : look E t = some (.bool b)) (hne : (b == want) = true)
    (ho : OpT P ⟨some d, op, ty, pos, after, some (j, want)⟩ a.eval w (Out S hf V R φ))
    (k : ∀ y, φ y → ∀ a w, St S hf (R y) n ((d, V y) :: E) a w → K a w) :
    wpOp P l.toArray Q i (fun a' w' => Owns S hf [] w' ∧ K a' w') a w := by
  have hy := h.yielded (ops := l.toArray) (by simpa using hj) hdst hb
  unfold wpOp
  simp only [List.getElem?_toArray, hi]
  rw [if_pos (by simp only [Region.wanted, hy]; simpa using hne)]
  exact .inl (ho.wp fun v' w' hv => by obtain ⟨y, rfl, hw, hy⟩ := hv; exact ⟨hw.bare, k y hy _ _ ⟨h.put hd _, hw⟩⟩)
theorem any_GV {K : Act → World → Prop} {i j t : Nat} {want b : Bool} {o : Oper} {L' : Res} {v : Value} (hi : l[i]? = some ⟨some d, op, ty, pos, after, some (j, want)⟩) (h : Env a n E) (hd : Nat.blt d n = true)
    (hj : l[j]? = some o) (hdst : o.dst = some t) (hb : look E t = some (.bool b)) (hne : (b == want) = true)
    (ho : OpT P ⟨some d, op, ty, pos, after, some (j, want)⟩ a.eval w (Val S hf L' v))
    (k : ∀ a w, St S hf L' n ((d, v) :: E) a w → K a w) :
    wpOp P l.toArray Q i (fun a' w' => Owns S hf [] w' ∧ K a' w') a w := by
  have hy := h.yielded (ops := l.toArray) (by simpa using hj) hdst hb
  unfold wpOp
  simp only [List.getElem?_toArray, hi]
  rw [if_pos (by simp only [Region.wanted, hy]; simpa using hne)]
  exact .inl (ho.wp fun v' w' hv => by obtain ⟨rfl, hw⟩ := hv; exact ⟨hw.bare, k _ _ ⟨h.put hd _, hw⟩⟩)
theorem any_end {fuel : Nat} {listed : Array Bool} (hr : (Region.ready .any l.toArray listed).isEmpty = true) (k : Q .normal a w) : wpAnyH P .any l.toArray Q (Owns S hf []) fuel listed a w :=
  wpAnyH_done (List.isEmpty_iff.1 hr) k fuel

theorem anyH_strengthen {md : Region.Mode} {ops : Array Oper} {S1 S2 : World → Prop} (hS : ∀ w, S2 w → S1 w) : ∀ (fuel : Nat) (listed : Array Bool) (a : Act) (w : World), wpAnyH P md ops Q S2 fuel listed a w → wpAnyH P md ops Q S1 fuel listed a w
  | 0, _, _, _, h => h
  | fuel + 1, _, _, _, h => ⟨h.1, fun i hi => wpOp_mono (fun a' w' h' => ⟨hS _ h'.1, anyH_strengthen hS fuel _ a' w' h'.2⟩) (h.2 i hi)⟩
/-- what is owned is counted, from here on, among what stays -/
theorem any_lend {fuel : Nat} {listed : Array Bool} {hf' : Hp} (hle : hf.le hf') (k : wpAnyH P .any l.toArray Q (Owns S hf' []) fuel listed a w) : wpAnyH P .any l.toArray Q (Owns S hf []) fuel listed a w :=
  anyH_strengthen (fun _ h => h.weaken hle) _ _ _ _ k
end draws
end Go.Own
