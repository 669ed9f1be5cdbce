/-
  OWN LIBRARY, part 2: one law for each operation.
-/
import Derived.Test.YtkklgmhmhhbjkaaDoorKitA
namespace Go.Own
open Go

abbrev row (T : TypeId) (l : List Value) : Obj := .cells l.toArray T (0, 0)
abbrev B (x : UInt8) : Value := .int .u8 (x.toNat : Int)
abbrev ptr (b o : Nat) : Value := .pointer (some ⟨b, o, none⟩)
abbrev slc (b o n c : Nat) : Value := .slice (some ⟨b, o, none⟩) n c
abbrev nilS : Value := .slice none 0 0

/-- a cell of the memory that stays -/
def HCel (hf : Hp) (b o : Nat) (v : Value) : Prop := ∃ cs T fr, hf b = some (.cells cs T fr) ∧ cs[o]? = some v
/-- a cell, whether it stays or is owned -/
def Cel (S : World) (hf : Hp) (L : Res) (b o : Nat) (v : Value) : Prop := ∀ w, Owns S hf L w → w.cell? ⟨b, o, none⟩ = some v
def Cels (S : World) (hf : Hp) (L : Res) (b o : Nat) (vs : List Value) : Prop := ∀ i v, vs[i]? = some v → Cel S hf L b (o + i) v

section cel
variable {S : World} {hf : Hp} {L : Res} {w : World}
theorem HCel.mono {hf' : Hp} {b o : Nat} {v : Value} (h : HCel hf b o v) (hle : hf.le hf') : HCel hf' b o v := by
  obtain ⟨cs, T, fr, e, hc⟩ := h; exact ⟨cs, T, fr, hle _ _ e, hc⟩
theorem HCel.cel {b o : Nat} {v : Value} (h : HCel hf b o v) : Cel S hf L b o v := fun w hw => by
  obtain ⟨cs, T, fr, e, hc⟩ := h
  simp [World.cell?, hw.old _ _ e, hc]
theorem Cel.own {k b o : Nat} {v : Value} {cs : List Value} {T : TypeId} (hk : L[k]? = some (b, row T cs)) (hc : cs[o]? = some v) : Cel S hf L b o v := fun w hw => by
  simp [World.cell?, hw.own _ _ (List.mem_of_getElem? hk), hc]
theorem Cels.own {k b o : Nat} {vs : List Value} {cs : List Value} {T : TypeId} (hk : L[k]? = some (b, row T cs)) (hc : (cs.drop o).take vs.length = vs) : Cels S hf L b o vs := fun i v hv => by
  refine Cel.own hk ?_
  rw [← hc, List.getElem?_take] at hv
  split at hv
  · simpa [Nat.add_comm] using hv
  · cases hv
theorem Cels.all {k b : Nat} {cs : List Value} {T : TypeId} (hk : L[k]? = some (b, row T cs)) : Cels S hf L b 0 cs := Cels.own hk (by simp)
theorem Addr.add_at (b o i : Nat) : (⟨b, o, none⟩ : Addr).add i = ⟨b, o + i, none⟩ := Addr.add_lit b o i
theorem Cels.at {b o : Nat} {vs : List Value} (h : Cels S hf L b o vs) (hw : Owns S hf L w) : ∀ j v, vs[j]? = some v → w.cell? ((⟨b, o, none⟩ : Addr).add j) = some v := fun j v hv => by
  rw [Addr.add_at]; exact h j v hv w hw
end cel

theorem wi {z : Int} (h : -9223372036854775808 ≤ z ∧ z ≤ 9223372036854775807) : IntKind.i64.wrap z = z := by
  rw [IntKind.wrap_i64]; omega
theorem wu64 {z : Int} (h : 0 ≤ z ∧ z ≤ 18446744073709551615) : IntKind.u64.wrap z = z := by
  simp only [IntKind.wrap, IntKind.bits, IntKind.signed]; simp; omega
theorem wu32 {z : Int} (h : 0 ≤ z ∧ z ≤ 4294967295) : IntKind.u32.wrap z = z := by
  simp only [IntKind.wrap, IntKind.bits, IntKind.signed]; simp; omega
theorem wu8 {z : Int} (h : 0 ≤ z ∧ z ≤ 255) : IntKind.u8.wrap z = z := by
  simp only [IntKind.wrap, IntKind.bits, IntKind.signed]; simp; omega

section pures
variable {P : Program} {S : World} {hf : Hp} {L : Res} {n : Nat} {E : List (Nat × Value)} {a : Act} {w : World}
  {dst : Option Tmp} {ty : TypeId} {pos : String} {after : Array Edge} {g : Option (Nat × Bool)} {x y c : Operand} {v u : Value} {T yt : TypeId} {k : IntKind} {m i r : Int} {b o : Nat}

theorem p_move (h : St S hf L n E a w) (hx : ev E x = some v) : Pure P ⟨dst, .move x, ty, pos, after, g⟩ a w v := by
  simp [Pure, execOp, h.env.ev hx]
theorem p_assign (h : St S hf L n E a w) (hx : ev E x = some v) : Pure P ⟨dst, .assign x, ty, pos, after, g⟩ a w v := by
  simp [Pure, execOp, h.env.ev hx]
theorem p_pick {p : Bool} (h : St S hf L n E a w) (hc : ev E c = some (.bool p)) (hx : ev E x = some v) (hy : ev E y = some u) : Pure P ⟨dst, .pick c x y, ty, pos, after, g⟩ a w (if p then v else u) := by
  simp [Pure, execOp, h.env.ev hc, h.env.ev hx, h.env.ev hy, asBool]
theorem p_pickT (h : St S hf L n E a w) (hc : ev E c = some (.bool true)) (hx : ev E x = some v) : Pure P ⟨dst, .pick c x y, ty, pos, after, g⟩ a w v := by
  simp [Pure, execOp, h.env.ev hc, h.env.ev hx, asBool]
theorem p_pickF (h : St S hf L n E a w) (hc : ev E c = some (.bool false)) (hy : ev E y = some v) : Pure P ⟨dst, .pick c x y, ty, pos, after, g⟩ a w v := by
  simp [Pure, execOp, h.env.ev hc, h.env.ev hy, asBool]

theorem p_add (h : St S hf L n E a w) (hx : ev E x = some (.int k m)) (hy : ev E y = some (.int k i)) (hr : k.wrap (m + i) = r) : Pure P ⟨dst, .binOp .add T x y yt, ty, pos, after, g⟩ a w (.int k r) := by
  subst hr; simp [Pure, execOp, h.env.ev hx, h.env.ev hy, binOp, eqGuard, Op.intArith]
theorem p_sub (h : St S hf L n E a w) (hx : ev E x = some (.int k m)) (hy : ev E y = some (.int k i)) (hr : k.wrap (m - i) = r) : Pure P ⟨dst, .binOp .sub T x y yt, ty, pos, after, g⟩ a w (.int k r) := by
  subst hr; simp [Pure, execOp, h.env.ev hx, h.env.ev hy, binOp, eqGuard, Op.intArith]
theorem p_mul (h : St S hf L n E a w) (hx : ev E x = some (.int k m)) (hy : ev E y = some (.int k i)) (hr : k.wrap (m * i) = r) : Pure P ⟨dst, .binOp .mul T x y yt, ty, pos, after, g⟩ a w (.int k r) := by
  subst hr; simp [Pure, execOp, h.env.ev hx, h.env.ev hy, binOp, eqGuard, Op.intArith]
theorem p_quo (h : St S hf L n E a w) (hx : ev E x = some (.int k m)) (hy : ev E y = some (.int k i)) (h0 : i ≠ 0) (hr : k.wrap (m.tdiv i) = r) : Pure P ⟨dst, .binOp .quo T x y yt, ty, pos, after, g⟩ a w (.int k r) := by
  subst hr; simp [Pure, execOp, h.env.ev hx, h.env.ev hy, binOp, eqGuard, Op.intDiv, h0]
theorem p_rem (h : St S hf L n E a w) (hx : ev E x = some (.int k m)) (hy : ev E y = some (.int k i)) (h0 : i ≠ 0) (hr : m.tmod i = r) : Pure P ⟨dst, .binOp .rem T x y yt, ty, pos, after, g⟩ a w (.int k r) := by
  subst hr; simp [Pure, execOp, h.env.ev hx, h.env.ev hy, binOp, eqGuard, Op.intDiv, h0]
theorem p_and (h : St S hf L n E a w) (hx : ev E x = some (.int k m)) (hy : ev E y = some (.int k i)) (hr : bits .and k m i = r) : Pure P ⟨dst, .binOp .and T x y yt, ty, pos, after, g⟩ a w (.int k r) := by
  subst hr; simp [Pure, execOp, h.env.ev hx, h.env.ev hy, binOp, eqGuard, intBits_and]
theorem p_or (h : St S hf L n E a w) (hx : ev E x = some (.int k m)) (hy : ev E y = some (.int k i)) (hr : bits .or k m i = r) : Pure P ⟨dst, .binOp .or T x y yt, ty, pos, after, g⟩ a w (.int k r) := by
  subst hr; simp [Pure, execOp, h.env.ev hx, h.env.ev hy, binOp, eqGuard, intBits_or]
theorem p_xor (h : St S hf L n E a w) (hx : ev E x = some (.int k m)) (hy : ev E y = some (.int k i)) (hr : bits .xor k m i = r) : Pure P ⟨dst, .binOp .xor T x y yt, ty, pos, after, g⟩ a w (.int k r) := by
  subst hr; simp [Pure, execOp, h.env.ev hx, h.env.ev hy, binOp, eqGuard, intBits_xor]
theorem p_andNot (h : St S hf L n E a w) (hx : ev E x = some (.int k m)) (hy : ev E y = some (.int k i)) (hr : bits .andNot k m i = r) : Pure P ⟨dst, .binOp .andNot T x y yt, ty, pos, after, g⟩ a w (.int k r) := by
  subst hr; simp [Pure, execOp, h.env.ev hx, h.env.ev hy, binOp, eqGuard, intBits_andNot]
theorem p_shr {yk : IntKind} (h : St S hf L n E a w) (hx : ev E x = some (.int k m)) (hy : ev E y = some (.int yk i)) (h0 : 0 ≤ i) (hr : m.fdiv (2 ^ (min i.toNat k.bits)) = r) : Pure P ⟨dst, .binOp .shr T x y yt, ty, pos, after, g⟩ a w (.int k r) := by
  subst hr
  have h0' : ¬ i < 0 := by omega
  simp [Pure, execOp, h.env.ev hx, h.env.ev hy, binOp, eqGuard, Op.shift, h0']
theorem p_shl {yk : IntKind} (h : St S hf L n E a w) (hx : ev E x = some (.int k m)) (hy : ev E y = some (.int yk i)) (h0 : 0 ≤ i) (hr : k.wrap (m * 2 ^ (min i.toNat k.bits)) = r) : Pure P ⟨dst, .binOp .shl T x y yt, ty, pos, after, g⟩ a w (.int k r) := by
  subst hr
  have h0' : ¬ i < 0 := by omega
  simp [Pure, execOp, h.env.ev hx, h.env.ev hy, binOp, eqGuard, Op.shift, h0']

theorem p_eql (h : St S hf L n E a w) (hx : ev E x = some (.int k m)) (hy : ev E y = some (.int k i)) : Pure P ⟨dst, .binOp .eql T x y yt, ty, pos, after, g⟩ a w (.bool (decide (m = i))) := by
  have e : (m == i) = decide (m = i) := by by_cases hm : m = i <;> simp [hm]
  simp [Pure, execOp, h.env.ev hx, h.env.ev hy, binOp, eqGuard, Op.intCmp, e]
theorem p_neq (h : St S hf L n E a w) (hx : ev E x = some (.int k m)) (hy : ev E y = some (.int k i)) : Pure P ⟨dst, .binOp .neq T x y yt, ty, pos, after, g⟩ a w (.bool (decide (m ≠ i))) := by
  have e : (m != i) = decide (m ≠ i) := by by_cases hm : m = i <;> simp [hm]
  simp [Pure, execOp, h.env.ev hx, h.env.ev hy, binOp, eqGuard, Op.intCmp, e]
theorem p_lss (h : St S hf L n E a w) (hx : ev E x = some (.int k m)) (hy : ev E y = some (.int k i)) : Pure P ⟨dst, .binOp .lss T x y yt, ty, pos, after, g⟩ a w (.bool (decide (m < i))) := by
  simp [Pure, execOp, h.env.ev hx, h.env.ev hy, binOp, eqGuard, Op.intCmp]
theorem p_leq (h : St S hf L n E a w) (hx : ev E x = some (.int k m)) (hy : ev E y = some (.int k i)) : Pure P ⟨dst, .binOp .leq T x y yt, ty, pos, after, g⟩ a w (.bool (decide (m ≤ i))) := by
  simp [Pure, execOp, h.env.ev hx, h.env.ev hy, binOp, eqGuard, Op.intCmp]
theorem p_gtr (h : St S hf L n E a w) (hx : ev E x = some (.int k m)) (hy : ev E y = some (.int k i)) : Pure P ⟨dst, .binOp .gtr T x y yt, ty, pos, after, g⟩ a w (.bool (decide (i < m))) := by
  simp [Pure, execOp, h.env.ev hx, h.env.ev hy, binOp, eqGuard, Op.intCmp]
theorem p_geq (h : St S hf L n E a w) (hx : ev E x = some (.int k m)) (hy : ev E y = some (.int k i)) : Pure P ⟨dst, .binOp .geq T x y yt, ty, pos, after, g⟩ a w (.bool (decide (i ≤ m))) := by
  simp [Pure, execOp, h.env.ev hx, h.env.ev hy, binOp, eqGuard, Op.intCmp]
theorem run_equalIn_bool (d : Nat) {p q : Bool} (ht : P.underlying T = some .bool) : (Op.equalIn (d + 1) T (.bool p) (.bool q)).run P w = .ok (p == q) w := by
  simp [Op.equalIn, run_underlying ht]
theorem run_equal_bool {p q : Bool} (ht : P.underlying T = some .bool) : (Op.equal T (.bool p) (.bool q)).run P w = .ok (p == q) w := run_equalIn_bool 9999 ht
theorem p_eqlB {p q : Bool} (ht : P.underlying T = some .bool) (h : St S hf L n E a w) (hx : ev E x = some (.bool p)) (hy : ev E y = some (.bool q)) : Pure P ⟨dst, .binOp .eql T x y yt, ty, pos, after, g⟩ a w (.bool (p == q)) := by
  have e : binOp .eql T (.bool p) (.bool q) = (do pure (.bool (← Op.equal T (.bool p) (.bool q)))) := rfl
  simp [Pure, execOp, h.env.ev hx, h.env.ev hy, e, eqGuard_at_bool, run_equal_bool ht]
theorem p_neqB {p q : Bool} (ht : P.underlying T = some .bool) (h : St S hf L n E a w) (hx : ev E x = some (.bool p)) (hy : ev E y = some (.bool q)) : Pure P ⟨dst, .binOp .neq T x y yt, ty, pos, after, g⟩ a w (.bool (!(p == q))) := by
  have e : binOp .neq T (.bool p) (.bool q) = (do pure (.bool (!(← Op.equal T (.bool p) (.bool q))))) := rfl
  simp [Pure, execOp, h.env.ev hx, h.env.ev hy, e, eqGuard_at_bool, run_equal_bool ht]
theorem p_not {p : Bool} (h : St S hf L n E a w) (hx : ev E x = some (.bool p)) : Pure P ⟨dst, .unOp .not T x, ty, pos, after, g⟩ a w (.bool (!p)) := by
  simp [Pure, execOp, h.env.ev hx, Op.unary]
theorem p_compl (h : St S hf L n E a w) (hx : ev E x = some (.int k m)) (hr : bits .xor k (if k.signed then -1 else k.max) m = r) : Pure P ⟨dst, .unOp .xor T x, ty, pos, after, g⟩ a w (.int k r) := by
  subst hr; simp [Pure, execOp, h.env.ev hx, Op.unary, intBits_xor]
theorem p_conv {k' : IntKind} {D : TypeId} {ds : TypeDesc} (hs : P.underlying T = some ds) (hd : P.underlying D = some (.int k')) (h : St S hf L n E a w) (hx : ev E x = some (.int k m)) (hr : k'.wrap m = r) : Pure P ⟨dst, .convert T D x, ty, pos, after, g⟩ a w (.int k' r) := by
  subst hr
  simp [Pure, execOp, h.env.ev hx, convert, run_underlying hs, run_underlying hd, Conv.intToInt]
theorem p_len {ad : Option Addr} {l cp : Nat} {e : TypeId} (ht : P.underlying T = some (.slice e)) (h : St S hf L n E a w) (hx : ev E x = some (.slice ad l cp)) :
    Pure P ⟨dst, .call { callee := .builtin .len, args := #[x], argTypes := #[T] }, ty, pos, after, g⟩ a w (.int .i64 l) := by
  simp [Pure, execOp, resolve, invoke, builtin, h.env.ev hx, Builtin.len_, run_underlying ht, goInt]
theorem p_extract {vs : Array Value} {j : Nat} (h : St S hf L n E a w) (hx : ev E x = some (.tuple vs)) (hv : vs[j]? = some v) : Pure P ⟨dst, .extract x j, ty, pos, after, g⟩ a w v := by
  simp [Pure, execOp, h.env.ev hx, Instr.extract, hv]
theorem p_nilCheck {ad : Addr} (h : St S hf L n E a w) (hx : ev E x = some (.pointer (some ad))) : Pure P ⟨dst, .nilCheck x, ty, pos, after, g⟩ a w (.pointer (some ad)) := by
  simp [Pure, execOp, h.env.ev hx]
theorem p_makeFunc {fn : Fn} {c1 c2 : Array Operand} {l1 l2 : List Value} (h : St S hf L n E a w) (h1 : evs E c1.toList = some l1) (h2 : evs E c2.toList = some l2) : Pure P ⟨dst, .makeFunc fn c1 c2, ty, pos, after, g⟩ a w (.func fn l1.toArray l2.toArray) := by
  have e1 : c1.map a.eval = l1.toArray := Array.ext' (by rw [← h.env.evs h1]; simp)
  have e2 : c2.map a.eval = l2.toArray := Array.ext' (by rw [← h.env.evs h2]; simp)
  simp [Pure, execOp, Instr.makeFunc, e1, e2]

/-- a cell's load -/
theorem p_load (hT : ∀ w, (isAgg T).run P w = .ok false w) (h : St S hf L n E a w) (hx : ev E x = some (ptr b o)) (hc : Cel S hf L b o v) : Pure P ⟨dst, .load T x, ty, pos, after, g⟩ a w v := by
  simp [Pure, execOp, h.env.ev hx, Instr.loadAt, Instr.sureAddr, loadVar, hT, hc w h.own]
/-- a struct's or array's load -/
theorem p_loadA {vs : List Value} (hT : ∀ w, (isAgg T).run P w = .ok true w) (hz : ∀ w, (sizeOf T).run P w = .ok vs.length w) (h : St S hf L n E a w) (hx : ev E x = some (ptr b o)) (hc : Cels S hf L b o vs) :
    Pure P ⟨dst, .load T x, ty, pos, after, g⟩ a w (.agg vs.toArray) := by
  have e := run_loadCells_list (P := P) w ⟨b, o, none⟩ vs (hc.at h.own)
  simp [Pure, execOp, h.env.ev hx, Instr.loadAt, Instr.sureAddr, loadVar, hT, hz, e]
theorem p_fieldAddr {fs : Array Field} {f : Field} {j s r : Nat} (hT : P.underlying T = some (.struct fs)) (hj : fs[j]? = some f) (hs : ∀ w, (sizeOf f.type).run P w = .ok s w) (h0 : Nat.beq s 0 = false) (hoff : o + f.offset = r)
    (h : St S hf L n E a w) (hx : ev E x = some (ptr b o)) : Pure P ⟨dst, .fieldAddr T x j, ty, pos, after, g⟩ a w (ptr b r) := by
  subst hoff
  have h0' : s ≠ 0 := fun e => by subst e; simp at h0
  simp [Pure, execOp, h.env.ev hx, Instr.fieldAt, run_underlying hT, hj, Instr.sureAddr, fieldPlace, hs, h0', Addr.add_at]
theorem p_indexAddr {l cp s r : Nat} {e : TypeId} {j : Nat} (hT : P.underlying T = some (.slice e)) (hs : ∀ w, (sizeOf e).run P w = .ok s w) (h : St S hf L n E a w) (hx : ev E x = some (slc b o l cp)) (hi : ev E y = some (.int k m)) (hj : m = (j : Int)) (hlt : j < l) (hr : o + j * s = r) :
    Pure P ⟨dst, .indexAddr T x y, ty, pos, after, g⟩ a w (ptr b r) := by
  subst hj hr
  simp [Pure, execOp, h.env.ev hx, h.env.ev hi, Instr.indexAt, run_underlying hT, asIntOf, hlt, hs, Addr.add_at]
theorem p_indexAddr1 {l cp r : Nat} {e : TypeId} {j : Nat} (hT : P.underlying T = some (.slice e)) (hs : ∀ w, (sizeOf e).run P w = .ok 1 w) (h : St S hf L n E a w) (hx : ev E x = some (slc b o l cp)) (hi : ev E y = some (.int k m)) (hj : m = (j : Int)) (hlt : j < l) (hr : o + j = r) :
    Pure P ⟨dst, .indexAddr T x y, ty, pos, after, g⟩ a w (ptr b r) :=
  p_indexAddr hT hs h hx hi hj hlt (by simpa using hr)
/-- an array's element, by its address -/
theorem p_indexAddrA {l s r : Nat} {e : TypeId} {j : Nat} (hT : P.underlying T = some (.array l e)) (hs : ∀ w, (sizeOf e).run P w = .ok s w) (h : St S hf L n E a w) (hx : ev E x = some (ptr b o)) (hi : ev E y = some (.int k m)) (hj : m = (j : Int)) (hlt : j < l) (hr : o + j * s = r) :
    Pure P ⟨dst, .indexAddr T x y, ty, pos, after, g⟩ a w (ptr b r) := by
  subst hj hr
  simp [Pure, execOp, h.env.ev hx, h.env.ev hi, Instr.indexAt, run_underlying hT, asIntOf, hlt, hs, Addr.add_at, Instr.sureAddr]
theorem p_indexAddrA1 {l r : Nat} {e : TypeId} {j : Nat} (hT : P.underlying T = some (.array l e)) (hs : ∀ w, (sizeOf e).run P w = .ok 1 w) (h : St S hf L n E a w) (hx : ev E x = some (ptr b o)) (hi : ev E y = some (.int k m)) (hj : m = (j : Int)) (hlt : j < l) (hr : o + j = r) :
    Pure P ⟨dst, .indexAddr T x y, ty, pos, after, g⟩ a w (ptr b r) :=
  p_indexAddrA hT hs h hx hi hj hlt (by simpa using hr)
/-- an array value's element -/
theorem p_index {l s : Nat} {e : TypeId} {j : Nat} {cs : Array Value} (hT : P.underlying T = some (.array l e)) (ha : ∀ w, (isAgg e).run P w = .ok false w) (hs : ∀ w, (sizeOf e).run P w = .ok s w) (h : St S hf L n E a w) (hx : ev E x = some (.agg cs)) (hi : ev E y = some (.int k m)) (hj : m = (j : Int)) (hlt : j < l)
    (hv : cs[j * s]? = some v) : Pure P ⟨dst, .index T x y, ty, pos, after, g⟩ a w v := by
  subst hj
  simp [Pure, execOp, h.env.ev hx, h.env.ev hi, Instr.index, run_underlying hT, asIntOf, hlt, hs, part, ha, hv]
/-- a struct value's field -/
theorem p_field {fs : Array Field} {f : Field} {j : Nat} {cs : Array Value} (hT : P.underlying T = some (.struct fs)) (hj : fs[j]? = some f) (ha : ∀ w, (isAgg f.type).run P w = .ok false w) (h : St S hf L n E a w) (hx : ev E x = some (.agg cs)) (hv : cs[f.offset]? = some v) :
    Pure P ⟨dst, .field T x j, ty, pos, after, g⟩ a w v := by
  simp [Pure, execOp, h.env.ev hx, Instr.field, run_underlying hT, hj, asAgg, part, ha, hv]
theorem p_fieldA {fs : Array Field} {f : Field} {j s : Nat} {cs : Array Value} (hT : P.underlying T = some (.struct fs)) (hj : fs[j]? = some f) (ha : ∀ w, (isAgg f.type).run P w = .ok true w) (hs : ∀ w, (sizeOf f.type).run P w = .ok s w) (h : St S hf L n E a w) (hx : ev E x = some (.agg cs))
    {vs : List Value} (hv : (cs.toList.drop f.offset).take s = vs) : Pure P ⟨dst, .field T x j, ty, pos, after, g⟩ a w (.agg vs.toArray) := by
  have e : cs.extract f.offset (f.offset + s) = vs.toArray := by
    apply Array.ext'
    rw [← hv]
    simp [List.extract_eq_take_drop]
  simp [Pure, execOp, h.env.ev hx, Instr.field, run_underlying hT, hj, asAgg, part, ha, hs, e]
end pures
end Go.Own
