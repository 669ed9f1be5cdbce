/-
  OWN LIBRARY, part 3: slices that are only read; what makes or writes memory; calls.
-/
import Derived.Test.YtkklgmhmhhbjkaaDoorKitB
namespace Go.Own
open Go

/-- a slice that stays: nil, or a row of cells of the memory that stays; 's': cells an element -/
def Sl (hf : Hp) (s : Nat) (v : Value) (n : Nat) (cs : List Value) : Prop :=
  cs.length = n * s ∧ (((∃ a c, v = .slice a 0 c ∧ c ≤ maxLen) ∧ n = 0) ∨ ∃ b o cap, v = slc b o n cap ∧ n ≤ cap ∧ cap ≤ maxLen ∧ ∀ i x, cs[i]? = some x → HCel hf b (o + i) x)
def sBlk : Value → Nat
  | .slice (some a) _ _ => a.block
  | _ => 0
def sOff : Value → Nat
  | .slice (some a) _ _ => a.off
  | _ => 0
def Byts (hf : Hp) (v : Value) (l : List UInt8) : Prop := Sl hf 1 v l.length (l.map B)
/-- a part of a slice's value -/
def subS (v : Value) (s lo hi : Nat) : Value :=
  match v with
  | .slice a _ c => .slice (if c = lo then a else a.map (·.add (lo * s))) (hi - lo) (c - lo)
  | x => x

section sl
variable {S : World} {hf : Hp} {L : Res} {w : World} {s n : Nat} {v : Value} {cs : List Value}
theorem Sl.mono {hf' : Hp} (h : Sl hf s v n cs) (hle : hf.le hf') : Sl hf' s v n cs := by
  obtain ⟨h1, h2⟩ := h
  refine ⟨h1, ?_⟩
  rcases h2 with h2 | ⟨b, o, cap, e, h3, h4, h5⟩
  · exact .inl h2
  · exact .inr ⟨b, o, cap, e, h3, h4, fun i x hx => (h5 i x hx).mono hle⟩
theorem Byts.mono {hf' : Hp} {l : List UInt8} (h : Byts hf v l) (hle : hf.le hf') : Byts hf' v l := Sl.mono h hle
theorem Sl.cel (h : Sl hf s v n cs) {i : Nat} {x : Value} (hx : cs[i]? = some x) : Cel S hf L (sBlk v) (sOff v + i) x := by
  obtain ⟨h1, h2⟩ := h
  rcases h2 with ⟨_, h0⟩ | ⟨b, o, cap, rfl, _, _, h5⟩
  · subst h0
    have : i < cs.length := (List.getElem?_eq_some_iff.1 hx).1
    omega
  · exact (h5 i x hx).cel
theorem Sl.cels (h : Sl hf s v n cs) {j m : Nat} {vs : List Value} (hv : (cs.drop j).take m = vs) : Cels S hf L (sBlk v) (sOff v + j) vs := fun i x hx => by
  subst hv
  rw [List.getElem?_take] at hx
  split at hx
  · rw [List.getElem?_drop] at hx
    rw [Nat.add_assoc]
    exact h.cel hx
  · cases hx
theorem Byts.cel {l : List UInt8} (h : Byts hf v l) {i : Nat} {x : UInt8} (hx : l[i]? = some x) : Cel S hf L (sBlk v) (sOff v + i) (B x) := Sl.cel h (by simp [hx])
theorem Sl.shape (h : Sl hf s v n cs) : ∃ a c, v = .slice a n c := by
  rcases h.2 with ⟨⟨_, _, rfl, _⟩, rfl⟩ | ⟨b, o, cap, rfl, _⟩ <;> exact ⟨_, _, rfl⟩
theorem Sl.nil : Sl hf s nilS 0 [] := ⟨by simp, .inl ⟨⟨_, _, rfl, Nat.zero_le _⟩, rfl⟩⟩
/-- out of a block that stays -/
theorem Sl.row {b o cap : Nat} {T : TypeId} {ds : List Value} (hb : hf b = some (row T ds)) (hc : (ds.drop o).take cs.length = cs) (hl : cs.length = n * s) (h1 : n ≤ cap) (h2 : cap ≤ maxLen) : Sl hf s (slc b o n cap) n cs := by
  refine ⟨hl, .inr ⟨b, o, cap, rfl, h1, h2, fun i x hx => ⟨_, _, _, hb, ?_⟩⟩⟩
  rw [← hc, List.getElem?_take] at hx
  split at hx
  · simpa using hx
  · cases hx
theorem Sl.len_le (h : Sl hf s v n cs) : n ≤ maxLen := by
  rcases h.2 with ⟨_, rfl⟩ | ⟨b, o, cap, _, h1, h2, _⟩
  · exact Nat.zero_le _
  · exact Nat.le_trans h1 h2
theorem Sl.sub (h : Sl hf s v n cs) {lo hi : Nat} (h1 : lo ≤ hi) (h2 : hi ≤ n) : Sl hf s (subS v s lo hi) (hi - lo) ((cs.drop (lo * s)).take ((hi - lo) * s)) := by
  obtain ⟨hl, h⟩ := h
  have hle : lo * s + (hi - lo) * s ≤ n * s := by rw [← Nat.add_mul]; exact Nat.mul_le_mul_right _ (by omega)
  have hlen : ((cs.drop (lo * s)).take ((hi - lo) * s)).length = (hi - lo) * s := by
    simp only [List.length_take, List.length_drop, hl]; omega
  refine ⟨hlen, ?_⟩
  rcases h with ⟨⟨a, c, rfl, hc0⟩, rfl⟩ | ⟨b, o, cap, rfl, h3, h4, h5⟩
  · left
    have : lo = 0 := by omega
    have : hi = 0 := by omega
    subst_vars
    exact ⟨⟨_, _, rfl, Nat.le_trans (Nat.sub_le _ _) hc0⟩, rfl⟩
  · right
    by_cases hc : cap = lo
    · have e1 : hi - lo = 0 := by omega
      refine ⟨b, o, cap - lo, ?_, by omega, by omega, fun i x hx => ?_⟩
      · simp [subS, hc]
      · rw [e1] at hx; simp at hx
    · refine ⟨b, o + lo * s, cap - lo, ?_, by omega, by omega, fun i x hx => ?_⟩
      · simp [subS, hc, Addr.add_at]
      · rw [List.getElem?_take] at hx
        split at hx
        · rw [List.getElem?_drop] at hx
          rw [Nat.add_assoc]
          exact h5 _ _ hx
        · cases hx
theorem Byts.sub {l : List UInt8} (h : Byts hf v l) {lo hi : Nat} (h1 : lo ≤ hi) (h2 : hi ≤ l.length) : Byts hf (subS v 1 lo hi) ((l.drop lo).take (hi - lo)) := by
  have := Sl.sub h h1 h2
  simp only [Nat.mul_one] at this
  unfold Byts
  have e : ((l.drop lo).take (hi - lo)).length = hi - lo := by simp; omega
  rw [e]
  simpa [List.map_take, List.map_drop] using this
end sl

/-- a vector of the call's own: nil, or at the head of a row that is owned -/
def Vec (T : TypeId) (s : Nat) (v : Value) (n : Nat) (xs : List Value) (Lv : Res) : Prop :=
  xs.length = n * s ∧ ((v = nilS ∧ n = 0 ∧ Lv = []) ∨ ∃ b cap rest, v = slc b 0 n cap ∧ Lv = [(b, row T (xs ++ rest))] ∧ n ≤ cap ∧ cap ≤ maxLen ∧ (xs ++ rest).length = cap * s)

/-- what an append takes: a slice whose cells are known -/
def Src (S : World) (hf : Hp) (L : Res) (v : Value) (m : Nat) (news : List Value) : Prop := ((∃ a c, v = .slice a 0 c) ∧ m = 0 ∧ news = []) ∨ ∃ b o c, v = slc b o m c ∧ Cels S hf L b o news
theorem Sl.src {S : World} {hf : Hp} {L : Res} {s n : Nat} {v : Value} {cs : List Value} (h : Sl hf s v n cs) : Src S hf L v n cs := by
  obtain ⟨hl, h⟩ := h
  rcases h with ⟨⟨a, c, rfl, _⟩, rfl⟩ | ⟨b, o, cap, rfl, _, _, h5⟩
  · exact .inl ⟨⟨_, _, rfl⟩, rfl, List.eq_nil_of_length_eq_zero (by simpa using hl)⟩
  · exact .inr ⟨b, o, cap, rfl, fun i x hx => (h5 i x hx).cel⟩

section acts
variable {P : Program} {S : World} {hf : Hp} {L Lv Lr : Res} {n : Nat} {E : List (Nat × Value)} {a : Act} {w : World}
  {dst : Option Tmp} {ty : TypeId} {pos : String} {after : Array Edge} {g : Option (Nat × Bool)} {x y c : Operand} {v u : Value} {T yt : TypeId} {k : IntKind} {m i r : Int} {b o : Nat}

theorem p_lenS {s l : Nat} {cs : List Value} {e : TypeId} (ht : P.underlying T = some (.slice e)) (h : St S hf L n E a w) (hx : ev E x = some v) (hS : Sl hf s v l cs) :
    Pure P ⟨dst, .call { callee := .builtin .len, args := #[x], argTypes := #[T] }, ty, pos, after, g⟩ a w (.int .i64 l) := by
  obtain ⟨ad, c, rfl⟩ := hS.shape
  exact p_len ht h hx
theorem p_lenB {l : List UInt8} {e : TypeId} (ht : P.underlying T = some (.slice e)) (h : St S hf L n E a w) (hx : ev E x = some v) (hS : Byts hf v l) :
    Pure P ⟨dst, .call { callee := .builtin .len, args := #[x], argTypes := #[T] }, ty, pos, after, g⟩ a w (.int .i64 l.length) := p_lenS ht h hx hS
theorem p_idxS {l s : Nat} {cs : List Value} {e : TypeId} {j : Nat} (hT : P.underlying T = some (.slice e)) (hs : ∀ w, (sizeOf e).run P w = .ok s w) (h : St S hf L n E a w) (hx : ev E x = some v) (hi : ev E y = some (.int k m)) (hS : Sl hf s v l cs) (hj : m = (j : Int)) (hlt : j < l) :
    Pure P ⟨dst, .indexAddr T x y, ty, pos, after, g⟩ a w (ptr (sBlk v) (sOff v + j * s)) := by
  rcases hS.2 with ⟨_, h0⟩ | ⟨b, o, cap, rfl, _⟩
  · omega
  · exact p_indexAddr hT hs h hx hi hj hlt rfl
theorem p_idxB {l : List UInt8} {e : TypeId} {j : Nat} (hT : P.underlying T = some (.slice e)) (hs : ∀ w, (sizeOf e).run P w = .ok 1 w) (h : St S hf L n E a w) (hx : ev E x = some v) (hi : ev E y = some (.int k m)) (hS : Byts hf v l) (hj : m = (j : Int)) (hlt : j < l.length) :
    Pure P ⟨dst, .indexAddr T x y, ty, pos, after, g⟩ a w (ptr (sBlk v) (sOff v + j)) := by
  have := p_idxS (dst := dst) (ty := ty) (pos := pos) (after := after) (g := g) hT hs h hx hi hS hj hlt
  simpa using this

/-- x[:hi], x[lo:hi] .. of a slice -/
theorem p_slice {ad : Option Addr} {e : TypeId} {s l cp lo hi : Nat} {ol oh : Option Operand} (hT : P.underlying T = some (.slice e)) (hs : ∀ w, (sizeOf e).run P w = .ok s w) (h : St S hf L n E a w) (hx : ev E x = some (.slice ad l cp))
    (hlo : match ol with | none => lo = 0 | some z => ∃ kk mm, ev E z = some (.int kk mm) ∧ mm = (lo : Int)) (hhi : match oh with | none => hi = l | some z => ∃ kk mm, ev E z = some (.int kk mm) ∧ mm = (hi : Int)) (h1 : lo ≤ hi) (h2 : hi ≤ cp) :
    Pure P ⟨dst, .slice T x ol oh none, ty, pos, after, g⟩ a w (subS (.slice ad l cp) s lo hi) := by
  have e1 : (hi : Int) ≤ (cp : Int) := by omega
  have e2 : (lo : Int) ≤ (hi : Int) := by omega
  cases ol with
  | none =>
    simp only at hlo
    subst hlo
    cases oh with
    | none =>
      simp only at hhi
      subst hhi
      simp [Pure, execOp, h.env.ev hx, Instr.sliceAt, run_underlying hT, Instr.slice, Instr.sliceBounds, hs, subS]
    | some z =>
      obtain ⟨kk, mm, hz, rfl⟩ := hhi
      simp [Pure, execOp, h.env.ev hx, h.env.ev hz, Instr.sliceAt, run_underlying hT, Instr.slice, Instr.sliceBounds, Instr.sliceBound, asIntOf, h2, hs, subS]
  | some z' =>
    obtain ⟨kk', mm', hz', rfl⟩ := hlo
    cases oh with
    | none =>
      simp only at hhi
      subst hhi
      simp [Pure, execOp, h.env.ev hx, h.env.ev hz', Instr.sliceAt, run_underlying hT, Instr.slice, Instr.sliceBounds, Instr.sliceBound, asIntOf, h1, hs, subS]
    | some z =>
      obtain ⟨kk, mm, hz, rfl⟩ := hhi
      simp [Pure, execOp, h.env.ev hx, h.env.ev hz, h.env.ev hz', Instr.sliceAt, run_underlying hT, Instr.slice, Instr.sliceBounds, Instr.sliceBound, asIntOf, h2, h1, hs, subS]
/-- an array in memory, as a slice -/
theorem p_sliceArr {e : TypeId} {l : Nat} (hT : P.underlying T = some (.array l e)) {s : Nat} (hs : ∀ w, (sizeOf e).run P w = .ok s w) (h : St S hf L n E a w) (hx : ev E x = some (ptr b o)) :
    Pure P ⟨dst, .slice T x none none none, ty, pos, after, g⟩ a w (slc b o l l) := by
  simp [Pure, execOp, h.env.ev hx, Instr.sliceAt, run_underlying hT, Instr.sureAddr, Instr.sliceBounds, hs, Addr.add_at]

theorem o_box {l : List Value} (h : St S hf L n E a w) (hx : ev E x = some v) (hl : v.cells.toList = l) :
    OpT P ⟨dst, .box T x, ty, pos, after, g⟩ a.eval w (Out S hf (fun b : Nat => ptr b 0) (fun b => (b, row T l) :: L) (fun _ => True)) := by
  have e : row T l = .cells v.cells T := by subst hl; rfl
  have r : (execOp a.eval ⟨dst, .box T x, ty, pos, after, g⟩).run P w = .ok (.value (ptr w.heap.size 0)) (w.alloc (row T l)) := by
    rw [e]
    simp [execOp, h.env.ev hx, Instr.box, newVar, newRow]
  unfold OpT
  rw [r]
  exact ⟨w.heap.size, rfl, h.own.alloc _, trivial⟩
theorem o_alloc {l : List Value} {z : Value} (hz : ∀ w, (zeroValue T).run P w = .ok z w) (hl : z.cells.toList = l) (h : St S hf L n E a w) :
    OpT P ⟨dst, .alloc T, ty, pos, after, g⟩ a.eval w (Out S hf (fun b : Nat => ptr b 0) (fun b => (b, row T l) :: L) (fun _ => True)) := by
  have e : row T l = .cells z.cells T := by subst hl; rfl
  have r : (execOp a.eval ⟨dst, .alloc T, ty, pos, after, g⟩).run P w = .ok (.value (ptr w.heap.size 0)) (w.alloc (row T l)) := by
    rw [e]
    simp [execOp, Instr.alloc, hz, newVar, newRow]
  unfold OpT
  rw [r]
  exact ⟨w.heap.size, rfl, h.own.alloc _, trivial⟩

theorem o_storeA {vs cs : List Value} {T' : TypeId} {kk : Nat} (hz : ∀ w, (sizeOf T).run P w = .ok vs.length w) (h : St S hf L n E a w) (hx : ev E x = some (ptr b o)) (hy : ev E y = some v) (hv : v.cells.toList = vs)
    (h1 : ∀ u ∈ vs, u.oneCell' = true) (hk : L[kk]? = some (b, row T' cs)) (hfit : o + vs.length ≤ cs.length) {cs' : List Value} (hcs : cs.take o ++ vs ++ cs.drop (o + vs.length) = cs') :
    OpT P ⟨dst, .store T x y, ty, pos, after, g⟩ a.eval w (Val S hf (L.set kk (b, row T' cs')) undef) := by
  have hg := h.own.own _ _ (List.mem_of_getElem? hk)
  have e1 := run_storeCells_at P b o T' vs 0 cs.toArray w hg (by simpa using hfit) h1
  have e2 : v.cells.size = vs.length := by subst hv; simp
  have r : (execOp a.eval ⟨dst, .store T x y, ty, pos, after, g⟩).run P w = .ok .skip (w.setRow b cs'.toArray) := by
    subst hcs
    simp only [Nat.add_zero] at e1
    simp [execOp, h.env.ev hx, h.env.ev hy, Instr.storeAt, Instr.sureAddr, storeVar, hz, e2]
    simp [hv, e1]
  unfold OpT
  rw [r]
  exact ⟨rfl, h.own.setRow hk⟩
theorem o_store {cs : List Value} {T' : TypeId} {kk : Nat} (hz : ∀ w, (sizeOf T).run P w = .ok 1 w) (h : St S hf L n E a w) (hx : ev E x = some (ptr b o)) (hy : ev E y = some v) (hv : v.cells.toList = [v])
    (h1 : v.oneCell' = true) (hk : L[kk]? = some (b, row T' cs)) (hfit : o < cs.length) {cs' : List Value} (hcs : cs.set o v = cs') :
    OpT P ⟨dst, .store T x y, ty, pos, after, g⟩ a.eval w (Val S hf (L.set kk (b, row T' cs')) undef) :=
  o_storeA (vs := [v]) hz h hx hy hv (by simpa using h1) hk (by simpa using Nat.succ_le_of_lt hfit) (by rw [← hcs, List.set_eq_take_append_cons_drop, if_pos hfit]; simp)

theorem o_make {z : Value} {e : TypeId} {inf : TypeInfo} {k1 k2 : IntKind} {l : Nat} {m' : Int} (hT : P.underlying T = some (.slice e)) (hi : P.info? e = some inf) (hz : inf.zero = some z) (hs : inf.size = 1) (hz1 : z.cells = #[z])
    (h : St S hf L n E a w) (hx : ev E x = some (.int k1 m)) (hy : ev E y = some (.int k2 m')) (h1 : m = (l : Int)) (h2 : m' = (l : Int)) (hb : inf.bytes * l ≤ 281474976710656) (h63 : l ≤ maxLen) :
    OpT P ⟨dst, .makeSlice T x y, ty, pos, after, g⟩ a.eval w (Out S hf (fun b : Nat => slc b 0 l l) (fun b => (b, row e (List.replicate l z)) :: L) (fun _ => True)) := by
  subst h1; subst h2
  have hb' : (inf.bytes : Int) * (l : Int) ≤ 281474976710656 := by
    have h : ((inf.bytes * l : Nat) : Int) ≤ 281474976710656 := by omega
    rwa [Int.natCast_mul] at h
  have hm : (l : Int) ≤ 9223372036854775807 := by simp only [maxLen] at h63; omega
  have r0 := run_make (P := P) w T e inf z hT hi hz k1 k2 l l (by omega) (Int.le_refl _) hb' hm
  simp only [Int.toNat_natCast] at r0
  have r : (execOp a.eval ⟨dst, .makeSlice T x y, ty, pos, after, g⟩).run P w = .ok (.value (slc w.heap.size 0 l l)) (w.alloc (row e (List.replicate l z))) := by
    have e1 : madeCells z.cells (l * inf.size) = (List.replicate l z).toArray := by
      apply Array.ext'
      rw [hz1, hs, Nat.mul_one, toList_madeCells_one]
    rw [e1] at r0
    simp only [execOp, h.env.ev hx, h.env.ev hy, Sem.run_bind, r0, Result.andThen_ok, Sem.run_pure]
  unfold OpT
  rw [r]
  exact ⟨w.heap.size, rfl, h.own.alloc _, trivial⟩

/-- append to a vector of one's own -/
theorem o_append {e : TypeId} {inf : TypeInfo} {z : Value} {s l q : Nat} {xs news : List Value} (hT : P.underlying T = some (.slice e)) (hi : P.info? e = some inf) (hz : inf.zero = some z) (hs : inf.size = s) (hzs : z.cells.size = s) (hs0 : 0 < s)
    (h : St S hf (Lv ++ Lr) n E a w) (hx : ev E x = some v) (hv : Vec e s v l xs Lv) (hy : ev E y = some u) (hu : Src S hf (Lv ++ Lr) u q news) (hlen : news.length = q * s) (h1 : ∀ u ∈ news, u.oneCell' = true)
    (h63 : l + q ≤ maxLen) (hb : (l + q) * inf.bytes ≤ 140737488355328) :
    OpT P ⟨dst, .call { callee := .builtin .append, args := #[x, y], argTypes := #[T, T] }, ty, pos, after, g⟩ a.eval w
      (Out S hf (fun y : Value × Res => y.1) (fun y => y.2 ++ Lr) (fun y => Vec e s y.1 (l + q) (xs ++ news) y.2)) := by
  subst hs
  have hsmall : l + q ≤ 9223372036854775807 := by simp only [maxLen] at h63; omega
  have hlen2 : (xs ++ news).length = (l + q) * inf.size := by rw [List.length_append, hv.1, hlen, Nat.add_mul]
  have fin : ∀ (v' : Value) (w' : World) (L' : Res), (Builtin.append_ #[T, T] ty #[v, u]).run P w = .ok v' w' → Owns S hf (L' ++ Lr) w' → Vec e inf.size v' (l + q) (xs ++ news) L' →
      OpT P ⟨dst, .call { callee := .builtin .append, args := #[x, y], argTypes := #[T, T] }, ty, pos, after, g⟩ a.eval w
      (Out S hf (fun y : Value × Res => y.1) (fun y => y.2 ++ Lr) (fun y => Vec e inf.size y.1 (l + q) (xs ++ news) y.2)) := by
    intro v' w' L' r hw' hv'
    have r2 : (execOp a.eval ⟨dst, .call { callee := .builtin .append, args := #[x, y], argTypes := #[T, T] }, ty, pos, after, g⟩).run P w = .ok (.value v') w' := by
      simp [execOp, resolve, invoke, builtin, h.env.ev hx, h.env.ev hy, r]
    unfold OpT
    rw [r2]
    exact ⟨(v', L'), rfl, hw', hv'⟩
  have ownR : Owns S hf Lr w := h.own.sub (List.sublist_append_right _ _)
  -- a new row
  have grown : ∀ (old : Nat), old < l + q → Vec e inf.size (slc w.heap.size 0 (l + q) (grownCap w (l + q) old e)) (l + q) (xs ++ news)
        [(w.heap.size, row e ((xs ++ news) ++ (Builtin.zeroCells z.cells (grownCap w (l + q) old e - (l + q))).toList))] := by
    intro old ho
    have hge := grownCap_ge w (l + q) old e
    have hcm : grownCap w (l + q) old e ≤ maxLen := grownCap_le_maxLen w (l + q) old e h63
    refine ⟨hlen2, .inr ⟨_, _, _, rfl, rfl, hge, hcm, ?_⟩⟩
    rw [List.length_append, hlen2, Array.length_toList, size_zeroCells, hzs, ← Nat.add_mul]
    congr 1
    omega
  have ownNew : ∀ (ys : List Value), Owns S hf ([(w.heap.size, row e ys)] ++ Lr) (w.drew.alloc (row e ys)) := fun ys => (ownR.drew).alloc (row e ys)
  have rowEq : ∀ (A B : List Value) (C : Array Value), (row e (A ++ B ++ C.toList)) = .cells (A.toArray ++ B.toArray ++ C) e := by
    intro A B C; simp [row]
  rcases hu with ⟨⟨a0, c0, rfl⟩, rfl, rfl⟩ | ⟨sb, so, sc, rfl, hcels⟩
  · -- nothing is appended
    rcases hv.2 with ⟨rfl, rfl, rfl⟩ | ⟨b, cap, rest, rfl, rfl, hn, hc, hrl⟩
    · refine fin nilS w [] ?_ h.own ⟨by simpa using hv.1, .inl ⟨rfl, rfl, rfl⟩⟩
      cases a0 <;> simp [Builtin.append_, run_underlying hT, sizeOf, typeInfo, hi, Builtin.lenOf, Builtin.firstCells, loadCells, loadCellsFrom]
    · refine fin (slc b 0 (l + 0) cap) w [(b, row e (xs ++ rest))] ?_ h.own ?_
      · cases a0 <;> simp [Builtin.append_, run_underlying hT, sizeOf, typeInfo, hi, Builtin.lenOf, Builtin.firstCells, hn, storeCells, loadCells, loadCellsFrom]
      · exact ⟨by simpa using hv.1, .inr ⟨b, cap, rest, rfl, by simp, hn, hc, by simpa using hrl⟩⟩
  · have hnews := hcels.at h.own
    rcases hv.2 with ⟨rfl, rfl, rfl⟩ | ⟨b, cap, rest, rfl, rfl, hn, hc, hrl⟩
    · have hx0 : xs = [] := List.eq_nil_of_length_eq_zero (by simpa using hv.1)
      subst hx0
      by_cases hq : q = 0
      · subst hq
        have : news = [] := List.eq_nil_of_length_eq_zero (by simpa using hlen)
        subst this
        refine fin nilS w [] ?_ h.own ⟨by simp, .inl ⟨rfl, rfl, rfl⟩⟩
        simp [Builtin.append_, run_underlying hT, sizeOf, typeInfo, hi, Builtin.lenOf, Builtin.firstCells, loadCells, loadCellsFrom]
      · have hr := run_append_nil (P := P) w T ty e inf z hT hi hz ⟨sb, so, none⟩ q sc news hlen hnews (by omega) (by omega) (by have hb := hb; simp only [Nat.zero_add] at hb; omega)
        have gr := grown 0 (by omega)
        simp only [Nat.zero_add, List.nil_append] at gr
        refine fin _ _ [(w.heap.size, row e (news ++ (Builtin.zeroCells z.cells (grownCap w q 0 e - q)).toList))] (hr.trans ?_) (ownNew _) (by simpa using gr)
        have hre : row e (news ++ (Builtin.zeroCells z.cells (grownCap w q 0 e - q)).toList) = .cells (news.toArray ++ Builtin.zeroCells z.cells (grownCap w q 0 e - q)) e := by
          show Obj.cells _ _ _ = _
          congr 1
          simp
        rw [hre]
    · have hg := h.own.own b _ (by simp : (b, row e (xs ++ rest)) ∈ [(b, row e (xs ++ rest))] ++ Lr)
      by_cases hroom : l + q ≤ cap
      · have hmul : (l + q) * inf.size ≤ cap * inf.size := Nat.mul_le_mul_right _ hroom
        have hfit : l * inf.size + news.length ≤ (xs ++ rest).toArray.size := by
          rw [List.size_toArray, hrl, hlen, ← Nat.add_mul]; exact hmul
        have hr := run_append_room (P := P) w T ty e inf hT hi b l cap _ hg ⟨sb, so, none⟩ q sc news hlen hnews h1 hroom hfit
        have e3 : ((xs ++ rest).toArray.toList.take (l * inf.size) ++ news ++ (xs ++ rest).toArray.toList.drop (l * inf.size + news.length)) = (xs ++ news) ++ rest.drop news.length := by
          rw [← hv.1]
          simp [List.drop_append]
        rw [e3] at hr
        refine fin _ _ [(b, row e ((xs ++ news) ++ rest.drop news.length))] hr ?_ ⟨hlen2, .inr ⟨b, cap, _, rfl, rfl, hroom, hc, ?_⟩⟩
        · have := h.own.setRow (k := 0) (b := b) (cs := (xs ++ rest).toArray) (cs' := ((xs ++ news) ++ rest.drop news.length).toArray) (T := e) (fr := (0, 0)) rfl
          simpa using this
        · have h1 := hv.1
          simp only [List.length_append, List.length_drop] at hrl ⊢
          have : (l + q) * inf.size ≤ cap * inf.size := hmul
          rw [Nat.add_mul] at this
          omega
      · have holds : ∀ j u, xs[j]? = some u → w.cell? ((⟨b, 0, none⟩ : Addr).add j) = some u := fun j u hj => by
          rw [Addr.add_at]
          have hj' : j < xs.length := (List.getElem?_eq_some_iff.1 hj).1
          simp only [World.cell?, hg]
          simp [List.getElem?_append_left hj', hj]
        have hr := run_append_grow (P := P) w T ty e inf z hT hi hz ⟨b, 0, none⟩ l cap xs hv.1 holds ⟨sb, so, none⟩ q sc news hlen hnews (by omega) (by omega) (growslice_fits (by omega) hb)
        refine fin _ _ _ (hr.trans ?_) (ownNew _) (grown cap (by omega))
        rw [rowEq]

theorem nodup_set {l : List Nat} (h : l.Nodup) {x : Nat} (hx : x ∉ l) : ∀ k, (l.set k x).Nodup := by
  induction l with
  | nil => intro k; simp
  | cons y r ih =>
    intro k
    rw [List.nodup_cons] at h
    simp only [List.mem_cons, not_or] at hx
    cases k with
    | zero => rw [List.set_cons_zero, List.nodup_cons]; exact ⟨hx.2, h.2⟩
    | succ k =>
      rw [List.set_cons_succ, List.nodup_cons]
      refine ⟨fun hm => ?_, ih h.2 hx.2 k⟩
      cases List.mem_or_eq_of_mem_set hm with
      | inl e => exact h.1 e
      | inr e => exact hx.1 e.symm
theorem Owns.replace {b' : Nat} {o' : Obj} (h : Owns S hf ((b', o') :: L) w) (kk : Nat) : Owns S hf (L.set kk (b', o')) w := by
  have hm : ∀ b o, (b, o) ∈ L.set kk (b', o') → (b, o) ∈ (b', o') :: L := fun b o m => by
    cases List.mem_or_eq_of_mem_set m with
    | inl e => exact List.mem_cons_of_mem _ e
    | inr e => rw [e]; exact List.mem_cons_self
  refine ⟨h.os, h.tape, h.output, h.old, fun b o m => h.own b o (hm b o m), fun b o m => h.apart b o (hm b o m), ?_⟩
  have hn := h.nodup
  rw [List.map_cons, List.nodup_cons] at hn
  rw [List.map_set]
  exact nodup_set hn.2 hn.1 kk

/-- append to a vector of one's own that has a row: the k-th owned block -/
theorem o_appendK {e : TypeId} {inf : TypeInfo} {z : Value} {s l q kk cap : Nat} {xs rest news cs ys : List Value} (hT : P.underlying T = some (.slice e)) (hi : P.info? e = some inf) (hz : inf.zero = some z) (hs : inf.size = s) (hzs : z.cells.size = s) (hs0 : 0 < s)
    (h : St S hf L n E a w) (hx : ev E x = some (slc b 0 l cap)) (hk : L[kk]? = some (b, row e cs)) (hcs : cs = xs ++ rest) (hxl : xs.length = l * s) (hlc : l ≤ cap) (hcm : cap ≤ maxLen) (hrl : (xs ++ rest).length = cap * s)
    (hy : ev E y = some u) (hu : Src S hf L u q news) (hlen : news.length = q * s) (h1 : ∀ u ∈ news, u.oneCell' = true)
    (h63 : l + q ≤ maxLen) (hb : (l + q) * inf.bytes ≤ 140737488355328) (hys : xs ++ news = ys) :
    OpT P ⟨dst, .call { callee := .builtin .append, args := #[x, y], argTypes := #[T, T] }, ty, pos, after, g⟩ a.eval w
      (Out S hf (fun y : Nat × Nat × List Value => slc y.1 0 (l + q) y.2.1) (fun y => L.set kk (y.1, row e (ys ++ y.2.2))) (fun y => l + q ≤ y.2.1 ∧ y.2.1 ≤ maxLen ∧ (ys ++ y.2.2).length = y.2.1 * s)) := by
  subst hs hcs hys
  have hlen2 : (xs ++ news).length = (l + q) * inf.size := by rw [List.length_append, hxl, hlen, Nat.add_mul]
  have fin : ∀ (b' cap' : Nat) (rest' : List Value) (w' : World), (Builtin.append_ #[T, T] ty #[slc b 0 l cap, u]).run P w = .ok (slc b' 0 (l + q) cap') w' → Owns S hf (L.set kk (b', row e ((xs ++ news) ++ rest'))) w' →
      l + q ≤ cap' → cap' ≤ maxLen → ((xs ++ news) ++ rest').length = cap' * inf.size →
      OpT P ⟨dst, .call { callee := .builtin .append, args := #[x, y], argTypes := #[T, T] }, ty, pos, after, g⟩ a.eval w
      (Out S hf (fun y : Nat × Nat × List Value => slc y.1 0 (l + q) y.2.1) (fun y => L.set kk (y.1, row e ((xs ++ news) ++ y.2.2))) (fun y => l + q ≤ y.2.1 ∧ y.2.1 ≤ maxLen ∧ ((xs ++ news) ++ y.2.2).length = y.2.1 * inf.size)) := by
    intro b' cap' rest' w' r hw' h1 h2 h3
    have r2 : (execOp a.eval ⟨dst, .call { callee := .builtin .append, args := #[x, y], argTypes := #[T, T] }, ty, pos, after, g⟩).run P w = .ok (.value (slc b' 0 (l + q) cap')) w' := by
      simp [execOp, resolve, invoke, builtin, h.env.ev hx, h.env.ev hy, r]
    unfold OpT
    rw [r2]
    exact ⟨(b', cap', rest'), rfl, hw', h1, h2, h3⟩
  have hg := h.own.own b _ (List.mem_of_getElem? hk)
  rcases hu with ⟨⟨a0, c0, rfl⟩, rfl, rfl⟩ | ⟨sb, so, sc, rfl, hcels⟩
  · refine fin b cap rest w ?_ ?_ hlc hcm (by simpa using hrl)
    · cases a0 <;> simp [Builtin.append_, run_underlying hT, sizeOf, typeInfo, hi, Builtin.lenOf, Builtin.firstCells, hlc, storeCells, loadCells, loadCellsFrom]
    · have e1 : L.set kk (b, row e ((xs ++ []) ++ rest)) = L := by
        rw [List.append_nil]
        obtain ⟨hlt, he⟩ := List.getElem?_eq_some_iff.1 hk
        rw [← he]; exact List.set_getElem_self hlt
      rw [e1]; exact h.own
  · have hnews := hcels.at h.own
    by_cases hroom : l + q ≤ cap
    · have hmul : (l + q) * inf.size ≤ cap * inf.size := Nat.mul_le_mul_right _ hroom
      have hfit : l * inf.size + news.length ≤ (xs ++ rest).toArray.size := by
        rw [List.size_toArray, hrl, hlen, ← Nat.add_mul]; exact hmul
      have hr := run_append_room (P := P) w T ty e inf hT hi b l cap _ hg ⟨sb, so, none⟩ q sc news hlen hnews h1 hroom hfit
      have e3 : ((xs ++ rest).toArray.toList.take (l * inf.size) ++ news ++ (xs ++ rest).toArray.toList.drop (l * inf.size + news.length)) = (xs ++ news) ++ rest.drop news.length := by
        rw [← hxl]
        simp [List.drop_append]
      rw [e3] at hr
      refine fin b cap (rest.drop news.length) _ hr (h.own.setRow hk) hroom hcm ?_
      simp only [List.length_append, List.length_drop] at hrl ⊢
      have : (l + q) * inf.size ≤ cap * inf.size := hmul
      rw [Nat.add_mul] at this
      omega
    · have holds : ∀ j u, xs[j]? = some u → w.cell? ((⟨b, 0, none⟩ : Addr).add j) = some u := fun j u hj => by
        rw [Addr.add_at]
        have hj' : j < xs.length := (List.getElem?_eq_some_iff.1 hj).1
        simp only [World.cell?, hg]
        simp [List.getElem?_append_left hj', hj]
      have hr := run_append_grow (P := P) w T ty e inf z hT hi hz ⟨b, 0, none⟩ l cap xs hxl holds ⟨sb, so, none⟩ q sc news hlen hnews (by omega) (by simp only [maxLen] at h63; omega) (growslice_fits (by omega) hb)
      have hge := grownCap_ge w (l + q) cap e
      have hc2 : grownCap w (l + q) cap e ≤ maxLen := grownCap_le_maxLen w (l + q) cap e h63
      refine fin w.heap.size _ (Builtin.zeroCells z.cells (grownCap w (l + q) cap e - (l + q))).toList _ (hr.trans ?_) (((h.own.drew).alloc _).replace kk) hge hc2 ?_
      · congr 2
        show _ = Obj.cells _ _ _
        congr 1
        simp
      · rw [List.length_append, hlen2, Array.length_toList, size_zeroCells, hzs, ← Nat.add_mul]
        congr 1
        omega
/-- append of something to the nil slice -/
theorem o_appendNil {e : TypeId} {inf : TypeInfo} {z : Value} {s q : Nat} {news ys : List Value} (hT : P.underlying T = some (.slice e)) (hi : P.info? e = some inf) (hz : inf.zero = some z) (hs : inf.size = s) (hzs : z.cells.size = s)
    (h : St S hf L n E a w) (hx : ev E x = some nilS) (hy : ev E y = some u) (hu : Src S hf L u q news) (hq : 0 < q) (hlen : news.length = q * s)
    (h63 : q ≤ maxLen) (hb : q * inf.bytes ≤ 140737488355328) (hys : news = ys) :
    OpT P ⟨dst, .call { callee := .builtin .append, args := #[x, y], argTypes := #[T, T] }, ty, pos, after, g⟩ a.eval w
      (Out S hf (fun y : Nat × Nat × List Value => slc y.1 0 q y.2.1) (fun y => (y.1, row e (ys ++ y.2.2)) :: L) (fun y => q ≤ y.2.1 ∧ y.2.1 ≤ maxLen ∧ (ys ++ y.2.2).length = y.2.1 * s)) := by
  subst hs hys
  rcases hu with ⟨_, rfl, _⟩ | ⟨sb, so, sc, rfl, hcels⟩
  · omega
  · have hnews := hcels.at h.own
    have hr := run_append_nil (P := P) w T ty e inf z hT hi hz ⟨sb, so, none⟩ q sc news hlen hnews hq (by simp only [maxLen] at h63; omega) (by omega)
    have r2 : (execOp a.eval ⟨dst, .call { callee := .builtin .append, args := #[x, y], argTypes := #[T, T] }, ty, pos, after, g⟩).run P w =
        .ok (.value (slc w.heap.size 0 q (grownCap w q 0 e))) (w.drew.alloc (row e (news ++ (Builtin.zeroCells z.cells (grownCap w q 0 e - q)).toList))) := by
      have e1 : (Obj.cells (news.toArray ++ Builtin.zeroCells z.cells (grownCap w q 0 e - q)) e : Obj) = row e (news ++ (Builtin.zeroCells z.cells (grownCap w q 0 e - q)).toList) := by
        show _ = Obj.cells _ _ _
        congr 1
        simp
      rw [e1] at hr
      simp only [execOp, resolve, invoke, builtin, Sem.run_bind, Sem.run_pure, Result.andThen_ok]
      have e2 : #[x, y].map a.eval = #[nilS, slc sb so q sc] := by simp [h.env.ev hx, h.env.ev hy]
      rw [e2, hr]
      rfl
    have hge := grownCap_ge w q 0 e
    have hc2 : grownCap w q 0 e ≤ maxLen := grownCap_le_maxLen w q 0 e h63
    unfold OpT
    rw [r2]
    refine ⟨(w.heap.size, grownCap w q 0 e, _), rfl, (h.own.drew).alloc _, hge, hc2, ?_⟩
    show (news ++ (Builtin.zeroCells z.cells (grownCap w q 0 e - q)).toList).length = grownCap w q 0 e * inf.size
    rw [List.length_append, hlen, Array.length_toList, size_zeroCells, hzs, ← Nat.add_mul]
    congr 1
    omega

theorem fill_ones (vs : List Value) : ∀ (k : Nat) (pre rest : List Value), (∀ v ∈ vs, v.cells = #[v]) → pre.length = k → rest.length = vs.length →
    Instr.fill (fun i => some (i * 1, 1)) (pre ++ rest).toArray ((List.range' k vs.length).zip vs) = some (pre ++ vs).toArray := by
  induction vs with
  | nil => intro k pre rest _ _ h; have := List.eq_nil_of_length_eq_zero h; subst this; simp [Instr.fill]
  | cons v vs ih =>
    intro k pre rest h1 hk hr
    cases rest with
    | nil => simp at hr
    | cons r rest =>
      have hv := h1 v List.mem_cons_self
      simp only [List.length_cons, List.range'_succ, List.zip_cons_cons, Instr.fill, hv]
      have e1 : (pre ++ r :: rest).toArray.setIfInBounds (k * 1 + 0) v = ((pre ++ [v]) ++ rest).toArray := by
        apply Array.ext'
        simp only [Array.toList_setIfInBounds, Nat.mul_one, Nat.add_zero, List.append_assoc, List.cons_append, List.nil_append]
        rw [List.set_append_right _ _ (by omega)]
        simp [hk]
      have e2 : (Array.foldl (fun cs (x : Value × Nat) => cs.setIfInBounds (k * 1 + x.2) x.1) (pre ++ r :: rest).toArray (#[v] : Array Value).zipIdx) = ((pre ++ [v]) ++ rest).toArray := by
        rw [← e1]; rfl
      have ih' := ih (k + 1) (pre ++ [v]) rest (fun u hu => h1 u (List.mem_cons_of_mem _ hu)) (by simp [hk]) (by simpa using hr)
      rw [if_neg (by simp [hk])]
      show Instr.fill _ (Array.foldl (fun cs (x : Value × Nat) => cs.setIfInBounds (k * 1 + x.2) x.1) (pre ++ r :: rest).toArray (#[v] : Array Value).zipIdx) _ = _
      rw [e2, ih']
      simp
/-- a slice written out, its elements one cell each -/
theorem o_buildSlice {e : TypeId} {z : Value} {vs : List Value} {len : Nat} {parts : Array (Nat × Operand)} (hT : P.underlying T = some (.slice e)) (hs : ∀ w, (sizeOf e).run P w = .ok 1 w) (hz : ∀ w, (zeroValue e).run P w = .ok z w)
    (h : St S hf L n E a w) (hev : evs E (parts.toList.map (·.2)) = some vs) (hidx : parts.toList.map (·.1) = List.range' 0 len) (h1 : ∀ v ∈ vs, v.cells = #[v]) (hlen : vs.length = len) (hsm : Nat.ble len 1000 = true) (hpos : Nat.beq len 0 = false) :
    OpT P ⟨dst, .buildSlice T len parts, ty, pos, after, g⟩ a.eval w (Out S hf (fun b : Nat => slc b 0 len len) (fun b => (b, row e vs) :: L) (fun _ => True)) := by
  have hsm' : len ≤ 1000 := Nat.le_of_ble_eq_true hsm
  have hpos' : len ≠ 0 := fun e => by subst e; simp at hpos
  have e1 : (parts.map fun (i, x) => (i, a.eval x)).toList = (List.range' 0 vs.length).zip vs := by
    rw [hlen, ← hidx, ← h.env.evs hev]
    simp only [Array.toList_map, List.map_map]
    rw [List.zip_map']
    rfl
  have e2 : Instr.fill (fun i => some (i * 1, 1)) ((Array.range (len * 1)).map fun i => z.cells[i % z.cells.size]!) ((List.range' 0 vs.length).zip vs) = some vs.toArray := by
    have := fill_ones vs 0 [] ((Array.range (len * 1)).map fun i => z.cells[i % z.cells.size]!).toList h1 rfl (by simp [hlen])
    rw [List.nil_append, Array.toArray_toList, List.nil_append] at this
    exact this
  have r : (execOp a.eval ⟨dst, .buildSlice T len parts, ty, pos, after, g⟩).run P w = .ok (.value (slc w.heap.size 0 len len)) (w.alloc (row e vs)) := by
    have hb : ¬ (len * 1 > 2 ^ 24) := by omega
    have hb0 : ¬ (len * 1 = 0) := by omega
    simp only [execOp, Instr.buildSlice, Sem.run_bind, run_underlying hT, Result.andThen_ok, hs, if_neg hb, if_neg hb0, Sem.run_pure, hz, e1, e2, newRow, run_newObj, World.alloc_eq]
  unfold OpT
  rw [r]
  exact ⟨w.heap.size, rfl, h.own.alloc _, trivial⟩
theorem fill_whole (cs zs : Array Value) (hz : zs.size = cs.size) : cs.zipIdx.foldl (fun acc (x : Value × Nat) => acc.setIfInBounds (0 + x.2) x.1) zs = cs := by
  have key : ∀ (l pre rest : List Value), rest.length = l.length → (l.zipIdx pre.length).foldl (fun acc (x : Value × Nat) => acc.setIfInBounds (0 + x.2) x.1) (pre ++ rest).toArray = (pre ++ l).toArray := by
    intro l
    induction l with
    | nil => intro pre rest h; have := List.eq_nil_of_length_eq_zero h; subst this; simp
    | cons v l ih =>
      intro pre rest h
      cases rest with
      | nil => simp at h
      | cons r rest =>
        have e1 : (pre ++ r :: rest).toArray.setIfInBounds (0 + pre.length) v = ((pre ++ [v]) ++ rest).toArray := by
          apply Array.ext'
          simp only [Array.toList_setIfInBounds, Nat.zero_add, List.append_assoc, List.cons_append, List.nil_append]
          rw [List.set_append_right _ _ (Nat.le_refl _)]
          simp
        have := ih (pre ++ [v]) rest (by simpa using h)
        simp only [List.zipIdx_cons, List.foldl_cons]
        rw [e1]
        have e2 : (pre ++ [v]).length = pre.length + 1 := by simp
        rw [e2] at this
        rw [this]
        simp
  have := key cs.toList [] zs.toList (by simp [hz])
  rw [← Array.foldl_toList, Array.toList_zipIdx]
  simpa using this
/-- a slice of one element, of whatever size -/
theorem o_buildSlice_one {e : TypeId} {z : Value} {vs : List Value} {s : Nat} {y0 : Operand} (hT : P.underlying T = some (.slice e)) (hs : ∀ w, (sizeOf e).run P w = .ok s w) (hz : ∀ w, (zeroValue e).run P w = .ok z w) (hzs : z.cells.size = s)
    (h : St S hf L n E a w) (hx : ev E y0 = some v) (hv : v.cells.toList = vs) (hlen : vs.length = s) (hsm : Nat.ble s 16777216 = true) (hpos : Nat.beq s 0 = false) :
    OpT P ⟨dst, .buildSlice T 1 #[(0, y0)], ty, pos, after, g⟩ a.eval w (Out S hf (fun b : Nat => slc b 0 1 1) (fun b => (b, row e vs) :: L) (fun _ => True)) := by
  have hsm' : s ≤ 16777216 := Nat.le_of_ble_eq_true hsm
  have hpos' : s ≠ 0 := fun e => by subst e; simp at hpos
  have hvs : v.cells.size = s := by rw [← hlen, ← hv]; simp
  have e2 : Instr.fill (fun i => some (i * s, s)) ((Array.range (1 * s)).map fun i => z.cells[i % z.cells.size]!) (#[(0, y0)].map fun (i, x) => (i, a.eval x)).toList = some vs.toArray := by
    have e3 : (#[((0 : Nat), y0)].map fun (i, x) => (i, a.eval x)).toList = [(0, v)] := by simp [h.env.ev hx]
    rw [e3]
    simp only [Instr.fill]
    rw [if_neg (by simp [hvs])]
    have := fill_whole v.cells ((Array.range (1 * s)).map fun i => z.cells[i % z.cells.size]!) (by simp [hvs])
    simp only [Nat.zero_mul]
    rw [this, ← hv]
  have r : (execOp a.eval ⟨dst, .buildSlice T 1 #[(0, y0)], ty, pos, after, g⟩).run P w = .ok (.value (slc w.heap.size 0 1 1)) (w.alloc (row e vs)) := by
    have hb : ¬ (1 * s > 2 ^ 24) := by omega
    have hb0 : ¬ (1 * s = 0) := by omega
    simp only [execOp, Instr.buildSlice, Sem.run_bind, run_underlying hT, Result.andThen_ok, hs, if_neg hb, if_neg hb0, Sem.run_pure, hz, e2, newRow, run_newObj, World.alloc_eq]
  unfold OpT
  rw [r]
  exact ⟨w.heap.size, rfl, h.own.alloc _, trivial⟩

theorem subS_head {b m cap s k : Nat} : subS (slc b 0 m cap) s 0 k = slc b 0 k cap := by
  simp only [subS, Nat.zero_mul, Nat.sub_zero, Option.map_some, Addr.add_at, Nat.add_zero]
  split <;> rfl

/-- x[:k] of a slice at the head of its block -/
theorem p_sliceHead {e : TypeId} {s l cp q : Nat} {z : Operand} (hT : P.underlying T = some (.slice e)) (hs : ∀ w, (sizeOf e).run P w = .ok s w) (h : St S hf L n E a w) (hx : ev E x = some (slc b 0 l cp))
    (hz : ev E z = some (.int k m)) (hm : m = (q : Int)) (h2 : q ≤ cp) :
    Pure P ⟨dst, .slice T x none (some z) none, ty, pos, after, g⟩ a w (slc b 0 q cp) := by
  have := p_slice (dst := dst) (ty := ty) (pos := pos) (after := after) (g := g) (lo := 0) (hi := q) (ol := none) (oh := some z) hT hs h hx rfl ⟨k, m, hz, hm⟩ (Nat.zero_le _) h2
  rwa [subS_head] at this

theorem p_sliceB {e : TypeId} {s q : Nat} {z : Operand} {l : List UInt8} (hT : P.underlying T = some (.slice e)) (hs : ∀ w, (sizeOf e).run P w = .ok s w) (h : St S hf L n E a w) (hx : ev E x = some v)
    (hz : ev E z = some (.int k m)) (hv : Byts hf v l) (hm : m = (q : Int)) (h2 : q ≤ l.length) :
    Pure P ⟨dst, .slice T x none (some z) none, ty, pos, after, g⟩ a w (subS v s 0 q) := by
  rcases hv.2 with ⟨⟨a0, c0, rfl, _⟩, h0⟩ | ⟨b, o, cap, rfl, h3, _, _⟩
  · exact p_slice (lo := 0) (hi := q) (ol := none) (oh := some z) hT hs h hx rfl ⟨k, m, hz, hm⟩ (Nat.zero_le _) (by omega)
  · exact p_slice (lo := 0) (hi := q) (ol := none) (oh := some z) hT hs h hx rfl ⟨k, m, hz, hm⟩ (Nat.zero_le _) (by omega)

/-- copy into a block of one's own -/
theorem o_copy {e : TypeId} {q kk dl dc : Nat} {T' U : TypeId} {news cs : List Value} (hT : P.underlying T = some (.slice e)) (hs : (P.info? e).map (·.size) = some 1)
    (h : St S hf L n E a w) (hx : ev E x = some (slc b o dl dc)) (hk : L[kk]? = some (b, row T' cs)) (hy : ev E y = some u) (hu : Src S hf L u q news) (hq : news.length = q) (h1 : ∀ u ∈ news, u.oneCell' = true) (hfit : o + min q dl ≤ cs.length)
    {cs' : List Value} (hcs : cs.take o ++ news.take dl ++ cs.drop (o + min q dl) = cs') :
    OpT P ⟨dst, .call { callee := .builtin .copy, args := #[x, y], argTypes := #[T, U] }, ty, pos, after, g⟩ a.eval w (Val S hf (L.set kk (b, row T' cs')) (.int .i64 (min q dl : Nat))) := by
  have hg := h.own.own _ _ (List.mem_of_getElem? hk)
  have hm : (news.take dl).length = min q dl := by rw [List.length_take, hq, Nat.min_comm]
  have r : (Builtin.copy_ #[T, U] ty #[slc b o dl dc, u]).run P w = .ok (.int .i64 (min q dl : Nat)) (w.setRow b cs'.toArray) := by
    rcases hu with ⟨⟨a0, c0, rfl⟩, rfl, rfl⟩ | ⟨sb, so, sc, rfl, hcels⟩
    · have hr : (Builtin.copy_ #[T, U] ty #[slc b o dl dc, .slice a0 0 c0]).run P w = .ok (goInt 0) w := by
        cases hq2 : P.info? e with
        | none => simp [hq2] at hs
        | some i => cases a0 <;> simp [Builtin.copy_, run_underlying hT, Builtin.lenOf, Builtin.firstCells, sizeOf, typeInfo, hq2, storeCells, loadCells, loadCellsFrom]
      rw [hr]
      have : cs' = cs := by rw [← hcs]; simp
      rw [this, setRow_self w b cs.toArray T' (0, 0) hg]
      simp [goInt]
    · have hr := run_copy_row (P := P) w T U ty e b o dl dc ⟨sb, so, none⟩ q sc cs.toArray T' (news.take dl) hT hs hg hm
        (fun j v hj => hcels.at h.own j v (by rw [List.getElem?_take] at hj; split at hj <;> first | exact hj | cases hj)) (by rw [hm]; simpa using hfit) (fun v hv => h1 v (List.mem_of_mem_take hv))
      rw [hr, hm]
      show Result.ok (goInt _) (w.setRow b (List.toArray _)) = _
      simp only [goInt]
      rw [← hcs]
  have r2 : (execOp a.eval ⟨dst, .call { callee := .builtin .copy, args := #[x, y], argTypes := #[T, U] }, ty, pos, after, g⟩).run P w = .ok (.value (.int .i64 (min q dl : Nat))) (w.setRow b cs'.toArray) := by
    simp [execOp, resolve, invoke, builtin, h.env.ev hx, h.env.ev hy, r]
  unfold OpT
  rw [r2]
  exact ⟨rfl, h.own.setRow hk⟩

/-! ### calls -/
theorem o_call {f : FuncId} {args : Array Operand} {tys : Array TypeId} {vs : List Value} (hc : ∀ args w, (callFunc f args).run P w = .ok (.enter f args) w) (h : St S hf L n E a w) (hv : evs E args.toList = some vs) :
    Enter P ⟨dst, .call { callee := .value (.func f), args := args, argTypes := tys }, ty, pos, after, g⟩ a w f vs.toArray := by
  have e1 : args.map a.eval = vs.toArray := Array.ext' (by rw [← h.env.evs hv]; simp)
  have e2 : a.eval (.func f) = .func (.func f) #[] #[] := rfl
  simp [Enter, execOp, resolve, Deferred.ofValue, e2, invoke, e1, hc]
theorem o_callDyn {f : FuncId} {args : Array Operand} {tys : Array TypeId} {vs c1 c2 : List Value} (hc : ∀ args w, (callFunc f args).run P w = .ok (.enter f args) w) (h : St S hf L n E a w) (hx : ev E x = some (.func (.func f) c1.toArray c2.toArray)) (hv : evs E args.toList = some vs) :
    Enter P ⟨dst, .call { callee := .value x, args := args, argTypes := tys }, ty, pos, after, g⟩ a w f (c1 ++ vs ++ c2).toArray := by
  have e1 : args.map a.eval = vs.toArray := Array.ext' (by rw [← h.env.evs hv]; simp)
  simp [Enter, execOp, resolve, Deferred.ofValue, h.env.ev hx, invoke, e1, hc]
end acts

section calls
variable {P : Program} {S : World} {hf : Hp} {L L1 L2 : Res} {w : World} {f : FuncId} {args : Array Value}
theorem call_out {α : Type} {V : α → Value} {R : α → Res} {φ : α → Prop} (h : Owns S hf (L1 ++ L2) w) (hc : Calls P f args w (Ret S (hf.with L2) V R φ)) :
    Calls P f args w (fun e w' => ∃ v, e = .returned v ∧ Out S hf V (fun y => R y ++ L2) φ v w') :=
  hc.mono fun _ _ ⟨y, he, hw, hy⟩ => ⟨_, he, y, rfl, h.back hw, hy⟩
theorem call_val {v : Value} (h : Owns S hf (L1 ++ L2) w) (hc : Calls P f args w (RetV S (hf.with L2) L v)) :
    Calls P f args w (fun e w' => ∃ v', e = .returned v' ∧ Val S hf (L ++ L2) v v' w') :=
  hc.mono fun _ _ ⟨he, hw⟩ => ⟨_, he, rfl, h.back hw⟩
theorem call_q {v : Value} (h : Owns S hf ([] ++ L2) w) (hc : Calls P f args w (RetV S (hf.with L2) [] v)) :
    Calls P f args w (fun e w' => e = .returned v ∧ Owns S hf L2 w') :=
  hc.mono fun _ _ ⟨he, hw⟩ => ⟨he, h.back hw⟩
end calls
end Go.Own
