/-
  OWN LIBRARY, part 7: sums compared; owned memory made memory that stays.
-/
import Derived.Test.YtkklgmhmhhbjkaaDoorKitF
namespace Go.Own
open Go

theorem run_equalIn_sum {P : Program} (w : World) (d : Nat) {t e : TypeId} {n : Nat} (ht : P.underlying t = some (.array n e)) (he : P.underlying e = some (.int .u8)) (hs : ∀ w, (sizeOf e).run P w = .ok 1 w) (ha : ∀ w, (isAgg e).run P w = .ok false w)
    (l r : List UInt8) (hl : l.length = n) (hr : r.length = n) :
    (Op.equalIn (d + 2) t (.agg (l.map B).toArray) (.agg (r.map B).toArray)).run P w = .ok (decide (l = r)) w := by
  obtain ⟨d1, hd⟩ : ∃ d1, d1 = d + 1 := ⟨_, rfl⟩
  rw [show d + 2 = d1 + 1 from by omega]
  simp only [Op.equalIn, Sem.run_bind, run_underlying ht, Result.andThen_ok, hs, Nat.mul_one]
  rw [Std.Legacy.Range.forIn_eq_forIn_range']
  have hsz : (Std.Legacy.Range.size [:n]) = n := by simp [Std.Legacy.Range.size]
  have key : ∀ (m k : Nat), k + m = n → l.take k = r.take k →
      (forIn (List.range' k m 1) ((none, ()) : Option Bool × Unit) fun i _ => do
        let x ← part e (l.map B).toArray i
        let y ← part e (r.map B).toArray i
        let b ← Op.equalIn d1 e x y
        if (!b) = true then pure (ForInStep.done (some false, ())) else pure (ForInStep.yield (none, ())) : Sem (Option Bool × Unit)).run P w = .ok (if l = r then (none, ()) else (some false, ())) w := by
    intro m
    induction m with
    | zero =>
      intro k hk htk
      have e1 : l = r := by rw [← List.take_of_length_le (l := l) (i := k) (by omega), htk, List.take_of_length_le (by omega)]
      simp [e1]
    | succ m ih =>
      intro k hk htk
      have h1 : k < l.length := by omega
      have h2 : k < r.length := by omega
      have p1 : (part e (l.map B).toArray k).run P w = .ok (B l[k]) w := by simp [part, ha, h1]
      have p2 : (part e (r.map B).toArray k).run P w = .ok (B r[k]) w := by simp [part, ha, h2]
      have p3 : (Op.equalIn d1 e (B l[k]) (B r[k])).run P w = .ok (((l[k].toNat : Int)) == (r[k].toNat : Int)) w := by
        rw [hd]; exact run_equalIn_int w d e .u8 .u8 _ _ he
      simp only [List.range'_succ, List.forIn_cons, Sem.run_bind, p1, p2, p3, Result.andThen_ok]
      by_cases hx : l[k] = r[k]
      · have e1 : (((l[k].toNat : Int)) == (r[k].toNat : Int)) = true := by rw [hx]; simp
        simp only [e1, Bool.not_true, Bool.false_eq_true, if_false, Sem.run_pure, Result.andThen_ok]
        refine ih (k + 1) (by omega) ?_
        rw [List.take_succ_eq_append_getElem h1, List.take_succ_eq_append_getElem h2, htk, hx]
      · have e1 : (((l[k].toNat : Int)) == (r[k].toNat : Int)) = false := by
          simp only [beq_eq_false_iff_ne, ne_eq]
          intro hc
          exact hx (UInt8.toNat_inj.1 (by omega))
        have e2 : l ≠ r := fun h => hx (by subst h; rfl)
        simp [e1, e2]
  have := key n 0 (by omega) rfl
  rw [hsz]
  show ((Sem.run P (forIn (List.range' 0 n 1) _ _) w).andThen _) = _
  rw [this]
  by_cases h : l = r <;> simp [h]

section sums
variable {P : Program} {S : World} {hf : Hp} {L : Res} {n : Nat} {E : List (Nat × Value)} {a : Act} {w : World}
  {dst : Option Tmp} {ty : TypeId} {pos : String} {after : Array Edge} {g : Option (Nat × Bool)} {x y : Operand} {T yt : TypeId}
theorem p_eqlS {e : TypeId} {l r : List UInt8} (ht : P.underlying T = some (.array 32 e)) (he : P.underlying e = some (.int .u8)) (hs : ∀ w, (sizeOf e).run P w = .ok 1 w) (ha : ∀ w, (isAgg e).run P w = .ok false w) (hm : P.eqGuardType P.depth T = false)
    (h : St S hf L n E a w) (hx : ev E x = some (sumV l)) (hy : ev E y = some (sumV r)) (hl : l.length = 32) (hr : r.length = 32) : Pure P ⟨dst, .binOp .eql T x y yt, ty, pos, after, g⟩ a w (.bool (decide (l = r))) := by
  have e1 := run_equalIn_sum (P := P) w 9998 ht he hs ha l r hl hr
  simp only [Pure, execOp, h.env.ev hx, h.env.ev hy, Sem.run_bind, run_eqGuard_agg w .eql T x y _ _ hm, Result.andThen_ok, run_eql_struct, e1, Sem.run_pure]
theorem p_neqS {e : TypeId} {l r : List UInt8} (ht : P.underlying T = some (.array 32 e)) (he : P.underlying e = some (.int .u8)) (hs : ∀ w, (sizeOf e).run P w = .ok 1 w) (ha : ∀ w, (isAgg e).run P w = .ok false w) (hm : P.eqGuardType P.depth T = false)
    (h : St S hf L n E a w) (hx : ev E x = some (sumV l)) (hy : ev E y = some (sumV r)) (hl : l.length = 32) (hr : r.length = 32) : Pure P ⟨dst, .binOp .neq T x y yt, ty, pos, after, g⟩ a w (.bool (decide (l ≠ r))) := by
  have e1 := run_equalIn_sum (P := P) w 9998 ht he hs ha l r hl hr
  simp only [Pure, execOp, h.env.ev hx, h.env.ev hy, Sem.run_bind, run_eqGuard_agg w .neq T x y _ _ hm, Result.andThen_ok, run_neq_struct, e1, Sem.run_pure]
  by_cases h : l = r <;> simp [h]
end sums

section freeze
variable {S : World} {hf : Hp} {L : Res} {n : Nat} {E : List (Nat × Value)} {a : Act} {w : World}
/-- what is owned becomes memory that stays; given back later -/
theorem St.freeze (h : St S hf L n E a w) : ∃ hf', hf.le hf' ∧ (∀ b o, (b, o) ∈ L → hf' b = some o) ∧ (∀ L' w', Owns S hf' L' w' → Owns S hf (L' ++ L) w') ∧ St S hf' [] n E a w :=
  ⟨hf.with L, h.own.le0, fun _ _ m => h.own.in0M m, fun _ _ h' => Owns.back (L0 := []) h.own h', ⟨h.env, h.own.lend0⟩⟩
theorem Cel.stay {b o : Nat} {v : Value} {cs : List Value} {T : TypeId} (hb : hf b = some (row T cs)) (hc : cs[o]? = some v) : Cel S hf L b o v := HCel.cel ⟨_, _, _, hb, by simpa using hc⟩
theorem Cels.stay {b : Nat} {cs : List Value} {T : TypeId} (hb : hf b = some (row T cs)) : Cels S hf L b 0 cs := fun i v hv => Cel.stay hb (by simpa using hv)
theorem Cels.stayPart {b o : Nat} {vs : List Value} {cs : List Value} {T : TypeId} (hb : hf b = some (row T cs)) (hc : (cs.drop o).take vs.length = vs) : Cels S hf L b o vs := fun i v hv => by
  refine Cel.stay hb ?_
  rw [← hc, List.getElem?_take] at hv
  split at hv
  · simpa [Nat.add_comm] using hv
  · cases hv
end freeze

@[simp] theorem leafText_length (k v : List UInt8) : (leafText k v).length = 5 + k.length + v.length := by simp [leafText]; omega
@[simp] theorem headText_length : headText.length = 1 := rfl
@[simp] theorem pairText_length (lvl : Int) (k : List UInt8) (c : Nat) (l b : List UInt8) : (pairText lvl k c l b).length = 14 + k.length + l.length + b.length := by simp [pairText]; omega
@[simp] theorem rootText_length (c : Nat) (h : List UInt8) : (rootText c h).length = 9 + h.length := by simp [rootText]; omega
theorem append_inj_len {a b c d : List UInt8} (h : a ++ b = c ++ d) (hl : b.length = d.length) : a = c ∧ b = d := by
  have h1 : a.length = c.length := by
    have := congrArg List.length h
    simp at this; omega
  exact List.append_inj h h1
theorem leafText_inj {l1 l2 s t : List UInt8} (hs : s.length = 32) (ht : t.length = 32) : leafText l1 s = leafText l2 t ↔ l1 = l2 ∧ s = t := by
  constructor
  · intro h
    simp only [leafText, List.cons.injEq, true_and] at h
    obtain ⟨_, h2⟩ := List.append_inj h (by simp)
    exact append_inj_len h2 (by omega)
  · rintro ⟨rfl, rfl⟩; rfl
theorem pairText_swap {lvl : Int} {kb s t : List UInt8} {c : Nat} (hs : s.length = 32) (ht : t.length = 32) : pairText lvl kb c t s = pairText lvl kb c s t ↔ s = t := by
  constructor
  · intro h
    simp only [pairText, List.cons.injEq, true_and, List.append_cancel_left_eq] at h
    exact (List.append_inj h (by omega)).1
  · rintro rfl; rfl
def KidV.relabel (k : KidV) (s : List UInt8) : KidV := { k with label := s }
@[simp] theorem KidV.relabel_label (k : KidV) (s : List UInt8) : (k.relabel s).label = s := rfl
theorem KidV.Ok.relabel {hf : Hp} {k : KidV} {kb s : List UInt8} (h : k.Ok hf kb) (hs : s.length = 32) : (k.relabel s).Ok hf kb := ⟨h.sum, hs, h.cnt, h.lvl, h.key⟩
theorem KidV.Ok.relabelAt {hf : Hp} {k : KidV} {kb s : List UInt8} (h : k.Ok hf kb) : k.cells.take 36 ++ (s.map B ++ k.cells.drop 68) = (k.relabel s).cells := by
  have e1 : k.cells = (.int .i64 k.lvl :: k.key :: .int .u64 (k.cnt : Int) :: (k.sum.map B ++ [B k.nth])) ++ k.label.map B := by simp [KidV.cells]
  have e2 : (.int .i64 k.lvl :: k.key :: .int .u64 (k.cnt : Int) :: (k.sum.map B ++ [B k.nth])).length = 36 := by simp [h.sum]
  have e3 : k.cells.drop 68 = [] := List.drop_of_length_le (by rw [h.length]; omega)
  rw [e3, e1, List.take_left' e2]
  simp [KidV.cells, KidV.relabel]
theorem KidV.Ok.one {hf : Hp} {k : KidV} {kb : List UInt8} (h : k.Ok hf kb) : ∀ u ∈ k.cells, u.oneCell' = true := by
  intro u hu
  simp only [KidV.cells, List.mem_cons, List.mem_append, List.mem_map] at hu
  rcases hu with rfl | rfl | rfl | ⟨x, _, rfl⟩ | rfl | ⟨x, _, rfl⟩ <;> first | rfl | skip
  obtain ⟨a, c, e⟩ := h.key.shape
  rw [e]; rfl
end Go.Own
