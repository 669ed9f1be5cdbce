/-
  OWN LIBRARY, part 24: rows: lists of entries opened.
-/
import Derived.Test.YtkklgmhmhhbjkaaDoorKitU
import Derived.Test.YtkklgmhmhhbjkaaDoorKitR
namespace Go.Own
open Go Go.ChangeShapes Go.WideShapes Go.RowKit
section opens
variable {H : Type} {enc : TypeId × Value → H} {P : Program} {W : World}
theorem open_entC {t tk e : TypeId} {fuel : Nat} {cs : List Value} {x : DataW H × List MemPlace} {fs : Array Field}
    (ht : P.underlying t = some (.struct fs)) (hfs : fs.toList.map (fun f => (f.type, f.offset)) = [(tk, 0), (tk, 1)]) (htk : P.underlying tk = some (.slice e)) (he : P.underlying e = some (.int .u8))
    (hc : P.cellsOf e = 1) (hby : P.bytesOf e = 1) (hck : P.cellsOf tk = 1) (hct : P.cellsOf t = 2) (h : trodH enc P W fuel t cs = some x) :
    ∃ (u : EntV) (f : EntP), cs = [u.1, u.2] ∧ Byts (hpOf W) u.1 f.key ∧ Byts (hpOf W) u.2 f.val ∧ ((x.1.weights P t).all (· ≤ reachBytes) = true → f.key.length ≤ 140737488351232 ∧ f.val.length ≤ 140737488351232) := by
  obtain ⟨xs, m, hx, hl, hxl, hg⟩ := open_fields ht hfs h
  have hn : cs.length = 2 := by rw [hl, hct]
  have g0 := hg 0 tk 0 rfl
  have g1 := hg 1 tk 1 rfl
  rw [hck] at g0 g1
  obtain ⟨y0, hy0, g0⟩ := g0; obtain ⟨y1, hy1, g1⟩ := g1
  rw [drop_one _ 0 (by omega)] at g0
  rw [drop_one _ 1 (by omega)] at g1
  obtain ⟨l0, h0, w0⟩ := open_byts htk he hc hby g0
  obtain ⟨l1, h1, w1⟩ := open_byts htk he hc hby g1
  refine ⟨(cs[0]'(by omega), cs[1]'(by omega)), ⟨l0, l1⟩, ?_, h0, h1, ?_⟩
  · match cs, hn with
    | [a, b], _ => rfl
  · intro hw
    subst hx
    simp only [DataW.weights, ht] at hw
    have hfs1 : fs.toList.map (·.type) = [tk, tk] := by
      have := congrArg (List.map (·.1)) hfs
      simpa [Function.comp_def] using this
    rw [hfs1] at hw
    obtain ⟨q0, q1, rfl⟩ : ∃ q0 q1, xs = [q0, q1] := by
      match xs, hxl with
      | [q0, q1], _ => exact ⟨_, _, rfl⟩
    simp only [List.getElem?_cons_succ, List.getElem?_cons_zero, Option.some.injEq] at hy0 hy1
    subst hy0 hy1
    simp only [List.map_cons, List.map_nil, DataW.weightsEach, List.all_append, Bool.and_eq_true] at hw
    exact ⟨w0 hw.1, w1 hw.2.1⟩
theorem open_entList {t tk e : TypeId} {fs : Array Field}
    (ht : P.underlying t = some (.struct fs)) (hfs : fs.toList.map (fun f => (f.type, f.offset)) = [(tk, 0), (tk, 1)]) (htk : P.underlying tk = some (.slice e)) (he : P.underlying e = some (.int .u8))
    (hc : P.cellsOf e = 1) (hby : P.bytesOf e = 1) (hck : P.cellsOf tk = 1) (hct : P.cellsOf t = 2) {m : Nat} :
    ∀ (css : List (List Value)) (xs : List (DataW H × List MemPlace)), (∀ (i : Nat) (cs : List Value), css[i]? = some cs → ∃ y : DataW H × List MemPlace, xs[i]? = some y ∧ trodH enc P W m t cs = some y) →
      ∃ (es : List EntP) (evs : List EntV), es.length = css.length ∧ evs.length = es.length ∧ css.flatten = ecells evs ∧ (∀ (i : Nat) (f : EntP) (u : EntV), es[i]? = some f → evs[i]? = some u → Byts (hpOf W) u.1 f.key ∧ Byts (hpOf W) u.2 f.val) ∧
        ((∀ y ∈ xs, (y.1.weights P t).all (· ≤ reachBytes) = true) → ∀ f ∈ es, f.key.length ≤ 140737488351232 ∧ f.val.length ≤ 140737488351232)
  | [], xs, _ => ⟨[], [], rfl, rfl, rfl, fun i p u h => by simp at h, fun _ p hp => by cases hp⟩
  | cs :: css, xs, h => by
    obtain ⟨y, hy, hty⟩ := h 0 cs rfl
    obtain ⟨u, f, hk, hb1, hb2, hw⟩ := open_entC ht hfs htk he hc hby hck hct hty
    obtain ⟨x0, xs', rfl⟩ : ∃ x0 xs', xs = x0 :: xs' := by
      cases xs with
      | nil => simp at hy
      | cons x0 xs' => exact ⟨x0, xs', rfl⟩
    simp at hy
    subst hy
    obtain ⟨es, evs, h1, h2, h3, h4, h5⟩ := open_entList ht hfs htk he hc hby hck hct css xs' (fun i cs hi => h (i + 1) cs (by simpa using hi))
    refine ⟨f :: es, u :: evs, by simp [h1], by simp [h2], ?_, ?_, ?_⟩
    · rw [List.flatten_cons, h3, hk]
      obtain ⟨a, b⟩ := u
      rfl
    · intro i p v hp hv
      cases i with
      | zero => cases hp; cases hv; exact ⟨hb1, hb2⟩
      | succ i => exact h4 i p v (by simpa using hp) (by simpa using hv)
    · intro hall p hp
      rcases List.mem_cons.1 hp with rfl | hp
      · exact hw (hall _ List.mem_cons_self)
      · exact h5 (fun y hy => hall y (List.mem_cons_of_mem _ hy)) p hp
theorem open_ents {T t tk e : TypeId} {fuel : Nat} {v : Value} {x : DataW H × List MemPlace} {fs : Array Field} (hT : P.underlying T = some (.slice t))
    (ht : P.underlying t = some (.struct fs)) (hfs : fs.toList.map (fun f => (f.type, f.offset)) = [(tk, 0), (tk, 1)]) (htk : P.underlying tk = some (.slice e)) (he : P.underlying e = some (.int .u8))
    (hc : P.cellsOf e = 1) (hby : P.bytesOf e = 1) (hck : P.cellsOf tk = 1) (hct : P.cellsOf t = 2) (hbt : P.bytesOf t = 48) (h : trodH enc P W fuel T [v] = some x) :
    ∃ (es : List EntP) (evs : List EntV), EntsOk (hpOf W) es v evs ∧ ((x.1.weights P T).all (· ≤ reachBytes) = true → es.length * 48 ≤ 140737488355328 ∧ ∀ f ∈ es, f.key.length ≤ 140737488351232 ∧ f.val.length ≤ 140737488351232) := by
  obtain ⟨css, xk, mk, hxk, hck2, hcl, hsl, hwk⟩ := open_elems hT hct (by decide) hbt h
  obtain ⟨es, evs, k1, k2, k3, k4, k5⟩ := open_entList ht hfs htk he hc hby hck hct css xk hck2
  rw [k3, ← k1] at hsl
  refine ⟨es, evs, ⟨hsl, k2, k4⟩, fun hw => ?_⟩
  obtain ⟨n1, n2⟩ := hwk hw
  exact ⟨by rw [k1]; omega, k5 n2⟩
end opens
end Go.Own
