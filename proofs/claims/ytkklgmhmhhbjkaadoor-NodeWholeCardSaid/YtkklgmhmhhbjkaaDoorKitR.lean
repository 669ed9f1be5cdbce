/-
  OWN LIBRARY, part 18: rows: lists of structs opened; towers.
-/
import Derived.Test.YtkklgmhmhhbjkaaDoorKitQ
import Derived.Test.YtkklgmhmhhbjkaaDoorKitH
namespace Go.Own
open Go Go.ChangeShapes Go.WideShapes Go.RowKit

theorem flat_get {α : Type} {s : Nat} (hs : 0 < s) : ∀ {css : List (List α)}, (∀ cs ∈ css, cs.length = s) → ∀ j, css.flatten[j]? = (css[j / s]?).bind (·[j % s]?)
  | [], _, j => by simp
  | c :: css, h, j => by
    have h0 := h c List.mem_cons_self
    rw [List.flatten_cons]
    by_cases hj : j < s
    · rw [List.getElem?_append_left (by omega), Nat.div_eq_of_lt hj, Nat.mod_eq_of_lt hj]
      rfl
    · have e1 : j / s = (j - s) / s + 1 := by rw [Nat.div_eq_sub_div hs (by omega)]
      have e2 : j % s = (j - s) % s := by rw [Nat.mod_eq_sub_mod (by omega)]
      rw [List.getElem?_append_right (by omega), h0, flat_get hs (fun cs hc => h cs (List.mem_cons_of_mem _ hc)) (j - s), e1, e2]
      rfl

section opens
variable {H : Type} {enc : TypeId × Value → H} {P : Program} {W : World}
abbrev trodH (enc : TypeId × Value → H) (P : Program) (W : World) (m : Nat) (e : TypeId) (cs : List Value) : Option (DataW H × List MemPlace) := DataW.trod enc P W 0 (fun _ => true) true m e cs
theorem weightsAll_mem {e : TypeId} : ∀ {ds : List (DataW H)} {d : DataW H}, d ∈ ds → (DataW.weightsAll P e ds).all (· ≤ reachBytes) = true → (d.weights P e).all (· ≤ reachBytes) = true
  | c :: r, d, hm, h => by
    simp only [DataW.weightsAll, List.all_append, Bool.and_eq_true] at h
    rcases List.mem_cons.1 hm with rfl | hm
    · exact h.1
    · exact weightsAll_mem hm h.2
/-- a slice of things of s cells -/
theorem open_elems {t e : TypeId} {s z fuel : Nat} {v : Value} {x : DataW H × List MemPlace} (ht : P.underlying t = some (.slice e)) (hc : P.cellsOf e = s) (hs : 0 < s) (hby : P.bytesOf e = z) (h : trodH enc P W fuel t [v] = some x) :
    ∃ (css : List (List Value)) (xs : List (DataW H × List MemPlace)) (m : Nat), xs.length = css.length ∧ (∀ (i : Nat) (cs : List Value), css[i]? = some cs → ∃ y : DataW H × List MemPlace, xs[i]? = some y ∧ trodH enc P W m e cs = some y) ∧ (∀ cs ∈ css, cs.length = s) ∧
      Sl (hpOf W) s v css.length css.flatten ∧ ((x.1.weights P t).all (· ≤ reachBytes) = true → css.length * z ≤ 140737488351232 ∧ ∀ y ∈ xs, (y.1.weights P e).all (· ≤ reachBytes) = true) := by
  rcases DataW.trod_slice ht h with ⟨hv, hx⟩ | ⟨a, len, cap, elems, rest, m, _, hv, hx, _, hl, hm, hlen, hel, _, _⟩
  · simp only [List.cons.injEq, and_true] at hv
    subst hv
    exact ⟨[], [], 0, rfl, fun i cs hi => (by simp at hi), fun cs hc => (nomatch hc), Sl.nil, fun _ => ⟨(by simp), fun y hy => (nomatch hy)⟩⟩
  · simp only [List.cons.injEq, and_true] at hv
    subst hv
    -- each element's cells
    have hex : ∀ i, i < len → ∃ cs, (W.cells? 0 (a.add (i * s)) s) = some cs ∧ trodH enc P W m e cs = elems[i]? := by
      intro i hi
      have h1 := hel i hi
      rw [hc] at h1
      have h2 : (elems[i]?).isSome = true := by simp [show i < elems.length by omega]
      cases hcs : W.cells? 0 (a.add (i * s)) s with
      | none => rw [hcs] at h1; rw [← h1] at h2; cases h2
      | some cs => rw [hcs] at h1; exact ⟨cs, rfl, h1⟩
    have hall : ∀ n, n ≤ len → ∃ css : List (List Value), css.length = n ∧ ∀ i, i < n → ∃ cs, css[i]? = some cs ∧ W.cells? 0 (a.add (i * s)) s = some cs ∧ trodH enc P W m e cs = elems[i]? := by
      intro n
      induction n with
      | zero => intro _; exact ⟨[], rfl, fun i hi => absurd hi (Nat.not_lt_zero _)⟩
      | succ n ih =>
        intro hn
        obtain ⟨css, hl, hh⟩ := ih (by omega)
        obtain ⟨cs, h1, h2⟩ := hex n (by omega)
        refine ⟨css ++ [cs], by simp [hl], fun i hi => ?_⟩
        by_cases hin : i < n
        · obtain ⟨cs', h3, h4⟩ := hh i hin
          exact ⟨cs', by rw [List.getElem?_append_left (by omega)]; exact h3, h4⟩
        · have : i = n := by omega
          subst this
          exact ⟨cs, by rw [List.getElem?_append_right (by omega)]; simp [hl], h1, h2⟩
    obtain ⟨css, hcl, hcs⟩ := hall len (Nat.le_refl _)
    have hcell : ∀ i cs, css[i]? = some cs → cs.length = s ∧ ∀ r y, cs[r]? = some y → W.cell? ((a.add (i * s)).add r) = some y := by
      intro i cs hi
      have hil : i < len := by rw [← hcl]; exact (List.getElem?_eq_some_iff.1 hi).1
      obtain ⟨cs', h1, h2, _⟩ := hcs i hil
      rw [hi] at h1; cases h1
      unfold World.cells? at h2
      split at h2
      · have hlen2 := Lib.mapM_length h2
        refine ⟨by simpa using hlen2, fun r y hr => ?_⟩
        have hrl : r < s := by
          have := (List.getElem?_eq_some_iff.1 hr).1
          simp at hlen2; omega
        obtain ⟨y', h3, h4⟩ := Lib.mapM_at h2 r r (by simp [hrl])
        rw [hr] at h3; cases h3
        exact h4
      · cases h2
    have hlens : ∀ cs ∈ css, cs.length = s := fun cs hc => by
      obtain ⟨i, hi⟩ := List.getElem?_of_mem hc
      exact (hcell i cs hi).1
    refine ⟨css, elems, m, by rw [hlen, hcl], fun i cs hi => ?_, hlens, ?_, ?_⟩
    · have hil : i < len := by rw [← hcl]; exact (List.getElem?_eq_some_iff.1 hi).1
      obtain ⟨cs', h1, _, h2⟩ := hcs i hil
      rw [hi] at h1; cases h1
      exact ⟨elems[i], by simp [show i < elems.length by omega], by rw [h2]; simp [show i < elems.length by omega]⟩
    · rw [hcl]
      have hflen : css.flatten.length = len * s := by
        rw [List.length_flatten]
        have : css.map List.length = List.replicate css.length s := by
          apply List.ext_getElem (by simp)
          intro i h1 h2
          simp only [List.getElem_map, List.getElem_replicate]
          exact hlens _ (List.getElem_mem _)
        rw [this, hcl]; simp
      by_cases h0 : len = 0
      · subst h0
        exact ⟨by omega, .inl ⟨⟨_, _, rfl, hm⟩, rfl⟩⟩
      · have hsp : a.spot = none := by
          obtain ⟨cs, h1, _⟩ := hcs 0 (by omega)
          obtain ⟨h2, h3⟩ := hcell 0 cs h1
          have h4 := h3 0 (cs[0]'(by omega)) (by simp [show 0 < cs.length by omega])
          rw [show (a.add (0 * s)).add 0 = a by simp [Addr.add]] at h4
          exact spot_of_cell h4
        obtain ⟨ab, ao, as⟩ := a
        simp only at hsp
        subst hsp
        refine ⟨hflen, .inr ⟨ab, ao, cap, rfl, hl, hm, fun j y hj => ?_⟩⟩
        rw [flat_get hs hlens] at hj
        cases hcj : css[j / s]? with
        | none => rw [hcj] at hj; cases hj
        | some cs =>
          rw [hcj] at hj
          have h4 := (hcell _ cs hcj).2 _ y hj
          rw [Addr.add_at, Addr.add_at] at h4
          have h5 := hcel_of_cell h4
          have e1 : ao + j / s * s + j % s = ao + j := by
            have := Nat.div_add_mod j s
            rw [Nat.mul_comm] at this
            omega
          rw [e1] at h5
          exact h5
    · intro hw
      subst hx
      simp only [DataW.weights, ht, hby, List.all_cons, List.all_append, Bool.and_eq_true, decide_eq_true_eq, reachBytes] at hw
      have h1 := of_decide_eq_true hw.1
      simp only [List.length_map, Nat.add_mul] at h1
      refine ⟨?_, fun y hy => weightsAll_mem (List.mem_map.2 ⟨y, hy, rfl⟩) hw.2.1⟩
      rw [hcl, ← hlen]
      omega
/-- kids, one by one -/
theorem open_kidList {t : TypeId} {ti tk tu ta ts tb e : TypeId} {fs fa : Array Field}
    (ht : P.underlying t = some (.struct fs)) (hfs : fs.toList.map (fun f => (f.type, f.offset)) = [(ti, 0), (tk, 1), (tu, 2), (ta, 3), (ts, 36)])
    (hta : P.underlying ta = some (.struct fa)) (hfa : fa.toList.map (fun f => (f.type, f.offset)) = [(ts, 0), (tb, 32)])
    (hti : P.underlying ti = some (.int .i64)) (htk : P.underlying tk = some (.slice e)) (htu : P.underlying tu = some (.int .u64)) (hts : P.underlying ts = some (.array 32 e)) (htb : P.underlying tb = some (.int .u8)) (he : P.underlying e = some (.int .u8))
    (hc : P.cellsOf e = 1) (hby : P.bytesOf e = 1) (hsz : [P.cellsOf ti, P.cellsOf tk, P.cellsOf tu, P.cellsOf ta, P.cellsOf ts, P.cellsOf tb] = [1, 1, 1, 33, 32, 1]) (hct : P.cellsOf t = 68) {m : Nat} :
    ∀ (css : List (List Value)) (xs : List (DataW H × List MemPlace)), (∀ (i : Nat) (cs : List Value), css[i]? = some cs → ∃ y : DataW H × List MemPlace, xs[i]? = some y ∧ trodH enc P W m t cs = some y) →
      ∃ (ks : List KidP) (kvs : List Value), ks.length = css.length ∧ kvs.length = ks.length ∧ css.flatten = kcells ks kvs ∧ (∀ (i : Nat) (p : KidP) (u : Value), ks[i]? = some p → kvs[i]? = some u → (p.at u).Ok (hpOf W) p.key) ∧
        ((∀ y ∈ xs, (y.1.weights P t).all (· ≤ reachBytes) = true) → ∀ p ∈ ks, p.key.length ≤ 140737488351232)
  | [], xs, _ => ⟨[], [], rfl, rfl, rfl, fun i p u h => by simp at h, fun _ p hp => by cases hp⟩
  | cs :: css, xs, h => by
    obtain ⟨y, hy, hty⟩ := h 0 cs rfl
    obtain ⟨k, kb, hk, hok, hw⟩ := open_kidC ht hfs hta hfa hti htk htu hts htb he hc hby hsz hct hty
    obtain ⟨x0, xs', rfl⟩ : ∃ x0 xs', xs = x0 :: xs' := by
      cases xs with
      | nil => simp at hy
      | cons x0 xs' => exact ⟨x0, xs', rfl⟩
    simp at hy
    subst hy
    obtain ⟨ks, kvs, h1, h2, h3, h4, h5⟩ := open_kidList ht hfs hta hfa hti htk htu hts htb he hc hby hsz hct css xs' (fun i cs hi => h (i + 1) cs (by simpa using hi))
    refine ⟨k.plain kb :: ks, k.key :: kvs, by simp [h1], by simp [h2], by rw [List.flatten_cons, h3, hk]; rfl, ?_, ?_⟩
    · intro i p u hp hu
      cases i with
      | zero => cases hp; cases hu; exact hok
      | succ i => exact h4 i p u (by simpa using hp) (by simpa using hu)
    · intro hall p hp
      rcases List.mem_cons.1 hp with rfl | hp
      · exact hw (hall _ List.mem_cons_self)
      · exact h5 (fun y hy => hall y (List.mem_cons_of_mem _ hy)) p hp
/-- a tower -/
theorem open_tow {base : Nat} {T TK K : TypeId} {tbo ti tk tu ta ts tb e : TypeId} {fuel : Nat} {v : Value} {x : DataW H × List MemPlace} {ft fs fa : Array Field}
    (hT : P.underlying T = some (.struct ft)) (hft : ft.toList.map (fun f => (f.type, f.offset)) = [(tbo, 0), (tk, 1), (ta, 2), (TK, 35)]) (hbo : P.underlying tbo = some .bool) (hTK : P.underlying TK = some (.slice K))
    (ht : P.underlying K = some (.struct fs)) (hfs : fs.toList.map (fun f => (f.type, f.offset)) = [(ti, 0), (tk, 1), (tu, 2), (ta, 3), (ts, 36)])
    (hta : P.underlying ta = some (.struct fa)) (hfa : fa.toList.map (fun f => (f.type, f.offset)) = [(ts, 0), (tb, 32)])
    (hti : P.underlying ti = some (.int .i64)) (htk : P.underlying tk = some (.slice e)) (htu : P.underlying tu = some (.int .u64)) (hts : P.underlying ts = some (.array 32 e)) (htb : P.underlying tb = some (.int .u8)) (he : P.underlying e = some (.int .u8))
    (hc : P.cellsOf e = 1) (hby : P.bytesOf e = 1) (hsz : [P.cellsOf ti, P.cellsOf tk, P.cellsOf tu, P.cellsOf ta, P.cellsOf ts, P.cellsOf tb] = [1, 1, 1, 33, 32, 1]) (hct : P.cellsOf K = 68) (hcT : [P.cellsOf T, P.cellsOf tbo, P.cellsOf TK] = [36, 1, 1]) (hbK : P.bytesOf K = 112)
    (hok : Value.okWide P W .any base T v) (h : DataW.trod enc P W 0 (fun _ => true) true fuel T v.cells.toList = some x) :
    ∃ (t : TowP) (y : TowV), v = t.val y ∧ TowOk (hpOf W) t y ∧ ((x.1.weights P T).all (· ≤ reachBytes) = true → t.key.length ≤ 140737488351232 ∧ (∀ p ∈ t.kids, p.key.length ≤ 140737488351232) ∧ t.kids.length * 112 ≤ 140737488355328) := by
  simp only [Value.okWide, hT] at hok
  obtain ⟨cs, rfl, _, _⟩ := hok
  simp only [Value.cells] at h
  obtain ⟨xs, m, hx, hl, hxl, hg⟩ := open_fields hT hft h
  simp only [List.cons.injEq, and_true] at hcT hsz
  obtain ⟨zT, zb, zK⟩ := hcT
  obtain ⟨z0, z1, z2, za, z3, z4⟩ := hsz
  have hn : cs.toList.length = 36 := by rw [hl, zT]
  have g0 := hg 0 tbo 0 rfl
  have g1 := hg 1 tk 1 rfl
  have g2 := hg 2 ta 2 rfl
  have g3 := hg 3 TK 35 rfl
  rw [zb] at g0; rw [z1] at g1; rw [za] at g2; rw [zK] at g3
  obtain ⟨y0, _, g0⟩ := g0; obtain ⟨y1, hy1, g1⟩ := g1; obtain ⟨y2, _, g2⟩ := g2; obtain ⟨y3, hy3, g3⟩ := g3
  obtain ⟨xa, ma, _, hla, _, hga⟩ := open_fields hta hfa g2
  obtain ⟨ya0, _, ga0⟩ := hga 0 ts 0 rfl
  obtain ⟨ya1, _, ga1⟩ := hga 1 tb 32 rfl
  rw [z3] at ga0; rw [z4] at ga1
  have ea0 : List.take 32 (List.drop 0 (List.take 33 (List.drop 2 cs.toList))) = List.take 32 (List.drop 2 cs.toList) := by simp [List.take_take]
  have ea1 : List.take 1 (List.drop 32 (List.take 33 (List.drop 2 cs.toList))) = [cs.toList[34]'(by omega)] := by
    rw [List.drop_take, List.take_take, List.drop_drop, ← drop_one cs.toList 34 (by omega)]
    rfl
  rw [ea0] at ga0; rw [ea1] at ga1
  rw [drop_one _ 0 (by omega)] at g0
  rw [drop_one _ 1 (by omega)] at g1
  rw [drop_one _ 35 (by omega)] at g3
  obtain ⟨b0, e0, _⟩ := DataW.trod_bool hbo g0
  obtain ⟨kb, hkb, hw⟩ := open_byts htk he hc hby g1
  obtain ⟨s, e3, r3⟩ := open_sum hts he hc z3 ga0
  have e4 := open_u8 htb ga1
  obtain ⟨css, xk, mk, hxk, hck, hcl, hsl, hwk⟩ := open_elems hTK hct (by decide) hbK g3
  obtain ⟨ks, kvs, k1, k2, k3, k4, k5⟩ := open_kidList ht hfs hta hfa hti htk htu hts htb he hc hby (by simp [z0, z1, z2, za, z3, z4]) hct css xk hck
  rw [k3, ← k1] at hsl
  refine ⟨⟨b0, kb, s, unB (cs.toList[34]'(by omega)), ks⟩, ⟨cs.toList[1]'(by omega), cs.toList[35]'(by omega), kvs⟩, ?_, ⟨r3, hkb, ⟨hsl, k2, k4⟩⟩, ?_⟩
  · have hcs : cs.toList = TowP.cells ⟨b0, kb, s, unB (cs.toList[34]'(by omega)), ks⟩ ⟨cs.toList[1]'(by omega), cs.toList[35]'(by omega), kvs⟩ := by
      simp only [TowP.cells, e4, ← e3]
      simp only [List.cons.injEq, and_true] at e0
      rw [← e0]
      apply List.ext_getElem (by simp [hn])
      intro i h1 h2
      match i, h1, h2 with
      | 0, _, _ => rfl
      | 1, _, _ => rfl
      | i + 2, h1, h2 =>
        simp only [List.getElem_cons_succ]
        by_cases hi : i < 32
        · rw [List.getElem_append_left (by simp [hn]; omega)]
          simp [Nat.add_comm]
        · rw [List.getElem_append_right (by simp; omega)]
          have hi2 : i = 32 ∨ i = 33 := by omega
          rcases hi2 with rfl | rfl <;> simp [hn]
    show Value.agg cs = .agg _
    congr 1
    rw [← hcs]
  · intro hw'
    subst hx
    simp only [DataW.weights, hT] at hw'
    have hfs1 : ft.toList.map (·.type) = [tbo, tk, ta, TK] := by
      have := congrArg (List.map (·.1)) hft
      simpa [Function.comp_def] using this
    rw [hfs1] at hw'
    obtain ⟨q0, q1, q2, q3, rfl⟩ : ∃ q0 q1 q2 q3, xs = [q0, q1, q2, q3] := by
      match xs, hxl with
      | [q0, q1, q2, q3], _ => exact ⟨_, _, _, _, rfl⟩
    simp only [List.getElem?_cons_succ, List.getElem?_cons_zero, Option.some.injEq] at hy1 hy3
    subst hy1 hy3
    simp only [List.map_cons, List.map_nil, DataW.weightsEach, List.all_append, Bool.and_eq_true] at hw'
    obtain ⟨_, hwy1, _, hwy3, _⟩ := hw'
    obtain ⟨n1, n2⟩ := hwk hwy3
    refine ⟨hw hwy1, k5 n2, ?_⟩
    show ks.length * 112 ≤ _
    rw [k1]; omega
end opens
end Go.Own
