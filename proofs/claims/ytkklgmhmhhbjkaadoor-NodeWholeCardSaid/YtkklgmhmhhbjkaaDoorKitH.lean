/-
  OWN LIBRARY, part 8: from a row's reading of the arguments to the own library's words, and back to the row's 'post'.
-/
import Derived.Test.YtkklgmhmhhbjkaaDoorKitG
import Derived.ProofKit
import Derived.OpenShut
import Derived.Deep.DeepHandedRow
import Derived.Lib.LaidTab
namespace Go.Own
open Go Go.ChangeShapes Go.WideShapes Go.RowKit

/-- the memory that a call finds -/
def hpOf (W : World) : Hp := fun b => W.heap[b]?
theorem Owns.start (W : World) : Owns W (hpOf W) [] W := { os := rfl, tape := rfl, output := rfl, old := fun _ _ h => h, own := fun _ _ h => (nomatch h), apart := fun _ _ h => (nomatch h), nodup := List.nodup_nil }
theorem Owns.below {W W' : World} {L : Res} (h : Owns W (hpOf W) L W') : Below W.heap.size W W' := by
  have hb : ∀ k, k < W.heap.size → W'.heap[k]? = W.heap[k]? := fun k hk => by
    rw [h.old k W.heap[k] (by simp [hpOf, hk])]; simp [hk]
  refine ⟨h.os, h.tape, h.output, ?_, hb⟩
  by_cases h0 : W.heap.size = 0
  · omega
  · have := hb (W.heap.size - 1) (by omega)
    have h2 : W.heap[W.heap.size - 1]? = some W.heap[W.heap.size - 1] := by simp [show W.heap.size - 1 < W.heap.size by omega]
    rw [h2] at this
    have := (Array.getElem?_eq_some_iff.1 this).1
    omega
theorem hcel_of_cell {W : World} {a : Addr} {v : Value} (h : W.cell? a = some v) : HCel (hpOf W) a.block a.off v := by
  unfold World.cell? at h
  split at h
  · rename_i c t f e
    split at h
    · cases h
    · exact ⟨_, _, _, e, h⟩
  · cases h

section opens
variable {H : Type} {enc : TypeId × Value → H} {P : Program} {W : World}

theorem okSpot {r : Reach} {base : Nat} {t e : TypeId} {a : Addr} {len cap : Nat} (ht : P.underlying t = some (.slice e)) (h : Cell.okWide P W r base t (.slice (some a) len cap)) : a.spot = none := by
  simp only [Cell.okWide, ht, Cell.ok, World.has] at h
  exact h.2.2.2.1

theorem spot_of_cell {a : Addr} {v : Value} (h : W.cell? a = some v) : a.spot = none := by
  unfold World.cell? at h
  split at h
  · split at h
    · cases h
    · rename_i hs; cases hx : a.spot with
      | none => rfl
      | some x => rw [hx] at hs; simp at hs
  · cases h
theorem open_byts {t e : TypeId} {fuel : Nat} {v : Value} {x : DataW H × List MemPlace} (ht : P.underlying t = some (.slice e)) (he : P.underlying e = some (.int .u8)) (hc : P.cellsOf e = 1) (hby : P.bytesOf e = 1)
    (h : DataW.trod enc P W 0 (fun _ => true) true fuel t [v] = some x) :
    ∃ l, Byts (hpOf W) v l ∧ ((x.1.weights P t).all (· ≤ reachBytes) = true → l.length ≤ 140737488351232) := by
  rcases open_ints ht he hc h with ⟨hcs, hx⟩ | ⟨a, len, cap, zs, hcs, _, hl, hm, hz, hx, hcell, hwz⟩
  · simp only [List.cons.injEq, and_true] at hcs
    subst hcs
    exact ⟨[], Sl.nil, fun _ => by simp⟩
  · simp only [List.cons.injEq, and_true] at hcs
    subst hcs
    simp only [if_true] at hz
    by_cases hl0 : len = 0
    · subst hl0
      exact ⟨[], ⟨by simp, .inl ⟨⟨_, _, rfl, hm⟩, rfl⟩⟩, fun _ => by simp⟩
    have hsp : a.spot = none := by
      have := hcell 0 (by omega)
      rw [show a.add 0 = a by simp [Addr.add]] at this
      exact spot_of_cell this
    have hlen : (zs.take len).length = len := by simp; omega
    refine ⟨(zs.take len).map fun z => UInt8.ofNat z.toNat, ⟨by simp, .inr ⟨a.block, a.off, cap, ?_, by simp; omega, hm, ?_⟩⟩, ?_⟩
    · simp only [List.length_map, hlen]
      have : a = ⟨a.block, a.off, none⟩ := by rw [← hsp]
      rw [this]
    · intro i y hy
      simp only [List.map_map, List.getElem?_map, Option.map_eq_some_iff, Function.comp] at hy
      obtain ⟨z, hz1, rfl⟩ := hy
      have hi : i < zs.length := by
        have := (List.getElem?_eq_some_iff.1 hz1).1
        simp at this; omega
      have hzi : zs[i]? = some z := by
        rw [List.getElem?_take] at hz1
        split at hz1
        · exact hz1
        · cases hz1
      have := hcel_of_cell (hcell i hi)
      have hd : zs.getD i 0 = z := by simp [List.getD, hzi]
      rw [hd] at this
      have hw := hwz z (List.mem_of_getElem? hzi)
      have hb : B (UInt8.ofNat z.toNat) = .int .u8 z := by
        rw [B_ofNat]
        simp [Lit.wf, IntKind.min, IntKind.max, IntKind.signed, IntKind.bits] at hw
        congr 1
        omega
      rw [hb]
      obtain ⟨ab, ao, as⟩ := a
      simp only at hsp
      subst hsp
      by_cases h0 : i = 0
      · subst h0; simpa [Addr.add] using this
      · simpa [Addr.add, h0] using this
    · intro hw
      subst hx
      simp only [DataW.weights, ht, hby, List.all_cons, Bool.and_eq_true, decide_eq_true_eq, reachBytes, Nat.mul_one] at hw
      simp only [List.length_map, hlen]
      have h1 := of_decide_eq_true hw.1
      simp only [lits, List.length_map, List.length_take, List.length_drop] at h1
      omega

def unB : Value → UInt8
  | .int _ n => UInt8.ofNat n.toNat
  | _ => 0
theorem open_u8 {t : TypeId} {fuel : Nat} {v : Value} {x : DataW H × List MemPlace} (ht : P.underlying t = some (.int .u8)) (h : DataW.trod enc P W 0 (fun _ => true) true fuel t [v] = some x) : B (unB v) = v := by
  obtain ⟨n, hcs, _, hw⟩ := DataW.trod_int ht h
  simp only [List.cons.injEq, and_true] at hcs
  subst hcs
  simp only [unB, B_ofNat]
  simp [Lit.wf, IntKind.min, IntKind.max, IntKind.signed, IntKind.bits] at hw
  congr 1
  omega
theorem open_sum {t e : TypeId} {n fuel : Nat} {cs : List Value} {x : DataW H × List MemPlace} (ht : P.underlying t = some (.array n e)) (he : P.underlying e = some (.int .u8)) (hc : P.cellsOf e = 1) (hct : P.cellsOf t = n)
    (h : DataW.trod enc P W 0 (fun _ => true) true fuel t cs = some x) : ∃ s : List UInt8, cs = s.map B ∧ s.length = n := by
  obtain ⟨xs, m, _, _, hl, hxl, hx⟩ := DataW.trod_array ht h
  refine ⟨cs.map unB, ?_, by simp [hl, hct]⟩
  apply List.ext_getElem (by simp)
  intro i h1 h2
  simp only [List.getElem_map]
  have hi : i < n := by omega
  have := hx i hi
  rw [hc, Nat.mul_one] at this
  have e1 : (cs.drop i).take 1 = [cs[i]] := by rw [List.drop_eq_getElem_cons h1]; rfl
  rw [e1, List.getElem?_eq_getElem (by omega)] at this
  exact (open_u8 he this).symm
theorem open_u64 {t : TypeId} {fuel : Nat} {v : Value} {x : DataW H × List MemPlace} (ht : P.underlying t = some (.int .u64)) (h : DataW.trod enc P W 0 (fun _ => true) true fuel t [v] = some x) : ∃ q : Nat, v = .int .u64 (q : Int) ∧ q < 18446744073709551616 := by
  obtain ⟨n, hcs, _, hw⟩ := DataW.trod_int ht h
  simp only [List.cons.injEq, and_true] at hcs
  subst hcs
  simp [Lit.wf, IntKind.min, IntKind.max, IntKind.signed, IntKind.bits] at hw
  exact ⟨n.toNat, by congr 1; omega, by omega⟩
theorem open_i64 {t : TypeId} {fuel : Nat} {v : Value} {x : DataW H × List MemPlace} (ht : P.underlying t = some (.int .i64)) (h : DataW.trod enc P W 0 (fun _ => true) true fuel t [v] = some x) : ∃ n : Int, v = .int .i64 n ∧ -9223372036854775808 ≤ n ∧ n ≤ 9223372036854775807 := by
  obtain ⟨n, hcs, _, hw⟩ := DataW.trod_int ht h
  simp only [List.cons.injEq, and_true] at hcs
  subst hcs
  simp [Lit.wf, IntKind.min, IntKind.max, IntKind.signed, IntKind.bits] at hw
  exact ⟨n, rfl, by omega, by omega⟩
/-- an outer form, by the reading of a whole value -/
theorem okWide_agg {r : Reach} {base : Nat} {t : TypeId} {v : Value} {n : Nat} {e : TypeId} (ht : P.underlying t = some (.array n e)) (h : Value.okWide P W r base t v) : ∃ cs : Array Value, v = .agg cs := by
  simp only [Value.okWide, ht] at h
  obtain ⟨cs, rfl, _⟩ := h
  exact ⟨cs, rfl⟩
theorem kid_list {α : Type} (L : List α) (hn : L.length = 68) : L = L[0] :: L[1] :: L[2] :: ((L.drop 3).take 32 ++ (L[35] :: (L.drop 36).take 32)) := by
  apply List.ext_getElem
  · simp [hn]
  · intro i h1 h2
    match i with
    | 0 => rfl
    | 1 => rfl
    | 2 => rfl
    | j + 3 =>
      simp only [List.getElem_cons_succ, List.getElem_append, List.length_take, List.length_drop, hn]
      split
      · simp [Nat.add_comm]
      · rename_i hj
        have hj' : 32 ≤ j := by omega
        obtain ⟨d, rfl⟩ := Nat.exists_eq_add_of_le hj'
        match d with
        | 0 => simp
        | d + 1 =>
          have : 32 + (d + 1) - min 32 (68 - 3) = d + 1 := by omega
          simp only [this, List.getElem_cons_succ, List.getElem_take, List.getElem_drop]
          congr 1; omega
/-- what a struct's reading says of each of its fields -/
theorem open_fields {t : TypeId} {fuel : Nat} {cs : List Value} {x : DataW H × List MemPlace} {fs : Array Field} {L : List (TypeId × Nat)} (ht : P.underlying t = some (.struct fs)) (hfs : fs.toList.map (fun f => (f.type, f.offset)) = L)
    (h : DataW.trod enc P W 0 (fun _ => true) true fuel t cs = some x) :
    ∃ (xs : List (DataW H × List MemPlace)) (m : Nat), x = (.agg (xs.map (·.1)), xs.flatMap (·.2)) ∧ cs.length = P.cellsOf t ∧ xs.length = L.length ∧
      ∀ (i : Nat) (ti : TypeId) (oi : Nat), L[i]? = some (ti, oi) → ∃ y : DataW H × List MemPlace, xs[i]? = some y ∧ DataW.trod enc P W 0 (fun _ => true) true m ti ((cs.drop oi).take (P.cellsOf ti)) = some y := by
  obtain ⟨xs, m, _, hx, hl, hxl, hf⟩ := DataW.trod_struct ht h
  refine ⟨xs, m, hx, hl, by rw [← hfs]; simp [hxl], ?_⟩
  intro i ti' oi hi
  rw [← hfs, List.getElem?_map, Option.map_eq_some_iff] at hi
  obtain ⟨f, hfi, e⟩ := hi
  cases e
  have hfi' : fs[i]? = some f := by simpa using hfi
  have hlt : i < xs.length := by rw [hxl]; exact (Array.getElem?_eq_some_iff.1 hfi').1
  exact ⟨xs[i], by simp [hlt], by rw [hf i f hfi']; simp [hlt]⟩
theorem drop_one {α : Type} (cs : List α) (i : Nat) (hi : i < cs.length) : (cs.drop i).take 1 = [cs[i]] := by rw [List.drop_eq_getElem_cons hi]; rfl
/-- a kid: level, key, count, sum, tag byte, label -/
theorem open_kidC {t : TypeId} {ti tk tu ta ts tb e : TypeId} {fuel : Nat} {cs : List Value} {x : DataW H × List MemPlace} {fs fa : Array Field}
    (ht : P.underlying t = some (.struct fs)) (hfs : fs.toList.map (fun f => (f.type, f.offset)) = [(ti, 0), (tk, 1), (tu, 2), (ta, 3), (ts, 36)])
    (hta : P.underlying ta = some (.struct fa)) (hfa : fa.toList.map (fun f => (f.type, f.offset)) = [(ts, 0), (tb, 32)])
    (hti : P.underlying ti = some (.int .i64)) (htk : P.underlying tk = some (.slice e)) (htu : P.underlying tu = some (.int .u64)) (hts : P.underlying ts = some (.array 32 e)) (htb : P.underlying tb = some (.int .u8)) (he : P.underlying e = some (.int .u8))
    (hc : P.cellsOf e = 1) (hby : P.bytesOf e = 1) (hsz : [P.cellsOf ti, P.cellsOf tk, P.cellsOf tu, P.cellsOf ta, P.cellsOf ts, P.cellsOf tb] = [1, 1, 1, 33, 32, 1]) (hct : P.cellsOf t = 68)
    (h : DataW.trod enc P W 0 (fun _ => true) true fuel t cs = some x) :
    ∃ (k : KidV) (kb : List UInt8), cs = k.cells ∧ k.Ok (hpOf W) kb ∧ ((x.1.weights P t).all (· ≤ reachBytes) = true → kb.length ≤ 140737488351232) := by
  obtain ⟨xs, m, hx, hl, hxl, hg⟩ := open_fields ht hfs h
  have hn : cs.length = 68 := by simp [hl, hct]
  simp only [List.cons.injEq, and_true] at hsz
  obtain ⟨z0, z1, z2, za, z3, z4⟩ := hsz
  have g0 := hg 0 ti 0 rfl
  have g1 := hg 1 tk 1 rfl
  have g2 := hg 2 tu 2 rfl
  have g3 := hg 3 ta 3 rfl
  have g5 := hg 4 ts 36 rfl
  rw [z0] at g0; rw [z1] at g1; rw [z2] at g2; rw [za] at g3; rw [z3] at g5
  obtain ⟨y0, _, g0⟩ := g0; obtain ⟨y1, hy1, g1⟩ := g1; obtain ⟨y2, _, g2⟩ := g2; obtain ⟨y3, _, g3⟩ := g3; obtain ⟨y5, _, g5⟩ := g5
  obtain ⟨xa, ma, _, hla, _, hga⟩ := open_fields hta hfa g3
  obtain ⟨ya0, _, ga0⟩ := hga 0 ts 0 rfl
  obtain ⟨ya1, _, ga1⟩ := hga 1 tb 32 rfl
  rw [z3] at ga0; rw [z4] at ga1
  have ea0 : List.take 32 (List.drop 0 (List.take 33 (List.drop 3 cs))) = List.take 32 (List.drop 3 cs) := by simp [List.take_take]
  have ea1 : List.take 1 (List.drop 32 (List.take 33 (List.drop 3 cs))) = [cs[35]'(by omega)] := by
    rw [List.drop_take, List.take_take, List.drop_drop, ← drop_one cs 35 (by omega)]
    rfl
  rw [ea0] at ga0; rw [ea1] at ga1
  rw [drop_one _ 0 (by omega)] at g0
  rw [drop_one _ 1 (by omega)] at g1
  rw [drop_one _ 2 (by omega)] at g2
  obtain ⟨n0, e0, r0⟩ := open_i64 hti g0
  obtain ⟨kb, hkb, hw⟩ := open_byts htk he hc hby g1
  obtain ⟨q, e2, r2⟩ := open_u64 htu g2
  obtain ⟨s, e3, r3⟩ := open_sum hts he hc z3 ga0
  have e4 := open_u8 htb ga1
  obtain ⟨s', e5, r5⟩ := open_sum hts he hc z3 g5
  refine ⟨⟨n0, cs[1]'(by omega), q, s, unB (cs[35]'(by omega)), s'⟩, kb, ?_, ⟨r3, r5, r2, r0, hkb⟩, ?_⟩
  · simp only [KidV.cells, e4, ← e0, ← e2, ← e3, ← e5]
    exact kid_list _ hn
  · intro hw'
    refine hw ?_
    subst hx
    simp only [DataW.weights, ht] at hw'
    have hfs1 : fs.toList.map (·.type) = ti :: tk :: [tu, ta, ts] := by
      have := congrArg (List.map (·.1)) hfs
      simpa [Function.comp_def] using this
    rw [hfs1] at hw'
    obtain ⟨z, y, r, rfl⟩ : ∃ z y r, xs = z :: y :: r := by
      match xs, hxl with
      | z :: y :: r, _ => exact ⟨z, y, r, rfl⟩
    simp only [List.getElem?_cons_succ, List.getElem?_cons_zero, Option.some.injEq] at hy1
    subst hy1
    simp only [List.map_cons, DataW.weightsEach, List.all_append, Bool.and_eq_true] at hw'
    exact hw'.2.1
theorem open_kid {base : Nat} {t : TypeId} {ti tk tu ta ts tb e : TypeId} {fuel : Nat} {v : Value} {x : DataW H × List MemPlace} {fs fa : Array Field}
    (ht : P.underlying t = some (.struct fs)) (hfs : fs.toList.map (fun f => (f.type, f.offset)) = [(ti, 0), (tk, 1), (tu, 2), (ta, 3), (ts, 36)])
    (hta : P.underlying ta = some (.struct fa)) (hfa : fa.toList.map (fun f => (f.type, f.offset)) = [(ts, 0), (tb, 32)])
    (hti : P.underlying ti = some (.int .i64)) (htk : P.underlying tk = some (.slice e)) (htu : P.underlying tu = some (.int .u64)) (hts : P.underlying ts = some (.array 32 e)) (htb : P.underlying tb = some (.int .u8)) (he : P.underlying e = some (.int .u8))
    (hc : P.cellsOf e = 1) (hby : P.bytesOf e = 1) (hsz : [P.cellsOf ti, P.cellsOf tk, P.cellsOf tu, P.cellsOf ta, P.cellsOf ts, P.cellsOf tb] = [1, 1, 1, 33, 32, 1]) (hct : P.cellsOf t = 68)
    (hok : Value.okWide P W .any base t v) (h : DataW.trod enc P W 0 (fun _ => true) true fuel t v.cells.toList = some x) :
    ∃ (k : KidV) (kb : List UInt8), v = k.val ∧ k.Ok (hpOf W) kb ∧ ((x.1.weights P t).all (· ≤ reachBytes) = true → kb.length ≤ 140737488351232) := by
  simp only [Value.okWide, ht] at hok
  obtain ⟨cs, rfl, _, _⟩ := hok
  obtain ⟨k, kb, h1, h2⟩ := open_kidC ht hfs hta hfa hti htk htu hts htb he hc hby hsz hct h
  exact ⟨k, kb, by show Value.agg cs = .agg _; congr 1; rw [← h1]; rfl, h2⟩

theorem tagsAt_of {g : Nat} {name : String} (hg : P.globalNamed name = some g) (h : Lib.TabIs P W name .u8 [17, 18, 19, 20, 23]) : TagsAt g (hpOf W) := by
  intro i hi
  have := hcel_of_cell (h.cell hg i (by simpa using hi))
  have e : ([17, 18, 19, 20, 23] : List Int).getD i 0 = ((tagB i).toNat : Int) := by
    match i, hi with
    | 0, _ => rfl
    | 1, _ => rfl
    | 2, _ => rfl
    | 3, _ => rfl
    | 4, _ => rfl
  rw [e] at this
  simpa using this

/-- every argument reads behind the call as it read before -/
theorem below_all (hl : laidOutB P = true) {W W' : World} (hb : Below W.heap.size W W') : ∀ {ts : List TypeId} {vs : List Value} {ds : List (DataW H)} {p : List MemPlace},
    (∀ t ∈ ts, P.readableRec t = true ∧ t < P.types.size) → (∀ x ∈ p, x.block < W.heap.size) → DataW.TrodAll enc P W 0 (fun _ => true) true ts vs ds p → DataW.TrodAll enc P W' 0 (fun b => decide (b < W.heap.size)) true ts vs ds p
  | [], _, _, _, _, _, h => by
    obtain ⟨rfl, rfl, rfl⟩ := trodAll_nil h
    exact trodAll_mk0
  | t :: ts, _, _, _, hr, hlt, h => by
    obtain ⟨v, vs', d, ds', p, q, rfl, rfl, rfl, h0, r⟩ := trodAll_cons h
    have ht := hr t List.mem_cons_self
    exact trodAll_cons_mk (Below.trod hl ht.1 ht.2 h0 hb fun x hx => hlt x (List.mem_append_left _ hx))
      (below_all hl hb (fun u hu => hr u (List.mem_cons_of_mem _ hu)) (fun x hx => hlt x (List.mem_append_right _ hx)) r)

/-- what a law's row asks behind the call -/
theorem law_post {f : Func} {s : ChangeSpec} {W W' : World} {args : Array Value} {ds gs : List (DataW H)} {before : List MemPlace} {tb : TypeId}
    (hl : laidOutB P = true) (hr : ∀ t ∈ f.params.toList, P.readableRec t = true ∧ t < P.types.size) (hv : s.vars = []) (hres : f.resultTypes = #[tb]) (htb : P.underlying tb = some .bool)
    (hW : DataW.Whole enc P f.params.toList s.vars false W args.toList ds gs before) (hb : Below W.heap.size W W')
    (hfn : (s.fn H (ds ++ gs)).results = [.lit (.bool true)] ∧ (s.fn H (ds ++ gs)).args = ds ∧ (s.fn H (ds ++ gs)).vars = []) : s.post enc P f false true false false W args (.bool true) W' := by
  obtain ⟨p, q, hA, hV, rfl, hz, hn⟩ := hW
  rw [hv] at hV
  obtain ⟨rfl, rfl⟩ := trodVars_none hV
  have hW : DataW.Whole enc P f.params.toList s.vars false W args.toList ds [] (p ++ []) := ⟨p, [], hA, by rw [hv]; exact hV, rfl, hz, hn⟩
  have hlt : ∀ x ∈ p, x.block < W.heap.size := fun x hx => by simpa using hW.lt x (by simpa using hx)
  refine ⟨ds, [], _, [], p, [], hW, ?_, ?_, ?_, hb.frame _, fun h => by cases h⟩
  · rw [hfn.1, hres]
    exact trodAll_mk1 (shut_bool htb _)
  · rw [hfn.2.1]
    exact below_all hl hb hr hlt hA
  · rw [hfn.2.2, hv]
    rfl
end opens
end Go.Own
