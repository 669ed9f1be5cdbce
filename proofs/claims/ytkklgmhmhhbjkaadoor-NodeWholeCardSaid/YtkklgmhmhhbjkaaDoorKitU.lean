/-
  OWN LIBRARY, part 21: for walks over lists of entries: parts of slices, tables of heights, kids written out.
-/
import Derived.Test.YtkklgmhmhhbjkaaDoorKitT
namespace Go.Own
open Go
section ops
variable {P : Program} {S : World} {hf : Hp} {L : Res} {n : Nat} {E : List (Nat × Value)} {a : Act} {w : World} {v u : Value} {b o : Nat}
  {dst : Option Tmp} {ty : TypeId} {pos : String} {after : Array Edge} {g : Option (Nat × Bool)} {x y : Operand} {T : TypeId} {k : IntKind} {m : Int}
theorem p_sliceS {e : TypeId} {s l lo hi : Nat} {cs : List Value} {z1 z2 : Operand} {k2 : IntKind} {m2 : Int} (hT : P.underlying T = some (.slice e)) (hs : ∀ w, (sizeOf e).run P w = .ok s w) (h : St S hf L n E a w) (hx : ev E x = some v)
    (hz1 : ev E z1 = some (.int k m)) (hz2 : ev E z2 = some (.int k2 m2)) (hS : Sl hf s v l cs) (hm : m = (lo : Int)) (hm2 : m2 = (hi : Int)) (h1 : lo ≤ hi) (h2 : hi ≤ l) :
    Pure P ⟨dst, .slice T x (some z1) (some z2) none, ty, pos, after, g⟩ a w (subS v s lo hi) := by
  rcases hS.2 with ⟨⟨a0, c0, rfl, _⟩, h0⟩ | ⟨b, o, cap, rfl, h3, _, _⟩
  · exact p_slice (lo := lo) (hi := hi) (ol := some z1) (oh := some z2) hT hs h hx ⟨k, m, hz1, hm⟩ ⟨k2, m2, hz2, hm2⟩ h1 (by omega)
  · exact p_slice (lo := lo) (hi := hi) (ol := some z1) (oh := some z2) hT hs h hx ⟨k, m, hz1, hm⟩ ⟨k2, m2, hz2, hm2⟩ h1 (by omega)
/-- an array of zeros written out -/
theorem p_buildA0 {e : TypeId} {l : Nat} {it ie : TypeInfo} {z : Value} {out : List Value} (hT : P.underlying T = some (.array l e)) (hi : P.info? T = some it) (hz : it.zero = some z) (he : P.info? e = some ie)
    (ho : z.cells.toList = out) (h : St S hf L n E a w) : Pure P ⟨dst, .build T #[], ty, pos, after, g⟩ a w (.agg out.toArray) := by
  subst ho
  have _ := h.env
  have hb : P.built T ([] : List (Nat × Value)) = some z.cells := by
    unfold Program.built
    simp only [hi, hT, hz, he, Instr.fill]
  have := run_build (P := P) w T #[] _ hb
  simp [Pure, execOp, this]
theorem finC2 {fn : Func} {R : Ending → World → Prop} {e : Exit} (he : e = .ret ∨ e = .normal) (h : St S hf L n E a w) {t t2 : Nat} {vs : List Value} {v2 : Value} (hr : fn.results = #[.cell t T, .tmp t2]) (hT : ∀ w, (isAgg T).run P w = .ok true w) (hz : ∀ w, (sizeOf T).run P w = .ok vs.length w)
    (hv : look E t = some (ptr b o)) (hv2 : look E t2 = some v2) (hc : Cels S hf L b o vs) (k : R (.returned (.tuple #[.agg vs.toArray, v2])) w) : bodyPost P fn R e a w := by
  have e1 : a.tmps[t]?.getD undef = ptr b o := by simp [h.env.get t _ hv]
  have e1' : a.tmps[t2]?.getD undef = v2 := by simp [h.env.get t2 _ hv2]
  have e2 := run_loadCells_list (P := P) w ⟨b, o, none⟩ vs (hc.at h.own)
  have e3 : (results fn a.tmps).run P w = .ok (.tuple #[.agg vs.toArray, v2]) w := by
    simp [results, hr, e1, e1', asAddr, loadVar, hT, hz, e2]
  rcases he with rfl | rfl <;> exact ⟨h.env.defers, _, e3, k⟩
end ops
/-- heights as cells -/
def hcells (es : List EntP) : List Value := es.map fun e => .int .i64 ((hgt e : Nat) : Int)
@[simp] theorem hcells_length (es : List EntP) : (hcells es).length = es.length := by simp [hcells]
theorem hcells_at {es : List EntP} {i : Nat} (h : i < es.length) : (hcells es)[i]? = some (.int .i64 ((hgt (entAt es i) : Nat) : Int)) := by
  rw [hcells, List.getElem?_map, entAt_get h]; rfl
theorem hcells_sub {hf : Hp} {es : List EntP} {v : Value} (h : Sl hf 1 v es.length (hcells es)) {lo hi : Nat} (h1 : lo ≤ hi) (h2 : hi ≤ es.length) : Sl hf 1 (subS v 1 lo hi) ((es.drop lo).take (hi - lo)).length (hcells ((es.drop lo).take (hi - lo))) := by
  have := h.sub h1 h2
  have e : ((es.drop lo).take (hi - lo)).length = hi - lo := by simp; omega
  rw [e]
  simpa [hcells, List.map_take, List.map_drop] using this
/-- a table of heights, its first i filled -/
def hS (es : List EntP) (i : Nat) : List Value := (hcells es).take i ++ List.replicate (es.length - i) (.int .i64 0)
theorem hS_length (es : List EntP) {i : Nat} (h : i ≤ es.length) : (hS es i).length = es.length := by simp [hS]; omega
theorem hS_zero (es : List EntP) : hS es 0 = List.replicate es.length (.int .i64 0) := by simp [hS]
theorem hS_end (es : List EntP) : hS es es.length = hcells es := by simp [hS, List.take_of_length_le]
theorem hS_set (es : List EntP) {i : Nat} (h : i < es.length) : (hS es i).set i (.int .i64 ((hgt (entAt es i) : Nat) : Int)) = hS es (i + 1) := by
  have e1 : List.replicate (es.length - i) (Value.int .i64 0) = .int .i64 0 :: List.replicate (es.length - (i + 1)) (.int .i64 0) := by
    rw [show es.length - i = (es.length - (i + 1)) + 1 by omega, List.replicate_succ]
  have e2 : ((hcells es).take i).length = i := by simp; omega
  rw [hS, e1, List.set_append_right _ _ (by omega), e2, Nat.sub_self, List.set_cons_zero, hS, List.take_add_one, hcells_at h]
  simp
theorem sub_len {es : List EntP} {lo hi : Nat} (h1 : lo ≤ hi) (h2 : hi ≤ es.length) : ((es.drop lo).take (hi - lo)).length = hi - lo := by simp; omega
theorem sub_mem {es : List EntP} {lo hi : Nat} {e : EntP} (h : e ∈ (es.drop lo).take (hi - lo)) : e ∈ es := List.mem_of_mem_drop (List.mem_of_mem_take h)
theorem entAt_mem {es : List EntP} {i : Nat} (h : i < es.length) : entAt es i ∈ es := List.mem_of_getElem? (entAt_get h)
theorem towE_ok {hf : Hp} {e : EntP} {u : Value} (h : Byts hf u e.key) : TowOk hf (towE e) ⟨u, nilS, []⟩ := ⟨valD_length e, h, ⟨Sl.nil, rfl, fun i p u h _ => by simp [towE] at h⟩⟩
theorem towH_ok {hf : Hp} : TowOk hf towH ⟨nilS, nilS, []⟩ := tow0 true
theorem kcells_one {hf : Hp} : ∀ {ks : List KidP} {kvs : List Value}, (∀ (i : Nat) (p : KidP) (u : Value), ks[i]? = some p → kvs[i]? = some u → (p.at u).Ok hf p.key) → ∀ x ∈ kcells ks kvs, x.oneCell' = true
  | [], _, _, x, hx => by cases hx
  | p :: ks, [], _, x, hx => by cases hx
  | p :: ks, u :: kvs, h, x, hx => by
    simp only [kcells, List.mem_append] at hx
    rcases hx with hx | hx
    · exact (h 0 p u rfl rfl).one x hx
    · exact kcells_one (fun i p u h1 h2 => h (i + 1) p u (by simpa using h1) (by simpa using h2)) x hx
/-- a kid without its label -/
def kid0 (e : EntP) (n : Nat) : KidP := ⟨(hgt e : Int) - 1, e.key, n, zeroS, 0, zeroS⟩
theorem kid0_ok {hf : Hp} {e : EntP} {n : Nat} {u : Value} (h : Byts hf u e.key) (hn : n < 18446744073709551616) : ((kid0 e n).at u).Ok hf (kid0 e n).key := by
  have := hgt_lo e
  have := hgt_hi e
  exact ⟨rfl, rfl, hn, ⟨by show _ ≤ (hgt e : Int) - 1; omega, by show (hgt e : Int) - 1 ≤ _; omega⟩, h⟩
theorem kidE_ok {hf : Hp} {e : EntP} {g : List EntP} {u : Value} (h : Byts hf u e.key) (hn : g.length + 1 < 18446744073709551616) : ((kidE e g).at u).Ok hf (kidE e g).key := by
  have := hgt_lo e
  have := hgt_hi e
  exact ⟨rfl, by simp [kidE, KidP.at], hn, ⟨by show _ ≤ (hgt e : Int) - 1; omega, by show (hgt e : Int) - 1 ≤ _; omega⟩, h⟩
theorem kid0_label {e : EntP} {g : List EntP} {u : Value} {n : Nat} (hn : n = g.length + 1) : ((kid0 e n).at u).cells.take 36 ++ (hangL (leafD e) g).map B ++ ((kid0 e n).at u).cells.drop 68 = ((kidE e g).at u).cells := by
  subst hn
  have e1 : ((kid0 e (g.length + 1)).at u).cells = (.int .i64 ((hgt e : Int) - 1) :: u :: .int .u64 ((g.length + 1 : Nat) : Int) :: (zeroS.map B ++ [B 0])) ++ zeroS.map B := by simp [KidV.cells, KidP.at, kid0]
  have e2 : ((.int .i64 ((hgt e : Int) - 1) :: u :: .int .u64 ((g.length + 1 : Nat) : Int) :: (zeroS.map B ++ [B 0])) : List Value).length = 36 := by simp [zeroS]
  have e3 : ((kid0 e (g.length + 1)).at u).cells.drop 68 = [] := List.drop_of_length_le (by rw [e1]; simp [zeroS])
  rw [e3, e1, List.take_left' e2]
  simp [KidV.cells, KidP.at, kidE]
theorem lab_kid (t : TowP) (k : KidP) (ks : List KidP) : labP (fun _ => true) (t.with (k :: ks)) 0 = pairK k (labP (fun _ => true) (t.with ks) 0) := by
  rw [lab_true, lab_true]; rfl
theorem isMap_sizes {es : List EntP} (h : isMap es) : ∀ e ∈ es, e.key.length ≤ 1024 ∧ e.val.length ≤ 65536 := by
  intro e he
  obtain ⟨i, hi⟩ := List.getElem?_of_mem he
  have hil : i < es.length := (List.getElem?_eq_some_iff.1 hi).1
  have := entAt_get hil
  rw [hi] at this
  rw [Option.some.inj this]
  exact (h i hil).1
theorem ent_bad {es : List EntP} {i : Nat} (h : (((1024 : Int) < ((entAt es i).key.length : Int)) ∨ ((65536 : Int) < ((entAt es i).val.length : Int))) ∨ ((0 : Int) < (i : Int) ∧ 0 ≤ cmpB (entAt es (i - 1)).key (entAt es i).key)) : ¬ entOk es i := by
  rintro ⟨h1, h2⟩
  unfold szOk at h1
  rcases h with h | h
  · omega
  · rcases h2 with h2 | h2 <;> omega
/-- how far the group of entry a reaches -/
def reachP (es : List EntP) (a : Nat) : Nat := a + 1 + ((es.drop (a + 1)).takeWhile (low (entAt es a))).length
theorem reach_at {es : List EntP} {i e : Nat} (hi : i < e) (he : e ≤ es.length) (h1 : ∀ k, i < k → k < e → hgt (entAt es k) ≤ hgt (entAt es i)) (h2 : e = es.length ∨ ¬ hgt (entAt es e) ≤ hgt (entAt es i)) : reachP es i = e := by
  obtain ⟨_, ea, _⟩ := group_at hi he h1 h2
  unfold reachP
  rw [ea]
  simp; omega
theorem reach_group {es : List EntP} {i : Nat} (hi : i < es.length) : i < reachP es i ∧ reachP es i ≤ es.length ∧ es.drop i = entAt es i :: es.drop (i + 1) ∧ (es.drop (i + 1)).takeWhile (low (entAt es i)) = (es.drop (i + 1)).take (reachP es i - (i + 1)) ∧ (es.drop (i + 1)).dropWhile (low (entAt es i)) = es.drop (reachP es i) := by
  have hl : ((es.drop (i + 1)).takeWhile (low (entAt es i))).length ≤ (es.drop (i + 1)).length := tw_le _ _
  have hl2 : (es.drop (i + 1)).length = es.length - (i + 1) := by simp
  have e0 : es.drop i = entAt es i :: es.drop (i + 1) := by
    rw [List.drop_eq_getElem_cons hi]
    have := entAt_get hi
    rw [List.getElem?_eq_getElem hi] at this
    rw [Option.some.inj this]
  have e1 : reachP es i - (i + 1) = ((es.drop (i + 1)).takeWhile (low (entAt es i))).length := by unfold reachP; omega
  have htd := List.takeWhile_append_dropWhile (p := low (entAt es i)) (l := es.drop (i + 1))
  refine ⟨by unfold reachP; omega, by unfold reachP; omega, e0, ?_, ?_⟩
  · have := congrArg (List.take ((es.drop (i + 1)).takeWhile (low (entAt es i))).length) htd
    rw [List.take_left' rfl] at this
    rw [e1]; exact this
  · have e2 : es.drop (reachP es i) = (es.drop (i + 1)).drop ((es.drop (i + 1)).takeWhile (low (entAt es i))).length := by
      rw [List.drop_drop]; rfl
    have := congrArg (List.drop ((es.drop (i + 1)).takeWhile (low (entAt es i))).length) htd
    rw [List.drop_left' rfl] at this
    rw [e2]; exact this
/-- one group is taken -/
theorem hang_step {t : TowP} {ks : List KidP} {es : List EntP} {i e : Nat} {r : List UInt8} (hi : i < e) (he : e ≤ es.length) (h1 : ∀ k, i < k → k < e → hgt (entAt es k) ≤ hgt (entAt es i)) (h2 : e = es.length ∨ ¬ hgt (entAt es e) ≤ hgt (entAt es i))
    (h : hangL (labP (fun _ => true) (t.with ks) 0) (es.drop i) = r) : hangL (labP (fun _ => true) (t.with (kidE (entAt es i) ((es.drop (i + 1)).take (e - (i + 1))) :: ks)) 0) (es.drop e) = r := by
  obtain ⟨e0, ea, eb⟩ := group_at hi he h1 h2
  rw [e0, hangL_cons, ea, eb] at h
  rw [lab_kid]
  exact h
theorem Sl.cells1 {hf : Hp} {s n : Nat} {v : Value} {cs : List Value} (h : Sl hf s v n cs) : v.cells.toList = [v] := by
  obtain ⟨a, c, e⟩ := h.shape
  rw [e]; rfl
theorem addr_filled {s : List UInt8} {z : List Value} (hs : s.length = 32) (hz : z = addrC zeroS 0) : FillR [(0, 32), (32, 1)] z [(0, sumV s)] (addrC s 0) := by
  subst hz
  refine FillR.cons (vc := s.map B) rfl rfl (by simp [hs]) (by simp [addrC, zeroS]) ?_ FillR.nil
  rw [addrC, List.take_zero, List.nil_append, List.drop_left' (by simp [zeroS]), addrC]
theorem tow_filled2 {t : TowP} {k : Value} {kvs : List Value} {z : List Value} (hs : t.sum.length = 32) (hk : k.cells.toList = [k]) (hz : z = (⟨false, [], zeroS, 0, []⟩ : TowP).cells ⟨nilS, nilS, []⟩) (hh : t.head = false) :
    FillR [(0, 1), (1, 1), (2, 33), (35, 1)] z [(1, k), (2, .agg (addrC t.sum t.nth).toArray)] (t.cells ⟨k, nilS, kvs⟩) := by
  subst hz
  refine FillR.cons (cs' := .bool t.head :: k :: (zeroS.map B ++ [B 0] ++ [nilS])) (vc := [k]) rfl hk rfl (by simp [TowP.cells, zeroS]) (by rw [hh]; simp [TowP.cells]) ?_
  exact FillR.cons (vc := addrC t.sum t.nth) rfl rfl (addrC_length _ _ hs) (by simp [zeroS]) (tow_fill hs (by simp [zeroS])) FillR.nil
def kidZ : List Value := ((⟨0, [], 0, zeroS, 0, zeroS⟩ : KidP).at nilS).cells
theorem kid_filled {e : EntP} {n : Nat} {u : Value} {z : List Value} (hu : u.cells.toList = [u]) (hz : z = kidZ) :
    FillR [(0, 1), (1, 1), (2, 1), (3, 33), (36, 32)] z [(0, .int .i64 ((hgt e : Int) - 1)), (1, u), (2, .int .u64 ((n : Nat) : Int))] ((kid0 e n).at u).cells := by
  subst hz
  refine FillR.cons (cs' := .int .i64 ((hgt e : Int) - 1) :: nilS :: .int .u64 0 :: (zeroS.map B ++ (B 0 :: zeroS.map B))) (vc := [.int .i64 ((hgt e : Int) - 1)]) rfl rfl rfl (by decide) rfl ?_
  refine FillR.cons (cs' := .int .i64 ((hgt e : Int) - 1) :: u :: .int .u64 0 :: (zeroS.map B ++ (B 0 :: zeroS.map B))) (vc := [u]) rfl hu rfl (by simp [zeroS]) rfl ?_
  exact FillR.cons (vc := [.int .u64 ((n : Nat) : Int)]) rfl rfl rfl (by simp [zeroS]) rfl FillR.nil
theorem Vec.ofRow {T : TypeId} {s b : Nat} {xs : List Value} (h : xs.length = s) : Vec T s (slc b 0 1 1) 1 xs [(b, row T xs)] := ⟨by omega, .inr ⟨b, 1, [], rfl, by simp, Nat.le_refl _, by decide, by simp; omega⟩⟩
theorem kids_cons_ok {hf : Hp} {ks : List KidP} {kvs : List Value} {k : KidP} {u : Value} (h : ∀ (i : Nat) (p : KidP) (u : Value), ks[i]? = some p → kvs[i]? = some u → (p.at u).Ok hf p.key) (hk : (k.at u).Ok hf k.key) :
    ∀ (i : Nat) (p : KidP) (v : Value), (k :: ks)[i]? = some p → (u :: kvs)[i]? = some v → (p.at v).Ok hf p.key
  | 0, _, _, h1, h2 => by cases h1; cases h2; exact hk
  | i + 1, p, v, h1, h2 => h i p v (by simpa using h1) (by simpa using h2)
end Go.Own
