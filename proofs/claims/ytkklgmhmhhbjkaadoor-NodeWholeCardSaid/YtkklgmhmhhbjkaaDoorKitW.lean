/-
  OWN LIBRARY, part 23: kids put together and turned round; digests of two parts.
-/
import Derived.Test.YtkklgmhmhhbjkaaDoorKitV
namespace Go.Own
open Go
abbrev EachOk (hf : Hp) (ks : List KidP) (kvs : List Value) : Prop := ∀ (i : Nat) (p : KidP) (u : Value), ks[i]? = some p → kvs[i]? = some u → (p.at u).Ok hf p.key
theorem Sl.cells2 {hf : Hp} {s n : Nat} {v : Value} {cs : List Value} (h : Sl hf s v n cs) : v.cells = #[v] := by
  obtain ⟨a, c, e⟩ := h.shape
  rw [e]; rfl
theorem two_cells {hf : Hp} {v u : Value} {n : Nat} {cs : List Value} (hv : v.cells = #[v]) (h : Sl hf 1 u n cs) : ∀ x ∈ [v, u], x.cells = #[x] := by
  intro x hx
  simp only [List.mem_cons, List.not_mem_nil, or_false] at hx
  rcases hx with rfl | rfl
  · exact hv
  · exact h.cells2
theorem each_nil {hf : Hp} : EachOk hf [] [] := fun i p u h => by simp at h
theorem each_snoc {hf : Hp} {ks : List KidP} {kvs : List Value} {k : KidP} {u : Value} (h : EachOk hf ks kvs) (hl : kvs.length = ks.length) (hk : (k.at u).Ok hf k.key) : EachOk hf (ks ++ [k]) (kvs ++ [u]) := by
  intro i p v h1 h2
  by_cases hi : i < ks.length
  · rw [List.getElem?_append_left hi] at h1
    rw [List.getElem?_append_left (by omega)] at h2
    exact h i p v h1 h2
  · have hi2 : i < (ks ++ [k]).length := (List.getElem?_eq_some_iff.1 h1).1
    have : i = ks.length := by simp at hi2; omega
    subst this
    rw [List.getElem?_append_right (Nat.le_refl _)] at h1
    rw [← hl, List.getElem?_append_right (Nat.le_refl _)] at h2
    simp at h1 h2
    subst h1 h2
    exact hk
theorem each_mono {hf hf' : Hp} {ks : List KidP} {kvs : List Value} (h : EachOk hf ks kvs) (hle : hf.le hf') : EachOk hf' ks kvs := fun i p u h1 h2 => (h i p u h1 h2).mono hle
section mark
variable {P : Program} {S : World} {hf : Hp} {L : Res} {n : Nat} {E : List (Nat × Value)} {a : Act} {w : World} {b : Nat}
  {dst : Option Tmp} {ty : TypeId} {pos : String} {after : Array Edge} {g : Option (Nat × Bool)} {x : Operand} {T0 : TypeId}
/-- a constant text's bytes: the row is marked, its cells stay -/
theorem o_markS {e T : TypeId} {kk l c : Nat} {cs : List Value} (ht : P.underlying T0 = some (.slice e)) (he : P.underlying e = some (.int .u8)) (h : St S hf L n E a w) (hx : ev E x = some (slc b 0 l c)) (hk : L[kk]? = some (b, row T cs)) :
    OpT P ⟨dst, .convert T0 T0 x, ty, pos, after, g⟩ a.eval w (Val S hf (L.set kk (b, .cells cs.toArray T (cs.length, cs.length + 1))) (slc b 0 l c)) := by
  have hg := h.own.own _ _ (List.mem_of_getElem? hk)
  have hb : b < w.heap.size := (Array.getElem?_eq_some_iff.1 hg).1
  have hsh : w.shape? b = some (T, cs.length) := by
    unfold World.shape?
    rw [hg]
    simp
  have r : (execOp a.eval ⟨dst, .convert T0 T0 x, ty, pos, after, g⟩).run P w = .ok (.value (slc b 0 l c)) (w.freeze ⟨b, cs.length, none⟩ 1) := by
    simp [execOp, h.env.ev hx, convert, run_underlying ht, run_underlying he, markStringish, hsh]
  unfold OpT
  rw [r]
  refine ⟨rfl, h.own.put hk rfl rfl rfl ?_ ?_⟩
  · unfold World.freeze
    rw [if_neg (by decide)]
    show (w.heap.modify b _)[b]? = _
    rw [Array.getElem?_modify, if_pos rfl, hg]
    rfl
  · intro d hd
    unfold World.freeze
    rw [if_neg (by decide)]
    show (w.heap.modify b _)[d]? = _
    rw [Array.getElem?_modify, if_neg (fun e => hd e.symm)]
end mark
theorem byts_cells {hf : Hp} {b : Nat} {T : TypeId} {fr : Nat × Nat} {l : List UInt8} (h : hf b = some (.cells (l.map B).toArray T fr)) (hl : l.length ≤ maxLen) : Byts hf (slc b 0 l.length l.length) l :=
  ⟨by simp, .inr ⟨b, 0, l.length, rfl, Nat.le_refl _, hl, fun i x hx => ⟨_, _, _, h, by simpa using hx⟩⟩⟩
/-- the last kids, turned round -/
def tailR {α : Type} (l : List α) (j : Nat) : List α := (l.drop j).reverse
@[simp] theorem tailR_length {α : Type} (l : List α) (j : Nat) : (tailR l j).length = l.length - j := by simp [tailR]
theorem tailR_full {α : Type} (l : List α) : tailR l l.length = [] := by simp [tailR]
theorem tailR_zero {α : Type} (l : List α) : tailR l 0 = l.reverse := by simp [tailR]
theorem tailR_kid {ks : List KidP} {j : Nat} (hj : 0 < j) (h : j ≤ ks.length) : tailR ks (j - 1) = tailR ks j ++ [kidAt ks (j - 1)] := by
  have h1 : j - 1 < ks.length := by omega
  have e := kidAt_get h1
  rw [List.getElem?_eq_getElem h1] at e
  unfold tailR
  rw [List.drop_eq_getElem_cons h1, show j - 1 + 1 = j by omega, List.reverse_cons, Option.some.inj e]
theorem tailR_val {kvs : List Value} {j : Nat} (hj : 0 < j) (h : j ≤ kvs.length) : tailR kvs (j - 1) = tailR kvs j ++ [vkAt kvs (j - 1)] := by
  have h1 : j - 1 < kvs.length := by omega
  have e := vkAt_get h1
  rw [List.getElem?_eq_getElem h1] at e
  unfold tailR
  rw [List.drop_eq_getElem_cons h1, show j - 1 + 1 = j by omega, List.reverse_cons, Option.some.inj e]
theorem kid_filled4 {k : KidP} {u : Value} {z : List Value} (hu : u.cells.toList = [u]) (hz : z = kidZ) (hs : k.sum = zeroS) (hn : k.nth = 0) (hl : k.label.length = 32) :
    FillR [(0, 1), (1, 1), (2, 1), (3, 33), (36, 32)] z [(0, .int .i64 k.lvl), (1, u), (2, .int .u64 (k.cnt : Int)), (4, sumV k.label)] (k.at u).cells := by
  subst hz
  refine FillR.cons (cs' := .int .i64 k.lvl :: nilS :: .int .u64 0 :: (zeroS.map B ++ (B 0 :: zeroS.map B))) (vc := [.int .i64 k.lvl]) rfl rfl rfl (by decide) rfl ?_
  refine FillR.cons (cs' := .int .i64 k.lvl :: u :: .int .u64 0 :: (zeroS.map B ++ (B 0 :: zeroS.map B))) (vc := [u]) rfl hu rfl (by simp [zeroS]) rfl ?_
  refine FillR.cons (cs' := .int .i64 k.lvl :: u :: .int .u64 (k.cnt : Int) :: (zeroS.map B ++ (B 0 :: zeroS.map B))) (vc := [.int .u64 (k.cnt : Int)]) rfl rfl rfl (by simp [zeroS]) rfl ?_
  refine FillR.cons (vc := k.label.map B) rfl rfl (by simp [hl]) (by simp [zeroS]) ?_ FillR.nil
  have e1 : (.int .i64 k.lvl :: u :: .int .u64 (k.cnt : Int) :: (zeroS.map B ++ (B 0 :: zeroS.map B)) : List Value) = (.int .i64 k.lvl :: u :: .int .u64 (k.cnt : Int) :: (zeroS.map B ++ [B 0])) ++ zeroS.map B := by simp
  have e2 : ((.int .i64 k.lvl :: u :: .int .u64 (k.cnt : Int) :: (zeroS.map B ++ [B 0])) : List Value).length = 36 := by simp [zeroS]
  rw [e1, List.take_left' e2, List.drop_of_length_le (by simp [zeroS]), List.append_nil]
  simp [KidV.cells, KidP.at, hs, hn]
theorem kids_next {es : List EntP} {ks : List KidP} {i : Nat} (hi : i < es.length) (h : kidsOf es = ks ++ kidsOf (es.drop i)) :
    kidsOf es = (ks ++ [kidE (entAt es i) ((es.drop (i + 1)).take (reachP es i - (i + 1)))]) ++ kidsOf (es.drop (reachP es i)) := by
  obtain ⟨_, _, e0, ea, eb⟩ := reach_group hi
  rw [h, e0, kidsOf_cons, ea, eb]
  simp
theorem reach_next {es : List EntP} {i : Nat} (hi : i < es.length) : reachP es i = es.length ∨ hgt (entAt es i) < hgt (entAt es (reachP es i)) := by
  obtain ⟨h1, h2, _, _, eb⟩ := reach_group hi
  by_cases h : reachP es i = es.length
  · exact .inl h
  · right
    have h3 : reachP es i < es.length := by omega
    have e1 := entAt_get h3
    rw [List.getElem?_eq_getElem h3] at e1
    rw [List.drop_eq_getElem_cons h3] at eb
    have := dw_head eb
    rw [Option.some.inj e1] at this
    exact this
/-- a tower with its kids, as they hang -/
def hungT (t : TowP) (es : List EntP) : TowP := t.with (kidsOf es).reverse
theorem hungT_ok {hf hf' : Hp} {t : TowP} {x : TowV} {es : List EntP} {ks : List KidP} {kvs : List Value} {v : Value} {m : Nat} {Lv : Res} {T : TypeId} (ht : TowOk hf t x) (hle : hf.le hf') (hks : kidsOf es = ks) (hl : kvs.length = ks.length) (ho : EachOk hf ks kvs)
    (hv : Vec T 68 v m (kcells (tailR ks 0) (tailR kvs 0)) Lv) (hm : m = ks.length) (hin : ∀ b o, (b, o) ∈ Lv → hf' b = some o) : TowOk hf' (hungT t es) ⟨x.key, v, tailR kvs 0⟩ := by
  subst hks hm
  refine ⟨ht.sum, ht.key.mono hle, ⟨?_, ?_, ?_⟩⟩
  · have := hv.sl hin
    simp only [hungT, with_kids, List.length_reverse]
    rw [tailR_zero (kidsOf es)] at this
    exact this
  · simp [hungT, hl]
  · intro i p u h1 h2
    simp only [hungT, with_kids] at h1
    rw [tailR_zero] at h2
    have hi : i < (kidsOf es).length := by
      have := (List.getElem?_eq_some_iff.1 h1).1
      simpa using this
    rw [List.getElem?_reverse hi] at h1
    rw [List.getElem?_reverse (by omega), hl] at h2
    exact (ho _ p u h1 h2).mono hle
theorem kids_cells_next {ks : List KidP} {kvs : List Value} {j : Nat} (hl : kvs.length = ks.length) (hj : 0 < j) (h : j ≤ ks.length) :
    kcells (tailR ks j) (tailR kvs j) ++ ((kidAt ks (j - 1)).at (vkAt kvs (j - 1))).cells = kcells (tailR ks (j - 1)) (tailR kvs (j - 1)) := by
  rw [tailR_kid hj h, tailR_val hj (by omega), kcells_append _ _ (by simp [hl])]
theorem hungT_count {e : EntP} {g : List EntP} (h : g.length + 1 < 18446744073709551616) : (hungT (towE e) g).count = g.length + 1 := by
  have := count_with (t := towE e) (es := g) (by show 1 + _ < _; omega)
  rw [hungT, this]; show 1 + _ = _; omega
theorem hungT_label (e : EntP) (g : List EntP) : labP (fun _ => true) (hungT (towE e) g) 0 = hangL (leafD e) g := lab_hang (towE e) g
theorem few_kids {es : List EntP} {ks : List KidP} (h : kidsOf es = ks) : ∀ k ∈ ks, ∃ e ∈ es, k.key = e.key := by
  subst h
  exact fun k hk => ((kidsOf_all es.length es (Nat.le_refl _)).1 k hk).mem
theorem ent_filled {k v : Value} {z : List Value} (hk : k.cells.toList = [k]) (hv : v.cells.toList = [v]) (hz : z = [nilS, nilS]) : FillR [(0, 1), (1, 1)] z [(0, k), (1, v)] [k, v] := by
  subst hz
  refine FillR.cons (cs' := [k, nilS]) (vc := [k]) rfl hk rfl (by simp) rfl ?_
  exact FillR.cons (vc := [v]) rfl hv rfl (by simp) rfl FillR.nil
/-! ### the map without keys, and the map of one -/
def entA : EntP := ⟨[97], [49]⟩
def kidA : KidP := ⟨(height [97] : Int) - 1, [97], 1, zeroS, 0, sha (leafText [97] (sha [1, 49]))⟩
theorem kidA_eq : kidE entA [] = kidA := by
  unfold kidE
  rw [hangL_nil]; rfl
theorem mapA : isMap [entA] := by decide
theorem rootP_none : rootP [] = sha (rootText 0 (sha headText)) := by
  rw [rootP_ok (fun i h => by simp at h), hangL_nil]; rfl
theorem rootP_one : rootP [entA] = sha (rootText 1 (pairK kidA (sha headText))) := by
  rw [rootP_ok mapA, hangL_cons]
  show sha (rootText 1 (hangL (pairK (kidE entA []) (sha headText)) [])) = _
  rw [hangL_nil, kidA_eq]
theorem fit_one : fitP [entA] = 0 := fit_ok mapA
theorem kidA_ok {hf : Hp} {u : Value} (h : Byts hf u [97]) : (kidA.at u).Ok hf kidA.key := by
  have h1 := height_lo [97]
  have h2 := height_hi [97]
  exact ⟨rfl, sha_length _, by show (1 : Nat) < _; decide, ⟨by show _ ≤ (height [97] : Int) - 1; omega, by show (height [97] : Int) - 1 ≤ _; omega⟩, h⟩
/-- labels, kid by kid -/
def walkL (es : List EntP) (lv : Int) (i : Nat) : List UInt8 := ((mapT es).kids.take i).foldl (stepL lv) (labP (fun k => decide (k.lvl < lv)) (mapT es) 0)
theorem walk_zero (es : List EntP) (lv : Int) : walkL es lv 0 = labP (fun k => decide (k.lvl < lv)) (mapT es) 0 := rfl
theorem walk_next {es : List EntP} {lv : Int} {i : Nat} (h : i < (mapT es).kids.length) : walkL es lv (i + 1) = stepL lv (walkL es lv i) (kidAt (mapT es).kids i) := by
  unfold walkL
  rw [take_next h, List.foldl_append]; rfl
theorem walk_yes {es : List EntP} {lv : Int} {i : Nat} (h : i < (mapT es).kids.length) (he : (kidAt (mapT es).kids i).lvl = lv) : pairK (kidAt (mapT es).kids i) (walkL es lv i) = walkL es lv (i + 1) := by
  rw [walk_next h, stepL, if_pos he]
theorem walk_no {es : List EntP} {lv : Int} {i : Nat} (h : i < (mapT es).kids.length) (he : ¬ (kidAt (mapT es).kids i).lvl = lv) : walkL es lv i = walkL es lv (i + 1) := by
  rw [walk_next h, stepL, if_neg he]
theorem walk_end {es : List EntP} (h : isMap es) (lv : Int) : walkL es lv (mapT es).kids.length = labP (fun k => decide (k.lvl < lv + 1)) (mapT es) 0 := by
  unfold walkL
  rw [List.take_length]
  exact below_next h lv
@[simp] theorem walkL_length (es : List EntP) (lv : Int) (i : Nat) : (walkL es lv i).length = 32 := by
  unfold walkL
  generalize hs : labP (fun k => decide (k.lvl < lv)) (mapT es) 0 = s
  have h : s.length = 32 := by rw [← hs]; simp
  clear hs
  induction (mapT es).kids.take i generalizing s with
  | nil => exact h
  | cons k r ih =>
    rw [List.foldl_cons]
    refine ih _ ?_
    unfold stepL
    split <;> simp [h]
theorem whole_root {es : List EntP} (h : isMap es) : rootP es = sha (rootText es.length (labP (fun _ => true) (mapT es) 0)) := by
  rw [rootP_ok h, mapT_label]
theorem mapT_keys {es : List EntP} (h : isMap es) : ∀ p ∈ (mapT es).kids, p.key.length ≤ 140737488351232 := fun p hp => by
  obtain ⟨e, he, hke⟩ := (mapT_kid hp).mem
  have := (isMap_sizes h e he).1
  rw [hke]; omega
end Go.Own
