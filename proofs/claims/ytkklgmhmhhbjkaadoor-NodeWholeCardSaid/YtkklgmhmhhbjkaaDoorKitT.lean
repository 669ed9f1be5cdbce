/-
  OWN LIBRARY, part 20: lists of entries; what hangs at a tower; what a map's list must be.
-/
import Derived.Test.YtkklgmhmhhbjkaaDoorKitS
namespace Go.Own
open Go
structure EntP where
  key : List UInt8
  val : List UInt8
deriving Inhabited
/-- the values of an entry's parts -/
abbrev EntV := Value × Value
def ecells : List EntV → List Value
  | [] => []
  | (k, v) :: r => k :: v :: ecells r
theorem ecells_length : ∀ (l : List EntV), (ecells l).length = l.length * 2
  | [] => rfl
  | (k, v) :: r => by simp only [ecells, List.length_cons, ecells_length r]; omega
theorem ecells_append : ∀ (l : List EntV) (x : EntV), ecells (l ++ [x]) = ecells l ++ [x.1, x.2]
  | [], (k, v) => rfl
  | (k, v) :: r, x => by simp only [List.cons_append, ecells, ecells_append r x]
theorem ecells_drop : ∀ (l : List EntV) (i : Nat), (ecells l).drop (i * 2) = ecells (l.drop i)
  | [], i => by simp [ecells]
  | (k, v) :: r, 0 => by simp
  | (k, v) :: r, i + 1 => by
    rw [show (i + 1) * 2 = i * 2 + 1 + 1 by omega]
    simp only [ecells, List.drop_succ_cons]
    exact ecells_drop r i
theorem ecells_take : ∀ (l : List EntV) (i : Nat), (ecells l).take (i * 2) = ecells (l.take i)
  | [], i => by simp [ecells]
  | (k, v) :: r, 0 => by simp [ecells]
  | (k, v) :: r, i + 1 => by
    rw [show (i + 1) * 2 = i * 2 + 1 + 1 by omega]
    simp only [ecells, List.take_succ_cons, ecells_take r i]
def evAt (l : List EntV) (i : Nat) : EntV := l.getD i (nilS, nilS)
def entAt (l : List EntP) (i : Nat) : EntP := l.getD i default
theorem entAt_get {l : List EntP} {i : Nat} (h : i < l.length) : l[i]? = some (entAt l i) := by simp [entAt, List.getD, h]
theorem evAt_get {l : List EntV} {i : Nat} (h : i < l.length) : l[i]? = some (evAt l i) := by simp [evAt, List.getD, h]
structure EntsOk (hf : Hp) (es : List EntP) (v : Value) (evs : List EntV) : Prop where
  sl : Sl hf 2 v es.length (ecells evs)
  len : evs.length = es.length
  each : ∀ (i : Nat) (e : EntP) (u : EntV), es[i]? = some e → evs[i]? = some u → Byts hf u.1 e.key ∧ Byts hf u.2 e.val
section ents
variable {hf hf' : Hp} {es : List EntP} {v : Value} {evs : List EntV} {i : Nat}
theorem EntsOk.mono (h : EntsOk hf es v evs) (hle : hf.le hf') : EntsOk hf' es v evs := ⟨h.sl.mono hle, h.len, fun i e u h1 h2 => ⟨(h.each i e u h1 h2).1.mono hle, (h.each i e u h1 h2).2.mono hle⟩⟩
theorem EntsOk.ok (h : EntsOk hf es v evs) (hi : i < es.length) : Byts hf (evAt evs i).1 (entAt es i).key ∧ Byts hf (evAt evs i).2 (entAt es i).val :=
  h.each i _ _ (entAt_get hi) (evAt_get (by rw [h.len]; exact hi))
theorem EntsOk.key (h : EntsOk hf es v evs) (hi : i < es.length) : Byts hf (evAt evs i).1 (entAt es i).key := (h.ok hi).1
theorem EntsOk.val (h : EntsOk hf es v evs) (hi : i < es.length) : Byts hf (evAt evs i).2 (entAt es i).val := (h.ok hi).2
theorem EntsOk.many (h : EntsOk hf es v evs) : es.length ≤ 9223372036854775807 := h.sl.len_le
theorem EntsOk.cellsAt (h : EntsOk hf es v evs) (hi : i < es.length) : ((ecells evs).drop (i * 2)).take 2 = [(evAt evs i).1, (evAt evs i).2] := by
  have h2 : i < evs.length := by rw [h.len]; exact hi
  have e := evAt_get h2
  rw [List.getElem?_eq_getElem h2] at e
  rw [ecells_drop, List.drop_eq_getElem_cons h2, Option.some.inj e]
  rfl
theorem EntsOk.cels {S : World} {L : Res} (h : EntsOk hf es v evs) (hi : i < es.length) : Cels S hf L (sBlk v) (sOff v + i * 2) [(evAt evs i).1, (evAt evs i).2] := h.sl.cels (h.cellsAt hi)
/-- a part of a list -/
theorem EntsOk.sub (h : EntsOk hf es v evs) {lo hi : Nat} (h1 : lo ≤ hi) (h2 : hi ≤ es.length) : EntsOk hf ((es.drop lo).take (hi - lo)) (subS v 2 lo hi) ((evs.drop lo).take (hi - lo)) := by
  have hl : ((es.drop lo).take (hi - lo)).length = hi - lo := by simp; omega
  refine ⟨?_, by simp [h.len], fun i e u he hu => ?_⟩
  · have := h.sl.sub h1 h2
    rw [ecells_drop, ecells_take] at this
    rw [hl]
    exact this
  · rw [List.getElem?_take] at he hu
    split at he
    · rename_i hlt
      rw [if_pos hlt, List.getElem?_drop] at hu
      rw [List.getElem?_drop] at he
      exact h.each _ e u he hu
    · cases he
end ents

/-! ### what hangs at a tower -/
abbrev hgt (e : EntP) : Nat := height e.key
theorem hgt_lo (e : EntP) : 1 ≤ hgt e := height_lo _
theorem hgt_hi (e : EntP) : hgt e ≤ 24 := height_hi _
/-- a value's digest; a leaf's label -/
def valD (e : EntP) : List UInt8 := sha (1 :: e.val)
def leafD (e : EntP) : List UInt8 := sha (leafText e.key (valD e))
@[simp] theorem valD_length (e : EntP) : (valD e).length = 32 := by simp [valD]
@[simp] theorem leafD_length (e : EntP) : (leafD e).length = 32 := by simp [leafD]
def low (e f : EntP) : Bool := decide (hgt f ≤ hgt e)
theorem tw_le (p : EntP → Bool) (r : List EntP) : (r.takeWhile p).length ≤ r.length := (List.takeWhile_sublist p).length_le
theorem dw_le (p : EntP → Bool) (r : List EntP) : (r.dropWhile p).length ≤ r.length := (List.dropWhile_sublist p).length_le
/-- the label of a tower whose own label is s, at which these entries hang -/
def hangL (s : List UInt8) (es : List EntP) : List UInt8 :=
  match es with
  | [] => s
  | e :: r => hangL (pairK ⟨(hgt e : Int) - 1, e.key, (r.takeWhile (low e)).length + 1, zeroS, 0, hangL (leafD e) (r.takeWhile (low e))⟩ s) (r.dropWhile (low e))
termination_by es.length
decreasing_by
  · have := tw_le (low e) r; simp; omega
  · have := dw_le (low e) r; simp; omega
/-- the kid that an entry is, with those that hang at it -/
def kidE (e : EntP) (g : List EntP) : KidP := ⟨(hgt e : Int) - 1, e.key, g.length + 1, zeroS, 0, hangL (leafD e) g⟩
/-- the kids, from the lowest up -/
def kidsOf (es : List EntP) : List KidP :=
  match es with
  | [] => []
  | e :: r => kidE e (r.takeWhile (low e)) :: kidsOf (r.dropWhile (low e))
termination_by es.length
decreasing_by
  · have := dw_le (low e) r; simp; omega
theorem hangL_nil (s : List UInt8) : hangL s [] = s := by rw [hangL]
theorem hangL_cons (s : List UInt8) (e : EntP) (r : List EntP) : hangL s (e :: r) = hangL (pairK (kidE e (r.takeWhile (low e))) s) (r.dropWhile (low e)) := by
  rw [hangL]; rfl
theorem kidsOf_nil : kidsOf [] = [] := by rw [kidsOf]
theorem kidsOf_cons (e : EntP) (r : List EntP) : kidsOf (e :: r) = kidE e (r.takeWhile (low e)) :: kidsOf (r.dropWhile (low e)) := by
  rw [kidsOf]
theorem hangL_kids (n : Nat) : ∀ (s : List UInt8) (es : List EntP), es.length ≤ n → hangL s es = (kidsOf es).foldl (fun s k => pairK k s) s := by
  induction n with
  | zero =>
    intro s es h
    have : es = [] := List.eq_nil_of_length_eq_zero (by omega)
    subst this
    rw [hangL_nil, kidsOf_nil]; rfl
  | succ n ih =>
    intro s es h
    cases es with
    | nil => rw [hangL_nil, kidsOf_nil]; rfl
    | cons e r =>
      have := dw_le (low e) r
      simp only [List.length_cons] at h
      rw [hangL_cons, kidsOf_cons, List.foldl_cons]
      exact ih _ _ (by omega)
@[simp] theorem hangL_length (s : List UInt8) (es : List EntP) (hs : s.length = 32) : (hangL s es).length = 32 := by
  rw [hangL_kids es.length s es (Nat.le_refl _)]
  induction kidsOf es generalizing s with
  | nil => exact hs
  | cons k r ih => rw [List.foldl_cons]; exact ih _ (by simp)
/-- a tower with these kids -/
def TowP.with (t : TowP) (ks : List KidP) : TowP := { t with kids := ks }
@[simp] theorem with_head (t : TowP) (ks : List KidP) : (t.with ks).head = t.head := rfl
@[simp] theorem with_kids (t : TowP) (ks : List KidP) : (t.with ks).kids = ks := rfl
@[simp] theorem with_own (t : TowP) (ks : List KidP) : ownL (t.with ks) = ownL t := rfl
theorem lab_true (t : TowP) : labP (fun _ => true) t 0 = t.kids.foldr (fun k s => pairK k s) (ownL t) := by
  unfold labP
  rw [List.drop_zero]
  induction t.kids with
  | nil => rfl
  | cons k r ih => simp only [List.foldr_cons, if_true, ih]
theorem lab_hang (t : TowP) (es : List EntP) : labP (fun _ => true) (t.with (kidsOf es).reverse) 0 = hangL (ownL t) es := by
  rw [lab_true, hangL_kids es.length _ es (Nat.le_refl _), with_kids, with_own, List.foldr_reverse]
/-- an entry's own tower -/
def towE (e : EntP) : TowP := ⟨false, e.key, valD e, 0, []⟩
def towH : TowP := ⟨true, [], zeroS, 0, []⟩
theorem own_towE (e : EntP) : ownL (towE e) = leafD e := rfl
theorem own_towH : ownL towH = sha headText := rfl

/-! ### groups, by places -/
theorem take_while {p : EntP → Bool} : ∀ {r : List EntP} {m : Nat}, m ≤ r.length → (∀ k, k < m → p (entAt r k) = true) → (m = r.length ∨ p (entAt r m) = false) → r.takeWhile p = r.take m ∧ r.dropWhile p = r.drop m
  | [], m, hm, _, _ => by
    have : m = 0 := by simpa using hm
    subst this; exact ⟨rfl, rfl⟩
  | e :: r, 0, _, _, h => by
    rcases h with h | h
    · cases h
    · have he : p e = false := h
      simp [he]
  | e :: r, m + 1, hm, h1, h2 => by
    have he : p e = true := h1 0 (by omega)
    obtain ⟨a, b⟩ := take_while (p := p) (r := r) (m := m) (by simpa using hm) (fun k hk => h1 (k + 1) (by omega)) (by
      rcases h2 with h2 | h2
      · exact .inl (by simpa using h2)
      · exact .inr h2)
    simp [he, a, b]
theorem entAt_drop (es : List EntP) (i k : Nat) : entAt (es.drop i) k = entAt es (i + k) := by simp [entAt, List.getD]
/-- the group that entry i leads ends ahead of entry e -/
theorem group_at {es : List EntP} {i e : Nat} (hi : i < e) (he : e ≤ es.length) (h1 : ∀ k, i < k → k < e → hgt (entAt es k) ≤ hgt (entAt es i)) (h2 : e = es.length ∨ ¬ hgt (entAt es e) ≤ hgt (entAt es i)) :
    es.drop i = entAt es i :: es.drop (i + 1) ∧ (es.drop (i + 1)).takeWhile (low (entAt es i)) = (es.drop (i + 1)).take (e - (i + 1)) ∧ (es.drop (i + 1)).dropWhile (low (entAt es i)) = es.drop e := by
  have hil : i < es.length := by omega
  have e0 : es.drop i = entAt es i :: es.drop (i + 1) := by
    rw [List.drop_eq_getElem_cons hil]
    have := entAt_get hil
    rw [List.getElem?_eq_getElem hil] at this
    rw [Option.some.inj this]
  obtain ⟨a, b⟩ := take_while (p := low (entAt es i)) (r := es.drop (i + 1)) (m := e - (i + 1)) (by simp; omega) (fun k hk => by
      rw [entAt_drop]
      simp only [low, decide_eq_true_eq]
      exact h1 _ (by omega) (by omega)) (by
      rcases h2 with h2 | h2
      · exact .inl (by simp; omega)
      · refine .inr ?_
        rw [entAt_drop, show i + 1 + (e - (i + 1)) = e by omega]
        simp only [low, decide_eq_false_iff_not]
        exact h2)
  refine ⟨e0, a, ?_⟩
  rw [b, List.drop_drop, show i + 1 + (e - (i + 1)) = e by omega]

/-! ### what a map's list must be -/
def szOk (es : List EntP) (i : Nat) : Prop := (entAt es i).key.length ≤ 1024 ∧ (entAt es i).val.length ≤ 65536
def upOk (es : List EntP) (i : Nat) : Prop := i = 0 ∨ cmpB (entAt es (i - 1)).key (entAt es i).key < 0
def entOk (es : List EntP) (i : Nat) : Prop := szOk es i ∧ upOk es i
instance (es : List EntP) (i : Nat) : Decidable (szOk es i) := by unfold szOk; infer_instance
instance (es : List EntP) (i : Nat) : Decidable (upOk es i) := by unfold upOk; infer_instance
instance (es : List EntP) (i : Nat) : Decidable (entOk es i) := by unfold entOk; infer_instance
def isMap (es : List EntP) : Prop := ∀ i, i < es.length → entOk es i
instance (es : List EntP) : Decidable (isMap es) := by unfold isMap; infer_instance
/-- what is wrong with a list first -/
def fitFrom (es : List EntP) : Nat → Nat → Int
  | 0, _ => 0
  | m + 1, i => if entOk es i then fitFrom es m (i + 1) else if szOk es i then 26 else 80
def fitP (es : List EntP) : Int := fitFrom es es.length 0
theorem fit_skip {es : List EntP} : ∀ {i m : Nat}, (∀ j, m ≤ j → j < m + i → entOk es j) → ∀ k, fitFrom es (i + k) m = fitFrom es k (m + i)
  | 0, m, _, k => by simp
  | i + 1, m, h, k => by
    rw [show i + 1 + k = (i + k) + 1 by omega, fitFrom, if_pos (h m (Nat.le_refl _) (by omega)), fit_skip (fun j h1 h2 => h j (by omega) (by omega)) k, show m + 1 + i = m + (i + 1) by omega]
theorem fit_bad {es : List EntP} {i : Nat} (hi : i < es.length) (h : ∀ j, j < i → entOk es j) (hb : ¬ entOk es i) : fitP es = if szOk es i then 26 else 80 := by
  have := fit_skip (es := es) (i := i) (m := 0) (fun j _ h2 => h j (by omega)) (es.length - i)
  unfold fitP
  rw [show es.length = i + (es.length - i) by omega]
  rw [this, show es.length - i = (es.length - i - 1) + 1 by omega, fitFrom, Nat.zero_add, if_neg hb]
theorem fit_size {es : List EntP} {i : Nat} (hi : i < es.length) (h : ∀ j, j < i → entOk es j) (hb : (1024 : Int) < ((entAt es i).key.length : Int) ∨ (65536 : Int) < ((entAt es i).val.length : Int)) : fitP es = 80 := by
  have hs : ¬ szOk es i := fun hs => by unfold szOk at hs; omega
  rw [fit_bad hi h (fun ho => hs ho.1), if_neg hs]
theorem fit_order {es : List EntP} {i : Nat} (hi : i < es.length) (h : ∀ j, j < i → entOk es j) (hs : ¬ ((1024 : Int) < ((entAt es i).key.length : Int) ∨ (65536 : Int) < ((entAt es i).val.length : Int))) (hb : (0 : Int) < (i : Int) ∧ 0 ≤ cmpB (entAt es (i - 1)).key (entAt es i).key) : fitP es = 26 := by
  have hz : szOk es i := by unfold szOk; omega
  rw [fit_bad hi h (fun ho => by rcases ho.2 with h0 | h0 <;> omega), if_pos hz]
theorem fit_ok {es : List EntP} (h : isMap es) : fitP es = 0 := by
  have := fit_skip (es := es) (i := es.length) (m := 0) (fun j _ h2 => h j (by omega)) 0
  unfold fitP
  simpa [fitFrom] using this
theorem ent_ok {es : List EntP} {i : Nat} (hs : ¬ ((1024 : Int) < ((entAt es i).key.length : Int) ∨ (65536 : Int) < ((entAt es i).val.length : Int))) (hb : ¬ ((0 : Int) < (i : Int) ∧ 0 ≤ cmpB (entAt es (i - 1)).key (entAt es i).key)) : entOk es i := by
  refine ⟨by unfold szOk; omega, ?_⟩
  unfold upOk
  by_cases h0 : i = 0
  · exact .inl h0
  · exact .inr (by have : ¬ 0 ≤ cmpB (entAt es (i - 1)).key (entAt es i).key := fun hc => hb ⟨by omega, hc⟩
                   omega)
theorem fit_not {es : List EntP} (h : ¬ isMap es) : fitP es = 80 ∨ fitP es = 26 := by
  have hex : ∃ i, i < es.length ∧ (∀ j, j < i → entOk es j) ∧ ¬ entOk es i := by
    apply Classical.byContradiction
    intro hc
    apply h
    intro i hi
    induction i using Nat.strongRecOn with
    | _ i ih => exact Classical.byContradiction fun hn => hc ⟨i, hi, fun j hj => ih j hj (by omega), hn⟩
  obtain ⟨i, hi, h1, h2⟩ := hex
  rw [fit_bad hi h1 h2]
  split
  · exact .inr rfl
  · exact .inl rfl
def rootP (es : List EntP) : List UInt8 := if fitP es = 0 then sha (rootText es.length (hangL (sha headText) es)) else zeroS
theorem rootP_bad {es : List EntP} (h : fitP es ≠ 0) : rootP es = zeroS := by simp [rootP, h]
theorem rootP_ok {es : List EntP} (h : isMap es) : rootP es = sha (rootText es.length (hangL (sha headText) es)) := by simp [rootP, fit_ok h]
@[simp] theorem rootP_length (es : List EntP) : (rootP es).length = 32 := by unfold rootP; split <;> simp [zeroS]
end Go.Own
