/-
  OWN LIBRARY, part 22: STAGE 7's plain law: the towers of a sorted list are valid; counts add up; labels level by level.
-/
import Derived.Test.YtkklgmhmhhbjkaaDoorKitU
namespace Go.Own
open Go
/-! ### the order of texts -/
theorem cmpB_trans : ∀ {a b c : List UInt8}, cmpB a b < 0 → cmpB b c < 0 → cmpB a c < 0
  | [], [], _, h, _ => by simp [cmpB] at h
  | [], _ :: _, [], _, h => by simp [cmpB] at h
  | [], _ :: _, _ :: _, _, _ => by simp [cmpB]
  | _ :: _, [], _, h, _ => by simp [cmpB] at h
  | _ :: _, _ :: _, [], _, h => by simp [cmpB] at h
  | x :: a, y :: b, z :: c, h1, h2 => by
    simp only [cmpB] at h1 h2 ⊢
    by_cases hxy : x = y
    · subst hxy
      rw [if_pos rfl] at h1
      by_cases hyz : x = z
      · subst hyz
        rw [if_pos rfl] at h2 ⊢
        exact cmpB_trans h1 h2
      · rw [if_neg hyz] at h2 ⊢
        exact h2
    · rw [if_neg hxy] at h1
      have hlt : x < y := by
        by_cases h : x < y
        · exact h
        · rw [if_neg h] at h1; exact absurd h1 (by decide)
      by_cases hyz : y = z
      · subst hyz
        rw [if_neg hxy, if_pos hlt]; decide
      · rw [if_neg hyz] at h2
        have hlt2 : y < z := by
          by_cases h : y < z
          · exact h
          · rw [if_neg h] at h2; exact absurd h2 (by decide)
        have hlt3 : x < z := UInt8.lt_trans hlt hlt2
        have hne : x ≠ z := fun e => by subst e; exact UInt8.lt_irrefl _ hlt3
        rw [if_neg hne, if_pos hlt3]; decide
/-- a map's keys rise -/
def Rises (es : List EntP) : Prop := es.Pairwise fun e f => cmpB e.key f.key < 0
theorem isMap_rises {es : List EntP} (h : isMap es) : Rises es := by
  unfold Rises
  have key : ∀ d i, i + 1 + d < es.length → cmpB (entAt es i).key (entAt es (i + 1 + d)).key < 0 := by
    intro d
    induction d with
    | zero =>
      intro i hi
      rcases (h (i + 1) hi).2 with h0 | h0
      · omega
      · simpa using h0
    | succ d ih =>
      intro i hi
      have h1 := ih i (by omega)
      rcases (h (i + 1 + d + 1) hi).2 with h0 | h0
      · omega
      · exact cmpB_trans h1 (by rw [show i + 1 + d + 1 - 1 = i + 1 + d by omega] at h0; exact h0)
  rw [List.pairwise_iff_getElem]
  intro i j hi hj hij
  have ei := entAt_get hi
  have ej := entAt_get hj
  rw [List.getElem?_eq_getElem hi] at ei
  rw [List.getElem?_eq_getElem hj] at ej
  rw [Option.some.inj ei, Option.some.inj ej]
  have := key (j - (i + 1)) i (by omega)
  rwa [show i + 1 + (j - (i + 1)) = j by omega] at this

/-! ### what is so of the kids of a list -/
structure KidOf (es : List EntP) (k : KidP) : Prop where
  lvl : 0 ≤ k.lvl ∧ k.lvl ≤ 23
  hei : (height k.key : Int) = k.lvl + 1
  mem : ∃ e ∈ es, k.key = e.key
  cnt : 1 ≤ k.cnt
theorem KidOf.mono {es es' : List EntP} {k : KidP} (h : KidOf es k) (hs : ∀ e ∈ es, e ∈ es') : KidOf es' k := ⟨h.lvl, h.hei, let ⟨e, h1, h2⟩ := h.mem; ⟨e, hs e h1, h2⟩, h.cnt⟩
theorem dw_head {e : EntP} {r : List EntP} {f : EntP} {r' : List EntP} (h : r.dropWhile (low e) = f :: r') : hgt e < hgt f := by
  induction r with
  | nil => simp at h
  | cons x r ih =>
    by_cases hx : low e x = true
    · rw [List.dropWhile_cons_of_pos hx] at h; exact ih h
    · rw [List.dropWhile_cons_of_neg hx] at h
      cases h
      simp only [low, decide_eq_true_eq] at hx
      omega
theorem kidsOf_all (n : Nat) : ∀ (es : List EntP), es.length ≤ n → (∀ k ∈ kidsOf es, KidOf es k) ∧ (∀ e r, es = e :: r → ∀ k ∈ kidsOf es, (hgt e : Int) - 1 ≤ k.lvl) ∧ ((kidsOf es).map (·.cnt)).sum = es.length ∧
    (Rises es → (kidsOf es).Pairwise fun a b => a.lvl < b.lvl ∧ cmpB a.key b.key < 0) := by
  induction n with
  | zero =>
    intro es h
    have : es = [] := List.eq_nil_of_length_eq_zero (by omega)
    subst this
    rw [kidsOf_nil]
    exact ⟨fun k hk => (nomatch hk), fun e r h => (nomatch h), rfl, fun _ => List.Pairwise.nil⟩
  | succ n ih =>
    intro es h
    cases es with
    | nil =>
      rw [kidsOf_nil]
      exact ⟨fun k hk => (nomatch hk), fun e r h => (nomatch h), rfl, fun _ => List.Pairwise.nil⟩
    | cons e r =>
      have hd := dw_le (low e) r
      have htd := List.takeWhile_append_dropWhile (p := low e) (l := r)
      simp only [List.length_cons] at h
      obtain ⟨i1, i2, i3, i4⟩ := ih (r.dropWhile (low e)) (by omega)
      have hlo := hgt_lo e
      have hhi := hgt_hi e
      have hsub : ∀ f ∈ r.dropWhile (low e), f ∈ e :: r := fun f hf => List.mem_cons_of_mem _ ((List.dropWhile_sublist _).subset hf)
      have hup : ∀ k ∈ kidsOf (r.dropWhile (low e)), (hgt e : Int) - 1 < k.lvl := by
        intro k hk
        cases hdr : r.dropWhile (low e) with
        | nil => rw [hdr, kidsOf_nil] at hk; cases hk
        | cons f r' =>
          have h1 := dw_head hdr
          have h2 := i2 f r' hdr k hk
          omega
      rw [kidsOf_cons]
      refine ⟨?_, ?_, ?_, ?_⟩
      · intro k hk
        rcases List.mem_cons.1 hk with rfl | hk
        · exact ⟨⟨by show 0 ≤ (hgt e : Int) - 1; omega, by show (hgt e : Int) - 1 ≤ 23; omega⟩, by show (hgt e : Int) = (hgt e : Int) - 1 + 1; omega, ⟨e, List.mem_cons_self, rfl⟩, by show 1 ≤ _ + 1; omega⟩
        · exact (i1 k hk).mono hsub
      · intro e' r' he k hk
        cases he
        rcases List.mem_cons.1 hk with rfl | hk
        · exact Int.le_refl _
        · have := hup k hk; omega
      · rw [List.map_cons, List.sum_cons, i3]
        have := congrArg List.length htd
        simp only [List.length_append] at this
        show (r.takeWhile (low e)).length + 1 + _ = r.length + 1
        omega
      · intro hr
        obtain ⟨hr1, hr2⟩ := List.pairwise_cons.1 hr
        refine List.pairwise_cons.2 ⟨fun k hk => ⟨hup k hk, ?_⟩, i4 (hr2.sublist (List.dropWhile_sublist _))⟩
        obtain ⟨f, hf, hkf⟩ := (i1 k hk).mem
        rw [hkf]
        exact hr1 f ((List.dropWhile_sublist _).subset hf)
theorem rises_few : ∀ (ks : List KidP) (lo : Int), (ks.Pairwise fun a b => a.lvl < b.lvl) → (∀ k ∈ ks, lo ≤ k.lvl ∧ k.lvl ≤ 23) → lo ≤ 24 → (ks.length : Int) ≤ 24 - lo
  | [], lo, _, _, h => by simp; omega
  | k :: ks, lo, hp, hb, _ => by
    obtain ⟨h1, h2⟩ := List.pairwise_cons.1 hp
    have hk := hb k List.mem_cons_self
    have := rises_few ks (k.lvl + 1) h2 (fun x hx => ⟨by have := h1 x hx; omega, (hb x (List.mem_cons_of_mem _ hx)).2⟩) (by omega)
    simp only [List.length_cons]
    omega
/-! ### counts -/
def sumC (l : List KidP) : Nat := (l.map (·.cnt)).sum
theorem cntN_sum : ∀ (l : List KidP) (b : Nat), b + sumC l < 18446744073709551616 → cntN b l = b + sumC l
  | [], b, _ => by simp [cntN, sumC]
  | k :: l, b, h => by
    simp only [sumC, List.map_cons, List.sum_cons] at h ⊢
    rw [cntN, Nat.mod_eq_of_lt (by omega), cntN_sum l _ (by unfold sumC; omega)]
    unfold sumC
    exact Nat.add_assoc _ _ _
theorem sumC_rev (l : List KidP) : sumC l.reverse = sumC l := by simp [sumC]
theorem sumC_kids (es : List EntP) : sumC (kidsOf es) = es.length := (kidsOf_all es.length es (Nat.le_refl _)).2.2.1
theorem count_with {t : TowP} {es : List EntP} (h : base t.head + es.length < 18446744073709551616) : (t.with (kidsOf es).reverse).count = base t.head + es.length := by
  unfold TowP.count
  rw [with_head, with_kids, cntN_sum _ _ (by rw [sumC_rev, sumC_kids]; exact h), sumC_rev, sumC_kids]
theorem sumC_take (l : List KidP) {i : Nat} (hi : i < l.length) : sumC (l.take i) + (kidAt l i).cnt ≤ sumC l := by
  have e : l = l.take i ++ (kidAt l i :: l.drop (i + 1)) := by
    have h1 := kidAt_get hi
    rw [List.getElem?_eq_getElem hi] at h1
    rw [← Option.some.inj h1, List.getElem_cons_drop, List.take_append_drop]
  conv => rhs; rw [e]
  simp [sumC]
/-! ### a map's tower is valid -/
/-- the tower of a whole map -/
def mapT (es : List EntP) : TowP := towH.with (kidsOf es).reverse
theorem mapT_kids (es : List EntP) : (mapT es).kids = (kidsOf es).reverse := rfl
theorem mapT_falls {es : List EntP} (h : isMap es) : (mapT es).kids.Pairwise fun a b => b.lvl < a.lvl ∧ cmpB b.key a.key < 0 := by
  rw [mapT_kids, List.pairwise_reverse]
  exact (kidsOf_all es.length es (Nat.le_refl _)).2.2.2 (isMap_rises h)
theorem mapT_kid {es : List EntP} {k : KidP} (h : k ∈ (mapT es).kids) : KidOf es k := (kidsOf_all es.length es (Nat.le_refl _)).1 k (List.mem_reverse.1 h)
theorem mapT_few {es : List EntP} (h : isMap es) : (mapT es).kids.length ≤ 24 := by
  have h1 := (kidsOf_all es.length es (Nat.le_refl _)).2.2.2 (isMap_rises h)
  have := rises_few (kidsOf es) 0 (h1.imp fun h => h.1) (fun k hk => ((kidsOf_all es.length es (Nat.le_refl _)).1 k hk).lvl) (by decide)
  rw [mapT_kids, List.length_reverse]; omega
theorem mapT_valid {es : List EntP} (h : isMap es) (hn : es.length ≤ 4611686018427387904) : validP (mapT es) = 0 := by
  have hhead : (mapT es).head = true := rfl
  have hnb : ¬ ownBad (mapT es) := by
    rw [own_head hhead]
    rintro (hc | hc)
    · exact absurd (show (0 : Int) < ((0 : Nat) : Int) from hc) (by decide)
    · exact hc ⟨rfl, rfl⟩
  refine validP_ok hnb (by have := mapT_few h; omega) fun i hi => ?_
  have hfall := mapT_falls h
  have hmem : ∀ j, j < (mapT es).kids.length → kidAt (mapT es).kids j ∈ (mapT es).kids := fun j hj => List.mem_of_getElem? (kidAt_get hj)
  have hki := mapT_kid (hmem i hi)
  have hprev : i = 0 ∨ ((kidAt (mapT es).kids i).lvl < (kidAt (mapT es).kids (i - 1)).lvl ∧ cmpB (kidAt (mapT es).kids i).key (kidAt (mapT es).kids (i - 1)).key < 0) := by
    by_cases h0 : i = 0
    · exact .inl h0
    · right
      rw [List.pairwise_iff_getElem] at hfall
      have := hfall (i - 1) i (by omega) hi (by omega)
      have e1 := kidAt_get hi
      have e2 := kidAt_get (ks := (mapT es).kids) (i := i - 1) (by omega)
      rw [List.getElem?_eq_getElem hi] at e1
      rw [List.getElem?_eq_getElem (by omega)] at e2
      rw [Option.some.inj e1, Option.some.inj e2] at this
      exact this
  obtain ⟨e, he, hke⟩ := hki.mem
  have hsz := isMap_sizes h e he
  have hsum := sumC_take (mapT es).kids hi
  have htot : sumC (mapT es).kids = es.length := by rw [mapT_kids, sumC_rev, sumC_kids]
  have hcn : cntN (base (mapT es).head) ((mapT es).kids.take i) = sumC ((mapT es).kids.take i) := by
    have hb : base (mapT es).head = 0 := rfl
    rw [hb, cntN_sum _ _ (by omega), Nat.zero_add]
  have hc1 := hki.cnt
  refine ⟨⟨⟨hki.lvl.1, by rw [top_head hhead]; exact hki.lvl.2⟩, hprev.imp id (·.1)⟩, ⟨by rw [hke]; exact hsz.1, hki.hei⟩, ⟨.inl hhead, hprev.imp id (·.2)⟩, by omega, by omega, ?_⟩
  rw [hcn]; omega
/-! ### labels level by level -/
def stepL (lv : Int) (s : List UInt8) (k : KidP) : List UInt8 := if k.lvl = lv then pairK k s else s
def belowL (ks : List KidP) (o : List UInt8) (lv : Int) : List UInt8 := ks.foldr (fun k s => if decide (k.lvl < lv) then pairK k s else s) o
theorem below_eq (t : TowP) (lv : Int) : labP (fun k => decide (k.lvl < lv)) t 0 = belowL t.kids (ownL t) lv := rfl
theorem belowL_all : ∀ {ks : List KidP} {o : List UInt8} {lv lw : Int}, (∀ k ∈ ks, k.lvl < lv) → (∀ k ∈ ks, k.lvl < lw) → belowL ks o lv = belowL ks o lw
  | [], _, _, _, _, _ => rfl
  | k :: ks, o, lv, lw, h1, h2 => by
    have ih := belowL_all (o := o) (fun x hx => h1 x (List.mem_cons_of_mem _ hx)) (fun x hx => h2 x (List.mem_cons_of_mem _ hx))
    have a := h1 k List.mem_cons_self
    have b := h2 k List.mem_cons_self
    simp only [belowL, List.foldr_cons, a, b, decide_true, if_true] at ih ⊢
    rw [ih]
theorem steps_none : ∀ {ks : List KidP} {s : List UInt8} {lv : Int}, (∀ k ∈ ks, k.lvl ≠ lv) → ks.foldl (stepL lv) s = s
  | [], _, _, _ => rfl
  | k :: ks, s, lv, h => by
    rw [List.foldl_cons, stepL, if_neg (h k List.mem_cons_self)]
    exact steps_none fun x hx => h x (List.mem_cons_of_mem _ hx)
theorem below_step : ∀ {ks : List KidP} {o : List UInt8} {lv : Int}, (ks.Pairwise fun a b => b.lvl < a.lvl) → ks.foldl (stepL lv) (belowL ks o lv) = belowL ks o (lv + 1)
  | [], _, _, _ => rfl
  | k :: ks, o, lv, hp => by
    obtain ⟨h1, h2⟩ := List.pairwise_cons.1 hp
    have ih := below_step (o := o) (lv := lv) h2
    rw [List.foldl_cons]
    rcases Int.lt_trichotomy k.lvl lv with hlt | heq | hgt
    · -- below: all are
      have hall : ∀ x ∈ k :: ks, x.lvl < lv := fun x hx => by
        rcases List.mem_cons.1 hx with rfl | hx
        · exact hlt
        · have := h1 x hx; omega
      rw [stepL, if_neg (by omega), steps_none (fun x hx => by have := hall x (List.mem_cons_of_mem _ hx); omega)]
      exact belowL_all hall (fun x hx => by have := hall x hx; omega)
    · have hall : ∀ x ∈ ks, x.lvl < lv := fun x hx => by have := h1 x hx; omega
      have e1 : belowL (k :: ks) o lv = belowL ks o lv := by
        simp only [belowL, List.foldr_cons]
        rw [if_neg (by simp; omega)]
      have e2 : belowL (k :: ks) o (lv + 1) = pairK k (belowL ks o (lv + 1)) := by
        simp only [belowL, List.foldr_cons]
        rw [if_pos (by simp; omega)]
      rw [stepL, if_pos heq, steps_none (fun x hx => by have := hall x hx; omega), e1, e2, belowL_all (lw := lv + 1) hall (fun x hx => by have := hall x hx; omega)]
    · have e1 : belowL (k :: ks) o lv = belowL ks o lv := by
        simp only [belowL, List.foldr_cons]
        rw [if_neg (by simp; omega)]
      have e2 : belowL (k :: ks) o (lv + 1) = belowL ks o (lv + 1) := by
        simp only [belowL, List.foldr_cons]
        rw [if_neg (by simp; omega)]
      rw [stepL, if_neg (by omega), e1, e2]
      exact ih
theorem below_none {ks : List KidP} {o : List UInt8} {lv : Int} (h : ∀ k ∈ ks, lv ≤ k.lvl) : belowL ks o lv = o := by
  induction ks with
  | nil => rfl
  | cons k ks ih =>
    have := h k List.mem_cons_self
    have ih := ih fun x hx => h x (List.mem_cons_of_mem _ hx)
    simp only [belowL, List.foldr_cons] at ih ⊢
    rw [if_neg (by simp; omega), ih]
theorem below_zero {es : List EntP} : labP (fun k => decide (k.lvl < 0)) (mapT es) 0 = ownL (mapT es) := by
  rw [below_eq, below_none fun k hk => (mapT_kid hk).lvl.1]
theorem below_top {es : List EntP} : labP (fun k => decide (k.lvl < 24)) (mapT es) 0 = labP (fun _ => true) (mapT es) 0 := by
  rw [below_eq, lab_true]
  have h : ∀ k ∈ (mapT es).kids, k.lvl < 24 := fun k hk => by have := (mapT_kid hk).lvl; omega
  unfold belowL
  revert h
  generalize (mapT es).kids = ks
  intro h
  induction ks with
  | nil => rfl
  | cons k ks ih =>
    simp only [List.foldr_cons]
    rw [ih fun x hx => h x (List.mem_cons_of_mem _ hx), if_pos (by simpa using h k List.mem_cons_self)]
theorem below_next {es : List EntP} (h : isMap es) (lv : Int) : (mapT es).kids.foldl (stepL lv) (labP (fun k => decide (k.lvl < lv)) (mapT es) 0) = labP (fun k => decide (k.lvl < lv + 1)) (mapT es) 0 := by
  rw [below_eq, below_eq]
  exact below_step ((mapT_falls h).imp fun h => h.1)
theorem mapT_label (es : List EntP) : labP (fun _ => true) (mapT es) 0 = hangL (sha headText) es := lab_hang towH es
theorem mapT_count {es : List EntP} (h : es.length < 18446744073709551616) : (mapT es).count = es.length := by
  have := count_with (t := towH) (es := es) (by show 0 + _ < _; omega)
  rw [mapT, this]; show 0 + _ = _; omega
end Go.Own
