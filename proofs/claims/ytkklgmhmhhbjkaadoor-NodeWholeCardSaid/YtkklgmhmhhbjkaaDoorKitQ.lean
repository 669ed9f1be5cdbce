/-
  OWN LIBRARY, part 17: kids of a tower, one by one; what a walk over the kids knows; copies of towers.
-/
import Derived.Test.YtkklgmhmhhbjkaaDoorKitP
namespace Go.Own
open Go
def vkAt (l : List Value) (i : Nat) : Value := l.getD i nilS
section kids
variable {hf : Hp} {ks : List KidP} {v : Value} {kvs : List Value} {i : Nat}
theorem kidAt_get (hi : i < ks.length) : ks[i]? = some (kidAt ks i) := by simp [kidAt, List.getD, hi]
theorem vkAt_get (hi : i < kvs.length) : kvs[i]? = some (vkAt kvs i) := by simp [vkAt, List.getD, hi]
theorem KidsOk.ok (h : KidsOk hf ks v kvs) (hi : i < ks.length) : ((kidAt ks i).at (vkAt kvs i)).Ok hf (kidAt ks i).key :=
  h.each i _ _ (kidAt_get hi) (vkAt_get (by rw [h.len]; exact hi))
theorem KidsOk.cellsAt (h : KidsOk hf ks v kvs) (hi : i < ks.length) : ((kcells ks kvs).drop (i * 68)).take 68 = ((kidAt ks i).at (vkAt kvs i)).cells :=
  kcells_at i h.each (kidAt_get hi) (vkAt_get (by rw [h.len]; exact hi))
theorem KidsOk.cels {S : World} {L : Res} (h : KidsOk hf ks v kvs) (hi : i < ks.length) : Cels S hf L (sBlk v) (sOff v + i * 68) ((kidAt ks i).at (vkAt kvs i)).cells := h.sl.cels (h.cellsAt hi)
theorem KidP.one {p : KidP} {u : Value} (h : (p.at u).Ok hf p.key) : ∀ x ∈ (p.at u).cells, x.oneCell' = true := h.one
theorem cntN_at (b : Nat) (hi : i < ks.length) : cntN b (ks.take (i + 1)) = (cntN b (ks.take i) + (kidAt ks i).cnt) % 18446744073709551616 := cntN_take b (kidAt_get hi)
theorem u64_addN (a b c : Nat) (h : c = (a + b) % 18446744073709551616) : IntKind.u64.wrap ((a : Int) + (b : Int)) = (c : Int) := by
  rw [← Int.natCast_add, wrap_u64_nat, h]
end kids

theorem top_hi (t : TowP) : t.top ≤ 23 := by
  unfold TowP.top
  have := height_hi t.key
  split <;> omega
theorem kidOk_prog {t : TowP} {i : Nat} {tp : Int} {ab : List UInt8} (htp : (i = 0 ∧ tp = t.top) ∨ (0 < i ∧ tp = (kidAt t.kids (i - 1)).lvl - 1)) (htop : 0 < i → (kidAt t.kids (i - 1)).lvl ≤ t.top) (hab : i = 0 ∨ ab = (kidAt t.kids (i - 1)).key) :
    kidOk t i ↔ (¬ ((((kidAt t.kids i).lvl < 0 ∨ tp < (kidAt t.kids i).lvl) ∨ (1024 : Int) < ((kidAt t.kids i).key.length : Int)) ∨ (height (kidAt t.kids i).key : Int) ≠ (kidAt t.kids i).lvl + 1)
      ∧ ¬ ((t.head = false ∧ cmpB (kidAt t.kids i).key t.key ≤ 0) ∨ ((0 : Int) < (i : Int) ∧ 0 ≤ cmpB (kidAt t.kids i).key ab))
      ∧ ¬ ((((kidAt t.kids i).cnt : Int) = 0 ∨ (4611686018427387904 : Int) < ((kidAt t.kids i).cnt : Int)) ∨ ((4611686018427387904 - (kidAt t.kids i).cnt : Nat) : Int) < (cntN (base t.head) (t.kids.take i) : Int))) := by
  unfold kidOk lvlOk heiOk ordOk cntOk
  have hh : t.head = true ↔ ¬ t.head = false := by cases t.head <;> simp
  rw [hh]
  generalize kidAt t.kids i = p at *
  generalize kidAt t.kids (i - 1) = q at *
  generalize cntN (base t.head) (t.kids.take i) = c at *
  rcases hab with rfl | rfl
  · have h0 : ¬ (0 : Int) < ((0 : Nat) : Int) := by omega
    simp only [h0, false_and, or_false, true_or, and_true]
    constructor
    · rintro ⟨h1, h2, h3, h4⟩
      refine ⟨by omega, ?_, by omega⟩
      rintro ⟨a, b⟩
      rcases h3 with h3 | h3
      · exact h3 a
      · omega
    · rintro ⟨h1, h3, h4⟩
      refine ⟨by omega, by omega, ?_, by omega⟩
      by_cases hd : t.head = false
      · exact .inr (by have : ¬ cmpB p.key t.key ≤ 0 := fun hc => h3 ⟨hd, hc⟩
                       omega)
      · exact .inl hd
  · constructor
    · rintro ⟨h1, h2, ⟨h3, h5⟩, h4⟩
      refine ⟨by omega, ?_, by omega⟩
      rintro (⟨a, b⟩ | ⟨a, b⟩)
      · rcases h3 with h3 | h3
        · exact h3 a
        · omega
      · omega
    · rintro ⟨h1, h3, h4⟩
      refine ⟨by omega, by omega, ⟨?_, ?_⟩, by omega⟩
      · by_cases hd : t.head = false
        · exact .inr (by have : ¬ cmpB p.key t.key ≤ 0 := fun hc => h3 (.inl ⟨hd, hc⟩)
                         omega)
        · exact .inl hd
      · by_cases h0 : i = 0
        · exact .inl h0
        · exact .inr (by have : ¬ (0 ≤ cmpB p.key q.key) := fun hc => h3 (.inr ⟨by omega, hc⟩)
                         omega)
theorem kidOk_ref {t : TowP} {i : Nat} :
    kidOk t i ↔ (¬ (((kidAt t.kids i).lvl < 0 ∨ t.top < (kidAt t.kids i).lvl) ∨ ((0 : Int) < (i : Int) ∧ (kidAt t.kids (i - 1)).lvl ≤ (kidAt t.kids i).lvl))
      ∧ ¬ ((1024 : Int) < ((kidAt t.kids i).key.length : Int) ∨ (height (kidAt t.kids i).key : Int) ≠ (kidAt t.kids i).lvl + 1)
      ∧ ¬ ((t.head = false ∧ cmpB (kidAt t.kids i).key t.key ≤ 0) ∨ ((0 : Int) < (i : Int) ∧ 0 ≤ cmpB (kidAt t.kids i).key (kidAt t.kids (i - 1)).key))
      ∧ ¬ ((((kidAt t.kids i).cnt : Int) = 0 ∨ (4611686018427387904 : Int) < ((kidAt t.kids i).cnt : Int)) ∨ ((4611686018427387904 - (kidAt t.kids i).cnt : Nat) : Int) < (cntN (base t.head) (t.kids.take i) : Int))) := by
  unfold kidOk lvlOk heiOk ordOk cntOk
  have hh : t.head = true ↔ ¬ t.head = false := by cases t.head <;> simp
  rw [hh]
  generalize kidAt t.kids i = p at *
  generalize kidAt t.kids (i - 1) = q at *
  generalize cntN (base t.head) (t.kids.take i) = c at *
  constructor
  · rintro ⟨h1, h2, ⟨h3, h5⟩, h4⟩
    refine ⟨by omega, by omega, ?_, by omega⟩
    rintro (⟨a, b⟩ | ⟨a, b⟩)
    · rcases h3 with h3 | h3
      · exact h3 a
      · omega
    · omega
  · rintro ⟨h1, h2, h3, h4⟩
    refine ⟨by omega, by omega, ⟨?_, ?_⟩, by omega⟩
    · by_cases hd : t.head = false
      · exact .inr (by have : ¬ cmpB p.key t.key ≤ 0 := fun hc => h3 (.inl ⟨hd, hc⟩)
                       omega)
      · exact .inl hd
    · by_cases h0 : i = 0
      · exact .inl h0
      · exact .inr (by have : ¬ (0 ≤ cmpB p.key q.key) := fun hc => h3 (.inr ⟨by omega, hc⟩)
                       omega)
theorem kidOk_lvl {t : TowP} {i : Nat} (h : kidOk t i) : 0 ≤ (kidAt t.kids i).lvl ∧ (kidAt t.kids i).lvl ≤ t.top := h.1.1

/-! ### copies -/
def Keys (Lk : Res) (ks : List KidP) (kvs : List Value) (k0 : Value) (key : List UInt8) : Prop :=
  kvs.length = ks.length ∧ ∀ hf' : Hp, (∀ b o, (b, o) ∈ Lk → hf' b = some o) → Byts hf' k0 key ∧ ∀ (i : Nat) (p : KidP) (u : Value), ks[i]? = some p → kvs[i]? = some u → Byts hf' u p.key
theorem byts_block {hf : Hp} {b : Nat} {T : TypeId} {l : List UInt8} (h : hf b = some (row T (l.map B))) (hl : l.length ≤ maxLen) : Byts hf (slc b 0 l.length l.length) l :=
  Sl.row h (by simp [List.take_of_length_le]) (by simp) (Nat.le_refl _) hl
theorem Keys.first {b : Nat} {T : TypeId} {key : List UInt8} (hl : key.length ≤ maxLen) : Keys [(b, row T (key.map B))] [] [] (slc b 0 key.length key.length) key :=
  ⟨rfl, fun _ h => ⟨byts_block (h b _ (List.mem_singleton.2 rfl)) hl, fun i p u hp _ => by simp at hp⟩⟩
theorem Keys.next {Lk : Res} {ks : List KidP} {kvs : List Value} {k0 : Value} {key : List UInt8} {b : Nat} {T : TypeId} {p : KidP} (h : Keys Lk ks kvs k0 key) (hl : p.key.length ≤ maxLen) :
    Keys ((b, row T (p.key.map B)) :: Lk) (ks ++ [p]) (kvs ++ [slc b 0 p.key.length p.key.length]) k0 key := by
  refine ⟨by simp [h.1], fun hf' hh => ?_⟩
  obtain ⟨h1, h2⟩ := h.2 hf' (fun b o m => hh b o (List.mem_cons_of_mem _ m))
  refine ⟨h1, fun i q u hq hu => ?_⟩
  by_cases hi : i < ks.length
  · rw [List.getElem?_append_left hi] at hq
    rw [List.getElem?_append_left (by rw [h.1]; exact hi)] at hu
    exact h2 i q u hq hu
  · have hi2 : i < (ks ++ [p]).length := (List.getElem?_eq_some_iff.1 hq).1
    have : i = ks.length := by simp at hi2; omega
    subst this
    rw [List.getElem?_append_right (Nat.le_refl _)] at hq
    rw [← h.1, List.getElem?_append_right (Nat.le_refl _)] at hu
    simp at hq hu
    subst hq hu
    exact byts_block (hh b _ List.mem_cons_self) hl
/-- a copy is done -/
theorem TowOk.copied {hf : Hp} {t : TowP} {x : TowV} {Lk Lv : Res} {kvs : List Value} {k0 v : Value} {T : TypeId} (h : TowOk hf t x) (hk : Keys Lk t.kids kvs k0 t.key) (hv : Vec T 68 v t.kids.length (kcells t.kids kvs) Lv) :
    ∀ hf' : Hp, (∀ b o, (b, o) ∈ Lk ++ Lv → hf' b = some o) → TowOk hf' t ⟨k0, v, kvs⟩ := fun hf' hh => by
  obtain ⟨h1, h2⟩ := hk.2 hf' (fun b o m => hh b o (List.mem_append_left _ m))
  refine ⟨h.sum, h1, hv.sl (fun b o m => hh b o (List.mem_append_right _ m)), hk.1, fun i p u hp hu => ?_⟩
  have hi : i < t.kids.length := (List.getElem?_eq_some_iff.1 hp).1
  have hi2 : i < x.kvs.length := by rw [h.kids.len]; exact hi
  have := h.kids.each i p _ hp (List.getElem?_eq_getElem hi2)
  exact ⟨this.sum, this.label, this.cnt, this.lvl, h2 i p u hp hu⟩
section pick
variable {S : World} {hf : Hp} {A R xs : Res} {n : Nat} {E : List (Nat × Value)} {a : Act} {w : World}
theorem St.pickL (h : St S hf (A ++ R) n E a w) (is : List Nat) (hd : is.Nodup) (hx : is.map (A[·]?) = xs.map some) : St S hf (xs ++ R) n E a w := by
  refine h.pick (is ++ (List.range' A.length R.length)) ?_ ?_
  · rw [List.nodup_append]
    refine ⟨hd, List.nodup_range', fun i hi j hj => ?_⟩
    have h1 : A[i]? ∈ xs.map some := by rw [← hx]; exact List.mem_map.2 ⟨i, hi, rfl⟩
    obtain ⟨y, _, hy⟩ := List.mem_map.1 h1
    have : i < A.length := (List.getElem?_eq_some_iff.1 hy.symm).1
    have := List.mem_range'_1.1 hj
    omega
  · rw [List.map_append, List.map_append, ← hx]
    congr 1
    · apply List.map_congr_left
      intro i hi
      have h1 : A[i]? ∈ xs.map some := by rw [← hx]; exact List.mem_map.2 ⟨i, hi, rfl⟩
      obtain ⟨y, _, hy⟩ := List.mem_map.1 h1
      exact List.getElem?_append_left (List.getElem?_eq_some_iff.1 hy.symm).1
    · apply List.ext_getElem?
      intro j
      simp only [List.getElem?_map]
      by_cases hj : j < R.length
      · rw [List.getElem?_range' hj, List.getElem?_eq_getElem hj]
        simp only [Option.map_some]
        rw [List.getElem?_append_right (by omega)]
        simp only [Nat.one_mul, Nat.add_sub_cancel_left, List.getElem?_eq_getElem hj]
      · rw [List.getElem?_eq_none (by simp; omega), List.getElem?_eq_none (by omega)]
        rfl
end pick
theorem rekeyAt {p : KidP} {u u' : Value} : (p.at u).cells.set 1 u' = (p.at u').cells := rfl
theorem kids_set {t : TowP} {k0 v v' : Value} {kvs : List Value} (hs : t.sum.length = 32) : (t.cells ⟨k0, v, kvs⟩).set 35 v' = t.cells ⟨k0, v', kvs⟩ := by
  show _ :: _ :: (t.sum.map B ++ (B t.nth :: [v])).set 33 v' = _
  rw [List.set_append_right _ _ (by simp [hs])]
  simp [hs, TowP.cells]
theorem cells_kvs {t : TowP} {k0 v : Value} {kvs kvs' : List Value} : t.cells ⟨k0, v, kvs⟩ = t.cells ⟨k0, v, kvs'⟩ := rfl
theorem kidAddrAt {hf : Hp} {k : KidV} {kb : List UInt8} (h : k.Ok hf kb) : (k.cells.drop 3).take (addrC k.sum k.nth).length = addrC k.sum k.nth := by
  show (k.sum.map B ++ (B k.nth :: k.label.map B)).take _ = _
  rw [show k.sum.map B ++ (B k.nth :: k.label.map B) = addrC k.sum k.nth ++ k.label.map B by simp [addrC]]
  rw [List.take_left' rfl]
theorem towSumAt {hf : Hp} {t : TowP} {x : TowV} (_h : TowOk hf t x) : ((t.cells x).drop 2).take (t.sum.map B).length = t.sum.map B := by
  show (t.sum.map B ++ (B t.nth :: [x.kids])).take _ = _
  rw [List.take_left' rfl]
theorem Sl.one {hf : Hp} {s n : Nat} {v : Value} {cs : List Value} (h : Sl hf s v n cs) : v.oneCell' = true := by
  obtain ⟨a, c, e⟩ := h.shape
  rw [e]; rfl
theorem TowOk.one {hf : Hp} {t : TowP} {x : TowV} (h : TowOk hf t x) : ∀ u ∈ t.cells x, u.oneCell' = true := by
  intro u hu
  simp only [TowP.cells, List.mem_cons, List.mem_append, List.mem_map, List.not_mem_nil, or_false] at hu
  rcases hu with rfl | rfl | ⟨y, _, rfl⟩ | rfl | rfl
  · rfl
  · exact h.key.one
  · rfl
  · rfl
  · exact h.kids.sl.one
theorem kid_len {hf : Hp} {p : KidP} {u : Value} {kb : List UInt8} (h : (p.at u).Ok hf kb) (u' : Value) : (p.at u').cells.length = 68 := h.length
theorem kid_one {hf : Hp} {p : KidP} {u : Value} {kb : List UInt8} (h : (p.at u).Ok hf kb) {u' : Value} (hu : u'.oneCell' = true) : ∀ x ∈ (p.at u').cells, x.oneCell' = true := by
  intro x hx
  simp only [KidV.cells, KidP.at, List.mem_cons, List.mem_append, List.mem_map] at hx
  rcases hx with rfl | rfl | rfl | ⟨y, _, rfl⟩ | rfl | ⟨y, _, rfl⟩ <;> first | rfl | exact hu
theorem all_succ {φ : Nat → Prop} {i : Nat} (h : ∀ j, j < i → φ j) (h2 : φ i) : ∀ j, j < i + 1 → φ j := fun j hj => by
  by_cases e : j = i
  · subst e; exact h2
  · exact h j (by omega)
theorem own_head {t : TowP} (h : t.head = true) : ownBad t ↔ ((0 : Int) < (t.key.length : Int) ∨ ¬ (t.sum = zeroS ∧ t.nth = 0)) := by
  unfold ownBad
  rw [h]
  simp only [true_and, Bool.true_eq_false, false_and, or_false]
  constructor
  · rintro (h | h)
    · exact .inl (by omega)
    · exact .inr h
  · rintro (h | h)
    · exact .inl (by omega)
    · exact .inr h
theorem own_tail {t : TowP} (h : t.head = false) : ownBad t ↔ (1024 : Int) < (t.key.length : Int) := by
  unfold ownBad
  rw [h]
  simp only [true_and, Bool.false_eq_true, false_and, false_or]
  omega
theorem own_ref {t : TowP} : ownBad t ↔ ((t.head = true ∧ ((0 : Int) < (t.key.length : Int) ∨ ¬ (t.sum = zeroS ∧ t.nth = 0))) ∨ (t.head = false ∧ (1024 : Int) < (t.key.length : Int))) := by
  cases h : t.head
  · rw [own_tail h]; simp
  · rw [own_head h]; simp
theorem own_len {t : TowP} (h : ¬ ownBad t) (h2 : t.head = false) : t.key.length ≤ 1024 := by
  rw [own_tail h2] at h; omega
theorem validP_71 {t : TowP} (h : ¬ ownBad t) (h2 : (24 : Int) < (t.kids.length : Int) ∨ ¬ kidsOk t) : validP t = 71 := by
  rcases h2 with h2 | h2
  · exact validP_many h (by omega)
  · exact validP_kids h h2
theorem validP_0 {t : TowP} (h : ¬ ownBad t) (h2 : ¬ ((24 : Int) < (t.kids.length : Int) ∨ ¬ kidsOk t)) : validP t = 0 :=
  validP_ok h (fun h3 => h2 (.inl (by omega))) (Decidable.byContradiction fun h3 => h2 (.inr h3))
theorem top_head {t : TowP} (h : t.head = true) : t.top = 23 := by simp [TowP.top, h]
theorem top_tail {t : TowP} (h : t.head = false) : t.top = (height t.key : Int) - 1 := by simp [TowP.top, h]
theorem base_head {t : TowP} (h : t.head = true) : base t.head = 0 := by simp [base, h]
theorem base_tail {t : TowP} (h : t.head = false) : base t.head = 1 := by simp [base, h]
theorem tow0 {hf : Hp} (b : Bool) : TowOk hf (⟨b, [], zeroS, 0, []⟩ : TowP) ⟨nilS, nilS, []⟩ := ⟨rfl, Sl.nil, ⟨Sl.nil, rfl, fun i p u h _ => by simp at h⟩⟩
theorem TowOk.many {hf : Hp} {t : TowP} {x : TowV} (h : TowOk hf t x) : t.kids.length ≤ 9223372036854775807 := h.kids.sl.len_le
theorem tow_len {t : TowP} {x : TowV} (hs : t.sum.length = 32) : (t.cells x).length = 36 := by simp [TowP.cells, hs]
theorem tow_one {t : TowP} {x : TowV} (h1 : x.key.oneCell' = true) (h2 : x.kids.oneCell' = true) : ∀ u ∈ t.cells x, u.oneCell' = true := by
  intro u hu
  simp only [TowP.cells, List.mem_cons, List.mem_append, List.mem_map, List.not_mem_nil, or_false] at hu
  rcases hu with rfl | rfl | ⟨y, _, rfl⟩ | rfl | rfl
  · rfl
  · exact h1
  · rfl
  · rfl
  · exact h2
theorem tow_kidsAt {t : TowP} {x : TowV} (hs : t.sum.length = 32) : (t.cells x)[35]? = some x.kids := by
  show (t.sum.map B ++ (B t.nth :: [x.kids]))[33]? = _
  rw [List.getElem?_append_right (by simp [hs])]
  simp [hs]
theorem tow_fill {t : TowP} {k v : Value} {kvs : List Value} {zs : List Value} (_hs : t.sum.length = 32) (hz : zs.length = 33 := by rfl) : ((Value.bool t.head :: k :: (zs ++ [v])).take 2) ++ addrC t.sum t.nth ++ ((Value.bool t.head :: k :: (zs ++ [v])).drop (2 + 33)) = t.cells ⟨k, v, kvs⟩ := by
  have e : (Value.bool t.head :: k :: (zs ++ [v])).drop (2 + 33) = [v] := by
    rw [show 2 + 33 = 33 + 2 by rfl, List.drop_succ_cons, List.drop_succ_cons, List.drop_left' hz]
  rw [e]
  simp [TowP.cells, addrC]
theorem tow_filled {t : TowP} {k : Value} {kvs : List Value} {z : List Value} (hs : t.sum.length = 32) (hk : k.cells.toList = [k]) (hz : z = (⟨false, [], zeroS, 0, []⟩ : TowP).cells ⟨nilS, nilS, []⟩) :
    FillR [(0, 1), (1, 1), (2, 33), (35, 1)] z [(0, .bool t.head), (1, k), (2, .agg (addrC t.sum t.nth).toArray)] (t.cells ⟨k, nilS, kvs⟩) := by
  subst hz
  refine FillR.cons (cs' := .bool t.head :: nilS :: (zeroS.map B ++ [B 0] ++ [nilS])) (vc := [.bool t.head]) rfl rfl rfl (by decide) (by simp [TowP.cells]) ?_
  refine FillR.cons (cs' := .bool t.head :: k :: (zeroS.map B ++ [B 0] ++ [nilS])) (vc := [k]) rfl hk rfl (by simp [zeroS]) (by simp) ?_
  exact FillR.cons (vc := addrC t.sum t.nth) rfl rfl (addrC_length _ _ hs) (by simp [zeroS]) (tow_fill hs (by simp [zeroS])) FillR.nil
theorem vec_one {T : TypeId} {s : Nat} {v : Value} {n : Nat} {xs : List Value} {L : Res} (h : Vec T s v n xs L) : v.cells.toList = [v] ∧ v.oneCell' = true := by
  rcases h.2 with ⟨rfl, _⟩ | ⟨b, cap, rest, rfl, _⟩ <;> exact ⟨rfl, rfl⟩
theorem take_next {ks : List KidP} {i : Nat} (hi : i < ks.length) : ks.take (i + 1) = ks.take i ++ [kidAt ks i] := by
  rw [List.take_add_one, kidAt_get hi]; rfl
section undefs
variable {P : Program} {ops : Array Oper} {Q : Exit → Act → World → Prop} {rest l : List Oper} {S : World} {hf : Hp} {L : Res} {n : Nat} {E : List (Nat × Value)} {a : Act} {w : World}
  {op : Op} {ty : TypeId} {pos : String} {after : Array Edge} {d : Nat}
theorem env_yieldedU {j t : Nat} {o : Oper} (hj : ops[j]? = some o) (hd : o.dst = some t) (h : Env a n E) (hb : look E t = some undef) : Go.yielded ops a.tmps j = none := by
  simp [Go.yielded, hj, hd, h.get t _ hb, undef]
/-- a guarded operation whose guard was passed over itself -/
theorem stepSkipU {j t : Nat} {want : Bool} {o : Oper} (hj : ops[j]? = some o) (hdst : o.dst = some t) (hb : look E t = some undef) (h : St S hf L n E a w) (hd : Nat.blt d n = true)
    (k : ∀ a w, St S hf L n ((d, undef) :: E) a w → wpList P ops Q rest a w) : wpList P ops Q (⟨some d, op, ty, pos, after, some (j, want)⟩ :: rest) a w := by
  have hy := env_yieldedU hj hdst h.env hb
  unfold wpList
  rw [if_neg (by simp only [Region.wanted, hy]; intro e; cases e)]
  exact k _ _ ⟨h.env.put hd _, h.own⟩
theorem stepQSkipU {QQ : Act → Prop} {j t : Nat} {want : Bool} {o : Oper} (hj : ops[j]? = some o) (hdst : o.dst = some t) (hb : look E t = some undef) (henv : Env a n E) (hd : Nat.blt d n = true)
    (k : ∀ a, Env a n ((d, undef) :: E) → wpQuiet P ops (Owns S hf L) QQ l a) : wpQuiet P ops (Owns S hf L) QQ (⟨some d, op, ty, pos, after, some (j, want)⟩ :: l) a := by
  have hy := env_yieldedU hj hdst henv hb
  unfold wpQuiet
  rw [if_neg (by simp only [Region.wanted, hy]; intro e; cases e)]
  exact k _ (henv.put hd _)
theorem any_skipU {fuel i j t : Nat} {listed : Array Bool} {want : Bool} {o : Oper} (hi : l[i]? = some ⟨some d, op, ty, pos, after, some (j, want)⟩) (hok : takeOk l listed i = true)
    (hQ : ∀ c a w v, Q (.panic c) (a.put (some d) v) w → Q (.panic c) a w) (h : St S hf L n E a w) (hd : Nat.blt d n = true)
    (hj : l[j]? = some o) (hdst : o.dst = some t) (hb : look E t = some undef)
    (k : ∀ a, St S hf L n ((d, undef) :: E) a w → wpAnyH P .any l.toArray Q (Owns S hf []) fuel (listed.setIfInBounds i true) a w) :
    wpAnyH P .any l.toArray Q (Owns S hf []) (fuel + 1) listed a w := by
  simp only [takeOk, Bool.and_eq_true] at hok
  have hy := env_yieldedU (ops := l.toArray) (by simpa using hj) hdst h.env hb
  exact wpAnyH_take (by simpa using hi) hok.1.1 hok.1.2 hok.2 (fun c a w => hQ c a w undef)
    (.inr ⟨(by simp only [Region.wanted, hy]; cases want <;> rfl), rfl⟩) h.own.bare (k _ ⟨h.env.put hd undef, h.own⟩)
end undefs
end Go.Own
