/-
  OWN LIBRARY, part 16: towers: plain, and as values; counts; what is valid; addresses compared; byte texts compared by the library's own routine.
-/
import Derived.Test.YtkklgmhmhhbjkaaDoorKitO
import Derived.Lib.Bytealg
import Derived.Laws.Externs
namespace Go.Own
open Go

/-- a kid, plainly -/
structure KidP where
  lvl : Int
  key : List UInt8
  cnt : Nat
  sum : List UInt8
  nth : UInt8
  label : List UInt8
deriving Inhabited
/-- .. with its key as a value -/
def KidP.at (p : KidP) (v : Value) : KidV := ⟨p.lvl, v, p.cnt, p.sum, p.nth, p.label⟩
@[simp] theorem KidP.at_lvl (p : KidP) (v : Value) : (p.at v).lvl = p.lvl := rfl
@[simp] theorem KidP.at_key (p : KidP) (v : Value) : (p.at v).key = v := rfl
@[simp] theorem KidP.at_cnt (p : KidP) (v : Value) : (p.at v).cnt = p.cnt := rfl
@[simp] theorem KidP.at_sum (p : KidP) (v : Value) : (p.at v).sum = p.sum := rfl
@[simp] theorem KidP.at_nth (p : KidP) (v : Value) : (p.at v).nth = p.nth := rfl
@[simp] theorem KidP.at_label (p : KidP) (v : Value) : (p.at v).label = p.label := rfl
theorem KidP.at_rekey (p : KidP) (v u : Value) : (p.at v).rekey u = p.at u := rfl
def KidV.plain (k : KidV) (kb : List UInt8) : KidP := ⟨k.lvl, kb, k.cnt, k.sum, k.nth, k.label⟩
theorem KidV.plain_at (k : KidV) (kb : List UInt8) : (k.plain kb).at k.key = k := rfl
/-- a list of kids as cells -/
def kcells : List KidP → List Value → List Value
  | p :: ps, v :: vs => (p.at v).cells ++ kcells ps vs
  | _, _ => []
structure TowP where
  head : Bool
  key : List UInt8
  sum : List UInt8
  nth : UInt8
  kids : List KidP
/-- the values that a tower's parts have: its key, its list of kids, each kid's key -/
structure TowV where
  key : Value
  kids : Value
  kvs : List Value
def TowP.cells (t : TowP) (x : TowV) : List Value := .bool t.head :: x.key :: (t.sum.map B ++ (B t.nth :: [x.kids]))
abbrev TowP.val (t : TowP) (x : TowV) : Value := .agg (t.cells x).toArray
/-- what is so of a tower's kids -/
structure KidsOk (hf : Hp) (kids : List KidP) (v : Value) (kvs : List Value) : Prop where
  sl : Sl hf 68 v kids.length (kcells kids kvs)
  len : kvs.length = kids.length
  each : ∀ (i : Nat) (p : KidP) (u : Value), kids[i]? = some p → kvs[i]? = some u → (p.at u).Ok hf p.key
structure TowOk (hf : Hp) (t : TowP) (x : TowV) : Prop where
  sum : t.sum.length = 32
  key : Byts hf x.key t.key
  kids : KidsOk hf t.kids x.kids x.kvs
theorem KidsOk.mono {hf hf' : Hp} {ks : List KidP} {v : Value} {kvs : List Value} (h : KidsOk hf ks v kvs) (hle : hf.le hf') : KidsOk hf' ks v kvs := ⟨h.sl.mono hle, h.len, fun i p u h1 h2 => (h.each i p u h1 h2).mono hle⟩
theorem TowOk.mono {hf hf' : Hp} {t : TowP} {x : TowV} (h : TowOk hf t x) (hle : hf.le hf') : TowOk hf' t x := ⟨h.sum, h.key.mono hle, h.kids.mono hle⟩
theorem TowOk.length {hf : Hp} {t : TowP} {x : TowV} (h : TowOk hf t x) : (t.cells x).length = 36 := by simp [TowP.cells, h.sum]
theorem TowOk.kidsAt {hf : Hp} {t : TowP} {x : TowV} (h : TowOk hf t x) : (t.cells x)[35]? = some x.kids := by
  show (t.sum.map B ++ (B t.nth :: [x.kids]))[33]? = _
  rw [List.getElem?_append_right (by simp [h.sum])]
  simp [h.sum]
def addrC (s : List UInt8) (n : UInt8) : List Value := s.map B ++ [B n]
theorem TowOk.addrAt {hf : Hp} {t : TowP} {x : TowV} (h : TowOk hf t x) : ((t.cells x).drop 2).take (addrC t.sum t.nth).length = addrC t.sum t.nth := by
  show (t.sum.map B ++ (B t.nth :: [x.kids])).take _ = _
  rw [show t.sum.map B ++ (B t.nth :: [x.kids]) = addrC t.sum t.nth ++ [x.kids] by simp [addrC]]
  rw [List.take_left' rfl]
theorem addrC_length (s : List UInt8) (n : UInt8) (h : s.length = 32) : (addrC s n).length = 33 := by simp [addrC, h]
theorem kcells_length {hf : Hp} : ∀ {ks : List KidP} {kvs : List Value}, kvs.length = ks.length → (∀ (i : Nat) (p : KidP) (u : Value), ks[i]? = some p → kvs[i]? = some u → (p.at u).Ok hf p.key) → (kcells ks kvs).length = ks.length * 68
  | [], [], _, _ => rfl
  | p :: ks, u :: kvs, hl, h => by
    have h0 := (h 0 p u rfl rfl).length
    have ih := kcells_length (hf := hf) (ks := ks) (kvs := kvs) (by simpa using hl) (fun i p u h1 h2 => h (i + 1) p u (by simpa using h1) (by simpa using h2))
    simp only [kcells, List.length_append, h0, ih, List.length_cons]
    omega
  | [], _ :: _, hl, _ => by simp at hl
  | _ :: _, [], hl, _ => by simp at hl
theorem kcells_at {hf : Hp} : ∀ {ks : List KidP} {kvs : List Value} (i : Nat) {p : KidP} {u : Value}, (∀ (i : Nat) (p : KidP) (u : Value), ks[i]? = some p → kvs[i]? = some u → (p.at u).Ok hf p.key) → ks[i]? = some p → kvs[i]? = some u →
    ((kcells ks kvs).drop (i * 68)).take 68 = (p.at u).cells
  | p :: ks, u :: kvs, 0, _, _, h, h1, h2 => by
    cases h1; cases h2
    have h0 := (h 0 p u rfl rfl).length
    rw [Nat.zero_mul, List.drop_zero, kcells, ← h0, List.take_left' rfl]
  | p :: ks, u :: kvs, i + 1, _, _, h, h1, h2 => by
    have h0 := (h 0 p u rfl rfl).length
    have ih := kcells_at (hf := hf) (ks := ks) (kvs := kvs) i (fun i p u h1 h2 => h (i + 1) p u (by simpa using h1) (by simpa using h2)) (by simpa using h1) (by simpa using h2)
    rw [kcells, show (i + 1) * 68 = 68 + i * 68 by omega, ← List.drop_drop, List.drop_left' h0]
    exact ih
  | [], _, i, _, _, _, h1, _ => by simp at h1
  | _ :: _, [], i, _, _, _, _, h2 => by simp at h2
theorem kcells_append : ∀ {ks : List KidP} {kvs : List Value} (p : KidP) (u : Value), kvs.length = ks.length → kcells (ks ++ [p]) (kvs ++ [u]) = kcells ks kvs ++ (p.at u).cells
  | [], [], p, u, _ => by simp [kcells]
  | q :: ks, v :: kvs, p, u, h => by
    have ih := kcells_append (ks := ks) (kvs := kvs) p u (by simpa using h)
    simp only [List.cons_append, kcells, ih, List.append_assoc]
  | [], _ :: _, _, _, hl => by simp at hl
  | _ :: _, [], _, _, hl => by simp at hl
theorem KidsOk.get {hf : Hp} {ks : List KidP} {v : Value} {kvs : List Value} (h : KidsOk hf ks v kvs) {i : Nat} (hi : i < ks.length) : ∃ p u, ks[i]? = some p ∧ kvs[i]? = some u ∧ (p.at u).Ok hf p.key ∧ ((kcells ks kvs).drop (i * 68)).take 68 = (p.at u).cells := by
  have hi2 : i < kvs.length := by rw [h.len]; exact hi
  refine ⟨ks[i], kvs[i], List.getElem?_eq_getElem hi, List.getElem?_eq_getElem hi2, h.each i _ _ (List.getElem?_eq_getElem hi) (List.getElem?_eq_getElem hi2), ?_⟩
  exact kcells_at i h.each (List.getElem?_eq_getElem hi) (List.getElem?_eq_getElem hi2)

/-! ### counts -/
def cntN (b : Nat) : List KidP → Nat
  | [] => b
  | p :: r => cntN ((b + p.cnt) % 18446744073709551616) r
theorem cntN_lt : ∀ (b : Nat) (l : List KidP), b < 18446744073709551616 → cntN b l < 18446744073709551616
  | _, [], h => h
  | b, p :: r, _ => cntN_lt _ r (Nat.mod_lt _ (by decide))
theorem cntN_append (b : Nat) : ∀ (l : List KidP) (p : KidP), cntN b (l ++ [p]) = (cntN b l + p.cnt) % 18446744073709551616
  | [], p => rfl
  | q :: l, p => cntN_append _ l p
theorem cntN_take (b : Nat) {l : List KidP} {i : Nat} {p : KidP} (h : l[i]? = some p) : cntN b (l.take (i + 1)) = (cntN b (l.take i) + p.cnt) % 18446744073709551616 := by
  rw [List.take_add_one, h]
  exact cntN_append b _ p
def base (head : Bool) : Nat := if head then 0 else 1
theorem base_lt (h : Bool) : base h < 18446744073709551616 := by cases h <;> decide
def TowP.count (t : TowP) : Nat := cntN (base t.head) t.kids

/-! ### valid towers -/
def kidAt (ks : List KidP) (i : Nat) : KidP := ks.getD i default
theorem kidAt_of {ks : List KidP} {i : Nat} {p : KidP} (h : ks[i]? = some p) : kidAt ks i = p := by simp [kidAt, List.getD, h]
def TowP.top (t : TowP) : Int := if t.head then 23 else (height t.key : Int) - 1
/-- a kid's level and height are well -/
def lvlOk (t : TowP) (i : Nat) : Prop := (0 ≤ (kidAt t.kids i).lvl ∧ (kidAt t.kids i).lvl ≤ t.top) ∧ (i = 0 ∨ (kidAt t.kids i).lvl < (kidAt t.kids (i - 1)).lvl)
def heiOk (t : TowP) (i : Nat) : Prop := (kidAt t.kids i).key.length ≤ 1024 ∧ (height (kidAt t.kids i).key : Int) = (kidAt t.kids i).lvl + 1
def ordOk (t : TowP) (i : Nat) : Prop := (t.head = true ∨ 0 < cmpB (kidAt t.kids i).key t.key) ∧ (i = 0 ∨ cmpB (kidAt t.kids i).key (kidAt t.kids (i - 1)).key < 0)
def cntOk (t : TowP) (i : Nat) : Prop := (kidAt t.kids i).cnt ≠ 0 ∧ (kidAt t.kids i).cnt ≤ 4611686018427387904 ∧ cntN (base t.head) (t.kids.take i) ≤ 4611686018427387904 - (kidAt t.kids i).cnt
def kidOk (t : TowP) (i : Nat) : Prop := lvlOk t i ∧ heiOk t i ∧ ordOk t i ∧ cntOk t i
instance (t : TowP) (i : Nat) : Decidable (kidOk t i) := by unfold kidOk lvlOk heiOk ordOk cntOk; infer_instance
def kidsOk (t : TowP) : Prop := ∀ i, i < t.kids.length → kidOk t i
instance (t : TowP) : Decidable (kidsOk t) := by unfold kidsOk; infer_instance
def zeroS : List UInt8 := List.replicate 32 0
def ownBad (t : TowP) : Prop := (t.head = true ∧ (0 < t.key.length ∨ ¬ (t.sum = zeroS ∧ t.nth = 0))) ∨ (t.head = false ∧ 1024 < t.key.length)
instance (t : TowP) : Decidable (ownBad t) := by unfold ownBad; infer_instance
def validP (t : TowP) : Int := if ownBad t then 70 else if 24 < t.kids.length then 71 else if kidsOk t then 0 else 71
theorem validP_own {t : TowP} (h : ownBad t) : validP t = 70 := by simp [validP, h]
theorem validP_many {t : TowP} (h : ¬ ownBad t) (h2 : 24 < t.kids.length) : validP t = 71 := by simp [validP, h, h2]
theorem validP_kids {t : TowP} (h : ¬ ownBad t) (h3 : ¬ kidsOk t) : validP t = 71 := by simp [validP, h, h3]
theorem validP_ok {t : TowP} (h : ¬ ownBad t) (h2 : ¬ 24 < t.kids.length) (h3 : kidsOk t) : validP t = 0 := by simp [validP, h, h2, h3]
theorem kids_not {t : TowP} {i : Nat} (hi : i < t.kids.length) (h : ¬ kidOk t i) : ¬ kidsOk t := fun k => h (k i hi)

section ops
variable {P : Program} {S : World} {hf : Hp} {L : Res} {n : Nat} {E : List (Nat × Value)} {a : Act} {w : World} {v u : Value} {b o : Nat}
  {dst : Option Tmp} {ty : TypeId} {pos : String} {after : Array Edge} {g : Option (Nat × Bool)} {x y : Operand} {T yt : TypeId} {k : IntKind} {m : Int}
/-! ### addresses compared -/
theorem run_equalIn_addr {w : World} (d : Nat) {t ts tb e : TypeId} (ht : P.underlying t = some (.struct (P.fieldsOf t))) (hp : P.stoodInHeld t = false) (hfs : ∃ f1 f2, (P.fieldsOf t).toList = [f1, f2] ∧ f1.name ≠ "_" ∧ f2.name ≠ "_" ∧ f1.type = ts ∧ f1.offset = 0 ∧ f2.type = tb ∧ f2.offset = 32)
    (hts : P.underlying ts = some (.array 32 e)) (he : P.underlying e = some (.int .u8)) (htb : P.underlying tb = some (.int .u8)) (hs1 : ∀ w, (sizeOf e).run P w = .ok 1 w) (ha1 : ∀ w, (isAgg e).run P w = .ok false w)
    (hsz : ∀ w, (sizeOf ts).run P w = .ok 32 w) (hag : ∀ w, (isAgg ts).run P w = .ok true w) (hab : ∀ w, (isAgg tb).run P w = .ok false w)
    (s1 s2 : List UInt8) (n1 n2 : UInt8) (h1 : s1.length = 32) (h2 : s2.length = 32) :
    (Op.equalIn (d + 4) t (.agg (addrC s1 n1).toArray) (.agg (addrC s2 n2).toArray)).run P w = .ok (decide (s1 = s2 ∧ n1 = n2)) w := by
  obtain ⟨f1, f2, hfl, hn1, hn2, rfl, ho1, rfl, ho2⟩ := hfs
  rw [run_equalIn_struct w (d + 3) t _ _ ht hp, hfl]
  have p1 : ∀ (s : List UInt8) (n : UInt8), s.length = 32 → (part f1.type (addrC s n).toArray f1.offset).run P w = .ok (sumV s) w := fun s n h => by
    have e1 : (addrC s n).take 32 = s.map B := List.take_left' (by simp [h])
    simp [part, hag, hsz, ho1, e1]
  have p2 : ∀ (s : List UInt8) (n : UInt8), s.length = 32 → (part f2.type (addrC s n).toArray f2.offset).run P w = .ok (B n) w := fun s n h => by
    have e1 : (addrC s n)[32]? = some (B n) := by
      rw [addrC, List.getElem?_append_right (by simp [h])]
      simp [h]
    simp [part, hab, ho2, e1]
  have q1 := run_equalIn_sum (P := P) w (d + 1) hts he hs1 ha1 s1 s2 h1 h2
  have q2 : (Op.equalIn (d + 3) f2.type (B n1) (B n2)).run P w = .ok (((n1.toNat : Int)) == (n2.toNat : Int)) w := run_equalIn_int w (d + 2) f2.type .u8 .u8 _ _ htb
  by_cases hs : s1 = s2
  · have q1' : (Op.equalIn (d + 3) f1.type (sumV s1) (sumV s2)).run P w = .ok true w := by
      rw [q1]; simp [hs]
    by_cases hn : n1 = n2
    · have e1 : (((n1.toNat : Int)) == (n2.toNat : Int)) = true := by rw [hn]; simp
      simp only [Op.eqFields, hn1, hn2, ne_eq, not_false_eq_true, if_true, Sem.run_bind, p1 s1 n1 h1, p1 s2 n2 h2, p2 s1 n1 h1, p2 s2 n2 h2, q1', q2, e1, Result.andThen_ok, Bool.not_true, Bool.false_eq_true, if_false, Sem.run_pure]
      simp [hs, hn]
    · have e1 : (((n1.toNat : Int)) == (n2.toNat : Int)) = false := by
        simp only [beq_eq_false_iff_ne, ne_eq]
        intro hc
        exact hn (UInt8.toNat_inj.1 (by omega))
      simp only [Op.eqFields, hn1, hn2, ne_eq, not_false_eq_true, if_true, Sem.run_bind, p1 s1 n1 h1, p1 s2 n2 h2, p2 s1 n1 h1, p2 s2 n2 h2, q1', q2, e1, Result.andThen_ok, Bool.not_true, Bool.not_false, Bool.false_eq_true, if_false, if_true, Sem.run_pure]
      simp [hn]
  · have q1' : (Op.equalIn (d + 3) f1.type (sumV s1) (sumV s2)).run P w = .ok false w := by
      rw [q1]; simp [hs]
    simp only [Op.eqFields, hn1, ne_eq, not_false_eq_true, if_true, Sem.run_bind, p1 s1 n1 h1, p1 s2 n2 h2, q1', Result.andThen_ok, Bool.not_false, if_true, Sem.run_pure]
    simp [hs]
/-- what is asked of the type of addresses -/
structure AddrT (P : Program) (t : TypeId) : Prop where
  out : ∀ (w : World) (s1 s2 : List UInt8) (n1 n2 : UInt8), s1.length = 32 → s2.length = 32 → (Op.equalIn 10000 t (.agg (addrC s1 n1).toArray) (.agg (addrC s2 n2).toArray)).run P w = .ok (decide (s1 = s2 ∧ n1 = n2)) w
  grd : P.eqGuardType P.depth t = false
theorem p_eqlAd (hT : AddrT P T) (h : St S hf L n E a w) {s1 s2 : List UInt8} {n1 n2 : UInt8} (hx : ev E x = some (.agg (addrC s1 n1).toArray)) (hy : ev E y = some (.agg (addrC s2 n2).toArray)) (h1 : s1.length = 32) (h2 : s2.length = 32) :
    Pure P ⟨dst, .binOp .eql T x y yt, ty, pos, after, g⟩ a w (.bool (decide (s1 = s2 ∧ n1 = n2))) := by
  simp only [Pure, execOp, h.env.ev hx, h.env.ev hy, Sem.run_bind, run_eqGuard_agg w .eql T x y _ _ hT.grd, Result.andThen_ok, run_eql_struct, hT.out w s1 s2 n1 n2 h1 h2, Sem.run_pure]
theorem p_neqAd (hT : AddrT P T) (h : St S hf L n E a w) {s1 s2 : List UInt8} {n1 n2 : UInt8} (hx : ev E x = some (.agg (addrC s1 n1).toArray)) (hy : ev E y = some (.agg (addrC s2 n2).toArray)) (h1 : s1.length = 32) (h2 : s2.length = 32) :
    Pure P ⟨dst, .binOp .neq T x y yt, ty, pos, after, g⟩ a w (.bool (decide (¬ (s1 = s2 ∧ n1 = n2)))) := by
  simp only [Pure, execOp, h.env.ev hx, h.env.ev hy, Sem.run_bind, run_eqGuard_agg w .neq T x y _ _ hT.grd, Result.andThen_ok, run_neq_struct, hT.out w s1 s2 n1 n2 h1 h2, Sem.run_pure]
  simp only [decide_not]

/-! ### the library's own comparison of bytes -/
theorem compareBytes_eq : ∀ (l r : List UInt8), Lib.compareBytes l r = cmpB l r
  | [], [] => rfl
  | [], _ :: _ => rfl
  | _ :: _, [] => rfl
  | x :: l, y :: r => by
    simp only [Lib.compareBytes, cmpB]
    by_cases h : x = y
    · subst h
      simp [compareBytes_eq l r]
    · by_cases h2 : x < y
      · simp [h, h2]
      · have h3 : y < x := UInt8.lt_of_le_of_ne (UInt8.not_lt.1 h2) (Ne.symm h)
        simp [h, h2, h3]
theorem run_loadBytes {w : World} (ad : Addr) : ∀ (l : List UInt8) (i : Nat) (acc : List UInt8), (∀ j x, l[j]? = some x → w.cell? (ad.add (i + j)) = some (B x)) → ad.spot = none →
    (Extern.Bytes.loadBytes (ad.add i) l.length ⟨acc.toArray⟩).run P w = .ok ⟨(acc ++ l).toArray⟩ w
  | [], i, acc, _, _ => by simp [Extern.Bytes.loadBytes]
  | x :: l, i, acc, h, hs => by
    have h0 := h 0 x rfl
    rw [Nat.add_zero] at h0
    have e1 : (load (ad.add i)).run P w = .ok (B x) w := by
      simp [h0]
    have e2 : (ad.add i).add 1 = ad.add (i + 1) := by
      unfold Addr.add
      by_cases hi : i = 0
      · subst hi; simp
      · simp [hi]; omega
    have ih := run_loadBytes (w := w) ad l (i + 1) (acc ++ [x]) (fun j y hj => by rw [show i + 1 + j = i + (j + 1) by omega]; exact h (j + 1) y (by simpa using hj)) hs
    simp only [List.length_cons, Extern.Bytes.loadBytes, Sem.run_bind, e1, Result.andThen_ok, e2]
    have e3 : (ByteArray.push ⟨acc.toArray⟩ ((x.toNat : Int)).toNat.toUInt8) = ⟨(acc ++ [x]).toArray⟩ := by
      simp [ByteArray.push]
    rw [e3, ih]
    simp
theorem run_bytesOf {w : World} {l : List UInt8} (ho : Owns S hf L w) (hv : Byts hf v l) : (Extern.Bytes.bytesOf v).run P w = .ok ⟨l.toArray⟩ w := by
  rcases hv.2 with ⟨⟨a0, c0, rfl, _⟩, h0⟩ | ⟨b, o, cap, rfl, _, _, h5⟩
  · have hl : l = [] := List.eq_nil_of_length_eq_zero h0
    subst hl
    cases a0 with
    | none => rfl
    | some ad => rfl
  · have := run_loadBytes (P := P) (w := w) ⟨b, o, none⟩ l 0 [] (fun j x hj => by
      have := (h5 j (B x) (by simp [hj])).cel (S := S) (L := L)
      rw [Nat.zero_add, Addr.add_at]
      exact this w ho) rfl
    rw [show (⟨b, o, none⟩ : Addr).add 0 = ⟨b, o, none⟩ by simp [Addr.add]] at this
    exact this
theorem run_compareS {w : World} {l r : List UInt8} (ho : Owns S hf L w) (hv : Byts hf v l) (hu : Byts hf u r) : (Extern.BytealgCompare.compare #[v, u]).run P w = .ok (.int .i64 (cmpB l r)) w := by
  have e1 := run_bytesOf (P := P) ho hv
  have e2 := run_bytesOf (P := P) ho hu
  change Sem.run P (do pure (goInt (Extern.BytealgCompare.cmp (← Extern.Bytes.bytesOf v) (← Extern.Bytes.bytesOf u)))) w = _
  simp only [Sem.run_bind, e1, e2, Result.andThen_ok, Sem.run_pure, Lib.cmp_eq, compareBytes_eq, goInt]
/-- a call of a routine that the model gives by itself -/
theorem p_callExt {f : FuncId} {fn : Func} {e : Array Value → Sem Value} {args : Array Operand} {tys : Array TypeId} {vs : List Value} (hf0 : P.funcs[f]? = some fn) (hname : (fn.name == "runtime.NumGoroutine") = false) (hb : fn.body.isNone = true) (hn : Extern.findNext fn = none) (he : Extern.find fn = some e)
    (h : St S hf L n E a w) (hv : evs E args.toList = some vs) (hr : (e vs.toArray).run P w = .ok v w) :
    Pure P ⟨dst, .call { callee := .value (.func f), args := args, argTypes := tys }, ty, pos, after, g⟩ a w v := by
  have e1 : args.map a.eval = vs.toArray := Array.ext' (by rw [← h.env.evs hv]; simp)
  have e2 : a.eval (.func f) = .func (.func f) #[] #[] := rfl
  have hc := run_callFunc_extern hf0 hname hb hn he vs.toArray w
  rw [hr] at hc
  simp [Pure, execOp, resolve, Deferred.ofValue, e2, invoke, e1, hc]
end ops
end Go.Own
