/-
  OWN LIBRARY, part 6: writers; the texts of layer 7.
-/
import Derived.Test.YtkklgmhmhhbjkaaDoorKitE
namespace Go.Own
open Go

/-- a writer whose text so far is l: its struct's block, and the row of its bytes (none yet, or one) -/
def Wr (Tw Tb : TypeId) (p : Nat) (l : List UInt8) (L : Res) : Prop := ∃ v Lv, L = (p, row Tw [v]) :: Lv ∧ Vec Tb 1 v l.length (l.map B) Lv

theorem Vec.cast {T : TypeId} {s n n' : Nat} {v : Value} {xs xs' : List Value} {L : Res} (h : Vec T s v n xs L) (hn : n = n') (hx : xs = xs') : Vec T s v n' xs' L := hn ▸ hx ▸ h
theorem Vec.one {T : TypeId} {v : Value} {n : Nat} {xs : List Value} {L : Res} (h : Vec T 1 v n xs L) : v.cells.toList = [v] ∧ v.oneCell' = true := by
  rcases h.2 with ⟨rfl, _⟩ | ⟨b, cap, rest, rfl, _⟩ <;> exact ⟨rfl, rfl⟩
theorem Vec.len {T : TypeId} {s : Nat} {v : Value} {n : Nat} {xs : List Value} {L : Res} (h : Vec T s v n xs L) : ∃ a c, v = .slice a n c := by
  rcases h.2 with ⟨rfl, rfl, _⟩ | ⟨b, cap, rest, rfl, _⟩ <;> exact ⟨_, _, rfl⟩
/-- what a vector holds may be read -/
theorem Vec.src {S : World} {hf : Hp} {L1 L2 L : Res} {T : TypeId} {s : Nat} {v : Value} {n : Nat} {xs : List Value} (h : Vec T s v n xs L) : Src S hf (L1 ++ (L ++ L2)) v n xs := by
  obtain ⟨hl, h⟩ := h
  rcases h with ⟨rfl, rfl, rfl⟩ | ⟨b, cap, rest, rfl, rfl, _, _, _⟩
  · exact .inl ⟨⟨_, _, rfl⟩, rfl, List.eq_nil_of_length_eq_zero (by simpa using hl)⟩
  · refine .inr ⟨b, 0, cap, rfl, Cels.own (k := L1.length) (cs := xs ++ rest) (T := T) (by simp) (by simp)⟩

theorem Vec.srcR {S : World} {hf : Hp} {L1 L : Res} {T : TypeId} {s : Nat} {v : Value} {n : Nat} {xs : List Value} (h : Vec T s v n xs L) : Src S hf (L1 ++ L) v n xs := by
  have := Vec.src (S := S) (hf := hf) (L1 := L1) (L2 := []) h
  rwa [List.append_nil] at this

def w32 (n j : Nat) : List UInt8 := (List.range j).map fun i => UInt8.ofNat (n / 2 ^ (24 - 8 * i))
def word (n : Nat) : List UInt8 := w32 n 4
def long (n : Nat) : List UInt8 := word (n / 4294967296) ++ word (n % 4294967296)
def fixed (n k : Nat) : List UInt8 := (List.range k).map fun i => UInt8.ofNat (n / 256 ^ (k - 1 - i))
theorem w32_succ (n j : Nat) : w32 n (j + 1) = w32 n j ++ [UInt8.ofNat (n / 2 ^ (24 - 8 * j))] := by simp [w32, List.range_succ]
@[simp] theorem w32_length (n j : Nat) : (w32 n j).length = j := by simp [w32]
@[simp] theorem word_length (n : Nat) : (word n).length = 4 := by simp [word]
@[simp] theorem long_length (n : Nat) : (long n).length = 8 := by simp [long]
@[simp] theorem fixed_length (n k : Nat) : (fixed n k).length = k := by simp [fixed]
theorem ofNat_mod (n m : Nat) (h : n % 256 = m % 256) : UInt8.ofNat n = UInt8.ofNat m := by
  apply UInt8.toNat_inj.1; simp [h]
theorem fixed4 (n : Nat) : fixed n 4 = word (n % 4294967296) := by
  simp only [fixed, word, w32]
  apply List.map_congr_left
  intro i hi
  simp only [List.mem_range] at hi
  apply ofNat_mod
  have : i = 0 ∨ i = 1 ∨ i = 2 ∨ i = 3 := by omega
  rcases this with rfl | rfl | rfl | rfl <;> simp <;> omega
theorem fixed8 (n : Nat) : fixed n 8 = long n := by
  simp only [fixed, long, word, w32]
  simp only [List.range_succ, List.range_zero, List.map_cons, List.map_nil, List.nil_append, List.cons_append]
  simp only [List.cons.injEq, and_true]
  refine ⟨?_, ?_, ?_, ?_, ?_, ?_, ?_, ?_⟩ <;> apply ofNat_mod <;> simp <;> omega

/-- 'fixed' half done, from its end -/
def fixS (q k j : Nat) : List UInt8 := List.replicate (k - j) 0 ++ (fixed q k).drop (k - j)
@[simp] theorem fixS_length (q k j : Nat) (_h : j ≤ k) : (fixS q k j).length = k := by simp [fixS]; try omega
theorem fixS_zero (q k : Nat) : (fixS q k 0).map B = List.replicate k (.int .u8 0) := by simp [fixS, List.drop_of_length_le]
theorem fixS_all (q k : Nat) : fixS q k k = fixed q k := by simp [fixS]
theorem fixS_step (q k j : Nat) (h : j < k) : (fixS q k j).set (k - 1 - j) (UInt8.ofNat (q / 256 ^ j)) = fixS q k (j + 1) := by
  apply List.ext_getElem?
  intro i
  rw [List.getElem?_set]
  simp only [fixS, List.getElem?_append, List.length_replicate, List.getElem?_replicate, List.getElem?_drop, fixed, List.getElem?_map, List.length_append, List.length_drop, List.length_map, List.length_range]
  by_cases h1 : i < k - (j + 1)
  · rw [if_neg (by omega), if_pos (by omega), if_pos (by omega), if_pos (by omega), if_pos (by omega)]
  · by_cases h2 : k - 1 - j = i
    · subst h2
      rw [if_pos rfl, if_pos (by omega), if_neg (by omega)]
      have e : k - (j + 1) + (k - 1 - j - (k - (j + 1))) = k - 1 - j := by omega
      rw [e, List.getElem?_range (by omega)]
      have e2 : k - 1 - (k - 1 - j) = j := by omega
      simp [e2]
    · rw [if_neg h2, if_neg (by omega), if_neg (by omega)]
      have e : k - j + (i - (k - j)) = k - (j + 1) + (i - (k - (j + 1))) := by omega
      rw [e]

/-- a number without its last j bytes -/
def dv (q j : Nat) : Nat := q / 256 ^ j
theorem dv_zero (q : Nat) : dv q 0 = q := by simp [dv]
theorem dv_succ (q j : Nat) : dv q (j + 1) = dv q j / 256 := by simp only [dv]; rw [Nat.pow_succ, Nat.div_div_eq_div_mul]
theorem dv_le (q j : Nat) : dv q j ≤ q := Nat.div_le_self _ _
theorem fixS_stepd (q k j : Nat) (h : j < k) : (fixS q k j).set (k - 1 - j) (UInt8.ofNat (dv q j)) = fixS q k (j + 1) := fixS_step q k j h
def leafText (key v : List UInt8) : List UInt8 := 17 :: (word (key.length % 4294967296) ++ (key ++ v))
def headText : List UInt8 := [18]
def pairText (lvl : Int) (key : List UInt8) (cnt : Nat) (label below : List UInt8) : List UInt8 :=
  19 :: UInt8.ofNat (lvl % 256).toNat :: (long cnt ++ (word (key.length % 4294967296) ++ (key ++ (below ++ label))))
def rootText (cnt : Nat) (head : List UInt8) : List UInt8 := 20 :: (long cnt ++ head)

/-! ### sums, kids -/
abbrev sumV (s : List UInt8) : Value := .agg (s.map B).toArray
structure KidV where
  lvl : Int
  key : Value
  cnt : Nat
  sum : List UInt8
  nth : UInt8
  label : List UInt8
def KidV.cells (k : KidV) : List Value := .int .i64 k.lvl :: k.key :: .int .u64 (k.cnt : Int) :: (k.sum.map B ++ (B k.nth :: k.label.map B))
abbrev KidV.val (k : KidV) : Value := .agg k.cells.toArray
structure KidV.Ok (hf : Hp) (k : KidV) (kb : List UInt8) : Prop where
  sum : k.sum.length = 32
  label : k.label.length = 32
  cnt : k.cnt < 18446744073709551616
  lvl : -9223372036854775808 ≤ k.lvl ∧ k.lvl ≤ 9223372036854775807
  key : Byts hf k.key kb
theorem KidV.Ok.mono {hf hf' : Hp} {k : KidV} {kb : List UInt8} (h : k.Ok hf kb) (hle : hf.le hf') : k.Ok hf' kb := ⟨h.sum, h.label, h.cnt, h.lvl, h.key.mono hle⟩
theorem KidV.Ok.length {hf : Hp} {k : KidV} {kb : List UInt8} (h : k.Ok hf kb) : k.cells.length = 68 := by simp [KidV.cells, h.sum, h.label]
theorem KidV.Ok.labelAt {hf : Hp} {k : KidV} {kb : List UInt8} (h : k.Ok hf kb) : (k.cells.drop 36).take (k.label.map B).length = k.label.map B := by
  simp [KidV.cells, List.drop_append, h.sum, List.drop_of_length_le, List.take_of_length_le]
theorem KidV.sumAt (k : KidV) : (k.cells.drop 3).take (k.sum.map B).length = k.sum.map B := by
  simp [KidV.cells]
theorem byte_conv (m : Int) : Value.int .u8 (IntKind.u8.wrap m) = B (UInt8.ofNat (m % 256).toNat) := by
  rw [B_ofNat]
  have : IntKind.u8.wrap m = m % 256 := by simp [IntKind.wrap, IntKind.bits, IntKind.signed]
  rw [this]
  congr 1
  omega
theorem conv_u8 (m : Int) : IntKind.u8.wrap m = ((UInt8.ofNat (m % 256).toNat).toNat : Int) := by
  have := byte_conv m
  simpa [B] using this
theorem conv_shr {n k : Nat} : IntKind.u8.wrap ((n : Int).fdiv (2 ^ k)) = ((UInt8.ofNat (n / 2 ^ k)).toNat : Int) := by
  rw [fdiv_nat, wrap_u8_nat]; simp

def tagB (i : Nat) : UInt8 := ([17, 18, 19, 20, 23] : List UInt8).getD i 0
/-- the table of tags, as the program's text lays it -/
def TagsAt (gl : Nat) (hf : Hp) : Prop := ∀ i, i < 5 → HCel hf gl (0 + i) (B (tagB i))
theorem TagsAt.mono {gl : Nat} {hf hf' : Hp} (h : TagsAt gl hf) (hle : hf.le hf') : TagsAt gl hf' := fun i hi => (h i hi).mono hle

section build
variable {P : Program} {S : World} {hf : Hp} {L : Res} {n : Nat} {E : List (Nat × Value)} {a : Act} {w : World}
  {dst : Option Tmp} {ty : TypeId} {pos : String} {after : Array Edge} {g : Option (Nat × Bool)} {T : TypeId}
def Program.places (P : Program) (fs : Array Field) : Option (List (Nat × Nat)) := fs.toList.mapM fun f => (P.info? f.type).map fun i => (f.offset, i.size)
/-- a struct written out: part by part into the zero value's cells -/
inductive FillR (pl : List (Nat × Nat)) : List Value → List (Nat × Value) → List Value → Prop
  | nil {cs : List Value} : FillR pl cs [] cs
  | cons {cs cs' out vc : List Value} {i off size : Nat} {v : Value} {rest : List (Nat × Value)} (hp : pl[i]? = some (off, size)) (hv : v.cells.toList = vc) (hl : vc.length = size) (hfit : off + size ≤ cs.length)
      (hc : cs.take off ++ vc ++ cs.drop (off + size) = cs') (k : FillR pl cs' rest out) : FillR pl cs ((i, v) :: rest) out
theorem fill_at (vs : List Value) : ∀ (j off : Nat) (cs : List Value), off + j + vs.length ≤ cs.length →
    (vs.zipIdx j).foldl (fun acc (x : Value × Nat) => acc.setIfInBounds (off + x.2) x.1) cs.toArray = (cs.take (off + j) ++ vs ++ cs.drop (off + j + vs.length)).toArray := by
  induction vs with
  | nil => intro j off cs _; simp
  | cons v vs ih =>
    intro j off cs h
    simp only [List.length_cons] at h
    simp only [List.zipIdx_cons, List.foldl_cons]
    have e1 : cs.toArray.setIfInBounds (off + j) v = (cs.set (off + j) v).toArray := by simp
    rw [e1, ih (j + 1) off _ (by simp; omega)]
    congr 1
    have e2 : off + (j + 1) = off + j + 1 := by omega
    have e3 : off + j + 1 + vs.length = off + j + (vs.length + 1) := by omega
    rw [e2, e3, List.take_succ_eq_append_getElem (by simp; omega), List.drop_set_of_lt (by omega)]
    simp only [List.getElem_set_self, List.take_set_of_le (Nat.le_refl _), List.append_assoc, List.cons_append, List.nil_append, List.length_cons]
theorem FillR.fill {pl : List (Nat × Nat)} {cs out : List Value} {parts : List (Nat × Value)} (h : FillR pl cs parts out) : Instr.fill (pl.toArray[·]?) cs.toArray parts = some out.toArray := by
  induction h with
  | nil => rfl
  | @cons cs cs' out vc i off size v rest hp hv hl hfit hc k ih =>
    have e0 : pl.toArray[i]? = some (off, size) := by simpa using hp
    have e1 : v.cells.size = size := by rw [← hl, ← hv]; simp
    simp only [Instr.fill, e0]
    rw [if_neg (by simp [e1]; omega)]
    have e2 : v.cells.zipIdx.foldl (fun acc (x : Value × Nat) => acc.setIfInBounds (off + x.2) x.1) cs.toArray = cs'.toArray := by
      rw [← Array.foldl_toList, Array.toList_zipIdx, hv, fill_at vc 0 off cs (by omega), ← hc, hl]
      rfl
    rw [e2]
    exact ih
theorem p_build {fs : Array Field} {it : TypeInfo} {z : Value} {pl : List (Nat × Nat)} {parts : Array (Nat × Operand)} {vs : List Value} {out : List Value} (hT : P.underlying T = some (.struct fs)) (hi : P.info? T = some it) (hz : it.zero = some z) (hpl : Program.places P fs = some pl)
    (h : St S hf L n E a w) (hev : evs E (parts.toList.map (·.2)) = some vs) (hr : FillR pl z.cells.toList ((parts.toList.map (·.1)).zip vs) out) : Pure P ⟨dst, .build T parts, ty, pos, after, g⟩ a w (.agg out.toArray) := by
  have e1 : (parts.map fun (i, x) => (i, a.eval x)).toList = (parts.toList.map (·.1)).zip vs := by
    rw [← h.env.evs hev]
    simp only [Array.toList_map, List.map_map]
    rw [List.zip_map']
    rfl
  have hb : P.built T (parts.map fun (i, x) => (i, a.eval x)).toList = some out.toArray := by
    unfold Program.built
    unfold Program.places at hpl
    simp only [hi, hT, hz, hpl, e1]
    have := hr.fill
    rwa [Array.toArray_toList] at this
  simp [Pure, execOp, run_build w T _ _ hb]
end build
end Go.Own
