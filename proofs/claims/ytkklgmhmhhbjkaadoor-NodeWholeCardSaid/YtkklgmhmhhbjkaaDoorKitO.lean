/-
  OWN LIBRARY, part 15: zeros ahead of the first one; heights.
-/
import Derived.Test.YtkklgmhmhhbjkaaDoorKitN
import Derived.Test.YtkklgmhmhhbjkaaDoorKitH
namespace Go.Own
open Go
/-- a byte's zeros ahead of its first one -/
def lz8 (x : UInt8) : Nat := if x = 0 then 8 else 7 - Nat.log2 x.toNat
def zerosB : List UInt8 → Nat
  | [] => 0
  | x :: r => if x = 0 then 8 + zerosB r else lz8 x
def bit8 (x : UInt8) (j : Nat) : Nat := x.toNat / 2 ^ (7 - j) % 2
def bitB (s : List UInt8) (i : Nat) : Nat := bit8 (s.getD (i / 8) 0) (i % 8)
theorem lz8_step (x : UInt8) (j : Nat) (hj : j < 8) (h : j ≤ lz8 x) : (bit8 x j = 1 → lz8 x = j) ∧ (¬ bit8 x j = 1 → j + 1 ≤ lz8 x) := by
  have key : ∀ n : Fin 256, ∀ j : Fin 8, j.val ≤ lz8 (UInt8.ofNat n.val) → (bit8 (UInt8.ofNat n.val) j.val = 1 → lz8 (UInt8.ofNat n.val) = j.val) ∧ (¬ bit8 (UInt8.ofNat n.val) j.val = 1 → j.val + 1 ≤ lz8 (UInt8.ofNat n.val)) := by decide +kernel
  have := key ⟨x.toNat, x.toNat_lt⟩ ⟨j, hj⟩
  simp only [UInt8.ofNat_toNat] at this
  exact this h
theorem lz8_lt (x : UInt8) (h : x ≠ 0) : lz8 x ≤ 7 := by unfold lz8; rw [if_neg h]; omega
theorem bit8_zero (j : Nat) : bit8 0 j = 0 := by simp [bit8]
theorem bitB_cons_ge (x : UInt8) (r : List UInt8) {i : Nat} (h : 8 ≤ i) : bitB (x :: r) i = bitB r (i - 8) := by
  unfold bitB
  have e1 : i / 8 = (i - 8) / 8 + 1 := by omega
  have e2 : i % 8 = (i - 8) % 8 := by omega
  rw [e1, e2, List.getD_cons_succ]
theorem bitB_cons_lt (x : UInt8) (r : List UInt8) {i : Nat} (h : i < 8) : bitB (x :: r) i = bit8 x i := by
  unfold bitB
  have e1 : i / 8 = 0 := by omega
  have e2 : i % 8 = i := by omega
  rw [e1, e2, List.getD_cons_zero]
theorem zeros_step : ∀ (s : List UInt8) (i : Nat), i < 8 * s.length → i ≤ zerosB s → (bitB s i = 1 → zerosB s = i) ∧ (¬ bitB s i = 1 → i + 1 ≤ zerosB s)
  | [], i, h, _ => by simp at h
  | x :: r, i, h, hz => by
    simp only [List.length_cons] at h
    by_cases hx : x = 0
    · subst hx
      simp only [zerosB, if_true] at hz ⊢
      by_cases hi : i < 8
      · rw [bitB_cons_lt _ _ hi, bit8_zero]
        exact ⟨fun h => absurd h (by decide), fun _ => by omega⟩
      · have ih := zeros_step r (i - 8) (by omega) (by omega)
        rw [bitB_cons_ge _ _ (by omega)]
        exact ⟨fun h => by have := ih.1 h; omega, fun h => by have := ih.2 h; omega⟩
    · simp only [zerosB, if_neg hx] at hz ⊢
      have := lz8_lt x hx
      rw [bitB_cons_lt _ _ (by omega)]
      exact lz8_step x i (by omega) hz
theorem zeros_at (s : List UInt8) : ∀ (i : Nat), i ≤ s.length → (∀ j, j < i → s[j]? = some 0) → zerosB s = 8 * i + zerosB (s.drop i)
  | 0, _, _ => by simp
  | i + 1, h, hz => by
    rw [zeros_at s i (by omega) (fun j hj => hz j (by omega))]
    have h1 : i < s.length := by omega
    have e := hz i (by omega)
    rw [List.getElem?_eq_getElem h1] at e
    rw [List.drop_eq_getElem_cons h1, Option.some.inj e]
    simp only [zerosB, if_true]
    omega
theorem zeros_here (s : List UInt8) {i : Nat} (hi : i < s.length) (hz : ∀ j, j < i → s[j]? = some 0) (h : s[i] ≠ 0) : zerosB s = 8 * i + lz8 s[i] := by
  rw [zeros_at s i (by omega) hz, List.drop_eq_getElem_cons hi]
  simp only [zerosB, if_neg h]
theorem zeros_all (s : List UInt8) (hz : ∀ j, j < s.length → s[j]? = some 0) : zerosB s = 8 * s.length := by
  rw [zeros_at s s.length (Nat.le_refl _) hz, List.drop_length]; rfl
theorem zeros_le : ∀ (s : List UInt8), zerosB s ≤ 8 * s.length
  | [] => by simp [zerosB]
  | x :: r => by
    have := zeros_le r
    simp only [zerosB, List.length_cons]
    split
    · omega
    · have := lz8_lt x (by assumption); omega
/-- a key's height -/
def height (key : List UInt8) : Nat := min 24 (1 + zerosB (sha (23 :: key)))
theorem height_lo (key : List UInt8) : 1 ≤ height key := by unfold height; omega
theorem height_hi (key : List UInt8) : height key ≤ 24 := by unfold height; omega
theorem u8_and1 (x : Nat) (h : x < 256) : bits .and .u8 (x : Int) 1 = ((x % 2 : Nat) : Int) := by
  have key : ∀ n : Fin 256, bits .and .u8 ((n.val : Nat) : Int) 1 = ((n.val % 2 : Nat) : Int) := by decide +kernel
  exact key ⟨x, h⟩
theorem shr8 (q k : Nat) (i : Int) (hi : i = (k : Int)) (hk : k ≤ 8) : (q : Int).fdiv (2 ^ (min i.toNat IntKind.u8.bits)) = ((q / 2 ^ k : Nat) : Int) := by
  subst hi
  have e : min (k : Int).toNat IntKind.u8.bits = k := by simp [IntKind.bits]; omega
  rw [e, fdiv_nat]
def len8 (x : UInt8) : Nat := 8 - lz8 x
theorem len8_le (x : UInt8) : len8 x ≤ 8 := by unfold len8; omega
theorem lz8_le (x : UInt8) : lz8 x ≤ 8 := by unfold lz8; split <;> omega
/-- the table of lengths, as the library's text lays it -/
def lenTab : ByteArray := ⟨#[0, 1, 2, 2, 3, 3, 3, 3, 4, 4, 4, 4, 4, 4, 4, 4, 5, 5, 5, 5, 5, 5, 5, 5, 5, 5, 5, 5, 5, 5, 5, 5, 6, 6, 6, 6, 6, 6, 6, 6, 6, 6, 6, 6, 6, 6, 6, 6, 6, 6, 6, 6, 6, 6, 6, 6, 6, 6, 6, 6, 6, 6, 6, 6, 7, 7, 7, 7, 7, 7, 7, 7, 7, 7, 7, 7, 7, 7, 7, 7, 7, 7, 7, 7, 7, 7, 7, 7, 7, 7, 7, 7, 7, 7, 7, 7, 7, 7, 7, 7, 7, 7, 7, 7, 7, 7, 7, 7, 7, 7, 7, 7, 7, 7, 7, 7, 7, 7, 7, 7, 7, 7, 7, 7, 7, 7, 7, 7, 8, 8, 8, 8, 8, 8, 8, 8, 8, 8, 8, 8, 8, 8, 8, 8, 8, 8, 8, 8, 8, 8, 8, 8, 8, 8, 8, 8, 8, 8, 8, 8, 8, 8, 8, 8, 8, 8, 8, 8, 8, 8, 8, 8, 8, 8, 8, 8, 8, 8, 8, 8, 8, 8, 8, 8, 8, 8, 8, 8, 8, 8, 8, 8, 8, 8, 8, 8, 8, 8, 8, 8, 8, 8, 8, 8, 8, 8, 8, 8, 8, 8, 8, 8, 8, 8, 8, 8, 8, 8, 8, 8, 8, 8, 8, 8, 8, 8, 8, 8, 8, 8, 8, 8, 8, 8, 8, 8, 8, 8, 8, 8, 8, 8, 8, 8, 8, 8, 8, 8, 8, 8, 8, 8, 8, 8, 8, 8]⟩
theorem lenTab_at (x : UInt8) : lenTab[x.toNat]? = some (UInt8.ofNat (len8 x)) := by
  have key : ∀ n : Fin 256, lenTab[n.val]? = some (UInt8.ofNat (len8 (UInt8.ofNat n.val))) := by decide +kernel
  have := key ⟨x.toNat, x.toNat_lt⟩
  simpa only [UInt8.ofNat_toNat] using this
section ops
variable {P : Program} {S : World} {hf : Hp} {L : Res} {n : Nat} {E : List (Nat × Value)} {a : Act} {w : World} {v u : Value} {b o : Nat}
  {dst : Option Tmp} {ty : TypeId} {pos : String} {after : Array Edge} {g : Option (Nat × Bool)} {x y : Operand} {T : TypeId} {k : IntKind} {m : Int}
/-- a string's byte -/
theorem p_indexStr {s : ByteArray} {j : Nat} {r : UInt8} (hT : P.underlying T = some .string) (h : St S hf L n E a w) (hx : ev E x = some (.string s)) (hi : ev E y = some (.int k m)) (hm : m = (j : Int)) (hb : s[j]? = some r) : Pure P ⟨dst, .index T x y, ty, pos, after, g⟩ a w (B r) := by
  subst hm
  obtain ⟨hj, e⟩ := getElem?_eq_some_iff.1 hb
  have h1 := run_index_string (P := P) (w := w) T s k (j : Int) hT
  have h2 : 0 ≤ (j : Int) ∧ (j : Int) < s.size := ⟨by omega, by exact_mod_cast hj⟩
  rw [dif_pos h2] at h1
  have e2 : s[((j : Int)).toNat]'(by simpa using hj) = r := by simpa using e
  simp only [Pure, execOp, h.env.ev hx, h.env.ev hi, Sem.run_bind, h1, Result.andThen_ok, Sem.run_pure, e2]
end ops
theorem tmod_i (i : Nat) : ((i : Int)).tmod 8 = ((i % 8 : Nat) : Int) := tmod_nat i 8
theorem sumB_at {s : List UInt8} {i : Nat} (h : i < s.length) : (s.map B)[i]? = some (B (s.getD i 0)) := by
  simp [List.getD, h]
theorem height_found {key : List UInt8} {i : Nat} (hi : i < 23) (hz : i ≤ zerosB (sha (23 :: key))) (hb : bitB (sha (23 :: key)) i = 1) : height key = i + 1 := by
  have := (zeros_step (sha (23 :: key)) i (by rw [sha_length]; omega) hz).1 hb
  unfold height; omega
theorem height_more {key : List UInt8} {i : Nat} (hi : i < 23) (hz : i ≤ zerosB (sha (23 :: key))) (hb : ¬ bitB (sha (23 :: key)) i = 1) : i + 1 ≤ zerosB (sha (23 :: key)) :=
  (zeros_step (sha (23 :: key)) i (by rw [sha_length]; omega) hz).2 hb
theorem height_full {key : List UInt8} (hz : 23 ≤ zerosB (sha (23 :: key))) : height key = 24 := by unfold height; omega
theorem zeros_next {s : List UInt8} {i : Nat} (hi : i < s.length) (hz : ∀ j, j < i → s[j]? = some 0) (h : ¬ ((s[i].toNat : Int) ≠ 0)) : ∀ j, j < i + 1 → s[j]? = some 0 := by
  intro j hj
  by_cases hji : j = i
  · subst hji
    have e : s[j] = 0 := UInt8.toNat_inj.1 (by simpa using h)
    rw [List.getElem?_eq_getElem hi, e]
  · exact hz j (by omega)
theorem BytsAll.nil {hf : Hp} : BytsAll hf [] [] := fun i v l h _ => by simp at h
theorem BytsAll.cons {hf : Hp} {v : Value} {l : List UInt8} {vs : List Value} {ls : List (List UInt8)} (h : Byts hf v l) (k : BytsAll hf vs ls) : BytsAll hf (v :: vs) (l :: ls)
  | 0, _, _, h1, h2 => by cases h1; cases h2; exact h
  | i + 1, v', l', h1, h2 => k i v' l' (by simpa using h1) (by simpa using h2)
/-! ### rows: the tables that a row lists -/
theorem laid_tail {P : Program} {x : String × DataW Unit} {r : List (String × DataW Unit)} {w : World} (h : laidMet P (x :: r) w) : laidMet P r w := by
  obtain ⟨n, d⟩ := x
  obtain ⟨ps, ⟨g, t, cs, fuel, p, q, _, _, _, _, hr, rfl⟩, hnd, hrows⟩ := h
  exact ⟨q, hr, (List.nodup_append.1 hnd).2.1, fun b off hb => hrows b off (List.mem_append_right _ hb)⟩
theorem roundsAt_of {P : Program} {W : World} {g : Nat} {name : String} (hg : P.globalNamed name = some g) (h : Lib.TabIs P W name .u32 (KT.map fun (z : Nat) => (z : Int))) : RoundsAt g (hpOf W) := by
  intro i v hv
  have hi : i < KT.length := by
    have := (List.getElem?_eq_some_iff.1 hv).1
    rw [ktV_eq] at this
    simpa using this
  have := hcel_of_cell (h.cell hg i (by simpa using hi))
  rw [ktV_eq, List.getElem?_map, List.getElem?_eq_getElem hi] at hv
  cases hv
  simpa [List.getD, hi] using this
theorem firstAt_of {P : Program} {W : World} {g : Nat} {name : String} (hg : P.globalNamed name = some g) (h : Lib.TabIs P W name .u32 [1779033703, 3144134277, 1013904242, 2773480762, 1359893119, 2600822924, 528734635, 1541459225]) : FirstAt g (hpOf W) := by
  intro i v hv
  have hi : i < 8 := by
    have := (List.getElem?_eq_some_iff.1 hv).1
    simpa [S8.list] using this
  have := hcel_of_cell (h.cell hg i (by simpa using hi))
  have e : v = .int .u32 (([1779033703, 3144134277, 1013904242, 2773480762, 1359893119, 2600822924, 528734635, 1541459225] : List Int).getD i 0) := by
    have h8 : i = 0 ∨ i = 1 ∨ i = 2 ∨ i = 3 ∨ i = 4 ∨ i = 5 ∨ i = 6 ∨ i = 7 := by omega
    rcases h8 with rfl | rfl | rfl | rfl | rfl | rfl | rfl | rfl <;> (simp only [s8init, S8.list, List.map_cons, List.getElem?_cons_zero, List.getElem?_cons_succ, Option.some.injEq] at hv; rw [← hv]; rfl)
  rw [e]
  simpa using this
end Go.Own
