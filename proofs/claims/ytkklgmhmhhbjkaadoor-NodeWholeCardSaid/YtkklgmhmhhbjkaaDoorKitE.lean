/-
  OWN LIBRARY, part 5: plain facts on bytes.
-/
import Derived.Test.YtkklgmhmhhbjkaaDoorKitD
namespace Go.Own
open Go

/-- how two texts lie in their order: -1, 0, 1 -/
def cmpB : List UInt8 → List UInt8 → Int
  | [], [] => 0
  | [], _ :: _ => -1
  | _ :: _, [] => 1
  | x :: xs, y :: ys => if x = y then cmpB xs ys else if x < y then -1 else 1

theorem cmpB_refl : ∀ l, cmpB l l = 0
  | [] => rfl
  | x :: l => by simp [cmpB, cmpB_refl l]
theorem cmpB_eq : ∀ {l r : List UInt8}, cmpB l r = 0 → l = r
  | [], [], _ => rfl
  | [], _ :: _, h => by simp [cmpB] at h
  | _ :: _, [], h => by simp [cmpB] at h
  | x :: xs, y :: ys, h => by
    simp only [cmpB] at h
    split at h
    · rename_i e; rw [e, cmpB_eq h]
    · split at h <;> simp at h
theorem cmpB_zero {l r : List UInt8} : cmpB l r = 0 ↔ l = r := ⟨cmpB_eq, fun e => e ▸ cmpB_refl l⟩

section step
variable {l r : List UInt8} {i : Nat}
theorem cmpB_ne (h1 : i < l.length) (h2 : i < r.length) (h : cmpB l r = cmpB (l.drop i) (r.drop i)) (hne : ((l[i].toNat : Int) ≠ (r[i].toNat : Int))) (hlt : ((l[i].toNat : Int) < (r[i].toNat : Int))) : cmpB l r = -1 := by
  rw [h, List.drop_eq_getElem_cons h1, List.drop_eq_getElem_cons h2]
  have e : l[i] ≠ r[i] := fun e => hne (by rw [e])
  have e2 : l[i] < r[i] := by rw [UInt8.lt_iff_toNat_lt]; omega
  simp [cmpB, e, e2]
theorem cmpB_ne' (h1 : i < l.length) (h2 : i < r.length) (h : cmpB l r = cmpB (l.drop i) (r.drop i)) (hne : ((l[i].toNat : Int) ≠ (r[i].toNat : Int))) (hlt : ¬ ((l[i].toNat : Int) < (r[i].toNat : Int))) : cmpB l r = 1 := by
  rw [h, List.drop_eq_getElem_cons h1, List.drop_eq_getElem_cons h2]
  have e : l[i] ≠ r[i] := fun e => hne (by rw [e])
  have e2 : ¬ l[i] < r[i] := by rw [UInt8.lt_iff_toNat_lt]; omega
  simp [cmpB, e, e2]
theorem cmpB_go (h1 : i < l.length) (h2 : i < r.length) (h : cmpB l r = cmpB (l.drop i) (r.drop i)) (he : ¬ ((l[i].toNat : Int) ≠ (r[i].toNat : Int))) : cmpB l r = cmpB (l.drop (i + 1)) (r.drop (i + 1)) := by
  rw [h, List.drop_eq_getElem_cons h1, List.drop_eq_getElem_cons h2]
  have e : l[i] = r[i] := UInt8.toNat_inj.1 (by omega)
  simp [cmpB, e]
theorem cmpB_end_lt (h : cmpB l r = cmpB (l.drop i) (r.drop i)) (_hi : i ≤ l.length) (_hi2 : i ≤ r.length) (he : ¬ ((i : Int) < (l.length : Int) ∧ (i : Int) < (r.length : Int))) (hlt : (l.length : Int) < (r.length : Int)) : cmpB l r = -1 := by
  have : i = l.length := by omega
  subst this
  rw [h, List.drop_length, List.drop_eq_getElem_cons (show l.length < r.length by omega)]
  rfl
theorem cmpB_end_gt (h : cmpB l r = cmpB (l.drop i) (r.drop i)) (_hi : i ≤ l.length) (_hi2 : i ≤ r.length) (he : ¬ ((i : Int) < (l.length : Int) ∧ (i : Int) < (r.length : Int))) (hlt : (r.length : Int) < (l.length : Int)) : cmpB l r = 1 := by
  have : i = r.length := by omega
  subst this
  rw [h, List.drop_length, List.drop_eq_getElem_cons (show r.length < l.length by omega)]
  rfl
theorem cmpB_end_eq (h : cmpB l r = cmpB (l.drop i) (r.drop i)) (_hi : i ≤ l.length) (_hi2 : i ≤ r.length) (he : ¬ ((i : Int) < (l.length : Int) ∧ (i : Int) < (r.length : Int))) (h1 : ¬ (l.length : Int) < (r.length : Int)) (h2 : ¬ (r.length : Int) < (l.length : Int)) : cmpB l r = 0 := by
  have e1 : i = r.length := by omega
  have e2 : r.length = l.length := by omega
  rw [h, e1, List.drop_length, e2, List.drop_length]
  rfl
end step

section untouched
variable {l r : List UInt8}
theorem unt_1 (h : ¬ ((l.length : Int) = (r.length : Int) + 2)) : false = decide (l = r ++ [165, 90]) := by
  symm; rw [decide_eq_false_iff_not]; intro e; apply h; rw [e]; simp
theorem unt_2 (h : ¬ l.take r.length = r) : false = decide (l = r ++ [165, 90]) := by
  symm; rw [decide_eq_false_iff_not]; intro e; apply h; rw [e]; simp
theorem unt_3 (hj : r.length < l.length) (h : ¬ (((l[r.length]'hj).toNat : Int) = 165)) : false = decide (l = r ++ [165, 90]) := by
  symm; rw [decide_eq_false_iff_not]; intro e; apply h; subst e; simp
theorem unt_4 (h1 : (l.length : Int) = (r.length : Int) + 2) (h2 : l.take r.length = r) (hj : r.length < l.length) (h3 : ((l[r.length]'hj).toNat : Int) = 165) (hj' : r.length + 1 < l.length) :
    decide (((l[r.length + 1]'hj').toNat : Int) = 90) = decide (l = r ++ [165, 90]) := by
  have e : l = r ++ [l[r.length], l[r.length + 1]] := by
    apply List.ext_getElem
    · simp; omega
    · intro i h h'
      by_cases hi : i < r.length
      · rw [List.getElem_append_left hi]
        have : (l.take r.length)[i]? = r[i]? := by rw [h2]
        rw [List.getElem?_take, if_pos hi, List.getElem?_eq_getElem h, List.getElem?_eq_getElem hi] at this
        exact Option.some.inj this
      · rw [List.getElem_append_right (by omega)]
        have : i = r.length ∨ i = r.length + 1 := by omega
        rcases this with rfl | rfl
        · simp
        · simp
  have h3' : l[r.length] = 165 := UInt8.toNat_inj.1 (by simpa using (by omega : (l[r.length]).toNat = 165))
  by_cases h4 : ((l[r.length + 1]'hj').toNat : Int) = 90
  · have h4' : l[r.length + 1] = 90 := UInt8.toNat_inj.1 (by simpa using (by omega : (l[r.length + 1]).toNat = 90))
    rw [h3', h4'] at e
    rw [decide_eq_true h4, decide_eq_true e]
  · have : ¬ l = r ++ [165, 90] := fun e2 => h4 (by subst e2; simp)
    simp [h4, this]
end untouched

/-! ### numbers as bytes -/
theorem wrap_u8_nat (n : Nat) : IntKind.u8.wrap (n : Int) = ((n % 256 : Nat) : Int) := by
  simp only [IntKind.wrap, IntKind.bits, IntKind.signed]; simp
theorem wrap_u32_nat (n : Nat) : IntKind.u32.wrap (n : Int) = ((n % 4294967296 : Nat) : Int) := by
  simp only [IntKind.wrap, IntKind.bits, IntKind.signed]; simp
theorem wrap_u64_nat (n : Nat) : IntKind.u64.wrap (n : Int) = ((n % 18446744073709551616 : Nat) : Int) := by
  simp only [IntKind.wrap, IntKind.bits, IntKind.signed]; simp
theorem B_ofNat (n : Nat) : B (UInt8.ofNat n) = .int .u8 ((n % 256 : Nat) : Int) := by simp [B]
theorem int_B {m : Int} {x : UInt8} (h : m = (x.toNat : Int)) : Value.int .u8 m = B x := by rw [h]
theorem fdiv_nat (n k : Nat) : ((n : Int).fdiv (2 ^ k)) = ((n / 2 ^ k : Nat) : Int) := by
  have h0 : (0 : Int) ≤ 2 ^ k := Int.le_of_lt (Int.pow_pos (by decide))
  rw [Int.fdiv_eq_ediv_of_nonneg _ h0]
  simp
end Go.Own
