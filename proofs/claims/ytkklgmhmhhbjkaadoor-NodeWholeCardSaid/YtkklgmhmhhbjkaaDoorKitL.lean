/-
  OWN LIBRARY, part 12: for the reference's SHA-256: a word byte by byte.
-/
import Derived.Test.YtkklgmhmhhbjkaaDoorKitK
namespace Go.Own
open Go
theorem w32_mul (x : W32) : IntKind.u32.wrap ((x.toNat : Int) * 256) = ((x * 256).toNat : Int) := by
  have : ((x.toNat : Int) * 256) = ((x.toNat * 256 : Nat) : Int) := by omega
  rw [this, wrap_u32_nat, BitVec.toNat_mul]
  rfl
/-- a block's word, its first i bytes taken -/
def mpart (b : Nat → UInt8) (t : Nat) : Nat → W32
  | 0 => 0
  | i + 1 => mpart b t i * 256 + bw (b (4 * t + i))
theorem mpart_four (b : Nat → UInt8) (t : Nat) : mpart b t 4 = mw b t := by
  apply BitVec.eq_of_toNat_eq
  have h0 := (b (4 * t)).toNat_lt
  have h1 := (b (4 * t + 1)).toNat_lt
  have h2 := (b (4 * t + 2)).toNat_lt
  have h3 := (b (4 * t + 3)).toNat_lt
  have e : (mw b t).toNat = (b (4 * t)).toNat * 16777216 + ((b (4 * t + 1)).toNat * 65536 + ((b (4 * t + 2)).toNat * 256 + (b (4 * t + 3)).toNat)) := by
    simp only [mw, BitVec.toNat_or, BitVec.toNat_shiftLeft, bw_toNat]
    have e0 : (b (4 * t)).toNat <<< 24 % 2 ^ 32 = (b (4 * t)).toNat <<< 24 := Nat.mod_eq_of_lt (by rw [Nat.shiftLeft_eq]; omega)
    have e1 : (b (4 * t + 1)).toNat <<< 16 % 2 ^ 32 = (b (4 * t + 1)).toNat <<< 16 := Nat.mod_eq_of_lt (by rw [Nat.shiftLeft_eq]; omega)
    have e2 : (b (4 * t + 2)).toNat <<< 8 % 2 ^ 32 = (b (4 * t + 2)).toNat <<< 8 := Nat.mod_eq_of_lt (by rw [Nat.shiftLeft_eq]; omega)
    rw [e0, e1, e2, Nat.or_assoc, Nat.or_assoc, ← Nat.shiftLeft_add_eq_or_of_lt (by omega : (b (4 * t + 3)).toNat < 2 ^ 8)]
    rw [← Nat.shiftLeft_add_eq_or_of_lt (by rw [Nat.shiftLeft_eq]; omega : (b (4 * t + 2)).toNat <<< 8 + (b (4 * t + 3)).toNat < 2 ^ 16)]
    rw [← Nat.shiftLeft_add_eq_or_of_lt (by rw [Nat.shiftLeft_eq, Nat.shiftLeft_eq]; omega : (b (4 * t + 1)).toNat <<< 16 + ((b (4 * t + 2)).toNat <<< 8 + (b (4 * t + 3)).toNat) < 2 ^ 24)]
    simp only [Nat.shiftLeft_eq]
  rw [e]
  simp only [mpart, BitVec.toNat_add, BitVec.toNat_mul, bw_toNat, Nat.add_zero]
  have z : (0 : W32).toNat = 0 := rfl
  have c : (256 : W32).toNat = 256 := rfl
  rw [z, c]
  omega
/-- the table of words while the t-th is put together -/
def wP (m : Nat → W32) (t : Nat) (x : W32) : List W32 := (wS m t).set t x
theorem wP_length (m : Nat → W32) (t : Nat) (x : W32) : (wP m t x).length = 64 := by simp [wP, wS_length]
theorem wP_zero (m : Nat → W32) {t : Nat} (h : t < 64) : wP m t 0 = wS m t := by
  apply List.ext_getElem?
  intro i
  rw [wP, List.getElem?_set]
  by_cases hti : t = i
  · subst hti
    simp [wS, h]
  · rw [if_neg hti]
theorem wP_get (m : Nat → W32) {t : Nat} (x : W32) (h : t < 64) : ((wP m t x).map U)[t]? = some (U x) := by
  have : t < (wS m t).length := by rw [wS_length]; exact h
  simp [wP, this]
theorem wP_set (m : Nat → W32) (t : Nat) (x y : W32) : ((wP m t x).map U).set t (U y) = (wP m t y).map U := by
  rw [← List.map_set, wP, List.set_set]; rfl
theorem wP_end (m : Nat → W32) {t : Nat} (h : t < 64) : (wP m t (wd m t)).map U = (wS m (t + 1)).map U := by
  rw [← wS_set m h rfl, wP, List.map_set]
end Go.Own
