/-
  OWN LIBRARY, part 19: labels of towers, plainly.
-/
import Derived.Test.YtkklgmhmhhbjkaaDoorKitQ
namespace Go.Own
open Go
def ownL (t : TowP) : List UInt8 := if t.head then sha headText else sha (leafText t.key t.sum)
def pairK (k : KidP) (s : List UInt8) : List UInt8 := sha (pairText k.lvl k.key k.cnt k.label s)
/-- a label, of the kids from the j-th on that are asked for -/
def labP (only : KidP → Bool) (t : TowP) (j : Nat) : List UInt8 := (t.kids.drop j).foldr (fun k s => if only k then pairK k s else s) (ownL t)
@[simp] theorem ownL_length (t : TowP) : (ownL t).length = 32 := by unfold ownL; split <;> simp
@[simp] theorem pairK_length (k : KidP) (s : List UInt8) : (pairK k s).length = 32 := by simp [pairK]
@[simp] theorem labP_length (only : KidP → Bool) (t : TowP) (j : Nat) : (labP only t j).length = 32 := by
  unfold labP
  induction t.kids.drop j with
  | nil => simp
  | cons k r ih => simp only [List.foldr_cons]; split <;> simp [ih]
theorem lab_full (only : KidP → Bool) (t : TowP) : labP only t t.kids.length = ownL t := by simp [labP]
theorem lab_step (only : KidP → Bool) {t : TowP} {j : Nat} (hj : 0 < j) (hn : j ≤ t.kids.length) : labP only t (j - 1) = if only (kidAt t.kids (j - 1)) then pairK (kidAt t.kids (j - 1)) (labP only t j) else labP only t j := by
  have h1 : j - 1 < t.kids.length := by omega
  have e : t.kids.drop (j - 1) = kidAt t.kids (j - 1) :: t.kids.drop j := by
    rw [List.drop_eq_getElem_cons h1, show j - 1 + 1 = j by omega]
    have := kidAt_get h1
    rw [List.getElem?_eq_getElem h1] at this
    rw [Option.some.inj this]
  unfold labP
  rw [e, List.foldr_cons]
theorem lab_yes {only : KidP → Bool} {t : TowP} {j : Nat} (hj : 0 < j) (hn : j ≤ t.kids.length) (h : only (kidAt t.kids (j - 1)) = true) : pairK (kidAt t.kids (j - 1)) (labP only t j) = labP only t (j - 1) := by
  rw [lab_step only hj hn, if_pos h]
theorem lab_no {only : KidP → Bool} {t : TowP} {j : Nat} (hj : 0 < j) (hn : j ≤ t.kids.length) (h : only (kidAt t.kids (j - 1)) = false) : labP only t j = labP only t (j - 1) := by
  rw [lab_step only hj hn, if_neg (by rw [h]; decide)]
theorem lab_false (t : TowP) (j : Nat) : labP (fun _ => false) t j = ownL t := by
  unfold labP
  induction t.kids.drop j with
  | nil => rfl
  | cons k r ih => simpa using ih
theorem own_headL {t : TowP} (h : t.head = true) : ownL t = sha headText := by simp [ownL, h]
theorem own_tailL {t : TowP} (h : t.head = false) : ownL t = sha (leafText t.key t.sum) := by simp [ownL, h]
theorem lab_zero (only : KidP → Bool) {t : TowP} (h : ¬ (0 : Int) < (t.kids.length : Int)) : labP only t 0 = ownL t := by
  have : t.kids.length = 0 := by omega
  rw [← lab_full only t, this]
end Go.Own
