/-
  OWN LIBRARY, part 13: padding, the digest's bytes; lengths of vectors.
-/
import Derived.Test.YtkklgmhmhhbjkaaDoorKitL
namespace Go.Own
open Go
/-- how many zeros SHA-256 pads with -/
def zc (n : Nat) : Nat := (119 - n % 64) % 64
def l8 (q k : Nat) : List UInt8 := (List.range k).map fun i => UInt8.ofNat (q / 2 ^ (56 - 8 * i))
theorem l8_succ (q k : Nat) : l8 q (k + 1) = l8 q k ++ [UInt8.ofNat (q / 2 ^ (56 - 8 * k))] := by simp [l8, List.range_succ]
@[simp] theorem l8_length (q k : Nat) : (l8 q k).length = k := by simp [l8]
def prePad (l : List UInt8) (z : Nat) : List UInt8 := l ++ (128 :: List.replicate z 0)
theorem prePad_succ (l : List UInt8) (z : Nat) : prePad l (z + 1) = prePad l z ++ [0] := by simp [prePad, List.replicate_succ']
@[simp] theorem prePad_length (l : List UInt8) (z : Nat) : (prePad l z).length = l.length + 1 + z := by simp [prePad]; omega
def padded (l : List UInt8) : List UInt8 := prePad l (zc l.length) ++ l8 (l.length * 8) 8
theorem padded_length (l : List UInt8) : (padded l).length = l.length + 9 + zc l.length := by simp [padded]; omega
theorem padded_blocks (l : List UInt8) : ∃ N, (padded l).length = 64 * N := by
  refine ⟨(padded l).length / 64, ?_⟩
  rw [padded_length]; unfold zc; omega
def outB (s : S8) : List UInt8 := (List.range 32).map fun i => lowB (s.list.getD (i / 4) 0 >>> (24 - 8 * (i % 4)))
@[simp] theorem outB_length (s : S8) : (outB s).length = 32 := by simp [outB]
def oS (s : S8) (i : Nat) : List UInt8 := (outB s).take i ++ (List.replicate 32 (0 : UInt8)).drop i
theorem oS_zero (s : S8) : (oS s 0).map B = List.replicate 32 (.int .u8 0) := by
  simp only [oS, List.take_zero, List.drop_zero, List.nil_append, List.map_replicate]
  rfl
theorem oS_length (s : S8) {i : Nat} (h : i ≤ 32) : (oS s i).length = 32 := by simp [oS]; omega
theorem oS_end (s : S8) : oS s 32 = outB s := by
  unfold oS
  rw [List.take_of_length_le (by simp), List.drop_of_length_le (by simp), List.append_nil]
theorem oS_set (s : S8) {i : Nat} (h : i < 32) {x : UInt8} (hx : x = lowB (s.list.getD (i / 4) 0 >>> (24 - 8 * (i % 4)))) : ((oS s i).map B).set i (B x) = (oS s (i + 1)).map B := by
  subst hx
  rw [← List.map_set]
  congr 1
  exact take_drop_step _ _ _ _ (by simpa using h) (by simp [outB, h])
/-- SHA-256 -/
def sha (l : List UInt8) : List UInt8 := outB (shaN (padded l) ((padded l).length / 64))
@[simp] theorem sha_length (l : List UInt8) : (sha l).length = 32 := by simp [sha]
theorem tmod_nat (n k : Nat) : ((n : Int)).tmod (k : Int) = ((n % k : Nat) : Int) := by
  rw [Int.tmod_eq_emod_of_nonneg (by omega)]; rfl
theorem tdiv_nat (n k : Nat) : ((n : Int)).tdiv (k : Int) = ((n / k : Nat) : Int) := by
  rw [Int.tdiv_eq_ediv_of_nonneg (by omega)]; rfl
theorem conv_u8n (n : Nat) : IntKind.u8.wrap (n : Int) = ((UInt8.ofNat n).toNat : Int) := by
  rw [wrap_u8_nat]; simp
theorem shr64 (q k : Nat) (i : Int) (hi : i = (k : Int)) (hk : k ≤ 64) : (q : Int).fdiv (2 ^ (min i.toNat IntKind.u64.bits)) = ((q / 2 ^ k : Nat) : Int) := by
  subst hi
  have e : min (k : Int).toNat IntKind.u64.bits = k := by simp [IntKind.bits]; omega
  rw [e, fdiv_nat]
section ops
variable {P : Program} {S : World} {hf : Hp} {L : Res} {n : Nat} {E : List (Nat × Value)} {a : Act} {w : World} {v u : Value} {b o : Nat}
  {dst : Option Tmp} {ty : TypeId} {pos : String} {after : Array Edge} {g : Option (Nat × Bool)} {x y : Operand} {T : TypeId} {k : IntKind} {m : Int}
theorem p_lenV {l s : Nat} {xs : List Value} {Lv : Res} {e : TypeId} (ht : P.underlying T = some (.slice e)) (h : St S hf L n E a w) (hx : ev E x = some v) (hv : Vec e s v l xs Lv) :
    Pure P ⟨dst, .call { callee := .builtin .len, args := #[x], argTypes := #[T] }, ty, pos, after, g⟩ a w (.int .i64 l) := by
  obtain ⟨ad, c, rfl⟩ := hv.len
  exact p_len ht h hx
end ops
theorem Vec.byts {hf : Hp} {T : TypeId} {n : Nat} {v : Value} {xs : List UInt8} {Lv : Res} (hv : Vec T 1 v n (xs.map B) Lv) (hn : n = xs.length) (hb : ∀ b o, (b, o) ∈ Lv → hf b = some o) : Byts hf v xs := by
  subst hn
  exact hv.sl hb
end Go.Own
