/-
  OWN LIBRARY, part 10: words of 32 bits; SHA-256 as plain functions.
-/
import Derived.Test.YtkklgmhmhhbjkaaDoorKitI
namespace Go.Own
open Go

abbrev W32 := BitVec 32
abbrev U (x : W32) : Value := .int .u32 (x.toNat : Int)
theorem w32_lt (x : W32) : x.toNat < 4294967296 := x.isLt
theorem w32_self (x : W32) : IntKind.u32.wrap (x.toNat : Int) = (x.toNat : Int) := by
  rw [wrap_u32_nat, Nat.mod_eq_of_lt (w32_lt x)]
theorem w32_add (x y : W32) : IntKind.u32.wrap ((x.toNat : Int) + (y.toNat : Int)) = ((x + y).toNat : Int) := by
  rw [← Int.natCast_add, wrap_u32_nat, BitVec.toNat_add]
theorem w32_ofInt (x : W32) : BitVec.ofInt 32 (x.toNat : Int) = x := by
  rw [BitVec.ofInt_natCast]; simp
theorem w32_xor (x y : W32) : bits .xor .u32 (x.toNat : Int) (y.toNat : Int) = ((x ^^^ y).toNat : Int) := by
  show IntKind.u32.wrap (((BitVec.ofInt 32 (x.toNat : Int)) ^^^ (BitVec.ofInt 32 (y.toNat : Int))).toNat : Int) = _
  rw [w32_ofInt, w32_ofInt, w32_self]
theorem w32_and (x y : W32) : bits .and .u32 (x.toNat : Int) (y.toNat : Int) = ((x &&& y).toNat : Int) := by
  show IntKind.u32.wrap (((BitVec.ofInt 32 (x.toNat : Int)) &&& (BitVec.ofInt 32 (y.toNat : Int))).toNat : Int) = _
  rw [w32_ofInt, w32_ofInt, w32_self]
theorem w32_or (x y : W32) : bits .or .u32 (x.toNat : Int) (y.toNat : Int) = ((x ||| y).toNat : Int) := by
  show IntKind.u32.wrap (((BitVec.ofInt 32 (x.toNat : Int)) ||| (BitVec.ofInt 32 (y.toNat : Int))).toNat : Int) = _
  rw [w32_ofInt, w32_ofInt, w32_self]
theorem w32_compl (x : W32) : bits .xor .u32 (if IntKind.u32.signed then -1 else IntKind.u32.max) (x.toNat : Int) = ((~~~x).toNat : Int) := by
  have e : (if IntKind.u32.signed then -1 else IntKind.u32.max) = (((BitVec.allOnes 32 : W32).toNat : Nat) : Int) := by decide
  rw [e, w32_xor, BitVec.allOnes_xor]
theorem w32_shl (x : W32) (k : Nat) (i : Int) (hi : i = (k : Int)) (hk : k ≤ 32) : IntKind.u32.wrap ((x.toNat : Int) * 2 ^ (min i.toNat IntKind.u32.bits)) = ((x <<< k).toNat : Int) := by
  subst hi
  have e : min (k : Int).toNat IntKind.u32.bits = k := by simp [IntKind.bits]; omega
  rw [e, BitVec.toNat_shiftLeft, Nat.shiftLeft_eq, ← wrap_u32_nat]
  congr 1
theorem w32_shr (x : W32) (k : Nat) (i : Int) (hi : i = (k : Int)) (hk : k ≤ 32) : (x.toNat : Int).fdiv (2 ^ (min i.toNat IntKind.u32.bits)) = ((x >>> k).toNat : Int) := by
  subst hi
  have e : min (k : Int).toNat IntKind.u32.bits = k := by simp [IntKind.bits]; omega
  rw [e, fdiv_nat, BitVec.toNat_ushiftRight, Nat.shiftRight_eq_div_pow]
/-- a byte as a word -/
def bw (x : UInt8) : W32 := BitVec.ofNat 32 x.toNat
theorem bw_toNat (x : UInt8) : (bw x).toNat = x.toNat := by
  have := x.toNat_lt
  simp [bw]
theorem w32_byte (x : UInt8) : IntKind.u32.wrap (x.toNat : Int) = ((bw x).toNat : Int) := by
  have := x.toNat_lt
  rw [bw_toNat, wrap_u32_nat, Nat.mod_eq_of_lt (by omega)]
/-- a word's low byte -/
def lowB (x : W32) : UInt8 := UInt8.ofNat x.toNat
theorem u8_word (x : W32) : IntKind.u8.wrap (x.toNat : Int) = ((lowB x).toNat : Int) := by
  rw [wrap_u8_nat]; simp [lowB]

def rotr (x : W32) (k : Nat) : W32 := (x <<< (32 - k)) ||| (x >>> k)
theorem rotr_comm (x : W32) (k : Nat) : (x >>> k) ||| (x <<< (32 - k)) = rotr x k := BitVec.or_comm _ _
def sg0 (x : W32) : W32 := rotr x 7 ^^^ rotr x 18 ^^^ (x >>> 3)
def sg1 (x : W32) : W32 := rotr x 17 ^^^ rotr x 19 ^^^ (x >>> 10)
def wd (m : Nat → W32) (t : Nat) : W32 := if t < 16 then m t else wd m (t - 16) + sg0 (wd m (t - 15)) + wd m (t - 7) + sg1 (wd m (t - 2))
termination_by t
decreasing_by all_goals omega
theorem wd_lo (m : Nat → W32) {t : Nat} (h : t < 16) : wd m t = m t := by rw [wd, if_pos h]
theorem wd_hi (m : Nat → W32) {t : Nat} (h : ¬ t < 16) : wd m t = wd m (t - 16) + sg0 (wd m (t - 15)) + wd m (t - 7) + sg1 (wd m (t - 2)) := by rw [wd, if_neg h]
structure S8 where
  a : W32
  b : W32
  c : W32
  d : W32
  e : W32
  f : W32
  g : W32
  h : W32
def S8.list (s : S8) : List W32 := [s.a, s.b, s.c, s.d, s.e, s.f, s.g, s.h]
theorem S8.list_length (s : S8) : s.list.length = 8 := rfl
def chf (e f g : W32) : W32 := g ^^^ (e &&& (f ^^^ g))
def maf (a b c : W32) : W32 := (a &&& b) ||| (c &&& (a ||| b))
theorem chf_ref (e f g : W32) : (e &&& f) ^^^ (~~~e &&& g) = chf e f g := by
  apply BitVec.eq_of_getLsbD_eq
  intro i hi
  simp only [chf, BitVec.getLsbD_xor, BitVec.getLsbD_and, BitVec.getLsbD_not, hi, decide_true, Bool.true_and]
  cases e.getLsbD i <;> cases f.getLsbD i <;> cases g.getLsbD i <;> rfl
theorem maf_ref (a b c : W32) : (a &&& b) ^^^ (a &&& c) ^^^ (b &&& c) = maf a b c := by
  apply BitVec.eq_of_getLsbD_eq
  intro i hi
  simp only [maf, BitVec.getLsbD_xor, BitVec.getLsbD_and, BitVec.getLsbD_or]
  cases a.getLsbD i <;> cases b.getLsbD i <;> cases c.getLsbD i <;> rfl
def bs1 (e : W32) : W32 := rotr e 6 ^^^ rotr e 11 ^^^ rotr e 25
def bs0 (a : W32) : W32 := rotr a 2 ^^^ rotr a 13 ^^^ rotr a 22
def t1 (k w : W32) (s : S8) : W32 := s.h + bs1 s.e + chf s.e s.f s.g + k + w
def t2 (s : S8) : W32 := bs0 s.a + maf s.a s.b s.c
def rnd (k w : W32) (s : S8) : S8 := ⟨t1 k w s + t2 s, s.a, s.b, s.c, s.d + t1 k w s, s.e, s.f, s.g⟩
def rnds (k w : Nat → W32) (s : S8) : Nat → S8
  | 0 => s
  | t + 1 => rnd (k t) (w t) (rnds k w s t)
def S8.add (s v : S8) : S8 := ⟨s.a + v.a, s.b + v.b, s.c + v.c, s.d + v.d, s.e + v.e, s.f + v.f, s.g + v.g, s.h + v.h⟩
theorem S8.add_comm (s v : S8) : S8.add s v = S8.add v s := by
  simp only [S8.add, BitVec.add_comm]
def KT : List Nat := [0x428a2f98, 0x71374491, 0xb5c0fbcf, 0xe9b5dba5, 0x3956c25b, 0x59f111f1, 0x923f82a4, 0xab1c5ed5, 0xd807aa98, 0x12835b01, 0x243185be, 0x550c7dc3, 0x72be5d74, 0x80deb1fe, 0x9bdc06a7, 0xc19bf174, 0xe49b69c1, 0xefbe4786, 0x0fc19dc6, 0x240ca1cc, 0x2de92c6f, 0x4a7484aa, 0x5cb0a9dc, 0x76f988da, 0x983e5152, 0xa831c66d, 0xb00327c8, 0xbf597fc7, 0xc6e00bf3, 0xd5a79147, 0x06ca6351, 0x14292967, 0x27b70a85, 0x2e1b2138, 0x4d2c6dfc, 0x53380d13, 0x650a7354, 0x766a0abb, 0x81c2c92e, 0x92722c85, 0xa2bfe8a1, 0xa81a664b, 0xc24b8b70, 0xc76c51a3, 0xd192e819, 0xd6990624, 0xf40e3585, 0x106aa070, 0x19a4c116, 0x1e376c08, 0x2748774c, 0x34b0bcb5, 0x391c0cb3, 0x4ed8aa4a, 0x5b9cca4f, 0x682e6ff3, 0x748f82ee, 0x78a5636f, 0x84c87814, 0x8cc70208, 0x90befffa, 0xa4506ceb, 0xbef9a3f7, 0xc67178f2]
def kt (t : Nat) : W32 := BitVec.ofNat 32 (KT.getD t 0)
/-- the table of rounds as cells -/
def ktV : List Value := (List.range 64).map fun t => U (kt t)
theorem ktV_eq : ktV = KT.map fun (z : Nat) => Value.int .u32 (z : Int) := by kernel_rfl
def s8init : S8 := ⟨0x6a09e667, 0xbb67ae85, 0x3c6ef372, 0xa54ff53a, 0x510e527f, 0x9b05688c, 0x1f83d9ab, 0x5be0cd19⟩
/-- the words of a block -/
def mw (b : Nat → UInt8) (t : Nat) : W32 := (bw (b (4 * t)) <<< 24) ||| (bw (b (4 * t + 1)) <<< 16) ||| (bw (b (4 * t + 2)) <<< 8) ||| bw (b (4 * t + 3))
def comp (s : S8) (b : Nat → UInt8) : S8 := S8.add s (rnds kt (wd (mw b)) s 64)
def shaN (l : List UInt8) : Nat → S8
  | 0 => s8init
  | n + 1 => comp (shaN l n) (fun i => l.getD (64 * n + i) 0)

theorem rot_and (n : Nat) (h1 : 1 ≤ n) (h2 : n ≤ 31) : bits .and .u64 (18446744073709551616 - (n : Int)) 31 = 32 - (n : Int) := by
  have h : ∀ k : Fin 32, 1 ≤ k.val → bits .and .u64 (18446744073709551616 - (k.val : Int)) 31 = 32 - (k.val : Int) := by decide +kernel
  exact h ⟨n, by omega⟩ h1
section ops
variable {P : Program} {S : World} {hf : Hp} {L : Res} {n : Nat} {E : List (Nat × Value)} {a : Act} {w : World} {v u : Value} {b o : Nat}
  {dst : Option Tmp} {ty : TypeId} {pos : String} {after : Array Edge} {g : Option (Nat × Bool)} {x y : Operand} {T : TypeId} {k : IntKind} {m : Int}
/-- an element of an array's value -/
theorem p_indexV {cs : List Value} {e : TypeId} {l j : Nat} (hT : P.underlying T = some (.array l e)) (hs : ∀ w, (sizeOf e).run P w = .ok 1 w) (ha : ∀ w, (isAgg e).run P w = .ok false w)
    (h : St S hf L n E a w) (hx : ev E x = some (.agg cs.toArray)) (hi : ev E y = some (.int k m)) (hj : m = (j : Int)) (hlt : j < l) (hc : cs[j]? = some v) : Pure P ⟨dst, .index T x y, ty, pos, after, g⟩ a w v := by
  subst hj
  simp [Pure, execOp, h.env.ev hx, h.env.ev hi, Instr.index, run_underlying hT, asIntOf, hlt, hs, part, ha, hc]
theorem p_minI {i : Int} {tys : Array TypeId} (h : St S hf L n E a w) (hx : ev E x = some (.int k m)) (hy : ev E y = some (.int k i)) {r : Int} (hr : (if i < m then i else m) = r) :
    Pure P ⟨dst, .call { callee := .builtin .min, args := #[x, y], argTypes := tys }, ty, pos, after, g⟩ a w (.int k r) := by
  subst hr
  simp [Pure, execOp, resolve, invoke, builtin, h.env.ev hx, h.env.ev hy, run_min_int2]
/-- a result that lies in a cell -/
theorem finC {fn : Func} {R : Ending → World → Prop} {e : Exit} (he : e = .ret ∨ e = .normal) (h : St S hf L n E a w) {t : Nat} {vs : List Value} (hr : fn.results = #[.cell t T]) (hT : ∀ w, (isAgg T).run P w = .ok true w) (hz : ∀ w, (sizeOf T).run P w = .ok vs.length w)
    (hv : look E t = some (ptr b o)) (hc : Cels S hf L b o vs) (k : R (.returned (.agg vs.toArray)) w) : bodyPost P fn R e a w := by
  have e1 : a.tmps[t]?.getD undef = ptr b o := by simp [h.env.get t _ hv]
  have e2 := run_loadCells_list (P := P) w ⟨b, o, none⟩ vs (hc.at h.own)
  have e3 : (results fn a.tmps).run P w = .ok (.agg vs.toArray) w := by
    simp [results, hr, e1, asAddr, loadVar, hT, hz, e2]
  rcases he with rfl | rfl <;> exact ⟨h.env.defers, _, e3, k⟩
end ops
end Go.Own
