/-
  The permutation of the hash as plain functions on lists of 25 numbers, as each of the two texts does it.
  The reference's permutation as plain functions on lists of 25 numbers.
  The two permutations are one: plain law on lists of 25 numbers.
-/
import Derived.Test.YtfflppedbopdpaaGreatXNum
import Derived.KernelRfl
set_option linter.unusedVariables false
set_option linter.unusedSimpArgs false
namespace Go.Mun
open Go.RowKit

def rotl (x : Int) (k : Nat) : Int := bits .or .u64 (IntKind.u64.wrap (x * 2 ^ k)) (x / 2 ^ (64 - k))
def at64 (L : List Int) (i : Nat) : Int := L.getD i 0
def thC (L : List Int) (x : Nat) : Int :=
 bits .xor .u64 (bits .xor .u64 (bits .xor .u64 (bits .xor .u64 (at64 L x) (at64 L (x + 5))) (at64 L (x + 10))) (at64 L (x + 15))) (at64 L (x + 20))
def thD (C : List Int) (x : Nat) : Int := bits .xor .u64 (at64 C ((x + 4) % 5)) (rotl (at64 C ((x + 1) % 5)) 1)
def partL (n : Nat) (f : Nat → Int) (i : Nat) : List Int := (List.range n).map fun k => if k < i then f k else 0
theorem partL_set (n : Nat) (f : Nat → Int) (i : Nat) (v : Int) (hv : v = f i) : (partL n f i).set i v = partL n f (i + 1) := by
 subst hv
 apply List.ext_getElem (by simp [partL])
 intro j h1 h2
 simp only [partL, List.getElem_set, List.getElem_map, List.getElem_range]
 by_cases h : i = j
 ·subst h; simp
 ·rw [if_neg h]
  by_cases h3 : j < i
  ·rw [if_pos h3, if_pos (by omega)]
  ·rw [if_neg h3, if_neg (by omega)]
def turnL : List Nat := [0, 1, 62, 28, 27, 36, 44, 6, 55, 20, 3, 10, 43, 25, 39, 41, 45, 15, 21, 8, 18, 2, 61, 56, 14]
def rhoPi (L D : List Int) : Nat → List Int
 | 0 => List.replicate 25 0
 | k + 1 => (rhoPi L D k).set (k / 5 + 5 * ((2 * (k % 5) + 3 * (k / 5)) % 5)) (rotl (bits .xor .u64 (at64 L k) (at64 D (k % 5))) (turnL.getD k 0))
def chiAt (b : List Int) (k : Nat) : Int :=
 bits .xor .u64 (at64 b k) (bits .and .u64 (bits .xor .u64 18446744073709551615 (at64 b ((k % 5 + 1) % 5 + k / 5 * 5))) (at64 b ((k % 5 + 2) % 5 + k / 5 * 5)))
def chiL (b L : List Int) (k : Nat) : List Int := (List.range 25).map fun i => if i < k then chiAt b i else at64 L i
def roundP (L : List Int) (rc : Int) : List Int :=
 let C := (List.range 5).map (thC L)
 let D := (List.range 5).map (thD C)
 let b := rhoPi L D 25
 let c := (List.range 25).map (chiAt b)
 c.set 0 (bits .xor .u64 (at64 c 0) rc)
end Go.Mun
namespace Go.Mun
open Go.RowKit

def thL (A C : List Int) (x j : Nat) : List Int :=
 (List.range 25).map fun i => if i % 5 < x ∨ i % 5 = x ∧ i / 5 < j then bits .xor .u64 (at64 A i) (thD C (i % 5)) else at64 A i
structure RP where
 A : List Int
 x : Nat
 y : Nat
 cur : Int
def rpStep (t : Nat) (s : RP) : RP :=
 ⟨s.A.set (s.y + 5 * ((2 * s.x + 3 * s.y) % 5)) (rotl s.cur ((t + 1) * (t + 2) / 2 % 64)), s.y, (2 * s.x + 3 * s.y) % 5, at64 s.A (s.y + 5 * ((2 * s.x + 3 * s.y) % 5))⟩
def rp (A : List Int) : Nat → RP
 | 0 => ⟨A, 1, 0, at64 A 1⟩
 | t + 1 => rpStep t (rp A t)
def nextS (s : Nat) : Nat := (2 * s % 256) ^^^ (if 128 ≤ s then 113 else 0)
def iotaR (v : Int) (s : Nat) : Nat → Int × Nat
 | 0 => (v, s)
 | j + 1 => let p := iotaR v s j; (if p.2 % 2 = 1 then bits .xor .u64 p.1 (2 ^ (2 ^ j - 1) : Nat) else p.1, nextS p.2)
def chiR (b : List Int) (k : Nat) : List Int := (List.range 25).map fun i => if i < k then chiAt b i else at64 b i
def roundR (A : List Int) (s : Nat) : List Int × Nat :=
 let C := (List.range 5).map (thC A)
 let B := (rp (thL A C 5 0) 24).A
 let X := chiR B 25
 let p := iotaR (at64 X 0) s 7
 (X.set 0 p.1, p.2)
end Go.Mun
namespace Go.Mun
open Go.RowKit

def rhoT (T : List Int) : Nat → List Int
 | 0 => List.replicate 25 0
 | k + 1 => (rhoT T k).set (k / 5 + 5 * ((2 * (k % 5) + 3 * (k / 5)) % 5)) (rotl (at64 T k) (turnL.getD k 0))
theorem bits_u64 (op : BinOp) (a b : Int) : ∃ v : BitVec 64, bits op .u64 a b = (v.toNat : Int) ∧ (op = .xor → v = BitVec.ofInt 64 a ^^^ BitVec.ofInt 64 b) := by
 refine ⟨match op with
  | .and => BitVec.ofInt 64 a &&& BitVec.ofInt 64 b
  | .or => BitVec.ofInt 64 a ||| BitVec.ofInt 64 b
  | .xor => BitVec.ofInt 64 a ^^^ BitVec.ofInt 64 b
  | _ => BitVec.ofInt 64 a &&& ~~~(BitVec.ofInt 64 b), ?_, by rintro rfl; rfl⟩
 show IntKind.u64.wrap ((match op with
  | .and => BitVec.ofInt 64 a &&& BitVec.ofInt 64 b
  | .or => BitVec.ofInt 64 a ||| BitVec.ofInt 64 b
  | .xor => BitVec.ofInt 64 a ^^^ BitVec.ofInt 64 b
  | _ => BitVec.ofInt 64 a &&& ~~~(BitVec.ofInt 64 b) : BitVec 64).toNat : Int) = _
 generalize (match op with
  | .and => BitVec.ofInt 64 a &&& BitVec.ofInt 64 b
  | .or => BitVec.ofInt 64 a ||| BitVec.ofInt 64 b
  | .xor => BitVec.ofInt 64 a ^^^ BitVec.ofInt 64 b
  | _ => BitVec.ofInt 64 a &&& ~~~(BitVec.ofInt 64 b) : BitVec 64) = v
 have := v.isLt
 rw [IntKind.wrap_u64]; omega
theorem bits_lt (op : BinOp) (a b : Int) : 0 ≤ bits op .u64 a b ∧ bits op .u64 a b < 18446744073709551616 := by
 obtain ⟨v, h, _⟩ := bits_u64 op a b
 have := v.isLt
 rw [h]; omega
/-! iota -/
def lfL : List Nat := [1, 128, 216, 26, 223, 9, 53, 79, 202, 112, 65, 236, 213, 205, 99, 171, 170, 42, 242, 232, 55, 62, 11, 68, 142]
def rcK : List Int := [1, 32898, 9223372036854808714, 9223372039002292224, 32907, 2147483649, 9223372039002292353, 9223372036854808585, 138, 136, 2147516425, 2147483658, 2147516555, 9223372036854775947, 9223372036854808713, 9223372036854808579, 9223372036854808578, 9223372036854775936, 32778, 9223372039002259466, 9223372039002292353, 9223372036854808704, 2147483649, 9223372039002292232]
def iotaC (s : Nat) : Nat → List Int × Nat
 | 0 => ([], s)
 | j + 1 => let p := iotaC s j; (if p.2 % 2 = 1 then p.1 ++ [((2 ^ (2 ^ j - 1) : Nat) : Int)] else p.1, nextS p.2)
def iotaOk (n : Nat) : Bool := match (iotaC (lfL.getD n 0) 7).1 with
 | [] => false
 | c :: cs => decide (cs.foldl (fun v c => bits .xor .u64 v c) c = rcK.getD n 0) && decide ((iotaC (lfL.getD n 0) 7).2 = lfL.getD (n + 1) 0)
/-! theta, rho, pi, chi -/
theorem map_at (f : Nat → Int) (n k : Nat) (h : k < n) : at64 ((List.range n).map f) k = f k := by
 show ((List.range n).map f).getD _ 0 = _
 simp [h]
end Go.Mun
