/-
  The permutation of the hash as plain functions on lists of 25 numbers, as each of the two texts does it.
  The reference's permutation as plain functions on lists of 25 numbers.
-/
import Derived.Test.YtikiciojfhfagaaGreatQNum
set_option linter.unusedVariables false
set_option linter.unusedSimpArgs false
namespace Go.Mun
open Go.RowKit

/-- A number turned to the left by k of 64 bits. -/
def rotl (x : Int) (k : Nat) : Int := bits .or .u64 (IntKind.u64.wrap (x * 2 ^ k)) (x / 2 ^ (64 - k))
def at64 (L : List Int) (i : Nat) : Int := L.getD i 0
def thC (L : List Int) (x : Nat) : Int :=
  bits .xor .u64 (bits .xor .u64 (bits .xor .u64 (bits .xor .u64 (at64 L x) (at64 L (x + 5))) (at64 L (x + 10))) (at64 L (x + 15))) (at64 L (x + 20))
def thD (C : List Int) (x : Nat) : Int := bits .xor .u64 (at64 C ((x + 4) % 5)) (rotl (at64 C ((x + 1) % 5)) 1)
/-- The first i of n numbers f 0, f 1 .., then noughts. -/
def partL (n : Nat) (f : Nat → Int) (i : Nat) : List Int := (List.range n).map fun k => if k < i then f k else 0
theorem partL_len (n : Nat) (f : Nat → Int) (i : Nat) : (partL n f i).length = n := by simp [partL]
theorem partL_zero (n : Nat) (f : Nat → Int) : partL n f 0 = List.replicate n 0 := by
  apply List.ext_getElem (by simp [partL])
  intro i h1 h2; simp [partL]
theorem partL_set (n : Nat) (f : Nat → Int) (i : Nat) (v : Int) (hv : v = f i) : (partL n f i).set i v = partL n f (i + 1) := by
  subst hv
  apply List.ext_getElem (by simp [partL])
  intro j h1 h2
  simp only [partL, List.getElem_set, List.getElem_map, List.getElem_range]
  by_cases h : i = j
  · subst h; simp
  · rw [if_neg h]
    by_cases h3 : j < i
    · rw [if_pos h3, if_pos (by omega)]
    · rw [if_neg h3, if_neg (by omega)]
theorem partL_full (n : Nat) (f : Nat → Int) : partL n f n = (List.range n).map f := by
  apply List.ext_getElem (by simp [partL])
  intro j h1 h2
  simp [partL] at h1 ⊢
  intro h; omega
def turnL : List Nat := [0, 1, 62, 28, 27, 36, 44, 6, 55, 20, 3, 10, 43, 25, 39, 41, 45, 15, 21, 8, 18, 2, 61, 56, 14]
/-- rho and pi, the first k lanes: lane k of the old ones comes to its place among the new ones. -/
def rhoPi (L D : List Int) : Nat → List Int
  | 0 => List.replicate 25 0
  | k + 1 => (rhoPi L D k).set (k / 5 + 5 * ((2 * (k % 5) + 3 * (k / 5)) % 5)) (rotl (bits .xor .u64 (at64 L k) (at64 D (k % 5))) (turnL.getD k 0))
def chiAt (b : List Int) (k : Nat) : Int :=
  bits .xor .u64 (at64 b k) (bits .and .u64 (bits .xor .u64 18446744073709551615 (at64 b ((k % 5 + 1) % 5 + k / 5 * 5))) (at64 b ((k % 5 + 2) % 5 + k / 5 * 5)))
theorem rhoPi_len (L D : List Int) (k : Nat) : (rhoPi L D k).length = 25 := by
  induction k with
  | zero => rfl
  | succ k ih => simp [rhoPi, ih]
/-- chi, the first k lanes (the others are as they were). -/
def chiL (b L : List Int) (k : Nat) : List Int := (List.range 25).map fun i => if i < k then chiAt b i else at64 L i
/-- A round of the program. -/
def roundP (L : List Int) (rc : Int) : List Int :=
  let C := (List.range 5).map (thC L)
  let D := (List.range 5).map (thD C)
  let b := rhoPi L D 25
  let c := (List.range 25).map (chiAt b)
  c.set 0 (bits .xor .u64 (at64 c 0) rc)
end Go.Mun
namespace Go.Mun
open Go.RowKit

/-- theta: x columns whole, and j lanes of the next one. -/
def thL (A C : List Int) (x j : Nat) : List Int :=
  (List.range 25).map fun i => if i % 5 < x ∨ i % 5 = x ∧ i / 5 < j then bits .xor .u64 (at64 A i) (thD C (i % 5)) else at64 A i
theorem thL_zero (A C : List Int) (h : A.length = 25) : thL A C 0 0 = A := by
  apply List.ext_getElem (by simp [thL, h])
  intro i h1 h2
  simp [thL, at64, h2]
theorem thL_next (A C : List Int) (x : Nat) : thL A C x 5 = thL A C (x + 1) 0 := by
  apply List.ext_getElem (by simp [thL])
  intro i h1 h2
  simp only [thL, List.length_map, List.length_range] at h1
  simp only [thL, List.getElem_map, List.getElem_range]
  have : (i % 5 < x ∨ i % 5 = x ∧ i / 5 < 5) ↔ (i % 5 < x + 1 ∨ i % 5 = x + 1 ∧ i / 5 < 0) := by omega
  simp only [this]
theorem thL_at (A C : List Int) (x j : Nat) (hx : x < 5) (hj : j < 5) : at64 (thL A C x j) (x + 5 * j) = at64 A (x + 5 * j) := by
  have e1 : (x + 5 * j) % 5 = x := by omega
  have e2 : (x + 5 * j) / 5 = j := by omega
  have h : x + 5 * j < 25 := by omega
  show (thL A C x j).getD _ 0 = _
  simp only [thL, List.getD_eq_getElem?_getD, List.getElem?_map, List.getElem?_range h, Option.map_some, Option.getD_some, e1, e2]
  rw [if_neg (by omega)]
theorem thL_set (A C : List Int) (x j : Nat) (hx : x < 5) (hj : j < 5) : (thL A C x j).set (x + 5 * j) (bits .xor .u64 (at64 A (x + 5 * j)) (thD C x)) = thL A C x (j + 1) := by
  apply List.ext_getElem (by simp [thL])
  intro i h1 h2
  simp only [thL, List.length_map, List.length_range] at h2
  simp only [thL, List.getElem_set, List.getElem_map, List.getElem_range]
  by_cases h : x + 5 * j = i
  · subst h
    have e1 : (x + 5 * j) % 5 = x := by omega
    have e2 : (x + 5 * j) / 5 = j := by omega
    rw [if_pos rfl, if_pos (by omega), e1]
  · rw [if_neg h]
    have : (i % 5 < x ∨ i % 5 = x ∧ i / 5 < j) ↔ (i % 5 < x ∨ i % 5 = x ∧ i / 5 < j + 1) := by omega
    simp only [this]
/-- rho and pi, as a chain of lanes. -/
structure RP where
  A : List Int
  x : Nat
  y : Nat
  cur : Int
def rpStep (t : Nat) (s : RP) : RP :=
  ⟨s.A.set (s.y + 5 * ((2 * s.x + 3 * s.y) % 5)) (rotl s.cur ((t + 1) * (t + 2) / 2 % 64)), s.y, (2 * s.x + 3 * s.y) % 5, at64 s.A (s.y + 5 * ((2 * s.x + 3 * s.y) % 5))⟩
def rp (A : List Int) : Nat → RP
  | 0 => ⟨A, 1, 0, at64 A 1⟩
  | t + 1 => rpStep t (rp A t)
theorem rp_lt (A : List Int) (t : Nat) : (rp A t).x < 5 ∧ (rp A t).y < 5 := by
  induction t with
  | zero => exact ⟨show 1 < 5 by decide, show 0 < 5 by decide⟩
  | succ t ih => exact ⟨ih.2, Nat.mod_lt _ (by decide)⟩
theorem rp_len (A : List Int) (h : A.length = 25) (t : Nat) : (rp A t).A.length = 25 := by
  induction t with
  | zero => exact h
  | succ t ih => simp [rp, rpStep, ih]
/-- iota, by a register. -/
def nextS (s : Nat) : Nat := (2 * s % 256) ^^^ (if 128 ≤ s then 113 else 0)
def iotaR (v : Int) (s : Nat) : Nat → Int × Nat
  | 0 => (v, s)
  | j + 1 => let p := iotaR v s j; (if p.2 % 2 = 1 then bits .xor .u64 p.1 (2 ^ (2 ^ j - 1) : Nat) else p.1, nextS p.2)
theorem nextS_lt (s : Nat) (h : s < 256) : nextS s < 256 := by
  unfold nextS
  exact Nat.xor_lt_two_pow (n := 8) (by omega) (by split <;> decide)
theorem iotaR_lt (v : Int) (s j : Nat) (h : s < 256) : (iotaR v s j).2 < 256 := by
  induction j with
  | zero => exact h
  | succ j ih => exact nextS_lt _ ih
def chiR (b : List Int) (k : Nat) : List Int := (List.range 25).map fun i => if i < k then chiAt b i else at64 b i
theorem chiR_zero (b : List Int) (h : b.length = 25) : chiR b 0 = b := by
  apply List.ext_getElem (by simp [chiR, h])
  intro i h1 h2
  simp [chiR, at64, h2]
theorem chiR_len (b : List Int) (k : Nat) : (chiR b k).length = 25 := by simp [chiR]
theorem chiR_at (b : List Int) (k i : Nat) (h : k ≤ i) (hi : i < 25) : at64 (chiR b k) i = at64 b i := by
  show (chiR b k).getD _ 0 = _
  simp only [chiR, List.getD_eq_getElem?_getD, List.getElem?_map, List.getElem?_range hi, Option.map_some, Option.getD_some]
  rw [if_neg (by omega)]
theorem chiR_set (b : List Int) (k : Nat) (v : Int) (hv : v = chiAt b k) : (chiR b k).set k v = chiR b (k + 1) := by
  subst hv
  apply List.ext_getElem (by simp [chiR])
  intro j h1 h2
  simp only [chiR, List.getElem_set, List.getElem_map, List.getElem_range]
  by_cases h : k = j
  · subst h; simp
  · rw [if_neg h]
    by_cases h3 : j < k
    · rw [if_pos h3, if_pos (by omega)]
    · rw [if_neg h3, if_neg (by omega)]
theorem partL_at (n : Nat) (f : Nat → Int) (k i : Nat) (h : i < k) (hi : i < n) : at64 (partL n f k) i = f i := by
  show (partL n f k).getD _ 0 = _
  simp only [partL, List.getD_eq_getElem?_getD, List.getElem?_map, List.getElem?_range hi, Option.map_some, Option.getD_some]
  rw [if_pos h]
theorem chiAt_row (b : List Int) (x y : Nat) (hx : x < 5) : chiAt b (x + 5 * y) =
    bits .xor .u64 (at64 b (x + 5 * y)) (bits .and .u64 (bits .xor .u64 18446744073709551615 (at64 b ((x + 1) % 5 + 5 * y))) (at64 b ((x + 2) % 5 + 5 * y))) := by
  unfold chiAt
  rw [show (x + 5 * y) % 5 = x by omega, show (x + 5 * y) / 5 * 5 = 5 * y by omega]
set_option maxRecDepth 100000 in
theorem u8_bit0 (s : Nat) (h : s < 256) : bits .and .u8 (s : Int) 1 = ((s % 2 : Nat) : Int) := by
  have : ∀ s : Fin 256, bits .and .u8 ((s : Nat) : Int) 1 = (((s : Nat) % 2 : Nat) : Int) := by decide +kernel
  exact this ⟨s, h⟩
set_option maxRecDepth 100000 in
theorem u8_bit7 (s : Nat) (h : s < 256) : bits .and .u8 (s : Int) 128 = if 128 ≤ s then 128 else 0 := by
  have : ∀ s : Fin 256, bits .and .u8 ((s : Nat) : Int) 128 = if 128 ≤ (s : Nat) then 128 else 0 := by decide +kernel
  exact this ⟨s, h⟩
set_option maxRecDepth 100000 in
theorem u8_x113 (s : Nat) (h : s < 256) : bits .xor .u8 (s : Int) 113 = ((s ^^^ 113 : Nat) : Int) := by
  have : ∀ s : Fin 256, bits .xor .u8 ((s : Nat) : Int) 113 = (((s : Nat) ^^^ 113 : Nat) : Int) := by decide +kernel
  exact this ⟨s, h⟩
def roundR (A : List Int) (s : Nat) : List Int × Nat :=
  let C := (List.range 5).map (thC A)
  let B := (rp (thL A C 5 0) 24).A
  let X := chiR B 25
  let p := iotaR (at64 X 0) s 7
  (X.set 0 p.1, p.2)
end Go.Mun
