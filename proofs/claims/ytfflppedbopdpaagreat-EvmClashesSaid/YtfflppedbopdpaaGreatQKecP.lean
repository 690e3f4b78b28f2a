/-
  The permutation of the hash as plain functions on lists of 25 numbers, as each of the two texts does it.
  The reference's permutation as plain functions on lists of 25 numbers.
  The two permutations are one: plain law on lists of 25 numbers.
-/
import Derived.Test.YtfflppedbopdpaaGreatQNum
import Derived.KernelRfl
set_option linter.unusedVariables false
set_option maxRecDepth 1000000
set_option maxHeartbeats 8000000
set_option linter.unusedSimpArgs false
namespace Go.Mun
open Go.RowKit

def rotl (x : Int) (k : Nat) : Int := bits .or .u64 (IntKind.u64.wrap (x * 2 ^ k)) (x / 2 ^ (64 - k))
def at64 (L : List Int) (i : Nat) : Int := L.getD i 0
def thC (L : List Int) (x : Nat) : Int :=
 bits .xor .u64 (bits .xor .u64 (bits .xor .u64 (bits .xor .u64 (at64 L x) (at64 L (x + 5))) (at64 L (x + 10))) (at64 L (x + 15))) (at64 L (x + 20))
def thD (C : List Int) (x : Nat) : Int := bits .xor .u64 (at64 C ((x + 4) % 5)) (rotl (at64 C ((x + 1) % 5)) 1)
def partL (n : Nat) (f : Nat → Int) (i : Nat) : List Int := (List.range n).map fun k => if k < i then f k else 0
theorem partL_len (n : Nat) (f : Nat → Int) (i : Nat) : (partL n f i).length = n := by simp [partL]
theorem partL_zero (n : Nat) (f : Nat → Int) : partL n f 0 = List.replicate n 0 := by
 apply List.ext_getElem (by simp [partL])
 intro i h1 h2; simp [partL]
theorem partL_set (n : Nat) (f : Nat → Int) (i : Nat) (v : Int) (hv : v = f i) : (partL n f i).set i v = partL n f (i + 1) := by
 subst hv
 apply List.ext_getElem (by simp [partL])
 intro j h1 h2
 simp only [partL, List.getElem_set, List.getElem_map, List.getElem_range]
 by_cases h : i = j
 ·subst h; simp
 ·rw [if_neg h]
  by_cases h3 : j < i
  ·rw [if_pos h3, if_pos (by omega)]
  ·rw [if_neg h3, if_neg (by omega)]
theorem partL_full (n : Nat) (f : Nat → Int) : partL n f n = (List.range n).map f := by
 apply List.ext_getElem (by simp [partL])
 intro j h1 h2
 simp [partL] at h1 ⊢
 intro h; omega
def turnL : List Nat := [0, 1, 62, 28, 27, 36, 44, 6, 55, 20, 3, 10, 43, 25, 39, 41, 45, 15, 21, 8, 18, 2, 61, 56, 14]
def rhoPi (L D : List Int) : Nat → List Int
 | 0 => List.replicate 25 0
 | k + 1 => (rhoPi L D k).set (k / 5 + 5 * ((2 * (k % 5) + 3 * (k / 5)) % 5)) (rotl (bits .xor .u64 (at64 L k) (at64 D (k % 5))) (turnL.getD k 0))
def chiAt (b : List Int) (k : Nat) : Int :=
 bits .xor .u64 (at64 b k) (bits .and .u64 (bits .xor .u64 18446744073709551615 (at64 b ((k % 5 + 1) % 5 + k / 5 * 5))) (at64 b ((k % 5 + 2) % 5 + k / 5 * 5)))
def chiL (b L : List Int) (k : Nat) : List Int := (List.range 25).map fun i => if i < k then chiAt b i else at64 L i
def roundP (L : List Int) (rc : Int) : List Int :=
 let C := (List.range 5).map (thC L)
 let D := (List.range 5).map (thD C)
 let b := rhoPi L D 25
 let c := (List.range 25).map (chiAt b)
 c.set 0 (bits .xor .u64 (at64 c 0) rc)
end Go.Mun
namespace Go.Mun
open Go.RowKit

def thL (A C : List Int) (x j : Nat) : List Int :=
 (List.range 25).map fun i => if i % 5 < x ∨ i % 5 = x ∧ i / 5 < j then bits .xor .u64 (at64 A i) (thD C (i % 5)) else at64 A i
theorem thL_zero (A C : List Int) (h : A.length = 25) : thL A C 0 0 = A := by
 apply List.ext_getElem (by simp [thL, h])
 intro i h1 h2
 simp [thL, at64, h2]
theorem thL_next (A C : List Int) (x : Nat) : thL A C x 5 = thL A C (x + 1) 0 := by
 apply List.ext_getElem (by simp [thL])
 intro i h1 h2
 simp only [thL, List.length_map, List.length_range] at h1
 simp only [thL, List.getElem_map, List.getElem_range]
 have : (i % 5 < x ∨ i % 5 = x ∧ i / 5 < 5) ↔ (i % 5 < x + 1 ∨ i % 5 = x + 1 ∧ i / 5 < 0) := by omega
 simp only [this]
theorem thL_at (A C : List Int) (x j : Nat) (hx : x < 5) (hj : j < 5) : at64 (thL A C x j) (x + 5 * j) = at64 A (x + 5 * j) := by
 have e1 : (x + 5 * j) % 5 = x := by omega
 have e2 : (x + 5 * j) / 5 = j := by omega
 have h : x + 5 * j < 25 := by omega
 show (thL A C x j).getD _ 0 = _
 simp only [thL, List.getD_eq_getElem?_getD, List.getElem?_map, List.getElem?_range h, Option.map_some, Option.getD_some, e1, e2]
 rw [if_neg (by omega)]
theorem thL_set (A C : List Int) (x j : Nat) (hx : x < 5) (hj : j < 5) : (thL A C x j).set (x + 5 * j) (bits .xor .u64 (at64 A (x + 5 * j)) (thD C x)) = thL A C x (j + 1) := by
 apply List.ext_getElem (by simp [thL])
 intro i h1 h2
 simp only [thL, List.length_map, List.length_range] at h2
 simp only [thL, List.getElem_set, List.getElem_map, List.getElem_range]
 by_cases h : x + 5 * j = i
 ·subst h
  have e1 : (x + 5 * j) % 5 = x := by omega
  have e2 : (x + 5 * j) / 5 = j := by omega
  rw [if_pos rfl, if_pos (by omega), e1]
 ·rw [if_neg h]
  have : (i % 5 < x ∨ i % 5 = x ∧ i / 5 < j) ↔ (i % 5 < x ∨ i % 5 = x ∧ i / 5 < j + 1) := by omega
  simp only [this]
structure RP where
 A : List Int
 x : Nat
 y : Nat
 cur : Int
def rpStep (t : Nat) (s : RP) : RP :=
 ⟨s.A.set (s.y + 5 * ((2 * s.x + 3 * s.y) % 5)) (rotl s.cur ((t + 1) * (t + 2) / 2 % 64)), s.y, (2 * s.x + 3 * s.y) % 5, at64 s.A (s.y + 5 * ((2 * s.x + 3 * s.y) % 5))⟩
def rp (A : List Int) : Nat → RP
 | 0 => ⟨A, 1, 0, at64 A 1⟩
 | t + 1 => rpStep t (rp A t)
theorem rp_lt (A : List Int) (t : Nat) : (rp A t).x < 5 ∧ (rp A t).y < 5 := by
 induction t with
 | zero => exact ⟨show 1 < 5 by decide, show 0 < 5 by decide⟩
 | succ t ih => exact ⟨ih.2, Nat.mod_lt _ (by decide)⟩
theorem rp_len (A : List Int) (h : A.length = 25) (t : Nat) : (rp A t).A.length = 25 := by
 induction t with
 | zero => exact h
 | succ t ih => simp [rp, rpStep, ih]
def nextS (s : Nat) : Nat := (2 * s % 256) ^^^ (if 128 ≤ s then 113 else 0)
def iotaR (v : Int) (s : Nat) : Nat → Int × Nat
 | 0 => (v, s)
 | j + 1 => let p := iotaR v s j; (if p.2 % 2 = 1 then bits .xor .u64 p.1 (2 ^ (2 ^ j - 1) : Nat) else p.1, nextS p.2)
theorem nextS_lt (s : Nat) (h : s < 256) : nextS s < 256 := by
 unfold nextS
 exact Nat.xor_lt_two_pow (n := 8) (by omega) (by split <;> decide)
theorem iotaR_lt (v : Int) (s j : Nat) (h : s < 256) : (iotaR v s j).2 < 256 := by
 induction j with
 | zero => exact h
 | succ j ih => exact nextS_lt _ ih
def chiR (b : List Int) (k : Nat) : List Int := (List.range 25).map fun i => if i < k then chiAt b i else at64 b i
theorem chiR_zero (b : List Int) (h : b.length = 25) : chiR b 0 = b := by
 apply List.ext_getElem (by simp [chiR, h])
 intro i h1 h2
 simp [chiR, at64, h2]
theorem chiR_len (b : List Int) (k : Nat) : (chiR b k).length = 25 := by simp [chiR]
theorem chiR_at (b : List Int) (k i : Nat) (h : k ≤ i) (hi : i < 25) : at64 (chiR b k) i = at64 b i := by
 show (chiR b k).getD _ 0 = _
 simp only [chiR, List.getD_eq_getElem?_getD, List.getElem?_map, List.getElem?_range hi, Option.map_some, Option.getD_some]
 rw [if_neg (by omega)]
theorem chiR_set (b : List Int) (k : Nat) (v : Int) (hv : v = chiAt b k) : (chiR b k).set k v = chiR b (k + 1) := by
 subst hv
 apply List.ext_getElem (by simp [chiR])
 intro j h1 h2
 simp only [chiR, List.getElem_set, List.getElem_map, List.getElem_range]
 by_cases h : k = j
 ·subst h; simp
 ·rw [if_neg h]
  by_cases h3 : j < k
  ·rw [if_pos h3, if_pos (by omega)]
  ·rw [if_neg h3, if_neg (by omega)]
theorem partL_at (n : Nat) (f : Nat → Int) (k i : Nat) (h : i < k) (hi : i < n) : at64 (partL n f k) i = f i := by
 show (partL n f k).getD _ 0 = _
 simp only [partL, List.getD_eq_getElem?_getD, List.getElem?_map, List.getElem?_range hi, Option.map_some, Option.getD_some]
 rw [if_pos h]
theorem chiAt_row (b : List Int) (x y : Nat) (hx : x < 5) : chiAt b (x + 5 * y) =
  bits .xor .u64 (at64 b (x + 5 * y)) (bits .and .u64 (bits .xor .u64 18446744073709551615 (at64 b ((x + 1) % 5 + 5 * y))) (at64 b ((x + 2) % 5 + 5 * y))) := by
 unfold chiAt
 rw [show (x + 5 * y) % 5 = x by omega, show (x + 5 * y) / 5 * 5 = 5 * y by omega]
theorem u8_bit0 (s : Nat) (h : s < 256) : bits .and .u8 (s : Int) 1 = ((s % 2 : Nat) : Int) := by
 have : ∀ s : Fin 256, bits .and .u8 ((s : Nat) : Int) 1 = (((s : Nat) % 2 : Nat) : Int) := by decide +kernel
 exact this ⟨s, h⟩
theorem u8_bit7 (s : Nat) (h : s < 256) : bits .and .u8 (s : Int) 128 = if 128 ≤ s then 128 else 0 := by
 have : ∀ s : Fin 256, bits .and .u8 ((s : Nat) : Int) 128 = if 128 ≤ (s : Nat) then 128 else 0 := by decide +kernel
 exact this ⟨s, h⟩
theorem u8_x113 (s : Nat) (h : s < 256) : bits .xor .u8 (s : Int) 113 = ((s ^^^ 113 : Nat) : Int) := by
 have : ∀ s : Fin 256, bits .xor .u8 ((s : Nat) : Int) 113 = (((s : Nat) ^^^ 113 : Nat) : Int) := by decide +kernel
 exact this ⟨s, h⟩
def roundR (A : List Int) (s : Nat) : List Int × Nat :=
 let C := (List.range 5).map (thC A)
 let B := (rp (thL A C 5 0) 24).A
 let X := chiR B 25
 let p := iotaR (at64 X 0) s 7
 (X.set 0 p.1, p.2)
end Go.Mun
namespace Go.Mun
open Go.RowKit

theorem list25 (L : List Int) (h : L.length = 25) : ∃ a0 a1 a2 a3 a4 a5 a6 a7 a8 a9 a10 a11 a12 a13 a14 a15 a16 a17 a18 a19 a20 a21 a22 a23 a24,
  L = [a0, a1, a2, a3, a4, a5, a6, a7, a8, a9, a10, a11, a12, a13, a14, a15, a16, a17, a18, a19, a20, a21, a22, a23, a24] := by
 match L, h with
 | [a0, a1, a2, a3, a4, a5, a6, a7, a8, a9, a10, a11, a12, a13, a14, a15, a16, a17, a18, a19, a20, a21, a22, a23, a24], _ => exact ⟨_, _, _, _, _, _, _, _, _, _, _, _, _, _, _, _, _, _, _, _, _, _, _, _, _, rfl⟩

def rhoT (T : List Int) : Nat → List Int
 | 0 => List.replicate 25 0
 | k + 1 => (rhoT T k).set (k / 5 + 5 * ((2 * (k % 5) + 3 * (k / 5)) % 5)) (rotl (at64 T k) (turnL.getD k 0))
theorem rho_chain (T : List Int) (h : T.length = 25) : (rp T 24).A.set 0 (rotl (at64 T 0) 0) = rhoT T 25 := by
 obtain ⟨a0, a1, a2, a3, a4, a5, a6, a7, a8, a9, a10, a11, a12, a13, a14, a15, a16, a17, a18, a19, a20, a21, a22, a23, a24, rfl⟩ := list25 T h
 kernel_rfl
theorem rho_zero (T : List Int) (h : T.length = 25) : at64 (rp T 24).A 0 = at64 T 0 := by
 obtain ⟨a0, a1, a2, a3, a4, a5, a6, a7, a8, a9, a10, a11, a12, a13, a14, a15, a16, a17, a18, a19, a20, a21, a22, a23, a24, rfl⟩ := list25 T h
 kernel_rfl
theorem bits_u64 (op : BinOp) (a b : Int) : ∃ v : BitVec 64, bits op .u64 a b = (v.toNat : Int) ∧ (op = .xor → v = BitVec.ofInt 64 a ^^^ BitVec.ofInt 64 b) := by
 refine ⟨match op with
  | .and => BitVec.ofInt 64 a &&& BitVec.ofInt 64 b
  | .or => BitVec.ofInt 64 a ||| BitVec.ofInt 64 b
  | .xor => BitVec.ofInt 64 a ^^^ BitVec.ofInt 64 b
  | _ => BitVec.ofInt 64 a &&& ~~~(BitVec.ofInt 64 b), ?_, by rintro rfl; rfl⟩
 show IntKind.u64.wrap ((match op with
  | .and => BitVec.ofInt 64 a &&& BitVec.ofInt 64 b
  | .or => BitVec.ofInt 64 a ||| BitVec.ofInt 64 b
  | .xor => BitVec.ofInt 64 a ^^^ BitVec.ofInt 64 b
  | _ => BitVec.ofInt 64 a &&& ~~~(BitVec.ofInt 64 b) : BitVec 64).toNat : Int) = _
 generalize (match op with
  | .and => BitVec.ofInt 64 a &&& BitVec.ofInt 64 b
  | .or => BitVec.ofInt 64 a ||| BitVec.ofInt 64 b
  | .xor => BitVec.ofInt 64 a ^^^ BitVec.ofInt 64 b
  | _ => BitVec.ofInt 64 a &&& ~~~(BitVec.ofInt 64 b) : BitVec 64) = v
 have := v.isLt
 rw [IntKind.wrap_u64]; omega
theorem bits_lt (op : BinOp) (a b : Int) : 0 ≤ bits op .u64 a b ∧ bits op .u64 a b < 18446744073709551616 := by
 obtain ⟨v, h, _⟩ := bits_u64 op a b
 have := v.isLt
 rw [h]; omega
theorem ofInt_back (v : BitVec 64) : BitVec.ofInt 64 (v.toNat : Int) = v := by
 apply BitVec.eq_of_toNat_eq
 rw [BitVec.toNat_ofInt]
 have := v.isLt
 omega
theorem bx_assoc (a b c : Int) : bits .xor .u64 (bits .xor .u64 a b) c = bits .xor .u64 a (bits .xor .u64 b c) := by
 obtain ⟨v1, h1, e1⟩ := bits_u64 .xor a b
 obtain ⟨v2, h2, e2⟩ := bits_u64 .xor b c
 rw [h1, h2]
 obtain ⟨v3, h3, e3⟩ := bits_u64 .xor (v1.toNat : Int) c
 obtain ⟨v4, h4, e4⟩ := bits_u64 .xor a (v2.toNat : Int)
 rw [h3, h4, e3 rfl, e4 rfl, ofInt_back, ofInt_back, e1 rfl, e2 rfl, BitVec.xor_assoc]
theorem bx_zero (a : Int) (h0 : 0 ≤ a) (h1 : a < 18446744073709551616) : bits .xor .u64 a 0 = a := by
 obtain ⟨v, h, e⟩ := bits_u64 .xor a 0
 rw [h, e rfl]
 have : BitVec.ofInt 64 0 = 0#64 := rfl
 rw [this, BitVec.xor_zero, BitVec.toNat_ofInt]
 omega
theorem rotl_zero (x : Int) (h0 : 0 ≤ x) (h1 : x < 18446744073709551616) : rotl x 0 = x := by
 unfold rotl
 have e1 : IntKind.u64.wrap (x * 2 ^ 0) = x := by rw [IntKind.wrap_u64]; omega
 have e2 : x / 2 ^ (64 - 0) = 0 := by
  have : (2 : Int) ^ (64 - 0) = 18446744073709551616 := by decide
  rw [this]; omega
 rw [e1, e2]
 show IntKind.u64.wrap (((BitVec.ofInt 64 x) ||| (BitVec.ofInt 64 0)).toNat : Int) = _
 have : BitVec.ofInt 64 0 = 0#64 := rfl
 rw [this, BitVec.or_zero, BitVec.toNat_ofInt, IntKind.wrap_u64]
 omega

/-! iota -/
def lfL : List Nat := [1, 128, 216, 26, 223, 9, 53, 79, 202, 112, 65, 236, 213, 205, 99, 171, 170, 42, 242, 232, 55, 62, 11, 68, 142]
def rcK : List Int := [1, 32898, 9223372036854808714, 9223372039002292224, 32907, 2147483649, 9223372039002292353, 9223372036854808585, 138, 136, 2147516425, 2147483658, 2147516555, 9223372036854775947, 9223372036854808713, 9223372036854808579, 9223372036854808578, 9223372036854775936, 32778, 9223372039002259466, 9223372039002292353, 9223372036854808704, 2147483649, 9223372039002292232]
def iotaC (s : Nat) : Nat → List Int × Nat
 | 0 => ([], s)
 | j + 1 => let p := iotaC s j; (if p.2 % 2 = 1 then p.1 ++ [((2 ^ (2 ^ j - 1) : Nat) : Int)] else p.1, nextS p.2)
theorem iota_c (v : Int) (s j : Nat) : iotaR v s j = ((iotaC s j).1.foldl (fun v c => bits .xor .u64 v c) v, (iotaC s j).2) := by
 induction j with
 | zero => rfl
 | succ j ih =>
  simp only [iotaR, iotaC, ih]
  split <;> simp
theorem fold_xor (v c : Int) (cs : List Int) : cs.foldl (fun v c => bits .xor .u64 v c) (bits .xor .u64 v c) = bits .xor .u64 v (cs.foldl (fun v c => bits .xor .u64 v c) c) := by
 induction cs generalizing c with
 | nil => rfl
 | cons d cs ih => simp only [List.foldl_cons]; rw [bx_assoc, ih]
def iotaOk (n : Nat) : Bool := match (iotaC (lfL.getD n 0) 7).1 with
 | [] => false
 | c :: cs => decide (cs.foldl (fun v c => bits .xor .u64 v c) c = rcK.getD n 0) && decide ((iotaC (lfL.getD n 0) 7).2 = lfL.getD (n + 1) 0)
theorem iota_ok (n : Nat) (h : n < 24) (v : Int) : iotaR v (lfL.getD n 0) 7 = (bits .xor .u64 v (rcK.getD n 0), lfL.getD (n + 1) 0) := by
 have : ∀ n : Fin 24, iotaOk n.val = true := by decide +kernel
 have h1 := this ⟨n, h⟩
 unfold iotaOk at h1
 rw [iota_c]
 split at h1
 ·simp at h1
 ·rename_i c cs hc
  simp only [Bool.and_eq_true, decide_eq_true_eq] at h1
  rw [hc, List.foldl_cons, fold_xor, h1.1, h1.2]

/-! theta, rho, pi, chi -/
theorem thL_full (A C : List Int) (k : Nat) (hk : k < 25) : at64 (thL A C 5 0) k = bits .xor .u64 (at64 A k) (thD C (k % 5)) := by
 show (thL A C 5 0).getD _ 0 = _
 simp only [thL, List.getD_eq_getElem?_getD, List.getElem?_map, List.getElem?_range hk, Option.map_some, Option.getD_some]
 rw [if_pos (by omega)]
theorem map_at (f : Nat → Int) (n k : Nat) (h : k < n) : at64 ((List.range n).map f) k = f k := by
 show ((List.range n).map f).getD _ 0 = _
 simp [h]
theorem rhoPi_T (A C : List Int) (k : Nat) (hk : k ≤ 25) : rhoPi A ((List.range 5).map (thD C)) k = rhoT (thL A C 5 0) k := by
 induction k with
 | zero => rfl
 | succ k ih =>
  rw [rhoPi, rhoT, ih (by omega), thL_full A C k (by omega), map_at _ 5 (k % 5) (by omega)]
theorem set_same (B : List Int) (i : Nat) : B.set i (at64 B i) = B := by
 apply List.ext_getElem (by simp)
 intro j h1 h2
 rw [List.getElem_set]
 split
 ·rename_i h; subst h; simp [at64, h2]
 ·rfl
theorem rho_same (A C T : List Int) (hT : T = thL A C 5 0) : (rp T 24).A = rhoPi A ((List.range 5).map (thD C)) 25 := by
 have hT25 : T.length = 25 := by rw [hT]; simp [thL]
 have h0 := thL_full A C 0 (by decide)
 rw [← hT] at h0
 have hb := bits_lt .xor (at64 A 0) (thD C (0 % 5))
 rw [← h0] at hb
 rw [rhoPi_T _ _ 25 (Nat.le_refl _), ← hT, ← rho_chain _ hT25, rotl_zero _ hb.1 hb.2, ← rho_zero _ hT25]
 generalize rp T 24 = R
 exact (set_same R.A 0).symm
theorem chiR_full (b : List Int) : chiR b 25 = (List.range 25).map (chiAt b) := by
 apply List.ext_getElem (by simp [chiR])
 intro i h1 h2
 simp [chiR] at h1 ⊢
 intro h; omega
theorem round_eq' (A C B X : List Int) (s s' : Nat) (c : Int) (hC : C = (List.range 5).map (thC A)) (hB : B = (rp (thL A C 5 0) 24).A) (hX : X = chiR B 25) (hi : iotaR (at64 X 0) s 7 = (bits .xor .u64 (at64 X 0) c, s')) :
  roundR A s = (roundP A c, s') := by
 have h1 : roundR A s = (X.set 0 (iotaR (at64 X 0) s 7).1, (iotaR (at64 X 0) s 7).2) := by simp only [roundR, ← hC, ← hB, ← hX]
 have h2 : roundP A c = ((List.range 25).map (chiAt (rhoPi A ((List.range 5).map (thD C)) 25))).set 0 (bits .xor .u64 (at64 ((List.range 25).map (chiAt (rhoPi A ((List.range 5).map (thD C)) 25))) 0) c) := by simp only [roundP, ← hC]
 have h3 := rho_same A C _ rfl
 rw [← hB] at h3
 rw [← h3, ← chiR_full, ← hX] at h2
 rw [h1, h2, hi]
theorem round_eq (A : List Int) (n : Nat) (hn : n < 24) : roundR A (lfL.getD n 0) = (roundP A (rcK.getD n 0), lfL.getD (n + 1) 0) :=
 round_eq' A _ _ _ _ _ _ rfl rfl rfl (iota_ok n hn _)
theorem roundP_len (A : List Int) (rc : Int) : (roundP A rc).length = 25 := by simp [roundP]
end Go.Mun
