/-
  RLP's bytes as plain functions.
-/
import Derived.Test.YtikiciojfhfagaaGreatQFrm
set_option linter.unusedVariables false
set_option linter.unusedSimpArgs false
namespace Go.Mun
open Go.RowKit

/-- A number's bytes, the lowest first. -/
def digs (n : Nat) : List Int := if h : n = 0 then [] else ((n % 256 : Nat) : Int) :: digs (n / 256)
termination_by n
decreasing_by omega
theorem digs_zero : digs 0 = [] := by rw [digs]; simp
theorem digs_pos (n : Nat) (h : 0 < n) : digs n = ((n % 256 : Nat) : Int) :: digs (n / 256) := by rw [digs]; simp; omega
def bigL (n : Nat) : List Int := (digs n).reverse
theorem digs_len (n k : Nat) (h : n < 256 ^ k) : (digs n).length ≤ k := by
  induction k generalizing n with
  | zero => simp at h; subst h; simp [digs_zero]
  | succ k ih =>
    by_cases hn : n = 0
    · subst hn; simp [digs_zero]
    · rw [digs_pos n (by omega)]
      have := ih (n / 256) (by rw [Nat.div_lt_iff_lt_mul (by decide)]; rw [Nat.pow_succ] at h; exact h)
      simp; omega
theorem digs_byte (n : Nat) : ∀ x ∈ digs n, 0 ≤ x ∧ x < 256 := by
  induction n using Nat.strongRecOn with
  | _ n ih =>
    by_cases hn : n = 0
    · subst hn; simp [digs_zero]
    · rw [digs_pos n (by omega)]
      intro x hx
      rcases List.mem_cons.1 hx with rfl | h
      · omega
      · exact ih (n / 256) (by omega) x h
def headL (base n : Nat) : List Int := if n ≤ 55 then [((base + n : Nat) : Int)] else ((base + 55 + (bigL n).length : Nat) : Int) :: bigL n
/-- A row while it is turned round. -/
def revAt (L : List Int) (i : Nat) : List Int := (List.range L.length).map fun k => if k < i ∨ L.length - 1 - k < i then L.getD (L.length - 1 - k) 0 else L.getD k 0
theorem revAt_zero (L : List Int) : revAt L 0 = L := by
  apply List.ext_getElem (by simp [revAt])
  intro k h1 h2
  simp [revAt, h2]
theorem revAt_at (L : List Int) (i k : Nat) (h1 : i ≤ k) (h2 : k ≤ L.length - 1 - i) (h3 : k < L.length) : (revAt L i).getD k 0 = L.getD k 0 := by
  simp only [revAt, List.getD_eq_getElem?_getD, List.getElem?_map, List.getElem?_range h3, Option.map_some, Option.getD_some]
  rw [if_neg (by omega)]
theorem revAt_step (L : List Int) (i : Nat) (h : i < L.length - 1 - i) : ((revAt L i).set i (L.getD (L.length - 1 - i) 0)).set (L.length - 1 - i) (L.getD i 0) = revAt L (i + 1) := by
  apply List.ext_getElem (by simp [revAt])
  intro k h1 h2
  simp [revAt] at h2
  simp only [List.getElem_set, revAt, List.getElem_map, List.getElem_range]
  by_cases e1 : L.length - 1 - i = k
  · rw [if_pos e1, if_pos (by omega)]; congr 1; omega
  · rw [if_neg e1]
    by_cases e2 : i = k
    · subst e2; rw [if_pos rfl, if_pos (by omega)]
    · rw [if_neg e2]
      by_cases e3 : k < i ∨ L.length - 1 - k < i
      · rw [if_pos e3, if_pos (by omega)]
      · rw [if_neg e3, if_neg (by omega)]
theorem revAt_full (L : List Int) (i : Nat) (h : ¬ i < L.length - 1 - i) : revAt L i = L.reverse := by
  apply List.ext_getElem (by simp [revAt])
  intro k h1 h2
  simp [revAt] at h1
  simp only [revAt, List.getElem_map, List.getElem_range, List.getElem_reverse]
  by_cases e : k < i ∨ L.length - 1 - k < i
  · rw [if_pos e]; simp [show L.length - 1 - k < L.length by omega]
  · rw [if_neg e]
    have : L.length - 1 - k = k := by omega
    simp [h1, this]
end Go.Mun
