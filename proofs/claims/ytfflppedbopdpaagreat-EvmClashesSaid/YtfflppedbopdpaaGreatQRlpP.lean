/-
  RLP's bytes as plain functions.
-/
import Derived.Test.YtfflppedbopdpaaGreatQFrm
set_option linter.unusedVariables false
set_option linter.unusedSimpArgs false
namespace Go.Mun
open Go.RowKit

def digs (n : Nat) : List Int := if h : n = 0 then [] else ((n % 256 : Nat) : Int) :: digs (n / 256)
termination_by n
decreasing_by omega
theorem digs_zero : digs 0 = [] := by rw [digs]; simp
theorem digs_pos (n : Nat) (h : 0 < n) : digs n = ((n % 256 : Nat) : Int) :: digs (n / 256) := by rw [digs]; simp; omega
def bigL (n : Nat) : List Int := (digs n).reverse
theorem digs_len (n k : Nat) (h : n < 256 ^ k) : (digs n).length ≤ k := by
 induction k generalizing n with
 | zero => simp at h; subst h; simp [digs_zero]
 | succ k ih =>
  by_cases hn : n = 0
  ·subst hn; simp [digs_zero]
  ·rw [digs_pos n (by omega)]
   have := ih (n / 256) (by rw [Nat.div_lt_iff_lt_mul (by decide)]; rw [Nat.pow_succ] at h; exact h)
   simp; omega
theorem digs_byte (n : Nat) : ∀ x ∈ digs n, 0 ≤ x ∧ x < 256 := by
 induction n using Nat.strongRecOn with
 | _ n ih =>
  by_cases hn : n = 0
  ·subst hn; simp [digs_zero]
  ·rw [digs_pos n (by omega)]
   intro x hx
   rcases List.mem_cons.1 hx with rfl | h
   ·omega
   ·exact ih (n / 256) (by omega) x h
def headL (base n : Nat) : List Int := if n ≤ 55 then [((base + n : Nat) : Int)] else ((base + 55 + (bigL n).length : Nat) : Int) :: bigL n
def revAt (L : List Int) (i : Nat) : List Int := (List.range L.length).map fun k => if k < i ∨ L.length - 1 - k < i then L.getD (L.length - 1 - k) 0 else L.getD k 0
end Go.Mun
