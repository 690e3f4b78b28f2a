/-
  The machine's memory: what words of it cost.
-/
import Derived.Test.YtikiciojfhfagaaGreatQEv16
set_option linter.unusedVariables false
set_option linter.unusedSimpArgs false
namespace Go.Mun
def memCost (n : Nat) : Nat := 3 * n + n * n / 512
theorem memCost_le (n : Nat) (h : n ≤ 1048576) : memCost n ≤ 2150629376 := by
  unfold memCost
  have : n * n ≤ 1048576 * 1048576 := Nat.mul_le_mul h h
  omega
theorem memCost_mono {a b : Nat} (h : a ≤ b) : memCost a ≤ memCost b := by
  unfold memCost
  have h1 : a * a ≤ b * b := Nat.mul_le_mul h h
  have h2 : a * a / 512 ≤ b * b / 512 := Nat.div_le_div_right h1
  omega
end Go.Mun
namespace Go.Proofs.YtikiciojfhfagaaGreat
open Go.RowKit Go.Mun

set_option maxRecDepth 100000 in
theorem mem_cost (n : Nat) (hn : n ≤ 1048576) (w : World) : Calls Tryz.prog 247 #[.int .i64 n] w fun e w' => e = .returned (.int .i64 (memCost n : Nat)) ∧ w = w' := by
  have hsq : n * n ≤ 1048576 * 1048576 := Nat.mul_le_mul hn hn
  obtain ⟨q, hq⟩ : ∃ q : Nat, q = n * n := ⟨_, rfl⟩
  have hnn : (n : Int) * n = (q : Int) := by rw [hq]; simp
  obtain ⟨z, hz⟩ : ∃ z : Nat, z = q / 512 := ⟨_, rfl⟩
  have e5 : Int.tdiv (q : Int) 512 = (z : Int) := by
    rw [Int.tdiv_eq_ediv_of_nonneg (by omega), hz]; rfl
  have e7 : 3 * (n : Int) + (z : Int) = ((memCost n : Nat) : Int) := by
    unfold memCost
    rw [hz, hq]; omega
  have hn0 : (0 : Int) ≤ (n : Int) := by omega
  have hn1 : (n : Int) ≤ 1048576 := by omega
  have hq0 : (0 : Int) ≤ (q : Int) := by omega
  have hq1 : (q : Int) ≤ 1099511627776 := by omega
  have hz0 : (0 : Int) ≤ (z : Int) := by omega
  have hz1 : (z : Int) ≤ 2147483648 := by omega
  have w1 : wrap64 (q : Int) = (q : Int) := by unfold wrap64; omega
  have w2 : wrap64 (z : Int) = (z : Int) := by unfold wrap64; omega
  have w3 : wrap64 (3 * (n : Int) + (z : Int)) = 3 * (n : Int) + (z : Int) := by unfold wrap64; omega
  have p2 : ((1048576 : Int) < (n : Int)) = False := eq_false (by omega)
  have p1 : (if (0 : Int) < (n : Int) then (n : Int) else 0) = n := by split <;> omega
  have HM := Lib.hid e7
  clear e7
  have HQ : Hid (n = 0 → q = 0 ∧ z = 0) := fun h => by subst h; refine ⟨by rw [hq], by rw [hz, hq]⟩
  generalize memCost n = M at *
  clear hsq hn hq hz
  by_cases hp : 0 < n
  · have p3 : ((0 : Int) < (n : Int)) = True := eq_true (by omega)
    have p4 : (0 < n) = True := eq_true hp
    clear hp p1
    go_enter Tryz.func247, Tryz.ntmps247
    go_wp2
    go_ret
    rw [← HM.out]
    exact ⟨rfl, rfl⟩
  · obtain ⟨h1, h2⟩ := HQ.out (by omega)
    obtain rfl : n = 0 := by omega
    have hM : M = 0 := by have := HM.out; omega
    subst hM
    clear hp p1 p2 w1 w2 w3 hnn e5 HQ HM h1 h2 hq0 hq1 hz0 hz1 hn0 hn1
    go_enter Tryz.func247, Tryz.ntmps247
    go_wp2
    go_ret
    exact ⟨rfl, rfl⟩
end Go.Proofs.YtikiciojfhfagaaGreat
