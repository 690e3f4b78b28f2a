/-
  Arguments that are arrays of bytes, opened: laws over any program.
-/
import Derived.Test.YtikiciojfhfagaaGreatQNum
import Derived.ProofKit
import Derived.OpenShut
set_option linter.unusedVariables false
set_option linter.unusedSimpArgs false
namespace Go.Mun
open Go.WideShapes Go.RowKit
section
variable {H : Type} {enc : TypeId × Value → H} {P : Program} {w : World} {base : Nat} {spare : Nat → Bool} {held : Bool} {fuel : Nat} {t e n : Nat}

theorem u8_of_trod {cs : List Value} {x : DataW H × List MemPlace} (ht : P.underlying t = some (.array n e)) (he : P.underlying e = some (.int .u8)) (hc : P.cellsOf e = 1) (hct : P.cellsOf t = n)
    (h : DataW.trod enc P w base spare held fuel t cs = some x) : ∃ L : List Int, cs = u8L L ∧ L.length = n ∧ ∀ y ∈ L, 0 ≤ y ∧ y ≤ 255 := by
  obtain ⟨xs, m, _, _, hl, hxl, hel⟩ := DataW.trod_array ht h
  rw [hct] at hl
  have key : ∀ i (hi : i < cs.length), ∃ k, cs[i] = .int .u8 k ∧ (Lit.int .u8 k).wf = true := by
    intro i hi
    have h1 := hel i (by omega)
    rw [hc, Nat.mul_one] at h1
    have h2 : xs[i]? = some (xs[i]'(by omega)) := List.getElem?_eq_getElem (by omega)
    rw [h2] at h1
    obtain ⟨k, hk, _, hw⟩ := DataW.trod_int he h1
    rw [List.drop_eq_getElem_cons hi, List.take_succ_cons, List.take_zero] at hk
    injection hk with hk1 _
    exact ⟨k, hk1, hw⟩
  refine ⟨cs.map fun v => match v with | .int _ k => k | _ => 0, ?_, by simpa using hl, ?_⟩
  · apply List.ext_getElem (by simp)
    intro i h1 h2
    obtain ⟨k, hk, _⟩ := key i h1
    simp only [u8L, List.getElem_map, hk]
  · intro y hy
    obtain ⟨v, hv, rfl⟩ := List.mem_map.1 hy
    obtain ⟨i, hi, rfl⟩ := List.getElem_of_mem hv
    obtain ⟨k, hk, hw⟩ := key i hi
    rw [hk]
    exact wf_u8 hw

end
end Go.Mun
