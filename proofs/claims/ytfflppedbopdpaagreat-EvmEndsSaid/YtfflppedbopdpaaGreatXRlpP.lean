/-
  RLP's bytes as plain functions.
-/
import Derived.Test.YtfflppedbopdpaaGreatXFrm
set_option linter.unusedVariables false
set_option linter.unusedSimpArgs false
namespace Go.Mun
open Go.RowKit

def digs (n : Nat) : List Int := if h : n = 0 then [] else ((n % 256 : Nat) : Int) :: digs (n / 256)
termination_by n
decreasing_by omega
def bigL (n : Nat) : List Int := (digs n).reverse
def headL (base n : Nat) : List Int := if n ≤ 55 then [((base + n : Nat) : Int)] else ((base + 55 + (bigL n).length : Nat) : Int) :: bigL n
def revAt (L : List Int) (i : Nat) : List Int := (List.range L.length).map fun k => if k < i ∨ L.length - 1 - k < i then L.getD (L.length - 1 - k) 0 else L.getD k 0
end Go.Mun
