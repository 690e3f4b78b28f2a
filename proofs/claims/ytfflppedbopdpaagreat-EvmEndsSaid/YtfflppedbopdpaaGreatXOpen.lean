/-
  Arguments that are arrays of bytes, opened: laws over any program.
-/
import Derived.Test.YtfflppedbopdpaaGreatXNum
import Derived.ProofKit
import Derived.OpenShut
set_option linter.unusedVariables false
set_option linter.unusedSimpArgs false
namespace Go.Mun
open Go.WideShapes Go.RowKit
section
variable {H : Type} {enc : TypeId × Value → H} {P : Program} {w : World} {base : Nat} {spare : Nat → Bool} {held : Bool} {fuel : Nat} {t e n : Nat}

end
end Go.Mun
