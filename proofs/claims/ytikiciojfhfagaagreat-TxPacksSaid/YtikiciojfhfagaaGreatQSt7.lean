/-
  The program's state, written: contract of SetSlot.
-/
import Derived.Test.YtikiciojfhfagaaGreatQSt2
set_option linter.unusedVariables false
set_option linter.unusedSimpArgs false
namespace Go.Proofs.YtikiciojfhfagaaGreat
open Go.RowKit Go.Mun

end Go.Proofs.YtikiciojfhfagaaGreat
