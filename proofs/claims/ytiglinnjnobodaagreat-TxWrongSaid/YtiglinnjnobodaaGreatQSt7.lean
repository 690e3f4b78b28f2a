/-
  The program's state, written: contract of SetSlot.
-/
import Derived.Test.YtiglinnjnobodaaGreatQSt2
set_option linter.unusedVariables false
set_option linter.unusedSimpArgs false
namespace Go.Proofs.YtiglinnjnobodaaGreat
open Go.RowKit Go.Mun

end Go.Proofs.YtiglinnjnobodaaGreat
