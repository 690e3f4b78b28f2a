/-
  Contracts of ops.plain, ops.Of (turned from another seat's texts).
-/
import Derived.Test.YtiglinnjnobodaaGreatQOps1
set_option linter.unusedVariables false
set_option linter.unusedSimpArgs false
namespace Go.Proofs.YtiglinnjnobodaaGreat
open Go.RowKit Go.Mun
end Go.Proofs.YtiglinnjnobodaaGreat
namespace Go.Proofs.YtiglinnjnobodaaGreat
open Go.RowKit Go.Mun

def popsOf (o : Option (Int × Int × Int)) : Int := match o with | some (a, _, _) => a | none => 0
def pushesOf (o : Option (Int × Int × Int)) : Int := match o with | some (_, b, _) => b | none => 0
def gasOf (o : Option (Int × Int × Int)) : Int := match o with | some (_, _, c) => c | none => 0
end Go.Proofs.YtiglinnjnobodaaGreat
