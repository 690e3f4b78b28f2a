/- A part of the proof of EvmLoops: XKecP. -/
import Derived.Test.YtfflppedbopdpaaGreatXNum
set_option linter.unusedVariables false
set_option linter.unusedSimpArgs false
namespace Go.Mun
open Go.RowKit

def turnL:List Nat:=[0,1,62,28,27,36,44,6,55,20,3,10,43,25,39,41,45,15,21,8,18,2,61,56,14]
end Go.Mun
