/- A part of the proof of EvmLoops: XRef2. -/
import Derived.Test.YtfflppedbopdpaaGreatXRef1
import Derived.Test.YtfflppedbopdpaaGreatXRlp2
import Derived.Test.YtfflppedbopdpaaGreatXKecT
import Derived.Test.YtfflppedbopdpaaGreatXKecP
import Derived.KernelRfl
import Derived.Test.YtfflppedbopdpaaGreatXEv16
set_option linter.unusedVariables false
set_option linter.unusedSimpArgs false
namespace Go.Proofs.YtfflppedbopdpaaGreat
open Go.RowKit Go.Mun

attribute [local irreducible] be A3 K0
end Go.Proofs.YtfflppedbopdpaaGreat
