/- A part of the proof of EvmLogs: ZRef2. -/
import Derived.Test.YtfflppedbopdpaaGreatZRef1
import Derived.Test.YtfflppedbopdpaaGreatZRlp2
import Derived.Test.YtfflppedbopdpaaGreatZKecT
import Derived.Test.YtfflppedbopdpaaGreatZNum
import Derived.KernelRfl
import Derived.Test.YtfflppedbopdpaaGreatZEv16
set_option linter.unusedVariables false
set_option linter.unusedSimpArgs false
namespace Go.Proofs.YtfflppedbopdpaaGreat
open Go.RowKit Go.Mun

attribute [local irreducible] be A3 J4
end Go.Proofs.YtfflppedbopdpaaGreat
