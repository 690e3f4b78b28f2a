/- A part of the proof of EvmLogs: ZTy2. -/
import Derived.Test.YtfflppedbopdpaaGreatProg
import Derived.Test.YtfflppedbopdpaaGreatZTy
set_option linter.unusedVariables false
set_option linter.unusedSimpArgs false
namespace Go.Proofs.YtfflppedbopdpaaGreat
open Go.RowKit Go.Mun

def A60:List Value:=[.bool false,.slice none 0 0,.slice none 0 0]
@[go_sem] theorem B9v:Q3 3 A60=true:=by simp [A60,Q3,Value.oneCell']
@[go_sem] theorem B8N:A60.length=3:=by simp [A60]
end Go.Proofs.YtfflppedbopdpaaGreat
