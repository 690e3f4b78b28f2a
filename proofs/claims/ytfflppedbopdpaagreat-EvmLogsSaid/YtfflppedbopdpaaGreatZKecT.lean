/- A part of the proof of EvmLogs: ZKecT. -/
import Derived.Test.YtfflppedbopdpaaGreatZKec1
import Derived.Test.YtfflppedbopdpaaGreatZFrm2
import Derived.Test.YtfflppedbopdpaaGreatZNum
import Derived.Test.YtfflppedbopdpaaGreatZFrm
import Derived.OpenShut
set_option linter.unusedVariables false
set_option linter.unusedSimpArgs false
namespace Go.Proofs.YtfflppedbopdpaaGreat
open Go.RowKit Go.Mun

theorem B8U {w:World} {b n:Nat} {L:List Int} (h:Arr w b n (K2 L)) {i:Nat} (hi:i < n):w.cell? ⟨b,i,none⟩=some (.int .u8 (L.getD i 0)):=by
 refine h.cell hi ?_
 have:=h.len
 rw [A7l] at this
 simp [K2,List.getElem?_map,List.getElem?_eq_getElem (show i < L.length by omega)]
end Go.Proofs.YtfflppedbopdpaaGreat
