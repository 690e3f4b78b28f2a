/- A part of the proof of EvmLoops: XKecT. -/
import Derived.Test.YtfflppedbopdpaaGreatXKec1
import Derived.Test.YtfflppedbopdpaaGreatXFrm2
import Derived.Test.YtfflppedbopdpaaGreatXNum
import Derived.Test.YtfflppedbopdpaaGreatXKecP
import Derived.Test.YtfflppedbopdpaaGreatXFrm
import Derived.OpenShut
set_option linter.unusedVariables false
set_option linter.unusedSimpArgs false
namespace Go.Proofs.YtfflppedbopdpaaGreat
open Go.RowKit Go.Mun

theorem B8O {w:World} {b n:Nat} {L:List Int} (h:Arr w b n (u8L L)) {i:Nat} (hi:i < n):w.cell? ⟨b,i,none⟩=some (.int .u8 (L.getD i 0)):=by
 refine h.cell hi ?_
 have:=h.len
 rw [A7m] at this
 simp [u8L,List.getElem?_map,List.getElem?_eq_getElem (show i < L.length by omega)]
end Go.Proofs.YtfflppedbopdpaaGreat
