/- A part of the proof of EvmLoops: XRef5. -/
import Derived.Test.YtfflppedbopdpaaGreatXRef2
set_option linter.unusedVariables false
set_option linter.unusedSimpArgs false
namespace Go.Proofs.YtfflppedbopdpaaGreat
open Go.RowKit Go.Mun
theorem B2Z {W:World} {b n:Nat} {L:List Int} (hL:L.length=n) (hn:n≤32) (hr:W.row? b 0 n=some (u8L L)):I7 W .u8 (some ⟨b,0,none⟩) n L:=by
 refine ⟨fun _=>⟨b,0,rfl,fun i hi=>?_⟩,fun h=>by simp at h,by omega,by unfold maxLen;omega⟩
 rw [World.row?_cell hr (show i < n by omega)]
 simp [u8L,List.getElem?_map,List.getElem?_eq_getElem hi]
end Go.Proofs.YtfflppedbopdpaaGreat
