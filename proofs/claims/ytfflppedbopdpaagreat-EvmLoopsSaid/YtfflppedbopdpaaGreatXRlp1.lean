/- A part of the proof of EvmLoops: XRlp1. -/
import Derived.Test.YtfflppedbopdpaaGreatXKecT
import Derived.Test.YtfflppedbopdpaaGreatXFrm
set_option linter.unusedVariables false
set_option linter.unusedSimpArgs false
namespace Go.Proofs.YtfflppedbopdpaaGreat
open Go.RowKit Go.Mun

structure A8c (w w':World) (v:Value) (l:List Int):Prop where
 read:∃ a c,v = .slice a l.length c∧I7 w' .u8 a c l∧∀ p,a=some p→w.heap.size≤p.block
 below:Below w.heap.size w w'
theorem A8c.up {w w1 w2:World} {v:Value} {l:List Int} (h:A8c w1 w2 v l) (hb:Below w.heap.size w w1):A8c w w2 v l:=by
 obtain ⟨⟨a,c,rfl,hi,hf⟩,h2⟩:=h
 exact ⟨⟨a,c,rfl,hi,fun p hp=>Nat.le_trans hb.size (hf p hp)⟩,hb.trans (h2.mono hb.size)⟩
structure B5a (w w':World) (v:Value) (l:List Int):Prop where
 own:w'.ownsRow w.heap.size 5 1 v l.length (l.map (Value.int .u8))
 below:Below w.heap.size w w'
theorem B5a.new {w w':World} {v:Value} {l:List Int} (h:B5a w w' v l):A8c w w' v l:=by
 obtain ⟨a,c,rfl,_,hi⟩:=I7.of_own' h.own
 refine ⟨⟨a,c,rfl,hi,fun p hp=>?_⟩,h.below⟩
 subst hp
 obtain ⟨b,o,s⟩:=p
 rcases h.own.2 with ⟨he,_⟩ | ⟨g,cap,cur,he,hg,_⟩
 ·cases he
 ·cases he;exact hg
theorem I7.of_arr {w:World} {g n c:Nat} {L:List Int} (h:Arr w g n (u8L L)) (hn:n=L.length) (hc:n≤c) (hm:c≤maxLen):I7 w .u8 (some ⟨g,0,none⟩) c L:=by
 refine ⟨fun _=>⟨g,0,rfl,fun i hi=>?_⟩,fun h=>by simp at h,by omega,hm⟩
 have:=B8O h (show i < n by omega)
 rw [Nat.zero_add,this];rfl

end Go.Proofs.YtfflppedbopdpaaGreat
