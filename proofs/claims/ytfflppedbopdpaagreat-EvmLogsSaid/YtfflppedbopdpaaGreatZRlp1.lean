/- A part of the proof of EvmLogs: ZRlp1. -/
import Derived.Test.YtfflppedbopdpaaGreatZKecT
import Derived.Test.YtfflppedbopdpaaGreatZFrm
set_option linter.unusedVariables false
set_option linter.unusedSimpArgs false
namespace Go.Proofs.YtfflppedbopdpaaGreat
open Go.RowKit Go.Mun

structure A3d (w w':World) (v:Value) (l:List Int):Prop where
 read:∃ a c,v = .slice a l.length c∧G9 w' .u8 a c l∧∀ p,a=some p→w.heap.size≤p.block
 below:Below w.heap.size w w'
theorem A3d.up {w w1 w2:World} {v:Value} {l:List Int} (h:A3d w1 w2 v l) (hb:Below w.heap.size w w1):A3d w w2 v l:=by
 obtain ⟨⟨a,c,rfl,hi,hf⟩,h2⟩:=h
 exact ⟨⟨a,c,rfl,hi,fun p hp=>Nat.le_trans hb.size (hf p hp)⟩,hb.trans (h2.mono hb.size)⟩
structure B5c (w w':World) (v:Value) (l:List Int):Prop where
 own:w'.ownsRow w.heap.size 5 1 v l.length (l.map (Value.int .u8))
 below:Below w.heap.size w w'
theorem B5c.new {w w':World} {v:Value} {l:List Int} (h:B5c w w' v l):A3d w w' v l:=by
 obtain ⟨a,c,rfl,_,hi⟩:=G9.of_own' h.own
 refine ⟨⟨a,c,rfl,hi,fun p hp=>?_⟩,h.below⟩
 subst hp
 obtain ⟨b,o,s⟩:=p
 rcases h.own.2 with ⟨he,_⟩ | ⟨g,cap,cur,he,hg,_⟩
 ·cases he
 ·cases he;exact hg
theorem G9.of_arr {w:World} {g n c:Nat} {L:List Int} (h:Arr w g n (K2 L)) (hn:n=L.length) (hc:n≤c) (hm:c≤maxLen):G9 w .u8 (some ⟨g,0,none⟩) c L:=by
 refine ⟨fun _=>⟨g,0,rfl,fun i hi=>?_⟩,fun h=>by simp at h,by omega,hm⟩
 have:=B8U h (show i < n by omega)
 rw [Nat.zero_add,this];rfl

end Go.Proofs.YtfflppedbopdpaaGreat
