/- A part of the proof of EvmLogs: ZRlp2. -/
import Derived.Test.YtfflppedbopdpaaGreatZRlp1
import Derived.Test.YtfflppedbopdpaaGreatZTy2
import Derived.Deep.RegionHeld3
set_option linter.unusedVariables false
set_option linter.unusedSimpArgs false
namespace Go.Mun
open Go.RowKit

end Go.Mun
namespace Go.Proofs.YtfflppedbopdpaaGreat
open Go.RowKit Go.Mun

theorem C0e (v:Value) (w:World):(Instr.typeAssert (.iface 26 v) 105 26 true).run Tryz.prog w = .ok (.tuple #[v,.bool true]) w:=by
 simp [Instr.typeAssert,Sem.run_bind,run_underlying Tryz.underlying26]
theorem C0d (v:Value) (w:World):(Instr.typeAssert (.iface 67 v) 105 67 true).run Tryz.prog w = .ok (.tuple #[v,.bool true]) w:=by
 simp [Instr.typeAssert,Sem.run_bind,run_underlying Tryz.underlying67]
theorem B8X (v:Value) (w:World):(Instr.typeAssert (.iface 67 v) 105 26 true).run Tryz.prog w = .ok (.tuple #[.slice none 0 0,.bool false]) w:=by
 simp [Instr.typeAssert,Sem.run_bind,run_underlying Tryz.underlying26]
attribute [local go_sem] C0e C0d B8X
/-! write -/
end Go.Proofs.YtfflppedbopdpaaGreat
namespace Go.Proofs.YtfflppedbopdpaaGreat
open Go.RowKit Go.Mun
theorem G9.only {w w':World} {k:IntKind} {a:Option Addr} {c:Nat} {l:List Int} {S:Nat→Prop} (h:G9 w k a c l) (ho:A0 S w w') (hs:∀ p,a=some p→¬ S p.block):G9 w' k a c l:=by
 refine ⟨fun hl=>?_,h.nil,h.len,h.cap⟩
 obtain ⟨b,off,ha,hc⟩:=h.cell hl
 refine ⟨b,off,ha,fun i hi=>?_⟩
 have hb:b < w.heap.size:=by
  obtain ⟨b2,o2,ha2,hb2,_⟩:=h.at (i:=0) (List.length_pos_iff.2 hl)
  rw [ha] at ha2;cases ha2;exact hb2
 rw [ho.cell? hb (hs _ ha)];exact hc i hi
/-! a literal of two items -/
def B73:List Value:=A60++A60
def B8d (p:List (Nat × Value)):Option (List Value):=F8 (2*3) ((List.range 2).map fun i=>(i*3,3)) B73 p
@[go_sem] theorem B8c (c0 c1:List Value) (h0:c0.length=3) (h1:c1.length=3):B8d [(0,.agg c0.toArray),(1,.agg c1.toArray)]=some (c0++c1):=by
 match c0,h0,c1,h1 with
 | [a,b,c],_,[d,e,f],_=>rfl
end Go.Proofs.YtfflppedbopdpaaGreat
