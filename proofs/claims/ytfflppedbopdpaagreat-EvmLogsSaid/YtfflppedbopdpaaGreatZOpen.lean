/- A part of the proof of EvmLogs: ZOpen. -/
import Derived.Test.YtfflppedbopdpaaGreatZNum
import Derived.ProofKit
import Derived.OpenShut
set_option linter.unusedVariables false
set_option linter.unusedSimpArgs false
namespace Go.Mun
open Go.WideShapes Go.RowKit
section
variable {H:Type} {enc:TypeId × Value→H} {P:Program} {w:World} {base:Nat} {spare:Nat→Bool} {held:Bool} {fuel:Nat} {t e n:Nat}

theorem A7M {r:Reach} {b0:Nat} {v:Value} (ht:P.underlying t=some (.array n e)) (h:Value.okWide P w r b0 t v):∃ cs,v = .agg cs∧cs.size=P.cellsOf t:=by
 simp only [Value.okWide,ht] at h
 obtain ⟨cs,h1,h2,_⟩:=h
 exact ⟨cs,h1,h2⟩

theorem A9J {cs:List Value} {x:DataW H × List MemPlace} (ht:P.underlying t=some (.array n e)) (he:P.underlying e=some (.int .u8)) (hc:P.cellsOf e=1) (hct:P.cellsOf t=n)
  (h:DataW.trod enc P w base spare held fuel t cs=some x):∃ L:List Int,cs=K2 L∧L.length=n∧∀ y∈L,0≤y∧y≤255:=by
 obtain ⟨xs,m,_,_,hl,hxl,hel⟩:=DataW.trod_array ht h
 rw [hct] at hl
 have key:∀ i (hi:i < cs.length),∃ k,cs[i] = .int .u8 k∧(Lit.int .u8 k).wf=true:=by
  intro i hi
  have h1:=hel i (by omega)
  rw [hc,Nat.mul_one] at h1
  have h2:xs[i]? = some (xs[i]'(by omega)):=List.getElem?_eq_getElem (by omega)
  rw [h2] at h1
  obtain ⟨k,hk,_,hw⟩:=DataW.trod_int he h1
  rw [List.drop_eq_getElem_cons hi,List.take_succ_cons,List.take_zero] at hk
  injection hk with hk1 _
  exact ⟨k,hk1,hw⟩
 refine ⟨cs.map fun v=>match v with | .int _ k=>k | _=>0,?_,by simpa using hl,?_⟩
 ·apply List.ext_getElem (by simp)
  intro i h1 h2
  obtain ⟨k,hk,_⟩:=key i h1
  simp only [K2,List.getElem_map,hk]
 ·intro y hy
  obtain ⟨v,hv,rfl⟩:=List.mem_map.1 hy
  obtain ⟨i,hi,rfl⟩:=List.getElem_of_mem hv
  obtain ⟨k,hk,hw⟩:=key i hi
  rw [hk]
  exact B6S hw

theorem open_bytesArr {r:Reach} {b0:Nat} {v:Value} {d:DataW H} {p:List MemPlace} (ht:P.underlying t=some (.array n e)) (he:P.underlying e=some (.int .u8)) (hc:P.cellsOf e=1) (hct:P.cellsOf t=n)
  (hv:Value.okWide P w r b0 t v) (h:DataW.Trod enc P w base spare held t v d p):∃ L:List Int,v = .agg (K2 L).toArray∧L.length=n∧∀ y∈L,0≤y∧y≤255:=by
 obtain ⟨cs,rfl,_⟩:=A7M ht hv
 obtain ⟨fuel,hf⟩:=h
 obtain ⟨L,h1,h2,h3⟩:=A9J ht he hc hct hf
 refine ⟨L,?_,h2,h3⟩
 have h1':cs.toList=K2 L:=h1
 rw [← h1']
end
end Go.Mun
