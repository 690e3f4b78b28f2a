/- A part of the proof of EvmLogs: ZFrm2. -/
import Derived.Test.YtfflppedbopdpaaGreatZFrm
set_option linter.unusedVariables false
set_option linter.unusedSimpArgs false
namespace Go.Mun
open Go.RowKit
theorem A6e {P:Program} {t n e:Nat} {k:IntKind} (hu:P.underlying t=some (.array n e)) (he:P.underlying e=some (.int k)) (hs:(P.info? e).map (·.size)=some 1)
  (R:List Value) (i:Nat) (hi:i < n) {v:Value} (hv:R[i]? = some v) (w:World):(Instr.index t (.agg R.toArray) (.int .i64 (i:Int))).run P w = .ok v w:=by
 cases hq:P.info? e with
 | none=>simp [hq] at hs
 | some inf =>
  have hs':inf.size=1:=by simpa [hq] using hs
  have hagg:(isAgg e).run P w = .ok false w:=by
   unfold isAgg
   rw [Sem.run_bind,run_underlying he w];rfl
  have hsz:(sizeOf e).run P w = .ok 1 w:=by simp [sizeOf,typeInfo,hq,hs']
  simp [Instr.index,asIntOf,Sem.run_bind,run_underlying hu w,hsz,part,hagg,hv]
  intro h;omega

end Go.Mun
