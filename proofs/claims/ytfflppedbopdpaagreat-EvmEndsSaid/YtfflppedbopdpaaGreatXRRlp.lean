/-
  The reference's RLP: contracts of head, Deep, pack, Pack.
-/
import Derived.Test.YtfflppedbopdpaaGreatXRlp2
set_option linter.unusedVariables false
set_option linter.unusedSimpArgs false
namespace Go.Proofs.YtfflppedbopdpaaGreat
open Go.RowKit Go.Mun

def DeepOk (k : Nat) : Prop := ∀ (cs : List Value) (t : RTree) (d : Nat) (w : World), depthT t ≤ k → depthT t ≤ d → d ≤ 32 → ItemAt w cs t →
 (∀ ts, t = .list ts → ts.length ≤ 16777216) →
 Calls Tryz.prog 55 #[.agg cs.toArray, .int .i64 d] w fun e w' => e = .returned (.int .i64 (depthT t : Nat)) ∧ Below w.heap.size w w'
end Go.Proofs.YtfflppedbopdpaaGreat
