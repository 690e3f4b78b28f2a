/- A part of the proof of EvmLogs: ZKec1. -/
import Derived.Test.YtfflppedbopdpaaGreatZTy
import Derived.Test.YtfflppedbopdpaaGreatZNum
import Derived.Test.YtfflppedbopdpaaGreatZFrm
set_option linter.unusedVariables false
set_option linter.unusedSimpArgs false
namespace Go.Proofs.YtfflppedbopdpaaGreat
open Go.RowKit Go.Mun

def rcL:List Int:=[1,32898,9223372036854808714,9223372039002292224,32907,2147483649,9223372039002292353,9223372036854808585,138,136,2147516425,2147483658,2147516555,9223372036854775947,9223372036854808713,9223372036854808579,9223372036854808578,9223372036854775936,32778,9223372039002259466,9223372039002292353,9223372036854808704,2147483649,9223372039002292232]
def tL:List Int:=[0,1,62,28,27,36,44,6,55,20,3,10,43,25,39,41,45,15,21,8,18,2,61,56,14]
def C0G (L:List Int):List Value:=L.map (Value.int .i64)
theorem B9K (a:Act) (dst:Option Tmp) (t:TypeId) (pos:String) (after:Array Edge) (gd:Option (Nat × Bool)) (w:World) :
  (execOp a.eval ⟨dst,.build 182 #[(0,.const (.int .u64 1)),(1,.const (.int .u64 32898)),(2,.const (.int .u64 9223372036854808714)),(3,.const (.int .u64 9223372039002292224)),(4,.const (.int .u64 32907)),(5,.const (.int .u64 2147483649)),(6,.const (.int .u64 9223372039002292353)),(7,.const (.int .u64 9223372036854808585)),(8,.const (.int .u64 138)),(9,.const (.int .u64 136)),(10,.const (.int .u64 2147516425)),(11,.const (.int .u64 2147483658)),(12,.const (.int .u64 2147516555)),(13,.const (.int .u64 9223372036854775947)),(14,.const (.int .u64 9223372036854808713)),(15,.const (.int .u64 9223372036854808579)),(16,.const (.int .u64 9223372036854808578)),(17,.const (.int .u64 9223372036854775936)),(18,.const (.int .u64 32778)),(19,.const (.int .u64 9223372039002259466)),(20,.const (.int .u64 9223372039002292353)),(21,.const (.int .u64 9223372036854808704)),(22,.const (.int .u64 2147483649)),(23,.const (.int .u64 9223372039002292232))],t,pos,after,gd⟩).run Tryz.prog w = .ok (.value (.agg (l64 rcL).toArray)) w:=by kernel_rfl
theorem B9L (a:Act) (dst:Option Tmp) (t:TypeId) (pos:String) (after:Array Edge) (gd:Option (Nat × Bool)) (w:World) :
  (execOp a.eval ⟨dst,.build 180 #[(0,.const (.int .i64 0)),(1,.const (.int .i64 1)),(2,.const (.int .i64 62)),(3,.const (.int .i64 28)),(4,.const (.int .i64 27)),(5,.const (.int .i64 36)),(6,.const (.int .i64 44)),(7,.const (.int .i64 6)),(8,.const (.int .i64 55)),(9,.const (.int .i64 20)),(10,.const (.int .i64 3)),(11,.const (.int .i64 10)),(12,.const (.int .i64 43)),(13,.const (.int .i64 25)),(14,.const (.int .i64 39)),(15,.const (.int .i64 41)),(16,.const (.int .i64 45)),(17,.const (.int .i64 15)),(18,.const (.int .i64 21)),(19,.const (.int .i64 8)),(20,.const (.int .i64 18)),(21,.const (.int .i64 2)),(22,.const (.int .i64 61)),(23,.const (.int .i64 56)),(24,.const (.int .i64 14))],t,pos,after,gd⟩).run Tryz.prog w = .ok (.value (.agg (C0G tL).toArray)) w:=by kernel_rfl
attribute [local go_sem ↓] B9K B9L
end Go.Proofs.YtfflppedbopdpaaGreat
