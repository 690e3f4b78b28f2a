/- A part of the proof of EvmLoops: XTy3. -/
import Derived.Test.YtfflppedbopdpaaGreatProg
import Derived.Test.YtfflppedbopdpaaGreatXSta
import Derived.Test.YtfflppedbopdpaaGreatXTy2
import Derived.Test.YtfflppedbopdpaaGreatXFrm
set_option linter.unusedVariables false
set_option maxRecDepth 1000000
set_option maxHeartbeats 8000000
set_option linter.unusedSimpArgs false
namespace Go.Proofs.YtfflppedbopdpaaGreat
open Go.RowKit Go.Mun

attribute [go_sem] V8
theorem B8V:Q0 Tryz.prog 86 35 B1e [(0,1),(1,32),(33,1),(34,1)]:=⟨⟨_,_,rfl,Tryz.underlying86,by kernel_rfl,by kernel_rfl⟩,V8 _ _ _ _⟩
section
variable (ρ:Operand→Value) (dst:Option Tmp) (x y z:Operand) (parts:List (Nat × Operand)) (t:TypeId) (pos:String) (after:Array Edge) (gd:Option (Nat × Bool)) (w:World)
theorem B8p:(execOp ρ ⟨dst,.build 86 parts.toArray,t,pos,after,gd⟩).run Tryz.prog w=F7 (Y0 Tryz.prog 86 (parts.map fun p=>(p.1,ρ p.2)) w (I1 35 [(0,1),(1,32),(33,1),(34,1)] B1e (parts.map fun p=>(p.1,ρ p.2)))):=S7 ρ dst t pos after gd w B8V parts
attribute [go_sem ↓] B8p
theorem A7d:(execOp ρ ⟨dst,.build 25 #[],t,pos,after,gd⟩).run Tryz.prog w = .ok (.value (.agg (A3 32 0).toArray)) w:=A4l (fun w=>by kernel_rfl) ρ dst t pos after gd w
theorem B9R:(execOp ρ ⟨dst,.build 23 #[],t,pos,after,gd⟩).run Tryz.prog w = .ok (.value (.agg (A3 20 0).toArray)) w:=A4l (fun w=>by kernel_rfl) ρ dst t pos after gd w
attribute [go_sem ↓] A7d B9R
theorem A23:256 ^ 32=wW:=by unfold wW;decide
theorem B3D:256 ^ 20=wA:=by unfold wA;decide
theorem A9w {a b:Nat} (ha:a < wW) (hb:b < wW) (w:World) (d:Nat):(Op.equalIn (d+3) 25 (.agg (A3 32 a).toArray) (.agg (A3 32 b).toArray)).run Tryz.prog w = .ok (decide (a=b)) w:=by
 rw [← A23] at ha hb
 rw [← B14 32 a b ha hb]
 exact A0D Tryz.underlying25 Tryz.underlying5 (by kernel_rfl) (d+1) a b w
theorem B65 {a b:Nat} (ha:a < wA) (hb:b < wA) (w:World) (d:Nat):(Op.equalIn (d+3) 23 (.agg (A3 20 a).toArray) (.agg (A3 20 b).toArray)).run Tryz.prog w = .ok (decide (a=b)) w:=by
 rw [← B3D] at ha hb
 rw [← B14 20 a b ha hb]
 exact A0D Tryz.underlying23 Tryz.underlying5 (by kernel_rfl) (d+1) a b w
theorem eqW {a b:Nat} (ha:a < wW) (hb:b < wW) (w:World):(Op.equalIn 10000 25 (.agg (A3 32 a).toArray) (.agg (A3 32 b).toArray)).run Tryz.prog w = .ok (decide (a=b)) w:=A2V (A9w ha hb w)
theorem eqA {a b:Nat} (ha:a < wA) (hb:b < wA) (w:World):(Op.equalIn 10000 23 (.agg (A3 20 a).toArray) (.agg (A3 20 b).toArray)).run Tryz.prog w = .ok (decide (a=b)) w:=A2V (B65 ha hb w)
theorem B88:(execOp ρ ⟨dst,.store 91 x y,t,pos,after,gd⟩).run Tryz.prog w=L1 (A0S Tryz.prog 91 (ρ x) (ρ y) w):=N9 ρ dst x y t pos after gd w (by kernel_rfl)
theorem B87:(execOp ρ ⟨dst,.store 92 x y,t,pos,after,gd⟩).run Tryz.prog w=L1 (A0S Tryz.prog 92 (ρ x) (ρ y) w):=N9 ρ dst x y t pos after gd w (by kernel_rfl)
theorem B9d:(execOp ρ ⟨dst,.store 26 x y,t,pos,after,gd⟩).run Tryz.prog w=L1 (A0S Tryz.prog 26 (ρ x) (ρ y) w):=N9 ρ dst x y t pos after gd w (by kernel_rfl)
theorem C0p:(execOp ρ ⟨dst,.store 4 x y,t,pos,after,gd⟩).run Tryz.prog w=L1 (A0S Tryz.prog 4 (ρ x) (ρ y) w):=N9 ρ dst x y t pos after gd w (by kernel_rfl)
theorem B9a:(execOp ρ ⟨dst,.store 38 x y,t,pos,after,gd⟩).run Tryz.prog w=L1 (A0S Tryz.prog 38 (ρ x) (ρ y) w):=N9 ρ dst x y t pos after gd w (by kernel_rfl)
def A58:List Value:=A3 20 0++[.int .i64 0]
theorem A8k:A58.length=21:=by simp [A58]
attribute [go_sem] A8k
def A4H:List Value:=A3 20 0++A3 32 0
theorem A42:A4H.length=52:=by simp [A4H]
theorem B7n:Q0 Tryz.prog 324 52 A4H [(0,20),(20,32)]:=⟨⟨_,_,rfl,Tryz.underlying324,by kernel_rfl,by kernel_rfl⟩,A42⟩
theorem B9J:(execOp ρ ⟨dst,.build 324 parts.toArray,t,pos,after,gd⟩).run Tryz.prog w=F7 (Y0 Tryz.prog 324 (parts.map fun p=>(p.1,ρ p.2)) w (I1 52 [(0,20),(20,32)] A4H (parts.map fun p=>(p.1,ρ p.2)))):=S7 ρ dst t pos after gd w B7n parts
attribute [go_sem ↓] B9J
attribute [go_sem] A42
def A8j:List Value:=A3 20 0++[.slice none 0 0]
theorem A8i:A8j.length=21:=by simp [A8j]
attribute [go_sem] A8i
def A59:List Value:=A3 20 0++(A3 32 0++A3 32 0)
theorem A44:A59.length=84:=by simp [A59]
theorem B7o:Q0 Tryz.prog 286 84 A59 [(0,20),(20,32),(52,32)]:=⟨⟨_,_,rfl,Tryz.underlying286,by kernel_rfl,by kernel_rfl⟩,A44⟩
theorem B9K:(execOp ρ ⟨dst,.build 286 parts.toArray,t,pos,after,gd⟩).run Tryz.prog w=F7 (Y0 Tryz.prog 286 (parts.map fun p=>(p.1,ρ p.2)) w (I1 84 [(0,20),(20,32),(52,32)] A59 (parts.map fun p=>(p.1,ρ p.2)))):=S7 ρ dst t pos after gd w B7o parts
end
attribute [go_sem ↓] B9K
attribute [go_sem] A44
def A9U:List Value:=A3 20 0++[.pointer none]
theorem A43:A9U.length=21:=by simp [A9U]
attribute [go_sem] A43
theorem A3L (A A' B:List Value) (h:A'.length=A.length):lay (A++B) 0 A'=A'++B:=by
 rw [A2f _ _ _ (by simp;omega)];simp [splice,h]
theorem A6X (A B B':List Value) (o:Nat) (ho:o=A.length) (h:B'.length=B.length):lay (A++B) o B'=A++B':=by
 subst ho;rw [A2f _ _ _ (by simp;omega)];simp [splice,h]
theorem C1d (z A A' B B':List Value) (o:Nat) (hz:z=A++B) (ha:A'.length=A.length) (ho:o=A.length) (hb:B'.length=B.length):lay (lay z 0 A') o B'=A'++B':=by
 rw [hz,A3L _ _ _ ha,A6X _ _ _ _ (by omega) hb]
attribute [go_sem ↓] B88 B87 B9d C0p B9a
end Go.Proofs.YtfflppedbopdpaaGreat
