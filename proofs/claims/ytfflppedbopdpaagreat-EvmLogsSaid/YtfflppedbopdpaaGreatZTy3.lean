/- A part of the proof of EvmLogs: ZTy3. -/
import Derived.Test.YtfflppedbopdpaaGreatProg
import Derived.Test.YtfflppedbopdpaaGreatZSta
import Derived.Test.YtfflppedbopdpaaGreatZTy2
import Derived.Test.YtfflppedbopdpaaGreatZFrm
set_option linter.unusedVariables false
set_option maxRecDepth 1000000
set_option maxHeartbeats 8000000
set_option linter.unusedSimpArgs false
namespace Go.Proofs.YtfflppedbopdpaaGreat
open Go.RowKit Go.Mun

attribute [go_sem] V2
theorem B80:P1 Tryz.prog 86 35 B0P [(0,1),(1,32),(33,1),(34,1)]:=⟨⟨_,_,rfl,Tryz.underlying86,by kernel_rfl,by kernel_rfl⟩,V2 _ _ _ _⟩
section
variable (ρ:Operand→Value) (dst:Option Tmp) (x y z:Operand) (parts:List (Nat × Operand)) (t:TypeId) (pos:String) (after:Array Edge) (gd:Option (Nat × Bool)) (w:World)
theorem B8u:(execOp ρ ⟨dst,.build 86 parts.toArray,t,pos,after,gd⟩).run Tryz.prog w=E7 (V8 Tryz.prog 86 (parts.map fun p=>(p.1,ρ p.2)) w (F8 35 [(0,1),(1,32),(33,1),(34,1)] B0P (parts.map fun p=>(p.1,ρ p.2)))):=P9 ρ dst t pos after gd w B80 parts
attribute [go_sem ↓] B8u
theorem B46:(execOp ρ ⟨dst,.build 25 #[],t,pos,after,gd⟩).run Tryz.prog w = .ok (.value (.agg (A3 32 0).toArray)) w:=A33 (fun w=>by kernel_rfl) ρ dst t pos after gd w
theorem B9O:(execOp ρ ⟨dst,.build 23 #[],t,pos,after,gd⟩).run Tryz.prog w = .ok (.value (.agg (A3 20 0).toArray)) w:=A33 (fun w=>by kernel_rfl) ρ dst t pos after gd w
attribute [go_sem ↓] B46 B9O
theorem A2Z:256 ^ 32=wW:=by unfold wW;decide
theorem B3u:256 ^ 20=wA:=by unfold wA;decide
theorem A7a {a b:Nat} (ha:a < wW) (hb:b < wW) (w:World) (d:Nat):(Op.equalIn (d+3) 25 (.agg (A3 32 a).toArray) (.agg (A3 32 b).toArray)).run Tryz.prog w = .ok (decide (a=b)) w:=by
 rw [← A2Z] at ha hb
 rw [← B1K 32 a b ha hb]
 exact A11 Tryz.underlying25 Tryz.underlying5 (by kernel_rfl) (d+1) a b w
theorem B1w {a b:Nat} (ha:a < wA) (hb:b < wA) (w:World) (d:Nat):(Op.equalIn (d+3) 23 (.agg (A3 20 a).toArray) (.agg (A3 20 b).toArray)).run Tryz.prog w = .ok (decide (a=b)) w:=by
 rw [← B3u] at ha hb
 rw [← B1K 20 a b ha hb]
 exact A11 Tryz.underlying23 Tryz.underlying5 (by kernel_rfl) (d+1) a b w
theorem eqW {a b:Nat} (ha:a < wW) (hb:b < wW) (w:World):(Op.equalIn 10000 25 (.agg (A3 32 a).toArray) (.agg (A3 32 b).toArray)).run Tryz.prog w = .ok (decide (a=b)) w:=A2Q (A7a ha hb w)
theorem eqA {a b:Nat} (ha:a < wA) (hb:b < wA) (w:World):(Op.equalIn 10000 23 (.agg (A3 20 a).toArray) (.agg (A3 20 b).toArray)).run Tryz.prog w = .ok (decide (a=b)) w:=A2Q (B1w ha hb w)
theorem B9d:(execOp ρ ⟨dst,.store 91 x y,t,pos,after,gd⟩).run Tryz.prog w=J9 (A0G Tryz.prog 91 (ρ x) (ρ y) w):=O3 ρ dst x y t pos after gd w (by kernel_rfl)
theorem B9c:(execOp ρ ⟨dst,.store 92 x y,t,pos,after,gd⟩).run Tryz.prog w=J9 (A0G Tryz.prog 92 (ρ x) (ρ y) w):=O3 ρ dst x y t pos after gd w (by kernel_rfl)
theorem B9i:(execOp ρ ⟨dst,.store 26 x y,t,pos,after,gd⟩).run Tryz.prog w=J9 (A0G Tryz.prog 26 (ρ x) (ρ y) w):=O3 ρ dst x y t pos after gd w (by kernel_rfl)
theorem C0q:(execOp ρ ⟨dst,.store 4 x y,t,pos,after,gd⟩).run Tryz.prog w=J9 (A0G Tryz.prog 4 (ρ x) (ρ y) w):=O3 ρ dst x y t pos after gd w (by kernel_rfl)
theorem B9f:(execOp ρ ⟨dst,.store 38 x y,t,pos,after,gd⟩).run Tryz.prog w=J9 (A0G Tryz.prog 38 (ρ x) (ρ y) w):=O3 ρ dst x y t pos after gd w (by kernel_rfl)
def A54:List Value:=A3 20 0++[.int .i64 0]
theorem A8g:A54.length=21:=by simp [A54]
attribute [go_sem] A8g
def A4z:List Value:=A3 20 0++A3 32 0
theorem A4U:A4z.length=52:=by simp [A4z]
theorem B7l:P1 Tryz.prog 324 52 A4z [(0,20),(20,32)]:=⟨⟨_,_,rfl,Tryz.underlying324,by kernel_rfl,by kernel_rfl⟩,A4U⟩
theorem B9F:(execOp ρ ⟨dst,.build 324 parts.toArray,t,pos,after,gd⟩).run Tryz.prog w=E7 (V8 Tryz.prog 324 (parts.map fun p=>(p.1,ρ p.2)) w (F8 52 [(0,20),(20,32)] A4z (parts.map fun p=>(p.1,ρ p.2)))):=P9 ρ dst t pos after gd w B7l parts
attribute [go_sem ↓] B9F
attribute [go_sem] A4U
def A8f:List Value:=A3 20 0++[.slice none 0 0]
theorem A8e:A8f.length=21:=by simp [A8f]
attribute [go_sem] A8e
def A55:List Value:=A3 20 0++(A3 32 0++A3 32 0)
theorem A4W:A55.length=84:=by simp [A55]
theorem B7m:P1 Tryz.prog 286 84 A55 [(0,20),(20,32),(52,32)]:=⟨⟨_,_,rfl,Tryz.underlying286,by kernel_rfl,by kernel_rfl⟩,A4W⟩
theorem B9G:(execOp ρ ⟨dst,.build 286 parts.toArray,t,pos,after,gd⟩).run Tryz.prog w=E7 (V8 Tryz.prog 286 (parts.map fun p=>(p.1,ρ p.2)) w (F8 84 [(0,20),(20,32),(52,32)] A55 (parts.map fun p=>(p.1,ρ p.2)))):=P9 ρ dst t pos after gd w B7m parts
end
attribute [go_sem ↓] B9G
attribute [go_sem] A4W
def A9H:List Value:=A3 20 0++[.pointer none]
theorem A4V:A9H.length=21:=by simp [A9H]
attribute [go_sem] A4V
theorem A3D (A A' B:List Value) (h:A'.length=A.length):lay (A++B) 0 A'=A'++B:=by
 rw [A18 _ _ _ (by simp;omega)];simp [splice,h]
theorem A6X (A B B':List Value) (o:Nat) (ho:o=A.length) (h:B'.length=B.length):lay (A++B) o B'=A++B':=by
 subst ho;rw [A18 _ _ _ (by simp;omega)];simp [splice,h]
theorem C0E (z A A' B B':List Value) (o:Nat) (hz:z=A++B) (ha:A'.length=A.length) (ho:o=A.length) (hb:B'.length=B.length):lay (lay z 0 A') o B'=A'++B':=by
 rw [hz,A3D _ _ _ ha,A6X _ _ _ _ (by omega) hb]
attribute [go_sem ↓] B9d B9c B9i C0q B9f
end Go.Proofs.YtfflppedbopdpaaGreat
