/- A part of the proof of EvmLoops: XTy4. -/
import Derived.Test.YtfflppedbopdpaaGreatProg
import Derived.Test.YtfflppedbopdpaaGreatXSeg
import Derived.Test.YtfflppedbopdpaaGreatXTy3
import Derived.Test.YtfflppedbopdpaaGreatXTy2
set_option linter.unusedVariables false
set_option maxRecDepth 1000000
set_option maxHeartbeats 8000000
set_option linter.unusedSimpArgs false
namespace Go.Proofs.YtfflppedbopdpaaGreat
open Go.RowKit Go.Mun

def A2W:List (List Value):=[[.int .i64 0],A3 20 0,A3 20 0,A3 20 0,A3 32 0,A3 32 0,[.slice none 0 0],[.int .i64 0],[.int .i64 0],[.bool false]]
theorem A3p:(B7 A2W).length=129:=by kernel_rfl
theorem B80:Q0 Tryz.prog 37 129 (B7 A2W) (O7 A2W):=⟨⟨_,_,rfl,Tryz.underlying37,by kernel_rfl,by kernel_rfl⟩,A3p⟩
section
variable (ρ:Operand→Value) (dst:Option Tmp) (x y z:Operand) (parts:List (Nat × Operand)) (t:TypeId) (pos:String) (after:Array Edge) (gd:Option (Nat × Bool)) (w:World)
theorem C1o:(execOp ρ ⟨dst,.build 37 parts.toArray,t,pos,after,gd⟩).run Tryz.prog w=F7 (Y0 Tryz.prog 37 (parts.map fun p=>(p.1,ρ p.2)) w (I1 129 (O7 A2W) (B7 A2W) (parts.map fun p=>(p.1,ρ p.2)))):=S7 ρ dst t pos after gd w B80 parts
theorem B7h:X0 Tryz.prog 37 129:=⟨⟨_,Tryz.underlying37,rfl⟩,by kernel_rfl⟩
theorem C09:(execOp ρ ⟨dst,.load 37 x,t,pos,after,gd⟩).run Tryz.prog w=F7 (A1D Tryz.prog 37 129 (ρ x) w):=A0M ρ dst x t pos after gd w B7h
theorem C0h:(execOp ρ ⟨dst,.store 37 x y,t,pos,after,gd⟩).run Tryz.prog w=L1 (A0f Tryz.prog 37 129 (ρ x) (ρ y) w):=P8 ρ dst x y t pos after gd w B7h
theorem C1s:(execOp ρ ⟨dst,.alloc 37,t,pos,after,gd⟩).run Tryz.prog w = .ok (.value (.pointer (some ⟨w.heap.size,0,none⟩))) (w.alloc (.cells (B7 A2W).toArray 37)):=P9 ρ dst t pos after gd w (fun _=>by kernel_rfl)
def K9:List (List Value):=[[.int .i64 0],[.int .i64 0],[.slice none 0 0],[.slice none 0 0],A3 20 0]
theorem J8:(B7 K9).length=24:=by kernel_rfl
theorem B8Z:Q0 Tryz.prog 41 24 (B7 K9) (O7 K9):=⟨⟨_,_,rfl,Tryz.underlying41,by kernel_rfl,by kernel_rfl⟩,J8⟩
theorem C1n:(execOp ρ ⟨dst,.build 41 parts.toArray,t,pos,after,gd⟩).run Tryz.prog w=F7 (Y0 Tryz.prog 41 (parts.map fun p=>(p.1,ρ p.2)) w (I1 24 (O7 K9) (B7 K9) (parts.map fun p=>(p.1,ρ p.2)))):=S7 ρ dst t pos after gd w B8Z parts
theorem A2X:X0 Tryz.prog 41 24:=⟨⟨_,Tryz.underlying41,rfl⟩,by kernel_rfl⟩
theorem C08:(execOp ρ ⟨dst,.load 41 x,t,pos,after,gd⟩).run Tryz.prog w=F7 (A1D Tryz.prog 41 24 (ρ x) w):=A0M ρ dst x t pos after gd w A2X
theorem C0g:(execOp ρ ⟨dst,.store 41 x y,t,pos,after,gd⟩).run Tryz.prog w=L1 (A0f Tryz.prog 41 24 (ρ x) (ρ y) w):=P8 ρ dst x y t pos after gd w A2X
theorem C1r:(execOp ρ ⟨dst,.alloc 41,t,pos,after,gd⟩).run Tryz.prog w = .ok (.value (.pointer (some ⟨w.heap.size,0,none⟩))) (w.alloc (.cells (B7 K9).toArray 41)):=P9 ρ dst t pos after gd w (fun _=>by kernel_rfl)
def A7i:List (List Value):=[[.int .i64 0],[.int .i64 0],[.int .i64 0],A3 20 0,A3 20 0]
theorem B3y:(B7 A7i).length=43:=by kernel_rfl
theorem B8Y:Q0 Tryz.prog 64 43 (B7 A7i) (O7 A7i):=⟨⟨_,_,rfl,Tryz.underlying64,by kernel_rfl,by kernel_rfl⟩,B3y⟩
theorem C1m:(execOp ρ ⟨dst,.build 64 parts.toArray,t,pos,after,gd⟩).run Tryz.prog w=F7 (Y0 Tryz.prog 64 (parts.map fun p=>(p.1,ρ p.2)) w (I1 43 (O7 A7i) (B7 A7i) (parts.map fun p=>(p.1,ρ p.2)))):=S7 ρ dst t pos after gd w B8Y parts
theorem C0b:X0 Tryz.prog 64 43:=⟨⟨_,Tryz.underlying64,rfl⟩,by kernel_rfl⟩
theorem C07:(execOp ρ ⟨dst,.load 64 x,t,pos,after,gd⟩).run Tryz.prog w=F7 (A1D Tryz.prog 64 43 (ρ x) w):=A0M ρ dst x t pos after gd w C0b
def A4r:List (List Value):=[[.pointer none],B7 A7i,[.map none]]
theorem A6B:(B7 A4r).length=45:=by kernel_rfl
theorem B7s:Q0 Tryz.prog 103 45 (B7 A4r) (O7 A4r):=⟨⟨_,_,rfl,Tryz.underlying103,by kernel_rfl,by kernel_rfl⟩,A6B⟩
theorem B9Q:(execOp ρ ⟨dst,.build 103 parts.toArray,t,pos,after,gd⟩).run Tryz.prog w=F7 (Y0 Tryz.prog 103 (parts.map fun p=>(p.1,ρ p.2)) w (I1 45 (O7 A4r) (B7 A4r) (parts.map fun p=>(p.1,ρ p.2)))):=S7 ρ dst t pos after gd w B7s parts
def A4q:List (List Value):=[[.pointer none],B7 A2W,[.slice none 0 0],[.slice none 0 0],[.slice none 0 0],[.slice none 0 0],[.int .i64 0],[.int .i64 0],[.int .i64 0],[.slice none 0 0],[.slice none 0 0],[.slice none 0 0],[.bool false]]
theorem A6z:(B7 A4q).length=141:=by kernel_rfl
theorem B7p:Q0 Tryz.prog 212 141 (B7 A4q) (O7 A4q):=⟨⟨_,_,rfl,Tryz.underlying212,by kernel_rfl,by kernel_rfl⟩,A6z⟩
theorem B9L:(execOp ρ ⟨dst,.build 212 parts.toArray,t,pos,after,gd⟩).run Tryz.prog w=F7 (Y0 Tryz.prog 212 (parts.map fun p=>(p.1,ρ p.2)) w (I1 141 (O7 A4q) (B7 A4q) (parts.map fun p=>(p.1,ρ p.2)))):=S7 ρ dst t pos after gd w B7p parts
def A22:List (List Value):=[[.int .i64 0],[.int .i64 0],[.int .i64 0]]
theorem A2F:(B7 A22).length=3:=by kernel_rfl
theorem B7m:Q0 Tryz.prog 341 3 (B7 A22) (O7 A22):=⟨⟨_,_,rfl,Tryz.underlying341,by kernel_rfl,by kernel_rfl⟩,A2F⟩
theorem B9I:(execOp ρ ⟨dst,.build 341 parts.toArray,t,pos,after,gd⟩).run Tryz.prog w=F7 (Y0 Tryz.prog 341 (parts.map fun p=>(p.1,ρ p.2)) w (I1 3 (O7 A22) (B7 A22) (parts.map fun p=>(p.1,ρ p.2)))):=S7 ρ dst t pos after gd w B7m parts
theorem B8Q:X0 Tryz.prog 341 3:=⟨⟨_,Tryz.underlying341,rfl⟩,by kernel_rfl⟩
theorem B82:(execOp ρ ⟨dst,.store 341 x y,t,pos,after,gd⟩).run Tryz.prog w=L1 (A0f Tryz.prog 341 3 (ρ x) (ρ y) w):=P8 ρ dst x y t pos after gd w B8Q
theorem B9S:(execOp ρ ⟨dst,.alloc 341,t,pos,after,gd⟩).run Tryz.prog w = .ok (.value (.pointer (some ⟨w.heap.size,0,none⟩))) (w.alloc (.cells (B7 A22).toArray 341)):=P9 ρ dst t pos after gd w (fun _=>by kernel_rfl)
def A3o:List (List Value):=[A3 32 0,A3 32 0]
theorem A8e:(B7 A3o).length=64:=by kernel_rfl
theorem B8U:Q0 Tryz.prog 97 64 (B7 A3o) (O7 A3o):=⟨⟨_,_,rfl,Tryz.underlying97,by kernel_rfl,by kernel_rfl⟩,A8e⟩
theorem C1k:(execOp ρ ⟨dst,.build 97 parts.toArray,t,pos,after,gd⟩).run Tryz.prog w=F7 (Y0 Tryz.prog 97 (parts.map fun p=>(p.1,ρ p.2)) w (I1 64 (O7 A3o) (B7 A3o) (parts.map fun p=>(p.1,ρ p.2)))):=S7 ρ dst t pos after gd w B8U parts
theorem B8P:X0 Tryz.prog 97 64:=⟨⟨_,Tryz.underlying97,rfl⟩,by kernel_rfl⟩
theorem C05:(execOp ρ ⟨dst,.load 97 x,t,pos,after,gd⟩).run Tryz.prog w=F7 (A1D Tryz.prog 97 64 (ρ x) w):=A0M ρ dst x t pos after gd w B8P
theorem C0e:(execOp ρ ⟨dst,.store 97 x y,t,pos,after,gd⟩).run Tryz.prog w=L1 (A0f Tryz.prog 97 64 (ρ x) (ρ y) w):=P8 ρ dst x y t pos after gd w B8P
theorem C1p:(execOp ρ ⟨dst,.alloc 97,t,pos,after,gd⟩).run Tryz.prog w = .ok (.value (.pointer (some ⟨w.heap.size,0,none⟩))) (w.alloc (.cells (B7 A3o).toArray 97)):=P9 ρ dst t pos after gd w (fun _=>by kernel_rfl)
def L9:List (List Value):=[A3 20 0,[.int .i64 0],A3 32 0,[.slice none 0 0],[.slice none 0 0]]
theorem X1:(B7 L9).length=55:=by kernel_rfl
theorem B8W:Q0 Tryz.prog 35 55 (B7 L9) (O7 L9):=⟨⟨_,_,rfl,Tryz.underlying35,by kernel_rfl,by kernel_rfl⟩,X1⟩
theorem B3o:(execOp ρ ⟨dst,.build 35 parts.toArray,t,pos,after,gd⟩).run Tryz.prog w=F7 (Y0 Tryz.prog 35 (parts.map fun p=>(p.1,ρ p.2)) w (I1 55 (O7 L9) (B7 L9) (parts.map fun p=>(p.1,ρ p.2)))):=S7 ρ dst t pos after gd w B8W parts
theorem B5j:X0 Tryz.prog 35 55:=⟨⟨_,Tryz.underlying35,rfl⟩,by kernel_rfl⟩
theorem C06:(execOp ρ ⟨dst,.load 35 x,t,pos,after,gd⟩).run Tryz.prog w=F7 (A1D Tryz.prog 35 55 (ρ x) w):=A0M ρ dst x t pos after gd w B5j
theorem C0f:(execOp ρ ⟨dst,.store 35 x y,t,pos,after,gd⟩).run Tryz.prog w=L1 (A0f Tryz.prog 35 55 (ρ x) (ρ y) w):=P8 ρ dst x y t pos after gd w B5j
theorem C1q:(execOp ρ ⟨dst,.alloc 35,t,pos,after,gd⟩).run Tryz.prog w = .ok (.value (.pointer (some ⟨w.heap.size,0,none⟩))) (w.alloc (.cells (B7 L9).toArray 35)):=P9 ρ dst t pos after gd w (fun _=>by kernel_rfl)
def A8h:List (List Value):=[A3 20 0,[.slice none 0 0],[.slice none 0 0]]
theorem B2g:(B7 A8h).length=22:=by kernel_rfl
theorem B7r:Q0 Tryz.prog 58 22 (B7 A8h) (O7 A8h):=⟨⟨_,_,rfl,Tryz.underlying58,by kernel_rfl,by kernel_rfl⟩,B2g⟩
theorem B9P:(execOp ρ ⟨dst,.build 58 parts.toArray,t,pos,after,gd⟩).run Tryz.prog w=F7 (Y0 Tryz.prog 58 (parts.map fun p=>(p.1,ρ p.2)) w (I1 22 (O7 A8h) (B7 A8h) (parts.map fun p=>(p.1,ρ p.2)))):=S7 ρ dst t pos after gd w B7r parts
def A8g:List (List Value):=[[.map none],[.slice none 0 0],[.slice none 0 0],[.int .i64 0]]
theorem A8f:(B7 A8g).length=4:=by kernel_rfl
theorem B8X:Q0 Tryz.prog 94 4 (B7 A8g) (O7 A8g):=⟨⟨_,_,rfl,Tryz.underlying94,by kernel_rfl,by kernel_rfl⟩,A8f⟩
theorem C1l:(execOp ρ ⟨dst,.build 94 parts.toArray,t,pos,after,gd⟩).run Tryz.prog w=F7 (Y0 Tryz.prog 94 (parts.map fun p=>(p.1,ρ p.2)) w (I1 4 (O7 A8g) (B7 A8g) (parts.map fun p=>(p.1,ρ p.2)))):=S7 ρ dst t pos after gd w B8X parts
theorem B89:(execOp ρ ⟨dst,.store 39 x y,t,pos,after,gd⟩).run Tryz.prog w=L1 (A0S Tryz.prog 39 (ρ x) (ρ y) w):=N9 ρ dst x y t pos after gd w (by kernel_rfl)
end
attribute [go_sem ↓] C1o C09 C0h C1s C1n C08 C0g C1r C1m C07 B9Q B9L B9I B82 B9S C1k C05 C0e C1p B3o C06 C0f C1q B9P C1l B89
end Go.Proofs.YtfflppedbopdpaaGreat
