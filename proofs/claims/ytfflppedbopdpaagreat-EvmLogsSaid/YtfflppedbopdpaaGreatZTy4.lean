/- A part of the proof of EvmLogs: ZTy4. -/
import Derived.Test.YtfflppedbopdpaaGreatProg
import Derived.Test.YtfflppedbopdpaaGreatZSeg
import Derived.Test.YtfflppedbopdpaaGreatZTy3
import Derived.Test.YtfflppedbopdpaaGreatZTy2
set_option linter.unusedVariables false
set_option maxRecDepth 1000000
set_option maxHeartbeats 8000000
set_option linter.unusedSimpArgs false
namespace Go.Proofs.YtfflppedbopdpaaGreat
open Go.RowKit Go.Mun

def A2R:List (List Value):=[[.int .i64 0],A3 20 0,A3 20 0,A3 20 0,A3 32 0,A3 32 0,[.slice none 0 0],[.int .i64 0],[.int .i64 0],[.bool false]]
theorem A3e:(B8 A2R).length=129:=by kernel_rfl
theorem B85:P1 Tryz.prog 37 129 (B8 A2R) (N8 A2R):=⟨⟨_,_,rfl,Tryz.underlying37,by kernel_rfl,by kernel_rfl⟩,A3e⟩
section
variable (ρ:Operand→Value) (dst:Option Tmp) (x y z:Operand) (parts:List (Nat × Operand)) (t:TypeId) (pos:String) (after:Array Edge) (gd:Option (Nat × Bool)) (w:World)
theorem C0P:(execOp ρ ⟨dst,.build 37 parts.toArray,t,pos,after,gd⟩).run Tryz.prog w=E7 (V8 Tryz.prog 37 (parts.map fun p=>(p.1,ρ p.2)) w (F8 129 (N8 A2R) (B8 A2R) (parts.map fun p=>(p.1,ρ p.2)))):=P9 ρ dst t pos after gd w B85 parts
theorem B7f:V3 Tryz.prog 37 129:=⟨⟨_,Tryz.underlying37,rfl⟩,by kernel_rfl⟩
theorem C0A:(execOp ρ ⟨dst,.load 37 x,t,pos,after,gd⟩).run Tryz.prog w=E7 (A1g Tryz.prog 37 129 (ρ x) w):=A0m ρ dst x t pos after gd w B7f
theorem C0i:(execOp ρ ⟨dst,.store 37 x y,t,pos,after,gd⟩).run Tryz.prog w=J9 (Y4 Tryz.prog 37 129 (ρ x) (ρ y) w):=O9 ρ dst x y t pos after gd w B7f
theorem C0T:(execOp ρ ⟨dst,.alloc 37,t,pos,after,gd⟩).run Tryz.prog w = .ok (.value (.pointer (some ⟨w.heap.size,0,none⟩))) (w.alloc (.cells (B8 A2R).toArray 37)):=P0 ρ dst t pos after gd w (fun _=>by kernel_rfl)
def L3:List (List Value):=[[.int .i64 0],[.int .i64 0],[.slice none 0 0],[.slice none 0 0],A3 20 0]
theorem K1:(B8 L3).length=24:=by kernel_rfl
theorem B84:P1 Tryz.prog 41 24 (B8 L3) (N8 L3):=⟨⟨_,_,rfl,Tryz.underlying41,by kernel_rfl,by kernel_rfl⟩,K1⟩
theorem C0O:(execOp ρ ⟨dst,.build 41 parts.toArray,t,pos,after,gd⟩).run Tryz.prog w=E7 (V8 Tryz.prog 41 (parts.map fun p=>(p.1,ρ p.2)) w (F8 24 (N8 L3) (B8 L3) (parts.map fun p=>(p.1,ρ p.2)))):=P9 ρ dst t pos after gd w B84 parts
theorem A2T:V3 Tryz.prog 41 24:=⟨⟨_,Tryz.underlying41,rfl⟩,by kernel_rfl⟩
theorem C0z:(execOp ρ ⟨dst,.load 41 x,t,pos,after,gd⟩).run Tryz.prog w=E7 (A1g Tryz.prog 41 24 (ρ x) w):=A0m ρ dst x t pos after gd w A2T
theorem C0h:(execOp ρ ⟨dst,.store 41 x y,t,pos,after,gd⟩).run Tryz.prog w=J9 (Y4 Tryz.prog 41 24 (ρ x) (ρ y) w):=O9 ρ dst x y t pos after gd w A2T
theorem C0S:(execOp ρ ⟨dst,.alloc 41,t,pos,after,gd⟩).run Tryz.prog w = .ok (.value (.pointer (some ⟨w.heap.size,0,none⟩))) (w.alloc (.cells (B8 L3).toArray 41)):=P0 ρ dst t pos after gd w (fun _=>by kernel_rfl)
def A7i:List (List Value):=[[.int .i64 0],[.int .i64 0],[.int .i64 0],A3 20 0,A3 20 0]
theorem B3o:(B8 A7i).length=43:=by kernel_rfl
theorem B83:P1 Tryz.prog 64 43 (B8 A7i) (N8 A7i):=⟨⟨_,_,rfl,Tryz.underlying64,by kernel_rfl,by kernel_rfl⟩,B3o⟩
theorem C0N:(execOp ρ ⟨dst,.build 64 parts.toArray,t,pos,after,gd⟩).run Tryz.prog w=E7 (V8 Tryz.prog 64 (parts.map fun p=>(p.1,ρ p.2)) w (F8 43 (N8 A7i) (B8 A7i) (parts.map fun p=>(p.1,ρ p.2)))):=P9 ρ dst t pos after gd w B83 parts
theorem C0b:V3 Tryz.prog 64 43:=⟨⟨_,Tryz.underlying64,rfl⟩,by kernel_rfl⟩
theorem C0y:(execOp ρ ⟨dst,.load 64 x,t,pos,after,gd⟩).run Tryz.prog w=E7 (A1g Tryz.prog 64 43 (ρ x) w):=A0m ρ dst x t pos after gd w C0b
def A4a:List (List Value):=[[.pointer none],B8 A7i,[.map none]]
theorem A6x:(B8 A4a).length=45:=by kernel_rfl
theorem B7r:P1 Tryz.prog 103 45 (B8 A4a) (N8 A4a):=⟨⟨_,_,rfl,Tryz.underlying103,by kernel_rfl,by kernel_rfl⟩,A6x⟩
theorem B9N:(execOp ρ ⟨dst,.build 103 parts.toArray,t,pos,after,gd⟩).run Tryz.prog w=E7 (V8 Tryz.prog 103 (parts.map fun p=>(p.1,ρ p.2)) w (F8 45 (N8 A4a) (B8 A4a) (parts.map fun p=>(p.1,ρ p.2)))):=P9 ρ dst t pos after gd w B7r parts
def A39:List (List Value):=[[.pointer none],B8 A2R,[.slice none 0 0],[.slice none 0 0],[.slice none 0 0],[.slice none 0 0],[.int .i64 0],[.int .i64 0],[.int .i64 0],[.slice none 0 0],[.slice none 0 0],[.slice none 0 0],[.bool false]]
theorem A6u:(B8 A39).length=141:=by kernel_rfl
theorem B7o:P1 Tryz.prog 212 141 (B8 A39) (N8 A39):=⟨⟨_,_,rfl,Tryz.underlying212,by kernel_rfl,by kernel_rfl⟩,A6u⟩
theorem B9I:(execOp ρ ⟨dst,.build 212 parts.toArray,t,pos,after,gd⟩).run Tryz.prog w=E7 (V8 Tryz.prog 212 (parts.map fun p=>(p.1,ρ p.2)) w (F8 141 (N8 A39) (B8 A39) (parts.map fun p=>(p.1,ρ p.2)))):=P9 ρ dst t pos after gd w B7o parts
def A2X:List (List Value):=[[.int .i64 0],[.int .i64 0],[.int .i64 0]]
theorem A2C:(B8 A2X).length=3:=by kernel_rfl
theorem B7k:P1 Tryz.prog 341 3 (B8 A2X) (N8 A2X):=⟨⟨_,_,rfl,Tryz.underlying341,by kernel_rfl,by kernel_rfl⟩,A2C⟩
theorem B9E:(execOp ρ ⟨dst,.build 341 parts.toArray,t,pos,after,gd⟩).run Tryz.prog w=E7 (V8 Tryz.prog 341 (parts.map fun p=>(p.1,ρ p.2)) w (F8 3 (N8 A2X) (B8 A2X) (parts.map fun p=>(p.1,ρ p.2)))):=P9 ρ dst t pos after gd w B7k parts
theorem B8W:V3 Tryz.prog 341 3:=⟨⟨_,Tryz.underlying341,rfl⟩,by kernel_rfl⟩
theorem B86:(execOp ρ ⟨dst,.store 341 x y,t,pos,after,gd⟩).run Tryz.prog w=J9 (Y4 Tryz.prog 341 3 (ρ x) (ρ y) w):=O9 ρ dst x y t pos after gd w B8W
theorem B9P:(execOp ρ ⟨dst,.alloc 341,t,pos,after,gd⟩).run Tryz.prog w = .ok (.value (.pointer (some ⟨w.heap.size,0,none⟩))) (w.alloc (.cells (B8 A2X).toArray 341)):=P0 ρ dst t pos after gd w (fun _=>by kernel_rfl)
def B1W:List (List Value):=[A3 32 0,A3 32 0]
theorem B3n:(B8 B1W).length=64:=by kernel_rfl
theorem B8Z:P1 Tryz.prog 97 64 (B8 B1W) (N8 B1W):=⟨⟨_,_,rfl,Tryz.underlying97,by kernel_rfl,by kernel_rfl⟩,B3n⟩
theorem C0L:(execOp ρ ⟨dst,.build 97 parts.toArray,t,pos,after,gd⟩).run Tryz.prog w=E7 (V8 Tryz.prog 97 (parts.map fun p=>(p.1,ρ p.2)) w (F8 64 (N8 B1W) (B8 B1W) (parts.map fun p=>(p.1,ρ p.2)))):=P9 ρ dst t pos after gd w B8Z parts
theorem B8V:V3 Tryz.prog 97 64:=⟨⟨_,Tryz.underlying97,rfl⟩,by kernel_rfl⟩
theorem C0w:(execOp ρ ⟨dst,.load 97 x,t,pos,after,gd⟩).run Tryz.prog w=E7 (A1g Tryz.prog 97 64 (ρ x) w):=A0m ρ dst x t pos after gd w B8V
theorem C0f:(execOp ρ ⟨dst,.store 97 x y,t,pos,after,gd⟩).run Tryz.prog w=J9 (Y4 Tryz.prog 97 64 (ρ x) (ρ y) w):=O9 ρ dst x y t pos after gd w B8V
theorem C0Q:(execOp ρ ⟨dst,.alloc 97,t,pos,after,gd⟩).run Tryz.prog w = .ok (.value (.pointer (some ⟨w.heap.size,0,none⟩))) (w.alloc (.cells (B8 B1W).toArray 97)):=P0 ρ dst t pos after gd w (fun _=>by kernel_rfl)
def L8:List (List Value):=[A3 20 0,[.int .i64 0],A3 32 0,[.slice none 0 0],[.slice none 0 0]]
theorem W4:(B8 L8).length=55:=by kernel_rfl
theorem B81:P1 Tryz.prog 35 55 (B8 L8) (N8 L8):=⟨⟨_,_,rfl,Tryz.underlying35,by kernel_rfl,by kernel_rfl⟩,W4⟩
theorem B3a:(execOp ρ ⟨dst,.build 35 parts.toArray,t,pos,after,gd⟩).run Tryz.prog w=E7 (V8 Tryz.prog 35 (parts.map fun p=>(p.1,ρ p.2)) w (F8 55 (N8 L8) (B8 L8) (parts.map fun p=>(p.1,ρ p.2)))):=P9 ρ dst t pos after gd w B81 parts
theorem B5l:V3 Tryz.prog 35 55:=⟨⟨_,Tryz.underlying35,rfl⟩,by kernel_rfl⟩
theorem C0x:(execOp ρ ⟨dst,.load 35 x,t,pos,after,gd⟩).run Tryz.prog w=E7 (A1g Tryz.prog 35 55 (ρ x) w):=A0m ρ dst x t pos after gd w B5l
theorem C0g:(execOp ρ ⟨dst,.store 35 x y,t,pos,after,gd⟩).run Tryz.prog w=J9 (Y4 Tryz.prog 35 55 (ρ x) (ρ y) w):=O9 ρ dst x y t pos after gd w B5l
theorem C0R:(execOp ρ ⟨dst,.alloc 35,t,pos,after,gd⟩).run Tryz.prog w = .ok (.value (.pointer (some ⟨w.heap.size,0,none⟩))) (w.alloc (.cells (B8 L8).toArray 35)):=P0 ρ dst t pos after gd w (fun _=>by kernel_rfl)
def A1r:List (List Value):=[A3 20 0,[.slice none 0 0],[.slice none 0 0]]
theorem A6w:(B8 A1r).length=22:=by kernel_rfl
theorem B7q:P1 Tryz.prog 58 22 (B8 A1r) (N8 A1r):=⟨⟨_,_,rfl,Tryz.underlying58,by kernel_rfl,by kernel_rfl⟩,A6w⟩
theorem B9M:(execOp ρ ⟨dst,.build 58 parts.toArray,t,pos,after,gd⟩).run Tryz.prog w=E7 (V8 Tryz.prog 58 (parts.map fun p=>(p.1,ρ p.2)) w (F8 22 (N8 A1r) (B8 A1r) (parts.map fun p=>(p.1,ρ p.2)))):=P9 ρ dst t pos after gd w B7q parts
def A8d:List (List Value):=[[.map none],[.slice none 0 0],[.slice none 0 0],[.int .i64 0]]
theorem A8c:(B8 A8d).length=4:=by kernel_rfl
theorem B82:P1 Tryz.prog 94 4 (B8 A8d) (N8 A8d):=⟨⟨_,_,rfl,Tryz.underlying94,by kernel_rfl,by kernel_rfl⟩,A8c⟩
theorem C0M:(execOp ρ ⟨dst,.build 94 parts.toArray,t,pos,after,gd⟩).run Tryz.prog w=E7 (V8 Tryz.prog 94 (parts.map fun p=>(p.1,ρ p.2)) w (F8 4 (N8 A8d) (B8 A8d) (parts.map fun p=>(p.1,ρ p.2)))):=P9 ρ dst t pos after gd w B82 parts
def A07:List (List Value):=[[.int .i64 0],[.int .i64 0]]
theorem X6:(B8 A07).length=2:=by kernel_rfl
theorem B7n:P1 Tryz.prog 239 2 (B8 A07) (N8 A07):=⟨⟨_,_,rfl,Tryz.underlying239,by kernel_rfl,by kernel_rfl⟩,X6⟩
theorem B9H:(execOp ρ ⟨dst,.build 239 parts.toArray,t,pos,after,gd⟩).run Tryz.prog w=E7 (V8 Tryz.prog 239 (parts.map fun p=>(p.1,ρ p.2)) w (F8 2 (N8 A07) (B8 A07) (parts.map fun p=>(p.1,ρ p.2)))):=P9 ρ dst t pos after gd w B7n parts
theorem B0X:V3 Tryz.prog 239 2:=⟨⟨_,Tryz.underlying239,rfl⟩,by kernel_rfl⟩
theorem B9p:(execOp ρ ⟨dst,.load 239 x,t,pos,after,gd⟩).run Tryz.prog w=E7 (A1g Tryz.prog 239 2 (ρ x) w):=A0m ρ dst x t pos after gd w B0X
theorem B87:(execOp ρ ⟨dst,.store 239 x y,t,pos,after,gd⟩).run Tryz.prog w=J9 (Y4 Tryz.prog 239 2 (ρ x) (ρ y) w):=O9 ρ dst x y t pos after gd w B0X
theorem B9Q:(execOp ρ ⟨dst,.alloc 239,t,pos,after,gd⟩).run Tryz.prog w = .ok (.value (.pointer (some ⟨w.heap.size,0,none⟩))) (w.alloc (.cells (B8 A07).toArray 239)):=P0 ρ dst t pos after gd w (fun _=>by kernel_rfl)
theorem B9e:(execOp ρ ⟨dst,.store 39 x y,t,pos,after,gd⟩).run Tryz.prog w=J9 (A0G Tryz.prog 39 (ρ x) (ρ y) w):=O3 ρ dst x y t pos after gd w (by kernel_rfl)
end
attribute [go_sem ↓] C0P C0A C0i C0T C0O C0z C0h C0S C0N C0y B9N B9I B9E B86 B9P C0L C0w C0f C0Q B3a C0x C0g C0R B9M C0M B9H B9p B87 B9Q B9e
end Go.Proofs.YtfflppedbopdpaaGreat
