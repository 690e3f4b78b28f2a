/- A part of the proof of EvmLogs: ZTy. -/
import Derived.Test.YtfflppedbopdpaaGreatProg
import Derived.Test.YtfflppedbopdpaaGreatZNum
set_option linter.unusedVariables false
set_option linter.unusedSimpArgs false
namespace Go.Proofs.YtfflppedbopdpaaGreat
open Go.RowKit Go.Mun

def U7 (n:Nat):List Value:=List.replicate n (.int .u64 0)
def l64 (L:List Int):List Value:=L.map (Value.int .u64)
@[go_sem,simp] theorem B98 (L:List Int):(l64 L).length=L.length:=by simp [l64]
@[go_sem,simp] theorem B8T (n:Nat):(U7 n).length=n:=by simp [U7]
theorem B3q (n:Nat):U7 n=l64 (List.replicate n 0):=by simp [U7,l64]
theorem B71 (L:List Int) (n:Nat) (h:L.length=n):Q3 n (l64 L)=true:=by subst h;exact A3x .u64 L
@[go_sem] theorem B90 (n:Nat):Q3 n (U7 n)=true:=by rw [B3q];exact B71 _ _ (by simp)
theorem A8m:V3 Tryz.prog 215 4:=⟨⟨_,Tryz.underlying215,rfl⟩,by kernel_rfl⟩
section
variable (ρ:Operand→Value) (dst:Option Tmp) (x y z:Operand) (parts:List (Nat × Operand)) (t:TypeId) (pos:String) (after:Array Edge) (gd:Option (Nat × Bool)) (w:World)
theorem B9q:(execOp ρ ⟨dst,.load 215 x,t,pos,after,gd⟩).run Tryz.prog w=E7 (A1g Tryz.prog 215 4 (ρ x) w):=A0m ρ dst x t pos after gd w A8m
theorem B88:(execOp ρ ⟨dst,.store 215 x y,t,pos,after,gd⟩).run Tryz.prog w=J9 (Y4 Tryz.prog 215 4 (ρ x) (ρ y) w):=O9 ρ dst x y t pos after gd w A8m
theorem B9R:(execOp ρ ⟨dst,.alloc 215,t,pos,after,gd⟩).run Tryz.prog w = .ok (.value (.pointer (some ⟨w.heap.size,0,none⟩))) (w.alloc (.cells (U7 4).toArray 215)):=P0 ρ dst t pos after gd w (fun _=>by kernel_rfl)
theorem A28:V3 Tryz.prog 25 32:=⟨⟨_,Tryz.underlying25,rfl⟩,by kernel_rfl⟩
theorem C0B:(execOp ρ ⟨dst,.load 25 x,t,pos,after,gd⟩).run Tryz.prog w=E7 (A1g Tryz.prog 25 32 (ρ x) w):=A0m ρ dst x t pos after gd w A28
theorem C0j:(execOp ρ ⟨dst,.store 25 x y,t,pos,after,gd⟩).run Tryz.prog w=J9 (Y4 Tryz.prog 25 32 (ρ x) (ρ y) w):=O9 ρ dst x y t pos after gd w A28
theorem C0U:(execOp ρ ⟨dst,.alloc 25,t,pos,after,gd⟩).run Tryz.prog w = .ok (.value (.pointer (some ⟨w.heap.size,0,none⟩))) (w.alloc (.cells (J4 32).toArray 25)):=P0 ρ dst t pos after gd w (fun _=>by kernel_rfl)
theorem B7g:V3 Tryz.prog 23 20:=⟨⟨_,Tryz.underlying23,rfl⟩,by kernel_rfl⟩
theorem C0C:(execOp ρ ⟨dst,.load 23 x,t,pos,after,gd⟩).run Tryz.prog w=E7 (A1g Tryz.prog 23 20 (ρ x) w):=A0m ρ dst x t pos after gd w B7g
theorem C0k:(execOp ρ ⟨dst,.store 23 x y,t,pos,after,gd⟩).run Tryz.prog w=J9 (Y4 Tryz.prog 23 20 (ρ x) (ρ y) w):=O9 ρ dst x y t pos after gd w B7g
theorem C0V:(execOp ρ ⟨dst,.alloc 23,t,pos,after,gd⟩).run Tryz.prog w = .ok (.value (.pointer (some ⟨w.heap.size,0,none⟩))) (w.alloc (.cells (J4 20).toArray 23)):=P0 ρ dst t pos after gd w (fun _=>by kernel_rfl)
theorem B7F:(execOp ρ ⟨dst,.store 112 x y,t,pos,after,gd⟩).run Tryz.prog w=J9 (A0G Tryz.prog 112 (ρ x) (ρ y) w):=O3 ρ dst x y t pos after gd w (by kernel_rfl)
theorem C0p:(execOp ρ ⟨dst,.store 5 x y,t,pos,after,gd⟩).run Tryz.prog w=J9 (A0G Tryz.prog 5 (ρ x) (ρ y) w):=O3 ρ dst x y t pos after gd w (by kernel_rfl)
theorem C0r:(execOp ρ ⟨dst,.store 3 x y,t,pos,after,gd⟩).run Tryz.prog w=J9 (A0G Tryz.prog 3 (ρ x) (ρ y) w):=O3 ρ dst x y t pos after gd w (by kernel_rfl)
end
theorem A0n:P4 Tryz.prog 26 5 (.int .u8 0) 1 1:=.mk' Tryz.underlying26 (by kernel_rfl) rfl (by decide)
attribute [go_sem ↓] B9q B88 B9R C0B C0j C0U C0C C0k C0V B7F C0p C0r
end Go.Proofs.YtfflppedbopdpaaGreat
