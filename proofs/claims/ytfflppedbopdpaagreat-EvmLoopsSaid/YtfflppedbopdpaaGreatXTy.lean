/- A part of the proof of EvmLoops: XTy. -/
import Derived.Test.YtfflppedbopdpaaGreatProg
import Derived.Test.YtfflppedbopdpaaGreatXNum
set_option linter.unusedVariables false
set_option linter.unusedSimpArgs false
namespace Go.Proofs.YtfflppedbopdpaaGreat
open Go.RowKit Go.Mun

def U5 (n:Nat):List Value:=List.replicate n (.int .u64 0)
def l64 (L:List Int):List Value:=L.map (Value.int .u64)
@[go_sem,simp] theorem B98 (L:List Int):(l64 L).length=L.length:=by simp [l64]
@[go_sem,simp] theorem B8N (n:Nat):(U5 n).length=n:=by simp [U5]
theorem B3z (n:Nat):U5 n=l64 (List.replicate n 0):=by simp [U5,l64]
theorem B7Y (L:List Int) (n:Nat) (h:L.length=n):P0 n (l64 L)=true:=by subst h;exact A3G .u64 L
@[go_sem] theorem B90 (n:Nat):P0 n (U5 n)=true:=by rw [B3z];exact B7Y _ _ (by simp)
theorem A8r:X0 Tryz.prog 215 4:=⟨⟨_,Tryz.underlying215,rfl⟩,by kernel_rfl⟩
section
variable (ρ:Operand→Value) (dst:Option Tmp) (x y z:Operand) (parts:List (Nat × Operand)) (t:TypeId) (pos:String) (after:Array Edge) (gd:Option (Nat × Bool)) (w:World)
theorem B9q:(execOp ρ ⟨dst,.load 215 x,t,pos,after,gd⟩).run Tryz.prog w=F7 (A1D Tryz.prog 215 4 (ρ x) w):=A0M ρ dst x t pos after gd w A8r
theorem B83:(execOp ρ ⟨dst,.store 215 x y,t,pos,after,gd⟩).run Tryz.prog w=L1 (A0f Tryz.prog 215 4 (ρ x) (ρ y) w):=P8 ρ dst x y t pos after gd w A8r
theorem B9T:(execOp ρ ⟨dst,.alloc 215,t,pos,after,gd⟩).run Tryz.prog w = .ok (.value (.pointer (some ⟨w.heap.size,0,none⟩))) (w.alloc (.cells (U5 4).toArray 215)):=P9 ρ dst t pos after gd w (fun _=>by kernel_rfl)
theorem A1L:X0 Tryz.prog 25 32:=⟨⟨_,Tryz.underlying25,rfl⟩,by kernel_rfl⟩
theorem C1a:(execOp ρ ⟨dst,.load 25 x,t,pos,after,gd⟩).run Tryz.prog w=F7 (A1D Tryz.prog 25 32 (ρ x) w):=A0M ρ dst x t pos after gd w A1L
theorem C0i:(execOp ρ ⟨dst,.store 25 x y,t,pos,after,gd⟩).run Tryz.prog w=L1 (A0f Tryz.prog 25 32 (ρ x) (ρ y) w):=P8 ρ dst x y t pos after gd w A1L
theorem C1t:(execOp ρ ⟨dst,.alloc 25,t,pos,after,gd⟩).run Tryz.prog w = .ok (.value (.pointer (some ⟨w.heap.size,0,none⟩))) (w.alloc (.cells (K0 32).toArray 25)):=P9 ρ dst t pos after gd w (fun _=>by kernel_rfl)
theorem B7i:X0 Tryz.prog 23 20:=⟨⟨_,Tryz.underlying23,rfl⟩,by kernel_rfl⟩
theorem C1b:(execOp ρ ⟨dst,.load 23 x,t,pos,after,gd⟩).run Tryz.prog w=F7 (A1D Tryz.prog 23 20 (ρ x) w):=A0M ρ dst x t pos after gd w B7i
theorem C0j:(execOp ρ ⟨dst,.store 23 x y,t,pos,after,gd⟩).run Tryz.prog w=L1 (A0f Tryz.prog 23 20 (ρ x) (ρ y) w):=P8 ρ dst x y t pos after gd w B7i
theorem C1u:(execOp ρ ⟨dst,.alloc 23,t,pos,after,gd⟩).run Tryz.prog w = .ok (.value (.pointer (some ⟨w.heap.size,0,none⟩))) (w.alloc (.cells (K0 20).toArray 23)):=P9 ρ dst t pos after gd w (fun _=>by kernel_rfl)
theorem B7E:(execOp ρ ⟨dst,.store 112 x y,t,pos,after,gd⟩).run Tryz.prog w=L1 (A0S Tryz.prog 112 (ρ x) (ρ y) w):=N9 ρ dst x y t pos after gd w (by kernel_rfl)
theorem C0o:(execOp ρ ⟨dst,.store 5 x y,t,pos,after,gd⟩).run Tryz.prog w=L1 (A0S Tryz.prog 5 (ρ x) (ρ y) w):=N9 ρ dst x y t pos after gd w (by kernel_rfl)
theorem C0q:(execOp ρ ⟨dst,.store 3 x y,t,pos,after,gd⟩).run Tryz.prog w=L1 (A0S Tryz.prog 3 (ρ x) (ρ y) w):=N9 ρ dst x y t pos after gd w (by kernel_rfl)
end
theorem A5Y:V0 Tryz.prog 26 5 (.int .u8 0) 1 1:=.mk' Tryz.underlying26 (by kernel_rfl) rfl (by decide)
attribute [go_sem ↓] B9q B83 B9T C1a C0i C1t C1b C0j C1u B7E C0o C0q
end Go.Proofs.YtfflppedbopdpaaGreat
