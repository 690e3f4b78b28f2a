/-
  The rules for this program's arrays and structs (written by a program of this seat).
-/
import Derived.Test.YtfflppedbopdpaaGreatProg
import Derived.Test.YtfflppedbopdpaaGreatXTy
set_option linter.unusedVariables false
set_option maxRecDepth 1000000
set_option maxHeartbeats 8000000
set_option linter.unusedSimpArgs false
namespace Go.Proofs.YtfflppedbopdpaaGreat
open Go.RowKit Go.Mun

def itemZ : List Value := [.bool false, .slice none 0 0, .slice none 0 0]
@[go_sem] theorem itemZ_ok : okL 3 itemZ = true := by simp [itemZ, okL, Value.oneCell']
@[go_sem] theorem itemZ_len : itemZ.length = 3 := by simp [itemZ]
theorem ty61 : RowTy Tryz.prog 69 3 := ⟨⟨_, Tryz.underlying69, rfl⟩, by kernel_rfl⟩
section
variable (ρ : Operand → Value) (dst : Option Tmp) (x y z : Operand) (parts : List (Nat × Operand)) (t : TypeId) (pos : String) (after : Array Edge) (gd : Option (Nat × Bool)) (w : World)
theorem ld61 : (execOp ρ ⟨dst, .load 69 x, t, pos, after, gd⟩).run Tryz.prog w = asNext (ldRow Tryz.prog 69 3 (ρ x) w) := ex_load ρ dst x t pos after gd w ty61
theorem st61 : (execOp ρ ⟨dst, .store 69 x y, t, pos, after, gd⟩).run Tryz.prog w = asSkip (stRow Tryz.prog 69 3 (ρ x) (ρ y) w) := ex_store ρ dst x y t pos after gd w ty61
theorem al61 : (execOp ρ ⟨dst, .alloc 69, t, pos, after, gd⟩).run Tryz.prog w = .ok (.value (.pointer (some ⟨w.heap.size, 0, none⟩))) (w.alloc (.cells (itemZ).toArray 69)) := ex_alloc ρ dst t pos after gd w (fun _ => by kernel_rfl)
theorem sty61 : StructTy Tryz.prog 69 3 itemZ [(0, 1), (1, 1), (2, 1)] := ⟨⟨_, _, rfl, Tryz.underlying69, by kernel_rfl, by kernel_rfl⟩, rfl⟩
theorem bl61 : (execOp ρ ⟨dst, .build 69 parts.toArray, t, pos, after, gd⟩).run Tryz.prog w = asNext (blRow Tryz.prog 69 (parts.map fun p => (p.1, ρ p.2)) w (fillL 3 [(0, 1), (1, 1), (2, 1)] itemZ (parts.map fun p => (p.1, ρ p.2)))) := ex_build ρ dst t pos after gd w sty61 parts
end
attribute [go_sem ↓] bl61
attribute [go_sem ↓] ld61 st61 al61
end Go.Proofs.YtfflppedbopdpaaGreat
