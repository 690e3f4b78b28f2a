/-
  The rules for this program's types: addresses, words, bytes.
-/
import Derived.Test.YtaoacfkifcglfaaDoorRows
import Derived.Test.YtaoacfkifcglfaaDoorStr
namespace Go.Proofs.YtaoacfkifcglfaaDoor
open Go.RowKit Go.Mun

theorem ty41 : RowTy Tryd.prog 41 20 := ⟨⟨_, Tryd.underlying41, rfl⟩, by kernel_rfl⟩
theorem ty25 : RowTy Tryd.prog 25 32 := ⟨⟨_, Tryd.underlying25, rfl⟩, by kernel_rfl⟩
theorem elem33 : ElemOf Tryd.prog 33 5 (.int .u8 0) 1 1 := .mk' Tryd.underlying33 (by kernel_rfl) rfl (by decide)
theorem ld41 (ρ : Operand → Value) (dst : Option Tmp) (x : Operand) (t : TypeId) (pos : String) (after : Array Edge) (gd : Option (Nat × Bool)) (w : World) : (execOp ρ ⟨dst, .load 41 x, t, pos, after, gd⟩).run Tryd.prog w = asNext (ldRow Tryd.prog 41 20 (ρ x) w) := ex_load ρ dst x t pos after gd w ty41
theorem st41 (ρ : Operand → Value) (dst : Option Tmp) (x y : Operand) (t : TypeId) (pos : String) (after : Array Edge) (gd : Option (Nat × Bool)) (w : World) : (execOp ρ ⟨dst, .store 41 x y, t, pos, after, gd⟩).run Tryd.prog w = asSkip (stRow Tryd.prog 41 20 (ρ x) (ρ y) w) := ex_store ρ dst x y t pos after gd w ty41
theorem al41 (ρ : Operand → Value) (dst : Option Tmp) (t : TypeId) (pos : String) (after : Array Edge) (gd : Option (Nat × Bool)) (w : World) : (execOp ρ ⟨dst, .alloc 41, t, pos, after, gd⟩).run Tryd.prog w = .ok (.value (.pointer (some ⟨w.heap.size, 0, none⟩))) (w.alloc (.cells (zU8 20).toArray 41)) := ex_alloc ρ dst t pos after gd w (fun _ => by kernel_rfl)
theorem ld25 (ρ : Operand → Value) (dst : Option Tmp) (x : Operand) (t : TypeId) (pos : String) (after : Array Edge) (gd : Option (Nat × Bool)) (w : World) : (execOp ρ ⟨dst, .load 25 x, t, pos, after, gd⟩).run Tryd.prog w = asNext (ldRow Tryd.prog 25 32 (ρ x) w) := ex_load ρ dst x t pos after gd w ty25
theorem st25 (ρ : Operand → Value) (dst : Option Tmp) (x y : Operand) (t : TypeId) (pos : String) (after : Array Edge) (gd : Option (Nat × Bool)) (w : World) : (execOp ρ ⟨dst, .store 25 x y, t, pos, after, gd⟩).run Tryd.prog w = asSkip (stRow Tryd.prog 25 32 (ρ x) (ρ y) w) := ex_store ρ dst x y t pos after gd w ty25
theorem al25 (ρ : Operand → Value) (dst : Option Tmp) (t : TypeId) (pos : String) (after : Array Edge) (gd : Option (Nat × Bool)) (w : World) : (execOp ρ ⟨dst, .alloc 25, t, pos, after, gd⟩).run Tryd.prog w = .ok (.value (.pointer (some ⟨w.heap.size, 0, none⟩))) (w.alloc (.cells (zU8 32).toArray 25)) := ex_alloc ρ dst t pos after gd w (fun _ => by kernel_rfl)
attribute [go_sem ↓] ld41 st41 al41 ld25 st25 al25
end Go.Proofs.YtaoacfkifcglfaaDoor
