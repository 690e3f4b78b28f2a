/-
  The rules for this program's arrays and structs (written by a program of this seat).
-/
import Derived.Test.YtfflppedbopdpaaGreatProg
import Derived.Test.YtfflppedbopdpaaGreatXNum
set_option linter.unusedVariables false
set_option linter.unusedSimpArgs false
namespace Go.Proofs.YtfflppedbopdpaaGreat
open Go.RowKit Go.Mun

def zU64 (n : Nat) : List Value := List.replicate n (.int .u64 0)
def l64 (L : List Int) : List Value := L.map (Value.int .u64)
@[go_sem, simp] theorem l64_len (L : List Int) : (l64 L).length = L.length := by simp [l64]
@[go_sem, simp] theorem zU64_len (n : Nat) : (zU64 n).length = n := by simp [zU64]
theorem zU64_l64 (n : Nat) : zU64 n = l64 (List.replicate n 0) := by simp [zU64, l64]
theorem l64_ok (L : List Int) (n : Nat) (h : L.length = n) : okL n (l64 L) = true := by subst h; exact okL_ints .u64 L
@[go_sem] theorem zU64_ok (n : Nat) : okL n (zU64 n) = true := by rw [zU64_l64]; exact l64_ok _ _ (by simp)
def zI64 (n : Nat) : List Value := List.replicate n (.int .i64 0)
@[go_sem, simp] theorem zI64_len (n : Nat) : (zI64 n).length = n := by simp [zI64]
@[go_sem] theorem zI64_ok (n : Nat) : okL n (zI64 n) = true := okL_mk (by simp) (fun v hv => by obtain ⟨_, rfl⟩ := List.mem_replicate.1 hv; rfl)
theorem ty131 : RowTy Tryz.prog 114 25 := ⟨⟨_, Tryz.underlying114, rfl⟩, by kernel_rfl⟩
section
variable (ρ : Operand → Value) (dst : Option Tmp) (x y z : Operand) (parts : List (Nat × Operand)) (t : TypeId) (pos : String) (after : Array Edge) (gd : Option (Nat × Bool)) (w : World)
theorem ld131 : (execOp ρ ⟨dst, .load 114 x, t, pos, after, gd⟩).run Tryz.prog w = asNext (ldRow Tryz.prog 114 25 (ρ x) w) := ex_load ρ dst x t pos after gd w ty131
theorem st131 : (execOp ρ ⟨dst, .store 114 x y, t, pos, after, gd⟩).run Tryz.prog w = asSkip (stRow Tryz.prog 114 25 (ρ x) (ρ y) w) := ex_store ρ dst x y t pos after gd w ty131
theorem al131 : (execOp ρ ⟨dst, .alloc 114, t, pos, after, gd⟩).run Tryz.prog w = .ok (.value (.pointer (some ⟨w.heap.size, 0, none⟩))) (w.alloc (.cells (zU64 25).toArray 114)) := ex_alloc ρ dst t pos after gd w (fun _ => by kernel_rfl)
theorem ty130 : RowTy Tryz.prog 113 25 := ⟨⟨_, Tryz.underlying113, rfl⟩, by kernel_rfl⟩
theorem ld130 : (execOp ρ ⟨dst, .load 113 x, t, pos, after, gd⟩).run Tryz.prog w = asNext (ldRow Tryz.prog 113 25 (ρ x) w) := ex_load ρ dst x t pos after gd w ty130
theorem st130 : (execOp ρ ⟨dst, .store 113 x y, t, pos, after, gd⟩).run Tryz.prog w = asSkip (stRow Tryz.prog 113 25 (ρ x) (ρ y) w) := ex_store ρ dst x y t pos after gd w ty130
theorem al130 : (execOp ρ ⟨dst, .alloc 113, t, pos, after, gd⟩).run Tryz.prog w = .ok (.value (.pointer (some ⟨w.heap.size, 0, none⟩))) (w.alloc (.cells (zU64 25).toArray 113)) := ex_alloc ρ dst t pos after gd w (fun _ => by kernel_rfl)
theorem ty181 : RowTy Tryz.prog 187 5 := ⟨⟨_, Tryz.underlying187, rfl⟩, by kernel_rfl⟩
theorem ld181 : (execOp ρ ⟨dst, .load 187 x, t, pos, after, gd⟩).run Tryz.prog w = asNext (ldRow Tryz.prog 187 5 (ρ x) w) := ex_load ρ dst x t pos after gd w ty181
theorem st181 : (execOp ρ ⟨dst, .store 187 x y, t, pos, after, gd⟩).run Tryz.prog w = asSkip (stRow Tryz.prog 187 5 (ρ x) (ρ y) w) := ex_store ρ dst x y t pos after gd w ty181
theorem al181 : (execOp ρ ⟨dst, .alloc 187, t, pos, after, gd⟩).run Tryz.prog w = .ok (.value (.pointer (some ⟨w.heap.size, 0, none⟩))) (w.alloc (.cells (zU64 5).toArray 187)) := ex_alloc ρ dst t pos after gd w (fun _ => by kernel_rfl)
theorem ty174 : RowTy Tryz.prog 180 25 := ⟨⟨_, Tryz.underlying180, rfl⟩, by kernel_rfl⟩
theorem ld174 : (execOp ρ ⟨dst, .load 180 x, t, pos, after, gd⟩).run Tryz.prog w = asNext (ldRow Tryz.prog 180 25 (ρ x) w) := ex_load ρ dst x t pos after gd w ty174
theorem st174 : (execOp ρ ⟨dst, .store 180 x y, t, pos, after, gd⟩).run Tryz.prog w = asSkip (stRow Tryz.prog 180 25 (ρ x) (ρ y) w) := ex_store ρ dst x y t pos after gd w ty174
theorem al174 : (execOp ρ ⟨dst, .alloc 180, t, pos, after, gd⟩).run Tryz.prog w = .ok (.value (.pointer (some ⟨w.heap.size, 0, none⟩))) (w.alloc (.cells (zI64 25).toArray 180)) := ex_alloc ρ dst t pos after gd w (fun _ => by kernel_rfl)
theorem ty176 : RowTy Tryz.prog 182 24 := ⟨⟨_, Tryz.underlying182, rfl⟩, by kernel_rfl⟩
theorem ld176 : (execOp ρ ⟨dst, .load 182 x, t, pos, after, gd⟩).run Tryz.prog w = asNext (ldRow Tryz.prog 182 24 (ρ x) w) := ex_load ρ dst x t pos after gd w ty176
theorem st176 : (execOp ρ ⟨dst, .store 182 x y, t, pos, after, gd⟩).run Tryz.prog w = asSkip (stRow Tryz.prog 182 24 (ρ x) (ρ y) w) := ex_store ρ dst x y t pos after gd w ty176
theorem al176 : (execOp ρ ⟨dst, .alloc 182, t, pos, after, gd⟩).run Tryz.prog w = .ok (.value (.pointer (some ⟨w.heap.size, 0, none⟩))) (w.alloc (.cells (zU64 24).toArray 182)) := ex_alloc ρ dst t pos after gd w (fun _ => by kernel_rfl)
theorem ty192 : RowTy Tryz.prog 214 4 := ⟨⟨_, Tryz.underlying214, rfl⟩, by kernel_rfl⟩
theorem ld192 : (execOp ρ ⟨dst, .load 214 x, t, pos, after, gd⟩).run Tryz.prog w = asNext (ldRow Tryz.prog 214 4 (ρ x) w) := ex_load ρ dst x t pos after gd w ty192
theorem st192 : (execOp ρ ⟨dst, .store 214 x y, t, pos, after, gd⟩).run Tryz.prog w = asSkip (stRow Tryz.prog 214 4 (ρ x) (ρ y) w) := ex_store ρ dst x y t pos after gd w ty192
theorem al192 : (execOp ρ ⟨dst, .alloc 214, t, pos, after, gd⟩).run Tryz.prog w = .ok (.value (.pointer (some ⟨w.heap.size, 0, none⟩))) (w.alloc (.cells (zU64 4).toArray 214)) := ex_alloc ρ dst t pos after gd w (fun _ => by kernel_rfl)
theorem ty193 : RowTy Tryz.prog 215 4 := ⟨⟨_, Tryz.underlying215, rfl⟩, by kernel_rfl⟩
theorem ld193 : (execOp ρ ⟨dst, .load 215 x, t, pos, after, gd⟩).run Tryz.prog w = asNext (ldRow Tryz.prog 215 4 (ρ x) w) := ex_load ρ dst x t pos after gd w ty193
theorem st193 : (execOp ρ ⟨dst, .store 215 x y, t, pos, after, gd⟩).run Tryz.prog w = asSkip (stRow Tryz.prog 215 4 (ρ x) (ρ y) w) := ex_store ρ dst x y t pos after gd w ty193
theorem al193 : (execOp ρ ⟨dst, .alloc 215, t, pos, after, gd⟩).run Tryz.prog w = .ok (.value (.pointer (some ⟨w.heap.size, 0, none⟩))) (w.alloc (.cells (zU64 4).toArray 215)) := ex_alloc ρ dst t pos after gd w (fun _ => by kernel_rfl)
theorem ty198 : RowTy Tryz.prog 220 8 := ⟨⟨_, Tryz.underlying220, rfl⟩, by kernel_rfl⟩
theorem ld198 : (execOp ρ ⟨dst, .load 220 x, t, pos, after, gd⟩).run Tryz.prog w = asNext (ldRow Tryz.prog 220 8 (ρ x) w) := ex_load ρ dst x t pos after gd w ty198
theorem st198 : (execOp ρ ⟨dst, .store 220 x y, t, pos, after, gd⟩).run Tryz.prog w = asSkip (stRow Tryz.prog 220 8 (ρ x) (ρ y) w) := ex_store ρ dst x y t pos after gd w ty198
theorem al198 : (execOp ρ ⟨dst, .alloc 220, t, pos, after, gd⟩).run Tryz.prog w = .ok (.value (.pointer (some ⟨w.heap.size, 0, none⟩))) (w.alloc (.cells (zU64 8).toArray 220)) := ex_alloc ρ dst t pos after gd w (fun _ => by kernel_rfl)
theorem ty24 : RowTy Tryz.prog 24 32 := ⟨⟨_, Tryz.underlying24, rfl⟩, by kernel_rfl⟩
theorem ld24 : (execOp ρ ⟨dst, .load 24 x, t, pos, after, gd⟩).run Tryz.prog w = asNext (ldRow Tryz.prog 24 32 (ρ x) w) := ex_load ρ dst x t pos after gd w ty24
theorem st24 : (execOp ρ ⟨dst, .store 24 x y, t, pos, after, gd⟩).run Tryz.prog w = asSkip (stRow Tryz.prog 24 32 (ρ x) (ρ y) w) := ex_store ρ dst x y t pos after gd w ty24
theorem ty25 : RowTy Tryz.prog 25 32 := ⟨⟨_, Tryz.underlying25, rfl⟩, by kernel_rfl⟩
theorem ld25 : (execOp ρ ⟨dst, .load 25 x, t, pos, after, gd⟩).run Tryz.prog w = asNext (ldRow Tryz.prog 25 32 (ρ x) w) := ex_load ρ dst x t pos after gd w ty25
theorem st25 : (execOp ρ ⟨dst, .store 25 x y, t, pos, after, gd⟩).run Tryz.prog w = asSkip (stRow Tryz.prog 25 32 (ρ x) (ρ y) w) := ex_store ρ dst x y t pos after gd w ty25
theorem al25 : (execOp ρ ⟨dst, .alloc 25, t, pos, after, gd⟩).run Tryz.prog w = .ok (.value (.pointer (some ⟨w.heap.size, 0, none⟩))) (w.alloc (.cells (zU8 32).toArray 25)) := ex_alloc ρ dst t pos after gd w (fun _ => by kernel_rfl)
theorem ty23 : RowTy Tryz.prog 23 20 := ⟨⟨_, Tryz.underlying23, rfl⟩, by kernel_rfl⟩
theorem ld23 : (execOp ρ ⟨dst, .load 23 x, t, pos, after, gd⟩).run Tryz.prog w = asNext (ldRow Tryz.prog 23 20 (ρ x) w) := ex_load ρ dst x t pos after gd w ty23
theorem st23 : (execOp ρ ⟨dst, .store 23 x y, t, pos, after, gd⟩).run Tryz.prog w = asSkip (stRow Tryz.prog 23 20 (ρ x) (ρ y) w) := ex_store ρ dst x y t pos after gd w ty23
theorem al23 : (execOp ρ ⟨dst, .alloc 23, t, pos, after, gd⟩).run Tryz.prog w = .ok (.value (.pointer (some ⟨w.heap.size, 0, none⟩))) (w.alloc (.cells (zU8 20).toArray 23)) := ex_alloc ρ dst t pos after gd w (fun _ => by kernel_rfl)
theorem s1_129 : (execOp ρ ⟨dst, .store 112 x y, t, pos, after, gd⟩).run Tryz.prog w = asSkip (stOne Tryz.prog 112 (ρ x) (ρ y) w) := ex_store1 ρ dst x y t pos after gd w (by kernel_rfl)
theorem s1_5 : (execOp ρ ⟨dst, .store 5 x y, t, pos, after, gd⟩).run Tryz.prog w = asSkip (stOne Tryz.prog 5 (ρ x) (ρ y) w) := ex_store1 ρ dst x y t pos after gd w (by kernel_rfl)
theorem s1_3 : (execOp ρ ⟨dst, .store 3 x y, t, pos, after, gd⟩).run Tryz.prog w = asSkip (stOne Tryz.prog 3 (ρ x) (ρ y) w) := ex_store1 ρ dst x y t pos after gd w (by kernel_rfl)
end
theorem elem26 : ElemOf Tryz.prog 26 5 (.int .u8 0) 1 1 := .mk' Tryz.underlying26 (by kernel_rfl) rfl (by decide)
attribute [go_sem ↓] ld131 st131 al131 ld130 st130 al130 ld181 st181 al181 ld174 st174 al174 ld176 st176 al176 ld192 st192 al192 ld193 st193 al193 ld198 st198 al198 ld24 st24 ld25 st25 al25 ld23 st23 al23 s1_129 s1_5 s1_3
end Go.Proofs.YtfflppedbopdpaaGreat
