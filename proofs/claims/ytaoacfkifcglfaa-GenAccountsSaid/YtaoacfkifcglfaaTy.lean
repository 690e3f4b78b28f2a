/-
  The rules for this program's arrays and structs: addresses, words, numbers of four limbs.
-/
import Derived.Test.YtaoacfkifcglfaaRows
import Derived.Test.YtaoacfkifcglfaaRowK
namespace Go.Proofs.Ytaoacfkifcglfaa
open Go.RowKit Go.Mun

theorem ty47 : RowTy Try.prog 47 20 := ⟨⟨_, Try.underlying47, rfl⟩, by kernel_rfl⟩
theorem ty50 : RowTy Try.prog 50 32 := ⟨⟨_, Try.underlying50, rfl⟩, by kernel_rfl⟩
theorem ty54 : RowTy Try.prog 54 55 := ⟨⟨_, Try.underlying54, rfl⟩, by kernel_rfl⟩
theorem ty58 : RowTy Try.prog 58 4 := ⟨⟨_, Try.underlying58, rfl⟩, by kernel_rfl⟩
theorem ld47 (ρ : Operand → Value) (dst : Option Tmp) (x : Operand) (t : TypeId) (pos : String) (after : Array Edge) (gd : Option (Nat × Bool)) (w : World) : (execOp ρ ⟨dst, .load 47 x, t, pos, after, gd⟩).run Try.prog w = asNext (ldRow Try.prog 47 20 (ρ x) w) := ex_load ρ dst x t pos after gd w ty47
theorem st47 (ρ : Operand → Value) (dst : Option Tmp) (x y : Operand) (t : TypeId) (pos : String) (after : Array Edge) (gd : Option (Nat × Bool)) (w : World) : (execOp ρ ⟨dst, .store 47 x y, t, pos, after, gd⟩).run Try.prog w = asSkip (stRow Try.prog 47 20 (ρ x) (ρ y) w) := ex_store ρ dst x y t pos after gd w ty47
theorem al47 (ρ : Operand → Value) (dst : Option Tmp) (t : TypeId) (pos : String) (after : Array Edge) (gd : Option (Nat × Bool)) (w : World) : (execOp ρ ⟨dst, .alloc 47, t, pos, after, gd⟩).run Try.prog w = .ok (.value (.pointer (some ⟨w.heap.size, 0, none⟩))) (w.alloc (.cells (zU8 20).toArray 47)) := ex_alloc ρ dst t pos after gd w (fun _ => by kernel_rfl)
theorem ld50 (ρ : Operand → Value) (dst : Option Tmp) (x : Operand) (t : TypeId) (pos : String) (after : Array Edge) (gd : Option (Nat × Bool)) (w : World) : (execOp ρ ⟨dst, .load 50 x, t, pos, after, gd⟩).run Try.prog w = asNext (ldRow Try.prog 50 32 (ρ x) w) := ex_load ρ dst x t pos after gd w ty50
theorem st50 (ρ : Operand → Value) (dst : Option Tmp) (x y : Operand) (t : TypeId) (pos : String) (after : Array Edge) (gd : Option (Nat × Bool)) (w : World) : (execOp ρ ⟨dst, .store 50 x y, t, pos, after, gd⟩).run Try.prog w = asSkip (stRow Try.prog 50 32 (ρ x) (ρ y) w) := ex_store ρ dst x y t pos after gd w ty50
theorem al50 (ρ : Operand → Value) (dst : Option Tmp) (t : TypeId) (pos : String) (after : Array Edge) (gd : Option (Nat × Bool)) (w : World) : (execOp ρ ⟨dst, .alloc 50, t, pos, after, gd⟩).run Try.prog w = .ok (.value (.pointer (some ⟨w.heap.size, 0, none⟩))) (w.alloc (.cells (zU8 32).toArray 50)) := ex_alloc ρ dst t pos after gd w (fun _ => by kernel_rfl)
theorem ld54 (ρ : Operand → Value) (dst : Option Tmp) (x : Operand) (t : TypeId) (pos : String) (after : Array Edge) (gd : Option (Nat × Bool)) (w : World) : (execOp ρ ⟨dst, .load 54 x, t, pos, after, gd⟩).run Try.prog w = asNext (ldRow Try.prog 54 55 (ρ x) w) := ex_load ρ dst x t pos after gd w ty54
theorem st54 (ρ : Operand → Value) (dst : Option Tmp) (x y : Operand) (t : TypeId) (pos : String) (after : Array Edge) (gd : Option (Nat × Bool)) (w : World) : (execOp ρ ⟨dst, .store 54 x y, t, pos, after, gd⟩).run Try.prog w = asSkip (stRow Try.prog 54 55 (ρ x) (ρ y) w) := ex_store ρ dst x y t pos after gd w ty54
def acctZ : List Value := zU8 20 ++ ([Value.int .i64 0] ++ (zU8 32 ++ [Value.slice none 0 0, .slice none 0 0]))
theorem al54 (ρ : Operand → Value) (dst : Option Tmp) (t : TypeId) (pos : String) (after : Array Edge) (gd : Option (Nat × Bool)) (w : World) : (execOp ρ ⟨dst, .alloc 54, t, pos, after, gd⟩).run Try.prog w = .ok (.value (.pointer (some ⟨w.heap.size, 0, none⟩))) (w.alloc (.cells acctZ.toArray 54)) := ex_alloc ρ dst t pos after gd w (fun _ => by kernel_rfl)
theorem ld58 (ρ : Operand → Value) (dst : Option Tmp) (x : Operand) (t : TypeId) (pos : String) (after : Array Edge) (gd : Option (Nat × Bool)) (w : World) : (execOp ρ ⟨dst, .load 58 x, t, pos, after, gd⟩).run Try.prog w = asNext (ldRow Try.prog 58 4 (ρ x) w) := ex_load ρ dst x t pos after gd w ty58
theorem st58 (ρ : Operand → Value) (dst : Option Tmp) (x y : Operand) (t : TypeId) (pos : String) (after : Array Edge) (gd : Option (Nat × Bool)) (w : World) : (execOp ρ ⟨dst, .store 58 x y, t, pos, after, gd⟩).run Try.prog w = asSkip (stRow Try.prog 58 4 (ρ x) (ρ y) w) := ex_store ρ dst x y t pos after gd w ty58
theorem sty54 : StructTy Try.prog 54 55 acctZ [(0, 20), (20, 1), (21, 32), (53, 1), (54, 1)] := ⟨⟨_, _, rfl, Try.underlying54, by kernel_rfl, by kernel_rfl⟩, by simp [acctZ]⟩
theorem bl54 (ρ : Operand → Value) (dst : Option Tmp) (parts : List (Nat × Operand)) (t : TypeId) (pos : String) (after : Array Edge) (gd : Option (Nat × Bool)) (w : World) :
    (execOp ρ ⟨dst, .build 54 parts.toArray, t, pos, after, gd⟩).run Try.prog w = asNext (blRow Try.prog 54 (parts.map fun p => (p.1, ρ p.2)) w (fillL 55 [(0, 20), (20, 1), (21, 32), (53, 1), (54, 1)] acctZ (parts.map fun p => (p.1, ρ p.2)))) :=
  ex_build ρ dst t pos after gd w sty54 parts
theorem sl35 : SliceLit Try.prog 35 54 55 1 acctZ := ⟨Try.underlying35, ⟨_, .agg acctZ.toArray, rfl, by kernel_rfl, by kernel_rfl, by kernel_rfl⟩, by decide, by simp [acctZ], by decide⟩
theorem bs35 (ρ : Operand → Value) (dst : Option Tmp) (parts : List (Nat × Operand)) (t : TypeId) (pos : String) (after : Array Edge) (gd : Option (Nat × Bool)) (w : World) :
    (execOp ρ ⟨dst, .buildSlice 35 1 parts.toArray, t, pos, after, gd⟩).run Try.prog w = asNext (bsRow Try.prog 35 54 1 (parts.map fun p => (p.1, ρ p.2)) w (fillL (1 * 55) ((List.range 1).map fun i => (i * 55, 55)) acctZ (parts.map fun p => (p.1, ρ p.2)))) :=
  ex_bslice ρ dst t pos after gd w sl35 parts
@[go_sem] theorem acctZ_len : acctZ.length = 55 := by simp [acctZ]
@[go_sem] theorem acctZ_ok : okL 55 acctZ = true := okL_append (zU8_ok 20) (okL_append (n := 1) (m := 34) rfl (okL_append (n := 32) (m := 2) (zU8_ok 32) rfl))
theorem elem35 : ElemOf Try.prog 35 54 (.agg acctZ.toArray) 55 112 := .mk' Try.underlying35 (by kernel_rfl) (by simp [Value.cells, acctZ]) (by decide)
theorem st30 (ρ : Operand → Value) (dst : Option Tmp) (x y : Operand) (t : TypeId) (pos : String) (after : Array Edge) (gd : Option (Nat × Bool)) (w : World) : (execOp ρ ⟨dst, .store 30 x y, t, pos, after, gd⟩).run Try.prog w = asSkip (stOne Try.prog 30 (ρ x) (ρ y) w) := ex_store1 ρ dst x y t pos after gd w (by kernel_rfl)
attribute [go_sem ↓] bl54 bs35 st30
attribute [go_sem ↓] ld47 st47 al47 ld50 st50 al50 ld54 st54 al54
end Go.Proofs.Ytaoacfkifcglfaa
