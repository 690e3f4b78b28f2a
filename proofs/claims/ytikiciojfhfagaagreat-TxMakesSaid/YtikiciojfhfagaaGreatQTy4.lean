/-
  The rules for this program's structs, as segments (written by a program of this seat).
-/
import Derived.Test.YtikiciojfhfagaaGreatProg
import Derived.Test.YtikiciojfhfagaaGreatQSeg
import Derived.Test.YtikiciojfhfagaaGreatQTy3
import Derived.Test.YtikiciojfhfagaaGreatQTy2
set_option linter.unusedVariables false
set_option linter.unusedSimpArgs false
namespace Go.Proofs.YtikiciojfhfagaaGreat
open Go.RowKit Go.Mun

def zs42 : List (List Value) := [[.int .i64 0], beC 20 0, beC 20 0, beC 20 0, beC 32 0, beC 32 0, [.slice none 0 0], [.int .i64 0], [.int .i64 0], [.bool false]]
theorem zs42_len : (cat zs42).length = 129 := by kernel_rfl
set_option maxRecDepth 1000000 in
theorem sty42 : StructTy Tryz.prog 77 129 (cat zs42) (plOf zs42) := ⟨⟨_, _, rfl, Tryz.underlying77, by kernel_rfl, by kernel_rfl⟩, zs42_len⟩
theorem bl42 (ρ : Operand → Value) (dst : Option Tmp) (parts : List (Nat × Operand)) (t : TypeId) (pos : String) (after : Array Edge) (gd : Option (Nat × Bool)) (w : World) : (execOp ρ ⟨dst, .build 77 parts.toArray, t, pos, after, gd⟩).run Tryz.prog w = asNext (blRow Tryz.prog 77 (parts.map fun p => (p.1, ρ p.2)) w (fillL 129 (plOf zs42) (cat zs42) (parts.map fun p => (p.1, ρ p.2)))) := ex_build ρ dst t pos after gd w sty42 parts
theorem ty42 : RowTy Tryz.prog 77 129 := ⟨⟨_, Tryz.underlying77, rfl⟩, by kernel_rfl⟩
theorem ld42 (ρ : Operand → Value) (dst : Option Tmp) (x : Operand) (t : TypeId) (pos : String) (after : Array Edge) (gd : Option (Nat × Bool)) (w : World) : (execOp ρ ⟨dst, .load 77 x, t, pos, after, gd⟩).run Tryz.prog w = asNext (ldRow Tryz.prog 77 129 (ρ x) w) := ex_load ρ dst x t pos after gd w ty42
theorem st42 (ρ : Operand → Value) (dst : Option Tmp) (x y : Operand) (t : TypeId) (pos : String) (after : Array Edge) (gd : Option (Nat × Bool)) (w : World) : (execOp ρ ⟨dst, .store 77 x y, t, pos, after, gd⟩).run Tryz.prog w = asSkip (stRow Tryz.prog 77 129 (ρ x) (ρ y) w) := ex_store ρ dst x y t pos after gd w ty42
set_option maxRecDepth 1000000 in
theorem al42 (ρ : Operand → Value) (dst : Option Tmp) (t : TypeId) (pos : String) (after : Array Edge) (gd : Option (Nat × Bool)) (w : World) : (execOp ρ ⟨dst, .alloc 77, t, pos, after, gd⟩).run Tryz.prog w = .ok (.value (.pointer (some ⟨w.heap.size, 0, none⟩))) (w.alloc (.cells (cat zs42).toArray 77)) := ex_alloc ρ dst t pos after gd w (fun _ => by kernel_rfl)
def zs46 : List (List Value) := [[.int .i64 0], [.int .i64 0], [.slice none 0 0], [.slice none 0 0], beC 20 0]
theorem zs46_len : (cat zs46).length = 24 := by kernel_rfl
set_option maxRecDepth 1000000 in
theorem sty46 : StructTy Tryz.prog 74 24 (cat zs46) (plOf zs46) := ⟨⟨_, _, rfl, Tryz.underlying74, by kernel_rfl, by kernel_rfl⟩, zs46_len⟩
theorem bl46 (ρ : Operand → Value) (dst : Option Tmp) (parts : List (Nat × Operand)) (t : TypeId) (pos : String) (after : Array Edge) (gd : Option (Nat × Bool)) (w : World) : (execOp ρ ⟨dst, .build 74 parts.toArray, t, pos, after, gd⟩).run Tryz.prog w = asNext (blRow Tryz.prog 74 (parts.map fun p => (p.1, ρ p.2)) w (fillL 24 (plOf zs46) (cat zs46) (parts.map fun p => (p.1, ρ p.2)))) := ex_build ρ dst t pos after gd w sty46 parts
theorem ty46 : RowTy Tryz.prog 74 24 := ⟨⟨_, Tryz.underlying74, rfl⟩, by kernel_rfl⟩
theorem ld46 (ρ : Operand → Value) (dst : Option Tmp) (x : Operand) (t : TypeId) (pos : String) (after : Array Edge) (gd : Option (Nat × Bool)) (w : World) : (execOp ρ ⟨dst, .load 74 x, t, pos, after, gd⟩).run Tryz.prog w = asNext (ldRow Tryz.prog 74 24 (ρ x) w) := ex_load ρ dst x t pos after gd w ty46
theorem st46 (ρ : Operand → Value) (dst : Option Tmp) (x y : Operand) (t : TypeId) (pos : String) (after : Array Edge) (gd : Option (Nat × Bool)) (w : World) : (execOp ρ ⟨dst, .store 74 x y, t, pos, after, gd⟩).run Tryz.prog w = asSkip (stRow Tryz.prog 74 24 (ρ x) (ρ y) w) := ex_store ρ dst x y t pos after gd w ty46
set_option maxRecDepth 1000000 in
theorem al46 (ρ : Operand → Value) (dst : Option Tmp) (t : TypeId) (pos : String) (after : Array Edge) (gd : Option (Nat × Bool)) (w : World) : (execOp ρ ⟨dst, .alloc 74, t, pos, after, gd⟩).run Tryz.prog w = .ok (.value (.pointer (some ⟨w.heap.size, 0, none⟩))) (w.alloc (.cells (cat zs46).toArray 74)) := ex_alloc ρ dst t pos after gd w (fun _ => by kernel_rfl)
def zs49 : List (List Value) := [[.int .i64 0], [.int .i64 0], [.int .i64 0], beC 20 0, beC 20 0]
theorem zs49_len : (cat zs49).length = 43 := by kernel_rfl
set_option maxRecDepth 1000000 in
theorem sty49 : StructTy Tryz.prog 46 43 (cat zs49) (plOf zs49) := ⟨⟨_, _, rfl, Tryz.underlying46, by kernel_rfl, by kernel_rfl⟩, zs49_len⟩
theorem bl49 (ρ : Operand → Value) (dst : Option Tmp) (parts : List (Nat × Operand)) (t : TypeId) (pos : String) (after : Array Edge) (gd : Option (Nat × Bool)) (w : World) : (execOp ρ ⟨dst, .build 46 parts.toArray, t, pos, after, gd⟩).run Tryz.prog w = asNext (blRow Tryz.prog 46 (parts.map fun p => (p.1, ρ p.2)) w (fillL 43 (plOf zs49) (cat zs49) (parts.map fun p => (p.1, ρ p.2)))) := ex_build ρ dst t pos after gd w sty49 parts
theorem ty49 : RowTy Tryz.prog 46 43 := ⟨⟨_, Tryz.underlying46, rfl⟩, by kernel_rfl⟩
theorem ld49 (ρ : Operand → Value) (dst : Option Tmp) (x : Operand) (t : TypeId) (pos : String) (after : Array Edge) (gd : Option (Nat × Bool)) (w : World) : (execOp ρ ⟨dst, .load 46 x, t, pos, after, gd⟩).run Tryz.prog w = asNext (ldRow Tryz.prog 46 43 (ρ x) w) := ex_load ρ dst x t pos after gd w ty49
theorem st49 (ρ : Operand → Value) (dst : Option Tmp) (x y : Operand) (t : TypeId) (pos : String) (after : Array Edge) (gd : Option (Nat × Bool)) (w : World) : (execOp ρ ⟨dst, .store 46 x y, t, pos, after, gd⟩).run Tryz.prog w = asSkip (stRow Tryz.prog 46 43 (ρ x) (ρ y) w) := ex_store ρ dst x y t pos after gd w ty49
set_option maxRecDepth 1000000 in
theorem al49 (ρ : Operand → Value) (dst : Option Tmp) (t : TypeId) (pos : String) (after : Array Edge) (gd : Option (Nat × Bool)) (w : World) : (execOp ρ ⟨dst, .alloc 46, t, pos, after, gd⟩).run Tryz.prog w = .ok (.value (.pointer (some ⟨w.heap.size, 0, none⟩))) (w.alloc (.cells (cat zs49).toArray 46)) := ex_alloc ρ dst t pos after gd w (fun _ => by kernel_rfl)
def zs102 : List (List Value) := [[.pointer none], cat zs49, [.map none]]
theorem zs102_len : (cat zs102).length = 45 := by kernel_rfl
set_option maxRecDepth 1000000 in
theorem sty102 : StructTy Tryz.prog 127 45 (cat zs102) (plOf zs102) := ⟨⟨_, _, rfl, Tryz.underlying127, by kernel_rfl, by kernel_rfl⟩, zs102_len⟩
theorem bl102 (ρ : Operand → Value) (dst : Option Tmp) (parts : List (Nat × Operand)) (t : TypeId) (pos : String) (after : Array Edge) (gd : Option (Nat × Bool)) (w : World) : (execOp ρ ⟨dst, .build 127 parts.toArray, t, pos, after, gd⟩).run Tryz.prog w = asNext (blRow Tryz.prog 127 (parts.map fun p => (p.1, ρ p.2)) w (fillL 45 (plOf zs102) (cat zs102) (parts.map fun p => (p.1, ρ p.2)))) := ex_build ρ dst t pos after gd w sty102 parts
theorem ty102 : RowTy Tryz.prog 127 45 := ⟨⟨_, Tryz.underlying127, rfl⟩, by kernel_rfl⟩
theorem ld102 (ρ : Operand → Value) (dst : Option Tmp) (x : Operand) (t : TypeId) (pos : String) (after : Array Edge) (gd : Option (Nat × Bool)) (w : World) : (execOp ρ ⟨dst, .load 127 x, t, pos, after, gd⟩).run Tryz.prog w = asNext (ldRow Tryz.prog 127 45 (ρ x) w) := ex_load ρ dst x t pos after gd w ty102
theorem st102 (ρ : Operand → Value) (dst : Option Tmp) (x y : Operand) (t : TypeId) (pos : String) (after : Array Edge) (gd : Option (Nat × Bool)) (w : World) : (execOp ρ ⟨dst, .store 127 x y, t, pos, after, gd⟩).run Tryz.prog w = asSkip (stRow Tryz.prog 127 45 (ρ x) (ρ y) w) := ex_store ρ dst x y t pos after gd w ty102
set_option maxRecDepth 1000000 in
theorem al102 (ρ : Operand → Value) (dst : Option Tmp) (t : TypeId) (pos : String) (after : Array Edge) (gd : Option (Nat × Bool)) (w : World) : (execOp ρ ⟨dst, .alloc 127, t, pos, after, gd⟩).run Tryz.prog w = .ok (.value (.pointer (some ⟨w.heap.size, 0, none⟩))) (w.alloc (.cells (cat zs102).toArray 127)) := ex_alloc ρ dst t pos after gd w (fun _ => by kernel_rfl)
def zs190 : List (List Value) := [[.pointer none], cat zs42, [.slice none 0 0], [.slice none 0 0], [.slice none 0 0], [.slice none 0 0], [.int .i64 0], [.int .i64 0], [.int .i64 0], [.slice none 0 0], [.slice none 0 0], [.slice none 0 0], [.bool false]]
theorem zs190_len : (cat zs190).length = 141 := by kernel_rfl
set_option maxRecDepth 1000000 in
theorem sty190 : StructTy Tryz.prog 202 141 (cat zs190) (plOf zs190) := ⟨⟨_, _, rfl, Tryz.underlying202, by kernel_rfl, by kernel_rfl⟩, zs190_len⟩
theorem bl190 (ρ : Operand → Value) (dst : Option Tmp) (parts : List (Nat × Operand)) (t : TypeId) (pos : String) (after : Array Edge) (gd : Option (Nat × Bool)) (w : World) : (execOp ρ ⟨dst, .build 202 parts.toArray, t, pos, after, gd⟩).run Tryz.prog w = asNext (blRow Tryz.prog 202 (parts.map fun p => (p.1, ρ p.2)) w (fillL 141 (plOf zs190) (cat zs190) (parts.map fun p => (p.1, ρ p.2)))) := ex_build ρ dst t pos after gd w sty190 parts
theorem ty190 : RowTy Tryz.prog 202 141 := ⟨⟨_, Tryz.underlying202, rfl⟩, by kernel_rfl⟩
theorem ld190 (ρ : Operand → Value) (dst : Option Tmp) (x : Operand) (t : TypeId) (pos : String) (after : Array Edge) (gd : Option (Nat × Bool)) (w : World) : (execOp ρ ⟨dst, .load 202 x, t, pos, after, gd⟩).run Tryz.prog w = asNext (ldRow Tryz.prog 202 141 (ρ x) w) := ex_load ρ dst x t pos after gd w ty190
theorem st190 (ρ : Operand → Value) (dst : Option Tmp) (x y : Operand) (t : TypeId) (pos : String) (after : Array Edge) (gd : Option (Nat × Bool)) (w : World) : (execOp ρ ⟨dst, .store 202 x y, t, pos, after, gd⟩).run Tryz.prog w = asSkip (stRow Tryz.prog 202 141 (ρ x) (ρ y) w) := ex_store ρ dst x y t pos after gd w ty190
set_option maxRecDepth 1000000 in
theorem al190 (ρ : Operand → Value) (dst : Option Tmp) (t : TypeId) (pos : String) (after : Array Edge) (gd : Option (Nat × Bool)) (w : World) : (execOp ρ ⟨dst, .alloc 202, t, pos, after, gd⟩).run Tryz.prog w = .ok (.value (.pointer (some ⟨w.heap.size, 0, none⟩))) (w.alloc (.cells (cat zs190).toArray 202)) := ex_alloc ρ dst t pos after gd w (fun _ => by kernel_rfl)
def zs292 : List (List Value) := [[.int .i64 0], [.int .i64 0], [.int .i64 0]]
theorem zs292_len : (cat zs292).length = 3 := by kernel_rfl
set_option maxRecDepth 1000000 in
theorem sty292 : StructTy Tryz.prog 270 3 (cat zs292) (plOf zs292) := ⟨⟨_, _, rfl, Tryz.underlying270, by kernel_rfl, by kernel_rfl⟩, zs292_len⟩
theorem bl292 (ρ : Operand → Value) (dst : Option Tmp) (parts : List (Nat × Operand)) (t : TypeId) (pos : String) (after : Array Edge) (gd : Option (Nat × Bool)) (w : World) : (execOp ρ ⟨dst, .build 270 parts.toArray, t, pos, after, gd⟩).run Tryz.prog w = asNext (blRow Tryz.prog 270 (parts.map fun p => (p.1, ρ p.2)) w (fillL 3 (plOf zs292) (cat zs292) (parts.map fun p => (p.1, ρ p.2)))) := ex_build ρ dst t pos after gd w sty292 parts
theorem ty292 : RowTy Tryz.prog 270 3 := ⟨⟨_, Tryz.underlying270, rfl⟩, by kernel_rfl⟩
theorem ld292 (ρ : Operand → Value) (dst : Option Tmp) (x : Operand) (t : TypeId) (pos : String) (after : Array Edge) (gd : Option (Nat × Bool)) (w : World) : (execOp ρ ⟨dst, .load 270 x, t, pos, after, gd⟩).run Tryz.prog w = asNext (ldRow Tryz.prog 270 3 (ρ x) w) := ex_load ρ dst x t pos after gd w ty292
theorem st292 (ρ : Operand → Value) (dst : Option Tmp) (x y : Operand) (t : TypeId) (pos : String) (after : Array Edge) (gd : Option (Nat × Bool)) (w : World) : (execOp ρ ⟨dst, .store 270 x y, t, pos, after, gd⟩).run Tryz.prog w = asSkip (stRow Tryz.prog 270 3 (ρ x) (ρ y) w) := ex_store ρ dst x y t pos after gd w ty292
set_option maxRecDepth 1000000 in
theorem al292 (ρ : Operand → Value) (dst : Option Tmp) (t : TypeId) (pos : String) (after : Array Edge) (gd : Option (Nat × Bool)) (w : World) : (execOp ρ ⟨dst, .alloc 270, t, pos, after, gd⟩).run Tryz.prog w = .ok (.value (.pointer (some ⟨w.heap.size, 0, none⟩))) (w.alloc (.cells (cat zs292).toArray 270)) := ex_alloc ρ dst t pos after gd w (fun _ => by kernel_rfl)
def zs88 : List (List Value) := [beC 32 0, beC 32 0]
theorem zs88_len : (cat zs88).length = 64 := by kernel_rfl
set_option maxRecDepth 1000000 in
theorem sty88 : StructTy Tryz.prog 101 64 (cat zs88) (plOf zs88) := ⟨⟨_, _, rfl, Tryz.underlying101, by kernel_rfl, by kernel_rfl⟩, zs88_len⟩
theorem bl88 (ρ : Operand → Value) (dst : Option Tmp) (parts : List (Nat × Operand)) (t : TypeId) (pos : String) (after : Array Edge) (gd : Option (Nat × Bool)) (w : World) : (execOp ρ ⟨dst, .build 101 parts.toArray, t, pos, after, gd⟩).run Tryz.prog w = asNext (blRow Tryz.prog 101 (parts.map fun p => (p.1, ρ p.2)) w (fillL 64 (plOf zs88) (cat zs88) (parts.map fun p => (p.1, ρ p.2)))) := ex_build ρ dst t pos after gd w sty88 parts
theorem ty88 : RowTy Tryz.prog 101 64 := ⟨⟨_, Tryz.underlying101, rfl⟩, by kernel_rfl⟩
theorem ld88 (ρ : Operand → Value) (dst : Option Tmp) (x : Operand) (t : TypeId) (pos : String) (after : Array Edge) (gd : Option (Nat × Bool)) (w : World) : (execOp ρ ⟨dst, .load 101 x, t, pos, after, gd⟩).run Tryz.prog w = asNext (ldRow Tryz.prog 101 64 (ρ x) w) := ex_load ρ dst x t pos after gd w ty88
theorem st88 (ρ : Operand → Value) (dst : Option Tmp) (x y : Operand) (t : TypeId) (pos : String) (after : Array Edge) (gd : Option (Nat × Bool)) (w : World) : (execOp ρ ⟨dst, .store 101 x y, t, pos, after, gd⟩).run Tryz.prog w = asSkip (stRow Tryz.prog 101 64 (ρ x) (ρ y) w) := ex_store ρ dst x y t pos after gd w ty88
set_option maxRecDepth 1000000 in
theorem al88 (ρ : Operand → Value) (dst : Option Tmp) (t : TypeId) (pos : String) (after : Array Edge) (gd : Option (Nat × Bool)) (w : World) : (execOp ρ ⟨dst, .alloc 101, t, pos, after, gd⟩).run Tryz.prog w = .ok (.value (.pointer (some ⟨w.heap.size, 0, none⟩))) (w.alloc (.cells (cat zs88).toArray 101)) := ex_alloc ρ dst t pos after gd w (fun _ => by kernel_rfl)
def zs81 : List (List Value) := [beC 20 0, [.int .i64 0], beC 32 0, [.slice none 0 0], [.slice none 0 0]]
theorem zs81_len : (cat zs81).length = 55 := by kernel_rfl
set_option maxRecDepth 1000000 in
theorem sty81 : StructTy Tryz.prog 94 55 (cat zs81) (plOf zs81) := ⟨⟨_, _, rfl, Tryz.underlying94, by kernel_rfl, by kernel_rfl⟩, zs81_len⟩
theorem bl81 (ρ : Operand → Value) (dst : Option Tmp) (parts : List (Nat × Operand)) (t : TypeId) (pos : String) (after : Array Edge) (gd : Option (Nat × Bool)) (w : World) : (execOp ρ ⟨dst, .build 94 parts.toArray, t, pos, after, gd⟩).run Tryz.prog w = asNext (blRow Tryz.prog 94 (parts.map fun p => (p.1, ρ p.2)) w (fillL 55 (plOf zs81) (cat zs81) (parts.map fun p => (p.1, ρ p.2)))) := ex_build ρ dst t pos after gd w sty81 parts
theorem ty81 : RowTy Tryz.prog 94 55 := ⟨⟨_, Tryz.underlying94, rfl⟩, by kernel_rfl⟩
theorem ld81 (ρ : Operand → Value) (dst : Option Tmp) (x : Operand) (t : TypeId) (pos : String) (after : Array Edge) (gd : Option (Nat × Bool)) (w : World) : (execOp ρ ⟨dst, .load 94 x, t, pos, after, gd⟩).run Tryz.prog w = asNext (ldRow Tryz.prog 94 55 (ρ x) w) := ex_load ρ dst x t pos after gd w ty81
theorem st81 (ρ : Operand → Value) (dst : Option Tmp) (x y : Operand) (t : TypeId) (pos : String) (after : Array Edge) (gd : Option (Nat × Bool)) (w : World) : (execOp ρ ⟨dst, .store 94 x y, t, pos, after, gd⟩).run Tryz.prog w = asSkip (stRow Tryz.prog 94 55 (ρ x) (ρ y) w) := ex_store ρ dst x y t pos after gd w ty81
set_option maxRecDepth 1000000 in
theorem al81 (ρ : Operand → Value) (dst : Option Tmp) (t : TypeId) (pos : String) (after : Array Edge) (gd : Option (Nat × Bool)) (w : World) : (execOp ρ ⟨dst, .alloc 94, t, pos, after, gd⟩).run Tryz.prog w = .ok (.value (.pointer (some ⟨w.heap.size, 0, none⟩))) (w.alloc (.cells (cat zs81).toArray 94)) := ex_alloc ρ dst t pos after gd w (fun _ => by kernel_rfl)
def zs168 : List (List Value) := [beC 20 0, [.slice none 0 0], [.slice none 0 0]]
theorem zs168_len : (cat zs168).length = 22 := by kernel_rfl
set_option maxRecDepth 1000000 in
theorem sty168 : StructTy Tryz.prog 281 22 (cat zs168) (plOf zs168) := ⟨⟨_, _, rfl, Tryz.underlying281, by kernel_rfl, by kernel_rfl⟩, zs168_len⟩
theorem bl168 (ρ : Operand → Value) (dst : Option Tmp) (parts : List (Nat × Operand)) (t : TypeId) (pos : String) (after : Array Edge) (gd : Option (Nat × Bool)) (w : World) : (execOp ρ ⟨dst, .build 281 parts.toArray, t, pos, after, gd⟩).run Tryz.prog w = asNext (blRow Tryz.prog 281 (parts.map fun p => (p.1, ρ p.2)) w (fillL 22 (plOf zs168) (cat zs168) (parts.map fun p => (p.1, ρ p.2)))) := ex_build ρ dst t pos after gd w sty168 parts
theorem ty168 : RowTy Tryz.prog 281 22 := ⟨⟨_, Tryz.underlying281, rfl⟩, by kernel_rfl⟩
theorem ld168 (ρ : Operand → Value) (dst : Option Tmp) (x : Operand) (t : TypeId) (pos : String) (after : Array Edge) (gd : Option (Nat × Bool)) (w : World) : (execOp ρ ⟨dst, .load 281 x, t, pos, after, gd⟩).run Tryz.prog w = asNext (ldRow Tryz.prog 281 22 (ρ x) w) := ex_load ρ dst x t pos after gd w ty168
theorem st168 (ρ : Operand → Value) (dst : Option Tmp) (x y : Operand) (t : TypeId) (pos : String) (after : Array Edge) (gd : Option (Nat × Bool)) (w : World) : (execOp ρ ⟨dst, .store 281 x y, t, pos, after, gd⟩).run Tryz.prog w = asSkip (stRow Tryz.prog 281 22 (ρ x) (ρ y) w) := ex_store ρ dst x y t pos after gd w ty168
set_option maxRecDepth 1000000 in
theorem al168 (ρ : Operand → Value) (dst : Option Tmp) (t : TypeId) (pos : String) (after : Array Edge) (gd : Option (Nat × Bool)) (w : World) : (execOp ρ ⟨dst, .alloc 281, t, pos, after, gd⟩).run Tryz.prog w = .ok (.value (.pointer (some ⟨w.heap.size, 0, none⟩))) (w.alloc (.cells (cat zs168).toArray 281)) := ex_alloc ρ dst t pos after gd w (fun _ => by kernel_rfl)
def zs78 : List (List Value) := [[.map none], [.slice none 0 0], [.slice none 0 0], [.int .i64 0]]
theorem zs78_len : (cat zs78).length = 4 := by kernel_rfl
set_option maxRecDepth 1000000 in
theorem sty78 : StructTy Tryz.prog 91 4 (cat zs78) (plOf zs78) := ⟨⟨_, _, rfl, Tryz.underlying91, by kernel_rfl, by kernel_rfl⟩, zs78_len⟩
theorem bl78 (ρ : Operand → Value) (dst : Option Tmp) (parts : List (Nat × Operand)) (t : TypeId) (pos : String) (after : Array Edge) (gd : Option (Nat × Bool)) (w : World) : (execOp ρ ⟨dst, .build 91 parts.toArray, t, pos, after, gd⟩).run Tryz.prog w = asNext (blRow Tryz.prog 91 (parts.map fun p => (p.1, ρ p.2)) w (fillL 4 (plOf zs78) (cat zs78) (parts.map fun p => (p.1, ρ p.2)))) := ex_build ρ dst t pos after gd w sty78 parts
theorem ty78 : RowTy Tryz.prog 91 4 := ⟨⟨_, Tryz.underlying91, rfl⟩, by kernel_rfl⟩
theorem ld78 (ρ : Operand → Value) (dst : Option Tmp) (x : Operand) (t : TypeId) (pos : String) (after : Array Edge) (gd : Option (Nat × Bool)) (w : World) : (execOp ρ ⟨dst, .load 91 x, t, pos, after, gd⟩).run Tryz.prog w = asNext (ldRow Tryz.prog 91 4 (ρ x) w) := ex_load ρ dst x t pos after gd w ty78
theorem st78 (ρ : Operand → Value) (dst : Option Tmp) (x y : Operand) (t : TypeId) (pos : String) (after : Array Edge) (gd : Option (Nat × Bool)) (w : World) : (execOp ρ ⟨dst, .store 91 x y, t, pos, after, gd⟩).run Tryz.prog w = asSkip (stRow Tryz.prog 91 4 (ρ x) (ρ y) w) := ex_store ρ dst x y t pos after gd w ty78
set_option maxRecDepth 1000000 in
theorem al78 (ρ : Operand → Value) (dst : Option Tmp) (t : TypeId) (pos : String) (after : Array Edge) (gd : Option (Nat × Bool)) (w : World) : (execOp ρ ⟨dst, .alloc 91, t, pos, after, gd⟩).run Tryz.prog w = .ok (.value (.pointer (some ⟨w.heap.size, 0, none⟩))) (w.alloc (.cells (cat zs78).toArray 91)) := ex_alloc ρ dst t pos after gd w (fun _ => by kernel_rfl)
def zs216 : List (List Value) := [[.int .i64 0], [.int .i64 0]]
theorem zs216_len : (cat zs216).length = 2 := by kernel_rfl
set_option maxRecDepth 1000000 in
theorem sty216 : StructTy Tryz.prog 220 2 (cat zs216) (plOf zs216) := ⟨⟨_, _, rfl, Tryz.underlying220, by kernel_rfl, by kernel_rfl⟩, zs216_len⟩
theorem bl216 (ρ : Operand → Value) (dst : Option Tmp) (parts : List (Nat × Operand)) (t : TypeId) (pos : String) (after : Array Edge) (gd : Option (Nat × Bool)) (w : World) : (execOp ρ ⟨dst, .build 220 parts.toArray, t, pos, after, gd⟩).run Tryz.prog w = asNext (blRow Tryz.prog 220 (parts.map fun p => (p.1, ρ p.2)) w (fillL 2 (plOf zs216) (cat zs216) (parts.map fun p => (p.1, ρ p.2)))) := ex_build ρ dst t pos after gd w sty216 parts
theorem ty216 : RowTy Tryz.prog 220 2 := ⟨⟨_, Tryz.underlying220, rfl⟩, by kernel_rfl⟩
theorem ld216 (ρ : Operand → Value) (dst : Option Tmp) (x : Operand) (t : TypeId) (pos : String) (after : Array Edge) (gd : Option (Nat × Bool)) (w : World) : (execOp ρ ⟨dst, .load 220 x, t, pos, after, gd⟩).run Tryz.prog w = asNext (ldRow Tryz.prog 220 2 (ρ x) w) := ex_load ρ dst x t pos after gd w ty216
theorem st216 (ρ : Operand → Value) (dst : Option Tmp) (x y : Operand) (t : TypeId) (pos : String) (after : Array Edge) (gd : Option (Nat × Bool)) (w : World) : (execOp ρ ⟨dst, .store 220 x y, t, pos, after, gd⟩).run Tryz.prog w = asSkip (stRow Tryz.prog 220 2 (ρ x) (ρ y) w) := ex_store ρ dst x y t pos after gd w ty216
set_option maxRecDepth 1000000 in
theorem al216 (ρ : Operand → Value) (dst : Option Tmp) (t : TypeId) (pos : String) (after : Array Edge) (gd : Option (Nat × Bool)) (w : World) : (execOp ρ ⟨dst, .alloc 220, t, pos, after, gd⟩).run Tryz.prog w = .ok (.value (.pointer (some ⟨w.heap.size, 0, none⟩))) (w.alloc (.cells (cat zs216).toArray 220)) := ex_alloc ρ dst t pos after gd w (fun _ => by kernel_rfl)
theorem s1_44 (ρ : Operand → Value) (dst : Option Tmp) (x y : Operand) (t : TypeId) (pos : String) (after : Array Edge) (gd : Option (Nat × Bool)) (w : World) : (execOp ρ ⟨dst, .store 37 x y, t, pos, after, gd⟩).run Tryz.prog w = asSkip (stOne Tryz.prog 37 (ρ x) (ρ y) w) := ex_store1 ρ dst x y t pos after gd w (by kernel_rfl)
theorem s1_34 (ρ : Operand → Value) (dst : Option Tmp) (x y : Operand) (t : TypeId) (pos : String) (after : Array Edge) (gd : Option (Nat × Bool)) (w : World) : (execOp ρ ⟨dst, .store 31 x y, t, pos, after, gd⟩).run Tryz.prog w = asSkip (stOne Tryz.prog 31 (ρ x) (ρ y) w) := ex_store1 ρ dst x y t pos after gd w (by kernel_rfl)
theorem s1_146 (ρ : Operand → Value) (dst : Option Tmp) (x y : Operand) (t : TypeId) (pos : String) (after : Array Edge) (gd : Option (Nat × Bool)) (w : World) : (execOp ρ ⟨dst, .store 164 x y, t, pos, after, gd⟩).run Tryz.prog w = asSkip (stOne Tryz.prog 164 (ρ x) (ρ y) w) := ex_store1 ρ dst x y t pos after gd w (by kernel_rfl)
attribute [go_sem ↓] bl42 ld42 st42 al42 bl46 ld46 st46 al46 bl49 ld49 st49 al49 bl102 ld102 st102 al102 bl190 ld190 st190 al190 bl292 ld292 st292 al292 bl88 ld88 st88 al88 bl81 ld81 st81 al81 bl168 ld168 st168 al168 bl78 ld78 st78 al78 bl216 ld216 st216 al216 s1_44 s1_34 s1_146
end Go.Proofs.YtikiciojfhfagaaGreat
