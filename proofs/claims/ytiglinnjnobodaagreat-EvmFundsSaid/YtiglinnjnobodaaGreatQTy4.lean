/-
  The rules for this program's structs, as segments (written by a program of this seat).
-/
import Derived.Test.YtiglinnjnobodaaGreatProg
import Derived.Test.YtiglinnjnobodaaGreatQSeg
import Derived.Test.YtiglinnjnobodaaGreatQTy3
import Derived.Test.YtiglinnjnobodaaGreatQTy2
set_option linter.unusedVariables false
set_option linter.unusedSimpArgs false
namespace Go.Proofs.YtiglinnjnobodaaGreat
open Go.RowKit Go.Mun

def zs42 : List (List Value) := [[.int .i64 0], beC 20 0, beC 20 0, beC 20 0, beC 32 0, beC 32 0, [.slice none 0 0], [.int .i64 0], [.int .i64 0], [.bool false]]
theorem zs42_len : (cat zs42).length = 129 := by kernel_rfl
set_option maxRecDepth 1000000 in
theorem sty42 : StructTy Tryz.prog 62 129 (cat zs42) (plOf zs42) := ⟨⟨_, _, rfl, Tryz.underlying62, by kernel_rfl, by kernel_rfl⟩, zs42_len⟩
theorem bl42 (ρ : Operand → Value) (dst : Option Tmp) (parts : List (Nat × Operand)) (t : TypeId) (pos : String) (after : Array Edge) (gd : Option (Nat × Bool)) (w : World) : (execOp ρ ⟨dst, .build 62 parts.toArray, t, pos, after, gd⟩).run Tryz.prog w = asNext (blRow Tryz.prog 62 (parts.map fun p => (p.1, ρ p.2)) w (fillL 129 (plOf zs42) (cat zs42) (parts.map fun p => (p.1, ρ p.2)))) := ex_build ρ dst t pos after gd w sty42 parts
theorem ty42 : RowTy Tryz.prog 62 129 := ⟨⟨_, Tryz.underlying62, rfl⟩, by kernel_rfl⟩
theorem ld42 (ρ : Operand → Value) (dst : Option Tmp) (x : Operand) (t : TypeId) (pos : String) (after : Array Edge) (gd : Option (Nat × Bool)) (w : World) : (execOp ρ ⟨dst, .load 62 x, t, pos, after, gd⟩).run Tryz.prog w = asNext (ldRow Tryz.prog 62 129 (ρ x) w) := ex_load ρ dst x t pos after gd w ty42
theorem st42 (ρ : Operand → Value) (dst : Option Tmp) (x y : Operand) (t : TypeId) (pos : String) (after : Array Edge) (gd : Option (Nat × Bool)) (w : World) : (execOp ρ ⟨dst, .store 62 x y, t, pos, after, gd⟩).run Tryz.prog w = asSkip (stRow Tryz.prog 62 129 (ρ x) (ρ y) w) := ex_store ρ dst x y t pos after gd w ty42
set_option maxRecDepth 1000000 in
theorem al42 (ρ : Operand → Value) (dst : Option Tmp) (t : TypeId) (pos : String) (after : Array Edge) (gd : Option (Nat × Bool)) (w : World) : (execOp ρ ⟨dst, .alloc 62, t, pos, after, gd⟩).run Tryz.prog w = .ok (.value (.pointer (some ⟨w.heap.size, 0, none⟩))) (w.alloc (.cells (cat zs42).toArray 62)) := ex_alloc ρ dst t pos after gd w (fun _ => by kernel_rfl)
def zs46 : List (List Value) := [[.int .i64 0], [.int .i64 0], [.slice none 0 0], [.slice none 0 0], beC 20 0]
theorem zs46_len : (cat zs46).length = 24 := by kernel_rfl
set_option maxRecDepth 1000000 in
theorem sty46 : StructTy Tryz.prog 65 24 (cat zs46) (plOf zs46) := ⟨⟨_, _, rfl, Tryz.underlying65, by kernel_rfl, by kernel_rfl⟩, zs46_len⟩
theorem bl46 (ρ : Operand → Value) (dst : Option Tmp) (parts : List (Nat × Operand)) (t : TypeId) (pos : String) (after : Array Edge) (gd : Option (Nat × Bool)) (w : World) : (execOp ρ ⟨dst, .build 65 parts.toArray, t, pos, after, gd⟩).run Tryz.prog w = asNext (blRow Tryz.prog 65 (parts.map fun p => (p.1, ρ p.2)) w (fillL 24 (plOf zs46) (cat zs46) (parts.map fun p => (p.1, ρ p.2)))) := ex_build ρ dst t pos after gd w sty46 parts
theorem ty46 : RowTy Tryz.prog 65 24 := ⟨⟨_, Tryz.underlying65, rfl⟩, by kernel_rfl⟩
theorem ld46 (ρ : Operand → Value) (dst : Option Tmp) (x : Operand) (t : TypeId) (pos : String) (after : Array Edge) (gd : Option (Nat × Bool)) (w : World) : (execOp ρ ⟨dst, .load 65 x, t, pos, after, gd⟩).run Tryz.prog w = asNext (ldRow Tryz.prog 65 24 (ρ x) w) := ex_load ρ dst x t pos after gd w ty46
theorem st46 (ρ : Operand → Value) (dst : Option Tmp) (x y : Operand) (t : TypeId) (pos : String) (after : Array Edge) (gd : Option (Nat × Bool)) (w : World) : (execOp ρ ⟨dst, .store 65 x y, t, pos, after, gd⟩).run Tryz.prog w = asSkip (stRow Tryz.prog 65 24 (ρ x) (ρ y) w) := ex_store ρ dst x y t pos after gd w ty46
set_option maxRecDepth 1000000 in
theorem al46 (ρ : Operand → Value) (dst : Option Tmp) (t : TypeId) (pos : String) (after : Array Edge) (gd : Option (Nat × Bool)) (w : World) : (execOp ρ ⟨dst, .alloc 65, t, pos, after, gd⟩).run Tryz.prog w = .ok (.value (.pointer (some ⟨w.heap.size, 0, none⟩))) (w.alloc (.cells (cat zs46).toArray 65)) := ex_alloc ρ dst t pos after gd w (fun _ => by kernel_rfl)
def zs49 : List (List Value) := [[.int .i64 0], [.int .i64 0], [.int .i64 0], beC 20 0, beC 20 0]
theorem zs49_len : (cat zs49).length = 43 := by kernel_rfl
set_option maxRecDepth 1000000 in
theorem sty49 : StructTy Tryz.prog 51 43 (cat zs49) (plOf zs49) := ⟨⟨_, _, rfl, Tryz.underlying51, by kernel_rfl, by kernel_rfl⟩, zs49_len⟩
theorem bl49 (ρ : Operand → Value) (dst : Option Tmp) (parts : List (Nat × Operand)) (t : TypeId) (pos : String) (after : Array Edge) (gd : Option (Nat × Bool)) (w : World) : (execOp ρ ⟨dst, .build 51 parts.toArray, t, pos, after, gd⟩).run Tryz.prog w = asNext (blRow Tryz.prog 51 (parts.map fun p => (p.1, ρ p.2)) w (fillL 43 (plOf zs49) (cat zs49) (parts.map fun p => (p.1, ρ p.2)))) := ex_build ρ dst t pos after gd w sty49 parts
theorem ty49 : RowTy Tryz.prog 51 43 := ⟨⟨_, Tryz.underlying51, rfl⟩, by kernel_rfl⟩
theorem ld49 (ρ : Operand → Value) (dst : Option Tmp) (x : Operand) (t : TypeId) (pos : String) (after : Array Edge) (gd : Option (Nat × Bool)) (w : World) : (execOp ρ ⟨dst, .load 51 x, t, pos, after, gd⟩).run Tryz.prog w = asNext (ldRow Tryz.prog 51 43 (ρ x) w) := ex_load ρ dst x t pos after gd w ty49
theorem st49 (ρ : Operand → Value) (dst : Option Tmp) (x y : Operand) (t : TypeId) (pos : String) (after : Array Edge) (gd : Option (Nat × Bool)) (w : World) : (execOp ρ ⟨dst, .store 51 x y, t, pos, after, gd⟩).run Tryz.prog w = asSkip (stRow Tryz.prog 51 43 (ρ x) (ρ y) w) := ex_store ρ dst x y t pos after gd w ty49
set_option maxRecDepth 1000000 in
theorem al49 (ρ : Operand → Value) (dst : Option Tmp) (t : TypeId) (pos : String) (after : Array Edge) (gd : Option (Nat × Bool)) (w : World) : (execOp ρ ⟨dst, .alloc 51, t, pos, after, gd⟩).run Tryz.prog w = .ok (.value (.pointer (some ⟨w.heap.size, 0, none⟩))) (w.alloc (.cells (cat zs49).toArray 51)) := ex_alloc ρ dst t pos after gd w (fun _ => by kernel_rfl)
def zs102 : List (List Value) := [[.pointer none], cat zs49, [.map none]]
theorem zs102_len : (cat zs102).length = 45 := by kernel_rfl
set_option maxRecDepth 1000000 in
theorem sty102 : StructTy Tryz.prog 139 45 (cat zs102) (plOf zs102) := ⟨⟨_, _, rfl, Tryz.underlying139, by kernel_rfl, by kernel_rfl⟩, zs102_len⟩
theorem bl102 (ρ : Operand → Value) (dst : Option Tmp) (parts : List (Nat × Operand)) (t : TypeId) (pos : String) (after : Array Edge) (gd : Option (Nat × Bool)) (w : World) : (execOp ρ ⟨dst, .build 139 parts.toArray, t, pos, after, gd⟩).run Tryz.prog w = asNext (blRow Tryz.prog 139 (parts.map fun p => (p.1, ρ p.2)) w (fillL 45 (plOf zs102) (cat zs102) (parts.map fun p => (p.1, ρ p.2)))) := ex_build ρ dst t pos after gd w sty102 parts
theorem ty102 : RowTy Tryz.prog 139 45 := ⟨⟨_, Tryz.underlying139, rfl⟩, by kernel_rfl⟩
theorem ld102 (ρ : Operand → Value) (dst : Option Tmp) (x : Operand) (t : TypeId) (pos : String) (after : Array Edge) (gd : Option (Nat × Bool)) (w : World) : (execOp ρ ⟨dst, .load 139 x, t, pos, after, gd⟩).run Tryz.prog w = asNext (ldRow Tryz.prog 139 45 (ρ x) w) := ex_load ρ dst x t pos after gd w ty102
theorem st102 (ρ : Operand → Value) (dst : Option Tmp) (x y : Operand) (t : TypeId) (pos : String) (after : Array Edge) (gd : Option (Nat × Bool)) (w : World) : (execOp ρ ⟨dst, .store 139 x y, t, pos, after, gd⟩).run Tryz.prog w = asSkip (stRow Tryz.prog 139 45 (ρ x) (ρ y) w) := ex_store ρ dst x y t pos after gd w ty102
set_option maxRecDepth 1000000 in
theorem al102 (ρ : Operand → Value) (dst : Option Tmp) (t : TypeId) (pos : String) (after : Array Edge) (gd : Option (Nat × Bool)) (w : World) : (execOp ρ ⟨dst, .alloc 139, t, pos, after, gd⟩).run Tryz.prog w = .ok (.value (.pointer (some ⟨w.heap.size, 0, none⟩))) (w.alloc (.cells (cat zs102).toArray 139)) := ex_alloc ρ dst t pos after gd w (fun _ => by kernel_rfl)
def zs190 : List (List Value) := [[.pointer none], cat zs42, [.slice none 0 0], [.slice none 0 0], [.slice none 0 0], [.slice none 0 0], [.int .i64 0], [.int .i64 0], [.int .i64 0], [.slice none 0 0], [.slice none 0 0], [.slice none 0 0], [.bool false]]
theorem zs190_len : (cat zs190).length = 141 := by kernel_rfl
set_option maxRecDepth 1000000 in
theorem sty190 : StructTy Tryz.prog 250 141 (cat zs190) (plOf zs190) := ⟨⟨_, _, rfl, Tryz.underlying250, by kernel_rfl, by kernel_rfl⟩, zs190_len⟩
theorem bl190 (ρ : Operand → Value) (dst : Option Tmp) (parts : List (Nat × Operand)) (t : TypeId) (pos : String) (after : Array Edge) (gd : Option (Nat × Bool)) (w : World) : (execOp ρ ⟨dst, .build 250 parts.toArray, t, pos, after, gd⟩).run Tryz.prog w = asNext (blRow Tryz.prog 250 (parts.map fun p => (p.1, ρ p.2)) w (fillL 141 (plOf zs190) (cat zs190) (parts.map fun p => (p.1, ρ p.2)))) := ex_build ρ dst t pos after gd w sty190 parts
theorem ty190 : RowTy Tryz.prog 250 141 := ⟨⟨_, Tryz.underlying250, rfl⟩, by kernel_rfl⟩
theorem ld190 (ρ : Operand → Value) (dst : Option Tmp) (x : Operand) (t : TypeId) (pos : String) (after : Array Edge) (gd : Option (Nat × Bool)) (w : World) : (execOp ρ ⟨dst, .load 250 x, t, pos, after, gd⟩).run Tryz.prog w = asNext (ldRow Tryz.prog 250 141 (ρ x) w) := ex_load ρ dst x t pos after gd w ty190
theorem st190 (ρ : Operand → Value) (dst : Option Tmp) (x y : Operand) (t : TypeId) (pos : String) (after : Array Edge) (gd : Option (Nat × Bool)) (w : World) : (execOp ρ ⟨dst, .store 250 x y, t, pos, after, gd⟩).run Tryz.prog w = asSkip (stRow Tryz.prog 250 141 (ρ x) (ρ y) w) := ex_store ρ dst x y t pos after gd w ty190
set_option maxRecDepth 1000000 in
theorem al190 (ρ : Operand → Value) (dst : Option Tmp) (t : TypeId) (pos : String) (after : Array Edge) (gd : Option (Nat × Bool)) (w : World) : (execOp ρ ⟨dst, .alloc 250, t, pos, after, gd⟩).run Tryz.prog w = .ok (.value (.pointer (some ⟨w.heap.size, 0, none⟩))) (w.alloc (.cells (cat zs190).toArray 250)) := ex_alloc ρ dst t pos after gd w (fun _ => by kernel_rfl)
def zs292 : List (List Value) := [[.int .i64 0], [.int .i64 0], [.int .i64 0]]
theorem zs292_len : (cat zs292).length = 3 := by kernel_rfl
set_option maxRecDepth 1000000 in
theorem sty292 : StructTy Tryz.prog 358 3 (cat zs292) (plOf zs292) := ⟨⟨_, _, rfl, Tryz.underlying358, by kernel_rfl, by kernel_rfl⟩, zs292_len⟩
theorem bl292 (ρ : Operand → Value) (dst : Option Tmp) (parts : List (Nat × Operand)) (t : TypeId) (pos : String) (after : Array Edge) (gd : Option (Nat × Bool)) (w : World) : (execOp ρ ⟨dst, .build 358 parts.toArray, t, pos, after, gd⟩).run Tryz.prog w = asNext (blRow Tryz.prog 358 (parts.map fun p => (p.1, ρ p.2)) w (fillL 3 (plOf zs292) (cat zs292) (parts.map fun p => (p.1, ρ p.2)))) := ex_build ρ dst t pos after gd w sty292 parts
theorem ty292 : RowTy Tryz.prog 358 3 := ⟨⟨_, Tryz.underlying358, rfl⟩, by kernel_rfl⟩
theorem ld292 (ρ : Operand → Value) (dst : Option Tmp) (x : Operand) (t : TypeId) (pos : String) (after : Array Edge) (gd : Option (Nat × Bool)) (w : World) : (execOp ρ ⟨dst, .load 358 x, t, pos, after, gd⟩).run Tryz.prog w = asNext (ldRow Tryz.prog 358 3 (ρ x) w) := ex_load ρ dst x t pos after gd w ty292
theorem st292 (ρ : Operand → Value) (dst : Option Tmp) (x y : Operand) (t : TypeId) (pos : String) (after : Array Edge) (gd : Option (Nat × Bool)) (w : World) : (execOp ρ ⟨dst, .store 358 x y, t, pos, after, gd⟩).run Tryz.prog w = asSkip (stRow Tryz.prog 358 3 (ρ x) (ρ y) w) := ex_store ρ dst x y t pos after gd w ty292
set_option maxRecDepth 1000000 in
theorem al292 (ρ : Operand → Value) (dst : Option Tmp) (t : TypeId) (pos : String) (after : Array Edge) (gd : Option (Nat × Bool)) (w : World) : (execOp ρ ⟨dst, .alloc 358, t, pos, after, gd⟩).run Tryz.prog w = .ok (.value (.pointer (some ⟨w.heap.size, 0, none⟩))) (w.alloc (.cells (cat zs292).toArray 358)) := ex_alloc ρ dst t pos after gd w (fun _ => by kernel_rfl)
def zs88 : List (List Value) := [beC 32 0, beC 32 0]
theorem zs88_len : (cat zs88).length = 64 := by kernel_rfl
set_option maxRecDepth 1000000 in
theorem sty88 : StructTy Tryz.prog 100 64 (cat zs88) (plOf zs88) := ⟨⟨_, _, rfl, Tryz.underlying100, by kernel_rfl, by kernel_rfl⟩, zs88_len⟩
theorem bl88 (ρ : Operand → Value) (dst : Option Tmp) (parts : List (Nat × Operand)) (t : TypeId) (pos : String) (after : Array Edge) (gd : Option (Nat × Bool)) (w : World) : (execOp ρ ⟨dst, .build 100 parts.toArray, t, pos, after, gd⟩).run Tryz.prog w = asNext (blRow Tryz.prog 100 (parts.map fun p => (p.1, ρ p.2)) w (fillL 64 (plOf zs88) (cat zs88) (parts.map fun p => (p.1, ρ p.2)))) := ex_build ρ dst t pos after gd w sty88 parts
theorem ty88 : RowTy Tryz.prog 100 64 := ⟨⟨_, Tryz.underlying100, rfl⟩, by kernel_rfl⟩
theorem ld88 (ρ : Operand → Value) (dst : Option Tmp) (x : Operand) (t : TypeId) (pos : String) (after : Array Edge) (gd : Option (Nat × Bool)) (w : World) : (execOp ρ ⟨dst, .load 100 x, t, pos, after, gd⟩).run Tryz.prog w = asNext (ldRow Tryz.prog 100 64 (ρ x) w) := ex_load ρ dst x t pos after gd w ty88
theorem st88 (ρ : Operand → Value) (dst : Option Tmp) (x y : Operand) (t : TypeId) (pos : String) (after : Array Edge) (gd : Option (Nat × Bool)) (w : World) : (execOp ρ ⟨dst, .store 100 x y, t, pos, after, gd⟩).run Tryz.prog w = asSkip (stRow Tryz.prog 100 64 (ρ x) (ρ y) w) := ex_store ρ dst x y t pos after gd w ty88
set_option maxRecDepth 1000000 in
theorem al88 (ρ : Operand → Value) (dst : Option Tmp) (t : TypeId) (pos : String) (after : Array Edge) (gd : Option (Nat × Bool)) (w : World) : (execOp ρ ⟨dst, .alloc 100, t, pos, after, gd⟩).run Tryz.prog w = .ok (.value (.pointer (some ⟨w.heap.size, 0, none⟩))) (w.alloc (.cells (cat zs88).toArray 100)) := ex_alloc ρ dst t pos after gd w (fun _ => by kernel_rfl)
def zs81 : List (List Value) := [beC 20 0, [.int .i64 0], beC 32 0, [.slice none 0 0], [.slice none 0 0]]
theorem zs81_len : (cat zs81).length = 55 := by kernel_rfl
set_option maxRecDepth 1000000 in
theorem sty81 : StructTy Tryz.prog 35 55 (cat zs81) (plOf zs81) := ⟨⟨_, _, rfl, Tryz.underlying35, by kernel_rfl, by kernel_rfl⟩, zs81_len⟩
theorem bl81 (ρ : Operand → Value) (dst : Option Tmp) (parts : List (Nat × Operand)) (t : TypeId) (pos : String) (after : Array Edge) (gd : Option (Nat × Bool)) (w : World) : (execOp ρ ⟨dst, .build 35 parts.toArray, t, pos, after, gd⟩).run Tryz.prog w = asNext (blRow Tryz.prog 35 (parts.map fun p => (p.1, ρ p.2)) w (fillL 55 (plOf zs81) (cat zs81) (parts.map fun p => (p.1, ρ p.2)))) := ex_build ρ dst t pos after gd w sty81 parts
theorem ty81 : RowTy Tryz.prog 35 55 := ⟨⟨_, Tryz.underlying35, rfl⟩, by kernel_rfl⟩
theorem ld81 (ρ : Operand → Value) (dst : Option Tmp) (x : Operand) (t : TypeId) (pos : String) (after : Array Edge) (gd : Option (Nat × Bool)) (w : World) : (execOp ρ ⟨dst, .load 35 x, t, pos, after, gd⟩).run Tryz.prog w = asNext (ldRow Tryz.prog 35 55 (ρ x) w) := ex_load ρ dst x t pos after gd w ty81
theorem st81 (ρ : Operand → Value) (dst : Option Tmp) (x y : Operand) (t : TypeId) (pos : String) (after : Array Edge) (gd : Option (Nat × Bool)) (w : World) : (execOp ρ ⟨dst, .store 35 x y, t, pos, after, gd⟩).run Tryz.prog w = asSkip (stRow Tryz.prog 35 55 (ρ x) (ρ y) w) := ex_store ρ dst x y t pos after gd w ty81
set_option maxRecDepth 1000000 in
theorem al81 (ρ : Operand → Value) (dst : Option Tmp) (t : TypeId) (pos : String) (after : Array Edge) (gd : Option (Nat × Bool)) (w : World) : (execOp ρ ⟨dst, .alloc 35, t, pos, after, gd⟩).run Tryz.prog w = .ok (.value (.pointer (some ⟨w.heap.size, 0, none⟩))) (w.alloc (.cells (cat zs81).toArray 35)) := ex_alloc ρ dst t pos after gd w (fun _ => by kernel_rfl)
def zs168 : List (List Value) := [beC 20 0, [.slice none 0 0], [.slice none 0 0]]
theorem zs168_len : (cat zs168).length = 22 := by kernel_rfl
set_option maxRecDepth 1000000 in
theorem sty168 : StructTy Tryz.prog 192 22 (cat zs168) (plOf zs168) := ⟨⟨_, _, rfl, Tryz.underlying192, by kernel_rfl, by kernel_rfl⟩, zs168_len⟩
theorem bl168 (ρ : Operand → Value) (dst : Option Tmp) (parts : List (Nat × Operand)) (t : TypeId) (pos : String) (after : Array Edge) (gd : Option (Nat × Bool)) (w : World) : (execOp ρ ⟨dst, .build 192 parts.toArray, t, pos, after, gd⟩).run Tryz.prog w = asNext (blRow Tryz.prog 192 (parts.map fun p => (p.1, ρ p.2)) w (fillL 22 (plOf zs168) (cat zs168) (parts.map fun p => (p.1, ρ p.2)))) := ex_build ρ dst t pos after gd w sty168 parts
theorem ty168 : RowTy Tryz.prog 192 22 := ⟨⟨_, Tryz.underlying192, rfl⟩, by kernel_rfl⟩
theorem ld168 (ρ : Operand → Value) (dst : Option Tmp) (x : Operand) (t : TypeId) (pos : String) (after : Array Edge) (gd : Option (Nat × Bool)) (w : World) : (execOp ρ ⟨dst, .load 192 x, t, pos, after, gd⟩).run Tryz.prog w = asNext (ldRow Tryz.prog 192 22 (ρ x) w) := ex_load ρ dst x t pos after gd w ty168
theorem st168 (ρ : Operand → Value) (dst : Option Tmp) (x y : Operand) (t : TypeId) (pos : String) (after : Array Edge) (gd : Option (Nat × Bool)) (w : World) : (execOp ρ ⟨dst, .store 192 x y, t, pos, after, gd⟩).run Tryz.prog w = asSkip (stRow Tryz.prog 192 22 (ρ x) (ρ y) w) := ex_store ρ dst x y t pos after gd w ty168
set_option maxRecDepth 1000000 in
theorem al168 (ρ : Operand → Value) (dst : Option Tmp) (t : TypeId) (pos : String) (after : Array Edge) (gd : Option (Nat × Bool)) (w : World) : (execOp ρ ⟨dst, .alloc 192, t, pos, after, gd⟩).run Tryz.prog w = .ok (.value (.pointer (some ⟨w.heap.size, 0, none⟩))) (w.alloc (.cells (cat zs168).toArray 192)) := ex_alloc ρ dst t pos after gd w (fun _ => by kernel_rfl)
def zs78 : List (List Value) := [[.map none], [.slice none 0 0], [.slice none 0 0], [.int .i64 0]]
theorem zs78_len : (cat zs78).length = 4 := by kernel_rfl
set_option maxRecDepth 1000000 in
theorem sty78 : StructTy Tryz.prog 93 4 (cat zs78) (plOf zs78) := ⟨⟨_, _, rfl, Tryz.underlying93, by kernel_rfl, by kernel_rfl⟩, zs78_len⟩
theorem bl78 (ρ : Operand → Value) (dst : Option Tmp) (parts : List (Nat × Operand)) (t : TypeId) (pos : String) (after : Array Edge) (gd : Option (Nat × Bool)) (w : World) : (execOp ρ ⟨dst, .build 93 parts.toArray, t, pos, after, gd⟩).run Tryz.prog w = asNext (blRow Tryz.prog 93 (parts.map fun p => (p.1, ρ p.2)) w (fillL 4 (plOf zs78) (cat zs78) (parts.map fun p => (p.1, ρ p.2)))) := ex_build ρ dst t pos after gd w sty78 parts
theorem ty78 : RowTy Tryz.prog 93 4 := ⟨⟨_, Tryz.underlying93, rfl⟩, by kernel_rfl⟩
theorem ld78 (ρ : Operand → Value) (dst : Option Tmp) (x : Operand) (t : TypeId) (pos : String) (after : Array Edge) (gd : Option (Nat × Bool)) (w : World) : (execOp ρ ⟨dst, .load 93 x, t, pos, after, gd⟩).run Tryz.prog w = asNext (ldRow Tryz.prog 93 4 (ρ x) w) := ex_load ρ dst x t pos after gd w ty78
theorem st78 (ρ : Operand → Value) (dst : Option Tmp) (x y : Operand) (t : TypeId) (pos : String) (after : Array Edge) (gd : Option (Nat × Bool)) (w : World) : (execOp ρ ⟨dst, .store 93 x y, t, pos, after, gd⟩).run Tryz.prog w = asSkip (stRow Tryz.prog 93 4 (ρ x) (ρ y) w) := ex_store ρ dst x y t pos after gd w ty78
set_option maxRecDepth 1000000 in
theorem al78 (ρ : Operand → Value) (dst : Option Tmp) (t : TypeId) (pos : String) (after : Array Edge) (gd : Option (Nat × Bool)) (w : World) : (execOp ρ ⟨dst, .alloc 93, t, pos, after, gd⟩).run Tryz.prog w = .ok (.value (.pointer (some ⟨w.heap.size, 0, none⟩))) (w.alloc (.cells (cat zs78).toArray 93)) := ex_alloc ρ dst t pos after gd w (fun _ => by kernel_rfl)
def zs216 : List (List Value) := [[.int .i64 0], [.int .i64 0]]
theorem zs216_len : (cat zs216).length = 2 := by kernel_rfl
set_option maxRecDepth 1000000 in
theorem sty216 : StructTy Tryz.prog 268 2 (cat zs216) (plOf zs216) := ⟨⟨_, _, rfl, Tryz.underlying268, by kernel_rfl, by kernel_rfl⟩, zs216_len⟩
theorem bl216 (ρ : Operand → Value) (dst : Option Tmp) (parts : List (Nat × Operand)) (t : TypeId) (pos : String) (after : Array Edge) (gd : Option (Nat × Bool)) (w : World) : (execOp ρ ⟨dst, .build 268 parts.toArray, t, pos, after, gd⟩).run Tryz.prog w = asNext (blRow Tryz.prog 268 (parts.map fun p => (p.1, ρ p.2)) w (fillL 2 (plOf zs216) (cat zs216) (parts.map fun p => (p.1, ρ p.2)))) := ex_build ρ dst t pos after gd w sty216 parts
theorem ty216 : RowTy Tryz.prog 268 2 := ⟨⟨_, Tryz.underlying268, rfl⟩, by kernel_rfl⟩
theorem ld216 (ρ : Operand → Value) (dst : Option Tmp) (x : Operand) (t : TypeId) (pos : String) (after : Array Edge) (gd : Option (Nat × Bool)) (w : World) : (execOp ρ ⟨dst, .load 268 x, t, pos, after, gd⟩).run Tryz.prog w = asNext (ldRow Tryz.prog 268 2 (ρ x) w) := ex_load ρ dst x t pos after gd w ty216
theorem st216 (ρ : Operand → Value) (dst : Option Tmp) (x y : Operand) (t : TypeId) (pos : String) (after : Array Edge) (gd : Option (Nat × Bool)) (w : World) : (execOp ρ ⟨dst, .store 268 x y, t, pos, after, gd⟩).run Tryz.prog w = asSkip (stRow Tryz.prog 268 2 (ρ x) (ρ y) w) := ex_store ρ dst x y t pos after gd w ty216
set_option maxRecDepth 1000000 in
theorem al216 (ρ : Operand → Value) (dst : Option Tmp) (t : TypeId) (pos : String) (after : Array Edge) (gd : Option (Nat × Bool)) (w : World) : (execOp ρ ⟨dst, .alloc 268, t, pos, after, gd⟩).run Tryz.prog w = .ok (.value (.pointer (some ⟨w.heap.size, 0, none⟩))) (w.alloc (.cells (cat zs216).toArray 268)) := ex_alloc ρ dst t pos after gd w (fun _ => by kernel_rfl)
theorem s1_44 (ρ : Operand → Value) (dst : Option Tmp) (x y : Operand) (t : TypeId) (pos : String) (after : Array Edge) (gd : Option (Nat × Bool)) (w : World) : (execOp ρ ⟨dst, .store 45 x y, t, pos, after, gd⟩).run Tryz.prog w = asSkip (stOne Tryz.prog 45 (ρ x) (ρ y) w) := ex_store1 ρ dst x y t pos after gd w (by kernel_rfl)
theorem s1_34 (ρ : Operand → Value) (dst : Option Tmp) (x y : Operand) (t : TypeId) (pos : String) (after : Array Edge) (gd : Option (Nat × Bool)) (w : World) : (execOp ρ ⟨dst, .store 36 x y, t, pos, after, gd⟩).run Tryz.prog w = asSkip (stOne Tryz.prog 36 (ρ x) (ρ y) w) := ex_store1 ρ dst x y t pos after gd w (by kernel_rfl)
theorem s1_146 (ρ : Operand → Value) (dst : Option Tmp) (x y : Operand) (t : TypeId) (pos : String) (after : Array Edge) (gd : Option (Nat × Bool)) (w : World) : (execOp ρ ⟨dst, .store 204 x y, t, pos, after, gd⟩).run Tryz.prog w = asSkip (stOne Tryz.prog 204 (ρ x) (ρ y) w) := ex_store1 ρ dst x y t pos after gd w (by kernel_rfl)
attribute [go_sem ↓] bl42 ld42 st42 al42 bl46 ld46 st46 al46 bl49 ld49 st49 al49 bl102 ld102 st102 al102 bl190 ld190 st190 al190 bl292 ld292 st292 al292 bl88 ld88 st88 al88 bl81 ld81 st81 al81 bl168 ld168 st168 al168 bl78 ld78 st78 al78 bl216 ld216 st216 al216 s1_44 s1_34 s1_146
end Go.Proofs.YtiglinnjnobodaaGreat
