/-
  The rules for this program's structs, as segments (written by a program of this seat).
-/
import Derived.Test.YtfflppedbopdpaaGreatProg
import Derived.Test.YtfflppedbopdpaaGreatXSeg
import Derived.Test.YtfflppedbopdpaaGreatXTy3
import Derived.Test.YtfflppedbopdpaaGreatXTy2
set_option linter.unusedVariables false
set_option maxRecDepth 1000000
set_option maxHeartbeats 8000000
set_option linter.unusedSimpArgs false
namespace Go.Proofs.YtfflppedbopdpaaGreat
open Go.RowKit Go.Mun

def zs42 : List (List Value) := [[.int .i64 0], beC 20 0, beC 20 0, beC 20 0, beC 32 0, beC 32 0, [.slice none 0 0], [.int .i64 0], [.int .i64 0], [.bool false]]
theorem zs42_len : (cat zs42).length = 129 := by kernel_rfl
theorem sty42 : StructTy Tryz.prog 37 129 (cat zs42) (plOf zs42) := ⟨⟨_, _, rfl, Tryz.underlying37, by kernel_rfl, by kernel_rfl⟩, zs42_len⟩
section
variable (ρ : Operand → Value) (dst : Option Tmp) (x y z : Operand) (parts : List (Nat × Operand)) (t : TypeId) (pos : String) (after : Array Edge) (gd : Option (Nat × Bool)) (w : World)
theorem bl42 : (execOp ρ ⟨dst, .build 37 parts.toArray, t, pos, after, gd⟩).run Tryz.prog w = asNext (blRow Tryz.prog 37 (parts.map fun p => (p.1, ρ p.2)) w (fillL 129 (plOf zs42) (cat zs42) (parts.map fun p => (p.1, ρ p.2)))) := ex_build ρ dst t pos after gd w sty42 parts
theorem ty42 : RowTy Tryz.prog 37 129 := ⟨⟨_, Tryz.underlying37, rfl⟩, by kernel_rfl⟩
theorem ld42 : (execOp ρ ⟨dst, .load 37 x, t, pos, after, gd⟩).run Tryz.prog w = asNext (ldRow Tryz.prog 37 129 (ρ x) w) := ex_load ρ dst x t pos after gd w ty42
theorem st42 : (execOp ρ ⟨dst, .store 37 x y, t, pos, after, gd⟩).run Tryz.prog w = asSkip (stRow Tryz.prog 37 129 (ρ x) (ρ y) w) := ex_store ρ dst x y t pos after gd w ty42
theorem al42 : (execOp ρ ⟨dst, .alloc 37, t, pos, after, gd⟩).run Tryz.prog w = .ok (.value (.pointer (some ⟨w.heap.size, 0, none⟩))) (w.alloc (.cells (cat zs42).toArray 37)) := ex_alloc ρ dst t pos after gd w (fun _ => by kernel_rfl)
def zs46 : List (List Value) := [[.int .i64 0], [.int .i64 0], [.slice none 0 0], [.slice none 0 0], beC 20 0]
theorem zs46_len : (cat zs46).length = 24 := by kernel_rfl
theorem sty46 : StructTy Tryz.prog 41 24 (cat zs46) (plOf zs46) := ⟨⟨_, _, rfl, Tryz.underlying41, by kernel_rfl, by kernel_rfl⟩, zs46_len⟩
theorem bl46 : (execOp ρ ⟨dst, .build 41 parts.toArray, t, pos, after, gd⟩).run Tryz.prog w = asNext (blRow Tryz.prog 41 (parts.map fun p => (p.1, ρ p.2)) w (fillL 24 (plOf zs46) (cat zs46) (parts.map fun p => (p.1, ρ p.2)))) := ex_build ρ dst t pos after gd w sty46 parts
theorem ty46 : RowTy Tryz.prog 41 24 := ⟨⟨_, Tryz.underlying41, rfl⟩, by kernel_rfl⟩
theorem ld46 : (execOp ρ ⟨dst, .load 41 x, t, pos, after, gd⟩).run Tryz.prog w = asNext (ldRow Tryz.prog 41 24 (ρ x) w) := ex_load ρ dst x t pos after gd w ty46
theorem st46 : (execOp ρ ⟨dst, .store 41 x y, t, pos, after, gd⟩).run Tryz.prog w = asSkip (stRow Tryz.prog 41 24 (ρ x) (ρ y) w) := ex_store ρ dst x y t pos after gd w ty46
theorem al46 : (execOp ρ ⟨dst, .alloc 41, t, pos, after, gd⟩).run Tryz.prog w = .ok (.value (.pointer (some ⟨w.heap.size, 0, none⟩))) (w.alloc (.cells (cat zs46).toArray 41)) := ex_alloc ρ dst t pos after gd w (fun _ => by kernel_rfl)
def zs49 : List (List Value) := [[.int .i64 0], [.int .i64 0], [.int .i64 0], beC 20 0, beC 20 0]
theorem zs49_len : (cat zs49).length = 43 := by kernel_rfl
theorem sty49 : StructTy Tryz.prog 64 43 (cat zs49) (plOf zs49) := ⟨⟨_, _, rfl, Tryz.underlying64, by kernel_rfl, by kernel_rfl⟩, zs49_len⟩
theorem bl49 : (execOp ρ ⟨dst, .build 64 parts.toArray, t, pos, after, gd⟩).run Tryz.prog w = asNext (blRow Tryz.prog 64 (parts.map fun p => (p.1, ρ p.2)) w (fillL 43 (plOf zs49) (cat zs49) (parts.map fun p => (p.1, ρ p.2)))) := ex_build ρ dst t pos after gd w sty49 parts
theorem ty49 : RowTy Tryz.prog 64 43 := ⟨⟨_, Tryz.underlying64, rfl⟩, by kernel_rfl⟩
theorem ld49 : (execOp ρ ⟨dst, .load 64 x, t, pos, after, gd⟩).run Tryz.prog w = asNext (ldRow Tryz.prog 64 43 (ρ x) w) := ex_load ρ dst x t pos after gd w ty49
theorem st49 : (execOp ρ ⟨dst, .store 64 x y, t, pos, after, gd⟩).run Tryz.prog w = asSkip (stRow Tryz.prog 64 43 (ρ x) (ρ y) w) := ex_store ρ dst x y t pos after gd w ty49
theorem al49 : (execOp ρ ⟨dst, .alloc 64, t, pos, after, gd⟩).run Tryz.prog w = .ok (.value (.pointer (some ⟨w.heap.size, 0, none⟩))) (w.alloc (.cells (cat zs49).toArray 64)) := ex_alloc ρ dst t pos after gd w (fun _ => by kernel_rfl)
def zs102 : List (List Value) := [[.pointer none], cat zs49, [.map none]]
theorem zs102_len : (cat zs102).length = 45 := by kernel_rfl
theorem sty102 : StructTy Tryz.prog 103 45 (cat zs102) (plOf zs102) := ⟨⟨_, _, rfl, Tryz.underlying103, by kernel_rfl, by kernel_rfl⟩, zs102_len⟩
theorem bl102 : (execOp ρ ⟨dst, .build 103 parts.toArray, t, pos, after, gd⟩).run Tryz.prog w = asNext (blRow Tryz.prog 103 (parts.map fun p => (p.1, ρ p.2)) w (fillL 45 (plOf zs102) (cat zs102) (parts.map fun p => (p.1, ρ p.2)))) := ex_build ρ dst t pos after gd w sty102 parts
theorem ty102 : RowTy Tryz.prog 103 45 := ⟨⟨_, Tryz.underlying103, rfl⟩, by kernel_rfl⟩
theorem ld102 : (execOp ρ ⟨dst, .load 103 x, t, pos, after, gd⟩).run Tryz.prog w = asNext (ldRow Tryz.prog 103 45 (ρ x) w) := ex_load ρ dst x t pos after gd w ty102
theorem st102 : (execOp ρ ⟨dst, .store 103 x y, t, pos, after, gd⟩).run Tryz.prog w = asSkip (stRow Tryz.prog 103 45 (ρ x) (ρ y) w) := ex_store ρ dst x y t pos after gd w ty102
theorem al102 : (execOp ρ ⟨dst, .alloc 103, t, pos, after, gd⟩).run Tryz.prog w = .ok (.value (.pointer (some ⟨w.heap.size, 0, none⟩))) (w.alloc (.cells (cat zs102).toArray 103)) := ex_alloc ρ dst t pos after gd w (fun _ => by kernel_rfl)
def zs190 : List (List Value) := [[.pointer none], cat zs42, [.slice none 0 0], [.slice none 0 0], [.slice none 0 0], [.slice none 0 0], [.int .i64 0], [.int .i64 0], [.int .i64 0], [.slice none 0 0], [.slice none 0 0], [.slice none 0 0], [.bool false]]
theorem zs190_len : (cat zs190).length = 141 := by kernel_rfl
theorem sty190 : StructTy Tryz.prog 212 141 (cat zs190) (plOf zs190) := ⟨⟨_, _, rfl, Tryz.underlying212, by kernel_rfl, by kernel_rfl⟩, zs190_len⟩
theorem bl190 : (execOp ρ ⟨dst, .build 212 parts.toArray, t, pos, after, gd⟩).run Tryz.prog w = asNext (blRow Tryz.prog 212 (parts.map fun p => (p.1, ρ p.2)) w (fillL 141 (plOf zs190) (cat zs190) (parts.map fun p => (p.1, ρ p.2)))) := ex_build ρ dst t pos after gd w sty190 parts
theorem ty190 : RowTy Tryz.prog 212 141 := ⟨⟨_, Tryz.underlying212, rfl⟩, by kernel_rfl⟩
theorem ld190 : (execOp ρ ⟨dst, .load 212 x, t, pos, after, gd⟩).run Tryz.prog w = asNext (ldRow Tryz.prog 212 141 (ρ x) w) := ex_load ρ dst x t pos after gd w ty190
theorem st190 : (execOp ρ ⟨dst, .store 212 x y, t, pos, after, gd⟩).run Tryz.prog w = asSkip (stRow Tryz.prog 212 141 (ρ x) (ρ y) w) := ex_store ρ dst x y t pos after gd w ty190
theorem al190 : (execOp ρ ⟨dst, .alloc 212, t, pos, after, gd⟩).run Tryz.prog w = .ok (.value (.pointer (some ⟨w.heap.size, 0, none⟩))) (w.alloc (.cells (cat zs190).toArray 212)) := ex_alloc ρ dst t pos after gd w (fun _ => by kernel_rfl)
def zs292 : List (List Value) := [[.int .i64 0], [.int .i64 0], [.int .i64 0]]
theorem zs292_len : (cat zs292).length = 3 := by kernel_rfl
theorem sty292 : StructTy Tryz.prog 341 3 (cat zs292) (plOf zs292) := ⟨⟨_, _, rfl, Tryz.underlying341, by kernel_rfl, by kernel_rfl⟩, zs292_len⟩
theorem bl292 : (execOp ρ ⟨dst, .build 341 parts.toArray, t, pos, after, gd⟩).run Tryz.prog w = asNext (blRow Tryz.prog 341 (parts.map fun p => (p.1, ρ p.2)) w (fillL 3 (plOf zs292) (cat zs292) (parts.map fun p => (p.1, ρ p.2)))) := ex_build ρ dst t pos after gd w sty292 parts
theorem ty292 : RowTy Tryz.prog 341 3 := ⟨⟨_, Tryz.underlying341, rfl⟩, by kernel_rfl⟩
theorem ld292 : (execOp ρ ⟨dst, .load 341 x, t, pos, after, gd⟩).run Tryz.prog w = asNext (ldRow Tryz.prog 341 3 (ρ x) w) := ex_load ρ dst x t pos after gd w ty292
theorem st292 : (execOp ρ ⟨dst, .store 341 x y, t, pos, after, gd⟩).run Tryz.prog w = asSkip (stRow Tryz.prog 341 3 (ρ x) (ρ y) w) := ex_store ρ dst x y t pos after gd w ty292
theorem al292 : (execOp ρ ⟨dst, .alloc 341, t, pos, after, gd⟩).run Tryz.prog w = .ok (.value (.pointer (some ⟨w.heap.size, 0, none⟩))) (w.alloc (.cells (cat zs292).toArray 341)) := ex_alloc ρ dst t pos after gd w (fun _ => by kernel_rfl)
def zs88 : List (List Value) := [beC 32 0, beC 32 0]
theorem zs88_len : (cat zs88).length = 64 := by kernel_rfl
theorem sty88 : StructTy Tryz.prog 97 64 (cat zs88) (plOf zs88) := ⟨⟨_, _, rfl, Tryz.underlying97, by kernel_rfl, by kernel_rfl⟩, zs88_len⟩
theorem bl88 : (execOp ρ ⟨dst, .build 97 parts.toArray, t, pos, after, gd⟩).run Tryz.prog w = asNext (blRow Tryz.prog 97 (parts.map fun p => (p.1, ρ p.2)) w (fillL 64 (plOf zs88) (cat zs88) (parts.map fun p => (p.1, ρ p.2)))) := ex_build ρ dst t pos after gd w sty88 parts
theorem ty88 : RowTy Tryz.prog 97 64 := ⟨⟨_, Tryz.underlying97, rfl⟩, by kernel_rfl⟩
theorem ld88 : (execOp ρ ⟨dst, .load 97 x, t, pos, after, gd⟩).run Tryz.prog w = asNext (ldRow Tryz.prog 97 64 (ρ x) w) := ex_load ρ dst x t pos after gd w ty88
theorem st88 : (execOp ρ ⟨dst, .store 97 x y, t, pos, after, gd⟩).run Tryz.prog w = asSkip (stRow Tryz.prog 97 64 (ρ x) (ρ y) w) := ex_store ρ dst x y t pos after gd w ty88
theorem al88 : (execOp ρ ⟨dst, .alloc 97, t, pos, after, gd⟩).run Tryz.prog w = .ok (.value (.pointer (some ⟨w.heap.size, 0, none⟩))) (w.alloc (.cells (cat zs88).toArray 97)) := ex_alloc ρ dst t pos after gd w (fun _ => by kernel_rfl)
def zs81 : List (List Value) := [beC 20 0, [.int .i64 0], beC 32 0, [.slice none 0 0], [.slice none 0 0]]
theorem zs81_len : (cat zs81).length = 55 := by kernel_rfl
theorem sty81 : StructTy Tryz.prog 35 55 (cat zs81) (plOf zs81) := ⟨⟨_, _, rfl, Tryz.underlying35, by kernel_rfl, by kernel_rfl⟩, zs81_len⟩
theorem bl81 : (execOp ρ ⟨dst, .build 35 parts.toArray, t, pos, after, gd⟩).run Tryz.prog w = asNext (blRow Tryz.prog 35 (parts.map fun p => (p.1, ρ p.2)) w (fillL 55 (plOf zs81) (cat zs81) (parts.map fun p => (p.1, ρ p.2)))) := ex_build ρ dst t pos after gd w sty81 parts
theorem ty81 : RowTy Tryz.prog 35 55 := ⟨⟨_, Tryz.underlying35, rfl⟩, by kernel_rfl⟩
theorem ld81 : (execOp ρ ⟨dst, .load 35 x, t, pos, after, gd⟩).run Tryz.prog w = asNext (ldRow Tryz.prog 35 55 (ρ x) w) := ex_load ρ dst x t pos after gd w ty81
theorem st81 : (execOp ρ ⟨dst, .store 35 x y, t, pos, after, gd⟩).run Tryz.prog w = asSkip (stRow Tryz.prog 35 55 (ρ x) (ρ y) w) := ex_store ρ dst x y t pos after gd w ty81
theorem al81 : (execOp ρ ⟨dst, .alloc 35, t, pos, after, gd⟩).run Tryz.prog w = .ok (.value (.pointer (some ⟨w.heap.size, 0, none⟩))) (w.alloc (.cells (cat zs81).toArray 35)) := ex_alloc ρ dst t pos after gd w (fun _ => by kernel_rfl)
def zs168 : List (List Value) := [beC 20 0, [.slice none 0 0], [.slice none 0 0]]
theorem zs168_len : (cat zs168).length = 22 := by kernel_rfl
theorem sty168 : StructTy Tryz.prog 58 22 (cat zs168) (plOf zs168) := ⟨⟨_, _, rfl, Tryz.underlying58, by kernel_rfl, by kernel_rfl⟩, zs168_len⟩
theorem bl168 : (execOp ρ ⟨dst, .build 58 parts.toArray, t, pos, after, gd⟩).run Tryz.prog w = asNext (blRow Tryz.prog 58 (parts.map fun p => (p.1, ρ p.2)) w (fillL 22 (plOf zs168) (cat zs168) (parts.map fun p => (p.1, ρ p.2)))) := ex_build ρ dst t pos after gd w sty168 parts
theorem ty168 : RowTy Tryz.prog 58 22 := ⟨⟨_, Tryz.underlying58, rfl⟩, by kernel_rfl⟩
theorem ld168 : (execOp ρ ⟨dst, .load 58 x, t, pos, after, gd⟩).run Tryz.prog w = asNext (ldRow Tryz.prog 58 22 (ρ x) w) := ex_load ρ dst x t pos after gd w ty168
theorem st168 : (execOp ρ ⟨dst, .store 58 x y, t, pos, after, gd⟩).run Tryz.prog w = asSkip (stRow Tryz.prog 58 22 (ρ x) (ρ y) w) := ex_store ρ dst x y t pos after gd w ty168
theorem al168 : (execOp ρ ⟨dst, .alloc 58, t, pos, after, gd⟩).run Tryz.prog w = .ok (.value (.pointer (some ⟨w.heap.size, 0, none⟩))) (w.alloc (.cells (cat zs168).toArray 58)) := ex_alloc ρ dst t pos after gd w (fun _ => by kernel_rfl)
def zs78 : List (List Value) := [[.map none], [.slice none 0 0], [.slice none 0 0], [.int .i64 0]]
theorem zs78_len : (cat zs78).length = 4 := by kernel_rfl
theorem sty78 : StructTy Tryz.prog 94 4 (cat zs78) (plOf zs78) := ⟨⟨_, _, rfl, Tryz.underlying94, by kernel_rfl, by kernel_rfl⟩, zs78_len⟩
theorem bl78 : (execOp ρ ⟨dst, .build 94 parts.toArray, t, pos, after, gd⟩).run Tryz.prog w = asNext (blRow Tryz.prog 94 (parts.map fun p => (p.1, ρ p.2)) w (fillL 4 (plOf zs78) (cat zs78) (parts.map fun p => (p.1, ρ p.2)))) := ex_build ρ dst t pos after gd w sty78 parts
theorem ty78 : RowTy Tryz.prog 94 4 := ⟨⟨_, Tryz.underlying94, rfl⟩, by kernel_rfl⟩
theorem ld78 : (execOp ρ ⟨dst, .load 94 x, t, pos, after, gd⟩).run Tryz.prog w = asNext (ldRow Tryz.prog 94 4 (ρ x) w) := ex_load ρ dst x t pos after gd w ty78
theorem st78 : (execOp ρ ⟨dst, .store 94 x y, t, pos, after, gd⟩).run Tryz.prog w = asSkip (stRow Tryz.prog 94 4 (ρ x) (ρ y) w) := ex_store ρ dst x y t pos after gd w ty78
theorem al78 : (execOp ρ ⟨dst, .alloc 94, t, pos, after, gd⟩).run Tryz.prog w = .ok (.value (.pointer (some ⟨w.heap.size, 0, none⟩))) (w.alloc (.cells (cat zs78).toArray 94)) := ex_alloc ρ dst t pos after gd w (fun _ => by kernel_rfl)
def zs216 : List (List Value) := [[.int .i64 0], [.int .i64 0]]
theorem zs216_len : (cat zs216).length = 2 := by kernel_rfl
theorem sty216 : StructTy Tryz.prog 239 2 (cat zs216) (plOf zs216) := ⟨⟨_, _, rfl, Tryz.underlying239, by kernel_rfl, by kernel_rfl⟩, zs216_len⟩
theorem bl216 : (execOp ρ ⟨dst, .build 239 parts.toArray, t, pos, after, gd⟩).run Tryz.prog w = asNext (blRow Tryz.prog 239 (parts.map fun p => (p.1, ρ p.2)) w (fillL 2 (plOf zs216) (cat zs216) (parts.map fun p => (p.1, ρ p.2)))) := ex_build ρ dst t pos after gd w sty216 parts
theorem ty216 : RowTy Tryz.prog 239 2 := ⟨⟨_, Tryz.underlying239, rfl⟩, by kernel_rfl⟩
theorem ld216 : (execOp ρ ⟨dst, .load 239 x, t, pos, after, gd⟩).run Tryz.prog w = asNext (ldRow Tryz.prog 239 2 (ρ x) w) := ex_load ρ dst x t pos after gd w ty216
theorem st216 : (execOp ρ ⟨dst, .store 239 x y, t, pos, after, gd⟩).run Tryz.prog w = asSkip (stRow Tryz.prog 239 2 (ρ x) (ρ y) w) := ex_store ρ dst x y t pos after gd w ty216
theorem al216 : (execOp ρ ⟨dst, .alloc 239, t, pos, after, gd⟩).run Tryz.prog w = .ok (.value (.pointer (some ⟨w.heap.size, 0, none⟩))) (w.alloc (.cells (cat zs216).toArray 239)) := ex_alloc ρ dst t pos after gd w (fun _ => by kernel_rfl)
theorem s1_44 : (execOp ρ ⟨dst, .store 39 x y, t, pos, after, gd⟩).run Tryz.prog w = asSkip (stOne Tryz.prog 39 (ρ x) (ρ y) w) := ex_store1 ρ dst x y t pos after gd w (by kernel_rfl)
theorem s1_34 : (execOp ρ ⟨dst, .store 42 x y, t, pos, after, gd⟩).run Tryz.prog w = asSkip (stOne Tryz.prog 42 (ρ x) (ρ y) w) := ex_store1 ρ dst x y t pos after gd w (by kernel_rfl)
theorem s1_146 : (execOp ρ ⟨dst, .store 165 x y, t, pos, after, gd⟩).run Tryz.prog w = asSkip (stOne Tryz.prog 165 (ρ x) (ρ y) w) := ex_store1 ρ dst x y t pos after gd w (by kernel_rfl)
end
attribute [go_sem ↓] bl42 ld42 st42 al42 bl46 ld46 st46 al46 bl49 ld49 st49 al49 bl102 ld102 st102 al102 bl190 ld190 st190 al190 bl292 ld292 st292 al292 bl88 ld88 st88 al88 bl81 ld81 st81 al81 bl168 ld168 st168 al168 bl78 ld78 st78 al78 bl216 ld216 st216 al216 s1_44 s1_34 s1_146
end Go.Proofs.YtfflppedbopdpaaGreat
