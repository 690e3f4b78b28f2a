/-
  The rules for this program's arrays and structs (written by a program of this seat).
-/
import Derived.Test.YtfflppedbopdpaaGreatProg
import Derived.Test.YtfflppedbopdpaaGreatXSta
import Derived.Test.YtfflppedbopdpaaGreatXTy2
import Derived.Test.YtfflppedbopdpaaGreatXFrm
set_option linter.unusedVariables false
set_option maxRecDepth 1000000
set_option maxHeartbeats 8000000
set_option linter.unusedSimpArgs false
namespace Go.Proofs.YtfflppedbopdpaaGreat
open Go.RowKit Go.Mun

attribute [go_sem] accC_len
theorem sty86 : StructTy Tryz.prog 86 35 accZ [(0, 1), (1, 32), (33, 1), (34, 1)] := ⟨⟨_, _, rfl, Tryz.underlying86, by kernel_rfl, by kernel_rfl⟩, accC_len _ _ _ _⟩
section
variable (ρ : Operand → Value) (dst : Option Tmp) (x y z : Operand) (parts : List (Nat × Operand)) (t : TypeId) (pos : String) (after : Array Edge) (gd : Option (Nat × Bool)) (w : World)
theorem bl86 : (execOp ρ ⟨dst, .build 86 parts.toArray, t, pos, after, gd⟩).run Tryz.prog w = asNext (blRow Tryz.prog 86 (parts.map fun p => (p.1, ρ p.2)) w (fillL 35 [(0, 1), (1, 32), (33, 1), (34, 1)] accZ (parts.map fun p => (p.1, ρ p.2)))) := ex_build ρ dst t pos after gd w sty86 parts
attribute [go_sem ↓] bl86
theorem ty86 : RowTy Tryz.prog 86 35 := ⟨⟨_, Tryz.underlying86, rfl⟩, by kernel_rfl⟩
theorem ld86 : (execOp ρ ⟨dst, .load 86 x, t, pos, after, gd⟩).run Tryz.prog w = asNext (ldRow Tryz.prog 86 35 (ρ x) w) := ex_load ρ dst x t pos after gd w ty86
theorem st86 : (execOp ρ ⟨dst, .store 86 x y, t, pos, after, gd⟩).run Tryz.prog w = asSkip (stRow Tryz.prog 86 35 (ρ x) (ρ y) w) := ex_store ρ dst x y t pos after gd w ty86
theorem b0_25 : (execOp ρ ⟨dst, .build 25 #[], t, pos, after, gd⟩).run Tryz.prog w = .ok (.value (.agg (beC 32 0).toArray)) w := ex_build0 (fun w => by kernel_rfl) ρ dst t pos after gd w
theorem b0_23 : (execOp ρ ⟨dst, .build 23 #[], t, pos, after, gd⟩).run Tryz.prog w = .ok (.value (.agg (beC 20 0).toArray)) w := ex_build0 (fun w => by kernel_rfl) ρ dst t pos after gd w
attribute [go_sem ↓] b0_25 b0_23
theorem wW_eq : 256 ^ 32 = wW := by unfold wW; decide
theorem wA_eq : 256 ^ 20 = wA := by unfold wA; decide
theorem eqD25 {a b : Nat} (ha : a < wW) (hb : b < wW) (w : World) (d : Nat) : (Op.equalIn (d + 3) 25 (.agg (beC 32 a).toArray) (.agg (beC 32 b).toArray)).run Tryz.prog w = .ok (decide (a = b)) w := by
 rw [← wW_eq] at ha hb
 rw [← beEq_eq 32 a b ha hb]
 exact run_eq_beD Tryz.underlying25 Tryz.underlying5 (by kernel_rfl) (d + 1) a b w
theorem eqD23 {a b : Nat} (ha : a < wA) (hb : b < wA) (w : World) (d : Nat) : (Op.equalIn (d + 3) 23 (.agg (beC 20 a).toArray) (.agg (beC 20 b).toArray)).run Tryz.prog w = .ok (decide (a = b)) w := by
 rw [← wA_eq] at ha hb
 rw [← beEq_eq 20 a b ha hb]
 exact run_eq_beD Tryz.underlying23 Tryz.underlying5 (by kernel_rfl) (d + 1) a b w
theorem eqW {a b : Nat} (ha : a < wW) (hb : b < wW) (w : World) : (Op.equalIn 10000 25 (.agg (beC 32 a).toArray) (.agg (beC 32 b).toArray)).run Tryz.prog w = .ok (decide (a = b)) w := at10000 (eqD25 ha hb w)
theorem eqA {a b : Nat} (ha : a < wA) (hb : b < wA) (w : World) : (Op.equalIn 10000 23 (.agg (beC 20 a).toArray) (.agg (beC 20 b).toArray)).run Tryz.prog w = .ok (decide (a = b)) w := at10000 (eqD23 ha hb w)
theorem s1_75 : (execOp ρ ⟨dst, .store 91 x y, t, pos, after, gd⟩).run Tryz.prog w = asSkip (stOne Tryz.prog 91 (ρ x) (ρ y) w) := ex_store1 ρ dst x y t pos after gd w (by kernel_rfl)
theorem s1_76 : (execOp ρ ⟨dst, .store 92 x y, t, pos, after, gd⟩).run Tryz.prog w = asSkip (stOne Tryz.prog 92 (ρ x) (ρ y) w) := ex_store1 ρ dst x y t pos after gd w (by kernel_rfl)
theorem s1_26 : (execOp ρ ⟨dst, .store 26 x y, t, pos, after, gd⟩).run Tryz.prog w = asSkip (stOne Tryz.prog 26 (ρ x) (ρ y) w) := ex_store1 ρ dst x y t pos after gd w (by kernel_rfl)
theorem s1_4 : (execOp ρ ⟨dst, .store 4 x y, t, pos, after, gd⟩).run Tryz.prog w = asSkip (stOne Tryz.prog 4 (ρ x) (ρ y) w) := ex_store1 ρ dst x y t pos after gd w (by kernel_rfl)
theorem s1_43 : (execOp ρ ⟨dst, .store 38 x y, t, pos, after, gd⟩).run Tryz.prog w = asSkip (stOne Tryz.prog 38 (ρ x) (ρ y) w) := ex_store1 ρ dst x y t pos after gd w (by kernel_rfl)
def z265 : List Value := beC 20 0 ++ [.int .i64 0]
theorem z265_len : z265.length = 21 := by simp [z265]
theorem sty265 : StructTy Tryz.prog 292 21 z265 [(0, 20), (20, 1)] := ⟨⟨_, _, rfl, Tryz.underlying292, by kernel_rfl, by kernel_rfl⟩, z265_len⟩
theorem bl265 : (execOp ρ ⟨dst, .build 292 parts.toArray, t, pos, after, gd⟩).run Tryz.prog w = asNext (blRow Tryz.prog 292 (parts.map fun p => (p.1, ρ p.2)) w (fillL 21 [(0, 20), (20, 1)] z265 (parts.map fun p => (p.1, ρ p.2)))) := ex_build ρ dst t pos after gd w sty265 parts
attribute [go_sem ↓] bl265
attribute [go_sem] z265_len
def z283 : List Value := beC 20 0 ++ beC 32 0
theorem z283_len : z283.length = 52 := by simp [z283]
theorem sty283 : StructTy Tryz.prog 324 52 z283 [(0, 20), (20, 32)] := ⟨⟨_, _, rfl, Tryz.underlying324, by kernel_rfl, by kernel_rfl⟩, z283_len⟩
theorem bl283 : (execOp ρ ⟨dst, .build 324 parts.toArray, t, pos, after, gd⟩).run Tryz.prog w = asNext (blRow Tryz.prog 324 (parts.map fun p => (p.1, ρ p.2)) w (fillL 52 [(0, 20), (20, 32)] z283 (parts.map fun p => (p.1, ρ p.2)))) := ex_build ρ dst t pos after gd w sty283 parts
attribute [go_sem ↓] bl283
attribute [go_sem] z283_len
def z285 : List Value := beC 20 0 ++ [.slice none 0 0]
theorem z285_len : z285.length = 21 := by simp [z285]
theorem sty285 : StructTy Tryz.prog 326 21 z285 [(0, 20), (20, 1)] := ⟨⟨_, _, rfl, Tryz.underlying326, by kernel_rfl, by kernel_rfl⟩, z285_len⟩
theorem bl285 : (execOp ρ ⟨dst, .build 326 parts.toArray, t, pos, after, gd⟩).run Tryz.prog w = asNext (blRow Tryz.prog 326 (parts.map fun p => (p.1, ρ p.2)) w (fillL 21 [(0, 20), (20, 1)] z285 (parts.map fun p => (p.1, ρ p.2)))) := ex_build ρ dst t pos after gd w sty285 parts
attribute [go_sem ↓] bl285
attribute [go_sem] z285_len
def z259 : List Value := beC 20 0 ++ (beC 32 0 ++ beC 32 0)
theorem z259_len : z259.length = 84 := by simp [z259]
theorem sty259 : StructTy Tryz.prog 286 84 z259 [(0, 20), (20, 32), (52, 32)] := ⟨⟨_, _, rfl, Tryz.underlying286, by kernel_rfl, by kernel_rfl⟩, z259_len⟩
theorem bl259 : (execOp ρ ⟨dst, .build 286 parts.toArray, t, pos, after, gd⟩).run Tryz.prog w = asNext (blRow Tryz.prog 286 (parts.map fun p => (p.1, ρ p.2)) w (fillL 84 [(0, 20), (20, 32), (52, 32)] z259 (parts.map fun p => (p.1, ρ p.2)))) := ex_build ρ dst t pos after gd w sty259 parts
attribute [go_sem ↓] bl259
attribute [go_sem] z259_len
def z263 : List Value := beC 20 0 ++ [.pointer none]
theorem z263_len : z263.length = 21 := by simp [z263]
theorem sty263 : StructTy Tryz.prog 290 21 z263 [(0, 20), (20, 1)] := ⟨⟨_, _, rfl, Tryz.underlying290, by kernel_rfl, by kernel_rfl⟩, z263_len⟩
theorem bl263 : (execOp ρ ⟨dst, .build 290 parts.toArray, t, pos, after, gd⟩).run Tryz.prog w = asNext (blRow Tryz.prog 290 (parts.map fun p => (p.1, ρ p.2)) w (fillL 21 [(0, 20), (20, 1)] z263 (parts.map fun p => (p.1, ρ p.2)))) := ex_build ρ dst t pos after gd w sty263 parts
end
attribute [go_sem ↓] bl263
attribute [go_sem] z263_len
theorem lay_left (A A' B : List Value) (h : A'.length = A.length) : lay (A ++ B) 0 A' = A' ++ B := by
 rw [lay_eq _ _ _ (by simp; omega)]; simp [splice, h]
theorem lay_right (A B B' : List Value) (o : Nat) (ho : o = A.length) (h : B'.length = B.length) : lay (A ++ B) o B' = A ++ B' := by
 subst ho; rw [lay_eq _ _ _ (by simp; omega)]; simp [splice, h]
theorem lay2 (z A A' B B' : List Value) (o : Nat) (hz : z = A ++ B) (ha : A'.length = A.length) (ho : o = A.length) (hb : B'.length = B.length) : lay (lay z 0 A') o B' = A' ++ B' := by
 rw [hz, lay_left _ _ _ ha, lay_right _ _ _ _ (by omega) hb]
attribute [go_sem ↓] ld86 st86 s1_75 s1_76 s1_26 s1_4 s1_43
end Go.Proofs.YtfflppedbopdpaaGreat
