/-
  The rules for this program's arrays and structs (written by a program of this seat).
-/
import Derived.Test.YtiglinnjnobodaaGreatProg
import Derived.Test.YtiglinnjnobodaaGreatQSta
import Derived.Test.YtiglinnjnobodaaGreatQTy2
import Derived.Test.YtiglinnjnobodaaGreatQFrm
set_option linter.unusedVariables false
set_option linter.unusedSimpArgs false
namespace Go.Proofs.YtiglinnjnobodaaGreat
open Go.RowKit Go.Mun

attribute [go_sem] accC_len
set_option maxRecDepth 1000000 in
theorem sty86 : StructTy Tryz.prog 98 35 accZ [(0, 1), (1, 32), (33, 1), (34, 1)] := ⟨⟨_, _, rfl, Tryz.underlying98, by kernel_rfl, by kernel_rfl⟩, accC_len _ _ _ _⟩
theorem bl86 (ρ : Operand → Value) (dst : Option Tmp) (parts : List (Nat × Operand)) (t : TypeId) (pos : String) (after : Array Edge) (gd : Option (Nat × Bool)) (w : World) : (execOp ρ ⟨dst, .build 98 parts.toArray, t, pos, after, gd⟩).run Tryz.prog w = asNext (blRow Tryz.prog 98 (parts.map fun p => (p.1, ρ p.2)) w (fillL 35 [(0, 1), (1, 32), (33, 1), (34, 1)] accZ (parts.map fun p => (p.1, ρ p.2)))) := ex_build ρ dst t pos after gd w sty86 parts
attribute [go_sem ↓] bl86
theorem ty86 : RowTy Tryz.prog 98 35 := ⟨⟨_, Tryz.underlying98, rfl⟩, by kernel_rfl⟩
theorem ld86 (ρ : Operand → Value) (dst : Option Tmp) (x : Operand) (t : TypeId) (pos : String) (after : Array Edge) (gd : Option (Nat × Bool)) (w : World) : (execOp ρ ⟨dst, .load 98 x, t, pos, after, gd⟩).run Tryz.prog w = asNext (ldRow Tryz.prog 98 35 (ρ x) w) := ex_load ρ dst x t pos after gd w ty86
theorem st86 (ρ : Operand → Value) (dst : Option Tmp) (x y : Operand) (t : TypeId) (pos : String) (after : Array Edge) (gd : Option (Nat × Bool)) (w : World) : (execOp ρ ⟨dst, .store 98 x y, t, pos, after, gd⟩).run Tryz.prog w = asSkip (stRow Tryz.prog 98 35 (ρ x) (ρ y) w) := ex_store ρ dst x y t pos after gd w ty86
theorem b0_25 (ρ : Operand → Value) (dst : Option Tmp) (t : TypeId) (pos : String) (after : Array Edge) (gd : Option (Nat × Bool)) (w : World) : (execOp ρ ⟨dst, .build 25 #[], t, pos, after, gd⟩).run Tryz.prog w = .ok (.value (.agg (beC 32 0).toArray)) w := ex_build0 (fun w => by kernel_rfl) ρ dst t pos after gd w
theorem b0_23 (ρ : Operand → Value) (dst : Option Tmp) (t : TypeId) (pos : String) (after : Array Edge) (gd : Option (Nat × Bool)) (w : World) : (execOp ρ ⟨dst, .build 23 #[], t, pos, after, gd⟩).run Tryz.prog w = .ok (.value (.agg (beC 20 0).toArray)) w := ex_build0 (fun w => by kernel_rfl) ρ dst t pos after gd w
attribute [go_sem ↓] b0_25 b0_23
theorem wW_eq : 256 ^ 32 = wW := by unfold wW; decide
theorem wA_eq : 256 ^ 20 = wA := by unfold wA; decide
theorem eqD25 {a b : Nat} (ha : a < wW) (hb : b < wW) (w : World) (d : Nat) : (Op.equalIn (d + 3) 25 (.agg (beC 32 a).toArray) (.agg (beC 32 b).toArray)).run Tryz.prog w = .ok (decide (a = b)) w := by
 rw [← wW_eq] at ha hb
 rw [← beEq_eq 32 a b ha hb]
 exact run_eq_beD Tryz.underlying25 Tryz.underlying5 (by kernel_rfl) (d + 1) a b w
theorem eqD23 {a b : Nat} (ha : a < wA) (hb : b < wA) (w : World) (d : Nat) : (Op.equalIn (d + 3) 23 (.agg (beC 20 a).toArray) (.agg (beC 20 b).toArray)).run Tryz.prog w = .ok (decide (a = b)) w := by
 rw [← wA_eq] at ha hb
 rw [← beEq_eq 20 a b ha hb]
 exact run_eq_beD Tryz.underlying23 Tryz.underlying5 (by kernel_rfl) (d + 1) a b w
theorem eqW {a b : Nat} (ha : a < wW) (hb : b < wW) (w : World) : (Op.equalIn 10000 25 (.agg (beC 32 a).toArray) (.agg (beC 32 b).toArray)).run Tryz.prog w = .ok (decide (a = b)) w := at10000 (eqD25 ha hb w)
theorem eqA {a b : Nat} (ha : a < wA) (hb : b < wA) (w : World) : (Op.equalIn 10000 23 (.agg (beC 20 a).toArray) (.agg (beC 20 b).toArray)).run Tryz.prog w = .ok (decide (a = b)) w := at10000 (eqD23 ha hb w)
theorem s1_75 (ρ : Operand → Value) (dst : Option Tmp) (x y : Operand) (t : TypeId) (pos : String) (after : Array Edge) (gd : Option (Nat × Bool)) (w : World) : (execOp ρ ⟨dst, .store 90 x y, t, pos, after, gd⟩).run Tryz.prog w = asSkip (stOne Tryz.prog 90 (ρ x) (ρ y) w) := ex_store1 ρ dst x y t pos after gd w (by kernel_rfl)
theorem s1_76 (ρ : Operand → Value) (dst : Option Tmp) (x y : Operand) (t : TypeId) (pos : String) (after : Array Edge) (gd : Option (Nat × Bool)) (w : World) : (execOp ρ ⟨dst, .store 91 x y, t, pos, after, gd⟩).run Tryz.prog w = asSkip (stOne Tryz.prog 91 (ρ x) (ρ y) w) := ex_store1 ρ dst x y t pos after gd w (by kernel_rfl)
theorem s1_26 (ρ : Operand → Value) (dst : Option Tmp) (x y : Operand) (t : TypeId) (pos : String) (after : Array Edge) (gd : Option (Nat × Bool)) (w : World) : (execOp ρ ⟨dst, .store 26 x y, t, pos, after, gd⟩).run Tryz.prog w = asSkip (stOne Tryz.prog 26 (ρ x) (ρ y) w) := ex_store1 ρ dst x y t pos after gd w (by kernel_rfl)
theorem s1_4 (ρ : Operand → Value) (dst : Option Tmp) (x y : Operand) (t : TypeId) (pos : String) (after : Array Edge) (gd : Option (Nat × Bool)) (w : World) : (execOp ρ ⟨dst, .store 4 x y, t, pos, after, gd⟩).run Tryz.prog w = asSkip (stOne Tryz.prog 4 (ρ x) (ρ y) w) := ex_store1 ρ dst x y t pos after gd w (by kernel_rfl)
theorem s1_43 (ρ : Operand → Value) (dst : Option Tmp) (x y : Operand) (t : TypeId) (pos : String) (after : Array Edge) (gd : Option (Nat × Bool)) (w : World) : (execOp ρ ⟨dst, .store 44 x y, t, pos, after, gd⟩).run Tryz.prog w = asSkip (stOne Tryz.prog 44 (ρ x) (ρ y) w) := ex_store1 ρ dst x y t pos after gd w (by kernel_rfl)
def z265 : List Value := beC 20 0 ++ [.int .i64 0]
theorem z265_len : z265.length = 21 := by simp [z265]
set_option maxRecDepth 1000000 in
theorem sty265 : StructTy Tryz.prog 171 21 z265 [(0, 20), (20, 1)] := ⟨⟨_, _, rfl, Tryz.underlying171, by kernel_rfl, by kernel_rfl⟩, z265_len⟩
theorem bl265 (ρ : Operand → Value) (dst : Option Tmp) (parts : List (Nat × Operand)) (t : TypeId) (pos : String) (after : Array Edge) (gd : Option (Nat × Bool)) (w : World) : (execOp ρ ⟨dst, .build 171 parts.toArray, t, pos, after, gd⟩).run Tryz.prog w = asNext (blRow Tryz.prog 171 (parts.map fun p => (p.1, ρ p.2)) w (fillL 21 [(0, 20), (20, 1)] z265 (parts.map fun p => (p.1, ρ p.2)))) := ex_build ρ dst t pos after gd w sty265 parts
attribute [go_sem ↓] bl265
attribute [go_sem] z265_len
def z283 : List Value := beC 20 0 ++ beC 32 0
theorem z283_len : z283.length = 52 := by simp [z283]
set_option maxRecDepth 1000000 in
theorem sty283 : StructTy Tryz.prog 164 52 z283 [(0, 20), (20, 32)] := ⟨⟨_, _, rfl, Tryz.underlying164, by kernel_rfl, by kernel_rfl⟩, z283_len⟩
theorem bl283 (ρ : Operand → Value) (dst : Option Tmp) (parts : List (Nat × Operand)) (t : TypeId) (pos : String) (after : Array Edge) (gd : Option (Nat × Bool)) (w : World) : (execOp ρ ⟨dst, .build 164 parts.toArray, t, pos, after, gd⟩).run Tryz.prog w = asNext (blRow Tryz.prog 164 (parts.map fun p => (p.1, ρ p.2)) w (fillL 52 [(0, 20), (20, 32)] z283 (parts.map fun p => (p.1, ρ p.2)))) := ex_build ρ dst t pos after gd w sty283 parts
attribute [go_sem ↓] bl283
attribute [go_sem] z283_len
def z285 : List Value := beC 20 0 ++ [.slice none 0 0]
theorem z285_len : z285.length = 21 := by simp [z285]
set_option maxRecDepth 1000000 in
theorem sty285 : StructTy Tryz.prog 347 21 z285 [(0, 20), (20, 1)] := ⟨⟨_, _, rfl, Tryz.underlying347, by kernel_rfl, by kernel_rfl⟩, z285_len⟩
theorem bl285 (ρ : Operand → Value) (dst : Option Tmp) (parts : List (Nat × Operand)) (t : TypeId) (pos : String) (after : Array Edge) (gd : Option (Nat × Bool)) (w : World) : (execOp ρ ⟨dst, .build 347 parts.toArray, t, pos, after, gd⟩).run Tryz.prog w = asNext (blRow Tryz.prog 347 (parts.map fun p => (p.1, ρ p.2)) w (fillL 21 [(0, 20), (20, 1)] z285 (parts.map fun p => (p.1, ρ p.2)))) := ex_build ρ dst t pos after gd w sty285 parts
attribute [go_sem ↓] bl285
attribute [go_sem] z285_len
def z259 : List Value := beC 20 0 ++ (beC 32 0 ++ beC 32 0)
theorem z259_len : z259.length = 84 := by simp [z259]
set_option maxRecDepth 1000000 in
theorem sty259 : StructTy Tryz.prog 320 84 z259 [(0, 20), (20, 32), (52, 32)] := ⟨⟨_, _, rfl, Tryz.underlying320, by kernel_rfl, by kernel_rfl⟩, z259_len⟩
theorem bl259 (ρ : Operand → Value) (dst : Option Tmp) (parts : List (Nat × Operand)) (t : TypeId) (pos : String) (after : Array Edge) (gd : Option (Nat × Bool)) (w : World) : (execOp ρ ⟨dst, .build 320 parts.toArray, t, pos, after, gd⟩).run Tryz.prog w = asNext (blRow Tryz.prog 320 (parts.map fun p => (p.1, ρ p.2)) w (fillL 84 [(0, 20), (20, 32), (52, 32)] z259 (parts.map fun p => (p.1, ρ p.2)))) := ex_build ρ dst t pos after gd w sty259 parts
attribute [go_sem ↓] bl259
attribute [go_sem] z259_len
def z263 : List Value := beC 20 0 ++ [.pointer none]
theorem z263_len : z263.length = 21 := by simp [z263]
set_option maxRecDepth 1000000 in
theorem sty263 : StructTy Tryz.prog 323 21 z263 [(0, 20), (20, 1)] := ⟨⟨_, _, rfl, Tryz.underlying323, by kernel_rfl, by kernel_rfl⟩, z263_len⟩
theorem bl263 (ρ : Operand → Value) (dst : Option Tmp) (parts : List (Nat × Operand)) (t : TypeId) (pos : String) (after : Array Edge) (gd : Option (Nat × Bool)) (w : World) : (execOp ρ ⟨dst, .build 323 parts.toArray, t, pos, after, gd⟩).run Tryz.prog w = asNext (blRow Tryz.prog 323 (parts.map fun p => (p.1, ρ p.2)) w (fillL 21 [(0, 20), (20, 1)] z263 (parts.map fun p => (p.1, ρ p.2)))) := ex_build ρ dst t pos after gd w sty263 parts
attribute [go_sem ↓] bl263
attribute [go_sem] z263_len
theorem lay_left (A A' B : List Value) (h : A'.length = A.length) : lay (A ++ B) 0 A' = A' ++ B := by
 rw [lay_eq _ _ _ (by simp; omega)]; simp [splice, h]
theorem lay_right (A B B' : List Value) (o : Nat) (ho : o = A.length) (h : B'.length = B.length) : lay (A ++ B) o B' = A ++ B' := by
 subst ho; rw [lay_eq _ _ _ (by simp; omega)]; simp [splice, h]
theorem lay2 (z A A' B B' : List Value) (o : Nat) (hz : z = A ++ B) (ha : A'.length = A.length) (ho : o = A.length) (hb : B'.length = B.length) : lay (lay z 0 A') o B' = A' ++ B' := by
 rw [hz, lay_left _ _ _ ha, lay_right _ _ _ _ (by omega) hb]
attribute [go_sem ↓] ld86 st86 s1_75 s1_76 s1_26 s1_4 s1_43
end Go.Proofs.YtiglinnjnobodaaGreat
