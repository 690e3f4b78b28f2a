/-
  The program's permutation: contracts of RotateLeft64, consts, turns, round, permute.
-/
import Derived.Test.YtfflppedbopdpaaGreatXTy
import Derived.Test.YtfflppedbopdpaaGreatXKecP
import Derived.Test.YtfflppedbopdpaaGreatXFrm
set_option linter.unusedVariables false
set_option linter.unusedSimpArgs false
namespace Go.Proofs.YtfflppedbopdpaaGreat
open Go.RowKit Go.Mun

def rcL : List Int := [1, 32898, 9223372036854808714, 9223372039002292224, 32907, 2147483649, 9223372039002292353, 9223372036854808585, 138, 136, 2147516425, 2147483658, 2147516555, 9223372036854775947, 9223372036854808713, 9223372036854808579, 9223372036854808578, 9223372036854775936, 32778, 9223372039002259466, 9223372039002292353, 9223372036854808704, 2147483649, 9223372039002292232]
def tL : List Int := [0, 1, 62, 28, 27, 36, 44, 6, 55, 20, 3, 10, 43, 25, 39, 41, 45, 15, 21, 8, 18, 2, 61, 56, 14]
def i64L (L : List Int) : List Value := L.map (Value.int .i64)
theorem bl176 (a : Act) (dst : Option Tmp) (t : TypeId) (pos : String) (after : Array Edge) (gd : Option (Nat × Bool)) (w : World) :
  (execOp a.eval ⟨dst, .build 182 #[(0, .const (.int .u64 1)), (1, .const (.int .u64 32898)), (2, .const (.int .u64 9223372036854808714)), (3, .const (.int .u64 9223372039002292224)), (4, .const (.int .u64 32907)), (5, .const (.int .u64 2147483649)), (6, .const (.int .u64 9223372039002292353)), (7, .const (.int .u64 9223372036854808585)), (8, .const (.int .u64 138)), (9, .const (.int .u64 136)), (10, .const (.int .u64 2147516425)), (11, .const (.int .u64 2147483658)), (12, .const (.int .u64 2147516555)), (13, .const (.int .u64 9223372036854775947)), (14, .const (.int .u64 9223372036854808713)), (15, .const (.int .u64 9223372036854808579)), (16, .const (.int .u64 9223372036854808578)), (17, .const (.int .u64 9223372036854775936)), (18, .const (.int .u64 32778)), (19, .const (.int .u64 9223372039002259466)), (20, .const (.int .u64 9223372039002292353)), (21, .const (.int .u64 9223372036854808704)), (22, .const (.int .u64 2147483649)), (23, .const (.int .u64 9223372039002292232))], t, pos, after, gd⟩).run Tryz.prog w = .ok (.value (.agg (l64 rcL).toArray)) w := by kernel_rfl
theorem bl174 (a : Act) (dst : Option Tmp) (t : TypeId) (pos : String) (after : Array Edge) (gd : Option (Nat × Bool)) (w : World) :
  (execOp a.eval ⟨dst, .build 180 #[(0, .const (.int .i64 0)), (1, .const (.int .i64 1)), (2, .const (.int .i64 62)), (3, .const (.int .i64 28)), (4, .const (.int .i64 27)), (5, .const (.int .i64 36)), (6, .const (.int .i64 44)), (7, .const (.int .i64 6)), (8, .const (.int .i64 55)), (9, .const (.int .i64 20)), (10, .const (.int .i64 3)), (11, .const (.int .i64 10)), (12, .const (.int .i64 43)), (13, .const (.int .i64 25)), (14, .const (.int .i64 39)), (15, .const (.int .i64 41)), (16, .const (.int .i64 45)), (17, .const (.int .i64 15)), (18, .const (.int .i64 21)), (19, .const (.int .i64 8)), (20, .const (.int .i64 18)), (21, .const (.int .i64 2)), (22, .const (.int .i64 61)), (23, .const (.int .i64 56)), (24, .const (.int .i64 14))], t, pos, after, gd⟩).run Tryz.prog w = .ok (.value (.agg (i64L tL).toArray)) w := by kernel_rfl
attribute [local go_sem ↓] bl176 bl174
theorem l64_set (L : List Int) (i : Nat) (x : Int) : (l64 L).set i (.int .u64 x) = l64 (L.set i x) := by simp [l64, List.map_set]

structure KR (w wr : World) (sb tb : Nat) (S C D : List Int) : Prop where
 only : Only (· = sb) w wr
 s : Arr wr sb 25 (l64 S)
 c : Arr wr w.heap.size 5 (l64 C)
 d : Arr wr (w.heap.size + 1) 5 (l64 D)
 t : Arr wr tb 25 (i64L tL)
 sl : sb < w.heap.size
 tl : tb < w.heap.size
 ne : sb ≠ tb

theorem KR.drew {w wr : World} {sb tb : Nat} {S C D : List Int} (h : KR w wr sb tb S C D) : KR w wr.drew sb tb S C D :=
 ⟨h.only.drew, h.s.drew, h.c.drew, h.d.drew, h.t.drew, h.sl, h.tl, h.ne⟩
theorem KR.setC {w wr : World} {sb tb : Nat} {S C D : List Int} (h : KR w wr sb tb S C D) {i : Nat} (hi : i < 5) (x : Int) {C' : List Int} (hC : C.set i x = C') :
  KR w (wr.setCell ⟨w.heap.size, i, none⟩ (.int .u64 x)) sb tb S C' D := by
 subst hC
 have := h.sl; have := h.tl
 refine ⟨h.only.setCell (by simp) _, h.s.setCell_other (by omega) _, by rw [← l64_set]; exact h.c.set hi _, h.d.setCell_other (by omega) _, h.t.setCell_other (by omega) _, h.sl, h.tl, h.ne⟩
theorem KR.size {w wr : World} {sb tb : Nat} {S C D : List Int} (h : KR w wr sb tb S C D) : w.heap.size + 1 < wr.heap.size := h.d.lt
structure KB (w wr : World) (sb tb bb : Nat) (S C D B : List Int) : Prop where
 kr : KR w wr sb tb S C D
 b : Arr wr bb 25 (l64 B)
 bl : w.heap.size + 2 ≤ bb
theorem KB.drew {w wr : World} {sb tb bb : Nat} {S C D B : List Int} (h : KB w wr sb tb bb S C D B) : KB w wr.drew sb tb bb S C D B := ⟨h.kr.drew, h.b.drew, h.bl⟩
theorem KB.setS {w wr : World} {sb tb bb : Nat} {S C D B : List Int} (h : KB w wr sb tb bb S C D B) {i : Nat} (hi : i < 25) (x : Int) {S' : List Int} (hS : S.set i x = S') :
  KB w (wr.setCell ⟨sb, i, none⟩ (.int .u64 x)) sb tb bb S' C D B := by
 subst hS
 have := h.kr.sl; have := h.kr.tl; have := h.kr.ne; have := h.bl
 refine ⟨⟨h.kr.only.setCell (by simp) _, by rw [← l64_set]; exact h.kr.s.set hi _, h.kr.c.setCell_other (by omega) _, h.kr.d.setCell_other (by omega) _, h.kr.t.setCell_other (by omega) _, h.kr.sl, h.kr.tl, h.kr.ne⟩, h.b.setCell_other (by omega) _, h.bl⟩
end Go.Proofs.YtfflppedbopdpaaGreat
