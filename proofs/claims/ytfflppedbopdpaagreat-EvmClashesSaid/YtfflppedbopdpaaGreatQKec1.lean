/-
  The program's permutation: contracts of RotateLeft64, consts, turns, round, permute.
-/
import Derived.Test.YtfflppedbopdpaaGreatQTy
import Derived.Test.YtfflppedbopdpaaGreatQKecP
import Derived.Test.YtfflppedbopdpaaGreatQFrm
set_option linter.unusedVariables false
set_option maxRecDepth 1000000
set_option maxHeartbeats 8000000
set_option linter.unusedSimpArgs false
namespace Go.Proofs.YtfflppedbopdpaaGreat
open Go.RowKit Go.Mun

theorem and63 (k : Nat) (h : k < 64) : bits .and .u64 (k : Int) 63 = k := by
 have : ∀ k : Fin 64, bits .and .u64 ((k : Nat) : Int) 63 = ((k : Nat) : Int) := by decide
 exact this ⟨k, h⟩
theorem rot64 (x : Int) (k : Nat) (hk : k < 64) (w : World) :
  Calls Tryz.prog 243 #[.int .u64 x, .int .i64 k] w fun e w' => e = .returned (.int .u64 (rotl x k)) ∧ w = w' := by
 have h1 := and63 k hk
 have h2 : IntKind.u64.wrap (k : Int) = k := by rw [IntKind.wrap_u64]; omega
 have h3 : IntKind.u64.wrap (64 - (k : Int)) = ((64 - k : Nat) : Int) := by rw [IntKind.wrap_u64]; omega
 have h4 : (k : Int) ≤ 63 := by omega
 go_enter Tryz.func243, Tryz.ntmps243
 go_wp2
 go_ret
 exact ⟨rfl, rfl⟩
def rcL : List Int := [1, 32898, 9223372036854808714, 9223372039002292224, 32907, 2147483649, 9223372039002292353, 9223372036854808585, 138, 136, 2147516425, 2147483658, 2147516555, 9223372036854775947, 9223372036854808713, 9223372036854808579, 9223372036854808578, 9223372036854775936, 32778, 9223372039002259466, 9223372039002292353, 9223372036854808704, 2147483649, 9223372039002292232]
def tL : List Int := [0, 1, 62, 28, 27, 36, 44, 6, 55, 20, 3, 10, 43, 25, 39, 41, 45, 15, 21, 8, 18, 2, 61, 56, 14]
def i64L (L : List Int) : List Value := L.map (Value.int .i64)
theorem rcL_len : rcL.length = 24 := rfl
theorem bl176 (a : Act) (dst : Option Tmp) (t : TypeId) (pos : String) (after : Array Edge) (gd : Option (Nat × Bool)) (w : World) :
  (execOp a.eval ⟨dst, .build 182 #[(0, .const (.int .u64 1)), (1, .const (.int .u64 32898)), (2, .const (.int .u64 9223372036854808714)), (3, .const (.int .u64 9223372039002292224)), (4, .const (.int .u64 32907)), (5, .const (.int .u64 2147483649)), (6, .const (.int .u64 9223372039002292353)), (7, .const (.int .u64 9223372036854808585)), (8, .const (.int .u64 138)), (9, .const (.int .u64 136)), (10, .const (.int .u64 2147516425)), (11, .const (.int .u64 2147483658)), (12, .const (.int .u64 2147516555)), (13, .const (.int .u64 9223372036854775947)), (14, .const (.int .u64 9223372036854808713)), (15, .const (.int .u64 9223372036854808579)), (16, .const (.int .u64 9223372036854808578)), (17, .const (.int .u64 9223372036854775936)), (18, .const (.int .u64 32778)), (19, .const (.int .u64 9223372039002259466)), (20, .const (.int .u64 9223372039002292353)), (21, .const (.int .u64 9223372036854808704)), (22, .const (.int .u64 2147483649)), (23, .const (.int .u64 9223372039002292232))], t, pos, after, gd⟩).run Tryz.prog w = .ok (.value (.agg (l64 rcL).toArray)) w := by kernel_rfl
theorem bl174 (a : Act) (dst : Option Tmp) (t : TypeId) (pos : String) (after : Array Edge) (gd : Option (Nat × Bool)) (w : World) :
  (execOp a.eval ⟨dst, .build 180 #[(0, .const (.int .i64 0)), (1, .const (.int .i64 1)), (2, .const (.int .i64 62)), (3, .const (.int .i64 28)), (4, .const (.int .i64 27)), (5, .const (.int .i64 36)), (6, .const (.int .i64 44)), (7, .const (.int .i64 6)), (8, .const (.int .i64 55)), (9, .const (.int .i64 20)), (10, .const (.int .i64 3)), (11, .const (.int .i64 10)), (12, .const (.int .i64 43)), (13, .const (.int .i64 25)), (14, .const (.int .i64 39)), (15, .const (.int .i64 41)), (16, .const (.int .i64 45)), (17, .const (.int .i64 15)), (18, .const (.int .i64 21)), (19, .const (.int .i64 8)), (20, .const (.int .i64 18)), (21, .const (.int .i64 2)), (22, .const (.int .i64 61)), (23, .const (.int .i64 56)), (24, .const (.int .i64 14))], t, pos, after, gd⟩).run Tryz.prog w = .ok (.value (.agg (i64L tL).toArray)) w := by kernel_rfl
attribute [local go_sem ↓] bl176 bl174
theorem kec_consts (w : World) : Calls Tryz.prog 165 #[] w fun e w' => e = .returned (.agg (l64 rcL).toArray) ∧ Below w.heap.size w w' := by
 have ok : okL 24 (l64 rcL) = true := rfl
 go_enter Tryz.func165, Tryz.ntmps165
 go_wp2
 refine ret_row ty176 rfl _ rfl rfl (by simp [go_sem]) ok ⟨rfl, ?_⟩
 exact ((Below.refl _ _).alloc (Nat.le_refl _) _).setCells (Nat.le_refl _) _ _
theorem kec_turns (w : World) : Calls Tryz.prog 164 #[] w fun e w' => e = .returned (.agg (i64L tL).toArray) ∧ Below w.heap.size w w' := by
 have ok : okL 25 (i64L tL) = true := rfl
 go_enter Tryz.func164, Tryz.ntmps164
 go_wp2
 refine ret_row ty174 rfl _ rfl rfl (by simp [go_sem]) ok ⟨rfl, ?_⟩
 exact ((Below.refl _ _).alloc (Nat.le_refl _) _).setCells (Nat.le_refl _) _ _

theorem l64_at {w : World} {b n : Nat} {L : List Int} (h : Arr w b n (l64 L)) {i : Nat} (hi : i < n) : w.cell? ⟨b, i, none⟩ = some (.int .u64 (at64 L i)) := by
 refine h.cell hi ?_
 have := h.len
 rw [l64_len] at this
 simp [l64, at64, List.getElem?_map, List.getElem?_eq_getElem (show i < L.length by omega)]
theorem l64_set (L : List Int) (i : Nat) (x : Int) : (l64 L).set i (.int .u64 x) = l64 (L.set i x) := by simp [l64, List.map_set]

structure KR (w wr : World) (sb tb : Nat) (S C D : List Int) : Prop where
 only : Only (· = sb) w wr
 s : Arr wr sb 25 (l64 S)
 c : Arr wr w.heap.size 5 (l64 C)
 d : Arr wr (w.heap.size + 1) 5 (l64 D)
 t : Arr wr tb 25 (i64L tL)
 sl : sb < w.heap.size
 tl : tb < w.heap.size
 ne : sb ≠ tb

theorem KR.drew {w wr : World} {sb tb : Nat} {S C D : List Int} (h : KR w wr sb tb S C D) : KR w wr.drew sb tb S C D :=
 ⟨h.only.drew, h.s.drew, h.c.drew, h.d.drew, h.t.drew, h.sl, h.tl, h.ne⟩
theorem KR.setC {w wr : World} {sb tb : Nat} {S C D : List Int} (h : KR w wr sb tb S C D) {i : Nat} (hi : i < 5) (x : Int) {C' : List Int} (hC : C.set i x = C') :
  KR w (wr.setCell ⟨w.heap.size, i, none⟩ (.int .u64 x)) sb tb S C' D := by
 subst hC
 have := h.sl; have := h.tl
 refine ⟨h.only.setCell (by simp) _, h.s.setCell_other (by omega) _, by rw [← l64_set]; exact h.c.set hi _, h.d.setCell_other (by omega) _, h.t.setCell_other (by omega) _, h.sl, h.tl, h.ne⟩
theorem KR.setD {w wr : World} {sb tb : Nat} {S C D : List Int} (h : KR w wr sb tb S C D) {i : Nat} (hi : i < 5) (x : Int) {D' : List Int} (hD : D.set i x = D') :
  KR w (wr.setCell ⟨w.heap.size + 1, i, none⟩ (.int .u64 x)) sb tb S C D' := by
 subst hD
 have := h.sl; have := h.tl
 refine ⟨h.only.setCell (by simp; omega) _, h.s.setCell_other (by omega) _, h.c.setCell_other (by omega) _, by rw [← l64_set]; exact h.d.set hi _, h.t.setCell_other (by omega) _, h.sl, h.tl, h.ne⟩
theorem KR.size {w wr : World} {sb tb : Nat} {S C D : List Int} (h : KR w wr sb tb S C D) : w.heap.size + 1 < wr.heap.size := h.d.lt
structure KB (w wr : World) (sb tb bb : Nat) (S C D B : List Int) : Prop where
 kr : KR w wr sb tb S C D
 b : Arr wr bb 25 (l64 B)
 bl : w.heap.size + 2 ≤ bb
theorem KB.drew {w wr : World} {sb tb bb : Nat} {S C D B : List Int} (h : KB w wr sb tb bb S C D B) : KB w wr.drew sb tb bb S C D B := ⟨h.kr.drew, h.b.drew, h.bl⟩
theorem KB.setB {w wr : World} {sb tb bb : Nat} {S C D B : List Int} (h : KB w wr sb tb bb S C D B) {i : Nat} (hi : i < 25) (x : Int) {B' : List Int} (hB : B.set i x = B') :
  KB w (wr.setCell ⟨bb, i, none⟩ (.int .u64 x)) sb tb bb S C D B' := by
 subst hB
 have := h.kr.sl; have := h.kr.tl; have := h.bl
 refine ⟨⟨h.kr.only.setCell (by simp; omega) _, h.kr.s.setCell_other (by omega) _, h.kr.c.setCell_other (by omega) _, h.kr.d.setCell_other (by omega) _, h.kr.t.setCell_other (by omega) _, h.kr.sl, h.kr.tl, h.kr.ne⟩, by rw [← l64_set]; exact h.b.set hi _, h.bl⟩
theorem KB.setS {w wr : World} {sb tb bb : Nat} {S C D B : List Int} (h : KB w wr sb tb bb S C D B) {i : Nat} (hi : i < 25) (x : Int) {S' : List Int} (hS : S.set i x = S') :
  KB w (wr.setCell ⟨sb, i, none⟩ (.int .u64 x)) sb tb bb S' C D B := by
 subst hS
 have := h.kr.sl; have := h.kr.tl; have := h.kr.ne; have := h.bl
 refine ⟨⟨h.kr.only.setCell (by simp) _, by rw [← l64_set]; exact h.kr.s.set hi _, h.kr.c.setCell_other (by omega) _, h.kr.d.setCell_other (by omega) _, h.kr.t.setCell_other (by omega) _, h.kr.sl, h.kr.tl, h.kr.ne⟩, h.b.setCell_other (by omega) _, h.bl⟩
theorem chiL_zero (b L : List Int) (h : L.length = 25) : chiL b L 0 = L := by
 apply List.ext_getElem (by simp [chiL, h])
 intro i h1 h2
 simp [chiL, at64, h2]
theorem chiL_set (b L : List Int) (k : Nat) (v : Int) (hv : v = chiAt b k) : (chiL b L k).set k v = chiL b L (k + 1) := by
 subst hv
 apply List.ext_getElem (by simp [chiL])
 intro j h1 h2
 simp only [chiL, List.getElem_set, List.getElem_map, List.getElem_range]
 by_cases h : k = j
 ·subst h; simp
 ·rw [if_neg h]
  by_cases h3 : j < k
  ·rw [if_pos h3, if_pos (by omega)]
  ·rw [if_neg h3, if_neg (by omega)]
theorem chiL_full (b L : List Int) : chiL b L 25 = (List.range 25).map (chiAt b) := by
 apply List.ext_getElem (by simp [chiL])
 intro j h1 h2
 simp [chiL] at h1 ⊢
 intro h; omega
theorem rot64' (x : Int) (k : Nat) (hk : k < 64) (w : World) : Calls Tryz.prog 243 #[.int .u64 x, .int .i64 k] w fun e w' => e = .returned (.int .u64 (rotl x k)) ∧ w' = w :=
 (rot64 x k hk w).mono fun _ _ h => ⟨h.1, h.2.symm⟩

theorem kec_round (sb tb : Nat) (L : List Int) (rc : Int) (w : World) (hs : Arr w sb 25 (l64 L)) (ht : Arr w tb 25 (i64L tL)) (hne : sb ≠ tb) :
  Calls Tryz.prog 166 #[.pointer (some ⟨sb, 0, none⟩), .pointer (some ⟨tb, 0, none⟩), .int .u64 rc] w fun e w' => e = .returned (.tuple #[]) ∧ Arr w' sb 25 (l64 (roundP L rc)) ∧ Only (· = sb) w w' := by
 have HS := Lib.hid hs
 have HT := Lib.hid ht
 have HN := Lib.hid hne
 have HL : Hid (L.length = 25) := by have := hs.len; rwa [l64_len] at this
 clear hs ht hne
 go_enter Tryz.func166, Tryz.ntmps166
 go_wp2_with fail
 go_loopw [17] (fun i wr => ∃ k : Nat, k ≤ 5 ∧ i = .int .i64 k ∧ KR w wr sb tb L (partL 5 (thC L) k) (List.replicate 5 0)) (fun i _ => 5 - (intOf i).toNat)
 case atStart =>
  refine ⟨0, by omega, rfl, ((Only.refl _ _).alloc _).alloc _, (HS.out.alloc _).alloc _, ?_, ?_, (HT.out.alloc _).alloc _, HS.out.lt, HT.out.lt, HN.out⟩
  ·rw [partL_zero, ← zU64_l64]; exact (Arr.new _ _ _ _ (by simp)).alloc _
  ·rw [← zU64_l64]; have := Arr.new (w.alloc (Obj.cells (zU64 5).toArray 187)) 5 (zU64 5) 187 (by simp); simpa using this
 case round =>
  obtain ⟨k, hk, rfl, hr⟩ := hrel
  by_cases hlt : k < 5
  ·have c0 := l64_at hr.s (show k < 25 by omega)
   have c1 := l64_at hr.s (show k + 5 < 25 by omega)
   have c2 := l64_at hr.s (show k + 10 < 25 by omega)
   have c3 := l64_at hr.s (show k + 15 < 25 by omega)
   have c4 := l64_at hr.s (show k + 20 < 25 by omega)
   have f0 : wr.drew.free? w.heap.size k 1 = true := hr.c.free1 hlt
   have b0 : (k : Int) < 25 := by omega
   have b5 : (k : Int) + 5 < 25 := by omega
   have p5 : 0 ≤ (k : Int) + 5 := by omega
   have w5 : IntKind.i64.wrap ((k : Int) + 5) = (k : Int) + 5 := wrI _ (by omega) (by omega)
   have n5 : ((k : Int) + 5).toNat = k + 5 := by omega
   have b10 : (k : Int) + 10 < 25 := by omega
   have p10 : 0 ≤ (k : Int) + 10 := by omega
   have w10 : IntKind.i64.wrap ((k : Int) + 10) = (k : Int) + 10 := wrI _ (by omega) (by omega)
   have n10 : ((k : Int) + 10).toNat = k + 10 := by omega
   have b15 : (k : Int) + 15 < 25 := by omega
   have p15 : 0 ≤ (k : Int) + 15 := by omega
   have w15 : IntKind.i64.wrap ((k : Int) + 15) = (k : Int) + 15 := wrI _ (by omega) (by omega)
   have n15 : ((k : Int) + 15).toNat = k + 15 := by omega
   have b20 : (k : Int) + 20 < 25 := by omega
   have p20 : 0 ≤ (k : Int) + 20 := by omega
   have w20 : IntKind.i64.wrap ((k : Int) + 20) = (k : Int) + 20 := wrI _ (by omega) (by omega)
   have n20 : ((k : Int) + 20).toNat = k + 20 := by omega
   have HR := Lib.hid hr.drew
   clear hr
   go_wp2_with fail
   go_still_tail 35, (by kernel_rfl)
   change wpList _ _ _ _ _ wr.drew
   generalize wr.drew = wd at *
   go_wp2
   go_roundw
   case rel => exact ⟨k + 1, by omega, by go_num, HR.out.setC hlt _ (partL_set _ _ _ _ rfl)⟩
   case measure => simp [intOf]; omega
  ·obtain rfl : k = 5 := by omega
   rw [show ((5 : Nat) : Int) = 5 from rfl]
   rw [partL_full] at hr
   have HR1 := Lib.hid hr
   clear hr hlt hk
   generalize hC : (List.range 5).map (thC L) = C at HR1
   have HC := Lib.hid hC
   clear hC
   go_wp2_with fail
   go_loopw [56] (fun i wr => ∃ k : Nat, k ≤ 5 ∧ i = .int .i64 k ∧ KR w wr sb tb L C (partL 5 (thD C) k)) (fun i _ => 5 - (intOf i).toNat)
   case atStart => exact ⟨0, by omega, rfl, by rw [partL_zero]; exact HR1.out⟩
   case round =>
    clear HR1
    obtain ⟨k, hk, rfl, hr⟩ := hrel
    by_cases hlt : k < 5
    ·obtain ⟨j4, e4⟩ : ∃ j, j = (k + 4) % 5 := ⟨_, rfl⟩
     obtain ⟨j1, e1⟩ : ∃ j, j = (k + 1) % 5 := ⟨_, rfl⟩
     have c4 := l64_at hr.c (show j4 < 5 by omega)
     have c1 := l64_at hr.c (show j1 < 5 by omega)
     have f0 : wr.drew.free? (w.heap.size + 1) k 1 = true := hr.d.free1 hlt
     have b0 : (k : Int) < 5 := by omega
     have w4 : IntKind.i64.wrap ((k : Int) + 4) = (k : Int) + 4 := wrI _ (by omega) (by omega)
     have w1 : IntKind.i64.wrap ((k : Int) + 1) = (k : Int) + 1 := wrI _ (by omega) (by omega)
     have m4 : ((k : Int) + 4).tmod 5 = (j4 : Int) := by rw [Int.tmod_eq_emod_of_nonneg (by omega)]; omega
     have m1 : ((k : Int) + 1).tmod 5 = (j1 : Int) := by rw [Int.tmod_eq_emod_of_nonneg (by omega)]; omega
     have b4 : (j4 : Int) < 5 := by omega
     have b1 : (j1 : Int) < 5 := by omega
     have HE := Lib.hid (And.intro e4 e1)
     clear e4 e1
     have HR := Lib.hid hr.drew
     clear hr
     go_wp2_with fail
     go_still_tail 14, (by kernel_rfl)
     still_call (rot64' _ 1 (by decide) _)
     repeat still_step
     refine wpStill_nil ?_
     change wpList _ _ _ _ _ wr.drew
     generalize wr.drew = wd at *
     go_wp2
     go_roundw
     case rel => exact ⟨k + 1, by omega, by go_num, HR.out.setD hlt _ (partL_set _ _ _ _ (by unfold thD; rw [← HE.out.1, ← HE.out.2]))⟩
     case measure => simp [intOf]; omega
    ·obtain rfl : k = 5 := by omega
     rw [show ((5 : Nat) : Int) = 5 from rfl]
     rw [partL_full] at hr
     have HR1 := Lib.hid hr
     clear hr hlt hk
     generalize hD : (List.range 5).map (thD C) = D at HR1
     have HD := Lib.hid hD
     clear hD
     go_wp2_with fail
     have HB0 : Hid (KB w (wr.alloc (.cells (zU64 25).toArray 114)) sb tb wr.heap.size L C D (List.replicate 25 0)) :=
      ⟨⟨HR1.out.only.alloc _, HR1.out.s.alloc _, HR1.out.c.alloc _, HR1.out.d.alloc _, HR1.out.t.alloc _, HR1.out.sl, HR1.out.tl, HR1.out.ne⟩, by rw [← zU64_l64]; exact Arr.new _ _ _ _ (by simp), HR1.out.size⟩
     generalize wr.heap.size = bb at *
     go_loopw [74] (fun i wr => ∃ k : Nat, k ≤ 25 ∧ i = .int .i64 k ∧ KB w wr sb tb bb L C D (rhoPi L D k)) (fun i _ => 25 - (intOf i).toNat)
     case atStart => exact ⟨0, by omega, rfl, HB0.out⟩
     case round =>
      clear HB0 HR1
      obtain ⟨k, hk, rfl, hr⟩ := hrel
      by_cases hlt : k < 25
      ·obtain ⟨x, ex⟩ : ∃ j, j = k % 5 := ⟨_, rfl⟩
       obtain ⟨y, ey⟩ : ∃ j, j = k / 5 := ⟨_, rfl⟩
       obtain ⟨z, ez⟩ : ∃ j, j = (2 * x + 3 * y) % 5 := ⟨_, rfl⟩
       obtain ⟨p, ep⟩ : ∃ j, j = y + 5 * z := ⟨_, rfl⟩
       obtain ⟨n, en⟩ : ∃ j, j = turnL.getD k 0 := ⟨_, rfl⟩
       have hn : n < 64 := by
        rw [en]
        have : ∀ k : Fin 25, turnL.getD k 0 < 64 := by decide
        exact this ⟨k, hlt⟩
       have c1 := l64_at hr.kr.s hlt
       have c2 := l64_at hr.kr.d (show x < 5 by omega)
       have c3 : wr.cell? ⟨tb, k, none⟩ = some (.int .i64 (n : Int)) := by
        refine hr.kr.t.cell hlt ?_
        rw [en]
        have : ∀ k : Fin 25, (i64L tL)[(k : Nat)]? = some (Value.int .i64 ((turnL.getD k 0 : Nat) : Int)) := by
         intro k
         match k with
         | ⟨k, hk⟩ => simp only [i64L, List.getElem?_map]; have : tL[k]? = some ((turnL.getD k 0 : Nat) : Int) := (by decide : ∀ k : Fin 25, tL[(k : Nat)]? = some ((turnL.getD k 0 : Nat) : Int)) ⟨k, hk⟩; rw [this]; rfl
        exact this ⟨k, hlt⟩
       have f0 : wr.drew.free? bb p 1 = true := hr.b.free1 (by omega)
       have b0 : (k : Int) < 25 := by omega
       have m1 : (k : Int).tmod 5 = (x : Int) := by rw [Int.tmod_eq_emod_of_nonneg (by omega)]; omega
       have m2 : (k : Int).tdiv 5 = (y : Int) := by rw [Int.tdiv_eq_ediv_of_nonneg (by omega)]; omega
       have m1' : (k : Int) % 5 = (x : Int) := by omega
       have m2' : (k : Int) / 5 = (y : Int) := by omega
       have w1 : IntKind.i64.wrap (2 * (x : Int)) = 2 * (x : Int) := wrI _ (by omega) (by omega)
       have w2 : IntKind.i64.wrap (3 * (y : Int)) = 3 * (y : Int) := wrI _ (by omega) (by omega)
       have w3 : IntKind.i64.wrap (2 * (x : Int) + 3 * (y : Int)) = 2 * (x : Int) + 3 * (y : Int) := wrI _ (by omega) (by omega)
       have w4 : (2 * (x : Int) + 3 * (y : Int)).tmod 5 = (z : Int) := by rw [Int.tmod_eq_emod_of_nonneg (by omega)]; omega
       have w5 : IntKind.i64.wrap (5 * (z : Int)) = 5 * (z : Int) := wrI _ (by omega) (by omega)
       have w6 : IntKind.i64.wrap ((y : Int) + 5 * (z : Int)) = (p : Int) := by rw [wrI _ (by omega) (by omega)]; omega
       have b1 : (x : Int) < 5 := by omega
       have b2 : (p : Int) < 25 := by omega
       have HE : Hid (p = k / 5 + 5 * ((2 * (k % 5) + 3 * (k / 5)) % 5) ∧ x = k % 5 ∧ n = turnL.getD k 0) := ⟨by subst ex ey ez; exact ep, ex, en⟩
       have hp : p < 25 := by omega
       clear ex ey ez ep en
       have HR := Lib.hid hr.drew
       clear hr
       go_wp2_with fail
       go_still_tail 25, (by kernel_rfl)
       still_call (rot64' _ n hn _)
       repeat still_step
       refine wpStill_nil ?_
       change wpList _ _ _ _ _ wr.drew
       generalize wr.drew = wd at *
       go_wp2
       go_roundw
       case rel => exact ⟨k + 1, by omega, by go_num, HR.out.setB hp _ (by show _ = (rhoPi L D k).set _ _; rw [← HE.out.1, ← HE.out.2.1, ← HE.out.2.2])⟩
       case measure => simp [intOf]; omega
      ·obtain rfl : k = 25 := by omega
       rw [show ((25 : Nat) : Int) = 25 from rfl]
       have HR1 := Lib.hid hr
       clear hr hlt hk
       generalize hB : rhoPi L D 25 = B at HR1
       have HB := Lib.hid hB
       clear hB
       go_wp2_with fail
       go_loopw [107] (fun i wr => ∃ k : Nat, k ≤ 25 ∧ i = .int .i64 k ∧ KB w wr sb tb bb (chiL B L k) C D B) (fun i _ => 25 - (intOf i).toNat)
       case atStart => exact ⟨0, by omega, rfl, by rw [chiL_zero _ _ HL.out]; exact HR1.out⟩
       case round =>
        clear HR1
        obtain ⟨k, hk, rfl, hr⟩ := hrel
        by_cases hlt : k < 25
        ·obtain ⟨x, ex⟩ : ∃ j, j = k % 5 := ⟨_, rfl⟩
         obtain ⟨y, ey⟩ : ∃ j, j = k / 5 := ⟨_, rfl⟩
         obtain ⟨y5, ey5⟩ : ∃ j, j = y * 5 := ⟨_, rfl⟩
         obtain ⟨z1, ez1⟩ : ∃ j, j = (x + 1) % 5 := ⟨_, rfl⟩
         obtain ⟨z2, ez2⟩ : ∃ j, j = (x + 2) % 5 := ⟨_, rfl⟩
         obtain ⟨p1, ep1⟩ : ∃ j, j = z1 + y5 := ⟨_, rfl⟩
         obtain ⟨p2, ep2⟩ : ∃ j, j = z2 + y5 := ⟨_, rfl⟩
         have c0 := l64_at hr.b hlt
         have c1 := l64_at hr.b (show p1 < 25 by omega)
         have c2 := l64_at hr.b (show p2 < 25 by omega)
         have f0 : wr.drew.free? sb k 1 = true := hr.kr.s.free1 hlt
         have b0 : (k : Int) < 25 := by omega
         have m1 : (k : Int).tmod 5 = (x : Int) := by rw [Int.tmod_eq_emod_of_nonneg (by omega)]; omega
         have m2 : (k : Int).tdiv 5 = (y : Int) := by rw [Int.tdiv_eq_ediv_of_nonneg (by omega)]; omega
         have m1' : (k : Int) % 5 = (x : Int) := by omega
         have m2' : (k : Int) / 5 = (y : Int) := by omega
         have w5 : IntKind.i64.wrap ((y : Int) * 5) = (y5 : Int) := by rw [wrI _ (by omega) (by omega)]; omega
         have w5' : (y : Int) * 5 = (y5 : Int) := by omega
         have w1 : IntKind.i64.wrap ((x : Int) + 1) = (x : Int) + 1 := wrI _ (by omega) (by omega)
         have w2 : IntKind.i64.wrap ((x : Int) + 2) = (x : Int) + 2 := wrI _ (by omega) (by omega)
         have w3 : ((x : Int) + 1).tmod 5 = (z1 : Int) := by rw [Int.tmod_eq_emod_of_nonneg (by omega)]; omega
         have w4 : ((x : Int) + 2).tmod 5 = (z2 : Int) := by rw [Int.tmod_eq_emod_of_nonneg (by omega)]; omega
         have w6 : IntKind.i64.wrap ((z1 : Int) + (y5 : Int)) = (p1 : Int) := by rw [wrI _ (by omega) (by omega)]; omega
         have w7 : IntKind.i64.wrap ((z2 : Int) + (y5 : Int)) = (p2 : Int) := by rw [wrI _ (by omega) (by omega)]; omega
         have b1 : (p1 : Int) < 25 := by omega
         have b2 : (p2 : Int) < 25 := by omega
         have HE : Hid (p1 = (k % 5 + 1) % 5 + k / 5 * 5 ∧ p2 = (k % 5 + 2) % 5 + k / 5 * 5) := ⟨by subst ex ey ey5 ez1 ez2; exact ep1, by subst ex ey ey5 ez1 ez2; exact ep2⟩
         clear ex ey ey5 ez1 ez2 ep1 ep2
         have HR := Lib.hid hr.drew
         clear hr
         go_wp2_with fail
         go_still_tail 24, (by kernel_rfl)
         change wpList _ _ _ _ _ wr.drew
         generalize wr.drew = wd at *
         go_wp2
         go_roundw
         case rel => exact ⟨k + 1, by omega, by go_num, HR.out.setS hlt _ (chiL_set _ _ _ _ (by unfold chiAt; rw [← HE.out.1, ← HE.out.2]; rfl))⟩
         case measure => simp [intOf]; omega
        ·obtain rfl : k = 25 := by omega
         have c0 := l64_at hr.kr.s (show 0 < 25 by decide)
         have f0 : wr.drew.free? sb 0 1 = true := hr.kr.s.free1 (by decide)
         have HR1 := Lib.hid hr
         clear hr hlt hk
         go_wp2_with fail
         have hd := HR1.out.drew
         clear HR1
         have HR1 := Lib.hid hd
         clear hd
         go_still_tail 8, (by kernel_rfl)
         change wpList _ _ _ _ _ wr.drew
         generalize wr.drew = wd at *
         go_wp2
         go_end0
         have hS := HR1.out.setS (show 0 < 25 by decide) (bits BinOp.xor IntKind.u64 (at64 (chiL B L 25) 0) rc) rfl
         refine ⟨rfl, ?_, hS.kr.only⟩
         have e : roundP L rc = (chiL B L 25).set 0 (bits BinOp.xor IntKind.u64 (at64 (chiL B L 25) 0) rc) := by
          rw [chiL_full]
          unfold roundP
          simp only [HC.out, HD.out, HB.out]
         rw [e]
         exact hS.kr.s
end Go.Proofs.YtfflppedbopdpaaGreat
