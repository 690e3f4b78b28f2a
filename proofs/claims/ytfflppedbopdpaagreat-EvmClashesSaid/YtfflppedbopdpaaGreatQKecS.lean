/-
  The reference's permutation: contracts of rol and round.
-/
import Derived.Test.YtfflppedbopdpaaGreatQKec1
import Derived.Test.YtfflppedbopdpaaGreatQKecP
set_option linter.unusedVariables false
set_option maxRecDepth 1000000
set_option maxHeartbeats 8000000
set_option linter.unusedSimpArgs false
namespace Go.Proofs.YtfflppedbopdpaaGreat
open Go.RowKit Go.Mun

theorem rol64 (x : Int) (k : Nat) (h0 : 0 < k) (hk : k < 64) (w : World) : Calls Tryz.prog 168 #[.int .u64 x, .int .u64 k] w fun e w' => e = .returned (.int .u64 (rotl x k)) ∧ w' = w := by
 have h3 : IntKind.u64.wrap (64 - (k : Int)) = ((64 - k : Nat) : Int) := by rw [IntKind.wrap_u64]; omega
 have h4 : (k : Int) ≤ 63 := by omega
 have h5 : ((k : Int) == 0) = false := by simp; omega
 have h6 : min k 64 = k := by omega
 have h7 : ¬ k = 0 := by omega
 have h8 : min (64 - k) 64 = 64 - k := by omega
 go_enter Tryz.func168, Tryz.ntmps168
 go_wp2
 go_ret
 exact ⟨rfl, rfl⟩

structure QR (w wr : World) (ab lb : Nat) (s : Nat) (A C : List Int) : Prop where
 only : Only (fun k => k = ab ∨ k = lb) w wr
 a : Arr wr ab 25 (l64 A)
 c : Arr wr w.heap.size 5 (l64 C)
 l : Arr wr lb 1 [.int .u8 s]
 al : ab < w.heap.size
 ll : lb < w.heap.size
 ne : ab ≠ lb
section
variable {w wr : World} {ab lb : Nat} {s : Nat} {A C : List Int}
theorem QR.drew (h : QR w wr ab lb s A C) : QR w wr.drew ab lb s A C := ⟨h.only.drew, h.a.drew, h.c.drew, h.l.drew, h.al, h.ll, h.ne⟩
theorem QR.drewN (h : QR w wr ab lb s A C) (n : Nat) : QR w (wr.drewN n) ab lb s A C := ⟨h.only.drewN n, h.a.drewN n, h.c.drewN n, h.l.drewN n, h.al, h.ll, h.ne⟩
theorem QR.alloc (h : QR w wr ab lb s A C) (o : Obj) : QR w (wr.alloc o) ab lb s A C := ⟨h.only.alloc o, h.a.alloc o, h.c.alloc o, h.l.alloc o, h.al, h.ll, h.ne⟩
theorem QR.setC (h : QR w wr ab lb s A C) {i : Nat} (hi : i < 5) (x : Int) {C' : List Int} (hC : C.set i x = C') : QR w (wr.setCell ⟨w.heap.size, i, none⟩ (.int .u64 x)) ab lb s A C' := by
 subst hC
 have := h.al; have := h.ll
 exact ⟨h.only.setCell (by simp) _, h.a.setCell_other (by omega) _, by rw [← l64_set]; exact h.c.set hi _, h.l.setCell_other (by omega) _, h.al, h.ll, h.ne⟩
theorem QR.setA (h : QR w wr ab lb s A C) {i : Nat} (hi : i < 25) (x : Int) {A' : List Int} (hA : A.set i x = A') : QR w (wr.setCell ⟨ab, i, none⟩ (.int .u64 x)) ab lb s A' C := by
 subst hA
 have := h.al; have := h.ll; have := h.ne
 exact ⟨h.only.setCell (by simp) _, by rw [← l64_set]; exact h.a.set hi _, h.c.setCell_other (by omega) _, h.l.setCell_other (by omega) _, h.al, h.ll, h.ne⟩
theorem QR.setL (h : QR w wr ab lb s A C) (s' : Nat) : QR w (wr.setCell ⟨lb, 0, none⟩ (.int .u8 s')) ab lb s' A C := by
 have := h.al; have := h.ll; have := h.ne
 exact ⟨h.only.setCell (by simp) _, h.a.setCell_other (by omega) _, h.c.setCell_other (by omega) _, h.l.set (by decide) _, h.al, h.ll, h.ne⟩
theorem QR.setO (h : QR w wr ab lb s A C) {b : Nat} (hb : w.heap.size < b) (i : Nat) (x : Value) : QR w (wr.setCell ⟨b, i, none⟩ x) ab lb s A C := by
 have := h.al; have := h.ll
 exact ⟨h.only.setCell (by simp; omega) _, h.a.setCell_other (by omega) _, h.c.setCell_other (by omega) _, h.l.setCell_other (by omega) _, h.al, h.ll, h.ne⟩
end

theorem ref_round (ab lb : Nat) (A : List Int) (s : Nat) (hs : s < 256) (w : World) (ha : Arr w ab 25 (l64 A)) (hl : Arr w lb 1 [.int .u8 s]) (hne : ab ≠ lb) :
  Calls Tryz.prog 58 #[.pointer (some ⟨ab, 0, none⟩), .pointer (some ⟨lb, 0, none⟩)] w fun e w' =>
   e = .returned (.tuple #[]) ∧ Arr w' ab 25 (l64 (roundR A s).1) ∧ Arr w' lb 1 [.int .u8 ((roundR A s).2 : Nat)] ∧ Only (fun k => k = ab ∨ k = lb) w w' := by
 have HA := Lib.hid ha
 have HLf := Lib.hid hl
 have HN := Lib.hid hne
 have HS := Lib.hid hs
 have HL : Hid (A.length = 25) := by have := ha.len; rwa [l64_len] at this
 clear ha hl hne hs
 go_enter Tryz.func58, Tryz.ntmps58
 go_wp2_with fail
 go_loopw [5] (fun i wr => ∃ k : Nat, k ≤ 5 ∧ i = .int .i64 k ∧ QR w wr ab lb s A (partL 5 (thC A) k)) (fun i _ => 5 - (intOf i).toNat)
 case atStart =>
  refine ⟨0, by omega, rfl, (Only.refl _ _).alloc _, HA.out.alloc _, ?_, HLf.out.alloc _, HA.out.lt, HLf.out.lt, HN.out⟩
  rw [partL_zero, ← zU64_l64]; exact Arr.new _ _ _ _ (by simp)
 case round =>
  obtain ⟨k, hk, rfl, hr⟩ := hrel
  by_cases hlt : k < 5
  ·have c0 := l64_at hr.a (show k < 25 by omega)
   have c1 := l64_at hr.a (show k + 5 < 25 by omega)
   have c2 := l64_at hr.a (show k + 10 < 25 by omega)
   have c3 := l64_at hr.a (show k + 15 < 25 by omega)
   have c4 := l64_at hr.a (show k + 20 < 25 by omega)
   have f0 : wr.drew.free? w.heap.size k 1 = true := hr.c.free1 hlt
   have b0 : (k : Int) < 25 := by omega
   have b5 : (k : Int) + 5 < 25 := by omega
   have p5 : 0 ≤ (k : Int) + 5 := by omega
   have w5 : IntKind.i64.wrap ((k : Int) + 5) = (k : Int) + 5 := wrI _ (by omega) (by omega)
   have n5 : ((k : Int) + 5).toNat = k + 5 := by omega
   have b10 : (k : Int) + 10 < 25 := by omega
   have p10 : 0 ≤ (k : Int) + 10 := by omega
   have w10 : IntKind.i64.wrap ((k : Int) + 10) = (k : Int) + 10 := wrI _ (by omega) (by omega)
   have n10 : ((k : Int) + 10).toNat = k + 10 := by omega
   have b15 : (k : Int) + 15 < 25 := by omega
   have p15 : 0 ≤ (k : Int) + 15 := by omega
   have w15 : IntKind.i64.wrap ((k : Int) + 15) = (k : Int) + 15 := wrI _ (by omega) (by omega)
   have n15 : ((k : Int) + 15).toNat = k + 15 := by omega
   have b20 : (k : Int) + 20 < 25 := by omega
   have p20 : 0 ≤ (k : Int) + 20 := by omega
   have w20 : IntKind.i64.wrap ((k : Int) + 20) = (k : Int) + 20 := wrI _ (by omega) (by omega)
   have n20 : ((k : Int) + 20).toNat = k + 20 := by omega
   have HR := Lib.hid hr.drew
   clear hr
   go_wp2_with fail
   go_still_tail 35, (by kernel_rfl)
   change wpList _ _ _ _ _ wr.drew
   generalize wr.drew = wd at *
   go_wp2
   go_roundw
   case rel => exact ⟨k + 1, by omega, by go_num, HR.out.setC hlt _ (partL_set _ _ _ _ rfl)⟩
   case measure => simp [intOf]; omega
  ·obtain rfl : k = 5 := by omega
   rw [show ((5 : Nat) : Int) = 5 from rfl]
   rw [partL_full] at hr
   have HR1 := Lib.hid hr
   clear hr hlt hk
   generalize hC : (List.range 5).map (thC A) = C at HR1
   have HC := Lib.hid hC
   clear hC
   go_wp2_with fail
   go_loopw [6] (fun i wr => ∃ k : Nat, k ≤ 5 ∧ i = .int .i64 k ∧ QR w wr ab lb s (thL A C k 0) C) (fun i _ => 5 - (intOf i).toNat)
   case atStart => exact ⟨0, by omega, rfl, by rw [thL_zero _ _ HL.out]; exact HR1.out⟩
   case round =>
    clear HR1
    obtain ⟨k, hk, rfl, hr⟩ := hrel
    by_cases hlt : k < 5
    ·obtain ⟨j4, e4⟩ : ∃ j, j = (k + 4) % 5 := ⟨_, rfl⟩
     obtain ⟨j1, e1⟩ : ∃ j, j = (k + 1) % 5 := ⟨_, rfl⟩
     have c4 := l64_at hr.c (show j4 < 5 by omega)
     have c1 := l64_at hr.c (show j1 < 5 by omega)
     have b0 : (k : Int) < 5 := by omega
     have w4 : IntKind.i64.wrap ((k : Int) + 4) = (k : Int) + 4 := wrI _ (by omega) (by omega)
     have w1 : IntKind.i64.wrap ((k : Int) + 1) = (k : Int) + 1 := wrI _ (by omega) (by omega)
     have m4 : ((k : Int) + 4).tmod 5 = (j4 : Int) := by rw [Int.tmod_eq_emod_of_nonneg (by omega)]; omega
     have m1 : ((k : Int) + 1).tmod 5 = (j1 : Int) := by rw [Int.tmod_eq_emod_of_nonneg (by omega)]; omega
     have b4 : (j4 : Int) < 5 := by omega
     have b1 : (j1 : Int) < 5 := by omega
     have HD : Hid (bits .xor .u64 (at64 C j4) (rotl (at64 C j1) 1) = thD C k) := by unfold Hid thD; rw [← e4, ← e1]
     clear e4 e1
     have HR := Lib.hid hr
     clear hr
     go_wp2_with fail
     go_quiet ((exact Calls.quiet_of_same (rol64 _ 1 (by decide) (by decide) _)))
     rw [HD.out]
     obtain ⟨d, ed⟩ : ∃ d, d = thD C k := ⟨_, rfl⟩
     rw [← ed]
     have HD2 := Lib.hid ed
     clear ed HD
     have hr2 := HR.out.drewN nq
     clear HR
     have HR := Lib.hid hr2
     clear hr2 c4 c1
     generalize wr.drewN nq = wq at *
     go_wp2_with fail
     go_loopw [8] (fun i wr => ∃ j : Nat, j ≤ 5 ∧ i = .int .i64 (5 * (j : Int)) ∧ QR w wr ab lb s (thL A C k j) C) (fun i _ => 25 - (intOf i).toNat)
     case atStart => exact ⟨0, by omega, rfl, HR.out⟩
     case round =>
      clear HR
      obtain ⟨j, hj, rfl, hr⟩ := hrel
      by_cases hlj : j < 5
      ·obtain ⟨p, ep⟩ : ∃ p, p = k + 5 * j := ⟨_, rfl⟩
       have hp : p < 25 := by omega
       have c0 := l64_at hr.a hp
       have f0 : wr.drew.free? ab p 1 = true := hr.a.free1 hp
       have b0 : (p : Int) < 25 := by omega
       have b1 : 5 * (j : Int) < 25 := by omega
       have w1 : IntKind.i64.wrap ((k : Int) + 5 * (j : Int)) = (p : Int) := by rw [wrI _ (by omega) (by omega)]; omega
       have HV : Hid (at64 (thL A C k j) p = at64 A p) := by rw [ep]; exact thL_at A C k j hlt hlj
       rw [HV.out] at c0
       have HP := Lib.hid ep
       have HR := Lib.hid hr.drew
       clear hr ep
       go_wp2_with fail
       go_still_tail 15, (by kernel_rfl)
       change wpList _ _ _ _ _ wr.drew
       generalize wr.drew = wd at *
       go_wp2
       go_roundw
       case rel =>
        refine ⟨j + 1, by omega, by go_num, HR.out.setA hp _ ?_⟩
        rw [HP.out, HD2.out]; exact thL_set A C k j hlt hlj
       case measure => simp [intOf]; omega
      ·obtain rfl : j = 5 := by omega
       rw [thL_next] at hr
       have HR := Lib.hid hr
       clear hr
       go_wp2
       go_roundw
       case rel => exact ⟨k + 1, by omega, by go_num, HR.out⟩
       case measure => simp [intOf]; omega
    ·obtain rfl : k = 5 := by omega
     rw [show ((5 : Nat) : Int) = 5 from rfl]
     obtain ⟨T, eT⟩ : ∃ T, T = thL A C 5 0 := ⟨_, rfl⟩
     rw [← eT] at hr
     have HT := Lib.hid eT
     have hT25 : Hid (T.length = 25) := by rw [eT]; simp [Hid, thL]
     have c1 := l64_at hr.a (show 1 < 25 by decide)
     have HR1 := Lib.hid hr
     clear hr hlt hk eT
     go_wp2_with fail
     go_loopw [9, 10, 11, 12] (fun x y c i wr => ∃ t : Nat, t ≤ 24 ∧ i = .int .i64 t ∧ x = .int .i64 ((rp T t).x : Nat) ∧ y = .int .i64 ((rp T t).y : Nat) ∧ c = .int .u64 (rp T t).cur ∧ QR w wr ab lb s (rp T t).A C) (fun _ _ _ i _ => 24 - (intOf i).toNat)
     case atStart => exact ⟨0, by omega, rfl, rfl, rfl, rfl, HR1.out⟩
     case round =>
      clear HR1 c1
      obtain ⟨t, ht, rfl, rfl, rfl, rfl, hr⟩ := hrel
      by_cases hlt : t < 24
      ·have hxy := rp_lt T t
       have HX : Hid (rp T (t + 1) = rpStep t (rp T t)) := rfl
       generalize rp T t = R at hr hxy HX ⊢
       obtain ⟨RA, x, y, cur⟩ := R
       obtain ⟨z, ez⟩ : ∃ z, z = (2 * x + 3 * y) % 5 := ⟨_, rfl⟩
       obtain ⟨p, ep⟩ : ∃ p, p = y + 5 * z := ⟨_, rfl⟩
       obtain ⟨n, en⟩ : ∃ n, n = (t + 1) * (t + 2) / 2 % 64 := ⟨_, rfl⟩
       simp only at hxy hr ⊢
       have hp : p < 25 := by omega
       have hn : 0 < n ∧ n < 64 := by
        have : ∀ t : Fin 24, 0 < (t.val + 1) * (t.val + 2) / 2 % 64 ∧ (t.val + 1) * (t.val + 2) / 2 % 64 < 64 := by decide
        rw [en]; exact this ⟨t, hlt⟩
       have c0 := l64_at hr.a hp
       have f0 : wr.drew.free? ab p 1 = true := hr.a.free1 hp
       have b0 : (p : Int) < 25 := by omega
       have b1 : (t : Int) < 24 := by omega
       have w1 : IntKind.i64.wrap (2 * (x : Int)) = 2 * (x : Int) := wrI _ (by omega) (by omega)
       have w2 : IntKind.i64.wrap (3 * (y : Int)) = 3 * (y : Int) := wrI _ (by omega) (by omega)
       have w3 : IntKind.i64.wrap (2 * (x : Int) + 3 * (y : Int)) = 2 * (x : Int) + 3 * (y : Int) := wrI _ (by omega) (by omega)
       have w4 : (2 * (x : Int) + 3 * (y : Int)).tmod 5 = (z : Int) := by rw [Int.tmod_eq_emod_of_nonneg (by omega)]; omega
       have w4' : (2 * (x : Int) + 3 * (y : Int)) % 5 = (z : Int) := by omega
       have w5 : IntKind.i64.wrap (5 * (z : Int)) = 5 * (z : Int) := wrI _ (by omega) (by omega)
       have w6 : IntKind.i64.wrap ((y : Int) + 5 * (z : Int)) = (p : Int) := by rw [wrI _ (by omega) (by omega)]; omega
       have w6' : (y : Int) + 5 * (z : Int) = (p : Int) := by omega
       have w7 : IntKind.i64.wrap ((t : Int) + 1) = (t : Int) + 1 := wrI _ (by omega) (by omega)
       have w8 : IntKind.i64.wrap ((t : Int) + 2) = (t : Int) + 2 := wrI _ (by omega) (by omega)
       have hq : ((t : Int) + 1) * ((t : Int) + 2) ≤ 25 * 26 := Int.mul_le_mul (by omega) (by omega) (by omega) (by omega)
       have hq0 : 0 ≤ ((t : Int) + 1) * ((t : Int) + 2) := Int.mul_nonneg (by omega) (by omega)
       have w9 : IntKind.i64.wrap (((t : Int) + 1) * ((t : Int) + 2)) = ((t : Int) + 1) * ((t : Int) + 2) := wrI _ (by omega) (by omega)
       have wA : (((t : Int) + 1) * ((t : Int) + 2)).tdiv 2 = ((t : Int) + 1) * ((t : Int) + 2) / 2 := Int.tdiv_eq_ediv_of_nonneg hq0
       have wB : IntKind.i64.wrap (((t : Int) + 1) * ((t : Int) + 2) / 2) = ((t : Int) + 1) * ((t : Int) + 2) / 2 := wrI _ (by omega) (by omega)
       have wC : (((t : Int) + 1) * ((t : Int) + 2) / 2).tmod 64 = (n : Int) := by
        rw [Int.tmod_eq_emod_of_nonneg (by omega), en]; simp
       have wP : IntKind.i64.wrap (p : Int) = (p : Int) := wrI _ (by omega) (by omega)
       have wD : IntKind.u64.wrap (n : Int) = (n : Int) := wrU _ (by omega) (by omega)
       have HE : Hid (rp T (t + 1) = ⟨RA.set p (rotl cur n), y, z, at64 RA p⟩) := by unfold Hid; rw [HX.out, rpStep, ← ez, ← ep, ← en]
       have HR := Lib.hid hr.drew
       clear hr ez ep en HX hq hq0
       go_wp2_with fail
       go_still_tail 17, (by kernel_rfl)
       still_call (rol64 _ n hn.1 hn.2 _)
       repeat still_step
       refine wpStill_nil ?_
       change wpList _ _ _ _ _ wr.drew
       generalize wr.drew = wd at *
       go_wp2
       go_roundw
       case rel => exact ⟨t + 1, by omega, by go_num, by rw [HE.out], by rw [HE.out], by rw [HE.out], by rw [HE.out]; exact HR.out.setA hp _ rfl⟩
       case measure => simp [intOf]; omega
      ·obtain rfl : t = 24 := by omega
       rw [show ((24 : Nat) : Int) = 24 from rfl]
       have hB25 : Hid ((rp T 24).A.length = 25) := rp_len T hT25.out 24
       have HB : Hid ((rp T 24).A = (rp (thL A C 5 0) 24).A) := by unfold Hid; rw [HT.out]
       generalize rp T 24 = R at hr hB25 HB ⊢
       obtain ⟨B, rx, ry, rc⟩ := R
       simp only at hr hB25 HB ⊢
       have HR1 := Lib.hid hr
       clear hr hlt ht
       go_wp2_with fail
       go_loopw [16] (fun i wr => ∃ yy : Nat, yy ≤ 5 ∧ i = .int .i64 (5 * (yy : Int)) ∧ QR w wr ab lb s (chiR B (5 * yy)) C) (fun i _ => 25 - (intOf i).toNat)
       case atStart => exact ⟨0, by omega, rfl, by rw [Nat.mul_zero, chiR_zero _ hB25.out]; exact HR1.out⟩
       case round =>
        clear HR1
        obtain ⟨yy, hyy, rfl, hr⟩ := hrel
        by_cases hlt : yy < 5
        ·obtain ⟨y5, e5⟩ : ∃ y5, y5 = 5 * yy := ⟨_, rfl⟩
         have b5 : 5 * (yy : Int) = (y5 : Int) := by omega
         have b5' : (y5 : Int) < 25 := by omega
         have hy5 : y5 ≤ 20 := by omega
         rw [b5]
         rw [← e5] at hr
         have H5 := Lib.hid (And.intro e5 b5)
         clear b5 e5
         have hrb : w.heap.size < wr.heap.size := hr.c.lt
         have HR1 := Lib.hid (hr.alloc (.cells (zU64 5).toArray 187))
         have hR0 : Arr (wr.alloc (.cells (zU64 5).toArray 187)) wr.heap.size 5 (l64 (List.replicate 5 0)) := by rw [← zU64_l64]; exact Arr.new _ _ _ _ (by simp)
         have HR0 := Lib.hid hR0
         clear hR0 hr
         go_wp2_with fail
         generalize wr.heap.size = rb at *
         go_loopw [18] (fun i wr => ∃ x : Nat, x ≤ 5 ∧ i = .int .i64 x ∧ QR w wr ab lb s (chiR B y5) C ∧ Arr wr rb 5 (l64 (partL 5 (fun x => at64 B (x + y5)) x))) (fun i _ => 5 - (intOf i).toNat)
         case atStart => exact ⟨0, by omega, rfl, HR1.out, by rw [partL_zero]; exact HR0.out⟩
         case round =>
          clear HR1 HR0
          obtain ⟨x, hx, rfl, hr, hq⟩ := hrel
          by_cases hlx : x < 5
          ·obtain ⟨p, ep⟩ : ∃ p, p = x + y5 := ⟨_, rfl⟩
           have hp : p < 25 := by omega
           have c0 := l64_at hr.a hp
           rw [chiR_at B y5 p (by omega) hp] at c0
           have f0 := hq.free1 hlx
           have b0 : (p : Int) < 25 := by omega
           have b1 : (x : Int) < 5 := by omega
           have w1 : IntKind.i64.wrap ((x : Int) + (y5 : Int)) = (p : Int) := by rw [wrI _ (by omega) (by omega)]; omega
           have w1' : (x : Int) + (y5 : Int) = (p : Int) := by omega
           have HP := Lib.hid ep
           have HR := Lib.hid hr
           have HQ := Lib.hid hq
           clear hr hq ep
           go_wp2_with fail
           go_roundw
           case rel =>
            refine ⟨x + 1, by omega, by go_num, HR.out.setO hrb _ _, ?_⟩
            rw [← partL_set 5 (fun x => at64 B (x + y5)) x _ rfl, ← l64_set, ← HP.out]
            exact HQ.out.set hlx _
           case measure => simp [intOf]; omega
          ·obtain rfl : x = 5 := by omega
           rw [show ((5 : Nat) : Int) = 5 from rfl]
           have HR1 := Lib.hid hr
           have HQ1 := Lib.hid hq
           clear hr hq hlx hx
           go_wp2_with fail
           go_loopw [19] (fun i wr => ∃ x : Nat, x ≤ 5 ∧ i = .int .i64 x ∧ QR w wr ab lb s (chiR B (x + y5)) C ∧ Arr wr rb 5 (l64 (partL 5 (fun x => at64 B (x + y5)) 5))) (fun i _ => 5 - (intOf i).toNat)
           case atStart => exact ⟨0, by omega, rfl, by rw [Nat.zero_add]; exact HR1.out, HQ1.out⟩
           case round =>
            clear HR1 HQ1
            obtain ⟨x, hx, rfl, hr, hq⟩ := hrel
            by_cases hlx : x < 5
            ·obtain ⟨p, ep⟩ : ∃ p, p = x + y5 := ⟨_, rfl⟩
             obtain ⟨z1, ez1⟩ : ∃ j, j = (x + 1) % 5 := ⟨_, rfl⟩
             obtain ⟨z2, ez2⟩ : ∃ j, j = (x + 2) % 5 := ⟨_, rfl⟩
             have hp : p < 25 := by omega
             have c0 := l64_at hq hlx
             have c1 := l64_at hq (show z1 < 5 by omega)
             have c2 := l64_at hq (show z2 < 5 by omega)
             rw [partL_at _ _ _ _ hlx hlx] at c0
             rw [partL_at _ _ _ _ (show z1 < 5 by omega) (by omega)] at c1
             rw [partL_at _ _ _ _ (show z2 < 5 by omega) (by omega)] at c2
             have f0 : wr.drew.free? ab p 1 = true := hr.a.free1 hp
             have b0 : (p : Int) < 25 := by omega
             have b1 : (x : Int) < 5 := by omega
             have b2 : (z1 : Int) < 5 := by omega
             have b3 : (z2 : Int) < 5 := by omega
             have w1 : IntKind.i64.wrap ((x : Int) + (y5 : Int)) = (p : Int) := by rw [wrI _ (by omega) (by omega)]; omega
             have w2 : IntKind.i64.wrap ((x : Int) + 1) = (x : Int) + 1 := wrI _ (by omega) (by omega)
             have w3 : IntKind.i64.wrap ((x : Int) + 2) = (x : Int) + 2 := wrI _ (by omega) (by omega)
             have w4 : ((x : Int) + 1).tmod 5 = (z1 : Int) := by rw [Int.tmod_eq_emod_of_nonneg (by omega)]; omega
             have w5 : ((x : Int) + 2).tmod 5 = (z2 : Int) := by rw [Int.tmod_eq_emod_of_nonneg (by omega)]; omega
             have HV : Hid (bits .xor .u64 (at64 B (x + y5)) (bits .and .u64 (bits .xor .u64 18446744073709551615 (at64 B (z1 + y5))) (at64 B (z2 + y5))) = chiAt B (x + y5)) := by
              unfold Hid
              rw [ez1, ez2, H5.out.1, chiAt_row B x yy hlx]
             have HP := Lib.hid ep
             have HR := Lib.hid hr.drew
             have HQ := Lib.hid hq.drew
             clear hr hq ep ez1 ez2
             go_wp2_with fail
             go_still_tail 22, (by kernel_rfl)
             change wpList _ _ _ _ _ wr.drew
             generalize wr.drew = wd at *
             go_wp2
             go_roundw
             case rel =>
              refine ⟨x + 1, by omega, by go_num, HR.out.setA hp _ ?_, HQ.out.setCell_other ?_ _⟩
              ·rw [HP.out, show x + 1 + y5 = x + y5 + 1 by omega]
               exact chiR_set B _ _ HV.out
              ·have := HR.out.al; omega
             case measure => simp [intOf]; omega
            ·obtain rfl : x = 5 := by omega
             have HR := Lib.hid hr
             clear hr hq
             have w1 : IntKind.i64.wrap ((y5 : Int) + 5) = (y5 : Int) + 5 := wrI _ (by omega) (by omega)
             go_wp2
             go_roundw
             case rel =>
              refine ⟨yy + 1, by omega, ?_, ?_⟩
              ·have := H5.out.2; rw [← this]; go_num
              ·rw [show 5 * (yy + 1) = 5 + y5 by have := H5.out.1; omega]; exact HR.out
             case measure => simp [intOf]; omega
        ·obtain rfl : yy = 5 := by omega
         rw [show 5 * ((5 : Nat) : Int) = 25 from rfl]
         obtain ⟨X, eX⟩ : ∃ X, X = chiR B (5 * 5) := ⟨_, rfl⟩
         have hX25 : X.length = 25 := by rw [eX, chiR_len]
         obtain ⟨v, ev⟩ : ∃ v, v = at64 X 0 := ⟨_, rfl⟩
         rw [← eX] at hr
         have HX := Lib.hid (And.intro eX (And.intro ev hX25))
         have hr0 : QR w wr ab lb (iotaR v s 0).2 (X.set 0 (iotaR v s 0).1) C := by
          have e : X.set 0 v = X := by
           apply List.ext_getElem (by simp)
           intro i h1 h2
           rw [List.getElem_set]
           split
           ·rename_i h; subst h; rw [ev]; simp [at64, h2]
           ·rfl
          show QR w wr ab lb s (X.set 0 v) C
          rw [e]; exact hr
         have HR1 := Lib.hid hr0
         clear hr hr0 eX ev hX25 hlt hyy
         go_wp2_with fail
         go_loopw [20] (fun i wr => ∃ j : Nat, j ≤ 7 ∧ i = .int .i64 j ∧ QR w wr ab lb (iotaR v s j).2 (X.set 0 (iotaR v s j).1) C) (fun i _ => 7 - (intOf i).toNat)
         case atStart => exact ⟨0, by omega, rfl, HR1.out⟩
         case round =>
          clear HR1
          obtain ⟨j, hj, rfl, hr⟩ := hrel
          by_cases hlt : j < 7
          ·have hs256 := iotaR_lt v s j HS.out
           have HI : Hid (iotaR v s (j + 1) = (if (iotaR v s j).2 % 2 = 1 then bits .xor .u64 (iotaR v s j).1 (2 ^ (2 ^ j - 1) : Nat) else (iotaR v s j).1, nextS (iotaR v s j).2)) := rfl
           generalize iotaR v s j = V at hr hs256 HI
           obtain ⟨u, r⟩ := V
           simp only at hr hs256
           obtain ⟨q1, eq1⟩ : ∃ q, q = 2 ^ j - 1 := ⟨_, rfl⟩
           have hq1 : q1 < 64 ∧ 2 ^ j = q1 + 1 := by
            have : ∀ j : Fin 7, 2 ^ j.val - 1 < 64 ∧ 0 < 2 ^ j.val := by decide
            have h1 := this ⟨j, hlt⟩
            simp only at h1
            omega
           obtain ⟨Z, eZ⟩ : ∃ Z, Z = 2 ^ q1 := ⟨_, rfl⟩
           have hZ : Z < 18446744073709551616 := by
            rw [eZ]
            exact Nat.lt_of_lt_of_le (Nat.pow_lt_pow_right (by decide) hq1.1) (by decide)
           rw [← eq1, ← eZ] at HI
           have b0 : (j : Int) < 7 := by omega
           have g0 : IntKind.u64.wrap (j : Int) = (j : Int) := wrU _ (by omega) (by omega)
           have g1 : min j 64 = j := by omega
           have g2 : IntKind.u64.wrap ((2 : Int) ^ j) = (q1 : Int) + 1 := by
            have : ((2 : Int) ^ j) = ((2 ^ j : Nat) : Int) := by simp
            rw [this, hq1.2, wrU _ (by omega) (by omega)]; omega
           have g3 : IntKind.u64.wrap ((q1 : Int) + 1 - 1) = (q1 : Int) := by rw [wrU _ (by omega) (by omega)]; omega
           have g3' : IntKind.u64.wrap (q1 : Int) = (q1 : Int) := by rw [wrU _ (by omega) (by omega)]
           have g4 : min q1 64 = q1 := by omega
           have g5 : IntKind.u64.wrap ((2 : Int) ^ q1) = (Z : Int) := by
            have : ((2 : Int) ^ q1) = ((2 ^ q1 : Nat) : Int) := by simp
            rw [this, ← eZ, wrU _ (by omega) (by omega)]
           have k1 := u8_bit0 r hs256
           have k7 := u8_bit7 r hs256
           obtain ⟨m, em⟩ : ∃ m, m = 2 * r % 256 := ⟨_, rfl⟩
           have k2 : IntKind.u8.wrap ((r : Int) * 2) = (m : Int) := by rw [IntKind.wrap_u8]; omega
           have kx := u8_x113 m (by omega)
           have cl : wr.cell? ⟨lb, 0, none⟩ = some (.int .u8 (r : Int)) := hr.l.cell (by decide) rfl
           have fl : wr.free? lb 0 1 = true := hr.l.free1 (by decide)
           have hQ1 := hr.setL m
           have cl1 : (wr.setCell ⟨lb, 0, none⟩ (.int .u8 (m : Int))).cell? ⟨lb, 0, none⟩ = some (.int .u8 (m : Int)) := hQ1.l.cell (by decide) rfl
           have fl1 : (wr.setCell ⟨lb, 0, none⟩ (.int .u8 (m : Int))).free? lb 0 1 = true := hQ1.l.free1 (by decide)
           have c1 := l64_at hQ1.a (show 0 < 25 by decide)
           have hQ2 := hQ1.setL (m ^^^ 113)
           have c2 := l64_at hQ2.a (show 0 < 25 by decide)
           have ex : at64 (X.set 0 u) 0 = u := by simp [at64, HX.out.2.2]
           rw [ex] at c1 c2
           have HQ1 := Lib.hid hQ1
           have HQ2 := Lib.hid hQ2
           have f1 : (wr.setCell ⟨lb, 0, none⟩ (.int .u8 (m : Int))).free? ab 0 1 = true := hQ1.a.free1 (by decide)
           have f2 : ((wr.setCell ⟨lb, 0, none⟩ (.int .u8 (m : Int))).setCell ⟨lb, 0, none⟩ (.int .u8 ((m ^^^ 113 : Nat) : Int))).free? ab 0 1 = true := hQ2.a.free1 (by decide)
           have HM := Lib.hid em
           clear hr hQ1 hQ2 eq1 eZ em hq1 ex
           by_cases h128 : 128 ≤ r
           ·rw [if_pos h128] at k7
            have H128 := Lib.hid h128
            have HNx : Hid (nextS r = m ^^^ 113) := by unfold Hid nextS; rw [HM.out]; rw [if_pos h128]
            clear h128
            by_cases hon : r % 2 = 1
            ·have e1 : (((r % 2 : Nat) : Int) == 1) = true := by simp; omega
             have HI2 : Hid (iotaR v s (j + 1) = (bits .xor .u64 u (Z : Int), m ^^^ 113)) := by unfold Hid; rw [HI.out]; simp only; rw [if_pos hon, HNx.out]
             generalize ((r % 2 : Nat) : Int) = r2 at *
             have HON := Lib.hid hon
             clear hon
             go_wp2_with fail
             generalize ((wr.setCell ⟨lb, 0, none⟩ (.int .u8 (m : Int))).setCell ⟨lb, 0, none⟩ (.int .u8 ((m ^^^ 113 : Nat) : Int))) = W at *
             have HQ := Lib.hid HQ2.out.drew
             have f3 : W.drew.free? ab 0 1 = true := f2
             go_still_tail 13, (by kernel_rfl)
             change wpList _ _ _ _ _ W.drew
             generalize W.drew = wd at *
             go_wp2
             go_roundw
             case rel => exact ⟨j + 1, by omega, by go_num, by rw [HI2.out]; exact HQ.out.setA (by decide) _ (by rw [List.set_set])⟩
             case measure => simp [intOf]; omega
            ·have e1 : (((r % 2 : Nat) : Int) == 1) = false := by simp; omega
             have HI2 : Hid (iotaR v s (j + 1) = (u, m ^^^ 113)) := by unfold Hid; rw [HI.out]; simp only; rw [if_neg hon, HNx.out]
             generalize ((r % 2 : Nat) : Int) = r2 at *
             have HON := Lib.hid hon
             clear hon
             go_wp2
             go_roundw
             case rel => exact ⟨j + 1, by omega, by go_num, by rw [HI2.out]; exact HQ2.out⟩
             case measure => simp [intOf]; omega
           ·rw [if_neg h128] at k7
            have H128 := Lib.hid h128
            have HNx : Hid (nextS r = m) := by unfold Hid nextS; rw [HM.out]; rw [if_neg h128, Nat.xor_zero]
            clear h128
            by_cases hon : r % 2 = 1
            ·have e1 : (((r % 2 : Nat) : Int) == 1) = true := by simp; omega
             have HI2 : Hid (iotaR v s (j + 1) = (bits .xor .u64 u (Z : Int), m)) := by unfold Hid; rw [HI.out]; simp only; rw [if_pos hon, HNx.out]
             generalize ((r % 2 : Nat) : Int) = r2 at *
             have HON := Lib.hid hon
             clear hon
             go_wp2_with fail
             generalize (wr.setCell ⟨lb, 0, none⟩ (.int .u8 (m : Int))) = W at *
             have HQ := Lib.hid HQ1.out.drew
             have f3 : W.drew.free? ab 0 1 = true := f1
             go_still_tail 13, (by kernel_rfl)
             change wpList _ _ _ _ _ W.drew
             generalize W.drew = wd at *
             go_wp2
             go_roundw
             case rel => exact ⟨j + 1, by omega, by go_num, by rw [HI2.out]; exact HQ.out.setA (by decide) _ (by rw [List.set_set])⟩
             case measure => simp [intOf]; omega
            ·have e1 : (((r % 2 : Nat) : Int) == 1) = false := by simp; omega
             have HI2 : Hid (iotaR v s (j + 1) = (u, m)) := by unfold Hid; rw [HI.out]; simp only; rw [if_neg hon, HNx.out]
             generalize ((r % 2 : Nat) : Int) = r2 at *
             have HON := Lib.hid hon
             clear hon
             go_wp2
             go_roundw
             case rel => exact ⟨j + 1, by omega, by go_num, by rw [HI2.out]; exact HQ1.out⟩
             case measure => simp [intOf]; omega
          ·obtain rfl : j = 7 := by omega
           have hR : roundR A s = (X.set 0 (iotaR v s 7).1, (iotaR v s 7).2) := by
            unfold roundR
            simp only [HC.out]
            rw [← HB.out, HX.out.2.1, HX.out.1]
           have h1 := hr.a
           have h2 := hr.l
           have h3 := hr.only
           have HZ : Hid (Arr wr ab 25 (l64 (roundR A s).1) ∧ Arr wr lb 1 [.int .u8 ((roundR A s).2 : Nat)] ∧ Only (fun k => k = ab ∨ k = lb) w wr) := by
            unfold Hid
            rw [hR]; exact ⟨h1, h2, h3⟩
           clear hr h1 h2 h3 hR
           go_wp2
           go_end0
           exact ⟨rfl, HZ.out⟩
end Go.Proofs.YtfflppedbopdpaaGreat
