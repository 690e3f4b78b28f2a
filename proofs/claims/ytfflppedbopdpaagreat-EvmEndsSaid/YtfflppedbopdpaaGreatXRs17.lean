/-
  The reference's Move.
  The reference's NewState, of accounts without slots.
  The reference's table of instructions: contracts of table, Digits, ranges, all (turned from another seat's texts).
  The reference's table of instructions: ranges, all (turned from another seat's texts).
  The law's accounts: one with a code.
  The law's example: it holds.
  The reference's machine: how a frame lies in memory.
  The reference's own and Jumps.
  The reference's Push.
-/
import Derived.Test.YtfflppedbopdpaaGreatXAcs1
import Derived.Test.YtfflppedbopdpaaGreatXNw1
import Derived.Test.YtfflppedbopdpaaGreatXOps1
import Derived.Deep.RegionHeld3
import Derived.Test.YtfflppedbopdpaaGreatXRef1
set_option linter.unusedVariables false
set_option maxRecDepth 1000000
set_option maxHeartbeats 8000000
set_option linter.unusedSimpArgs false
namespace Go.Proofs.YtfflppedbopdpaaGreat
open Go.RowKit Go.Mun

theorem fld35_2 (p : RAc × Value × Value) (W : World) : (Instr.field 35 (.agg (racC p).toArray) 2).run Tryz.prog W = .ok (.agg (beC 32 p.1.ac.bal).toArray) W := by
 have h : ∀ C : List Value, (Instr.field 35 (.agg C.toArray) 2).run Tryz.prog W = .ok (.agg (C.toArray.extract 21 (21 + 32))) W := fun C => by kernel_rfl
 rw [h]
 have e : (racC p).toArray.extract 21 (21 + 32) = (beC 32 p.1.ac.bal).toArray := by
  rw [List.extract_toArray, List.extract_eq_take_drop]
  have hs := cat_split (l := acS p.1.ac p.2.1 p.2.2) (i := 2) rfl
  have h1 : (cat ((acS p.1.ac p.2.1 p.2.2).take 2)).length = 21 := by simp [acS, cat_len_cons, cat_len_nil]
  unfold racC
  rw [hs, ← h1, List.drop_left, h1, show 21 + 32 - 21 = (beC 32 p.1.ac.bal).length by simp, List.take_left]
 rw [e]
theorem fld35_3 (p : RAc × Value × Value) (W : World) : (Instr.field 35 (.agg (racC p).toArray) 3).run Tryz.prog W = .ok p.2.1 W := by
 have h : ∀ C : List Value, (Instr.field 35 (.agg C.toArray) 3).run Tryz.prog W = ((match C.toArray[53]? with | some v => pure v | none => stuck "part: no such cell") : Sem Value).run Tryz.prog W := fun C => by kernel_rfl
 rw [h]
 have e : (racC p).toArray[53]? = some p.2.1 := by
  rw [List.getElem?_toArray]
  have hs := cat_split (l := acS p.1.ac p.2.1 p.2.2) (i := 3) rfl
  have h1 : (cat ((acS p.1.ac p.2.1 p.2.2).take 3)).length = 53 := by simp [acS, cat_len_cons, cat_len_nil]
  unfold racC
  rw [hs, List.getElem?_append_right (by omega), h1]; rfl
 rw [e]; rfl
theorem got_bal {w : World} {own : Go.Mun.Own} {S : St} {n a : Nat} {p : RAc × Value × Value} (h : GotR w own S n a p) : p.1.ac.bal = (S a).bal := by rw [← h.acc]; rfl
theorem cmp_neg (n m : Nat) : decide (cmpN n m < 0) = decide (n < m) := by
 unfold cmpN
 by_cases h : n < m
 ·rw [if_pos h]; simp [h]
 ·rw [if_neg h]; split <;> simp [h]
theorem box32 (W : World) (C : List Value) (h : okL 32 C = true) : Below W.heap.size W ((W.alloc (.cells (zU8 32).toArray 25)).setCells W.heap.size 0 C) ∧ ((W.alloc (.cells (zU8 32).toArray 25)).setCells W.heap.size 0 C).row? W.heap.size 0 32 = some C := by
 have hf : (W.alloc (.cells (zU8 32).toArray 25)).free? W.heap.size 0 32 = true := World.free?_alloc_at _ _ rfl (by simp)
 exact ⟨((Below.refl _ _).alloc (Nat.le_refl _) _).setCells (Nat.le_refl _) _ _, row?_setCells_whole C hf h⟩
structure MvR (w : World) (a b v : Nat) (W : World) : Prop where
 t5 : W.row? w.heap.size 0 20 = some (beC 20 a)
 t6 : W.row? (w.heap.size + 1) 0 20 = some (beC 20 b)
 t7 : W.row? (w.heap.size + 1 + 1) 0 32 = some (beC 32 v)
theorem MvR.next {w W W' : World} {a b v : Nat} (h : MvR w a b v W) (hb : Below W.heap.size W W') : MvR w a b v W' :=
 ⟨((brow hb).1 _ _ _ (World.row?_lt h.t5)).trans h.t5, ((brow hb).1 _ _ _ (World.row?_lt h.t6)).trans h.t6, ((brow hb).1 _ _ _ (World.row?_lt h.t7)).trans h.t7⟩
theorem MvR.start (w : World) (a b v : Nat) : MvR w a b v (((w.alloc (.cells (beC 20 a).toArray 23)).alloc (.cells (beC 20 b).toArray 23)).alloc (.cells (beC 32 v).toArray 25)) := by
 refine ⟨?_, ?_, ?_⟩
 ·rw [World.row?_alloc_lt _ (by simp; omega), World.row?_alloc_lt _ (by simp)]; exact World.row?_alloc_at _ _ _ rfl (by simp)
 ·rw [World.row?_alloc_lt _ (by simp)]; exact World.row?_alloc_at _ _ _ (by simp) (by simp)
 ·exact World.row?_alloc_at _ _ _ (by simp) (by simp)
theorem mv_wrap {x y v : Nat} (hy : y < wW) (hv : v < wW) : (wW ≤ y + v → cmpN ((y + v) % wW) y = -1) ∧ (¬ wW ≤ y + v → ¬ cmpN ((y + v) % wW) y < 0) := by
 constructor
 ·intro h
  have e : (y + v) % wW = y + v - wW := by rw [Nat.mod_eq_sub_mod h, Nat.mod_eq_of_lt (by omega)]
  rw [e]; exact cmpN_lt (by omega)
 ·intro h
  rw [Nat.mod_eq_of_lt (by omega)]
  unfold cmpN; rw [if_neg (by omega)]; split <;> omega
def MoveR (w : World) (own : Go.Mun.Own) (sb : Nat) (S : St) (M : List (Nat × St)) (n : Nat) (r : Option St) (e : Ending) (w' : World) : Prop :=
 match r with
 | none => e = .returned (.bool false) ∧ ∃ own', RState w' own' sb S M n ∧ ChgR w w' own own'
 | some S1 => e = .returned (.bool true) ∧ ∃ own', RState w' own' sb S1 M n ∧ ChgR w w' own own'
theorem r_move {w : World} {own : Go.Mun.Own} {sb a b v n : Nat} {S : St} {M : List (Nat × St)} (h : RState w own sb S M n) (ha : a < wA) (hbw : b < wA) (hv : v < wW) (hn : n ≤ 999990) :
  Calls Tryz.prog 69 #[.pointer (some ⟨sb, 0, none⟩), .agg (beC 20 a).toArray, .agg (beC 20 b).toArray, .agg (beC 32 v).toArray] w (MoveR w own sb S M (n + 4) (S.move a b v)) := by
 obtain ⟨w0, e0⟩ : ∃ w0, w0 = ((w.alloc (.cells (beC 20 a).toArray 23)).alloc (.cells (beC 20 b).toArray 23)).alloc (.cells (beC 32 v).toArray 25) := ⟨_, rfl⟩
 have hb0 : Below w.heap.size w w0 := by rw [e0]; exact (((Below.refl _ _).alloc (Nat.le_refl _) _).alloc (by simp) _).alloc (by simp; omega) _
 have hm0 : MvR w a b v w0 := by rw [e0]; exact MvR.start w a b v
 have q5 := hm0.t5
 have hst := h.below hb0
 have HST := hid hst
 have HM0 := hid hm0
 have HE := hid e0
 have HB0 := hid hb0
 have HA := hid ha
 have HBW := hid hbw
 have HV := hid hv
 have HN := hid hn
 have h0 := hid h
 have hla := beC_len 20 a
 have hlb := beC_len 20 b
 have hlv := beC_len 32 v
 rw [e0] at q5
 clear e0 hb0 hm0 hst h hn
 go_enter Tryz.func69, Tryz.ntmps69
 go_wp2_with fail
 rw [← HE.out]
 refine (r_get HST.out ha (by have := HN.out; omega)).mono ?_
 rintro e w1 ⟨p, rfl, hb1, hg1⟩
 obtain ⟨x, hx⟩ : ∃ x, x = (S a).bal := ⟨_, rfl⟩
 have hfp : ∀ W, (Instr.field 35 (.agg (racC p).toArray) 2).run Tryz.prog W = .ok (.agg (beC 32 x).toArray) W := fun W => by rw [fld35_2, got_bal hg1, hx]
 have hxW : x < wW := by rw [hx, ← got_bal hg1]; exact hg1.ok.bal
 obtain ⟨C, hC⟩ : ∃ C, C = racC p := ⟨_, rfl⟩
 rw [← hC] at hfp ⊢
 have hlx := beC_len 32 x
 have hokx := beC_ok 32 x
 obtain ⟨g2, r2⟩ := box32 w1 (beC 32 x) hokx
 obtain ⟨w2, e2⟩ : ∃ w2, w2 = (w1.alloc (.cells (zU8 32).toArray 25)).setCells w1.heap.size 0 (beC 32 x) := ⟨_, rfl⟩
 rw [← e2] at g2 r2
 obtain ⟨B1, hB1⟩ : ∃ B1, B1 = w1.heap.size := ⟨_, rfl⟩
 have hm2 : MvR w a b v w2 := (HM0.out.next hb1).next g2
 have HB2 : Hid (Below w0.heap.size w0 w2) := hb1.trans (g2.mono hb1.size)
 have HST2 := hid ((HST.out.below hb1).below g2)
 have q6 := hm2.t6
 rw [e2] at q6
 have HM2 := hid hm2
 have HE2 := hid e2
 have HX := hid hx
 have R1 : Hid (w2.row? B1 0 32 = some (beC 32 x)) := by rw [hB1]; exact r2
 have HB1 := hid hB1
 have HOB1 : Hid (own B1 = none) := own_new h0.out (by rw [hB1]; have := HB0.out.size; have := hb1.size; omega)
 clear hb1 hg1 hx hC g2 r2 e2 hm2 hB1 q5
 go_wp2_with fail
 rw [← HE2.out]
 rw [← HB1.out]
 refine (r_get HST2.out hbw (by have := HN.out; omega)).mono ?_
 rintro e w3 ⟨p2, rfl, hb3, hg3⟩
 obtain ⟨y, hy⟩ : ∃ y, y = (S b).bal := ⟨_, rfl⟩
 have hfp2 : ∀ W, (Instr.field 35 (.agg (racC p2).toArray) 2).run Tryz.prog W = .ok (.agg (beC 32 y).toArray) W := fun W => by rw [fld35_2, got_bal hg3, hy]
 have hyW : y < wW := by rw [hy, ← got_bal hg3]; exact hg3.ok.bal
 obtain ⟨D, hD⟩ : ∃ D, D = racC p2 := ⟨_, rfl⟩
 rw [← hD] at hfp2 ⊢
 have hly := beC_len 32 y
 have hoky := beC_ok 32 y
 obtain ⟨g4, r4⟩ := box32 w3 (beC 32 y) hoky
 obtain ⟨w4, e4⟩ : ∃ w4, w4 = (w3.alloc (.cells (zU8 32).toArray 25)).setCells w3.heap.size 0 (beC 32 y) := ⟨_, rfl⟩
 rw [← e4] at g4 r4
 obtain ⟨B2, hB2⟩ : ∃ B2, B2 = w3.heap.size := ⟨_, rfl⟩
 have hm4 : MvR w a b v w4 := (HM2.out.next hb3).next g4
 have hb24 : Below w2.heap.size w2 w4 := hb3.trans (g4.mono hb3.size)
 have HB4 : Hid (Below w0.heap.size w0 w4) := HB2.out.trans (hb24.mono HB2.out.size)
 have HST4 := hid (HST2.out.below hb24)
 have s1 : w4.row? B1 0 32 = some (beC 32 x) := ((brow hb24).1 _ _ _ (World.row?_lt R1.out)).trans R1.out
 have s7 := hm4.t7
 have HM4 := hid hm4
 have HE4 := hid e4
 have HY := hid hy
 have R1b := hid s1
 have R2 : Hid (w4.row? B2 0 32 = some (beC 32 y)) := by rw [hB2]; exact r4
 have HB2b := hid hB2
 rw [e4] at s1 s7
 clear hb3 hg3 hy hD g4 r4 e4 hm4 hb24 hB2 hfp q6
 go_wp2_with fail
 rw [← HE4.out]
 rw [← HB2b.out]
 refine (ref_Cmp x v hxW hv _).mono ?_
 rintro e w5 ⟨rfl, hb5⟩
 have hm5 := HM4.out.next hb5
 have HST5 := hid (HST4.out.below hb5)
 have HB5 : Hid (Below w0.heap.size w0 w5) := HB4.out.trans (hb5.mono HB4.out.size)
 have R15 : Hid (w5.row? B1 0 32 = some (beC 32 x)) := ((brow hb5).1 _ _ _ (World.row?_lt R1b.out)).trans R1b.out
 have R25 : Hid (w5.row? B2 0 32 = some (beC 32 y)) := ((brow hb5).1 _ _ _ (World.row?_lt R2.out)).trans R2.out
 have u5 := hm5.t5
 have u6 := hm5.t6
 have u7 := hm5.t7
 have u2 := R25.out
 have HM5 := hid hm5
 clear hb5 hm5 s1 s7 hfp2
 by_cases hlt : x < v
 ·have hd : decide (cmpN x v < 0) = true := by rw [cmp_neg]; exact decide_eq_true hlt
  have hcI : cmpN x v = -1 := cmpN_lt hlt
  have HR : Hid (S.move a b v = none) := by show _ = _; unfold St.move; rw [if_pos (by rw [← HX.out]; exact hlt)]
  rw [hcI]
  clear hlt hd hcI
  go_wp2
  go_ret
  rw [HR.out]
  exact ⟨rfl, own, HST5.out.mono (by omega), ChgR.below own (HB0.out.trans (HB5.out.mono HB0.out.size))⟩
 have hge : ¬ cmpN x v < 0 := by have := cmp_neg x v; intro h; rw [decide_eq_true h] at this; exact hlt (of_decide_eq_true this.symm)
 have hd : decide (cmpN x v < 0) = false := decide_eq_false hge
 generalize hcv : cmpN x v = cv at *
 have heq := eqA (a := a) (b := b) HA.out HBW.out w5
 have HLT := hid hlt
 clear hlt hcv
 by_cases hab : a = b
 ·have hda : decide (a = b) = true := decide_eq_true hab
  rw [hda] at heq
  have HR : Hid (S.move a b v = some S) := by show _ = _; unfold St.move; rw [if_neg (by rw [← HX.out]; exact HLT.out), if_pos hab]
  clear hab hda
  go_wp2
  go_ret
  rw [HR.out]
  exact ⟨rfl, own, HST5.out.mono (by omega), ChgR.below own (HB0.out.trans (HB5.out.mono HB0.out.size))⟩
 have hda : decide (a = b) = false := decide_eq_false hab
 rw [hda] at heq
 have HAB := hid hab
 clear hab hda
 go_wp2_with fail
 obtain ⟨z, hz⟩ : ∃ z, z = (y + v) % wW := ⟨_, rfl⟩
 have hzW : z < wW := by rw [hz]; exact Nat.mod_lt _ (by decide)
 have hzb : beC 32 (y + v) = beC 32 z := beC_modR 32 _ _ (by rw [hz, wW_eq, Nat.mod_mod])
 have hadd := fun W => ref_Add y v hyW hv W
 rw [hzb] at hadd
 refine (hadd _).mono ?_
 rintro e w6 ⟨rfl, hb6⟩
 have hlz := beC_len 32 z
 have hokz := beC_ok 32 z
 obtain ⟨g7, r7⟩ := box32 w6 (beC 32 z) hokz
 obtain ⟨w7, e7⟩ : ∃ w7, w7 = (w6.alloc (.cells (zU8 32).toArray 25)).setCells w6.heap.size 0 (beC 32 z) := ⟨_, rfl⟩
 rw [← e7] at g7 r7
 obtain ⟨B3, hB3⟩ : ∃ B3, B3 = w6.heap.size := ⟨_, rfl⟩
 have hb57 : Below w5.heap.size w5 w7 := hb6.trans (g7.mono hb6.size)
 have hm7 := HM5.out.next hb57
 have HB7 : Hid (Below w0.heap.size w0 w7) := HB5.out.trans (hb57.mono HB5.out.size)
 have HST7 := hid (HST5.out.below hb57)
 have k1 : w7.row? B1 0 32 = some (beC 32 x) := ((brow hb57).1 _ _ _ (World.row?_lt R15.out)).trans R15.out
 have k2 : w7.row? B2 0 32 = some (beC 32 y) := ((brow hb57).1 _ _ _ (World.row?_lt R25.out)).trans R25.out
 have R17 := hid k1
 have R37 : Hid (w7.row? B3 0 32 = some (beC 32 z)) := by rw [hB3]; exact r7
 have HM7 := hid hm7
 have HE7 := hid e7
 have HB3b := hid hB3
 have HB6 : Hid (w5.heap.size ≤ B3) := by show _ ≤ _; rw [hB3]; exact hb6.size
 have HZ := hid hz
 have k3 := r7
 rw [e7] at k2 k3
 clear hb6 hzb hadd g7 r7 e7 hb57 hm7 hB3 hz u5 u6 u7 u2 k1 heq hd hge
 go_wp2_with fail
 rw [← HE7.out]
 rw [← HB3b.out]
 refine (ref_Cmp z y hzW hyW _).mono ?_
 rintro e w8 ⟨rfl, hb8⟩
 have hm8 := HM7.out.next hb8
 have HST8 := hid (HST7.out.below hb8.drew)
 have HST8b := hid (HST7.out.below hb8)
 have HB8 : Hid (Below w0.heap.size w0 w8) := HB7.out.trans (hb8.mono HB7.out.size)
 have R18 : Hid (w8.row? B1 0 32 = some (beC 32 x)) := ((brow hb8).1 _ _ _ (World.row?_lt R17.out)).trans R17.out
 have R38 : Hid (w8.row? B3 0 32 = some (beC 32 z)) := ((brow hb8).1 _ _ _ (World.row?_lt R37.out)).trans R37.out
 have HM8 := hid hm8
 clear hb8 hm8 k2 k3
 have hwrap := mv_wrap (x := x) hyW hv
 rw [← HZ.out] at hwrap
 by_cases how : wW ≤ y + v
 ·have hcI := hwrap.1 how
  have HR : Hid (S.move a b v = none) := by
   show _ = _; unfold St.move
   rw [if_neg (by rw [← HX.out]; exact HLT.out), if_neg HAB.out, if_pos (by rw [← HY.out]; exact how)]
  rw [hcI]
  clear how hcI hwrap
  go_wp2
  go_ret
  rw [HR.out]
  exact ⟨rfl, own, HST8b.out.mono (by omega), ChgR.below own (HB0.out.trans (HB8.out.mono HB0.out.size))⟩
 have hge2 := hwrap.2 how
 have hd2 : decide (cmpN z y < 0) = false := decide_eq_false hge2
 generalize cmpN z y = cz at *
 have HZ2 : Hid (z = y + v) := by show _ = _; rw [HZ.out, Nat.mod_eq_of_lt (by omega)]
 have HR : Hid (S.move a b v = some (upd (upd S a { S a with bal := x - v }) b { upd S a { S a with bal := x - v } b with bal := z })) := by
  show _ = _; unfold St.move
  rw [if_neg (by rw [← HX.out]; exact HLT.out), if_neg HAB.out, if_neg (by rw [← HY.out]; exact how), ← HX.out, ← HY.out, HZ2.out]
  rfl
 have hxv : v ≤ x := Nat.le_of_not_lt HLT.out
 have HSB : Hid (∀ W, Calls Tryz.prog 174 #[.agg (beC 32 x).toArray, .agg (beC 32 v).toArray] W fun e w' => e = .returned (.agg (beC 32 (x - v)).toArray) ∧ Below W.heap.size W w') := by
  intro W
  have h := ref_Sub x v hxW hv W
  have e : beC 32 (x + wW - v) = beC 32 (x - v) := by
   refine beC_modR 32 _ _ ?_
   rw [show x + wW - v = (x - v) + wW by omega, wW_eq, Nat.add_mod_right]
  rw [e] at h; exact h
 have hxvW : x - v < wW := by omega
 generalize x - v = xv at *
 have hlxv := beC_len 32 xv
 have ho1 : own w.heap.size = none := own_new h0.out (Nat.le_refl _)
 have ho2 : own (w.heap.size + 1) = none := own_new h0.out (Nat.le_succ _)
 have HOB3 : Hid (own B3 = none) := own_new h0.out (by have := HB0.out.size; have := HB5.out.size; have h2 := HB6.out; omega)
 have HO := hid (And.intro ho1 ho2)
 obtain ⟨T, hT⟩ : ∃ T : World → Prop, T = fun W => MvR w a b v W ∧ W.row? B1 0 32 = some (beC 32 x) ∧ W.row? B3 0 32 = some (beC 32 z) := ⟨_, rfl⟩
 have HT := hid hT
 have t0 : T w8.drew := by rw [hT]; exact ⟨⟨HM8.out.t5, HM8.out.t6, HM8.out.t7⟩, R18.out, R38.out⟩
 clear hT how hwrap hge2 ho1 ho2 hxv
 go_wp2_with fail
 refine wp_region_tree T [] (.pure 0 (.take 1 (.take 2 (.take 3 (.alt 4 (.alt 5 .fin .stop) .stop))))) (by kernel_rfl) (by kernel_rfl) ?_
 iterate 4
  first
  |refine tree_pure ?_ rfl (by rfl) (fun w' hs => ?_) (fun _ _ _ h => h) ?_
   rotate_left
   ·clear hs
    go_simp
    try rfl
   simp only [Act.put, tsa, tsb, tsc]
  |refine tree_take ?_ t0 rfl (by rfl) (fun w' hs => ?_) (fun _ _ _ h => h) ?_
   rotate_left
   ·rw [HT.out] at hs
    obtain ⟨⟨g5, g6, g7⟩, g1, g3⟩ := hs
    go_simp
    try rfl
   simp only [Act.put, tsa, tsb, tsc]
 refine tree_run rfl (fun K hK => ?_)
 go_simp
 refine (HSB.out _).mono ?_
 rintro e w9 ⟨rfl, hb9⟩
 have t9 : T w9 := by rw [HT.out] at t0 ⊢; exact ⟨t0.1.next hb9, ((brow hb9).1 _ _ _ (World.row?_lt t0.2.1)).trans t0.2.1, ((brow hb9).1 _ _ _ (World.row?_lt t0.2.2)).trans t0.2.2⟩
 have HST9 := hid (HST8.out.below hb9)
 have HB9 : Hid (Below w0.heap.size w0 w9) := HB8.out.drew.trans (hb9.mono HB8.out.drew.size)
 clear hb9
 refine hK.out _ _ t9 ?_
 clear hK K
 refine tree_run rfl (fun K hK => ?_)
 go_simp
 refine (r_setBalance HST9.out HA.out hxvW (by have := HN.out; omega)).mono ?_
 rintro e w10 ⟨rfl, own2, st2, c2⟩
 have t10 : T w10 := by
  rw [HT.out] at t9 ⊢
  have hk := fun (i : Nat) (hi : own i = none) (h2 : hot own i) => h2.1 hi
  exact ⟨⟨(c2.only.row? (World.row?_lt t9.1.t5) (hk _ HO.out.1)).trans t9.1.t5, (c2.only.row? (World.row?_lt t9.1.t6) (hk _ HO.out.2)).trans t9.1.t6, (c2.only.row? (World.row?_lt t9.1.t7) (hk _ (own_new h0.out (by omega)))).trans t9.1.t7⟩, (c2.only.row? (World.row?_lt t9.2.1) (hk _ HOB1.out)).trans t9.2.1, (c2.only.row? (World.row?_lt t9.2.2) (hk _ HOB3.out)).trans t9.2.2⟩
 have HC2 := hid ((ChgR.below own (HB0.out.trans (HB9.out.mono HB0.out.size))).trans c2)
 have HS2 := hid st2
 clear st2 c2
 refine hK.out _ _ t10 ?_
 clear hK K
 refine tree_fin ?_
 rw [HT.out] at t10
 have v6 := t10.1.t6
 have v3 := t10.2.2
 have HT10 := hid t10
 clear t0 t9 t10
 go_wp2_with fail
 refine (r_setBalance HS2.out HBW.out hzW (by have := HN.out; omega)).mono ?_
 rintro e w11 ⟨rfl, own3, st3, c3⟩
 have HS3 := hid st3
 have HC3 := hid c3
 clear st3 c3 v6 v3
 go_wp2
 go_ret
 rw [HR.out]
 exact ⟨rfl, own3, HS3.out, HC2.out.trans HC3.out⟩
structure NwS (w wr : World) (own : Go.Mun.Own) (sb : Nat) (S : St) (n : Nat) : Prop where
 st : RState wr own sb S [] n
 ge : ∀ b, own b ≠ none → w.heap.size ≤ b
 below : Below w.heap.size w wr
theorem NwS.step {w wr w' : World} {own own' : Go.Mun.Own} {sb n n' : Nat} {S S' : St} (h : NwS w wr own sb S n) (st : RState w' own' sb S' [] n') (c : ChgR wr w' own own') : NwS w w' own' sb S' n' :=
 ⟨st, fun b hb => by
  by_cases hlt : b < wr.heap.size
  ·rw [c.ext b hlt] at hb; exact h.ge b hb
  ·have := h.below.size; omega, h.below.trans (c.only.below h.below.size fun i hi => h.ge i hi.1)⟩
theorem NwS.next {w wr w' : World} {own : Go.Mun.Own} {sb n : Nat} {S : St} (h : NwS w wr own sb S n) (hb : Below wr.heap.size wr w') : NwS w w' own sb S n := h.step (h.st.below hb) (ChgR.below own hb)
theorem nwS_start (w : World) : ∃ own, NwS w (w.alloc (.cells #[.slice none 0 0, .slice none 0 0, .int .i64 0] 125)) own w.heap.size (fun _ => Acc.none) 0 := by
 refine ⟨fun b => if b = w.heap.size then some .st else none, ⟨⟨.slice none 0 0, .slice none 0 0, [], [], 0, {
   lab := by simp
   row := World.row?_alloc_at [.slice none 0 0, .slice none 0 0, .int .i64 0] 125 (0, 0) rfl rfl
   free := World.free?_alloc_at [.slice none 0 0, .slice none 0 0, .int .i64 0] 125 rfl (by simp)
   arr := ⟨World.ownsRow_nil _ _ _ _, fun g hg => by simp [Value.ownBlock] at hg, fun p hp => by cases hp⟩
   up := List.Pairwise.nil
   marks := World.ownsRow_nil _ _ _ _
   mlab := fun g hg => by simp [Value.ownBlock] at hg
   each := fun m hm => by cases hm
   apart := List.pairwise_singleton _ _
   low := fun b hb => by
    by_cases e : b = w.heap.size
    ·rw [e]; simp
    ·simp [e] at hb
   count := ⟨Nat.zero_le _, fun m hm => by cases hm⟩ }, rfl, rfl, ⟨Nat.zero_le _, fun p hp => (by cases hp)⟩, fun m hm => (by cases hm), Nat.zero_le _⟩, fun b hb => ?_, (Below.refl _ _).alloc (Nat.le_refl _) _⟩⟩
 by_cases e : b = w.heap.size
 ·omega
 ·simp [e] at hb
theorem set_all (S : St) (a : Nat) (nn bl : Nat) (cd : Bts) :
  (let S1 := upd S a Acc.none; let S2 := upd S1 a { S1 a with nonce := nn }; let S3 := upd S2 a { S2 a with bal := bl }; upd S3 a { S3 a with code := cd }) = upd S a ⟨nn, bl, cd, fun _ => 0⟩ := by
 funext b
 by_cases e : b = a
 ·subst e; simp [upd, Acc.none]
 ·simp [upd, e]
theorem ro_mine {w wr : World} {own : Go.Mun.Own} {v : Value} {l : Bts} (h : RoAt w (fun _ => False) v l) (hb : Below w.heap.size w wr) (hg : ∀ b, own b ≠ none → w.heap.size ≤ b) : RoAt wr (fun b => own b ≠ none) v l :=
 h.only (R := fun _ => False) (Only.of_below_size hb) (fun _ h => h.elim) fun b hlt hx => by have := hg b hx; omega
theorem r_new (b o c : Nat) (l : List Ac) (hl : l.length ≤ 100) (w : World) (h : ∀ i (hi : i < l.length), AcAt w b (o + i * 55) l[i]) (hnn : ∀ x ∈ l, 0 ≤ x.nonce) :
  Calls Tryz.prog 37 #[.slice (some ⟨b, o, none⟩) l.length c] w fun e w' => ∃ sb own, e = .returned (.pointer (some ⟨sb, 0, none⟩)) ∧ NwS w w' own sb (newS l) (8 * l.length) := by
 obtain ⟨m, hm⟩ : ∃ m, m = l.length := ⟨_, rfl⟩
 have hm1 : m ≤ 100 := by omega
 have H0 := hid (nwS_start w)
 have H := hid h
 have HNN := hid hnn
 have HM := hid hm
 rw [← hm]
 clear h hnn hl hm
 go_enter Tryz.func37, Tryz.ntmps37
 go_wp2_with fail
 obtain ⟨sb, hsb⟩ : ∃ sb, sb = w.heap.size := ⟨_, rfl⟩
 rw [← hsb]
 rw [← hsb] at H0
 have HSB := hid hsb
 clear hsb
 go_loopw [4] (fun ix wr => ∃ (k : Nat), k ≤ m ∧ ix = .int .i64 (k : Int) ∧ Hid (∃ own, NwS w wr own sb (newS (l.take k)) (8 * k))) (fun ix _ => m - (intOf ix).toNat)
 case atStart => exact ⟨0, by omega, rfl, by obtain ⟨own, h⟩ := H0.out; exact ⟨own, h⟩⟩
 case round =>
  obtain ⟨k, hk, rfl, HR⟩ := hrel
  obtain ⟨own, hown⟩ := HR.out
  have HO := hid hown
  clear hown HR
  by_cases hkm : k < m
  ·have hI : (k : Int) < m := by omega
   have hkl : k < l.length := by have := HM.out; omega
   obtain ⟨X, hX⟩ : ∃ X, X = l[k]'hkl := ⟨_, rfl⟩
   have hat := H.out k hkl
   rw [← hX] at hat
   obtain ⟨⟨cv, hr, hro⟩, hadr, hbal, hnon⟩ := hat
   have hn0 : 0 ≤ X.nonce := HNN.out X (by rw [hX]; exact List.getElem_mem hkl)
   have HNS : Hid (newS (l.take (k + 1)) = upd (newS (l.take k)) X.addr ⟨X.nonce.toNat, X.bal, X.code, fun _ => 0⟩) := by
    show _ = _
    rw [newS_take l k hkl, ← hX]
    unfold accOf
    rw [show max 0 X.nonce = X.nonce by omega]
   obtain ⟨nn, hnn⟩ : ∃ nn : Nat, X.nonce = nn := ⟨X.nonce.toNat, by omega⟩
   have hnn2 : nn ≤ 9223372036854775807 := by omega
   have hnt : X.nonce.toNat = nn := by omega
   rw [hnt] at HNS
   obtain ⟨C, hC⟩ : ∃ C, C = cat (acS X cv (.slice none 0 0)) := ⟨_, rfl⟩
   have HAT : Hid (∀ W, Below w.heap.size w W → W.row? b (o + k * 55) 20 = some (beC 20 X.addr) ∧ W.cell? ⟨b, o + k * 55 + 20, none⟩ = some (.int .i64 (nn : Int)) ∧ W.row? b (o + k * 55 + 21) 32 = some (beC 32 X.bal) ∧ W.cell? ⟨b, o + k * 55 + 53, none⟩ = some cv ∧ W.cell? ⟨b, o + k * 55 + 54, none⟩ = some (.slice none 0 0)) := by
    intro W hW
    have hrW := ((brow hW).1 _ _ _ (World.row?_lt hr)).trans hr
    exact ⟨row_cat hrW (i := 0) rfl (by simp [acS, offOf_zero]) (by simp), by rw [← hnn]; exact cell_cat hrW (i := 1) rfl (by simp [acS, offOf_succ, offOf_zero]), row_cat hrW (i := 2) rfl (by simp [acS, offOf_succ, offOf_zero]) (by simp), cell_cat hrW (i := 3) rfl (by simp [acS, offOf_succ, offOf_zero]), cell_cat hrW (i := 4) rfl (by simp [acS, offOf_succ, offOf_zero])⟩
   have HRO := hid hro
   have HCO : Hid (cv.oneCell' = true) := RoAt.one hro
   obtain ⟨A, hA⟩ : ∃ A, A = X.addr := ⟨_, rfl⟩
   obtain ⟨BL, hBL⟩ : ∃ BL, BL = X.bal := ⟨_, rfl⟩
   obtain ⟨CD, hCD⟩ : ∃ CD, CD = X.code := ⟨_, rfl⟩
   rw [← hA] at hadr HAT HNS
   rw [← hBL] at hbal HAT HNS
   rw [← hCD] at HRO HNS
   have hlA := beC_len 20 A
   have hlB := beC_len 32 BL
   obtain ⟨p0, p1, p2, p3, p4⟩ := HAT.out wr HO.out.below
   obtain ⟨T, hT⟩ : ∃ T : World → Prop, T = fun W => W.row? b (o + k * 55) 20 = some (beC 20 A) ∧ W.cell? ⟨b, o + k * 55 + 20, none⟩ = some (.int .i64 (nn : Int)) ∧ W.row? b (o + k * 55 + 21) 32 = some (beC 32 BL) ∧ W.cell? ⟨b, o + k * 55 + 53, none⟩ = some cv ∧ W.cell? ⟨b, o + k * 55 + 54, none⟩ = some (.slice none 0 0) := ⟨_, rfl⟩
   have HT := hid hT
   have HAT2 : Hid (∀ W, Below w.heap.size w W → T W) := by rw [hT]; exact HAT.out
   clear hr hro hn0 hnn hnt hC hnon hX hA hBL hCD hT p1 p2 p3 p4 HAT hkm
   go_wp2_with fail
   refine (r_kill HO.out.st hadr (by omega)).mono ?_
   rintro e w1 ⟨rfl, own1, st1, c1⟩
   have HO1 := hid (HO.out.step st1 c1)
   have t1 := HAT2.out _ (HO1.out.below.drew)
   clear st1 c1 p0
   go_wp2_with fail
   refine wp_region_tree T [] (.pure 0 (.pure 1 (.pure 2 (.pure 3 (.pure 4 (.take 5 (.pure 6 (.pure 7 (.pure 8 (.pure 9 (.take 10 (.alt 11 .fin .stop)))))))))))) (by kernel_rfl) (by kernel_rfl) ?_
   iterate 11
    first
    |refine tree_pure ?_ rfl (by rfl) (fun w' hs => ?_) (fun _ _ _ h => h) ?_
     rotate_left
     ·clear hs
      go_simp
      try rfl
     simp only [Act.put, tsa, tsb, tsc]
    |refine tree_take ?_ t1 rfl (by rfl) (fun w' hs => ?_) (fun _ _ _ h => h) ?_
     rotate_left
     ·rw [HT.out] at hs
      obtain ⟨p0, p1, p2, p3, p4⟩ := hs
      go_simp
      try rfl
     simp only [Act.put, tsa, tsb, tsc]
   refine tree_run rfl (fun K hK => ?_)
   go_simp
   refine (r_setNonce nn (HO1.out.next (Below.refl _ _).drew).st hadr hnn2 (by omega)).mono ?_
   rintro e w2 ⟨rfl, own2, st2, c2⟩
   have HO2 := hid ((HO1.out.next (Below.refl _ _).drew).step st2 c2)
   have t2 := HAT2.out _ HO2.out.below
   clear st2 c2
   refine hK.out _ _ t2 ?_
   clear hK K
   refine tree_fin ?_
   have t2d := HAT2.out _ (HO2.out.below.drew)
   clear t1 t2
   go_wp2_with fail
   refine wp_region_tree T [] (.pure 0 (.pure 1 (.pure 2 (.pure 3 (.pure 4 (.take 5 (.pure 6 (.pure 7 (.pure 8 (.pure 9 (.take 10 (.alt 11 .fin .stop)))))))))))) (by kernel_rfl) (by kernel_rfl) ?_
   iterate 11
    first
    |refine tree_pure ?_ rfl (by rfl) (fun w' hs => ?_) (fun _ _ _ h => h) ?_
     rotate_left
     ·clear hs
      go_simp
      try rfl
     simp only [Act.put, tsa, tsb, tsc]
    |refine tree_take ?_ t2d rfl (by rfl) (fun w' hs => ?_) (fun _ _ _ h => h) ?_
     rotate_left
     ·rw [HT.out] at hs
      obtain ⟨p0, p1, p2, p3, p4⟩ := hs
      go_simp
      try rfl
     simp only [Act.put, tsa, tsb, tsc]
   refine tree_run rfl (fun K hK => ?_)
   go_simp
   refine (r_setBalance (HO2.out.next (Below.refl _ _).drew).st hadr hbal (by omega)).mono ?_
   rintro e w3 ⟨rfl, own3, st3, c3⟩
   have HO3 := hid ((HO2.out.next (Below.refl _ _).drew).step st3 c3)
   have t3 := HAT2.out _ HO3.out.below
   clear st3 c3
   refine hK.out _ _ t3 ?_
   clear hK K
   refine tree_fin ?_
   have t3d := HAT2.out _ (HO3.out.below.drew)
   clear t2d t3
   go_wp2_with fail
   refine wp_region_tree T [] (.pure 0 (.pure 1 (.pure 2 (.pure 3 (.pure 4 (.take 5 (.pure 6 (.pure 7 (.pure 8 (.pure 9 (.take 10 (.alt 11 .fin .stop)))))))))))) (by kernel_rfl) (by kernel_rfl) ?_
   iterate 11
    first
    |refine tree_pure ?_ rfl (by rfl) (fun w' hs => ?_) (fun _ _ _ h => h) ?_
     rotate_left
     ·clear hs
      go_simp
      try rfl
     simp only [Act.put, tsa, tsb, tsc]
    |refine tree_take ?_ t3d rfl (by rfl) (fun w' hs => ?_) (fun _ _ _ h => h) ?_
     rotate_left
     ·rw [HT.out] at hs
      obtain ⟨p0, p1, p2, p3, p4⟩ := hs
      go_simp
      try rfl
     simp only [Act.put, tsa, tsb, tsc]
   refine tree_run rfl (fun K hK => ?_)
   go_simp
   refine (r_setCode (HO3.out.next (Below.refl _ _).drew).st hadr (ro_mine HRO.out HO3.out.below.drew HO3.out.ge) (by omega)).mono ?_
   rintro e w4 ⟨rfl, own4, st4, c4⟩
   have HO4 := hid ((HO3.out.next (Below.refl _ _).drew).step st4 c4)
   have t4 := HAT2.out _ HO4.out.below
   clear st4 c4
   refine hK.out _ _ t4 ?_
   clear hK K
   refine tree_fin ?_
   have HN : Hid (∃ own, NwS w w4 own sb (newS (l.take (k + 1))) (8 * (k + 1))) := by
    rw [HNS.out, ← set_all]
    exact ⟨own4, by rw [show 8 * (k + 1) = 8 * k + 2 + 2 + 2 + 2 by omega]; exact HO4.out⟩
   rw [HT.out] at t4
   have p4 := t4.2.2.2.2
   clear t3d t4
   go_wp2_with fail
   go_loopw [5] (fun iy wz => iy = .int .i64 0 ∧ wz = w4) (fun _ _ => 0)
   case atStart => exact ⟨rfl, rfl⟩
   case round =>
    obtain ⟨rfl, rfl⟩ := hrel
    go_wp2
    go_roundw
    case rel => exact ⟨k + 1, by omega, by go_num, HN⟩
    case measure => simp [intOf]; omega
  ·obtain rfl : k = m := by omega
   have hI : ¬ (k : Int) < k := by omega
   clear hkm
   go_wp2
   go_ret
   have h := HO.out
   rw [List.take_of_length_le (by have := HM.out; omega)] at h
   exact ⟨sb, rfl, own, h⟩
end Go.Proofs.YtfflppedbopdpaaGreat
namespace Go.Mun
open Go.RowKit
def str (l : List UInt8) : ByteArray := ⟨l.toArray⟩
theorem str_size (l : List UInt8) : (str l).size = l.length := by simp [str, ByteArray.size]
theorem str_append (l m : List UInt8) : str l ++ str m = str (l ++ m) := by apply ByteArray.ext; simp [str]
theorem wpList_bslice {P : Program} {w : World} {ops : Array Oper} {rest : List Oper} {o : Oper} {a : Act} {Q : Exit → Act → World → Prop} (hgd : o.guard = none) {t len e : Nat} {parts : Array (Nat × Operand)}
  (ho : o.op = .buildSlice t len parts) (cs : List Value) (hrun : ∀ w, (Instr.buildSlice t len (parts.map fun p => (p.1, a.eval p.2))).run P w = .ok (.slice (some ⟨w.heap.size, 0, none⟩) len len) (w.alloc (.cells cs.toArray e)))
  (h : wpList P ops Q rest (a.put o.dst (.slice (some ⟨w.heap.size, 0, none⟩) len len)) (w.alloc (.cells cs.toArray e))) : wpList P ops Q (o :: rest) a w := by
 refine wpList_plain hgd fun K hK => ?_
 unfold Oper.wp
 have e1 : (execOp a.eval o).run P w = .ok (.value (.slice (some ⟨w.heap.size, 0, none⟩) len len)) (w.alloc (.cells cs.toArray e)) := by
  unfold execOp
  rw [ho]
  simp only [Sem.run_bind, hrun]
  rfl
 simp [e1]
 exact hK _ _ h
theorem free?_below {B : Nat} {w w' : World} (hb : Below B w w') {b o n : Nat} (hlt : b < B) (h : w.free? b o n = true) : w'.free? b o n = true := by
 rw [World.free?_of_block (hb.block b hlt)]; exact h
def dU (n : Nat) : UInt8 := UInt8.ofNat (48 + n)
def digL (n : Nat) : List UInt8 := (if 9 < n then [dU (n / 10)] else []) ++ [dU (n % 10)]
structure Inf where
 op : Int
 name : List UInt8
 pops : Int
 pushes : Int
 gas : Int

def Inf.c (x : Inf) : List Value := [.int .u8 x.op, .string (str x.name), .int .i64 x.pops, .int .i64 x.pushes, .int .i64 x.gas]
def infZ : Inf := ⟨0, [], 0, 0, 0⟩
def infsC (l : List Inf) : List Value := l.flatMap Inf.c
theorem infsC_len (l : List Inf) : (infsC l).length = 5 * l.length := by
 induction l with
 | nil => rfl
 | cons x l ih => simp [infsC, Inf.c] at ih ⊢; omega
theorem infsC_ok (l : List Inf) : okL (5 * l.length) (infsC l) = true := by
 refine okL_mk (infsC_len l) fun v hv => ?_
 unfold infsC at hv
 rw [List.mem_flatMap] at hv
 obtain ⟨x, _, hx⟩ := hv
 simp only [Inf.c, List.mem_cons, List.mem_nil_iff, or_false] at hx
 rcases hx with rfl | rfl | rfl | rfl | rfl <;> simp [Value.oneCell']
theorem infsC_at : ∀ (l : List Inf) (i : Nat) (x : Inf), l[i]? = some x → ((infsC l).drop (5 * i)).take 5 = x.c
 | y :: l, 0, x, h => by simp at h; subst h; rfl
 | y :: l, i + 1, x, h => by
  have := infsC_at l i x (by simpa using h)
  rw [← this]
  show ((y.c ++ infsC l).drop (5 * (i + 1))).take 5 = _
  rw [show 5 * (i + 1) = y.c.length + 5 * i by simp [Inf.c]; omega, ← List.drop_drop, List.drop_left]
theorem infsC_set : ∀ (l : List Inf) (i : Nat) (x : Inf), i < l.length → splice (infsC l) (5 * i) x.c = infsC (l.set i x)
 | y :: l, 0, x, _ => by
  show splice (y.c ++ infsC l) 0 x.c = x.c ++ infsC l
  unfold splice
  rw [List.take_zero, List.nil_append, Nat.zero_add, show x.c.length = y.c.length from rfl, List.drop_left]
 | y :: l, i + 1, x, h => by
  have ih := infsC_set l i x (by simpa using h)
  show splice (y.c ++ infsC l) (5 * (i + 1)) x.c = y.c ++ infsC (l.set i x)
  rw [← ih]
  unfold splice
  rw [show 5 * (i + 1) = y.c.length + 5 * i by simp [Inf.c]; omega, List.take_length_add_append, show y.c.length + 5 * i + x.c.length = y.c.length + (5 * i + x.c.length) by omega, ← List.drop_drop, List.drop_left]
  simp
def tableT : List Inf := [
 ⟨0, [83, 84, 79, 80], 0, 0, 0⟩,
 ⟨1, [65, 68, 68], 2, 1, 3⟩,
 ⟨2, [77, 85, 76], 2, 1, 5⟩,
 ⟨3, [83, 85, 66], 2, 1, 3⟩,
 ⟨4, [68, 73, 86], 2, 1, 5⟩,
 ⟨5, [83, 68, 73, 86], 2, 1, 5⟩,
 ⟨6, [77, 79, 68], 2, 1, 5⟩,
 ⟨7, [83, 77, 79, 68], 2, 1, 5⟩,
 ⟨8, [65, 68, 68, 77, 79, 68], 3, 1, 8⟩,
 ⟨9, [77, 85, 76, 77, 79, 68], 3, 1, 8⟩,
 ⟨10, [69, 88, 80], 2, 1, 10⟩,
 ⟨11, [83, 73, 71, 78, 69, 88, 84, 69, 78, 68], 2, 1, 5⟩,
 ⟨16, [76, 84], 2, 1, 3⟩,
 ⟨17, [71, 84], 2, 1, 3⟩,
 ⟨18, [83, 76, 84], 2, 1, 3⟩,
 ⟨19, [83, 71, 84], 2, 1, 3⟩,
 ⟨20, [69, 81], 2, 1, 3⟩,
 ⟨21, [73, 83, 90, 69, 82, 79], 1, 1, 3⟩,
 ⟨22, [65, 78, 68], 2, 1, 3⟩,
 ⟨23, [79, 82], 2, 1, 3⟩,
 ⟨24, [88, 79, 82], 2, 1, 3⟩,
 ⟨25, [78, 79, 84], 1, 1, 3⟩,
 ⟨26, [66, 89, 84, 69], 2, 1, 3⟩,
 ⟨27, [83, 72, 76], 2, 1, 3⟩,
 ⟨28, [83, 72, 82], 2, 1, 3⟩,
 ⟨29, [83, 65, 82], 2, 1, 3⟩,
 ⟨32, [75, 69, 67, 67, 65, 75, 50, 53, 54], 2, 1, 30⟩,
 ⟨48, [65, 68, 68, 82, 69, 83, 83], 0, 1, 2⟩,
 ⟨49, [66, 65, 76, 65, 78, 67, 69], 1, 1, 700⟩,
 ⟨50, [79, 82, 73, 71, 73, 78], 0, 1, 2⟩,
 ⟨51, [67, 65, 76, 76, 69, 82], 0, 1, 2⟩,
 ⟨52, [67, 65, 76, 76, 86, 65, 76, 85, 69], 0, 1, 2⟩,
 ⟨53, [67, 65, 76, 76, 68, 65, 84, 65, 76, 79, 65, 68], 1, 1, 3⟩,
 ⟨54, [67, 65, 76, 76, 68, 65, 84, 65, 83, 73, 90, 69], 0, 1, 2⟩,
 ⟨55, [67, 65, 76, 76, 68, 65, 84, 65, 67, 79, 80, 89], 3, 0, 3⟩,
 ⟨56, [67, 79, 68, 69, 83, 73, 90, 69], 0, 1, 2⟩,
 ⟨57, [67, 79, 68, 69, 67, 79, 80, 89], 3, 0, 3⟩,
 ⟨59, [69, 88, 84, 67, 79, 68, 69, 83, 73, 90, 69], 1, 1, 700⟩,
 ⟨60, [69, 88, 84, 67, 79, 68, 69, 67, 79, 80, 89], 4, 0, 700⟩,
 ⟨61, [82, 69, 84, 85, 82, 78, 68, 65, 84, 65, 83, 73, 90, 69], 0, 1, 2⟩,
 ⟨62, [82, 69, 84, 85, 82, 78, 68, 65, 84, 65, 67, 79, 80, 89], 3, 0, 3⟩,
 ⟨63, [69, 88, 84, 67, 79, 68, 69, 72, 65, 83, 72], 1, 1, 700⟩,
 ⟨65, [67, 79, 73, 78, 66, 65, 83, 69], 0, 1, 2⟩,
 ⟨66, [84, 73, 77, 69, 83, 84, 65, 77, 80], 0, 1, 2⟩,
 ⟨67, [78, 85, 77, 66, 69, 82], 0, 1, 2⟩,
 ⟨69, [71, 65, 83, 76, 73, 77, 73, 84], 0, 1, 2⟩,
 ⟨70, [67, 72, 65, 73, 78, 73, 68], 0, 1, 2⟩,
 ⟨71, [83, 69, 76, 70, 66, 65, 76, 65, 78, 67, 69], 0, 1, 5⟩,
 ⟨80, [80, 79, 80], 1, 0, 2⟩,
 ⟨81, [77, 76, 79, 65, 68], 1, 1, 3⟩,
 ⟨82, [77, 83, 84, 79, 82, 69], 2, 0, 3⟩,
 ⟨83, [77, 83, 84, 79, 82, 69, 56], 2, 0, 3⟩,
 ⟨84, [83, 76, 79, 65, 68], 1, 1, 800⟩,
 ⟨85, [83, 83, 84, 79, 82, 69], 2, 0, 0⟩,
 ⟨86, [74, 85, 77, 80], 1, 0, 8⟩,
 ⟨87, [74, 85, 77, 80, 73], 2, 0, 10⟩,
 ⟨88, [80, 67], 0, 1, 2⟩,
 ⟨89, [77, 83, 73, 90, 69], 0, 1, 2⟩,
 ⟨90, [71, 65, 83], 0, 1, 2⟩,
 ⟨91, [74, 85, 77, 80, 68, 69, 83, 84], 0, 0, 1⟩,
 ⟨95, [80, 85, 83, 72, 48], 0, 1, 2⟩,
 ⟨240, [67, 82, 69, 65, 84, 69], 3, 1, 32000⟩,
 ⟨241, [67, 65, 76, 76], 7, 1, 700⟩,
 ⟨243, [82, 69, 84, 85, 82, 78], 2, 0, 0⟩,
 ⟨244, [68, 69, 76, 69, 71, 65, 84, 69, 67, 65, 76, 76], 6, 1, 700⟩,
 ⟨245, [67, 82, 69, 65, 84, 69, 50], 4, 1, 32000⟩,
 ⟨250, [83, 84, 65, 84, 73, 67, 67, 65, 76, 76], 6, 1, 700⟩,
 ⟨253, [82, 69, 86, 69, 82, 84], 2, 0, 0⟩,
 ⟨255, [83, 69, 76, 70, 68, 69, 83, 84, 82, 85, 67, 84], 1, 0, 5000⟩]
def rangesL (m : Nat) : Inf :=
 if 96 ≤ m ∧ m < 128 then ⟨m, [80, 85, 83, 72] ++ digL (m - 95), 0, 1, 3⟩ else
 if 128 ≤ m ∧ m < 144 then ⟨m, [68, 85, 80] ++ digL (m - 127), m - 127, m - 126, 3⟩ else
 if 144 ≤ m ∧ m < 160 then ⟨m, [83, 87, 65, 80] ++ digL (m - 143), m - 142, m - 142, 3⟩ else
 if 160 ≤ m ∧ m < 165 then ⟨m, [76, 79, 71] ++ digL (m - 160), m - 158, 0, 375 * (m - 159)⟩ else infZ
def rangesT (k : Nat) : List Inf := (List.range 256).map fun i => if i < k then rangesL i else infZ
def laidT (k : Nat) : List Inf := (tableT.take k).foldl (fun l x => l.set x.op.toNat x) (rangesT 256)
def infT : List Inf := laidT 69
theorem infT_len : infT.length = 256 := by decide +kernel
theorem infT_ok : ((List.range 256).all fun m => let x := infT[m]?.getD infZ; match ofL (m : Int) with | none => decide (x.name = []) | some (p, q, g) => decide (x.name ≠ []) && decide (x.pops = p) && decide (x.pushes = q) && decide (x.gas = g)) = true := by decide +kernel
end Go.Mun
namespace Go.Proofs.YtfflppedbopdpaaGreat
open Go.RowKit Go.Mun
theorem ref_table (w : World) : Calls Tryz.prog 248 #[] w fun e w' => e = .returned (.slice (some ⟨w.heap.size, 0, none⟩) 69 69) ∧ w.alloc (.cells (infsC tableT).toArray 142) = w' := by
 obtain ⟨cs, hcs⟩ : ∃ cs, cs = infsC tableT := ⟨_, rfl⟩
 go_enter Tryz.func248, Tryz.ntmps248
 go_wp2_with (with_reducible refine wpList_bslice (o := ⟨some 70, _, _, _, _, _⟩) (e := 142) rfl rfl (infsC tableT) ?h1 ?_)
 case h1 => intro wx; kernel_rfl
 go_ret
 exact ⟨rfl, rfl⟩
theorem ty186 : RowTy Tryz.prog 142 5 := ⟨⟨_, Tryz.underlying142, rfl⟩, by kernel_rfl⟩
def infZC : List Value := infZ.c
section
variable (ρ : Operand → Value) (dst : Option Tmp) (x y z : Operand) (parts : List (Nat × Operand)) (t : TypeId) (pos : String) (after : Array Edge) (gd : Option (Nat × Bool)) (w : World)
theorem ld186 : (execOp ρ ⟨dst, .load 142 x, t, pos, after, gd⟩).run Tryz.prog w = asNext (ldRow Tryz.prog 142 5 (ρ x) w) := ex_load ρ dst x t pos after gd w ty186
theorem st186 : (execOp ρ ⟨dst, .store 142 x y, t, pos, after, gd⟩).run Tryz.prog w = asSkip (stRow Tryz.prog 142 5 (ρ x) (ρ y) w) := ex_store ρ dst x y t pos after gd w ty186
theorem al186 : (execOp ρ ⟨dst, .alloc 142, t, pos, after, gd⟩).run Tryz.prog w = .ok (.value (.pointer (some ⟨w.heap.size, 0, none⟩))) (w.alloc (.cells infZC.toArray 142)) := ex_alloc ρ dst t pos after gd w (fun _ => by kernel_rfl)
theorem bz186 : (execOp ρ ⟨dst, .build 142 #[], t, pos, after, gd⟩).run Tryz.prog w = .ok (.value (.agg infZC.toArray)) w := ex_build0 (fun _ => by kernel_rfl) ρ dst t pos after gd w
end
attribute [go_sem ↓] ld186 st186 al186 bz186

theorem digL_size (n : Nat) : (str (digL n)).size ≤ 2 := by
 rw [str_size]; unfold digL; split <;> simp
theorem slice_dig (r : Int) (h0 : 0 ≤ r) (h1 : r < 10) (w : World) :
  (Instr.slice 9 (.string ⟨#[48, 49, 50, 51, 52, 53, 54, 55, 56, 57, 97, 98, 99, 100, 101, 102]⟩) (some (.int .i64 r)) (some (.int .i64 (r + 1))) none).run Tryz.prog w = .ok (.string (str [dU r.toNat])) w := by
 obtain ⟨n, rfl⟩ := Int.eq_ofNat_of_zero_le h0
 obtain rfl | rfl | rfl | rfl | rfl | rfl | rfl | rfl | rfl | rfl : n = 0 ∨ n = 1 ∨ n = 2 ∨ n = 3 ∨ n = 4 ∨ n = 5 ∨ n = 6 ∨ n = 7 ∨ n = 8 ∨ n = 9 := by omega
 all_goals (clear h0 h1; kernel_rfl)

theorem digits_lo (n : Nat) (hn : n < 10) (x : Int) (hx : x = (n : Int)) (w : World) : Calls Tryz.prog 300 #[.int .i64 x] w fun e w' => e = .returned (.string (str (digL n))) ∧ w = w' := by
 have x0 : 0 ≤ x := by omega
 have x9 : x ≤ 9 := by omega
 have em : x % 10 = x := by omega
 have hs := fun wx => slice_dig x x0 (by omega) wx
 have HD : Hid (str [dU x.toNat] = str (digL n)) := hid (by
  unfold digL
  rw [if_neg (by omega), List.nil_append, hx, Int.toNat_natCast, Nat.mod_eq_of_lt hn])
 clear hx
 go_enter Tryz.func300, Tryz.ntmps300
 go_wp2
 go_ret
 exact ⟨by rw [← HD.out]; rfl, rfl⟩
theorem ref_digits (n : Nat) (hn : n < 100) (x : Int) (hx : x = (n : Int)) (w : World) : Calls Tryz.prog 300 #[.int .i64 x] w fun e w' => e = .returned (.string (str (digL n))) ∧ w = w' := by
 by_cases h9 : n < 10
 ·exact digits_lo n h9 x hx w
 ·have x0 : 10 ≤ x := by omega
  have x9 : x ≤ 99 := by omega
  obtain ⟨r, hr⟩ : ∃ r, r = x % 10 := ⟨_, rfl⟩
  have r0 : 0 ≤ r := by omega
  have r1 : r ≤ 9 := by omega
  have em : x % 10 = r := hr.symm
  have hs := fun wx => slice_dig r r0 (by omega) wx
  have HD : Hid (str (digL (n / 10)) ++ str [dU r.toNat] = str (digL n)) := hid (by
   rw [str_append]
   unfold digL
   rw [if_neg (by omega), if_pos (by omega), List.nil_append]
   have e1 : n / 10 % 10 = n / 10 := by omega
   have e2 : r.toNat = n % 10 := by omega
   rw [e1, e2])
  have HX := hid hx
  clear hr hx
  go_enter Tryz.func300, Tryz.ntmps300
  go_wp2_with fail
  refine (digits_lo (n / 10) (by omega) _ (by have := HX.out; omega) _).mono ?_
  rintro e w1 ⟨rfl, rfl⟩
  have z1 := digL_size (n / 10)
  have z2 : (str [dU r.toNat]).size ≤ 2 := by rw [str_size]; simp
  go_wp2
  go_ret
  exact ⟨by rw [← HD.out]; rfl, rfl⟩
attribute [local irreducible] Inf.c infZC infsC
theorem infZC_ok : okL 5 infZC = true := by unfold infZC Inf.c; rfl
theorem Inf.ok (x : Inf) : okL 5 x.c = true := by unfold Inf.c; simp [okL, Value.oneCell']

def rngOk (m : Nat) : Bool := decide (96 ≤ m) && decide (m < 165)
theorem ref_ranges (m : Nat) (hm : m < 256) (w : World) : Calls Tryz.prog 247 #[.int .u8 (m : Int)] w fun e w' => e = .returned (.tuple #[.agg (rangesL m).c.toArray, .bool (rngOk m)]) ∧ Below w.heap.size w w' := by
 have hf : Hid ((w.alloc (.cells infZC.toArray 142)).free? w.heap.size 0 5 = true) := hid (World.free?_alloc_at _ _ rfl (by rw [okL_len infZC_ok]; decide))
 obtain ⟨x, hx⟩ : ∃ x : Int, x = (m : Int) := ⟨_, rfl⟩
 rw [← hx]
 have x0 : 0 ≤ x := by omega
 have x1 : x ≤ 255 := by omega
 by_cases h1 : 96 ≤ m ∧ m < 128
 ·have hr : rangesL m = ⟨x, ([80, 85, 83, 72] ++ digL (m - 95)), 0, 1, 3⟩ := by unfold rangesL; rw [if_pos h1, hx]
  have hk : rngOk m = true := by unfold rngOk; simp; omega
  have HN := hid (show ⟨#[80, 85, 83, 72]⟩ ++ str (digL (m - 95)) = str (([80, 85, 83, 72] ++ digL (m - 95))) by rw [show (⟨#[80, 85, 83, 72]⟩ : ByteArray) = str [80, 85, 83, 72] from rfl, str_append])
  have g0 : 96 ≤ x := by omega
  have g1 : x < 128 := by omega
  have HX := hid hx
  have H1 := hid h1
  rw [hr, hk]
  have z1 := digL_size (m - 95)
  generalize ([80, 85, 83, 72] ++ digL (m - 95)) = nm at *
  have hok : okL 5 [.int .u8 x, .string (str nm), .int .i64 (0), .int .i64 (1), .int .i64 (3)] = true := by simp [okL, Value.oneCell']
  clear hr hk hx h1 hm
  have hff := hf.out
  go_enter Tryz.func247, Tryz.ntmps247
  go_wp2_with fail
  refine (ref_digits (m - 95) (by have := H1.out; omega) _ (by have := HX.out; have := H1.out; omega) _).mono ?_
  rintro e w1 ⟨rfl, rfl⟩
  have hnn := HN.out
  generalize str (digL (m - 95)) = ds at *
  go_wp2
  exact ret_row2 ty186 rfl [.int .u8 x, .string (str nm), .int .i64 (0), .int .i64 (1), .int .i64 (3)] _ rfl rfl rfl (row?_setCells_whole _ hf.out hok) ⟨by unfold Inf.c; rfl, ((Below.refl _ _).alloc (Nat.le_refl _) _).setCells (Nat.le_refl _) _ _⟩
 by_cases h2 : 128 ≤ m ∧ m < 144
 ·have hr : rangesL m = ⟨x, ([68, 85, 80] ++ digL (m - 127)), x - 127, x - 126, 3⟩ := by unfold rangesL; rw [if_neg h1]; rw [if_pos h2, hx]
  have hk : rngOk m = true := by unfold rngOk; simp; omega
  have HN := hid (show ⟨#[68, 85, 80]⟩ ++ str (digL (m - 127)) = str (([68, 85, 80] ++ digL (m - 127))) by rw [show (⟨#[68, 85, 80]⟩ : ByteArray) = str [68, 85, 80] from rfl, str_append])
  have g0 : 128 ≤ x := by omega
  have g1 : x < 144 := by omega
  have HX := hid hx
  have H1 := hid h2
  rw [hr, hk]
  have z1 := digL_size (m - 127)
  generalize ([68, 85, 80] ++ digL (m - 127)) = nm at *
  have hok : okL 5 [.int .u8 x, .string (str nm), .int .i64 (x - 127), .int .i64 (x - 126), .int .i64 (3)] = true := by simp [okL, Value.oneCell']
  clear hr hk hx h1 h2 hm
  have hff := hf.out
  go_enter Tryz.func247, Tryz.ntmps247
  go_wp2_with fail
  refine (ref_digits (m - 127) (by have := H1.out; omega) _ (by have := HX.out; have := H1.out; omega) _).mono ?_
  rintro e w1 ⟨rfl, rfl⟩
  have hnn := HN.out
  generalize str (digL (m - 127)) = ds at *
  go_wp2
  exact ret_row2 ty186 rfl [.int .u8 x, .string (str nm), .int .i64 (x - 127), .int .i64 (x - 126), .int .i64 (3)] _ rfl rfl rfl (row?_setCells_whole _ hf.out hok) ⟨by unfold Inf.c; rfl, ((Below.refl _ _).alloc (Nat.le_refl _) _).setCells (Nat.le_refl _) _ _⟩
 by_cases h3 : 144 ≤ m ∧ m < 160
 ·have hr : rangesL m = ⟨x, ([83, 87, 65, 80] ++ digL (m - 143)), x - 142, x - 142, 3⟩ := by unfold rangesL; rw [if_neg h1]; rw [if_neg h2]; rw [if_pos h3, hx]
  have hk : rngOk m = true := by unfold rngOk; simp; omega
  have HN := hid (show ⟨#[83, 87, 65, 80]⟩ ++ str (digL (m - 143)) = str (([83, 87, 65, 80] ++ digL (m - 143))) by rw [show (⟨#[83, 87, 65, 80]⟩ : ByteArray) = str [83, 87, 65, 80] from rfl, str_append])
  have g0 : 144 ≤ x := by omega
  have g1 : x < 160 := by omega
  have HX := hid hx
  have H1 := hid h3
  rw [hr, hk]
  have z1 := digL_size (m - 143)
  generalize ([83, 87, 65, 80] ++ digL (m - 143)) = nm at *
  have hok : okL 5 [.int .u8 x, .string (str nm), .int .i64 (x - 142), .int .i64 (x - 142), .int .i64 (3)] = true := by simp [okL, Value.oneCell']
  clear hr hk hx h1 h2 h3 hm
  have hff := hf.out
  go_enter Tryz.func247, Tryz.ntmps247
  go_wp2_with fail
  refine (ref_digits (m - 143) (by have := H1.out; omega) _ (by have := HX.out; have := H1.out; omega) _).mono ?_
  rintro e w1 ⟨rfl, rfl⟩
  have hnn := HN.out
  generalize str (digL (m - 143)) = ds at *
  go_wp2
  exact ret_row2 ty186 rfl [.int .u8 x, .string (str nm), .int .i64 (x - 142), .int .i64 (x - 142), .int .i64 (3)] _ rfl rfl rfl (row?_setCells_whole _ hf.out hok) ⟨by unfold Inf.c; rfl, ((Below.refl _ _).alloc (Nat.le_refl _) _).setCells (Nat.le_refl _) _ _⟩
 by_cases h4 : 160 ≤ m ∧ m < 165
 ·have hr : rangesL m = ⟨x, ([76, 79, 71] ++ digL (m - 160)), x - 158, 0, 375 * (x - 159)⟩ := by unfold rangesL; rw [if_neg h1]; rw [if_neg h2]; rw [if_neg h3]; rw [if_pos h4, hx]
  have hk : rngOk m = true := by unfold rngOk; simp; omega
  have HN := hid (show ⟨#[76, 79, 71]⟩ ++ str (digL (m - 160)) = str (([76, 79, 71] ++ digL (m - 160))) by rw [show (⟨#[76, 79, 71]⟩ : ByteArray) = str [76, 79, 71] from rfl, str_append])
  have g0 : 160 ≤ x := by omega
  have g1 : x < 165 := by omega
  have HX := hid hx
  have H1 := hid h4
  rw [hr, hk]
  have z1 := digL_size (m - 160)
  generalize ([76, 79, 71] ++ digL (m - 160)) = nm at *
  have hok : okL 5 [.int .u8 x, .string (str nm), .int .i64 (x - 158), .int .i64 (0), .int .i64 (375 * (x - 159))] = true := by simp [okL, Value.oneCell']
  clear hr hk hx h1 h2 h3 h4 hm
  have hff := hf.out
  go_enter Tryz.func247, Tryz.ntmps247
  go_wp2_with fail
  refine (ref_digits (m - 160) (by have := H1.out; omega) _ (by have := HX.out; have := H1.out; omega) _).mono ?_
  rintro e w1 ⟨rfl, rfl⟩
  have hnn := HN.out
  generalize str (digL (m - 160)) = ds at *
  go_wp2
  exact ret_row2 ty186 rfl [.int .u8 x, .string (str nm), .int .i64 (x - 158), .int .i64 (0), .int .i64 (375 * (x - 159))] _ rfl rfl rfl (row?_setCells_whole _ hf.out hok) ⟨by unfold Inf.c; rfl, ((Below.refl _ _).alloc (Nat.le_refl _) _).setCells (Nat.le_refl _) _ _⟩
 ·have hr : rangesL m = infZ := by unfold rangesL; rw [if_neg h1, if_neg h2, if_neg h3, if_neg h4]
  have hk : rngOk m = false := by unfold rngOk; simp; omega
  rw [hr, hk]
  have hh : Hid (x < 96 ∨ 165 ≤ x) := hid (by omega)
  have hz : infZ.c = infZC := by unfold infZC; rfl
  rw [hz]
  have hff := hf.out
  have hok := infZC_ok
  clear hr hk hx h1 h2 h3 h4 hm hz
  by_cases hlo : x < 96
  focus
   clear hh
  rotate_left
  focus
   have hhi : 165 ≤ x := by have := hh.out; omega
   clear hh hlo
  all_goals
   go_enter Tryz.func247, Tryz.ntmps247
   go_wp2
   exact ret_row2 ty186 rfl _ _ rfl rfl rfl (row?_setCells_whole _ hf.out hok) ⟨rfl, ((Below.refl _ _).alloc (Nat.le_refl _) _).setCells (Nat.le_refl _) _ _⟩
end Go.Proofs.YtfflppedbopdpaaGreat
namespace Go.Mun
open Go.RowKit
theorem rangesT_len (k : Nat) : (rangesT k).length = 256 := by simp [rangesT]
theorem rangesT_set (k : Nat) : (rangesT k).set k (rangesL k) = rangesT (k + 1) := by
 apply List.ext_getElem (by simp [rangesT])
 intro i h1 h2
 simp only [List.getElem_set, rangesT, List.getElem_map, List.getElem_range]
 by_cases hi : k = i
 ·subst hi; simp
 ·rw [if_neg hi]
  by_cases h3 : i < k
  ·rw [if_pos h3, if_pos (by omega)]
  ·rw [if_neg h3, if_neg (by omega)]
theorem rangesT_zero : rangesT 0 = List.replicate 256 infZ := by
 have h : ∀ n : Nat, ((List.range n).map fun i => if i < 0 then rangesL i else infZ) = List.replicate n infZ := by
  intro n
  apply List.ext_getElem (by rw [List.length_map, List.length_range, List.length_replicate])
  intro i h1 h2
  rw [List.getElem_map, List.getElem_replicate, if_neg (Nat.not_lt_zero _)]
 exact h 256
theorem laidT_len (k : Nat) : (laidT k).length = 256 := by
 unfold laidT
 have : ∀ (xs l : List Inf), l.length = 256 → (xs.foldl (fun l x => l.set x.op.toNat x) l).length = 256 := by
  intro xs
  induction xs with
  | nil => intro l h; exact h
  | cons x xs ih => intro l h; exact ih _ (by simpa using h)
 exact this _ _ (rangesT_len 256)
theorem laidT_set (k : Nat) (x : Inf) (h : tableT[k]? = some x) : (laidT k).set x.op.toNat x = laidT (k + 1) := by
 unfold laidT
 rw [List.take_add_one, h, List.foldl_append]
 rfl
theorem table_op : ∀ k : Fin 69, ∃ x, tableT[k.1]? = some x ∧ 0 ≤ x.op ∧ x.op < 256 := by
 intro k
 have : ∀ k : Fin 69, 0 ≤ (tableT[k.1]?.getD infZ).op ∧ (tableT[k.1]?.getD infZ).op < 256 := by decide +kernel
 have h := this k
 have hl : k.1 < tableT.length := k.2
 rw [List.getElem?_eq_getElem hl] at h ⊢
 exact ⟨_, rfl, h⟩
end Go.Mun
namespace Go.Proofs.YtfflppedbopdpaaGreat
open Go.RowKit Go.Mun
def infs0 : List Value := infsC (List.replicate 256 infZ)
theorem ty187 : RowTy Tryz.prog 143 1280 := ⟨⟨_, Tryz.underlying143, rfl⟩, by kernel_rfl⟩
section
variable (ρ : Operand → Value) (dst : Option Tmp) (x y z : Operand) (parts : List (Nat × Operand)) (t : TypeId) (pos : String) (after : Array Edge) (gd : Option (Nat × Bool)) (w : World)
theorem ld187 : (execOp ρ ⟨dst, .load 143 x, t, pos, after, gd⟩).run Tryz.prog w = asNext (ldRow Tryz.prog 143 1280 (ρ x) w) := ex_load ρ dst x t pos after gd w ty187
theorem st187 : (execOp ρ ⟨dst, .store 143 x y, t, pos, after, gd⟩).run Tryz.prog w = asSkip (stRow Tryz.prog 143 1280 (ρ x) (ρ y) w) := ex_store ρ dst x y t pos after gd w ty187
theorem al187 : (execOp ρ ⟨dst, .alloc 143, t, pos, after, gd⟩).run Tryz.prog w = .ok (.value (.pointer (some ⟨w.heap.size, 0, none⟩))) (w.alloc (.cells infs0.toArray 143)) := ex_alloc ρ dst t pos after gd w (fun _ => by kernel_rfl)
end
attribute [go_sem ↓] ld187 st187 al187
theorem infs0_len : infs0.length = 1280 := by unfold infs0; rw [infsC_len, List.length_replicate]
attribute [local irreducible] Inf.c infZC infsC infs0

structure AllR (l : List Inf) (w wr : World) : Prop where
 below : Below w.heap.size w wr
 size : w.heap.size + 1 < wr.heap.size
 res : wr.free? w.heap.size 0 1280 = true
 free : wr.free? (w.heap.size + 1) 0 1280 = true
 row : wr.row? (w.heap.size + 1) 0 1280 = some (infsC l)
 len : l.length = 256

theorem AllR.start (w : World) : AllR (rangesT 0) w ((w.alloc (.cells infs0.toArray 143)).alloc (.cells infs0.toArray 143)) := by
 have hs : (w.alloc (.cells infs0.toArray 143)).heap.size = w.heap.size + 1 := by simp
 refine ⟨((Below.refl _ _).alloc (Nat.le_refl _) _).alloc (by simp) _, by simp, ?_, ?_, ?_, rangesT_len 0⟩
 ·rw [World.free?_alloc_lt _ (by simp)]; exact World.free?_alloc_at _ _ rfl (by rw [infs0_len]; decide)
 ·rw [← hs]; exact World.free?_alloc_at _ _ rfl (by rw [infs0_len]; decide)
 ·rw [← hs, World.row?_alloc_at _ _ _ rfl infs0_len, rangesT_zero]; unfold infs0; rfl
theorem AllR.next {l : List Inf} {w wr w2 : World} (h : AllR l w wr) (hb : Below wr.heap.size wr w2) : AllR l w w2 := by
 obtain ⟨h1, h2, h3, h4, h5, h6⟩ := h
 have l1 := free?_lt h3
 have l2 := free?_lt h4
 exact ⟨h1.trans (hb.mono h1.size), Nat.lt_of_lt_of_le h2 hb.size, free?_below hb l1 h3, free?_below hb l2 h4, by rw [(brow hb).1 _ _ _ l2]; exact h5, h6⟩
theorem AllR.drew {l : List Inf} {w wr : World} (h : AllR l w wr) : AllR l w wr.drew := ⟨h.below.drew, h.size, h.res, h.free, h.row, h.len⟩
theorem AllR.set {l : List Inf} {w wr : World} (h : AllR l w wr) (i : Nat) (hi : i < 256) (x : Inf) : AllR (l.set i x) w (wr.setCells (w.heap.size + 1) (i * 5) x.c) := by
 obtain ⟨h1, h2, h3, h4, h5, h6⟩ := h
 have hc : x.c.length = 5 := by unfold Inf.c; rfl
 refine ⟨h1.setCells (by omega) _ _, by simpa using h2, by rw [World.free?_setCells']; exact h3, by rw [World.free?_setCells']; exact h4, ?_, by simpa using h6⟩
 rw [World.row?_setCells_in (i * 5) x.c h5 (Nat.zero_le _) (by rw [hc]; omega), Nat.sub_zero, Nat.mul_comm i 5, infsC_set l i x (by omega)]
theorem AllR.at {l : List Inf} {w wr : World} (h : AllR l w wr) (i : Nat) (hi : i < 256) : wr.free? (w.heap.size + 1) (i * 5) 5 = true :=
 World.free?_sub h.free (by omega)

def TblR (b : Nat) (wr : World) : Prop := ∀ (i : Nat) (x : Inf), tableT[i]? = some x → wr.row? b (i * 5) 5 = some x.c
theorem TblR.new (w : World) : TblR w.heap.size (w.alloc (.cells (infsC tableT).toArray 142)) := by
 intro i x hx
 have hi : i < tableT.length := (List.getElem?_eq_some_iff.1 hx).1
 have hl : tableT.length = 69 := rfl
 rw [World.row?_alloc_sub _ _ _ rfl (by rw [infsC_len]; omega), Nat.mul_comm i 5, infsC_at _ i x hx]
theorem TblR.set {b b' o : Nat} {cs : List Value} {wr : World} (h : TblR b wr) (hb : b ≠ b') : TblR b (wr.setCells b' o cs) := by
 intro i x hx
 rw [World.row?_setCells_other _ _ _ hb]; exact h i x hx
theorem inf_cell0 {w : World} {b o : Nat} {x : Inf} (h : w.row? b o 5 = some x.c) : w.cell? ⟨b, o, none⟩ = some (.int .u8 x.op) := by
 have := World.row?_cell h (i := 0) (by decide)
 simp only [Nat.add_zero] at this
 rw [this]; unfold Inf.c; rfl
theorem ref_all (w : World) : Calls Tryz.prog 176 #[] w fun e w' => e = .returned (.agg (infsC infT).toArray) ∧ Below w.heap.size w w' := by
 go_enter Tryz.func176, Tryz.ntmps176
 go_wp2
 go_loopw [2] (fun i wr => ∃ k : Nat, k ≤ 256 ∧ i = .int .i64 (k : Int) ∧ Hid (AllR (rangesT k) w wr)) (fun i _ => 256 - (intOf i).toNat)
 case atStart => exact ⟨0, by omega, rfl, hid (AllR.start w)⟩
 case round =>
  obtain ⟨k, hk, rfl, HR⟩ := hrel
  by_cases hlt : k < 256
  ·go_wp2_with fail
   refine (ref_ranges k hlt _).mono ?_
   rintro e w1 ⟨rfl, hb⟩
   have H1 := hid (HR.out.next hb)
   have hf := H1.out.at k hlt
   have hok := Inf.ok (rangesL k)
   have HS := hid (rangesT_set k)
   clear hb
   generalize hx : rangesL k = x at *
   clear hx
   go_wp2
   go_roundw
   case rel => exact ⟨k + 1, by omega, by go_num, hid (by have := H1.out.set k hlt x; rw [HS.out] at this; exact this)⟩
   case measure => simp [intOf]; omega
  ·have hk256 : k = 256 := by omega
   rw [hk256] at HR
   have hge : 256 ≤ k := by omega
   clear hk256
   go_wp2_with fail
   refine (ref_table _).mono ?_
   rintro e w1 ⟨rfl, hw1⟩
   have hb := (Below.refl wr.heap.size wr).alloc (Nat.le_refl _) (.cells (infsC tableT).toArray 142)
   have ht := TblR.new wr
   rw [hw1] at hb ht
   have A1 := hid (HR.out.next hb)
   have T1 := hid ht
   have hne : wr.heap.size ≠ w.heap.size + 1 := by have := HR.out.size; omega
   clear hb ht hw1
   generalize wr.heap.size = Bt at *
   go_wp2
   go_loopw [4] (fun i wr => ∃ k : Nat, k ≤ 69 ∧ i = .int .i64 (k : Int) ∧ Hid (AllR (laidT k) w wr) ∧ Hid (TblR Bt wr)) (fun i _ => 69 - (intOf i).toNat)
   case atStart => exact ⟨0, by omega, rfl, A1, T1⟩
   case round =>
    obtain ⟨k, hk, rfl, HR, HT⟩ := hrel
    by_cases hlt : k < 69
    ·obtain ⟨x, hx, x0, x1⟩ := table_op ⟨k, hlt⟩
     simp only at hx
     obtain ⟨o, ho⟩ := Int.eq_ofNat_of_zero_le x0
     have hrow := HT.out k x hx
     have hcell := inf_cell0 hrow
     rw [ho] at hcell x1
     have ho256 : o < 256 := by omega
     have hf := HR.out.at o ho256
     have hok := Inf.ok x
     have HS : Hid ((laidT k).set o x = laidT (k + 1)) := hid (by
      have := laidT_set k x hx
      rw [ho, Int.toNat_natCast] at this; exact this)
     clear hx ho x0
     go_wp2
     go_region_held3 (fun w' => w'.cell? ⟨Bt, k * 5, none⟩ = some (.int .u8 (o : Int)) ∧ w'.row? Bt (k * 5) 5 = some (Inf.c x)) (first | exact ⟨hcell, hrow⟩ | exact ⟨(World.cell?_setCells_block _ _ _ _ hne).trans hcell, (World.row?_setCells_other _ _ _ hne).trans hrow⟩) ((fail))
     go_wp2
     go_roundw
     case rel => exact ⟨k + 1, by omega, by go_num, hid (by have := HR.out.drew.set o ho256 x; rw [HS.out] at this; exact this), hid (TblR.set (wr := wr.drew) HT.out hne)⟩
     case measure => simp [intOf]; omega
    ·have hk69 : k = 69 := by omega
     have hge2 : 69 ≤ k := by omega
     rw [hk69] at HR
     clear hk69
     have hr1 := HR.out.row
     have hr2 := HR.out.res
     have hok : okL 1280 (infsC (laidT 69)) = true := by
      have := infsC_ok (laidT 69)
      rw [laidT_len] at this
      exact this
     have hbl := HR.out.below
     have HBL := hid hbl
     clear hbl
     go_wp2
     exact ret_row ty187 rfl _ rfl rfl hr2 hok ⟨rfl, HBL.out.setCells (Nat.le_refl _) _ _⟩
end Go.Proofs.YtfflppedbopdpaaGreat
namespace Go.Proofs.YtfflppedbopdpaaGreat
open Go.RowKit Go.Mun
theorem lens81 : lens zs81 = [20, 1, 32, 1, 1] := by kernel_rfl
theorem build81a (a b : Nat) (p : Option Addr) (k c : Nat) : fillL 55 (plOf zs81) (cat zs81) [(0, .agg (beC 20 a).toArray), (2, .agg (beC 32 b).toArray), (3, .slice p k c)] = some (cat (acS ⟨a, 0, b, []⟩ (.slice p k c) (.slice none 0 0))) := by
 rw [fillL_cats _ _ _ zs81_len]
 ·rfl
 ·rw [lens81]
  refine fits_cons ?_ (fits_cons ?_ (fits_cons rfl (fits_nil _)))
  ·show some 20 = some (beC 20 a).length; rw [beC_len]
  ·show some 32 = some (beC 32 b).length; rw [beC_len]
theorem build81b (a b : Nat) : fillL 55 (plOf zs81) (cat zs81) [(0, .agg (beC 20 a).toArray), (2, .agg (beC 32 b).toArray)] = some (cat (acS ⟨a, 0, b, []⟩ (.slice none 0 0) (.slice none 0 0))) := by
 rw [fillL_cats _ _ _ zs81_len]
 ·rfl
 ·rw [lens81]
  refine fits_cons ?_ (fits_cons ?_ (fits_nil _))
  ·show some 20 = some (beC 20 a).length; rw [beC_len]
  ·show some 32 = some (beC 32 b).length; rw [beC_len]
theorem sl36_2 : SliceLit Tryz.prog 45 35 55 2 (cat [cat zs81, cat zs81]) := ⟨Tryz.underlying45, ⟨_, .agg (cat zs81).toArray, rfl, by kernel_rfl, by kernel_rfl, by kernel_rfl⟩, by decide, by kernel_rfl, by decide⟩
def fill36 (p : List (Nat × Value)) : Option (List Value) := fillL (2 * 55) ((List.range 2).map fun i => (i * 55, 55)) (cat [cat zs81, cat zs81]) p
theorem bs36_2 (ρ : Operand → Value) (dst : Option Tmp) (x y : Operand) (t : TypeId) (pos : String) (after : Array Edge) (gd : Option (Nat × Bool)) (w : World) :
  (execOp ρ ⟨dst, .buildSlice 45 2 #[(0, x), (1, y)], t, pos, after, gd⟩).run Tryz.prog w = asNext (bsRow Tryz.prog 45 35 2 [(0, ρ x), (1, ρ y)] w (fill36 [(0, ρ x), (1, ρ y)])) :=
 ex_bslice ρ dst t pos after gd w sl36_2 [(0, x), (1, y)]
theorem fill36_two (a b : List Value) (ha : a.length = 55) (hb : b.length = 55) : fill36 [(0, .agg a.toArray), (1, .agg b.toArray)] = some (cat [a, b]) := by
 unfold fill36
 have h1 : lens [cat zs81, cat zs81] = [55, 55] := by kernel_rfl
 have h3 : plOf [cat zs81, cat zs81] = (List.range 2).map fun i => (i * 55, 55) := by kernel_rfl
 rw [← h3, fillL_cats _ _ _ (by kernel_rfl)]
 ·rfl
 ·rw [h1]
  refine fits_cons ?_ (fits_cons ?_ (fits_nil _))
  ·show some 55 = some a.length; rw [ha]
  ·show some 55 = some b.length; rw [hb]
attribute [go_sem ↓] bs36_2
def oneL (code : Bts) : List Ac := [⟨1, 0, 1000, code⟩, ⟨2, 0, 5000, []⟩]
theorem law_one {w : World} {cv : Value} {code : Bts} (hc : RoAt w (fun _ => False) cv code) :
  Calls Tryz.prog 25 #[cv] w fun e w' => ∃ b, e = .returned (.slice (some ⟨b, 0, none⟩) 2 2) ∧ Below w.heap.size w w' ∧ ∀ i (hi : i < (oneL code).length), AcAt w' b (0 + i * 55) (oneL code)[i] := by
 obtain ⟨⟨ca, cc, rfl, hci, hcx⟩, hcb, hcl⟩ := hc
 have HC : Hid (RoAt w (fun _ => False) (.slice ca code.length cc) code) := ⟨⟨ca, cc, rfl, hci, hcx⟩, hcb, hcl⟩
 have o1 : ofW 1000 = 1000 := by kernel_rfl
 have o2 : ofW 5000 = 5000 := by kernel_rfl
 have N1 := hid (fun w => ref_name 1 (by decide) w)
 have N2 := hid (fun w => ref_name 2 (by decide) w)
 have O1 := hid (fun w => ref_of 1000 (by decide) (by decide) w)
 have O2 := hid (fun w => ref_of 5000 (by decide) (by decide) w)
 rw [o1] at O1
 rw [o2] at O2
 have b1 := build81a 1 1000 ca code.length cc
 have b2 := build81b 2 5000
 have bf := fill36_two (cat (acS ⟨1, 0, 1000, []⟩ (.slice ca code.length cc) (.slice none 0 0))) (cat (acS ⟨2, 0, 5000, []⟩ (.slice none 0 0) (.slice none 0 0))) (acS_len _ _ _) (acS_len _ _ _)
 clear hci hcx hcb hcl o1 o2
 go_enter Tryz.func25, Tryz.ntmps25
 go_wp2_with fail
 refine (N1.out _).mono ?_
 rintro e w1 ⟨rfl, h1⟩
 go_wp2_with fail
 refine (O1.out _).mono ?_
 rintro e w2 ⟨rfl, h2⟩
 go_wp2_with fail
 refine (N2.out _).mono ?_
 rintro e w3 ⟨rfl, h3⟩
 go_wp2_with fail
 refine (O2.out _).mono ?_
 rintro e w4 ⟨rfl, h4⟩
 have hb : Below w.heap.size w w4 := ((h1.trans (h2.mono h1.size)).trans (h3.mono (by have := h1.size; have := h2.size; omega))).trans (h4.mono (by have := h1.size; have := h2.size; have := h3.size; omega))
 have HB := hid hb
 clear h1 h2 h3 h4 hb
 go_wp2
 go_ret
 refine ⟨_, rfl, HB.out.alloc HB.out.size _, fun i hi => ?_⟩
 have r := World.row?_alloc_at (w := w4) (cat [cat (acS ⟨1, 0, 1000, []⟩ (.slice ca code.length cc) (.slice none 0 0)), cat (acS ⟨2, 0, 5000, []⟩ (.slice none 0 0) (.slice none 0 0))]) 35 (0, 0) rfl (n := 110) (by rw [cat_len_cons, cat_len_cons, acS_len, acS_len]; rfl)
 have hb2 := HB.out.alloc HB.out.size (.cells (cat [cat (acS ⟨1, 0, 1000, []⟩ (.slice ca code.length cc) (.slice none 0 0)), cat (acS ⟨2, 0, 5000, []⟩ (.slice none 0 0) (.slice none 0 0))]).toArray 35)
 match i, hi with
 | 0, _ => exact ⟨⟨_, row_cat r (i := 0) rfl (by simp [offOf_zero]) (by simp), HC.out.below hb2⟩, by show 1 < wA; decide, by show 1000 < wW; decide, by show (0 : Int) ≤ _; decide⟩
 | 1, _ => exact ⟨⟨_, row_cat r (i := 1) rfl (by simp [offOf_succ, offOf_zero]) (by simp), roAt_nil _ _⟩, by show 2 < wA; decide, by show 5000 < wW; decide, by show (0 : Int) ≤ _; decide⟩
 | i + 2, hi => exact absurd hi (by simp [oneL])
end Go.Proofs.YtfflppedbopdpaaGreat
namespace Go.Proofs.YtfflppedbopdpaaGreat
open Go.RowKit Go.Mun
def codeA : Bts := [96, 5, 96, 0, 85]
def msgA : Msg := ⟨0, 2, 1, 0, 0, 0, [], 30000, 0, false⟩
def stA : St := newS (oneL codeA)
def st1A : St := (stA.setBal 2 5000).setBal 1 1000
theorem moveA : stA.move msgA.frm msgA.to msgA.value = some st1A := by kernel_rfl
theorem loopA : (loopR stepP 10 (frame0 msgA (st1A msgA.to).code) st1A).map (fun r => (r.1, r.2.1.gas, (r.2.2 1).slots 0)) = some (0, 9994, 5) := by kernel_rfl
theorem runA : ∃ f' S', loopR stepP 10 (frame0 msgA (st1A msgA.to).code) st1A = some (0, f', S') ∧ f'.gas = 9994 ∧ (S' 1).slots 0 = 5 := by
 have h := loopA
 cases e : loopR stepP 10 (frame0 msgA (st1A msgA.to).code) st1A with
 | none => rw [e] at h; cases h
 | some r =>
  obtain ⟨x, f', S'⟩ := r
  rw [e] at h
  simp only [Option.map_some, Option.some.injEq, Prod.mk.injEq] at h
  obtain ⟨rfl, h2, h3⟩ := h
  exact ⟨f', S', rfl, h2, h3⟩
theorem lens42 : lens zs42 = [1, 20, 20, 20, 32, 32, 1, 1, 1, 1] := by kernel_rfl
theorem build42a : fillL 129 (plOf zs42) (cat zs42) [(1, .agg (beC 20 2).toArray), (2, .agg (beC 20 1).toArray), (7, .int .i64 30000)] = some (cat (msgS msgA (.slice none 0 0))) := by
 rw [fillL_cats _ _ _ zs42_len]
 ·rfl
 ·rw [lens42]
  refine fits_cons ?_ (fits_cons ?_ (fits_cons rfl (fits_nil _)))
  ·show some 20 = some (beC 20 2).length; rw [beC_len]
  ·show some 20 = some (beC 20 1).length; rw [beC_len]
theorem law_num (e : Int) (w : World) : Calls Tryz.prog 17 #[.int .i64 e] w fun r w' => r = .returned (.int .i64 e) ∧ w' = w := by
 go_enter Tryz.func17, Tryz.ntmps17
 go_wp2
 go_ret
 exact ⟨rfl, rfl⟩
theorem law_alive (w : World) : Calls Tryz.prog 8 #[] w fun e w' => e = .returned (.bool true) ∧ Below w.heap.size w w' := by
 obtain ⟨f', S', hrun, hgas, hslot⟩ := runA
 have HR := hid hrun
 have HGS := hid hgas
 have HSL := hid hslot
 have o5 : ofW 5 = 5 := by kernel_rfl
 have N1 := hid (fun w => ref_name 1 (by decide) w)
 have N2 := hid (fun w => ref_name 2 (by decide) w)
 have O5 := hid (fun w => ref_of 5 (by decide) (by decide) w)
 rw [o5] at O5
 have b42 := build42a
 have HRO : Hid (RoAt (w.alloc (.cells (codeA.map (Value.int .u8)).toArray 5)) (fun _ => False) (.slice (some ⟨w.heap.size, 0, none⟩) codeA.length codeA.length) codeA) :=
  ⟨⟨_, _, rfl, Ints.new w .u8 codeA 5 (by decide), fun _ _ _ h => h⟩, by intro x hx; simp [codeA] at hx; omega, by decide⟩
 have HB0 : Hid (Below w.heap.size w (w.alloc (.cells (codeA.map (Value.int .u8)).toArray 5))) := (Below.refl _ _).alloc (Nat.le_refl _) _
 clear hrun hgas hslot o5
 go_enter Tryz.func8, Tryz.ntmps8
 go_wp2_with fail
 refine (law_one HRO.out).mono ?_
 rintro e w1 ⟨b, rfl, hb1, hac⟩
 have HN := hid (state_new b 0 2 (oneL codeA) (by decide) w1 hac)
 have HB1 := hid (HB0.out.trans (hb1.mono HB0.out.size))
 clear hb1 hac HB0
 go_wp2_with fail
 refine HN.out.mono ?_
 rintro e w2 ⟨sb, rfl, hb2, own, hst, hlo⟩
 have HST := hid hst
 have HLO := hid hlo
 have HB2 := hid (HB1.out.trans (hb2.mono HB1.out.size))
 clear hst hlo hb2
 go_wp2_with fail
 refine (N2.out _).mono ?_
 rintro e w3 ⟨rfl, hb3⟩
 have HST3 := hid (HST.out.below hb3)
 have HB3 := hid (HB2.out.trans (hb3.mono HB2.out.size))
 clear hb3
 go_wp2_with fail
 refine (N1.out _).mono ?_
 rintro e w4 ⟨rfl, hb4⟩
 have HST4 := hid (HST3.out.below hb4)
 have HB4 := hid (HB3.out.trans (hb4.mono HB3.out.size))
 clear hb4
 have HRUN := hid (evm_run_ok (w := w4) (cx := ⟨0, 0, 0, 0, 0⟩) (N := 40000) (m := msgA) HST4.out (by decide) ⟨by show 2 < wA; decide, by show 1 < wA; decide, by show 0 < wA; decide, by show 0 < wW; decide, by show 0 < wW; decide, by decide, by decide⟩ rfl (by decide) (by decide) (roAt_nil _ _) (by decide) (fun rb tb tab ht => stepP_ok ht) moveA HR.out)
 go_wp2_with fail
 refine HRUN.out.mono ?_
 rintro e w5 ⟨o, ov, lv, own5, n5, rfl, st5, g5, oa5, -, -, h3, h4, -, -⟩
 obtain ⟨oa, ok, lb, lj, rfl, rfl⟩ := oa5.forms
 have hok8 := outS_ok o oa lb o.out.length ok o.logs.length lj
 have hf5 : (w5.alloc (.cells (cat zs46).toArray 41)).free? w5.heap.size 0 24 = true := World.free?_alloc_at _ _ rfl (by rw [zs46_len]; omega)
 have hbx := box_new (w := w5) (t := 41) (n := 24) zs46_len hok8
 obtain ⟨w6, e6⟩ : ∃ w6, w6 = (w5.alloc (.cells (cat zs46).toArray 41)).setCells w5.heap.size 0 (cat (outS o (.slice oa o.out.length ok) (.slice lb o.logs.length lj))) := ⟨_, rfl⟩
 rw [← e6] at hbx
 have c0 := out_gas hbx.2
 have c1 := out_err hbx.2
 rw [h4, HGS.out] at c0
 rw [h3, Nat.zero_add] at c1
 have HST6 := hid (st5.below hbx.1)
 have HB5 : Hid (Below w.heap.size w w5) := HB4.out.trans (g5.only.below HB4.out.size (fun i hi => Nat.le_trans HB1.out.size (HLO.out i hi)))
 have HB6 := hid (HB5.out.trans (hbx.1.mono HB5.out.size))
 have HE6 := hid e6
 have HC0 := hid c0
 have HC1 := hid c1
 rw [e6] at c0 c1
 have heq : ∀ w, (binOp .eql 25 (.agg (beC 32 5).toArray) (.agg (beC 32 5).toArray)).run Tryz.prog w = .ok (.bool true) w := fun w => by
  have := eql_of (fun d => eqD25 (a := 5) (b := 5) (by decide) (by decide) w d)
  simpa using this
 clear st5 g5 oa5 h3 h4 e6 hbx b42
 have HEQ := hid heq
 clear heq
 generalize Value.agg (cat (msgS msgA (Value.slice none 0 0))).toArray = vm at *
 generalize Value.agg (cat zs49).toArray = vc at *
 go_wp2_with fail
 rw [← HE6.out]
 have d0 := HC0.out
 have d1 := HC1.out
 refine (law_num 0 _).mono ?_
 rintro e w7 ⟨rfl, rfl⟩
 go_wp2_with fail
 refine (N1.out _).mono ?_
 rintro e w8 ⟨rfl, hb8⟩
 have HST8 := hid (HST6.out.below hb8)
 have HB8 := hid (HB6.out.trans (hb8.mono HB6.out.size))
 clear hb8
 go_wp2_with fail
 refine (st_slot HST8.out 1 0 (by decide) (by decide)).mono ?_
 rintro e w9 ⟨rfl, hb9⟩
 have HB9 := hid (HB8.out.trans (hb9.mono HB8.out.size))
 clear hb9
 rw [HSL.out]
 go_wp2_with fail
 refine (O5.out _).mono ?_
 rintro e w10 ⟨rfl, hb10⟩
 have HBX := hid (HB9.out.trans (hb10.mono HB9.out.size))
 clear hb10
 have heq := HEQ.out
 go_wp2
 go_ret
 exact ⟨rfl, HBX.out⟩
end Go.Proofs.YtfflppedbopdpaaGreat
namespace Go.Proofs.YtfflppedbopdpaaGreat
open Go.RowKit Go.Mun
structure REnv where
 (w0 : World) (own0 : Go.Mun.Own) (sb fb : Nat) (m0 : Msg) (dv : Value) (cx : Ctx) (M0 : List (Nat × St)) (N : Nat)
structure RFV where
 (code data sv mv told out lv jv : Value) (tl : List Value)
def rfS (E : REnv) (c : RFV) (f : Fr) : List (List Value) :=
 [[.pointer (some ⟨E.sb, 0, none⟩)], cat (msgS E.m0 E.dv), cat (ctxS E.cx), beC 20 f.m.to, [c.code], [c.data], beC 32 f.m.value, [.bool f.m.static], [.int .i64 f.gas], [.int .i64 f.next], [c.sv], [c.mv], [c.told], [c.out], [c.lv], [.bool f.ended], c.tl]
theorem rfS_len (E : REnv) (c : RFV) (f : Fr) (h : c.tl.length = 1280) : (cat (rfS E c f)).length = 1516 := by simp only [rfS, cat_len_cons, cat_len_nil]; simp [h]
def rmu (own : Go.Mun.Own) (fb : Nat) (c : RFV) (b : Nat) : Prop := hot own b ∨ b = fb ∨ c.sv.ownBlock = some b ∨ c.mv.ownBlock = some b
structure RFrOk (E : REnv) (w : World) (own : Go.Mun.Own) (c : RFV) (f : Fr) (S : St) (M : List (Nat × St)) (n : Nat) : Prop where
 row : w.row? E.fb 0 1516 = some (cat (rfS E c f))
 free : w.free? E.fb 0 1516 = true
 tlen : c.tl.length = 1280
 base : E.w0.heap.size ≤ E.fb
 fown : own E.fb = none
 chg : ChgR E.w0 w E.own0 own
 mok : MsgOk f.m
 stk : w.ownsRow E.w0.heap.size 25 32 c.sv f.stack.length (stkC f.stack)
 sown : ∀ g, c.sv.ownBlock = some g → own g = none ∧ g ≠ E.fb
 sval : ∀ x ∈ f.stack, x < wW
 slen : f.stack.length ≤ 1024
 mem : w.ownsRow E.w0.heap.size 5 1 c.mv f.mem.length (f.mem.map (Value.int .u8))
 mown : ∀ g, c.mv.ownBlock = some g → own g = none ∧ g ≠ E.fb ∧ c.sv.ownBlock ≠ some g
 mbyte : Byt f.mem
 mlen : f.mem.length ≤ 1048576 ∧ f.mem.length % 32 = 0
 logs : f.logs = [] ∧ c.lv = .slice none 0 0
 code : RoAt w (rmu own E.fb c) c.code f.code
 data : RoAt w (rmu own E.fb c) c.data f.m.data
 out : RoAt w (rmu own E.fb c) c.out f.out
 told : RoAt w (rmu own E.fb c) c.told f.ret
 jmp : c.jv ≠ .nilFunc → ∃ ja jc, c.jv = .slice ja (jumps f.code f.code.length 0).length jc ∧ Ints w .i64 ja jc (jumps f.code f.code.length 0) ∧ (jumps f.code f.code.length 0 ≠ [] → ∀ p, ja = some p → ¬ rmu own E.fb c p.block)
 st : RState w own E.sb S M n
 ms : ∃ T, M = E.M0 ++ T
 cnt : n + f.gas ≤ E.N
 lim : E.N ≤ 999000
 nxt : f.next ≤ 2199023255552
section
variable {w : World} {E : REnv} {c : RFV} {f : Fr}
theorem rf_ptr (h : w.row? E.fb 0 1516 = some (cat (rfS E c f))) : w.cell? ⟨E.fb, 0, none⟩ = some (.pointer (some ⟨E.sb, 0, none⟩)) := cell_cat h (i := 0) rfl (by simp [rfS, offOf_succ, offOf_zero])
theorem rf_self (h : w.row? E.fb 0 1516 = some (cat (rfS E c f))) : w.row? E.fb 173 20 = some (beC 20 f.m.to) := row_cat h (i := 3) rfl (by simp [rfS, offOf_succ, offOf_zero]) (by simp)
theorem rf_code (h : w.row? E.fb 0 1516 = some (cat (rfS E c f))) : w.cell? ⟨E.fb, 193, none⟩ = some (c.code) := cell_cat h (i := 4) rfl (by simp [rfS, offOf_succ, offOf_zero])
theorem rf_static (h : w.row? E.fb 0 1516 = some (cat (rfS E c f))) : w.cell? ⟨E.fb, 227, none⟩ = some (.bool f.m.static) := cell_cat h (i := 7) rfl (by simp [rfS, offOf_succ, offOf_zero])
theorem rf_gas (h : w.row? E.fb 0 1516 = some (cat (rfS E c f))) : w.cell? ⟨E.fb, 228, none⟩ = some (.int .i64 f.gas) := cell_cat h (i := 8) rfl (by simp [rfS, offOf_succ, offOf_zero])
theorem rf_pc (h : w.row? E.fb 0 1516 = some (cat (rfS E c f))) : w.cell? ⟨E.fb, 229, none⟩ = some (.int .i64 f.next) := cell_cat h (i := 9) rfl (by simp [rfS, offOf_succ, offOf_zero])
theorem rf_sv (h : w.row? E.fb 0 1516 = some (cat (rfS E c f))) : w.cell? ⟨E.fb, 230, none⟩ = some (c.sv) := cell_cat h (i := 10) rfl (by simp [rfS, offOf_succ, offOf_zero])
theorem rf_out (h : w.row? E.fb 0 1516 = some (cat (rfS E c f))) : w.cell? ⟨E.fb, 233, none⟩ = some (c.out) := cell_cat h (i := 13) rfl (by simp [rfS, offOf_succ, offOf_zero])
theorem rf_lv (h : w.row? E.fb 0 1516 = some (cat (rfS E c f))) : w.cell? ⟨E.fb, 234, none⟩ = some (c.lv) := cell_cat h (i := 14) rfl (by simp [rfS, offOf_succ, offOf_zero])
theorem rf_ended (h : w.row? E.fb 0 1516 = some (cat (rfS E c f))) : w.cell? ⟨E.fb, 235, none⟩ = some (.bool f.ended) := cell_cat h (i := 15) rfl (by simp [rfS, offOf_succ, offOf_zero])
theorem rf_t (h : w.row? E.fb 0 1516 = some (cat (rfS E c f))) (hl : c.tl.length = 1280) : w.row? E.fb 236 1280 = some c.tl := row_cat h (i := 16) rfl (by simp [rfS, offOf_succ, offOf_zero]) hl.symm
theorem rfset_code (x : Value) (h : w.row? E.fb 0 1516 = some (cat (rfS E c f))) : (w.setCell ⟨E.fb, 193, none⟩ (x)).row? E.fb 0 1516 = some (cat (rfS E ({ c with code := x }) (f))) := cell_cat_set h (i := 4) rfl _ (by simp [rfS, offOf_succ, offOf_zero])
theorem rfset_gas (x : Nat) (h : w.row? E.fb 0 1516 = some (cat (rfS E c f))) : (w.setCell ⟨E.fb, 228, none⟩ (.int .i64 (x : Int))).row? E.fb 0 1516 = some (cat (rfS E (c) ({ f with gas := x }))) := cell_cat_set h (i := 8) rfl _ (by simp [rfS, offOf_succ, offOf_zero])
theorem rfset_pc (x : Nat) (h : w.row? E.fb 0 1516 = some (cat (rfS E c f))) : (w.setCell ⟨E.fb, 229, none⟩ (.int .i64 (x : Int))).row? E.fb 0 1516 = some (cat (rfS E (c) ({ f with next := x }))) := cell_cat_set h (i := 9) rfl _ (by simp [rfS, offOf_succ, offOf_zero])
theorem rfset_sv (x : Value) (h : w.row? E.fb 0 1516 = some (cat (rfS E c f))) : (w.setCell ⟨E.fb, 230, none⟩ (x)).row? E.fb 0 1516 = some (cat (rfS E ({ c with sv := x }) (f))) := cell_cat_set h (i := 10) rfl _ (by simp [rfS, offOf_succ, offOf_zero])
theorem rfset_ended (x : Bool) (h : w.row? E.fb 0 1516 = some (cat (rfS E c f))) : (w.setCell ⟨E.fb, 235, none⟩ (.bool x)).row? E.fb 0 1516 = some (cat (rfS E (c) ({ f with ended := x }))) := cell_cat_set h (i := 15) rfl _ (by simp [rfS, offOf_succ, offOf_zero])
theorem rfset_t (L : List Value) (hL : L.length = c.tl.length) (h : w.row? E.fb 0 1516 = some (cat (rfS E c f))) : (w.setCells E.fb 236 L).row? E.fb 0 1516 = some (cat (rfS E ({ c with tl := L }) f)) := row_cat_set h (i := 16) rfl hL (by simp [rfS, offOf_succ, offOf_zero])
end
section
variable {E : REnv} {w w' : World} {own : Go.Mun.Own} {c : RFV} {f : Fr} {S : St} {M : List (Nat × St)} {n : Nat}
theorem jmp_only {R : Nat → Prop} {own' : Go.Mun.Own} {c' : RFV} {l : List Int} {jv : Value} {fb : Nat} (h : jv ≠ .nilFunc → ∃ ja jc, jv = .slice ja l.length jc ∧ Ints w .i64 ja jc l ∧ (l ≠ [] → ∀ p, ja = some p → ¬ rmu own fb c p.block)) (ho : Only R w w') (hR : ∀ b, R b → rmu own fb c b) (hX : ∀ b, b < w.heap.size → rmu own' fb c' b → rmu own fb c b) :
  jv ≠ .nilFunc → ∃ ja jc, jv = .slice ja l.length jc ∧ Ints w' .i64 ja jc l ∧ (l ≠ [] → ∀ p, ja = some p → ¬ rmu own' fb c' p.block) := by
 intro hj
 obtain ⟨ja, jc, hj1, hj2, hj3⟩ := h hj
 refine ⟨ja, jc, hj1, ⟨fun hn => ?_, hj2.nil, hj2.len, hj2.cap⟩, fun hn p hp hx => ?_⟩
 ·obtain ⟨b, off, ha, hlt, hcl⟩ := hj2.at (i := 0) (List.length_pos_iff.2 hn)
  exact ⟨b, off, ha, fun i hi => by rw [ho.cell? hlt (fun hr => hj3 hn _ ha (hR _ hr))]; exact hcl i hi⟩
 ·obtain ⟨b, off, ha, hlt, hcl⟩ := hj2.at (i := 0) (List.length_pos_iff.2 hn)
  rw [ha] at hp; cases hp
  exact hj3 hn _ ha (hX _ hlt hx)
theorem RFrOk.lt (h : RFrOk E w own c f S M n) : E.fb < w.heap.size := World.row?_lt h.row
theorem RFrOk.one (h : RFrOk E w own c f S M n) {i : Nat} (hi : i < 1516) : w.free? E.fb i 1 = true := World.free?_sub h.free (by omega)
theorem RFrOk.below (h : RFrOk E w own c f S M n) (hb : Below w.heap.size w w') : RFrOk E w' own c f S M n := by
 have ho : Only (fun _ => False) w w' := Only.of_below_size hb
 exact { h with
  row := by rw [ho.row? h.lt (fun h => h)]; exact h.row
  free := by rw [ho.free? h.lt (fun h => h)]; exact h.free
  chg := h.chg.trans (ChgR.below own hb)
  stk := Only.own h.stk ho (fun _ _ h => h)
  mem := Only.own h.mem ho (fun _ _ h => h)
  code := h.code.below hb
  data := h.data.below hb
  out := h.out.below hb
  told := h.told.below hb
  jmp := jmp_only h.jmp ho (fun _ h => h.elim) (fun _ _ h => h)
  st := h.st.below hb }
theorem RFrOk.cells {c' : RFV} {f' : Fr} (h : RFrOk E w own c f S M n) (ho : Only (fun b => b = E.fb) w w') (hr : w'.row? E.fb 0 1516 = some (cat (rfS E c' f'))) (hfr : w'.free? E.fb 0 1516 = true) (hcs : c'.sv = c.sv ∧ c'.mv = c.mv ∧ c'.code = c.code ∧ c'.data = c.data ∧ c'.lv = c.lv ∧ c'.told = c.told ∧ c'.jv = c.jv) (htl : c'.tl.length = 1280)
  (h1 : f'.m = f.m) (h2 : f'.code = f.code) (h3 : f'.stack = f.stack) (h4 : f'.mem = f.mem) (h5 : f'.ret = f.ret) (h7 : f'.logs = f.logs) (hg : f'.gas ≤ f.gas) (hx : f'.next ≤ 2199023255552) (hout : RoAt w' (rmu own E.fb c') c'.out f'.out) : RFrOk E w' own c' f' S M n := by
 obtain ⟨e1, e2, e3, e4, e5, e6, e7⟩ := hcs
 have hrm : rmu own E.fb c' = rmu own E.fb c := by unfold rmu; rw [e1, e2]
 have hF : ∀ b, b = E.fb → rmu own E.fb c b := fun _ h => .inr (.inl h)
 have hI : ∀ b, b < w.heap.size → rmu own E.fb c b → rmu own E.fb c b := fun _ _ h => h
 have hO : Only (hot E.own0) E.w0 w' := h.chg.only.trans ho (fun i hi he => by have : i = E.fb := hi; have := h.base; omega)
 refine { row := hr, free := hfr, tlen := htl, base := h.base, fown := h.fown, chg := ⟨h.chg.ext, hO⟩, mok := by rw [h1]; exact h.mok, stk := ?_, sown := by rw [e1]; exact h.sown, sval := by rw [h3]; exact h.sval, slen := by rw [h3]; exact h.slen, mem := ?_, mown := by rw [e1, e2]; exact h.mown,
          mbyte := by rw [h4]; exact h.mbyte, mlen := by rw [h4]; exact h.mlen, logs := by rw [h7, e5]; exact h.logs, code := ?_, data := ?_, out := hout, told := ?_, jmp := ?_, st := h.st.only ho (fun b hb => by have e : b = E.fb := hb; rw [e]; exact h.fown), ms := h.ms, cnt := by have := h.cnt; omega, lim := h.lim, nxt := hx }
 ·rw [e1, h3]; exact Only.own h.stk ho (fun g hg => (h.sown g hg).2)
 ·rw [e2, h4]; exact Only.own h.mem ho (fun g hg => (h.mown g hg).2.1)
 ·rw [hrm, e3, h2]; exact h.code.only ho hF hI
 ·rw [hrm, e4, h1]; exact h.data.only ho hF hI
 ·rw [hrm, e6, h5]; exact h.told.only ho hF hI
 ·rw [e7, h2]; exact jmp_only h.jmp ho hF (fun b _ hx => by rw [← hrm]; exact hx)
theorem RFrOk.outKept (h : RFrOk E w own c f S M n) (ho : Only (fun b => b = E.fb) w w') : RoAt w' (rmu own E.fb c) c.out f.out := h.out.only ho (fun _ h => .inr (.inl h)) (fun _ _ h => h)
theorem RFrOk.gas (h : RFrOk E w own c f S M n) (x : Nat) (hx : x ≤ f.gas) : RFrOk E (w.setCell ⟨E.fb, 228, none⟩ (.int .i64 x)) own c { f with gas := x } S M n :=
 h.cells (only_cell _ _ _ _) (rfset_gas x h.row) (by rw [free?_setCell _ (h.one (by omega))]; exact h.free) ⟨rfl, rfl, rfl, rfl, rfl, rfl, rfl⟩ h.tlen rfl rfl rfl rfl rfl rfl hx h.nxt (h.outKept (only_cell _ _ _ _))
theorem RFrOk.pc (h : RFrOk E w own c f S M n) (x : Nat) (hx : x ≤ 2199023255552) : RFrOk E (w.setCell ⟨E.fb, 229, none⟩ (.int .i64 x)) own c { f with next := x } S M n :=
 h.cells (only_cell _ _ _ _) (rfset_pc x h.row) (by rw [free?_setCell _ (h.one (by omega))]; exact h.free) ⟨rfl, rfl, rfl, rfl, rfl, rfl, rfl⟩ h.tlen rfl rfl rfl rfl rfl rfl (Nat.le_refl _) hx (h.outKept (only_cell _ _ _ _))
theorem RFrOk.ended (h : RFrOk E w own c f S M n) (x : Bool) : RFrOk E (w.setCell ⟨E.fb, 235, none⟩ (.bool x)) own c { f with ended := x } S M n :=
 h.cells (only_cell _ _ _ _) (rfset_ended x h.row) (by rw [free?_setCell _ (h.one (by omega))]; exact h.free) ⟨rfl, rfl, rfl, rfl, rfl, rfl, rfl⟩ h.tlen rfl rfl rfl rfl rfl rfl (Nat.le_refl _) h.nxt (h.outKept (only_cell _ _ _ _))
theorem RFrOk.table (h : RFrOk E w own c f S M n) (L : List Value) (hL : L.length = 1280) : RFrOk E (w.setCells E.fb 236 L) own { c with tl := L } f S M n := by
 have ho : Only (fun b => b = E.fb) w (w.setCells E.fb 236 L) := Only.setCells (S := fun b => b = E.fb) (Only.refl _ _) (fun _ => rfl) _ _
 exact h.cells ho (rfset_t L (hL.trans h.tlen.symm) h.row) (by rw [World.free?_setCells']; exact h.free) ⟨rfl, rfl, rfl, rfl, rfl, rfl, rfl⟩ hL rfl rfl rfl rfl rfl rfl (Nat.le_refl _) h.nxt (h.outKept ho)
theorem RFrOk.place (h : RFrOk E w own c f S M n) (x : Nat) : RFrOk E w own c { f with pc := x } S M n :=
 { row := h.row, free := h.free, tlen := h.tlen, base := h.base, fown := h.fown, chg := h.chg, mok := h.mok, stk := h.stk, sown := h.sown, sval := h.sval, slen := h.slen, mem := h.mem, mown := h.mown, mbyte := h.mbyte, mlen := h.mlen, logs := h.logs, code := h.code, data := h.data, out := h.out, told := h.told, jmp := h.jmp, st := h.st, ms := h.ms, cnt := h.cnt, lim := h.lim, nxt := h.nxt }
theorem RFrOk.stack {w1 : World} {sv' : Value} {st' : List Nat} (h : RFrOk E w own c f S M n) (ho : Only (fun g => c.sv.ownBlock = some g) w w1) (hr : w1.ownsRow 0 25 32 sv' st'.length (stkC st'))
  (hl : ∀ g, sv'.ownBlock = some g → c.sv.ownBlock = some g ∨ w.heap.size ≤ g) (hv : ∀ x ∈ st', x < wW) (hn : st'.length ≤ 1024) :
  RFrOk E (w1.setCell ⟨E.fb, 230, none⟩ sv') own { c with sv := sv' } { f with stack := st' } S M n := by
 have hfl := h.lt
 have hsf : ¬ c.sv.ownBlock = some E.fb := fun e => (h.sown _ e).2 rfl
 have hrow1 : w1.row? E.fb 0 1516 = some (cat (rfS E c f)) := by rw [ho.row? hfl hsf]; exact h.row
 have hfree1 : w1.free? E.fb 0 1516 = true := by rw [ho.free? hfl hsf]; exact h.free
 have ho2 : Only (fun b => b = E.fb ∨ c.sv.ownBlock = some b) w (w1.setCell ⟨E.fb, 230, none⟩ sv') :=
  (ho.mono fun b hb => .inr hb).trans (only_cell w1 E.fb 230 sv') (fun i hi _ => .inl hi)
 have hR : ∀ b, (b = E.fb ∨ c.sv.ownBlock = some b) → rmu own E.fb c b := fun b hb => hb.elim (fun e => .inr (.inl e)) (fun e => .inr (.inr (.inl e)))
 have hmu : ∀ b, b < w.heap.size → rmu own E.fb { c with sv := sv' } b → rmu own E.fb c b := by
  rintro b hb (h1 | h1 | h1 | h1)
  ·exact .inl h1
  ·exact .inr (.inl h1)
  ·rcases hl b h1 with h2 | h2
   ·exact .inr (.inr (.inl h2))
   ·omega
  ·exact .inr (.inr (.inr h1))
 have hown : ∀ g, sv'.ownBlock = some g → own g = none ∧ g ≠ E.fb := fun g hg => by
  rcases hl g hg with h1 | h1
  ·exact h.sown g h1
  ·exact ⟨free_own h.st.lows h1, by omega⟩
 have hbase : ∀ g, sv'.ownBlock = some g → E.w0.heap.size ≤ g := fun g hg => by
  rcases hl g hg with h1 | h1
  ·exact ownsRow_ge h.stk g h1
  ·have := h.chg.only.size; omega
 have hnone : ∀ b, (b = E.fb ∨ c.sv.ownBlock = some b) → own b = none := fun b hb => hb.elim (fun e => by rw [e]; exact h.fown) (fun e => (h.sown b e).1)
 have hge : ∀ b, (b = E.fb ∨ c.sv.ownBlock = some b) → E.w0.heap.size ≤ b := fun b hb => hb.elim (fun e => by rw [e]; exact h.base) (fun e => ownsRow_ge h.stk b e)
 have hmem : ∀ g, c.mv.ownBlock = some g → ¬ (g = E.fb ∨ c.sv.ownBlock = some g) := fun g hg he => by
  rcases he with he | he
  ·exact (h.mown g hg).2.1 he
  ·exact (h.mown g hg).2.2 he
 exact { row := rfset_sv sv' hrow1, free := by rw [free?_setCell _ (World.free?_sub hfree1 (by omega))]; exact hfree1, tlen := h.tlen, base := h.base, fown := h.fown, chg := ⟨h.chg.ext, h.chg.only.trans ho2 (fun i hi he => by have := hge i hi; omega)⟩, mok := h.mok,
         stk := Only.own (ownsRow_base hr hbase) (only_cell w1 E.fb 230 sv') (fun g hg => (hown g hg).2), sown := hown, sval := hv, slen := hn, mem := Only.own h.mem ho2 hmem,
         mown := fun g hg => ⟨(h.mown g hg).1, (h.mown g hg).2.1, fun e => by
          rcases hl g e with h1 | h1
          ·exact (h.mown g hg).2.2 h1
          ·have := ownsRow_lt h.mem g hg; omega⟩
         mbyte := h.mbyte, mlen := h.mlen, logs := h.logs, code := h.code.only ho2 hR hmu, data := h.data.only ho2 hR hmu, out := h.out.only ho2 hR hmu, told := h.told.only ho2 hR hmu, jmp := jmp_only h.jmp ho2 hR hmu, st := h.st.only ho2 hnone, ms := h.ms, cnt := h.cnt, lim := h.lim, nxt := h.nxt }
end
theorem RFrOk.jumps {E : REnv} {w w' : World} {own : Go.Mun.Own} {c : RFV} {f : Fr} {S : St} {M : List (Nat × St)} {n : Nat} {v : Value} (h : RFrOk E w own c f S M n) (hb : Below w.heap.size w w') (hv : w'.ownsRow w.heap.size 3 1 v (jumps f.code f.code.length 0).length ((jumps f.code f.code.length 0).map (Value.int .i64))) : RFrOk E w' own { c with jv := v } f S M n := by
 have h1 := h.below hb
 obtain ⟨ja, jc, e, _, hI⟩ := Ints.of_own' hv
 have hrm : ∀ b, rmu own E.fb { c with jv := v } b → rmu own E.fb c b := fun b hb => hb
 refine { h1 with jmp := fun _ => ⟨ja, jc, e, hI, fun hn p hp hx => ?_⟩ }
 have h2 := ownsRow_ge hv p.block (by rw [e, hp]; rfl)
 rcases hx with hx | hx | hx | hx
 ·have := h.st.lows _ hx.1; omega
 ·have := h.lt; omega
 ·have := ownsRow_lt h.stk _ hx; omega
 ·have := ownsRow_lt h.mem _ hx; omega
end Go.Proofs.YtfflppedbopdpaaGreat
namespace Go.Proofs.YtfflppedbopdpaaGreat
open Go.RowKit Go.Mun
theorem ref_own (x : Int) (h0 : 0 ≤ x) (h1 : x ≤ 255) (w : World) :
  Calls Tryz.prog 180 #[.int .u8 x] w fun e w' => e = .returned (.int .i64 (ownOf x)) ∧ w = w' := by
 by_cases h : x < 96
 ·go_enter Tryz.func180, Tryz.ntmps180
  go_wp2
  go_ret
  exact ⟨Mun.ret_int (by unfold ownOf; rw [if_neg (by omega)]), rfl⟩
 by_cases h' : 127 < x
 ·go_enter Tryz.func180, Tryz.ntmps180
  go_wp2
  go_ret
  exact ⟨Mun.ret_int (by unfold ownOf; rw [if_neg (by omega)]), rfl⟩
 ·go_enter Tryz.func180, Tryz.ntmps180
  go_wp2
  go_ret
  exact ⟨Mun.ret_int (by unfold ownOf; rw [if_pos (by omega)]), rfl⟩
theorem ref_jumps (a : Option Addr) (cap : Nat) (l : List Int) (w : World) (hi : Ints w .u8 a cap l) (hb : ∀ i, i < l.length → 0 ≤ l[i]?.getD 0 ∧ l[i]?.getD 0 ≤ 255) (hlen : l.length ≤ 1099511627776) :
  Calls Tryz.prog 175 #[.slice a l.length cap] w fun e w' => ∃ v, e = .returned v ∧ w'.ownsRow w.heap.size 3 1 v (jumps l l.length 0).length ((jumps l l.length 0).map (Value.int .i64)) ∧ Below w.heap.size w w' := by
 have HB := hid hb
 have HI := hid hi
 clear hb hi
 go_enter Tryz.func175, Tryz.ntmps175
 go_wp2
 go_loopw [3, 4] (fun v i wr => ∃ (k n : Nat) (done : List Int), k ≤ l.length + 32 ∧ i = .int .i64 k ∧ JRel l w.heap.size w wr v k done n) (fun _ i _ => l.length + 32 - (intOf i).toNat)
 case atStart => exact ⟨0, l.length, [], by omega, rfl, ⟨rfl, by omega, by omega, by simp, World.ownsRow_nil _ _ _ _, Below.refl _ _⟩⟩
 case round =>
  obtain ⟨k, n, done, hk, rfl, hr⟩ := hrel
  by_cases hlt : k < l.length
  ·obtain ⟨b, off, rfl, hbl, hc⟩ := HI.out.at hlt
   have hck : wr.cell? ⟨b, off + k, none⟩ = some (.int .u8 (l[k]?.getD 0)) := (hr.below.cell (p := ⟨b, off + k, none⟩) hbl).trans (hc k hlt)
   clear hc
   have hr0 := (HB.out k hlt).1
   have hr1 := (HB.out k hlt).2
   have hob := own_bd _ hr1
   have hd := hr.dlen
   have hsz := hr.below.size
   have HR := hid hr
   clear hr
   generalize hx : l[k]?.getD 0 = x at *
   by_cases h91 : x = 91
   ·have h91' : (x == 91) = true := by simpa using h91
    have HX := hid h91
    clear h91
    go_wp2_with (first | (go_at_call 180; refine (ref_own _ hr0 hr1 _).mono ?_; rintro e w' ⟨rfl, rfl⟩) | (at_builtin; refine wpList_append_new elem157 rfl _ _ rfl HR.out.own rfl 1 rfl rfl ?c1 ?c2 ?c3 ?c4 ?_))
    case c1 => simp [Value.oneCell']
    case c2 => unfold maxLen; omega
    case c3 => omega
    case c4 => exact hsz
    intro v' w1 ho hg _
    have hck1 : w1.cell? ⟨b, off + k, none⟩ = some (.int .u8 x) := hg.cell hck (fun e => by have := (HR.out.own.lt b e.symm).1; omega)
    go_wp2_with (go_at_call 180; refine (ref_own _ hr0 hr1 _).mono ?_; rintro e w' ⟨rfl, rfl⟩)
    go_roundw
    case rel => exact ⟨k + 1 + (ownOf x).toNat, n - 1, done ++ [(k : Int)], by omega, by go_num, by have := HR.out.step_yes hlt (by rw [hx]; exact HX.out) ho hg hsz; rw [hx] at this; exact this⟩
    case measure => simp [intOf]; omega
   ·have h91' : (x == 91) = false := by simpa using h91
    go_wp2_with (go_at_call 180; refine (ref_own _ hr0 hr1 _).mono ?_; rintro e w' ⟨rfl, rfl⟩)
    go_roundw
    case rel => exact ⟨k + 1 + (ownOf x).toNat, n - 1, done, by omega, by go_num, by have := HR.out.step_no hlt (by rw [hx]; exact h91) (by rw [hx]; exact hr1); rw [hx] at this; exact this⟩
    case measure => simp [intOf]; omega
  ·go_wp2
   go_ret
   have := hr.tot
   rw [jumps_nil _ _ _ (by omega), List.append_nil] at this
   rw [← this]
   exact ⟨_, rfl, hr.own, hr.below⟩
end Go.Proofs.YtfflppedbopdpaaGreat
namespace Go.Proofs.YtfflppedbopdpaaGreat
open Go.RowKit Go.Mun
theorem r_push0 {w : World} {b o : Nat} {sv : Value} {l : List Nat} (x : Nat) (h : w.cell? ⟨b, o, none⟩ = some sv) (hf : w.free? b o 1 = true) (hr : w.ownsRow 0 25 32 sv l.length (stkC l))
  (hb : ∀ g, sv.ownBlock = some g → ¬ g = b) (hl : l.length < 1024) :
  Calls Tryz.prog 260 #[.pointer (some ⟨b, o, none⟩), .agg (beC 32 x).toArray] w fun e w' => e = .returned (.bool true) ∧
   ∃ w1 sv', Only (fun g => sv.ownBlock = some g) w w1 ∧ w' = w1.setCell ⟨b, o, none⟩ sv' ∧ w1.ownsRow 0 25 32 sv' (l ++ [x]).length (stkC (l ++ [x])) ∧ ∀ g, sv'.ownBlock = some g → sv.ownBlock = some g ∨ w.heap.size ≤ g := by
 obtain ⟨a, c, rfl⟩ := own_sl hr
 have hbl : b < w.heap.size := free?_lt hf
 have hxl : (beC 32 x).length = 32 := by simp
 have HLW : Hid (∀ g, (Value.slice a l.length c).ownBlock = some g → g < w.heap.size) := fun g hg => ownsRow_lt hr g hg
 obtain ⟨w0, e0⟩ : ∃ w0, w0 = w.alloc (.cells (beC 32 x).toArray 25) := ⟨_, rfl⟩
 have o0 : Only (fun _ => False) w w0 := by rw [e0]; exact (Only.refl _ _).alloc _
 have hq : w0.cell? ⟨b, o, none⟩ = some (.slice a l.length c) := by rw [o0.cell? hbl (fun h => h)]; exact h
 have hx : w0.row? w.heap.size 0 32 = some (beC 32 x) := by rw [e0]; exact World.row?_alloc_at _ _ _ rfl (by simp)
 have hr0 : w0.ownsRow 0 25 32 (.slice a l.length c) l.length (stkC l) := Only.own hr o0 (fun _ _ h => h)
 have hf0 : w0.free? b o 1 = true := by rw [o0.free? hbl (fun h => h)]; exact hf
 have hsz : b < w0.heap.size ∧ w.heap.size < w0.heap.size := ⟨Nat.lt_of_lt_of_le hbl o0.size, World.row?_lt hx⟩
 have HR0 := hid hr0
 have HO0 := hid o0
 have HF0 := hid hf0
 have HSZ := hid hsz
 have HE := hid e0
 have hq' : (w.alloc (.cells (beC 32 x).toArray 25)).cell? ⟨b, o, none⟩ = some (.slice a l.length c) := by rw [← e0]; exact hq
 clear e0 o0 hr0 hr h hf hf0 hsz
 generalize hn : l.length = n at *
 have HN := hid hn
 clear hn
 obtain ⟨T, hT⟩ : ∃ T : World → Prop, T = fun w' => w'.cell? ⟨b, o, none⟩ = some (.slice a n c) ∧ w'.row? w.heap.size 0 32 = some (beC 32 x) := ⟨_, rfl⟩
 have HT := hid hT
 have t0 : T w0.drew := by rw [hT]; exact ⟨hq, hx⟩
 clear hT
 have hge : ¬ (1024 : Int) ≤ n := by omega
 have hge2 : ¬ 1024 ≤ n := by omega
 go_enter Tryz.func260, Tryz.ntmps260
 go_wp2_with fail
 rw [← HE.out]
 clear hq'
 refine wp_region_z T [10] [0, 1, 2, 3, 4, 5] [6, 7, 8, 9, 10] (by kernel_rfl) (by kernel_rfl) t0 ?_
 refine wpHoist_cons (.pointer (some ⟨b, o, none⟩)) rfl (by rfl) (fun w' hs => ?_) (fun _ _ _ h => h) ?_
 ·go_simp
 refine wpHoist_cons (.pointer (some ⟨b, o, none⟩)) rfl (by rfl) (fun w' hs => ?_) (fun _ _ _ h => h) ?_
 ·go_simp
 refine wpHoist_cons (.pointer (some ⟨b, o, none⟩)) rfl (by rfl) (fun w' hs => ?_) (fun _ _ _ h => h) ?_
 ·go_simp
 refine wpHoist_cons (.pointer (some ⟨b, o, none⟩)) rfl (by rfl) (fun w' hs => ?_) (fun _ _ _ h => h) ?_
 ·go_simp
 refine wpHoist_cons (.slice a n c) rfl (by rfl) (fun w' hs => ?_) (fun _ _ _ h => h) ?_
 ·rw [HT.out] at hs
  obtain ⟨s1, s2⟩ := hs
  go_simp
 refine wpHoist_cons (.agg (beC 32 x).toArray) rfl (by rfl) (fun w' hs => ?_) (fun _ _ _ h => h) ?_
 ·rw [HT.out] at hs
  obtain ⟨s1, s2⟩ := hs
  go_simp
 refine wpHoist_nil ?_
 simp only [Act.put, tsa, tsb, tsc]
 have t1 : T (w0.drew.alloc (.cells (beC 32 x).toArray 25)) := by
  rw [HT.out]
  exact ⟨(World.cell?_alloc_lt _ _ _ HSZ.out.1).trans hq, (World.row?_alloc_lt _ HSZ.out.2).trans hx⟩
 refine wpSeq_cons rfl (fun K hK => ?_)
 go_simp
 refine hK.out _ _ t1 ?_
 clear hK K
 have hr1 : (w0.drew.alloc (.cells (beC 32 x).toArray 25)).ownsRow 0 25 32 (.slice a n c) n (stkC l) := Only.own (S := fun _ => False) HR0.out ((Only.refl _ _).drew.alloc _) (fun _ _ h => h)
 refine wpSeq_cons rfl (fun K hK => ?_)
 refine step_app elem33 rfl _ _ rfl hr1 rfl (SrcAt.new w0.drew (m := 1) (size := 32) (cs := beC 32 x) 25 (0, 0) (beC_ok 32 x) 1) rfl (by unfold maxLen; omega) (by omega) ?_
 intro sv' w3 hr3 ho3 hl3
 have o13 : Only (fun g => (Value.slice a n c).ownBlock = some g) w w3 := (((HO0.out.mono (fun _ h => h.elim)).drew.alloc _).trans ho3 (fun i hi _ => hi))
 have hbn : ¬ (Value.slice a n c).ownBlock = some b := fun e => hb b e rfl
 have o03 : Only (fun g => (Value.slice a n c).ownBlock = some g) w0 w3 := ((Only.refl _ _).drew.alloc _).trans ho3 (fun i hi _ => hi)
 have hxn : ¬ (Value.slice a n c).ownBlock = some w.heap.size := fun e => by have := HLW.out _ e; omega
 have t3 : T w3 := by
  rw [HT.out]
  exact ⟨(o03.cell? HSZ.out.1 hbn).trans hq, (o03.row? HSZ.out.2 hxn).trans hx⟩
 have hv3 : sv'.oneCell' = true := by obtain ⟨_, _, rfl⟩ := own_sl hr3; rfl
 have hf3 : w3.free? b o 1 = true := by rw [o03.free? HSZ.out.1 hbn]; exact HF0.out
 have HA : Hid (∃ w1 sv'', Only (fun g => (Value.slice a n c).ownBlock = some g) w w1 ∧ w3.setCell ⟨b, o, none⟩ sv' = w1.setCell ⟨b, o, none⟩ sv'' ∧ w1.ownsRow 0 25 32 sv'' (l ++ [x]).length (stkC (l ++ [x])) ∧ ∀ g, sv''.ownBlock = some g → (Value.slice a n c).ownBlock = some g ∨ w.heap.size ≤ g) := by
  refine ⟨w3, sv', o13, rfl, ?_, fun g hg => ?_⟩
  ·rw [List.length_append, HN.out, stkC_append, stkC_one]; exact hr3
  ·rcases hl3 g hg with h | h
   ·exact .inl h
   ·have h1 := HSZ.out.2
    have h' : w0.heap.size + 1 ≤ g := by first | exact h | simpa using h
    exact .inr (by omega)
 clear hr3 ho3 hl3 o13 o03
 refine hK.out _ _ t3 ?_
 clear hK K
 refine wpSeq_cons rfl (fun K hK => ?_)
 go_simp
 refine hK.out _ _ t3 ?_
 clear hK K
 refine wpSeq_cons rfl (fun K hK => ?_)
 go_simp
 refine hK.out _ _ t3 ?_
 clear hK K
 refine wpSeq_z rfl (by decide) (fun K hK => ?_)
 go_simp
 refine hK.out _ _ (wpSeq_nil ?_)
 clear hK K
 generalize w3.setCell ⟨b, o, none⟩ sv' = w4 at *
 go_wp2
 go_ret
 exact ⟨rfl, HA.out⟩
theorem r_push {E : REnv} {w : World} {own : Go.Mun.Own} {c : RFV} {f : Fr} {S : St} {M : List (Nat × St)} {n : Nat} (x : Nat) (hx : x < wW) (hl : f.stack.length < 1024) (h : RFrOk E w own c f S M n) :
  Calls Tryz.prog 260 #[.pointer (some ⟨E.fb, 230, none⟩), .agg (beC 32 x).toArray] w fun e w' => e = .returned (.bool true) ∧ ∃ c', RFrOk E w' own c' { f with stack := f.stack ++ [x] } S M n ∧ c'.tl = c.tl ∧ c'.jv = c.jv := by
 refine (r_push0 x (rf_sv h.row) (h.one (by omega)) (ownsRow_mono h.stk (Nat.zero_le _)) (fun g hg => (h.sown g hg).2) hl).mono ?_
 rintro e w' ⟨rfl, w1, sv', ho, rfl, hr, hb⟩
 refine ⟨rfl, _, h.stack ho hr hb (fun y hy => ?_) (by simp; omega), rfl, rfl⟩
 rcases List.mem_append.1 hy with hy | hy
 ·exact h.sval y hy
 ·obtain rfl := List.mem_singleton.1 hy; exact hx
end Go.Proofs.YtfflppedbopdpaaGreat
