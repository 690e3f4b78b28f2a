/-
  The law: how deep calls go.
-/
import Derived.Test.YtiglinnjnobodaaGreatQRf15
set_option linter.unusedVariables false
set_option linter.unusedSimpArgs false
namespace Go.Proofs.YtiglinnjnobodaaGreat
open Go.RowKit Go.Mun

theorem askM_depth {w : World} {b : Nat} {d : Int} (h : w.row? b 0 129 = some (cat (msgS (askM 0 0) (.slice none 0 0)))) : (w.setCell ⟨b, 127, none⟩ (.int .i64 d)).row? b 0 129 = some (cat (msgS (askM 0 d) (.slice none 0 0))) :=
 cell_cat_set h (i := 8) rfl _ (by simp [msgS, askM, offOf_succ, offOf_zero])
set_option maxRecDepth 100000 in
set_option maxHeartbeats 8000000 in
theorem evmDeep_law (a0 : Int) (h0 : (Lit.int .i64 a0).wf = true) (w : World) :
  Calls Tryz.prog 5 #[.int .i64 a0] w fun e w' => e = .returned (.bool true) ∧ Below w.heap.size w w' := by
 have hA := Lib.hid (law_alive w)
 have HASK := Lib.hid (fun w => law_ask 20000 w)
 have o0 : ofW 0 = 0 := by kernel_rfl
 clear h0 o0
 go_enter Tryz.func5, Tryz.ntmps5
 go_wp2_with fail
 refine hA.out.mono ?_
 rintro e w1 ⟨rfl, hb1⟩
 have HB1 := Lib.hid hb1
 clear hb1 hA
 by_cases k0 : a0 < 0
 ·go_wp2
  go_ret
  exact ⟨rfl, HB1.out⟩
 have dk0 : decide (a0 < 0) = false := decide_eq_false k0
 have HK0 := Lib.hid k0
 clear k0
 by_cases k1 : 70 < a0
 ·go_wp2
  go_ret
  exact ⟨rfl, HB1.out⟩
 have dk1 : decide (70 < a0) = false := decide_eq_false k1
 have HK1 := Lib.hid k1
 clear k1
 go_wp2_with fail
 refine (HASK.out _).mono ?_
 rintro e w2 ⟨rfl, hb2⟩
 have HB2 : Hid (Below w.heap.size w w2) := HB1.out.trans (hb2.mono HB1.out.size)
 clear hb2 HB1
 obtain ⟨C, hC⟩ : ∃ C, C = cat (msgS (askM 0 0) (.slice none 0 0)) := ⟨_, rfl⟩
 have hCC : cat (msgS ⟨0, 3, 1, 0, 0, 0, [], 20000, 0, false⟩ (.slice none 0 0)) = C := by rw [hC]; rfl
 rw [hCC]
 have hCl : C.length = 129 := by rw [hC]; exact msgS_len _ _
 have hCk : okL 129 C = true := by rw [hC]; exact msgS_okD _ _ _ _
 have hf3 : (w2.alloc (.cells (cat zs42).toArray 62)).free? w2.heap.size 0 129 = true := World.free?_alloc_at _ _ rfl (by rw [zs42_len]; omega)
 obtain ⟨tb, htb⟩ : ∃ tb, tb = w2.heap.size := ⟨_, rfl⟩
 obtain ⟨w3, e3⟩ : ∃ w3, w3 = (w2.alloc (.cells (cat zs42).toArray 62)).setCells w2.heap.size 0 C := ⟨_, rfl⟩
 have hb3 : Below w.heap.size w w3 := by rw [e3]; exact (HB2.out.alloc HB2.out.size _).setCells HB2.out.size _ _
 have hr3 : w3.row? tb 0 129 = some C := by rw [e3, htb]; exact row?_setCells_whole C hf3 hCk
 have hf3w : w3.free? tb 0 129 = true := by rw [e3, htb, World.free?_setCells']; exact hf3
 have hf127 : ((w2.alloc (.cells (cat zs42).toArray 62)).setCells w2.heap.size 0 C).free? w2.heap.size 127 1 = true := by
  have := World.free?_sub hf3w (o' := 127) (n' := 1) (by omega)
  rw [e3, htb] at this; exact this
 have HB3 := Lib.hid hb3
 have HE3 := Lib.hid e3
 have HTB := Lib.hid htb
 obtain ⟨w4, e4⟩ : ∃ w4, w4 = w3.setCell ⟨tb, 127, none⟩ (.int .i64 a0) := ⟨_, rfl⟩
 rw [hC] at hr3
 have hr4 : w4.row? tb 0 129 = some (cat (msgS (askM 0 a0) (.slice none 0 0))) := by rw [e4]; exact askM_depth hr3
 have hb4 : Below w.heap.size w w4 := by rw [e4]; exact hb3.setCell (p := ⟨tb, 127, none⟩) (by rw [htb]; exact HB2.out.size) _
 have HE4 := Lib.hid e4
 have HM : Hid (MsgOk (askM 0 a0)) := askM_ok 0 a0 (by decide) (by have := HK0.out; have := HK1.out; omega)
 obtain ⟨T, hT⟩ : ∃ T : World → Prop, T = fun W => Below w.heap.size w W ∧ W.row? tb 0 129 = some (cat (msgS (askM 0 a0) (.slice none 0 0))) := ⟨_, rfl⟩
 have HT := Lib.hid hT
 have HTN : Hid (∀ w2 w3, T w2 → Below w2.heap.size w2 w3 → T w3) := by show ∀ w2 w3, T w2 → Below w2.heap.size w2 w3 → T w3; rw [hT]; intro w2 w3 h hb; exact ⟨h.1.trans (hb.mono h.1.size), ((brow hb).1 _ _ _ (World.row?_lt h.2)).trans h.2⟩
 have HTO : Hid (∀ w2 w3 r, T w2 → Only (fun b => b = r) w2 w3 → tb < r → w.heap.size ≤ r → T w3) := by show ∀ w2 w3 r, T w2 → Only (fun b => b = r) w2 w3 → tb < r → w.heap.size ≤ r → T w3; rw [hT]; intro w2 w3 r h ho h1 h2; exact ⟨h.1.trans (ho.below h.1.size (fun i hi => by have e : i = r := hi; omega)), (ho.row? (World.row?_lt h.2) (by omega)).trans h.2⟩
 have HTG : Hid (∀ w2, T w2 → Below w.heap.size w w2 ∧ w2.row? tb 0 129 = some (cat (msgS (askM 0 a0) (.slice none 0 0)))) := by show ∀ w2, T w2 → _; rw [hT]; intro w2 h; exact h
 have t0 : T w4.drew := HTN.out w4 _ (by rw [hT]; exact ⟨hb4, hr4⟩) (Below.refl _ _).drew
 clear hT e3 htb e4 hr3 hf3w hr4 hb3 hb4 hC hCC
 by_cases hdp : 64 < a0
 ·have HRP : Hid (RunsP (askM 0 a0) (.slice none 0 0) ⟨0, 0, 0, 0, 0⟩ (newS (twoL [96, 1] [])) 20000 17 0 [] (newS (twoL [96, 1] []))) := runsP_no (S := newS (twoL [96, 1] [])) HM.out rfl (show (0 : Int) < 20000 by decide) (.inl ⟨rfl, hdp⟩)
  have HRR : Hid (RunsR (askM 0 a0) (.slice none 0 0) ⟨0, 0, 0, 0, 0⟩ (newS (twoL [96, 1] [])) 20000 17 0 [] (newS (twoL [96, 1] []))) := runsR_no (S := newS (twoL [96, 1] [])) HM.out rfl (show (0 : Int) ≤ 20000 by decide) (.inl ⟨rfl, hdp⟩)
  have dd : decide (64 < a0) = true := decide_eq_true hdp
  have HDP := Lib.hid hdp
  clear hdp
  go_wp2_with fail
  rw [← HE3.out]
  rw [← HTB.out]
  rw [← HE4.out]
  refine wp_region_tree T [] (.take 2 (.alt 0 (.alt 1 (.alt 3 (.pure 4 (.pure 5 (.pure 6 (.pure 7 (.alt 8 (.alt 9 (.pure 10 (.pure 11 .fin)) .stop) .stop))))) (.alt 8 (.alt 3 (.pure 4 (.pure 5 (.pure 6 (.pure 7 (.alt 9 (.pure 10 (.pure 11 .fin)) .stop))))) .stop) .stop)) (.alt 8 (.alt 1 (.alt 3 (.pure 4 (.pure 5 (.pure 6 (.pure 7 (.alt 9 (.pure 10 (.pure 11 .fin)) .stop))))) .stop) .stop) .stop)) (.alt 8 (.alt 0 (.alt 1 (.alt 3 (.pure 4 (.pure 5 (.pure 6 (.pure 7 (.alt 9 (.pure 10 (.pure 11 .fin)) .stop))))) .stop) .stop) .stop) .stop))) (by kernel_rfl) (by kernel_rfl) ?_
  generalize w4.drew = v4 at *
  refine tree_take ?_ t0 rfl (by rfl) (fun w' hs => ?_) (fun _ _ _ h => h) ?_
  rotate_left
  ·rw [HT.out] at hs
   obtain ⟨_, g1⟩ := HTG.out w' (by rw [HT.out]; exact hs)
   go_simp
   try rfl
  simp only [Act.put, tsa, tsb, tsc]
  refine tree_alt rfl (fun K hK => ?_) ?_
  ·go_simp
   obtain ⟨y1, ey1⟩ : ∃ y1, y1 = v4.alloc (.cells #[.int .u8 96, .int .u8 1] 5) := ⟨_, rfl⟩
   have hby : Below v4.heap.size v4 y1 := by rw [ey1]; exact (Below.refl _ _).alloc (Nat.le_refl _) _
   have HCD : Hid (RoAt y1 (fun _ => False) (.slice (some ⟨v4.heap.size, 0, none⟩) 2 2) [96, 1]) := by rw [ey1]; exact ⟨⟨_, _, rfl, Ints.new v4 .u8 [96, 1] 5 (by decide), fun _ _ _ h => h⟩, by intro x hx; simp at hx; omega, by decide⟩
   obtain ⟨cb, hcb⟩ : ∃ cb, cb = v4.heap.size := ⟨_, rfl⟩
   rw [← hcb] at HCD
   rw [← ey1, ← hcb]
   have t1 : T y1 := HTN.out _ _ t0 hby
   clear ey1 hcb hby
   refine hK.out _ _ t1 ?_
   clear hK K
   refine tree_alt rfl (fun K hK => ?_) ?_
   ·go_simp
    refine (law_two HCD.out (roAt_nil _ _)).mono ?_
    rintro e y2 ⟨gb, rfl, hby, hac⟩
    have HAC := Lib.hid hac
    have t2 : T y2 := HTN.out _ _ t1 hby
    clear hby hac
    refine hK.out _ _ t2 ?_
    clear hK K
    refine tree_alt rfl (fun K hK => ?_) ?_
    ·go_simp
     have HBO := law_both (c := 3) (l := (twoL [96, 1] [])) (m := (askM 0 a0)) (ad := 0) (by decide) HAC.out (by intro x hx; simp [twoL] at hx; rcases hx with rfl | rfl | rfl <;> decide) (roAt_nil _ _) (by decide) HRP.out HRR.out (newS_slotsD _)
     rw [show ((twoL [96, 1] [])).length = 3 from rfl] at HBO
     refine HBO.mono ?_
     rintro e y3 ⟨oa, oc, la, lc, sb, own, n, rfl, hby, hst, hge⟩
     have HST3 := Lib.hid hst
     have t3 : T y3 := HTN.out _ _ t2 hby
     obtain ⟨O, hO⟩ : ∃ O, O = outV 20000 17 0 oa ([] : Bts).length oc la lc := ⟨_, rfl⟩
     have hOl : O.length = 24 := by rw [hO]; exact outV_len _ _ _ _ _ _ _ _
     have hOk : okL 24 O = true := by rw [hO]; exact outV_ok _ _ _ _ _ _ _ _
     rw [← hO]
     have HOO := Lib.hid hO
     clear hby hst hO HBO hge
     refine hK.out _ _ t3 ?_
     clear hK K
     refine tree_pure ?_ rfl (by rfl) (fun w' hs => ?_) (fun _ _ _ h => h) ?_
     rotate_left
     ·clear hs
      go_simp
      try rfl
     simp only [Act.put, tsa, tsb, tsc]
     refine tree_pure ?_ rfl (by rfl) (fun w' hs => ?_) (fun _ _ _ h => h) ?_
     rotate_left
     ·clear hs
      go_simp
      try rfl
     simp only [Act.put, tsa, tsb, tsc]
     refine tree_pure ?_ rfl (by rfl) (fun w' hs => ?_) (fun _ _ _ h => h) ?_
     rotate_left
     ·clear hs
      go_simp
      try rfl
     simp only [Act.put, tsa, tsb, tsc]
     refine tree_pure ?_ rfl (by rfl) (fun w' hs => ?_) (fun _ _ _ h => h) ?_
     rotate_left
     ·clear hs
      go_simp
      try rfl
     simp only [Act.put, tsa, tsb, tsc]
     refine tree_run rfl (fun K hK => ?_)
     go_simp
     obtain ⟨rb, er⟩ : ∃ rb, rb = y3.heap.size := ⟨_, rfl⟩
     obtain ⟨y4, ey4⟩ : ∃ y4, y4 = y3.alloc (.cells (cat zs46).toArray 65) := ⟨_, rfl⟩
     have HBA : Hid (Below y3.heap.size y3 y4) := by show Below _ _ _; rw [ey4]; exact (Below.refl _ _).alloc (Nat.le_refl _) _
     have HZ4 : Hid (y4.free? rb 0 24 = true) := by show _ = _; rw [ey4, er]; exact World.free?_alloc_at _ _ rfl (by rw [zs46_len]; omega)
     have HRB : Hid (tb < rb ∧ w.heap.size ≤ rb) := by rw [er]; exact ⟨World.row?_lt (HTG.out _ t3).2, (HTG.out _ t3).1.size⟩
     have t4 : T y4 := HTN.out _ _ t3 HBA.out
     have HST4 := Lib.hid (HST3.out.below HBA.out)
     have HOWN : Hid (own rb = none) := by show _ = _; rw [er]; exact free_own HST3.out.lows (Nat.le_refl _)
     rw [← ey4, ← er]
     clear ey4 er
     refine hK.out _ _ t4 ?_
     clear hK K
     refine tree_run rfl (fun K hK => ?_)
     have fz := HZ4.out
     go_simp
     obtain ⟨y5, ey5⟩ : ∃ y5, y5 = y4.setCells rb 0 O := ⟨_, rfl⟩
     have HRW : Hid (y5.row? rb 0 24 = some (outV 20000 17 0 oa ([] : Bts).length oc la lc)) := by show _ = _; rw [ey5, ← HOO.out]; exact row?_setCells_whole O HZ4.out hOk
     have hO1 : Only (fun b => b = rb) y4 y5 := by rw [ey5]; exact Only.setCells (S := fun b => b = rb) (Only.refl _ _) (fun _ => rfl) _ _
     have t5 : T y5 := HTO.out _ _ _ t4 hO1 HRB.out.1 HRB.out.2
     have HSTZ : Hid (StateAt TU y5 own sb (newS (twoL [96, 1] [])) [] n) := HST4.out.only hO1 (fun b hx => by rw [hx]; exact HOWN.out)
     rw [← ey5]
     clear ey5 hO1 fz
     refine hK.out _ _ t5 ?_
     clear hK K
     refine tree_pure ?_ rfl (by rfl) (fun w' hs => ?_) (fun _ _ _ h => h) ?_
     rotate_left
     ·clear hs
      go_simp
      try rfl
     simp only [Act.put, tsa, tsb, tsc]
     refine tree_pure ?_ rfl (by rfl) (fun w' hs => ?_) (fun _ _ _ h => h) ?_
     rotate_left
     ·clear hs
      go_simp
      try rfl
     simp only [Act.put, tsa, tsb, tsc]
     refine tree_fin ?_
     have c0 := out_gas HRW.out
     have c1 := out_err HRW.out
     rw [Nat.zero_add] at c1
     have HTE := Lib.hid (HTG.out _ t5)
     go_wp2_with fail
     refine (law_num 17 _).mono ?_
     rintro e wz ⟨rfl, rfl⟩
     go_wp2
     go_ret
     exact ⟨rfl, HTE.out.1⟩
    refine tree_run rfl (fun K hK => ?_)
    go_simp
    obtain ⟨rb, er⟩ : ∃ rb, rb = y2.heap.size := ⟨_, rfl⟩
    obtain ⟨y3, ey3⟩ : ∃ y3, y3 = y2.alloc (.cells (cat zs46).toArray 65) := ⟨_, rfl⟩
    have HBA : Hid (Below y2.heap.size y2 y3) := by show Below _ _ _; rw [ey3]; exact (Below.refl _ _).alloc (Nat.le_refl _) _
    have HZ3 : Hid (y3.free? rb 0 24 = true) := by show _ = _; rw [ey3, er]; exact World.free?_alloc_at _ _ rfl (by rw [zs46_len]; omega)
    have HRB : Hid (tb < rb ∧ w.heap.size ≤ rb) := by rw [er]; exact ⟨World.row?_lt (HTG.out _ t2).2, (HTG.out _ t2).1.size⟩
    have t3 : T y3 := HTN.out _ _ t2 HBA.out
    have HACx := Lib.hid (fun i hi => (HAC.out i hi).below HBA.out)
    rw [← ey3, ← er]
    clear ey3 er
    refine hK.out _ _ t3 ?_
    clear hK K
    refine tree_run rfl (fun K hK => ?_)
    go_simp
    have HBO := law_both (c := 3) (l := (twoL [96, 1] [])) (m := (askM 0 a0)) (ad := 0) (by decide) HACx.out (by intro x hx; simp [twoL] at hx; rcases hx with rfl | rfl | rfl <;> decide) (roAt_nil _ _) (by decide) HRP.out HRR.out (newS_slotsD _)
    rw [show ((twoL [96, 1] [])).length = 3 from rfl] at HBO
    refine HBO.mono ?_
    rintro e y4 ⟨oa, oc, la, lc, sb, own, n, rfl, hby, hst, hge⟩
    have HST4 := Lib.hid hst
    have t4 : T y4 := HTN.out _ _ t3 hby
    obtain ⟨O, hO⟩ : ∃ O, O = outV 20000 17 0 oa ([] : Bts).length oc la lc := ⟨_, rfl⟩
    have hOl : O.length = 24 := by rw [hO]; exact outV_len _ _ _ _ _ _ _ _
    have hOk : okL 24 O = true := by rw [hO]; exact outV_ok _ _ _ _ _ _ _ _
    rw [← hO]
    have HOO := Lib.hid hO
    have HZ4 : Hid (y4.free? rb 0 24 = true) := ((brow hby).2 _ _ _ (free?_lt HZ3.out)).trans HZ3.out
    have HOWN : Hid (own rb = none) := by
     show own rb = none
     have h1 := free?_lt HZ3.out
     have : ¬ own rb ≠ none := fun hx => by have := hge rb hx; omega
     exact Classical.not_not.1 this
    clear hby hst hO HBO hge
    refine hK.out _ _ t4 ?_
    clear hK K
    refine tree_pure ?_ rfl (by rfl) (fun w' hs => ?_) (fun _ _ _ h => h) ?_
    rotate_left
    ·clear hs
     go_simp
     try rfl
    simp only [Act.put, tsa, tsb, tsc]
    refine tree_pure ?_ rfl (by rfl) (fun w' hs => ?_) (fun _ _ _ h => h) ?_
    rotate_left
    ·clear hs
     go_simp
     try rfl
    simp only [Act.put, tsa, tsb, tsc]
    refine tree_pure ?_ rfl (by rfl) (fun w' hs => ?_) (fun _ _ _ h => h) ?_
    rotate_left
    ·clear hs
     go_simp
     try rfl
    simp only [Act.put, tsa, tsb, tsc]
    refine tree_pure ?_ rfl (by rfl) (fun w' hs => ?_) (fun _ _ _ h => h) ?_
    rotate_left
    ·clear hs
     go_simp
     try rfl
    simp only [Act.put, tsa, tsb, tsc]
    refine tree_run rfl (fun K hK => ?_)
    have fz := HZ4.out
    go_simp
    obtain ⟨y5, ey5⟩ : ∃ y5, y5 = y4.setCells rb 0 O := ⟨_, rfl⟩
    have HRW : Hid (y5.row? rb 0 24 = some (outV 20000 17 0 oa ([] : Bts).length oc la lc)) := by show _ = _; rw [ey5, ← HOO.out]; exact row?_setCells_whole O HZ4.out hOk
    have hO1 : Only (fun b => b = rb) y4 y5 := by rw [ey5]; exact Only.setCells (S := fun b => b = rb) (Only.refl _ _) (fun _ => rfl) _ _
    have t5 : T y5 := HTO.out _ _ _ t4 hO1 HRB.out.1 HRB.out.2
    have HSTZ : Hid (StateAt TU y5 own sb (newS (twoL [96, 1] [])) [] n) := HST4.out.only hO1 (fun b hx => by rw [hx]; exact HOWN.out)
    rw [← ey5]
    clear ey5 hO1 fz
    refine hK.out _ _ t5 ?_
    clear hK K
    refine tree_pure ?_ rfl (by rfl) (fun w' hs => ?_) (fun _ _ _ h => h) ?_
    rotate_left
    ·clear hs
     go_simp
     try rfl
    simp only [Act.put, tsa, tsb, tsc]
    refine tree_pure ?_ rfl (by rfl) (fun w' hs => ?_) (fun _ _ _ h => h) ?_
    rotate_left
    ·clear hs
     go_simp
     try rfl
    simp only [Act.put, tsa, tsb, tsc]
    refine tree_fin ?_
    have c0 := out_gas HRW.out
    have c1 := out_err HRW.out
    rw [Nat.zero_add] at c1
    have HTE := Lib.hid (HTG.out _ t5)
    go_wp2_with fail
    refine (law_num 17 _).mono ?_
    rintro e wz ⟨rfl, rfl⟩
    go_wp2
    go_ret
    exact ⟨rfl, HTE.out.1⟩
   refine tree_run rfl (fun K hK => ?_)
   go_simp
   obtain ⟨rb, er⟩ : ∃ rb, rb = y1.heap.size := ⟨_, rfl⟩
   obtain ⟨y2, ey2⟩ : ∃ y2, y2 = y1.alloc (.cells (cat zs46).toArray 65) := ⟨_, rfl⟩
   have HBA : Hid (Below y1.heap.size y1 y2) := by show Below _ _ _; rw [ey2]; exact (Below.refl _ _).alloc (Nat.le_refl _) _
   have HZ2 : Hid (y2.free? rb 0 24 = true) := by show _ = _; rw [ey2, er]; exact World.free?_alloc_at _ _ rfl (by rw [zs46_len]; omega)
   have HRB : Hid (tb < rb ∧ w.heap.size ≤ rb) := by rw [er]; exact ⟨World.row?_lt (HTG.out _ t1).2, (HTG.out _ t1).1.size⟩
   have t2 : T y2 := HTN.out _ _ t1 HBA.out
   rw [← ey2, ← er]
   clear ey2 er
   refine hK.out _ _ t2 ?_
   clear hK K
   refine tree_run rfl (fun K hK => ?_)
   go_simp
   have HCDx := Lib.hid (HCD.out.below HBA.out)
   refine (law_two HCDx.out (roAt_nil _ _)).mono ?_
   rintro e y3 ⟨gb, rfl, hby, hac⟩
   have HAC := Lib.hid hac
   have t3 : T y3 := HTN.out _ _ t2 hby
   have HZ3 : Hid (y3.free? rb 0 24 = true) := ((brow hby).2 _ _ _ (free?_lt HZ2.out)).trans HZ2.out
   clear hby hac
   refine hK.out _ _ t3 ?_
   clear hK K
   refine tree_run rfl (fun K hK => ?_)
   go_simp
   have HBO := law_both (c := 3) (l := (twoL [96, 1] [])) (m := (askM 0 a0)) (ad := 0) (by decide) HAC.out (by intro x hx; simp [twoL] at hx; rcases hx with rfl | rfl | rfl <;> decide) (roAt_nil _ _) (by decide) HRP.out HRR.out (newS_slotsD _)
   rw [show ((twoL [96, 1] [])).length = 3 from rfl] at HBO
   refine HBO.mono ?_
   rintro e y4 ⟨oa, oc, la, lc, sb, own, n, rfl, hby, hst, hge⟩
   have HST4 := Lib.hid hst
   have t4 : T y4 := HTN.out _ _ t3 hby
   obtain ⟨O, hO⟩ : ∃ O, O = outV 20000 17 0 oa ([] : Bts).length oc la lc := ⟨_, rfl⟩
   have hOl : O.length = 24 := by rw [hO]; exact outV_len _ _ _ _ _ _ _ _
   have hOk : okL 24 O = true := by rw [hO]; exact outV_ok _ _ _ _ _ _ _ _
   rw [← hO]
   have HOO := Lib.hid hO
   have HZ4 : Hid (y4.free? rb 0 24 = true) := ((brow hby).2 _ _ _ (free?_lt HZ3.out)).trans HZ3.out
   have HOWN : Hid (own rb = none) := by
    show own rb = none
    have h1 := free?_lt HZ3.out
    have : ¬ own rb ≠ none := fun hx => by have := hge rb hx; omega
    exact Classical.not_not.1 this
   clear hby hst hO HBO hge
   refine hK.out _ _ t4 ?_
   clear hK K
   refine tree_pure ?_ rfl (by rfl) (fun w' hs => ?_) (fun _ _ _ h => h) ?_
   rotate_left
   ·clear hs
    go_simp
    try rfl
   simp only [Act.put, tsa, tsb, tsc]
   refine tree_pure ?_ rfl (by rfl) (fun w' hs => ?_) (fun _ _ _ h => h) ?_
   rotate_left
   ·clear hs
    go_simp
    try rfl
   simp only [Act.put, tsa, tsb, tsc]
   refine tree_pure ?_ rfl (by rfl) (fun w' hs => ?_) (fun _ _ _ h => h) ?_
   rotate_left
   ·clear hs
    go_simp
    try rfl
   simp only [Act.put, tsa, tsb, tsc]
   refine tree_pure ?_ rfl (by rfl) (fun w' hs => ?_) (fun _ _ _ h => h) ?_
   rotate_left
   ·clear hs
    go_simp
    try rfl
   simp only [Act.put, tsa, tsb, tsc]
   refine tree_run rfl (fun K hK => ?_)
   have fz := HZ4.out
   go_simp
   obtain ⟨y5, ey5⟩ : ∃ y5, y5 = y4.setCells rb 0 O := ⟨_, rfl⟩
   have HRW : Hid (y5.row? rb 0 24 = some (outV 20000 17 0 oa ([] : Bts).length oc la lc)) := by show _ = _; rw [ey5, ← HOO.out]; exact row?_setCells_whole O HZ4.out hOk
   have hO1 : Only (fun b => b = rb) y4 y5 := by rw [ey5]; exact Only.setCells (S := fun b => b = rb) (Only.refl _ _) (fun _ => rfl) _ _
   have t5 : T y5 := HTO.out _ _ _ t4 hO1 HRB.out.1 HRB.out.2
   have HSTZ : Hid (StateAt TU y5 own sb (newS (twoL [96, 1] [])) [] n) := HST4.out.only hO1 (fun b hx => by rw [hx]; exact HOWN.out)
   rw [← ey5]
   clear ey5 hO1 fz
   refine hK.out _ _ t5 ?_
   clear hK K
   refine tree_pure ?_ rfl (by rfl) (fun w' hs => ?_) (fun _ _ _ h => h) ?_
   rotate_left
   ·clear hs
    go_simp
    try rfl
   simp only [Act.put, tsa, tsb, tsc]
   refine tree_pure ?_ rfl (by rfl) (fun w' hs => ?_) (fun _ _ _ h => h) ?_
   rotate_left
   ·clear hs
    go_simp
    try rfl
   simp only [Act.put, tsa, tsb, tsc]
   refine tree_fin ?_
   have c0 := out_gas HRW.out
   have c1 := out_err HRW.out
   rw [Nat.zero_add] at c1
   have HTE := Lib.hid (HTG.out _ t5)
   go_wp2_with fail
   refine (law_num 17 _).mono ?_
   rintro e wz ⟨rfl, rfl⟩
   go_wp2
   go_ret
   exact ⟨rfl, HTE.out.1⟩
  refine tree_run rfl (fun K hK => ?_)
  go_simp
  obtain ⟨rb, er⟩ : ∃ rb, rb = v4.heap.size := ⟨_, rfl⟩
  obtain ⟨y1, ey1⟩ : ∃ y1, y1 = v4.alloc (.cells (cat zs46).toArray 65) := ⟨_, rfl⟩
  have HBA : Hid (Below v4.heap.size v4 y1) := by show Below _ _ _; rw [ey1]; exact (Below.refl _ _).alloc (Nat.le_refl _) _
  have HZ1 : Hid (y1.free? rb 0 24 = true) := by show _ = _; rw [ey1, er]; exact World.free?_alloc_at _ _ rfl (by rw [zs46_len]; omega)
  have HRB : Hid (tb < rb ∧ w.heap.size ≤ rb) := by rw [er]; exact ⟨World.row?_lt (HTG.out _ t0).2, (HTG.out _ t0).1.size⟩
  have t1 : T y1 := HTN.out _ _ t0 HBA.out
  rw [← ey1, ← er]
  clear ey1 er
  refine hK.out _ _ t1 ?_
  clear hK K
  refine tree_run rfl (fun K hK => ?_)
  go_simp
  obtain ⟨y2, ey2⟩ : ∃ y2, y2 = y1.alloc (.cells #[.int .u8 96, .int .u8 1] 5) := ⟨_, rfl⟩
  have hby : Below y1.heap.size y1 y2 := by rw [ey2]; exact (Below.refl _ _).alloc (Nat.le_refl _) _
  have HCD : Hid (RoAt y2 (fun _ => False) (.slice (some ⟨y1.heap.size, 0, none⟩) 2 2) [96, 1]) := by rw [ey2]; exact ⟨⟨_, _, rfl, Ints.new y1 .u8 [96, 1] 5 (by decide), fun _ _ _ h => h⟩, by intro x hx; simp at hx; omega, by decide⟩
  obtain ⟨cb, hcb⟩ : ∃ cb, cb = y1.heap.size := ⟨_, rfl⟩
  rw [← hcb] at HCD
  rw [← ey2, ← hcb]
  have t2 : T y2 := HTN.out _ _ t1 hby
  have HZ2 : Hid (y2.free? rb 0 24 = true) := ((brow hby).2 _ _ _ (free?_lt HZ1.out)).trans HZ1.out
  clear ey2 hcb hby
  refine hK.out _ _ t2 ?_
  clear hK K
  refine tree_run rfl (fun K hK => ?_)
  go_simp
  refine (law_two HCD.out (roAt_nil _ _)).mono ?_
  rintro e y3 ⟨gb, rfl, hby, hac⟩
  have HAC := Lib.hid hac
  have t3 : T y3 := HTN.out _ _ t2 hby
  have HZ3 : Hid (y3.free? rb 0 24 = true) := ((brow hby).2 _ _ _ (free?_lt HZ2.out)).trans HZ2.out
  clear hby hac
  refine hK.out _ _ t3 ?_
  clear hK K
  refine tree_run rfl (fun K hK => ?_)
  go_simp
  have HBO := law_both (c := 3) (l := (twoL [96, 1] [])) (m := (askM 0 a0)) (ad := 0) (by decide) HAC.out (by intro x hx; simp [twoL] at hx; rcases hx with rfl | rfl | rfl <;> decide) (roAt_nil _ _) (by decide) HRP.out HRR.out (newS_slotsD _)
  rw [show ((twoL [96, 1] [])).length = 3 from rfl] at HBO
  refine HBO.mono ?_
  rintro e y4 ⟨oa, oc, la, lc, sb, own, n, rfl, hby, hst, hge⟩
  have HST4 := Lib.hid hst
  have t4 : T y4 := HTN.out _ _ t3 hby
  obtain ⟨O, hO⟩ : ∃ O, O = outV 20000 17 0 oa ([] : Bts).length oc la lc := ⟨_, rfl⟩
  have hOl : O.length = 24 := by rw [hO]; exact outV_len _ _ _ _ _ _ _ _
  have hOk : okL 24 O = true := by rw [hO]; exact outV_ok _ _ _ _ _ _ _ _
  rw [← hO]
  have HOO := Lib.hid hO
  have HZ4 : Hid (y4.free? rb 0 24 = true) := ((brow hby).2 _ _ _ (free?_lt HZ3.out)).trans HZ3.out
  have HOWN : Hid (own rb = none) := by
   show own rb = none
   have h1 := free?_lt HZ3.out
   have : ¬ own rb ≠ none := fun hx => by have := hge rb hx; omega
   exact Classical.not_not.1 this
  clear hby hst hO HBO hge
  refine hK.out _ _ t4 ?_
  clear hK K
  refine tree_pure ?_ rfl (by rfl) (fun w' hs => ?_) (fun _ _ _ h => h) ?_
  rotate_left
  ·clear hs
   go_simp
   try rfl
  simp only [Act.put, tsa, tsb, tsc]
  refine tree_pure ?_ rfl (by rfl) (fun w' hs => ?_) (fun _ _ _ h => h) ?_
  rotate_left
  ·clear hs
   go_simp
   try rfl
  simp only [Act.put, tsa, tsb, tsc]
  refine tree_pure ?_ rfl (by rfl) (fun w' hs => ?_) (fun _ _ _ h => h) ?_
  rotate_left
  ·clear hs
   go_simp
   try rfl
  simp only [Act.put, tsa, tsb, tsc]
  refine tree_pure ?_ rfl (by rfl) (fun w' hs => ?_) (fun _ _ _ h => h) ?_
  rotate_left
  ·clear hs
   go_simp
   try rfl
  simp only [Act.put, tsa, tsb, tsc]
  refine tree_run rfl (fun K hK => ?_)
  have fz := HZ4.out
  go_simp
  obtain ⟨y5, ey5⟩ : ∃ y5, y5 = y4.setCells rb 0 O := ⟨_, rfl⟩
  have HRW : Hid (y5.row? rb 0 24 = some (outV 20000 17 0 oa ([] : Bts).length oc la lc)) := by show _ = _; rw [ey5, ← HOO.out]; exact row?_setCells_whole O HZ4.out hOk
  have hO1 : Only (fun b => b = rb) y4 y5 := by rw [ey5]; exact Only.setCells (S := fun b => b = rb) (Only.refl _ _) (fun _ => rfl) _ _
  have t5 : T y5 := HTO.out _ _ _ t4 hO1 HRB.out.1 HRB.out.2
  have HSTZ : Hid (StateAt TU y5 own sb (newS (twoL [96, 1] [])) [] n) := HST4.out.only hO1 (fun b hx => by rw [hx]; exact HOWN.out)
  rw [← ey5]
  clear ey5 hO1 fz
  refine hK.out _ _ t5 ?_
  clear hK K
  refine tree_pure ?_ rfl (by rfl) (fun w' hs => ?_) (fun _ _ _ h => h) ?_
  rotate_left
  ·clear hs
   go_simp
   try rfl
  simp only [Act.put, tsa, tsb, tsc]
  refine tree_pure ?_ rfl (by rfl) (fun w' hs => ?_) (fun _ _ _ h => h) ?_
  rotate_left
  ·clear hs
   go_simp
   try rfl
  simp only [Act.put, tsa, tsb, tsc]
  refine tree_fin ?_
  have c0 := out_gas HRW.out
  have c1 := out_err HRW.out
  rw [Nat.zero_add] at c1
  have HTE := Lib.hid (HTG.out _ t5)
  go_wp2_with fail
  refine (law_num 17 _).mono ?_
  rintro e wz ⟨rfl, rfl⟩
  go_wp2
  go_ret
  exact ⟨rfl, HTE.out.1⟩
 ·obtain ⟨fp, hp1, hp2, hp3, hp4⟩ := loopP1 0 a0 (movQ [96, 1] [] 0)
  obtain ⟨fx, hx1, hx2, hx3⟩ := loopX1 0 a0 (movQ [96, 1] [] 0)
  have HRP : Hid (RunsP (askM 0 a0) (.slice none 0 0) ⟨0, 0, 0, 0, 0⟩ (newS (twoL [96, 1] [])) 19997 0 0 [] (movQ [96, 1] [] 0)) := by
   have := runsP_ok (dv := .slice none 0 0) HM.out rfl ⟨show (0 : Int) ≤ 20000 by decide, show (20000 : Int) ≤ _ by decide⟩ (show (askM 0 a0).depth ≤ 64 by show a0 ≤ 64; omega) (moveT [96, 1] [] 0 (by decide)) hp1 hp4
   rw [hp2, hp3] at this; exact this
  have HRR : Hid (RunsR (askM 0 a0) (.slice none 0 0) ⟨0, 0, 0, 0, 0⟩ (newS (twoL [96, 1] [])) 19997 0 0 [] (movQ [96, 1] [] 0)) := by
   have := runsR_ok (dv := .slice none 0 0) HM.out rfl ⟨show (0 : Int) ≤ 20000 by decide, show (20000 : Int) ≤ _ by decide⟩ (show (askM 0 a0).depth ≤ 64 by show a0 ≤ 64; omega) rfl (moveT [96, 1] [] 0 (by decide)) hx1 hx3
   rw [hx2, hx3] at this; exact this
  have dd : decide (64 < a0) = false := decide_eq_false hdp
  have HDP := Lib.hid hdp
  clear hdp hp1 hp2 hp3 hp4 hx1 hx2 hx3 fp fx
  go_wp2_with fail
  rw [← HE3.out]
  rw [← HTB.out]
  rw [← HE4.out]
  refine wp_region_tree T [] (.take 2 (.alt 0 (.alt 1 (.alt 3 (.pure 4 (.pure 5 (.pure 6 (.pure 7 (.alt 8 (.alt 9 (.pure 10 (.pure 11 .fin)) .stop) .stop))))) (.alt 8 (.alt 3 (.pure 4 (.pure 5 (.pure 6 (.pure 7 (.alt 9 (.pure 10 (.pure 11 .fin)) .stop))))) .stop) .stop)) (.alt 8 (.alt 1 (.alt 3 (.pure 4 (.pure 5 (.pure 6 (.pure 7 (.alt 9 (.pure 10 (.pure 11 .fin)) .stop))))) .stop) .stop) .stop)) (.alt 8 (.alt 0 (.alt 1 (.alt 3 (.pure 4 (.pure 5 (.pure 6 (.pure 7 (.alt 9 (.pure 10 (.pure 11 .fin)) .stop))))) .stop) .stop) .stop) .stop))) (by kernel_rfl) (by kernel_rfl) ?_
  generalize w4.drew = v4 at *
  refine tree_take ?_ t0 rfl (by rfl) (fun w' hs => ?_) (fun _ _ _ h => h) ?_
  rotate_left
  ·rw [HT.out] at hs
   obtain ⟨_, g1⟩ := HTG.out w' (by rw [HT.out]; exact hs)
   go_simp
   try rfl
  simp only [Act.put, tsa, tsb, tsc]
  refine tree_alt rfl (fun K hK => ?_) ?_
  ·go_simp
   obtain ⟨y1, ey1⟩ : ∃ y1, y1 = v4.alloc (.cells #[.int .u8 96, .int .u8 1] 5) := ⟨_, rfl⟩
   have hby : Below v4.heap.size v4 y1 := by rw [ey1]; exact (Below.refl _ _).alloc (Nat.le_refl _) _
   have HCD : Hid (RoAt y1 (fun _ => False) (.slice (some ⟨v4.heap.size, 0, none⟩) 2 2) [96, 1]) := by rw [ey1]; exact ⟨⟨_, _, rfl, Ints.new v4 .u8 [96, 1] 5 (by decide), fun _ _ _ h => h⟩, by intro x hx; simp at hx; omega, by decide⟩
   obtain ⟨cb, hcb⟩ : ∃ cb, cb = v4.heap.size := ⟨_, rfl⟩
   rw [← hcb] at HCD
   rw [← ey1, ← hcb]
   have t1 : T y1 := HTN.out _ _ t0 hby
   clear ey1 hcb hby
   refine hK.out _ _ t1 ?_
   clear hK K
   refine tree_alt rfl (fun K hK => ?_) ?_
   ·go_simp
    refine (law_two HCD.out (roAt_nil _ _)).mono ?_
    rintro e y2 ⟨gb, rfl, hby, hac⟩
    have HAC := Lib.hid hac
    have t2 : T y2 := HTN.out _ _ t1 hby
    clear hby hac
    refine hK.out _ _ t2 ?_
    clear hK K
    refine tree_alt rfl (fun K hK => ?_) ?_
    ·go_simp
     have HBO := law_both (c := 3) (l := (twoL [96, 1] [])) (m := (askM 0 a0)) (ad := 0) (by decide) HAC.out (by intro x hx; simp [twoL] at hx; rcases hx with rfl | rfl | rfl <;> decide) (roAt_nil _ _) (by decide) HRP.out HRR.out (movQ_slots _ _ _)
     rw [show ((twoL [96, 1] [])).length = 3 from rfl] at HBO
     refine HBO.mono ?_
     rintro e y3 ⟨oa, oc, la, lc, sb, own, n, rfl, hby, hst, hge⟩
     have HST3 := Lib.hid hst
     have t3 : T y3 := HTN.out _ _ t2 hby
     obtain ⟨O, hO⟩ : ∃ O, O = outV 19997 0 0 oa ([] : Bts).length oc la lc := ⟨_, rfl⟩
     have hOl : O.length = 24 := by rw [hO]; exact outV_len _ _ _ _ _ _ _ _
     have hOk : okL 24 O = true := by rw [hO]; exact outV_ok _ _ _ _ _ _ _ _
     rw [← hO]
     have HOO := Lib.hid hO
     clear hby hst hO HBO hge
     refine hK.out _ _ t3 ?_
     clear hK K
     refine tree_pure ?_ rfl (by rfl) (fun w' hs => ?_) (fun _ _ _ h => h) ?_
     rotate_left
     ·clear hs
      go_simp
      try rfl
     simp only [Act.put, tsa, tsb, tsc]
     refine tree_pure ?_ rfl (by rfl) (fun w' hs => ?_) (fun _ _ _ h => h) ?_
     rotate_left
     ·clear hs
      go_simp
      try rfl
     simp only [Act.put, tsa, tsb, tsc]
     refine tree_pure ?_ rfl (by rfl) (fun w' hs => ?_) (fun _ _ _ h => h) ?_
     rotate_left
     ·clear hs
      go_simp
      try rfl
     simp only [Act.put, tsa, tsb, tsc]
     refine tree_pure ?_ rfl (by rfl) (fun w' hs => ?_) (fun _ _ _ h => h) ?_
     rotate_left
     ·clear hs
      go_simp
      try rfl
     simp only [Act.put, tsa, tsb, tsc]
     refine tree_run rfl (fun K hK => ?_)
     go_simp
     obtain ⟨rb, er⟩ : ∃ rb, rb = y3.heap.size := ⟨_, rfl⟩
     obtain ⟨y4, ey4⟩ : ∃ y4, y4 = y3.alloc (.cells (cat zs46).toArray 65) := ⟨_, rfl⟩
     have HBA : Hid (Below y3.heap.size y3 y4) := by show Below _ _ _; rw [ey4]; exact (Below.refl _ _).alloc (Nat.le_refl _) _
     have HZ4 : Hid (y4.free? rb 0 24 = true) := by show _ = _; rw [ey4, er]; exact World.free?_alloc_at _ _ rfl (by rw [zs46_len]; omega)
     have HRB : Hid (tb < rb ∧ w.heap.size ≤ rb) := by rw [er]; exact ⟨World.row?_lt (HTG.out _ t3).2, (HTG.out _ t3).1.size⟩
     have t4 : T y4 := HTN.out _ _ t3 HBA.out
     have HST4 := Lib.hid (HST3.out.below HBA.out)
     have HOWN : Hid (own rb = none) := by show _ = _; rw [er]; exact free_own HST3.out.lows (Nat.le_refl _)
     rw [← ey4, ← er]
     clear ey4 er
     refine hK.out _ _ t4 ?_
     clear hK K
     refine tree_run rfl (fun K hK => ?_)
     have fz := HZ4.out
     go_simp
     obtain ⟨y5, ey5⟩ : ∃ y5, y5 = y4.setCells rb 0 O := ⟨_, rfl⟩
     have HRW : Hid (y5.row? rb 0 24 = some (outV 19997 0 0 oa ([] : Bts).length oc la lc)) := by show _ = _; rw [ey5, ← HOO.out]; exact row?_setCells_whole O HZ4.out hOk
     have hO1 : Only (fun b => b = rb) y4 y5 := by rw [ey5]; exact Only.setCells (S := fun b => b = rb) (Only.refl _ _) (fun _ => rfl) _ _
     have t5 : T y5 := HTO.out _ _ _ t4 hO1 HRB.out.1 HRB.out.2
     have HSTZ : Hid (StateAt TU y5 own sb (movQ [96, 1] [] 0) [] n) := HST4.out.only hO1 (fun b hx => by rw [hx]; exact HOWN.out)
     rw [← ey5]
     clear ey5 hO1 fz
     refine hK.out _ _ t5 ?_
     clear hK K
     refine tree_pure ?_ rfl (by rfl) (fun w' hs => ?_) (fun _ _ _ h => h) ?_
     rotate_left
     ·clear hs
      go_simp
      try rfl
     simp only [Act.put, tsa, tsb, tsc]
     refine tree_pure ?_ rfl (by rfl) (fun w' hs => ?_) (fun _ _ _ h => h) ?_
     rotate_left
     ·clear hs
      go_simp
      try rfl
     simp only [Act.put, tsa, tsb, tsc]
     refine tree_fin ?_
     have c0 := out_gas HRW.out
     have c1 := out_err HRW.out
     rw [Nat.zero_add] at c1
     have HTE := Lib.hid (HTG.out _ t5)
     go_wp2_with fail
     refine (law_num 0 _).mono ?_
     rintro e wz ⟨rfl, rfl⟩
     go_wp2
     go_ret
     exact ⟨rfl, HTE.out.1⟩
    refine tree_run rfl (fun K hK => ?_)
    go_simp
    obtain ⟨rb, er⟩ : ∃ rb, rb = y2.heap.size := ⟨_, rfl⟩
    obtain ⟨y3, ey3⟩ : ∃ y3, y3 = y2.alloc (.cells (cat zs46).toArray 65) := ⟨_, rfl⟩
    have HBA : Hid (Below y2.heap.size y2 y3) := by show Below _ _ _; rw [ey3]; exact (Below.refl _ _).alloc (Nat.le_refl _) _
    have HZ3 : Hid (y3.free? rb 0 24 = true) := by show _ = _; rw [ey3, er]; exact World.free?_alloc_at _ _ rfl (by rw [zs46_len]; omega)
    have HRB : Hid (tb < rb ∧ w.heap.size ≤ rb) := by rw [er]; exact ⟨World.row?_lt (HTG.out _ t2).2, (HTG.out _ t2).1.size⟩
    have t3 : T y3 := HTN.out _ _ t2 HBA.out
    have HACx := Lib.hid (fun i hi => (HAC.out i hi).below HBA.out)
    rw [← ey3, ← er]
    clear ey3 er
    refine hK.out _ _ t3 ?_
    clear hK K
    refine tree_run rfl (fun K hK => ?_)
    go_simp
    have HBO := law_both (c := 3) (l := (twoL [96, 1] [])) (m := (askM 0 a0)) (ad := 0) (by decide) HACx.out (by intro x hx; simp [twoL] at hx; rcases hx with rfl | rfl | rfl <;> decide) (roAt_nil _ _) (by decide) HRP.out HRR.out (movQ_slots _ _ _)
    rw [show ((twoL [96, 1] [])).length = 3 from rfl] at HBO
    refine HBO.mono ?_
    rintro e y4 ⟨oa, oc, la, lc, sb, own, n, rfl, hby, hst, hge⟩
    have HST4 := Lib.hid hst
    have t4 : T y4 := HTN.out _ _ t3 hby
    obtain ⟨O, hO⟩ : ∃ O, O = outV 19997 0 0 oa ([] : Bts).length oc la lc := ⟨_, rfl⟩
    have hOl : O.length = 24 := by rw [hO]; exact outV_len _ _ _ _ _ _ _ _
    have hOk : okL 24 O = true := by rw [hO]; exact outV_ok _ _ _ _ _ _ _ _
    rw [← hO]
    have HOO := Lib.hid hO
    have HZ4 : Hid (y4.free? rb 0 24 = true) := ((brow hby).2 _ _ _ (free?_lt HZ3.out)).trans HZ3.out
    have HOWN : Hid (own rb = none) := by
     show own rb = none
     have h1 := free?_lt HZ3.out
     have : ¬ own rb ≠ none := fun hx => by have := hge rb hx; omega
     exact Classical.not_not.1 this
    clear hby hst hO HBO hge
    refine hK.out _ _ t4 ?_
    clear hK K
    refine tree_pure ?_ rfl (by rfl) (fun w' hs => ?_) (fun _ _ _ h => h) ?_
    rotate_left
    ·clear hs
     go_simp
     try rfl
    simp only [Act.put, tsa, tsb, tsc]
    refine tree_pure ?_ rfl (by rfl) (fun w' hs => ?_) (fun _ _ _ h => h) ?_
    rotate_left
    ·clear hs
     go_simp
     try rfl
    simp only [Act.put, tsa, tsb, tsc]
    refine tree_pure ?_ rfl (by rfl) (fun w' hs => ?_) (fun _ _ _ h => h) ?_
    rotate_left
    ·clear hs
     go_simp
     try rfl
    simp only [Act.put, tsa, tsb, tsc]
    refine tree_pure ?_ rfl (by rfl) (fun w' hs => ?_) (fun _ _ _ h => h) ?_
    rotate_left
    ·clear hs
     go_simp
     try rfl
    simp only [Act.put, tsa, tsb, tsc]
    refine tree_run rfl (fun K hK => ?_)
    have fz := HZ4.out
    go_simp
    obtain ⟨y5, ey5⟩ : ∃ y5, y5 = y4.setCells rb 0 O := ⟨_, rfl⟩
    have HRW : Hid (y5.row? rb 0 24 = some (outV 19997 0 0 oa ([] : Bts).length oc la lc)) := by show _ = _; rw [ey5, ← HOO.out]; exact row?_setCells_whole O HZ4.out hOk
    have hO1 : Only (fun b => b = rb) y4 y5 := by rw [ey5]; exact Only.setCells (S := fun b => b = rb) (Only.refl _ _) (fun _ => rfl) _ _
    have t5 : T y5 := HTO.out _ _ _ t4 hO1 HRB.out.1 HRB.out.2
    have HSTZ : Hid (StateAt TU y5 own sb (movQ [96, 1] [] 0) [] n) := HST4.out.only hO1 (fun b hx => by rw [hx]; exact HOWN.out)
    rw [← ey5]
    clear ey5 hO1 fz
    refine hK.out _ _ t5 ?_
    clear hK K
    refine tree_pure ?_ rfl (by rfl) (fun w' hs => ?_) (fun _ _ _ h => h) ?_
    rotate_left
    ·clear hs
     go_simp
     try rfl
    simp only [Act.put, tsa, tsb, tsc]
    refine tree_pure ?_ rfl (by rfl) (fun w' hs => ?_) (fun _ _ _ h => h) ?_
    rotate_left
    ·clear hs
     go_simp
     try rfl
    simp only [Act.put, tsa, tsb, tsc]
    refine tree_fin ?_
    have c0 := out_gas HRW.out
    have c1 := out_err HRW.out
    rw [Nat.zero_add] at c1
    have HTE := Lib.hid (HTG.out _ t5)
    go_wp2_with fail
    refine (law_num 0 _).mono ?_
    rintro e wz ⟨rfl, rfl⟩
    go_wp2
    go_ret
    exact ⟨rfl, HTE.out.1⟩
   refine tree_run rfl (fun K hK => ?_)
   go_simp
   obtain ⟨rb, er⟩ : ∃ rb, rb = y1.heap.size := ⟨_, rfl⟩
   obtain ⟨y2, ey2⟩ : ∃ y2, y2 = y1.alloc (.cells (cat zs46).toArray 65) := ⟨_, rfl⟩
   have HBA : Hid (Below y1.heap.size y1 y2) := by show Below _ _ _; rw [ey2]; exact (Below.refl _ _).alloc (Nat.le_refl _) _
   have HZ2 : Hid (y2.free? rb 0 24 = true) := by show _ = _; rw [ey2, er]; exact World.free?_alloc_at _ _ rfl (by rw [zs46_len]; omega)
   have HRB : Hid (tb < rb ∧ w.heap.size ≤ rb) := by rw [er]; exact ⟨World.row?_lt (HTG.out _ t1).2, (HTG.out _ t1).1.size⟩
   have t2 : T y2 := HTN.out _ _ t1 HBA.out
   rw [← ey2, ← er]
   clear ey2 er
   refine hK.out _ _ t2 ?_
   clear hK K
   refine tree_run rfl (fun K hK => ?_)
   go_simp
   have HCDx := Lib.hid (HCD.out.below HBA.out)
   refine (law_two HCDx.out (roAt_nil _ _)).mono ?_
   rintro e y3 ⟨gb, rfl, hby, hac⟩
   have HAC := Lib.hid hac
   have t3 : T y3 := HTN.out _ _ t2 hby
   have HZ3 : Hid (y3.free? rb 0 24 = true) := ((brow hby).2 _ _ _ (free?_lt HZ2.out)).trans HZ2.out
   clear hby hac
   refine hK.out _ _ t3 ?_
   clear hK K
   refine tree_run rfl (fun K hK => ?_)
   go_simp
   have HBO := law_both (c := 3) (l := (twoL [96, 1] [])) (m := (askM 0 a0)) (ad := 0) (by decide) HAC.out (by intro x hx; simp [twoL] at hx; rcases hx with rfl | rfl | rfl <;> decide) (roAt_nil _ _) (by decide) HRP.out HRR.out (movQ_slots _ _ _)
   rw [show ((twoL [96, 1] [])).length = 3 from rfl] at HBO
   refine HBO.mono ?_
   rintro e y4 ⟨oa, oc, la, lc, sb, own, n, rfl, hby, hst, hge⟩
   have HST4 := Lib.hid hst
   have t4 : T y4 := HTN.out _ _ t3 hby
   obtain ⟨O, hO⟩ : ∃ O, O = outV 19997 0 0 oa ([] : Bts).length oc la lc := ⟨_, rfl⟩
   have hOl : O.length = 24 := by rw [hO]; exact outV_len _ _ _ _ _ _ _ _
   have hOk : okL 24 O = true := by rw [hO]; exact outV_ok _ _ _ _ _ _ _ _
   rw [← hO]
   have HOO := Lib.hid hO
   have HZ4 : Hid (y4.free? rb 0 24 = true) := ((brow hby).2 _ _ _ (free?_lt HZ3.out)).trans HZ3.out
   have HOWN : Hid (own rb = none) := by
    show own rb = none
    have h1 := free?_lt HZ3.out
    have : ¬ own rb ≠ none := fun hx => by have := hge rb hx; omega
    exact Classical.not_not.1 this
   clear hby hst hO HBO hge
   refine hK.out _ _ t4 ?_
   clear hK K
   refine tree_pure ?_ rfl (by rfl) (fun w' hs => ?_) (fun _ _ _ h => h) ?_
   rotate_left
   ·clear hs
    go_simp
    try rfl
   simp only [Act.put, tsa, tsb, tsc]
   refine tree_pure ?_ rfl (by rfl) (fun w' hs => ?_) (fun _ _ _ h => h) ?_
   rotate_left
   ·clear hs
    go_simp
    try rfl
   simp only [Act.put, tsa, tsb, tsc]
   refine tree_pure ?_ rfl (by rfl) (fun w' hs => ?_) (fun _ _ _ h => h) ?_
   rotate_left
   ·clear hs
    go_simp
    try rfl
   simp only [Act.put, tsa, tsb, tsc]
   refine tree_pure ?_ rfl (by rfl) (fun w' hs => ?_) (fun _ _ _ h => h) ?_
   rotate_left
   ·clear hs
    go_simp
    try rfl
   simp only [Act.put, tsa, tsb, tsc]
   refine tree_run rfl (fun K hK => ?_)
   have fz := HZ4.out
   go_simp
   obtain ⟨y5, ey5⟩ : ∃ y5, y5 = y4.setCells rb 0 O := ⟨_, rfl⟩
   have HRW : Hid (y5.row? rb 0 24 = some (outV 19997 0 0 oa ([] : Bts).length oc la lc)) := by show _ = _; rw [ey5, ← HOO.out]; exact row?_setCells_whole O HZ4.out hOk
   have hO1 : Only (fun b => b = rb) y4 y5 := by rw [ey5]; exact Only.setCells (S := fun b => b = rb) (Only.refl _ _) (fun _ => rfl) _ _
   have t5 : T y5 := HTO.out _ _ _ t4 hO1 HRB.out.1 HRB.out.2
   have HSTZ : Hid (StateAt TU y5 own sb (movQ [96, 1] [] 0) [] n) := HST4.out.only hO1 (fun b hx => by rw [hx]; exact HOWN.out)
   rw [← ey5]
   clear ey5 hO1 fz
   refine hK.out _ _ t5 ?_
   clear hK K
   refine tree_pure ?_ rfl (by rfl) (fun w' hs => ?_) (fun _ _ _ h => h) ?_
   rotate_left
   ·clear hs
    go_simp
    try rfl
   simp only [Act.put, tsa, tsb, tsc]
   refine tree_pure ?_ rfl (by rfl) (fun w' hs => ?_) (fun _ _ _ h => h) ?_
   rotate_left
   ·clear hs
    go_simp
    try rfl
   simp only [Act.put, tsa, tsb, tsc]
   refine tree_fin ?_
   have c0 := out_gas HRW.out
   have c1 := out_err HRW.out
   rw [Nat.zero_add] at c1
   have HTE := Lib.hid (HTG.out _ t5)
   go_wp2_with fail
   refine (law_num 0 _).mono ?_
   rintro e wz ⟨rfl, rfl⟩
   go_wp2
   go_ret
   exact ⟨rfl, HTE.out.1⟩
  refine tree_run rfl (fun K hK => ?_)
  go_simp
  obtain ⟨rb, er⟩ : ∃ rb, rb = v4.heap.size := ⟨_, rfl⟩
  obtain ⟨y1, ey1⟩ : ∃ y1, y1 = v4.alloc (.cells (cat zs46).toArray 65) := ⟨_, rfl⟩
  have HBA : Hid (Below v4.heap.size v4 y1) := by show Below _ _ _; rw [ey1]; exact (Below.refl _ _).alloc (Nat.le_refl _) _
  have HZ1 : Hid (y1.free? rb 0 24 = true) := by show _ = _; rw [ey1, er]; exact World.free?_alloc_at _ _ rfl (by rw [zs46_len]; omega)
  have HRB : Hid (tb < rb ∧ w.heap.size ≤ rb) := by rw [er]; exact ⟨World.row?_lt (HTG.out _ t0).2, (HTG.out _ t0).1.size⟩
  have t1 : T y1 := HTN.out _ _ t0 HBA.out
  rw [← ey1, ← er]
  clear ey1 er
  refine hK.out _ _ t1 ?_
  clear hK K
  refine tree_run rfl (fun K hK => ?_)
  go_simp
  obtain ⟨y2, ey2⟩ : ∃ y2, y2 = y1.alloc (.cells #[.int .u8 96, .int .u8 1] 5) := ⟨_, rfl⟩
  have hby : Below y1.heap.size y1 y2 := by rw [ey2]; exact (Below.refl _ _).alloc (Nat.le_refl _) _
  have HCD : Hid (RoAt y2 (fun _ => False) (.slice (some ⟨y1.heap.size, 0, none⟩) 2 2) [96, 1]) := by rw [ey2]; exact ⟨⟨_, _, rfl, Ints.new y1 .u8 [96, 1] 5 (by decide), fun _ _ _ h => h⟩, by intro x hx; simp at hx; omega, by decide⟩
  obtain ⟨cb, hcb⟩ : ∃ cb, cb = y1.heap.size := ⟨_, rfl⟩
  rw [← hcb] at HCD
  rw [← ey2, ← hcb]
  have t2 : T y2 := HTN.out _ _ t1 hby
  have HZ2 : Hid (y2.free? rb 0 24 = true) := ((brow hby).2 _ _ _ (free?_lt HZ1.out)).trans HZ1.out
  clear ey2 hcb hby
  refine hK.out _ _ t2 ?_
  clear hK K
  refine tree_run rfl (fun K hK => ?_)
  go_simp
  refine (law_two HCD.out (roAt_nil _ _)).mono ?_
  rintro e y3 ⟨gb, rfl, hby, hac⟩
  have HAC := Lib.hid hac
  have t3 : T y3 := HTN.out _ _ t2 hby
  have HZ3 : Hid (y3.free? rb 0 24 = true) := ((brow hby).2 _ _ _ (free?_lt HZ2.out)).trans HZ2.out
  clear hby hac
  refine hK.out _ _ t3 ?_
  clear hK K
  refine tree_run rfl (fun K hK => ?_)
  go_simp
  have HBO := law_both (c := 3) (l := (twoL [96, 1] [])) (m := (askM 0 a0)) (ad := 0) (by decide) HAC.out (by intro x hx; simp [twoL] at hx; rcases hx with rfl | rfl | rfl <;> decide) (roAt_nil _ _) (by decide) HRP.out HRR.out (movQ_slots _ _ _)
  rw [show ((twoL [96, 1] [])).length = 3 from rfl] at HBO
  refine HBO.mono ?_
  rintro e y4 ⟨oa, oc, la, lc, sb, own, n, rfl, hby, hst, hge⟩
  have HST4 := Lib.hid hst
  have t4 : T y4 := HTN.out _ _ t3 hby
  obtain ⟨O, hO⟩ : ∃ O, O = outV 19997 0 0 oa ([] : Bts).length oc la lc := ⟨_, rfl⟩
  have hOl : O.length = 24 := by rw [hO]; exact outV_len _ _ _ _ _ _ _ _
  have hOk : okL 24 O = true := by rw [hO]; exact outV_ok _ _ _ _ _ _ _ _
  rw [← hO]
  have HOO := Lib.hid hO
  have HZ4 : Hid (y4.free? rb 0 24 = true) := ((brow hby).2 _ _ _ (free?_lt HZ3.out)).trans HZ3.out
  have HOWN : Hid (own rb = none) := by
   show own rb = none
   have h1 := free?_lt HZ3.out
   have : ¬ own rb ≠ none := fun hx => by have := hge rb hx; omega
   exact Classical.not_not.1 this
  clear hby hst hO HBO hge
  refine hK.out _ _ t4 ?_
  clear hK K
  refine tree_pure ?_ rfl (by rfl) (fun w' hs => ?_) (fun _ _ _ h => h) ?_
  rotate_left
  ·clear hs
   go_simp
   try rfl
  simp only [Act.put, tsa, tsb, tsc]
  refine tree_pure ?_ rfl (by rfl) (fun w' hs => ?_) (fun _ _ _ h => h) ?_
  rotate_left
  ·clear hs
   go_simp
   try rfl
  simp only [Act.put, tsa, tsb, tsc]
  refine tree_pure ?_ rfl (by rfl) (fun w' hs => ?_) (fun _ _ _ h => h) ?_
  rotate_left
  ·clear hs
   go_simp
   try rfl
  simp only [Act.put, tsa, tsb, tsc]
  refine tree_pure ?_ rfl (by rfl) (fun w' hs => ?_) (fun _ _ _ h => h) ?_
  rotate_left
  ·clear hs
   go_simp
   try rfl
  simp only [Act.put, tsa, tsb, tsc]
  refine tree_run rfl (fun K hK => ?_)
  have fz := HZ4.out
  go_simp
  obtain ⟨y5, ey5⟩ : ∃ y5, y5 = y4.setCells rb 0 O := ⟨_, rfl⟩
  have HRW : Hid (y5.row? rb 0 24 = some (outV 19997 0 0 oa ([] : Bts).length oc la lc)) := by show _ = _; rw [ey5, ← HOO.out]; exact row?_setCells_whole O HZ4.out hOk
  have hO1 : Only (fun b => b = rb) y4 y5 := by rw [ey5]; exact Only.setCells (S := fun b => b = rb) (Only.refl _ _) (fun _ => rfl) _ _
  have t5 : T y5 := HTO.out _ _ _ t4 hO1 HRB.out.1 HRB.out.2
  have HSTZ : Hid (StateAt TU y5 own sb (movQ [96, 1] [] 0) [] n) := HST4.out.only hO1 (fun b hx => by rw [hx]; exact HOWN.out)
  rw [← ey5]
  clear ey5 hO1 fz
  refine hK.out _ _ t5 ?_
  clear hK K
  refine tree_pure ?_ rfl (by rfl) (fun w' hs => ?_) (fun _ _ _ h => h) ?_
  rotate_left
  ·clear hs
   go_simp
   try rfl
  simp only [Act.put, tsa, tsb, tsc]
  refine tree_pure ?_ rfl (by rfl) (fun w' hs => ?_) (fun _ _ _ h => h) ?_
  rotate_left
  ·clear hs
   go_simp
   try rfl
  simp only [Act.put, tsa, tsb, tsc]
  refine tree_fin ?_
  have c0 := out_gas HRW.out
  have c1 := out_err HRW.out
  rw [Nat.zero_add] at c1
  have HTE := Lib.hid (HTG.out _ t5)
  go_wp2_with fail
  refine (law_num 0 _).mono ?_
  rintro e wz ⟨rfl, rfl⟩
  go_wp2
  go_ret
  exact ⟨rfl, HTE.out.1⟩
end Go.Proofs.YtiglinnjnobodaaGreat
