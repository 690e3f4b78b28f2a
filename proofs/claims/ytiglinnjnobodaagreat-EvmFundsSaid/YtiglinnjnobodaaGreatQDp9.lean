/-
  The law: nobody gives what they have not.
-/
import Derived.Test.YtiglinnjnobodaaGreatQRf15
set_option linter.unusedVariables false
set_option linter.unusedSimpArgs false
namespace Go.Proofs.YtiglinnjnobodaaGreat
open Go.RowKit Go.Mun

set_option maxRecDepth 100000 in
set_option maxHeartbeats 8000000 in
theorem evmFunds_law (a0 : Int) (h0 : (Lit.int .i64 a0).wf = true) (w : World) :
  Calls Tryz.prog 6 #[.int .i64 a0] w fun e w' => e = .returned (.bool true) ∧ Below w.heap.size w w' := by
 have hA := Lib.hid (law_alive w)
 have HASK := Lib.hid (fun w => law_ask 20000 w)
 have o0 : ofW 0 = 0 := by kernel_rfl
 clear h0 o0
 go_enter Tryz.func6, Tryz.ntmps6
 go_wp2_with fail
 refine hA.out.mono ?_
 rintro e w1 ⟨rfl, hb1⟩
 have HB1 := Lib.hid hb1
 clear hb1 hA
 by_cases k0 : a0 < 0
 ·go_wp2
  go_ret
  exact ⟨rfl, HB1.out⟩
 have dk0 : decide (a0 < 0) = false := decide_eq_false k0
 have HK0 := Lib.hid k0
 clear k0
 by_cases k1 : 5000 < a0
 ·go_wp2
  go_ret
  exact ⟨rfl, HB1.out⟩
 have dk1 : decide (5000 < a0) = false := decide_eq_false k1
 have HK1 := Lib.hid k1
 clear k1
 obtain ⟨v, hv⟩ : ∃ v : Nat, a0 = v := ⟨a0.toNat, by have := HK0.out; omega⟩
 subst hv
 have HV : Hid (v ≤ 5000) := by show v ≤ 5000; have := HK1.out; omega
 have OV := Lib.hid (fun w => ref_of (v : Int) (by omega) (by have := HV.out; omega) w)
 rw [ofW_natD v (i64_wWD (by have := HV.out; omega))] at OV
 have O1 := Lib.hid (fun w => ref_of 1000 (by decide) (by decide) w)
 rw [show ofW 1000 = 1000 by kernel_rfl] at O1
 go_wp2_with fail
 refine (HASK.out _).mono ?_
 rintro e w2 ⟨rfl, hb2⟩
 have HB2 : Hid (Below w.heap.size w w2) := HB1.out.trans (hb2.mono HB1.out.size)
 clear hb2 HB1
 obtain ⟨C, hC⟩ : ∃ C, C = cat (msgS (askM 0 0) (.slice none 0 0)) := ⟨_, rfl⟩
 have hCC : cat (msgS ⟨0, 3, 1, 0, 0, 0, [], 20000, 0, false⟩ (.slice none 0 0)) = C := by rw [hC]; rfl
 rw [hCC]
 have hCl : C.length = 129 := by rw [hC]; exact msgS_len _ _
 have hCk : okL 129 C = true := by rw [hC]; exact msgS_okD _ _ _ _
 have hf3 : (w2.alloc (.cells (cat zs42).toArray 62)).free? w2.heap.size 0 129 = true := World.free?_alloc_at _ _ rfl (by rw [zs42_len]; omega)
 obtain ⟨tb, htb⟩ : ∃ tb, tb = w2.heap.size := ⟨_, rfl⟩
 obtain ⟨w3, e3⟩ : ∃ w3, w3 = (w2.alloc (.cells (cat zs42).toArray 62)).setCells w2.heap.size 0 C := ⟨_, rfl⟩
 have hb3 : Below w.heap.size w w3 := by rw [e3]; exact (HB2.out.alloc HB2.out.size _).setCells HB2.out.size _ _
 have hr3 : w3.row? tb 0 129 = some C := by rw [e3, htb]; exact row?_setCells_whole C hf3 hCk
 have hf3w : w3.free? tb 0 129 = true := by rw [e3, htb, World.free?_setCells']; exact hf3
 have HB3 := Lib.hid hb3
 have HE3 := Lib.hid e3
 have HTB := Lib.hid htb
 rw [hC] at hr3
 have HR3 := Lib.hid hr3
 have HF3 := Lib.hid hf3w
 have HM : Hid (MsgOk (askM v 0)) := askM_ok v 0 (i64_wWD (by have := HV.out; omega)) (by decide)
 obtain ⟨T, hT⟩ : ∃ T : World → Prop, T = fun W => Below w.heap.size w W ∧ W.row? tb 0 129 = some (cat (msgS (askM v 0) (.slice none 0 0))) := ⟨_, rfl⟩
 have HT := Lib.hid hT
 have HTN : Hid (∀ w2 w3, T w2 → Below w2.heap.size w2 w3 → T w3) := by show ∀ w2 w3, T w2 → Below w2.heap.size w2 w3 → T w3; rw [hT]; intro w2 w3 h hb; exact ⟨h.1.trans (hb.mono h.1.size), ((brow hb).1 _ _ _ (World.row?_lt h.2)).trans h.2⟩
 have HTO : Hid (∀ w2 w3 r, T w2 → Only (fun b => b = r) w2 w3 → tb < r → w.heap.size ≤ r → T w3) := by show ∀ w2 w3 r, T w2 → Only (fun b => b = r) w2 w3 → tb < r → w.heap.size ≤ r → T w3; rw [hT]; intro w2 w3 r h ho h1 h2; exact ⟨h.1.trans (ho.below h.1.size (fun i hi => by have e : i = r := hi; omega)), (ho.row? (World.row?_lt h.2) (by omega)).trans h.2⟩
 have HTG : Hid (∀ w2, T w2 → Below w.heap.size w w2 ∧ w2.row? tb 0 129 = some (cat (msgS (askM v 0) (.slice none 0 0)))) := by show ∀ w2, T w2 → _; rw [hT]; intro w2 h; exact h
 clear e3 htb hr3 hf3w hb3 hC hCC
 go_wp2_with fail
 rw [← HE3.out]
 rw [← HTB.out]
 refine (OV.out _).mono ?_
 rintro e w3b ⟨rfl, hb3b⟩
 have r3b : w3b.row? tb 0 129 = some (cat (msgS (askM 0 0) (.slice none 0 0))) := ((brow hb3b).1 _ _ _ (World.row?_lt HR3.out)).trans HR3.out
 have f3b : w3b.free? tb 0 129 = true := ((brow hb3b).2 _ _ _ (free?_lt HF3.out)).trans HF3.out
 have fv3 : w3b.free? tb 61 32 = true := World.free?_sub f3b (by omega)
 have HTW : Hid (w.heap.size ≤ tb) := by show _ ≤ _; rw [HTB.out]; exact HB2.out.size
 have HB3b : Hid (Below w.heap.size w w3b) := HB3.out.trans (hb3b.mono HB3.out.size)
 obtain ⟨w4, e4⟩ : ∃ w4, w4 = w3b.setCells tb 61 (beC 32 v) := ⟨_, rfl⟩
 have hr4 : w4.row? tb 0 129 = some (cat (msgS (askM v 0) (.slice none 0 0))) := by rw [e4]; exact askM_value r3b
 have hb4 : Below w.heap.size w w4 := by rw [e4]; exact HB3b.out.setCells HTW.out _ _
 have hokv := beC_ok 32 v
 have hlv := beC_len 32 v
 have HE4 := Lib.hid e4
 have t0 : T w4.drew := HTN.out w4 _ (by rw [hT]; exact ⟨hb4, hr4⟩) (Below.refl _ _).drew
 clear hT e4 hb4 hr4 hb3b r3b f3b
 by_cases hlt : 1000 < v
 ·have HRP : Hid (RunsP (askM v 0) (.slice none 0 0) ⟨0, 0, 0, 0, 0⟩ (newS (twoL [] [])) 20000 16 0 [] (newS (twoL [] []))) := runsP_no (S := newS (twoL [] [])) HM.out rfl (show (0 : Int) < 20000 by decide) (.inr ⟨rfl, show (0 : Int) ≤ 64 by decide, by show 1000 < v; exact hlt⟩)
  have HRR : Hid (RunsR (askM v 0) (.slice none 0 0) ⟨0, 0, 0, 0, 0⟩ (newS (twoL [] [])) 20000 16 0 [] (newS (twoL [] []))) := runsR_no (S := newS (twoL [] [])) HM.out rfl (show (0 : Int) ≤ 20000 by decide) (.inr ⟨rfl, show (0 : Int) ≤ 64 by decide, by show 1000 < v; exact hlt⟩)
  have dd : decide (1000 < (v : Int)) = true := decide_eq_true (by omega)
  have dn : (1000 < v) = True := eq_true hlt
  have HB3F : Hid ((newS (twoL [] []) 3).bal = 1000) := rfl
  have HEQ1 := Lib.hid (fun w => eqW25 (a := 1000) (b := 1000) (by decide) (by decide) w)
  simp only [decide_true] at HEQ1
  have HDP := Lib.hid hlt
  clear hlt
  go_wp2_with fail
  rw [← HE4.out]
  refine wp_region_tree T [] (.take 1 (.alt 0 (.alt 2 (.pure 3 (.pure 4 (.pure 5 (.pure 6 (.alt 7 (.alt 8 (.pure 9 (.pure 10 .fin)) .stop) .stop))))) (.alt 7 (.alt 2 (.pure 3 (.pure 4 (.pure 5 (.pure 6 (.alt 8 (.pure 9 (.pure 10 .fin)) .stop))))) .stop) .stop)) (.alt 7 (.alt 0 (.alt 2 (.pure 3 (.pure 4 (.pure 5 (.pure 6 (.alt 8 (.pure 9 (.pure 10 .fin)) .stop))))) .stop) .stop) .stop))) (by kernel_rfl) (by kernel_rfl) ?_
  generalize w4.drew = v4 at *
  refine tree_take ?_ t0 rfl (by rfl) (fun w' hs => ?_) (fun _ _ _ h => h) ?_
  rotate_left
  ·rw [HT.out] at hs
   obtain ⟨_, g1⟩ := HTG.out w' (by rw [HT.out]; exact hs)
   go_simp
   try rfl
  simp only [Act.put, tsa, tsb, tsc]
  refine tree_alt rfl (fun K hK => ?_) ?_
  ·go_simp
   refine (law_two (roAt_nil v4 (fun _ => False)) (roAt_nil _ _)).mono ?_
   rintro e y1 ⟨gb, rfl, hby, hac⟩
   have HAC := Lib.hid hac
   have t1 : T y1 := HTN.out _ _ t0 hby
   clear hby hac
   refine hK.out _ _ t1 ?_
   clear hK K
   refine tree_alt rfl (fun K hK => ?_) ?_
   ·go_simp
    have HBO := law_both (c := 3) (l := (twoL [] [])) (m := (askM v 0)) (ad := 0) (by decide) HAC.out (by intro x hx; simp [twoL] at hx; rcases hx with rfl | rfl | rfl <;> decide) (roAt_nil _ _) (by decide) HRP.out HRR.out (newS_slotsD _)
    rw [show ((twoL [] [])).length = 3 from rfl] at HBO
    refine HBO.mono ?_
    rintro e y2 ⟨oa, oc, la, lc, sb, own, n, rfl, hby, hst, hge⟩
    have HST2 := Lib.hid hst
    have t2 : T y2 := HTN.out _ _ t1 hby
    obtain ⟨O, hO⟩ : ∃ O, O = outV 20000 16 0 oa ([] : Bts).length oc la lc := ⟨_, rfl⟩
    have hOl : O.length = 24 := by rw [hO]; exact outV_len _ _ _ _ _ _ _ _
    have hOk : okL 24 O = true := by rw [hO]; exact outV_ok _ _ _ _ _ _ _ _
    rw [← hO]
    have HOO := Lib.hid hO
    clear hby hst hO HBO hge
    refine hK.out _ _ t2 ?_
    clear hK K
    refine tree_pure ?_ rfl (by rfl) (fun w' hs => ?_) (fun _ _ _ h => h) ?_
    rotate_left
    ·clear hs
     go_simp
     try rfl
    simp only [Act.put, tsa, tsb, tsc]
    refine tree_pure ?_ rfl (by rfl) (fun w' hs => ?_) (fun _ _ _ h => h) ?_
    rotate_left
    ·clear hs
     go_simp
     try rfl
    simp only [Act.put, tsa, tsb, tsc]
    refine tree_pure ?_ rfl (by rfl) (fun w' hs => ?_) (fun _ _ _ h => h) ?_
    rotate_left
    ·clear hs
     go_simp
     try rfl
    simp only [Act.put, tsa, tsb, tsc]
    refine tree_pure ?_ rfl (by rfl) (fun w' hs => ?_) (fun _ _ _ h => h) ?_
    rotate_left
    ·clear hs
     go_simp
     try rfl
    simp only [Act.put, tsa, tsb, tsc]
    refine tree_run rfl (fun K hK => ?_)
    go_simp
    obtain ⟨rb, er⟩ : ∃ rb, rb = y2.heap.size := ⟨_, rfl⟩
    obtain ⟨y3, ey3⟩ : ∃ y3, y3 = y2.alloc (.cells (cat zs46).toArray 65) := ⟨_, rfl⟩
    have HBA : Hid (Below y2.heap.size y2 y3) := by show Below _ _ _; rw [ey3]; exact (Below.refl _ _).alloc (Nat.le_refl _) _
    have HZ3 : Hid (y3.free? rb 0 24 = true) := by show _ = _; rw [ey3, er]; exact World.free?_alloc_at _ _ rfl (by rw [zs46_len]; omega)
    have HRB : Hid (tb < rb ∧ w.heap.size ≤ rb) := by rw [er]; exact ⟨World.row?_lt (HTG.out _ t2).2, (HTG.out _ t2).1.size⟩
    have t3 : T y3 := HTN.out _ _ t2 HBA.out
    have HST3 := Lib.hid (HST2.out.below HBA.out)
    have HOWN : Hid (own rb = none) := by show _ = _; rw [er]; exact free_own HST2.out.lows (Nat.le_refl _)
    rw [← ey3, ← er]
    clear ey3 er
    refine hK.out _ _ t3 ?_
    clear hK K
    refine tree_run rfl (fun K hK => ?_)
    have fz := HZ3.out
    go_simp
    obtain ⟨y4, ey4⟩ : ∃ y4, y4 = y3.setCells rb 0 O := ⟨_, rfl⟩
    have HRW : Hid (y4.row? rb 0 24 = some (outV 20000 16 0 oa ([] : Bts).length oc la lc)) := by show _ = _; rw [ey4, ← HOO.out]; exact row?_setCells_whole O HZ3.out hOk
    have hO1 : Only (fun b => b = rb) y3 y4 := by rw [ey4]; exact Only.setCells (S := fun b => b = rb) (Only.refl _ _) (fun _ => rfl) _ _
    have t4 : T y4 := HTO.out _ _ _ t3 hO1 HRB.out.1 HRB.out.2
    have HSTZ : Hid (StateAt TU y4 own sb (newS (twoL [] [])) [] n) := HST3.out.only hO1 (fun b hx => by rw [hx]; exact HOWN.out)
    rw [← ey4]
    clear ey4 hO1 fz
    refine hK.out _ _ t4 ?_
    clear hK K
    refine tree_pure ?_ rfl (by rfl) (fun w' hs => ?_) (fun _ _ _ h => h) ?_
    rotate_left
    ·clear hs
     go_simp
     try rfl
    simp only [Act.put, tsa, tsb, tsc]
    refine tree_pure ?_ rfl (by rfl) (fun w' hs => ?_) (fun _ _ _ h => h) ?_
    rotate_left
    ·clear hs
     go_simp
     try rfl
    simp only [Act.put, tsa, tsb, tsc]
    refine tree_fin ?_
    have c0 := out_gas HRW.out
    have c1 := out_err HRW.out
    rw [Nat.zero_add] at c1
    have HTE := Lib.hid (HTG.out _ t4)
    go_wp2_with fail
    refine (law_num 16 _).mono ?_
    rintro e wz ⟨rfl, rfl⟩
    have HSS := Lib.hid HSTZ.out
    have m1 := msg_frm HTE.out.2
    have m2 := msg_to HTE.out.2
    simp only [Nat.zero_add] at m1 m2
    go_wp2_with fail
    refine (st_balance HSS.out 3 (by decide)).mono ?_
    rintro e z1 ⟨rfl, hbz⟩
    have HZ1 := Lib.hid hbz
    rw [HB3F.out]
    clear hbz c0 c1 m1 m2
    go_wp2_with fail
    refine (O1.out _).mono ?_
    rintro e z2 ⟨rfl, hbz⟩
    have HZ2 : Hid (Below w.heap.size w z2) := (HTE.out.1.trans (HZ1.out.mono HTE.out.1.size)).trans (hbz.mono (Nat.le_trans HTE.out.1.size HZ1.out.size))
    clear hbz
    have heq := HEQ1.out
    go_wp2
    go_ret
    exact ⟨rfl, HZ2.out⟩
   refine tree_run rfl (fun K hK => ?_)
   go_simp
   obtain ⟨rb, er⟩ : ∃ rb, rb = y1.heap.size := ⟨_, rfl⟩
   obtain ⟨y2, ey2⟩ : ∃ y2, y2 = y1.alloc (.cells (cat zs46).toArray 65) := ⟨_, rfl⟩
   have HBA : Hid (Below y1.heap.size y1 y2) := by show Below _ _ _; rw [ey2]; exact (Below.refl _ _).alloc (Nat.le_refl _) _
   have HZ2 : Hid (y2.free? rb 0 24 = true) := by show _ = _; rw [ey2, er]; exact World.free?_alloc_at _ _ rfl (by rw [zs46_len]; omega)
   have HRB : Hid (tb < rb ∧ w.heap.size ≤ rb) := by rw [er]; exact ⟨World.row?_lt (HTG.out _ t1).2, (HTG.out _ t1).1.size⟩
   have t2 : T y2 := HTN.out _ _ t1 HBA.out
   have HACx := Lib.hid (fun i hi => (HAC.out i hi).below HBA.out)
   rw [← ey2, ← er]
   clear ey2 er
   refine hK.out _ _ t2 ?_
   clear hK K
   refine tree_run rfl (fun K hK => ?_)
   go_simp
   have HBO := law_both (c := 3) (l := (twoL [] [])) (m := (askM v 0)) (ad := 0) (by decide) HACx.out (by intro x hx; simp [twoL] at hx; rcases hx with rfl | rfl | rfl <;> decide) (roAt_nil _ _) (by decide) HRP.out HRR.out (newS_slotsD _)
   rw [show ((twoL [] [])).length = 3 from rfl] at HBO
   refine HBO.mono ?_
   rintro e y3 ⟨oa, oc, la, lc, sb, own, n, rfl, hby, hst, hge⟩
   have HST3 := Lib.hid hst
   have t3 : T y3 := HTN.out _ _ t2 hby
   obtain ⟨O, hO⟩ : ∃ O, O = outV 20000 16 0 oa ([] : Bts).length oc la lc := ⟨_, rfl⟩
   have hOl : O.length = 24 := by rw [hO]; exact outV_len _ _ _ _ _ _ _ _
   have hOk : okL 24 O = true := by rw [hO]; exact outV_ok _ _ _ _ _ _ _ _
   rw [← hO]
   have HOO := Lib.hid hO
   have HZ3 : Hid (y3.free? rb 0 24 = true) := ((brow hby).2 _ _ _ (free?_lt HZ2.out)).trans HZ2.out
   have HOWN : Hid (own rb = none) := by
    show own rb = none
    have h1 := free?_lt HZ2.out
    have : ¬ own rb ≠ none := fun hx => by have := hge rb hx; omega
    exact Classical.not_not.1 this
   clear hby hst hO HBO hge
   refine hK.out _ _ t3 ?_
   clear hK K
   refine tree_pure ?_ rfl (by rfl) (fun w' hs => ?_) (fun _ _ _ h => h) ?_
   rotate_left
   ·clear hs
    go_simp
    try rfl
   simp only [Act.put, tsa, tsb, tsc]
   refine tree_pure ?_ rfl (by rfl) (fun w' hs => ?_) (fun _ _ _ h => h) ?_
   rotate_left
   ·clear hs
    go_simp
    try rfl
   simp only [Act.put, tsa, tsb, tsc]
   refine tree_pure ?_ rfl (by rfl) (fun w' hs => ?_) (fun _ _ _ h => h) ?_
   rotate_left
   ·clear hs
    go_simp
    try rfl
   simp only [Act.put, tsa, tsb, tsc]
   refine tree_pure ?_ rfl (by rfl) (fun w' hs => ?_) (fun _ _ _ h => h) ?_
   rotate_left
   ·clear hs
    go_simp
    try rfl
   simp only [Act.put, tsa, tsb, tsc]
   refine tree_run rfl (fun K hK => ?_)
   have fz := HZ3.out
   go_simp
   obtain ⟨y4, ey4⟩ : ∃ y4, y4 = y3.setCells rb 0 O := ⟨_, rfl⟩
   have HRW : Hid (y4.row? rb 0 24 = some (outV 20000 16 0 oa ([] : Bts).length oc la lc)) := by show _ = _; rw [ey4, ← HOO.out]; exact row?_setCells_whole O HZ3.out hOk
   have hO1 : Only (fun b => b = rb) y3 y4 := by rw [ey4]; exact Only.setCells (S := fun b => b = rb) (Only.refl _ _) (fun _ => rfl) _ _
   have t4 : T y4 := HTO.out _ _ _ t3 hO1 HRB.out.1 HRB.out.2
   have HSTZ : Hid (StateAt TU y4 own sb (newS (twoL [] [])) [] n) := HST3.out.only hO1 (fun b hx => by rw [hx]; exact HOWN.out)
   rw [← ey4]
   clear ey4 hO1 fz
   refine hK.out _ _ t4 ?_
   clear hK K
   refine tree_pure ?_ rfl (by rfl) (fun w' hs => ?_) (fun _ _ _ h => h) ?_
   rotate_left
   ·clear hs
    go_simp
    try rfl
   simp only [Act.put, tsa, tsb, tsc]
   refine tree_pure ?_ rfl (by rfl) (fun w' hs => ?_) (fun _ _ _ h => h) ?_
   rotate_left
   ·clear hs
    go_simp
    try rfl
   simp only [Act.put, tsa, tsb, tsc]
   refine tree_fin ?_
   have c0 := out_gas HRW.out
   have c1 := out_err HRW.out
   rw [Nat.zero_add] at c1
   have HTE := Lib.hid (HTG.out _ t4)
   go_wp2_with fail
   refine (law_num 16 _).mono ?_
   rintro e wz ⟨rfl, rfl⟩
   have HSS := Lib.hid HSTZ.out
   have m1 := msg_frm HTE.out.2
   have m2 := msg_to HTE.out.2
   simp only [Nat.zero_add] at m1 m2
   go_wp2_with fail
   refine (st_balance HSS.out 3 (by decide)).mono ?_
   rintro e z1 ⟨rfl, hbz⟩
   have HZ1 := Lib.hid hbz
   rw [HB3F.out]
   clear hbz c0 c1 m1 m2
   go_wp2_with fail
   refine (O1.out _).mono ?_
   rintro e z2 ⟨rfl, hbz⟩
   have HZ2 : Hid (Below w.heap.size w z2) := (HTE.out.1.trans (HZ1.out.mono HTE.out.1.size)).trans (hbz.mono (Nat.le_trans HTE.out.1.size HZ1.out.size))
   clear hbz
   have heq := HEQ1.out
   go_wp2
   go_ret
   exact ⟨rfl, HZ2.out⟩
  refine tree_run rfl (fun K hK => ?_)
  go_simp
  obtain ⟨rb, er⟩ : ∃ rb, rb = v4.heap.size := ⟨_, rfl⟩
  obtain ⟨y1, ey1⟩ : ∃ y1, y1 = v4.alloc (.cells (cat zs46).toArray 65) := ⟨_, rfl⟩
  have HBA : Hid (Below v4.heap.size v4 y1) := by show Below _ _ _; rw [ey1]; exact (Below.refl _ _).alloc (Nat.le_refl _) _
  have HZ1 : Hid (y1.free? rb 0 24 = true) := by show _ = _; rw [ey1, er]; exact World.free?_alloc_at _ _ rfl (by rw [zs46_len]; omega)
  have HRB : Hid (tb < rb ∧ w.heap.size ≤ rb) := by rw [er]; exact ⟨World.row?_lt (HTG.out _ t0).2, (HTG.out _ t0).1.size⟩
  have t1 : T y1 := HTN.out _ _ t0 HBA.out
  rw [← ey1, ← er]
  clear ey1 er
  refine hK.out _ _ t1 ?_
  clear hK K
  refine tree_run rfl (fun K hK => ?_)
  go_simp
  refine (law_two (roAt_nil y1 (fun _ => False)) (roAt_nil _ _)).mono ?_
  rintro e y2 ⟨gb, rfl, hby, hac⟩
  have HAC := Lib.hid hac
  have t2 : T y2 := HTN.out _ _ t1 hby
  have HZ2 : Hid (y2.free? rb 0 24 = true) := ((brow hby).2 _ _ _ (free?_lt HZ1.out)).trans HZ1.out
  clear hby hac
  refine hK.out _ _ t2 ?_
  clear hK K
  refine tree_run rfl (fun K hK => ?_)
  go_simp
  have HBO := law_both (c := 3) (l := (twoL [] [])) (m := (askM v 0)) (ad := 0) (by decide) HAC.out (by intro x hx; simp [twoL] at hx; rcases hx with rfl | rfl | rfl <;> decide) (roAt_nil _ _) (by decide) HRP.out HRR.out (newS_slotsD _)
  rw [show ((twoL [] [])).length = 3 from rfl] at HBO
  refine HBO.mono ?_
  rintro e y3 ⟨oa, oc, la, lc, sb, own, n, rfl, hby, hst, hge⟩
  have HST3 := Lib.hid hst
  have t3 : T y3 := HTN.out _ _ t2 hby
  obtain ⟨O, hO⟩ : ∃ O, O = outV 20000 16 0 oa ([] : Bts).length oc la lc := ⟨_, rfl⟩
  have hOl : O.length = 24 := by rw [hO]; exact outV_len _ _ _ _ _ _ _ _
  have hOk : okL 24 O = true := by rw [hO]; exact outV_ok _ _ _ _ _ _ _ _
  rw [← hO]
  have HOO := Lib.hid hO
  have HZ3 : Hid (y3.free? rb 0 24 = true) := ((brow hby).2 _ _ _ (free?_lt HZ2.out)).trans HZ2.out
  have HOWN : Hid (own rb = none) := by
   show own rb = none
   have h1 := free?_lt HZ2.out
   have : ¬ own rb ≠ none := fun hx => by have := hge rb hx; omega
   exact Classical.not_not.1 this
  clear hby hst hO HBO hge
  refine hK.out _ _ t3 ?_
  clear hK K
  refine tree_pure ?_ rfl (by rfl) (fun w' hs => ?_) (fun _ _ _ h => h) ?_
  rotate_left
  ·clear hs
   go_simp
   try rfl
  simp only [Act.put, tsa, tsb, tsc]
  refine tree_pure ?_ rfl (by rfl) (fun w' hs => ?_) (fun _ _ _ h => h) ?_
  rotate_left
  ·clear hs
   go_simp
   try rfl
  simp only [Act.put, tsa, tsb, tsc]
  refine tree_pure ?_ rfl (by rfl) (fun w' hs => ?_) (fun _ _ _ h => h) ?_
  rotate_left
  ·clear hs
   go_simp
   try rfl
  simp only [Act.put, tsa, tsb, tsc]
  refine tree_pure ?_ rfl (by rfl) (fun w' hs => ?_) (fun _ _ _ h => h) ?_
  rotate_left
  ·clear hs
   go_simp
   try rfl
  simp only [Act.put, tsa, tsb, tsc]
  refine tree_run rfl (fun K hK => ?_)
  have fz := HZ3.out
  go_simp
  obtain ⟨y4, ey4⟩ : ∃ y4, y4 = y3.setCells rb 0 O := ⟨_, rfl⟩
  have HRW : Hid (y4.row? rb 0 24 = some (outV 20000 16 0 oa ([] : Bts).length oc la lc)) := by show _ = _; rw [ey4, ← HOO.out]; exact row?_setCells_whole O HZ3.out hOk
  have hO1 : Only (fun b => b = rb) y3 y4 := by rw [ey4]; exact Only.setCells (S := fun b => b = rb) (Only.refl _ _) (fun _ => rfl) _ _
  have t4 : T y4 := HTO.out _ _ _ t3 hO1 HRB.out.1 HRB.out.2
  have HSTZ : Hid (StateAt TU y4 own sb (newS (twoL [] [])) [] n) := HST3.out.only hO1 (fun b hx => by rw [hx]; exact HOWN.out)
  rw [← ey4]
  clear ey4 hO1 fz
  refine hK.out _ _ t4 ?_
  clear hK K
  refine tree_pure ?_ rfl (by rfl) (fun w' hs => ?_) (fun _ _ _ h => h) ?_
  rotate_left
  ·clear hs
   go_simp
   try rfl
  simp only [Act.put, tsa, tsb, tsc]
  refine tree_pure ?_ rfl (by rfl) (fun w' hs => ?_) (fun _ _ _ h => h) ?_
  rotate_left
  ·clear hs
   go_simp
   try rfl
  simp only [Act.put, tsa, tsb, tsc]
  refine tree_fin ?_
  have c0 := out_gas HRW.out
  have c1 := out_err HRW.out
  rw [Nat.zero_add] at c1
  have HTE := Lib.hid (HTG.out _ t4)
  go_wp2_with fail
  refine (law_num 16 _).mono ?_
  rintro e wz ⟨rfl, rfl⟩
  have HSS := Lib.hid HSTZ.out
  have m1 := msg_frm HTE.out.2
  have m2 := msg_to HTE.out.2
  simp only [Nat.zero_add] at m1 m2
  go_wp2_with fail
  refine (st_balance HSS.out 3 (by decide)).mono ?_
  rintro e z1 ⟨rfl, hbz⟩
  have HZ1 := Lib.hid hbz
  rw [HB3F.out]
  clear hbz c0 c1 m1 m2
  go_wp2_with fail
  refine (O1.out _).mono ?_
  rintro e z2 ⟨rfl, hbz⟩
  have HZ2 : Hid (Below w.heap.size w z2) := (HTE.out.1.trans (HZ1.out.mono HTE.out.1.size)).trans (hbz.mono (Nat.le_trans HTE.out.1.size HZ1.out.size))
  clear hbz
  have heq := HEQ1.out
  go_wp2
  go_ret
  exact ⟨rfl, HZ2.out⟩
 ·obtain ⟨fp, hp1, hp2, hp3, hp4⟩ := loopP0 v 0 (movQ [] [] v)
  obtain ⟨fx, hx1, hx2, hx3⟩ := loopX0 v 0 (movQ [] [] v)
  have HRP : Hid (RunsP (askM v 0) (.slice none 0 0) ⟨0, 0, 0, 0, 0⟩ (newS (twoL [] [])) 20000 0 0 [] (movQ [] [] v)) := by
   have := runsP_ok (dv := .slice none 0 0) HM.out rfl ⟨show (0 : Int) ≤ 20000 by decide, show (20000 : Int) ≤ _ by decide⟩ (show (0 : Int) ≤ 64 by decide) (moveT [] [] v (by omega)) hp1 hp4
   rw [hp2, hp3] at this; exact this
  have HRR : Hid (RunsR (askM v 0) (.slice none 0 0) ⟨0, 0, 0, 0, 0⟩ (newS (twoL [] [])) 20000 0 0 [] (movQ [] [] v)) := by
   have := runsR_ok (dv := .slice none 0 0) HM.out rfl ⟨show (0 : Int) ≤ 20000 by decide, show (20000 : Int) ≤ _ by decide⟩ (show (0 : Int) ≤ 64 by decide) rfl (moveT [] [] v (by omega)) hx1 hx3
   rw [hx2, hx3] at this; exact this
  have dd : decide (1000 < (v : Int)) = false := decide_eq_false (by omega)
  have dn : (1000 < v) = False := eq_false hlt
  have hw1 : IntKind.i64.wrap (1000 - (v : Int)) = ((1000 - v : Nat) : Int) := by rw [wrI _ (by omega) (by omega)]; omega
  have hw2 : IntKind.i64.wrap (1000 + (v : Int)) = ((1000 + v : Nat) : Int) := by rw [wrI _ (by omega) (by omega)]; omega
  have OM := Lib.hid (fun w => ref_of ((1000 - v : Nat) : Int) (by omega) (by omega) w)
  rw [ofW_natD (1000 - v) (i64_wWD (by omega))] at OM
  have OP := Lib.hid (fun w => ref_of ((1000 + v : Nat) : Int) (by omega) (by omega) w)
  rw [ofW_natD (1000 + v) (i64_wWD (by omega))] at OP
  have HB3F : Hid ((movQ [] [] v 3).bal = 1000 - v) := rfl
  have HB1F : Hid ((movQ [] [] v 1).bal = 1000 + v) := rfl
  have HEQ1 := Lib.hid (fun w => eqW25 (a := 1000 - v) (b := 1000 - v) (i64_wWD (by omega)) (i64_wWD (by omega)) w)
  have HEQ2 := Lib.hid (fun w => eqW25 (a := 1000 + v) (b := 1000 + v) (i64_wWD (by omega)) (i64_wWD (by omega)) w)
  simp only [decide_true] at HEQ1 HEQ2
  have HDP := Lib.hid hlt
  clear hlt hp1 hp2 hp3 hp4 hx1 hx2 hx3 fp fx
  go_wp2_with fail
  rw [← HE4.out]
  refine wp_region_tree T [] (.take 1 (.alt 0 (.alt 2 (.pure 3 (.pure 4 (.pure 5 (.pure 6 (.alt 7 (.alt 8 (.pure 9 (.pure 10 .fin)) .stop) .stop))))) (.alt 7 (.alt 2 (.pure 3 (.pure 4 (.pure 5 (.pure 6 (.alt 8 (.pure 9 (.pure 10 .fin)) .stop))))) .stop) .stop)) (.alt 7 (.alt 0 (.alt 2 (.pure 3 (.pure 4 (.pure 5 (.pure 6 (.alt 8 (.pure 9 (.pure 10 .fin)) .stop))))) .stop) .stop) .stop))) (by kernel_rfl) (by kernel_rfl) ?_
  generalize w4.drew = v4 at *
  refine tree_take ?_ t0 rfl (by rfl) (fun w' hs => ?_) (fun _ _ _ h => h) ?_
  rotate_left
  ·rw [HT.out] at hs
   obtain ⟨_, g1⟩ := HTG.out w' (by rw [HT.out]; exact hs)
   go_simp
   try rfl
  simp only [Act.put, tsa, tsb, tsc]
  refine tree_alt rfl (fun K hK => ?_) ?_
  ·go_simp
   refine (law_two (roAt_nil v4 (fun _ => False)) (roAt_nil _ _)).mono ?_
   rintro e y1 ⟨gb, rfl, hby, hac⟩
   have HAC := Lib.hid hac
   have t1 : T y1 := HTN.out _ _ t0 hby
   clear hby hac
   refine hK.out _ _ t1 ?_
   clear hK K
   refine tree_alt rfl (fun K hK => ?_) ?_
   ·go_simp
    have HBO := law_both (c := 3) (l := (twoL [] [])) (m := (askM v 0)) (ad := 0) (by decide) HAC.out (by intro x hx; simp [twoL] at hx; rcases hx with rfl | rfl | rfl <;> decide) (roAt_nil _ _) (by decide) HRP.out HRR.out (movQ_slots _ _ _)
    rw [show ((twoL [] [])).length = 3 from rfl] at HBO
    refine HBO.mono ?_
    rintro e y2 ⟨oa, oc, la, lc, sb, own, n, rfl, hby, hst, hge⟩
    have HST2 := Lib.hid hst
    have t2 : T y2 := HTN.out _ _ t1 hby
    obtain ⟨O, hO⟩ : ∃ O, O = outV 20000 0 0 oa ([] : Bts).length oc la lc := ⟨_, rfl⟩
    have hOl : O.length = 24 := by rw [hO]; exact outV_len _ _ _ _ _ _ _ _
    have hOk : okL 24 O = true := by rw [hO]; exact outV_ok _ _ _ _ _ _ _ _
    rw [← hO]
    have HOO := Lib.hid hO
    clear hby hst hO HBO hge
    refine hK.out _ _ t2 ?_
    clear hK K
    refine tree_pure ?_ rfl (by rfl) (fun w' hs => ?_) (fun _ _ _ h => h) ?_
    rotate_left
    ·clear hs
     go_simp
     try rfl
    simp only [Act.put, tsa, tsb, tsc]
    refine tree_pure ?_ rfl (by rfl) (fun w' hs => ?_) (fun _ _ _ h => h) ?_
    rotate_left
    ·clear hs
     go_simp
     try rfl
    simp only [Act.put, tsa, tsb, tsc]
    refine tree_pure ?_ rfl (by rfl) (fun w' hs => ?_) (fun _ _ _ h => h) ?_
    rotate_left
    ·clear hs
     go_simp
     try rfl
    simp only [Act.put, tsa, tsb, tsc]
    refine tree_pure ?_ rfl (by rfl) (fun w' hs => ?_) (fun _ _ _ h => h) ?_
    rotate_left
    ·clear hs
     go_simp
     try rfl
    simp only [Act.put, tsa, tsb, tsc]
    refine tree_run rfl (fun K hK => ?_)
    go_simp
    obtain ⟨rb, er⟩ : ∃ rb, rb = y2.heap.size := ⟨_, rfl⟩
    obtain ⟨y3, ey3⟩ : ∃ y3, y3 = y2.alloc (.cells (cat zs46).toArray 65) := ⟨_, rfl⟩
    have HBA : Hid (Below y2.heap.size y2 y3) := by show Below _ _ _; rw [ey3]; exact (Below.refl _ _).alloc (Nat.le_refl _) _
    have HZ3 : Hid (y3.free? rb 0 24 = true) := by show _ = _; rw [ey3, er]; exact World.free?_alloc_at _ _ rfl (by rw [zs46_len]; omega)
    have HRB : Hid (tb < rb ∧ w.heap.size ≤ rb) := by rw [er]; exact ⟨World.row?_lt (HTG.out _ t2).2, (HTG.out _ t2).1.size⟩
    have t3 : T y3 := HTN.out _ _ t2 HBA.out
    have HST3 := Lib.hid (HST2.out.below HBA.out)
    have HOWN : Hid (own rb = none) := by show _ = _; rw [er]; exact free_own HST2.out.lows (Nat.le_refl _)
    rw [← ey3, ← er]
    clear ey3 er
    refine hK.out _ _ t3 ?_
    clear hK K
    refine tree_run rfl (fun K hK => ?_)
    have fz := HZ3.out
    go_simp
    obtain ⟨y4, ey4⟩ : ∃ y4, y4 = y3.setCells rb 0 O := ⟨_, rfl⟩
    have HRW : Hid (y4.row? rb 0 24 = some (outV 20000 0 0 oa ([] : Bts).length oc la lc)) := by show _ = _; rw [ey4, ← HOO.out]; exact row?_setCells_whole O HZ3.out hOk
    have hO1 : Only (fun b => b = rb) y3 y4 := by rw [ey4]; exact Only.setCells (S := fun b => b = rb) (Only.refl _ _) (fun _ => rfl) _ _
    have t4 : T y4 := HTO.out _ _ _ t3 hO1 HRB.out.1 HRB.out.2
    have HSTZ : Hid (StateAt TU y4 own sb (movQ [] [] v) [] n) := HST3.out.only hO1 (fun b hx => by rw [hx]; exact HOWN.out)
    rw [← ey4]
    clear ey4 hO1 fz
    refine hK.out _ _ t4 ?_
    clear hK K
    refine tree_pure ?_ rfl (by rfl) (fun w' hs => ?_) (fun _ _ _ h => h) ?_
    rotate_left
    ·clear hs
     go_simp
     try rfl
    simp only [Act.put, tsa, tsb, tsc]
    refine tree_pure ?_ rfl (by rfl) (fun w' hs => ?_) (fun _ _ _ h => h) ?_
    rotate_left
    ·clear hs
     go_simp
     try rfl
    simp only [Act.put, tsa, tsb, tsc]
    refine tree_fin ?_
    have c0 := out_gas HRW.out
    have c1 := out_err HRW.out
    rw [Nat.zero_add] at c1
    have HTE := Lib.hid (HTG.out _ t4)
    go_wp2_with fail
    refine (law_num 0 _).mono ?_
    rintro e wz ⟨rfl, rfl⟩
    have HSS := Lib.hid HSTZ.out
    have m1 := msg_frm HTE.out.2
    have m2 := msg_to HTE.out.2
    simp only [Nat.zero_add] at m1 m2
    go_wp2_with fail
    refine (st_balance HSS.out 3 (by decide)).mono ?_
    rintro e z1 ⟨rfl, hbz⟩
    have HZ1 := Lib.hid hbz
    rw [HB3F.out]
    clear hbz c0 c1 m1 m2
    go_wp2_with fail
    refine (OM.out _).mono ?_
    rintro e z2 ⟨rfl, hbz⟩
    have HBz2 : Hid (Below _ _ z2) := HZ1.out.trans (hbz.mono HZ1.out.size)
    have HS2 := Lib.hid (HSS.out.below HBz2.out)
    have r2 := ((brow HBz2.out).1 _ _ _ (World.row?_lt HTE.out.2)).trans HTE.out.2
    have HR2z := Lib.hid r2
    have m2 := msg_to r2
    simp only [Nat.zero_add] at m2
    have heq := HEQ1.out
    clear hbz r2
    go_wp2_with fail
    refine (st_balance HS2.out 1 (by decide)).mono ?_
    rintro e z3 ⟨rfl, hbz⟩
    have HBz3 : Hid (Below _ _ z3) := HBz2.out.trans (hbz.mono HBz2.out.size)
    rw [HB1F.out]
    clear hbz m2 heq
    go_wp2_with fail
    refine (OP.out _).mono ?_
    rintro e z4 ⟨rfl, hbz⟩
    have HZ4 : Hid (Below w.heap.size w z4) := HTE.out.1.trans ((HBz3.out.trans (hbz.mono HBz3.out.size)).mono HTE.out.1.size)
    have heq := HEQ2.out
    clear hbz
    go_wp2
    go_ret
    exact ⟨rfl, HZ4.out⟩
   refine tree_run rfl (fun K hK => ?_)
   go_simp
   obtain ⟨rb, er⟩ : ∃ rb, rb = y1.heap.size := ⟨_, rfl⟩
   obtain ⟨y2, ey2⟩ : ∃ y2, y2 = y1.alloc (.cells (cat zs46).toArray 65) := ⟨_, rfl⟩
   have HBA : Hid (Below y1.heap.size y1 y2) := by show Below _ _ _; rw [ey2]; exact (Below.refl _ _).alloc (Nat.le_refl _) _
   have HZ2 : Hid (y2.free? rb 0 24 = true) := by show _ = _; rw [ey2, er]; exact World.free?_alloc_at _ _ rfl (by rw [zs46_len]; omega)
   have HRB : Hid (tb < rb ∧ w.heap.size ≤ rb) := by rw [er]; exact ⟨World.row?_lt (HTG.out _ t1).2, (HTG.out _ t1).1.size⟩
   have t2 : T y2 := HTN.out _ _ t1 HBA.out
   have HACx := Lib.hid (fun i hi => (HAC.out i hi).below HBA.out)
   rw [← ey2, ← er]
   clear ey2 er
   refine hK.out _ _ t2 ?_
   clear hK K
   refine tree_run rfl (fun K hK => ?_)
   go_simp
   have HBO := law_both (c := 3) (l := (twoL [] [])) (m := (askM v 0)) (ad := 0) (by decide) HACx.out (by intro x hx; simp [twoL] at hx; rcases hx with rfl | rfl | rfl <;> decide) (roAt_nil _ _) (by decide) HRP.out HRR.out (movQ_slots _ _ _)
   rw [show ((twoL [] [])).length = 3 from rfl] at HBO
   refine HBO.mono ?_
   rintro e y3 ⟨oa, oc, la, lc, sb, own, n, rfl, hby, hst, hge⟩
   have HST3 := Lib.hid hst
   have t3 : T y3 := HTN.out _ _ t2 hby
   obtain ⟨O, hO⟩ : ∃ O, O = outV 20000 0 0 oa ([] : Bts).length oc la lc := ⟨_, rfl⟩
   have hOl : O.length = 24 := by rw [hO]; exact outV_len _ _ _ _ _ _ _ _
   have hOk : okL 24 O = true := by rw [hO]; exact outV_ok _ _ _ _ _ _ _ _
   rw [← hO]
   have HOO := Lib.hid hO
   have HZ3 : Hid (y3.free? rb 0 24 = true) := ((brow hby).2 _ _ _ (free?_lt HZ2.out)).trans HZ2.out
   have HOWN : Hid (own rb = none) := by
    show own rb = none
    have h1 := free?_lt HZ2.out
    have : ¬ own rb ≠ none := fun hx => by have := hge rb hx; omega
    exact Classical.not_not.1 this
   clear hby hst hO HBO hge
   refine hK.out _ _ t3 ?_
   clear hK K
   refine tree_pure ?_ rfl (by rfl) (fun w' hs => ?_) (fun _ _ _ h => h) ?_
   rotate_left
   ·clear hs
    go_simp
    try rfl
   simp only [Act.put, tsa, tsb, tsc]
   refine tree_pure ?_ rfl (by rfl) (fun w' hs => ?_) (fun _ _ _ h => h) ?_
   rotate_left
   ·clear hs
    go_simp
    try rfl
   simp only [Act.put, tsa, tsb, tsc]
   refine tree_pure ?_ rfl (by rfl) (fun w' hs => ?_) (fun _ _ _ h => h) ?_
   rotate_left
   ·clear hs
    go_simp
    try rfl
   simp only [Act.put, tsa, tsb, tsc]
   refine tree_pure ?_ rfl (by rfl) (fun w' hs => ?_) (fun _ _ _ h => h) ?_
   rotate_left
   ·clear hs
    go_simp
    try rfl
   simp only [Act.put, tsa, tsb, tsc]
   refine tree_run rfl (fun K hK => ?_)
   have fz := HZ3.out
   go_simp
   obtain ⟨y4, ey4⟩ : ∃ y4, y4 = y3.setCells rb 0 O := ⟨_, rfl⟩
   have HRW : Hid (y4.row? rb 0 24 = some (outV 20000 0 0 oa ([] : Bts).length oc la lc)) := by show _ = _; rw [ey4, ← HOO.out]; exact row?_setCells_whole O HZ3.out hOk
   have hO1 : Only (fun b => b = rb) y3 y4 := by rw [ey4]; exact Only.setCells (S := fun b => b = rb) (Only.refl _ _) (fun _ => rfl) _ _
   have t4 : T y4 := HTO.out _ _ _ t3 hO1 HRB.out.1 HRB.out.2
   have HSTZ : Hid (StateAt TU y4 own sb (movQ [] [] v) [] n) := HST3.out.only hO1 (fun b hx => by rw [hx]; exact HOWN.out)
   rw [← ey4]
   clear ey4 hO1 fz
   refine hK.out _ _ t4 ?_
   clear hK K
   refine tree_pure ?_ rfl (by rfl) (fun w' hs => ?_) (fun _ _ _ h => h) ?_
   rotate_left
   ·clear hs
    go_simp
    try rfl
   simp only [Act.put, tsa, tsb, tsc]
   refine tree_pure ?_ rfl (by rfl) (fun w' hs => ?_) (fun _ _ _ h => h) ?_
   rotate_left
   ·clear hs
    go_simp
    try rfl
   simp only [Act.put, tsa, tsb, tsc]
   refine tree_fin ?_
   have c0 := out_gas HRW.out
   have c1 := out_err HRW.out
   rw [Nat.zero_add] at c1
   have HTE := Lib.hid (HTG.out _ t4)
   go_wp2_with fail
   refine (law_num 0 _).mono ?_
   rintro e wz ⟨rfl, rfl⟩
   have HSS := Lib.hid HSTZ.out
   have m1 := msg_frm HTE.out.2
   have m2 := msg_to HTE.out.2
   simp only [Nat.zero_add] at m1 m2
   go_wp2_with fail
   refine (st_balance HSS.out 3 (by decide)).mono ?_
   rintro e z1 ⟨rfl, hbz⟩
   have HZ1 := Lib.hid hbz
   rw [HB3F.out]
   clear hbz c0 c1 m1 m2
   go_wp2_with fail
   refine (OM.out _).mono ?_
   rintro e z2 ⟨rfl, hbz⟩
   have HBz2 : Hid (Below _ _ z2) := HZ1.out.trans (hbz.mono HZ1.out.size)
   have HS2 := Lib.hid (HSS.out.below HBz2.out)
   have r2 := ((brow HBz2.out).1 _ _ _ (World.row?_lt HTE.out.2)).trans HTE.out.2
   have HR2z := Lib.hid r2
   have m2 := msg_to r2
   simp only [Nat.zero_add] at m2
   have heq := HEQ1.out
   clear hbz r2
   go_wp2_with fail
   refine (st_balance HS2.out 1 (by decide)).mono ?_
   rintro e z3 ⟨rfl, hbz⟩
   have HBz3 : Hid (Below _ _ z3) := HBz2.out.trans (hbz.mono HBz2.out.size)
   rw [HB1F.out]
   clear hbz m2 heq
   go_wp2_with fail
   refine (OP.out _).mono ?_
   rintro e z4 ⟨rfl, hbz⟩
   have HZ4 : Hid (Below w.heap.size w z4) := HTE.out.1.trans ((HBz3.out.trans (hbz.mono HBz3.out.size)).mono HTE.out.1.size)
   have heq := HEQ2.out
   clear hbz
   go_wp2
   go_ret
   exact ⟨rfl, HZ4.out⟩
  refine tree_run rfl (fun K hK => ?_)
  go_simp
  obtain ⟨rb, er⟩ : ∃ rb, rb = v4.heap.size := ⟨_, rfl⟩
  obtain ⟨y1, ey1⟩ : ∃ y1, y1 = v4.alloc (.cells (cat zs46).toArray 65) := ⟨_, rfl⟩
  have HBA : Hid (Below v4.heap.size v4 y1) := by show Below _ _ _; rw [ey1]; exact (Below.refl _ _).alloc (Nat.le_refl _) _
  have HZ1 : Hid (y1.free? rb 0 24 = true) := by show _ = _; rw [ey1, er]; exact World.free?_alloc_at _ _ rfl (by rw [zs46_len]; omega)
  have HRB : Hid (tb < rb ∧ w.heap.size ≤ rb) := by rw [er]; exact ⟨World.row?_lt (HTG.out _ t0).2, (HTG.out _ t0).1.size⟩
  have t1 : T y1 := HTN.out _ _ t0 HBA.out
  rw [← ey1, ← er]
  clear ey1 er
  refine hK.out _ _ t1 ?_
  clear hK K
  refine tree_run rfl (fun K hK => ?_)
  go_simp
  refine (law_two (roAt_nil y1 (fun _ => False)) (roAt_nil _ _)).mono ?_
  rintro e y2 ⟨gb, rfl, hby, hac⟩
  have HAC := Lib.hid hac
  have t2 : T y2 := HTN.out _ _ t1 hby
  have HZ2 : Hid (y2.free? rb 0 24 = true) := ((brow hby).2 _ _ _ (free?_lt HZ1.out)).trans HZ1.out
  clear hby hac
  refine hK.out _ _ t2 ?_
  clear hK K
  refine tree_run rfl (fun K hK => ?_)
  go_simp
  have HBO := law_both (c := 3) (l := (twoL [] [])) (m := (askM v 0)) (ad := 0) (by decide) HAC.out (by intro x hx; simp [twoL] at hx; rcases hx with rfl | rfl | rfl <;> decide) (roAt_nil _ _) (by decide) HRP.out HRR.out (movQ_slots _ _ _)
  rw [show ((twoL [] [])).length = 3 from rfl] at HBO
  refine HBO.mono ?_
  rintro e y3 ⟨oa, oc, la, lc, sb, own, n, rfl, hby, hst, hge⟩
  have HST3 := Lib.hid hst
  have t3 : T y3 := HTN.out _ _ t2 hby
  obtain ⟨O, hO⟩ : ∃ O, O = outV 20000 0 0 oa ([] : Bts).length oc la lc := ⟨_, rfl⟩
  have hOl : O.length = 24 := by rw [hO]; exact outV_len _ _ _ _ _ _ _ _
  have hOk : okL 24 O = true := by rw [hO]; exact outV_ok _ _ _ _ _ _ _ _
  rw [← hO]
  have HOO := Lib.hid hO
  have HZ3 : Hid (y3.free? rb 0 24 = true) := ((brow hby).2 _ _ _ (free?_lt HZ2.out)).trans HZ2.out
  have HOWN : Hid (own rb = none) := by
   show own rb = none
   have h1 := free?_lt HZ2.out
   have : ¬ own rb ≠ none := fun hx => by have := hge rb hx; omega
   exact Classical.not_not.1 this
  clear hby hst hO HBO hge
  refine hK.out _ _ t3 ?_
  clear hK K
  refine tree_pure ?_ rfl (by rfl) (fun w' hs => ?_) (fun _ _ _ h => h) ?_
  rotate_left
  ·clear hs
   go_simp
   try rfl
  simp only [Act.put, tsa, tsb, tsc]
  refine tree_pure ?_ rfl (by rfl) (fun w' hs => ?_) (fun _ _ _ h => h) ?_
  rotate_left
  ·clear hs
   go_simp
   try rfl
  simp only [Act.put, tsa, tsb, tsc]
  refine tree_pure ?_ rfl (by rfl) (fun w' hs => ?_) (fun _ _ _ h => h) ?_
  rotate_left
  ·clear hs
   go_simp
   try rfl
  simp only [Act.put, tsa, tsb, tsc]
  refine tree_pure ?_ rfl (by rfl) (fun w' hs => ?_) (fun _ _ _ h => h) ?_
  rotate_left
  ·clear hs
   go_simp
   try rfl
  simp only [Act.put, tsa, tsb, tsc]
  refine tree_run rfl (fun K hK => ?_)
  have fz := HZ3.out
  go_simp
  obtain ⟨y4, ey4⟩ : ∃ y4, y4 = y3.setCells rb 0 O := ⟨_, rfl⟩
  have HRW : Hid (y4.row? rb 0 24 = some (outV 20000 0 0 oa ([] : Bts).length oc la lc)) := by show _ = _; rw [ey4, ← HOO.out]; exact row?_setCells_whole O HZ3.out hOk
  have hO1 : Only (fun b => b = rb) y3 y4 := by rw [ey4]; exact Only.setCells (S := fun b => b = rb) (Only.refl _ _) (fun _ => rfl) _ _
  have t4 : T y4 := HTO.out _ _ _ t3 hO1 HRB.out.1 HRB.out.2
  have HSTZ : Hid (StateAt TU y4 own sb (movQ [] [] v) [] n) := HST3.out.only hO1 (fun b hx => by rw [hx]; exact HOWN.out)
  rw [← ey4]
  clear ey4 hO1 fz
  refine hK.out _ _ t4 ?_
  clear hK K
  refine tree_pure ?_ rfl (by rfl) (fun w' hs => ?_) (fun _ _ _ h => h) ?_
  rotate_left
  ·clear hs
   go_simp
   try rfl
  simp only [Act.put, tsa, tsb, tsc]
  refine tree_pure ?_ rfl (by rfl) (fun w' hs => ?_) (fun _ _ _ h => h) ?_
  rotate_left
  ·clear hs
   go_simp
   try rfl
  simp only [Act.put, tsa, tsb, tsc]
  refine tree_fin ?_
  have c0 := out_gas HRW.out
  have c1 := out_err HRW.out
  rw [Nat.zero_add] at c1
  have HTE := Lib.hid (HTG.out _ t4)
  go_wp2_with fail
  refine (law_num 0 _).mono ?_
  rintro e wz ⟨rfl, rfl⟩
  have HSS := Lib.hid HSTZ.out
  have m1 := msg_frm HTE.out.2
  have m2 := msg_to HTE.out.2
  simp only [Nat.zero_add] at m1 m2
  go_wp2_with fail
  refine (st_balance HSS.out 3 (by decide)).mono ?_
  rintro e z1 ⟨rfl, hbz⟩
  have HZ1 := Lib.hid hbz
  rw [HB3F.out]
  clear hbz c0 c1 m1 m2
  go_wp2_with fail
  refine (OM.out _).mono ?_
  rintro e z2 ⟨rfl, hbz⟩
  have HBz2 : Hid (Below _ _ z2) := HZ1.out.trans (hbz.mono HZ1.out.size)
  have HS2 := Lib.hid (HSS.out.below HBz2.out)
  have r2 := ((brow HBz2.out).1 _ _ _ (World.row?_lt HTE.out.2)).trans HTE.out.2
  have HR2z := Lib.hid r2
  have m2 := msg_to r2
  simp only [Nat.zero_add] at m2
  have heq := HEQ1.out
  clear hbz r2
  go_wp2_with fail
  refine (st_balance HS2.out 1 (by decide)).mono ?_
  rintro e z3 ⟨rfl, hbz⟩
  have HBz3 : Hid (Below _ _ z3) := HBz2.out.trans (hbz.mono HBz2.out.size)
  rw [HB1F.out]
  clear hbz m2 heq
  go_wp2_with fail
  refine (OP.out _).mono ?_
  rintro e z4 ⟨rfl, hbz⟩
  have HZ4 : Hid (Below w.heap.size w z4) := HTE.out.1.trans ((HBz3.out.trans (hbz.mono HBz3.out.size)).mono HTE.out.1.size)
  have heq := HEQ2.out
  clear hbz
  go_wp2
  go_ret
  exact ⟨rfl, HZ4.out⟩
end Go.Proofs.YtiglinnjnobodaaGreat
