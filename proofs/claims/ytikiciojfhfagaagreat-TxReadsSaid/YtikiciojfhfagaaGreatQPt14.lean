/-
  The reference's Of: seven items.
-/
import Derived.Test.YtikiciojfhfagaaGreatQPt5
set_option linter.unusedVariables false
set_option linter.unusedSimpArgs false
namespace Go.Proofs.YtikiciojfhfagaaGreat
open Go.RowKit Go.Mun

set_option maxRecDepth 100000 in
set_option maxHeartbeats 8000000 in
theorem ref_Of_seven {R : Nat → Prop} {cs : List Value} {k0 k1 k2 k3 k4 k5 k6 : Option Bts} {w : World} (h : TopAt w R cs (.list [k0, k1, k2, k3, k4, k5, k6])) (hsz : ∀ l, k6 = some l → l.length ≤ 70000000000000) :
    Calls Tryz.prog 58 #[.agg cs.toArray] w fun e w' => OfIs w w' (ofSeven k0 k1 k2 k3 k4 k5 k6) e := by
  obtain ⟨a, c, rfl, h2⟩ := h
  obtain ⟨b, off, css, rfl, hc, hcm, _, hrow, hks⟩ := h2 (by simp)
  obtain ⟨c0, c1, c2, c3, c4, c5, c6, rfl, h012, h3, h4, h5, h6⟩ := hks.seven
  obtain ⟨h0, h1, h2', _⟩ := h012
  have hlt := World.row?_lt hrow
  have l0 := h0.len
  have l1 := h1.len
  have l2 := h2'.len
  have l3 := h3.len
  have l4 := h4.len
  have l5 := h5.len
  have l6 := h6.len
  have hrow' : w.row? b off 21 = some (cat [c0, c1, c2, c3, c4, c5, c6]) := hrow
  have i0 : w.row? b off 3 = some c0 := row_cat hrow' (i := 0) rfl (by simp [offOf_zero]) l0.symm
  have i1 : w.row? b (off + 3) 3 = some c1 := row_cat hrow' (i := 1) rfl (by simp [offOf_succ, offOf_zero, l0]) l1.symm
  have i2 : w.row? b (off + 6) 3 = some c2 := row_cat hrow' (i := 2) rfl (by simp [offOf_succ, offOf_zero, l0, l1]) l2.symm
  have i3 : w.row? b (off + 9) 3 = some c3 := row_cat hrow' (i := 3) rfl (by simp [offOf_succ, offOf_zero, l0, l1, l2]) l3.symm
  have i4 : w.row? b (off + 12) 3 = some c4 := row_cat hrow' (i := 4) rfl (by simp [offOf_succ, offOf_zero, l0, l1, l2, l3]) l4.symm
  have i5 : w.row? b (off + 15) 3 = some c5 := row_cat hrow' (i := 5) rfl (by simp [offOf_succ, offOf_zero, l0, l1, l2, l3, l4]) l5.symm
  have i6 : w.row? b (off + 18) 3 = some c6 := row_cat hrow' (i := 6) rfl (by simp [offOf_succ, offOf_zero, l0, l1, l2, l3, l4, l5]) l6.symm
  have hokz := okL_zs44
  obtain ⟨w0, e0⟩ : ∃ w0, w0 = ((w.alloc (.cells #[.bool true, .slice none 0 0, .slice (some ⟨b, off, none⟩) 7 c] 65)).alloc (.cells (cat zsN44).toArray 44)).alloc (.cells (cat zsN44).toArray 44) := ⟨_, rfl⟩
  have hb0 : Below w.heap.size w w0 := by rw [e0]; exact (((Below.refl _ _).alloc (Nat.le_refl _) _).alloc (by simp) _).alloc (by simp; omega) _
  have hs0 : w0.heap.size = w.heap.size + 3 := by rw [e0]; simp
  have hr : w0.row? w.heap.size 0 3 = some [.bool true, .slice none 0 0, .slice (some ⟨b, off, none⟩) 7 c] := by rw [e0, World.row?_alloc_lt _ (by simp; omega), World.row?_alloc_lt _ (by simp)]; exact World.row?_alloc_at [.bool true, .slice none 0 0, .slice (some ⟨b, off, none⟩) 7 c] 65 _ rfl rfl
  have hf : w0.free? (w.heap.size + 1) 0 77 = true := by rw [e0, World.free?_alloc_lt _ (by simp)]; exact World.free?_alloc_at _ _ (by simp) (by simp [zsN44_len])
  have hz : Whole w0 (w.heap.size + 1 + 1) 44 (cat zsN44) := by
    rw [e0]
    have := Whole.new ((w.alloc (.cells #[.bool true, .slice none 0 0, .slice (some ⟨b, off, none⟩) 7 c] 65)).alloc (.cells (cat zsN44).toArray 44)) 44 (cat zsN44)
    simpa using this
  have ri0 : w0.row? b off 3 = some c0 := ((brow hb0).1 _ _ _ hlt).trans i0
  have HK : Hid (∀ (W : World), Below w.heap.size w W → ∀ (cs : List Value) (k : Option Bts), KidAt w R cs k → KidAt W (fun _ => True) cs k) := fun W hW cs k hk => hk.only (R' := fun _ => True) (Only.of_below_size hW) (fun _ _ _ h => h) (fun _ _ _ => trivial)
  have HC0 := Lib.hid (ref_IntOf ref_word_ok (HK.out w0 hb0 _ _ h0))
  have HE0 := Lib.hid e0
  have HB0 := Lib.hid hb0
  have HS0 := Lib.hid hs0
  have HF0 := Lib.hid hf
  have HZ0 := Lib.hid hz
  have HI1 := Lib.hid i1
  have HI2 := Lib.hid i2
  have HI3 := Lib.hid i3
  have HI4 := Lib.hid i4
  have HI5 := Lib.hid i5
  have HI6 := Lib.hid i6
  have H1 := Lib.hid h1
  have H2 := Lib.hid h2'
  have H3 := Lib.hid h3
  have H4 := Lib.hid h4
  have H5 := Lib.hid h5
  have H6 := Lib.hid h6
  have HNO := Lib.hid (@ofSeven_no2 k0 k1 k2 k3 k4 k5 k6)
  have HLT := Lib.hid hlt
  have HSZ := Lib.hid hsz
  rw [e0] at hr ri0
  obtain ⟨x0, hx0⟩ : ∃ x, x = (intK k0).isSome := ⟨_, rfl⟩
  obtain ⟨x1, hx1⟩ : ∃ x, x = (intK k1).isSome := ⟨_, rfl⟩
  obtain ⟨x2, hx2⟩ : ∃ x, x = (intK k2).isSome := ⟨_, rfl⟩
  obtain ⟨bw, hbw⟩ : ∃ x, x = (wordK k5).isSome := ⟨_, rfl⟩
  obtain ⟨b3, hb3⟩ : ∃ x, x = isL k3 := ⟨_, rfl⟩
  obtain ⟨b4, hb4⟩ : ∃ x, x = isL k4 := ⟨_, rfl⟩
  obtain ⟨b6, hb6⟩ : ∃ x, x = isL k6 := ⟨_, rfl⟩
  obtain ⟨n, hn⟩ : ∃ x, x = (intK k0).getD 0 := ⟨_, rfl⟩
  obtain ⟨p, hp⟩ : ∃ x, x = (intK k1).getD 0 := ⟨_, rfl⟩
  obtain ⟨g, hg⟩ : ∃ x, x = (intK k2).getD 0 := ⟨_, rfl⟩
  obtain ⟨vv, hv⟩ : ∃ x, x = (wordK k5).getD 0 := ⟨_, rfl⟩
  have okV := beC_ok 32 vv
  have HX0 := Lib.hid hx0
  have HX1 := Lib.hid hx1
  have HX2 := Lib.hid hx2
  have HBW := Lib.hid hbw
  have HBB3 := Lib.hid hb3
  have HBB4 := Lib.hid hb4
  have HBB6 := Lib.hid hb6
  have HN := Lib.hid hn
  have HP := Lib.hid hp
  have HG := Lib.hid hg
  have HV := Lib.hid hv
  clear e0 hb0 hs0 hf hz h0 h1 h2' h3 h4 h5 h6 hrow hrow' hks h2 i0 i1 i2 i3 i4 i5 i6 hlt hsz hx0 hx1 hx2 hbw hb3 hb4 hb6 hn hp hg hv l0
  go_enter Tryz.func58, Tryz.ntmps58
  go_wp2_with fail
  rw [← HE0.out]
  refine HC0.out.mono ?_
  rintro e w1 ⟨rfl, hb1⟩
  rw [← HX0.out, ← HN.out]
  have hB1 : Below w.heap.size w w1 := HB0.out.trans (hb1.mono HB0.out.size)
  have HS1 : Hid (w0.heap.size ≤ w1.heap.size) := hb1.size
  have ri1 : w1.row? b (off + 3) 3 = some c1 := ((brow hB1).1 _ _ _ HLT.out).trans HI1.out
  have hf1 : w1.free? (w.heap.size + 1) 0 77 = true := by rw [(brow hb1).2 _ _ _ (free?_lt HF0.out)]; exact HF0.out
  have hz1 : Whole w1 (w.heap.size + 1 + 1) 44 (cat zsN44) := HZ0.out.below hb1
  have HC1 := Lib.hid (ref_IntOf ref_word_ok (HK.out w1 hB1 _ _ H1.out))
  have HB1 := Lib.hid hB1
  have HF1 := Lib.hid hf1
  have HZ1 := Lib.hid hz1
  clear hb1 hB1 hf1 hz1 ri0 hr
  go_wp2_with fail
  refine HC1.out.mono ?_
  rintro e w2 ⟨rfl, hb2⟩
  rw [← HX1.out, ← HP.out]
  have hB2 : Below w.heap.size w w2 := HB1.out.trans (hb2.mono HB1.out.size)
  have ri2 : w2.row? b (off + 6) 3 = some c2 := ((brow hB2).1 _ _ _ HLT.out).trans HI2.out
  have hf2 : w2.free? (w.heap.size + 1) 0 77 = true := by rw [(brow hb2).2 _ _ _ (free?_lt HF1.out)]; exact HF1.out
  have hz2 : Whole w2 (w.heap.size + 1 + 1) 44 (cat zsN44) := HZ1.out.below hb2
  have HC2 := Lib.hid (ref_IntOf ref_word_ok (HK.out w2 hB2 _ _ H2.out))
  have HB2 := Lib.hid hB2
  have HF2 := Lib.hid hf2
  have HZ2 := Lib.hid hz2
  clear hb2 hB2 hf2 hz2 ri1
  go_wp2_with fail
  refine HC2.out.mono ?_
  rintro e w3 ⟨rfl, hb3⟩
  rw [← HX2.out, ← HG.out]
  have hB3 : Below w.heap.size w w3 := HB2.out.trans (hb3.mono HB2.out.size)
  have ri5 : w3.row? b (off + 15) 3 = some c5 := ((brow hB3).1 _ _ _ HLT.out).trans HI5.out
  have hf3 : w3.free? (w.heap.size + 1) 0 77 = true := by rw [(brow hb3).2 _ _ _ (free?_lt HF2.out)]; exact HF2.out
  have hz3 : Whole w3 (w.heap.size + 1 + 1) 44 (cat zsN44) := HZ2.out.below hb3
  have HC3 := Lib.hid (ref_word_ok _ _ _ w3 (HK.out w3 hB3 _ _ H5.out))
  have HB3 := Lib.hid hB3
  have HF3 := Lib.hid hf3
  have HZ3 := Lib.hid hz3
  clear hb3 hB3 hf3 hz3 ri2
  go_wp2_with fail
  refine HC3.out.mono ?_
  rintro e w4 ⟨rfl, hb4⟩
  rw [← HBW.out, ← HV.out]
  obtain ⟨W4, eW4⟩ : ∃ W4, W4 = (w4.alloc (.cells (zU8 32).toArray 25)).setCells w4.heap.size 0 (beC 32 vv) := ⟨_, rfl⟩
  have hb4' : Below w3.heap.size w3 W4 := by rw [eW4]; exact (hb4.alloc hb4.size _).setCells hb4.size _ _
  have hB4 : Below w.heap.size w W4 := HB3.out.trans (hb4'.mono HB3.out.size)
  have hA4 : Arr W4 w4.heap.size 32 (beC 32 vv) := by rw [eW4]; exact (Arr.new w4 32 (zU8 32) 25 (by simp [zU8])).setCells _ okV
  have f25 : (w4.alloc (.cells (zU8 32).toArray 25)).free? w4.heap.size 0 32 = true := World.free?_alloc_at _ _ rfl (by simp [zU8])
  have r3 : W4.row? b (off + 9) 3 = some c3 := ((brow hB4).1 _ _ _ HLT.out).trans HI3.out
  have r4 : W4.row? b (off + 12) 3 = some c4 := ((brow hB4).1 _ _ _ HLT.out).trans HI4.out
  have r6 : W4.row? b (off + 18) 3 = some c6 := ((brow hB4).1 _ _ _ HLT.out).trans HI6.out
  have d3 : W4.cell? ⟨b, off + 9, none⟩ = some (.bool b3) := by have := World.row?_cell r3 (show 0 < 3 by omega); rw [H3.out.flag, ← HBB3.out] at this; exact this
  have d4 : W4.cell? ⟨b, off + 12, none⟩ = some (.bool b4) := by have := World.row?_cell r4 (show 0 < 3 by omega); rw [H4.out.flag, ← HBB4.out] at this; exact this
  have d6 : W4.cell? ⟨b, off + 18, none⟩ = some (.bool b6) := by have := World.row?_cell r6 (show 0 < 3 by omega); rw [H6.out.flag, ← HBB6.out] at this; exact this
  have hf4 : W4.free? (w.heap.size + 1) 0 77 = true := by rw [(brow hb4').2 _ _ _ (free?_lt HF3.out)]; exact HF3.out
  have hz4 : Whole W4 (w.heap.size + 1 + 1) 44 (cat zsN44) := HZ3.out.below hb4'
  have rz := (hz4.arr zsN44_len).row
  have HW4 := Lib.hid eW4
  have HB4 := Lib.hid hB4
  have HA4 := Lib.hid hA4
  have HF4 := Lib.hid hf4
  have HZ4 := Lib.hid hz4
  have HT4 : Hid (w.heap.size + 1 + 1 < w4.heap.size) := by have h1 := hb4.size; have h2 := HZ3.out.lt; show _ < _; omega
  have HR3 := Lib.hid r3
  have HR4 := Lib.hid r4
  have HR6 := Lib.hid r6
  rw [eW4] at hB4
  have HBS := Lib.hid hB4
  rw [eW4] at d3 d4 d6 hf4 rz
  clear eW4 hb4 hb4' hB4 hA4 hz4 r3 r4 r6 ri5
  by_cases hzx0 : x0 = false
  · subst hzx0
    go_wp2
    exact ret_row2 tyN44 rfl _ _ rfl rfl rfl (row?_setCells_whole _ hf4 hokz) (ofIs_none (HNO.out (.inl HX0.out.symm)) (HBS.out.setCells (by omega) _ _))
  obtain rfl : x0 = true := by cases x0 <;> first | rfl | exact absurd rfl hzx0
  clear hzx0
  by_cases hzx1 : x1 = false
  · subst hzx1
    go_wp2
    exact ret_row2 tyN44 rfl _ _ rfl rfl rfl (row?_setCells_whole _ hf4 hokz) (ofIs_none (HNO.out (.inr (.inl HX1.out.symm))) (HBS.out.setCells (by omega) _ _))
  obtain rfl : x1 = true := by cases x1 <;> first | rfl | exact absurd rfl hzx1
  clear hzx1
  by_cases hzx2 : x2 = false
  · subst hzx2
    go_wp2
    exact ret_row2 tyN44 rfl _ _ rfl rfl rfl (row?_setCells_whole _ hf4 hokz) (ofIs_none (HNO.out (.inr (.inr (.inl HX2.out.symm)))) (HBS.out.setCells (by omega) _ _))
  obtain rfl : x2 = true := by cases x2 <;> first | rfl | exact absurd rfl hzx2
  clear hzx2
  by_cases hzbw : bw = false
  · subst hzbw
    go_wp2
    exact ret_row2 tyN44 rfl _ _ rfl rfl rfl (row?_setCells_whole _ hf4 hokz) (ofIs_none (HNO.out (.inr (.inr (.inr (.inl HBW.out.symm))))) (HBS.out.setCells (by omega) _ _))
  obtain rfl : bw = true := by cases bw <;> first | rfl | exact absurd rfl hzbw
  clear hzbw
  by_cases hzb3 : b3 = true
  · subst hzb3
    go_wp2
    exact ret_row2 tyN44 rfl _ _ rfl rfl rfl (row?_setCells_whole _ hf4 hokz) (ofIs_none (HNO.out (.inr (.inr (.inr (.inr (.inl (by have h3 := HBB3.out; cases k3 with | none => rfl | some _ => exact absurd h3 (by simp [isL])))))))) (HBS.out.setCells (by omega) _ _))
  obtain rfl : b3 = false := by cases b3 <;> first | rfl | exact absurd rfl hzb3
  clear hzb3
  obtain ⟨f, rfl⟩ : ∃ l, k3 = some l := by cases k3 with
    | none => exact absurd HBB3.out (by simp [isL])
    | some l => exact ⟨l, rfl⟩
  obtain ⟨a3, cc3, rfl, hi3, hby3⟩ := H3.out.some
  have q3 : W4.cell? ⟨b, off + 10, none⟩ = some (.slice a3 f.length cc3) := by have := World.row?_cell HR3.out (show 1 < 3 by omega); rwa [Nat.add_assoc] at this
  have HQ3 := Lib.hid q3
  rw [HW4.out] at q3
  have HI3b := Lib.hid hi3
  have HBY3 := Lib.hid hby3
  clear hi3 hby3
  by_cases hfl : f.length = 20
  · skip
    have d20 : ((f.length : Int) != 20) = false := by rw [hfl]; rfl
    by_cases hzb4 : b4 = true
    · subst hzb4
      go_wp2
      exact ret_row2 tyN44 rfl _ _ rfl rfl rfl (row?_setCells_whole _ hf4 hokz) (ofIs_none (HNO.out (.inr (.inr (.inr (.inr (.inr (.inl HBB4.out.symm))))))) (HBS.out.setCells (by omega) _ _))
    obtain rfl : b4 = false := by cases b4 <;> first | rfl | exact absurd rfl hzb4
    clear hzb4
    by_cases hzb6 : b6 = true
    · subst hzb6
      go_wp2
      exact ret_row2 tyN44 rfl _ _ rfl rfl rfl (row?_setCells_whole _ hf4 hokz) (ofIs_none (HNO.out (.inr (.inr (.inr (.inr (.inr (.inr HBB6.out.symm))))))) (HBS.out.setCells (by omega) _ _))
    obtain rfl : b6 = false := by cases b6 <;> first | rfl | exact absurd rfl hzb6
    clear hzb6
    obtain ⟨to, rfl⟩ : ∃ l, k4 = some l := by cases k4 with
      | none => exact absurd HBB4.out (by simp [isL])
      | some l => exact ⟨l, rfl⟩
    obtain ⟨d, rfl⟩ : ∃ l, k6 = some l := by cases k6 with
      | none => exact absurd HBB6.out (by simp [isL])
      | some l => exact ⟨l, rfl⟩
    obtain ⟨a4, cc4, rfl, hi4, hby4⟩ := H4.out.some
    obtain ⟨a6, cc6, rfl, hi6, hby6⟩ := H6.out.some
    have q4 : W4.cell? ⟨b, off + 13, none⟩ = some (.slice a4 to.length cc4) := by have := World.row?_cell HR4.out (show 1 < 3 by omega); rwa [Nat.add_assoc] at this
    have q6 : W4.cell? ⟨b, off + 19, none⟩ = some (.slice a6 d.length cc6) := by have := World.row?_cell HR6.out (show 1 < 3 by omega); rwa [Nat.add_assoc] at this
    obtain ⟨m, hm⟩ : ∃ m, m = to.length := ⟨_, rfl⟩
    obtain ⟨dl, hdl⟩ : ∃ dl, dl = d.length := ⟨_, rfl⟩
    rw [← hm] at q4
    rw [← hdl] at q6
    have HM := Lib.hid hm
    have HDL := Lib.hid hdl
    have HYES : Hid (ofSeven k0 k1 k2 (some f) (some to) k5 (some d) = if to = [] then some ⟨n, p, g, beN f, 0, true, vv, d⟩ else (addrK (some to)).map fun x => ⟨n, p, g, beN f, beN x, false, vv, d⟩) := by
      have g0 : intK k0 = some n := by obtain ⟨y, hy⟩ := Option.isSome_iff_exists.1 HX0.out.symm; rw [HN.out, hy]; rfl
      have g1 : intK k1 = some p := by obtain ⟨y, hy⟩ := Option.isSome_iff_exists.1 HX1.out.symm; rw [HP.out, hy]; rfl
      have g2 : intK k2 = some g := by obtain ⟨y, hy⟩ := Option.isSome_iff_exists.1 HX2.out.symm; rw [HG.out, hy]; rfl
      have g5 : wordK k5 = some vv := by obtain ⟨y, hy⟩ := Option.isSome_iff_exists.1 HBW.out.symm; rw [HV.out, hy]; rfl
      exact ofSeven_yes g0 g1 g2 hfl g5
    have HQ4 := Lib.hid q4
    have HQ6 := Lib.hid q6
    have HI4b := Lib.hid hi4
    have HI6b := Lib.hid hi6
    have HBY4 := Lib.hid hby4
    have HBY6 := Lib.hid hby6
    have HFL := Lib.hid hfl
    rw [HW4.out] at q4 q6
    clear hi4 hi6 hby4 hby6 hm hdl
    by_cases hm0 : m = 0
    · skip
      have e20 : ((m : Int) != 20) = true := bne_iff_ne.2 (by omega)
      have e0 : ((m : Int) != 0) = false := by rw [hm0]; rfl
      have ez : ((m : Int) == 0) = true := by rw [hm0]; rfl
      have HMM : Hid (m = 0) := hm0
      obtain ⟨tn, htn⟩ : ∃ tn : Nat, tn = 0 := ⟨_, rfl⟩
      have HTX : Hid (ofSeven k0 k1 k2 (some f) (some to) k5 (some d) = some ⟨n, p, g, beN f, tn, true, vv, d⟩) := by
        show _ = _
        rw [HYES.out, if_pos (List.eq_nil_of_length_eq_zero (by rw [← HM.out]; exact hm0)), htn]
      have HTN := Lib.hid htn
      have HSEG : Hid (u8L to = []) := by show _ = _; rw [List.eq_nil_of_length_eq_zero (l := to) (by rw [← HM.out]; exact hm0)]; rfl
      have HSF : Hid (u8L f = beC 20 (beN f)) := u8L_be f 20 HBY3.out hfl
      have hsl3 : ∀ w', (Instr.sliceAt 23 (.pointer (some ⟨(w.heap.size + 1 + 1), 3, none⟩)) none none none).run Tryz.prog w' = .ok (.slice (some ⟨(w.heap.size + 1 + 1), 3, none⟩) 20 20) w' := fun w' => slice23_3 _ w'
      have hsl4 : ∀ w', (Instr.sliceAt 23 (.pointer (some ⟨(w.heap.size + 1 + 1), 23, none⟩)) none none none).run Tryz.prog w' = .ok (.slice (some ⟨(w.heap.size + 1 + 1), 23, none⟩) 20 20) w' := fun w' => slice23_23 _ w'
      have z1 := HZ4.out.seg (i := 0) rfl (.int .i64 (n : Int)) (p := 0) rfl
      have z2 := z1.seg (i := 1) rfl (.int .i64 (p : Int)) (p := 1) rfl
      have z3 := z2.seg (i := 2) rfl (.int .i64 (g : Int)) (p := 2) rfl
      have fz0 := (HZ4.out.arr zsN44_len).free1 (i := 0) (by omega)
      have fz1 := (z1.arr (n := 77) rfl).free1 (i := 1) (by omega)
      have fz2 := (z2.arr (n := 77) rfl).free1 (i := 2) (by omega)
      obtain ⟨W5, eW5⟩ : ∃ W5, W5 = ((W4.setCell ⟨(w.heap.size + 1 + 1), 0, none⟩ (.int .i64 (n : Int))).setCell ⟨(w.heap.size + 1 + 1), 1, none⟩ (.int .i64 (p : Int))).setCell ⟨(w.heap.size + 1 + 1), 2, none⟩ (.int .i64 (g : Int)) := ⟨_, rfl⟩
      have ho5 : Only (· = (w.heap.size + 1 + 1)) W4 W5 := by
        rw [eW5]
        exact (((only_cell W4 (w.heap.size + 1 + 1) 0 _).trans (only_cell _ (w.heap.size + 1 + 1) 1 _) (fun _ h _ => h)).trans (only_cell _ (w.heap.size + 1 + 1) 2 _) (fun _ h _ => h))
      rw [← eW5] at z3
      have HW5 : Hid (W5 = ((((w4.alloc (.cells (zU8 32).toArray 25)).setCells w4.heap.size 0 (beC 32 vv)).setCell ⟨(w.heap.size + 1 + 1), 0, none⟩ (.int .i64 (n : Int))).setCell ⟨(w.heap.size + 1 + 1), 1, none⟩ (.int .i64 (p : Int))).setCell ⟨(w.heap.size + 1 + 1), 2, none⟩ (.int .i64 (g : Int))) := by show _ = _; rw [eW5, HW4.out]
      have hbT : b < W4.heap.size ∧ b ≠ (w.heap.size + 1 + 1) := ⟨World.block_lt_of_cell? _ _ HQ4.out, by have := HLT.out; omega⟩
      have HBT := Lib.hid hbT
      obtain ⟨T1, hT1⟩ : ∃ T1 : World → Prop, T1 = fun W => W.cell? ⟨b, off + 10, none⟩ = some (.slice a3 f.length cc3) := ⟨_, rfl⟩
      obtain ⟨T2, hT2⟩ : ∃ T2 : World → Prop, T2 = fun W => W.cell? ⟨b, off + 13, none⟩ = some (.slice a4 m cc4) := ⟨_, rfl⟩
      have HT1 := Lib.hid hT1
      have HT2 := Lib.hid hT2
      have HTA : Hid (∀ W, Only (· = (w.heap.size + 1 + 1)) W4 W → T1 W ∧ T2 W) := by
        show ∀ W, _ → _
        intro W hW
        rw [hT1, hT2]
        exact ⟨(hW.cell? hbT.1 hbT.2).trans HQ3.out, (hW.cell? hbT.1 hbT.2).trans HQ4.out⟩
      have HO5 := Lib.hid ho5
      have HO5d : Hid (Only (· = (w.heap.size + 1 + 1)) W4 W5.drew) := ⟨ho5.os, ho5.tape, ho5.output, ho5.size, ho5.block⟩
      have HZ5 : Hid (Whole W5.drew (w.heap.size + 1 + 1) 44 (cat [[.int .i64 (n : Int)], [.int .i64 (p : Int)], [.int .i64 (g : Int)], beC 20 0, beC 20 0, [.bool false], beC 32 0, [.slice none 0 0]])) := z3
      have t0 : T1 W5.drew := (HTA.out _ HO5d.out).1
      have HKI : Hid (∀ (W : World) (a : Option Addr) (c : Nat) (l : Bts), Ints w .u8 a c l → Only (· = (w.heap.size + 1 + 1)) W4 W → Ints W .u8 a c l) := fun W a c l hi ho => ints_only2 (hi.below HB4.out) ho (fun hl q hq hx => by
        obtain ⟨b', o', ha, hb', _⟩ := hi.at (i := 0) (List.length_pos_iff.2 hl)
        rw [ha] at hq; cases hq
        have : b' = (w.heap.size + 1 + 1) := hx
        omega)
      rw [HW4.out] at fz0 fz1 fz2
      clear hT1 hT2 z1 z2 z3 eW5 ho5 hbT htn hm0  hfl
      go_wp2_with fail
      rw [← HW5.out]
      clear fz0 fz1 fz2 q3 q4 q6 d3 d4 d6 rz hf4
      have HS3 : Hid (0 < (u8L f).length → ∃ ad, a3 = some ad ∧ ∀ j v, (u8L f)[j]? = some v → W5.drew.cell? (ad.add j) = some v) := fun hpos => ints_src (HKI.out W5.drew a3 cc3 f HI3b.out HO5d.out) (by simpa using hpos)
      refine wp_region_tree T1 [] (.pure 0 (.pure 1 (.pure 2 (.pure 3 (.pure 4 (.take 5 (.alt 6 .fin .stop))))))) (by kernel_rfl) (by kernel_rfl) ?_
      refine tree_pure ?_ rfl (by rfl) (fun w' hs => ?_) (fun _ _ _ h => h) ?_
      rotate_left
      · clear hs
        go_simp
        try rfl
      simp only [Act.put, List.setIfInBounds_toArray, List.set_cons_zero, List.set_cons_succ]
      refine tree_pure ?_ rfl (by rfl) (fun w' hs => ?_) (fun _ _ _ h => h) ?_
      rotate_left
      · clear hs
        go_simp
        try rfl
      simp only [Act.put, List.setIfInBounds_toArray, List.set_cons_zero, List.set_cons_succ]
      refine tree_pure ?_ rfl (by rfl) (fun w' hs => ?_) (fun _ _ _ h => h) ?_
      rotate_left
      · clear hs
        go_simp
        try rfl
      simp only [Act.put, List.setIfInBounds_toArray, List.set_cons_zero, List.set_cons_succ]
      refine tree_pure ?_ rfl (by rfl) (fun w' hs => ?_) (fun _ _ _ h => h) ?_
      rotate_left
      · clear hs
        go_simp
        try rfl
      simp only [Act.put, List.setIfInBounds_toArray, List.set_cons_zero, List.set_cons_succ]
      refine tree_pure ?_ rfl (by rfl) (fun w' hs => ?_) (fun _ _ _ h => h) ?_
      rotate_left
      · clear hs
        go_simp
        try rfl
      simp only [Act.put, List.setIfInBounds_toArray, List.set_cons_zero, List.set_cons_succ]
      refine tree_take ?_ t0 rfl (by rfl) (fun w' hs => ?_) (fun _ _ _ h => h) ?_
      rotate_left
      · rw [HT1.out] at hs
        have q1 := hs
        go_simp
        try rfl
      simp only [Act.put, List.setIfInBounds_toArray, List.set_cons_zero, List.set_cons_succ]
      refine tree_run rfl (fun K hK => ?_)
      refine step_copy_only rfl _ _ 26 26 rfl 5 Tryz.underlying26 (by kernel_rfl) (some ⟨(w.heap.size + 1 + 1), 3, none⟩) _ 20 20 f.length cc3 rfl rfl (w.heap.size + 1 + 1) 3 _ 44 HZ5.out (u8L f) (by rw [show (u8L f).length = f.length by simp [u8L], HFL.out]; rfl) (fun hpos => ⟨rfl, HS3.out hpos⟩) (by rw [txL_len, show (u8L f).length = f.length by simp [u8L], HFL.out]; decide) (fun v hv => by obtain ⟨x, _, rfl⟩ := List.mem_map.1 hv; rfl) ?_
      intro w6 hg6 ho6
      have HO6 : Hid (Only (· = (w.heap.size + 1 + 1)) W4 w6) := HO5d.out.trans ho6 (fun _ h _ => h)
      have t6 : T1 w6 := (HTA.out _ HO6.out).1
      refine hK.out _ _ t6 ?_
      clear hK K
      refine tree_fin ?_
      have HZ6 : Hid (Whole w6.drew (w.heap.size + 1 + 1) 44 (cat [[(.int .i64 (n : Int))], [(.int .i64 (p : Int))], [(.int .i64 (g : Int))], beC 20 (beN f), beC 20 0, [.bool false], beC 32 0, [.slice none 0 0]])) := by
        have h := hg6.out
        rw [HSF.out, splice_cat (l := [[(.int .i64 (n : Int))], [(.int .i64 (p : Int))], [(.int .i64 (g : Int))], beC 20 0, beC 20 0, [.bool false], beC 32 0, [.slice none 0 0]]) (i := 3) (s := beC 20 0) (v := beC 20 (beN f)) (p := 3) rfl (by simp) (by simp [offOf_succ, offOf_zero])] at h
        exact h
      have HO6d : Hid (Only (· = (w.heap.size + 1 + 1)) W4 w6.drew) := ⟨HO6.out.os, HO6.out.tape, HO6.out.output, HO6.out.size, HO6.out.block⟩
      have t1 : T2 w6.drew := (HTA.out _ HO6d.out).2
      have HS4 : Hid (0 < (u8L to).length → ∃ ad, a4 = some ad ∧ ∀ j v, (u8L to)[j]? = some v → w6.drew.cell? (ad.add j) = some v) := fun hpos => ints_src (HKI.out w6.drew a4 cc4 to HI4b.out HO6d.out) (by simpa using hpos)
      clear t0 t6 hg6 ho6 hsl3
      go_wp2_with fail
      refine wp_region_tree T2 [] (.pure 0 (.pure 1 (.pure 2 (.pure 3 (.pure 4 (.take 5 (.alt 6 .fin .stop))))))) (by kernel_rfl) (by kernel_rfl) ?_
      refine tree_pure ?_ rfl (by rfl) (fun w' hs => ?_) (fun _ _ _ h => h) ?_
      rotate_left
      · clear hs
        go_simp
        try rfl
      simp only [Act.put, List.setIfInBounds_toArray, List.set_cons_zero, List.set_cons_succ]
      refine tree_pure ?_ rfl (by rfl) (fun w' hs => ?_) (fun _ _ _ h => h) ?_
      rotate_left
      · clear hs
        go_simp
        try rfl
      simp only [Act.put, List.setIfInBounds_toArray, List.set_cons_zero, List.set_cons_succ]
      refine tree_pure ?_ rfl (by rfl) (fun w' hs => ?_) (fun _ _ _ h => h) ?_
      rotate_left
      · clear hs
        go_simp
        try rfl
      simp only [Act.put, List.setIfInBounds_toArray, List.set_cons_zero, List.set_cons_succ]
      refine tree_pure ?_ rfl (by rfl) (fun w' hs => ?_) (fun _ _ _ h => h) ?_
      rotate_left
      · clear hs
        go_simp
        try rfl
      simp only [Act.put, List.setIfInBounds_toArray, List.set_cons_zero, List.set_cons_succ]
      refine tree_pure ?_ rfl (by rfl) (fun w' hs => ?_) (fun _ _ _ h => h) ?_
      rotate_left
      · clear hs
        go_simp
        try rfl
      simp only [Act.put, List.setIfInBounds_toArray, List.set_cons_zero, List.set_cons_succ]
      refine tree_take ?_ t1 rfl (by rfl) (fun w' hs => ?_) (fun _ _ _ h => h) ?_
      rotate_left
      · rw [HT2.out] at hs
        have q1 := hs
        go_simp
        try rfl
      simp only [Act.put, List.setIfInBounds_toArray, List.set_cons_zero, List.set_cons_succ]
      refine tree_run rfl (fun K hK => ?_)
      refine step_copy_only rfl _ _ 26 26 rfl 5 Tryz.underlying26 (by kernel_rfl) (some ⟨(w.heap.size + 1 + 1), 23, none⟩) _ 20 20 m cc4 rfl rfl (w.heap.size + 1 + 1) 23 _ 44 HZ6.out (u8L to) (by rw [show (u8L to).length = to.length by simp [u8L], ← HM.out, HMM.out]; rfl) (fun hpos => ⟨rfl, HS4.out hpos⟩) (by rw [txL_len, show (u8L to).length = to.length by simp [u8L], ← HM.out, HMM.out]; decide) (fun v hv => by obtain ⟨x, _, rfl⟩ := List.mem_map.1 hv; rfl) ?_
      intro w7 hg7 ho7
      have HO7 : Hid (Only (· = (w.heap.size + 1 + 1)) W4 w7) := HO6d.out.trans ho7 (fun _ h _ => h)
      have t7 : T2 w7 := (HTA.out _ HO7.out).2
      refine hK.out _ _ t7 ?_
      clear hK K
      refine tree_fin ?_
      have hz7 : Whole w7 (w.heap.size + 1 + 1) 44 (cat [[(.int .i64 (n : Int))], [(.int .i64 (p : Int))], [(.int .i64 (g : Int))], beC 20 (beN f), beC 20 tn, [.bool false], beC 32 0, [.slice none 0 0]]) := by
        have h := hg7.out
        rw [HSEG.out, splice_nothing] at h
        rw [HTN.out]; exact h
      have hA7 := hz7.arr (txL_len _ _ _ _ _ _ _ _)
      have q4w : w7.cell? ⟨b, off + 13, none⟩ = some (.slice a4 m cc4) := by rw [HT2.out] at t7; exact t7
      have f43 : w7.free? (w.heap.size + 1 + 1) 43 1 = true := hA7.free1 (by omega)
      have hA7a := hA7.seg (i := 5) rfl (.bool true) (p := 43) (by simp [offOf_succ, offOf_zero])
      obtain ⟨w7a, e7a⟩ : ∃ w7a, w7a = w7.setCell ⟨(w.heap.size + 1 + 1), 43, none⟩ (.bool true) := ⟨_, rfl⟩
      rw [← e7a] at hA7a
      have HO7a : Hid (Only (· = (w.heap.size + 1 + 1)) W4 w7a) := by show Only _ _ _; rw [e7a]; exact HO7.out.trans (only_cell _ (w.heap.size + 1 + 1) 43 _) (fun _ h _ => h)
      have rV : w7a.row? w4.heap.size 0 32 = some (beC 32 vv) := (HO7a.out.row? HA4.out.lt (by have := HT4.out; omega)).trans HA4.out.row
      have f44 : w7a.free? (w.heap.size + 1 + 1) 44 32 = true := World.free?_sub hA7a.free (by omega)
      have hA8 := hA7a.segs (i := 6) rfl (v := beC 32 vv) (by simp) (p := 44) (by simp [offOf_succ, offOf_zero])
      obtain ⟨w8, e8⟩ : ∃ w8, w8 = w7a.setCells (w.heap.size + 1 + 1) 44 (beC 32 vv) := ⟨_, rfl⟩
      rw [← e8] at hA8
      have HO8 : Hid (Only (· = (w.heap.size + 1 + 1)) W4 w8) := by show Only _ _ _; rw [e8]; exact HO7a.out.trans ((Only.refl (· = (w.heap.size + 1 + 1)) _).setCells (fun _ => rfl) _ _) (fun _ h _ => h)
      have q6w : w8.cell? ⟨b, off + 19, none⟩ = some (.slice a6 dl cc6) := (HO8.out.cell? HBT.out.1 HBT.out.2).trans HQ6.out
      have hi8 := HKI.out w8 a6 cc6 d HI6b.out HO8.out
      have how : w8.ownsRow w8.heap.size 5 1 (.slice none 0 0) 0 [] := World.ownsRow_nil _ _ _ _
      have HA8 := Lib.hid hA8
      have HZT : Hid ((w.heap.size + 1 + 1) < w8.heap.size) := hA8.lt
      have hf8 : w8.free? (w.heap.size + 1) 0 77 = true := by rw [HO8.out.free? (free?_lt HF4.out) (by omega)]; exact HF4.out
      have HF8 := Lib.hid hf8
      have HB8 : Hid (Below w.heap.size w w8) := HB4.out.trans (HO8.out.below HB4.out.size (fun i hi => by have : i = (w.heap.size + 1 + 1) := hi; omega))
      have HE8 : Hid (w8 = (w7.setCell ⟨(w.heap.size + 1 + 1), 43, none⟩ (.bool true)).setCells (w.heap.size + 1 + 1) 44 (beC 32 vv)) := by show _ = _; rw [e8, e7a]
      rw [e7a] at rV f44
      rw [HE8.out] at q6w hi8 how
      have HI8 := Lib.hid hi8
      have HOW := Lib.hid how
      have HSZD : Hid (dl ≤ 70000000000000) := by show _ ≤ _; rw [HDL.out]; exact HSZ.out d rfl
      clear t1 t7 hg7 ho7 hz7 hA7 hA7a e7a hA8 e8 hi8 how hf8 hsl4
      go_wp2_with (at_builtin; go_must (refine wpList_append_intsN (base := ((w7.setCell ⟨(w.heap.size + 1 + 1), 43, none⟩ (.bool true)).setCells (w.heap.size + 1 + 1) 44 (beC 32 vv)).heap.size) (n := 0) (xs := []) elem26 rfl _ _ rfl HOW.out rfl rfl HDL.out HI8.out (by have := HSZD.out; unfold maxLen; omega) (by have := HSZD.out; omega) (Nat.le_refl _) ?_))
      intro v9 w9 ho9 hg9
      have H9 : OwnB ((w7.setCell ⟨(w.heap.size + 1 + 1), 43, none⟩ (.bool true)).setCells (w.heap.size + 1 + 1) 44 (beC 32 vv)) w9 v9 d := by
        refine ⟨?_, (Below.refl _ _).grown hg9 (by simp) (fun k hk => by simp [Value.ownBlock] at hk)⟩
        rw [← HDL.out]
        simpa using ho9
      rw [← HE8.out] at H9
      have hnb := H9.new
      obtain ⟨a9, c9, rfl, hi9, hfr⟩ := hnb.read
      have hA9 : Arr w9 (w.heap.size + 1 + 1) 77 (cat [[(.int .i64 (n : Int))], [(.int .i64 (p : Int))], [(.int .i64 (g : Int))], beC 20 (beN f), beC 20 tn, [.bool true], beC 32 vv, [.slice none 0 0]]) := HA8.out.only (S := fun _ => False) (Only.of_below_size hnb.below) (fun h => h)
      have f76 := hA9.free1 (i := 76) (by omega)
      have hA10 := hA9.seg (i := 7) rfl (.slice a9 d.length c9) (p := 76) (by simp [offOf_succ, offOf_zero])
      have r10 : (w9.setCell ⟨(w.heap.size + 1 + 1), 76, none⟩ (.slice a9 d.length c9)).row? (w.heap.size + 1 + 1) 0 77 = some (cat (txS ⟨n, p, g, beN f, tn, true, vv, d⟩ (.slice a9 d.length c9))) := hA10.row
      have hf9 : w9.free? (w.heap.size + 1) 0 77 = true := by rw [(brow hnb.below).2 _ _ _ (free?_lt HF8.out)]; exact HF8.out
      have hf10 : (w9.setCell ⟨(w.heap.size + 1 + 1), 76, none⟩ (.slice a9 d.length c9)).free? (w.heap.size + 1) 0 77 = true := by rw [(only_cell w9 (w.heap.size + 1 + 1) 76 (.slice a9 d.length c9)).free? (free?_lt hf9) (by omega)]; exact hf9
      have hokr := txS_ok ⟨n, p, g, beN f, tn, true, vv, d⟩ a9 d.length c9
      have HI9 := Lib.hid hi9
      have HFR := Lib.hid hfr
      have HB9 := Lib.hid (HB8.out.trans (hnb.below.mono HB8.out.size))
      clear hnb hi9 hfr H9 ho9 hg9 hA9 hA10 hf9 q4w rV f43 f44 q6w
      go_wp2
      have hO : Only (fun b => b = (w.heap.size + 1 + 1) ∨ b = w.heap.size + 1) w9 ((w9.setCell ⟨(w.heap.size + 1 + 1), 76, none⟩ (.slice a9 d.length c9)).setCells (w.heap.size + 1) 0 (cat (txS ⟨n, p, g, beN f, tn, true, vv, d⟩ (.slice a9 d.length c9)))) := ((only_cell w9 (w.heap.size + 1 + 1) 76 _).mono (fun i h => .inl h)).trans ((Only.refl (· = w.heap.size + 1) _).setCells (fun _ => rfl) _ _) (fun i h _ => .inr h)
      exact ret_row2 tyN44 rfl _ _ rfl rfl rfl (row?_setCells_whole _ hf10 hokr) (ofIs_some HTX.out ⟨⟨a9, c9, rfl, ints_only HI9.out hO (fun q _ hq hx => by have h1 := HFR.out q hq; have h2 := HZT.out; rcases hx with h | h <;> omega), fun q hq => by have h1 := HFR.out q hq; have h2 := HZT.out; omega⟩, HB9.out.trans (hO.below HB9.out.size (fun i hi => by rcases hi with h | h <;> omega))⟩ HBY6.out)
    by_cases hm20 : m = 20
    · skip
      have e20 : ((m : Int) != 20) = false := by rw [hm20]; rfl
      have e0 : ((m : Int) != 0) = true := bne_iff_ne.2 (by omega)
      have ez : ((m : Int) == 0) = false := by rw [hm20]; rfl
      have HMM : Hid (m = 20) := hm20
      obtain ⟨tn, htn⟩ : ∃ tn : Nat, tn = beN to := ⟨_, rfl⟩
      have HTX : Hid (ofSeven k0 k1 k2 (some f) (some to) k5 (some d) = some ⟨n, p, g, beN f, tn, false, vv, d⟩) := by
        show _ = _
        rw [HYES.out, if_neg (fun h => hm0 (by rw [HM.out, h]; rfl)), htn, show addrK (some to) = some to from if_pos (by rw [← HM.out]; exact hm20)]
        rfl
      have HSEG : Hid (u8L to = beC 20 tn) := by show _ = _; rw [htn]; exact u8L_be to 20 HBY4.out (by rw [← HM.out]; exact hm20)
      have HSF : Hid (u8L f = beC 20 (beN f)) := u8L_be f 20 HBY3.out hfl
      have hsl3 : ∀ w', (Instr.sliceAt 23 (.pointer (some ⟨(w.heap.size + 1 + 1), 3, none⟩)) none none none).run Tryz.prog w' = .ok (.slice (some ⟨(w.heap.size + 1 + 1), 3, none⟩) 20 20) w' := fun w' => slice23_3 _ w'
      have hsl4 : ∀ w', (Instr.sliceAt 23 (.pointer (some ⟨(w.heap.size + 1 + 1), 23, none⟩)) none none none).run Tryz.prog w' = .ok (.slice (some ⟨(w.heap.size + 1 + 1), 23, none⟩) 20 20) w' := fun w' => slice23_23 _ w'
      have z1 := HZ4.out.seg (i := 0) rfl (.int .i64 (n : Int)) (p := 0) rfl
      have z2 := z1.seg (i := 1) rfl (.int .i64 (p : Int)) (p := 1) rfl
      have z3 := z2.seg (i := 2) rfl (.int .i64 (g : Int)) (p := 2) rfl
      have fz0 := (HZ4.out.arr zsN44_len).free1 (i := 0) (by omega)
      have fz1 := (z1.arr (n := 77) rfl).free1 (i := 1) (by omega)
      have fz2 := (z2.arr (n := 77) rfl).free1 (i := 2) (by omega)
      obtain ⟨W5, eW5⟩ : ∃ W5, W5 = ((W4.setCell ⟨(w.heap.size + 1 + 1), 0, none⟩ (.int .i64 (n : Int))).setCell ⟨(w.heap.size + 1 + 1), 1, none⟩ (.int .i64 (p : Int))).setCell ⟨(w.heap.size + 1 + 1), 2, none⟩ (.int .i64 (g : Int)) := ⟨_, rfl⟩
      have ho5 : Only (· = (w.heap.size + 1 + 1)) W4 W5 := by
        rw [eW5]
        exact (((only_cell W4 (w.heap.size + 1 + 1) 0 _).trans (only_cell _ (w.heap.size + 1 + 1) 1 _) (fun _ h _ => h)).trans (only_cell _ (w.heap.size + 1 + 1) 2 _) (fun _ h _ => h))
      rw [← eW5] at z3
      have HW5 : Hid (W5 = ((((w4.alloc (.cells (zU8 32).toArray 25)).setCells w4.heap.size 0 (beC 32 vv)).setCell ⟨(w.heap.size + 1 + 1), 0, none⟩ (.int .i64 (n : Int))).setCell ⟨(w.heap.size + 1 + 1), 1, none⟩ (.int .i64 (p : Int))).setCell ⟨(w.heap.size + 1 + 1), 2, none⟩ (.int .i64 (g : Int))) := by show _ = _; rw [eW5, HW4.out]
      have hbT : b < W4.heap.size ∧ b ≠ (w.heap.size + 1 + 1) := ⟨World.block_lt_of_cell? _ _ HQ4.out, by have := HLT.out; omega⟩
      have HBT := Lib.hid hbT
      obtain ⟨T1, hT1⟩ : ∃ T1 : World → Prop, T1 = fun W => W.cell? ⟨b, off + 10, none⟩ = some (.slice a3 f.length cc3) := ⟨_, rfl⟩
      obtain ⟨T2, hT2⟩ : ∃ T2 : World → Prop, T2 = fun W => W.cell? ⟨b, off + 13, none⟩ = some (.slice a4 m cc4) := ⟨_, rfl⟩
      have HT1 := Lib.hid hT1
      have HT2 := Lib.hid hT2
      have HTA : Hid (∀ W, Only (· = (w.heap.size + 1 + 1)) W4 W → T1 W ∧ T2 W) := by
        show ∀ W, _ → _
        intro W hW
        rw [hT1, hT2]
        exact ⟨(hW.cell? hbT.1 hbT.2).trans HQ3.out, (hW.cell? hbT.1 hbT.2).trans HQ4.out⟩
      have HO5 := Lib.hid ho5
      have HO5d : Hid (Only (· = (w.heap.size + 1 + 1)) W4 W5.drew) := ⟨ho5.os, ho5.tape, ho5.output, ho5.size, ho5.block⟩
      have HZ5 : Hid (Whole W5.drew (w.heap.size + 1 + 1) 44 (cat [[.int .i64 (n : Int)], [.int .i64 (p : Int)], [.int .i64 (g : Int)], beC 20 0, beC 20 0, [.bool false], beC 32 0, [.slice none 0 0]])) := z3
      have t0 : T1 W5.drew := (HTA.out _ HO5d.out).1
      have HKI : Hid (∀ (W : World) (a : Option Addr) (c : Nat) (l : Bts), Ints w .u8 a c l → Only (· = (w.heap.size + 1 + 1)) W4 W → Ints W .u8 a c l) := fun W a c l hi ho => ints_only2 (hi.below HB4.out) ho (fun hl q hq hx => by
        obtain ⟨b', o', ha, hb', _⟩ := hi.at (i := 0) (List.length_pos_iff.2 hl)
        rw [ha] at hq; cases hq
        have : b' = (w.heap.size + 1 + 1) := hx
        omega)
      rw [HW4.out] at fz0 fz1 fz2
      clear hT1 hT2 z1 z2 z3 eW5 ho5 hbT htn hm0 hm20 hfl
      go_wp2_with fail
      rw [← HW5.out]
      clear fz0 fz1 fz2 q3 q4 q6 d3 d4 d6 rz hf4
      have HS3 : Hid (0 < (u8L f).length → ∃ ad, a3 = some ad ∧ ∀ j v, (u8L f)[j]? = some v → W5.drew.cell? (ad.add j) = some v) := fun hpos => ints_src (HKI.out W5.drew a3 cc3 f HI3b.out HO5d.out) (by simpa using hpos)
      refine wp_region_tree T1 [] (.pure 0 (.pure 1 (.pure 2 (.pure 3 (.pure 4 (.take 5 (.alt 6 .fin .stop))))))) (by kernel_rfl) (by kernel_rfl) ?_
      refine tree_pure ?_ rfl (by rfl) (fun w' hs => ?_) (fun _ _ _ h => h) ?_
      rotate_left
      · clear hs
        go_simp
        try rfl
      simp only [Act.put, List.setIfInBounds_toArray, List.set_cons_zero, List.set_cons_succ]
      refine tree_pure ?_ rfl (by rfl) (fun w' hs => ?_) (fun _ _ _ h => h) ?_
      rotate_left
      · clear hs
        go_simp
        try rfl
      simp only [Act.put, List.setIfInBounds_toArray, List.set_cons_zero, List.set_cons_succ]
      refine tree_pure ?_ rfl (by rfl) (fun w' hs => ?_) (fun _ _ _ h => h) ?_
      rotate_left
      · clear hs
        go_simp
        try rfl
      simp only [Act.put, List.setIfInBounds_toArray, List.set_cons_zero, List.set_cons_succ]
      refine tree_pure ?_ rfl (by rfl) (fun w' hs => ?_) (fun _ _ _ h => h) ?_
      rotate_left
      · clear hs
        go_simp
        try rfl
      simp only [Act.put, List.setIfInBounds_toArray, List.set_cons_zero, List.set_cons_succ]
      refine tree_pure ?_ rfl (by rfl) (fun w' hs => ?_) (fun _ _ _ h => h) ?_
      rotate_left
      · clear hs
        go_simp
        try rfl
      simp only [Act.put, List.setIfInBounds_toArray, List.set_cons_zero, List.set_cons_succ]
      refine tree_take ?_ t0 rfl (by rfl) (fun w' hs => ?_) (fun _ _ _ h => h) ?_
      rotate_left
      · rw [HT1.out] at hs
        have q1 := hs
        go_simp
        try rfl
      simp only [Act.put, List.setIfInBounds_toArray, List.set_cons_zero, List.set_cons_succ]
      refine tree_run rfl (fun K hK => ?_)
      refine step_copy_only rfl _ _ 26 26 rfl 5 Tryz.underlying26 (by kernel_rfl) (some ⟨(w.heap.size + 1 + 1), 3, none⟩) _ 20 20 f.length cc3 rfl rfl (w.heap.size + 1 + 1) 3 _ 44 HZ5.out (u8L f) (by rw [show (u8L f).length = f.length by simp [u8L], HFL.out]; rfl) (fun hpos => ⟨rfl, HS3.out hpos⟩) (by rw [txL_len, show (u8L f).length = f.length by simp [u8L], HFL.out]; decide) (fun v hv => by obtain ⟨x, _, rfl⟩ := List.mem_map.1 hv; rfl) ?_
      intro w6 hg6 ho6
      have HO6 : Hid (Only (· = (w.heap.size + 1 + 1)) W4 w6) := HO5d.out.trans ho6 (fun _ h _ => h)
      have t6 : T1 w6 := (HTA.out _ HO6.out).1
      refine hK.out _ _ t6 ?_
      clear hK K
      refine tree_fin ?_
      have HZ6 : Hid (Whole w6.drew (w.heap.size + 1 + 1) 44 (cat [[(.int .i64 (n : Int))], [(.int .i64 (p : Int))], [(.int .i64 (g : Int))], beC 20 (beN f), beC 20 0, [.bool false], beC 32 0, [.slice none 0 0]])) := by
        have h := hg6.out
        rw [HSF.out, splice_cat (l := [[(.int .i64 (n : Int))], [(.int .i64 (p : Int))], [(.int .i64 (g : Int))], beC 20 0, beC 20 0, [.bool false], beC 32 0, [.slice none 0 0]]) (i := 3) (s := beC 20 0) (v := beC 20 (beN f)) (p := 3) rfl (by simp) (by simp [offOf_succ, offOf_zero])] at h
        exact h
      have HO6d : Hid (Only (· = (w.heap.size + 1 + 1)) W4 w6.drew) := ⟨HO6.out.os, HO6.out.tape, HO6.out.output, HO6.out.size, HO6.out.block⟩
      have t1 : T2 w6.drew := (HTA.out _ HO6d.out).2
      have HS4 : Hid (0 < (u8L to).length → ∃ ad, a4 = some ad ∧ ∀ j v, (u8L to)[j]? = some v → w6.drew.cell? (ad.add j) = some v) := fun hpos => ints_src (HKI.out w6.drew a4 cc4 to HI4b.out HO6d.out) (by simpa using hpos)
      clear t0 t6 hg6 ho6 hsl3
      go_wp2_with fail
      refine wp_region_tree T2 [] (.pure 0 (.pure 1 (.pure 2 (.pure 3 (.pure 4 (.take 5 (.alt 6 .fin .stop))))))) (by kernel_rfl) (by kernel_rfl) ?_
      refine tree_pure ?_ rfl (by rfl) (fun w' hs => ?_) (fun _ _ _ h => h) ?_
      rotate_left
      · clear hs
        go_simp
        try rfl
      simp only [Act.put, List.setIfInBounds_toArray, List.set_cons_zero, List.set_cons_succ]
      refine tree_pure ?_ rfl (by rfl) (fun w' hs => ?_) (fun _ _ _ h => h) ?_
      rotate_left
      · clear hs
        go_simp
        try rfl
      simp only [Act.put, List.setIfInBounds_toArray, List.set_cons_zero, List.set_cons_succ]
      refine tree_pure ?_ rfl (by rfl) (fun w' hs => ?_) (fun _ _ _ h => h) ?_
      rotate_left
      · clear hs
        go_simp
        try rfl
      simp only [Act.put, List.setIfInBounds_toArray, List.set_cons_zero, List.set_cons_succ]
      refine tree_pure ?_ rfl (by rfl) (fun w' hs => ?_) (fun _ _ _ h => h) ?_
      rotate_left
      · clear hs
        go_simp
        try rfl
      simp only [Act.put, List.setIfInBounds_toArray, List.set_cons_zero, List.set_cons_succ]
      refine tree_pure ?_ rfl (by rfl) (fun w' hs => ?_) (fun _ _ _ h => h) ?_
      rotate_left
      · clear hs
        go_simp
        try rfl
      simp only [Act.put, List.setIfInBounds_toArray, List.set_cons_zero, List.set_cons_succ]
      refine tree_take ?_ t1 rfl (by rfl) (fun w' hs => ?_) (fun _ _ _ h => h) ?_
      rotate_left
      · rw [HT2.out] at hs
        have q1 := hs
        go_simp
        try rfl
      simp only [Act.put, List.setIfInBounds_toArray, List.set_cons_zero, List.set_cons_succ]
      refine tree_run rfl (fun K hK => ?_)
      refine step_copy_only rfl _ _ 26 26 rfl 5 Tryz.underlying26 (by kernel_rfl) (some ⟨(w.heap.size + 1 + 1), 23, none⟩) _ 20 20 m cc4 rfl rfl (w.heap.size + 1 + 1) 23 _ 44 HZ6.out (u8L to) (by rw [show (u8L to).length = to.length by simp [u8L], ← HM.out, HMM.out]; rfl) (fun hpos => ⟨rfl, HS4.out hpos⟩) (by rw [txL_len, show (u8L to).length = to.length by simp [u8L], ← HM.out, HMM.out]; decide) (fun v hv => by obtain ⟨x, _, rfl⟩ := List.mem_map.1 hv; rfl) ?_
      intro w7 hg7 ho7
      have HO7 : Hid (Only (· = (w.heap.size + 1 + 1)) W4 w7) := HO6d.out.trans ho7 (fun _ h _ => h)
      have t7 : T2 w7 := (HTA.out _ HO7.out).2
      refine hK.out _ _ t7 ?_
      clear hK K
      refine tree_fin ?_
      have hz7 : Whole w7 (w.heap.size + 1 + 1) 44 (cat [[(.int .i64 (n : Int))], [(.int .i64 (p : Int))], [(.int .i64 (g : Int))], beC 20 (beN f), beC 20 tn, [.bool false], beC 32 0, [.slice none 0 0]]) := by
        have h := hg7.out
        rw [HSEG.out, splice_cat (l := [[(.int .i64 (n : Int))], [(.int .i64 (p : Int))], [(.int .i64 (g : Int))], beC 20 (beN f), beC 20 0, [.bool false], beC 32 0, [.slice none 0 0]]) (i := 4) (s := beC 20 0) (v := beC 20 tn) (p := 23) rfl (by simp) (by simp [offOf_succ, offOf_zero])] at h
        exact h
      have hA7 := hz7.arr (txL_len _ _ _ _ _ _ _ _)
      have q4w : w7.cell? ⟨b, off + 13, none⟩ = some (.slice a4 m cc4) := by rw [HT2.out] at t7; exact t7
      have f43 : w7.free? (w.heap.size + 1 + 1) 43 1 = true := hA7.free1 (by omega)
      have hA7a := hA7.seg (i := 5) rfl (.bool false) (p := 43) (by simp [offOf_succ, offOf_zero])
      obtain ⟨w7a, e7a⟩ : ∃ w7a, w7a = w7.setCell ⟨(w.heap.size + 1 + 1), 43, none⟩ (.bool false) := ⟨_, rfl⟩
      rw [← e7a] at hA7a
      have HO7a : Hid (Only (· = (w.heap.size + 1 + 1)) W4 w7a) := by show Only _ _ _; rw [e7a]; exact HO7.out.trans (only_cell _ (w.heap.size + 1 + 1) 43 _) (fun _ h _ => h)
      have rV : w7a.row? w4.heap.size 0 32 = some (beC 32 vv) := (HO7a.out.row? HA4.out.lt (by have := HT4.out; omega)).trans HA4.out.row
      have f44 : w7a.free? (w.heap.size + 1 + 1) 44 32 = true := World.free?_sub hA7a.free (by omega)
      have hA8 := hA7a.segs (i := 6) rfl (v := beC 32 vv) (by simp) (p := 44) (by simp [offOf_succ, offOf_zero])
      obtain ⟨w8, e8⟩ : ∃ w8, w8 = w7a.setCells (w.heap.size + 1 + 1) 44 (beC 32 vv) := ⟨_, rfl⟩
      rw [← e8] at hA8
      have HO8 : Hid (Only (· = (w.heap.size + 1 + 1)) W4 w8) := by show Only _ _ _; rw [e8]; exact HO7a.out.trans ((Only.refl (· = (w.heap.size + 1 + 1)) _).setCells (fun _ => rfl) _ _) (fun _ h _ => h)
      have q6w : w8.cell? ⟨b, off + 19, none⟩ = some (.slice a6 dl cc6) := (HO8.out.cell? HBT.out.1 HBT.out.2).trans HQ6.out
      have hi8 := HKI.out w8 a6 cc6 d HI6b.out HO8.out
      have how : w8.ownsRow w8.heap.size 5 1 (.slice none 0 0) 0 [] := World.ownsRow_nil _ _ _ _
      have HA8 := Lib.hid hA8
      have HZT : Hid ((w.heap.size + 1 + 1) < w8.heap.size) := hA8.lt
      have hf8 : w8.free? (w.heap.size + 1) 0 77 = true := by rw [HO8.out.free? (free?_lt HF4.out) (by omega)]; exact HF4.out
      have HF8 := Lib.hid hf8
      have HB8 : Hid (Below w.heap.size w w8) := HB4.out.trans (HO8.out.below HB4.out.size (fun i hi => by have : i = (w.heap.size + 1 + 1) := hi; omega))
      have HE8 : Hid (w8 = (w7.setCell ⟨(w.heap.size + 1 + 1), 43, none⟩ (.bool false)).setCells (w.heap.size + 1 + 1) 44 (beC 32 vv)) := by show _ = _; rw [e8, e7a]
      rw [e7a] at rV f44
      rw [HE8.out] at q6w hi8 how
      have HI8 := Lib.hid hi8
      have HOW := Lib.hid how
      have HSZD : Hid (dl ≤ 70000000000000) := by show _ ≤ _; rw [HDL.out]; exact HSZ.out d rfl
      clear t1 t7 hg7 ho7 hz7 hA7 hA7a e7a hA8 e8 hi8 how hf8 hsl4
      go_wp2_with (at_builtin; go_must (refine wpList_append_intsN (base := ((w7.setCell ⟨(w.heap.size + 1 + 1), 43, none⟩ (.bool false)).setCells (w.heap.size + 1 + 1) 44 (beC 32 vv)).heap.size) (n := 0) (xs := []) elem26 rfl _ _ rfl HOW.out rfl rfl HDL.out HI8.out (by have := HSZD.out; unfold maxLen; omega) (by have := HSZD.out; omega) (Nat.le_refl _) ?_))
      intro v9 w9 ho9 hg9
      have H9 : OwnB ((w7.setCell ⟨(w.heap.size + 1 + 1), 43, none⟩ (.bool false)).setCells (w.heap.size + 1 + 1) 44 (beC 32 vv)) w9 v9 d := by
        refine ⟨?_, (Below.refl _ _).grown hg9 (by simp) (fun k hk => by simp [Value.ownBlock] at hk)⟩
        rw [← HDL.out]
        simpa using ho9
      rw [← HE8.out] at H9
      have hnb := H9.new
      obtain ⟨a9, c9, rfl, hi9, hfr⟩ := hnb.read
      have hA9 : Arr w9 (w.heap.size + 1 + 1) 77 (cat [[(.int .i64 (n : Int))], [(.int .i64 (p : Int))], [(.int .i64 (g : Int))], beC 20 (beN f), beC 20 tn, [.bool false], beC 32 vv, [.slice none 0 0]]) := HA8.out.only (S := fun _ => False) (Only.of_below_size hnb.below) (fun h => h)
      have f76 := hA9.free1 (i := 76) (by omega)
      have hA10 := hA9.seg (i := 7) rfl (.slice a9 d.length c9) (p := 76) (by simp [offOf_succ, offOf_zero])
      have r10 : (w9.setCell ⟨(w.heap.size + 1 + 1), 76, none⟩ (.slice a9 d.length c9)).row? (w.heap.size + 1 + 1) 0 77 = some (cat (txS ⟨n, p, g, beN f, tn, false, vv, d⟩ (.slice a9 d.length c9))) := hA10.row
      have hf9 : w9.free? (w.heap.size + 1) 0 77 = true := by rw [(brow hnb.below).2 _ _ _ (free?_lt HF8.out)]; exact HF8.out
      have hf10 : (w9.setCell ⟨(w.heap.size + 1 + 1), 76, none⟩ (.slice a9 d.length c9)).free? (w.heap.size + 1) 0 77 = true := by rw [(only_cell w9 (w.heap.size + 1 + 1) 76 (.slice a9 d.length c9)).free? (free?_lt hf9) (by omega)]; exact hf9
      have hokr := txS_ok ⟨n, p, g, beN f, tn, false, vv, d⟩ a9 d.length c9
      have HI9 := Lib.hid hi9
      have HFR := Lib.hid hfr
      have HB9 := Lib.hid (HB8.out.trans (hnb.below.mono HB8.out.size))
      clear hnb hi9 hfr H9 ho9 hg9 hA9 hA10 hf9 q4w rV f43 f44 q6w
      go_wp2
      have hO : Only (fun b => b = (w.heap.size + 1 + 1) ∨ b = w.heap.size + 1) w9 ((w9.setCell ⟨(w.heap.size + 1 + 1), 76, none⟩ (.slice a9 d.length c9)).setCells (w.heap.size + 1) 0 (cat (txS ⟨n, p, g, beN f, tn, false, vv, d⟩ (.slice a9 d.length c9)))) := ((only_cell w9 (w.heap.size + 1 + 1) 76 _).mono (fun i h => .inl h)).trans ((Only.refl (· = w.heap.size + 1) _).setCells (fun _ => rfl) _ _) (fun i h _ => .inr h)
      exact ret_row2 tyN44 rfl _ _ rfl rfl rfl (row?_setCells_whole _ hf10 hokr) (ofIs_some HTX.out ⟨⟨a9, c9, rfl, ints_only HI9.out hO (fun q _ hq hx => by have h1 := HFR.out q hq; have h2 := HZT.out; rcases hx with h | h <;> omega), fun q hq => by have h1 := HFR.out q hq; have h2 := HZT.out; omega⟩, HB9.out.trans (hO.below HB9.out.size (fun i hi => by rcases hi with h | h <;> omega))⟩ HBY6.out)
    have e20 : ((m : Int) != 20) = true := bne_iff_ne.2 (by omega)
    have e0 : ((m : Int) != 0) = true := bne_iff_ne.2 (by omega)
    have HNN : Hid (ofSeven k0 k1 k2 (some f) (some to) k5 (some d) = none) := by
      show _ = _
      rw [HYES.out, if_neg (fun h => hm0 (by rw [HM.out, h]; rfl)), addrK_no (by rw [← HM.out]; exact hm20)]
      rfl
    clear hm0 hm20 hfl
    go_wp2
    exact ret_row2 tyN44 rfl _ _ rfl rfl rfl (row?_setCells_whole _ hf4 hokz) (ofIs_none (HNN.out) (HBS.out.setCells (by omega) _ _))
  · have d20 : ((f.length : Int) != 20) = true := bne_iff_ne.2 (by omega)
    have HNN : Hid (ofSeven k0 k1 k2 (some f) k4 k5 k6 = none) := HNO.out (.inr (.inr (.inr (.inr (.inl (by rw [addrK_no hfl]; rfl))))))
    clear hfl
    go_wp2
    exact ret_row2 tyN44 rfl _ _ rfl rfl rfl (row?_setCells_whole _ hf4 hokz) (ofIs_none (HNN.out) (HBS.out.setCells (by omega) _ _))
end Go.Proofs.YtikiciojfhfagaaGreat
