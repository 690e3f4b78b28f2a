/-
  The law: a plain transaction moves its value, takes its fee, and counts.
-/
import Derived.Test.YtikiciojfhfagaaGreatQTx5
set_option linter.unusedVariables false
set_option linter.unusedSimpArgs false
namespace Go.Proofs.YtikiciojfhfagaaGreat
open Go.RowKit Go.Mun

theorem eqW_same (x : Nat) (hx : x < wW) (w : World) : (binOp .eql 25 (.agg (beC 32 x).toArray) (.agg (beC 32 x).toArray)).run Tryz.prog w = .ok (.bool true) w := by
  have := eql_of (fun d => eqD25 (a := x) (b := x) hx hx w d)
  simpa using this
/-- The law's addresses in boxes of their own. -/
structure LawB (n1 n2 n3 : Nat) (w' : World) : Prop where
  r1 : w'.row? n1 0 20 = some (beC 20 1)
  r2 : w'.row? n2 0 20 = some (beC 20 2)
  r3 : w'.row? n3 0 20 = some (beC 20 9)
structure LawR (w : World) (sb n1 n2 n3 : Nat) (S : St) (k : Nat) (own : Own) (w' : World) : Prop where
  box : LawB n1 n2 n3 w'
  st : StateAt TU w' own sb S [] k
  below : Below w.heap.size w w'
  ge : ∀ b, own b ≠ none → w.heap.size ≤ b
  o1 : own n1 = none
  o2 : own n2 = none
  o3 : own n3 = none
section
variable {w : World} {sb n1 n2 n3 : Nat} {S : St} {k : Nat} {own : Own} {w1 : World}
theorem LawR.next {w2 : World} (h : LawR w sb n1 n2 n3 S k own w1) (hb : Below w1.heap.size w1 w2) : LawR w sb n1 n2 n3 S k own w2 :=
  ⟨⟨((brow hb).1 _ _ _ (World.row?_lt h.box.r1)).trans h.box.r1, ((brow hb).1 _ _ _ (World.row?_lt h.box.r2)).trans h.box.r2, ((brow hb).1 _ _ _ (World.row?_lt h.box.r3)).trans h.box.r3⟩, h.st.below hb, h.below.trans (hb.mono h.below.size), h.ge, h.o1, h.o2, h.o3⟩
theorem LawR.go {w2 : World} {S2 : St} {k2 : Nat} {own2 : Own} (h : LawR w sb n1 n2 n3 S k own w1) (hs : StateAt TU w2 own2 sb S2 [] k2) (g : Chg w1 w2 own own2) : LawR w sb n1 n2 n3 S2 k2 own2 w2 := by
  have l1 := World.row?_lt h.box.r1
  have l2 := World.row?_lt h.box.r2
  have l3 := World.row?_lt h.box.r3
  exact ⟨⟨by rw [g.only.row? l1 (fun hh => hh h.o1)]; exact h.box.r1, by rw [g.only.row? l2 (fun hh => hh h.o2)]; exact h.box.r2, by rw [g.only.row? l3 (fun hh => hh h.o3)]; exact h.box.r3⟩, hs, Chg.belowGe g h.below h.ge, fun b hb => by
    by_cases hlt : b < w1.heap.size
    · rw [g.ext b hlt] at hb; exact h.ge b hb
    · have := h.below.size; omega, by rw [g.ext _ l1]; exact h.o1, by rw [g.ext _ l2]; exact h.o2, by rw [g.ext _ l3]; exact h.o3⟩
theorem LawR.put {w2 : World} {b : Nat} (h : LawR w sb n1 n2 n3 S k own w1) (hb : n1 < b ∧ n2 < b ∧ n3 < b ∧ w.heap.size ≤ b) (ho : own b = none) (hO : Only (· = b) w1 w2) : LawR w sb n1 n2 n3 S k own w2 :=
  ⟨⟨by rw [hO.row? (World.row?_lt h.box.r1) (by omega)]; exact h.box.r1, by rw [hO.row? (World.row?_lt h.box.r2) (by omega)]; exact h.box.r2, by rw [hO.row? (World.row?_lt h.box.r3) (by omega)]; exact h.box.r3⟩, h.st.only hO (fun c hc => by rw [hc]; exact ho), hO.below h.below.size (fun i hi => by rw [hi]; exact hb.2.2.2) |> fun x => h.below.trans x, h.ge, h.o1, h.o2, h.o3⟩
end
set_option maxRecDepth 100000 in
set_option maxHeartbeats 8000000 in
theorem txPays_law (a0 : Int) (h0 : (Lit.int .i64 a0).wf = true) (a1 : Int) (h1 : (Lit.int .i64 a1).wf = true) (a2 : Int) (h2 : (Lit.int .i64 a2).wf = true) (w : World) :
    Calls Tryz.prog 4 #[.int .i64 a0, .int .i64 a1, .int .i64 a2] w fun e w' => e = .returned (.bool true) ∧ Below w.heap.size w w' := by
  have hA := Lib.hid (tx_alive w)
  have G2 := Lib.hid (fun w => ref_gen 2 (by decide) w)
  have N1 := Lib.hid (fun w => ref_name 1 (by decide) w)
  have N2 := Lib.hid (fun w => ref_name 2 (by decide) w)
  have N9 := Lib.hid (fun w => ref_name 9 (by decide) w)
  clear h0 h1 h2
  go_enter Tryz.func4, Tryz.ntmps4
  go_wp2_with fail
  refine hA.out.mono ?_
  rintro e w1 ⟨rfl, hb1⟩
  have HB1 := Lib.hid hb1
  clear hb1 hA
  by_cases k0 : a0 < 0
  · go_wp2
    go_ret
    exact ⟨rfl, HB1.out⟩
  have dk0 : decide (a0 < 0) = false := decide_eq_false k0
  have HK0 := Lib.hid k0
  clear k0
  by_cases k1 : 1099511627776 < a0
  · go_wp2
    go_ret
    exact ⟨rfl, HB1.out⟩
  have dk1 : decide (1099511627776 < a0) = false := decide_eq_false k1
  have HK1 := Lib.hid k1
  clear k1
  by_cases k2 : a1 < 0
  · go_wp2
    go_ret
    exact ⟨rfl, HB1.out⟩
  have dk2 : decide (a1 < 0) = false := decide_eq_false k2
  have HK2 := Lib.hid k2
  clear k2
  by_cases k3 : 1000 < a1
  · go_wp2
    go_ret
    exact ⟨rfl, HB1.out⟩
  have dk3 : decide (1000 < a1) = false := decide_eq_false k3
  have HK3 := Lib.hid k3
  clear k3
  by_cases k4 : a2 < 0
  · go_wp2
    go_ret
    exact ⟨rfl, HB1.out⟩
  have dk4 : decide (a2 < 0) = false := decide_eq_false k4
  have HK4 := Lib.hid k4
  clear k4
  by_cases k5 : 1048576 < a2
  · go_wp2
    go_ret
    exact ⟨rfl, HB1.out⟩
  have dk5 : decide (1048576 < a2) = false := decide_eq_false k5
  have HK5 := Lib.hid k5
  clear k5
  have hbd : (0 ≤ a0 ∧ a0 ≤ 1099511627776) ∧ (0 ≤ a1 ∧ a1 ≤ 1000) ∧ (0 ≤ a2 ∧ a2 ≤ 1048576) := by
    have := HK0.out; have := HK1.out; have := HK2.out; have := HK3.out; have := HK4.out; have := HK5.out
    omega
  have HBD := Lib.hid hbd
  clear HK0 HK1 HK2 HK3 HK4 HK5
  obtain ⟨v, hv⟩ : ∃ v : Nat, a0 = v := ⟨a0.toNat, by omega⟩
  have hvl : v ≤ 1099511627776 := by omega
  subst hv
  have HVL := Lib.hid hvl
  have o0 := ofW_nat v (i64_wW (by omega))
  have OV := Lib.hid (fun w => ref_of (v : Int) (by omega) (by omega) w)
  rw [o0] at OV
  have HT3 : Hid (TxOk (txP a1 a2 v)) := txP_ok hbd.2.1 hbd.2.2 hvl
  have HMAY : Hid (mayTx (newS (genL 2)) (txP a1 a2 v) = if a2 < 21000 then 11 else 0) := may_txP hbd.2.1 hbd.2.2 hvl
  have hb44 := buildTxB a1 a2 v
  have hb46 := buildCx 9
  clear hbd hvl o0
  go_wp2_with fail
  refine (G2.out _).mono ?_
  rintro e w2 ⟨gv, rfl, hg⟩
  obtain ⟨b, c, rfl, hbge, hac⟩ := hg.accts (by decide) (by decide)
  have HB2 := Lib.hid (HB1.out.trans (hg.below.mono HB1.out.size))
  have HNW := Lib.hid (state_new b 0 c (genL 2) (by decide) w2 hac)
  clear hg hac hbge
  go_wp2_with fail
  refine HNW.out.mono ?_
  rintro e w3 ⟨sb, rfl, hb3, own, hst, hlo⟩
  have HST := Lib.hid hst
  have HLO := Lib.hid (fun b hb => Nat.le_trans HB2.out.size (hlo b hb))
  have HLT := Lib.hid hst.lows
  have HB3 := Lib.hid (HB2.out.trans (hb3.mono HB2.out.size))
  clear hst hlo hb3
  go_wp2_with fail
  refine (N1.out _).mono ?_
  rintro e w4 ⟨rfl, hb⟩
  have HX4 := Lib.hid hb
  clear hb
  obtain ⟨n1, en⟩ : ∃ n1, n1 = w4.heap.size := ⟨_, rfl⟩
  obtain ⟨w5, ew⟩ : ∃ w5, w5 = (w4.alloc (.cells (zU8 20).toArray 23)).setCells w4.heap.size 0 (beC 20 1) := ⟨_, rfl⟩
  have f4 : (w4.alloc (.cells (zU8 20).toArray 23)).free? w4.heap.size 0 20 = true := (Arr.new w4 20 (zU8 20) 23 (by simp)).free
  have hok4 := beC_ok 20 1
  have HR5 : Hid (w5.row? n1 0 20 = some (beC 20 1)) := by show _ = _; rw [ew, en]; exact ((Arr.new w4 20 (zU8 20) 23 (by simp)).setCells _ (beC_ok _ _)).row
  have HY5 : Hid (Below w3.heap.size w3 w5) := HX4.out.trans (by rw [ew]; exact (((Below.refl _ _).alloc HX4.out.size _).setCells HX4.out.size _ _))
  have HNB1 := Lib.hid en
  have HE5 := Lib.hid ew
  have HNL1 : Hid (w3.heap.size ≤ n1) := by show _ ≤ _; rw [en]; exact HX4.out.size
  clear en ew
  go_wp2_with fail
  rw [← HE5.out, ← HNB1.out]
  refine (N2.out _).mono ?_
  rintro e w6 ⟨rfl, hb⟩
  have HX6 := Lib.hid hb
  clear hb
  obtain ⟨n2, en⟩ : ∃ n2, n2 = w6.heap.size := ⟨_, rfl⟩
  obtain ⟨w7, ew⟩ : ∃ w7, w7 = (w6.alloc (.cells (zU8 20).toArray 23)).setCells w6.heap.size 0 (beC 20 2) := ⟨_, rfl⟩
  have f6 : (w6.alloc (.cells (zU8 20).toArray 23)).free? w6.heap.size 0 20 = true := (Arr.new w6 20 (zU8 20) 23 (by simp)).free
  have hok6 := beC_ok 20 2
  have HR7 : Hid (w7.row? n2 0 20 = some (beC 20 2)) := by show _ = _; rw [ew, en]; exact ((Arr.new w6 20 (zU8 20) 23 (by simp)).setCells _ (beC_ok _ _)).row
  have HY7 : Hid (Below w5.heap.size w5 w7) := HX6.out.trans (by rw [ew]; exact (((Below.refl _ _).alloc HX6.out.size _).setCells HX6.out.size _ _))
  have HNB2 := Lib.hid en
  have HE7 := Lib.hid ew
  have HNL2 : Hid (w5.heap.size ≤ n2) := by show _ ≤ _; rw [en]; exact HX6.out.size
  clear en ew
  go_wp2_with fail
  rw [← HE7.out, ← HNB2.out]
  refine (N9.out _).mono ?_
  rintro e w8 ⟨rfl, hb⟩
  have HX8 := Lib.hid hb
  clear hb
  obtain ⟨n3, en⟩ : ∃ n3, n3 = w8.heap.size := ⟨_, rfl⟩
  obtain ⟨w9, ew⟩ : ∃ w9, w9 = (w8.alloc (.cells (zU8 20).toArray 23)).setCells w8.heap.size 0 (beC 20 9) := ⟨_, rfl⟩
  have f8 : (w8.alloc (.cells (zU8 20).toArray 23)).free? w8.heap.size 0 20 = true := (Arr.new w8 20 (zU8 20) 23 (by simp)).free
  have hok8 := beC_ok 20 9
  have HR9 : Hid (w9.row? n3 0 20 = some (beC 20 9)) := by show _ = _; rw [ew, en]; exact ((Arr.new w8 20 (zU8 20) 23 (by simp)).setCells _ (beC_ok _ _)).row
  have HY9 : Hid (Below w7.heap.size w7 w9) := HX8.out.trans (by rw [ew]; exact (((Below.refl _ _).alloc HX8.out.size _).setCells HX8.out.size _ _))
  have HNB3 := Lib.hid en
  have HE9 := Lib.hid ew
  have HNL3 : Hid (w7.heap.size ≤ n3) := by show _ ≤ _; rw [en]; exact HX8.out.size
  clear en ew
  go_wp2_with fail
  rw [← HE9.out, ← HNB3.out]
  have hR : LawR w sb n1 n2 n3 (newS (genL 2)) 0 own w9 := by
    have y5 := HY5.out
    have y7 := HY7.out
    have y9 := HY9.out
    have s5 := y5.size
    have s7 := y7.size
    have s9 := y9.size
    have hb39 : Below w3.heap.size w3 w9 := (y5.trans (y7.mono s5)).trans (y9.mono (by omega))
    exact ⟨⟨((brow y9).1 _ _ _ (by have := World.row?_lt HR5.out; omega)).trans (((brow y7).1 _ _ _ (World.row?_lt HR5.out)).trans HR5.out), ((brow y9).1 _ _ _ (World.row?_lt HR7.out)).trans HR7.out, HR9.out⟩, HST.out.below hb39, HB3.out.trans (hb39.mono HB3.out.size), HLO.out,
      free_own HLT.out HNL1.out, free_own HLT.out (by have := HNL2.out; omega), free_own HLT.out (by have := HNL3.out; omega)⟩
  have HRd := Lib.hid (hR.next (Below.refl _ _).drew)
  obtain ⟨T, hT⟩ : ∃ T : World → Prop, T = LawB n1 n2 n3 := ⟨_, rfl⟩
  have HT := Lib.hid hT
  have t0 : T w9.drew := by rw [hT]; exact HRd.out.box
  clear hR hT f4 f6 f8 hok4 hok6 hok8
  clear HX4 HX6 HX8 HR5 HR7 HR9 HY5 HY7 HY9 HE5 HE7 HE9 HNB1 HNB2 HNB3 HNL1 HNL2 HNL3 HST HLO HLT HB1 HB2 HB3
  by_cases hlt : a2 < 21000
  · have HM0 : Hid (mayTx (newS (genL 2)) (txP a1 a2 v) = 11) := by show _ = _; rw [HMAY.out, if_pos hlt]
    have dlt : decide (a2 < 21000) = true := decide_eq_true hlt
    refine wp_region_tree T [] (.pure 0 (.take 1 (.take 2 (.pure 3 (.pure 4 (.pure 5 (.take 8 (.pure 9 (.alt 6 (.pure 7 (.alt 10 (.pure 11 (.pure 12 (.pure 13 (.alt 14 (.alt 15 (.pure 16 .fin) .stop) .stop)))) (.alt 14 (.alt 10 (.pure 11 (.pure 12 (.pure 13 (.alt 15 (.pure 16 .fin) .stop)))) .stop) .stop))) (.alt 14 (.alt 6 (.pure 7 (.alt 10 (.pure 11 (.pure 12 (.pure 13 (.alt 15 (.pure 16 .fin) .stop)))) .stop)) .stop) .stop)))))))))) (by kernel_rfl) (by kernel_rfl) ?_
    generalize w9.drew = v9 at *
    refine tree_pure ?_ rfl (by rfl) (fun w' hs => ?_) (fun _ _ _ h => h) ?_
    rotate_left
    · clear hs
      go_simp
      try rfl
    simp only [Act.put, List.setIfInBounds_toArray, List.set_cons_zero, List.set_cons_succ]
    refine tree_take ?_ t0 rfl (by rfl) (fun w' hs => ?_) (fun _ _ _ h => h) ?_
    rotate_left
    · rw [HT.out] at hs
      have q1 := hs.r1; have q2 := hs.r2; have q3 := hs.r3
      go_simp
      try rfl
    simp only [Act.put, List.setIfInBounds_toArray, List.set_cons_zero, List.set_cons_succ]
    refine tree_take ?_ t0 rfl (by rfl) (fun w' hs => ?_) (fun _ _ _ h => h) ?_
    rotate_left
    · rw [HT.out] at hs
      have q1 := hs.r1; have q2 := hs.r2; have q3 := hs.r3
      go_simp
      try rfl
    simp only [Act.put, List.setIfInBounds_toArray, List.set_cons_zero, List.set_cons_succ]
    refine tree_pure ?_ rfl (by rfl) (fun w' hs => ?_) (fun _ _ _ h => h) ?_
    rotate_left
    · clear hs
      go_simp
      try rfl
    simp only [Act.put, List.setIfInBounds_toArray, List.set_cons_zero, List.set_cons_succ]
    refine tree_pure ?_ rfl (by rfl) (fun w' hs => ?_) (fun _ _ _ h => h) ?_
    rotate_left
    · clear hs
      go_simp
      try rfl
    simp only [Act.put, List.setIfInBounds_toArray, List.set_cons_zero, List.set_cons_succ]
    refine tree_pure ?_ rfl (by rfl) (fun w' hs => ?_) (fun _ _ _ h => h) ?_
    rotate_left
    · clear hs
      go_simp
      try rfl
    simp only [Act.put, List.setIfInBounds_toArray, List.set_cons_zero, List.set_cons_succ]
    refine tree_take ?_ t0 rfl (by rfl) (fun w' hs => ?_) (fun _ _ _ h => h) ?_
    rotate_left
    · rw [HT.out] at hs
      have q1 := hs.r1; have q2 := hs.r2; have q3 := hs.r3
      go_simp
      try rfl
    simp only [Act.put, List.setIfInBounds_toArray, List.set_cons_zero, List.set_cons_succ]
    refine tree_pure ?_ rfl (by rfl) (fun w' hs => ?_) (fun _ _ _ h => h) ?_
    rotate_left
    · clear hs
      go_simp
      try rfl
    simp only [Act.put, List.setIfInBounds_toArray, List.set_cons_zero, List.set_cons_succ]
    refine tree_alt rfl (fun K hK => ?_) ?_
    · go_simp
      refine (OV.out _).mono ?_
      rintro e wf ⟨rfl, hb⟩
      have HRf := Lib.hid (HRd.out.next hb)
      have tf : T wf := by rw [HT.out]; exact HRf.out.box
      clear hb
      refine hK.out _ _ tf ?_
      clear hK K
      refine tree_pure ?_ rfl (by rfl) (fun w' hs => ?_) (fun _ _ _ h => h) ?_
      rotate_left
      · clear hs
        go_simp
        try rfl
      simp only [Act.put, List.setIfInBounds_toArray, List.set_cons_zero, List.set_cons_succ]
      refine tree_alt rfl (fun K hK => ?_) ?_
      · go_simp
        refine (tx_apply_no (cx := ⟨0, 0, 0, 9, 0⟩) HRf.out.st HT3.out (roAt_nil _ (fun b => own b ≠ none)) (by rw [HM0.out]; decide)).mono ?_
        rintro e wp ⟨rfl, hb⟩
        rw [HM0.out]
        have HRp := Lib.hid (HRf.out.next hb)
        have tp : T wp := by rw [HT.out]; exact HRp.out.box
        clear hb
        refine hK.out _ _ tp ?_
        clear hK K
        refine tree_pure ?_ rfl (by rfl) (fun w' hs => ?_) (fun _ _ _ h => h) ?_
        rotate_left
        · clear hs
          go_simp
          try rfl
        simp only [Act.put, List.setIfInBounds_toArray, List.set_cons_zero, List.set_cons_succ]
        refine tree_pure ?_ rfl (by rfl) (fun w' hs => ?_) (fun _ _ _ h => h) ?_
        rotate_left
        · clear hs
          go_simp
          try rfl
        simp only [Act.put, List.setIfInBounds_toArray, List.set_cons_zero, List.set_cons_succ]
        refine tree_pure ?_ rfl (by rfl) (fun w' hs => ?_) (fun _ _ _ h => h) ?_
        rotate_left
        · clear hs
          go_simp
          try rfl
        simp only [Act.put, List.setIfInBounds_toArray, List.set_cons_zero, List.set_cons_succ]
        refine tree_run rfl (fun K hK => ?_)
        go_simp
        obtain ⟨rb, er⟩ : ∃ rb, rb = wp.heap.size := ⟨_, rfl⟩
        obtain ⟨wa, ea⟩ : ∃ wa, wa = wp.alloc (.cells (cat zsN39).toArray 39) := ⟨_, rfl⟩
        have hb : Below wp.heap.size wp wa := by rw [ea]; exact (Below.refl _ _).alloc (Nat.le_refl _) _
        have hz : Arr wa rb 24 (cat zsN39) := by rw [ea, er]; exact Arr.new wp 24 (cat zsN39) 39 zsN39_len
        have hrb : (n1 < rb ∧ n2 < rb ∧ n3 < rb ∧ w.heap.size ≤ rb) ∧ own rb = none := by
          rw [er]; exact ⟨⟨World.row?_lt HRp.out.box.r1, World.row?_lt HRp.out.box.r2, World.row?_lt HRp.out.box.r3, HRp.out.below.size⟩, free_own HRp.out.st.lows (Nat.le_refl _)⟩
        have HRa := Lib.hid (HRp.out.next hb)
        have HZ := Lib.hid hz
        have HRB := Lib.hid hrb
        have ta : T wa := by rw [HT.out]; exact HRa.out.box
        rw [← ea, ← er]
        clear hb hz hrb ea er
        refine hK.out _ _ ta ?_
        clear hK K
        refine tree_run rfl (fun K hK => ?_)
        have fz := HZ.out.free
        have hokr : okL 24 (cat zsN39) = true := by kernel_rfl
        have hlr := zsN39_len
        go_simp
        obtain ⟨we, ee⟩ : ∃ we, we = wa.setCells rb 0 (cat zsN39) := ⟨_, rfl⟩
        have HZe : Hid (Arr we rb 24 (cat zsN39)) := by show Arr _ _ _ _; rw [ee]; exact HZ.out.setCells _ hokr
        have HRe := Lib.hid (HRa.out.put HRB.out.1 HRB.out.2 (show Only (· = rb) wa we by rw [ee]; exact (Only.refl (· = rb) _).setCells (fun _ => rfl) _ _))
        have te : T we := by rw [HT.out]; exact HRe.out.box
        rw [← ee]
        clear ee fz hokr hlr
        refine hK.out _ _ te ?_
        clear hK K
        refine tree_pure ?_ rfl (by rfl) (fun w' hs => ?_) (fun _ _ _ h => h) ?_
        rotate_left
        · clear hs
          go_simp
          try rfl
        simp only [Act.put, List.setIfInBounds_toArray, List.set_cons_zero, List.set_cons_succ]
        refine tree_fin ?_
        clear t0
        have c1 : we.cell? ⟨rb, 1, none⟩ = some (.int .i64 0) := cell_cat HZe.out.row (i := 1) rfl (by simp [zsN39, offOf_succ, offOf_zero])
        have r1 := HRe.out.box.r1
        go_wp2_with fail
        refine (num16 11 _).mono ?_
        rintro e wg ⟨rfl, rfl⟩
        go_wp2_with fail
        have hn := st_nonce HRe.out.st 1 (by decide)
        rw [newS2_1] at hn
        refine hn.mono ?_
        rintro e wg ⟨rfl, hb⟩
        have R1 := Lib.hid (HRe.out.next hb)
        clear hb hn c1
        go_wp2
        go_ret
        exact ⟨rfl, R1.out.below⟩
      refine tree_run rfl (fun K hK => ?_)
      go_simp
      obtain ⟨rb, er⟩ : ∃ rb, rb = wf.heap.size := ⟨_, rfl⟩
      obtain ⟨wa, ea⟩ : ∃ wa, wa = wf.alloc (.cells (cat zsN39).toArray 39) := ⟨_, rfl⟩
      have hb : Below wf.heap.size wf wa := by rw [ea]; exact (Below.refl _ _).alloc (Nat.le_refl _) _
      have hz : Arr wa rb 24 (cat zsN39) := by rw [ea, er]; exact Arr.new wf 24 (cat zsN39) 39 zsN39_len
      have hrb : (n1 < rb ∧ n2 < rb ∧ n3 < rb ∧ w.heap.size ≤ rb) ∧ own rb = none := by
        rw [er]; exact ⟨⟨World.row?_lt HRf.out.box.r1, World.row?_lt HRf.out.box.r2, World.row?_lt HRf.out.box.r3, HRf.out.below.size⟩, free_own HRf.out.st.lows (Nat.le_refl _)⟩
      have HRa := Lib.hid (HRf.out.next hb)
      have HZ := Lib.hid hz
      have HRB := Lib.hid hrb
      have ta : T wa := by rw [HT.out]; exact HRa.out.box
      rw [← ea, ← er]
      clear hb hz hrb ea er
      refine hK.out _ _ ta ?_
      clear hK K
      refine tree_run rfl (fun K hK => ?_)
      go_simp
      refine (tx_apply_no (cx := ⟨0, 0, 0, 9, 0⟩) HRa.out.st HT3.out (roAt_nil _ (fun b => own b ≠ none)) (by rw [HM0.out]; decide)).mono ?_
      rintro e wp ⟨rfl, hb⟩
      rw [HM0.out]
      have HRp := Lib.hid (HRa.out.next hb)
      have HZp := Lib.hid (HZ.out.only (S := fun _ => False) (Only.of_below_size hb) (fun h => h))
      have HRB2 := HRB
      have tp : T wp := by rw [HT.out]; exact HRp.out.box
      clear hb
      refine hK.out _ _ tp ?_
      clear hK K
      refine tree_pure ?_ rfl (by rfl) (fun w' hs => ?_) (fun _ _ _ h => h) ?_
      rotate_left
      · clear hs
        go_simp
        try rfl
      simp only [Act.put, List.setIfInBounds_toArray, List.set_cons_zero, List.set_cons_succ]
      refine tree_pure ?_ rfl (by rfl) (fun w' hs => ?_) (fun _ _ _ h => h) ?_
      rotate_left
      · clear hs
        go_simp
        try rfl
      simp only [Act.put, List.setIfInBounds_toArray, List.set_cons_zero, List.set_cons_succ]
      refine tree_pure ?_ rfl (by rfl) (fun w' hs => ?_) (fun _ _ _ h => h) ?_
      rotate_left
      · clear hs
        go_simp
        try rfl
      simp only [Act.put, List.setIfInBounds_toArray, List.set_cons_zero, List.set_cons_succ]
      refine tree_run rfl (fun K hK => ?_)
      have fz := HZp.out.free
      have hokr : okL 24 (cat zsN39) = true := by kernel_rfl
      have hlr := zsN39_len
      go_simp
      obtain ⟨we, ee⟩ : ∃ we, we = wp.setCells rb 0 (cat zsN39) := ⟨_, rfl⟩
      have HZe : Hid (Arr we rb 24 (cat zsN39)) := by show Arr _ _ _ _; rw [ee]; exact HZp.out.setCells _ hokr
      have HRe := Lib.hid (HRp.out.put HRB2.out.1 HRB2.out.2 (show Only (· = rb) wp we by rw [ee]; exact (Only.refl (· = rb) _).setCells (fun _ => rfl) _ _))
      have te : T we := by rw [HT.out]; exact HRe.out.box
      rw [← ee]
      clear ee fz hokr hlr
      refine hK.out _ _ te ?_
      clear hK K
      refine tree_pure ?_ rfl (by rfl) (fun w' hs => ?_) (fun _ _ _ h => h) ?_
      rotate_left
      · clear hs
        go_simp
        try rfl
      simp only [Act.put, List.setIfInBounds_toArray, List.set_cons_zero, List.set_cons_succ]
      refine tree_fin ?_
      clear t0
      have c1 : we.cell? ⟨rb, 1, none⟩ = some (.int .i64 0) := cell_cat HZe.out.row (i := 1) rfl (by simp [zsN39, offOf_succ, offOf_zero])
      have r1 := HRe.out.box.r1
      go_wp2_with fail
      refine (num16 11 _).mono ?_
      rintro e wg ⟨rfl, rfl⟩
      go_wp2_with fail
      have hn := st_nonce HRe.out.st 1 (by decide)
      rw [newS2_1] at hn
      refine hn.mono ?_
      rintro e wg ⟨rfl, hb⟩
      have R1 := Lib.hid (HRe.out.next hb)
      clear hb hn c1
      go_wp2
      go_ret
      exact ⟨rfl, R1.out.below⟩
    refine tree_run rfl (fun K hK => ?_)
    go_simp
    obtain ⟨rb, er⟩ : ∃ rb, rb = v9.heap.size := ⟨_, rfl⟩
    obtain ⟨wa, ea⟩ : ∃ wa, wa = v9.alloc (.cells (cat zsN39).toArray 39) := ⟨_, rfl⟩
    have hb : Below v9.heap.size v9 wa := by rw [ea]; exact (Below.refl _ _).alloc (Nat.le_refl _) _
    have hz : Arr wa rb 24 (cat zsN39) := by rw [ea, er]; exact Arr.new v9 24 (cat zsN39) 39 zsN39_len
    have hrb : (n1 < rb ∧ n2 < rb ∧ n3 < rb ∧ w.heap.size ≤ rb) ∧ own rb = none := by
      rw [er]; exact ⟨⟨World.row?_lt HRd.out.box.r1, World.row?_lt HRd.out.box.r2, World.row?_lt HRd.out.box.r3, HRd.out.below.size⟩, free_own HRd.out.st.lows (Nat.le_refl _)⟩
    have HRa := Lib.hid (HRd.out.next hb)
    have HZ := Lib.hid hz
    have HRB := Lib.hid hrb
    have ta : T wa := by rw [HT.out]; exact HRa.out.box
    rw [← ea, ← er]
    clear hb hz hrb ea er
    refine hK.out _ _ ta ?_
    clear hK K
    refine tree_run rfl (fun K hK => ?_)
    go_simp
    refine (OV.out _).mono ?_
    rintro e wf ⟨rfl, hb⟩
    have HRf := Lib.hid (HRa.out.next hb)
    have HZf := Lib.hid (HZ.out.only (S := fun _ => False) (Only.of_below_size hb) (fun h => h))
    have tf : T wf := by rw [HT.out]; exact HRf.out.box
    clear hb
    refine hK.out _ _ tf ?_
    clear hK K
    refine tree_pure ?_ rfl (by rfl) (fun w' hs => ?_) (fun _ _ _ h => h) ?_
    rotate_left
    · clear hs
      go_simp
      try rfl
    simp only [Act.put, List.setIfInBounds_toArray, List.set_cons_zero, List.set_cons_succ]
    refine tree_run rfl (fun K hK => ?_)
    go_simp
    refine (tx_apply_no (cx := ⟨0, 0, 0, 9, 0⟩) HRf.out.st HT3.out (roAt_nil _ (fun b => own b ≠ none)) (by rw [HM0.out]; decide)).mono ?_
    rintro e wp ⟨rfl, hb⟩
    rw [HM0.out]
    have HRp := Lib.hid (HRf.out.next hb)
    have HZp := Lib.hid (HZf.out.only (S := fun _ => False) (Only.of_below_size hb) (fun h => h))
    have HRB2 := HRB
    have tp : T wp := by rw [HT.out]; exact HRp.out.box
    clear hb
    refine hK.out _ _ tp ?_
    clear hK K
    refine tree_pure ?_ rfl (by rfl) (fun w' hs => ?_) (fun _ _ _ h => h) ?_
    rotate_left
    · clear hs
      go_simp
      try rfl
    simp only [Act.put, List.setIfInBounds_toArray, List.set_cons_zero, List.set_cons_succ]
    refine tree_pure ?_ rfl (by rfl) (fun w' hs => ?_) (fun _ _ _ h => h) ?_
    rotate_left
    · clear hs
      go_simp
      try rfl
    simp only [Act.put, List.setIfInBounds_toArray, List.set_cons_zero, List.set_cons_succ]
    refine tree_pure ?_ rfl (by rfl) (fun w' hs => ?_) (fun _ _ _ h => h) ?_
    rotate_left
    · clear hs
      go_simp
      try rfl
    simp only [Act.put, List.setIfInBounds_toArray, List.set_cons_zero, List.set_cons_succ]
    refine tree_run rfl (fun K hK => ?_)
    have fz := HZp.out.free
    have hokr : okL 24 (cat zsN39) = true := by kernel_rfl
    have hlr := zsN39_len
    go_simp
    obtain ⟨we, ee⟩ : ∃ we, we = wp.setCells rb 0 (cat zsN39) := ⟨_, rfl⟩
    have HZe : Hid (Arr we rb 24 (cat zsN39)) := by show Arr _ _ _ _; rw [ee]; exact HZp.out.setCells _ hokr
    have HRe := Lib.hid (HRp.out.put HRB2.out.1 HRB2.out.2 (show Only (· = rb) wp we by rw [ee]; exact (Only.refl (· = rb) _).setCells (fun _ => rfl) _ _))
    have te : T we := by rw [HT.out]; exact HRe.out.box
    rw [← ee]
    clear ee fz hokr hlr
    refine hK.out _ _ te ?_
    clear hK K
    refine tree_pure ?_ rfl (by rfl) (fun w' hs => ?_) (fun _ _ _ h => h) ?_
    rotate_left
    · clear hs
      go_simp
      try rfl
    simp only [Act.put, List.setIfInBounds_toArray, List.set_cons_zero, List.set_cons_succ]
    refine tree_fin ?_
    clear t0
    have c1 : we.cell? ⟨rb, 1, none⟩ = some (.int .i64 0) := cell_cat HZe.out.row (i := 1) rfl (by simp [zsN39, offOf_succ, offOf_zero])
    have r1 := HRe.out.box.r1
    go_wp2_with fail
    refine (num16 11 _).mono ?_
    rintro e wg ⟨rfl, rfl⟩
    go_wp2_with fail
    have hn := st_nonce HRe.out.st 1 (by decide)
    rw [newS2_1] at hn
    refine hn.mono ?_
    rintro e wg ⟨rfl, hb⟩
    have R1 := Lib.hid (HRe.out.next hb)
    clear hb hn c1
    go_wp2
    go_ret
    exact ⟨rfl, R1.out.below⟩
  · have hge : 21000 ≤ a2 := by omega
    have HM0 : Hid (mayTx (newS (genL 2)) (txP a1 a2 v) = 0) := by show _ = _; rw [HMAY.out, if_neg hlt]
    have dlt : decide (a2 < 21000) = false := decide_eq_false hlt
    have HMV : Hid ((payS (newS (genL 2)) (txP a1 a2 v)).move (txP a1 a2 v).frm (txP a1 a2 v).to (txP a1 a2 v).value = some (movS a1 a2 v)) := mov_ok HBD.out.2.1 HBD.out.2.2 HVL.out
    have hused : (txP a1 a2 v).gas - ((txP a1 a2 v).gas - (intrN (txP a1 a2 v) : Int)) = 21000 := by show a2 - (a2 - ((21000 : Nat) : Int)) = 21000; omega
    obtain ⟨z1, z2, z3, z4⟩ := end_txP HBD.out.2.1 (show 21000 ≤ a2 ∧ a2 ≤ 1048576 from ⟨hge, HBD.out.2.2.2⟩) HVL.out
    obtain ⟨E, hE⟩ : ∃ E, E = endTx (movS a1 a2 v) (txP a1 a2 v) (Ctx.mk 0 0 0 9 0).coinbase ((txP a1 a2 v).gas - (intrN (txP a1 a2 v) : Int)) := ⟨_, rfl⟩
    have hE' : endTx (movS a1 a2 v) (txP a1 a2 v) 9 (a2 - 21000) = E := hE.symm
    rw [hE'] at z1 z2 z3 z4
    have HEE := Lib.hid hE
    obtain ⟨X1, x1⟩ : ∃ X1, (E 1).bal = X1 := ⟨_, rfl⟩
    obtain ⟨X2, x2⟩ : ∃ X2, (E 2).bal = X2 := ⟨_, rfl⟩
    obtain ⟨X3, x3⟩ : ∃ X3, (E 9).bal = X3 := ⟨_, rfl⟩
    rw [x1] at z2
    rw [x2] at z3
    rw [x3] at z4
    have hbd := HBD.out
    have hvl := HVL.out
    have HE1 : Hid ((E 1).nonce = 1 ∧ True) := ⟨z1, trivial⟩
    have HX1 : Hid ((E 1).bal = X1 ∧ True) := ⟨x1, trivial⟩
    have HX2 : Hid ((E 2).bal = X2 ∧ True) := ⟨x2, trivial⟩
    have HX3 : Hid ((E 9).bal = X3 ∧ True) := ⟨x3, trivial⟩
    have OX1 := Lib.hid (fun w => ref_of (X1 : Int) (by omega) (by omega) w)
    have OX2 := Lib.hid (fun w => ref_of (X2 : Int) (by omega) (by omega) w)
    have OX3 := Lib.hid (fun w => ref_of (X3 : Int) (by omega) (by omega) w)
    have hw1 : X1 < wW := i64_wW (by omega)
    have hw2 : X2 < wW := i64_wW (by omega)
    have hw3 : X3 < wW := i64_wW (by omega)
    rw [ofW_nat X1 hw1] at OX1
    rw [ofW_nat X2 hw2] at OX2
    rw [ofW_nat X3 hw3] at OX3
    have HEQ1 := Lib.hid (fun w => eqW_same X1 hw1 w)
    have HEQ2 := Lib.hid (fun w => eqW_same X2 hw2 w)
    have HEQ3 := Lib.hid (fun w => eqW_same X3 hw3 w)
    have m1 : IntKind.i64.wrap (21000 * a1) = (X3 : Int) := by rw [wrI _ (by omega) (by omega)]; omega
    have m2 : IntKind.i64.wrap (1000000000000000000 - (v : Int)) = 1000000000000000000 - (v : Int) := wrI _ (by omega) (by omega)
    have m3 : IntKind.i64.wrap (1000000000000000000 - (v : Int) - (X3 : Int)) = (X1 : Int) := by rw [wrI _ (by omega) (by omega)]; omega
    have m4 : IntKind.i64.wrap (1000000000000000000 + (v : Int)) = (X2 : Int) := by rw [wrI _ (by omega) (by omega)]; omega
    clear hE hE' z1 z2 z3 z4 x1 x2 x3 hbd hvl hge hw1 hw2 hw3 hlt
    refine wp_region_tree T [] (.pure 0 (.take 1 (.take 2 (.pure 3 (.pure 4 (.pure 5 (.take 8 (.pure 9 (.alt 6 (.pure 7 (.alt 10 (.pure 11 (.pure 12 (.pure 13 (.alt 14 (.alt 15 (.pure 16 .fin) .stop) .stop)))) (.alt 14 (.alt 10 (.pure 11 (.pure 12 (.pure 13 (.alt 15 (.pure 16 .fin) .stop)))) .stop) .stop))) (.alt 14 (.alt 6 (.pure 7 (.alt 10 (.pure 11 (.pure 12 (.pure 13 (.alt 15 (.pure 16 .fin) .stop)))) .stop)) .stop) .stop)))))))))) (by kernel_rfl) (by kernel_rfl) ?_
    generalize w9.drew = v9 at *
    refine tree_pure ?_ rfl (by rfl) (fun w' hs => ?_) (fun _ _ _ h => h) ?_
    rotate_left
    · clear hs
      go_simp
      try rfl
    simp only [Act.put, List.setIfInBounds_toArray, List.set_cons_zero, List.set_cons_succ]
    refine tree_take ?_ t0 rfl (by rfl) (fun w' hs => ?_) (fun _ _ _ h => h) ?_
    rotate_left
    · rw [HT.out] at hs
      have q1 := hs.r1; have q2 := hs.r2; have q3 := hs.r3
      go_simp
      try rfl
    simp only [Act.put, List.setIfInBounds_toArray, List.set_cons_zero, List.set_cons_succ]
    refine tree_take ?_ t0 rfl (by rfl) (fun w' hs => ?_) (fun _ _ _ h => h) ?_
    rotate_left
    · rw [HT.out] at hs
      have q1 := hs.r1; have q2 := hs.r2; have q3 := hs.r3
      go_simp
      try rfl
    simp only [Act.put, List.setIfInBounds_toArray, List.set_cons_zero, List.set_cons_succ]
    refine tree_pure ?_ rfl (by rfl) (fun w' hs => ?_) (fun _ _ _ h => h) ?_
    rotate_left
    · clear hs
      go_simp
      try rfl
    simp only [Act.put, List.setIfInBounds_toArray, List.set_cons_zero, List.set_cons_succ]
    refine tree_pure ?_ rfl (by rfl) (fun w' hs => ?_) (fun _ _ _ h => h) ?_
    rotate_left
    · clear hs
      go_simp
      try rfl
    simp only [Act.put, List.setIfInBounds_toArray, List.set_cons_zero, List.set_cons_succ]
    refine tree_pure ?_ rfl (by rfl) (fun w' hs => ?_) (fun _ _ _ h => h) ?_
    rotate_left
    · clear hs
      go_simp
      try rfl
    simp only [Act.put, List.setIfInBounds_toArray, List.set_cons_zero, List.set_cons_succ]
    refine tree_take ?_ t0 rfl (by rfl) (fun w' hs => ?_) (fun _ _ _ h => h) ?_
    rotate_left
    · rw [HT.out] at hs
      have q1 := hs.r1; have q2 := hs.r2; have q3 := hs.r3
      go_simp
      try rfl
    simp only [Act.put, List.setIfInBounds_toArray, List.set_cons_zero, List.set_cons_succ]
    refine tree_pure ?_ rfl (by rfl) (fun w' hs => ?_) (fun _ _ _ h => h) ?_
    rotate_left
    · clear hs
      go_simp
      try rfl
    simp only [Act.put, List.setIfInBounds_toArray, List.set_cons_zero, List.set_cons_succ]
    refine tree_alt rfl (fun K hK => ?_) ?_
    · go_simp
      refine (OV.out _).mono ?_
      rintro e wf ⟨rfl, hb⟩
      have HRf := Lib.hid (HRd.out.next hb)
      have tf : T wf := by rw [HT.out]; exact HRf.out.box
      clear hb
      refine hK.out _ _ tf ?_
      clear hK K
      refine tree_pure ?_ rfl (by rfl) (fun w' hs => ?_) (fun _ _ _ h => h) ?_
      rotate_left
      · clear hs
        go_simp
        try rfl
      simp only [Act.put, List.setIfInBounds_toArray, List.set_cons_zero, List.set_cons_succ]
      refine tree_alt rfl (fun K hK => ?_) ?_
      · go_simp
        refine (tx_plain (N := 2000000) (cx := ⟨0, 0, 0, 9, 0⟩) HRf.out.st HT3.out (show 9 < wA by decide) (roAt_nil _ _) HM0.out rfl HMV.out (by show (movS a1 a2 v 2).code = []; rw [mov_2]) (by have := HBD.out; show 0 + 6 + a2.toNat ≤ 2000000; omega) (by decide)).mono ?_
        rintro e wp ⟨o, ⟨oe1, oe2⟩, ov, lv, own2, rfl, hs6, g6, oa⟩
        obtain ⟨oa1, ok1, lb1, lj1, rfl, rfl⟩ := oa.forms
        rw [hused, oe1]
        have hs7 : StateAt TU wp own2 sb E [] (2000000 + 1 + 1) := by rw [HEE.out]; exact hs6
        have HRp := Lib.hid (HRf.out.go hs7 g6)
        have tp : T wp := by rw [HT.out]; exact HRp.out.box
        clear hs6 hs7 g6 oa oe1 oe2
        refine hK.out _ _ tp ?_
        clear hK K
        refine tree_pure ?_ rfl (by rfl) (fun w' hs => ?_) (fun _ _ _ h => h) ?_
        rotate_left
        · clear hs
          go_simp
          try rfl
        simp only [Act.put, List.setIfInBounds_toArray, List.set_cons_zero, List.set_cons_succ]
        refine tree_pure ?_ rfl (by rfl) (fun w' hs => ?_) (fun _ _ _ h => h) ?_
        rotate_left
        · clear hs
          go_simp
          try rfl
        simp only [Act.put, List.setIfInBounds_toArray, List.set_cons_zero, List.set_cons_succ]
        refine tree_pure ?_ rfl (by rfl) (fun w' hs => ?_) (fun _ _ _ h => h) ?_
        rotate_left
        · clear hs
          go_simp
          try rfl
        simp only [Act.put, List.setIfInBounds_toArray, List.set_cons_zero, List.set_cons_succ]
        refine tree_run rfl (fun K hK => ?_)
        go_simp
        obtain ⟨rb, er⟩ : ∃ rb, rb = wp.heap.size := ⟨_, rfl⟩
        obtain ⟨wa, ea⟩ : ∃ wa, wa = wp.alloc (.cells (cat zsN39).toArray 39) := ⟨_, rfl⟩
        have hb : Below wp.heap.size wp wa := by rw [ea]; exact (Below.refl _ _).alloc (Nat.le_refl _) _
        have hz : Arr wa rb 24 (cat zsN39) := by rw [ea, er]; exact Arr.new wp 24 (cat zsN39) 39 zsN39_len
        have hrb : (n1 < rb ∧ n2 < rb ∧ n3 < rb ∧ w.heap.size ≤ rb) ∧ own2 rb = none := by
          rw [er]; exact ⟨⟨World.row?_lt HRp.out.box.r1, World.row?_lt HRp.out.box.r2, World.row?_lt HRp.out.box.r3, HRp.out.below.size⟩, free_own HRp.out.st.lows (Nat.le_refl _)⟩
        have HRa := Lib.hid (HRp.out.next hb)
        have HZ := Lib.hid hz
        have HRB := Lib.hid hrb
        have ta : T wa := by rw [HT.out]; exact HRa.out.box
        rw [← ea, ← er]
        clear hb hz hrb ea er
        refine hK.out _ _ ta ?_
        clear hK K
        refine tree_run rfl (fun K hK => ?_)
        have fz := HZ.out.free
        have hokr := recS_ok 0 21000 oa1 lb1 o.out.length ok1 o.logs.length lj1 o.addr
        have hlr := recS_len 0 21000 (.slice oa1 o.out.length ok1) (.slice lb1 o.logs.length lj1) o.addr
        go_simp
        obtain ⟨we, ee⟩ : ∃ we, we = wa.setCells rb 0 (cat (recS 0 21000 (.slice oa1 o.out.length ok1) (.slice lb1 o.logs.length lj1) o.addr)) := ⟨_, rfl⟩
        have HZe : Hid (Arr we rb 24 (cat (recS 0 21000 (.slice oa1 o.out.length ok1) (.slice lb1 o.logs.length lj1) o.addr))) := by show Arr _ _ _ _; rw [ee]; exact HZ.out.setCells _ hokr
        have HRe := Lib.hid (HRa.out.put HRB.out.1 HRB.out.2 (show Only (· = rb) wa we by rw [ee]; exact (Only.refl (· = rb) _).setCells (fun _ => rfl) _ _))
        have te : T we := by rw [HT.out]; exact HRe.out.box
        rw [← ee]
        clear ee fz hokr hlr
        refine hK.out _ _ te ?_
        clear hK K
        refine tree_pure ?_ rfl (by rfl) (fun w' hs => ?_) (fun _ _ _ h => h) ?_
        rotate_left
        · clear hs
          go_simp
          try rfl
        simp only [Act.put, List.setIfInBounds_toArray, List.set_cons_zero, List.set_cons_succ]
        refine tree_fin ?_
        clear t0
        have c1 := rec0_used HZe.out.row
        have r1 := HRe.out.box.r1
        go_wp2_with fail
        refine (num16 0 _).mono ?_
        rintro e wg ⟨rfl, rfl⟩
        go_wp2_with fail
        have hn := st_nonce HRe.out.st 1 (by decide)
        rw [HE1.out.1] at hn
        refine hn.mono ?_
        rintro e wg ⟨rfl, hb⟩
        have R1 := Lib.hid (HRe.out.next hb)
        have r1 := R1.out.box.r1
        clear hb hn c1
        go_wp2_with fail
        refine (st_balance R1.out.st 1 (by decide)).mono ?_
        rintro e wh ⟨rfl, hb⟩
        have R2 := Lib.hid (R1.out.next hb)
        clear hb
        rw [HX1.out.1]
        go_wp2_with fail
        refine (OX1.out _).mono ?_
        rintro e wi ⟨rfl, hb⟩
        have R3 := Lib.hid (R2.out.next hb)
        have r2 := R3.out.box.r2
        have eq1 := HEQ1.out
        clear hb
        go_wp2_with fail
        refine (st_balance R3.out.st 2 (by decide)).mono ?_
        rintro e wj ⟨rfl, hb⟩
        have R4 := Lib.hid (R3.out.next hb)
        clear hb
        rw [HX2.out.1]
        go_wp2_with fail
        refine (OX2.out _).mono ?_
        rintro e wk ⟨rfl, hb⟩
        have R5 := Lib.hid (R4.out.next hb)
        have r3 := R5.out.box.r3
        have eq2 := HEQ2.out
        clear hb
        go_wp2_with fail
        refine (st_balance R5.out.st 9 (by decide)).mono ?_
        rintro e wl ⟨rfl, hb⟩
        have R6 := Lib.hid (R5.out.next hb)
        clear hb
        rw [HX3.out.1]
        go_wp2_with fail
        refine (OX3.out _).mono ?_
        rintro e wm ⟨rfl, hb⟩
        have R7 := Lib.hid (R6.out.next hb)
        have eq3 := HEQ3.out
        clear hb
        go_wp2
        go_ret
        exact ⟨rfl, R7.out.below⟩
      refine tree_run rfl (fun K hK => ?_)
      go_simp
      obtain ⟨rb, er⟩ : ∃ rb, rb = wf.heap.size := ⟨_, rfl⟩
      obtain ⟨wa, ea⟩ : ∃ wa, wa = wf.alloc (.cells (cat zsN39).toArray 39) := ⟨_, rfl⟩
      have hb : Below wf.heap.size wf wa := by rw [ea]; exact (Below.refl _ _).alloc (Nat.le_refl _) _
      have hz : Arr wa rb 24 (cat zsN39) := by rw [ea, er]; exact Arr.new wf 24 (cat zsN39) 39 zsN39_len
      have hrb : (n1 < rb ∧ n2 < rb ∧ n3 < rb ∧ w.heap.size ≤ rb) ∧ own rb = none := by
        rw [er]; exact ⟨⟨World.row?_lt HRf.out.box.r1, World.row?_lt HRf.out.box.r2, World.row?_lt HRf.out.box.r3, HRf.out.below.size⟩, free_own HRf.out.st.lows (Nat.le_refl _)⟩
      have HRa := Lib.hid (HRf.out.next hb)
      have HZ := Lib.hid hz
      have HRB := Lib.hid hrb
      have ta : T wa := by rw [HT.out]; exact HRa.out.box
      rw [← ea, ← er]
      clear hb hz hrb ea er
      refine hK.out _ _ ta ?_
      clear hK K
      refine tree_run rfl (fun K hK => ?_)
      go_simp
      refine (tx_plain (N := 2000000) (cx := ⟨0, 0, 0, 9, 0⟩) HRa.out.st HT3.out (show 9 < wA by decide) (roAt_nil _ _) HM0.out rfl HMV.out (by show (movS a1 a2 v 2).code = []; rw [mov_2]) (by have := HBD.out; show 0 + 6 + a2.toNat ≤ 2000000; omega) (by decide)).mono ?_
      rintro e wp ⟨o, ⟨oe1, oe2⟩, ov, lv, own2, rfl, hs6, g6, oa⟩
      obtain ⟨oa1, ok1, lb1, lj1, rfl, rfl⟩ := oa.forms
      rw [hused, oe1]
      have hs7 : StateAt TU wp own2 sb E [] (2000000 + 1 + 1) := by rw [HEE.out]; exact hs6
      have HRp := Lib.hid (HRa.out.go hs7 g6)
      have HZp := Lib.hid (HZ.out.only g6.only (fun hh => hh HRB.out.2))
      have HRB2 : Hid ((n1 < rb ∧ n2 < rb ∧ n3 < rb ∧ w.heap.size ≤ rb) ∧ own2 rb = none) := ⟨HRB.out.1, by rw [g6.ext _ HZ.out.lt]; exact HRB.out.2⟩
      have tp : T wp := by rw [HT.out]; exact HRp.out.box
      clear hs6 hs7 g6 oa oe1 oe2
      refine hK.out _ _ tp ?_
      clear hK K
      refine tree_pure ?_ rfl (by rfl) (fun w' hs => ?_) (fun _ _ _ h => h) ?_
      rotate_left
      · clear hs
        go_simp
        try rfl
      simp only [Act.put, List.setIfInBounds_toArray, List.set_cons_zero, List.set_cons_succ]
      refine tree_pure ?_ rfl (by rfl) (fun w' hs => ?_) (fun _ _ _ h => h) ?_
      rotate_left
      · clear hs
        go_simp
        try rfl
      simp only [Act.put, List.setIfInBounds_toArray, List.set_cons_zero, List.set_cons_succ]
      refine tree_pure ?_ rfl (by rfl) (fun w' hs => ?_) (fun _ _ _ h => h) ?_
      rotate_left
      · clear hs
        go_simp
        try rfl
      simp only [Act.put, List.setIfInBounds_toArray, List.set_cons_zero, List.set_cons_succ]
      refine tree_run rfl (fun K hK => ?_)
      have fz := HZp.out.free
      have hokr := recS_ok 0 21000 oa1 lb1 o.out.length ok1 o.logs.length lj1 o.addr
      have hlr := recS_len 0 21000 (.slice oa1 o.out.length ok1) (.slice lb1 o.logs.length lj1) o.addr
      go_simp
      obtain ⟨we, ee⟩ : ∃ we, we = wp.setCells rb 0 (cat (recS 0 21000 (.slice oa1 o.out.length ok1) (.slice lb1 o.logs.length lj1) o.addr)) := ⟨_, rfl⟩
      have HZe : Hid (Arr we rb 24 (cat (recS 0 21000 (.slice oa1 o.out.length ok1) (.slice lb1 o.logs.length lj1) o.addr))) := by show Arr _ _ _ _; rw [ee]; exact HZp.out.setCells _ hokr
      have HRe := Lib.hid (HRp.out.put HRB2.out.1 HRB2.out.2 (show Only (· = rb) wp we by rw [ee]; exact (Only.refl (· = rb) _).setCells (fun _ => rfl) _ _))
      have te : T we := by rw [HT.out]; exact HRe.out.box
      rw [← ee]
      clear ee fz hokr hlr
      refine hK.out _ _ te ?_
      clear hK K
      refine tree_pure ?_ rfl (by rfl) (fun w' hs => ?_) (fun _ _ _ h => h) ?_
      rotate_left
      · clear hs
        go_simp
        try rfl
      simp only [Act.put, List.setIfInBounds_toArray, List.set_cons_zero, List.set_cons_succ]
      refine tree_fin ?_
      clear t0
      have c1 := rec0_used HZe.out.row
      have r1 := HRe.out.box.r1
      go_wp2_with fail
      refine (num16 0 _).mono ?_
      rintro e wg ⟨rfl, rfl⟩
      go_wp2_with fail
      have hn := st_nonce HRe.out.st 1 (by decide)
      rw [HE1.out.1] at hn
      refine hn.mono ?_
      rintro e wg ⟨rfl, hb⟩
      have R1 := Lib.hid (HRe.out.next hb)
      have r1 := R1.out.box.r1
      clear hb hn c1
      go_wp2_with fail
      refine (st_balance R1.out.st 1 (by decide)).mono ?_
      rintro e wh ⟨rfl, hb⟩
      have R2 := Lib.hid (R1.out.next hb)
      clear hb
      rw [HX1.out.1]
      go_wp2_with fail
      refine (OX1.out _).mono ?_
      rintro e wi ⟨rfl, hb⟩
      have R3 := Lib.hid (R2.out.next hb)
      have r2 := R3.out.box.r2
      have eq1 := HEQ1.out
      clear hb
      go_wp2_with fail
      refine (st_balance R3.out.st 2 (by decide)).mono ?_
      rintro e wj ⟨rfl, hb⟩
      have R4 := Lib.hid (R3.out.next hb)
      clear hb
      rw [HX2.out.1]
      go_wp2_with fail
      refine (OX2.out _).mono ?_
      rintro e wk ⟨rfl, hb⟩
      have R5 := Lib.hid (R4.out.next hb)
      have r3 := R5.out.box.r3
      have eq2 := HEQ2.out
      clear hb
      go_wp2_with fail
      refine (st_balance R5.out.st 9 (by decide)).mono ?_
      rintro e wl ⟨rfl, hb⟩
      have R6 := Lib.hid (R5.out.next hb)
      clear hb
      rw [HX3.out.1]
      go_wp2_with fail
      refine (OX3.out _).mono ?_
      rintro e wm ⟨rfl, hb⟩
      have R7 := Lib.hid (R6.out.next hb)
      have eq3 := HEQ3.out
      clear hb
      go_wp2
      go_ret
      exact ⟨rfl, R7.out.below⟩
    refine tree_run rfl (fun K hK => ?_)
    go_simp
    obtain ⟨rb, er⟩ : ∃ rb, rb = v9.heap.size := ⟨_, rfl⟩
    obtain ⟨wa, ea⟩ : ∃ wa, wa = v9.alloc (.cells (cat zsN39).toArray 39) := ⟨_, rfl⟩
    have hb : Below v9.heap.size v9 wa := by rw [ea]; exact (Below.refl _ _).alloc (Nat.le_refl _) _
    have hz : Arr wa rb 24 (cat zsN39) := by rw [ea, er]; exact Arr.new v9 24 (cat zsN39) 39 zsN39_len
    have hrb : (n1 < rb ∧ n2 < rb ∧ n3 < rb ∧ w.heap.size ≤ rb) ∧ own rb = none := by
      rw [er]; exact ⟨⟨World.row?_lt HRd.out.box.r1, World.row?_lt HRd.out.box.r2, World.row?_lt HRd.out.box.r3, HRd.out.below.size⟩, free_own HRd.out.st.lows (Nat.le_refl _)⟩
    have HRa := Lib.hid (HRd.out.next hb)
    have HZ := Lib.hid hz
    have HRB := Lib.hid hrb
    have ta : T wa := by rw [HT.out]; exact HRa.out.box
    rw [← ea, ← er]
    clear hb hz hrb ea er
    refine hK.out _ _ ta ?_
    clear hK K
    refine tree_run rfl (fun K hK => ?_)
    go_simp
    refine (OV.out _).mono ?_
    rintro e wf ⟨rfl, hb⟩
    have HRf := Lib.hid (HRa.out.next hb)
    have HZf := Lib.hid (HZ.out.only (S := fun _ => False) (Only.of_below_size hb) (fun h => h))
    have tf : T wf := by rw [HT.out]; exact HRf.out.box
    clear hb
    refine hK.out _ _ tf ?_
    clear hK K
    refine tree_pure ?_ rfl (by rfl) (fun w' hs => ?_) (fun _ _ _ h => h) ?_
    rotate_left
    · clear hs
      go_simp
      try rfl
    simp only [Act.put, List.setIfInBounds_toArray, List.set_cons_zero, List.set_cons_succ]
    refine tree_run rfl (fun K hK => ?_)
    go_simp
    refine (tx_plain (N := 2000000) (cx := ⟨0, 0, 0, 9, 0⟩) HRf.out.st HT3.out (show 9 < wA by decide) (roAt_nil _ _) HM0.out rfl HMV.out (by show (movS a1 a2 v 2).code = []; rw [mov_2]) (by have := HBD.out; show 0 + 6 + a2.toNat ≤ 2000000; omega) (by decide)).mono ?_
    rintro e wp ⟨o, ⟨oe1, oe2⟩, ov, lv, own2, rfl, hs6, g6, oa⟩
    obtain ⟨oa1, ok1, lb1, lj1, rfl, rfl⟩ := oa.forms
    rw [hused, oe1]
    have hs7 : StateAt TU wp own2 sb E [] (2000000 + 1 + 1) := by rw [HEE.out]; exact hs6
    have HRp := Lib.hid (HRf.out.go hs7 g6)
    have HZp := Lib.hid (HZf.out.only g6.only (fun hh => hh HRB.out.2))
    have HRB2 : Hid ((n1 < rb ∧ n2 < rb ∧ n3 < rb ∧ w.heap.size ≤ rb) ∧ own2 rb = none) := ⟨HRB.out.1, by rw [g6.ext _ HZf.out.lt]; exact HRB.out.2⟩
    have tp : T wp := by rw [HT.out]; exact HRp.out.box
    clear hs6 hs7 g6 oa oe1 oe2
    refine hK.out _ _ tp ?_
    clear hK K
    refine tree_pure ?_ rfl (by rfl) (fun w' hs => ?_) (fun _ _ _ h => h) ?_
    rotate_left
    · clear hs
      go_simp
      try rfl
    simp only [Act.put, List.setIfInBounds_toArray, List.set_cons_zero, List.set_cons_succ]
    refine tree_pure ?_ rfl (by rfl) (fun w' hs => ?_) (fun _ _ _ h => h) ?_
    rotate_left
    · clear hs
      go_simp
      try rfl
    simp only [Act.put, List.setIfInBounds_toArray, List.set_cons_zero, List.set_cons_succ]
    refine tree_pure ?_ rfl (by rfl) (fun w' hs => ?_) (fun _ _ _ h => h) ?_
    rotate_left
    · clear hs
      go_simp
      try rfl
    simp only [Act.put, List.setIfInBounds_toArray, List.set_cons_zero, List.set_cons_succ]
    refine tree_run rfl (fun K hK => ?_)
    have fz := HZp.out.free
    have hokr := recS_ok 0 21000 oa1 lb1 o.out.length ok1 o.logs.length lj1 o.addr
    have hlr := recS_len 0 21000 (.slice oa1 o.out.length ok1) (.slice lb1 o.logs.length lj1) o.addr
    go_simp
    obtain ⟨we, ee⟩ : ∃ we, we = wp.setCells rb 0 (cat (recS 0 21000 (.slice oa1 o.out.length ok1) (.slice lb1 o.logs.length lj1) o.addr)) := ⟨_, rfl⟩
    have HZe : Hid (Arr we rb 24 (cat (recS 0 21000 (.slice oa1 o.out.length ok1) (.slice lb1 o.logs.length lj1) o.addr))) := by show Arr _ _ _ _; rw [ee]; exact HZp.out.setCells _ hokr
    have HRe := Lib.hid (HRp.out.put HRB2.out.1 HRB2.out.2 (show Only (· = rb) wp we by rw [ee]; exact (Only.refl (· = rb) _).setCells (fun _ => rfl) _ _))
    have te : T we := by rw [HT.out]; exact HRe.out.box
    rw [← ee]
    clear ee fz hokr hlr
    refine hK.out _ _ te ?_
    clear hK K
    refine tree_pure ?_ rfl (by rfl) (fun w' hs => ?_) (fun _ _ _ h => h) ?_
    rotate_left
    · clear hs
      go_simp
      try rfl
    simp only [Act.put, List.setIfInBounds_toArray, List.set_cons_zero, List.set_cons_succ]
    refine tree_fin ?_
    clear t0
    have c1 := rec0_used HZe.out.row
    have r1 := HRe.out.box.r1
    go_wp2_with fail
    refine (num16 0 _).mono ?_
    rintro e wg ⟨rfl, rfl⟩
    go_wp2_with fail
    have hn := st_nonce HRe.out.st 1 (by decide)
    rw [HE1.out.1] at hn
    refine hn.mono ?_
    rintro e wg ⟨rfl, hb⟩
    have R1 := Lib.hid (HRe.out.next hb)
    have r1 := R1.out.box.r1
    clear hb hn c1
    go_wp2_with fail
    refine (st_balance R1.out.st 1 (by decide)).mono ?_
    rintro e wh ⟨rfl, hb⟩
    have R2 := Lib.hid (R1.out.next hb)
    clear hb
    rw [HX1.out.1]
    go_wp2_with fail
    refine (OX1.out _).mono ?_
    rintro e wi ⟨rfl, hb⟩
    have R3 := Lib.hid (R2.out.next hb)
    have r2 := R3.out.box.r2
    have eq1 := HEQ1.out
    clear hb
    go_wp2_with fail
    refine (st_balance R3.out.st 2 (by decide)).mono ?_
    rintro e wj ⟨rfl, hb⟩
    have R4 := Lib.hid (R3.out.next hb)
    clear hb
    rw [HX2.out.1]
    go_wp2_with fail
    refine (OX2.out _).mono ?_
    rintro e wk ⟨rfl, hb⟩
    have R5 := Lib.hid (R4.out.next hb)
    have r3 := R5.out.box.r3
    have eq2 := HEQ2.out
    clear hb
    go_wp2_with fail
    refine (st_balance R5.out.st 9 (by decide)).mono ?_
    rintro e wl ⟨rfl, hb⟩
    have R6 := Lib.hid (R5.out.next hb)
    clear hb
    rw [HX3.out.1]
    go_wp2_with fail
    refine (OX3.out _).mono ?_
    rintro e wm ⟨rfl, hb⟩
    have R7 := Lib.hid (R6.out.next hb)
    have eq3 := HEQ3.out
    clear hb
    go_wp2
    go_ret
    exact ⟨rfl, R7.out.below⟩
end Go.Proofs.YtikiciojfhfagaaGreat
