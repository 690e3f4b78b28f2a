/-
  The reference's machine: Run of a message that calls, where nothing fails.
  Two outcomes that are one.
  The law's both: a message by both texts, told of what each run comes to.
  What the runs of the two laws come to.
  The law: how deep calls go.
-/
import Derived.Test.YtiglinnjnobodaaGreatQDp3
set_option linter.unusedVariables false
set_option linter.unusedSimpArgs false
namespace Go.Proofs.YtiglinnjnobodaaGreat
open Go.RowKit Go.Mun

attribute [local irreducible] zs189 tl0
def RCallEnd (w : World) (own : Go.Mun.Own) (sb : Nat) (S' : St) (N : Nat) (f' : Fr) (e : Ending) (w' : World) : Prop :=
 ∃ oa oc own' M' n', e = .returned (.agg (cat (outS ⟨f'.gas, 0, [], [], 0⟩ (.slice oa f'.out.length oc) (.slice none 0 0))).toArray) ∧ RState w' own' sb S' M' n' ∧ ChgR w w' own own' ∧ n' ≤ N ∧ (f'.out = [] → Ints w' .u8 oa oc f'.out)
set_option maxRecDepth 100000 in
set_option maxHeartbeats 8000000 in
theorem r_run_call {w : World} {own : Go.Mun.Own} {sb n : Nat} {S : St} {M : List (Nat × St)} {m : Msg} {dv : Value} {cx : Ctx} {pr : Fr → St → Int → Pri} {dor : Fr → St → Int → Res} {S1 S' : St} {f' : Fr} {K N : Nat} (hTO : ∀ E, RTold E pr dor) (h : RState w own sb S M n) (hm : MsgOk m) (hk : m.kind = 0) (hg : 0 ≤ m.gas) (hd : m.depth ≤ 64) (hs : m.static = false) (hda : RoAt w (hot own) dv m.data)
  (hN : n + 10 + m.gas.toNat ≤ N) (hN2 : N ≤ 999000) (hmv : S.move m.frm m.to m.value = some S1) (hl : loopX (rstepR pr dor) K (frame0 m (S1 m.to).code) S1 = some (0, f', S')) :
  Calls Tryz.prog 64 #[.pointer (some ⟨sb, 0, none⟩), .agg (cat (msgS m dv)).toArray, .agg (cat (ctxS cx)).toArray] w (RCallEnd w own sb S' N f') := by
 have hn : n ≤ 999000 := by omega
 have hv : ¬ (S m.frm).bal < m.value := fun hh => by unfold St.move at hmv; rw [if_pos hh] at hmv; cases hmv
 have hml := msgS_len m dv
 have hcl := ctxS_len cx
 obtain ⟨w0, e0⟩ : ∃ w0, w0 = ((w.alloc (.cells (cat (msgS m dv)).toArray 62)).alloc (.cells (cat (ctxS cx)).toArray 51)).alloc (.cells (cat zs46).toArray 65) := ⟨_, rfl⟩
 have hB0 : RunB w own m dv cx w0 own sb S M n := by rw [e0]; exact RunB.start h
 have c0 : (cat (msgS m dv))[0]'(by rw [hml]; omega) = .int .i64 m.kind := rfl
 have c1 := msgS_depth m dv
 have c2 := msgS_gas m dv
 rw [hk] at c0
 have hfa := hm.frm
 have hta := hm.to
 have hva := hm.value
 have HST := Lib.hid h
 have HB0 := Lib.hid hB0
 have HE := Lib.hid e0
 have HM := Lib.hid hm
 have HK := Lib.hid hk
 obtain ⟨x, hx⟩ : ∃ x, x = (S m.frm).bal := ⟨_, rfl⟩
 have hxW : x < wW := by rw [hx]; exact h.bal m.frm
 have HX := Lib.hid hx
 have HN := Lib.hid hn
 obtain ⟨T, hT⟩ : ∃ T : World → Prop, T = fun W => RunB w own m dv cx W own sb S M n ∧ RState W own sb S M n ∧ Below w.heap.size w W := ⟨_, rfl⟩
 have HT := Lib.hid hT
 have HTB : Hid (∀ w2 w3, T w2 → Below w2.heap.size w2 w3 → T w3) := by show ∀ w2 w3, T w2 → Below w2.heap.size w2 w3 → T w3; rw [hT]; intro w2 w3 h hb; exact ⟨h.1.below hb, h.2.1.below hb, h.2.2.trans (hb.mono h.2.2.size)⟩
 have HTG : Hid (∀ w2, T w2 → RunB w own m dv cx w2 own sb S M n ∧ RState w2 own sb S M n ∧ Below w.heap.size w w2) := by show ∀ w2, T w2 → _; rw [hT]; intro w2 h; exact h
 have tt : T w0.drew := by rw [hT]; exact ⟨hB0.below (Below.refl _ _).drew, (hB0.below (Below.refl _ _).drew).st, by rw [e0]; exact ((((Below.refl _ _).alloc (Nat.le_refl _) _).alloc (by simp) _).alloc (by simp; omega) _).drew⟩
 have hdI : decide ((64 : Int) < m.depth) = false := decide_eq_false (by omega)
 have hgI : decide (m.gas < 0) = false := decide_eq_false (by omega)
 have hgn : ¬ m.gas < 0 := by omega
 have hcn : ¬ cmpN x m.value < 0 := by rw [hx]; exact cmpN_ge hv
 have hdc : decide (cmpN x m.value < 0) = false := decide_eq_false hcn
 obtain ⟨da, dk, hdv⟩ : ∃ a k, dv = .slice a m.data.length k := by obtain ⟨⟨a, k, h1, _⟩, _⟩ := hda; exact ⟨a, k, h1⟩
 have HTO := Lib.hid hTO
 have HDA := Lib.hid hda
 have HNN := Lib.hid hN
 have HN2 := Lib.hid hN2
 have HMV := Lib.hid hmv
 have HL := Lib.hid hl
 have HS := Lib.hid hs
 have HG := Lib.hid hg
 have HDV := Lib.hid hdv
 clear h hm hk hB0 e0 hg hd hx hn hT hv hda hN hN2 hmv hl hs hTO hdv
 go_enter Tryz.func64, Tryz.ntmps64
 go_wp2_with fail
 rw [← HE.out]
 have t0 := tt
 clear tt
 refine wp_region_tree T [] (.pure 0 (.pure 1 (.pure 2 (.pure 3 (.take 4 (.pure 7 (.take 8 (.alt 5 (.pure 6 (.alt 9 (.pure 10 (.pure 11 (.pure 12 .fin))) .stop)) .stop)))))))) (by kernel_rfl) (by kernel_rfl) ?_
 refine tree_pure ?_ rfl (by rfl) (fun w' hs => ?_) (fun _ _ _ h => h) ?_
 rotate_left
 ·clear hs
  go_simp
  try rfl
 simp only [Act.put, tsa, tsb, tsc]
 refine tree_pure ?_ rfl (by rfl) (fun w' hs => ?_) (fun _ _ _ h => h) ?_
 rotate_left
 ·clear hs
  go_simp
  try rfl
 simp only [Act.put, tsa, tsb, tsc]
 refine tree_pure ?_ rfl (by rfl) (fun w' hs => ?_) (fun _ _ _ h => h) ?_
 rotate_left
 ·clear hs
  go_simp
  try rfl
 simp only [Act.put, tsa, tsb, tsc]
 refine tree_pure ?_ rfl (by rfl) (fun w' hs => ?_) (fun _ _ _ h => h) ?_
 rotate_left
 ·clear hs
  go_simp
  try rfl
 simp only [Act.put, tsa, tsb, tsc]
 refine tree_take ?_ t0 rfl (by rfl) (fun w' hs => ?_) (fun _ _ _ h => h) ?_
 rotate_left
 ·rw [HT.out] at hs
  obtain ⟨g, _, _⟩ := hs; have q1 := msg_frm g.t4; have q2 := msg_value g.t4; simp only [Nat.zero_add] at q1 q2
  go_simp
  try rfl
 simp only [Act.put, tsa, tsb, tsc]
 refine tree_pure ?_ rfl (by rfl) (fun w' hs => ?_) (fun _ _ _ h => h) ?_
 rotate_left
 ·clear hs
  go_simp
  try rfl
 simp only [Act.put, tsa, tsb, tsc]
 refine tree_take ?_ t0 rfl (by rfl) (fun w' hs => ?_) (fun _ _ _ h => h) ?_
 rotate_left
 ·rw [HT.out] at hs
  obtain ⟨g, _, _⟩ := hs; have q1 := msg_frm g.t4; have q2 := msg_value g.t4; simp only [Nat.zero_add] at q1 q2
  go_simp
  try rfl
 simp only [Act.put, tsa, tsb, tsc]
 refine tree_run rfl (fun K hK => ?_)
 go_simp
 refine (r_get (HTG.out _ t0).2.1 hfa (by have := HN.out; omega)).mono ?_
 rintro e wa ⟨p, rfl, hba, hga⟩
 have hfp : ∀ W, (Instr.field 35 (.agg (racC p).toArray) 2).run Tryz.prog W = .ok (.agg (beC 32 x).toArray) W := fun W => by rw [fld35_2, got_bal hga, HX.out]
 obtain ⟨C, hC⟩ : ∃ C, C = racC p := ⟨_, rfl⟩
 rw [← hC] at hfp ⊢
 have t1 : T wa := HTB.out _ _ t0 hba
 clear hba hga hC
 refine hK.out _ _ t1 ?_
 clear hK K
 refine tree_pure ?_ rfl (by rfl) (fun w' hs => ?_) (fun _ _ _ h => h) ?_
 rotate_left
 ·clear hs
  go_simp
  try rfl
 simp only [Act.put, tsa, tsb, tsc]
 refine tree_run rfl (fun K hK => ?_)
 go_simp
 refine (ref_Cmp x m.value hxW hva _).mono ?_
 rintro e wb ⟨rfl, hbb⟩
 have t2 : T wb := HTB.out _ _ t1 hbb
 clear hbb
 refine hK.out _ _ t2 ?_
 clear hK K
 refine tree_pure ?_ rfl (by rfl) (fun w' hs => ?_) (fun _ _ _ h => h) ?_
 rotate_left
 ·clear hs
  go_simp
  try rfl
 simp only [Act.put, tsa, tsb, tsc]
 refine tree_pure ?_ rfl (by rfl) (fun w' hs => ?_) (fun _ _ _ h => h) ?_
 rotate_left
 ·clear hs
  go_simp
  try rfl
 simp only [Act.put, tsa, tsb, tsc]
 refine tree_pure ?_ rfl (by rfl) (fun w' hs => ?_) (fun _ _ _ h => h) ?_
 rotate_left
 ·clear hs
  go_simp
  try rfl
 simp only [Act.put, tsa, tsb, tsc]
 refine tree_fin ?_
 have HB2 := Lib.hid (HTG.out _ t2).1
 have k2 := msg_kind HB2.out.t4
 rw [HK.out, Nat.zero_add] at k2
 clear t0 t1 t2 hfp c0 c1 c2 hdc hcn
 go_wp2_with fail
 refine (r_mark HB2.out.st (by have := HN.out; omega)).mono ?_
 rintro e w3 ⟨mk, rfl, hmk, own3, st3, g3⟩
 have HB3 := Lib.hid (HB2.out.go st3 g3)
 clear hmk st3 g3 k2
 -- the frame's box
 obtain ⟨fb, hfb⟩ : ∃ fb, fb = w3.heap.size := ⟨_, rfl⟩
 obtain ⟨E, hE⟩ : ∃ E : REnv, E = ⟨w3, own3, sb, fb, m, dv, cx, M ++ [(mk, S)], N⟩ := ⟨_, rfl⟩
 have e1 : E.sb = sb := by rw [hE]
 have e2 : E.fb = fb := by rw [hE]
 have hbld := build189 sb m dv cx m.to m.value da m.data.length dk m.static m.gas
 rw [← HDV.out] at hbld
 obtain ⟨L, hL⟩ : ∃ L, L = cat [[.pointer (some ⟨sb, 0, none⟩)], cat (msgS m dv), cat (ctxS cx), beC 20 m.to, [.slice none 0 0], [dv], beC 32 m.value, [.bool m.static], [.int .i64 m.gas], [.int .i64 0], [.slice none 0 0], [.slice none 0 0], [.slice none 0 0], [.slice none 0 0], [.slice none 0 0], [.bool false], tl0] := ⟨_, rfl⟩
 have hLf : L = cat (rfS E (rfv0 (.slice none 0 0) dv) (frame0 m (S1 m.to).code)) := by
  rw [hL, hE]
  unfold rfS rfv0 frame0
  simp only [Int.toNat_of_nonneg HG.out]
  rfl
 have hLl : L.length = 1516 := by rw [hLf]; exact rfS_len _ _ _ tl0_len
 rw [← hL] at hbld
 obtain ⟨w4, e4⟩ : ∃ w4, w4 = w3.alloc (.cells L.toArray 189) := ⟨_, rfl⟩
 have hb4 : Below w3.heap.size w3 w4 := by rw [e4]; exact (Below.refl _ _).alloc (Nat.le_refl _) _
 have hown : own3 fb = none := own_new HB3.out.st (by rw [hfb]; exact Nat.le_refl _)
 have hFr : FrB E (rfv0 (.slice none 0 0) dv) (frame0 m (S1 m.to).code) w4 own3 := by
  refine ⟨?_, ?_, by rw [e2]; exact hown, by rw [hE]; show w3.heap.size ≤ fb; omega, by rw [hE]; exact ChgR.below own3 hb4⟩
  ·rw [e2, ← hLf, e4, hfb]; exact World.row?_alloc_at _ _ _ rfl hLl
  ·rw [e2, e4, hfb]; exact World.free?_alloc_at _ _ rfl (by rw [hLl]; omega)
 have HB4 := Lib.hid (HB3.out.below hb4)
 have HFr := Lib.hid hFr
 have HE4 := Lib.hid e4
 have HE1 := Lib.hid e1
 have HE2 := Lib.hid e2
 have HFB := Lib.hid hfb
 have HEE := Lib.hid hE
 have HFLT : Hid (w.heap.size + 1 + 1 < fb) := by show _ < _; rw [hfb]; exact free?_lt HB3.out.t6
 have r3 := HB3.out.t4
 have r3c := HB3.out.t5
 have q3t := msg_to r3
 have q3d := msg_data r3
 have q3v := msg_value r3
 have q3s := msg_static r3
 have q3k := msg_kind r3
 rw [HK.out] at q3k
 simp only [Nat.zero_add] at q3t q3d q3v q3s q3k
 rw [HS.out] at q3s hbld
 have q4t := msg_to HB4.out.t4
 simp only [Nat.zero_add] at q4t
 rw [e4] at q4t
 clear hL hLf e4 hb4 hown hFr e1 e2 hfb hE
 go_wp2_with fail
 rw [← HE4.out]
 rw [← HFB.out]
 refine (r_get HB4.out.st hta (by have := HN.out; omega)).mono ?_
 rintro e w5 ⟨p, rfl, hb5, hg5⟩
 have hfp : ∀ W, (Instr.field 35 (.agg (racC p).toArray) 3).run Tryz.prog W = .ok p.2.1 W := fun W => fld35_3 p W
 obtain ⟨C, hC⟩ : ∃ C, C = racC p := ⟨_, rfl⟩
 rw [← hC] at hfp ⊢
 obtain ⟨⟨ca, ck, hcv, _, _⟩, _, _⟩ := hg5.ok.code
 rw [hcv] at hfp
 generalize p.1.ac.code.length = cn at hfp
 clear hC hg5 hcv r3 r3c q3t q3d q3v q3s q3k q4t hbld hLl
 have HB5 := Lib.hid (HB4.out.below hb5)
 have HFr5 := Lib.hid (HFr.out.go (ChgR.below own3 hb5))
 have f5 : w5.free? fb 193 1 = true := by rw [← HE2.out]; exact World.free?_sub HFr5.out.free (by omega)
 obtain ⟨w6, e6⟩ : ∃ w6, w6 = w5.setCell ⟨fb, 193, none⟩ (.slice ca cn ck) := ⟨_, rfl⟩
 have hFr6 := HFr5.out.code (.slice ca cn ck)
 rw [HE2.out, ← e6] at hFr6
 have HFr6 := Lib.hid hFr6
 have HB6 : Hid (RunB w own m dv cx w6 own3 sb S (M ++ [(mk, S)]) (n + 1)) := HB5.out.box (b := fb) HFLT.out (by rw [← HE2.out]; exact HFr5.out.fown) (by rw [e6]; exact only_cell _ _ _ _)
 have q6k := msg_kind HB6.out.t4
 rw [HK.out] at q6k
 have q6f := msg_frm HB6.out.t4
 have q6t := msg_to HB6.out.t4
 have q6v := msg_value HB6.out.t4
 simp only [Nat.zero_add] at q6k q6f q6t q6v
 rw [e6] at q6k q6f q6t q6v
 have HE6 := Lib.hid e6
 clear hb5 e6 hFr6
 go_wp2_with fail
 rw [← HE6.out]
 have HMO := Lib.hid (r_move HB6.out.st hfa hta hva (by have := HN.out; omega))
 rw [HMV.out] at HMO
 refine HMO.out.mono ?_
 rintro e w7 ⟨rfl, own7, st7, g7⟩
 have HB7 := Lib.hid (HB6.out.go st7 g7)
 have HFr7 := Lib.hid (HFr6.out.go g7)
 have q7t := msg_to HB7.out.t4
 simp only [Nat.zero_add] at q7t
 clear st7 g7 q6k q6f q6t q6v hfp f5 HMO
 go_wp2_with fail
 refine (r_get HB7.out.st hta (by have := HN.out; omega)).mono ?_
 rintro e w8 ⟨p, rfl, hb8, hg8⟩
 have hfp : ∀ W, (Instr.field 35 (.agg (racC p).toArray) 3).run Tryz.prog W = .ok p.2.1 W := fun W => fld35_3 p W
 obtain ⟨C, hC⟩ : ∃ C, C = racC p := ⟨_, rfl⟩
 rw [← hC] at hfp ⊢
 have hcode : p.1.ac.code = (S1 m.to).code := by have := congrArg Acc.code hg8.acc; exact this
 have hcd := hg8.ok.code
 rw [hcode] at hcd
 obtain ⟨cv, hcv⟩ : ∃ cv, cv = p.2.1 := ⟨_, rfl⟩
 rw [← hcv] at hcd hfp
 have HCD : Hid (CodeAt w8 own7 cv (S1 m.to).code) := hcd.only (R := fun _ => False) (Only.of_below_size hb8) (fun _ h => h.elim)
 obtain ⟨⟨ca2, ck2, hcv2, _, _⟩, _, _⟩ := hcd
 have hcn : (S1 m.to).code.length = (S1 m.to).code.length := rfl
 have HB8 := Lib.hid (HB7.out.below hb8)
 have HFr8 := Lib.hid (HFr7.out.go (ChgR.below own7 hb8))
 have f8 : w8.free? fb 193 1 = true := by rw [← HE2.out]; exact World.free?_sub HFr8.out.free (by omega)
 obtain ⟨w9, e9⟩ : ∃ w9, w9 = w8.setCell ⟨fb, 193, none⟩ cv := ⟨_, rfl⟩
 have hFr9 := HFr8.out.code cv
 rw [HE2.out, ← e9] at hFr9
 have HFr9 : Hid (FrB E (rfv0 cv dv) (frame0 m (S1 m.to).code) w9 own7) := hFr9
 have hO9 : Only (· = fb) w8 w9 := by rw [e9]; exact only_cell _ _ _ _
 have hfo : own7 fb = none := by rw [← HE2.out]; exact HFr8.out.fown
 have HB9 : Hid (RunB w own m dv cx w9 own7 sb S1 (M ++ [(mk, S)]) (n + 1 + 4)) := HB8.out.box (b := fb) HFLT.out hfo hO9
 have HCD9 : Hid (CodeAt w9 own7 cv (S1 m.to).code) := HCD.out.only hO9 (fun b hb => by have e : b = fb := hb; rw [e, hfo]; simp)
 have HRF : Hid (RFrOk E w9 own7 (rfv0 cv dv) (frame0 m (S1 m.to).code) S1 (M ++ [(mk, S)]) (n + 1 + 4)) := by
  have hsb := HB9.out.st
  rw [← HE1.out] at hsb
  exact rfr_start (T := []) HFr9.out hsb HCD9.out HDA.out HB9.out.chg (by have := HFLT.out; have := HE2.out; omega) HM.out (by rw [HEE.out]; simp) (by have := HNN.out; rw [HEE.out]; show n + 1 + 4 + m.gas.toNat ≤ N; omega) (by rw [HEE.out]; exact HN2.out)
 have HE9 := Lib.hid e9
 rw [hcv2] at hfp
 have HCV2 := Lib.hid hcv2
 clear hb8 hg8 hC hcode hcv hcv2 hcn e9 hFr9 hO9 hfo q7t
 go_wp2_with fail
 rw [← HCV2.out]
 rw [← HE9.out]
 have HRUN := Lib.hid (rf_run (HTO.out E) HRF.out HL.out)
 rw [HE2.out] at HRUN
 refine HRUN.out.mono ?_
 rintro e w10 ⟨rfl, own10, c10, M10, n10, f10, S10, h10, hx0, _⟩
 obtain ⟨rfl, rfl⟩ := hx0 rfl
 have HO := Lib.hid (r_outcome (mk : Int) h10)
 rw [HE2.out] at HO
 have hov := h10.out
 obtain ⟨⟨oa, oc, hout, hoi, hox⟩, _, _⟩ := hov
 rw [hout] at HO
 have HOI : Hid (Ints w10 .u8 oa oc f10.out) := hoi
 have hch := h10.chg
 have HS10 : Hid (RState w10 own10 sb S10 M10 n10) := by have := h10.st; rw [HE1.out] at this; exact this
 have HN10 : Hid (n10 ≤ N) := by have := h10.cnt; rw [HEE.out] at this; show n10 ≤ N; have h2 : n10 + f10.gas ≤ N := this; omega
 rw [HEE.out] at hch
 have HCH : Hid (ChgR w3 w10 own3 own10) := hch
 have HB10 := Lib.hid (HB3.out.go HS10.out HCH.out)
 clear h10 hx0 hout hoi hox hch hfp f8 HRUN
 go_wp2_with fail
 refine HO.out.mono ?_
 rintro e w11 ⟨rfl, hb11⟩
 have HB11 := Lib.hid (HB10.out.below hb11)
 have hf11 := HB11.out.t6
 have hok := outS_ok ⟨f10.gas, 0, [], [], 0⟩ oa none f10.out.length oc 0 0
 clear hb11 HO
 go_wp2
 have ob : Only (· = w.heap.size + 1 + 1) w11 (w11.setCells (w.heap.size + 1 + 1) 0 (cat (outS ⟨f10.gas, 0, [], [], 0⟩ (.slice oa f10.out.length oc) (.slice none 0 0)))) := Only.setCells (S := fun b => b = w.heap.size + 1 + 1) (Only.refl _ _) (fun _ => rfl) _ _
 exact ret_row ty46 rfl _ rfl rfl hf11 hok ⟨oa, oc, own10, M10, n10, rfl, HB11.out.st.only ob (fun b hb => by have e : b = w.heap.size + 1 + 1 := hb; rw [e]; exact HB11.out.o6), ⟨HB11.out.chg.ext, HB11.out.chg.only.trans ob (fun i hi he => by have : i = w.heap.size + 1 + 1 := hi; omega)⟩, HN10.out, fun hn => ⟨fun h => absurd hn h, HOI.out.nil, HOI.out.len, HOI.out.cap⟩⟩
end Go.Proofs.YtiglinnjnobodaaGreat
namespace Go.Proofs.YtiglinnjnobodaaGreat
open Go.RowKit Go.Mun
theorem ex_eqlO {P : Program} (ρ : Operand → Value) (dst : Option Tmp) (x y : Operand) (t t2 ty : TypeId) (pos : String) (after : Array Edge) (gd : Option (Nat × Bool)) (w : World) {xs ys : Array Value} {r : Bool} (hm : P.eqGuardType P.depth t = false) (hx : ρ x = .agg xs) (hy : ρ y = .agg ys)
  (h : (binOp .eql t (.agg xs) (.agg ys)).run P w = .ok (.bool r) w) : (execOp ρ ⟨dst, .binOp .eql t x y t2, ty, pos, after, gd⟩).run P w = .ok (.value (.bool r)) w := by
 simp [execOp, hx, hy, Sem.run_bind, run_eqGuard_agg (hm := hm), h]
theorem eg23O : Tryz.prog.eqGuardType Tryz.prog.depth 23 = false := by kernel_rfl
theorem out_out {w : World} {b o : Nat} {oc : Outc} {ov lv : Value} (h : w.row? b o 24 = some (cat (outS oc ov lv))) : w.cell? ⟨b, o + 2, none⟩ = some ov := cell_cat h (i := 2) rfl (by simp [outS, offOf_succ, offOf_zero])
theorem out_logs {w : World} {b o : Nat} {oc : Outc} {ov lv : Value} (h : w.row? b o 24 = some (cat (outS oc ov lv))) : w.cell? ⟨b, o + 3, none⟩ = some lv := cell_cat h (i := 3) rfl (by simp [outS, offOf_succ, offOf_zero])
theorem out_addr {w : World} {b o : Nat} {oc : Outc} {ov lv : Value} (h : w.row? b o 24 = some (cat (outS oc ov lv))) : w.row? b (o + 4) 20 = some (beC 20 oc.addr) := row_cat h (i := 4) rfl (by simp [outS, offOf_succ, offOf_zero]) (by simp)
set_option maxRecDepth 100000 in
theorem same_logs0 (a b : Option Addr) (j k : Nat) (w : World) : Calls Tryz.prog 66 #[.slice a 0 j, .slice b 0 k] w fun e w' => e = .returned (.bool true) ∧ w' = w := by
 go_enter Tryz.func66, Tryz.ntmps66
 go_wp2_with fail
 go_loopw [5] (fun ix wz => ix = .int .i64 0 ∧ wz = w) (fun _ _ => 0)
 case atStart => exact ⟨rfl, rfl⟩
 case round =>
  obtain ⟨rfl, rfl⟩ := hrel
  go_wp2
  go_ret
  exact ⟨rfl, rfl⟩
set_option maxRecDepth 100000 in
set_option maxHeartbeats 4000000 in
theorem same_outcome {w : World} (g e : Int) (d : Bts) (ad : Nat) (a1 a2 l1 l2 : Option Addr) (c1 c2 j1 j2 : Nat) (had : ad < wA) (h1 : Ints w .u8 a1 c1 d) (h2 : Ints w .u8 a2 c2 d) :
  Calls Tryz.prog 68 #[.agg (cat (outS ⟨g, e, [], [], ad⟩ (.slice a1 d.length c1) (.slice l1 0 j1))).toArray, .agg (cat (outS ⟨g, e, [], [], ad⟩ (.slice a2 d.length c2) (.slice l2 0 j2))).toArray] w fun r w' => r = .returned (.bool true) ∧ Below w.heap.size w w' := by
 obtain ⟨X, hX⟩ : ∃ X, X = cat (outS ⟨g, e, [], [], ad⟩ (.slice a1 d.length c1) (.slice l1 0 j1)) := ⟨_, rfl⟩
 obtain ⟨Y, hY⟩ : ∃ Y, Y = cat (outS ⟨g, e, [], [], ad⟩ (.slice a2 d.length c2) (.slice l2 0 j2)) := ⟨_, rfl⟩
 have lX : X.length = 24 := by rw [hX]; exact outS_len _ _ _
 have lY : Y.length = 24 := by rw [hY]; exact outS_len _ _ _
 rw [← hX, ← hY]
 obtain ⟨w0, e0⟩ : ∃ w0, w0 = (w.alloc (.cells X.toArray 65)).alloc (.cells Y.toArray 65) := ⟨_, rfl⟩
 have hb0 : Below w.heap.size w w0 := by rw [e0]; exact ((Below.refl _ _).alloc (Nat.le_refl _) _).alloc (by simp) _
 have hr : w0.row? w.heap.size 0 24 = some X := by rw [e0, World.row?_alloc_lt _ (by simp)]; exact World.row?_alloc_at X 65 _ rfl lX
 have hs : w0.row? (w.heap.size + 1) 0 24 = some Y := by rw [e0]; exact World.row?_alloc_at Y 65 _ (by simp) lY
 rw [hX] at hr
 rw [hY] at hs
 have hq : ∀ w, (binOp .eql 23 (.agg (beC 20 ad).toArray) (.agg (beC 20 ad).toArray)).run Tryz.prog w = .ok (.bool true) w := fun w => by have := eql_of (fun d => eqD23 (a := ad) (b := ad) had had w d); simpa using this
 obtain ⟨T, hT⟩ : ∃ T : World → Prop, T = fun W => Below w.heap.size w W ∧ W.row? w.heap.size 0 24 = some (cat (outS ⟨g, e, [], [], ad⟩ (.slice a1 d.length c1) (.slice l1 0 j1))) ∧ W.row? (w.heap.size + 1) 0 24 = some (cat (outS ⟨g, e, [], [], ad⟩ (.slice a2 d.length c2) (.slice l2 0 j2))) ∧ Ints W .u8 a1 c1 d ∧ Ints W .u8 a2 c2 d := ⟨_, rfl⟩
 have HT := Lib.hid hT
 have HTB : Hid (∀ w2 w3, T w2 → Below w2.heap.size w2 w3 → T w3) := by
  show ∀ w2 w3, T w2 → Below w2.heap.size w2 w3 → T w3
  rw [hT]
  rintro w2 w3 ⟨g0, g1, g2, g3, g4⟩ hb
  exact ⟨g0.trans (hb.mono g0.size), ((brow hb).1 _ _ _ (World.row?_lt g1)).trans g1, ((brow hb).1 _ _ _ (World.row?_lt g2)).trans g2, g3.below hb, g4.below hb⟩
 have HTG : Hid (∀ w2, T w2 → Below w.heap.size w w2) := by show ∀ w2, T w2 → _; rw [hT]; intro w2 h; exact h.1
 have t0 : T w0.drew := HTB.out w0 _ (by rw [hT]; exact ⟨hb0, hr, hs, h1.below hb0, h2.below hb0⟩) (Below.refl _ _).drew
 have HQ := Lib.hid hq
 have HE := Lib.hid e0
 have HLN := Lib.hid (fun w => law_num e w)
 have HSL := Lib.hid (fun w => same_logs0 l1 l2 j1 j2 w)
 clear hT h1 h2 hb0 hr hs e0 hX hY hq
 go_enter Tryz.func68, Tryz.ntmps68
 go_wp2_with fail
 rw [← HE.out]
 refine wp_region_tree T [] (.pure 0 (.take 1 (.pure 2 (.take 3 (.pure 4 (.pure 5 (.pure 6 (.take 7 (.pure 9 (.take 10 (.alt 8 (.alt 11 (.pure 12 (.pure 13 (.pure 14 (.pure 15 (.take 16 (.take 17 (.pure 18 (.take 19 (.take 20 (.pure 21 (.pure 22 (.pure 23 (.pure 24 (.take 25 (.pure 26 (.take 27 (.pure 28 (.pure 29 (.pure 30 (.pure 31 (.take 32 (.pure 33 (.take 34 (.alt 35 (.pure 36 (.pure 37 .fin)) .stop)))))))))))))))))))))))) .stop) .stop))))))))))) (by kernel_rfl) (by kernel_rfl) ?_
 refine tree_pure ?_ rfl (by rfl) (fun w' hs => ?_) (fun _ _ _ h => h) ?_
 rotate_left
 ·clear hs
  go_simp
  try rfl
 simp only [Act.put, tsa, tsb, tsc]
 refine tree_take ?_ t0 rfl (by rfl) (fun w' hs => ?_) (fun _ _ _ h => h) ?_
 rotate_left
 ·rw [HT.out] at hs
  obtain ⟨_, g1, g2, i1, i2⟩ := hs; have u0 := out_gas g1; have u1 := out_err g1; have u2 := out_out g1; have u3 := out_logs g1; have u4 := out_addr g1; have v0 := out_gas g2; have v1 := out_err g2; have v2 := out_out g2; have v3 := out_logs g2; have v4 := out_addr g2; have s1 := run_bytes_string' (P := Tryz.prog) Tryz.underlying26 Tryz.underlying5 Tryz.underlying9 rfl i1; have s2 := run_bytes_string' (P := Tryz.prog) Tryz.underlying26 Tryz.underlying5 Tryz.underlying9 rfl i2; simp only [Nat.zero_add] at u0 u1 u2 u3 u4 v0 v1 v2 v3 v4
  go_simp
  try rfl
 simp only [Act.put, tsa, tsb, tsc]
 refine tree_pure ?_ rfl (by rfl) (fun w' hs => ?_) (fun _ _ _ h => h) ?_
 rotate_left
 ·clear hs
  go_simp
  try rfl
 simp only [Act.put, tsa, tsb, tsc]
 refine tree_take ?_ t0 rfl (by rfl) (fun w' hs => ?_) (fun _ _ _ h => h) ?_
 rotate_left
 ·rw [HT.out] at hs
  obtain ⟨_, g1, g2, i1, i2⟩ := hs; have u0 := out_gas g1; have u1 := out_err g1; have u2 := out_out g1; have u3 := out_logs g1; have u4 := out_addr g1; have v0 := out_gas g2; have v1 := out_err g2; have v2 := out_out g2; have v3 := out_logs g2; have v4 := out_addr g2; have s1 := run_bytes_string' (P := Tryz.prog) Tryz.underlying26 Tryz.underlying5 Tryz.underlying9 rfl i1; have s2 := run_bytes_string' (P := Tryz.prog) Tryz.underlying26 Tryz.underlying5 Tryz.underlying9 rfl i2; simp only [Nat.zero_add] at u0 u1 u2 u3 u4 v0 v1 v2 v3 v4
  go_simp
  try rfl
 simp only [Act.put, tsa, tsb, tsc]
 refine tree_pure ?_ rfl (by rfl) (fun w' hs => ?_) (fun _ _ _ h => h) ?_
 rotate_left
 ·clear hs
  go_simp
  try rfl
 simp only [Act.put, tsa, tsb, tsc]
 refine tree_pure ?_ rfl (by rfl) (fun w' hs => ?_) (fun _ _ _ h => h) ?_
 rotate_left
 ·clear hs
  go_simp
  try rfl
 simp only [Act.put, tsa, tsb, tsc]
 refine tree_pure ?_ rfl (by rfl) (fun w' hs => ?_) (fun _ _ _ h => h) ?_
 rotate_left
 ·clear hs
  go_simp
  try rfl
 simp only [Act.put, tsa, tsb, tsc]
 refine tree_take ?_ t0 rfl (by rfl) (fun w' hs => ?_) (fun _ _ _ h => h) ?_
 rotate_left
 ·rw [HT.out] at hs
  obtain ⟨_, g1, g2, i1, i2⟩ := hs; have u0 := out_gas g1; have u1 := out_err g1; have u2 := out_out g1; have u3 := out_logs g1; have u4 := out_addr g1; have v0 := out_gas g2; have v1 := out_err g2; have v2 := out_out g2; have v3 := out_logs g2; have v4 := out_addr g2; have s1 := run_bytes_string' (P := Tryz.prog) Tryz.underlying26 Tryz.underlying5 Tryz.underlying9 rfl i1; have s2 := run_bytes_string' (P := Tryz.prog) Tryz.underlying26 Tryz.underlying5 Tryz.underlying9 rfl i2; simp only [Nat.zero_add] at u0 u1 u2 u3 u4 v0 v1 v2 v3 v4
  go_simp
  try rfl
 simp only [Act.put, tsa, tsb, tsc]
 refine tree_pure ?_ rfl (by rfl) (fun w' hs => ?_) (fun _ _ _ h => h) ?_
 rotate_left
 ·clear hs
  go_simp
  try rfl
 simp only [Act.put, tsa, tsb, tsc]
 refine tree_take ?_ t0 rfl (by rfl) (fun w' hs => ?_) (fun _ _ _ h => h) ?_
 rotate_left
 ·rw [HT.out] at hs
  obtain ⟨_, g1, g2, i1, i2⟩ := hs; have u0 := out_gas g1; have u1 := out_err g1; have u2 := out_out g1; have u3 := out_logs g1; have u4 := out_addr g1; have v0 := out_gas g2; have v1 := out_err g2; have v2 := out_out g2; have v3 := out_logs g2; have v4 := out_addr g2; have s1 := run_bytes_string' (P := Tryz.prog) Tryz.underlying26 Tryz.underlying5 Tryz.underlying9 rfl i1; have s2 := run_bytes_string' (P := Tryz.prog) Tryz.underlying26 Tryz.underlying5 Tryz.underlying9 rfl i2; simp only [Nat.zero_add] at u0 u1 u2 u3 u4 v0 v1 v2 v3 v4
  go_simp
  try rfl
 simp only [Act.put, tsa, tsb, tsc]
 refine tree_run rfl (fun K hK => ?_)
 go_simp
 refine (HLN.out _).mono ?_
 rintro e wa ⟨rfl, rfl⟩
 have t1 := t0
 refine hK.out _ _ t1 ?_
 clear hK K
 refine tree_run rfl (fun K hK => ?_)
 go_simp
 refine (HLN.out _).mono ?_
 rintro e wb ⟨rfl, rfl⟩
 have t2 := t1
 refine hK.out _ _ t2 ?_
 clear hK K
 refine tree_pure ?_ rfl (by rfl) (fun w' hs => ?_) (fun _ _ _ h => h) ?_
 rotate_left
 ·clear hs
  go_simp
  try rfl
 simp only [Act.put, tsa, tsb, tsc]
 refine tree_pure ?_ rfl (by rfl) (fun w' hs => ?_) (fun _ _ _ h => h) ?_
 rotate_left
 ·clear hs
  go_simp
  try rfl
 simp only [Act.put, tsa, tsb, tsc]
 refine tree_pure ?_ rfl (by rfl) (fun w' hs => ?_) (fun _ _ _ h => h) ?_
 rotate_left
 ·clear hs
  go_simp
  try rfl
 simp only [Act.put, tsa, tsb, tsc]
 refine tree_pure ?_ rfl (by rfl) (fun w' hs => ?_) (fun _ _ _ h => h) ?_
 rotate_left
 ·clear hs
  go_simp
  try rfl
 simp only [Act.put, tsa, tsb, tsc]
 refine tree_take ?_ t2 rfl (by rfl) (fun w' hs => ?_) (fun _ _ _ h => h) ?_
 rotate_left
 ·rw [HT.out] at hs
  obtain ⟨_, g1, g2, i1, i2⟩ := hs; have u0 := out_gas g1; have u1 := out_err g1; have u2 := out_out g1; have u3 := out_logs g1; have u4 := out_addr g1; have v0 := out_gas g2; have v1 := out_err g2; have v2 := out_out g2; have v3 := out_logs g2; have v4 := out_addr g2; have s1 := run_bytes_string' (P := Tryz.prog) Tryz.underlying26 Tryz.underlying5 Tryz.underlying9 rfl i1; have s2 := run_bytes_string' (P := Tryz.prog) Tryz.underlying26 Tryz.underlying5 Tryz.underlying9 rfl i2; simp only [Nat.zero_add] at u0 u1 u2 u3 u4 v0 v1 v2 v3 v4
  go_simp
  try rfl
 simp only [Act.put, tsa, tsb, tsc]
 refine tree_take ?_ t2 rfl (by rfl) (fun w' hs => ?_) (fun _ _ _ h => h) ?_
 rotate_left
 ·rw [HT.out] at hs
  obtain ⟨_, g1, g2, i1, i2⟩ := hs; have u0 := out_gas g1; have u1 := out_err g1; have u2 := out_out g1; have u3 := out_logs g1; have u4 := out_addr g1; have v0 := out_gas g2; have v1 := out_err g2; have v2 := out_out g2; have v3 := out_logs g2; have v4 := out_addr g2; have s1 := run_bytes_string' (P := Tryz.prog) Tryz.underlying26 Tryz.underlying5 Tryz.underlying9 rfl i1; have s2 := run_bytes_string' (P := Tryz.prog) Tryz.underlying26 Tryz.underlying5 Tryz.underlying9 rfl i2; simp only [Nat.zero_add] at u0 u1 u2 u3 u4 v0 v1 v2 v3 v4
  go_simp
  try rfl
 simp only [Act.put, tsa, tsb, tsc]
 refine tree_pure ?_ rfl (by rfl) (fun w' hs => ?_) (fun _ _ _ h => h) ?_
 rotate_left
 ·clear hs
  go_simp
  try rfl
 simp only [Act.put, tsa, tsb, tsc]
 refine tree_take ?_ t2 rfl (by rfl) (fun w' hs => ?_) (fun _ _ _ h => h) ?_
 rotate_left
 ·rw [HT.out] at hs
  obtain ⟨_, g1, g2, i1, i2⟩ := hs; have u0 := out_gas g1; have u1 := out_err g1; have u2 := out_out g1; have u3 := out_logs g1; have u4 := out_addr g1; have v0 := out_gas g2; have v1 := out_err g2; have v2 := out_out g2; have v3 := out_logs g2; have v4 := out_addr g2; have s1 := run_bytes_string' (P := Tryz.prog) Tryz.underlying26 Tryz.underlying5 Tryz.underlying9 rfl i1; have s2 := run_bytes_string' (P := Tryz.prog) Tryz.underlying26 Tryz.underlying5 Tryz.underlying9 rfl i2; simp only [Nat.zero_add] at u0 u1 u2 u3 u4 v0 v1 v2 v3 v4
  go_simp
  try rfl
 simp only [Act.put, tsa, tsb, tsc]
 refine tree_take ?_ t2 rfl (by rfl) (fun w' hs => ?_) (fun _ _ _ h => h) ?_
 rotate_left
 ·rw [HT.out] at hs
  obtain ⟨_, g1, g2, i1, i2⟩ := hs; have u0 := out_gas g1; have u1 := out_err g1; have u2 := out_out g1; have u3 := out_logs g1; have u4 := out_addr g1; have v0 := out_gas g2; have v1 := out_err g2; have v2 := out_out g2; have v3 := out_logs g2; have v4 := out_addr g2; have s1 := run_bytes_string' (P := Tryz.prog) Tryz.underlying26 Tryz.underlying5 Tryz.underlying9 rfl i1; have s2 := run_bytes_string' (P := Tryz.prog) Tryz.underlying26 Tryz.underlying5 Tryz.underlying9 rfl i2; simp only [Nat.zero_add] at u0 u1 u2 u3 u4 v0 v1 v2 v3 v4
  go_simp
  try rfl
 simp only [Act.put, tsa, tsb, tsc]
 refine tree_pure ?_ rfl (by rfl) (fun w' hs => ?_) (fun _ _ _ h => h) ?_
 rotate_left
 ·clear hs
  go_simp
  try rfl
 simp only [Act.put, tsa, tsb, tsc]
 refine tree_pure ?_ rfl (by rfl) (fun w' hs => ?_) (fun _ _ _ h => h) ?_
 rotate_left
 ·clear hs
  go_simp
  try rfl
 simp only [Act.put, tsa, tsb, tsc]
 refine tree_pure ?_ rfl (by rfl) (fun w' hs => ?_) (fun _ _ _ h => h) ?_
 rotate_left
 ·clear hs
  go_simp
  try rfl
 simp only [Act.put, tsa, tsb, tsc]
 refine tree_pure ?_ rfl (by rfl) (fun w' hs => ?_) (fun _ _ _ h => h) ?_
 rotate_left
 ·clear hs
  go_simp
  try rfl
 simp only [Act.put, tsa, tsb, tsc]
 refine tree_take ?_ t2 rfl (by rfl) (fun w' hs => ?_) (fun _ _ _ h => h) ?_
 rotate_left
 ·rw [HT.out] at hs
  obtain ⟨_, g1, g2, i1, i2⟩ := hs; have u0 := out_gas g1; have u1 := out_err g1; have u2 := out_out g1; have u3 := out_logs g1; have u4 := out_addr g1; have v0 := out_gas g2; have v1 := out_err g2; have v2 := out_out g2; have v3 := out_logs g2; have v4 := out_addr g2; have s1 := run_bytes_string' (P := Tryz.prog) Tryz.underlying26 Tryz.underlying5 Tryz.underlying9 rfl i1; have s2 := run_bytes_string' (P := Tryz.prog) Tryz.underlying26 Tryz.underlying5 Tryz.underlying9 rfl i2; simp only [Nat.zero_add] at u0 u1 u2 u3 u4 v0 v1 v2 v3 v4
  go_simp
  try rfl
 simp only [Act.put, tsa, tsb, tsc]
 refine tree_pure ?_ rfl (by rfl) (fun w' hs => ?_) (fun _ _ _ h => h) ?_
 rotate_left
 ·clear hs
  go_simp
  try rfl
 simp only [Act.put, tsa, tsb, tsc]
 refine tree_take ?_ t2 rfl (by rfl) (fun w' hs => ?_) (fun _ _ _ h => h) ?_
 rotate_left
 ·rw [HT.out] at hs
  obtain ⟨_, g1, g2, i1, i2⟩ := hs; have u0 := out_gas g1; have u1 := out_err g1; have u2 := out_out g1; have u3 := out_logs g1; have u4 := out_addr g1; have v0 := out_gas g2; have v1 := out_err g2; have v2 := out_out g2; have v3 := out_logs g2; have v4 := out_addr g2; have s1 := run_bytes_string' (P := Tryz.prog) Tryz.underlying26 Tryz.underlying5 Tryz.underlying9 rfl i1; have s2 := run_bytes_string' (P := Tryz.prog) Tryz.underlying26 Tryz.underlying5 Tryz.underlying9 rfl i2; simp only [Nat.zero_add] at u0 u1 u2 u3 u4 v0 v1 v2 v3 v4
  go_simp
  try rfl
 simp only [Act.put, tsa, tsb, tsc]
 refine tree_pure (.bool true) rfl (by rfl) (fun w' hs => ?_) (fun _ _ _ h => h) ?_
 ·clear hs
  exact ex_eqlO _ _ _ _ _ _ _ _ _ _ _ eg23O rfl rfl (HQ.out _)
 simp only [Act.put, tsa, tsb, tsc]
 refine tree_pure ?_ rfl (by rfl) (fun w' hs => ?_) (fun _ _ _ h => h) ?_
 rotate_left
 ·clear hs
  go_simp
  try rfl
 simp only [Act.put, tsa, tsb, tsc]
 refine tree_pure ?_ rfl (by rfl) (fun w' hs => ?_) (fun _ _ _ h => h) ?_
 rotate_left
 ·clear hs
  go_simp
  try rfl
 simp only [Act.put, tsa, tsb, tsc]
 refine tree_pure ?_ rfl (by rfl) (fun w' hs => ?_) (fun _ _ _ h => h) ?_
 rotate_left
 ·clear hs
  go_simp
  try rfl
 simp only [Act.put, tsa, tsb, tsc]
 refine tree_take ?_ t2 rfl (by rfl) (fun w' hs => ?_) (fun _ _ _ h => h) ?_
 rotate_left
 ·rw [HT.out] at hs
  obtain ⟨_, g1, g2, i1, i2⟩ := hs; have u0 := out_gas g1; have u1 := out_err g1; have u2 := out_out g1; have u3 := out_logs g1; have u4 := out_addr g1; have v0 := out_gas g2; have v1 := out_err g2; have v2 := out_out g2; have v3 := out_logs g2; have v4 := out_addr g2; have s1 := run_bytes_string' (P := Tryz.prog) Tryz.underlying26 Tryz.underlying5 Tryz.underlying9 rfl i1; have s2 := run_bytes_string' (P := Tryz.prog) Tryz.underlying26 Tryz.underlying5 Tryz.underlying9 rfl i2; simp only [Nat.zero_add] at u0 u1 u2 u3 u4 v0 v1 v2 v3 v4
  go_simp
  try rfl
 simp only [Act.put, tsa, tsb, tsc]
 refine tree_pure ?_ rfl (by rfl) (fun w' hs => ?_) (fun _ _ _ h => h) ?_
 rotate_left
 ·clear hs
  go_simp
  try rfl
 simp only [Act.put, tsa, tsb, tsc]
 refine tree_take ?_ t2 rfl (by rfl) (fun w' hs => ?_) (fun _ _ _ h => h) ?_
 rotate_left
 ·rw [HT.out] at hs
  obtain ⟨_, g1, g2, i1, i2⟩ := hs; have u0 := out_gas g1; have u1 := out_err g1; have u2 := out_out g1; have u3 := out_logs g1; have u4 := out_addr g1; have v0 := out_gas g2; have v1 := out_err g2; have v2 := out_out g2; have v3 := out_logs g2; have v4 := out_addr g2; have s1 := run_bytes_string' (P := Tryz.prog) Tryz.underlying26 Tryz.underlying5 Tryz.underlying9 rfl i1; have s2 := run_bytes_string' (P := Tryz.prog) Tryz.underlying26 Tryz.underlying5 Tryz.underlying9 rfl i2; simp only [Nat.zero_add] at u0 u1 u2 u3 u4 v0 v1 v2 v3 v4
  go_simp
  try rfl
 simp only [Act.put, tsa, tsb, tsc]
 refine tree_run rfl (fun K hK => ?_)
 go_simp
 refine (HSL.out _).mono ?_
 rintro e wc ⟨rfl, rfl⟩
 have t3 := t2
 refine hK.out _ _ t3 ?_
 clear hK K
 refine tree_pure ?_ rfl (by rfl) (fun w' hs => ?_) (fun _ _ _ h => h) ?_
 rotate_left
 ·clear hs
  go_simp
  try rfl
 simp only [Act.put, tsa, tsb, tsc]
 refine tree_pure ?_ rfl (by rfl) (fun w' hs => ?_) (fun _ _ _ h => h) ?_
 rotate_left
 ·clear hs
  go_simp
  try rfl
 simp only [Act.put, tsa, tsb, tsc]
 refine tree_fin ?_
 go_wp2
 go_ret
 exact ⟨rfl, HTG.out _ t3⟩
theorem ret_row3b {P : Program} {fn : Func} {R : Ending → World → Prop} {a : Act} {w : World} {p q q2 ty n b : Nat} (hT : RowTy P ty n) (hres : fn.results = #[.cell p ty, .tmp q, .tmp q2]) (L : List Value) (x y : Value)
  (hp : a.tmps.getD p undef = .pointer (some ⟨b, 0, none⟩)) (hq : a.tmps.getD q undef = x) (hq2 : a.tmps.getD q2 undef = y) (hd : a.defers = []) (hr : w.row? b 0 n = some L) (hR : R (.returned (.tuple #[.agg L.toArray, x, y])) w) :
  bodyPost P fn R .ret a w := by
 refine ⟨hd, _, ?_, hR⟩
 obtain ⟨d, hu, hd⟩ := hT.desc
 have hp' : a.tmps[p]?.getD undef = .pointer (some ⟨b, 0, none⟩) := by simpa using hp
 have hq' : a.tmps[q]?.getD undef = x := by simpa using hq
 have hq2' : a.tmps[q2]?.getD undef = y := by simpa using hq2
 simp [results, hres, hp', hq', hq2', asAddr, run_loadVar_mid w b 0 ty L d (World.row?_rangeAt hr) hu hd (by rw [World.row?_len hr]; exact hT.size)]
def outV (g x : Int) (ad : Nat) (oa : Option Addr) (k oc : Nat) (la : Option Addr) (lc : Nat) : List Value := cat (outS ⟨g, x, [], [], ad⟩ (.slice oa k oc) (.slice la 0 lc))
def RunsP (m : Msg) (dv : Value) (cx : Ctx) (S : St) (g x : Int) (ad : Nat) (d : Bts) (S' : St) : Prop :=
 ∀ (w : World) (own : Go.Mun.Own) (sb : Nat), StateAt TU w own sb S [] 0 → RoAt w (fun b => own b ≠ none) dv m.data →
  Calls Tryz.prog 34 #[.pointer (some ⟨sb, 0, none⟩), .agg (cat (msgS m dv)).toArray, .agg (cat (ctxS cx)).toArray] w fun e w' => ∃ oa oc la lc own' n', e = .returned (.agg (outV g x ad oa d.length oc la lc).toArray) ∧
   RoAt w' (fun b => own' b ≠ none ∨ b < w.heap.size) (.slice oa d.length oc) d ∧ StateAt TU w' own' sb S' [] n' ∧ Chg w w' own own' ∧ n' ≤ 3000000
def RunsR (m : Msg) (dv : Value) (cx : Ctx) (S : St) (g x : Int) (ad : Nat) (d : Bts) (S' : St) : Prop :=
 ∀ (w : World) (own : Go.Mun.Own) (sb n : Nat), n ≤ 1000 → RState w own sb S [] n → RoAt w (hot own) dv m.data →
  Calls Tryz.prog 64 #[.pointer (some ⟨sb, 0, none⟩), .agg (cat (msgS m dv)).toArray, .agg (cat (ctxS cx)).toArray] w fun e w' => ∃ oa oc la lc own' M' n', e = .returned (.agg (outV g x ad oa d.length oc la lc).toArray) ∧
   Ints w' .u8 oa oc d ∧ RState w' own' sb S' M' n' ∧ ChgR w w' own own' ∧ n' ≤ 999000
theorem RoAt.weak {w : World} {X X' : Nat → Prop} {v : Value} {l : Bts} (h : RoAt w X v l) (hX : ∀ b, b < w.heap.size → X' b → X b) : RoAt w X' v l := h.only (R := fun _ => False) (Only.refl _ _) (fun _ h => h.elim) hX
theorem outV_len (g x : Int) (ad : Nat) (oa : Option Addr) (k oc : Nat) (la : Option Addr) (lc : Nat) : (outV g x ad oa k oc la lc).length = 24 := outS_len _ _ _
theorem outV_ok (g x : Int) (ad : Nat) (oa : Option Addr) (k oc : Nat) (la : Option Addr) (lc : Nat) : okL 24 (outV g x ad oa k oc la lc) = true := outS_ok _ _ _ _ _ _ _
theorem boxO (W : World) (C : List Value) (h : okL 24 C = true) : Below W.heap.size W ((W.alloc (.cells (cat zs46).toArray 65)).setCells W.heap.size 0 C) ∧ ((W.alloc (.cells (cat zs46).toArray 65)).setCells W.heap.size 0 C).row? W.heap.size 0 24 = some C ∧ (W.alloc (.cells (cat zs46).toArray 65)).free? W.heap.size 0 24 = true := by
 have hf : (W.alloc (.cells (cat zs46).toArray 65)).free? W.heap.size 0 24 = true := World.free?_alloc_at _ _ rfl (by rw [zs46_len]; omega)
 exact ⟨((Below.refl _ _).alloc (Nat.le_refl _) _).setCells (Nat.le_refl _) _ _, row?_setCells_whole C hf h, hf⟩
def BothEnd (w : World) (g x : Int) (ad : Nat) (d : Bts) (S' : St) (e : Ending) (w' : World) : Prop :=
 ∃ oa oc la lc sb own' n', e = .returned (.tuple #[.agg (outV g x ad oa d.length oc la lc).toArray, .pointer (some ⟨sb, 0, none⟩), .bool true]) ∧ Below w.heap.size w w' ∧ StateAt TU w' own' sb S' [] n' ∧ ∀ b, own' b ≠ none → w.heap.size ≤ b
set_option maxRecDepth 100000 in
set_option maxHeartbeats 8000000 in
theorem law_both {w : World} {b c : Nat} {l : List Ac} {m : Msg} {dv : Value} {g x : Int} {ad : Nat} {d : Bts} {S' : St} (hl : l.length ≤ 100) (hac : ∀ i (hi : i < l.length), AcAt w b (0 + i * 55) l[i]) (hnn : ∀ x ∈ l, 0 ≤ x.nonce)
  (hd : RoAt w (fun _ => False) dv m.data) (had : ad < wA) (hP : RunsP m dv ⟨0, 0, 0, 0, 0⟩ (newS l) g x ad d S') (hR : RunsR m dv ⟨0, 0, 0, 0, 0⟩ (newS l) g x ad d S') (hz : ∀ a k, (S' a).slots k = 0) :
  Calls Tryz.prog 27 #[.slice (some ⟨b, 0, none⟩) l.length c, .agg (cat (msgS m dv)).toArray] w (BothEnd w g x ad d S') := by
 have hml := msgS_len m dv
 obtain ⟨w0, e0⟩ : ∃ w0, w0 = (w.alloc (.cells (cat (msgS m dv)).toArray 62)).alloc (.cells (cat zs46).toArray 65) := ⟨_, rfl⟩
 have hb0 : Below w.heap.size w w0 := by rw [e0]; exact ((Below.refl _ _).alloc (Nat.le_refl _) _).alloc (by simp) _
 have r0 : w0.row? w.heap.size 0 129 = some (cat (msgS m dv)) := by rw [e0, World.row?_alloc_lt _ (by simp)]; exact World.row?_alloc_at _ _ _ rfl hml
 have f0 : w0.free? (w.heap.size + 1) 0 24 = true := by rw [e0]; exact World.free?_alloc_at _ _ (by simp) (by rw [zs46_len]; omega)
 have HN := Lib.hid (state_new b 0 c l (by omega) w0 (fun i hi => (hac i hi).below hb0))
 have HNR := Lib.hid (fun (W : World) (hW : Below w.heap.size w W) => r_new b 0 c l hl W (fun i hi => (hac i hi).below hW) hnn)
 have HE := Lib.hid e0
 have HB0 := Lib.hid hb0
 have HR0 := Lib.hid r0
 have HF0 := Lib.hid f0
 have HD := Lib.hid hd
 have HP := Lib.hid hP
 have HR := Lib.hid hR
 have HZ := Lib.hid hz
 have HS0 : Hid (w.heap.size + 1 < w0.heap.size) := free?_lt f0
 have HLL := Lib.hid hl
 clear hac hnn hd hP hR hz e0 hb0 r0 f0 hl
 go_enter Tryz.func27, Tryz.ntmps27
 go_wp2_with fail
 rw [← HE.out]
 refine HN.out.mono ?_
 rintro e w1 ⟨sb, rfl, hb1, own, hst, hlo⟩
 have HST := Lib.hid hst
 have HLO := Lib.hid hlo
 have HB1 : Hid (Below w.heap.size w w1) := HB0.out.trans (hb1.mono HB0.out.size)
 have HB01 := Lib.hid hb1
 clear hb1 hst hlo HN
 go_wp2_with fail
 refine (HNR.out _ HB1.out).mono ?_
 rintro e w2 ⟨sr, own2, rfl, hnw⟩
 have HNW := Lib.hid hnw
 have HB2 : Hid (Below w.heap.size w w2) := HB1.out.trans (hnw.below.mono HB1.out.size)
 have HB02 : Hid (Below w0.heap.size w0 w2) := HB01.out.trans (hnw.below.mono HB01.out.size)
 have HST2 := Lib.hid (HST.out.below hnw.below)
 have HLW := Lib.hid HST.out.lows
 have r2 : w2.row? w.heap.size 0 129 = some (cat (msgS m dv)) := ((brow HB02.out).1 _ _ _ (World.row?_lt HR0.out)).trans HR0.out
 have HR2 := Lib.hid r2
 have HD2 : Hid (RoAt w2 (fun b => w.heap.size ≤ b) dv m.data) := HD.out.only (R := fun _ => False) (Only.of_below_size HB2.out) (fun _ h => h.elim) (fun b hb hx => by omega)
 have hcx : ctxS ⟨0, 0, 0, 0, 0⟩ = zs49 := rfl
 have HRP := Lib.hid (HP.out w2 own sb HST2.out (HD2.out.weak fun b _ hx => by have := HLO.out b hx; have := HS0.out; omega))
 rw [hcx] at HRP
 clear hnw HNR
 go_wp2_with fail
 refine HRP.out.mono ?_
 rintro e w3 ⟨oa, oc, la, lc, own3, n3, rfl, hro3, st3, g3, hn3⟩
 obtain ⟨X, hX⟩ : ∃ X, X = outV g x ad oa d.length oc la lc := ⟨_, rfl⟩
 rw [← hX]
 have hXl : X.length = 24 := by rw [hX]; exact outV_len _ _ _ _ _ _ _ _
 have hXk : okL 24 X = true := by rw [hX]; exact outV_ok _ _ _ _ _ _ _ _
 obtain ⟨x1, x2, x3⟩ := boxO w3 X hXk
 obtain ⟨w4, e4⟩ : ∃ w4, w4 = (w3.alloc (.cells (cat zs46).toArray 65)).setCells w3.heap.size 0 X := ⟨_, rfl⟩
 rw [← e4] at x1 x2
 have hkeep : ∀ b, b < w0.heap.size → ¬ own b ≠ none := fun b hb hx => by have := HLO.out b hx; omega
 have r3 : w3.row? w.heap.size 0 129 = some (cat (msgS m dv)) := (g3.only.row? (World.row?_lt HR2.out) (hkeep _ (by have := HS0.out; omega))).trans HR2.out
 have r4 : w4.row? w.heap.size 0 129 = some (cat (msgS m dv)) := ((brow x1).1 _ _ _ (World.row?_lt r3)).trans r3
 have HF2 : Hid (w2.free? (w.heap.size + 1) 0 24 = true) := ((brow HB02.out).2 _ _ _ (free?_lt HF0.out)).trans HF0.out
 have HF4 : Hid (w4.free? (w.heap.size + 1) 0 24 = true) := by
  have f3 : w3.free? (w.heap.size + 1) 0 24 = true := (g3.only.free? (free?_lt HF2.out) (hkeep _ HS0.out)).trans HF2.out
  exact ((brow x1).2 _ _ _ (free?_lt f3)).trans f3
 have HST4 := Lib.hid (st3.below x1)
 have HGE3 : Hid (∀ b, own3 b ≠ none → w.heap.size ≤ b) := by
  intro b hb
  by_cases hlt : b < w2.heap.size
  ·rw [g3.ext b hlt] at hb; have := HLO.out b hb; have := HS0.out; omega
  ·have := HB2.out.size; omega
 have HO3 : Hid (own3 (w.heap.size + 1) = none) := by
  show own3 (w.heap.size + 1) = none
  rw [g3.ext _ (free?_lt HF2.out)]
  exact Classical.not_not.1 (hkeep _ HS0.out)
 -- the two states lie apart
 have hap : ∀ b, own2 b ≠ none → own b = none := fun b hb => by
  have h1 := HNW.out.ge b hb
  have : ¬ own b ≠ none := fun h => by have := HLW.out b h; omega
  exact Classical.not_not.1 this
 have hap2 : ∀ b, own b ≠ none → own2 b = none := fun b hb => by
  have : ¬ own2 b ≠ none := fun h => hb (hap b h)
  exact Classical.not_not.1 this
 have HAP3 : Hid (∀ b, own2 b ≠ none → own3 b = none) := fun b hb => by rw [g3.ext b (HNW.out.st.lows b hb)]; exact hap b hb
 have HRS4 : Hid (RState w4 own2 sr (newS l) [] (8 * l.length)) := (HNW.out.st.only g3.only hap2).below x1
 have HD4 : Hid (RoAt w4 (fun b => w.heap.size ≤ b) dv m.data) := (HD2.out.only g3.only (fun b hb => by have := HLO.out b hb; have := HS0.out; show w.heap.size ≤ b; omega) (fun _ _ h => h)).below x1
 have HRO4 : Hid (RoAt w4 (fun b => own3 b ≠ none ∨ b < w2.heap.size) (.slice oa d.length oc) d) := hro3.below x1
 have HB3 : Hid (Below w.heap.size w w3) := HB2.out.trans (g3.only.below HB2.out.size (fun i hi => by have := HLO.out i hi; have := HS0.out; omega))
 have HB4 : Hid (Below w.heap.size w w4) := HB3.out.trans (x1.mono HB3.out.size)
 obtain ⟨B9, hB9⟩ : ∃ B9, B9 = w3.heap.size := ⟨_, rfl⟩
 have HX4 : Hid (w4.row? B9 0 24 = some X) := by rw [hB9]; exact x2
 have HB23 : Hid (w2.heap.size ≤ B9) := by rw [hB9]; exact g3.only.size
 have HE4 := Lib.hid e4
 have HBN := Lib.hid hB9
 have HXX := Lib.hid hX
 have HRR := Lib.hid (HR.out w4 own2 sr _ (by have := HLL.out; omega) HRS4.out (HD4.out.weak fun b _ hx => by have h1 := HNW.out.ge b hx.1; have := HB1.out.size; show w.heap.size ≤ b; omega))
 rw [hcx] at HRR
 have q4 := r4
 rw [e4] at q4
 clear r2 hro3 st3 g3 hX x1 x2 e4 hkeep r3 r4 hap hap2 hB9 HRP
 have HN3 := Lib.hid hn3
 clear hn3
 go_wp2_with fail
 rw [← HE4.out]
 rw [← HBN.out]
 refine HRR.out.mono ?_
 rintro e w5 ⟨oa2, oc2, la2, lc2, own5, M5, n5, rfl, hi5, st5, g5, hn5⟩
 obtain ⟨Y, hY⟩ : ∃ Y, Y = outV g x ad oa2 d.length oc2 la2 lc2 := ⟨_, rfl⟩
 rw [← hY]
 have hYl : Y.length = 24 := by rw [hY]; exact outV_len _ _ _ _ _ _ _ _
 have hYk : okL 24 Y = true := by rw [hY]; exact outV_ok _ _ _ _ _ _ _ _
 obtain ⟨y1, y2, y3⟩ := boxO w5 Y hYk
 obtain ⟨w6, e6⟩ : ∃ w6, w6 = (w5.alloc (.cells (cat zs46).toArray 65)).setCells w5.heap.size 0 Y := ⟨_, rfl⟩
 rw [← e6] at y1 y2
 have hk2 : ∀ b, (b < w1.heap.size ∨ w2.heap.size ≤ b) → ¬ hot own2 b := fun b hb hx => by
  have h1 := HNW.out.ge b hx.1
  have h2 := HNW.out.st.lows b hx.1
  omega
 have hs12 : w0.heap.size ≤ w1.heap.size := HB01.out.size
 have HX6 : Hid (w6.row? B9 0 24 = some X) := by
  have h1 : w5.row? B9 0 24 = some X := (g5.only.row? (World.row?_lt HX4.out) (hk2 _ (.inr HB23.out))).trans HX4.out
  exact ((brow y1).1 _ _ _ (World.row?_lt h1)).trans h1
 have HF6 : Hid (w6.free? (w.heap.size + 1) 0 24 = true) := by
  have h1 : w5.free? (w.heap.size + 1) 0 24 = true := (g5.only.free? (free?_lt HF4.out) (hk2 _ (.inl (by have := HS0.out; omega)))).trans HF4.out
  exact ((brow y1).2 _ _ _ (free?_lt h1)).trans h1
 have HST6 : Hid (StateAt TU w6 own3 sb S' [] n3) := (HST4.out.only g5.only (fun b hb => HAP3.out b hb.1)).below y1
 have HRS6 := Lib.hid (st5.below y1)
 have HI6 := Lib.hid (hi5.below y1)
 have HIP6 : Hid (Ints w6 .u8 oa oc d) := by
  have h1 := HRO4.out.only (X' := fun _ => False) (R := hot own2) g5.only (fun b hb => .inr (HNW.out.st.lows b hb.1)) (fun _ _ h => h.elim)
  obtain ⟨⟨a', c', e', i', _⟩, _, _⟩ := h1.below y1
  cases e'
  exact i'
 have HB5 : Hid (Below w.heap.size w w5) := HB4.out.trans (g5.only.below HB4.out.size (fun i hi => by have h1 := HNW.out.ge i hi.1; have := HS0.out; omega))
 have HB6 : Hid (Below w.heap.size w w6) := HB5.out.trans (y1.mono HB5.out.size)
 obtain ⟨B10, hB10⟩ : ∃ B10, B10 = w5.heap.size := ⟨_, rfl⟩
 have HY6 : Hid (w6.row? B10 0 24 = some Y) := by rw [hB10]; exact y2
 have HE6 := Lib.hid e6
 have HBN2 := Lib.hid hB10
 have HYY := Lib.hid hY
 have HN5 := Lib.hid hn5
 obtain ⟨B4, hB4⟩ : ∃ B4, B4 = w.heap.size + 1 := ⟨_, rfl⟩
 have HB4E := Lib.hid hB4
 rw [← hB4] at HF6
 obtain ⟨T, hT⟩ : ∃ T : World → Prop, T = fun W => Only (fun b => b = B4) w6 W ∧ W.free? B4 0 24 = true := ⟨_, rfl⟩
 have HT := Lib.hid hT
 have HTB : Hid (∀ w2 w3, T w2 → Below w2.heap.size w2 w3 → T w3) := by
  show ∀ w2 w3, T w2 → Below w2.heap.size w2 w3 → T w3
  rw [hT]
  intro w2 w3 h hb
  exact ⟨h.1.trans (T := fun _ => False) (Only.of_below_size hb) (fun _ h _ => h.elim), ((brow hb).2 _ _ _ (free?_lt h.2)).trans h.2⟩
 have HTZ : Hid (∀ w2, T w2 → T (w2.setCells B4 0 X)) := by
  show ∀ w2, T w2 → T (w2.setCells B4 0 X)
  rw [hT]
  intro w2 h
  exact ⟨Only.setCells h.1 (fun _ => rfl) _ _, by rw [World.free?_setCells']; exact h.2⟩
 have HTG : Hid (∀ w2, T w2 → Only (fun b => b = B4) w6 w2) := by show ∀ w2, T w2 → _; rw [hT]; intro w2 h; exact h.1
 have HFR : Hid (∀ w2, T w2 → w2.free? B4 0 24 = true) := by show ∀ w2, T w2 → _; rw [hT]; intro w2 h; exact h.2
 have hb94 : B4 < B9 := by have h1 := HB23.out; have h2 := free?_lt HF2.out; omega
 have hb104 : B4 < B10 := by have h1 := World.row?_lt HX4.out; have h2 := g5.only.size; omega
 have HRW : Hid (∀ W, T W → W.row? B9 0 24 = some X ∧ W.row? B10 0 24 = some Y) := fun W hW => ⟨((HTG.out _ hW).row? (World.row?_lt HX6.out) (by omega)).trans HX6.out, ((HTG.out _ hW).row? (World.row?_lt HY6.out) (by omega)).trans HY6.out⟩
 have HO3b : Hid (own3 B4 = none) := by rw [hB4]; exact HO3.out
 have HO5 : Hid (own5 B4 = none) := by
  show own5 B4 = none
  rw [g5.ext _ (by rw [hB4]; exact free?_lt HF4.out)]
  have : ¬ own2 B4 ≠ none := fun hx => by have h1 := HNW.out.ge _ hx; have := HS0.out; omega
  exact Classical.not_not.1 this
 have HSTW : Hid (∀ W, T W → StateAt TU W own3 sb S' [] n3) := fun W hW => HST6.out.only (HTG.out _ hW) (fun b hb => by rw [hb]; exact HO3b.out)
 have HRSW : Hid (∀ W, T W → RState W own5 sr S' M5 n5) := fun W hW => HRS6.out.only (HTG.out _ hW) (fun b hb => by have e : b = B4 := hb; rw [e]; exact HO5.out)
 have HBW : Hid (∀ W, T W → Below w.heap.size w W) := fun W hW => HB6.out.trans ((HTG.out _ hW).below HB6.out.size (fun i hi => by have e : i = B4 := hi; omega))
 have t0 : T w6.drew := HTB.out w6 _ (by rw [hT]; exact ⟨Only.refl _ _, HF6.out⟩) (Below.refl _ _).drew
 clear hb94 hb104 hB4
 clear hi5 st5 g5 hn5 hY y1 y2 e6 hk2 hs12 hB10 hT q4 x3 HRR
 go_wp2_with fail
 rw [← HE6.out]
 rw [← HBN2.out]
 rw [← HB4E.out]
 refine wp_region_tree T [] (.take 0 (.pure 1 (.take 2 (.take 3 (.alt 4 (.pure 5 (.pure 6 (.pure 8 (.alt 7 (.alt 9 (.alt 10 (.pure 11 (.alt 12 (.pure 13 (.pure 14 .fin)) .stop)) .stop) .stop) .stop)))) .stop))))) (by kernel_rfl) (by kernel_rfl) ?_
 refine tree_take ?_ t0 rfl (by rfl) (fun w' hs => ?_) (fun _ _ _ h => h) ?_
 rotate_left
 ·rw [HT.out] at hs
  obtain ⟨g9, g10⟩ := HRW.out w' (by rw [HT.out]; exact hs)
  go_simp
  try rfl
 simp only [Act.put, tsa, tsb, tsc]
 refine tree_pure ?_ rfl (by rfl) (fun w' hs => ?_) (fun _ _ _ h => h) ?_
 rotate_left
 ·clear hs
  go_simp
  try rfl
 simp only [Act.put, tsa, tsb, tsc]
 refine tree_take ?_ t0 rfl (by rfl) (fun w' hs => ?_) (fun _ _ _ h => h) ?_
 rotate_left
 ·rw [HT.out] at hs
  obtain ⟨g9, g10⟩ := HRW.out w' (by rw [HT.out]; exact hs)
  go_simp
  try rfl
 simp only [Act.put, tsa, tsb, tsc]
 refine tree_take ?_ t0 rfl (by rfl) (fun w' hs => ?_) (fun _ _ _ h => h) ?_
 rotate_left
 ·rw [HT.out] at hs
  obtain ⟨g9, g10⟩ := HRW.out w' (by rw [HT.out]; exact hs)
  go_simp
  try rfl
 simp only [Act.put, tsa, tsb, tsc]
 refine tree_run rfl (fun K hK => ?_)
 go_simp
 have HSO := same_outcome (w := w6.drew) g x d ad oa oa2 la la2 oc oc2 lc lc2 had (HIP6.out.below (Below.refl _ _).drew) (HI6.out.below (Below.refl _ _).drew)
 change Calls Tryz.prog 68 #[.agg (outV g x ad oa d.length oc la lc).toArray, .agg (outV g x ad oa2 d.length oc2 la2 lc2).toArray] _ _ at HSO
 rw [← HXX.out, ← HYY.out] at HSO
 refine HSO.mono ?_
 rintro e w91 ⟨rfl, hb91⟩
 have t1 : T w91 := HTB.out _ _ t0 hb91
 clear hb91
 refine hK.out _ _ t1 ?_
 clear hK K
 refine tree_pure ?_ rfl (by rfl) (fun w' hs => ?_) (fun _ _ _ h => h) ?_
 rotate_left
 ·clear hs
  go_simp
  try rfl
 simp only [Act.put, tsa, tsb, tsc]
 refine tree_pure ?_ rfl (by rfl) (fun w' hs => ?_) (fun _ _ _ h => h) ?_
 rotate_left
 ·clear hs
  go_simp
  try rfl
 simp only [Act.put, tsa, tsb, tsc]
 refine tree_pure ?_ rfl (by rfl) (fun w' hs => ?_) (fun _ _ _ h => h) ?_
 rotate_left
 ·clear hs
  go_simp
  try rfl
 simp only [Act.put, tsa, tsb, tsc]
 refine tree_run rfl (fun K hK => ?_)
 go_simp
 refine (st_accounts (HSTW.out _ t1) HN3.out HZ.out).mono ?_
 rintro e w92 ⟨v1, cs1, rfl, hA1, hL1, hC1⟩
 have t2 : T w92 := HTB.out _ _ t1 hA1.below
 have HA1 := Lib.hid hA1
 have HL1 := Lib.hid hL1
 have HC1 := Lib.hid hC1
 clear hA1 hL1 hC1
 refine hK.out _ _ t2 ?_
 clear hK K
 refine tree_run rfl (fun K hK => ?_)
 go_simp
 refine (r_accounts (HRSW.out _ t2) (by have := HN5.out; omega)).mono ?_
 rintro e w93 ⟨v2, ds2, rfl, hA2, hL2⟩
 have t3 : T w93 := HTB.out _ _ t2 hA2.below
 have HA2 := Lib.hid hA2
 have HL2 := Lib.hid hL2
 clear hA2 hL2
 refine hK.out _ _ t3 ?_
 clear hK K
 refine tree_run rfl (fun K hK => ?_)
 go_simp
 have hds : fsts ds2 = (cs1.map Prod.fst).map fun a => ⟨acOf a (S' a), []⟩ := accsX_eq HL2.out HL1.out HZ.out
 obtain ⟨hro, hez⟩ := accs_rows (HA1.out.next HA2.out.below)
 have hsl : ∀ p ∈ ds2, p.1.slots = [] := by
   intro p hp
   have h1 : p.1 ∈ fsts ds2 := List.mem_map.2 ⟨p, hp, rfl⟩
   rw [hds] at h1
   obtain ⟨a, _, ha⟩ := List.mem_map.1 h1
   rw [← ha]
 refine (same_accs0 hro HA2.out.own hez (cop_easy HA2.out hsl) (by rw [hds, accsX_fsts]) (by rw [List.length_map]; exact HC1.out)).mono ?_
 rintro e w94 ⟨rfl, hb94⟩
 have t4 : T w94 := HTB.out _ _ t3 hb94
 have tf := HFR.out _ t4
 clear hb94 hds hro hez hsl
 refine hK.out _ _ t4 ?_
 clear hK K
 refine tree_pure ?_ rfl (by rfl) (fun w' hs => ?_) (fun _ _ _ h => h) ?_
 rotate_left
 ·clear hs
  go_simp
  try rfl
 simp only [Act.put, tsa, tsb, tsc]
 refine tree_run rfl (fun K hK => ?_)
 go_simp
 have t5 : T (w94.setCells B4 0 X) := HTZ.out _ t4
 refine hK.out _ _ t5 ?_
 clear hK K
 refine tree_pure ?_ rfl (by rfl) (fun w' hs => ?_) (fun _ _ _ h => h) ?_
 rotate_left
 ·clear hs
  go_simp
  try rfl
 simp only [Act.put, tsa, tsb, tsc]
 refine tree_pure ?_ rfl (by rfl) (fun w' hs => ?_) (fun _ _ _ h => h) ?_
 rotate_left
 ·clear hs
  go_simp
  try rfl
 simp only [Act.put, tsa, tsb, tsc]
 refine tree_fin ?_
 have rz : (w94.setCells B4 0 X).row? B4 0 24 = some X := row?_setCells_whole X (HFR.out _ t4) hXk
 go_wp2
 refine ret_row3b ty46 rfl X _ _ rfl rfl rfl rfl rz ?_
 rw [HXX.out]
 rw [HXX.out] at t5
 exact ⟨oa, oc, la, lc, sb, own3, n3, rfl, HBW.out _ t5, HSTW.out _ t5, HGE3.out⟩
theorem runsP_no {m : Msg} {dv : Value} {x : Int} {S : St} (hm : MsgOk m) (hk : m.kind = 0) (hg : 0 < m.gas) (hx : mayN S m x) : RunsP m dv ⟨0, 0, 0, 0, 0⟩ S m.gas x 0 [] S := by
 intro w own sb hst hd
 refine (evm_run_no (N := 1000000) hst (by decide) hm hk hg hd hx).mono ?_
 rintro e w' ⟨rfl, hb⟩
 exact ⟨none, 0, none, 0, own, 0, rfl, roAt_nil _ _, hst.below hb, Chg.below own hb, by decide⟩
theorem runsR_no {m : Msg} {dv : Value} {x : Int} {S : St} (hm : MsgOk m) (hk : m.kind = 0) (hg : 0 ≤ m.gas) (hx : mayN S m x) : RunsR m dv ⟨0, 0, 0, 0, 0⟩ S m.gas x 0 [] S := by
 intro w own sb n hn hst hd
 have key : Calls Tryz.prog 64 #[.pointer (some ⟨sb, 0, none⟩), .agg (cat (msgS m dv)).toArray, .agg (cat (ctxS ⟨0, 0, 0, 0, 0⟩)).toArray] w (NoOut w m.gas x) := by
  rcases hx with ⟨rfl, h1⟩ | ⟨rfl, h1, h2⟩
  ·exact r_run_deep hst hm hk hg h1
  ·exact r_run_funds hst hm hk hg h1 h2 (by omega)
 refine key.mono ?_
 rintro e w' ⟨rfl, hb⟩
 exact ⟨none, 0, none, 0, own, [], n, rfl, ⟨fun h => absurd rfl h, fun _ => rfl, Nat.le_refl _, Nat.zero_le _⟩, hst.below hb, ChgR.below own hb, by omega⟩
theorem runsP_ok {m : Msg} {dv : Value} {S S1 S' : St} {f' : Fr} {K : Nat} (hm : MsgOk m) (hk : m.kind = 0) (hg : 0 ≤ m.gas ∧ m.gas ≤ 1000000) (hd : m.depth ≤ 64) (hmv : S.move m.frm m.to m.value = some S1) (hl : loopR stepP K (frame0 m (S1 m.to).code) S1 = some (0, f', S')) (ho : f'.logs = []) :
  RunsP m dv ⟨0, 0, 0, 0, 0⟩ S f'.gas 0 0 f'.out S' := by
 intro w own sb hst hda
 refine (evm_run_ok (N := 3 + m.gas.toNat) hst (by omega) hm hk hg.1 hd hda (by omega) (fun rb tb tab ht => stepP_ok ht) hmv hl).mono ?_
 rintro e w' ⟨o, ov, lv, own', n', rfl, st, g, oa, h1, h2, h3, h4, h5, h6, h7⟩
 have hout := oa.out
 obtain ⟨a, k, b, j, rfl, rfl⟩ := oa.forms
 rw [h6, ho] at oa ⊢
 rw [h5] at hout ⊢
 refine ⟨a, k, b, j, own', n', ?_, hout, st, g, by omega⟩
 unfold outV outS
 rw [h4, h3, h7]
 rfl
theorem runsR_ok {m : Msg} {dv : Value} {S S1 S' : St} {f' : Fr} {K : Nat} (hm : MsgOk m) (hk : m.kind = 0) (hg : 0 ≤ m.gas ∧ m.gas ≤ 900000) (hd : m.depth ≤ 64) (hs : m.static = false) (hmv : S.move m.frm m.to m.value = some S1) (hl : loopX (rstepR prE doE) K (frame0 m (S1 m.to).code) S1 = some (0, f', S')) (ho : f'.out = []) :
  RunsR m dv ⟨0, 0, 0, 0, 0⟩ S f'.gas 0 0 f'.out S' := by
 intro w own sb n hn hst hda
 refine (r_run_call (N := 999000) (fun E => told_easy E) hst hm hk hg.1 hd hs hda (by omega) (Nat.le_refl _) hmv hl).mono ?_
 rintro e w' ⟨oa, oc, own', M', n', rfl, st, g, hn', hi⟩
 exact ⟨oa, oc, none, 0, own', M', n', rfl, hi ho, st, g, hn'⟩
theorem askM_value {w : World} {b v : Nat} (h : w.row? b 0 129 = some (cat (msgS (askM 0 0) (.slice none 0 0)))) : (w.setCells b 61 (beC 32 v)).row? b 0 129 = some (cat (msgS (askM v 0) (.slice none 0 0))) :=
 row_cat_set h (i := 4) rfl (by simp) (by simp [msgS, askM, offOf_succ, offOf_zero])
theorem eqW25 {a b : Nat} (ha : a < wW) (hb : b < wW) (w : World) : (binOp .eql 25 (.agg (beC 32 a).toArray) (.agg (beC 32 b).toArray)).run Tryz.prog w = .ok (.bool (decide (a = b))) w := by
 have := eql_of (fun d => eqD25 (a := a) (b := b) ha hb w d)
 simpa using this
end Go.Proofs.YtiglinnjnobodaaGreat
