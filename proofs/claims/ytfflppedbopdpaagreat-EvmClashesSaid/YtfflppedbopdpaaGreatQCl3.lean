/-
  The reference's machine: an account that is there already is not made.
  The reference's machine: Run of a message that makes by a salt, told of what create comes to.
  Two outcomes that are one.
  The law's both: a message by both texts, told of what each run comes to.
  What the runs of the two laws come to.
-/
import Derived.Test.YtfflppedbopdpaaGreatQCl1
import Derived.Test.YtfflppedbopdpaaGreatQRf1
set_option linter.unusedVariables false
set_option maxRecDepth 1000000
set_option maxHeartbeats 8000000
set_option linter.unusedSimpArgs false
namespace Go.Proofs.YtfflppedbopdpaaGreat
open Go.RowKit Go.Mun

theorem box20 (W : World) (C : List Value) (h : okL 20 C = true) : Below W.heap.size W ((W.alloc (.cells (zU8 20).toArray 23)).setCells W.heap.size 0 C) ∧ ((W.alloc (.cells (zU8 20).toArray 23)).setCells W.heap.size 0 C).row? W.heap.size 0 20 = some C ∧ (W.alloc (.cells (zU8 20).toArray 23)).free? W.heap.size 0 20 = true := by
 have hf : (W.alloc (.cells (zU8 20).toArray 23)).free? W.heap.size 0 20 = true := World.free?_alloc_at _ _ rfl (by simp)
 exact ⟨((Below.refl _ _).alloc (Nat.le_refl _) _).setCells (Nat.le_refl _) _ _, row?_setCells_whole C hf h, hf⟩
theorem box55 (W : World) (C : List Value) (h : okL 55 C = true) : Below W.heap.size W ((W.alloc (.cells (cat zs81).toArray 35)).setCells W.heap.size 0 C) ∧ ((W.alloc (.cells (cat zs81).toArray 35)).setCells W.heap.size 0 C).row? W.heap.size 0 55 = some C ∧ (W.alloc (.cells (cat zs81).toArray 35)).free? W.heap.size 0 55 = true := by
 have hf : (W.alloc (.cells (cat zs81).toArray 35)).free? W.heap.size 0 55 = true := World.free?_alloc_at _ _ rfl (by rw [zs81_len]; omega)
 exact ⟨((Below.refl _ _).alloc (Nat.le_refl _) _).setCells (Nat.le_refl _) _ _, row?_setCells_whole C hf h, hf⟩
theorem got_nonce {w : World} {own : Go.Mun.Own} {S : St} {n a : Nat} {p : RAc × Value × Value} (h : GotR w own S n a p) : p.1.ac.nonce = ((S a).nonce : Int) := by
 have h1 : p.1.ac.nonce.toNat = (S a).nonce := by have := congrArg Acc.nonce h.acc; exact this
 have h2 := h.ok.nonce.1
 omega
def RClash (w : World) (own : Go.Mun.Own) (sb : Nat) (S' : St) (M : List (Nat × St)) (n : Nat) (o : Outc) (e : Ending) (w' : World) : Prop :=
 e = .returned (.agg (cat (outS o (.slice none 0 0) (.slice none 0 0))).toArray) ∧ ∃ own' n', RState w' own' sb S' M n' ∧ ChgR w w' own own' ∧ n' ≤ n
theorem own_shapeS {w : World} {own : Go.Mun.Own} {v : Value} {l : List (Nat × Nat)} (h : SlotsAt w own v l) : ∃ a c, v = .slice a l.length c := own_shape h.read
theorem r_create_clash1 {w : World} {own : Go.Mun.Own} {sb n : Nat} {S : St} {M : List (Nat × St)} {m : Msg} {dv : Value} {cx : Ctx} {A nc : Nat} (g : Int) (h : RState w own sb S M n) (hm : MsgOk m) (hk : m.kind = 4) (hda : RoAt w (hot own) dv m.data) (hn : n ≤ 990000) (hdl : m.data.length ≤ 70000000000000)
  (hnc : nc = (S m.frm).nonce) (hncl : nc < 4611686018427387904) (hA : A = adr2Q m.frm m.salt m.data) (hx : ((S.setNonce m.frm (nc + 1)) A).nonce ≠ 0) :
  Calls Tryz.prog 67 #[.pointer (some ⟨sb, 0, none⟩), .agg (cat (msgS m dv)).toArray, .agg (cat (ctxS cx)).toArray, .int .i64 g] w (RClash w own sb (S.setNonce m.frm (nc + 1)) M (n + 4) ⟨0, 18, [], [], 0⟩) := by
 have hml := msgS_len m dv
 have hcl := ctxS_len cx
 obtain ⟨w0, e0⟩ : ∃ w0, w0 = ((w.alloc (.cells (cat (msgS m dv)).toArray 37)).alloc (.cells (cat (ctxS cx)).toArray 64)).alloc (.cells (cat zs46).toArray 41) := ⟨_, rfl⟩
 have hB0 : RunB w own m dv cx w0 own sb S M n := by rw [e0]; exact RunB.start h
 have q0 := msg_frm hB0.t4
 simp only [Nat.zero_add] at q0
 rw [e0] at q0
 have hfa := hm.frm
 obtain ⟨da, dk, hdv⟩ : ∃ a k, dv = .slice a m.data.length k := by obtain ⟨⟨a, k, h1, _⟩, _⟩ := hda; exact ⟨a, k, h1⟩
 have HBYT := Lib.hid hda.byte
 have HDA := Lib.hid hda
 have HDV := Lib.hid hdv
 have HDL := Lib.hid hdl
 have HB0 := Lib.hid hB0
 have HE := Lib.hid e0
 have HM := Lib.hid hm
 have HK := Lib.hid hk
 have HN := Lib.hid hn
 have HNC := Lib.hid hnc
 have HNL := Lib.hid hncl
 have hAl : A < wA := by rw [hA]; exact adr2Q_lt _ _ _
 have HAL := Lib.hid hAl
 have HA := Lib.hid hA
 have HX := Lib.hid hx
 have hadd : IntKind.i64.wrap ((nc : Int) + 1) = ((nc + 1 : Nat) : Int) := by rw [wrI _ (by omega) (by omega)]; omega
 obtain ⟨A0, hA0⟩ : ∃ A0, A0 = adrQ m.frm nc := ⟨_, rfl⟩
 have HAD0 : Hid (∀ w, Calls Tryz.prog 10 #[.agg (beC 20 m.frm).toArray, .int .i64 (nc : Int)] w fun e w' => e = .returned (.agg (beC 20 A0).toArray) ∧ Below w.heap.size w w') := fun w => by rw [hA0]; exact ref_address_nat m.frm nc (by omega) (by omega) w
 clear h hm hk hda hn hdl hnc hncl hA hx hB0 e0 hdv hA0 hAl
 go_enter Tryz.func67, Tryz.ntmps67
 go_wp2_with fail
 rw [← HE.out]
 refine (r_get HB0.out.st hfa (by have := HN.out; omega)).mono ?_
 rintro e w1 ⟨p, rfl, hb1, hg1⟩
 have hfp : ∀ W, (Instr.field 35 (.agg (racC p).toArray) 1).run Tryz.prog W = .ok (.int .i64 (nc : Int)) W := fun W => by rw [fld35_1, got_nonce hg1, HNC.out]
 obtain ⟨C, hC⟩ : ∃ C, C = racC p := ⟨_, rfl⟩
 rw [← hC] at hfp ⊢
 have HB1 := Lib.hid (HB0.out.below hb1)
 have q1 := msg_frm HB1.out.t4
 simp only [Nat.zero_add] at q1
 clear hb1 hg1 hC q0
 go_wp2_with fail
 refine (r_setNonce (nc + 1) HB1.out.st hfa (by have := HNL.out; omega) (by have := HN.out; omega)).mono ?_
 rintro e w2 ⟨rfl, own2, st2, g2⟩
 have st2' : RState w2 own2 sb (S.setNonce m.frm (nc + 1)) M (n + 2) := st2
 have HB2 := Lib.hid (HB1.out.go st2' g2)
 have q2 := msg_frm HB2.out.t4
 simp only [Nat.zero_add] at q2
 clear st2 st2' g2 q1 hfp
 go_wp2_with fail
 refine (HAD0.out _).mono ?_
 rintro e w3 ⟨rfl, hb3⟩
 have HB3 := Lib.hid (HB2.out.below hb3)
 have hok3 := beC_ok 20 A0
 have hl3 := beC_len 20 A0
 obtain ⟨x1, x2, x3⟩ := box20 w3 (beC 20 A0) hok3
 obtain ⟨B, hB⟩ : ∃ B, B = w3.heap.size := ⟨_, rfl⟩
 obtain ⟨w4, e4⟩ : ∃ w4, w4 = (w3.alloc (.cells (zU8 20).toArray 23)).setCells w3.heap.size 0 (beC 20 A0) := ⟨_, rfl⟩
 rw [← e4] at x1 x2
 have hzl := zU8_len 20
 have HB4 := Lib.hid (HB3.out.below x1)
 have hf4 : w4.free? B 0 20 = true := by rw [e4, World.free?_setCells', hB]; exact x3
 have HF4 := Lib.hid hf4
 have HBB : Hid (w.heap.size + 1 + 1 < B) := by show _ < _; rw [hB]; exact free?_lt HB3.out.t6
 have HOB : Hid (own2 B = none) := own_new HB3.out.st (by rw [hB]; exact Nat.le_refl _)
 have q4k := msg_kind HB4.out.t4
 rw [HK.out] at q4k
 have q4f := msg_frm HB4.out.t4
 have q4s := msg_salt HB4.out.t4
 have q4d := msg_data HB4.out.t4
 simp only [Nat.zero_add] at q4k q4f q4s q4d
 rw [e4] at q4k q4f q4s q4d
 have HI4 : Hid (Ints w4 .u8 da dk m.data) := by
  have h1 := HDA.out.only (X' := fun _ => False) HB4.out.chg.only (fun _ h => h) (fun _ _ h => h.elim)
  rw [HDV.out] at h1
  obtain ⟨⟨a', c', e', i', _⟩, _, _⟩ := h1
  cases e'
  exact i'
 have HAD : Hid (Calls Tryz.prog 12 #[.agg (beC 20 m.frm).toArray, .agg (beC 32 m.salt).toArray, dv] w4 fun e w' => e = .returned (.agg (beC 20 A).toArray) ∧ Below w4.heap.size w4 w') := by
  rw [HDV.out, HA.out]
  exact ref_address2_nat m.frm m.salt m.data da _ dk rfl HDL.out w4 HI4.out HBYT.out
 have HE4 := Lib.hid e4
 have HBE := Lib.hid hB
 clear hb3 x1 x2 e4 hB hf4 q2
 go_wp2_with fail
 rw [← HE4.out]
 rw [← HBE.out]
 refine HAD.out.mono ?_
 rintro e w5 ⟨rfl, hb5⟩
 have HB5 := Lib.hid (HB4.out.below hb5)
 have f5 : w5.free? B 0 20 = true := ((brow hb5).2 _ _ _ (free?_lt HF4.out)).trans HF4.out
 have hok5 := beC_ok 20 A
 have hl5 := beC_len 20 A
 obtain ⟨w6, e6⟩ : ∃ w6, w6 = w5.setCells B 0 (beC 20 A) := ⟨_, rfl⟩
 have r6 : w6.row? B 0 20 = some (beC 20 A) := by rw [e6]; exact row?_setCells_whole _ f5 hok5
 have HB6 : Hid (RunB w own m dv cx w6 own2 sb (S.setNonce m.frm (nc + 1)) M (n + 2)) := HB5.out.box (b := B) HBB.out HOB.out (by rw [e6]; exact Only.setCells (S := fun b => b = B) (Only.refl _ _) (fun _ => rfl) _ _)
 rw [e6] at r6
 have HE6 := Lib.hid e6
 clear hb5 e6 q4k q4f q4s q4d x3
 go_wp2_with fail
 rw [← HE6.out]
 refine (r_get HB6.out.st HAL.out (by have := HN.out; omega)).mono ?_
 rintro e w7 ⟨p, rfl, hb7, hg7⟩
 have HB7 := Lib.hid (HB6.out.below hb7)
 obtain ⟨⟨ca, ck, hcv, _, _⟩, _, _⟩ := hg7.ok.code
 obtain ⟨sa, sk, hsv⟩ := own_shapeS hg7.ok.slots
 have hok7 : okL 55 (racC p) = true := racC_ok' hcv hsv
 obtain ⟨y1, y2, y3⟩ := box55 w7 (racC p) hok7
 have hln7 := racC_len p
 obtain ⟨w8, e8⟩ : ∃ w8, w8 = (w7.alloc (.cells (cat zs81).toArray 35)).setCells w7.heap.size 0 (racC p) := ⟨_, rfl⟩
 rw [← e8] at y1 y2
 have HB8 := Lib.hid (HB7.out.below y1)
 have c20 : w8.cell? ⟨w7.heap.size, 20, none⟩ = some (.int .i64 p.1.ac.nonce) := cell_cat y2 (i := 1) rfl (by simp [acS, offOf_succ, offOf_zero])
 have c53 := cell_53 y2
 rw [Nat.zero_add, hcv] at c53
 have hnn := got_nonce hg7
 have hcc : p.1.ac.code = ((S.setNonce m.frm (nc + 1)) A).code := by have := congrArg Acc.code hg7.acc; exact this
 obtain ⟨x, hx⟩ : ∃ x : Nat, p.1.ac.nonce = (x : Int) := ⟨_, hnn⟩
 have hx0 : x ≠ 0 := by rw [hx] at hnn; have := HX.out; omega
 rw [hx] at c20
 have hxb : ((x : Int) != 0) = true := by simp; omega
 have hxe : (x = 0) = False := eq_false hx0
 have hxi : decide ((x : Int) = 0) = false := decide_eq_false (by omega)
 generalize p.1.ac.code.length = k at c53
 have HX0 := Lib.hid hx0
 clear hx hx0
 obtain ⟨C, hC⟩ : ∃ C, C = racC p := ⟨_, rfl⟩
 rw [← hC] at hok7 hln7 e8 ⊢
 rw [e8] at c20 c53
 have HE8 := Lib.hid e8
 clear hb7 hg7 hcv hsv y1 y2 e8 hnn hcc hC r6 f5
 go_wp2_with fail
 rw [← HE8.out]
 refine (ref_failed 0 18 _).mono ?_
 rintro e w9 ⟨rfl, hb9⟩
 have HB9 := Lib.hid (HB8.out.below hb9)
 have f9 := HB9.out.t6
 have hok := outS_ok ⟨0, 18, [], [], 0⟩ none none 0 0 0 0
 clear hb9
 go_wp2
 refine ret_row ty46 rfl _ rfl rfl f9 hok ?_
 have ob : Only (· = w.heap.size + 1 + 1) w9 (w9.setCells (w.heap.size + 1 + 1) 0 (cat (outS ⟨0, 18, [], [], 0⟩ (.slice none 0 0) (.slice none 0 0)))) := Only.setCells (S := fun b => b = w.heap.size + 1 + 1) (Only.refl _ _) (fun _ => rfl) _ _
 exact ⟨rfl, own2, _, HB9.out.st.only ob (fun b hb => by have e : b = w.heap.size + 1 + 1 := hb; rw [e]; exact HB9.out.o6), ⟨HB9.out.chg.ext, HB9.out.chg.only.trans ob (fun i hi he => by have : i = w.heap.size + 1 + 1 := hi; omega)⟩, by omega⟩
theorem r_create_clash2 {w : World} {own : Go.Mun.Own} {sb n : Nat} {S : St} {M : List (Nat × St)} {m : Msg} {dv : Value} {cx : Ctx} {A nc : Nat} (g : Int) (h : RState w own sb S M n) (hm : MsgOk m) (hk : m.kind = 4) (hda : RoAt w (hot own) dv m.data) (hn : n ≤ 990000) (hdl : m.data.length ≤ 70000000000000)
  (hnc : nc = (S m.frm).nonce) (hncl : nc < 4611686018427387904) (hA : A = adr2Q m.frm m.salt m.data) (hx : ((S.setNonce m.frm (nc + 1)) A).nonce = 0 ∧ ((S.setNonce m.frm (nc + 1)) A).code ≠ []) :
  Calls Tryz.prog 67 #[.pointer (some ⟨sb, 0, none⟩), .agg (cat (msgS m dv)).toArray, .agg (cat (ctxS cx)).toArray, .int .i64 g] w (RClash w own sb (S.setNonce m.frm (nc + 1)) M (n + 4) ⟨0, 18, [], [], 0⟩) := by
 have hml := msgS_len m dv
 have hcl := ctxS_len cx
 obtain ⟨w0, e0⟩ : ∃ w0, w0 = ((w.alloc (.cells (cat (msgS m dv)).toArray 37)).alloc (.cells (cat (ctxS cx)).toArray 64)).alloc (.cells (cat zs46).toArray 41) := ⟨_, rfl⟩
 have hB0 : RunB w own m dv cx w0 own sb S M n := by rw [e0]; exact RunB.start h
 have q0 := msg_frm hB0.t4
 simp only [Nat.zero_add] at q0
 rw [e0] at q0
 have hfa := hm.frm
 obtain ⟨da, dk, hdv⟩ : ∃ a k, dv = .slice a m.data.length k := by obtain ⟨⟨a, k, h1, _⟩, _⟩ := hda; exact ⟨a, k, h1⟩
 have HBYT := Lib.hid hda.byte
 have HDA := Lib.hid hda
 have HDV := Lib.hid hdv
 have HDL := Lib.hid hdl
 have HB0 := Lib.hid hB0
 have HE := Lib.hid e0
 have HM := Lib.hid hm
 have HK := Lib.hid hk
 have HN := Lib.hid hn
 have HNC := Lib.hid hnc
 have HNL := Lib.hid hncl
 have hAl : A < wA := by rw [hA]; exact adr2Q_lt _ _ _
 have HAL := Lib.hid hAl
 have HA := Lib.hid hA
 have HX := Lib.hid hx
 have hadd : IntKind.i64.wrap ((nc : Int) + 1) = ((nc + 1 : Nat) : Int) := by rw [wrI _ (by omega) (by omega)]; omega
 obtain ⟨A0, hA0⟩ : ∃ A0, A0 = adrQ m.frm nc := ⟨_, rfl⟩
 have HAD0 : Hid (∀ w, Calls Tryz.prog 10 #[.agg (beC 20 m.frm).toArray, .int .i64 (nc : Int)] w fun e w' => e = .returned (.agg (beC 20 A0).toArray) ∧ Below w.heap.size w w') := fun w => by rw [hA0]; exact ref_address_nat m.frm nc (by omega) (by omega) w
 clear h hm hk hda hn hdl hnc hncl hA hx hB0 e0 hdv hA0 hAl
 go_enter Tryz.func67, Tryz.ntmps67
 go_wp2_with fail
 rw [← HE.out]
 refine (r_get HB0.out.st hfa (by have := HN.out; omega)).mono ?_
 rintro e w1 ⟨p, rfl, hb1, hg1⟩
 have hfp : ∀ W, (Instr.field 35 (.agg (racC p).toArray) 1).run Tryz.prog W = .ok (.int .i64 (nc : Int)) W := fun W => by rw [fld35_1, got_nonce hg1, HNC.out]
 obtain ⟨C, hC⟩ : ∃ C, C = racC p := ⟨_, rfl⟩
 rw [← hC] at hfp ⊢
 have HB1 := Lib.hid (HB0.out.below hb1)
 have q1 := msg_frm HB1.out.t4
 simp only [Nat.zero_add] at q1
 clear hb1 hg1 hC q0
 go_wp2_with fail
 refine (r_setNonce (nc + 1) HB1.out.st hfa (by have := HNL.out; omega) (by have := HN.out; omega)).mono ?_
 rintro e w2 ⟨rfl, own2, st2, g2⟩
 have st2' : RState w2 own2 sb (S.setNonce m.frm (nc + 1)) M (n + 2) := st2
 have HB2 := Lib.hid (HB1.out.go st2' g2)
 have q2 := msg_frm HB2.out.t4
 simp only [Nat.zero_add] at q2
 clear st2 st2' g2 q1 hfp
 go_wp2_with fail
 refine (HAD0.out _).mono ?_
 rintro e w3 ⟨rfl, hb3⟩
 have HB3 := Lib.hid (HB2.out.below hb3)
 have hok3 := beC_ok 20 A0
 have hl3 := beC_len 20 A0
 obtain ⟨x1, x2, x3⟩ := box20 w3 (beC 20 A0) hok3
 obtain ⟨B, hB⟩ : ∃ B, B = w3.heap.size := ⟨_, rfl⟩
 obtain ⟨w4, e4⟩ : ∃ w4, w4 = (w3.alloc (.cells (zU8 20).toArray 23)).setCells w3.heap.size 0 (beC 20 A0) := ⟨_, rfl⟩
 rw [← e4] at x1 x2
 have hzl := zU8_len 20
 have HB4 := Lib.hid (HB3.out.below x1)
 have hf4 : w4.free? B 0 20 = true := by rw [e4, World.free?_setCells', hB]; exact x3
 have HF4 := Lib.hid hf4
 have HBB : Hid (w.heap.size + 1 + 1 < B) := by show _ < _; rw [hB]; exact free?_lt HB3.out.t6
 have HOB : Hid (own2 B = none) := own_new HB3.out.st (by rw [hB]; exact Nat.le_refl _)
 have q4k := msg_kind HB4.out.t4
 rw [HK.out] at q4k
 have q4f := msg_frm HB4.out.t4
 have q4s := msg_salt HB4.out.t4
 have q4d := msg_data HB4.out.t4
 simp only [Nat.zero_add] at q4k q4f q4s q4d
 rw [e4] at q4k q4f q4s q4d
 have HI4 : Hid (Ints w4 .u8 da dk m.data) := by
  have h1 := HDA.out.only (X' := fun _ => False) HB4.out.chg.only (fun _ h => h) (fun _ _ h => h.elim)
  rw [HDV.out] at h1
  obtain ⟨⟨a', c', e', i', _⟩, _, _⟩ := h1
  cases e'
  exact i'
 have HAD : Hid (Calls Tryz.prog 12 #[.agg (beC 20 m.frm).toArray, .agg (beC 32 m.salt).toArray, dv] w4 fun e w' => e = .returned (.agg (beC 20 A).toArray) ∧ Below w4.heap.size w4 w') := by
  rw [HDV.out, HA.out]
  exact ref_address2_nat m.frm m.salt m.data da _ dk rfl HDL.out w4 HI4.out HBYT.out
 have HE4 := Lib.hid e4
 have HBE := Lib.hid hB
 clear hb3 x1 x2 e4 hB hf4 q2
 go_wp2_with fail
 rw [← HE4.out]
 rw [← HBE.out]
 refine HAD.out.mono ?_
 rintro e w5 ⟨rfl, hb5⟩
 have HB5 := Lib.hid (HB4.out.below hb5)
 have f5 : w5.free? B 0 20 = true := ((brow hb5).2 _ _ _ (free?_lt HF4.out)).trans HF4.out
 have hok5 := beC_ok 20 A
 have hl5 := beC_len 20 A
 obtain ⟨w6, e6⟩ : ∃ w6, w6 = w5.setCells B 0 (beC 20 A) := ⟨_, rfl⟩
 have r6 : w6.row? B 0 20 = some (beC 20 A) := by rw [e6]; exact row?_setCells_whole _ f5 hok5
 have HB6 : Hid (RunB w own m dv cx w6 own2 sb (S.setNonce m.frm (nc + 1)) M (n + 2)) := HB5.out.box (b := B) HBB.out HOB.out (by rw [e6]; exact Only.setCells (S := fun b => b = B) (Only.refl _ _) (fun _ => rfl) _ _)
 rw [e6] at r6
 have HE6 := Lib.hid e6
 clear hb5 e6 q4k q4f q4s q4d x3
 go_wp2_with fail
 rw [← HE6.out]
 refine (r_get HB6.out.st HAL.out (by have := HN.out; omega)).mono ?_
 rintro e w7 ⟨p, rfl, hb7, hg7⟩
 have HB7 := Lib.hid (HB6.out.below hb7)
 obtain ⟨⟨ca, ck, hcv, _, _⟩, _, _⟩ := hg7.ok.code
 obtain ⟨sa, sk, hsv⟩ := own_shapeS hg7.ok.slots
 have hok7 : okL 55 (racC p) = true := racC_ok' hcv hsv
 obtain ⟨y1, y2, y3⟩ := box55 w7 (racC p) hok7
 have hln7 := racC_len p
 obtain ⟨w8, e8⟩ : ∃ w8, w8 = (w7.alloc (.cells (cat zs81).toArray 35)).setCells w7.heap.size 0 (racC p) := ⟨_, rfl⟩
 rw [← e8] at y1 y2
 have HB8 := Lib.hid (HB7.out.below y1)
 have c20 : w8.cell? ⟨w7.heap.size, 20, none⟩ = some (.int .i64 p.1.ac.nonce) := cell_cat y2 (i := 1) rfl (by simp [acS, offOf_succ, offOf_zero])
 have c53 := cell_53 y2
 rw [Nat.zero_add, hcv] at c53
 have hnn := got_nonce hg7
 have hcc : p.1.ac.code = ((S.setNonce m.frm (nc + 1)) A).code := by have := congrArg Acc.code hg7.acc; exact this
 have hx : p.1.ac.nonce = 0 := by rw [hnn, HX.out.1]; rfl
 rw [hx] at c20
 have hkp : 0 < p.1.ac.code.length := by rw [hcc]; exact List.length_pos_iff.2 HX.out.2
 generalize p.1.ac.code.length = k at c53 hkp
 have hkd : decide ((0 : Int) < (k : Int)) = true := decide_eq_true (by omega)
 have hkn : (0 < k) = True := eq_true hkp
 have HKP := Lib.hid hkp
 clear hx hkp
 obtain ⟨C, hC⟩ : ∃ C, C = racC p := ⟨_, rfl⟩
 rw [← hC] at hok7 hln7 e8 ⊢
 rw [e8] at c20 c53
 have HE8 := Lib.hid e8
 clear hb7 hg7 hcv hsv y1 y2 e8 hnn hcc hC r6 f5
 go_wp2_with fail
 rw [← HE8.out]
 refine (ref_failed 0 18 _).mono ?_
 rintro e w9 ⟨rfl, hb9⟩
 have HB9 := Lib.hid (HB8.out.below hb9)
 have f9 := HB9.out.t6
 have hok := outS_ok ⟨0, 18, [], [], 0⟩ none none 0 0 0 0
 clear hb9
 go_wp2
 refine ret_row ty46 rfl _ rfl rfl f9 hok ?_
 have ob : Only (· = w.heap.size + 1 + 1) w9 (w9.setCells (w.heap.size + 1 + 1) 0 (cat (outS ⟨0, 18, [], [], 0⟩ (.slice none 0 0) (.slice none 0 0)))) := Only.setCells (S := fun b => b = w.heap.size + 1 + 1) (Only.refl _ _) (fun _ => rfl) _ _
 exact ⟨rfl, own2, _, HB9.out.st.only ob (fun b hb => by have e : b = w.heap.size + 1 + 1 := hb; rw [e]; exact HB9.out.o6), ⟨HB9.out.chg.ext, HB9.out.chg.only.trans ob (fun i hi he => by have : i = w.heap.size + 1 + 1 := hi; omega)⟩, by omega⟩
theorem r_run_make4 {w : World} {own : Go.Mun.Own} {sb n : Nat} {S : St} {M : List (Nat × St)} {m : Msg} {dv : Value} {cx : Ctx} {S' : St} {n' : Nat} {oo : Outc} (h : RState w own sb S M n) (hm : MsgOk m) (hk : m.kind = 4) (hg : 0 ≤ m.gas) (hd : m.depth ≤ 64) (hv : ¬ (S m.frm).bal < m.value) (hnc : (S m.frm).nonce < 4611686018427387904) (hda : RoAt w (hot own) dv m.data) (hn : n ≤ 999000)
  (hcr : ∀ W, RState W own sb S M n → RoAt W (hot own) dv m.data → Calls Tryz.prog 67 #[.pointer (some ⟨sb, 0, none⟩), .agg (cat (msgS m dv)).toArray, .agg (cat (ctxS cx)).toArray, .int .i64 m.gas] W (RClash W own sb S' M n' oo)) :
  Calls Tryz.prog 38 #[.pointer (some ⟨sb, 0, none⟩), .agg (cat (msgS m dv)).toArray, .agg (cat (ctxS cx)).toArray] w (RClash w own sb S' M n' oo) := by
 have hml := msgS_len m dv
 have hcl := ctxS_len cx
 obtain ⟨w0, e0⟩ : ∃ w0, w0 = ((w.alloc (.cells (cat (msgS m dv)).toArray 37)).alloc (.cells (cat (ctxS cx)).toArray 64)).alloc (.cells (cat zs46).toArray 41) := ⟨_, rfl⟩
 have hB0 : RunB w own m dv cx w0 own sb S M n := by rw [e0]; exact RunB.start h
 have c0 : (cat (msgS m dv))[0]'(by rw [hml]; omega) = .int .i64 m.kind := rfl
 have c1 := msgS_depth m dv
 have c2 := msgS_gas m dv
 rw [hk] at c0
 have hfa := hm.frm
 have hta := hm.to
 have hva := hm.value
 have HST := Lib.hid h
 have HB0 := Lib.hid hB0
 have HE := Lib.hid e0
 have HM := Lib.hid hm
 have HK := Lib.hid hk
 obtain ⟨x, hx⟩ : ∃ x, x = (S m.frm).bal := ⟨_, rfl⟩
 have hxW : x < wW := by rw [hx]; exact h.bal m.frm
 have HX := Lib.hid hx
 have HN := Lib.hid hn
 obtain ⟨T, hT⟩ : ∃ T : World → Prop, T = fun W => RunB w own m dv cx W own sb S M n ∧ RState W own sb S M n ∧ Below w.heap.size w W := ⟨_, rfl⟩
 have HT := Lib.hid hT
 have HTB : Hid (∀ w2 w3, T w2 → Below w2.heap.size w2 w3 → T w3) := by show ∀ w2 w3, T w2 → Below w2.heap.size w2 w3 → T w3; rw [hT]; intro w2 w3 h hb; exact ⟨h.1.below hb, h.2.1.below hb, h.2.2.trans (hb.mono h.2.2.size)⟩
 have HTG : Hid (∀ w2, T w2 → RunB w own m dv cx w2 own sb S M n ∧ RState w2 own sb S M n ∧ Below w.heap.size w w2) := by show ∀ w2, T w2 → _; rw [hT]; intro w2 h; exact h
 have tt : T w0.drew := by rw [hT]; exact ⟨hB0.below (Below.refl _ _).drew, (hB0.below (Below.refl _ _).drew).st, by rw [e0]; exact ((((Below.refl _ _).alloc (Nat.le_refl _) _).alloc (by simp) _).alloc (by simp; omega) _).drew⟩
 have hdI : decide ((64 : Int) < m.depth) = false := decide_eq_false (by omega)
 have hgI : decide (m.gas < 0) = false := decide_eq_false (by omega)
 have hgn : ¬ m.gas < 0 := by omega
 have hcn : ¬ cmpN x m.value < 0 := by rw [hx]; exact cmpN_ge hv
 have hdc : decide (cmpN x m.value < 0) = false := decide_eq_false hcn
 have hdn : decide ((4611686018427387904 : Int) ≤ ((S m.frm).nonce : Int)) = false := decide_eq_false (by omega)
 obtain ⟨nc, hncE⟩ : ∃ nc, nc = (S m.frm).nonce := ⟨_, rfl⟩
 rw [← hncE] at hdn
 have HNCE := Lib.hid hncE
 have HDA := Lib.hid hda
 have HCR := Lib.hid hcr
 have HG := Lib.hid hg
 clear h hm hk hB0 e0 hg hd hx hn hT hv hda hcr hnc hncE
 go_enter Tryz.func38, Tryz.ntmps38
 go_wp2_with fail
 rw [← HE.out]
 have t0 := tt
 clear tt
 refine wp_region_tree T [] (.pure 0 (.pure 1 (.pure 2 (.pure 3 (.take 4 (.pure 7 (.take 8 (.alt 5 (.pure 6 (.alt 9 (.pure 10 (.pure 11 (.pure 12 .fin))) .stop)) .stop)))))))) (by kernel_rfl) (by kernel_rfl) ?_
 iterate 7
  first
  |refine tree_pure ?_ rfl (by rfl) (fun w' hs => ?_) (fun _ _ _ h => h) ?_
   rotate_left
   ·clear hs
    go_simp
    try rfl
   simp only [Act.put, tsa, tsb, tsc]
  |refine tree_take ?_ t0 rfl (by rfl) (fun w' hs => ?_) (fun _ _ _ h => h) ?_
   rotate_left
   ·rw [HT.out] at hs
    obtain ⟨g, _, _⟩ := hs; have q1 := msg_frm g.t4; have q2 := msg_value g.t4; simp only [Nat.zero_add] at q1 q2
    go_simp
    try rfl
   simp only [Act.put, tsa, tsb, tsc]
 refine tree_run rfl (fun K hK => ?_)
 go_simp
 refine (r_get (HTG.out _ t0).2.1 hfa (by have := HN.out; omega)).mono ?_
 rintro e wa ⟨p, rfl, hba, hga⟩
 have hfp : ∀ W, (Instr.field 35 (.agg (racC p).toArray) 2).run Tryz.prog W = .ok (.agg (beC 32 x).toArray) W := fun W => by rw [fld35_2, got_bal hga, HX.out]
 obtain ⟨C, hC⟩ : ∃ C, C = racC p := ⟨_, rfl⟩
 rw [← hC] at hfp ⊢
 have t1 : T wa := HTB.out _ _ t0 hba
 clear hba hga hC
 refine hK.out _ _ t1 ?_
 clear hK K
 refine tree_pure ?_ rfl (by rfl) (fun w' hs => ?_) (fun _ _ _ h => h) ?_
 rotate_left
 ·clear hs
  go_simp
  try rfl
 simp only [Act.put, tsa, tsb, tsc]
 refine tree_run rfl (fun K hK => ?_)
 go_simp
 refine (ref_Cmp x m.value hxW hva _).mono ?_
 rintro e wb ⟨rfl, hbb⟩
 have t2 : T wb := HTB.out _ _ t1 hbb
 clear hbb
 refine hK.out _ _ t2 ?_
 clear hK K
 iterate 3
  refine tree_pure ?_ rfl (by rfl) (fun w' hs => ?_) (fun _ _ _ h => h) ?_
  rotate_left
  ·clear hs
   go_simp
   try rfl
  simp only [Act.put, tsa, tsb, tsc]
 refine tree_fin ?_
 have HB2 := Lib.hid (HTG.out _ t2).1
 have k2 := msg_kind HB2.out.t4
 rw [HK.out, Nat.zero_add] at k2
 have k3 := msg_frm HB2.out.t4
 simp only [Nat.zero_add] at k3
 clear t0 t1 t2 hfp c0 c1 c2 hdc hcn
 go_wp2_with fail
 refine (r_get HB2.out.st hfa (by have := HN.out; omega)).mono ?_
 rintro e w3 ⟨p, rfl, hb3, hg3⟩
 have hfp : ∀ W, (Instr.field 35 (.agg (racC p).toArray) 1).run Tryz.prog W = .ok (.int .i64 (nc : Int)) W := fun W => by rw [fld35_1, got_nonce hg3, HNCE.out]
 obtain ⟨C, hC⟩ : ∃ C, C = racC p := ⟨_, rfl⟩
 rw [← hC] at hfp ⊢
 have HB3 := Lib.hid (HB2.out.below hb3)
 have r3 := HB3.out.t4
 have r3c := HB3.out.t5
 clear hb3 hg3 hC k2 k3
 go_wp2_with fail
 have HDA3 : Hid (RoAt w3 (hot own) dv m.data) := HDA.out.only HB3.out.chg.only (fun _ h => h) (fun _ _ h => h)
 refine (HCR.out w3 HB3.out.st HDA3.out).mono ?_
 rintro e w5 ⟨rfl, own5, n5, st5, g5, hn5⟩
 have HB5 := Lib.hid (HB3.out.go st5 g5)
 have f5 := HB5.out.t6
 have hok := outS_ok oo none none 0 0 0 0
 have HN5 := Lib.hid hn5
 clear st5 g5 hn5 r3 r3c hfp
 go_wp2
 refine ret_row ty46 rfl _ rfl rfl f5 hok ?_
 have ob : Only (· = w.heap.size + 1 + 1) w5 (w5.setCells (w.heap.size + 1 + 1) 0 (cat (outS oo (.slice none 0 0) (.slice none 0 0)))) := Only.setCells (S := fun b => b = w.heap.size + 1 + 1) (Only.refl _ _) (fun _ => rfl) _ _
 exact ⟨rfl, own5, n5, HB5.out.st.only ob (fun b hb => by have e : b = w.heap.size + 1 + 1 := hb; rw [e]; exact HB5.out.o6), ⟨HB5.out.chg.ext, HB5.out.chg.only.trans ob (fun i hi he => by have : i = w.heap.size + 1 + 1 := hi; omega)⟩, HN5.out⟩
theorem ex_eqlO {P : Program} (ρ : Operand → Value) (dst : Option Tmp) (x y : Operand) (t t2 ty : TypeId) (pos : String) (after : Array Edge) (gd : Option (Nat × Bool)) (w : World) {xs ys : Array Value} {r : Bool} (hm : P.eqGuardType P.depth t = false) (hx : ρ x = .agg xs) (hy : ρ y = .agg ys)
  (h : (binOp .eql t (.agg xs) (.agg ys)).run P w = .ok (.bool r) w) : (execOp ρ ⟨dst, .binOp .eql t x y t2, ty, pos, after, gd⟩).run P w = .ok (.value (.bool r)) w := by
 simp [execOp, hx, hy, Sem.run_bind, run_eqGuard_agg (hm := hm), h]
theorem eg23O : Tryz.prog.eqGuardType Tryz.prog.depth 23 = false := by kernel_rfl
theorem out_out {w : World} {b o : Nat} {oc : Outc} {ov lv : Value} (h : w.row? b o 24 = some (cat (outS oc ov lv))) : w.cell? ⟨b, o + 2, none⟩ = some ov := cell_cat h (i := 2) rfl (by simp [outS, offOf_succ, offOf_zero])
theorem out_logs {w : World} {b o : Nat} {oc : Outc} {ov lv : Value} (h : w.row? b o 24 = some (cat (outS oc ov lv))) : w.cell? ⟨b, o + 3, none⟩ = some lv := cell_cat h (i := 3) rfl (by simp [outS, offOf_succ, offOf_zero])
theorem out_addr {w : World} {b o : Nat} {oc : Outc} {ov lv : Value} (h : w.row? b o 24 = some (cat (outS oc ov lv))) : w.row? b (o + 4) 20 = some (beC 20 oc.addr) := row_cat h (i := 4) rfl (by simp [outS, offOf_succ, offOf_zero]) (by simp)
theorem same_logs0 (a b : Option Addr) (j k : Nat) (w : World) : Calls Tryz.prog 73 #[.slice a 0 j, .slice b 0 k] w fun e w' => e = .returned (.bool true) ∧ w' = w := by
 go_enter Tryz.func73, Tryz.ntmps73
 go_wp2_with fail
 go_loopw [5] (fun ix wz => ix = .int .i64 0 ∧ wz = w) (fun _ _ => 0)
 case atStart => exact ⟨rfl, rfl⟩
 case round =>
  obtain ⟨rfl, rfl⟩ := hrel
  go_wp2
  go_ret
  exact ⟨rfl, rfl⟩
theorem same_outcome {w : World} (g e : Int) (d : Bts) (ad : Nat) (a1 a2 l1 l2 : Option Addr) (c1 c2 j1 j2 : Nat) (had : ad < wA) (h1 : Ints w .u8 a1 c1 d) (h2 : Ints w .u8 a2 c2 d) :
  Calls Tryz.prog 39 #[.agg (cat (outS ⟨g, e, [], [], ad⟩ (.slice a1 d.length c1) (.slice l1 0 j1))).toArray, .agg (cat (outS ⟨g, e, [], [], ad⟩ (.slice a2 d.length c2) (.slice l2 0 j2))).toArray] w fun r w' => r = .returned (.bool true) ∧ Below w.heap.size w w' := by
 obtain ⟨X, hX⟩ : ∃ X, X = cat (outS ⟨g, e, [], [], ad⟩ (.slice a1 d.length c1) (.slice l1 0 j1)) := ⟨_, rfl⟩
 obtain ⟨Y, hY⟩ : ∃ Y, Y = cat (outS ⟨g, e, [], [], ad⟩ (.slice a2 d.length c2) (.slice l2 0 j2)) := ⟨_, rfl⟩
 have lX : X.length = 24 := by rw [hX]; exact outS_len _ _ _
 have lY : Y.length = 24 := by rw [hY]; exact outS_len _ _ _
 rw [← hX, ← hY]
 obtain ⟨w0, e0⟩ : ∃ w0, w0 = (w.alloc (.cells X.toArray 41)).alloc (.cells Y.toArray 41) := ⟨_, rfl⟩
 have hb0 : Below w.heap.size w w0 := by rw [e0]; exact ((Below.refl _ _).alloc (Nat.le_refl _) _).alloc (by simp) _
 have hr : w0.row? w.heap.size 0 24 = some X := by rw [e0, World.row?_alloc_lt _ (by simp)]; exact World.row?_alloc_at X 41 _ rfl lX
 have hs : w0.row? (w.heap.size + 1) 0 24 = some Y := by rw [e0]; exact World.row?_alloc_at Y 41 _ (by simp) lY
 rw [hX] at hr
 rw [hY] at hs
 have hq : ∀ w, (binOp .eql 23 (.agg (beC 20 ad).toArray) (.agg (beC 20 ad).toArray)).run Tryz.prog w = .ok (.bool true) w := fun w => by have := eql_of (fun d => eqD23 (a := ad) (b := ad) had had w d); simpa using this
 obtain ⟨T, hT⟩ : ∃ T : World → Prop, T = fun W => Below w.heap.size w W ∧ W.row? w.heap.size 0 24 = some (cat (outS ⟨g, e, [], [], ad⟩ (.slice a1 d.length c1) (.slice l1 0 j1))) ∧ W.row? (w.heap.size + 1) 0 24 = some (cat (outS ⟨g, e, [], [], ad⟩ (.slice a2 d.length c2) (.slice l2 0 j2))) ∧ Ints W .u8 a1 c1 d ∧ Ints W .u8 a2 c2 d := ⟨_, rfl⟩
 have HT := Lib.hid hT
 have HTB : Hid (∀ w2 w3, T w2 → Below w2.heap.size w2 w3 → T w3) := by
  show ∀ w2 w3, T w2 → Below w2.heap.size w2 w3 → T w3
  rw [hT]
  rintro w2 w3 ⟨g0, g1, g2, g3, g4⟩ hb
  exact ⟨g0.trans (hb.mono g0.size), ((brow hb).1 _ _ _ (World.row?_lt g1)).trans g1, ((brow hb).1 _ _ _ (World.row?_lt g2)).trans g2, g3.below hb, g4.below hb⟩
 have HTG : Hid (∀ w2, T w2 → Below w.heap.size w w2) := by show ∀ w2, T w2 → _; rw [hT]; intro w2 h; exact h.1
 have t0 : T w0.drew := HTB.out w0 _ (by rw [hT]; exact ⟨hb0, hr, hs, h1.below hb0, h2.below hb0⟩) (Below.refl _ _).drew
 have HQ := Lib.hid hq
 have HE := Lib.hid e0
 have HLN := Lib.hid (fun w => law_num e w)
 have HSL := Lib.hid (fun w => same_logs0 l1 l2 j1 j2 w)
 clear hT h1 h2 hb0 hr hs e0 hX hY hq
 go_enter Tryz.func39, Tryz.ntmps39
 go_wp2_with fail
 rw [← HE.out]
 refine wp_region_tree T [] (.pure 0 (.take 1 (.pure 2 (.take 3 (.pure 4 (.pure 5 (.pure 6 (.take 7 (.pure 9 (.take 10 (.alt 8 (.alt 11 (.pure 12 (.pure 13 (.pure 14 (.pure 15 (.take 16 (.take 17 (.pure 18 (.take 19 (.take 20 (.pure 21 (.pure 22 (.pure 23 (.pure 24 (.take 25 (.pure 26 (.take 27 (.pure 28 (.pure 29 (.pure 30 (.pure 31 (.take 32 (.pure 33 (.take 34 (.alt 35 (.pure 36 (.pure 37 .fin)) .stop)))))))))))))))))))))))) .stop) .stop))))))))))) (by kernel_rfl) (by kernel_rfl) ?_
 iterate 10
  first
  |refine tree_pure ?_ rfl (by rfl) (fun w' hs => ?_) (fun _ _ _ h => h) ?_
   rotate_left
   ·clear hs
    go_simp
    try rfl
   simp only [Act.put, tsa, tsb, tsc]
  |refine tree_take ?_ t0 rfl (by rfl) (fun w' hs => ?_) (fun _ _ _ h => h) ?_
   rotate_left
   ·rw [HT.out] at hs
    obtain ⟨_, g1, g2, i1, i2⟩ := hs; have u0 := out_gas g1; have u1 := out_err g1; have u2 := out_out g1; have u3 := out_logs g1; have u4 := out_addr g1; have v0 := out_gas g2; have v1 := out_err g2; have v2 := out_out g2; have v3 := out_logs g2; have v4 := out_addr g2; have s1 := run_bytes_string' (P := Tryz.prog) Tryz.underlying26 Tryz.underlying5 Tryz.underlying9 rfl i1; have s2 := run_bytes_string' (P := Tryz.prog) Tryz.underlying26 Tryz.underlying5 Tryz.underlying9 rfl i2; simp only [Nat.zero_add] at u0 u1 u2 u3 u4 v0 v1 v2 v3 v4
    go_simp
    try rfl
   simp only [Act.put, tsa, tsb, tsc]
 refine tree_run rfl (fun K hK => ?_)
 go_simp
 refine (HLN.out _).mono ?_
 rintro e wa ⟨rfl, rfl⟩
 have t1 := t0
 refine hK.out _ _ t1 ?_
 clear hK K
 refine tree_run rfl (fun K hK => ?_)
 go_simp
 refine (HLN.out _).mono ?_
 rintro e wb ⟨rfl, rfl⟩
 have t2 := t1
 refine hK.out _ _ t2 ?_
 clear hK K
 iterate 16
  first
  |refine tree_pure ?_ rfl (by rfl) (fun w' hs => ?_) (fun _ _ _ h => h) ?_
   rotate_left
   ·clear hs
    go_simp
    try rfl
   simp only [Act.put, tsa, tsb, tsc]
  |refine tree_take ?_ t2 rfl (by rfl) (fun w' hs => ?_) (fun _ _ _ h => h) ?_
   rotate_left
   ·rw [HT.out] at hs
    obtain ⟨_, g1, g2, i1, i2⟩ := hs; have u0 := out_gas g1; have u1 := out_err g1; have u2 := out_out g1; have u3 := out_logs g1; have u4 := out_addr g1; have v0 := out_gas g2; have v1 := out_err g2; have v2 := out_out g2; have v3 := out_logs g2; have v4 := out_addr g2; have s1 := run_bytes_string' (P := Tryz.prog) Tryz.underlying26 Tryz.underlying5 Tryz.underlying9 rfl i1; have s2 := run_bytes_string' (P := Tryz.prog) Tryz.underlying26 Tryz.underlying5 Tryz.underlying9 rfl i2; simp only [Nat.zero_add] at u0 u1 u2 u3 u4 v0 v1 v2 v3 v4
    go_simp
    try rfl
   simp only [Act.put, tsa, tsb, tsc]
 refine tree_pure (.bool true) rfl (by rfl) (fun w' hs => ?_) (fun _ _ _ h => h) ?_
 ·clear hs
  exact ex_eqlO _ _ _ _ _ _ _ _ _ _ _ eg23O rfl rfl (HQ.out _)
 simp only [Act.put, tsa, tsb, tsc]
 iterate 6
  first
  |refine tree_pure ?_ rfl (by rfl) (fun w' hs => ?_) (fun _ _ _ h => h) ?_
   rotate_left
   ·clear hs
    go_simp
    try rfl
   simp only [Act.put, tsa, tsb, tsc]
  |refine tree_take ?_ t2 rfl (by rfl) (fun w' hs => ?_) (fun _ _ _ h => h) ?_
   rotate_left
   ·rw [HT.out] at hs
    obtain ⟨_, g1, g2, i1, i2⟩ := hs; have u0 := out_gas g1; have u1 := out_err g1; have u2 := out_out g1; have u3 := out_logs g1; have u4 := out_addr g1; have v0 := out_gas g2; have v1 := out_err g2; have v2 := out_out g2; have v3 := out_logs g2; have v4 := out_addr g2; have s1 := run_bytes_string' (P := Tryz.prog) Tryz.underlying26 Tryz.underlying5 Tryz.underlying9 rfl i1; have s2 := run_bytes_string' (P := Tryz.prog) Tryz.underlying26 Tryz.underlying5 Tryz.underlying9 rfl i2; simp only [Nat.zero_add] at u0 u1 u2 u3 u4 v0 v1 v2 v3 v4
    go_simp
    try rfl
   simp only [Act.put, tsa, tsb, tsc]
 refine tree_run rfl (fun K hK => ?_)
 go_simp
 refine (HSL.out _).mono ?_
 rintro e wc ⟨rfl, rfl⟩
 have t3 := t2
 refine hK.out _ _ t3 ?_
 clear hK K
 iterate 2
  refine tree_pure ?_ rfl (by rfl) (fun w' hs => ?_) (fun _ _ _ h => h) ?_
  rotate_left
  ·clear hs
   go_simp
   try rfl
  simp only [Act.put, tsa, tsb, tsc]
 refine tree_fin ?_
 go_wp2
 go_ret
 exact ⟨rfl, HTG.out _ t3⟩
theorem ret_row3b {P : Program} {fn : Func} {R : Ending → World → Prop} {a : Act} {w : World} {p q q2 ty n b : Nat} (hT : RowTy P ty n) (hres : fn.results = #[.cell p ty, .tmp q, .tmp q2]) (L : List Value) (x y : Value)
  (hp : a.tmps.getD p undef = .pointer (some ⟨b, 0, none⟩)) (hq : a.tmps.getD q undef = x) (hq2 : a.tmps.getD q2 undef = y) (hd : a.defers = []) (hr : w.row? b 0 n = some L) (hR : R (.returned (.tuple #[.agg L.toArray, x, y])) w) :
  bodyPost P fn R .ret a w := by
 refine ⟨hd, _, ?_, hR⟩
 obtain ⟨d, hu, hd⟩ := hT.desc
 have hp' : a.tmps[p]?.getD undef = .pointer (some ⟨b, 0, none⟩) := by simpa using hp
 have hq' : a.tmps[q]?.getD undef = x := by simpa using hq
 have hq2' : a.tmps[q2]?.getD undef = y := by simpa using hq2
 simp [results, hres, hp', hq', hq2', asAddr, run_loadVar_mid w b 0 ty L d (World.row?_rangeAt hr) hu hd (by rw [World.row?_len hr]; exact hT.size)]
def outV (g x : Int) (ad : Nat) (oa : Option Addr) (k oc : Nat) (la : Option Addr) (lc : Nat) : List Value := cat (outS ⟨g, x, [], [], ad⟩ (.slice oa k oc) (.slice la 0 lc))
def RunsP (m : Msg) (dv : Value) (cx : Ctx) (S : St) (g x : Int) (ad : Nat) (d : Bts) (S' : St) : Prop :=
 ∀ (w : World) (own : Go.Mun.Own) (sb : Nat), StateAt TU w own sb S [] 0 → RoAt w (fun b => own b ≠ none) dv m.data →
  Calls Tryz.prog 26 #[.pointer (some ⟨sb, 0, none⟩), .agg (cat (msgS m dv)).toArray, .agg (cat (ctxS cx)).toArray] w fun e w' => ∃ oa oc la lc own' n', e = .returned (.agg (outV g x ad oa d.length oc la lc).toArray) ∧
   RoAt w' (fun b => own' b ≠ none ∨ b < w.heap.size) (.slice oa d.length oc) d ∧ StateAt TU w' own' sb S' [] n' ∧ Chg w w' own own' ∧ n' ≤ 3000000
def RunsR (m : Msg) (dv : Value) (cx : Ctx) (S : St) (g x : Int) (ad : Nat) (d : Bts) (S' : St) : Prop :=
 ∀ (w : World) (own : Go.Mun.Own) (sb n : Nat), n ≤ 1000 → RState w own sb S [] n → RoAt w (hot own) dv m.data →
  Calls Tryz.prog 38 #[.pointer (some ⟨sb, 0, none⟩), .agg (cat (msgS m dv)).toArray, .agg (cat (ctxS cx)).toArray] w fun e w' => ∃ oa oc la lc own' M' n', e = .returned (.agg (outV g x ad oa d.length oc la lc).toArray) ∧
   Ints w' .u8 oa oc d ∧ RState w' own' sb S' M' n' ∧ ChgR w w' own own' ∧ n' ≤ 999000
theorem RoAt.weak {w : World} {X X' : Nat → Prop} {v : Value} {l : Bts} (h : RoAt w X v l) (hX : ∀ b, b < w.heap.size → X' b → X b) : RoAt w X' v l := h.only (R := fun _ => False) (Only.refl _ _) (fun _ h => h.elim) hX
theorem outV_len (g x : Int) (ad : Nat) (oa : Option Addr) (k oc : Nat) (la : Option Addr) (lc : Nat) : (outV g x ad oa k oc la lc).length = 24 := outS_len _ _ _
theorem outV_ok (g x : Int) (ad : Nat) (oa : Option Addr) (k oc : Nat) (la : Option Addr) (lc : Nat) : okL 24 (outV g x ad oa k oc la lc) = true := outS_ok _ _ _ _ _ _ _
theorem boxO (W : World) (C : List Value) (h : okL 24 C = true) : Below W.heap.size W ((W.alloc (.cells (cat zs46).toArray 41)).setCells W.heap.size 0 C) ∧ ((W.alloc (.cells (cat zs46).toArray 41)).setCells W.heap.size 0 C).row? W.heap.size 0 24 = some C ∧ (W.alloc (.cells (cat zs46).toArray 41)).free? W.heap.size 0 24 = true := by
 have hf : (W.alloc (.cells (cat zs46).toArray 41)).free? W.heap.size 0 24 = true := World.free?_alloc_at _ _ rfl (by rw [zs46_len]; omega)
 exact ⟨((Below.refl _ _).alloc (Nat.le_refl _) _).setCells (Nat.le_refl _) _ _, row?_setCells_whole C hf h, hf⟩
def BothEnd (w : World) (g x : Int) (ad : Nat) (d : Bts) (S' : St) (e : Ending) (w' : World) : Prop :=
 ∃ oa oc la lc sb own' n', e = .returned (.tuple #[.agg (outV g x ad oa d.length oc la lc).toArray, .pointer (some ⟨sb, 0, none⟩), .bool true]) ∧ Below w.heap.size w w' ∧ StateAt TU w' own' sb S' [] n' ∧ ∀ b, own' b ≠ none → w.heap.size ≤ b
theorem law_both {w : World} {b c : Nat} {l : List Ac} {m : Msg} {dv : Value} {g x : Int} {ad : Nat} {d : Bts} {S' : St} (hl : l.length ≤ 100) (hac : ∀ i (hi : i < l.length), AcAt w b (0 + i * 55) l[i]) (hnn : ∀ x ∈ l, 0 ≤ x.nonce)
  (hd : RoAt w (fun _ => False) dv m.data) (had : ad < wA) (hP : RunsP m dv ⟨0, 0, 0, 0, 0⟩ (newS l) g x ad d S') (hR : RunsR m dv ⟨0, 0, 0, 0, 0⟩ (newS l) g x ad d S') (hz : ∀ a k, (S' a).slots k = 0) :
  Calls Tryz.prog 15 #[.slice (some ⟨b, 0, none⟩) l.length c, .agg (cat (msgS m dv)).toArray] w (BothEnd w g x ad d S') := by
 have hml := msgS_len m dv
 obtain ⟨w0, e0⟩ : ∃ w0, w0 = (w.alloc (.cells (cat (msgS m dv)).toArray 37)).alloc (.cells (cat zs46).toArray 41) := ⟨_, rfl⟩
 have hb0 : Below w.heap.size w w0 := by rw [e0]; exact ((Below.refl _ _).alloc (Nat.le_refl _) _).alloc (by simp) _
 have r0 : w0.row? w.heap.size 0 129 = some (cat (msgS m dv)) := by rw [e0, World.row?_alloc_lt _ (by simp)]; exact World.row?_alloc_at _ _ _ rfl hml
 have f0 : w0.free? (w.heap.size + 1) 0 24 = true := by rw [e0]; exact World.free?_alloc_at _ _ (by simp) (by rw [zs46_len]; omega)
 have HN := Lib.hid (state_new b 0 c l (by omega) w0 (fun i hi => (hac i hi).below hb0))
 have HNR := Lib.hid (fun (W : World) (hW : Below w.heap.size w W) => r_new b 0 c l hl W (fun i hi => (hac i hi).below hW) hnn)
 have HE := Lib.hid e0
 have HB0 := Lib.hid hb0
 have HR0 := Lib.hid r0
 have HF0 := Lib.hid f0
 have HD := Lib.hid hd
 have HP := Lib.hid hP
 have HR := Lib.hid hR
 have HZ := Lib.hid hz
 have HS0 : Hid (w.heap.size + 1 < w0.heap.size) := free?_lt f0
 have HLL := Lib.hid hl
 clear hac hnn hd hP hR hz e0 hb0 r0 f0 hl
 go_enter Tryz.func15, Tryz.ntmps15
 go_wp2_with fail
 rw [← HE.out]
 refine HN.out.mono ?_
 rintro e w1 ⟨sb, rfl, hb1, own, hst, hlo⟩
 have HST := Lib.hid hst
 have HLO := Lib.hid hlo
 have HB1 : Hid (Below w.heap.size w w1) := HB0.out.trans (hb1.mono HB0.out.size)
 have HB01 := Lib.hid hb1
 clear hb1 hst hlo HN
 go_wp2_with fail
 refine (HNR.out _ HB1.out).mono ?_
 rintro e w2 ⟨sr, own2, rfl, hnw⟩
 have HNW := Lib.hid hnw
 have HB2 : Hid (Below w.heap.size w w2) := HB1.out.trans (hnw.below.mono HB1.out.size)
 have HB02 : Hid (Below w0.heap.size w0 w2) := HB01.out.trans (hnw.below.mono HB01.out.size)
 have HST2 := Lib.hid (HST.out.below hnw.below)
 have HLW := Lib.hid HST.out.lows
 have r2 : w2.row? w.heap.size 0 129 = some (cat (msgS m dv)) := ((brow HB02.out).1 _ _ _ (World.row?_lt HR0.out)).trans HR0.out
 have HR2 := Lib.hid r2
 have HD2 : Hid (RoAt w2 (fun b => w.heap.size ≤ b) dv m.data) := HD.out.only (R := fun _ => False) (Only.of_below_size HB2.out) (fun _ h => h.elim) (fun b hb hx => by omega)
 have hcx : ctxS ⟨0, 0, 0, 0, 0⟩ = zs49 := rfl
 have HRP := Lib.hid (HP.out w2 own sb HST2.out (HD2.out.weak fun b _ hx => by have := HLO.out b hx; have := HS0.out; omega))
 rw [hcx] at HRP
 clear hnw HNR
 go_wp2_with fail
 refine HRP.out.mono ?_
 rintro e w3 ⟨oa, oc, la, lc, own3, n3, rfl, hro3, st3, g3, hn3⟩
 obtain ⟨X, hX⟩ : ∃ X, X = outV g x ad oa d.length oc la lc := ⟨_, rfl⟩
 rw [← hX]
 have hXl : X.length = 24 := by rw [hX]; exact outV_len _ _ _ _ _ _ _ _
 have hXk : okL 24 X = true := by rw [hX]; exact outV_ok _ _ _ _ _ _ _ _
 obtain ⟨x1, x2, x3⟩ := boxO w3 X hXk
 obtain ⟨w4, e4⟩ : ∃ w4, w4 = (w3.alloc (.cells (cat zs46).toArray 41)).setCells w3.heap.size 0 X := ⟨_, rfl⟩
 rw [← e4] at x1 x2
 have hkeep : ∀ b, b < w0.heap.size → ¬ own b ≠ none := fun b hb hx => by have := HLO.out b hx; omega
 have r3 : w3.row? w.heap.size 0 129 = some (cat (msgS m dv)) := (g3.only.row? (World.row?_lt HR2.out) (hkeep _ (by have := HS0.out; omega))).trans HR2.out
 have r4 : w4.row? w.heap.size 0 129 = some (cat (msgS m dv)) := ((brow x1).1 _ _ _ (World.row?_lt r3)).trans r3
 have HF2 : Hid (w2.free? (w.heap.size + 1) 0 24 = true) := ((brow HB02.out).2 _ _ _ (free?_lt HF0.out)).trans HF0.out
 have HF4 : Hid (w4.free? (w.heap.size + 1) 0 24 = true) := by
  have f3 : w3.free? (w.heap.size + 1) 0 24 = true := (g3.only.free? (free?_lt HF2.out) (hkeep _ HS0.out)).trans HF2.out
  exact ((brow x1).2 _ _ _ (free?_lt f3)).trans f3
 have HST4 := Lib.hid (st3.below x1)
 have HGE3 : Hid (∀ b, own3 b ≠ none → w.heap.size ≤ b) := by
  intro b hb
  by_cases hlt : b < w2.heap.size
  ·rw [g3.ext b hlt] at hb; have := HLO.out b hb; have := HS0.out; omega
  ·have := HB2.out.size; omega
 have HO3 : Hid (own3 (w.heap.size + 1) = none) := by
  show own3 (w.heap.size + 1) = none
  rw [g3.ext _ (free?_lt HF2.out)]
  exact Classical.not_not.1 (hkeep _ HS0.out)
 -- the two states lie apart
 have hap : ∀ b, own2 b ≠ none → own b = none := fun b hb => by
  have h1 := HNW.out.ge b hb
  have : ¬ own b ≠ none := fun h => by have := HLW.out b h; omega
  exact Classical.not_not.1 this
 have hap2 : ∀ b, own b ≠ none → own2 b = none := fun b hb => by
  have : ¬ own2 b ≠ none := fun h => hb (hap b h)
  exact Classical.not_not.1 this
 have HAP3 : Hid (∀ b, own2 b ≠ none → own3 b = none) := fun b hb => by rw [g3.ext b (HNW.out.st.lows b hb)]; exact hap b hb
 have HRS4 : Hid (RState w4 own2 sr (newS l) [] (8 * l.length)) := (HNW.out.st.only g3.only hap2).below x1
 have HD4 : Hid (RoAt w4 (fun b => w.heap.size ≤ b) dv m.data) := (HD2.out.only g3.only (fun b hb => by have := HLO.out b hb; have := HS0.out; show w.heap.size ≤ b; omega) (fun _ _ h => h)).below x1
 have HRO4 : Hid (RoAt w4 (fun b => own3 b ≠ none ∨ b < w2.heap.size) (.slice oa d.length oc) d) := hro3.below x1
 have HB3 : Hid (Below w.heap.size w w3) := HB2.out.trans (g3.only.below HB2.out.size (fun i hi => by have := HLO.out i hi; have := HS0.out; omega))
 have HB4 : Hid (Below w.heap.size w w4) := HB3.out.trans (x1.mono HB3.out.size)
 obtain ⟨B9, hB9⟩ : ∃ B9, B9 = w3.heap.size := ⟨_, rfl⟩
 have HX4 : Hid (w4.row? B9 0 24 = some X) := by rw [hB9]; exact x2
 have HB23 : Hid (w2.heap.size ≤ B9) := by rw [hB9]; exact g3.only.size
 have HE4 := Lib.hid e4
 have HBN := Lib.hid hB9
 have HXX := Lib.hid hX
 have HRR := Lib.hid (HR.out w4 own2 sr _ (by have := HLL.out; omega) HRS4.out (HD4.out.weak fun b _ hx => by have h1 := HNW.out.ge b hx.1; have := HB1.out.size; show w.heap.size ≤ b; omega))
 rw [hcx] at HRR
 have q4 := r4
 rw [e4] at q4
 clear r2 hro3 st3 g3 hX x1 x2 e4 hkeep r3 r4 hap hap2 hB9 HRP
 have HN3 := Lib.hid hn3
 clear hn3
 go_wp2_with fail
 rw [← HE4.out]
 rw [← HBN.out]
 refine HRR.out.mono ?_
 rintro e w5 ⟨oa2, oc2, la2, lc2, own5, M5, n5, rfl, hi5, st5, g5, hn5⟩
 obtain ⟨Y, hY⟩ : ∃ Y, Y = outV g x ad oa2 d.length oc2 la2 lc2 := ⟨_, rfl⟩
 rw [← hY]
 have hYl : Y.length = 24 := by rw [hY]; exact outV_len _ _ _ _ _ _ _ _
 have hYk : okL 24 Y = true := by rw [hY]; exact outV_ok _ _ _ _ _ _ _ _
 obtain ⟨y1, y2, y3⟩ := boxO w5 Y hYk
 obtain ⟨w6, e6⟩ : ∃ w6, w6 = (w5.alloc (.cells (cat zs46).toArray 41)).setCells w5.heap.size 0 Y := ⟨_, rfl⟩
 rw [← e6] at y1 y2
 have hk2 : ∀ b, (b < w1.heap.size ∨ w2.heap.size ≤ b) → ¬ hot own2 b := fun b hb hx => by
  have h1 := HNW.out.ge b hx.1
  have h2 := HNW.out.st.lows b hx.1
  omega
 have hs12 : w0.heap.size ≤ w1.heap.size := HB01.out.size
 have HX6 : Hid (w6.row? B9 0 24 = some X) := by
  have h1 : w5.row? B9 0 24 = some X := (g5.only.row? (World.row?_lt HX4.out) (hk2 _ (.inr HB23.out))).trans HX4.out
  exact ((brow y1).1 _ _ _ (World.row?_lt h1)).trans h1
 have HF6 : Hid (w6.free? (w.heap.size + 1) 0 24 = true) := by
  have h1 : w5.free? (w.heap.size + 1) 0 24 = true := (g5.only.free? (free?_lt HF4.out) (hk2 _ (.inl (by have := HS0.out; omega)))).trans HF4.out
  exact ((brow y1).2 _ _ _ (free?_lt h1)).trans h1
 have HST6 : Hid (StateAt TU w6 own3 sb S' [] n3) := (HST4.out.only g5.only (fun b hb => HAP3.out b hb.1)).below y1
 have HRS6 := Lib.hid (st5.below y1)
 have HI6 := Lib.hid (hi5.below y1)
 have HIP6 : Hid (Ints w6 .u8 oa oc d) := by
  have h1 := HRO4.out.only (X' := fun _ => False) (R := hot own2) g5.only (fun b hb => .inr (HNW.out.st.lows b hb.1)) (fun _ _ h => h.elim)
  obtain ⟨⟨a', c', e', i', _⟩, _, _⟩ := h1.below y1
  cases e'
  exact i'
 have HB5 : Hid (Below w.heap.size w w5) := HB4.out.trans (g5.only.below HB4.out.size (fun i hi => by have h1 := HNW.out.ge i hi.1; have := HS0.out; omega))
 have HB6 : Hid (Below w.heap.size w w6) := HB5.out.trans (y1.mono HB5.out.size)
 obtain ⟨B10, hB10⟩ : ∃ B10, B10 = w5.heap.size := ⟨_, rfl⟩
 have HY6 : Hid (w6.row? B10 0 24 = some Y) := by rw [hB10]; exact y2
 have HE6 := Lib.hid e6
 have HBN2 := Lib.hid hB10
 have HYY := Lib.hid hY
 have HN5 := Lib.hid hn5
 obtain ⟨B4, hB4⟩ : ∃ B4, B4 = w.heap.size + 1 := ⟨_, rfl⟩
 have HB4E := Lib.hid hB4
 rw [← hB4] at HF6
 obtain ⟨T, hT⟩ : ∃ T : World → Prop, T = fun W => Only (fun b => b = B4) w6 W ∧ W.free? B4 0 24 = true := ⟨_, rfl⟩
 have HT := Lib.hid hT
 have HTB : Hid (∀ w2 w3, T w2 → Below w2.heap.size w2 w3 → T w3) := by
  show ∀ w2 w3, T w2 → Below w2.heap.size w2 w3 → T w3
  rw [hT]
  intro w2 w3 h hb
  exact ⟨h.1.trans (T := fun _ => False) (Only.of_below_size hb) (fun _ h _ => h.elim), ((brow hb).2 _ _ _ (free?_lt h.2)).trans h.2⟩
 have HTZ : Hid (∀ w2, T w2 → T (w2.setCells B4 0 X)) := by
  show ∀ w2, T w2 → T (w2.setCells B4 0 X)
  rw [hT]
  intro w2 h
  exact ⟨Only.setCells h.1 (fun _ => rfl) _ _, by rw [World.free?_setCells']; exact h.2⟩
 have HTG : Hid (∀ w2, T w2 → Only (fun b => b = B4) w6 w2) := by show ∀ w2, T w2 → _; rw [hT]; intro w2 h; exact h.1
 have HFR : Hid (∀ w2, T w2 → w2.free? B4 0 24 = true) := by show ∀ w2, T w2 → _; rw [hT]; intro w2 h; exact h.2
 have hb94 : B4 < B9 := by have h1 := HB23.out; have h2 := free?_lt HF2.out; omega
 have hb104 : B4 < B10 := by have h1 := World.row?_lt HX4.out; have h2 := g5.only.size; omega
 have HRW : Hid (∀ W, T W → W.row? B9 0 24 = some X ∧ W.row? B10 0 24 = some Y) := fun W hW => ⟨((HTG.out _ hW).row? (World.row?_lt HX6.out) (by omega)).trans HX6.out, ((HTG.out _ hW).row? (World.row?_lt HY6.out) (by omega)).trans HY6.out⟩
 have HO3b : Hid (own3 B4 = none) := by rw [hB4]; exact HO3.out
 have HO5 : Hid (own5 B4 = none) := by
  show own5 B4 = none
  rw [g5.ext _ (by rw [hB4]; exact free?_lt HF4.out)]
  have : ¬ own2 B4 ≠ none := fun hx => by have h1 := HNW.out.ge _ hx; have := HS0.out; omega
  exact Classical.not_not.1 this
 have HSTW : Hid (∀ W, T W → StateAt TU W own3 sb S' [] n3) := fun W hW => HST6.out.only (HTG.out _ hW) (fun b hb => by rw [hb]; exact HO3b.out)
 have HRSW : Hid (∀ W, T W → RState W own5 sr S' M5 n5) := fun W hW => HRS6.out.only (HTG.out _ hW) (fun b hb => by have e : b = B4 := hb; rw [e]; exact HO5.out)
 have HBW : Hid (∀ W, T W → Below w.heap.size w W) := fun W hW => HB6.out.trans ((HTG.out _ hW).below HB6.out.size (fun i hi => by have e : i = B4 := hi; omega))
 have t0 : T w6.drew := HTB.out w6 _ (by rw [hT]; exact ⟨Only.refl _ _, HF6.out⟩) (Below.refl _ _).drew
 clear hb94 hb104 hB4
 clear hi5 st5 g5 hn5 hY y1 y2 e6 hk2 hs12 hB10 hT q4 x3 HRR
 go_wp2_with fail
 rw [← HE6.out]
 rw [← HBN2.out]
 rw [← HB4E.out]
 refine wp_region_tree T [] (.take 0 (.pure 1 (.take 2 (.take 3 (.alt 4 (.pure 5 (.pure 6 (.pure 8 (.alt 7 (.alt 9 (.alt 10 (.pure 11 (.alt 12 (.pure 13 (.pure 14 .fin)) .stop)) .stop) .stop) .stop)))) .stop))))) (by kernel_rfl) (by kernel_rfl) ?_
 iterate 4
  first
  |refine tree_take ?_ t0 rfl (by rfl) (fun w' hs => ?_) (fun _ _ _ h => h) ?_
   rotate_left
   ·rw [HT.out] at hs
    obtain ⟨g9, g10⟩ := HRW.out w' (by rw [HT.out]; exact hs)
    go_simp
    try rfl
   simp only [Act.put, tsa, tsb, tsc]
  |refine tree_pure ?_ rfl (by rfl) (fun w' hs => ?_) (fun _ _ _ h => h) ?_
   rotate_left
   ·clear hs
    go_simp
    try rfl
   simp only [Act.put, tsa, tsb, tsc]
 refine tree_run rfl (fun K hK => ?_)
 go_simp
 have HSO := same_outcome (w := w6.drew) g x d ad oa oa2 la la2 oc oc2 lc lc2 had (HIP6.out.below (Below.refl _ _).drew) (HI6.out.below (Below.refl _ _).drew)
 change Calls Tryz.prog 39 #[.agg (outV g x ad oa d.length oc la lc).toArray, .agg (outV g x ad oa2 d.length oc2 la2 lc2).toArray] _ _ at HSO
 rw [← HXX.out, ← HYY.out] at HSO
 refine HSO.mono ?_
 rintro e w91 ⟨rfl, hb91⟩
 have t1 : T w91 := HTB.out _ _ t0 hb91
 clear hb91
 refine hK.out _ _ t1 ?_
 clear hK K
 iterate 3
  refine tree_pure ?_ rfl (by rfl) (fun w' hs => ?_) (fun _ _ _ h => h) ?_
  rotate_left
  ·clear hs
   go_simp
   try rfl
  simp only [Act.put, tsa, tsb, tsc]
 refine tree_run rfl (fun K hK => ?_)
 go_simp
 refine (st_accounts (HSTW.out _ t1) HN3.out HZ.out).mono ?_
 rintro e w92 ⟨v1, cs1, rfl, hA1, hL1, hC1⟩
 have t2 : T w92 := HTB.out _ _ t1 hA1.below
 have HA1 := Lib.hid hA1
 have HL1 := Lib.hid hL1
 have HC1 := Lib.hid hC1
 clear hA1 hL1 hC1
 refine hK.out _ _ t2 ?_
 clear hK K
 refine tree_run rfl (fun K hK => ?_)
 go_simp
 refine (r_accounts (HRSW.out _ t2) (by have := HN5.out; omega)).mono ?_
 rintro e w93 ⟨v2, ds2, rfl, hA2, hL2⟩
 have t3 : T w93 := HTB.out _ _ t2 hA2.below
 have HA2 := Lib.hid hA2
 have HL2 := Lib.hid hL2
 clear hA2 hL2
 refine hK.out _ _ t3 ?_
 clear hK K
 refine tree_run rfl (fun K hK => ?_)
 go_simp
 have hds : fsts ds2 = (cs1.map Prod.fst).map fun a => ⟨acOf a (S' a), []⟩ := accsX_eq HL2.out HL1.out HZ.out
 obtain ⟨hro, hez⟩ := accs_rows (HA1.out.next HA2.out.below)
 have hsl : ∀ p ∈ ds2, p.1.slots = [] := by
   intro p hp
   have h1 : p.1 ∈ fsts ds2 := List.mem_map.2 ⟨p, hp, rfl⟩
   rw [hds] at h1
   obtain ⟨a, _, ha⟩ := List.mem_map.1 h1
   rw [← ha]
 refine (same_accs0 hro HA2.out.own hez (cop_easy HA2.out hsl) (by rw [hds, accsX_fsts]) (by rw [List.length_map]; exact HC1.out)).mono ?_
 rintro e w94 ⟨rfl, hb94⟩
 have t4 : T w94 := HTB.out _ _ t3 hb94
 have tf := HFR.out _ t4
 clear hb94 hds hro hez hsl
 refine hK.out _ _ t4 ?_
 clear hK K
 refine tree_pure ?_ rfl (by rfl) (fun w' hs => ?_) (fun _ _ _ h => h) ?_
 rotate_left
 ·clear hs
  go_simp
  try rfl
 simp only [Act.put, tsa, tsb, tsc]
 refine tree_run rfl (fun K hK => ?_)
 go_simp
 have t5 : T (w94.setCells B4 0 X) := HTZ.out _ t4
 refine hK.out _ _ t5 ?_
 clear hK K
 iterate 2
  refine tree_pure ?_ rfl (by rfl) (fun w' hs => ?_) (fun _ _ _ h => h) ?_
  rotate_left
  ·clear hs
   go_simp
   try rfl
  simp only [Act.put, tsa, tsb, tsc]
 refine tree_fin ?_
 have rz : (w94.setCells B4 0 X).row? B4 0 24 = some X := row?_setCells_whole X (HFR.out _ t4) hXk
 go_wp2
 refine ret_row3b ty46 rfl X _ _ rfl rfl rfl rfl rz ?_
 rw [HXX.out]
 rw [HXX.out] at t5
 exact ⟨oa, oc, la, lc, sb, own3, n3, rfl, HBW.out _ t5, HSTW.out _ t5, HGE3.out⟩
end Go.Proofs.YtfflppedbopdpaaGreat
