/-
  The reference's machine: Run's boxes; a frame ahead of its run.
  The machine: a message that can't be: too deep, or more than its sender has.
  The machine: Run of a message that can't be.
  The reference's machine: Run of a message that calls.
  The reference's machine: Run of a message that calls, where nothing fails.
  Which accounts the two texts tell of one state; the law's accounts, and what its codes come to.
  The law's accounts and its message.
  Two outcomes that are one.
  The law's both: a message by both texts, told of what each run comes to.
  What the runs of the two laws come to.
  The reference's machine: what a store costs, and a slot of an account.
  The reference's machine: what any instruction without memory costs besides; a value of the stack.
  The reference's machine: what SSTORE costs besides.
-/
import Derived.Test.YtfflppedbopdpaaGreatXRf4
import Derived.Test.YtfflppedbopdpaaGreatXEv12
import Derived.Test.YtfflppedbopdpaaGreatXAcs1
import Derived.Test.YtfflppedbopdpaaGreatXRs17
import Derived.Test.YtfflppedbopdpaaGreatXEv16
import Derived.Test.YtfflppedbopdpaaGreatXWrd4
set_option linter.unusedVariables false
set_option maxRecDepth 1000000
set_option maxHeartbeats 8000000
set_option linter.unusedSimpArgs false
namespace Go.Proofs.YtfflppedbopdpaaGreat
open Go.RowKit Go.Mun

theorem not_hot {own : Go.Mun.Own} {i : Nat} (h : own i = none) : ¬ hot own i := fun h2 => h2.1 h
structure RunB (w : World) (own0 : Go.Mun.Own) (m : Msg) (dv : Value) (cx : Ctx) (W : World) (own : Go.Mun.Own) (sb : Nat) (S : St) (M : List (Nat × St)) (n : Nat) : Prop where
 t4 : W.row? w.heap.size 0 129 = some (cat (msgS m dv))
 t5 : W.row? (w.heap.size + 1) 0 43 = some (cat (ctxS cx))
 t6 : W.free? (w.heap.size + 1 + 1) 0 24 = true
 o4 : own w.heap.size = none
 o5 : own (w.heap.size + 1) = none
 o6 : own (w.heap.size + 1 + 1) = none
 st : RState W own sb S M n
 chg : ChgR w W own0 own
section
variable {w W W' : World} {own0 own own' : Go.Mun.Own} {m : Msg} {dv : Value} {cx : Ctx} {sb n n' : Nat} {S S' : St} {M M' : List (Nat × St)}
theorem RunB.go (h : RunB w own0 m dv cx W own sb S M n) (st : RState W' own' sb S' M' n') (c : ChgR W W' own own') : RunB w own0 m dv cx W' own' sb S' M' n' :=
 ⟨(c.only.row? (World.row?_lt h.t4) (not_hot h.o4)).trans h.t4, (c.only.row? (World.row?_lt h.t5) (not_hot h.o5)).trans h.t5, (c.only.free? (free?_lt h.t6) (not_hot h.o6)).trans h.t6,
  (c.ext _ (World.row?_lt h.t4)).trans h.o4, (c.ext _ (World.row?_lt h.t5)).trans h.o5, (c.ext _ (free?_lt h.t6)).trans h.o6, st, h.chg.trans c⟩
theorem RunB.below (h : RunB w own0 m dv cx W own sb S M n) (hb : Below W.heap.size W W') : RunB w own0 m dv cx W' own sb S M n := h.go (h.st.below hb) (ChgR.below own hb)
theorem RunB.box (h : RunB w own0 m dv cx W own sb S M n) {b : Nat} (hb : w.heap.size + 1 + 1 < b) (ho : own b = none) (h1 : Only (· = b) W W') : RunB w own0 m dv cx W' own sb S M n :=
 ⟨(h1.row? (World.row?_lt h.t4) (by omega)).trans h.t4, (h1.row? (World.row?_lt h.t5) (by omega)).trans h.t5, (h1.free? (free?_lt h.t6) (by omega)).trans h.t6,
  h.o4, h.o5, h.o6, h.st.only h1 (fun c hc => by have e : c = b := hc; rw [e]; exact ho), ⟨h.chg.ext, h.chg.only.trans h1 (fun i hi he => by have : i = b := hi; omega)⟩⟩
theorem RunB.start (h : RState w own sb S M n) : RunB w own m dv cx (((w.alloc (.cells (cat (msgS m dv)).toArray 37)).alloc (.cells (cat (ctxS cx)).toArray 64)).alloc (.cells (cat zs46).toArray 41)) own sb S M n := by
 have hb : Below w.heap.size w (((w.alloc (.cells (cat (msgS m dv)).toArray 37)).alloc (.cells (cat (ctxS cx)).toArray 64)).alloc (.cells (cat zs46).toArray 41)) := (((Below.refl _ _).alloc (Nat.le_refl _) _).alloc (by simp) _).alloc (by simp; omega) _
 refine ⟨?_, ?_, ?_, own_new h (Nat.le_refl _), own_new h (by omega), own_new h (by omega), h.below hb, ChgR.below own hb⟩
 ·rw [World.row?_alloc_lt _ (by simp; omega), World.row?_alloc_lt _ (by simp)]; exact World.row?_alloc_at _ _ _ rfl (msgS_len m dv)
 ·rw [World.row?_alloc_lt _ (by simp)]; exact World.row?_alloc_at _ _ _ (by simp) (ctxS_len cx)
 ·exact World.free?_alloc_at _ _ (by simp) (by rw [zs46_len]; omega)
end
structure FrB (E : REnv) (c : RFV) (f : Fr) (W : World) (own : Go.Mun.Own) : Prop where
 row : W.row? E.fb 0 1516 = some (cat (rfS E c f))
 free : W.free? E.fb 0 1516 = true
 fown : own E.fb = none
 base : E.w0.heap.size ≤ E.fb
 chg : ChgR E.w0 W E.own0 own
section
variable {E : REnv} {c : RFV} {f : Fr} {W W' : World} {own own' : Go.Mun.Own}
theorem FrB.lt (h : FrB E c f W own) : E.fb < W.heap.size := World.row?_lt h.row
theorem FrB.go (h : FrB E c f W own) (g : ChgR W W' own own') : FrB E c f W' own' :=
 ⟨(g.only.row? h.lt (not_hot h.fown)).trans h.row, (g.only.free? h.lt (not_hot h.fown)).trans h.free, (g.ext _ h.lt).trans h.fown, h.base, h.chg.trans g⟩
theorem FrB.code (h : FrB E c f W own) (v : Value) : FrB E { c with code := v } f (W.setCell ⟨E.fb, 193, none⟩ v) own := by
 have ho := only_cell W E.fb 193 v
 refine ⟨rfset_code v h.row, by rw [free?_setCell _ (World.free?_sub h.free (by omega))]; exact h.free, h.fown, h.base, ⟨h.chg.ext, h.chg.only.trans ho (fun i hi he => by have : i = E.fb := hi; have := h.base; omega)⟩⟩
end
def rfv0 (cv dv : Value) : RFV := ⟨cv, dv, .slice none 0 0, .slice none 0 0, .slice none 0 0, .slice none 0 0, .slice none 0 0, .nilFunc, tl0⟩
theorem rfr_start {E : REnv} {cv dv : Value} {m : Msg} {code : Bts} {W w : World} {own own00 : Go.Mun.Own} {S : St} {M T : List (Nat × St)} {n : Nat} (h : FrB E (rfv0 cv dv) (frame0 m code) W own) (hst : RState W own E.sb S M n) (hc : CodeAt W own cv code)
  (hd : RoAt w (hot own00) dv m.data) (hw : ChgR w W own00 own) (hfb : w.heap.size ≤ E.fb) (hm : MsgOk m) (hM : M = E.M0 ++ T) (hcnt : n + m.gas.toNat ≤ E.N) (hlim : E.N ≤ 999000) : RFrOk E W own (rfv0 cv dv) (frame0 m code) S M n := by
 have hrm : ∀ b, rmu own E.fb (rfv0 cv dv) b → hot own b ∨ b = E.fb := by
  rintro b (h1 | h1 | h1 | h1)
  ·exact .inl h1
  ·exact .inr h1
  ·cases h1
  ·cases h1
 refine { row := h.row, free := h.free, tlen := tl0_len, base := h.base, fown := h.fown, chg := h.chg, mok := hm, stk := World.ownsRow_nil _ _ _ _, sown := fun g hg => (by cases hg), sval := fun x hx => (by cases hx), slen := Nat.zero_le _, mem := World.ownsRow_nil _ _ _ _, mown := fun g hg => (by cases hg),
          mbyte := fun x hx => (by cases hx), mlen := ⟨Nat.zero_le _, rfl⟩, logs := ⟨rfl, rfl⟩, code := ?_, data := ?_, out := roAt_nil _ _, told := roAt_nil _ _, jmp := fun hj => absurd rfl hj, st := hst, ms := ⟨T, hM⟩, cnt := hcnt, lim := hlim, nxt := Nat.zero_le _ }
 ·obtain ⟨⟨a, k, h1, h2, h3⟩, hb, hl⟩ := hc
  refine ⟨⟨a, k, h1, h2, fun hn p hp hx => ?_⟩, hb, hl⟩
  have hlab := h3 hn p hp
  rcases hrm _ hx with h4 | h4
  ·exact h4.2.1 hlab
  ·rw [h4, h.fown] at hlab; cases hlab
 ·exact hd.only hw.only (fun _ h => h) fun b hb hx => by
   rcases hrm b hx with h4 | h4
   ·unfold hot at *; rw [← hw.ext b hb]; exact h4
   ·omega
end Go.Proofs.YtfflppedbopdpaaGreat
namespace Go.Proofs.YtfflppedbopdpaaGreat
open Go.RowKit Go.Mun
end Go.Proofs.YtfflppedbopdpaaGreat
namespace Go.Proofs.YtfflppedbopdpaaGreat
open Go.RowKit Go.Mun
def NoOut (w : World) (g x : Int) (e : Ending) (w' : World) : Prop := e = .returned (.agg (cat (outS ⟨g, x, [], [], 0⟩ (.slice none 0 0) (.slice none 0 0))).toArray) ∧ Below w.heap.size w w'
def mayN (S : St) (m : Msg) (x : Int) : Prop := (x = 17 ∧ 64 < m.depth) ∨ (x = 16 ∧ m.depth ≤ 64 ∧ (S m.frm).bal < m.value)
attribute [local irreducible] TabRel
end Go.Proofs.YtfflppedbopdpaaGreat
namespace Go.Proofs.YtfflppedbopdpaaGreat
open Go.RowKit Go.Mun
theorem _root_.Go.Mun.RState.bal {w : World} {own : Go.Mun.Own} {sb n : Nat} {S : St} {M : List (Nat × St)} (h : RState w own sb S M n) (a : Nat) : (S a).bal < wW := by
 obtain ⟨lv, mv, ps, ms, k, h1, h2, _, hw, _, _⟩ := h
 by_cases e : ∃ x ∈ fsts ps, x.ac.addr = a
 ·obtain ⟨x, hx, rfl⟩ := e
  obtain ⟨p, hp, rfl⟩ := List.mem_map.1 hx
  obtain ⟨i, hi⟩ := List.mem_iff_getElem?.1 hp
  have := rst_some h1.up (i := i) (x := p.1) (by rw [List.getElem?_map, hi]; rfl)
  have e2 : S p.1.ac.addr = p.1.acc := by rw [h2]; exact this
  rw [e2]
  exact (h1.arr.ok p hp).bal
 ·rw [h2, rst_none (fun x hx e2 => e ⟨x, hx, e2⟩)]
  show 0 < wW
  decide
attribute [local irreducible] zs189 tl0
end Go.Proofs.YtfflppedbopdpaaGreat
namespace Go.Proofs.YtfflppedbopdpaaGreat
open Go.RowKit Go.Mun
attribute [local irreducible] zs189 tl0
def RCallEnd (w : World) (own : Go.Mun.Own) (sb : Nat) (S' : St) (N : Nat) (f' : Fr) (e : Ending) (w' : World) : Prop :=
 ∃ oa oc own' M' n', e = .returned (.agg (cat (outS ⟨f'.gas, 0, [], [], 0⟩ (.slice oa f'.out.length oc) (.slice none 0 0))).toArray) ∧ RState w' own' sb S' M' n' ∧ ChgR w w' own own' ∧ n' ≤ N ∧ (f'.out = [] → Ints w' .u8 oa oc f'.out)
theorem r_run_call {w : World} {own : Go.Mun.Own} {sb n : Nat} {S : St} {M : List (Nat × St)} {m : Msg} {dv : Value} {cx : Ctx} {pr : Fr → St → Int → Pri} {dor : Fr → St → Int → Res} {S1 S' : St} {f' : Fr} {K N : Nat} (hTO : ∀ E, RTold E pr dor) (h : RState w own sb S M n) (hm : MsgOk m) (hk : m.kind = 0) (hg : 0 ≤ m.gas) (hd : m.depth ≤ 64) (hs : m.static = false) (hda : RoAt w (hot own) dv m.data)
  (hN : n + 10 + m.gas.toNat ≤ N) (hN2 : N ≤ 999000) (hmv : S.move m.frm m.to m.value = some S1) (hl : loopX (rstepR pr dor) K (frame0 m (S1 m.to).code) S1 = some (0, f', S')) :
  Calls Tryz.prog 38 #[.pointer (some ⟨sb, 0, none⟩), .agg (cat (msgS m dv)).toArray, .agg (cat (ctxS cx)).toArray] w (RCallEnd w own sb S' N f') := by
 have hn : n ≤ 999000 := by omega
 have hv : ¬ (S m.frm).bal < m.value := fun hh => by unfold St.move at hmv; rw [if_pos hh] at hmv; cases hmv
 have hml := msgS_len m dv
 have hcl := ctxS_len cx
 obtain ⟨w0, e0⟩ : ∃ w0, w0 = ((w.alloc (.cells (cat (msgS m dv)).toArray 37)).alloc (.cells (cat (ctxS cx)).toArray 64)).alloc (.cells (cat zs46).toArray 41) := ⟨_, rfl⟩
 have hB0 : RunB w own m dv cx w0 own sb S M n := by rw [e0]; exact RunB.start h
 have c0 : (cat (msgS m dv))[0]'(by rw [hml]; omega) = .int .i64 m.kind := rfl
 have c1 := msgS_depth m dv
 have c2 := msgS_gas m dv
 rw [hk] at c0
 have hfa := hm.frm
 have hta := hm.to
 have hva := hm.value
 have HST := hid h
 have HB0 := hid hB0
 have HE := hid e0
 have HM := hid hm
 have HK := hid hk
 obtain ⟨x, hx⟩ : ∃ x, x = (S m.frm).bal := ⟨_, rfl⟩
 have hxW : x < wW := by rw [hx]; exact h.bal m.frm
 have HX := hid hx
 have HN := hid hn
 obtain ⟨T, hT⟩ : ∃ T : World → Prop, T = fun W => RunB w own m dv cx W own sb S M n ∧ RState W own sb S M n ∧ Below w.heap.size w W := ⟨_, rfl⟩
 have HT := hid hT
 have HTB : Hid (∀ w2 w3, T w2 → Below w2.heap.size w2 w3 → T w3) := by show ∀ w2 w3, T w2 → Below w2.heap.size w2 w3 → T w3; rw [hT]; intro w2 w3 h hb; exact ⟨h.1.below hb, h.2.1.below hb, h.2.2.trans (hb.mono h.2.2.size)⟩
 have HTG : Hid (∀ w2, T w2 → RunB w own m dv cx w2 own sb S M n ∧ RState w2 own sb S M n ∧ Below w.heap.size w w2) := by show ∀ w2, T w2 → _; rw [hT]; intro w2 h; exact h
 have tt : T w0.drew := by rw [hT]; exact ⟨hB0.below (Below.refl _ _).drew, (hB0.below (Below.refl _ _).drew).st, by rw [e0]; exact ((((Below.refl _ _).alloc (Nat.le_refl _) _).alloc (by simp) _).alloc (by simp; omega) _).drew⟩
 have hdI : decide ((64 : Int) < m.depth) = false := decide_eq_false (by omega)
 have hgI : decide (m.gas < 0) = false := decide_eq_false (by omega)
 have hgn : ¬ m.gas < 0 := by omega
 have hcn : ¬ cmpN x m.value < 0 := by rw [hx]; exact cmpN_ge hv
 have hdc : decide (cmpN x m.value < 0) = false := decide_eq_false hcn
 obtain ⟨da, dk, hdv⟩ : ∃ a k, dv = .slice a m.data.length k := by obtain ⟨⟨a, k, h1, _⟩, _⟩ := hda; exact ⟨a, k, h1⟩
 have HTO := hid hTO
 have HDA := hid hda
 have HNN := hid hN
 have HN2 := hid hN2
 have HMV := hid hmv
 have HL := hid hl
 have HS := hid hs
 have HG := hid hg
 have HDV := hid hdv
 clear h hm hk hB0 e0 hg hd hx hn hT hv hda hN hN2 hmv hl hs hTO hdv
 go_enter Tryz.func38, Tryz.ntmps38
 go_wp2_with fail
 rw [← HE.out]
 have t0 := tt
 clear tt
 refine wp_region_tree T [] (.pure 0 (.pure 1 (.pure 2 (.pure 3 (.take 4 (.pure 7 (.take 8 (.alt 5 (.pure 6 (.alt 9 (.pure 10 (.pure 11 (.pure 12 .fin))) .stop)) .stop)))))))) (by kernel_rfl) (by kernel_rfl) ?_
 iterate 7
  first
  |refine tree_pure ?_ rfl (by rfl) (fun w' hs => ?_) (fun _ _ _ h => h) ?_
   rotate_left
   ·clear hs
    go_simp
    try rfl
   simp only [Act.put, tsa, tsb, tsc]
  |refine tree_take ?_ t0 rfl (by rfl) (fun w' hs => ?_) (fun _ _ _ h => h) ?_
   rotate_left
   ·rw [HT.out] at hs
    obtain ⟨g, _, _⟩ := hs; have q1 := msg_frm g.t4; have q2 := msg_value g.t4; simp only [Nat.zero_add] at q1 q2
    go_simp
    try rfl
   simp only [Act.put, tsa, tsb, tsc]
 refine tree_run rfl (fun K hK => ?_)
 go_simp
 refine (r_get (HTG.out _ t0).2.1 hfa (by have := HN.out; omega)).mono ?_
 rintro e wa ⟨p, rfl, hba, hga⟩
 have hfp : ∀ W, (Instr.field 35 (.agg (racC p).toArray) 2).run Tryz.prog W = .ok (.agg (beC 32 x).toArray) W := fun W => by rw [fld35_2, got_bal hga, HX.out]
 obtain ⟨C, hC⟩ : ∃ C, C = racC p := ⟨_, rfl⟩
 rw [← hC] at hfp ⊢
 have t1 : T wa := HTB.out _ _ t0 hba
 clear hba hga hC
 refine hK.out _ _ t1 ?_
 clear hK K
 refine tree_pure ?_ rfl (by rfl) (fun w' hs => ?_) (fun _ _ _ h => h) ?_
 rotate_left
 ·clear hs
  go_simp
  try rfl
 simp only [Act.put, tsa, tsb, tsc]
 refine tree_run rfl (fun K hK => ?_)
 go_simp
 refine (ref_Cmp x m.value hxW hva _).mono ?_
 rintro e wb ⟨rfl, hbb⟩
 have t2 : T wb := HTB.out _ _ t1 hbb
 clear hbb
 refine hK.out _ _ t2 ?_
 clear hK K
 iterate 3
  refine tree_pure ?_ rfl (by rfl) (fun w' hs => ?_) (fun _ _ _ h => h) ?_
  rotate_left
  ·clear hs
   go_simp
   try rfl
  simp only [Act.put, tsa, tsb, tsc]
 refine tree_fin ?_
 have HB2 := hid (HTG.out _ t2).1
 have k2 := msg_kind HB2.out.t4
 rw [HK.out, Nat.zero_add] at k2
 clear t0 t1 t2 hfp c0 c1 c2 hdc hcn
 go_wp2_with fail
 refine (r_mark HB2.out.st (by have := HN.out; omega)).mono ?_
 rintro e w3 ⟨mk, rfl, hmk, own3, st3, g3⟩
 have HB3 := hid (HB2.out.go st3 g3)
 clear hmk st3 g3 k2
 -- the frame's box
 obtain ⟨fb, hfb⟩ : ∃ fb, fb = w3.heap.size := ⟨_, rfl⟩
 obtain ⟨E, hE⟩ : ∃ E : REnv, E = ⟨w3, own3, sb, fb, m, dv, cx, M ++ [(mk, S)], N⟩ := ⟨_, rfl⟩
 have e1 : E.sb = sb := by rw [hE]
 have e2 : E.fb = fb := by rw [hE]
 have hbld := build189 sb m dv cx m.to m.value da m.data.length dk m.static m.gas
 rw [← HDV.out] at hbld
 obtain ⟨L, hL⟩ : ∃ L, L = cat [[.pointer (some ⟨sb, 0, none⟩)], cat (msgS m dv), cat (ctxS cx), beC 20 m.to, [.slice none 0 0], [dv], beC 32 m.value, [.bool m.static], [.int .i64 m.gas], [.int .i64 0], [.slice none 0 0], [.slice none 0 0], [.slice none 0 0], [.slice none 0 0], [.slice none 0 0], [.bool false], tl0] := ⟨_, rfl⟩
 have hLf : L = cat (rfS E (rfv0 (.slice none 0 0) dv) (frame0 m (S1 m.to).code)) := by
  rw [hL, hE]
  unfold rfS rfv0 frame0
  simp only [Int.toNat_of_nonneg HG.out]
  rfl
 have hLl : L.length = 1516 := by rw [hLf]; exact rfS_len _ _ _ tl0_len
 rw [← hL] at hbld
 obtain ⟨w4, e4⟩ : ∃ w4, w4 = w3.alloc (.cells L.toArray 145) := ⟨_, rfl⟩
 have hb4 : Below w3.heap.size w3 w4 := by rw [e4]; exact (Below.refl _ _).alloc (Nat.le_refl _) _
 have hown : own3 fb = none := own_new HB3.out.st (by rw [hfb]; exact Nat.le_refl _)
 have hFr : FrB E (rfv0 (.slice none 0 0) dv) (frame0 m (S1 m.to).code) w4 own3 := by
  refine ⟨?_, ?_, by rw [e2]; exact hown, by rw [hE]; show w3.heap.size ≤ fb; omega, by rw [hE]; exact ChgR.below own3 hb4⟩
  ·rw [e2, ← hLf, e4, hfb]; exact World.row?_alloc_at _ _ _ rfl hLl
  ·rw [e2, e4, hfb]; exact World.free?_alloc_at _ _ rfl (by rw [hLl]; omega)
 have HB4 := hid (HB3.out.below hb4)
 have HFr := hid hFr
 have HE4 := hid e4
 have HE1 := hid e1
 have HE2 := hid e2
 have HFB := hid hfb
 have HEE := hid hE
 have HFLT : Hid (w.heap.size + 1 + 1 < fb) := by show _ < _; rw [hfb]; exact free?_lt HB3.out.t6
 have r3 := HB3.out.t4
 have r3c := HB3.out.t5
 have q3t := msg_to r3
 have q3d := msg_data r3
 have q3v := msg_value r3
 have q3s := msg_static r3
 have q3k := msg_kind r3
 rw [HK.out] at q3k
 simp only [Nat.zero_add] at q3t q3d q3v q3s q3k
 rw [HS.out] at q3s hbld
 have q4t := msg_to HB4.out.t4
 simp only [Nat.zero_add] at q4t
 rw [e4] at q4t
 clear hL hLf e4 hb4 hown hFr e1 e2 hfb hE
 go_wp2_with fail
 rw [← HE4.out]
 rw [← HFB.out]
 refine (r_get HB4.out.st hta (by have := HN.out; omega)).mono ?_
 rintro e w5 ⟨p, rfl, hb5, hg5⟩
 have hfp : ∀ W, (Instr.field 35 (.agg (racC p).toArray) 3).run Tryz.prog W = .ok p.2.1 W := fun W => fld35_3 p W
 obtain ⟨C, hC⟩ : ∃ C, C = racC p := ⟨_, rfl⟩
 rw [← hC] at hfp ⊢
 obtain ⟨⟨ca, ck, hcv, _, _⟩, _, _⟩ := hg5.ok.code
 rw [hcv] at hfp
 generalize p.1.ac.code.length = cn at hfp
 clear hC hg5 hcv r3 r3c q3t q3d q3v q3s q3k q4t hbld hLl
 have HB5 := hid (HB4.out.below hb5)
 have HFr5 := hid (HFr.out.go (ChgR.below own3 hb5))
 have f5 : w5.free? fb 193 1 = true := by rw [← HE2.out]; exact World.free?_sub HFr5.out.free (by omega)
 obtain ⟨w6, e6⟩ : ∃ w6, w6 = w5.setCell ⟨fb, 193, none⟩ (.slice ca cn ck) := ⟨_, rfl⟩
 have hFr6 := HFr5.out.code (.slice ca cn ck)
 rw [HE2.out, ← e6] at hFr6
 have HFr6 := hid hFr6
 have HB6 : Hid (RunB w own m dv cx w6 own3 sb S (M ++ [(mk, S)]) (n + 1)) := HB5.out.box (b := fb) HFLT.out (by rw [← HE2.out]; exact HFr5.out.fown) (by rw [e6]; exact only_cell _ _ _ _)
 have q6k := msg_kind HB6.out.t4
 rw [HK.out] at q6k
 have q6f := msg_frm HB6.out.t4
 have q6t := msg_to HB6.out.t4
 have q6v := msg_value HB6.out.t4
 simp only [Nat.zero_add] at q6k q6f q6t q6v
 rw [e6] at q6k q6f q6t q6v
 have HE6 := hid e6
 clear hb5 e6 hFr6
 go_wp2_with fail
 rw [← HE6.out]
 have HMO := hid (r_move HB6.out.st hfa hta hva (by have := HN.out; omega))
 rw [HMV.out] at HMO
 refine HMO.out.mono ?_
 rintro e w7 ⟨rfl, own7, st7, g7⟩
 have HB7 := hid (HB6.out.go st7 g7)
 have HFr7 := hid (HFr6.out.go g7)
 have q7t := msg_to HB7.out.t4
 simp only [Nat.zero_add] at q7t
 clear st7 g7 q6k q6f q6t q6v hfp f5 HMO
 go_wp2_with fail
 refine (r_get HB7.out.st hta (by have := HN.out; omega)).mono ?_
 rintro e w8 ⟨p, rfl, hb8, hg8⟩
 have hfp : ∀ W, (Instr.field 35 (.agg (racC p).toArray) 3).run Tryz.prog W = .ok p.2.1 W := fun W => fld35_3 p W
 obtain ⟨C, hC⟩ : ∃ C, C = racC p := ⟨_, rfl⟩
 rw [← hC] at hfp ⊢
 have hcode : p.1.ac.code = (S1 m.to).code := by have := congrArg Acc.code hg8.acc; exact this
 have hcd := hg8.ok.code
 rw [hcode] at hcd
 obtain ⟨cv, hcv⟩ : ∃ cv, cv = p.2.1 := ⟨_, rfl⟩
 rw [← hcv] at hcd hfp
 have HCD : Hid (CodeAt w8 own7 cv (S1 m.to).code) := hcd.only (R := fun _ => False) (Only.of_below_size hb8) (fun _ h => h.elim)
 obtain ⟨⟨ca2, ck2, hcv2, _, _⟩, _, _⟩ := hcd
 have hcn : (S1 m.to).code.length = (S1 m.to).code.length := rfl
 have HB8 := hid (HB7.out.below hb8)
 have HFr8 := hid (HFr7.out.go (ChgR.below own7 hb8))
 have f8 : w8.free? fb 193 1 = true := by rw [← HE2.out]; exact World.free?_sub HFr8.out.free (by omega)
 obtain ⟨w9, e9⟩ : ∃ w9, w9 = w8.setCell ⟨fb, 193, none⟩ cv := ⟨_, rfl⟩
 have hFr9 := HFr8.out.code cv
 rw [HE2.out, ← e9] at hFr9
 have HFr9 : Hid (FrB E (rfv0 cv dv) (frame0 m (S1 m.to).code) w9 own7) := hFr9
 have hO9 : Only (· = fb) w8 w9 := by rw [e9]; exact only_cell _ _ _ _
 have hfo : own7 fb = none := by rw [← HE2.out]; exact HFr8.out.fown
 have HB9 : Hid (RunB w own m dv cx w9 own7 sb S1 (M ++ [(mk, S)]) (n + 1 + 4)) := HB8.out.box (b := fb) HFLT.out hfo hO9
 have HCD9 : Hid (CodeAt w9 own7 cv (S1 m.to).code) := HCD.out.only hO9 (fun b hb => by have e : b = fb := hb; rw [e, hfo]; simp)
 have HRF : Hid (RFrOk E w9 own7 (rfv0 cv dv) (frame0 m (S1 m.to).code) S1 (M ++ [(mk, S)]) (n + 1 + 4)) := by
  have hsb := HB9.out.st
  rw [← HE1.out] at hsb
  exact rfr_start (T := []) HFr9.out hsb HCD9.out HDA.out HB9.out.chg (by have := HFLT.out; have := HE2.out; omega) HM.out (by rw [HEE.out]; simp) (by have := HNN.out; rw [HEE.out]; show n + 1 + 4 + m.gas.toNat ≤ N; omega) (by rw [HEE.out]; exact HN2.out)
 have HE9 := hid e9
 rw [hcv2] at hfp
 have HCV2 := hid hcv2
 clear hb8 hg8 hC hcode hcv hcv2 hcn e9 hFr9 hO9 hfo q7t
 go_wp2_with fail
 rw [← HCV2.out]
 rw [← HE9.out]
 have HRUN := hid (rf_run (HTO.out E) HRF.out HL.out)
 rw [HE2.out] at HRUN
 refine HRUN.out.mono ?_
 rintro e w10 ⟨rfl, own10, c10, M10, n10, f10, S10, h10, hx0, _⟩
 obtain ⟨rfl, rfl⟩ := hx0 rfl
 have HO := hid (r_outcome (mk : Int) h10)
 rw [HE2.out] at HO
 have hov := h10.out
 obtain ⟨⟨oa, oc, hout, hoi, hox⟩, _, _⟩ := hov
 rw [hout] at HO
 have HOI : Hid (Ints w10 .u8 oa oc f10.out) := hoi
 have hch := h10.chg
 have HS10 : Hid (RState w10 own10 sb S10 M10 n10) := by have := h10.st; rw [HE1.out] at this; exact this
 have HN10 : Hid (n10 ≤ N) := by have := h10.cnt; rw [HEE.out] at this; show n10 ≤ N; have h2 : n10 + f10.gas ≤ N := this; omega
 rw [HEE.out] at hch
 have HCH : Hid (ChgR w3 w10 own3 own10) := hch
 have HB10 := hid (HB3.out.go HS10.out HCH.out)
 clear h10 hx0 hout hoi hox hch hfp f8 HRUN
 go_wp2_with fail
 refine HO.out.mono ?_
 rintro e w11 ⟨rfl, hb11⟩
 have HB11 := hid (HB10.out.below hb11)
 have hf11 := HB11.out.t6
 have hok := outS_ok ⟨f10.gas, 0, [], [], 0⟩ oa none f10.out.length oc 0 0
 clear hb11 HO
 go_wp2
 have ob : Only (· = w.heap.size + 1 + 1) w11 (w11.setCells (w.heap.size + 1 + 1) 0 (cat (outS ⟨f10.gas, 0, [], [], 0⟩ (.slice oa f10.out.length oc) (.slice none 0 0)))) := Only.setCells (S := fun b => b = w.heap.size + 1 + 1) (Only.refl _ _) (fun _ => rfl) _ _
 exact ret_row ty46 rfl _ rfl rfl hf11 hok ⟨oa, oc, own10, M10, n10, rfl, HB11.out.st.only ob (fun b hb => by have e : b = w.heap.size + 1 + 1 := hb; rw [e]; exact HB11.out.o6), ⟨HB11.out.chg.ext, HB11.out.chg.only.trans ob (fun i hi he => by have : i = w.heap.size + 1 + 1 := hi; omega)⟩, HN10.out, fun hn => ⟨fun h => absurd hn h, HOI.out.nil, HOI.out.len, HOI.out.cap⟩⟩
end Go.Proofs.YtfflppedbopdpaaGreat
namespace Go.Proofs.YtfflppedbopdpaaGreat
open Go.RowKit Go.Mun
theorem newS_slotsD (l : List Ac) (a k : Nat) : (newS l a).slots k = 0 := by
 have h : ∀ (l : List Ac) (S : St), (∀ a k, (S a).slots k = 0) → ∀ a k, (l.foldl (fun S x => upd S x.addr (accOf x)) S a).slots k = 0 := by
  intro l
  induction l with
  | nil => intro S hS; exact hS
  | cons x l ih =>
   intro S hS
   refine ih _ fun a k => ?_
   show (upd S x.addr (accOf x) a).slots k = 0
   unfold upd
   split
   ·rfl
   ·exact hS a k
 exact h l _ (fun _ _ => rfl) a k
theorem msgS_okD (m : Msg) (a : Option Addr) (n k : Nat) : okL 129 (cat (msgS m (.slice a n k))) = true := by
 refine okL_cat (msgS_len _ _) fun s hs => ?_
 simp only [msgS, List.mem_cons, List.not_mem_nil, or_false] at hs
 rcases hs with rfl | rfl | rfl | rfl | rfl | rfl | rfl | rfl | rfl | rfl
 all_goals first | rfl | (rw [beC_len]; exact beC_ok _ _)
theorem getA_mem_some {l : List (Nat × Nat)} (hp : (l.map Prod.fst).Pairwise (· < ·)) {q : Nat × Nat} (hq : q ∈ l) : (getA q.1 l) = some q.2 := by
 induction l with
 | nil => cases hq
 | cons x l ih =>
  rw [List.map_cons, List.pairwise_cons] at hp
  rcases List.mem_cons.1 hq with rfl | h
  ·simp [getA]
  ·have h1 := hp.1 q.1 (List.mem_map.2 ⟨q, h, rfl⟩)
   have h2 := ih hp.2 h
   have hne : ¬ x.1 = q.1 := by omega
   simp [getA, hne, h2]
theorem accsX_eq {S : St} {n : Nat} {L : List RAc} {l : List Nat} (h : AccsX S n L) (hl : AccsL S l) (hz : ∀ a k, (S a).slots k = 0) : L = l.map fun a => ⟨acOf a (S a), []⟩ := by
 have h1 : L.map (fun x => x.ac.addr) = l := by
  have hu : (L.map (fun x => x.ac.addr)).Pairwise (· < ·) := h.up
  have n1 : (L.map (fun x => x.ac.addr)).Nodup := hu.imp fun {a b} hlt => by omega
  have n2 : l.Nodup := hl.1.imp fun {a b} hlt => by omega
  refine List.Perm.eq_of_pairwise (le := (· < ·)) ?_ hu hl.1 ((List.perm_ext_iff_of_nodup n1 n2).2 fun a => ?_)
  ·intro a b _ _ h1 h2; omega
  ·rw [hl.2 a]
   constructor
   ·intro ha
    obtain ⟨x, hx, rfl⟩ := List.mem_map.1 ha
    exact ⟨(h.well x hx).1.addr, (h.acc x hx).2⟩
   ·rintro ⟨_, h2⟩
    obtain ⟨x, hx, e⟩ := h.all a h2
    exact List.mem_map.2 ⟨x, hx, e⟩
 have h2 : ∀ x ∈ L, x = ⟨acOf x.ac.addr (S x.ac.addr), []⟩ := by
  intro x hx
  have e1 := (h.acc x hx).1
  have hw := h.well x hx
  have hs : x.slots = [] := by
   cases hsl : x.slots with
   | nil => rfl
   | cons q r =>
    exfalso
    have hm : q ∈ x.slots := by rw [hsl]; exact List.mem_cons_self
    have e2 := getA_mem_some hw.2.2.1 hm
    have e3 : x.acc.slots q.1 = q.2 := by unfold RAc.acc; simp [e2]
    rw [e1, hz] at e3
    exact hw.2.2.2 q hm e3.symm
  obtain ⟨⟨a, nn, b, cd⟩, sl⟩ := x
  simp only at hs
  subst hs
  have hn := hw.1.nonce.1
  simp only at e1 hn
  show (⟨⟨a, nn, b, cd⟩, []⟩ : RAc) = ⟨acOf a (S a), []⟩
  rw [← e1]
  unfold acOf RAc.acc
  simp only [RAc.mk.injEq, Ac.mk.injEq, and_true, true_and]
  omega
 rw [← h1, List.map_map]
 conv => lhs; rw [← List.map_id L]
 exact List.map_congr_left h2
theorem accsX_fsts {S : St} {cs : List (Nat × Value)} : fsts (cs.map (accP S)) = (cs.map Prod.fst).map fun a => ⟨acOf a (S a), []⟩ := by
 unfold fsts
 rw [List.map_map, List.map_map]
 rfl
def twoL (a b : Bts) : List Ac := [⟨1, 0, 1000, a⟩, ⟨2, 1, 1000, b⟩, ⟨3, 0, 1000, []⟩]
def askM (v : Nat) (d : Int) : Msg := ⟨0, 3, 1, 0, v, 0, [], 20000, d, false⟩
theorem twoL_3 (a b : Bts) : newS (twoL a b) 3 = ⟨0, 1000, [], fun _ => 0⟩ := by rfl
theorem twoL_1 (a b : Bts) : newS (twoL a b) 1 = ⟨0, 1000, a, fun _ => 0⟩ := by rfl
def movQ (a b : Bts) (v : Nat) : St := ((newS (twoL a b)).setBal 3 (1000 - v)).setBal 1 (1000 + v)
theorem moveT (a b : Bts) (v : Nat) (hv : v ≤ 1000) : (newS (twoL a b)).move 3 1 v = some (movQ a b v) := by
 have e : wW = 115792089237316195423570985008687907853269984665640564039457584007913129639936 := by unfold wW; decide
 unfold St.move
 rw [twoL_3, twoL_1]
 rw [if_neg (by show ¬ 1000 < v; omega), if_neg (by decide), if_neg (by show ¬ wW ≤ 1000 + v; omega)]
 rfl
theorem setBal_slots {S : St} (h : ∀ a k, (S a).slots k = 0) (x n : Nat) : ∀ a k, ((S.setBal x n) a).slots k = 0 := by
 intro a k
 unfold St.setBal upd
 split
 ·exact h x k
 ·exact h a k
theorem movQ_slots (a b : Bts) (v : Nat) : ∀ x k, (movQ a b v x).slots k = 0 := setBal_slots (setBal_slots (newS_slotsD _) _ _) _ _
end Go.Proofs.YtfflppedbopdpaaGreat
namespace Go.Proofs.YtfflppedbopdpaaGreat
open Go.RowKit Go.Mun
theorem build81n (a b : Nat) (p : Option Addr) (k c : Nat) (x : Int) : fillL 55 (plOf zs81) (cat zs81) [(0, .agg (beC 20 a).toArray), (2, .agg (beC 32 b).toArray), (3, .slice p k c), (1, .int .i64 x)] = some (cat (acS ⟨a, x, b, []⟩ (.slice p k c) (.slice none 0 0))) := by
 rw [fillL_cats _ _ _ zs81_len]
 ·rfl
 ·rw [lens81]
  refine fits_cons ?_ (fits_cons ?_ (fits_cons rfl (fits_cons rfl (fits_nil _))))
  ·show some 20 = some (beC 20 a).length; rw [beC_len]
  ·show some 32 = some (beC 32 b).length; rw [beC_len]
theorem sl31_3 : SliceLit Tryz.prog 45 35 55 3 (cat [cat zs81, cat zs81, cat zs81]) := ⟨Tryz.underlying45, ⟨_, .agg (cat zs81).toArray, rfl, by kernel_rfl, by kernel_rfl, by kernel_rfl⟩, by decide, by kernel_rfl, by decide⟩
def fill31_3 (p : List (Nat × Value)) : Option (List Value) := fillL (3 * 55) ((List.range 3).map fun i => (i * 55, 55)) (cat [cat zs81, cat zs81, cat zs81]) p
theorem bs31_3 (ρ : Operand → Value) (dst : Option Tmp) (x y z : Operand) (t : TypeId) (pos : String) (after : Array Edge) (gd : Option (Nat × Bool)) (w : World) :
  (execOp ρ ⟨dst, .buildSlice 45 3 #[(0, x), (1, y), (2, z)], t, pos, after, gd⟩).run Tryz.prog w = asNext (bsRow Tryz.prog 45 35 3 [(0, ρ x), (1, ρ y), (2, ρ z)] w (fill31_3 [(0, ρ x), (1, ρ y), (2, ρ z)])) :=
 ex_bslice ρ dst t pos after gd w sl31_3 [(0, x), (1, y), (2, z)]
theorem fill31_three (a b c : List Value) (ha : a.length = 55) (hb : b.length = 55) (hc : c.length = 55) : fill31_3 [(0, .agg a.toArray), (1, .agg b.toArray), (2, .agg c.toArray)] = some (cat [a, b, c]) := by
 unfold fill31_3
 have h1 : lens [cat zs81, cat zs81, cat zs81] = [55, 55, 55] := by kernel_rfl
 have h3 : plOf [cat zs81, cat zs81, cat zs81] = (List.range 3).map fun i => (i * 55, 55) := by kernel_rfl
 rw [← h3, fillL_cats _ _ _ (by kernel_rfl)]
 ·rfl
 ·rw [h1]
  refine fits_cons ?_ (fits_cons ?_ (fits_cons ?_ (fits_nil _)))
  ·show some 55 = some a.length; rw [ha]
  ·show some 55 = some b.length; rw [hb]
  ·show some 55 = some c.length; rw [hc]
attribute [go_sem ↓] bs31_3
theorem law_two {w : World} {av bv : Value} {a b : Bts} (ha : RoAt w (fun _ => False) av a) (hbx : RoAt w (fun _ => False) bv b) :
  Calls Tryz.prog 16 #[av, bv] w fun e w' => ∃ g, e = .returned (.slice (some ⟨g, 0, none⟩) 3 3) ∧ Below w.heap.size w w' ∧ ∀ i (hi : i < (twoL a b).length), AcAt w' g (0 + i * 55) (twoL a b)[i] := by
 obtain ⟨⟨ca, cc, rfl, hci, hcx⟩, hcb, hcl⟩ := ha
 obtain ⟨⟨da, dc, rfl, hdi, hdx⟩, hdb, hdl⟩ := hbx
 have HC : Hid (RoAt w (fun _ => False) (.slice ca a.length cc) a) := ⟨⟨ca, cc, rfl, hci, hcx⟩, hcb, hcl⟩
 have HD : Hid (RoAt w (fun _ => False) (.slice da b.length dc) b) := ⟨⟨da, dc, rfl, hdi, hdx⟩, hdb, hdl⟩
 have o1 : ofW 1000 = 1000 := by kernel_rfl
 have N1 := hid (fun w => ref_name 1 (by decide) w)
 have N2 := hid (fun w => ref_name 2 (by decide) w)
 have N3 := hid (fun w => ref_name 3 (by decide) w)
 have O1 := hid (fun w => ref_of 1000 (by decide) (by decide) w)
 rw [o1] at O1
 have b1 := build81a 1 1000 ca a.length cc
 have b2 := build81n 2 1000 da b.length dc 1
 have b3 := build81b 3 1000
 obtain ⟨X, hX⟩ : ∃ X, X = cat (acS ⟨1, 0, 1000, []⟩ (.slice ca a.length cc) (.slice none 0 0)) := ⟨_, rfl⟩
 obtain ⟨Y, hY⟩ : ∃ Y, Y = cat (acS ⟨2, 1, 1000, []⟩ (.slice da b.length dc) (.slice none 0 0)) := ⟨_, rfl⟩
 obtain ⟨Z, hZ⟩ : ∃ Z, Z = cat (acS ⟨3, 0, 1000, []⟩ (.slice none 0 0) (.slice none 0 0)) := ⟨_, rfl⟩
 have lX : X.length = 55 := by rw [hX]; exact acS_len _ _ _
 have lY : Y.length = 55 := by rw [hY]; exact acS_len _ _ _
 have lZ : Z.length = 55 := by rw [hZ]; exact acS_len _ _ _
 have bf := fill31_three X Y Z lX lY lZ
 rw [← hX] at b1
 rw [← hY] at b2
 rw [← hZ] at b3
 have HX := hid hX
 have HY := hid hY
 have HZ := hid hZ
 clear hci hcx hcb hcl hdi hdx hdb hdl o1 hX hY hZ
 go_enter Tryz.func16, Tryz.ntmps16
 go_wp2_with fail
 refine (N1.out _).mono ?_
 rintro e w1 ⟨rfl, h1⟩
 have B1 := hid h1
 clear h1
 go_wp2_with fail
 refine (O1.out _).mono ?_
 rintro e w2 ⟨rfl, h2⟩
 have B2 : Hid (Below w.heap.size w w2) := B1.out.trans (h2.mono B1.out.size)
 clear h2
 go_wp2_with fail
 refine (N2.out _).mono ?_
 rintro e w3 ⟨rfl, h3⟩
 have B3 : Hid (Below w.heap.size w w3) := B2.out.trans (h3.mono B2.out.size)
 clear h3
 go_wp2_with fail
 refine (O1.out _).mono ?_
 rintro e w4 ⟨rfl, h4⟩
 have B4 : Hid (Below w.heap.size w w4) := B3.out.trans (h4.mono B3.out.size)
 clear h4
 go_wp2_with fail
 refine (N3.out _).mono ?_
 rintro e w5 ⟨rfl, h5⟩
 have B5 : Hid (Below w.heap.size w w5) := B4.out.trans (h5.mono B4.out.size)
 clear h5
 go_wp2_with fail
 refine (O1.out _).mono ?_
 rintro e w6 ⟨rfl, h6⟩
 have B6 : Hid (Below w.heap.size w w6) := B5.out.trans (h6.mono B5.out.size)
 clear h6
 go_wp2
 go_ret
 refine ⟨_, rfl, B6.out.alloc B6.out.size _, fun i hi => ?_⟩
 have r := World.row?_alloc_at (w := w6) (cat [X, Y, Z]) 35 (0, 0) rfl (n := 165) (by rw [cat_len_cons, cat_len_cons, cat_len_cons, lX, lY, lZ]; rfl)
 have hb2 := B6.out.alloc B6.out.size (.cells (cat [X, Y, Z]).toArray 35)
 match i, hi with
 | 0, _ => exact ⟨⟨_, by rw [row_cat r (i := 0) rfl (by simp [offOf_zero]) lX.symm, HX.out]; rfl, HC.out.below hb2⟩, by show 1 < wA; decide, by show 1000 < wW; decide, by show (0 : Int) ≤ _; decide⟩
 | 1, _ => exact ⟨⟨_, by rw [row_cat r (i := 1) rfl (by simp [offOf_succ, offOf_zero, lX]) lY.symm, HY.out]; rfl, HD.out.below hb2⟩, by show 2 < wA; decide, by show 1000 < wW; decide, by show (1 : Int) ≤ _; decide⟩
 | 2, _ => exact ⟨⟨_, by rw [row_cat r (i := 2) rfl (by simp [offOf_succ, offOf_zero, lX, lY]) lZ.symm, HZ.out]; rfl, roAt_nil _ _⟩, by show 3 < wA; decide, by show 1000 < wW; decide, by show (0 : Int) ≤ _; decide⟩
 | i + 3, hi => exact absurd hi (by simp [twoL])
theorem build62a (g : Int) : fillL 129 (plOf zs42) (cat zs42) [(1, .agg (beC 20 3).toArray), (2, .agg (beC 20 1).toArray), (7, .int .i64 g)] = some (cat (msgS ⟨0, 3, 1, 0, 0, 0, [], g, 0, false⟩ (.slice none 0 0))) := by
 rw [fillL_cats _ _ _ zs42_len]
 ·rfl
 ·rw [lens42]
  refine fits_cons ?_ (fits_cons ?_ (fits_cons rfl (fits_nil _)))
  ·show some 20 = some (beC 20 3).length; rw [beC_len]
  ·show some 20 = some (beC 20 1).length; rw [beC_len]
theorem law_ask (g : Int) (w : World) : Calls Tryz.prog 19 #[.int .i64 g] w fun e w' => e = .returned (.agg (cat (msgS ⟨0, 3, 1, 0, 0, 0, [], g, 0, false⟩ (.slice none 0 0))).toArray) ∧ Below w.heap.size w w' := by
 have N1 := hid (fun w => ref_name 1 (by decide) w)
 have N3 := hid (fun w => ref_name 3 (by decide) w)
 have hbld := build62a g
 have hok := msgS_okD ⟨0, 3, 1, 0, 0, 0, [], g, 0, false⟩ none 0 0
 have hl := msgS_len ⟨0, 3, 1, 0, 0, 0, [], g, 0, false⟩ (.slice none 0 0)
 obtain ⟨C, hC⟩ : ∃ C, C = cat (msgS ⟨0, 3, 1, 0, 0, 0, [], g, 0, false⟩ (.slice none 0 0)) := ⟨_, rfl⟩
 rw [← hC] at hbld hok hl ⊢
 have HC := hid hC
 have hz : (cat zs42).length = 129 := zs42_len
 have hf : (w.alloc (.cells (cat zs42).toArray 37)).free? w.heap.size 0 129 = true := World.free?_alloc_at _ _ rfl (by rw [hz]; omega)
 have hb0 : Below w.heap.size w (w.alloc (.cells (cat zs42).toArray 37)) := (Below.refl _ _).alloc (Nat.le_refl _) _
 have HF := hid hf
 have HB0 := hid hb0
 clear hC hf hb0 hz
 go_enter Tryz.func19, Tryz.ntmps19
 go_wp2_with fail
 refine (N3.out _).mono ?_
 rintro e w1 ⟨rfl, h1⟩
 have f1 : Hid (w1.free? w.heap.size 0 129 = true) := ((brow h1).2 _ _ _ (free?_lt HF.out)).trans HF.out
 have B1 : Hid (Below w.heap.size w w1) := HB0.out.trans (h1.mono HB0.out.size)
 clear h1
 go_wp2_with fail
 refine (N1.out _).mono ?_
 rintro e w2 ⟨rfl, h2⟩
 have f2 := ((brow h2).2 _ _ _ (free?_lt f1.out)).trans f1.out
 have B2 : Hid (Below w.heap.size w w2) := B1.out.trans (h2.mono B1.out.size)
 clear h2
 go_wp2
 exact ret_row ty42 rfl _ rfl rfl f2 hok ⟨rfl, B2.out.setCells (Nat.le_refl _) _ _⟩
end Go.Proofs.YtfflppedbopdpaaGreat
namespace Go.Proofs.YtfflppedbopdpaaGreat
open Go.RowKit Go.Mun
theorem ex_eqlO {P : Program} (ρ : Operand → Value) (dst : Option Tmp) (x y : Operand) (t t2 ty : TypeId) (pos : String) (after : Array Edge) (gd : Option (Nat × Bool)) (w : World) {xs ys : Array Value} {r : Bool} (hm : P.eqGuardType P.depth t = false) (hx : ρ x = .agg xs) (hy : ρ y = .agg ys)
  (h : (binOp .eql t (.agg xs) (.agg ys)).run P w = .ok (.bool r) w) : (execOp ρ ⟨dst, .binOp .eql t x y t2, ty, pos, after, gd⟩).run P w = .ok (.value (.bool r)) w := by
 simp [execOp, hx, hy, Sem.run_bind, run_eqGuard_agg (hm := hm), h]
theorem eg23O : Tryz.prog.eqGuardType Tryz.prog.depth 23 = false := by kernel_rfl
theorem out_out {w : World} {b o : Nat} {oc : Outc} {ov lv : Value} (h : w.row? b o 24 = some (cat (outS oc ov lv))) : w.cell? ⟨b, o + 2, none⟩ = some ov := cell_cat h (i := 2) rfl (by simp [outS, offOf_succ, offOf_zero])
theorem out_logs {w : World} {b o : Nat} {oc : Outc} {ov lv : Value} (h : w.row? b o 24 = some (cat (outS oc ov lv))) : w.cell? ⟨b, o + 3, none⟩ = some lv := cell_cat h (i := 3) rfl (by simp [outS, offOf_succ, offOf_zero])
theorem out_addr {w : World} {b o : Nat} {oc : Outc} {ov lv : Value} (h : w.row? b o 24 = some (cat (outS oc ov lv))) : w.row? b (o + 4) 20 = some (beC 20 oc.addr) := row_cat h (i := 4) rfl (by simp [outS, offOf_succ, offOf_zero]) (by simp)
theorem same_logs0 (a b : Option Addr) (j k : Nat) (w : World) : Calls Tryz.prog 73 #[.slice a 0 j, .slice b 0 k] w fun e w' => e = .returned (.bool true) ∧ w' = w := by
 go_enter Tryz.func73, Tryz.ntmps73
 go_wp2_with fail
 go_loopw [5] (fun ix wz => ix = .int .i64 0 ∧ wz = w) (fun _ _ => 0)
 case atStart => exact ⟨rfl, rfl⟩
 case round =>
  obtain ⟨rfl, rfl⟩ := hrel
  go_wp2
  go_ret
  exact ⟨rfl, rfl⟩
theorem same_outcome {w : World} (g e : Int) (d : Bts) (ad : Nat) (a1 a2 l1 l2 : Option Addr) (c1 c2 j1 j2 : Nat) (had : ad < wA) (h1 : Ints w .u8 a1 c1 d) (h2 : Ints w .u8 a2 c2 d) :
  Calls Tryz.prog 39 #[.agg (cat (outS ⟨g, e, [], [], ad⟩ (.slice a1 d.length c1) (.slice l1 0 j1))).toArray, .agg (cat (outS ⟨g, e, [], [], ad⟩ (.slice a2 d.length c2) (.slice l2 0 j2))).toArray] w fun r w' => r = .returned (.bool true) ∧ Below w.heap.size w w' := by
 obtain ⟨X, hX⟩ : ∃ X, X = cat (outS ⟨g, e, [], [], ad⟩ (.slice a1 d.length c1) (.slice l1 0 j1)) := ⟨_, rfl⟩
 obtain ⟨Y, hY⟩ : ∃ Y, Y = cat (outS ⟨g, e, [], [], ad⟩ (.slice a2 d.length c2) (.slice l2 0 j2)) := ⟨_, rfl⟩
 have lX : X.length = 24 := by rw [hX]; exact outS_len _ _ _
 have lY : Y.length = 24 := by rw [hY]; exact outS_len _ _ _
 rw [← hX, ← hY]
 obtain ⟨w0, e0⟩ : ∃ w0, w0 = (w.alloc (.cells X.toArray 41)).alloc (.cells Y.toArray 41) := ⟨_, rfl⟩
 have hb0 : Below w.heap.size w w0 := by rw [e0]; exact ((Below.refl _ _).alloc (Nat.le_refl _) _).alloc (by simp) _
 have hr : w0.row? w.heap.size 0 24 = some X := by rw [e0, World.row?_alloc_lt _ (by simp)]; exact World.row?_alloc_at X 41 _ rfl lX
 have hs : w0.row? (w.heap.size + 1) 0 24 = some Y := by rw [e0]; exact World.row?_alloc_at Y 41 _ (by simp) lY
 rw [hX] at hr
 rw [hY] at hs
 have hq : ∀ w, (binOp .eql 23 (.agg (beC 20 ad).toArray) (.agg (beC 20 ad).toArray)).run Tryz.prog w = .ok (.bool true) w := fun w => by have := eql_of (fun d => eqD23 (a := ad) (b := ad) had had w d); simpa using this
 obtain ⟨T, hT⟩ : ∃ T : World → Prop, T = fun W => Below w.heap.size w W ∧ W.row? w.heap.size 0 24 = some (cat (outS ⟨g, e, [], [], ad⟩ (.slice a1 d.length c1) (.slice l1 0 j1))) ∧ W.row? (w.heap.size + 1) 0 24 = some (cat (outS ⟨g, e, [], [], ad⟩ (.slice a2 d.length c2) (.slice l2 0 j2))) ∧ Ints W .u8 a1 c1 d ∧ Ints W .u8 a2 c2 d := ⟨_, rfl⟩
 have HT := hid hT
 have HTB : Hid (∀ w2 w3, T w2 → Below w2.heap.size w2 w3 → T w3) := by
  show ∀ w2 w3, T w2 → Below w2.heap.size w2 w3 → T w3
  rw [hT]
  rintro w2 w3 ⟨g0, g1, g2, g3, g4⟩ hb
  exact ⟨g0.trans (hb.mono g0.size), ((brow hb).1 _ _ _ (World.row?_lt g1)).trans g1, ((brow hb).1 _ _ _ (World.row?_lt g2)).trans g2, g3.below hb, g4.below hb⟩
 have HTG : Hid (∀ w2, T w2 → Below w.heap.size w w2) := by show ∀ w2, T w2 → _; rw [hT]; intro w2 h; exact h.1
 have t0 : T w0.drew := HTB.out w0 _ (by rw [hT]; exact ⟨hb0, hr, hs, h1.below hb0, h2.below hb0⟩) (Below.refl _ _).drew
 have HQ := hid hq
 have HE := hid e0
 have HLN := hid (fun w => law_num e w)
 have HSL := hid (fun w => same_logs0 l1 l2 j1 j2 w)
 clear hT h1 h2 hb0 hr hs e0 hX hY hq
 go_enter Tryz.func39, Tryz.ntmps39
 go_wp2_with fail
 rw [← HE.out]
 refine wp_region_tree T [] (.pure 0 (.take 1 (.pure 2 (.take 3 (.pure 4 (.pure 5 (.pure 6 (.take 7 (.pure 9 (.take 10 (.alt 8 (.alt 11 (.pure 12 (.pure 13 (.pure 14 (.pure 15 (.take 16 (.take 17 (.pure 18 (.take 19 (.take 20 (.pure 21 (.pure 22 (.pure 23 (.pure 24 (.take 25 (.pure 26 (.take 27 (.pure 28 (.pure 29 (.pure 30 (.pure 31 (.take 32 (.pure 33 (.take 34 (.alt 35 (.pure 36 (.pure 37 .fin)) .stop)))))))))))))))))))))))) .stop) .stop))))))))))) (by kernel_rfl) (by kernel_rfl) ?_
 iterate 10
  first
  |refine tree_pure ?_ rfl (by rfl) (fun w' hs => ?_) (fun _ _ _ h => h) ?_
   rotate_left
   ·clear hs
    go_simp
    try rfl
   simp only [Act.put, tsa, tsb, tsc]
  |refine tree_take ?_ t0 rfl (by rfl) (fun w' hs => ?_) (fun _ _ _ h => h) ?_
   rotate_left
   ·rw [HT.out] at hs
    obtain ⟨_, g1, g2, i1, i2⟩ := hs; have u0 := out_gas g1; have u1 := out_err g1; have u2 := out_out g1; have u3 := out_logs g1; have u4 := out_addr g1; have v0 := out_gas g2; have v1 := out_err g2; have v2 := out_out g2; have v3 := out_logs g2; have v4 := out_addr g2; have s1 := run_bytes_string' (P := Tryz.prog) Tryz.underlying26 Tryz.underlying5 Tryz.underlying9 rfl i1; have s2 := run_bytes_string' (P := Tryz.prog) Tryz.underlying26 Tryz.underlying5 Tryz.underlying9 rfl i2; simp only [Nat.zero_add] at u0 u1 u2 u3 u4 v0 v1 v2 v3 v4
    go_simp
    try rfl
   simp only [Act.put, tsa, tsb, tsc]
 refine tree_run rfl (fun K hK => ?_)
 go_simp
 refine (HLN.out _).mono ?_
 rintro e wa ⟨rfl, rfl⟩
 have t1 := t0
 refine hK.out _ _ t1 ?_
 clear hK K
 refine tree_run rfl (fun K hK => ?_)
 go_simp
 refine (HLN.out _).mono ?_
 rintro e wb ⟨rfl, rfl⟩
 have t2 := t1
 refine hK.out _ _ t2 ?_
 clear hK K
 iterate 16
  first
  |refine tree_pure ?_ rfl (by rfl) (fun w' hs => ?_) (fun _ _ _ h => h) ?_
   rotate_left
   ·clear hs
    go_simp
    try rfl
   simp only [Act.put, tsa, tsb, tsc]
  |refine tree_take ?_ t2 rfl (by rfl) (fun w' hs => ?_) (fun _ _ _ h => h) ?_
   rotate_left
   ·rw [HT.out] at hs
    obtain ⟨_, g1, g2, i1, i2⟩ := hs; have u0 := out_gas g1; have u1 := out_err g1; have u2 := out_out g1; have u3 := out_logs g1; have u4 := out_addr g1; have v0 := out_gas g2; have v1 := out_err g2; have v2 := out_out g2; have v3 := out_logs g2; have v4 := out_addr g2; have s1 := run_bytes_string' (P := Tryz.prog) Tryz.underlying26 Tryz.underlying5 Tryz.underlying9 rfl i1; have s2 := run_bytes_string' (P := Tryz.prog) Tryz.underlying26 Tryz.underlying5 Tryz.underlying9 rfl i2; simp only [Nat.zero_add] at u0 u1 u2 u3 u4 v0 v1 v2 v3 v4
    go_simp
    try rfl
   simp only [Act.put, tsa, tsb, tsc]
 refine tree_pure (.bool true) rfl (by rfl) (fun w' hs => ?_) (fun _ _ _ h => h) ?_
 ·clear hs
  exact ex_eqlO _ _ _ _ _ _ _ _ _ _ _ eg23O rfl rfl (HQ.out _)
 simp only [Act.put, tsa, tsb, tsc]
 iterate 6
  first
  |refine tree_pure ?_ rfl (by rfl) (fun w' hs => ?_) (fun _ _ _ h => h) ?_
   rotate_left
   ·clear hs
    go_simp
    try rfl
   simp only [Act.put, tsa, tsb, tsc]
  |refine tree_take ?_ t2 rfl (by rfl) (fun w' hs => ?_) (fun _ _ _ h => h) ?_
   rotate_left
   ·rw [HT.out] at hs
    obtain ⟨_, g1, g2, i1, i2⟩ := hs; have u0 := out_gas g1; have u1 := out_err g1; have u2 := out_out g1; have u3 := out_logs g1; have u4 := out_addr g1; have v0 := out_gas g2; have v1 := out_err g2; have v2 := out_out g2; have v3 := out_logs g2; have v4 := out_addr g2; have s1 := run_bytes_string' (P := Tryz.prog) Tryz.underlying26 Tryz.underlying5 Tryz.underlying9 rfl i1; have s2 := run_bytes_string' (P := Tryz.prog) Tryz.underlying26 Tryz.underlying5 Tryz.underlying9 rfl i2; simp only [Nat.zero_add] at u0 u1 u2 u3 u4 v0 v1 v2 v3 v4
    go_simp
    try rfl
   simp only [Act.put, tsa, tsb, tsc]
 refine tree_run rfl (fun K hK => ?_)
 go_simp
 refine (HSL.out _).mono ?_
 rintro e wc ⟨rfl, rfl⟩
 have t3 := t2
 refine hK.out _ _ t3 ?_
 clear hK K
 iterate 2
  refine tree_pure ?_ rfl (by rfl) (fun w' hs => ?_) (fun _ _ _ h => h) ?_
  rotate_left
  ·clear hs
   go_simp
   try rfl
  simp only [Act.put, tsa, tsb, tsc]
 refine tree_fin ?_
 go_wp2
 go_ret
 exact ⟨rfl, HTG.out _ t3⟩
end Go.Proofs.YtfflppedbopdpaaGreat
namespace Go.Proofs.YtfflppedbopdpaaGreat
open Go.RowKit Go.Mun
theorem ret_row3b {P : Program} {fn : Func} {R : Ending → World → Prop} {a : Act} {w : World} {p q q2 ty n b : Nat} (hT : RowTy P ty n) (hres : fn.results = #[.cell p ty, .tmp q, .tmp q2]) (L : List Value) (x y : Value)
  (hp : a.tmps.getD p undef = .pointer (some ⟨b, 0, none⟩)) (hq : a.tmps.getD q undef = x) (hq2 : a.tmps.getD q2 undef = y) (hd : a.defers = []) (hr : w.row? b 0 n = some L) (hR : R (.returned (.tuple #[.agg L.toArray, x, y])) w) :
  bodyPost P fn R .ret a w := by
 refine ⟨hd, _, ?_, hR⟩
 obtain ⟨d, hu, hd⟩ := hT.desc
 have hp' : a.tmps[p]?.getD undef = .pointer (some ⟨b, 0, none⟩) := by simpa using hp
 have hq' : a.tmps[q]?.getD undef = x := by simpa using hq
 have hq2' : a.tmps[q2]?.getD undef = y := by simpa using hq2
 simp [results, hres, hp', hq', hq2', asAddr, run_loadVar_mid w b 0 ty L d (World.row?_rangeAt hr) hu hd (by rw [World.row?_len hr]; exact hT.size)]
def outV (g x : Int) (ad : Nat) (oa : Option Addr) (k oc : Nat) (la : Option Addr) (lc : Nat) : List Value := cat (outS ⟨g, x, [], [], ad⟩ (.slice oa k oc) (.slice la 0 lc))
def RunsP (m : Msg) (dv : Value) (cx : Ctx) (S : St) (g x : Int) (ad : Nat) (d : Bts) (S' : St) : Prop :=
 ∀ (w : World) (own : Go.Mun.Own) (sb : Nat), StateAt TU w own sb S [] 0 → RoAt w (fun b => own b ≠ none) dv m.data →
  Calls Tryz.prog 26 #[.pointer (some ⟨sb, 0, none⟩), .agg (cat (msgS m dv)).toArray, .agg (cat (ctxS cx)).toArray] w fun e w' => ∃ oa oc la lc own' n', e = .returned (.agg (outV g x ad oa d.length oc la lc).toArray) ∧
   RoAt w' (fun b => own' b ≠ none ∨ b < w.heap.size) (.slice oa d.length oc) d ∧ StateAt TU w' own' sb S' [] n' ∧ Chg w w' own own' ∧ n' ≤ 3000000
def RunsR (m : Msg) (dv : Value) (cx : Ctx) (S : St) (g x : Int) (ad : Nat) (d : Bts) (S' : St) : Prop :=
 ∀ (w : World) (own : Go.Mun.Own) (sb n : Nat), n ≤ 1000 → RState w own sb S [] n → RoAt w (hot own) dv m.data →
  Calls Tryz.prog 38 #[.pointer (some ⟨sb, 0, none⟩), .agg (cat (msgS m dv)).toArray, .agg (cat (ctxS cx)).toArray] w fun e w' => ∃ oa oc la lc own' M' n', e = .returned (.agg (outV g x ad oa d.length oc la lc).toArray) ∧
   Ints w' .u8 oa oc d ∧ RState w' own' sb S' M' n' ∧ ChgR w w' own own' ∧ n' ≤ 999000
theorem RoAt.weak {w : World} {X X' : Nat → Prop} {v : Value} {l : Bts} (h : RoAt w X v l) (hX : ∀ b, b < w.heap.size → X' b → X b) : RoAt w X' v l := h.only (R := fun _ => False) (Only.refl _ _) (fun _ h => h.elim) hX
theorem outV_len (g x : Int) (ad : Nat) (oa : Option Addr) (k oc : Nat) (la : Option Addr) (lc : Nat) : (outV g x ad oa k oc la lc).length = 24 := outS_len _ _ _
theorem outV_ok (g x : Int) (ad : Nat) (oa : Option Addr) (k oc : Nat) (la : Option Addr) (lc : Nat) : okL 24 (outV g x ad oa k oc la lc) = true := outS_ok _ _ _ _ _ _ _
theorem boxO (W : World) (C : List Value) (h : okL 24 C = true) : Below W.heap.size W ((W.alloc (.cells (cat zs46).toArray 41)).setCells W.heap.size 0 C) ∧ ((W.alloc (.cells (cat zs46).toArray 41)).setCells W.heap.size 0 C).row? W.heap.size 0 24 = some C ∧ (W.alloc (.cells (cat zs46).toArray 41)).free? W.heap.size 0 24 = true := by
 have hf : (W.alloc (.cells (cat zs46).toArray 41)).free? W.heap.size 0 24 = true := World.free?_alloc_at _ _ rfl (by rw [zs46_len]; omega)
 exact ⟨((Below.refl _ _).alloc (Nat.le_refl _) _).setCells (Nat.le_refl _) _ _, row?_setCells_whole C hf h, hf⟩
def BothEnd (w : World) (g x : Int) (ad : Nat) (d : Bts) (S' : St) (e : Ending) (w' : World) : Prop :=
 ∃ oa oc la lc sb own' n', e = .returned (.tuple #[.agg (outV g x ad oa d.length oc la lc).toArray, .pointer (some ⟨sb, 0, none⟩), .bool true]) ∧ Below w.heap.size w w' ∧ StateAt TU w' own' sb S' [] n' ∧ ∀ b, own' b ≠ none → w.heap.size ≤ b
theorem law_both {w : World} {b c : Nat} {l : List Ac} {m : Msg} {dv : Value} {g x : Int} {ad : Nat} {d : Bts} {S' : St} (hl : l.length ≤ 100) (hac : ∀ i (hi : i < l.length), AcAt w b (0 + i * 55) l[i]) (hnn : ∀ x ∈ l, 0 ≤ x.nonce)
  (hd : RoAt w (fun _ => False) dv m.data) (had : ad < wA) (hP : RunsP m dv ⟨0, 0, 0, 0, 0⟩ (newS l) g x ad d S') (hR : RunsR m dv ⟨0, 0, 0, 0, 0⟩ (newS l) g x ad d S') (hz : ∀ a k, (S' a).slots k = 0) :
  Calls Tryz.prog 15 #[.slice (some ⟨b, 0, none⟩) l.length c, .agg (cat (msgS m dv)).toArray] w (BothEnd w g x ad d S') := by
 have hml := msgS_len m dv
 obtain ⟨w0, e0⟩ : ∃ w0, w0 = (w.alloc (.cells (cat (msgS m dv)).toArray 37)).alloc (.cells (cat zs46).toArray 41) := ⟨_, rfl⟩
 have hb0 : Below w.heap.size w w0 := by rw [e0]; exact ((Below.refl _ _).alloc (Nat.le_refl _) _).alloc (by simp) _
 have r0 : w0.row? w.heap.size 0 129 = some (cat (msgS m dv)) := by rw [e0, World.row?_alloc_lt _ (by simp)]; exact World.row?_alloc_at _ _ _ rfl hml
 have f0 : w0.free? (w.heap.size + 1) 0 24 = true := by rw [e0]; exact World.free?_alloc_at _ _ (by simp) (by rw [zs46_len]; omega)
 have HN := hid (state_new b 0 c l (by omega) w0 (fun i hi => (hac i hi).below hb0))
 have HNR := hid (fun (W : World) (hW : Below w.heap.size w W) => r_new b 0 c l hl W (fun i hi => (hac i hi).below hW) hnn)
 have HE := hid e0
 have HB0 := hid hb0
 have HR0 := hid r0
 have HF0 := hid f0
 have HD := hid hd
 have HP := hid hP
 have HR := hid hR
 have HZ := hid hz
 have HS0 : Hid (w.heap.size + 1 < w0.heap.size) := free?_lt f0
 have HLL := hid hl
 clear hac hnn hd hP hR hz e0 hb0 r0 f0 hl
 go_enter Tryz.func15, Tryz.ntmps15
 go_wp2_with fail
 rw [← HE.out]
 refine HN.out.mono ?_
 rintro e w1 ⟨sb, rfl, hb1, own, hst, hlo⟩
 have HST := hid hst
 have HLO := hid hlo
 have HB1 : Hid (Below w.heap.size w w1) := HB0.out.trans (hb1.mono HB0.out.size)
 have HB01 := hid hb1
 clear hb1 hst hlo HN
 go_wp2_with fail
 refine (HNR.out _ HB1.out).mono ?_
 rintro e w2 ⟨sr, own2, rfl, hnw⟩
 have HNW := hid hnw
 have HB2 : Hid (Below w.heap.size w w2) := HB1.out.trans (hnw.below.mono HB1.out.size)
 have HB02 : Hid (Below w0.heap.size w0 w2) := HB01.out.trans (hnw.below.mono HB01.out.size)
 have HST2 := hid (HST.out.below hnw.below)
 have HLW := hid HST.out.lows
 have r2 : w2.row? w.heap.size 0 129 = some (cat (msgS m dv)) := ((brow HB02.out).1 _ _ _ (World.row?_lt HR0.out)).trans HR0.out
 have HR2 := hid r2
 have HD2 : Hid (RoAt w2 (fun b => w.heap.size ≤ b) dv m.data) := HD.out.only (R := fun _ => False) (Only.of_below_size HB2.out) (fun _ h => h.elim) (fun b hb hx => by omega)
 have hcx : ctxS ⟨0, 0, 0, 0, 0⟩ = zs49 := rfl
 have HRP := hid (HP.out w2 own sb HST2.out (HD2.out.weak fun b _ hx => by have := HLO.out b hx; have := HS0.out; omega))
 rw [hcx] at HRP
 clear hnw HNR
 go_wp2_with fail
 refine HRP.out.mono ?_
 rintro e w3 ⟨oa, oc, la, lc, own3, n3, rfl, hro3, st3, g3, hn3⟩
 obtain ⟨X, hX⟩ : ∃ X, X = outV g x ad oa d.length oc la lc := ⟨_, rfl⟩
 rw [← hX]
 have hXl : X.length = 24 := by rw [hX]; exact outV_len _ _ _ _ _ _ _ _
 have hXk : okL 24 X = true := by rw [hX]; exact outV_ok _ _ _ _ _ _ _ _
 obtain ⟨x1, x2, x3⟩ := boxO w3 X hXk
 obtain ⟨w4, e4⟩ : ∃ w4, w4 = (w3.alloc (.cells (cat zs46).toArray 41)).setCells w3.heap.size 0 X := ⟨_, rfl⟩
 rw [← e4] at x1 x2
 have hkeep : ∀ b, b < w0.heap.size → ¬ own b ≠ none := fun b hb hx => by have := HLO.out b hx; omega
 have r3 : w3.row? w.heap.size 0 129 = some (cat (msgS m dv)) := (g3.only.row? (World.row?_lt HR2.out) (hkeep _ (by have := HS0.out; omega))).trans HR2.out
 have r4 : w4.row? w.heap.size 0 129 = some (cat (msgS m dv)) := ((brow x1).1 _ _ _ (World.row?_lt r3)).trans r3
 have HF2 : Hid (w2.free? (w.heap.size + 1) 0 24 = true) := ((brow HB02.out).2 _ _ _ (free?_lt HF0.out)).trans HF0.out
 have HF4 : Hid (w4.free? (w.heap.size + 1) 0 24 = true) := by
  have f3 : w3.free? (w.heap.size + 1) 0 24 = true := (g3.only.free? (free?_lt HF2.out) (hkeep _ HS0.out)).trans HF2.out
  exact ((brow x1).2 _ _ _ (free?_lt f3)).trans f3
 have HST4 := hid (st3.below x1)
 have HGE3 : Hid (∀ b, own3 b ≠ none → w.heap.size ≤ b) := by
  intro b hb
  by_cases hlt : b < w2.heap.size
  ·rw [g3.ext b hlt] at hb; have := HLO.out b hb; have := HS0.out; omega
  ·have := HB2.out.size; omega
 have HO3 : Hid (own3 (w.heap.size + 1) = none) := by
  show own3 (w.heap.size + 1) = none
  rw [g3.ext _ (free?_lt HF2.out)]
  exact Classical.not_not.1 (hkeep _ HS0.out)
 -- the two states lie apart
 have hap : ∀ b, own2 b ≠ none → own b = none := fun b hb => by
  have h1 := HNW.out.ge b hb
  have : ¬ own b ≠ none := fun h => by have := HLW.out b h; omega
  exact Classical.not_not.1 this
 have hap2 : ∀ b, own b ≠ none → own2 b = none := fun b hb => by
  have : ¬ own2 b ≠ none := fun h => hb (hap b h)
  exact Classical.not_not.1 this
 have HAP3 : Hid (∀ b, own2 b ≠ none → own3 b = none) := fun b hb => by rw [g3.ext b (HNW.out.st.lows b hb)]; exact hap b hb
 have HRS4 : Hid (RState w4 own2 sr (newS l) [] (8 * l.length)) := (HNW.out.st.only g3.only hap2).below x1
 have HD4 : Hid (RoAt w4 (fun b => w.heap.size ≤ b) dv m.data) := (HD2.out.only g3.only (fun b hb => by have := HLO.out b hb; have := HS0.out; show w.heap.size ≤ b; omega) (fun _ _ h => h)).below x1
 have HRO4 : Hid (RoAt w4 (fun b => own3 b ≠ none ∨ b < w2.heap.size) (.slice oa d.length oc) d) := hro3.below x1
 have HB3 : Hid (Below w.heap.size w w3) := HB2.out.trans (g3.only.below HB2.out.size (fun i hi => by have := HLO.out i hi; have := HS0.out; omega))
 have HB4 : Hid (Below w.heap.size w w4) := HB3.out.trans (x1.mono HB3.out.size)
 obtain ⟨B9, hB9⟩ : ∃ B9, B9 = w3.heap.size := ⟨_, rfl⟩
 have HX4 : Hid (w4.row? B9 0 24 = some X) := by rw [hB9]; exact x2
 have HB23 : Hid (w2.heap.size ≤ B9) := by rw [hB9]; exact g3.only.size
 have HE4 := hid e4
 have HBN := hid hB9
 have HXX := hid hX
 have HRR := hid (HR.out w4 own2 sr _ (by have := HLL.out; omega) HRS4.out (HD4.out.weak fun b _ hx => by have h1 := HNW.out.ge b hx.1; have := HB1.out.size; show w.heap.size ≤ b; omega))
 rw [hcx] at HRR
 have q4 := r4
 rw [e4] at q4
 clear r2 hro3 st3 g3 hX x1 x2 e4 hkeep r3 r4 hap hap2 hB9 HRP
 have HN3 := hid hn3
 clear hn3
 go_wp2_with fail
 rw [← HE4.out]
 rw [← HBN.out]
 refine HRR.out.mono ?_
 rintro e w5 ⟨oa2, oc2, la2, lc2, own5, M5, n5, rfl, hi5, st5, g5, hn5⟩
 obtain ⟨Y, hY⟩ : ∃ Y, Y = outV g x ad oa2 d.length oc2 la2 lc2 := ⟨_, rfl⟩
 rw [← hY]
 have hYl : Y.length = 24 := by rw [hY]; exact outV_len _ _ _ _ _ _ _ _
 have hYk : okL 24 Y = true := by rw [hY]; exact outV_ok _ _ _ _ _ _ _ _
 obtain ⟨y1, y2, y3⟩ := boxO w5 Y hYk
 obtain ⟨w6, e6⟩ : ∃ w6, w6 = (w5.alloc (.cells (cat zs46).toArray 41)).setCells w5.heap.size 0 Y := ⟨_, rfl⟩
 rw [← e6] at y1 y2
 have hk2 : ∀ b, (b < w1.heap.size ∨ w2.heap.size ≤ b) → ¬ hot own2 b := fun b hb hx => by
  have h1 := HNW.out.ge b hx.1
  have h2 := HNW.out.st.lows b hx.1
  omega
 have hs12 : w0.heap.size ≤ w1.heap.size := HB01.out.size
 have HX6 : Hid (w6.row? B9 0 24 = some X) := by
  have h1 : w5.row? B9 0 24 = some X := (g5.only.row? (World.row?_lt HX4.out) (hk2 _ (.inr HB23.out))).trans HX4.out
  exact ((brow y1).1 _ _ _ (World.row?_lt h1)).trans h1
 have HF6 : Hid (w6.free? (w.heap.size + 1) 0 24 = true) := by
  have h1 : w5.free? (w.heap.size + 1) 0 24 = true := (g5.only.free? (free?_lt HF4.out) (hk2 _ (.inl (by have := HS0.out; omega)))).trans HF4.out
  exact ((brow y1).2 _ _ _ (free?_lt h1)).trans h1
 have HST6 : Hid (StateAt TU w6 own3 sb S' [] n3) := (HST4.out.only g5.only (fun b hb => HAP3.out b hb.1)).below y1
 have HRS6 := hid (st5.below y1)
 have HI6 := hid (hi5.below y1)
 have HIP6 : Hid (Ints w6 .u8 oa oc d) := by
  have h1 := HRO4.out.only (X' := fun _ => False) (R := hot own2) g5.only (fun b hb => .inr (HNW.out.st.lows b hb.1)) (fun _ _ h => h.elim)
  obtain ⟨⟨a', c', e', i', _⟩, _, _⟩ := h1.below y1
  cases e'
  exact i'
 have HB5 : Hid (Below w.heap.size w w5) := HB4.out.trans (g5.only.below HB4.out.size (fun i hi => by have h1 := HNW.out.ge i hi.1; have := HS0.out; omega))
 have HB6 : Hid (Below w.heap.size w w6) := HB5.out.trans (y1.mono HB5.out.size)
 obtain ⟨B10, hB10⟩ : ∃ B10, B10 = w5.heap.size := ⟨_, rfl⟩
 have HY6 : Hid (w6.row? B10 0 24 = some Y) := by rw [hB10]; exact y2
 have HE6 := hid e6
 have HBN2 := hid hB10
 have HYY := hid hY
 have HN5 := hid hn5
 obtain ⟨B4, hB4⟩ : ∃ B4, B4 = w.heap.size + 1 := ⟨_, rfl⟩
 have HB4E := hid hB4
 rw [← hB4] at HF6
 obtain ⟨T, hT⟩ : ∃ T : World → Prop, T = fun W => Only (fun b => b = B4) w6 W ∧ W.free? B4 0 24 = true := ⟨_, rfl⟩
 have HT := hid hT
 have HTB : Hid (∀ w2 w3, T w2 → Below w2.heap.size w2 w3 → T w3) := by
  show ∀ w2 w3, T w2 → Below w2.heap.size w2 w3 → T w3
  rw [hT]
  intro w2 w3 h hb
  exact ⟨h.1.trans (T := fun _ => False) (Only.of_below_size hb) (fun _ h _ => h.elim), ((brow hb).2 _ _ _ (free?_lt h.2)).trans h.2⟩
 have HTZ : Hid (∀ w2, T w2 → T (w2.setCells B4 0 X)) := by
  show ∀ w2, T w2 → T (w2.setCells B4 0 X)
  rw [hT]
  intro w2 h
  exact ⟨Only.setCells h.1 (fun _ => rfl) _ _, by rw [World.free?_setCells']; exact h.2⟩
 have HTG : Hid (∀ w2, T w2 → Only (fun b => b = B4) w6 w2) := by show ∀ w2, T w2 → _; rw [hT]; intro w2 h; exact h.1
 have HFR : Hid (∀ w2, T w2 → w2.free? B4 0 24 = true) := by show ∀ w2, T w2 → _; rw [hT]; intro w2 h; exact h.2
 have hb94 : B4 < B9 := by have h1 := HB23.out; have h2 := free?_lt HF2.out; omega
 have hb104 : B4 < B10 := by have h1 := World.row?_lt HX4.out; have h2 := g5.only.size; omega
 have HRW : Hid (∀ W, T W → W.row? B9 0 24 = some X ∧ W.row? B10 0 24 = some Y) := fun W hW => ⟨((HTG.out _ hW).row? (World.row?_lt HX6.out) (by omega)).trans HX6.out, ((HTG.out _ hW).row? (World.row?_lt HY6.out) (by omega)).trans HY6.out⟩
 have HO3b : Hid (own3 B4 = none) := by rw [hB4]; exact HO3.out
 have HO5 : Hid (own5 B4 = none) := by
  show own5 B4 = none
  rw [g5.ext _ (by rw [hB4]; exact free?_lt HF4.out)]
  have : ¬ own2 B4 ≠ none := fun hx => by have h1 := HNW.out.ge _ hx; have := HS0.out; omega
  exact Classical.not_not.1 this
 have HSTW : Hid (∀ W, T W → StateAt TU W own3 sb S' [] n3) := fun W hW => HST6.out.only (HTG.out _ hW) (fun b hb => by rw [hb]; exact HO3b.out)
 have HRSW : Hid (∀ W, T W → RState W own5 sr S' M5 n5) := fun W hW => HRS6.out.only (HTG.out _ hW) (fun b hb => by have e : b = B4 := hb; rw [e]; exact HO5.out)
 have HBW : Hid (∀ W, T W → Below w.heap.size w W) := fun W hW => HB6.out.trans ((HTG.out _ hW).below HB6.out.size (fun i hi => by have e : i = B4 := hi; omega))
 have t0 : T w6.drew := HTB.out w6 _ (by rw [hT]; exact ⟨Only.refl _ _, HF6.out⟩) (Below.refl _ _).drew
 clear hb94 hb104 hB4
 clear hi5 st5 g5 hn5 hY y1 y2 e6 hk2 hs12 hB10 hT q4 x3 HRR
 go_wp2_with fail
 rw [← HE6.out]
 rw [← HBN2.out]
 rw [← HB4E.out]
 refine wp_region_tree T [] (.take 0 (.pure 1 (.take 2 (.take 3 (.alt 4 (.pure 5 (.pure 6 (.pure 8 (.alt 7 (.alt 9 (.alt 10 (.pure 11 (.alt 12 (.pure 13 (.pure 14 .fin)) .stop)) .stop) .stop) .stop)))) .stop))))) (by kernel_rfl) (by kernel_rfl) ?_
 iterate 4
  first
  |refine tree_take ?_ t0 rfl (by rfl) (fun w' hs => ?_) (fun _ _ _ h => h) ?_
   rotate_left
   ·rw [HT.out] at hs
    obtain ⟨g9, g10⟩ := HRW.out w' (by rw [HT.out]; exact hs)
    go_simp
    try rfl
   simp only [Act.put, tsa, tsb, tsc]
  |refine tree_pure ?_ rfl (by rfl) (fun w' hs => ?_) (fun _ _ _ h => h) ?_
   rotate_left
   ·clear hs
    go_simp
    try rfl
   simp only [Act.put, tsa, tsb, tsc]
 refine tree_run rfl (fun K hK => ?_)
 go_simp
 have HSO := same_outcome (w := w6.drew) g x d ad oa oa2 la la2 oc oc2 lc lc2 had (HIP6.out.below (Below.refl _ _).drew) (HI6.out.below (Below.refl _ _).drew)
 change Calls Tryz.prog 39 #[.agg (outV g x ad oa d.length oc la lc).toArray, .agg (outV g x ad oa2 d.length oc2 la2 lc2).toArray] _ _ at HSO
 rw [← HXX.out, ← HYY.out] at HSO
 refine HSO.mono ?_
 rintro e w91 ⟨rfl, hb91⟩
 have t1 : T w91 := HTB.out _ _ t0 hb91
 clear hb91
 refine hK.out _ _ t1 ?_
 clear hK K
 iterate 3
  refine tree_pure ?_ rfl (by rfl) (fun w' hs => ?_) (fun _ _ _ h => h) ?_
  rotate_left
  ·clear hs
   go_simp
   try rfl
  simp only [Act.put, tsa, tsb, tsc]
 refine tree_run rfl (fun K hK => ?_)
 go_simp
 refine (st_accounts (HSTW.out _ t1) HN3.out HZ.out).mono ?_
 rintro e w92 ⟨v1, cs1, rfl, hA1, hL1, hC1⟩
 have t2 : T w92 := HTB.out _ _ t1 hA1.below
 have HA1 := hid hA1
 have HL1 := hid hL1
 have HC1 := hid hC1
 clear hA1 hL1 hC1
 refine hK.out _ _ t2 ?_
 clear hK K
 refine tree_run rfl (fun K hK => ?_)
 go_simp
 refine (r_accounts (HRSW.out _ t2) (by have := HN5.out; omega)).mono ?_
 rintro e w93 ⟨v2, ds2, rfl, hA2, hL2⟩
 have t3 : T w93 := HTB.out _ _ t2 hA2.below
 have HA2 := hid hA2
 have HL2 := hid hL2
 clear hA2 hL2
 refine hK.out _ _ t3 ?_
 clear hK K
 refine tree_run rfl (fun K hK => ?_)
 go_simp
 have hds : fsts ds2 = (cs1.map Prod.fst).map fun a => ⟨acOf a (S' a), []⟩ := accsX_eq HL2.out HL1.out HZ.out
 obtain ⟨hro, hez⟩ := accs_rows (HA1.out.next HA2.out.below)
 have hsl : ∀ p ∈ ds2, p.1.slots = [] := by
   intro p hp
   have h1 : p.1 ∈ fsts ds2 := List.mem_map.2 ⟨p, hp, rfl⟩
   rw [hds] at h1
   obtain ⟨a, _, ha⟩ := List.mem_map.1 h1
   rw [← ha]
 refine (same_accs0 hro HA2.out.own hez (cop_easy HA2.out hsl) (by rw [hds, accsX_fsts]) (by rw [List.length_map]; exact HC1.out)).mono ?_
 rintro e w94 ⟨rfl, hb94⟩
 have t4 : T w94 := HTB.out _ _ t3 hb94
 have tf := HFR.out _ t4
 clear hb94 hds hro hez hsl
 refine hK.out _ _ t4 ?_
 clear hK K
 refine tree_pure ?_ rfl (by rfl) (fun w' hs => ?_) (fun _ _ _ h => h) ?_
 rotate_left
 ·clear hs
  go_simp
  try rfl
 simp only [Act.put, tsa, tsb, tsc]
 refine tree_run rfl (fun K hK => ?_)
 go_simp
 have t5 : T (w94.setCells B4 0 X) := HTZ.out _ t4
 refine hK.out _ _ t5 ?_
 clear hK K
 iterate 2
  refine tree_pure ?_ rfl (by rfl) (fun w' hs => ?_) (fun _ _ _ h => h) ?_
  rotate_left
  ·clear hs
   go_simp
   try rfl
  simp only [Act.put, tsa, tsb, tsc]
 refine tree_fin ?_
 have rz : (w94.setCells B4 0 X).row? B4 0 24 = some X := row?_setCells_whole X (HFR.out _ t4) hXk
 go_wp2
 refine ret_row3b ty46 rfl X _ _ rfl rfl rfl rfl rz ?_
 rw [HXX.out]
 rw [HXX.out] at t5
 exact ⟨oa, oc, la, lc, sb, own3, n3, rfl, HBW.out _ t5, HSTW.out _ t5, HGE3.out⟩
end Go.Proofs.YtfflppedbopdpaaGreat
namespace Go.Proofs.YtfflppedbopdpaaGreat
open Go.RowKit Go.Mun
end Go.Proofs.YtfflppedbopdpaaGreat
namespace Go.Proofs.YtfflppedbopdpaaGreat
open Go.RowKit Go.Mun
theorem eqW25 {a b : Nat} (ha : a < wW) (hb : b < wW) (w : World) : (binOp .eql 25 (.agg (beC 32 a).toArray) (.agg (beC 32 b).toArray)).run Tryz.prog w = .ok (.bool (decide (a = b))) w := by
 have := eql_of (fun d => eqD25 (a := a) (b := b) ha hb w d)
 simpa using this

theorem ref_store (n m : Nat) (hn : n < wW) (hm : m < wW) (w : World) :
  Calls Tryz.prog 252 #[.agg (beC 32 n).toArray, .agg (beC 32 m).toArray] w fun e w' => e = .returned (.int .i64 (storeCost n m : Nat)) ∧ Below w.heap.size w w' := by
 obtain ⟨w0, e0⟩ : ∃ w0, w0 = (w.alloc (.cells (beC 32 n).toArray 25)).alloc (.cells (beC 32 m).toArray 25) := ⟨_, rfl⟩
 have hx : Box2 w w0 n m := by rw [e0]; exact Box2.start w n m
 have HE := hid e0
 have hl1 : (beC 32 n).length = 32 := by simp
 have hl2 : (beC 32 m).length = 32 := by simp
 have HB := hid hx.below
 have q1 := hx.x
 have q2 := hx.y
 have z25 := b0_25
 clear e0 hx
 go_enter Tryz.func252, Tryz.ntmps252
 go_wp2_with fail
 rw [← HE.out]
 rw [eqW hn (show (0 : Nat) < wW by decide)]
 by_cases h0 : n = 0
 ·have hd : decide (n = 0) = true := by simp [h0]
  rw [hd]
  go_simp
  go_wp2_with fail
  rw [eqW hm (show (0 : Nat) < wW by decide)]
  by_cases h1 : m = 0
  ·have hd1 : decide (m = 0) = true := by simp [h1]
   rw [hd1]
   go_simp
   go_wp2
   go_ret
   exact ⟨by simp [storeCost, h0, h1], HB.out⟩
  ·have hd1 : decide (m = 0) = false := by simp [h1]
   rw [hd1]
   go_simp
   go_wp2
   go_ret
   exact ⟨by simp [storeCost, h0, h1], HB.out⟩
 ·have hd : decide (n = 0) = false := by simp [h0]
  rw [hd]
  go_simp
  go_wp2
  go_ret
  exact ⟨by simp [storeCost, h0], HB.out⟩
theorem slotC_at (l : List (Nat × Nat)) : ∀ (i : Nat) (hi : i < l.length), ((slotC l).drop (i * 64)).take 64 = beC 32 l[i].1 ++ beC 32 l[i].2 := by
 induction l with
 | nil => intro i hi; simp at hi
 | cons p l ih =>
  intro i hi
  have hc : slotC (p :: l) = (beC 32 p.1 ++ beC 32 p.2) ++ slotC l := by simp [slotC]
  have hl : (beC 32 p.1 ++ beC 32 p.2).length = 64 := by simp
  cases i with
  | zero =>
   rw [hc, Nat.zero_mul, List.drop_zero, List.take_append_of_le_length (by rw [hl]; exact Nat.le_refl _), List.take_of_length_le (by rw [hl]; exact Nat.le_refl _)]
   rfl
  | succ i =>
   rw [hc, show (i + 1) * 64 = (beC 32 p.1 ++ beC 32 p.2).length + i * 64 by rw [hl]; omega, ← List.drop_drop, List.drop_left]
   exact ih i (by simpa using hi)
theorem slot_rows {w : World} {g n : Nat} {l : List (Nat × Nat)} (hr : w.row? g 0 (l.length * 64) = some (slotC l)) {q : Nat} (hq : q < l.length) : w.row? g (q * 64) 32 = some (beC 32 l[q].1) ∧ w.row? g (q * 64 + 32) 32 = some (beC 32 l[q].2) := by
 have h1 := World.row?_sub hr (o' := q * 64) (n' := 64) (by omega) (by omega)
 rw [Nat.sub_zero, slotC_at l q hq] at h1
 have h2 := World.row?_sub h1 (o' := q * 64) (n' := 32) (by omega) (by omega)
 have h3 := World.row?_sub h1 (o' := q * 64 + 32) (n' := 32) (by omega) (by omega)
 refine ⟨?_, ?_⟩
 ·rw [h2, Nat.sub_self, List.drop_zero, List.take_append_of_le_length (by simp), List.take_of_length_le (by simp)]
 ·rw [h3, Nat.add_sub_cancel_left, List.drop_append_of_le_length (by simp), List.drop_of_length_le (by simp), List.nil_append, List.take_of_length_le (by simp)]
theorem getA_first {l : List (Nat × Nat)} {k q : Nat} (hq : q < l.length) (h : ∀ j (hj : j < l.length), j < q → l[j].1 ≠ k) (he : l[q].1 = k) : getA k l = some l[q].2 := by
 induction l generalizing q with
 | nil => simp at hq
 | cons p l ih =>
  obtain ⟨a, b⟩ := p
  cases q with
  | zero => simp only [List.getElem_cons_zero] at he ⊢; simp [getA, he]
  | succ q =>
   have h0 := h 0 (by simp) (by omega)
   simp only [List.getElem_cons_zero] at h0
   simp only [getA, if_neg h0]
   exact ih (q := q) (by simpa using hq) (fun j hj hlt => by have := h (j + 1) (by simpa using hj) (by omega); simpa using this) (by simpa using he)
theorem eg25O : Tryz.prog.eqGuardType Tryz.prog.depth 25 = false := by kernel_rfl
theorem ref_slotOf {w : World} {own : Go.Mun.Own} {p : RAc × Value × Value} {k : Nat} (hp : RAcOk w own p) (hk : k < wW) :
  Calls Tryz.prog 253 #[.agg (racC p).toArray, .agg (beC 32 k).toArray] w fun e w' => e = .returned (.agg (beC 32 ((getA k p.1.slots).getD 0)).toArray) ∧ Below w.heap.size w w' := by
 obtain ⟨sl, hsl⟩ : ∃ sl, sl = p.1.slots := ⟨_, rfl⟩
 have hrd := hp.slots.read
 have hvl := hp.slots.val
 have hln := hp.slots.len
 rw [← hsl] at hrd hvl hln ⊢
 obtain ⟨sa, sc, hsv⟩ := own_shape hrd
 obtain ⟨C, hC⟩ : ∃ C, C = racC p := ⟨_, rfl⟩
 have hCl : C.length = 55 := by rw [hC]; exact racC_len p
 rw [← hC]
 obtain ⟨w0, e0⟩ : ∃ w0, w0 = ((w.alloc (.cells C.toArray 35)).alloc (.cells (beC 32 k).toArray 25)).alloc (.cells (zU8 32).toArray 25) := ⟨_, rfl⟩
 have hb0 : Below w.heap.size w w0 := by rw [e0]; exact (((Below.refl _ _).alloc (Nat.le_refl _) _).alloc (by simp) _).alloc (by simp; omega) _
 have r0 : w0.row? w.heap.size 0 55 = some C := by rw [e0, World.row?_alloc_lt _ (by simp; omega), World.row?_alloc_lt _ (by simp)]; exact World.row?_alloc_at _ _ _ rfl hCl
 have r1 : w0.row? (w.heap.size + 1) 0 32 = some (beC 32 k) := by rw [e0, World.row?_alloc_lt _ (by simp)]; exact World.row?_alloc_at _ _ _ (by simp) (by simp)
 have f2 : w0.free? (w.heap.size + 1 + 1) 0 32 = true := by rw [e0]; exact World.free?_alloc_at _ _ (by simp) (by simp)
 have c54 : w0.cell? ⟨w.heap.size, 54, none⟩ = some (.slice sa sl.length sc) := by rw [hC] at r0; have := cell_54 r0; rw [Nat.zero_add, hsv] at this; exact this
 obtain ⟨m, hm⟩ : ∃ m, m = sl.length := ⟨_, rfl⟩
 rw [← hm] at c54 hln
 have HRW : Hid (∀ q (hq : q < sl.length), ∃ g, sa = some ⟨g, 0, none⟩ ∧ w0.row? g (q * 64) 32 = some (beC 32 sl[q].1) ∧ w0.row? g (q * 64 + 32) 32 = some (beC 32 sl[q].2)) := by
  intro q hq
  obtain ⟨g, c, e, _, _, _, hr, _⟩ := own_words hrd (by omega)
  rw [hsv] at e
  cases e
  obtain ⟨a1, a2⟩ := slot_rows (n := 0) (((brow hb0).1 _ _ _ (World.row?_lt hr)).trans hr) hq
  exact ⟨g, rfl, a1, a2⟩
 have HE := hid e0
 have HB0 := hid hb0
 have HVL := hid hvl
 have HM := hid hm
 have HK := hid hk
 obtain ⟨T, hT⟩ : ∃ T : World → Prop, T = fun W => Below w0.heap.size w0 W := ⟨_, rfl⟩
 have HT := hid hT
 have HTG : Hid (∀ W, T W → Below w0.heap.size w0 W) := by show ∀ W, T W → _; rw [hT]; intro W h; exact h
 have HTN : Hid (∀ W W', T W → Below W.heap.size W W' → T W') := by show ∀ W W', T W → Below W.heap.size W W' → T W'; rw [hT]; intro W W' h hb; exact h.trans (hb.mono h.size)
 have HC0 : Hid (∀ W, T W → W.cell? ⟨w.heap.size, 54, none⟩ = some (.slice sa m sc) ∧ W.row? (w.heap.size + 1) 0 32 = some (beC 32 k) ∧ W.free? (w.heap.size + 1 + 1) 0 32 = true) := fun W hW => ⟨((HTG.out W hW).cell (World.block_lt_of_cell? w0 _ c54)).trans c54, ((brow (HTG.out W hW)).1 _ _ _ (World.row?_lt r1)).trans r1, ((brow (HTG.out W hW)).2 _ _ _ (free?_lt f2)).trans f2⟩
 have tt : T w0 := by rw [hT]; exact Below.refl _ _
 have hlk := beC_len 32 k
 have z25 := b0_25
 clear hC e0 hb0 hvl hm hk hT hrd hp hsl hsv r0 r1 f2 c54
 go_enter Tryz.func253, Tryz.ntmps253
 go_wp2_with fail
 rw [← HE.out]
 go_loopw [5] (fun i wr => ∃ q : Nat, q ≤ m ∧ i = .int .i64 q ∧ T wr ∧ ∀ j (hj : j < sl.length), j < q → sl[j].1 ≠ k) (fun i _ => m - (intOf i).toNat)
 case atStart => exact ⟨0, Nat.zero_le _, rfl, tt, fun j hj h => by omega⟩
 case round =>
  obtain ⟨q, hq, rfl, ht, hno⟩ := hrel
  have HNO := hid hno
  obtain ⟨c54, r1, f2⟩ := HC0.out _ ht
  by_cases hlt : q < m
  ·have hqs : q < sl.length := by rw [← HM.out]; exact hlt
   obtain ⟨g, hsa, hk1, hv1⟩ := HRW.out q hqs
   obtain ⟨kk, hkk⟩ : ∃ kk, kk = sl[q].1 := ⟨_, rfl⟩
   obtain ⟨vv, hvv⟩ : ∃ vv, vv = sl[q].2 := ⟨_, rfl⟩
   rw [← hkk] at hk1
   rw [← hvv] at hv1
   have hkW : kk < wW := by rw [hkk]; exact (HVL.out _ (List.getElem_mem hqs)).1
   subst hsa
   have HR : Hid (∀ W, T W → W.row? g (q * 64) 32 = some (beC 32 kk) ∧ W.row? g (q * 64 + 32) 32 = some (beC 32 vv)) := fun W hW => ⟨((brow (HTG.out W hW)).1 _ _ _ (World.row?_lt hk1)).trans hk1, ((brow (HTG.out W hW)).1 _ _ _ (World.row?_lt hv1)).trans hv1⟩
   have HQ := hid (fun w => eqW25 (a := kk) (b := k) hkW HK.out w)
   have hql : (q : Int) < (m : Int) := by omega
   have dql : decide ((q : Int) < (m : Int)) = true := decide_eq_true hql
   have dqn : (q < m) = True := eq_true hlt
   have hlv := beC_len 32 vv
   have hok := beC_ok 32 vv
   have hlkk := beC_len 32 kk
   have HKK := hid hkk
   have HVV := hid hvv
   have HKW := hid hkW
   have HLT := hid hlt
   have HQS := hid hqs
   clear hkk hvv hkW hk1 hv1 hql hno
   by_cases hke : kk = k
   ·have hdk : decide (kk = k) = true := decide_eq_true hke
    rw [hdk] at HQ
    have HKE := hid hke
    have t0 : T wr.drew := HTN.out _ _ ht (Below.refl _ _).drew
    clear hke hdk hlt
    go_wp2_with fail
    refine wp_region_tree T [] (.pure 0 (.take 1 (.pure 2 (.pure 3 (.pure 4 (.take 5 (.take 6 (.pure 7 .fin)))))))) (by kernel_rfl) (by kernel_rfl) ?_
    iterate 7
     first
     |refine tree_pure ?_ rfl (by rfl) (fun w' hs => ?_) (fun _ _ _ h => h) ?_
      rotate_left
      ·clear hs
       go_simp
       try rfl
      simp only [Act.put, tsa, tsb, tsc]
     |refine tree_take ?_ t0 rfl (by rfl) (fun w' hs => ?_) (fun _ _ _ h => h) ?_
      rotate_left
      ·rw [HT.out] at hs
       obtain ⟨u1, u2, u3⟩ := HC0.out w' (by rw [HT.out]; exact hs); obtain ⟨u4, u5⟩ := HR.out w' (by rw [HT.out]; exact hs)
       go_simp
       try rfl
      simp only [Act.put, tsa, tsb, tsc]
    refine tree_pure (.bool true) rfl (by rfl) (fun w' hs => ?_) (fun _ _ _ h => h) ?_
    ·clear hs
     exact ex_eqlO _ _ _ _ _ _ _ _ _ _ _ eg25O rfl rfl (HQ.out _)
    simp only [Act.put, tsa, tsb, tsc]
    refine tree_fin ?_
    obtain ⟨d54, d1, d2⟩ := HC0.out _ t0
    have d3 := (HR.out _ t0).2
    go_wp2
    have hg : getA k sl = some vv := by rw [HVV.out]; exact getA_first HQS.out HNO.out (by rw [← HKK.out]; exact HKE.out)
    exact ret_row ty25 rfl _ rfl rfl d2 hok ⟨by rw [hg]; rfl, ((HB0.out.trans ((HTG.out _ t0).mono HB0.out.size))).setCells (by omega) _ _⟩
   ·have hdk : decide (kk = k) = false := decide_eq_false hke
    rw [hdk] at HQ
    have HKE := hid hke
    have t0 : T wr.drew := HTN.out _ _ ht (Below.refl _ _).drew
    have hk1 : IntKind.i64.wrap ((q : Int) + 1) = ((q + 1 : Nat) : Int) := by rw [wrI _ (by omega) (by omega)]; omega
    clear hke hdk hlt
    go_wp2_with fail
    refine wp_region_tree T [] (.pure 0 (.take 1 (.pure 2 (.pure 3 (.pure 4 (.take 5 (.take 6 (.pure 7 .fin)))))))) (by kernel_rfl) (by kernel_rfl) ?_
    iterate 7
     first
     |refine tree_pure ?_ rfl (by rfl) (fun w' hs => ?_) (fun _ _ _ h => h) ?_
      rotate_left
      ·clear hs
       go_simp
       try rfl
      simp only [Act.put, tsa, tsb, tsc]
     |refine tree_take ?_ t0 rfl (by rfl) (fun w' hs => ?_) (fun _ _ _ h => h) ?_
      rotate_left
      ·rw [HT.out] at hs
       obtain ⟨u1, u2, u3⟩ := HC0.out w' (by rw [HT.out]; exact hs); obtain ⟨u4, u5⟩ := HR.out w' (by rw [HT.out]; exact hs)
       go_simp
       try rfl
      simp only [Act.put, tsa, tsb, tsc]
    refine tree_pure (.bool false) rfl (by rfl) (fun w' hs => ?_) (fun _ _ _ h => h) ?_
    ·clear hs
     exact ex_eqlO _ _ _ _ _ _ _ _ _ _ _ eg25O rfl rfl (HQ.out _)
    simp only [Act.put, tsa, tsb, tsc]
    refine tree_fin ?_
    go_wp2_with fail
    go_roundw
    case rel =>
     refine ⟨q + 1, by have := HLT.out; omega, by go_num, t0, fun j hj h => ?_⟩
     by_cases e : j = q
     ·subst e; rw [← HKK.out]; exact HKE.out
     ·exact HNO.out j hj (by omega)
    case measure => have := HLT.out; simp [intOf]; omega
  ·obtain rfl : q = m := by omega
   have hg : getA k sl = none := getA_none fun p hp => by
    obtain ⟨i, hi, rfl⟩ := List.mem_iff_getElem.1 hp
    exact hno i hi (by rw [HM.out]; exact hi)
   have hok := beC_ok 32 0
   have hl0 := beC_len 32 0
   have HGN := hid hg
   clear hno hg
   go_wp2
   exact ret_row ty25 rfl _ rfl rfl f2 hok ⟨by rw [HGN.out]; rfl, ((HB0.out.trans ((HTG.out _ ht).mono HB0.out.size))).setCells (by omega) _ _⟩
end Go.Proofs.YtfflppedbopdpaaGreat
namespace Go.Proofs.YtfflppedbopdpaaGreat
open Go.RowKit Go.Mun
def NoArea (x : Int) : Prop := x ≠ 32 ∧ x ≠ 55 ∧ x ≠ 57 ∧ x ≠ 60 ∧ x ≠ 62 ∧ x ≠ 81 ∧ x ≠ 82 ∧ x ≠ 83 ∧ x ≠ 160 ∧ x ≠ 161 ∧ x ≠ 162 ∧ x ≠ 163 ∧ x ≠ 164 ∧ x ≠ 240 ∧ x ≠ 241 ∧ x ≠ 243 ∧ x ≠ 244 ∧ x ≠ 245 ∧ x ≠ 250 ∧ x ≠ 253
theorem ref_area_none (x : Int) (hx : NoArea x) (w : World) : Calls Tryz.prog 250 #[.int .u8 x] w fun e w' => e = .returned (.tuple #[.int .i64 (-1), .int .i64 (-1), .int .i64 0]) ∧ w' = w := by
 unfold NoArea at hx
 have n32 : (x == 32) = false := by simp; omega
 have n55 : (x == 55) = false := by simp; omega
 have n57 : (x == 57) = false := by simp; omega
 have n60 : (x == 60) = false := by simp; omega
 have n62 : (x == 62) = false := by simp; omega
 have n81 : (x == 81) = false := by simp; omega
 have n82 : (x == 82) = false := by simp; omega
 have n83 : (x == 83) = false := by simp; omega
 have n160 : (x == 160) = false := by simp; omega
 have n161 : (x == 161) = false := by simp; omega
 have n162 : (x == 162) = false := by simp; omega
 have n163 : (x == 163) = false := by simp; omega
 have n164 : (x == 164) = false := by simp; omega
 have n240 : (x == 240) = false := by simp; omega
 have n241 : (x == 241) = false := by simp; omega
 have n243 : (x == 243) = false := by simp; omega
 have n244 : (x == 244) = false := by simp; omega
 have n245 : (x == 245) = false := by simp; omega
 have n250 : (x == 250) = false := by simp; omega
 have n253 : (x == 253) = false := by simp; omega
 clear hx
 go_enter Tryz.func250, Tryz.ntmps250
 go_wp2
 go_ret3
 exact ⟨rfl, rfl⟩
theorem r_price_none (x : Int) (hx : NoArea x) (h1 : x ≠ 10) (h2 : x ≠ 85) (fb : Nat) (w : World) : Calls Tryz.prog 178 #[.pointer (some ⟨fb, 0, none⟩), .int .u8 x] w fun e w' => e = .returned (.tuple #[.int .i64 0, .bool true]) ∧ w' = w := by
 have HA := hid (fun w => ref_area_none x hx w)
 have n10 : (x == 10) = false := by simp; omega
 have n85 : (x == 85) = false := by simp; omega
 clear hx h1 h2
 go_enter Tryz.func178, Tryz.ntmps178
 go_wp2_with fail
 refine (HA.out _).mono ?_
 rintro e w1 ⟨rfl, rfl⟩
 go_wp2
 go_ret2
 exact ⟨rfl, rfl⟩
theorem stkC_row (l : List Nat) : ∀ (i : Nat) (hi : i < l.length), ((stkC l).drop (i * 32)).take 32 = beC 32 l[i] := by
 induction l with
 | nil => intro i hi; simp at hi
 | cons p l ih =>
  intro i hi
  have hc : stkC (p :: l) = beC 32 p ++ stkC l := by simp [stkC]
  have hl : (beC 32 p).length = 32 := by simp
  cases i with
  | zero =>
   rw [hc, Nat.zero_mul, List.drop_zero, List.take_append_of_le_length (by rw [hl]; exact Nat.le_refl _), List.take_of_length_le (by rw [hl]; exact Nat.le_refl _)]
   rfl
  | succ i =>
   rw [hc, show (i + 1) * 32 = (beC 32 p).length + i * 32 by rw [hl]; omega, ← List.drop_drop, List.drop_left]
   exact ih i (by simpa using hi)
theorem word_row {w : World} {b base : Nat} {v : Value} {l : List Nat} (h : w.ownsRow base 25 32 v l.length (stkC l)) {i : Nat} (hi : i < l.length) : ∃ g c, v = .slice (some ⟨g, 0, none⟩) l.length c ∧ w.row? g (i * 32) 32 = some (beC 32 l[i]) := by
 obtain ⟨g, c, e, _, _, _, hr, _⟩ := own_words h (by omega)
 have h1 := World.row?_sub hr (o' := i * 32) (n' := 32) (by omega) (by omega)
 rw [Nat.sub_zero, stkC_row l i hi] at h1
 exact ⟨g, c, e, h1⟩
theorem ref_top {E : REnv} {w : World} {own : Go.Mun.Own} {c : RFV} {f : Fr} {S : St} {M : List (Nat × St)} {n : Nat} (k : Nat) (h : RFrOk E w own c f S M n) (hk : k < f.stack.length) :
  Calls Tryz.prog 249 #[.pointer (some ⟨E.fb, 0, none⟩), .int .i64 (k : Int)] w fun e w' => e = .returned (.agg (beC 32 (f.stack[f.stack.length - 1 - k]'(by omega))).toArray) ∧ Below w.heap.size w w' := by
 obtain ⟨m, hm⟩ : ∃ m, m = f.stack.length := ⟨_, rfl⟩
 obtain ⟨i, hi⟩ : ∃ i, i = f.stack.length - 1 - k := ⟨_, rfl⟩
 have hil : i < f.stack.length := by omega
 obtain ⟨x, hx⟩ : ∃ x, x = f.stack[i]'hil := ⟨_, rfl⟩
 have hxx : (f.stack[f.stack.length - 1 - k]'(by omega)) = x := by rw [hx]; congr 1; exact hi.symm
 rw [hxx]
 obtain ⟨g, sc, hsv, hrow⟩ := word_row (b := 0) h.stk hil
 rw [← hx] at hrow
 have csv := rf_sv h.row
 rw [hsv, ← hm] at csv
 have hsl := h.slen
 obtain ⟨w0, e0⟩ : ∃ w0, w0 = w.alloc (.cells (zU8 32).toArray 25) := ⟨_, rfl⟩
 have hb0 : Below w.heap.size w w0 := by rw [e0]; exact (Below.refl _ _).alloc (Nat.le_refl _) _
 have f0 : w0.free? w.heap.size 0 32 = true := by rw [e0]; exact World.free?_alloc_at _ _ rfl (by simp)
 have t1 : w0.cell? ⟨E.fb, 230, none⟩ = some (.slice (some ⟨g, 0, none⟩) m sc) := (hb0.cell (World.block_lt_of_cell? w _ csv)).trans csv
 have t2 : w0.row? g (i * 32) 32 = some (beC 32 x) := ((brow hb0).1 _ _ _ (World.row?_lt hrow)).trans hrow
 obtain ⟨T, hT⟩ : ∃ T : World → Prop, T = fun W => W.cell? ⟨E.fb, 230, none⟩ = some (.slice (some ⟨g, 0, none⟩) m sc) ∧ W.row? g (i * 32) 32 = some (beC 32 x) := ⟨_, rfl⟩
 have HT := hid hT
 have t0 : T w0.drew := by rw [hT]; exact ⟨t1, t2⟩
 have hw1 : IntKind.i64.wrap ((m : Int) - 1) = ((m - 1 : Nat) : Int) := by rw [wrI _ (by omega) (by omega)]; omega
 have hw2 : IntKind.i64.wrap ((m : Int) - 1 - (k : Int)) = (i : Int) := by rw [wrI _ (by omega) (by omega)]; omega
 have hw3 : IntKind.i64.wrap (((m - 1 : Nat) : Int) - (k : Int)) = (i : Int) := by rw [wrI _ (by omega) (by omega)]; omega
 have him : i < m := by omega
 have hok := beC_ok 32 x
 have hlx := beC_len 32 x
 have HE := hid e0
 have HB := hid hb0
 have HF := hid f0
 have fz : w0.drew.free? w.heap.size 0 32 = true := f0
 clear hT h csv hrow hsv e0 hb0 t1 t2 f0 hxx hx hi hil hsl hk hm
 go_enter Tryz.func249, Tryz.ntmps249
 go_wp2_with fail
 rw [← HE.out]
 refine wp_region_tree T [16] (.pure 0 (.pure 1 (.pure 2 (.pure 3 (.take 4 (.pure 5 (.pure 6 (.pure 7 (.pure 8 (.take 9 (.pure 10 (.pure 11 (.pure 12 (.pure 13 (.pure 14 (.take 15 (.alt 16 .fin .stop))))))))))))))))) (by kernel_rfl) (by kernel_rfl) ?_
 iterate 13
  first
  |refine tree_pure ?_ rfl (by rfl) (fun w' hs => ?_) (fun _ _ _ h => h) ?_
   rotate_left
   ·clear hs
    go_simp
    try rfl
   simp only [Act.put, tsa, tsb, tsc]
  |refine tree_take ?_ t0 rfl (by rfl) (fun w' hs => ?_) (fun _ _ _ h => h) ?_
   rotate_left
   ·rw [HT.out] at hs
    obtain ⟨g1, g2⟩ := hs
    go_simp
    try rfl
   simp only [Act.put, tsa, tsb, tsc]
 refine tree_pure (.int .i64 (i : Int)) rfl (by rfl) (fun w' hs => ?_) (fun _ _ _ h => h) ?_
 ·clear hs
  go_simp
 simp only [Act.put, tsa, tsb, tsc]
 refine tree_pure (.pointer (some ⟨g, i * 32, none⟩)) rfl (by rfl) (fun w' hs => ?_) (fun _ _ _ h => h) ?_
 ·clear hs
  go_simp
 simp only [Act.put, tsa, tsb, tsc]
 refine tree_take ?_ t0 rfl (by rfl) (fun w' hs => ?_) (fun _ _ _ h => h) ?_
 rotate_left
 ·rw [HT.out] at hs
  obtain ⟨g1, g2⟩ := hs
  go_simp
  try rfl
 simp only [Act.put, tsa, tsb, tsc]
 refine tree_z rfl (by simp) (fun K hK => ?_)
 go_simp
 refine hK.out _ _ ?_
 clear hK K
 refine tree_fin ?_
 have hrz : (w0.drew.setCells w.heap.size 0 (beC 32 x)).row? w.heap.size 0 32 = some (beC 32 x) := row?_setCells_whole _ fz hok
 go_wp2
 refine ⟨rfl, _, results_row ty25 rfl _ _ w.heap.size 0 (beC 32 x) rfl hrz, rfl, HB.out.drew.setCells (Nat.le_refl _) _ _⟩
end Go.Proofs.YtfflppedbopdpaaGreat
namespace Go.Proofs.YtfflppedbopdpaaGreat
open Go.RowKit Go.Mun
theorem getA_bound {l : List (Nat × Nat)} {k B : Nat} (hB : 0 < B) (h : ∀ q ∈ l, q.2 < B) : (getA k l).getD 0 < B := by
 induction l with
 | nil => exact hB
 | cons p l ih =>
  obtain ⟨a, b⟩ := p
  simp only [getA]
  split
  ·exact h _ (List.mem_cons_self)
  ·exact ih fun q hq => h q (List.mem_cons_of_mem _ hq)
def topF (f : Fr) (k : Nat) : Nat := f.stack.reverse[k]?.getD 0
theorem topF_eq {f : Fr} {k : Nat} (hk : k < f.stack.length) : topF f k = f.stack[f.stack.length - 1 - k]'(by omega) := by
 unfold topF
 rw [List.getElem?_reverse hk, List.getElem?_eq_getElem (by omega)]
 rfl
theorem ref_topF {E : REnv} {w : World} {own : Go.Mun.Own} {c : RFV} {f : Fr} {S : St} {M : List (Nat × St)} {n : Nat} (k : Nat) (h : RFrOk E w own c f S M n) (hk : k < f.stack.length) :
  Calls Tryz.prog 249 #[.pointer (some ⟨E.fb, 0, none⟩), .int .i64 (k : Int)] w fun e w' => e = .returned (.agg (beC 32 (topF f k)).toArray) ∧ Below w.heap.size w w' := by
 rw [topF_eq hk]; exact ref_top k h hk
theorem topF_lt {E : REnv} {w : World} {own : Go.Mun.Own} {c : RFV} {f : Fr} {S : St} {M : List (Nat × St)} {n : Nat} (h : RFrOk E w own c f S M n) (k : Nat) : topF f k < wW := by
 unfold topF
 cases e : f.stack.reverse[k]? with
 | none => show 0 < wW; decide
 | some x => exact h.sval x (by have := List.mem_of_getElem? e; simpa using this)
theorem r_price_store {E : REnv} {w : World} {own : Go.Mun.Own} {c : RFV} {f : Fr} {S : St} {M : List (Nat × St)} {n : Nat} (h : RFrOk E w own c f S M n) (hl : 2 ≤ f.stack.length) :
  Calls Tryz.prog 178 #[.pointer (some ⟨E.fb, 0, none⟩), .int .u8 85] w fun e w' => e = .returned (.tuple #[.int .i64 (storeCost ((S f.m.to).slots (topF f 0)) (topF f 1) : Nat), .bool true]) ∧ Below w.heap.size w w' := by
 have HA := hid (fun w => ref_area_none 85 (by unfold NoArea; decide) w)
 have c0 := rf_ptr h.row
 have c1 := rf_self h.row
 have hto := h.mok.to
 have hnn : n ≤ 1000000 := by have := h.cnt; have := h.lim; omega
 obtain ⟨k, hk⟩ : ∃ k, k = topF f 0 := ⟨_, rfl⟩
 obtain ⟨v, hv⟩ : ∃ v, v = topF f 1 := ⟨_, rfl⟩
 have hkW : k < wW := by rw [hk]; exact topF_lt h 0
 have hvW : v < wW := by rw [hv]; exact topF_lt h 1
 have H := hid h
 obtain ⟨T, hT⟩ : ∃ T : World → Prop, T = fun W => Below w.heap.size w W := ⟨_, rfl⟩
 have HT := hid hT
 have HTG : Hid (∀ W, T W → Below w.heap.size w W) := by show ∀ W, T W → _; rw [hT]; intro W h; exact h
 have HTN : Hid (∀ W W', T W → Below W.heap.size W W' → T W') := by show ∀ W W', T W → Below W.heap.size W W' → T W'; rw [hT]; intro W W' h hb; exact h.trans (hb.mono h.size)
 have H0 : Hid (∀ W, T W → Calls Tryz.prog 249 #[.pointer (some ⟨E.fb, 0, none⟩), .int .i64 0] W fun e w' => e = .returned (.agg (beC 32 k).toArray) ∧ Below W.heap.size W w') := fun W hW => by have := ref_topF 0 (H.out.below (HTG.out W hW)) (by omega); rw [← hk] at this; exact this
 have H1 : Hid (∀ W, T W → Calls Tryz.prog 249 #[.pointer (some ⟨E.fb, 0, none⟩), .int .i64 1] W fun e w' => e = .returned (.agg (beC 32 v).toArray) ∧ Below W.heap.size W w') := fun W hW => by have := ref_topF 1 (H.out.below (HTG.out W hW)) (by omega); rw [← hv] at this; exact this
 have t0 : T w.drew := by rw [hT]; exact (Below.refl _ _).drew
 rw [← hk, ← hv]
 obtain ⟨sl, hsl⟩ : ∃ sl, sl = (S f.m.to).slots k := ⟨_, rfl⟩
 rw [← hsl]
 have HSL := hid hsl
 have HC : Hid (∀ W, T W → W.cell? ⟨E.fb, 0, none⟩ = some (.pointer (some ⟨E.sb, 0, none⟩)) ∧ W.row? E.fb 173 20 = some (beC 20 f.m.to)) := fun W hW => ⟨((HTG.out W hW).cell (World.block_lt_of_cell? w _ c0)).trans c0, ((brow (HTG.out W hW)).1 _ _ _ (World.row?_lt c1)).trans c1⟩
 clear h hT hk hv hsl c0 c1
 go_enter Tryz.func178, Tryz.ntmps178
 go_wp2_with fail
 refine (HA.out _).mono ?_
 rintro e w1 ⟨rfl, rfl⟩
 go_wp2_with fail
 refine wp_region_tree T [] (.pure 0 (.pure 1 (.pure 2 (.take 3 (.pure 4 (.pure 5 (.pure 6 (.take 7 (.pure 9 (.pure 12 (.alt 8 (.alt 10 (.alt 11 (.alt 13 (.alt 14 (.pure 15 .fin) .stop) .stop) .stop) .stop) .stop))))))))))) (by kernel_rfl) (by kernel_rfl) ?_
 iterate 10
  first
  |refine tree_pure ?_ rfl (by rfl) (fun w' hs => ?_) (fun _ _ _ h => h) ?_
   rotate_left
   ·clear hs
    go_simp
    try rfl
   simp only [Act.put, tsa, tsb, tsc]
  |refine tree_take ?_ t0 rfl (by rfl) (fun w' hs => ?_) (fun _ _ _ h => h) ?_
   rotate_left
   ·rw [HT.out] at hs
    obtain ⟨g1, g2⟩ := HC.out w' (by rw [HT.out]; exact hs)
    go_simp
    try rfl
   simp only [Act.put, tsa, tsb, tsc]
 refine tree_run rfl (fun K hK => ?_)
 go_simp
 refine (r_get (H.out.below (HTG.out _ t0)).st hto hnn).mono ?_
 rintro e wa ⟨p, rfl, hba, hga⟩
 have t1 : T wa := HTN.out _ _ t0 hba
 have HP : Hid (RAcOk wa own p) := hga.ok.only (S := fun _ => False) (Only.of_below_size hba) (fun _ h => h.elim)
 have HPS : Hid ((getA k p.1.slots).getD 0 = sl) := by show _ = _; rw [HSL.out, ← hga.acc]; rfl
 obtain ⟨C, hC⟩ : ∃ C, C = racC p := ⟨_, rfl⟩
 rw [← hC]
 have HCC := hid hC
 clear hba hga hC
 refine hK.out _ _ t1 ?_
 clear hK K
 refine tree_run rfl (fun K hK => ?_)
 go_simp
 refine (H0.out _ t1).mono ?_
 rintro e wb ⟨rfl, hbb⟩
 have t2 : T wb := HTN.out _ _ t1 hbb
 have HPb : Hid (RAcOk wb own p) := HP.out.only (S := fun _ => False) (Only.of_below_size hbb) (fun _ h => h.elim)
 clear hbb
 refine hK.out _ _ t2 ?_
 clear hK K
 refine tree_run rfl (fun K hK => ?_)
 go_simp
 have hso := ref_slotOf HPb.out hkW
 rw [HPS.out, ← HCC.out] at hso
 refine hso.mono ?_
 rintro e wc ⟨rfl, hbc⟩
 have t3 : T wc := HTN.out _ _ t2 hbc
 clear hbc hso
 refine hK.out _ _ t3 ?_
 clear hK K
 refine tree_run rfl (fun K hK => ?_)
 go_simp
 refine (H1.out _ t3).mono ?_
 rintro e wd ⟨rfl, hbd⟩
 have t4 : T wd := HTN.out _ _ t3 hbd
 clear hbd
 refine hK.out _ _ t4 ?_
 clear hK K
 refine tree_run rfl (fun K hK => ?_)
 go_simp
 have hsW : sl < wW := by rw [← HPS.out]; exact getA_bound (by decide) fun q hq => (HP.out.slots.val q hq).2
 refine (ref_store sl v hsW hvW _).mono ?_
 rintro e we ⟨rfl, hbe⟩
 have t5 : T we := HTN.out _ _ t4 hbe
 clear hbe
 refine hK.out _ _ t5 ?_
 clear hK K
 refine tree_pure ?_ rfl (by rfl) (fun w' hs => ?_) (fun _ _ _ h => h) ?_
 rotate_left
 ·clear hs
  go_simp
  try rfl
 simp only [Act.put, tsa, tsb, tsc]
 refine tree_fin ?_
 go_wp2
 go_ret2
 exact ⟨rfl, HTG.out _ t5⟩
end Go.Proofs.YtfflppedbopdpaaGreat
