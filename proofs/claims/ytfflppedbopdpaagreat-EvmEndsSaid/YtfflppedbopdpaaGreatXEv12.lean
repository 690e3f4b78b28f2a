/-
  The machine: why a message can't be.
  The machine: a message that calls, where nothing fails.
  The machine: a message; Run.
  The machine: Run, where nothing fails.
-/
import Derived.Test.YtfflppedbopdpaaGreatXEv9
set_option linter.unusedVariables false
set_option maxRecDepth 1000000
set_option maxHeartbeats 8000000
set_option linter.unusedSimpArgs false
namespace Go.Proofs.YtfflppedbopdpaaGreat
open Go.RowKit Go.Mun

def mayR (S : St) (m : Msg) : Int :=
 if m.kind < 0 ∨ 4 < m.kind then 1 else if 64 < m.depth then 17
 else if (m.kind = 0 ∨ m.kind = 3 ∨ m.kind = 4) ∧ (S m.frm).bal < m.value then 16
 else if (m.kind = 3 ∨ m.kind = 4) ∧ 4611686018427387904 ≤ (S m.frm).nonce then 20 else 0
theorem StateAt.nonce {w : World} {own : Own} {sb : Nat} {S : St} {M : List (Nat × St)} {n : Nat} (h : StateAt TU w own sb S M n) (a : Nat) : (S a).nonce ≤ 9223372036854775807 := by
 obtain ⟨mb, uv, mv, last, E, U, mk, h, _⟩ := h
 cases e : getA a E with
 | none => rw [h.out a e]; exact Nat.zero_le _
 | some p => exact (h.acc (a, p) (getA_mem e)).nonce
structure MayT (w0 w : World) (own : Own) (sb rb : Nat) (S : St) (M : List (Nat × St)) (n : Nat) (m : Msg) (dv : Value) : Prop where
 row : w.row? w0.heap.size 0 129 = some (cat (msgS m dv))
 sp : w.cell? ⟨rb, 0, none⟩ = some (.pointer (some ⟨sb, 0, none⟩))
 st : StateAt TU w own sb S M n
 below : Below w0.heap.size w0 w
theorem MayT.next {w0 w w' : World} {own : Own} {sb rb : Nat} {S : St} {M : List (Nat × St)} {n : Nat} {m : Msg} {dv : Value} (h : MayT w0 w own sb rb S M n m dv) (hb : Below w.heap.size w w') : MayT w0 w' own sb rb S M n m dv :=
 ⟨((brow hb).1 _ _ _ (World.row?_lt h.row)).trans h.row, (hb.cell (World.block_lt_of_cell? w _ h.sp)).trans h.sp, h.st.below hb, h.below.trans (hb.mono h.below.size)⟩
theorem msgS_depth (m : Msg) (dv : Value) : (cat (msgS m dv))[127]'(by rw [msgS_len]; omega) = .int .i64 m.depth := by
 have h : (cat (msgS m dv))[127]? = some (.int .i64 m.depth) := by
  have hs := cat_split (l := msgS m dv) (i := 8) rfl
  have h1 : (cat ((msgS m dv).take 8)).length = 127 := by simp [msgS, cat_len_cons, cat_len_nil]
  rw [hs, List.getElem?_append_right (by omega), h1]; rfl
 have h2 := List.getElem?_eq_some_iff.1 h
 exact h2.2
theorem may_call {w : World} {own : Own} {sb rb tb : Nat} {cx : Ctx} {tab : Tabl} {S : St} {M : List (Nat × St)} {n : Nat} {m : Msg} {dv : Value} (hst : StateAt TU w own sb S M n) (hr : RunAt w own sb rb tb cx tab) (hm : MsgOk m) (hk : m.kind = 0) (hd : m.depth ≤ 64) (hv : ¬ (S m.frm).bal < m.value) :
  Calls Tryz.prog 156 #[.pointer (some ⟨rb, 0, none⟩), .agg (cat (msgS m dv)).toArray] w fun e w' => e = .returned (.int .i64 (0)) ∧ Below w.heap.size w w' := by
 have hml := msgS_len m dv
 obtain ⟨w1, e1⟩ : ∃ w1, w1 = w.alloc (.cells (cat (msgS m dv)).toArray 37) := ⟨_, rfl⟩
 have hb1 : Below w.heap.size w w1 := by rw [e1]; exact (Below.refl _ _).alloc (Nat.le_refl _) _
 have hr1 : w1.row? w.heap.size 0 129 = some (cat (msgS m dv)) := by rw [e1]; exact World.row?_alloc_at _ _ _ rfl hml
 have t0 : MayT w w1 own sb rb S M n m dv := ⟨hr1, (hr.chg (Chg.below own hb1)).sp, hst.below hb1, hb1⟩
 have hnn := StateAt.nonce hst m.frm
 have hbb := hst.bal m.frm
 have c0 : (cat (msgS m dv))[0]'(by rw [hml]; omega) = .int .i64 m.kind := rfl
 have c1 := msgS_depth m dv
 have HT0 := hid t0
 have HE := hid e1
 have hfa := hm.frm
 have hva := hm.value
 clear hst hr e1 hb1 hr1 hm
 rw [hk] at c0
 have HM : Hid (∀ w, Calls Tryz.prog 158 #[.agg (cat (msgS m dv)).toArray] w fun e w' => e = .returned (.bool false) ∧ Below w.heap.size w w') := fun w => by have := evm_makes m dv w; rw [show decide (m.kind = 3 ∨ m.kind = 4) = false by rw [hk]; decide] at this; exact this
 obtain ⟨T, hT⟩ : ∃ T : World → Prop, T = fun w' => MayT w w' own sb rb S M n m dv := ⟨_, rfl⟩
 have HT := hid hT
 have tb : ∀ w2 w3, T w2 → Below w2.heap.size w2 w3 → T w3 := by rw [hT]; intro w2 w3 h hb; exact h.next hb
 have HTB := hid tb
 have ts : ∀ w2, T w2 → StateAt TU w2 own sb S M n := by rw [hT]; intro w2 h; exact h.st
 have HTS := hid ts
 have tg : ∀ w2, T w2 → Below w.heap.size w w2 := by rw [hT]; intro w2 h; exact h.below
 have HTG := hid tg
 have tt : T w1 := by rw [hT]; exact HT0.out
 clear hT tb ts tg t0 HT0
 have hdI : decide ((64 : Int) < m.depth) = false := decide_eq_false (by omega)
 have hcn : ¬ cmpN (S m.frm).bal m.value < 0 := cmpN_ge hv
 have hdc : decide (cmpN (S m.frm).bal m.value < 0) = false := decide_eq_false hcn
 go_enter Tryz.func156, Tryz.ntmps156
 go_wp2_with fail
 rw [← HE.out]
 have t3 : T w1.drew := HTB.out _ _ tt (Below.refl _ _).drew
 clear tt
 refine wp_region_tree T [] (.pure 0 (.pure 1 (.pure 2 (.pure 3 (.pure 4 (.take 5 (.pure 6 (.take 7 (.pure 9 (.take 10 (.alt 8 (.alt 11 (.pure 12 (.pure 13 (.pure 14 .fin))) .stop) .stop))))))))))) (by kernel_rfl) (by kernel_rfl) ?_
 iterate 10
  first
  |refine tree_pure ?_ rfl (by rfl) (fun w' hs => ?_) (fun _ _ _ h => h) ?_
   rotate_left
   ·clear hs
    go_simp
    try rfl
   simp only [Act.put, tsa, tsb, tsc]
  |refine tree_take ?_ t3 rfl (by rfl) (fun w' hs => ?_) (fun _ _ _ h => h) ?_
   rotate_left
   ·rw [HT.out] at hs
    have q0 := hs.sp; have q1 := msg_frm hs.row; have q2 := msg_value hs.row; simp only [Nat.zero_add] at q1 q2
    go_simp
    try rfl
   simp only [Act.put, tsa, tsb, tsc]
 refine tree_run rfl (fun K hK => ?_)
 go_simp
 refine (st_balance (HTS.out _ t3) m.frm hfa).mono ?_
 rintro e w4 ⟨rfl, hb⟩
 have t4 : T w4 := HTB.out _ _ t3 hb
 clear hb t3
 refine hK.out _ _ t4 ?_
 clear hK K
 refine tree_run rfl (fun K hK => ?_)
 go_simp
 refine (word_cmp _ m.value hbb hva _).mono ?_
 rintro e w5 ⟨rfl, hb⟩
 have t5 : T w5 := HTB.out _ _ t4 hb
 clear hb t4
 refine hK.out _ _ t5 ?_
 clear hK K
 iterate 3
  refine tree_pure ?_ rfl (by rfl) (fun w' hs => ?_) (fun _ _ _ h => h) ?_
  rotate_left
  ·clear hs
   go_simp
   try rfl
  simp only [Act.put, tsa, tsb, tsc]
 refine tree_fin ?_
 go_wp2_with fail
 have t6 : T w5.drew := HTB.out _ _ t5 (Below.refl _ _).drew
 clear t5
 refine wp_region_tree T [] (.take 0 (.alt 1 (.pure 2 (.take 3 (.take 4 (.take 5 (.take 6 (.take 7 (.take 8 (.take 9 (.take 10 (.pure 11 (.pure 12 .fin))))))))))) .stop)) (by kernel_rfl) (by kernel_rfl) ?_
 refine tree_take ?_ t6 rfl (by rfl) (fun w' hs => ?_) (fun _ _ _ h => h) ?_
 rotate_left
 ·rw [HT.out] at hs
  have q0 := hs.row
  go_simp
  try rfl
 simp only [Act.put, tsa, tsb, tsc]
 refine tree_run rfl (fun K hK => ?_)
 go_simp
 refine (HM.out _).mono ?_
 rintro e w7 ⟨rfl, hb⟩
 have t7 : T w7 := HTB.out _ _ t6 hb
 clear hb t6
 refine hK.out _ _ t7 ?_
 clear hK K
 refine tree_pure ?_ rfl (by rfl) (fun w' hs => ?_) (fun _ _ _ h => h) ?_
 rotate_left
 ·clear hs
  go_simp
  try rfl
 simp only [Act.put, tsa, tsb, tsc]
 iterate 8
  refine tree_skip t7 rfl (by rfl) (fun _ _ _ h => h) ?_
  simp only [Act.put, tsa, tsb, tsc]
 iterate 2
  refine tree_pure ?_ rfl (by rfl) (fun w' hs => ?_) (fun _ _ _ h => h) ?_
  rotate_left
  ·clear hs
   go_simp
   try rfl
  simp only [Act.put, tsa, tsb, tsc]
 refine tree_fin ?_
 go_wp2
 go_ret
 exact ⟨rfl, HTG.out _ t7⟩
theorem RoAt.chg {w w' : World} {own own' : Own} {v : Value} {l : Bts} (h : RoAt w (fun b => own b ≠ none) v l) (g : Chg w w' own own') : RoAt w' (fun b => own' b ≠ none) v l :=
 h.only g.only (fun _ h => h) (fun b hb hx => by rw [← g.ext b hb]; exact hx)
structure CallT (w0 : World) (own0 : Own) (sb rb tb : Nat) (cx : Ctx) (tab : Tabl) (m : Msg) (dv : Value) (w : World) (own : Own) (S : St) (M : List (Nat × St)) (n : Nat) : Prop where
 row : w.row? w0.heap.size 0 129 = some (cat (msgS m dv))
 res : w.free? (w0.heap.size + 1) 0 24 = true
 o1 : own w0.heap.size = none
 o2 : own (w0.heap.size + 1) = none
 run0 : RunAt w0 own0 sb rb tb cx tab
 st : StateAt TU w own sb S M n
 chg : Chg w0 w own0 own
 data0 : RoAt w0 (fun b => own0 b ≠ none) dv m.data
theorem CallT.run {w0 : World} {own0 : Own} {sb rb tb : Nat} {cx : Ctx} {tab : Tabl} {m : Msg} {dv : Value} {w : World} {own : Own} {S : St} {M : List (Nat × St)} {n : Nat} (h : CallT w0 own0 sb rb tb cx tab m dv w own S M n) : RunAt w own sb rb tb cx tab := h.run0.chg h.chg
theorem CallT.data {w0 : World} {own0 : Own} {sb rb tb : Nat} {cx : Ctx} {tab : Tabl} {m : Msg} {dv : Value} {w : World} {own : Own} {S : St} {M : List (Nat × St)} {n : Nat} (h : CallT w0 own0 sb rb tb cx tab m dv w own S M n) : RoAt w (fun b => own b ≠ none) dv m.data := h.data0.chg h.chg
theorem CallT.box {w0 : World} {own0 : Own} {sb rb tb : Nat} {cx : Ctx} {tab : Tabl} {m : Msg} {dv : Value} {w : World} {own : Own} {S : St} {M : List (Nat × St)} {n : Nat} (h : CallT w0 own0 sb rb tb cx tab m dv w own S M n) {w' : World} {b : Nat} (hb : w0.heap.size + 1 < b) (ho : own b = none) (h1 : Only (· = b) w w') : CallT w0 own0 sb rb tb cx tab m dv w' own S M n :=
 ⟨by rw [h1.row? (World.row?_lt h.row) (by omega)]; exact h.row, by rw [h1.free? (free?_lt h.res) (by omega)]; exact h.res, h.o1, h.o2, h.run0, h.st.only h1 (fun c hc => by rw [hc]; exact ho), ⟨h.chg.ext, h.chg.only.trans h1 (fun i hi he => by have : i = b := hi; omega)⟩, h.data0⟩
theorem CallT.go {w0 : World} {own0 : Own} {sb rb tb : Nat} {cx : Ctx} {tab : Tabl} {m : Msg} {dv : Value} {w : World} {own : Own} {S : St} {M : List (Nat × St)} {n : Nat} (h : CallT w0 own0 sb rb tb cx tab m dv w own S M n)
  {w' : World} {own' : Own} {S' : St} {M' : List (Nat × St)} {n' : Nat} (g : Chg w w' own own') (hs : StateAt TU w' own' sb S' M' n') : CallT w0 own0 sb rb tb cx tab m dv w' own' S' M' n' := by
 have h1 := World.row?_lt h.row
 have h2 := free?_lt h.res
 exact ⟨box_kept h.row h.o1 g, by rw [g.only.free? h2 (fun hh => hh h.o2)]; exact h.res, by rw [g.ext _ h1]; exact h.o1, by rw [g.ext _ h2]; exact h.o2, h.run0, hs, h.chg.trans g, h.data0⟩
theorem CallT.below {w0 : World} {own0 : Own} {sb rb tb : Nat} {cx : Ctx} {tab : Tabl} {m : Msg} {dv : Value} {w : World} {own : Own} {S : St} {M : List (Nat × St)} {n : Nat} (h : CallT w0 own0 sb rb tb cx tab m dv w own S M n)
  {w' : World} (hb : Below w.heap.size w w') : CallT w0 own0 sb rb tb cx tab m dv w' own S M n := h.go (Chg.below own hb) (h.st.below hb)
theorem callT_new {w : World} {own : Own} {sb rb tb : Nat} {cx : Ctx} {tab : Tabl} {m : Msg} {dv : Value} {S : St} {M : List (Nat × St)} {n : Nat} (hst : StateAt TU w own sb S M n) (hr : RunAt w own sb rb tb cx tab) (hd : RoAt w (fun b => own b ≠ none) dv m.data) :
  CallT w own sb rb tb cx tab m dv ((w.alloc (.cells (cat (msgS m dv)).toArray 37)).alloc (.cells (cat zs46).toArray 41)) own S M n := by
 have hb : Below w.heap.size w ((w.alloc (.cells (cat (msgS m dv)).toArray 37)).alloc (.cells (cat zs46).toArray 41)) := ((Below.refl _ _).alloc (Nat.le_refl _) _).alloc (by simp) _
 have g := Chg.below own hb
 refine ⟨?_, ?_, free_own hst.lows (Nat.le_refl _), free_own hst.lows (Nat.le_succ _), hr, hst.below hb, g, hd⟩
 ·rw [World.row?_alloc_lt _ (by simp)]; exact World.row?_alloc_at _ _ _ rfl (msgS_len m dv)
 ·exact World.free?_alloc_at _ _ (by simp) (by rw [zs46_len]; omega)
theorem newB_ro {w w' : World} {own : Own} {v : Value} {l : Bts} (h : NewB w w' v l) (hl : ∀ b, own b ≠ none → b < w.heap.size) (hb : Byt l) (hn : l.length ≤ 1099511627776) : RoAt w' (fun b => own b ≠ none) v l := by
 obtain ⟨⟨a, c, h1, h2, h3⟩, _⟩ := h
 exact ⟨⟨a, c, h1, h2, fun _ p hp hx => by have := h3 p hp; have := hl _ hx; omega⟩, hb, hn⟩
theorem StateAt.code {w : World} {own : Own} {sb : Nat} {S : St} {M : List (Nat × St)} {n : Nat} (h : StateAt TU w own sb S M n) (a : Nat) : Byt (S a).code ∧ (S a).code.length ≤ 1099511627776 := by
 obtain ⟨mb, uv, mv, last, E, U, mk, h, _⟩ := h
 cases e : getA a E with
 | none => rw [h.out a e]; exact ⟨fun x hx => by simp [Acc.none] at hx, Nat.zero_le _⟩
 | some p =>
  obtain ⟨cv, q, sl, _, h2, _⟩ := (h.acc (a, p) (getA_mem e)).cells
  exact ⟨h2.byte, h2.len⟩
theorem evm_call_ok {w : World} {own : Own} {sb rb tb : Nat} {cx : Ctx} {tab : Tabl} {S S1 S' : St} {M : List (Nat × St)} {n N K : Nat} {f' : Fr} {m : Msg} {dv : Value} {step : Fr → St → Res}
  (h : RunCx w own sb rb tb cx tab S M n N) (hm : MsgOk m) (hk : m.kind = 0) (hg : 0 ≤ m.gas) (hd : RoAt w (fun b => own b ≠ none) dv m.data) (hn : n + 3 + m.gas.toNat ≤ N) (hs : StepOk sb rb tb cx tab step)
  (hmv : S.move m.frm m.to m.value = some S1) (hl : loopR step K (frame0 m (S1 m.to).code) S1 = some (0, f', S')) :
  Calls Tryz.prog 160 #[.pointer (some ⟨rb, 0, none⟩), .agg (cat (msgS m dv)).toArray] w fun e w' => ∃ o ov lv own' n', e = .returned (.agg (cat (outS o ov lv)).toArray) ∧ StateAt TU w' own' sb S' M n' ∧ Chg w w' own own' ∧ OutAt w' own' w.heap.size ov lv o ∧
   0 ≤ o.gas ∧ n' + o.gas.toNat ≤ N ∧ o.err = 0 ∧ o.gas = f'.gas ∧ o.out = f'.out ∧ o.logs = f'.logs ∧ o.addr = 0 := by
 have hml := msgS_len m dv
 obtain ⟨w1, e1⟩ : ∃ w1, w1 = (w.alloc (.cells (cat (msgS m dv)).toArray 37)).alloc (.cells (cat zs46).toArray 41) := ⟨_, rfl⟩
 have t1 := callT_new (m := m) h.st h.run hd
 rw [← e1] at t1
 have hN := h.lim
 have HT1 := hid t1
 have HE := hid e1
 have HL := hid hl
 have HS := hid hs
 have HMV := hid hmv
 have hs1 : w1.cell? ⟨rb, 0, none⟩ = some (.pointer (some ⟨sb, 0, none⟩)) := t1.run.sp
 have hs2 := hs1
 rw [e1] at hs2
 have hs0 := h.run.sp
 have hrb := World.row?_lt h.run.row
 clear h hl hs hmv e1 t1 hd
 go_enter Tryz.func160, Tryz.ntmps160
 go_wp2_with fail
 rw [← HE.out]
 refine (st_mark HT1.out.st (by omega)).mono ?_
 rintro e w2 ⟨x, rfl, hx1, hx2, own2, st2, g2⟩
 have t2 := HT1.out.go g2 st2
 have HT2 := hid t2
 have q1 := msg_to t2.row
 have q2 := msg_kind t2.row
 simp only [Nat.zero_add] at q1
 rw [hk, Nat.zero_add] at q2
 have hlt2 := World.row?_lt t2.row
 have hf3 : (w2.alloc (.cells (zU8 20).toArray 23)).free? w2.heap.size 0 20 = true := World.free?_alloc_at _ _ rfl (by simp)
 have hok3 := beC_ok 20 m.to
 obtain ⟨w3, e3⟩ : ∃ w3, w3 = (w2.alloc (.cells (zU8 20).toArray 23)).setCells w2.heap.size 0 (beC 20 m.to) := ⟨_, rfl⟩
 have hb3 : Below w2.heap.size w2 w3 := by rw [e3]; exact ((Below.refl _ _).alloc (Nat.le_refl _) _).setCells (Nat.le_refl _) _ _
 have r3 : w3.row? w2.heap.size 0 20 = some (beC 20 m.to) := by rw [e3]; exact ((Arr.new w2 20 (zU8 20) 23 (by simp)).setCells (beC 20 m.to) hok3).row
 have q3 : w3.cell? ⟨w.heap.size, 0, none⟩ = some (.int .i64 0) := (hb3.cell (p := ⟨w.heap.size, 0, none⟩) hlt2).trans q2
 rw [e3] at q3
 have HT3 := hid (t2.below hb3)
 have HR3 := hid r3
 have HE3 := hid e3
 have hp3 : own2 w2.heap.size = none := free_own t2.st.lows (Nat.le_refl _)
 have HP3 := hid hp3
 clear st2 g2 t2 hx1 hs0 hs1 hs2 e3 hb3 r3 q2 hlt2 hp3
 go_wp2_with fail
 rw [← HE3.out]
 obtain ⟨T, hT⟩ : ∃ T : World → Prop, T = fun w' => CallT w own sb rb tb cx tab m dv w' own2 S (M ++ [(x, S)]) (n + 1) := ⟨_, rfl⟩
 have HT := hid hT
 have H4 := hid (HT3.out.below (Below.refl _ _).drew)
 have t0 : T w3.drew := by rw [hT]; exact H4.out
 have HMVC := hid (st_move H4.out.st m.frm m.to m.value hm.frm hm.to hm.value (by omega))
 have HR4 : Hid (w3.drew.row? w2.heap.size 0 20 = some (beC 20 m.to)) := HR3.out
 clear hT q1 q3 hf3 hok3
 refine wp_region_tree T [10] (.pure 0 (.pure 1 (.pure 2 (.take 3 (.pure 4 (.take 5 (.pure 6 (.take 7 (.pure 8 (.take 9 (.alt 10 (.pure 11 .fin) .stop))))))))))) (by kernel_rfl) (by kernel_rfl) ?_
 iterate 10
  first
  |refine tree_pure ?_ rfl (by rfl) (fun w' hs => ?_) (fun _ _ _ h => h) ?_
   rotate_left
   ·clear hs
    go_simp
    try rfl
   simp only [Act.put, tsa, tsb, tsc]
  |refine tree_take ?_ t0 rfl (by rfl) (fun w' hs => ?_) (fun _ _ _ h => h) ?_
   rotate_left
   ·rw [HT.out] at hs
    have k0 := hs.run.sp; have k1 := msg_frm hs.row; have k2 := msg_to hs.row; have k3 := msg_value hs.row; simp only [Nat.zero_add] at k1 k2 k3
    go_simp
    try rfl
   simp only [Act.put, tsa, tsb, tsc]
 refine tree_z rfl (by simp) (fun K hK => ?_)
 go_simp
 refine HMVC.out.mono ?_
 rintro e w4 ⟨rfl, own3, st4, g4⟩
 rw [HMV.out] at st4 ⊢
 have H5 := hid (H4.out.go g4 st4)
 have HR5 : Hid (w4.row? w2.heap.size 0 20 = some (beC 20 m.to)) := box_kept HR4.out HP3.out g4
 have HP5 : Hid (own3 w2.heap.size = none) := by show _ = _; rw [g4.ext _ (World.row?_lt HR4.out)]; exact HP3.out
 simp only [Option.isSome_some, Option.getD_some] at *
 clear st4 g4
 refine hK.out _ _ ?_
 clear hK K
 refine tree_pure ?_ rfl (by rfl) (fun w' hs => ?_) (fun _ _ _ h => h) ?_
 rotate_left
 ·clear hs
  go_simp
  try rfl
 simp only [Act.put, tsa, tsb, tsc]
 refine tree_fin ?_
 clear t0 HT T HMVC H4 HR4 HT3 HR3 HE3
 go_wp2_with fail
 obtain ⟨T, hT⟩ : ∃ T : World → Prop, T = fun w' => w'.row? w.heap.size 0 129 = some (cat (msgS m dv)) ∧ w'.cell? ⟨rb, 0, none⟩ = some (.pointer (some ⟨sb, 0, none⟩)) ∧ w'.row? w2.heap.size 0 20 = some (beC 20 m.to) := ⟨_, rfl⟩
 have HT := hid hT
 have tc : ∀ w5 own4 S4 M4 n4, CallT w own sb rb tb cx tab m dv w5 own4 S4 M4 n4 → w5.row? w2.heap.size 0 20 = some (beC 20 m.to) → T w5 := by rw [hT]; intro w5 own4 S4 M4 n4 h1 h2; exact ⟨h1.row, h1.run.sp, h2⟩
 have HTC := hid tc
 have H6 := hid (H5.out.below (Below.refl _ _).drew)
 have HR6 : Hid (w4.drew.row? w2.heap.size 0 20 = some (beC 20 m.to)) := HR5.out
 have t0 : T w4.drew := HTC.out _ _ _ _ _ H6.out HR6.out
 clear hT tc
 refine wp_region_tree T [10] (.pure 0 (.take 1 (.pure 2 (.pure 3 (.pure 4 (.take 5 (.take 6 (.alt 7 (.alt 8 (.alt 9 (.alt 10 .fin .stop) .stop) (.alt 9 (.alt 8 (.alt 10 .fin .stop) .stop) .stop)) (.alt 9 (.alt 7 (.alt 8 (.alt 10 .fin .stop) .stop) .stop) .stop))))))))) (by kernel_rfl) (by kernel_rfl) ?_
 iterate 7
  first
  |refine tree_pure ?_ rfl (by rfl) (fun w' hs => ?_) (fun _ _ _ h => h) ?_
   rotate_left
   ·clear hs
    go_simp
    try rfl
   simp only [Act.put, tsa, tsb, tsc]
  |refine tree_take ?_ t0 rfl (by rfl) (fun w' hs => ?_) (fun _ _ _ h => h) ?_
   rotate_left
   ·rw [HT.out] at hs
    obtain ⟨k0, k1, k2⟩ := hs
    go_simp
    try rfl
   simp only [Act.put, tsa, tsb, tsc]
 refine tree_alt rfl (fun K hK => ?_) ?_
 focus
  go_simp
  refine (st_code H6.out.st m.to hm.to).mono ?_
  rintro e w5 ⟨cv, rfl, hnb⟩
  have H7 := hid (H6.out.below hnb.below)
  have HR7 : Hid (w5.row? w2.heap.size 0 20 = some (beC 20 m.to)) := ((brow hnb.below).1 _ _ _ (World.row?_lt HR6.out)).trans HR6.out
  have HCV := hid (newB_ro hnb H6.out.st.lows (StateAt.code H6.out.st m.to).1 (StateAt.code H6.out.st m.to).2)
  have t7 : T w5 := HTC.out _ _ _ _ _ H7.out HR7.out
  clear hnb
  refine hK.out _ _ t7 ?_
  clear hK K
  refine tree_alt rfl (fun K hK => ?_) ?_
  focus
   go_simp
   refine (evm_code (N := N) (x := 0) ⟨H7.out.st, H7.out.run, hN⟩ hm hg H7.out.data HCV.out (by omega) HS.out HL.out).mono ?_
   rintro e w6 ⟨o, ov, lv, own4, n4, S4, rfl, st6, g6, oa6, hog, hon, hoe, hoa, hol, hx0, hx15⟩
   obtain ⟨h1, h2, h3, rfl⟩ := hx0 rfl
   have H8 := hid (H7.out.go g6 st6)
   have HR8 : Hid (w6.row? w2.heap.size 0 20 = some (beC 20 m.to)) := box_kept HR7.out (by rw [HP5.out]) g6
   have OA8 := hid oa6
   have t8 : T w6 := HTC.out _ _ _ _ _ H8.out HR8.out
   have HBB : Hid (w.heap.size + 1 < w5.heap.size) := free?_lt H7.out.res
   have HOUT : Hid (0 ≤ o.gas ∧ n4 + o.gas.toNat ≤ N ∧ o.err = 0 ∧ o.gas = f'.gas ∧ o.out = f'.out ∧ o.logs = f'.logs ∧ o.addr = 0) := ⟨hog, hon, by rw [hoe]; rfl, h1, h2, h3, hoa⟩
   obtain ⟨oa, ok, lb, lj, hov, hlv⟩ := oa6.forms
   subst hov hlv
   have hok8 := outS_ok o oa lb o.out.length ok o.logs.length lj
   clear st6 g6 oa6 hog hon hoe hoa hol h1 h2 h3 hx0 hx15
   refine hK.out _ _ t8 ?_
   clear hK K
   refine tree_run rfl (fun K hK => ?_)
   go_simp
   have hbA : Below w6.heap.size w6 (w6.alloc (.cells (cat zs46).toArray 41)) := (Below.refl _ _).alloc (Nat.le_refl _) _
   have HA := hid (H8.out.below hbA)
   have HRA : Hid ((w6.alloc (.cells (cat zs46).toArray 41)).row? w2.heap.size 0 20 = some (beC 20 m.to)) := ((brow hbA).1 _ _ _ (World.row?_lt HR8.out)).trans HR8.out
   have HFA : Hid ((w6.alloc (.cells (cat zs46).toArray 41)).free? w6.heap.size 0 24 = true) := World.free?_alloc_at _ _ rfl (by rw [zs46_len]; omega)
   have HOA : Hid (own4 w6.heap.size = none) := free_own H8.out.st.lows (Nat.le_refl _)
   have HBA : Hid (w.heap.size + 1 < w6.heap.size) := by have h1 := free?_lt H8.out.res; exact h1
   have tA : T (w6.alloc (.cells (cat zs46).toArray 41)) := HTC.out _ _ _ _ _ HA.out HRA.out
   clear hbA
   have OAA := hid (OA8.out.chg (Chg.below own4 (by exact (Below.refl _ _).alloc (Nat.le_refl _) _ : Below w6.heap.size w6 (w6.alloc (.cells (cat zs46).toArray 41)))))
   refine hK.out _ _ tA ?_
   clear hK K
   refine tree_z rfl (by simp) (fun K hK => ?_)
   have hfa8 := HFA.out
   go_simp
   refine hK.out _ _ ?_
   clear hK K
   refine tree_fin ?_
   have r9 : (World.setCells (w6.alloc (.cells (cat zs46).toArray 41)) w6.heap.size 0 (cat (outS o (.slice oa o.out.length ok) (.slice lb o.logs.length lj)))).row? w6.heap.size 0 24 = some (cat (outS o (.slice oa o.out.length ok) (.slice lb o.logs.length lj))) := row?_setCells_whole _ hfa8 hok8
   have ob9 : Only (· = w6.heap.size) (w6.alloc (.cells (cat zs46).toArray 41)) (World.setCells (w6.alloc (.cells (cat zs46).toArray 41)) w6.heap.size 0 (cat (outS o (.slice oa o.out.length ok) (.slice lb o.logs.length lj)))) := Only.setCells (S := fun b => b = w6.heap.size) (Only.refl _ _) (fun _ => rfl) _ _
   have H9 := hid (HA.out.box HBA.out HOA.out ob9)
   have OA9 := hid (OutAt.chg (own' := own4) OA8.out (⟨fun _ _ => rfl, (Only.setCells (S := fun b => own4 b ≠ none) (by exact Only.alloc (Only.refl _ _) _ : Only (fun b => own4 b ≠ none) w6 (w6.alloc (.cells (cat zs46).toArray 41))) (fun hh => absurd hh (Nat.lt_irrefl _)) _ _)⟩ : Chg w6 (World.setCells (w6.alloc (.cells (cat zs46).toArray 41)) w6.heap.size 0 (cat (outS o (.slice oa o.out.length ok) (.slice lb o.logs.length lj)))) own4 own4))
   clear ob9 hfa8
   generalize World.setCells (w6.alloc (.cells (cat zs46).toArray 41)) w6.heap.size 0 (cat (outS o (.slice oa o.out.length ok) (.slice lb o.logs.length lj))) = w9 at *
  rotate_left
  focus
   refine tree_run rfl (fun K hK => ?_)
   go_simp
   have hbA : Below w5.heap.size w5 (w5.alloc (.cells (cat zs46).toArray 41)) := (Below.refl _ _).alloc (Nat.le_refl _) _
   have HA := hid (H7.out.below hbA)
   have HRA : Hid ((w5.alloc (.cells (cat zs46).toArray 41)).row? w2.heap.size 0 20 = some (beC 20 m.to)) := ((brow hbA).1 _ _ _ (World.row?_lt HR7.out)).trans HR7.out
   have HFA : Hid ((w5.alloc (.cells (cat zs46).toArray 41)).free? w5.heap.size 0 24 = true) := World.free?_alloc_at _ _ rfl (by rw [zs46_len]; omega)
   have HOA : Hid (own3 w5.heap.size = none) := free_own H7.out.st.lows (Nat.le_refl _)
   have HBA : Hid (w.heap.size + 1 < w5.heap.size) := by have h1 := free?_lt H7.out.res; exact h1
   have tA : T (w5.alloc (.cells (cat zs46).toArray 41)) := HTC.out _ _ _ _ _ HA.out HRA.out
   clear hbA
   refine hK.out _ _ tA ?_
   clear hK K
   refine tree_run rfl (fun K hK => ?_)
   go_simp
   have HCVA := hid (HCV.out.below ((Below.refl _ _).alloc (Nat.le_refl _) _ : Below w5.heap.size w5 (w5.alloc (.cells (cat zs46).toArray 41))))
   refine (evm_code (N := N) (x := 0) ⟨HA.out.st, HA.out.run, hN⟩ hm hg HA.out.data HCVA.out (by omega) HS.out HL.out).mono ?_
   rintro e w6 ⟨o, ov, lv, own4, n4, S4, rfl, st6, g6, oa6, hog, hon, hoe, hoa, hol, hx0, hx15⟩
   obtain ⟨h1, h2, h3, rfl⟩ := hx0 rfl
   have H8 := hid (HA.out.go g6 st6)
   have HR8 : Hid (w6.row? w2.heap.size 0 20 = some (beC 20 m.to)) := box_kept HRA.out (by rw [HP5.out]) g6
   have OA8 := hid oa6
   have t8 : T w6 := HTC.out _ _ _ _ _ H8.out HR8.out
   have HBB : Hid (w.heap.size + 1 < (w5.alloc (.cells (cat zs46).toArray 41)).heap.size) := free?_lt HA.out.res
   have HBL : Hid (w5.heap.size < (w5.alloc (.cells (cat zs46).toArray 41)).heap.size) := free?_lt HFA.out
   have HOUT : Hid (0 ≤ o.gas ∧ n4 + o.gas.toNat ≤ N ∧ o.err = 0 ∧ o.gas = f'.gas ∧ o.out = f'.out ∧ o.logs = f'.logs ∧ o.addr = 0) := ⟨hog, hon, by rw [hoe]; rfl, h1, h2, h3, hoa⟩
   obtain ⟨oa, ok, lb, lj, hov, hlv⟩ := oa6.forms
   subst hov hlv
   have hok8 := outS_ok o oa lb o.out.length ok o.logs.length lj
   have HFA8 : Hid (w6.free? w5.heap.size 0 24 = true) := by
    show _ = _
    rw [g6.only.free? (free?_lt HFA.out) (fun hh => hh HOA.out)]; exact HFA.out
   have HOA8 : Hid (own4 w5.heap.size = none) := by
    show _ = _
    rw [g6.ext _ (free?_lt HFA.out)]; exact HOA.out
   clear st6 g6 oa6 hog hon hoe hoa hol h1 h2 h3 hx0 hx15
   refine hK.out _ _ t8 ?_
   clear hK K
   refine tree_z rfl (by simp) (fun K hK => ?_)
   have hfa8 := HFA8.out
   go_simp
   refine hK.out _ _ ?_
   clear hK K
   refine tree_fin ?_
   have r9 : (World.setCells w6 w5.heap.size 0 (cat (outS o (.slice oa o.out.length ok) (.slice lb o.logs.length lj)))).row? w5.heap.size 0 24 = some (cat (outS o (.slice oa o.out.length ok) (.slice lb o.logs.length lj))) := row?_setCells_whole _ hfa8 hok8
   have ob9 : Only (· = w5.heap.size) w6 (World.setCells w6 w5.heap.size 0 (cat (outS o (.slice oa o.out.length ok) (.slice lb o.logs.length lj)))) := Only.setCells (S := fun b => b = w5.heap.size) (Only.refl _ _) (fun _ => rfl) _ _
   have H9 := hid (H8.out.box HBA.out HOA8.out ob9)
   have OA9 := hid (OA8.out.box (by exact HBL.out) ob9)
   clear ob9 hfa8
   generalize World.setCells w6 w5.heap.size 0 (cat (outS o (.slice oa o.out.length ok) (.slice lb o.logs.length lj))) = w9 at *
 rotate_left 2
 focus
  refine tree_run rfl (fun K hK => ?_)
  go_simp
  have hbA : Below w4.drew.heap.size w4.drew (w4.drew.alloc (.cells (cat zs46).toArray 41)) := (Below.refl _ _).alloc (Nat.le_refl _) _
  have HA := hid (H6.out.below hbA)
  have HRA : Hid ((w4.drew.alloc (.cells (cat zs46).toArray 41)).row? w2.heap.size 0 20 = some (beC 20 m.to)) := ((brow hbA).1 _ _ _ (World.row?_lt HR6.out)).trans HR6.out
  have HFA : Hid ((w4.drew.alloc (.cells (cat zs46).toArray 41)).free? w4.heap.size 0 24 = true) := World.free?_alloc_at _ _ rfl (by rw [zs46_len]; omega)
  have HOA : Hid (own3 w4.heap.size = none) := free_own H6.out.st.lows (Nat.le_refl _)
  have HBA : Hid (w.heap.size + 1 < w4.heap.size) := by have h1 := free?_lt H6.out.res; exact h1
  have tA : T (w4.drew.alloc (.cells (cat zs46).toArray 41)) := HTC.out _ _ _ _ _ HA.out HRA.out
  clear hbA
  refine hK.out _ _ tA ?_
  clear hK K
  refine tree_run rfl (fun K hK => ?_)
  go_simp
  refine (st_code HA.out.st m.to hm.to).mono ?_
  rintro e w5 ⟨cv, rfl, hnb⟩
  have H7 := hid (HA.out.below hnb.below)
  have HR7 : Hid (w5.row? w2.heap.size 0 20 = some (beC 20 m.to)) := ((brow hnb.below).1 _ _ _ (World.row?_lt HRA.out)).trans HRA.out
  have HCV := hid (newB_ro hnb HA.out.st.lows (StateAt.code HA.out.st m.to).1 (StateAt.code HA.out.st m.to).2)
  have t7 : T w5 := HTC.out _ _ _ _ _ H7.out HR7.out
  have HFA7 : Hid (w5.free? w4.heap.size 0 24 = true) := ((brow hnb.below).2 _ _ _ (free?_lt HFA.out)).trans HFA.out
  clear hnb
  refine hK.out _ _ t7 ?_
  clear hK K
  refine tree_run rfl (fun K hK => ?_)
  go_simp
  refine (evm_code (N := N) (x := 0) ⟨H7.out.st, H7.out.run, hN⟩ hm hg H7.out.data HCV.out (by omega) HS.out HL.out).mono ?_
  rintro e w6 ⟨o, ov, lv, own4, n4, S4, rfl, st6, g6, oa6, hog, hon, hoe, hoa, hol, hx0, hx15⟩
  obtain ⟨h1, h2, h3, rfl⟩ := hx0 rfl
  have H8 := hid (H7.out.go g6 st6)
  have HR8 : Hid (w6.row? w2.heap.size 0 20 = some (beC 20 m.to)) := box_kept HR7.out (by rw [HP5.out]) g6
  have OA8 := hid oa6
  have t8 : T w6 := HTC.out _ _ _ _ _ H8.out HR8.out
  have HBB : Hid (w.heap.size + 1 < w5.heap.size) := free?_lt H7.out.res
  have HBL : Hid (w4.heap.size < w5.heap.size) := free?_lt HFA7.out
  have HOUT : Hid (0 ≤ o.gas ∧ n4 + o.gas.toNat ≤ N ∧ o.err = 0 ∧ o.gas = f'.gas ∧ o.out = f'.out ∧ o.logs = f'.logs ∧ o.addr = 0) := ⟨hog, hon, by rw [hoe]; rfl, h1, h2, h3, hoa⟩
  obtain ⟨oa, ok, lb, lj, hov, hlv⟩ := oa6.forms
  subst hov hlv
  have hok8 := outS_ok o oa lb o.out.length ok o.logs.length lj
  have HFA8 : Hid (w6.free? w4.heap.size 0 24 = true) := by
   show _ = _
   rw [g6.only.free? (free?_lt HFA7.out) (fun hh => hh HOA.out)]; exact HFA7.out
  have HOA8 : Hid (own4 w4.heap.size = none) := by
   show _ = _
   rw [g6.ext _ (free?_lt HFA7.out)]; exact HOA.out
  clear st6 g6 oa6 hog hon hoe hoa hol h1 h2 h3 hx0 hx15
  refine hK.out _ _ t8 ?_
  clear hK K
  refine tree_z rfl (by simp) (fun K hK => ?_)
  have hfa8 := HFA8.out
  go_simp
  refine hK.out _ _ ?_
  clear hK K
  refine tree_fin ?_
  have r9 : (World.setCells w6 w4.heap.size 0 (cat (outS o (.slice oa o.out.length ok) (.slice lb o.logs.length lj)))).row? w4.heap.size 0 24 = some (cat (outS o (.slice oa o.out.length ok) (.slice lb o.logs.length lj))) := row?_setCells_whole _ hfa8 hok8
  have ob9 : Only (· = w4.heap.size) w6 (World.setCells w6 w4.heap.size 0 (cat (outS o (.slice oa o.out.length ok) (.slice lb o.logs.length lj)))) := Only.setCells (S := fun b => b = w4.heap.size) (Only.refl _ _) (fun _ => rfl) _ _
  have H9 := hid (H8.out.box HBA.out HOA8.out ob9)
  have OA9 := hid (OA8.out.box (by exact HBL.out) ob9)
  clear ob9 hfa8
  generalize World.setCells w6 w4.heap.size 0 (cat (outS o (.slice oa o.out.length ok) (.slice lb o.logs.length lj))) = w9 at *
 all_goals
  have HEND := hid (evm_end_ok H9.out.st H9.out.run OA9.out HOUT.out.2.2.1 (by have := HOUT.out.2.1; omega))
  have s9 := H9.out.run.sp
  go_wp2_with fail
  refine HEND.out.mono ?_
  rintro e w10 ⟨rfl, st10, g10, oa10⟩
  have H10 := hid (H9.out.go g10 st10)
  have f10 := H10.out.res
  have OA10 := hid oa10
  clear st10 g10 oa10 s9 r9
  go_wp2
  refine ret_row ty46 rfl _ rfl rfl f10 hok8 ?_
  have ob : Only (· = w.heap.size + 1) w10 (w10.setCells (w.heap.size + 1) 0 (cat (outS o (.slice oa o.out.length ok) (.slice lb o.logs.length lj)))) := Only.setCells (S := fun b => b = w.heap.size + 1) (Only.refl _ _) (fun _ => rfl) _ _
  obtain ⟨h1, h2, h3, h4, h5, h6⟩ := HOUT.out
  exact ⟨o, _, _, own4, n4, rfl, H10.out.st.only ob (fun b hb => by rw [hb]; exact H10.out.o2), ⟨H10.out.chg.ext, H10.out.chg.only.trans ob (fun i hi he => by have : i = w.heap.size + 1 := hi; omega)⟩, (OA10.out.box HBB.out ob).mono (Nat.le_of_lt (Nat.lt_of_succ_lt HBB.out)), h1, h2, h3, h4, h5, h6⟩
def CallEnd (w : World) (own : Own) (sb : Nat) (S' : St) (M : List (Nat × St)) (N : Nat) (f' : Fr) (e : Ending) (w' : World) : Prop :=
 ∃ o ov lv own' n', e = .returned (.agg (cat (outS o ov lv)).toArray) ∧ StateAt TU w' own' sb S' M n' ∧ Chg w w' own own' ∧ OutAt w' own' w.heap.size ov lv o ∧
   0 ≤ o.gas ∧ n' + o.gas.toNat ≤ N ∧ o.err = 0 ∧ o.gas = f'.gas ∧ o.out = f'.out ∧ o.logs = f'.logs ∧ o.addr = 0
theorem msgS_gas (m : Msg) (dv : Value) : (cat (msgS m dv))[126]'(by rw [msgS_len]; omega) = .int .i64 m.gas := by
 have h : (cat (msgS m dv))[126]? = some (.int .i64 m.gas) := by
  have hs := cat_split (l := msgS m dv) (i := 7) rfl
  have h1 : (cat ((msgS m dv).take 7)).length = 126 := by simp [msgS, cat_len_cons, cat_len_nil]
  rw [hs, List.getElem?_append_right (by omega), h1]; rfl
 exact (List.getElem?_eq_some_iff.1 h).2
theorem evm_message_ok {w : World} {own : Own} {sb rb tb : Nat} {cx : Ctx} {tab : Tabl} {S S1 S' : St} {M : List (Nat × St)} {n N K : Nat} {f' : Fr} {m : Msg} {dv : Value} {step : Fr → St → Res}
  (h : RunCx w own sb rb tb cx tab S M n N) (hm : MsgOk m) (hk : m.kind = 0) (hg : 0 ≤ m.gas) (hdp : m.depth ≤ 64) (hd : RoAt w (fun b => own b ≠ none) dv m.data) (hn : n + 3 + m.gas.toNat ≤ N) (hs : StepOk sb rb tb cx tab step)
  (hmv : S.move m.frm m.to m.value = some S1) (hl : loopR step K (frame0 m (S1 m.to).code) S1 = some (0, f', S')) :
  Calls Tryz.prog 48 #[.pointer (some ⟨rb, 0, none⟩), .agg (cat (msgS m dv)).toArray] w (CallEnd w own sb S' M N f') := by
 have hml := msgS_len m dv
 have hv : ¬ (S m.frm).bal < m.value := fun hh => by unfold St.move at hmv; rw [if_pos hh] at hmv; cases hmv
 have c0 := msgS_gas m dv
 obtain ⟨w1, e1⟩ : ∃ w1, w1 = (w.alloc (.cells (cat (msgS m dv)).toArray 37)).alloc (.cells (cat zs46).toArray 41) := ⟨_, rfl⟩
 have t1 := callT_new (m := m) h.st h.run hd
 rw [← e1] at t1
 have hf0 : (w.alloc (.cells (cat (msgS m dv)).toArray 37)).free? w.heap.size 126 1 = true := World.free?_alloc_at _ _ rfl (by rw [hml]; omega)
 have HN := h.lim
 have HT1 := hid t1
 have HE1 := hid e1
 have HMK := hid (fun w => evm_makes m dv w)
 have HL := hid hl
 have HS := hid hs
 have HMV := hid hmv
 have hset : (cat (msgS m dv)).set 126 (.int .i64 m.gas) = cat (msgS m dv) := by
  apply List.ext_getElem?
  intro i
  rw [List.getElem?_set]
  by_cases hi : 126 = i
  ·subst hi
   rw [if_pos rfl, if_pos (by rw [hml]; omega), List.getElem?_eq_getElem (by rw [hml]; omega), c0]
  ·rw [if_neg hi]
 have HMAY := hid (may_call t1.st t1.run hm hk hdp hv (dv := dv))
 clear h hl hs hmv e1 t1 hd hv hdp
 by_cases hz : m.gas ≤ 0
 focus
  have hz0 : m.gas = 0 := by omega
  rw [hz0] at hset c0
 rotate_left
 focus
  skip
 all_goals
  go_enter Tryz.func48, Tryz.ntmps48
  go_wp2_with fail
  rw [← HE1.out]
  refine HMAY.out.mono ?_
  rintro e w3 ⟨rfl, hb3⟩
  have t3 := HT1.out.below hb3
  have r3 := t3.row
  have HT3 := hid t3
  clear hb3 t3 hset hf0
  go_wp2_with fail
  refine (HMK.out _).mono ?_
  rintro e w4 ⟨rfl, hb4⟩
  have hdk : decide (m.kind = 3 ∨ m.kind = 4) = false := by rw [hk]; decide
  rw [hdk]
  clear hdk
  have t4 := HT3.out.below hb4
  have r4 := t4.row
  have HT4 := hid t4
  have HCALL := hid (evm_call_ok ⟨t4.st, t4.run, HN⟩ hm hk hg t4.data hn HS.out HMV.out HL.out)
  have HBB : Hid (w.heap.size + 1 < w4.heap.size) := free?_lt t4.res
  clear hb4 t4 r3
  go_wp2_with fail
  refine HCALL.out.mono ?_
  rintro e w5 ⟨o, ov, lv, own4, n4, rfl, st5, g5, oa5, h1, h2, h3, h4, h5, h6⟩
  obtain ⟨oa, ok, lb, lj, rfl, rfl⟩ := oa5.forms
  have hok8 := outS_ok o oa lb o.out.length ok o.logs.length lj
  have H10 := hid (HT4.out.go g5 st5)
  have f10 := H10.out.res
  have OA10 := hid oa5
  have HOUT : Hid (0 ≤ o.gas ∧ n4 + o.gas.toNat ≤ N ∧ o.err = 0 ∧ o.gas = f'.gas ∧ o.out = f'.out ∧ o.logs = f'.logs ∧ o.addr = 0) := ⟨h1, h2, h3, h4, h5, h6⟩
  clear st5 g5 oa5 h1 h2 h3 h4 h5 h6 r4
  go_wp2
  refine ret_row ty46 rfl _ rfl rfl f10 hok8 ?_
  have ob : Only (· = w.heap.size + 1) w5 (w5.setCells (w.heap.size + 1) 0 (cat (outS o (.slice oa o.out.length ok) (.slice lb o.logs.length lj)))) := Only.setCells (S := fun b => b = w.heap.size + 1) (Only.refl _ _) (fun _ => rfl) _ _
  obtain ⟨h1, h2, h3, h4, h5, h6⟩ := HOUT.out
  exact ⟨o, _, _, own4, n4, rfl, H10.out.st.only ob (fun b hb => by rw [hb]; exact H10.out.o2), ⟨H10.out.chg.ext, H10.out.chg.only.trans ob (fun i hi he => by have : i = w.heap.size + 1 := hi; omega)⟩, (OA10.out.box HBB.out ob).mono (Nat.le_of_lt (Nat.lt_of_succ_lt HBB.out)), h1, h2, h3, h4, h5, h6⟩
def TabOk (tab : Tabl) : Prop := ∀ e ∈ specs, EntOk tab e
theorem lens102 : lens zs102 = [1, 43, 1] := by kernel_rfl
theorem build102 (sb tb : Nat) (cx : Ctx) : fillL 45 (plOf zs102) (cat zs102) [(0, .pointer (some ⟨sb, 0, none⟩)), (1, .agg (cat (ctxS cx)).toArray), (2, .map (some tb))] = some (cat (runS sb tb cx)) := by
 rw [fillL_cats _ _ _ zs102_len]
 ·rfl
 ·rw [lens102]
  refine fits_cons rfl (fits_cons ?_ (fits_cons rfl (fits_nil _)))
  show some 43 = some (cat (ctxS cx)).length
  rw [ctxS_len]
theorem runAt_new {w w1 w2 : World} {own : Own} {sb tb : Nat} {cx : Ctx} (hl : ∀ b, own b ≠ none → b < w.heap.size) (h1 : Below w.heap.size w w1) (h : TabRel w1 w2 tb specs) :
  ∃ tab, TabOk tab ∧ Below w1.heap.size w1 w2 ∧ RunAt (w2.alloc (.cells (cat (runS sb tb cx)).toArray 103)) own sb w2.heap.size tb cx tab := by
 obtain ⟨tab, h2, h3, h4, h5, h6, _⟩ := h
 have hs1 := h1.size
 have hs2 := h2.size
 have hb : Below w2.heap.size w2 (w2.alloc (.cells (cat (runS sb tb cx)).toArray 103)) := (Below.refl _ _).alloc (Nat.le_refl _) _
 refine ⟨tab, h6, h2, World.row?_alloc_at _ _ _ rfl (runS_len _ _ _), free_own hl (by omega), h4.below hb, free_own hl (by omega), fun q hq => ?_⟩
 obtain ⟨k1, k2, k3⟩ := h5 q hq
 exact ⟨by rw [hb.cell (World.block_lt_of_cell? w2 _ k1)]; exact k1, free_own hl (by omega)⟩
attribute [local irreducible] TabRel
theorem evm_run_ok {w : World} {own : Own} {sb : Nat} {cx : Ctx} {S S1 S' : St} {M : List (Nat × St)} {n N K : Nat} {f' : Fr} {m : Msg} {dv : Value} {step : Fr → St → Res}
  (hst : StateAt TU w own sb S M n) (hN : N ≤ 1099511627776) (hm : MsgOk m) (hk : m.kind = 0) (hg : 0 ≤ m.gas) (hdp : m.depth ≤ 64) (hd : RoAt w (fun b => own b ≠ none) dv m.data) (hn : n + 3 + m.gas.toNat ≤ N) (hs : ∀ rb tb tab, TabOk tab → StepOk sb rb tb cx tab step)
  (hmv : S.move m.frm m.to m.value = some S1) (hl : loopR step K (frame0 m (S1 m.to).code) S1 = some (0, f', S')) :
  Calls Tryz.prog 26 #[.pointer (some ⟨sb, 0, none⟩), .agg (cat (msgS m dv)).toArray, .agg (cat (ctxS cx)).toArray] w (CallEnd w own sb S' M N f') := by
 have hml := msgS_len m dv
 have hcl := ctxS_len cx
 obtain ⟨w1, e1⟩ : ∃ w1, w1 = ((w.alloc (.cells (cat (msgS m dv)).toArray 37)).alloc (.cells (cat (ctxS cx)).toArray 64)).alloc (.cells (cat zs46).toArray 41) := ⟨_, rfl⟩
 have hb1 : Below w.heap.size w w1 := by rw [e1]; exact (((Below.refl _ _).alloc (Nat.le_refl _) _).alloc (by simp) _).alloc (by simp; omega) _
 have r1 : w1.row? w.heap.size 0 129 = some (cat (msgS m dv)) := by rw [e1, World.row?_alloc_lt _ (by simp; omega), World.row?_alloc_lt _ (by simp)]; exact World.row?_alloc_at _ _ _ rfl hml
 have r2 : w1.row? (w.heap.size + 1) 0 43 = some (cat (ctxS cx)) := by rw [e1, World.row?_alloc_lt _ (by simp)]; exact World.row?_alloc_at _ _ _ (by simp) hcl
 have f1 : w1.free? (w.heap.size + 1 + 1) 0 24 = true := by rw [e1]; exact World.free?_alloc_at _ _ (by simp) (by rw [zs46_len]; omega)
 have HST := hid hst
 have HB1 := hid hb1
 have HE1 := hid e1
 have HF1 := hid f1
 have HR1 := hid r1
 have HD := hid hd
 have HL := hid hl
 have HS := hid hs
 have HMV := hid hmv
 obtain ⟨T, hT⟩ : ∃ T : World → Prop, T = fun w' => w'.row? (w.heap.size + 1) 0 43 = some (cat (ctxS cx)) := ⟨_, rfl⟩
 have HT := hid hT
 have tb : ∀ w2 w3, T w2 → Below w2.heap.size w2 w3 → T w3 := by rw [hT]; intro w2 w3 h hb; exact ((brow hb).1 _ _ _ (World.row?_lt h)).trans h
 have HTB := hid tb
 have t0 : T w1.drew := by rw [hT]; exact r2
 clear hst hb1 e1 f1 r1 r2 hd hl hs hmv hT tb
 go_enter Tryz.func26, Tryz.ntmps26
 go_wp2_with fail
 rw [← HE1.out]
 refine wp_region_tree T [] (.pure 0 (.take 1 (.alt 2 (.pure 3 (.alt 4 (.pure 5 .fin) .stop)) .stop))) (by kernel_rfl) (by kernel_rfl) ?_
 refine tree_pure ?_ rfl (by rfl) (fun w' hs => ?_) (fun _ _ _ h => h) ?_
 rotate_left
 ·clear hs
  go_simp
  try rfl
 simp only [Act.put, tsa, tsb, tsc]
 refine tree_take ?_ t0 rfl (by rfl) (fun w' hs => ?_) (fun _ _ _ h => h) ?_
 rotate_left
 ·rw [HT.out] at hs
  go_simp
  try rfl
 simp only [Act.put, tsa, tsb, tsc]
 refine tree_run rfl (fun K hK => ?_)
 go_simp
 refine (evm_table _).mono ?_
 rintro e w2 ⟨tb, rfl, hrel⟩
 obtain ⟨tab, htab, hb2, hrun⟩ := runAt_new (sb := sb) (cx := cx) HST.out.lows HB1.out.drew hrel
 have t2 : T w2 := HTB.out _ _ t0 hb2
 have HTAB := hid htab
 have HB2 := hid hb2
 have HRUN := hid hrun
 have hbuild := build102 sb tb cx
 clear htab hb2 hrun hrel
 refine hK.out _ _ t2 ?_
 clear hK K
 refine tree_pure ?_ rfl (by rfl) (fun w' hs => ?_) (fun _ _ _ h => h) ?_
 rotate_left
 ·clear hs
  go_simp
  try rfl
 simp only [Act.put, tsa, tsb, tsc]
 refine tree_run rfl (fun K hK => ?_)
 go_simp
 have hb3 : Below w2.heap.size w2 (w2.alloc (.cells (cat (runS sb tb cx)).toArray 103)) := (Below.refl _ _).alloc (Nat.le_refl _) _
 have t3 : T (w2.alloc (.cells (cat (runS sb tb cx)).toArray 103)) := HTB.out _ _ t2 hb3
 have HB3 := hid hb3
 clear hb3
 refine hK.out _ _ t3 ?_
 clear hK K
 refine tree_pure ?_ rfl (by rfl) (fun w' hs => ?_) (fun _ _ _ h => h) ?_
 rotate_left
 ·clear hs
  go_simp
  try rfl
 simp only [Act.put, tsa, tsb, tsc]
 refine tree_fin ?_
 have hbb : Below w.heap.size w (w2.alloc (.cells (cat (runS sb tb cx)).toArray 103)) := (HB1.out.drew.trans (HB2.out.mono HB1.out.size)).trans (HB3.out.mono (by have h1 := HB1.out.size; have h2 := HB2.out.size; exact Nat.le_trans h1 h2))
 have g3 := Chg.below own hbb
 generalize w2.alloc (.cells (cat (runS sb tb cx)).toArray 103) = w3 at *
 have hrx := (brow HB3.out).1 w.heap.size 0 129 (Nat.lt_of_lt_of_le (World.row?_lt HR1.out) HB2.out.size)
 have hfx := (brow HB3.out).2 (w.heap.size + 1 + 1) 0 24 (Nat.lt_of_lt_of_le (free?_lt HF1.out) HB2.out.size)
 rw [(brow HB2.out).1 w.heap.size 0 129 (World.row?_lt HR1.out)] at hrx
 rw [(brow HB2.out).2 (w.heap.size + 1 + 1) 0 24 (free?_lt HF1.out)] at hfx
 have r3 : w3.row? w.heap.size 0 129 = some (cat (msgS m dv)) := hrx.trans HR1.out
 have f3 : w3.free? (w.heap.size + 1 + 1) 0 24 = true := hfx.trans HF1.out
 have HMSG := hid (evm_message_ok ⟨HST.out.below hbb, HRUN.out, hN⟩ hm hk hg hdp (HD.out.below hbb) hn (HS.out _ _ _ HTAB.out) HMV.out HL.out)
 have HG3 := hid g3
 have HF3 := hid f3
 have HSZ : Hid (w.heap.size + 1 + 1 < w3.heap.size) := free?_lt f3
 clear hrx hfx g3 hbb t0 t2 t3 hbuild f3
 go_wp2_with fail
 refine HMSG.out.mono ?_
 rintro e w5 ⟨o, ov, lv, own4, n4, rfl, st5, g5, oa5, h1, h2, h3, h4, h5, h6⟩
 obtain ⟨oa, ok, lb, lj, rfl, rfl⟩ := oa5.forms
 have hok8 := outS_ok o oa lb o.out.length ok o.logs.length lj
 have hp : own (w.heap.size + 1 + 1) = none := free_own HST.out.lows (by omega)
 have hp4 : own4 (w.heap.size + 1 + 1) = none := by rw [g5.ext _ HSZ.out]; exact hp
 have f10 : w5.free? (w.heap.size + 1 + 1) 0 24 = true := by rw [g5.only.free? HSZ.out (fun hh => hh hp)]; exact HF3.out
 have OA10 := hid oa5
 have ST5 := hid st5
 have G5 := hid g5
 have HP4 := hid hp4
 have HOUT : Hid (0 ≤ o.gas ∧ n4 + o.gas.toNat ≤ N ∧ o.err = 0 ∧ o.gas = f'.gas ∧ o.out = f'.out ∧ o.logs = f'.logs ∧ o.addr = 0) := ⟨h1, h2, h3, h4, h5, h6⟩
 clear st5 g5 oa5 h1 h2 h3 h4 h5 h6 hp hp4 r3
 go_wp2
 refine ret_row ty46 rfl _ rfl rfl f10 hok8 ?_
 have ob : Only (· = w.heap.size + 1 + 1) w5 (w5.setCells (w.heap.size + 1 + 1) 0 (cat (outS o (.slice oa o.out.length ok) (.slice lb o.logs.length lj)))) := Only.setCells (S := fun b => b = w.heap.size + 1 + 1) (Only.refl _ _) (fun _ => rfl) _ _
 obtain ⟨h1, h2, h3, h4, h5, h6⟩ := HOUT.out
 have g6 := HG3.out.trans G5.out
 exact ⟨o, _, _, own4, n4, rfl, ST5.out.only ob (fun b hb => by rw [hb]; exact HP4.out), ⟨g6.ext, g6.only.trans ob (fun i hi he => by have : i = w.heap.size + 1 + 1 := hi; omega)⟩, (OA10.out.box HSZ.out ob).mono (by have := HSZ.out; omega), h1, h2, h3, h4, h5, h6⟩
end Go.Proofs.YtfflppedbopdpaaGreat
