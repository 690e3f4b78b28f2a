/-
  The machine: a message that makes an account, where nothing fails.
  The machine: a message that makes an account, and Run, told of what create comes to.
-/
import Derived.Test.YtikiciojfhfagaaGreatQMk2
import Derived.Test.YtikiciojfhfagaaGreatQTx4
set_option linter.unusedVariables false
set_option linter.unusedSimpArgs false
namespace Go.Proofs.YtikiciojfhfagaaGreat
open Go.RowKit Go.Mun

/-- The address of an account that another one makes. -/
def adrN (a : Nat) (n : Int) : Nat := beN (lowL (kecL (adrB (be 20 a) n)))
theorem be20_byt (a : Nat) : Byt (be 20 a) := by
  intro x hx
  unfold be at hx
  obtain ⟨i, _, rfl⟩ := List.mem_map.1 hx
  have := Nat.mod_lt (a / 256 ^ (20 - 1 - i)) (show 0 < 256 by decide)
  omega
theorem u8L_be20 (a : Nat) : u8L (be 20 a) = beC 20 a := rfl
theorem adr_low (a : Nat) (n : Int) : u8L (lowL (kecL (adrB (be 20 a) n))) = beC 20 (adrN a n) := by
  unfold adrN
  have h1 := kecL_byte (adrB (be 20 a) n)
  have h2 := kecL_len (adrB (be 20 a) n)
  generalize kecL (adrB (be 20 a) n) = K at *
  exact u8L_be _ 20 (fun x hx => by unfold lowL at hx; have := h1 x (List.mem_of_mem_drop (List.mem_of_mem_take hx)); omega) (lowL_len K h2)
theorem address_nat (a : Nat) (n : Int) (hn : n ≤ 9223372036854775807) (w : World) :
    Calls Tryz.prog 9 #[.agg (beC 20 a).toArray, .int .i64 n] w fun e w' => e = .returned (.agg (beC 20 (adrN a n)).toArray) ∧ Below w.heap.size w w' := by
  have h := evm_address (be 20 a) (be_len _ _) (fun x hx => by have := be20_byt a x hx; omega) n hn w
  rw [u8L_be20] at h
  generalize beC 20 a = C at h ⊢
  refine h.mono ?_
  intro e w' hh
  rw [adr_low] at hh
  exact hh
/-- A message that makes an account, on its way. -/
structure CrT (w0 : World) (own0 : Own) (sb rb tb : Nat) (cx : Ctx) (tab : Tabl) (m : Msg) (dv : Value) (d0 : Value) (l0 : Bts) (w : World) (own : Own) (S : St) (M : List (Nat × St)) (n : Nat) : Prop where
  msg : Arr w w0.heap.size 129 (cat (msgS m dv))
  res : w.free? (w0.heap.size + 1) 0 24 = true
  o1 : own w0.heap.size = none
  o2 : own (w0.heap.size + 1) = none
  run0 : RunAt w0 own0 sb rb tb cx tab
  st : StateAt TU w own sb S M n
  chg : Chg w0 w own0 own
  data0 : RoAt w0 (fun b => own0 b ≠ none) d0 l0
section
variable {w0 : World} {own0 : Own} {sb rb tb : Nat} {cx : Ctx} {tab : Tabl} {m : Msg} {dv d0 : Value} {l0 : Bts} {w : World} {own : Own} {S : St} {M : List (Nat × St)} {n : Nat}
theorem CrT.run (h : CrT w0 own0 sb rb tb cx tab m dv d0 l0 w own S M n) : RunAt w own sb rb tb cx tab := h.run0.chg h.chg
theorem CrT.data (h : CrT w0 own0 sb rb tb cx tab m dv d0 l0 w own S M n) : RoAt w (fun b => own b ≠ none) d0 l0 := h.data0.chg h.chg
theorem CrT.size (h : CrT w0 own0 sb rb tb cx tab m dv d0 l0 w own S M n) : w0.heap.size + 1 < w.heap.size := free?_lt h.res
theorem CrT.go (h : CrT w0 own0 sb rb tb cx tab m dv d0 l0 w own S M n) {w' : World} {own' : Own} {S' : St} {M' : List (Nat × St)} {n' : Nat} (hs : StateAt TU w' own' sb S' M' n') (g : Chg w w' own own') : CrT w0 own0 sb rb tb cx tab m dv d0 l0 w' own' S' M' n' := by
  have h1 := h.msg.lt
  have h2 := free?_lt h.res
  exact ⟨h.msg.only g.only (fun hh => hh h.o1), by rw [g.only.free? h2 (fun hh => hh h.o2)]; exact h.res, by rw [g.ext _ h1]; exact h.o1, by rw [g.ext _ h2]; exact h.o2, h.run0, hs, h.chg.trans g, h.data0⟩
theorem CrT.below (h : CrT w0 own0 sb rb tb cx tab m dv d0 l0 w own S M n) {w' : World} (hb : Below w.heap.size w w') : CrT w0 own0 sb rb tb cx tab m dv d0 l0 w' own S M n := h.go (h.st.below hb) (Chg.below own hb)
/-- The message's box turns. -/
theorem CrT.turn (h : CrT w0 own0 sb rb tb cx tab m dv d0 l0 w own S M n) {w' : World} {m' : Msg} {dv' : Value} (ho : Only (· = w0.heap.size) w w') (hr : Arr w' w0.heap.size 129 (cat (msgS m' dv'))) : CrT w0 own0 sb rb tb cx tab m' dv' d0 l0 w' own S M n :=
  ⟨hr, by rw [ho.free? (free?_lt h.res) (by omega)]; exact h.res, h.o1, h.o2, h.run0, h.st.only ho (fun c hc => by rw [hc]; exact h.o1), ⟨h.chg.ext, h.chg.only.trans ho (fun i hi he => by have : i = w0.heap.size := hi; omega)⟩, h.data0⟩
/-- A box of one's own turns. -/
theorem CrT.box (h : CrT w0 own0 sb rb tb cx tab m dv d0 l0 w own S M n) {w' : World} {b : Nat} (hb : w0.heap.size + 1 < b) (ho : own b = none) (h1 : Only (· = b) w w') : CrT w0 own0 sb rb tb cx tab m dv d0 l0 w' own S M n :=
  ⟨h.msg.only h1 (by omega), by rw [h1.free? (free?_lt h.res) (by omega)]; exact h.res, h.o1, h.o2, h.run0, h.st.only h1 (fun c hc => by rw [hc]; exact ho), ⟨h.chg.ext, h.chg.only.trans h1 (fun i hi he => by have : i = b := hi; omega)⟩, h.data0⟩
end
theorem crT_new {w : World} {own : Own} {sb rb tb : Nat} {cx : Ctx} {tab : Tabl} {m : Msg} {dv : Value} {S : St} {M : List (Nat × St)} {n : Nat} (hst : StateAt TU w own sb S M n) (hr : RunAt w own sb rb tb cx tab) (hd : RoAt w (fun b => own b ≠ none) dv m.data) :
    CrT w own sb rb tb cx tab m dv dv m.data ((w.alloc (.cells (cat (msgS m dv)).toArray 77)).alloc (.cells (cat zs46).toArray 74)) own S M n := by
  have hb : Below w.heap.size w ((w.alloc (.cells (cat (msgS m dv)).toArray 77)).alloc (.cells (cat zs46).toArray 74)) := ((Below.refl _ _).alloc (Nat.le_refl _) _).alloc (by simp) _
  refine ⟨(Arr.new w 129 _ 77 (msgS_len m dv)).alloc _, ?_, free_own hst.lows (Nat.le_refl _), free_own hst.lows (Nat.le_succ _), hr, hst.below hb, Chg.below own hb, hd⟩
  exact World.free?_alloc_at _ _ (by simp) (by rw [zs46_len]; omega)
theorem msgS_to (m : Msg) (dv : Value) (a : Nat) : (msgS m dv).set 2 (beC 20 a) = msgS { m with to := a } dv := rfl
theorem msgS_nil (m : Msg) (dv : Value) : (msgS m dv).set 6 [.slice none 0 0] = msgS { m with data := [] } (.slice none 0 0) := rfl
set_option maxRecDepth 100000 in
set_option maxHeartbeats 8000000 in
theorem evm_create_ok {w : World} {own : Own} {sb rb tb : Nat} {cx : Ctx} {tab : Tabl} {S S3 S' : St} {M : List (Nat × St)} {n N K A nc : Nat} {f' : Fr} {m : Msg} {da : Option Addr} {dl dc : Nat} {step : Fr → St → Res}
    (h : RunCx w own sb rb tb cx tab S M n N) (hm : MsgOk m) (hk : m.kind = 3) (hg : 0 ≤ m.gas) (hd : RoAt w (fun b => own b ≠ none) (.slice da dl dc) m.data) (hn : n + 5 + m.gas.toNat ≤ N) (hN1 : N + 1 ≤ 1099511627776) (hs : StepOk sb rb tb cx tab step)
    (hnc : nc = (S m.frm).nonce) (hncl : nc < 4611686018427387904) (hA : A = adrN m.frm nc) (hAl : A < wA)
    (h0 : ((S.setNonce m.frm (nc + 1)) A).nonce = 0) (h1 : ((S.setNonce m.frm (nc + 1)) A).code = [])
    (hmv : ((S.setNonce m.frm (nc + 1)).setNonce A 1).move m.frm A m.value = some S3) (hl : loopR step K (frame0 { m with to := A, data := [] } m.data) S3 = some (0, f', S'))
    (hol : f'.out.length ≤ 24576) (hog : 200 * f'.out.length ≤ f'.gas) :
    Calls Tryz.prog 160 #[.pointer (some ⟨rb, 0, none⟩), .agg (cat (msgS m (.slice da dl dc))).toArray] w fun e w' => ∃ o : Outc, (o.err = 0 ∧ o.gas = (f'.gas : Int) - (200 * f'.out.length : Nat) ∧ o.out = [] ∧ o.addr = A) ∧ RunP w own sb (S'.setCode A f'.out) M (N + 1) o e w' := by
  have hml := msgS_len m (.slice da dl dc)
  obtain ⟨w1, e1⟩ : ∃ w1, w1 = (w.alloc (.cells (cat (msgS m (.slice da dl dc))).toArray 77)).alloc (.cells (cat zs46).toArray 74) := ⟨_, rfl⟩
  have t1 := crT_new (m := m) h.st h.run hd
  rw [← e1] at t1
  have H1 := Lib.hid (t1.below (Below.refl _ _).drew)
  have HE := Lib.hid e1
  have HL := Lib.hid hl
  have HS := Lib.hid hs
  have HMV := Lib.hid hmv
  have HZ := Lib.hid (And.intro h0 h1)
  have HNC := Lib.hid hnc
  have HA := Lib.hid hA
  have HAL := Lib.hid hAl
  have HM := Lib.hid hm
  have HOL := Lib.hid (And.intro hol hog)
  have HG := Lib.hid hg
  have HN := Lib.hid (And.intro hn hN1)
  have hfl := hm.frm
  have HAD := Lib.hid (fun w => address_nat m.frm nc (by omega) w)
  rw [← hA] at HAD
  have HK := Lib.hid hk
  have HNL := Lib.hid hncl
  have HGL := Lib.hid hm.gas.2
  obtain ⟨T, hT⟩ : ∃ T : World → Prop, T = fun W => W.row? w.heap.size 0 129 = some (cat (msgS m (.slice da dl dc))) ∧ W.cell? ⟨rb, 0, none⟩ = some (.pointer (some ⟨sb, 0, none⟩)) := ⟨_, rfl⟩
  have HT := Lib.hid hT
  have HTC : Hid (∀ W ow Sx Mx nx, CrT w own sb rb tb cx tab m (.slice da dl dc) (.slice da dl dc) m.data W ow Sx Mx nx → T W) := fun W ow Sx Mx nx hc => by rw [hT]; exact ⟨hc.msg.row, hc.run.sp⟩
  have t0 : T w1.drew := HTC.out _ _ _ _ _ H1.out
  have hadd : IntKind.i64.wrap ((nc : Int) + 1) = ((nc + 1 : Nat) : Int) := by rw [wrI _ (by omega) (by omega)]; omega
  clear h hm hk hg hd hn hN1 hs hnc hncl hA hAl h0 h1 hmv hl hol hog e1 t1 hT
  go_enter Tryz.func160, Tryz.ntmps160
  go_wp2_with fail
  rw [← HE.out]
  refine wp_region_tree T [] (.pure 0 (.pure 1 (.pure 2 (.take 3 (.pure 4 (.take 5 (.alt 6 (.pure 7 .fin) .stop))))))) (by kernel_rfl) (by kernel_rfl) ?_
  refine tree_pure ?_ rfl (by rfl) (fun w' hs => ?_) (fun _ _ _ h => h) ?_
  rotate_left
  · clear hs
    go_simp
    try rfl
  simp only [Act.put, tsa, tsb, tsc]
  refine tree_pure ?_ rfl (by rfl) (fun w' hs => ?_) (fun _ _ _ h => h) ?_
  rotate_left
  · clear hs
    go_simp
    try rfl
  simp only [Act.put, tsa, tsb, tsc]
  refine tree_pure ?_ rfl (by rfl) (fun w' hs => ?_) (fun _ _ _ h => h) ?_
  rotate_left
  · clear hs
    go_simp
    try rfl
  simp only [Act.put, tsa, tsb, tsc]
  refine tree_take ?_ t0 rfl (by rfl) (fun w' hs => ?_) (fun _ _ _ h => h) ?_
  rotate_left
  · rw [HT.out] at hs
    obtain ⟨k0, k1⟩ := hs; have k2 := msg_frm k0; simp only [Nat.zero_add] at k2
    go_simp
    try rfl
  simp only [Act.put, tsa, tsb, tsc]
  refine tree_pure ?_ rfl (by rfl) (fun w' hs => ?_) (fun _ _ _ h => h) ?_
  rotate_left
  · clear hs
    go_simp
    try rfl
  simp only [Act.put, tsa, tsb, tsc]
  refine tree_take ?_ t0 rfl (by rfl) (fun w' hs => ?_) (fun _ _ _ h => h) ?_
  rotate_left
  · rw [HT.out] at hs
    obtain ⟨k0, k1⟩ := hs; have k2 := msg_frm k0; simp only [Nat.zero_add] at k2
    go_simp
    try rfl
  simp only [Act.put, tsa, tsb, tsc]
  refine tree_run rfl (fun K hK => ?_)
  go_simp
  have hc := st_nonce H1.out.st m.frm hfl
  rw [← HNC.out] at hc
  refine hc.mono ?_
  rintro e w2 ⟨rfl, hb⟩
  have H2 := Lib.hid (H1.out.below hb)
  have t2 : T w2 := HTC.out _ _ _ _ _ H2.out
  clear hb hc
  refine hK.out _ _ t2 ?_
  clear hK K
  refine tree_pure ?_ rfl (by rfl) (fun w' hs => ?_) (fun _ _ _ h => h) ?_
  rotate_left
  · clear hs
    go_simp
    try rfl
  simp only [Act.put, tsa, tsb, tsc]
  refine tree_fin ?_
  clear t0 t2
  go_wp2_with fail
  have H2d := Lib.hid (H2.out.below (Below.refl _ _).drew)
  have t2 : T w2.drew := HTC.out _ _ _ _ _ H2d.out
  refine wp_region_tree T [] (.pure 0 (.pure 1 (.pure 2 (.take 3 (.pure 4 (.take 5 (.pure 6 (.pure 7 (.alt 8 .fin .stop))))))))) (by kernel_rfl) (by kernel_rfl) ?_
  refine tree_pure ?_ rfl (by rfl) (fun w' hs => ?_) (fun _ _ _ h => h) ?_
  rotate_left
  · clear hs
    go_simp
    try rfl
  simp only [Act.put, tsa, tsb, tsc]
  refine tree_pure ?_ rfl (by rfl) (fun w' hs => ?_) (fun _ _ _ h => h) ?_
  rotate_left
  · clear hs
    go_simp
    try rfl
  simp only [Act.put, tsa, tsb, tsc]
  refine tree_pure ?_ rfl (by rfl) (fun w' hs => ?_) (fun _ _ _ h => h) ?_
  rotate_left
  · clear hs
    go_simp
    try rfl
  simp only [Act.put, tsa, tsb, tsc]
  refine tree_take ?_ t2 rfl (by rfl) (fun w' hs => ?_) (fun _ _ _ h => h) ?_
  rotate_left
  · rw [HT.out] at hs
    obtain ⟨k0, k1⟩ := hs; have k2 := msg_frm k0; simp only [Nat.zero_add] at k2
    go_simp
    try rfl
  simp only [Act.put, tsa, tsb, tsc]
  refine tree_pure ?_ rfl (by rfl) (fun w' hs => ?_) (fun _ _ _ h => h) ?_
  rotate_left
  · clear hs
    go_simp
    try rfl
  simp only [Act.put, tsa, tsb, tsc]
  refine tree_take ?_ t2 rfl (by rfl) (fun w' hs => ?_) (fun _ _ _ h => h) ?_
  rotate_left
  · rw [HT.out] at hs
    obtain ⟨k0, k1⟩ := hs; have k2 := msg_frm k0; simp only [Nat.zero_add] at k2
    go_simp
    try rfl
  simp only [Act.put, tsa, tsb, tsc]
  refine tree_pure ?_ rfl (by rfl) (fun w' hs => ?_) (fun _ _ _ h => h) ?_
  rotate_left
  · clear hs
    go_simp
    try rfl
  simp only [Act.put, tsa, tsb, tsc]
  refine tree_pure (.int .i64 ((nc + 1 : Nat) : Int)) rfl (by rfl) (fun w' hs => ?_) (fun _ _ _ h => h) ?_
  · clear hs
    go_simp
  simp only [Act.put, tsa, tsb, tsc]
  refine tree_run rfl (fun K hK => ?_)
  go_simp
  refine (st_setNonce H2d.out.st m.frm (nc + 1) hfl (by have := HNL.out; omega) (by have := HN.out; omega)).mono ?_
  rintro e w3 ⟨rfl, own3, st3, g3⟩
  have H3 := Lib.hid (H2d.out.go st3 g3)
  have t3 : T w3 := HTC.out _ _ _ _ _ H3.out
  clear st3 g3
  refine hK.out _ _ t3 ?_
  clear hK K
  refine tree_fin ?_
  clear t2 t3
  have ck := msg_kind H3.out.msg.row
  have cf := msg_frm H3.out.msg.row
  rw [Nat.zero_add] at ck
  rw [HK.out] at ck
  simp only [Nat.zero_add] at cf
  go_wp2_with fail
  refine (HAD.out _).mono ?_
  rintro e w4 ⟨rfl, hb4⟩
  have H4 := Lib.hid (H3.out.below hb4)
  have f21 := World.free?_sub H4.out.msg.free (o' := 21) (n' := 20) (by omega)
  have hok4 := beC_ok 20 A
  obtain ⟨w5, e5⟩ : ∃ w5, w5 = w4.setCells w.heap.size 21 (beC 20 A) := ⟨_, rfl⟩
  have ho5 : Only (· = w.heap.size) w4 w5 := by rw [e5]; exact (Only.refl (· = w.heap.size) _).setCells (fun _ => rfl) _ _
  have hA5 : Arr w5 w.heap.size 129 (cat (msgS { m with to := A } (.slice da dl dc))) := by
    rw [e5, ← msgS_to]
    exact ⟨row_cat_set H4.out.msg.row (i := 2) (s := beC 20 m.to) rfl (by simp) (by simp [msgS, offOf_succ, offOf_zero]), by rw [World.free?_setCells']; exact H4.out.msg.free⟩
  have H5 := Lib.hid (H4.out.turn ho5 hA5)
  have HE5 := Lib.hid e5
  clear hb4 e5 ho5 hA5 ck cf
  go_wp2_with fail
  rw [← HE5.out]
  clear f21
  obtain ⟨m1, hm1⟩ : ∃ m1, m1 = { m with to := A } := ⟨_, rfl⟩
  rw [← hm1] at H5
  have hto1 : m1.to = A := by rw [hm1]
  have hfr1 : m1.frm = m.frm := by rw [hm1]
  have hva1 : m1.value = m.value := by rw [hm1]
  have HM1 := Lib.hid hm1
  have HTO := Lib.hid hto1
  have HFR := Lib.hid hfr1
  have HVA := Lib.hid hva1
  clear HTC HT T
  obtain ⟨T, hT⟩ : ∃ T : World → Prop, T = fun W => W.row? w.heap.size 0 129 = some (cat (msgS m1 (.slice da dl dc))) ∧ W.cell? ⟨rb, 0, none⟩ = some (.pointer (some ⟨sb, 0, none⟩)) := ⟨_, rfl⟩
  have HT := Lib.hid hT
  have HTC : Hid (∀ W ow Sx Mx nx, CrT w own sb rb tb cx tab m1 (.slice da dl dc) (.slice da dl dc) m.data W ow Sx Mx nx → T W) := fun W ow Sx Mx nx hc => by rw [hT]; exact ⟨hc.msg.row, hc.run.sp⟩
  have H5d := Lib.hid (H5.out.below (Below.refl _ _).drew)
  have t5 : T w5.drew := HTC.out _ _ _ _ _ H5d.out
  clear hT hm1 hto1 hfr1 hva1
  refine wp_region_tree T [] (.pure 0 (.pure 1 (.pure 2 (.take 3 (.pure 4 (.take 5 (.alt 6 (.pure 7 (.pure 8 (.pure 9 (.pure 10 (.pure 11 (.take 12 (.pure 13 (.take 14 (.alt 15 (.pure 16 (.pure 17 (.pure 18 .fin))) .stop))))))))) .stop))))))) (by kernel_rfl) (by kernel_rfl) ?_
  refine tree_pure ?_ rfl (by rfl) (fun w' hs => ?_) (fun _ _ _ h => h) ?_
  rotate_left
  · clear hs
    go_simp
    try rfl
  simp only [Act.put, tsa, tsb, tsc]
  refine tree_pure ?_ rfl (by rfl) (fun w' hs => ?_) (fun _ _ _ h => h) ?_
  rotate_left
  · clear hs
    go_simp
    try rfl
  simp only [Act.put, tsa, tsb, tsc]
  refine tree_pure ?_ rfl (by rfl) (fun w' hs => ?_) (fun _ _ _ h => h) ?_
  rotate_left
  · clear hs
    go_simp
    try rfl
  simp only [Act.put, tsa, tsb, tsc]
  refine tree_take ?_ t5 rfl (by rfl) (fun w' hs => ?_) (fun _ _ _ h => h) ?_
  rotate_left
  · rw [HT.out] at hs
    obtain ⟨k0, k1⟩ := hs; have k2 := msg_to k0; have k3 := msg_frm k0; have k4 := msg_value k0; simp only [Nat.zero_add] at k2 k3 k4; rw [HTO.out] at k2; rw [HFR.out] at k3; rw [HVA.out] at k4
    go_simp
    try rfl
  simp only [Act.put, tsa, tsb, tsc]
  refine tree_pure ?_ rfl (by rfl) (fun w' hs => ?_) (fun _ _ _ h => h) ?_
  rotate_left
  · clear hs
    go_simp
    try rfl
  simp only [Act.put, tsa, tsb, tsc]
  refine tree_take ?_ t5 rfl (by rfl) (fun w' hs => ?_) (fun _ _ _ h => h) ?_
  rotate_left
  · rw [HT.out] at hs
    obtain ⟨k0, k1⟩ := hs; have k2 := msg_to k0; have k3 := msg_frm k0; have k4 := msg_value k0; simp only [Nat.zero_add] at k2 k3 k4; rw [HTO.out] at k2; rw [HFR.out] at k3; rw [HVA.out] at k4
    go_simp
    try rfl
  simp only [Act.put, tsa, tsb, tsc]
  refine tree_run rfl (fun K hK => ?_)
  go_simp
  have hc := st_nonce H5d.out.st A HAL.out
  rw [HZ.out.1] at hc
  refine hc.mono ?_
  rintro e w6 ⟨rfl, hb⟩
  have H6 := Lib.hid (H5d.out.below hb)
  have t6 : T w6 := HTC.out _ _ _ _ _ H6.out
  clear hb hc
  refine hK.out _ _ t6 ?_
  clear hK K
  refine tree_pure ?_ rfl (by rfl) (fun w' hs => ?_) (fun _ _ _ h => h) ?_
  rotate_left
  · clear hs
    go_simp
    try rfl
  simp only [Act.put, tsa, tsb, tsc]
  refine tree_pure ?_ rfl (by rfl) (fun w' hs => ?_) (fun _ _ _ h => h) ?_
  rotate_left
  · clear hs
    go_simp
    try rfl
  simp only [Act.put, tsa, tsb, tsc]
  refine tree_pure ?_ rfl (by rfl) (fun w' hs => ?_) (fun _ _ _ h => h) ?_
  rotate_left
  · clear hs
    go_simp
    try rfl
  simp only [Act.put, tsa, tsb, tsc]
  refine tree_pure ?_ rfl (by rfl) (fun w' hs => ?_) (fun _ _ _ h => h) ?_
  rotate_left
  · clear hs
    go_simp
    try rfl
  simp only [Act.put, tsa, tsb, tsc]
  refine tree_pure ?_ rfl (by rfl) (fun w' hs => ?_) (fun _ _ _ h => h) ?_
  rotate_left
  · clear hs
    go_simp
    try rfl
  simp only [Act.put, tsa, tsb, tsc]
  refine tree_take ?_ t6 rfl (by rfl) (fun w' hs => ?_) (fun _ _ _ h => h) ?_
  rotate_left
  · rw [HT.out] at hs
    obtain ⟨k0, k1⟩ := hs; have k2 := msg_to k0; have k3 := msg_frm k0; have k4 := msg_value k0; simp only [Nat.zero_add] at k2 k3 k4; rw [HTO.out] at k2; rw [HFR.out] at k3; rw [HVA.out] at k4
    go_simp
    try rfl
  simp only [Act.put, tsa, tsb, tsc]
  refine tree_pure ?_ rfl (by rfl) (fun w' hs => ?_) (fun _ _ _ h => h) ?_
  rotate_left
  · clear hs
    go_simp
    try rfl
  simp only [Act.put, tsa, tsb, tsc]
  refine tree_take ?_ t6 rfl (by rfl) (fun w' hs => ?_) (fun _ _ _ h => h) ?_
  rotate_left
  · rw [HT.out] at hs
    obtain ⟨k0, k1⟩ := hs; have k2 := msg_to k0; have k3 := msg_frm k0; have k4 := msg_value k0; simp only [Nat.zero_add] at k2 k3 k4; rw [HTO.out] at k2; rw [HFR.out] at k3; rw [HVA.out] at k4
    go_simp
    try rfl
  simp only [Act.put, tsa, tsb, tsc]
  refine tree_run rfl (fun K hK => ?_)
  go_simp
  have hc := st_code H6.out.st A HAL.out
  rw [HZ.out.2] at hc
  refine hc.mono ?_
  rintro e w7 ⟨v7, rfl, hnb⟩
  have H7 := Lib.hid (H6.out.below hnb.below)
  have t7 : T w7 := HTC.out _ _ _ _ _ H7.out
  obtain ⟨⟨a7, c7, hv7, _, _⟩, _⟩ := hnb
  rw [List.length_nil] at hv7
  subst hv7
  clear hc
  refine hK.out _ _ t7 ?_
  clear hK K
  refine tree_pure ?_ rfl (by rfl) (fun w' hs => ?_) (fun _ _ _ h => h) ?_
  rotate_left
  · clear hs
    go_simp
    try rfl
  simp only [Act.put, tsa, tsb, tsc]
  refine tree_pure ?_ rfl (by rfl) (fun w' hs => ?_) (fun _ _ _ h => h) ?_
  rotate_left
  · clear hs
    go_simp
    try rfl
  simp only [Act.put, tsa, tsb, tsc]
  refine tree_pure ?_ rfl (by rfl) (fun w' hs => ?_) (fun _ _ _ h => h) ?_
  rotate_left
  · clear hs
    go_simp
    try rfl
  simp only [Act.put, tsa, tsb, tsc]
  refine tree_fin ?_
  clear t5 t6 t7
  have ks := H7.out.run.sp
  go_wp2_with fail
  refine (st_mark H7.out.st (by have := HN.out; omega)).mono ?_
  rintro e w8 ⟨x, rfl, hx1, hx2, own8, st8, g8⟩
  have H8 := Lib.hid (H7.out.go st8 g8)
  clear st8 g8 hx1 hx2 ks
  go_wp2_with fail
  have H8d := Lib.hid (H8.out.below (Below.refl _ _).drew)
  have t8 : T w8.drew := HTC.out _ _ _ _ _ H8d.out
  refine wp_region_tree T [] (.pure 0 (.pure 1 (.pure 2 (.take 3 (.pure 4 (.take 5 (.alt 6 .fin .stop))))))) (by kernel_rfl) (by kernel_rfl) ?_
  refine tree_pure ?_ rfl (by rfl) (fun w' hs => ?_) (fun _ _ _ h => h) ?_
  rotate_left
  · clear hs
    go_simp
    try rfl
  simp only [Act.put, tsa, tsb, tsc]
  refine tree_pure ?_ rfl (by rfl) (fun w' hs => ?_) (fun _ _ _ h => h) ?_
  rotate_left
  · clear hs
    go_simp
    try rfl
  simp only [Act.put, tsa, tsb, tsc]
  refine tree_pure ?_ rfl (by rfl) (fun w' hs => ?_) (fun _ _ _ h => h) ?_
  rotate_left
  · clear hs
    go_simp
    try rfl
  simp only [Act.put, tsa, tsb, tsc]
  refine tree_take ?_ t8 rfl (by rfl) (fun w' hs => ?_) (fun _ _ _ h => h) ?_
  rotate_left
  · rw [HT.out] at hs
    obtain ⟨k0, k1⟩ := hs; have k2 := msg_to k0; have k3 := msg_frm k0; have k4 := msg_value k0; simp only [Nat.zero_add] at k2 k3 k4; rw [HTO.out] at k2; rw [HFR.out] at k3; rw [HVA.out] at k4
    go_simp
    try rfl
  simp only [Act.put, tsa, tsb, tsc]
  refine tree_pure ?_ rfl (by rfl) (fun w' hs => ?_) (fun _ _ _ h => h) ?_
  rotate_left
  · clear hs
    go_simp
    try rfl
  simp only [Act.put, tsa, tsb, tsc]
  refine tree_take ?_ t8 rfl (by rfl) (fun w' hs => ?_) (fun _ _ _ h => h) ?_
  rotate_left
  · rw [HT.out] at hs
    obtain ⟨k0, k1⟩ := hs; have k2 := msg_to k0; have k3 := msg_frm k0; have k4 := msg_value k0; simp only [Nat.zero_add] at k2 k3 k4; rw [HTO.out] at k2; rw [HFR.out] at k3; rw [HVA.out] at k4
    go_simp
    try rfl
  simp only [Act.put, tsa, tsb, tsc]
  refine tree_run rfl (fun K hK => ?_)
  go_simp
  refine (st_setNonce H8d.out.st A 1 HAL.out (by decide) (by have := HN.out; omega)).mono ?_
  rintro e w9 ⟨rfl, own9, st9, g9⟩
  have H9 := Lib.hid (H8d.out.go st9 g9)
  have t9 : T w9 := HTC.out _ _ _ _ _ H9.out
  clear st9 g9
  refine hK.out _ _ t9 ?_
  clear hK K
  refine tree_fin ?_
  clear t8 t9
  go_wp2_with fail
  have H9d := Lib.hid (H9.out.below (Below.refl _ _).drew)
  have t9 : T w9.drew := HTC.out _ _ _ _ _ H9d.out
  refine wp_region_tree T [] (.pure 0 (.pure 1 (.pure 2 (.take 3 (.pure 4 (.take 5 (.pure 6 (.take 7 (.pure 8 (.take 9 (.alt 10 (.pure 11 .fin) .stop))))))))))) (by kernel_rfl) (by kernel_rfl) ?_
  refine tree_pure ?_ rfl (by rfl) (fun w' hs => ?_) (fun _ _ _ h => h) ?_
  rotate_left
  · clear hs
    go_simp
    try rfl
  simp only [Act.put, tsa, tsb, tsc]
  refine tree_pure ?_ rfl (by rfl) (fun w' hs => ?_) (fun _ _ _ h => h) ?_
  rotate_left
  · clear hs
    go_simp
    try rfl
  simp only [Act.put, tsa, tsb, tsc]
  refine tree_pure ?_ rfl (by rfl) (fun w' hs => ?_) (fun _ _ _ h => h) ?_
  rotate_left
  · clear hs
    go_simp
    try rfl
  simp only [Act.put, tsa, tsb, tsc]
  refine tree_take ?_ t9 rfl (by rfl) (fun w' hs => ?_) (fun _ _ _ h => h) ?_
  rotate_left
  · rw [HT.out] at hs
    obtain ⟨k0, k1⟩ := hs; have k2 := msg_to k0; have k3 := msg_frm k0; have k4 := msg_value k0; simp only [Nat.zero_add] at k2 k3 k4; rw [HTO.out] at k2; rw [HFR.out] at k3; rw [HVA.out] at k4
    go_simp
    try rfl
  simp only [Act.put, tsa, tsb, tsc]
  refine tree_pure ?_ rfl (by rfl) (fun w' hs => ?_) (fun _ _ _ h => h) ?_
  rotate_left
  · clear hs
    go_simp
    try rfl
  simp only [Act.put, tsa, tsb, tsc]
  refine tree_take ?_ t9 rfl (by rfl) (fun w' hs => ?_) (fun _ _ _ h => h) ?_
  rotate_left
  · rw [HT.out] at hs
    obtain ⟨k0, k1⟩ := hs; have k2 := msg_to k0; have k3 := msg_frm k0; have k4 := msg_value k0; simp only [Nat.zero_add] at k2 k3 k4; rw [HTO.out] at k2; rw [HFR.out] at k3; rw [HVA.out] at k4
    go_simp
    try rfl
  simp only [Act.put, tsa, tsb, tsc]
  refine tree_pure ?_ rfl (by rfl) (fun w' hs => ?_) (fun _ _ _ h => h) ?_
  rotate_left
  · clear hs
    go_simp
    try rfl
  simp only [Act.put, tsa, tsb, tsc]
  refine tree_take ?_ t9 rfl (by rfl) (fun w' hs => ?_) (fun _ _ _ h => h) ?_
  rotate_left
  · rw [HT.out] at hs
    obtain ⟨k0, k1⟩ := hs; have k2 := msg_to k0; have k3 := msg_frm k0; have k4 := msg_value k0; simp only [Nat.zero_add] at k2 k3 k4; rw [HTO.out] at k2; rw [HFR.out] at k3; rw [HVA.out] at k4
    go_simp
    try rfl
  simp only [Act.put, tsa, tsb, tsc]
  refine tree_pure ?_ rfl (by rfl) (fun w' hs => ?_) (fun _ _ _ h => h) ?_
  rotate_left
  · clear hs
    go_simp
    try rfl
  simp only [Act.put, tsa, tsb, tsc]
  refine tree_take ?_ t9 rfl (by rfl) (fun w' hs => ?_) (fun _ _ _ h => h) ?_
  rotate_left
  · rw [HT.out] at hs
    obtain ⟨k0, k1⟩ := hs; have k2 := msg_to k0; have k3 := msg_frm k0; have k4 := msg_value k0; simp only [Nat.zero_add] at k2 k3 k4; rw [HTO.out] at k2; rw [HFR.out] at k3; rw [HVA.out] at k4
    go_simp
    try rfl
  simp only [Act.put, tsa, tsb, tsc]
  refine tree_run rfl (fun K hK => ?_)
  go_simp
  have hc := st_move H9d.out.st m.frm A m.value hfl HAL.out HM.out.value (by have := HN.out; omega)
  rw [HMV.out] at hc
  refine hc.mono ?_
  rintro e w10 ⟨rfl, own10, st10, g10⟩
  have H10 := Lib.hid (H9d.out.go st10 g10)
  have t10 : T w10 := HTC.out _ _ _ _ _ H10.out
  simp only [Option.isSome_some, Option.getD_some] at H10 ⊢
  clear st10 g10 hc
  refine hK.out _ _ t10 ?_
  clear hK K
  refine tree_pure ?_ rfl (by rfl) (fun w' hs => ?_) (fun _ _ _ h => h) ?_
  rotate_left
  · clear hs
    go_simp
    try rfl
  simp only [Act.put, tsa, tsb, tsc]
  refine tree_fin ?_
  clear t9 t10 HTC HT T
  have q6 := msg_data H10.out.msg.row
  simp only [Nat.zero_add] at q6
  have f6 := H10.out.msg.free1 (i := 125) (by omega)
  obtain ⟨m2, hm2⟩ : ∃ m2 : Msg, m2 = { m1 with data := [] } := ⟨_, rfl⟩
  obtain ⟨w11, e11⟩ : ∃ w11, w11 = w10.setCell ⟨w.heap.size, 125, none⟩ (.slice none 0 0) := ⟨_, rfl⟩
  have hA11 : Arr w11 w.heap.size 129 (cat (msgS m2 (.slice none 0 0))) := by
    rw [e11, hm2, ← msgS_nil m1 (.slice da dl dc)]
    exact ⟨cell_cat_set H10.out.msg.row (i := 6) rfl _ (by simp [msgS, offOf_succ, offOf_zero]), (H10.out.msg.set (i := 125) (by omega) (.slice none 0 0)).free⟩
  have H11 := Lib.hid (H10.out.turn (by rw [e11]; exact only_cell _ _ _ _) hA11)
  have r11 := hA11.row
  have HE11 := Lib.hid e11
  rw [e11] at r11
  have hml2 := msgS_len m2 (.slice none 0 0)
  have HM2 : Hid (m2 = { m with to := A, data := [] }) := by show _ = _; rw [hm2, HM1.out]
  have hmok : MsgOk m2 := by rw [HM2.out]; have := HM.out; exact ⟨this.frm, HAL.out, this.code, this.value, this.salt, this.gas, this.depth⟩
  have hgas2 : m2.gas = m.gas := by rw [HM2.out]
  have hto2 : m2.to = A := by rw [HM2.out]
  have HCODE := Lib.hid (evm_code (N := N) (x := 0) (dv := .slice none 0 0) (cv := .slice da dl dc) (code := m.data) ⟨H11.out.st, H11.out.run, by have := HN.out; omega⟩ hmok (by rw [hgas2]; exact HG.out) (by rw [HM2.out]; exact roAt_nil _ _) H11.out.data (by rw [hgas2]; have := HN.out; omega) HS.out (by rw [HM2.out]; exact HL.out))
  have HTO2 := Lib.hid hto2
  clear e11 hA11 hm2 hmok hgas2 hto2
  go_wp2_with fail
  rw [← HE11.out]
  refine HCODE.out.mono ?_
  rintro e w12 ⟨o, ov, lv, own12, n12, S12, rfl, st12, g12, oa12, hog, hon, hoe, hoa, hol, hx0, hx15⟩
  obtain ⟨h1, h2, h3, rfl⟩ := hx0 (by first | rfl | trivial)
  have H12 := Lib.hid (H11.out.go st12 g12)
  have HCHG := Lib.hid g12
  have HOUT : Hid (0 ≤ o.gas ∧ n12 + o.gas.toNat ≤ N ∧ o.err = 0 ∧ o.gas = f'.gas ∧ o.out = f'.out ∧ o.logs = f'.logs) := ⟨hog, hon, by rw [hoe]; rfl, h1, h2, h3⟩
  obtain ⟨oa, ok, lb, lj, hov, hlv⟩ := oa12.forms
  subst hov hlv
  have hok12 := outS_ok o oa lb o.out.length ok o.logs.length lj
  have hol12 := outS_len o (.slice oa o.out.length ok) (.slice lb o.logs.length lj)
  have HS12 : Hid (w.heap.size + 1 < w11.heap.size) := H11.out.size
  have HOA12 := Lib.hid oa12
  have f12 : (w12.alloc (.cells (cat zs46).toArray 74)).free? w12.heap.size 0 24 = true := (Arr.new w12 24 (cat zs46) 74 zs46_len).free
  obtain ⟨w13, e13⟩ : ∃ w13, w13 = (w12.alloc (.cells (cat zs46).toArray 74)).setCells w12.heap.size 0 (cat (outS o (.slice oa o.out.length ok) (.slice lb o.logs.length lj))) := ⟨_, rfl⟩
  have hb13 : Below w12.heap.size w12 w13 := by rw [e13]; exact ((Below.refl _ _).alloc (Nat.le_refl _) _).setCells (Nat.le_refl _) _ _
  have hA13 : Arr w13 w12.heap.size 24 (cat (outS o (.slice oa o.out.length ok) (.slice lb o.logs.length lj))) := by rw [e13]; exact (Arr.new w12 24 (cat zs46) 74 zs46_len).setCells _ hok12
  have H13 := Lib.hid (H12.out.below hb13)
  have HOA13 := Lib.hid (oa12.chg (Chg.below own12 hb13))
  have r13 := H13.out.msg.row
  have q13 := out0_err hA13.row
  rw [HOUT.out.2.2.1] at q13
  have r13b := hA13.row
  rw [e13] at r13 q13 r13b
  have HB13 := Lib.hid hb13
  have HA13 := Lib.hid hA13
  have HE13 := Lib.hid e13
  have HB2 : Hid (w.heap.size + 1 < w12.heap.size ∧ own12 w12.heap.size = none) := ⟨H12.out.size, free_own H12.out.st.lows (Nat.le_refl _)⟩
  have HFND := Lib.hid (evm_found (m := m2) (dv := .slice none 0 0) H13.out.st H13.out.run HOA13.out (by rw [HTO2.out]; exact HAL.out) (by rw [HOUT.out.2.2.2.2.1]; exact HOL.out.1) (by rw [HOUT.out.2.2.2.2.1, HOUT.out.2.2.2.1]; have := HOL.out.2; omega) (by have := HOUT.out; have := HN.out; omega) (by have := HOUT.out; have := HN.out; omega))
  clear st12 g12 oa12 hog hon hoe hoa hol h1 h2 h3 hx0 hx15 e13 hb13 hA13 q6 f6 r11
  go_wp2_with fail
  rw [← HE13.out]
  refine HFND.out.mono ?_
  rintro e w14 ⟨own14, rfl, st14, g14, oa14⟩
  have H14 := Lib.hid (H13.out.go st14 g14)
  have HA14 := Lib.hid (HA13.out.only g14.only (fun hh => hh HB2.out.2))
  obtain ⟨p, hp⟩ : ∃ p : Outc, p = { o with gas := o.gas - (200 * o.out.length : Nat), out := [], addr := m2.to } := ⟨_, rfl⟩
  rw [← hp] at oa14 ⊢
  have HPO : Hid (p.err = 0 ∧ p.gas = (f'.gas : Int) - (200 * f'.out.length : Nat) ∧ p.out = [] ∧ p.addr = A) := by rw [hp]; exact ⟨HOUT.out.2.2.1, by show o.gas - (200 * o.out.length : Nat) = _; rw [HOUT.out.2.2.2.2.1, HOUT.out.2.2.2.1], rfl, HTO2.out⟩
  have hpl : p.out.length = 0 := by rw [HPO.out.2.2.1]; rfl
  have hpg : p.logs.length = o.logs.length := by rw [hp]
  have hok14 : okL 24 (cat (outS p (.slice none 0 0) (.slice lb o.logs.length lj))) = true := outS_ok p none lb 0 0 o.logs.length lj
  have hol14 := outS_len p (.slice none 0 0) (.slice lb o.logs.length lj)
  have f14 := HA14.out.free
  obtain ⟨w15, e15⟩ : ∃ w15, w15 = w14.setCells w12.heap.size 0 (cat (outS p (.slice none 0 0) (.slice lb o.logs.length lj))) := ⟨_, rfl⟩
  have ho15 : Only (· = w12.heap.size) w14 w15 := by rw [e15]; exact (Only.refl (· = w12.heap.size) _).setCells (fun _ => rfl) _ _
  have hB14 : own14 w12.heap.size = none := by rw [g14.ext _ HA13.out.lt]; exact HB2.out.2
  have hA15 : Arr w15 w12.heap.size 24 (cat (outS p (.slice none 0 0) (.slice lb o.logs.length lj))) := by rw [e15]; exact HA14.out.setCells _ hok14
  have H15 := Lib.hid (H14.out.box HB2.out.1 hB14 ho15)
  have hw1112 : w11.heap.size ≤ w12.heap.size := HCHG.out.only.size
  have oa15 : OutAt w15 own14 (w.heap.size + 1 + 1) (.slice none 0 0) (.slice lb o.logs.length lj) p := by
    have hg12 := (Chg.below own12 HB13.out).trans g14
    have hg15 : Chg w12 w15 own12 own14 := ⟨hg12.ext, hg12.only.trans ho15 (fun i hi he => by have : i = w12.heap.size := hi; omega)⟩
    have hoa := (HOA12.out.chg hg15).mono (show w.heap.size + 1 + 1 ≤ w11.heap.size by have := HS12.out; omega)
    rw [hp]
    exact ⟨roAt_nil _ _, hoa.logs, hoa.lown⟩
  have r15 := hA15.row
  rw [e15] at r15
  have HE15 := Lib.hid e15
  have HA15 := Lib.hid hA15
  have HOA15 := Lib.hid oa15
  have HPL := Lib.hid (And.intro hpl hpg)
  have HEND := Lib.hid (evm_end_ok H15.out.st H15.out.run oa15 HPO.out.1 (by have := HOUT.out; have := HN.out; omega))
  clear st14 g14 oa14 hp e15 ho15 hB14 hA15 oa15 hpl hpg r13 q13 r13b f12
  go_wp2_with fail
  rw [← HE15.out]
  refine HEND.out.mono ?_
  rintro e w16 ⟨rfl, st16, g16, oa16⟩
  have H16 := Lib.hid (H15.out.go st16 g16)
  have HOA16 := Lib.hid oa16
  have f16 := H16.out.res
  clear st16 g16 oa16 r15 f14
  go_wp2
  refine ret_row ty46 rfl _ rfl rfl f16 hok14 ?_
  have ob : Only (· = w.heap.size + 1) w16 (w16.setCells (w.heap.size + 1) 0 (cat (outS p (.slice none 0 0) (.slice lb o.logs.length lj)))) := (Only.refl (· = w.heap.size + 1) _).setCells (fun _ => rfl) _ _
  refine ⟨p, HPO.out, _, _, own14, n12 + 1, rfl, ?_, ⟨H16.out.chg.ext, H16.out.chg.only.trans ob (fun i hi he => by have : i = w.heap.size + 1 := hi; omega)⟩, (HOA16.out.box (by omega) ob).mono (by omega), by have := HOUT.out; omega⟩
  have hst := H16.out.st.only ob (fun b hb => by rw [hb]; exact H16.out.o2)
  rw [HTO2.out, HOUT.out.2.2.2.2.1] at hst
  exact hst
end Go.Proofs.YtikiciojfhfagaaGreat
namespace Go.Proofs.YtikiciojfhfagaaGreat
open Go.RowKit Go.Mun

set_option maxRecDepth 100000 in
set_option maxHeartbeats 2000000 in
theorem may_make {w : World} {own : Own} {sb rb tb : Nat} {cx : Ctx} {tab : Tabl} {S : St} {M : List (Nat × St)} {n : Nat} {m : Msg} {dv : Value} (hst : StateAt TU w own sb S M n) (hr : RunAt w own sb rb tb cx tab) (hm : MsgOk m) (hk : m.kind = 3) (hd : m.depth ≤ 64) (hv : ¬ (S m.frm).bal < m.value) (hnc : (S m.frm).nonce < 4611686018427387904) :
    Calls Tryz.prog 157 #[.pointer (some ⟨rb, 0, none⟩), .agg (cat (msgS m dv)).toArray] w fun e w' => e = .returned (.int .i64 0) ∧ Below w.heap.size w w' := by
  have hml := msgS_len m dv
  obtain ⟨w1, e1⟩ : ∃ w1, w1 = w.alloc (.cells (cat (msgS m dv)).toArray 77) := ⟨_, rfl⟩
  have hb1 : Below w.heap.size w w1 := by rw [e1]; exact (Below.refl _ _).alloc (Nat.le_refl _) _
  have hr1 : w1.row? w.heap.size 0 129 = some (cat (msgS m dv)) := by rw [e1]; exact World.row?_alloc_at _ _ _ rfl hml
  have t0 : MayT w w1 own sb rb S M n m dv := ⟨hr1, (hr.chg (Chg.below own hb1)).sp, hst.below hb1, hb1⟩
  have hbb := hst.bal m.frm
  have c0 : (cat (msgS m dv))[0]'(by rw [hml]; omega) = .int .i64 m.kind := rfl
  have HT0 := Lib.hid t0
  have HE := Lib.hid e1
  have hfa := hm.frm
  have hva := hm.value
  rw [hk] at c0
  have HM : Hid (∀ w, Calls Tryz.prog 159 #[.agg (cat (msgS m dv)).toArray] w fun e w' => e = .returned (.bool true) ∧ Below w.heap.size w w') := fun w => by have := evm_makes m dv w; rw [show decide (m.kind = 3 ∨ m.kind = 4) = true by rw [hk]; decide] at this; exact this
  have r1 := hr1
  rw [e1] at r1
  have HK := Lib.hid hk
  clear hst hr e1 hb1 hr1 hm hk
  obtain ⟨T, hT⟩ : ∃ T : World → Prop, T = fun w' => MayT w w' own sb rb S M n m dv := ⟨_, rfl⟩
  have HT := Lib.hid hT
  have HTB : Hid (∀ w2 w3, T w2 → Below w2.heap.size w2 w3 → T w3) := by show ∀ w2 w3, T w2 → Below w2.heap.size w2 w3 → T w3; rw [hT]; intro w2 w3 h hb; exact h.next hb
  have HTS : Hid (∀ w2, T w2 → StateAt TU w2 own sb S M n) := by show ∀ w2, T w2 → StateAt TU w2 own sb S M n; rw [hT]; intro w2 h; exact h.st
  have HTG : Hid (∀ w2, T w2 → MayT w w2 own sb rb S M n m dv) := by show ∀ w2, T w2 → MayT w w2 own sb rb S M n m dv; rw [hT]; intro w2 h; exact h
  have tt : T w1 := by rw [hT]; exact HT0.out
  clear hT t0 HT0
  have hdI : decide ((64 : Int) < m.depth) = false := decide_eq_false (by omega)
  have hcn : ¬ cmpN (S m.frm).bal m.value < 0 := cmpN_ge hv
  have hdc : decide (cmpN (S m.frm).bal m.value < 0) = false := decide_eq_false hcn
  have hdn : decide ((4611686018427387904 : Int) ≤ ((S m.frm).nonce : Int)) = false := decide_eq_false (by omega)
  clear hnc hcn hv hd
  go_enter Tryz.func157, Tryz.ntmps157
  go_wp2_with fail
  rw [← HE.out]
  refine (HM.out _).mono ?_
  rintro e w2 ⟨rfl, hb⟩
  have t2 : T w2 := HTB.out _ _ tt hb
  have m2 := HTG.out _ t2
  have ck := msg_kind m2.row
  have cd := msg_depth m2.row
  rw [HK.out] at ck
  simp only [Nat.zero_add] at ck cd
  clear hb m2 tt r1 c0
  go_wp2_with fail
  have t3 : T w2.drew := HTB.out _ _ t2 (Below.refl _ _).drew
  clear ck cd t2
  refine wp_region_tree T [] (.pure 0 (.pure 1 (.pure 2 (.pure 3 (.pure 4 (.take 5 (.pure 6 (.take 7 (.pure 9 (.take 10 (.alt 8 (.alt 11 (.pure 12 (.pure 13 (.pure 14 .fin))) .stop) .stop))))))))))) (by kernel_rfl) (by kernel_rfl) ?_
  refine tree_pure ?_ rfl (by rfl) (fun w' hs => ?_) (fun _ _ _ h => h) ?_
  rotate_left
  · clear hs
    go_simp
    try rfl
  simp only [Act.put, tsa, tsb, tsc]
  refine tree_pure ?_ rfl (by rfl) (fun w' hs => ?_) (fun _ _ _ h => h) ?_
  rotate_left
  · clear hs
    go_simp
    try rfl
  simp only [Act.put, tsa, tsb, tsc]
  refine tree_pure ?_ rfl (by rfl) (fun w' hs => ?_) (fun _ _ _ h => h) ?_
  rotate_left
  · clear hs
    go_simp
    try rfl
  simp only [Act.put, tsa, tsb, tsc]
  refine tree_pure ?_ rfl (by rfl) (fun w' hs => ?_) (fun _ _ _ h => h) ?_
  rotate_left
  · clear hs
    go_simp
    try rfl
  simp only [Act.put, tsa, tsb, tsc]
  refine tree_pure ?_ rfl (by rfl) (fun w' hs => ?_) (fun _ _ _ h => h) ?_
  rotate_left
  · clear hs
    go_simp
    try rfl
  simp only [Act.put, tsa, tsb, tsc]
  refine tree_take ?_ t3 rfl (by rfl) (fun w' hs => ?_) (fun _ _ _ h => h) ?_
  rotate_left
  · rw [HT.out] at hs
    have q0 := hs.sp; have q1 := msg_frm hs.row; have q2 := msg_value hs.row; simp only [Nat.zero_add] at q1 q2
    go_simp
    try rfl
  simp only [Act.put, tsa, tsb, tsc]
  refine tree_pure ?_ rfl (by rfl) (fun w' hs => ?_) (fun _ _ _ h => h) ?_
  rotate_left
  · clear hs
    go_simp
    try rfl
  simp only [Act.put, tsa, tsb, tsc]
  refine tree_take ?_ t3 rfl (by rfl) (fun w' hs => ?_) (fun _ _ _ h => h) ?_
  rotate_left
  · rw [HT.out] at hs
    have q0 := hs.sp; have q1 := msg_frm hs.row; have q2 := msg_value hs.row; simp only [Nat.zero_add] at q1 q2
    go_simp
    try rfl
  simp only [Act.put, tsa, tsb, tsc]
  refine tree_pure ?_ rfl (by rfl) (fun w' hs => ?_) (fun _ _ _ h => h) ?_
  rotate_left
  · clear hs
    go_simp
    try rfl
  simp only [Act.put, tsa, tsb, tsc]
  refine tree_take ?_ t3 rfl (by rfl) (fun w' hs => ?_) (fun _ _ _ h => h) ?_
  rotate_left
  · rw [HT.out] at hs
    have q0 := hs.sp; have q1 := msg_frm hs.row; have q2 := msg_value hs.row; simp only [Nat.zero_add] at q1 q2
    go_simp
    try rfl
  simp only [Act.put, tsa, tsb, tsc]
  refine tree_run rfl (fun K hK => ?_)
  go_simp
  refine (st_balance (HTS.out _ t3) m.frm hfa).mono ?_
  rintro e w4 ⟨rfl, hb⟩
  have t4 : T w4 := HTB.out _ _ t3 hb
  clear hb t3
  refine hK.out _ _ t4 ?_
  clear hK K
  refine tree_run rfl (fun K hK => ?_)
  go_simp
  refine (word_cmp _ m.value hbb hva _).mono ?_
  rintro e w5 ⟨rfl, hb⟩
  have t5 : T w5 := HTB.out _ _ t4 hb
  clear hb t4
  refine hK.out _ _ t5 ?_
  clear hK K
  refine tree_pure ?_ rfl (by rfl) (fun w' hs => ?_) (fun _ _ _ h => h) ?_
  rotate_left
  · clear hs
    go_simp
    try rfl
  simp only [Act.put, tsa, tsb, tsc]
  refine tree_pure ?_ rfl (by rfl) (fun w' hs => ?_) (fun _ _ _ h => h) ?_
  rotate_left
  · clear hs
    go_simp
    try rfl
  simp only [Act.put, tsa, tsb, tsc]
  refine tree_pure ?_ rfl (by rfl) (fun w' hs => ?_) (fun _ _ _ h => h) ?_
  rotate_left
  · clear hs
    go_simp
    try rfl
  simp only [Act.put, tsa, tsb, tsc]
  refine tree_fin ?_
  go_wp2_with fail
  have t6 : T w5.drew := HTB.out _ _ t5 (Below.refl _ _).drew
  clear t5
  refine wp_region_tree T [] (.take 0 (.alt 1 (.pure 2 (.pure 3 (.pure 4 (.pure 5 (.take 6 (.pure 7 (.take 8 (.alt 9 (.pure 10 (.pure 11 (.pure 12 .fin))) .stop)))))))) .stop)) (by kernel_rfl) (by kernel_rfl) ?_
  refine tree_take ?_ t6 rfl (by rfl) (fun w' hs => ?_) (fun _ _ _ h => h) ?_
  rotate_left
  · rw [HT.out] at hs
    have q0 := hs.sp; have q1 := msg_frm hs.row; have q2 := msg_value hs.row; simp only [Nat.zero_add] at q1 q2; have q3 := hs.row
    go_simp
    try rfl
  simp only [Act.put, tsa, tsb, tsc]
  refine tree_run rfl (fun K hK => ?_)
  go_simp
  refine (HM.out _).mono ?_
  rintro e w7 ⟨rfl, hb⟩
  have t7 : T w7 := HTB.out _ _ t6 hb
  clear hb t6
  refine hK.out _ _ t7 ?_
  clear hK K
  refine tree_pure ?_ rfl (by rfl) (fun w' hs => ?_) (fun _ _ _ h => h) ?_
  rotate_left
  · clear hs
    go_simp
    try rfl
  simp only [Act.put, tsa, tsb, tsc]
  refine tree_pure ?_ rfl (by rfl) (fun w' hs => ?_) (fun _ _ _ h => h) ?_
  rotate_left
  · clear hs
    go_simp
    try rfl
  simp only [Act.put, tsa, tsb, tsc]
  refine tree_pure ?_ rfl (by rfl) (fun w' hs => ?_) (fun _ _ _ h => h) ?_
  rotate_left
  · clear hs
    go_simp
    try rfl
  simp only [Act.put, tsa, tsb, tsc]
  refine tree_pure ?_ rfl (by rfl) (fun w' hs => ?_) (fun _ _ _ h => h) ?_
  rotate_left
  · clear hs
    go_simp
    try rfl
  simp only [Act.put, tsa, tsb, tsc]
  refine tree_take ?_ t7 rfl (by rfl) (fun w' hs => ?_) (fun _ _ _ h => h) ?_
  rotate_left
  · rw [HT.out] at hs
    have q0 := hs.sp; have q1 := msg_frm hs.row; have q2 := msg_value hs.row; simp only [Nat.zero_add] at q1 q2; have q3 := hs.row
    go_simp
    try rfl
  simp only [Act.put, tsa, tsb, tsc]
  refine tree_pure ?_ rfl (by rfl) (fun w' hs => ?_) (fun _ _ _ h => h) ?_
  rotate_left
  · clear hs
    go_simp
    try rfl
  simp only [Act.put, tsa, tsb, tsc]
  refine tree_take ?_ t7 rfl (by rfl) (fun w' hs => ?_) (fun _ _ _ h => h) ?_
  rotate_left
  · rw [HT.out] at hs
    have q0 := hs.sp; have q1 := msg_frm hs.row; have q2 := msg_value hs.row; simp only [Nat.zero_add] at q1 q2; have q3 := hs.row
    go_simp
    try rfl
  simp only [Act.put, tsa, tsb, tsc]
  refine tree_run rfl (fun K hK => ?_)
  go_simp
  refine (st_nonce (HTS.out _ t7) m.frm hfa).mono ?_
  rintro e w8 ⟨rfl, hb⟩
  have t8 : T w8 := HTB.out _ _ t7 hb
  clear hb t7
  refine hK.out _ _ t8 ?_
  clear hK K
  refine tree_pure ?_ rfl (by rfl) (fun w' hs => ?_) (fun _ _ _ h => h) ?_
  rotate_left
  · clear hs
    go_simp
    try rfl
  simp only [Act.put, tsa, tsb, tsc]
  refine tree_pure ?_ rfl (by rfl) (fun w' hs => ?_) (fun _ _ _ h => h) ?_
  rotate_left
  · clear hs
    go_simp
    try rfl
  simp only [Act.put, tsa, tsb, tsc]
  refine tree_pure ?_ rfl (by rfl) (fun w' hs => ?_) (fun _ _ _ h => h) ?_
  rotate_left
  · clear hs
    go_simp
    try rfl
  simp only [Act.put, tsa, tsb, tsc]
  refine tree_fin ?_
  go_wp2
  go_ret
  exact ⟨rfl, (HTG.out _ t8).below⟩
set_option maxRecDepth 100000 in
set_option maxHeartbeats 4000000 in
theorem message_make {w : World} {own : Own} {sb rb tb : Nat} {cx : Ctx} {tab : Tabl} {S S' : St} {M : List (Nat × St)} {n N : Nat} {m : Msg} {dv : Value} {F : Outc → Prop}
    (hst : StateAt TU w own sb S M n) (hr : RunAt w own sb rb tb cx tab) (hm : MsgOk m) (hk : m.kind = 3) (hg : 0 ≤ m.gas) (hdp : m.depth ≤ 64) (hd : RoAt w (fun b => own b ≠ none) dv m.data) (hv : ¬ (S m.frm).bal < m.value) (hnc : (S m.frm).nonce < 4611686018427387904)
    (hcr : ∀ w1, StateAt TU w1 own sb S M n → RunAt w1 own sb rb tb cx tab → RoAt w1 (fun b => own b ≠ none) dv m.data → Calls Tryz.prog 160 #[.pointer (some ⟨rb, 0, none⟩), .agg (cat (msgS m dv)).toArray] w1 fun e w' => ∃ o, F o ∧ RunP w1 own sb S' M N o e w') :
    Calls Tryz.prog 66 #[.pointer (some ⟨rb, 0, none⟩), .agg (cat (msgS m dv)).toArray] w fun e w' => ∃ o, F o ∧ RunP w own sb S' M N o e w' := by
  have hml := msgS_len m dv
  have c0 := msgS_gas m dv
  obtain ⟨w1, e1⟩ : ∃ w1, w1 = (w.alloc (.cells (cat (msgS m dv)).toArray 77)).alloc (.cells (cat zs46).toArray 74) := ⟨_, rfl⟩
  have t1 := callT_new (m := m) hst hr hd
  rw [← e1] at t1
  have hf0 : (w.alloc (.cells (cat (msgS m dv)).toArray 77)).free? w.heap.size 126 1 = true := World.free?_alloc_at _ _ rfl (by rw [hml]; omega)
  have HT1 := Lib.hid t1
  have HE1 := Lib.hid e1
  have HMK : Hid (∀ w, Calls Tryz.prog 159 #[.agg (cat (msgS m dv)).toArray] w fun e w' => e = .returned (.bool true) ∧ Below w.heap.size w w') := fun w => by have := evm_makes m dv w; rw [show decide (m.kind = 3 ∨ m.kind = 4) = true by rw [hk]; decide] at this; exact this
  have HCR := Lib.hid hcr
  have hset : (cat (msgS m dv)).set 126 (.int .i64 m.gas) = cat (msgS m dv) := by
    apply List.ext_getElem?
    intro i
    rw [List.getElem?_set]
    by_cases hi : 126 = i
    · subst hi
      rw [if_pos rfl, if_pos (by rw [hml]; omega), List.getElem?_eq_getElem (by rw [hml]; omega), c0]
    · rw [if_neg hi]
  have HMAY := Lib.hid (may_make t1.st t1.run hm hk hdp hv hnc (dv := dv))
  clear hcr e1 t1 hd hv hdp hst hr hnc
  have hmax : max (0 : Int) m.gas = m.gas := by omega
  go_enter Tryz.func66, Tryz.ntmps66
  go_wp2_with fail
  rw [← HE1.out]
  refine HMAY.out.mono ?_
  rintro e w3 ⟨rfl, hb3⟩
  have t3 := HT1.out.below hb3
  have r3 := t3.row
  have HT3 := Lib.hid t3
  clear hb3 t3 hset hf0
  go_wp2_with fail
  refine (HMK.out _).mono ?_
  rintro e w4 ⟨rfl, hb4⟩
  have t4 := HT3.out.below hb4
  have r4 := t4.row
  have HT4 := Lib.hid t4
  have HCALL := Lib.hid (HCR.out w4 t4.st t4.run t4.data)
  have HBB : Hid (w.heap.size + 1 < w4.heap.size) := free?_lt t4.res
  clear hb4 t4 r3
  go_wp2_with fail
  refine HCALL.out.mono ?_
  rintro e w5 ⟨o, hF, ov, lv, own4, n4, rfl, st5, g5, oa5, h1⟩
  obtain ⟨oa, ok, lb, lj, rfl, rfl⟩ := oa5.forms
  have hok8 := outS_ok o oa lb o.out.length ok o.logs.length lj
  have H10 := Lib.hid (HT4.out.go g5 st5)
  have f10 := H10.out.res
  have OA10 := Lib.hid oa5
  have HF := Lib.hid hF
  have HN4 := Lib.hid h1
  clear st5 g5 oa5 h1 r4 hF
  go_wp2
  refine ret_row ty46 rfl _ rfl rfl f10 hok8 ?_
  have ob : Only (· = w.heap.size + 1) w5 (w5.setCells (w.heap.size + 1) 0 (cat (outS o (.slice oa o.out.length ok) (.slice lb o.logs.length lj)))) := Only.setCells (S := fun b => b = w.heap.size + 1) (Only.refl _ _) (fun _ => rfl) _ _
  exact ⟨o, HF.out, _, _, own4, n4, rfl, H10.out.st.only ob (fun b hb => by rw [hb]; exact H10.out.o2), ⟨H10.out.chg.ext, H10.out.chg.only.trans ob (fun i hi he => by have : i = w.heap.size + 1 := hi; omega)⟩, (OA10.out.box HBB.out ob).mono (Nat.le_of_lt (Nat.lt_of_succ_lt HBB.out)), HN4.out⟩
attribute [local irreducible] TabRel
set_option maxRecDepth 100000 in
set_option maxHeartbeats 4000000 in
theorem run_told {w : World} {own : Own} {sb : Nat} {cx : Ctx} {S S' : St} {M : List (Nat × St)} {n N : Nat} {m : Msg} {dv : Value} {F : Outc → Prop}
    (hst : StateAt TU w own sb S M n) (hd : RoAt w (fun b => own b ≠ none) dv m.data)
    (hms : ∀ w1 rb tb tab, TabOk tab → StateAt TU w1 own sb S M n → RunAt w1 own sb rb tb cx tab → RoAt w1 (fun b => own b ≠ none) dv m.data → Calls Tryz.prog 66 #[.pointer (some ⟨rb, 0, none⟩), .agg (cat (msgS m dv)).toArray] w1 fun e w' => ∃ o, F o ∧ RunP w1 own sb S' M N o e w') :
    Calls Tryz.prog 33 #[.pointer (some ⟨sb, 0, none⟩), .agg (cat (msgS m dv)).toArray, .agg (cat (ctxS cx)).toArray] w fun e w' => ∃ o, F o ∧ RunP w own sb S' M N o e w' := by
  have hml := msgS_len m dv
  have hcl := ctxS_len cx
  obtain ⟨w1, e1⟩ : ∃ w1, w1 = ((w.alloc (.cells (cat (msgS m dv)).toArray 77)).alloc (.cells (cat (ctxS cx)).toArray 46)).alloc (.cells (cat zs46).toArray 74) := ⟨_, rfl⟩
  have hb1 : Below w.heap.size w w1 := by rw [e1]; exact (((Below.refl _ _).alloc (Nat.le_refl _) _).alloc (by simp) _).alloc (by simp; omega) _
  have r1 : w1.row? w.heap.size 0 129 = some (cat (msgS m dv)) := by rw [e1, World.row?_alloc_lt _ (by simp; omega), World.row?_alloc_lt _ (by simp)]; exact World.row?_alloc_at _ _ _ rfl hml
  have r2 : w1.row? (w.heap.size + 1) 0 43 = some (cat (ctxS cx)) := by rw [e1, World.row?_alloc_lt _ (by simp)]; exact World.row?_alloc_at _ _ _ (by simp) hcl
  have f1 : w1.free? (w.heap.size + 1 + 1) 0 24 = true := by rw [e1]; exact World.free?_alloc_at _ _ (by simp) (by rw [zs46_len]; omega)
  have HST := Lib.hid hst
  have HB1 := Lib.hid hb1
  have HE1 := Lib.hid e1
  have HF1 := Lib.hid f1
  have HR1 := Lib.hid r1
  have HD := Lib.hid hd
  have HMS := Lib.hid hms
  obtain ⟨T, hT⟩ : ∃ T : World → Prop, T = fun w' => w'.row? (w.heap.size + 1) 0 43 = some (cat (ctxS cx)) := ⟨_, rfl⟩
  have HT := Lib.hid hT
  have tb : ∀ w2 w3, T w2 → Below w2.heap.size w2 w3 → T w3 := by rw [hT]; intro w2 w3 h hb; exact ((brow hb).1 _ _ _ (World.row?_lt h)).trans h
  have HTB := Lib.hid tb
  have t0 : T w1.drew := by rw [hT]; exact r2
  clear hst hb1 e1 f1 r1 r2 hd hms hT tb
  go_enter Tryz.func33, Tryz.ntmps33
  go_wp2_with fail
  rw [← HE1.out]
  refine wp_region_tree T [] (.pure 0 (.take 1 (.alt 2 (.pure 3 (.alt 4 (.pure 5 .fin) .stop)) .stop))) (by kernel_rfl) (by kernel_rfl) ?_
  refine tree_pure ?_ rfl (by rfl) (fun w' hs => ?_) (fun _ _ _ h => h) ?_
  rotate_left
  · clear hs
    go_simp
    try rfl
  simp only [Act.put, tsa, tsb, tsc]
  refine tree_take ?_ t0 rfl (by rfl) (fun w' hs => ?_) (fun _ _ _ h => h) ?_
  rotate_left
  · rw [HT.out] at hs
    go_simp
    try rfl
  simp only [Act.put, tsa, tsb, tsc]
  refine tree_run rfl (fun K hK => ?_)
  go_simp
  refine (evm_table _).mono ?_
  rintro e w2 ⟨tb, rfl, hrel⟩
  obtain ⟨tab, htab, hb2, hrun⟩ := runAt_new (sb := sb) (cx := cx) HST.out.lows HB1.out.drew hrel
  have t2 : T w2 := HTB.out _ _ t0 hb2
  have HTAB := Lib.hid htab
  have HB2 := Lib.hid hb2
  have HRUN := Lib.hid hrun
  have hbuild := build102 sb tb cx
  clear htab hb2 hrun hrel
  refine hK.out _ _ t2 ?_
  clear hK K
  refine tree_pure ?_ rfl (by rfl) (fun w' hs => ?_) (fun _ _ _ h => h) ?_
  rotate_left
  · clear hs
    go_simp
    try rfl
  simp only [Act.put, tsa, tsb, tsc]
  refine tree_run rfl (fun K hK => ?_)
  go_simp
  have hb3 : Below w2.heap.size w2 (w2.alloc (.cells (cat (runS sb tb cx)).toArray 127)) := (Below.refl _ _).alloc (Nat.le_refl _) _
  have t3 : T (w2.alloc (.cells (cat (runS sb tb cx)).toArray 127)) := HTB.out _ _ t2 hb3
  have HB3 := Lib.hid hb3
  clear hb3
  refine hK.out _ _ t3 ?_
  clear hK K
  refine tree_pure ?_ rfl (by rfl) (fun w' hs => ?_) (fun _ _ _ h => h) ?_
  rotate_left
  · clear hs
    go_simp
    try rfl
  simp only [Act.put, tsa, tsb, tsc]
  refine tree_fin ?_
  have hbb : Below w.heap.size w (w2.alloc (.cells (cat (runS sb tb cx)).toArray 127)) := (HB1.out.drew.trans (HB2.out.mono HB1.out.size)).trans (HB3.out.mono (by have h1 := HB1.out.size; have h2 := HB2.out.size; exact Nat.le_trans h1 h2))
  have g3 := Chg.below own hbb
  generalize w2.alloc (.cells (cat (runS sb tb cx)).toArray 127) = w3 at *
  have hrx := (brow HB3.out).1 w.heap.size 0 129 (Nat.lt_of_lt_of_le (World.row?_lt HR1.out) HB2.out.size)
  have hfx := (brow HB3.out).2 (w.heap.size + 1 + 1) 0 24 (Nat.lt_of_lt_of_le (free?_lt HF1.out) HB2.out.size)
  rw [(brow HB2.out).1 w.heap.size 0 129 (World.row?_lt HR1.out)] at hrx
  rw [(brow HB2.out).2 (w.heap.size + 1 + 1) 0 24 (free?_lt HF1.out)] at hfx
  have r3 : w3.row? w.heap.size 0 129 = some (cat (msgS m dv)) := hrx.trans HR1.out
  have f3 : w3.free? (w.heap.size + 1 + 1) 0 24 = true := hfx.trans HF1.out
  have HMSG := Lib.hid (HMS.out _ _ _ _ HTAB.out (HST.out.below hbb) HRUN.out (HD.out.below hbb))
  have HG3 := Lib.hid g3
  have HF3 := Lib.hid f3
  have HSZ : Hid (w.heap.size + 1 + 1 < w3.heap.size) := free?_lt f3
  clear hrx hfx g3 hbb t0 t2 t3 hbuild f3
  go_wp2_with fail
  refine HMSG.out.mono ?_
  rintro e w5 ⟨o, hF, ov, lv, own4, n4, rfl, st5, g5, oa5, h1⟩
  obtain ⟨oa, ok, lb, lj, rfl, rfl⟩ := oa5.forms
  have hok8 := outS_ok o oa lb o.out.length ok o.logs.length lj
  have hp : own (w.heap.size + 1 + 1) = none := free_own HST.out.lows (by omega)
  have hp4 : own4 (w.heap.size + 1 + 1) = none := by rw [g5.ext _ HSZ.out]; exact hp
  have f10 : w5.free? (w.heap.size + 1 + 1) 0 24 = true := by rw [g5.only.free? HSZ.out (fun hh => hh hp)]; exact HF3.out
  have OA10 := Lib.hid oa5
  have ST5 := Lib.hid st5
  have G5 := Lib.hid g5
  have HP4 := Lib.hid hp4
  have HF := Lib.hid hF
  have HN4 := Lib.hid h1
  clear st5 g5 oa5 h1 hp hp4 r3 hF
  go_wp2
  refine ret_row ty46 rfl _ rfl rfl f10 hok8 ?_
  have ob : Only (· = w.heap.size + 1 + 1) w5 (w5.setCells (w.heap.size + 1 + 1) 0 (cat (outS o (.slice oa o.out.length ok) (.slice lb o.logs.length lj)))) := Only.setCells (S := fun b => b = w.heap.size + 1 + 1) (Only.refl _ _) (fun _ => rfl) _ _
  have g6 := HG3.out.trans G5.out
  exact ⟨o, HF.out, _, _, own4, n4, rfl, ST5.out.only ob (fun b hb => by rw [hb]; exact HP4.out), ⟨g6.ext, g6.only.trans ob (fun i hi he => by have : i = w.heap.size + 1 + 1 := hi; omega)⟩, (OA10.out.box HSZ.out ob).mono (by have := HSZ.out; omega), HN4.out⟩
end Go.Proofs.YtikiciojfhfagaaGreat
