/-
  The machine: an account that is there already is not made: create.
  The machine: a message that makes by a salt, and Run, told of what create comes to.
  The reference's machine: what a message comes to.
  The reference's machine: a frame is made.
  The reference's machine: Run's boxes; a frame ahead of its run.
  The reference's machine: Run of a message that calls.
  The reference's machine: Run of a message that calls, where nothing fails.
-/
import Derived.Test.YtfflppedbopdpaaGreatQRf1
import Derived.Test.YtfflppedbopdpaaGreatQEv9
set_option linter.unusedVariables false
set_option maxRecDepth 1000000
set_option maxHeartbeats 8000000
set_option linter.unusedSimpArgs false
namespace Go.Proofs.YtfflppedbopdpaaGreat
open Go.RowKit Go.Mun

theorem evm_create_clash1 {w : World} {own : Go.Mun.Own} {sb rb tb : Nat} {cx : Ctx} {tab : Tabl} {S : St} {M : List (Nat × St)} {n N A nc : Nat} {m : Msg} {da : Option Addr} {dc : Nat}
  (h : RunCx w own sb rb tb cx tab S M n N) (hm : MsgOk m) (hk : m.kind = 4) (hd : RoAt w (fun b => own b ≠ none) (.slice da m.data.length dc) m.data) (hn : n + 5 ≤ N) (hN1 : N + 1 ≤ 1099511627776)
  (hnc : nc = (S m.frm).nonce) (hncl : nc < 4611686018427387904) (hA : A = adr2Q m.frm m.salt m.data) (hx : ((S.setNonce m.frm (nc + 1)) A).nonce ≠ 0) :
  Calls Tryz.prog 159 #[.pointer (some ⟨rb, 0, none⟩), .agg (cat (msgS m (.slice da m.data.length dc))).toArray] w fun e w' => ∃ o : Outc, o = ⟨0, 18, [], [], 0⟩ ∧ RunP4 w own sb (S.setNonce m.frm (nc + 1)) M N o e w' := by
 have hml := msgS_len m (.slice da m.data.length dc)
 obtain ⟨dv, hdv⟩ : ∃ dv, dv = Value.slice da m.data.length dc := ⟨_, rfl⟩
 obtain ⟨⟨da', dc', edv, hdi, _⟩, hdb, _⟩ := id hd
 cases edv
 have HDI := Lib.hid (And.intro hdi hdb)
 rw [← hdv] at hml hd ⊢
 obtain ⟨w1, e1⟩ : ∃ w1, w1 = (w.alloc (.cells (cat (msgS m dv)).toArray 37)).alloc (.cells (cat zs46).toArray 41) := ⟨_, rfl⟩
 have t1 := crQ_new (m := m) h.st h.run hd
 rw [← e1] at t1
 have H1 := Lib.hid (t1.below (Below.refl _ _).drew)
 have HE := Lib.hid e1
 have HZ := Lib.hid hx
 have HNC := Lib.hid hnc
 have HA := Lib.hid hA
 have hAl : A < wA := by rw [hA]; exact adr2Q_lt _ _ _
 have HAL := Lib.hid hAl
 have HM := Lib.hid hm
 have HN := Lib.hid (And.intro hn hN1)
 have hfl := hm.frm
 have HK := Lib.hid hk
 have HNL := Lib.hid hncl
 have HDV := Lib.hid hdv
 have HAD : Hid (∀ W, Ints W .u8 da dc m.data → Calls Tryz.prog 11 #[.agg (beC 20 m.frm).toArray, .agg (beC 32 m.salt).toArray, dv] W fun e w' => e = .returned (.agg (beC 20 A).toArray) ∧ Below W.heap.size W w') := by
  intro W hI
  rw [hdv, hA]
  exact address2_nat m.frm m.salt m.data da _ dc rfl W hI hdb
 obtain ⟨T, hT⟩ : ∃ T : World → Prop, T = fun W => W.row? w.heap.size 0 129 = some (cat (msgS m dv)) ∧ W.cell? ⟨rb, 0, none⟩ = some (.pointer (some ⟨sb, 0, none⟩)) := ⟨_, rfl⟩
 have HT := Lib.hid hT
 have HTC : Hid (∀ W ow Sx Mx nx, CrQ w own sb rb tb cx tab m dv dv m.data W ow Sx Mx nx → T W) := fun W ow Sx Mx nx hc => by rw [hT]; exact ⟨hc.msg.row, hc.run.sp⟩
 have t0 : T w1.drew := HTC.out _ _ _ _ _ H1.out
 have hadd : IntKind.i64.wrap ((nc : Int) + 1) = ((nc + 1 : Nat) : Int) := by rw [wrI _ (by omega) (by omega)]; omega
 clear h hm hk hd hn hN1 hnc hncl hA hAl hx e1 t1 hT hdi hdb hdv
 go_enter Tryz.func159, Tryz.ntmps159
 go_wp2_with fail
 rw [← HE.out]
 refine wp_region_tree T [] (.pure 0 (.pure 1 (.pure 2 (.take 3 (.pure 4 (.take 5 (.alt 6 (.pure 7 .fin) .stop))))))) (by kernel_rfl) (by kernel_rfl) ?_
 iterate 6
  first
  |refine tree_pure ?_ rfl (by rfl) (fun w' hs => ?_) (fun _ _ _ h => h) ?_
   rotate_left
   ·clear hs
    go_simp
    try rfl
   simp only [Act.put, tsa, tsb, tsc]
  |refine tree_take ?_ t0 rfl (by rfl) (fun w' hs => ?_) (fun _ _ _ h => h) ?_
   rotate_left
   ·rw [HT.out] at hs
    obtain ⟨k0, k1⟩ := hs; have k2 := msg_frm k0; simp only [Nat.zero_add] at k2
    go_simp
    try rfl
   simp only [Act.put, tsa, tsb, tsc]
 refine tree_run rfl (fun K hK => ?_)
 go_simp
 have hc := st_nonce H1.out.st m.frm hfl
 rw [← HNC.out] at hc
 refine hc.mono ?_
 rintro e w2 ⟨rfl, hb⟩
 have H2 := Lib.hid (H1.out.below hb)
 have t2 : T w2 := HTC.out _ _ _ _ _ H2.out
 clear hb hc
 refine hK.out _ _ t2 ?_
 clear hK K
 refine tree_pure ?_ rfl (by rfl) (fun w' hs => ?_) (fun _ _ _ h => h) ?_
 rotate_left
 ·clear hs
  go_simp
  try rfl
 simp only [Act.put, tsa, tsb, tsc]
 refine tree_fin ?_
 clear t0 t2
 go_wp2_with fail
 have H2d := Lib.hid (H2.out.below (Below.refl _ _).drew)
 have t2 : T w2.drew := HTC.out _ _ _ _ _ H2d.out
 refine wp_region_tree T [] (.pure 0 (.pure 1 (.pure 2 (.take 3 (.pure 4 (.take 5 (.pure 6 (.pure 7 (.alt 8 .fin .stop))))))))) (by kernel_rfl) (by kernel_rfl) ?_
 iterate 7
  first
  |refine tree_pure ?_ rfl (by rfl) (fun w' hs => ?_) (fun _ _ _ h => h) ?_
   rotate_left
   ·clear hs
    go_simp
    try rfl
   simp only [Act.put, tsa, tsb, tsc]
  |refine tree_take ?_ t2 rfl (by rfl) (fun w' hs => ?_) (fun _ _ _ h => h) ?_
   rotate_left
   ·rw [HT.out] at hs
    obtain ⟨k0, k1⟩ := hs; have k2 := msg_frm k0; simp only [Nat.zero_add] at k2
    go_simp
    try rfl
   simp only [Act.put, tsa, tsb, tsc]
 refine tree_pure (.int .i64 ((nc + 1 : Nat) : Int)) rfl (by rfl) (fun w' hs => ?_) (fun _ _ _ h => h) ?_
 ·clear hs
  go_simp
 simp only [Act.put, tsa, tsb, tsc]
 refine tree_run rfl (fun K hK => ?_)
 go_simp
 refine (st_setNonce H2d.out.st m.frm (nc + 1) hfl (by have := HNL.out; omega) (by have := HN.out; omega)).mono ?_
 rintro e w3 ⟨rfl, own3, st3, g3⟩
 have H3 := Lib.hid (H2d.out.go st3 g3)
 have t3 : T w3 := HTC.out _ _ _ _ _ H3.out
 clear st3 g3
 refine hK.out _ _ t3 ?_
 clear hK K
 refine tree_fin ?_
 clear t2 t3
 have ck := msg_kind H3.out.msg.row
 have cf := msg_frm H3.out.msg.row
 have cs := msg_salt H3.out.msg.row
 have cd := msg_data H3.out.msg.row
 rw [Nat.zero_add] at ck
 rw [HK.out] at ck
 simp only [Nat.zero_add] at cf cs cd
 have HI3 : Hid (Ints w3 .u8 da dc m.data) := by
   have h1 := H3.out.data
   rw [HDV.out] at h1
   obtain ⟨⟨a', c', e', i', _⟩, _, _⟩ := h1
   cases e'
   exact i'
 go_wp2_with fail
 refine (HAD.out _ HI3.out).mono ?_
 rintro e w4 ⟨rfl, hb4⟩
 have H4 := Lib.hid (H3.out.below hb4)
 have f21 := World.free?_sub H4.out.msg.free (o' := 21) (n' := 20) (by omega)
 have hok4 := beC_ok 20 A
 have hl4 := beC_len 20 A
 obtain ⟨w5, e5⟩ : ∃ w5, w5 = w4.setCells w.heap.size 21 (beC 20 A) := ⟨_, rfl⟩
 have ho5 : Only (· = w.heap.size) w4 w5 := by rw [e5]; exact (Only.refl (· = w.heap.size) _).setCells (fun _ => rfl) _ _
 have hA5 : Arr w5 w.heap.size 129 (cat (msgS { m with to := A } dv)) := by
   rw [e5, ← msgS_toQ]
   exact ⟨row_cat_set H4.out.msg.row (i := 2) (s := beC 20 m.to) rfl (by simp) (by simp [msgS, offOf_succ, offOf_zero]), by rw [World.free?_setCells']; exact H4.out.msg.free⟩
 have H5 := Lib.hid (H4.out.turn ho5 hA5)
 have HE5 := Lib.hid e5
 clear hb4 e5 ho5 hA5 ck cf cs cd
 go_wp2_with fail
 rw [← HE5.out]
 clear f21
 obtain ⟨m1, hm1⟩ : ∃ m1, m1 = { m with to := A } := ⟨_, rfl⟩
 rw [← hm1] at H5
 have hto1 : m1.to = A := by rw [hm1]
 have HTO := Lib.hid hto1
 clear HTC HT T
 obtain ⟨T, hT⟩ : ∃ T : World → Prop, T = fun W => W.row? w.heap.size 0 129 = some (cat (msgS m1 dv)) ∧ W.cell? ⟨rb, 0, none⟩ = some (.pointer (some ⟨sb, 0, none⟩)) := ⟨_, rfl⟩
 have HT := Lib.hid hT
 have HTC : Hid (∀ W ow Sx Mx nx, CrQ w own sb rb tb cx tab m1 dv dv m.data W ow Sx Mx nx → T W) := fun W ow Sx Mx nx hc => by rw [hT]; exact ⟨hc.msg.row, hc.run.sp⟩
 have H5d := Lib.hid (H5.out.below (Below.refl _ _).drew)
 have t5 : T w5.drew := HTC.out _ _ _ _ _ H5d.out
 clear hT hm1 hto1
 obtain ⟨x, hx⟩ : ∃ x, x = ((S.setNonce m.frm (nc + 1)) A).nonce := ⟨_, rfl⟩
 have hx0 : x ≠ 0 := by rw [hx]; exact HZ.out
 have hxb : ((x : Int) != 0) = true := by simp; omega
 have hxe : (x = 0) = False := eq_false hx0
 have hxi : decide ((x : Int) = 0) = false := decide_eq_false (by omega)
 have HXX := Lib.hid hx
 have HX0 := Lib.hid hx0
 clear hx hx0
 refine wp_region_tree T [] (.pure 0 (.pure 1 (.pure 2 (.take 3 (.pure 4 (.take 5 (.alt 6 (.pure 7 (.pure 8 (.take 9 (.take 10 (.take 11 (.take 12 (.take 13 (.take 14 (.take 15 (.take 16 (.take 17 (.pure 18 .fin)))))))))))) .stop))))))) (by kernel_rfl) (by kernel_rfl) ?_
 iterate 6
  first
  |refine tree_pure ?_ rfl (by rfl) (fun w' hs => ?_) (fun _ _ _ h => h) ?_
   rotate_left
   ·clear hs
    go_simp
    try rfl
   simp only [Act.put, tsa, tsb, tsc]
  |refine tree_take ?_ t5 rfl (by rfl) (fun w' hs => ?_) (fun _ _ _ h => h) ?_
   rotate_left
   ·rw [HT.out] at hs
    obtain ⟨k0, k1⟩ := hs; have k2 := msg_to k0; simp only [Nat.zero_add] at k2; rw [HTO.out] at k2
    go_simp
    try rfl
   simp only [Act.put, tsa, tsb, tsc]
 refine tree_run rfl (fun K hK => ?_)
 go_simp
 have hc := st_nonce H5d.out.st A HAL.out
 rw [← HXX.out] at hc
 refine hc.mono ?_
 rintro e w6 ⟨rfl, hb⟩
 have H6 := Lib.hid (H5d.out.below hb)
 have t6 : T w6 := HTC.out _ _ _ _ _ H6.out
 clear hb hc
 refine hK.out _ _ t6 ?_
 clear hK K
 refine tree_pure (.bool true) rfl (by rfl) (fun w' hs => ?_) (fun _ _ _ h => h) ?_
 ·clear hs
  go_simp
 simp only [Act.put, tsa, tsb, tsc]
 refine tree_pure ?_ rfl (by rfl) (fun w' hs => ?_) (fun _ _ _ h => h) ?_
 rotate_left
 ·clear hs
  go_simp
  try rfl
 simp only [Act.put, tsa, tsb, tsc]
 iterate 9
  refine tree_skip t6 rfl (by rfl) (fun _ _ _ h => h) ?_
  simp only [Act.put, tsa, tsb, tsc]
 refine tree_pure ?_ rfl (by rfl) (fun w' hs => ?_) (fun _ _ _ h => h) ?_
 rotate_left
 ·clear hs
  go_simp
  try rfl
 simp only [Act.put, tsa, tsb, tsc]
 refine tree_fin ?_
 clear t5 t6
 go_wp2_with fail
 refine (evm_failed 0 18 _).mono ?_
 rintro e w9 ⟨rfl, hb9⟩
 have H9 := Lib.hid (H6.out.below hb9)
 have f9 := H9.out.res
 have hok := outS_ok ⟨0, 18, [], [], 0⟩ none none 0 0 0 0
 clear hb9
 go_wp2
 refine ret_row ty46 rfl _ rfl rfl f9 hok ?_
 have ob : Only (· = w.heap.size + 1) w9 (w9.setCells (w.heap.size + 1) 0 (cat (outS ⟨0, 18, [], [], 0⟩ (.slice none 0 0) (.slice none 0 0)))) := (Only.refl (· = w.heap.size + 1) _).setCells (fun _ => rfl) _ _
 exact ⟨_, rfl, _, _, own3, _, rfl, H9.out.st.only ob (fun b hb => by rw [hb]; exact H9.out.o2), ⟨H9.out.chg.ext, H9.out.chg.only.trans ob (fun i hi he => by have : i = w.heap.size + 1 := hi; omega)⟩, ⟨roAt_nil _ _, ⟨[], ⟨World.ownsRow_nil _ _ _ _, .nil⟩⟩, fun g hg => by simp [Value.ownBlock] at hg⟩, by have := HN.out; omega⟩
theorem evm_create_clash2 {w : World} {own : Go.Mun.Own} {sb rb tb : Nat} {cx : Ctx} {tab : Tabl} {S : St} {M : List (Nat × St)} {n N A nc : Nat} {m : Msg} {da : Option Addr} {dc : Nat}
  (h : RunCx w own sb rb tb cx tab S M n N) (hm : MsgOk m) (hk : m.kind = 4) (hd : RoAt w (fun b => own b ≠ none) (.slice da m.data.length dc) m.data) (hn : n + 5 ≤ N) (hN1 : N + 1 ≤ 1099511627776)
  (hnc : nc = (S m.frm).nonce) (hncl : nc < 4611686018427387904) (hA : A = adr2Q m.frm m.salt m.data) (hx : ((S.setNonce m.frm (nc + 1)) A).nonce = 0 ∧ ((S.setNonce m.frm (nc + 1)) A).code ≠ []) :
  Calls Tryz.prog 159 #[.pointer (some ⟨rb, 0, none⟩), .agg (cat (msgS m (.slice da m.data.length dc))).toArray] w fun e w' => ∃ o : Outc, o = ⟨0, 18, [], [], 0⟩ ∧ RunP4 w own sb (S.setNonce m.frm (nc + 1)) M N o e w' := by
 have hml := msgS_len m (.slice da m.data.length dc)
 obtain ⟨dv, hdv⟩ : ∃ dv, dv = Value.slice da m.data.length dc := ⟨_, rfl⟩
 obtain ⟨⟨da', dc', edv, hdi, _⟩, hdb, _⟩ := id hd
 cases edv
 have HDI := Lib.hid (And.intro hdi hdb)
 rw [← hdv] at hml hd ⊢
 obtain ⟨w1, e1⟩ : ∃ w1, w1 = (w.alloc (.cells (cat (msgS m dv)).toArray 37)).alloc (.cells (cat zs46).toArray 41) := ⟨_, rfl⟩
 have t1 := crQ_new (m := m) h.st h.run hd
 rw [← e1] at t1
 have H1 := Lib.hid (t1.below (Below.refl _ _).drew)
 have HE := Lib.hid e1
 have HZ := Lib.hid hx
 have HNC := Lib.hid hnc
 have HA := Lib.hid hA
 have hAl : A < wA := by rw [hA]; exact adr2Q_lt _ _ _
 have HAL := Lib.hid hAl
 have HM := Lib.hid hm
 have HN := Lib.hid (And.intro hn hN1)
 have hfl := hm.frm
 have HK := Lib.hid hk
 have HNL := Lib.hid hncl
 have HDV := Lib.hid hdv
 have HAD : Hid (∀ W, Ints W .u8 da dc m.data → Calls Tryz.prog 11 #[.agg (beC 20 m.frm).toArray, .agg (beC 32 m.salt).toArray, dv] W fun e w' => e = .returned (.agg (beC 20 A).toArray) ∧ Below W.heap.size W w') := by
  intro W hI
  rw [hdv, hA]
  exact address2_nat m.frm m.salt m.data da _ dc rfl W hI hdb
 obtain ⟨T, hT⟩ : ∃ T : World → Prop, T = fun W => W.row? w.heap.size 0 129 = some (cat (msgS m dv)) ∧ W.cell? ⟨rb, 0, none⟩ = some (.pointer (some ⟨sb, 0, none⟩)) := ⟨_, rfl⟩
 have HT := Lib.hid hT
 have HTC : Hid (∀ W ow Sx Mx nx, CrQ w own sb rb tb cx tab m dv dv m.data W ow Sx Mx nx → T W) := fun W ow Sx Mx nx hc => by rw [hT]; exact ⟨hc.msg.row, hc.run.sp⟩
 have t0 : T w1.drew := HTC.out _ _ _ _ _ H1.out
 have hadd : IntKind.i64.wrap ((nc : Int) + 1) = ((nc + 1 : Nat) : Int) := by rw [wrI _ (by omega) (by omega)]; omega
 clear h hm hk hd hn hN1 hnc hncl hA hAl hx e1 t1 hT hdi hdb hdv
 go_enter Tryz.func159, Tryz.ntmps159
 go_wp2_with fail
 rw [← HE.out]
 refine wp_region_tree T [] (.pure 0 (.pure 1 (.pure 2 (.take 3 (.pure 4 (.take 5 (.alt 6 (.pure 7 .fin) .stop))))))) (by kernel_rfl) (by kernel_rfl) ?_
 iterate 6
  first
  |refine tree_pure ?_ rfl (by rfl) (fun w' hs => ?_) (fun _ _ _ h => h) ?_
   rotate_left
   ·clear hs
    go_simp
    try rfl
   simp only [Act.put, tsa, tsb, tsc]
  |refine tree_take ?_ t0 rfl (by rfl) (fun w' hs => ?_) (fun _ _ _ h => h) ?_
   rotate_left
   ·rw [HT.out] at hs
    obtain ⟨k0, k1⟩ := hs; have k2 := msg_frm k0; simp only [Nat.zero_add] at k2
    go_simp
    try rfl
   simp only [Act.put, tsa, tsb, tsc]
 refine tree_run rfl (fun K hK => ?_)
 go_simp
 have hc := st_nonce H1.out.st m.frm hfl
 rw [← HNC.out] at hc
 refine hc.mono ?_
 rintro e w2 ⟨rfl, hb⟩
 have H2 := Lib.hid (H1.out.below hb)
 have t2 : T w2 := HTC.out _ _ _ _ _ H2.out
 clear hb hc
 refine hK.out _ _ t2 ?_
 clear hK K
 refine tree_pure ?_ rfl (by rfl) (fun w' hs => ?_) (fun _ _ _ h => h) ?_
 rotate_left
 ·clear hs
  go_simp
  try rfl
 simp only [Act.put, tsa, tsb, tsc]
 refine tree_fin ?_
 clear t0 t2
 go_wp2_with fail
 have H2d := Lib.hid (H2.out.below (Below.refl _ _).drew)
 have t2 : T w2.drew := HTC.out _ _ _ _ _ H2d.out
 refine wp_region_tree T [] (.pure 0 (.pure 1 (.pure 2 (.take 3 (.pure 4 (.take 5 (.pure 6 (.pure 7 (.alt 8 .fin .stop))))))))) (by kernel_rfl) (by kernel_rfl) ?_
 iterate 7
  first
  |refine tree_pure ?_ rfl (by rfl) (fun w' hs => ?_) (fun _ _ _ h => h) ?_
   rotate_left
   ·clear hs
    go_simp
    try rfl
   simp only [Act.put, tsa, tsb, tsc]
  |refine tree_take ?_ t2 rfl (by rfl) (fun w' hs => ?_) (fun _ _ _ h => h) ?_
   rotate_left
   ·rw [HT.out] at hs
    obtain ⟨k0, k1⟩ := hs; have k2 := msg_frm k0; simp only [Nat.zero_add] at k2
    go_simp
    try rfl
   simp only [Act.put, tsa, tsb, tsc]
 refine tree_pure (.int .i64 ((nc + 1 : Nat) : Int)) rfl (by rfl) (fun w' hs => ?_) (fun _ _ _ h => h) ?_
 ·clear hs
  go_simp
 simp only [Act.put, tsa, tsb, tsc]
 refine tree_run rfl (fun K hK => ?_)
 go_simp
 refine (st_setNonce H2d.out.st m.frm (nc + 1) hfl (by have := HNL.out; omega) (by have := HN.out; omega)).mono ?_
 rintro e w3 ⟨rfl, own3, st3, g3⟩
 have H3 := Lib.hid (H2d.out.go st3 g3)
 have t3 : T w3 := HTC.out _ _ _ _ _ H3.out
 clear st3 g3
 refine hK.out _ _ t3 ?_
 clear hK K
 refine tree_fin ?_
 clear t2 t3
 have ck := msg_kind H3.out.msg.row
 have cf := msg_frm H3.out.msg.row
 have cs := msg_salt H3.out.msg.row
 have cd := msg_data H3.out.msg.row
 rw [Nat.zero_add] at ck
 rw [HK.out] at ck
 simp only [Nat.zero_add] at cf cs cd
 have HI3 : Hid (Ints w3 .u8 da dc m.data) := by
   have h1 := H3.out.data
   rw [HDV.out] at h1
   obtain ⟨⟨a', c', e', i', _⟩, _, _⟩ := h1
   cases e'
   exact i'
 go_wp2_with fail
 refine (HAD.out _ HI3.out).mono ?_
 rintro e w4 ⟨rfl, hb4⟩
 have H4 := Lib.hid (H3.out.below hb4)
 have f21 := World.free?_sub H4.out.msg.free (o' := 21) (n' := 20) (by omega)
 have hok4 := beC_ok 20 A
 have hl4 := beC_len 20 A
 obtain ⟨w5, e5⟩ : ∃ w5, w5 = w4.setCells w.heap.size 21 (beC 20 A) := ⟨_, rfl⟩
 have ho5 : Only (· = w.heap.size) w4 w5 := by rw [e5]; exact (Only.refl (· = w.heap.size) _).setCells (fun _ => rfl) _ _
 have hA5 : Arr w5 w.heap.size 129 (cat (msgS { m with to := A } dv)) := by
   rw [e5, ← msgS_toQ]
   exact ⟨row_cat_set H4.out.msg.row (i := 2) (s := beC 20 m.to) rfl (by simp) (by simp [msgS, offOf_succ, offOf_zero]), by rw [World.free?_setCells']; exact H4.out.msg.free⟩
 have H5 := Lib.hid (H4.out.turn ho5 hA5)
 have HE5 := Lib.hid e5
 clear hb4 e5 ho5 hA5 ck cf cs cd
 go_wp2_with fail
 rw [← HE5.out]
 clear f21
 obtain ⟨m1, hm1⟩ : ∃ m1, m1 = { m with to := A } := ⟨_, rfl⟩
 rw [← hm1] at H5
 have hto1 : m1.to = A := by rw [hm1]
 have HTO := Lib.hid hto1
 clear HTC HT T
 obtain ⟨T, hT⟩ : ∃ T : World → Prop, T = fun W => W.row? w.heap.size 0 129 = some (cat (msgS m1 dv)) ∧ W.cell? ⟨rb, 0, none⟩ = some (.pointer (some ⟨sb, 0, none⟩)) := ⟨_, rfl⟩
 have HT := Lib.hid hT
 have HTC : Hid (∀ W ow Sx Mx nx, CrQ w own sb rb tb cx tab m1 dv dv m.data W ow Sx Mx nx → T W) := fun W ow Sx Mx nx hc => by rw [hT]; exact ⟨hc.msg.row, hc.run.sp⟩
 have H5d := Lib.hid (H5.out.below (Below.refl _ _).drew)
 have t5 : T w5.drew := HTC.out _ _ _ _ _ H5d.out
 clear hT hm1 hto1
 obtain ⟨k, hk⟩ : ∃ k, k = ((S.setNonce m.frm (nc + 1)) A).code.length := ⟨_, rfl⟩
 have hk0 : 0 < k := by rw [hk]; exact List.length_pos_iff.2 HZ.out.2
 have hkd : decide ((0 : Int) < (k : Int)) = true := decide_eq_true (by omega)
 have hkn : (0 < k) = True := eq_true hk0
 have HKK := Lib.hid hk
 have HK0 := Lib.hid hk0
 clear hk hk0
 refine wp_region_tree T [] (.pure 0 (.pure 1 (.pure 2 (.take 3 (.pure 4 (.take 5 (.alt 6 (.pure 7 (.pure 8 (.pure 9 (.pure 10 (.pure 11 (.take 12 (.pure 13 (.take 14 (.alt 15 (.pure 16 (.pure 17 (.pure 18 .fin))) .stop))))))))) .stop))))))) (by kernel_rfl) (by kernel_rfl) ?_
 iterate 6
  first
  |refine tree_pure ?_ rfl (by rfl) (fun w' hs => ?_) (fun _ _ _ h => h) ?_
   rotate_left
   ·clear hs
    go_simp
    try rfl
   simp only [Act.put, tsa, tsb, tsc]
  |refine tree_take ?_ t5 rfl (by rfl) (fun w' hs => ?_) (fun _ _ _ h => h) ?_
   rotate_left
   ·rw [HT.out] at hs
    obtain ⟨k0, k1⟩ := hs; have k2 := msg_to k0; simp only [Nat.zero_add] at k2; rw [HTO.out] at k2
    go_simp
    try rfl
   simp only [Act.put, tsa, tsb, tsc]
 refine tree_run rfl (fun K hK => ?_)
 go_simp
 have hc := st_nonce H5d.out.st A HAL.out
 rw [HZ.out.1] at hc
 refine hc.mono ?_
 rintro e w6 ⟨rfl, hb⟩
 have H6 := Lib.hid (H5d.out.below hb)
 have t6 : T w6 := HTC.out _ _ _ _ _ H6.out
 clear hb hc
 refine hK.out _ _ t6 ?_
 clear hK K
 iterate 8
  first
  |refine tree_pure ?_ rfl (by rfl) (fun w' hs => ?_) (fun _ _ _ h => h) ?_
   rotate_left
   ·clear hs
    go_simp
    try rfl
   simp only [Act.put, tsa, tsb, tsc]
  |refine tree_take ?_ t6 rfl (by rfl) (fun w' hs => ?_) (fun _ _ _ h => h) ?_
   rotate_left
   ·rw [HT.out] at hs
    obtain ⟨k0, k1⟩ := hs; have k2 := msg_to k0; simp only [Nat.zero_add] at k2; rw [HTO.out] at k2
    go_simp
    try rfl
   simp only [Act.put, tsa, tsb, tsc]
 refine tree_run rfl (fun K hK => ?_)
 go_simp
 refine (st_code H6.out.st A HAL.out).mono ?_
 rintro e w7 ⟨v7, rfl, hnb⟩
 have H7 := Lib.hid (H6.out.below hnb.below)
 have t7 : T w7 := HTC.out _ _ _ _ _ H7.out
 obtain ⟨⟨a7, c7, hv7, _, _⟩, _⟩ := hnb
 rw [← HKK.out] at hv7
 subst hv7
 refine hK.out _ _ t7 ?_
 clear hK K
 iterate 3
  refine tree_pure ?_ rfl (by rfl) (fun w' hs => ?_) (fun _ _ _ h => h) ?_
  rotate_left
  ·clear hs
   go_simp
   try rfl
  simp only [Act.put, tsa, tsb, tsc]
 refine tree_fin ?_
 clear t5 t6 t7
 go_wp2_with fail
 refine (evm_failed 0 18 _).mono ?_
 rintro e w9 ⟨rfl, hb9⟩
 have H9 := Lib.hid (H7.out.below hb9)
 have f9 := H9.out.res
 have hok := outS_ok ⟨0, 18, [], [], 0⟩ none none 0 0 0 0
 clear hb9
 go_wp2
 refine ret_row ty46 rfl _ rfl rfl f9 hok ?_
 have ob : Only (· = w.heap.size + 1) w9 (w9.setCells (w.heap.size + 1) 0 (cat (outS ⟨0, 18, [], [], 0⟩ (.slice none 0 0) (.slice none 0 0)))) := (Only.refl (· = w.heap.size + 1) _).setCells (fun _ => rfl) _ _
 exact ⟨_, rfl, _, _, own3, _, rfl, H9.out.st.only ob (fun b hb => by rw [hb]; exact H9.out.o2), ⟨H9.out.chg.ext, H9.out.chg.only.trans ob (fun i hi he => by have : i = w.heap.size + 1 := hi; omega)⟩, ⟨roAt_nil _ _, ⟨[], ⟨World.ownsRow_nil _ _ _ _, .nil⟩⟩, fun g hg => by simp [Value.ownBlock] at hg⟩, by have := HN.out; omega⟩
theorem may_make4 {w : World} {own : Go.Mun.Own} {sb rb tb : Nat} {cx : Ctx} {tab : Tabl} {S : St} {M : List (Nat × St)} {n : Nat} {m : Msg} {dv : Value} (hst : StateAt TU w own sb S M n) (hr : RunAt w own sb rb tb cx tab) (hm : MsgOk m) (hk : m.kind = 4) (hd : m.depth ≤ 64) (hv : ¬ (S m.frm).bal < m.value) (hnc : (S m.frm).nonce < 4611686018427387904) :
  Calls Tryz.prog 156 #[.pointer (some ⟨rb, 0, none⟩), .agg (cat (msgS m dv)).toArray] w fun e w' => e = .returned (.int .i64 0) ∧ Below w.heap.size w w' := by
 have hml := msgS_len m dv
 obtain ⟨w1, e1⟩ : ∃ w1, w1 = w.alloc (.cells (cat (msgS m dv)).toArray 37) := ⟨_, rfl⟩
 have hb1 : Below w.heap.size w w1 := by rw [e1]; exact (Below.refl _ _).alloc (Nat.le_refl _) _
 have hr1 : w1.row? w.heap.size 0 129 = some (cat (msgS m dv)) := by rw [e1]; exact World.row?_alloc_at _ _ _ rfl hml
 have t0 : MayT w w1 own sb rb S M n m dv := ⟨hr1, (hr.chg (Chg.below own hb1)).sp, hst.below hb1, hb1⟩
 have hbb := hst.bal m.frm
 have c0 : (cat (msgS m dv))[0]'(by rw [hml]; omega) = .int .i64 m.kind := rfl
 have HT0 := Lib.hid t0
 have HE := Lib.hid e1
 have hfa := hm.frm
 have hva := hm.value
 rw [hk] at c0
 have HM : Hid (∀ w, Calls Tryz.prog 158 #[.agg (cat (msgS m dv)).toArray] w fun e w' => e = .returned (.bool true) ∧ Below w.heap.size w w') := fun w => by have := evm_makes m dv w; rw [show decide (m.kind = 3 ∨ m.kind = 4) = true by rw [hk]; decide] at this; exact this
 have r1 := hr1
 rw [e1] at r1
 have HK := Lib.hid hk
 clear hst hr e1 hb1 hr1 hm hk
 obtain ⟨T, hT⟩ : ∃ T : World → Prop, T = fun w' => MayT w w' own sb rb S M n m dv := ⟨_, rfl⟩
 have HT := Lib.hid hT
 have HTB : Hid (∀ w2 w3, T w2 → Below w2.heap.size w2 w3 → T w3) := by show ∀ w2 w3, T w2 → Below w2.heap.size w2 w3 → T w3; rw [hT]; intro w2 w3 h hb; exact h.next hb
 have HTS : Hid (∀ w2, T w2 → StateAt TU w2 own sb S M n) := by show ∀ w2, T w2 → StateAt TU w2 own sb S M n; rw [hT]; intro w2 h; exact h.st
 have HTG : Hid (∀ w2, T w2 → MayT w w2 own sb rb S M n m dv) := by show ∀ w2, T w2 → MayT w w2 own sb rb S M n m dv; rw [hT]; intro w2 h; exact h
 have tt : T w1 := by rw [hT]; exact HT0.out
 clear hT t0 HT0
 have hdI : decide ((64 : Int) < m.depth) = false := decide_eq_false (by omega)
 have hcn : ¬ cmpN (S m.frm).bal m.value < 0 := cmpN_ge hv
 have hdc : decide (cmpN (S m.frm).bal m.value < 0) = false := decide_eq_false hcn
 have hdn : decide ((4611686018427387904 : Int) ≤ ((S m.frm).nonce : Int)) = false := decide_eq_false (by omega)
 clear hnc hcn hv hd
 go_enter Tryz.func156, Tryz.ntmps156
 go_wp2_with fail
 rw [← HE.out]
 refine (HM.out _).mono ?_
 rintro e w2 ⟨rfl, hb⟩
 have t2 : T w2 := HTB.out _ _ tt hb
 have m2 := HTG.out _ t2
 have ck := msg_kind m2.row
 have cd := msg_depth m2.row
 rw [HK.out] at ck
 simp only [Nat.zero_add] at ck cd
 clear hb m2 tt r1 c0
 go_wp2_with fail
 have t3 : T w2.drew := HTB.out _ _ t2 (Below.refl _ _).drew
 clear ck cd t2
 refine wp_region_tree T [] (.pure 0 (.pure 1 (.pure 2 (.pure 3 (.pure 4 (.take 5 (.pure 6 (.take 7 (.pure 9 (.take 10 (.alt 8 (.alt 11 (.pure 12 (.pure 13 (.pure 14 .fin))) .stop) .stop))))))))))) (by kernel_rfl) (by kernel_rfl) ?_
 iterate 10
  first
  |refine tree_pure ?_ rfl (by rfl) (fun w' hs => ?_) (fun _ _ _ h => h) ?_
   rotate_left
   ·clear hs
    go_simp
    try rfl
   simp only [Act.put, tsa, tsb, tsc]
  |refine tree_take ?_ t3 rfl (by rfl) (fun w' hs => ?_) (fun _ _ _ h => h) ?_
   rotate_left
   ·rw [HT.out] at hs
    have q0 := hs.sp; have q1 := msg_frm hs.row; have q2 := msg_value hs.row; simp only [Nat.zero_add] at q1 q2
    go_simp
    try rfl
   simp only [Act.put, tsa, tsb, tsc]
 refine tree_run rfl (fun K hK => ?_)
 go_simp
 refine (st_balance (HTS.out _ t3) m.frm hfa).mono ?_
 rintro e w4 ⟨rfl, hb⟩
 have t4 : T w4 := HTB.out _ _ t3 hb
 clear hb t3
 refine hK.out _ _ t4 ?_
 clear hK K
 refine tree_run rfl (fun K hK => ?_)
 go_simp
 refine (word_cmp _ m.value hbb hva _).mono ?_
 rintro e w5 ⟨rfl, hb⟩
 have t5 : T w5 := HTB.out _ _ t4 hb
 clear hb t4
 refine hK.out _ _ t5 ?_
 clear hK K
 iterate 3
  refine tree_pure ?_ rfl (by rfl) (fun w' hs => ?_) (fun _ _ _ h => h) ?_
  rotate_left
  ·clear hs
   go_simp
   try rfl
  simp only [Act.put, tsa, tsb, tsc]
 refine tree_fin ?_
 go_wp2_with fail
 have t6 : T w5.drew := HTB.out _ _ t5 (Below.refl _ _).drew
 clear t5
 refine wp_region_tree T [] (.take 0 (.alt 1 (.pure 2 (.pure 3 (.pure 4 (.pure 5 (.take 6 (.pure 7 (.take 8 (.alt 9 (.pure 10 (.pure 11 (.pure 12 .fin))) .stop)))))))) .stop)) (by kernel_rfl) (by kernel_rfl) ?_
 refine tree_take ?_ t6 rfl (by rfl) (fun w' hs => ?_) (fun _ _ _ h => h) ?_
 rotate_left
 ·rw [HT.out] at hs
  have q0 := hs.sp; have q1 := msg_frm hs.row; have q2 := msg_value hs.row; simp only [Nat.zero_add] at q1 q2; have q3 := hs.row
  go_simp
  try rfl
 simp only [Act.put, tsa, tsb, tsc]
 refine tree_run rfl (fun K hK => ?_)
 go_simp
 refine (HM.out _).mono ?_
 rintro e w7 ⟨rfl, hb⟩
 have t7 : T w7 := HTB.out _ _ t6 hb
 clear hb t6
 refine hK.out _ _ t7 ?_
 clear hK K
 iterate 7
  first
  |refine tree_pure ?_ rfl (by rfl) (fun w' hs => ?_) (fun _ _ _ h => h) ?_
   rotate_left
   ·clear hs
    go_simp
    try rfl
   simp only [Act.put, tsa, tsb, tsc]
  |refine tree_take ?_ t7 rfl (by rfl) (fun w' hs => ?_) (fun _ _ _ h => h) ?_
   rotate_left
   ·rw [HT.out] at hs
    have q0 := hs.sp; have q1 := msg_frm hs.row; have q2 := msg_value hs.row; simp only [Nat.zero_add] at q1 q2; have q3 := hs.row
    go_simp
    try rfl
   simp only [Act.put, tsa, tsb, tsc]
 refine tree_run rfl (fun K hK => ?_)
 go_simp
 refine (st_nonce (HTS.out _ t7) m.frm hfa).mono ?_
 rintro e w8 ⟨rfl, hb⟩
 have t8 : T w8 := HTB.out _ _ t7 hb
 clear hb t7
 refine hK.out _ _ t8 ?_
 clear hK K
 iterate 3
  refine tree_pure ?_ rfl (by rfl) (fun w' hs => ?_) (fun _ _ _ h => h) ?_
  rotate_left
  ·clear hs
   go_simp
   try rfl
  simp only [Act.put, tsa, tsb, tsc]
 refine tree_fin ?_
 go_wp2
 go_ret
 exact ⟨rfl, (HTG.out _ t8).below⟩
theorem message_make4 {w : World} {own : Go.Mun.Own} {sb rb tb : Nat} {cx : Ctx} {tab : Tabl} {S S' : St} {M : List (Nat × St)} {n N : Nat} {m : Msg} {dv : Value} {F : Outc → Prop}
  (hst : StateAt TU w own sb S M n) (hr : RunAt w own sb rb tb cx tab) (hm : MsgOk m) (hk : m.kind = 4) (hg : 0 < m.gas) (hdp : m.depth ≤ 64) (hd : RoAt w (fun b => own b ≠ none) dv m.data) (hv : ¬ (S m.frm).bal < m.value) (hnc : (S m.frm).nonce < 4611686018427387904)
  (hcr : ∀ w1, StateAt TU w1 own sb S M n → RunAt w1 own sb rb tb cx tab → RoAt w1 (fun b => own b ≠ none) dv m.data → Calls Tryz.prog 159 #[.pointer (some ⟨rb, 0, none⟩), .agg (cat (msgS m dv)).toArray] w1 fun e w' => ∃ o, F o ∧ RunP4 w1 own sb S' M N o e w') :
  Calls Tryz.prog 48 #[.pointer (some ⟨rb, 0, none⟩), .agg (cat (msgS m dv)).toArray] w fun e w' => ∃ o, F o ∧ RunP4 w own sb S' M N o e w' := by
 have hml := msgS_len m dv
 have c0 := msgS_gas m dv
 obtain ⟨w1, e1⟩ : ∃ w1, w1 = (w.alloc (.cells (cat (msgS m dv)).toArray 37)).alloc (.cells (cat zs46).toArray 41) := ⟨_, rfl⟩
 have t1 := callT_new (m := m) hst hr hd
 rw [← e1] at t1
 have hf0 : (w.alloc (.cells (cat (msgS m dv)).toArray 37)).free? w.heap.size 126 1 = true := World.free?_alloc_at _ _ rfl (by rw [hml]; omega)
 have HT1 := Lib.hid t1
 have HE1 := Lib.hid e1
 have HMK : Hid (∀ w, Calls Tryz.prog 158 #[.agg (cat (msgS m dv)).toArray] w fun e w' => e = .returned (.bool true) ∧ Below w.heap.size w w') := fun w => by have := evm_makes m dv w; rw [show decide (m.kind = 3 ∨ m.kind = 4) = true by rw [hk]; decide] at this; exact this
 have HCR := Lib.hid hcr
 have hset : (cat (msgS m dv)).set 126 (.int .i64 m.gas) = cat (msgS m dv) := by
  apply List.ext_getElem?
  intro i
  rw [List.getElem?_set]
  by_cases hi : 126 = i
  ·subst hi
   rw [if_pos rfl, if_pos (by rw [hml]; omega), List.getElem?_eq_getElem (by rw [hml]; omega), c0]
  ·rw [if_neg hi]
 have HMAY := Lib.hid (may_make4 t1.st t1.run hm hk hdp hv hnc (dv := dv))
 clear hcr e1 t1 hd hv hdp hst hr hnc
 have hz : ¬ m.gas ≤ 0 := by omega
 have hmax : max (0 : Int) m.gas = m.gas := by omega
 go_enter Tryz.func48, Tryz.ntmps48
 go_wp2_with fail
 rw [← HE1.out]
 refine HMAY.out.mono ?_
 rintro e w3 ⟨rfl, hb3⟩
 have t3 := HT1.out.below hb3
 have r3 := t3.row
 have HT3 := Lib.hid t3
 clear hb3 t3 hset hf0
 go_wp2_with fail
 refine (HMK.out _).mono ?_
 rintro e w4 ⟨rfl, hb4⟩
 have t4 := HT3.out.below hb4
 have r4 := t4.row
 have HT4 := Lib.hid t4
 have HCALL := Lib.hid (HCR.out w4 t4.st t4.run t4.data)
 have HBB : Hid (w.heap.size + 1 < w4.heap.size) := free?_lt t4.res
 clear hb4 t4 r3
 go_wp2_with fail
 refine HCALL.out.mono ?_
 rintro e w5 ⟨o, hF, ov, lv, own4, n4, rfl, st5, g5, oa5, h1⟩
 obtain ⟨oa, ok, lb, lj, rfl, rfl⟩ := oa5.forms
 have hok8 := outS_ok o oa lb o.out.length ok o.logs.length lj
 have H10 := Lib.hid (HT4.out.go g5 st5)
 have f10 := H10.out.res
 have OA10 := Lib.hid oa5
 have HF := Lib.hid hF
 have HN4 := Lib.hid h1
 clear st5 g5 oa5 h1 r4 hF
 go_wp2
 refine ret_row ty46 rfl _ rfl rfl f10 hok8 ?_
 have ob : Only (· = w.heap.size + 1) w5 (w5.setCells (w.heap.size + 1) 0 (cat (outS o (.slice oa o.out.length ok) (.slice lb o.logs.length lj)))) := Only.setCells (S := fun b => b = w.heap.size + 1) (Only.refl _ _) (fun _ => rfl) _ _
 exact ⟨o, HF.out, _, _, own4, n4, rfl, H10.out.st.only ob (fun b hb => by rw [hb]; exact H10.out.o2), ⟨H10.out.chg.ext, H10.out.chg.only.trans ob (fun i hi he => by have : i = w.heap.size + 1 := hi; omega)⟩, (OA10.out.box HBB.out ob).mono (Nat.le_of_lt (Nat.lt_of_succ_lt HBB.out)), HN4.out⟩
attribute [local irreducible] TabRel
theorem run_told4 {w : World} {own : Go.Mun.Own} {sb : Nat} {cx : Ctx} {S S' : St} {M : List (Nat × St)} {n N : Nat} {m : Msg} {dv : Value} {F : Outc → Prop}
  (hst : StateAt TU w own sb S M n) (hd : RoAt w (fun b => own b ≠ none) dv m.data)
  (hms : ∀ w1 rb tb tab, TabOk tab → StateAt TU w1 own sb S M n → RunAt w1 own sb rb tb cx tab → RoAt w1 (fun b => own b ≠ none) dv m.data → Calls Tryz.prog 48 #[.pointer (some ⟨rb, 0, none⟩), .agg (cat (msgS m dv)).toArray] w1 fun e w' => ∃ o, F o ∧ RunP4 w1 own sb S' M N o e w') :
  Calls Tryz.prog 26 #[.pointer (some ⟨sb, 0, none⟩), .agg (cat (msgS m dv)).toArray, .agg (cat (ctxS cx)).toArray] w fun e w' => ∃ o, F o ∧ RunP4 w own sb S' M N o e w' := by
 have hml := msgS_len m dv
 have hcl := ctxS_len cx
 obtain ⟨w1, e1⟩ : ∃ w1, w1 = ((w.alloc (.cells (cat (msgS m dv)).toArray 37)).alloc (.cells (cat (ctxS cx)).toArray 64)).alloc (.cells (cat zs46).toArray 41) := ⟨_, rfl⟩
 have hb1 : Below w.heap.size w w1 := by rw [e1]; exact (((Below.refl _ _).alloc (Nat.le_refl _) _).alloc (by simp) _).alloc (by simp; omega) _
 have r1 : w1.row? w.heap.size 0 129 = some (cat (msgS m dv)) := by rw [e1, World.row?_alloc_lt _ (by simp; omega), World.row?_alloc_lt _ (by simp)]; exact World.row?_alloc_at _ _ _ rfl hml
 have r2 : w1.row? (w.heap.size + 1) 0 43 = some (cat (ctxS cx)) := by rw [e1, World.row?_alloc_lt _ (by simp)]; exact World.row?_alloc_at _ _ _ (by simp) hcl
 have f1 : w1.free? (w.heap.size + 1 + 1) 0 24 = true := by rw [e1]; exact World.free?_alloc_at _ _ (by simp) (by rw [zs46_len]; omega)
 have HST := Lib.hid hst
 have HB1 := Lib.hid hb1
 have HE1 := Lib.hid e1
 have HF1 := Lib.hid f1
 have HR1 := Lib.hid r1
 have HD := Lib.hid hd
 have HMS := Lib.hid hms
 obtain ⟨T, hT⟩ : ∃ T : World → Prop, T = fun w' => w'.row? (w.heap.size + 1) 0 43 = some (cat (ctxS cx)) := ⟨_, rfl⟩
 have HT := Lib.hid hT
 have tb : ∀ w2 w3, T w2 → Below w2.heap.size w2 w3 → T w3 := by rw [hT]; intro w2 w3 h hb; exact ((brow hb).1 _ _ _ (World.row?_lt h)).trans h
 have HTB := Lib.hid tb
 have t0 : T w1.drew := by rw [hT]; exact r2
 clear hst hb1 e1 f1 r1 r2 hd hms hT tb
 go_enter Tryz.func26, Tryz.ntmps26
 go_wp2_with fail
 rw [← HE1.out]
 refine wp_region_tree T [] (.pure 0 (.take 1 (.alt 2 (.pure 3 (.alt 4 (.pure 5 .fin) .stop)) .stop))) (by kernel_rfl) (by kernel_rfl) ?_
 refine tree_pure ?_ rfl (by rfl) (fun w' hs => ?_) (fun _ _ _ h => h) ?_
 rotate_left
 ·clear hs
  go_simp
  try rfl
 simp only [Act.put, tsa, tsb, tsc]
 refine tree_take ?_ t0 rfl (by rfl) (fun w' hs => ?_) (fun _ _ _ h => h) ?_
 rotate_left
 ·rw [HT.out] at hs
  go_simp
  try rfl
 simp only [Act.put, tsa, tsb, tsc]
 refine tree_run rfl (fun K hK => ?_)
 go_simp
 refine (evm_table _).mono ?_
 rintro e w2 ⟨tb, rfl, hrel⟩
 obtain ⟨tab, htab, hb2, hrun⟩ := runAt_new (sb := sb) (cx := cx) HST.out.lows HB1.out.drew hrel
 have t2 : T w2 := HTB.out _ _ t0 hb2
 have HTAB := Lib.hid htab
 have HB2 := Lib.hid hb2
 have HRUN := Lib.hid hrun
 have hbuild := build102 sb tb cx
 clear htab hb2 hrun hrel
 refine hK.out _ _ t2 ?_
 clear hK K
 refine tree_pure ?_ rfl (by rfl) (fun w' hs => ?_) (fun _ _ _ h => h) ?_
 rotate_left
 ·clear hs
  go_simp
  try rfl
 simp only [Act.put, tsa, tsb, tsc]
 refine tree_run rfl (fun K hK => ?_)
 go_simp
 have hb3 : Below w2.heap.size w2 (w2.alloc (.cells (cat (runS sb tb cx)).toArray 103)) := (Below.refl _ _).alloc (Nat.le_refl _) _
 have t3 : T (w2.alloc (.cells (cat (runS sb tb cx)).toArray 103)) := HTB.out _ _ t2 hb3
 have HB3 := Lib.hid hb3
 clear hb3
 refine hK.out _ _ t3 ?_
 clear hK K
 refine tree_pure ?_ rfl (by rfl) (fun w' hs => ?_) (fun _ _ _ h => h) ?_
 rotate_left
 ·clear hs
  go_simp
  try rfl
 simp only [Act.put, tsa, tsb, tsc]
 refine tree_fin ?_
 have hbb : Below w.heap.size w (w2.alloc (.cells (cat (runS sb tb cx)).toArray 103)) := (HB1.out.drew.trans (HB2.out.mono HB1.out.size)).trans (HB3.out.mono (by have h1 := HB1.out.size; have h2 := HB2.out.size; exact Nat.le_trans h1 h2))
 have g3 := Chg.below own hbb
 generalize w2.alloc (.cells (cat (runS sb tb cx)).toArray 103) = w3 at *
 have hrx := (brow HB3.out).1 w.heap.size 0 129 (Nat.lt_of_lt_of_le (World.row?_lt HR1.out) HB2.out.size)
 have hfx := (brow HB3.out).2 (w.heap.size + 1 + 1) 0 24 (Nat.lt_of_lt_of_le (free?_lt HF1.out) HB2.out.size)
 rw [(brow HB2.out).1 w.heap.size 0 129 (World.row?_lt HR1.out)] at hrx
 rw [(brow HB2.out).2 (w.heap.size + 1 + 1) 0 24 (free?_lt HF1.out)] at hfx
 have r3 : w3.row? w.heap.size 0 129 = some (cat (msgS m dv)) := hrx.trans HR1.out
 have f3 : w3.free? (w.heap.size + 1 + 1) 0 24 = true := hfx.trans HF1.out
 have HMSG := Lib.hid (HMS.out _ _ _ _ HTAB.out (HST.out.below hbb) HRUN.out (HD.out.below hbb))
 have HG3 := Lib.hid g3
 have HF3 := Lib.hid f3
 have HSZ : Hid (w.heap.size + 1 + 1 < w3.heap.size) := free?_lt f3
 clear hrx hfx g3 hbb t0 t2 t3 hbuild f3
 go_wp2_with fail
 refine HMSG.out.mono ?_
 rintro e w5 ⟨o, hF, ov, lv, own4, n4, rfl, st5, g5, oa5, h1⟩
 obtain ⟨oa, ok, lb, lj, rfl, rfl⟩ := oa5.forms
 have hok8 := outS_ok o oa lb o.out.length ok o.logs.length lj
 have hp : own (w.heap.size + 1 + 1) = none := free_own HST.out.lows (by omega)
 have hp4 : own4 (w.heap.size + 1 + 1) = none := by rw [g5.ext _ HSZ.out]; exact hp
 have f10 : w5.free? (w.heap.size + 1 + 1) 0 24 = true := by rw [g5.only.free? HSZ.out (fun hh => hh hp)]; exact HF3.out
 have OA10 := Lib.hid oa5
 have ST5 := Lib.hid st5
 have G5 := Lib.hid g5
 have HP4 := Lib.hid hp4
 have HF := Lib.hid hF
 have HN4 := Lib.hid h1
 clear st5 g5 oa5 h1 hp hp4 r3 hF
 go_wp2
 refine ret_row ty46 rfl _ rfl rfl f10 hok8 ?_
 have ob : Only (· = w.heap.size + 1 + 1) w5 (w5.setCells (w.heap.size + 1 + 1) 0 (cat (outS o (.slice oa o.out.length ok) (.slice lb o.logs.length lj)))) := Only.setCells (S := fun b => b = w.heap.size + 1 + 1) (Only.refl _ _) (fun _ => rfl) _ _
 have g6 := HG3.out.trans G5.out
 exact ⟨o, HF.out, _, _, own4, n4, rfl, ST5.out.only ob (fun b hb => by rw [hb]; exact HP4.out), ⟨g6.ext, g6.only.trans ob (fun i hi he => by have : i = w.heap.size + 1 + 1 := hi; omega)⟩, (OA10.out.box HSZ.out ob).mono (by have := HSZ.out; omega), HN4.out⟩
end Go.Proofs.YtfflppedbopdpaaGreat
namespace Go.Proofs.YtfflppedbopdpaaGreat
open Go.RowKit Go.Mun
theorem build46f (g e : Int) : fillL 24 (plOf zs46) (cat zs46) [(0, .int .i64 g), (1, .int .i64 e)] = some (cat (outS ⟨g, e, [], [], 0⟩ (.slice none 0 0) (.slice none 0 0))) := by
 rw [fillL_cats _ _ _ zs46_len]
 ·rfl
 ·rw [lens46]
  exact fits_cons rfl (fits_cons rfl (fits_nil _))
theorem box46 (w : World) : (w.alloc (.cells (cat zs46).toArray 41)).free? w.heap.size 0 24 = true := World.free?_alloc_at _ _ rfl (by rw [zs46_len]; omega)
theorem ref_failed (g x : Int) (w : World) : Calls Tryz.prog 64 #[.int .i64 g, .int .i64 x] w fun e w' => e = .returned (.agg (cat (outS ⟨g, x, [], [], 0⟩ (.slice none 0 0) (.slice none 0 0))).toArray) ∧ Below w.heap.size w w' := by
 have hf := box46 w
 have hbld := build46f g x
 have hok := outS_ok ⟨g, x, [], [], 0⟩ none none 0 0 0 0
 go_enter Tryz.func64, Tryz.ntmps64
 go_wp2
 exact ret_row ty46 rfl _ rfl rfl hf hok ⟨rfl, ((Below.refl _ _).alloc (Nat.le_refl _) _).setCells (Nat.le_refl _) _ _⟩
def tl0 : List Value := infsC (List.replicate 256 infZ)
def zs189 : List (List Value) := [[.pointer none], cat zs42, cat zs49, beC 20 0, [.slice none 0 0], [.slice none 0 0], beC 32 0, [.bool false], [.int .i64 0], [.int .i64 0], [.slice none 0 0], [.slice none 0 0], [.slice none 0 0], [.slice none 0 0], [.slice none 0 0], [.bool false], tl0]
theorem zs189_len : (cat zs189).length = 1516 := by kernel_rfl
theorem sty189 : StructTy Tryz.prog 145 1516 (cat zs189) (plOf zs189) := ⟨⟨_, _, rfl, Tryz.underlying145, by kernel_rfl, by kernel_rfl⟩, zs189_len⟩
theorem bl189 (ρ : Operand → Value) (dst : Option Tmp) (parts : List (Nat × Operand)) (t : TypeId) (pos : String) (after : Array Edge) (gd : Option (Nat × Bool)) (w : World) : (execOp ρ ⟨dst, .build 145 parts.toArray, t, pos, after, gd⟩).run Tryz.prog w = asNext (blRow Tryz.prog 145 (parts.map fun p => (p.1, ρ p.2)) w (fillL 1516 (plOf zs189) (cat zs189) (parts.map fun p => (p.1, ρ p.2)))) := ex_build ρ dst t pos after gd w sty189 parts
attribute [go_sem ↓] bl189
theorem not_hot {own : Go.Mun.Own} {i : Nat} (h : own i = none) : ¬ hot own i := fun h2 => h2.1 h
structure RunB (w : World) (own0 : Go.Mun.Own) (m : Msg) (dv : Value) (cx : Ctx) (W : World) (own : Go.Mun.Own) (sb : Nat) (S : St) (M : List (Nat × St)) (n : Nat) : Prop where
 t4 : W.row? w.heap.size 0 129 = some (cat (msgS m dv))
 t5 : W.row? (w.heap.size + 1) 0 43 = some (cat (ctxS cx))
 t6 : W.free? (w.heap.size + 1 + 1) 0 24 = true
 o4 : own w.heap.size = none
 o5 : own (w.heap.size + 1) = none
 o6 : own (w.heap.size + 1 + 1) = none
 st : RState W own sb S M n
 chg : ChgR w W own0 own
section
variable {w W W' : World} {own0 own own' : Go.Mun.Own} {m : Msg} {dv : Value} {cx : Ctx} {sb n n' : Nat} {S S' : St} {M M' : List (Nat × St)}
theorem RunB.go (h : RunB w own0 m dv cx W own sb S M n) (st : RState W' own' sb S' M' n') (c : ChgR W W' own own') : RunB w own0 m dv cx W' own' sb S' M' n' :=
 ⟨(c.only.row? (World.row?_lt h.t4) (not_hot h.o4)).trans h.t4, (c.only.row? (World.row?_lt h.t5) (not_hot h.o5)).trans h.t5, (c.only.free? (free?_lt h.t6) (not_hot h.o6)).trans h.t6,
  (c.ext _ (World.row?_lt h.t4)).trans h.o4, (c.ext _ (World.row?_lt h.t5)).trans h.o5, (c.ext _ (free?_lt h.t6)).trans h.o6, st, h.chg.trans c⟩
theorem RunB.below (h : RunB w own0 m dv cx W own sb S M n) (hb : Below W.heap.size W W') : RunB w own0 m dv cx W' own sb S M n := h.go (h.st.below hb) (ChgR.below own hb)
theorem RunB.box (h : RunB w own0 m dv cx W own sb S M n) {b : Nat} (hb : w.heap.size + 1 + 1 < b) (ho : own b = none) (h1 : Only (· = b) W W') : RunB w own0 m dv cx W' own sb S M n :=
 ⟨(h1.row? (World.row?_lt h.t4) (by omega)).trans h.t4, (h1.row? (World.row?_lt h.t5) (by omega)).trans h.t5, (h1.free? (free?_lt h.t6) (by omega)).trans h.t6,
  h.o4, h.o5, h.o6, h.st.only h1 (fun c hc => by have e : c = b := hc; rw [e]; exact ho), ⟨h.chg.ext, h.chg.only.trans h1 (fun i hi he => by have : i = b := hi; omega)⟩⟩
theorem RunB.start (h : RState w own sb S M n) : RunB w own m dv cx (((w.alloc (.cells (cat (msgS m dv)).toArray 37)).alloc (.cells (cat (ctxS cx)).toArray 64)).alloc (.cells (cat zs46).toArray 41)) own sb S M n := by
 have hb : Below w.heap.size w (((w.alloc (.cells (cat (msgS m dv)).toArray 37)).alloc (.cells (cat (ctxS cx)).toArray 64)).alloc (.cells (cat zs46).toArray 41)) := (((Below.refl _ _).alloc (Nat.le_refl _) _).alloc (by simp) _).alloc (by simp; omega) _
 refine ⟨?_, ?_, ?_, own_new h (Nat.le_refl _), own_new h (by omega), own_new h (by omega), h.below hb, ChgR.below own hb⟩
 ·rw [World.row?_alloc_lt _ (by simp; omega), World.row?_alloc_lt _ (by simp)]; exact World.row?_alloc_at _ _ _ rfl (msgS_len m dv)
 ·rw [World.row?_alloc_lt _ (by simp)]; exact World.row?_alloc_at _ _ _ (by simp) (ctxS_len cx)
 ·exact World.free?_alloc_at _ _ (by simp) (by rw [zs46_len]; omega)
end
structure FrB (E : REnv) (c : RFV) (f : Fr) (W : World) (own : Go.Mun.Own) : Prop where
 row : W.row? E.fb 0 1516 = some (cat (rfS E c f))
 free : W.free? E.fb 0 1516 = true
 fown : own E.fb = none
 base : E.w0.heap.size ≤ E.fb
 chg : ChgR E.w0 W E.own0 own
section
variable {E : REnv} {c : RFV} {f : Fr} {W W' : World} {own own' : Go.Mun.Own}
theorem FrB.lt (h : FrB E c f W own) : E.fb < W.heap.size := World.row?_lt h.row
theorem FrB.go (h : FrB E c f W own) (g : ChgR W W' own own') : FrB E c f W' own' :=
 ⟨(g.only.row? h.lt (not_hot h.fown)).trans h.row, (g.only.free? h.lt (not_hot h.fown)).trans h.free, (g.ext _ h.lt).trans h.fown, h.base, h.chg.trans g⟩
theorem FrB.code (h : FrB E c f W own) (v : Value) : FrB E { c with code := v } f (W.setCell ⟨E.fb, 193, none⟩ v) own := by
 have ho := only_cell W E.fb 193 v
 refine ⟨rfset_code v h.row, by rw [free?_setCell _ (World.free?_sub h.free (by omega))]; exact h.free, h.fown, h.base, ⟨h.chg.ext, h.chg.only.trans ho (fun i hi he => by have : i = E.fb := hi; have := h.base; omega)⟩⟩
end
def rfv0 (cv dv : Value) : RFV := ⟨cv, dv, .slice none 0 0, .slice none 0 0, .slice none 0 0, .slice none 0 0, .slice none 0 0, .nilFunc, tl0⟩
end Go.Proofs.YtfflppedbopdpaaGreat
namespace Go.Proofs.YtfflppedbopdpaaGreat
open Go.RowKit Go.Mun
theorem _root_.Go.Mun.RState.bal {w : World} {own : Go.Mun.Own} {sb n : Nat} {S : St} {M : List (Nat × St)} (h : RState w own sb S M n) (a : Nat) : (S a).bal < wW := by
 obtain ⟨lv, mv, ps, ms, k, h1, h2, _, hw, _, _⟩ := h
 by_cases e : ∃ x ∈ fsts ps, x.ac.addr = a
 ·obtain ⟨x, hx, rfl⟩ := e
  obtain ⟨p, hp, rfl⟩ := List.mem_map.1 hx
  obtain ⟨i, hi⟩ := List.mem_iff_getElem?.1 hp
  have := rst_some h1.up (i := i) (x := p.1) (by rw [List.getElem?_map, hi]; rfl)
  have e2 : S p.1.ac.addr = p.1.acc := by rw [h2]; exact this
  rw [e2]
  exact (h1.arr.ok p hp).bal
 ·rw [h2, rst_none (fun x hx e2 => e ⟨x, hx, e2⟩)]
  show 0 < wW
  decide
attribute [local irreducible] zs189 tl0
end Go.Proofs.YtfflppedbopdpaaGreat
namespace Go.Proofs.YtfflppedbopdpaaGreat
open Go.RowKit Go.Mun
attribute [local irreducible] zs189 tl0
def RCallEnd (w : World) (own : Go.Mun.Own) (sb : Nat) (S' : St) (N : Nat) (f' : Fr) (e : Ending) (w' : World) : Prop :=
 ∃ oa oc own' M' n', e = .returned (.agg (cat (outS ⟨f'.gas, 0, [], [], 0⟩ (.slice oa f'.out.length oc) (.slice none 0 0))).toArray) ∧ RState w' own' sb S' M' n' ∧ ChgR w w' own own' ∧ n' ≤ N ∧ (f'.out = [] → Ints w' .u8 oa oc f'.out)
end Go.Proofs.YtfflppedbopdpaaGreat
