/-
  The reference's Mark.
  The reference's IsEmpty.
  The reference's SameAccount, SameAccounts: of accounts that are the same.
  The reference's SameAccounts: of what Accounts has told twice.
  The reference's SameAccounts, of accounts without slots, by whomever told.
  The reference's Accounts.
  The reference's Move.
-/
import Derived.Test.YtiglinnjnobodaaGreatQRw3
import Derived.Test.YtiglinnjnobodaaGreatQTx5
set_option linter.unusedVariables false
set_option linter.unusedSimpArgs false
namespace Go.Proofs.YtiglinnjnobodaaGreat
open Go.RowKit Go.Mun

theorem elemM : ElemOf Tryz.prog 102 233 (.agg #[.int .i64 0, .slice none 0 0]) 2 32 := .mk' Tryz.underlying102 (by kernel_rfl) (by rfl) (by decide)
theorem s1_102 (ρ : Operand → Value) (dst : Option Tmp) (x y : Operand) (t : TypeId) (pos : String) (after : Array Edge) (gd : Option (Nat × Bool)) (w : World) : (execOp ρ ⟨dst, .store 102 x y, t, pos, after, gd⟩).run Tryz.prog w = asSkip (stOne Tryz.prog 102 (ρ x) (ρ y) w) := ex_store1 ρ dst x y t pos after gd w (by kernel_rfl)
attribute [go_sem ↓] s1_102
set_option maxRecDepth 100000 in
set_option maxHeartbeats 2000000 in
theorem r_mark {w : World} {own : Go.Mun.Own} {sb n : Nat} {S : St} {M : List (Nat × St)} (h : RState w own sb S M n) (hn : n ≤ 1000000) :
  Calls Tryz.prog 106 #[.pointer (some ⟨sb, 0, none⟩)] w fun e w' => ∃ x : Nat, e = .returned (.int .i64 (x : Int)) ∧ (∀ m ∈ M, m.1 < x) ∧ ∃ own', RState w' own' sb S (M ++ [(x, S)]) (n + 1) ∧ ChgR w w' own own' := by
 obtain ⟨lv, mv, ps, ms, k, h1, hS, hM, hw, hwm, hkn⟩ := h
 obtain ⟨t1, g1⟩ := h1.tick
 have hf2 := World.free?_sub h1.free (o' := 2) (n' := 1) (by omega)
 have c2 := World.row?_cell h1.row (i := 2) (by omega)
 simp only [Nat.zero_add, List.getElem?_cons_succ, List.getElem?_cons_zero] at c2
 obtain ⟨w1, e1⟩ : ∃ w1, w1 = w.setCell ⟨sb, 2, none⟩ (.int .i64 ((k + 1 : Nat) : Int)) := ⟨_, rfl⟩
 rw [← e1] at t1 g1
 have t1d : RStC w1.drew own sb lv mv ps ms (k + 1) := t1.only (S := fun _ => False) (Only.of_below_size (Below.refl _ _).drew) (fun _ h => h.elim)
 have hsrc := src_of_own t1d.arr.cells t1d.arr.ok (Nat.le_succ_of_le (Nat.le_trans hw.len hn))
 obtain ⟨ma, mc, emv⟩ := own_shape h1.marks
 obtain ⟨la, lc, elv⟩ := own_shape h1.arr.cells
 have hck : IntKind.i64.wrap ((k : Int) + 1) = ((k + 1 : Nat) : Int) := by rw [wrI _ (by omega) (by omega)]; omega
 have hcnt := h1.count
 obtain ⟨y, hy⟩ : ∃ y, y = k + 1 := ⟨_, rfl⟩
 obtain ⟨q, hq⟩ : ∃ q, q = ms.length := ⟨_, rfl⟩
 have hq1 : q ≤ 1000000 := by have := hcnt.1; omega
 rw [← hy] at e1 t1 t1d hck
 have HE := Lib.hid e1
 have H1 := Lib.hid t1d
 have HSRC := Lib.hid hsrc
 have HG : Hid (ChgR w w1.drew own own) := g1.trans (ChgR.below own (Below.refl _ _).drew)
 have HY := Lib.hid hy
 have HQ := Lib.hid hq
 have HC := Lib.hid hcnt
 obtain ⟨T, hT⟩ : ∃ T : World → Prop, T = fun W => W.row? sb 0 3 = some [lv, mv, .int .i64 (y : Int)] ∧ W.free? sb 0 3 = true := ⟨_, rfl⟩
 have HT := Lib.hid hT
 have t0 : T w1.drew := by rw [hT]; exact ⟨t1d.row, t1d.free⟩
 have HWELL : Hid (S = rst (fsts ps) ∧ M = ms.map (fun m => (m.1, rst (fsts m.2.2))) ∧ RWell ps n ∧ (∀ m ∈ ms, RWell m.2.2 n) ∧ k ≤ n) := ⟨hS, hM, hw, hwm, hkn⟩
 have hrow1 := t1d.row
 have r0 := World.row?_cell hrow1 (i := 2) (by omega)
 simp only [Nat.zero_add, List.getElem?_cons_succ, List.getElem?_cons_zero] at r0
 have HMV := Lib.hid emv
 clear h1 t1 t1d g1 hS hM hw hwm hkn hsrc hcnt hT hrow1 e1 hy hq r0 emv elv
 go_enter Tryz.func106, Tryz.ntmps106
 go_wp2_with fail
 rw [← HE.out]
 refine wp_region_tree T [19] (.pure 0 (.pure 1 (.pure 2 (.pure 3 (.take 4 (.pure 5 (.pure 6 (.pure 7 (.take 8 (.pure 9 (.pure 10 (.pure 11 (.take 12 (.alt 13 (.pure 14 (.alt 15 (.alt 16 (.pure 17 (.pure 18 (.alt 19 .fin .stop))) .stop) .stop)) .stop)))))))))))))) (by kernel_rfl) (by kernel_rfl) ?_
 refine tree_pure ?_ rfl (by rfl) (fun w' hs => ?_) (fun _ _ _ h => h) ?_
 rotate_left
 ·clear hs
  go_simp
  try rfl
 simp only [Act.put, tsa, tsb, tsc]
 refine tree_pure ?_ rfl (by rfl) (fun w' hs => ?_) (fun _ _ _ h => h) ?_
 rotate_left
 ·clear hs
  go_simp
  try rfl
 simp only [Act.put, tsa, tsb, tsc]
 refine tree_pure ?_ rfl (by rfl) (fun w' hs => ?_) (fun _ _ _ h => h) ?_
 rotate_left
 ·clear hs
  go_simp
  try rfl
 simp only [Act.put, tsa, tsb, tsc]
 refine tree_pure ?_ rfl (by rfl) (fun w' hs => ?_) (fun _ _ _ h => h) ?_
 rotate_left
 ·clear hs
  go_simp
  try rfl
 simp only [Act.put, tsa, tsb, tsc]
 refine tree_take (mv) t0 rfl (by rfl) (fun w' hs => ?_) (fun _ _ _ h => h) ?_
 ·rw [HT.out] at hs
  obtain ⟨s1, s2⟩ := hs; have q0 := World.row?_cell s1 (i := 0) (by omega); have q1 := World.row?_cell s1 (i := 1) (by omega); have q2 := World.row?_cell s1 (i := 2) (by omega); simp only [Nat.zero_add, List.getElem?_cons_succ, List.getElem?_cons_zero] at q0 q1 q2
  go_simp
 simp only [Act.put, tsa, tsb, tsc]
 refine tree_pure ?_ rfl (by rfl) (fun w' hs => ?_) (fun _ _ _ h => h) ?_
 rotate_left
 ·clear hs
  go_simp
  try rfl
 simp only [Act.put, tsa, tsb, tsc]
 refine tree_pure ?_ rfl (by rfl) (fun w' hs => ?_) (fun _ _ _ h => h) ?_
 rotate_left
 ·clear hs
  go_simp
  try rfl
 simp only [Act.put, tsa, tsb, tsc]
 refine tree_pure ?_ rfl (by rfl) (fun w' hs => ?_) (fun _ _ _ h => h) ?_
 rotate_left
 ·clear hs
  go_simp
  try rfl
 simp only [Act.put, tsa, tsb, tsc]
 refine tree_take ?_ t0 rfl (by rfl) (fun w' hs => ?_) (fun _ _ _ h => h) ?_
 rotate_left
 ·rw [HT.out] at hs
  obtain ⟨s1, s2⟩ := hs; have q0 := World.row?_cell s1 (i := 0) (by omega); have q1 := World.row?_cell s1 (i := 1) (by omega); have q2 := World.row?_cell s1 (i := 2) (by omega); simp only [Nat.zero_add, List.getElem?_cons_succ, List.getElem?_cons_zero] at q0 q1 q2
  go_simp
  try rfl
 simp only [Act.put, tsa, tsb, tsc]
 refine tree_pure ?_ rfl (by rfl) (fun w' hs => ?_) (fun _ _ _ h => h) ?_
 rotate_left
 ·clear hs
  go_simp
  try rfl
 simp only [Act.put, tsa, tsb, tsc]
 refine tree_pure ?_ rfl (by rfl) (fun w' hs => ?_) (fun _ _ _ h => h) ?_
 rotate_left
 ·clear hs
  go_simp
  try rfl
 simp only [Act.put, tsa, tsb, tsc]
 refine tree_pure ?_ rfl (by rfl) (fun w' hs => ?_) (fun _ _ _ h => h) ?_
 rotate_left
 ·clear hs
  go_simp
  try rfl
 simp only [Act.put, tsa, tsb, tsc]
 refine tree_take (lv) t0 rfl (by rfl) (fun w' hs => ?_) (fun _ _ _ h => h) ?_
 ·rw [HT.out] at hs
  obtain ⟨s1, s2⟩ := hs; have q0 := World.row?_cell s1 (i := 0) (by omega); have q1 := World.row?_cell s1 (i := 1) (by omega); have q2 := World.row?_cell s1 (i := 2) (by omega); simp only [Nat.zero_add, List.getElem?_cons_succ, List.getElem?_cons_zero] at q0 q1 q2
  go_simp
 simp only [Act.put, tsa, tsb, tsc]
 refine tree_run rfl (fun K hK => ?_)
 go_simp
 refine (r_copied HSRC.out).mono ?_
 rintro e w2 ⟨v, ds, rfl, hc, hf⟩
 obtain ⟨va, vc, ev⟩ := own_shape hc.own
 obtain ⟨vn, hvn⟩ : ∃ vn, vn = ds.length := ⟨_, rfl⟩
 rw [← hvn] at ev
 subst ev
 have t2 : T w2 := by rw [HT.out] at t0 ⊢; exact ⟨((brow hc.below).1 _ _ _ (World.row?_lt t0.1)).trans t0.1, ((brow hc.below).2 _ _ _ (World.row?_lt t0.1)).trans t0.2⟩
 obtain ⟨own2, x1, x2, x3, x4⟩ := cop_label H1.out.low hc (rac_bs H1.out.arr.ok hf)
 have h2 := (H1.out.only (S := fun _ => False) (Only.of_below_size hc.below) (fun _ h => h.elim)).le x4 x2
 have HG2 : Hid (ChgR w w2 own own2) := HG.out.trans ⟨x1, Only.of_below_size hc.below⟩
 have HAP : Hid (∀ u ∈ lv :: ms.map (fun m => m.2.1), u.ownBlock = none ∨ u.ownBlock ≠ (Value.slice va vn vc).ownBlock) := by
  intro u hu
  cases hub : u.ownBlock with
  | none => exact .inl rfl
  | some g =>
   refine .inr fun e => ?_
   have h3 := ownsRow_ge hc.own g e.symm
   have h4 : own g = some .acc := by
    rcases List.mem_cons.1 hu with rfl | hu
    ·exact H1.out.arr.lab g hub
    ·obtain ⟨m, hm, rfl⟩ := List.mem_map.1 hu
     exact (H1.out.each m hm).1.lab g hub
   have h5 := H1.out.low g (by rw [h4]; simp)
   omega
 have H2 := Lib.hid h2
 have HAR := Lib.hid x3
 have HF := Lib.hid hf
 clear hc hf x1 x2 x3 x4 h2 hvn
 refine hK.out _ _ t2 ?_
 clear hK K
 refine tree_pure ?_ rfl (by rfl) (fun w' hs => ?_) (fun _ _ _ h => h) ?_
 rotate_left
 ·clear hs
  go_simp
  try rfl
 simp only [Act.put, tsa, tsb, tsc]
 refine tree_run rfl (fun K hK => ?_)
 go_simp
 have t3 : T (w2.alloc (.cells #[.int .i64 (y : Int), .slice va vn vc] 233)) := by rw [HT.out] at t2 ⊢; exact ⟨(World.row?_alloc_lt _ (World.row?_lt t2.1)).trans t2.1, (World.free?_alloc_lt _ (World.row?_lt t2.1)).trans t2.2⟩
 have HMR : Hid ((w2.alloc (.cells #[.int .i64 (y : Int), .slice va vn vc] 233)).ownsRow 0 233 2 mv q (mrkC ms)) := by have h3 := H2.out.marks; rw [← HQ.out] at h3; exact ownsRow_below h3 ((Below.refl _ _).alloc (Nat.le_refl _) _)
 refine hK.out _ _ t3 ?_
 clear hK K
 refine tree_run rfl (fun K hK => ?_)
 refine step_app elemM rfl _ _ rfl HMR.out rfl (SrcAt.new w2 (m := 1) (size := 2) (cs := [.int .i64 (y : Int), .slice va vn vc]) 233 (0, 0) rfl 1) rfl (by unfold maxLen; omega) (by omega) ?_
 intro mv' w4 hr4 ho4 hl4
 have ho24 : Only (fun g => mv.ownBlock = some g) w2 w4 := ((Only.refl _ _).alloc _).trans ho4 (fun i hi _ => hi)
 have hsbn : ¬ mv.ownBlock = some sb := fun e => by have := H2.out.mlab sb e; rw [H2.out.lab] at this; cases this
 have t4 : T w4 := by rw [HT.out] at t2 ⊢; exact ⟨(ho24.row? (World.row?_lt t2.1) hsbn).trans t2.1, (ho24.free? (World.row?_lt t2.1) hsbn).trans t2.2⟩
 have hl4' : ∀ g, mv'.ownBlock = some g → mv.ownBlock = some g ∨ w2.heap.size ≤ g := fun g hg => by
  rcases hl4 g hg with h | h
  ·exact .inl h
  ·have h' : w2.heap.size + 1 ≤ g := by first | exact h | simpa using h
   exact .inr (by omega)
 have HADD := Lib.hid (H2.out.addMark (v := .slice va vn vc) (ds := ds) (by have := HC.out.1; have := HY.out; omega) HAR.out (by have := H2.out.up; unfold Rising at this ⊢; rw [HF.out]; exact this) HAP.out ho24 (by rw [← HQ.out]; exact hr4) hl4')
 have hmo : mv'.oneCell' = true := by obtain ⟨_, _, rfl⟩ := own_shape hr4; rfl
 have hf1 : w4.free? sb 1 1 = true := by have h3 := t4; rw [HT.out] at h3; exact World.free?_sub h3.2 (by omega)
 clear hr4 ho4 hl4 hl4' ho24
 refine hK.out _ _ t4 ?_
 clear hK K
 refine tree_pure ?_ rfl (by rfl) (fun w' hs => ?_) (fun _ _ _ h => h) ?_
 rotate_left
 ·clear hs
  go_simp
  try rfl
 simp only [Act.put, tsa, tsb, tsc]
 refine tree_pure ?_ rfl (by rfl) (fun w' hs => ?_) (fun _ _ _ h => h) ?_
 rotate_left
 ·clear hs
  go_simp
  try rfl
 simp only [Act.put, tsa, tsb, tsc]
 refine tree_z rfl (by simp) (fun K hK => ?_)
 go_simp
 refine hK.out _ _ ?_
 clear hK K
 refine tree_fin ?_
 obtain ⟨own5, k5, g5⟩ := HADD.out
 have r5 := World.row?_cell k5.row (i := 2) (by omega)
 simp only [Nat.zero_add, List.getElem?_cons_succ, List.getElem?_cons_zero] at r5
 have H5 := Lib.hid k5
 have HG5 := Lib.hid g5
 clear k5 g5 t0 t2 t3 t4 hf1
 go_wp2
 go_ret
 obtain ⟨z1, z2, z3, z4, z5⟩ := HWELL.out
 refine ⟨y, rfl, ?_, own5, ⟨lv, mv', ps, _, y, H5.out, z1, ?_, z3.mono (Nat.le_succ n), ?_, by have := HY.out; omega⟩, HG2.out.trans HG5.out⟩
 ·intro m hm
  rw [z2] at hm
  obtain ⟨m', hm', rfl⟩ := List.mem_map.1 hm
  have h1 : m'.1 ≤ k := HC.out.2 m' hm'
  have h2 := HY.out
  show m'.1 < y
  omega
 ·rw [z2, List.map_append, z1, ← HF.out]; rfl
 ·intro m hm
  rcases List.mem_append.1 hm with h | h
  ·exact (z4 m h).mono (Nat.le_succ n)
  ·rw [List.mem_singleton.1 h]
   have e : ds.length = ps.length := by have := congrArg List.length HF.out; simpa [fsts] using this
   refine ⟨by rw [e]; exact Nat.le_succ_of_le z3.len, fun p hp => ?_⟩
   have : p.1 ∈ fsts ds := List.mem_map.2 ⟨p, hp, rfl⟩
   rw [HF.out] at this
   obtain ⟨p', hp', e'⟩ := List.mem_map.1 this
   rw [← e']
   have := z3.slots p' hp'
   exact ⟨Nat.le_succ_of_le this.1, this.2⟩
def emptyX (x : RAc) : Bool := decide (x.ac.nonce = 0) && decide (x.ac.bal = 0) && decide (x.ac.code = []) && decide (x.slots = [])
theorem racC_ok' {p : RAc × Value × Value} {ca sa : Option Addr} {n1 n2 cc sc : Nat} (e1 : p.2.1 = .slice ca n1 cc) (e2 : p.2.2 = .slice sa n2 sc) : okL 55 (racC p) = true := by
 unfold racC; rw [e1, e2]
 exact okL_cat (acS_len _ _ _) fun s hs => by
  simp only [acS, List.mem_cons, List.not_mem_nil, or_false] at hs
  rcases hs with rfl | rfl | rfl | rfl | rfl
  all_goals first | rfl | (rw [beC_len]; exact beC_ok _ _)
set_option maxRecDepth 100000 in
set_option maxHeartbeats 1000000 in
theorem ref_empty {p : RAc × Value × Value} {ca sa : Option Addr} {cc sc : Nat} (ec : p.2.1 = .slice ca p.1.ac.code.length cc) (es : p.2.2 = .slice sa p.1.slots.length sc) (hb : p.1.ac.bal < wW) (w : World) :
  Calls Tryz.prog 112 #[.agg (racC p).toArray] w fun e w' => e = .returned (.bool (emptyX p.1)) ∧ Below w.heap.size w w' := by
 have hok := racC_ok' ec es
 obtain ⟨w0, e0⟩ : ∃ w0, w0 = w.alloc (.cells (racC p).toArray 35) := ⟨_, rfl⟩
 have hr : w0.row? w.heap.size 0 55 = some (racC p) := by rw [e0]; exact World.row?_alloc_at _ _ _ rfl (racC_len p)
 have hB : Below w.heap.size w w0 := by rw [e0]; exact (Below.refl _ _).alloc (Nat.le_refl _) _
 have c20 : w0.cell? ⟨w.heap.size, 20, none⟩ = some (.int .i64 p.1.ac.nonce) := cell_cat hr (i := 1) rfl (by simp [acS, offOf_succ, offOf_zero])
 have r21 : w0.row? w.heap.size 21 32 = some (beC 32 p.1.ac.bal) := row_cat hr (i := 2) rfl (by simp [acS, offOf_succ, offOf_zero]) (by simp)
 have c53 := cell_53 hr
 have c54 := cell_54 hr
 rw [Nat.zero_add, ec] at c53
 rw [Nat.zero_add, es] at c54
 have HX : Hid (emptyX p.1 = (decide (p.1.ac.nonce = 0) && decide (p.1.ac.bal = 0) && decide (p.1.ac.code.length = 0) && decide (p.1.slots.length = 0))) := by
  show _ = _
  unfold emptyX
  simp [List.length_eq_zero_iff]
 have HB := Lib.hid hB
 have HE := Lib.hid e0
 generalize emptyX p.1 = E at *
 generalize p.1.ac.nonce = nn at *
 generalize p.1.ac.bal = bl at *
 generalize p.1.ac.code.length = n1 at *
 generalize p.1.slots.length = n2 at *
 have hl2 : (beC 32 bl).length = 32 := by simp
 obtain ⟨C, hC⟩ : ∃ C, C = racC p := ⟨_, rfl⟩
 have hcl : C.length = 55 := by rw [hC]; exact racC_len p
 have gc : ∀ i (hi : i < C.length) u, w0.cell? ⟨w.heap.size, i, none⟩ = some u → C[i] = u := by
  intro i hi u h
  have h2 := World.row?_cell hr (i := i) (by omega)
  rw [Nat.zero_add, h, ← hC, List.getElem?_eq_getElem hi] at h2
  exact (Option.some.inj h2).symm
 have g20 : C[20]'(by omega) = .int .i64 nn := gc _ _ _ c20
 have g53 : C[53]'(by omega) = .slice ca n1 cc := gc _ _ _ c53
 have g54 : C[54]'(by omega) = .slice sa n2 sc := gc _ _ _ c54
 rw [← hC] at HE hok ⊢
 rw [e0, ← hC] at r21
 have z25 := b0_25
 have heq := eqW (a := bl) (b := 0) hb (show (0 : Nat) < wW by decide)
 clear e0 hr hB ec es hC gc c20 c53 c54
 by_cases h1 : nn = 0
 ·subst h1
  by_cases h2 : bl = 0
  ·have hd2 : decide (bl = 0) = true := by simp [h2]
   rw [hd2] at heq
   by_cases h3 : n1 = 0
   ·subst h3
    have HR : Hid (E = decide (n2 = 0)) := by show _ = _; rw [HX.out]; simp [h2]
    clear HX h2 hd2
    go_enter Tryz.func112, Tryz.ntmps112
    go_wp2_with fail
    by_cases h4 : n2 = 0
    ·subst h4
     go_wp2
     go_ret
     exact ⟨by rw [HR.out]; rfl, HE.out ▸ HB.out⟩
    ·have h4I : ((n2 : Int) == 0) = false := by simp [h4]
     have HN := Lib.hid h4
     clear h4
     go_wp2
     go_ret
     exact ⟨by rw [HR.out]; simp [HN.out], HE.out ▸ HB.out⟩
   ·have h3I : ((n1 : Int) == 0) = false := by simp [h3]
    have HR : Hid (E = false) := by show _ = _; rw [HX.out]; simp [h3]
    clear HX h2 hd2 h3
    go_enter Tryz.func112, Tryz.ntmps112
    go_wp2
    go_ret
    exact ⟨by rw [HR.out]; rfl, HE.out ▸ HB.out⟩
  ·have hd2 : decide (bl = 0) = false := by simp [h2]
   rw [hd2] at heq
   have HR : Hid (E = false) := by show _ = _; rw [HX.out]; simp [h2]
   clear HX h2 hd2
   go_enter Tryz.func112, Tryz.ntmps112
   go_wp2
   go_ret
   exact ⟨by rw [HR.out]; rfl, HE.out ▸ HB.out⟩
 ·have h1I : (nn == 0) = false := by simp [h1]
  have HR : Hid (E = false) := by show _ = _; rw [HX.out]; simp [h1]
  clear HX h1
  go_enter Tryz.func112, Tryz.ntmps112
  go_wp2
  go_ret
  exact ⟨by rw [HR.out]; rfl, HE.out ▸ HB.out⟩
theorem eqA_refl (x : Nat) (w : World) : (Op.equalIn 10000 23 (.agg (beC 20 x).toArray) (.agg (beC 20 x).toArray)).run Tryz.prog w = .ok true w := by
 have h : ∀ d, (Op.equalIn (d + 3) 23 (.agg (beC 20 x).toArray) (.agg (beC 20 x).toArray)).run Tryz.prog w = .ok true w := fun d => by
  have := run_eq_beD (n := 20) Tryz.underlying23 Tryz.underlying5 (by kernel_rfl) (d + 1) x x w
  simpa [beEq] using this
 exact at10000 h
theorem eqW_refl (x : Nat) (w : World) : (Op.equalIn 10000 25 (.agg (beC 32 x).toArray) (.agg (beC 32 x).toArray)).run Tryz.prog w = .ok true w := by
 have h : ∀ d, (Op.equalIn (d + 3) 25 (.agg (beC 32 x).toArray) (.agg (beC 32 x).toArray)).run Tryz.prog w = .ok true w := fun d => by
  have := run_eq_beD (n := 32) Tryz.underlying25 Tryz.underlying5 (by kernel_rfl) (d + 1) x x w
  simpa [beEq] using this
 exact at10000 h
def EasyR (w : World) (p : RAc × Value × Value) : Prop := ∃ a k s j, p.2.1 = .slice a p.1.ac.code.length k ∧ Ints w .u8 a k p.1.ac.code ∧ p.2.2 = .slice s 0 j
set_option maxRecDepth 100000 in
set_option maxHeartbeats 1000000 in
theorem same_acc0 (a : Nat) (n : Int) (b : Nat) (d : Bts) (a1 a2 s1 s2 : Option Addr) (c1 c2 j1 j2 : Nat) (w : World) (h1 : Ints w .u8 a1 c1 d) (h2 : Ints w .u8 a2 c2 d) :
  Calls Tryz.prog 78 #[.agg (cat (acS ⟨a, n, b, d⟩ (.slice a1 d.length c1) (.slice s1 0 j1))).toArray, .agg (cat (acS ⟨a, n, b, d⟩ (.slice a2 d.length c2) (.slice s2 0 j2))).toArray] w fun e w' => e = .returned (.bool true) ∧ Below w.heap.size w w' := by
 have ha := eqA_refl a
 have hw := eqW_refl b
 obtain ⟨X, hX⟩ : ∃ X, X = cat (acS ⟨a, n, b, d⟩ (.slice a1 d.length c1) (.slice s1 0 j1)) := ⟨_, rfl⟩
 obtain ⟨Y, hY⟩ : ∃ Y, Y = cat (acS ⟨a, n, b, d⟩ (.slice a2 d.length c2) (.slice s2 0 j2)) := ⟨_, rfl⟩
 have lX : X.length = 55 := by rw [hX]; exact acS_len _ _ _
 have lY : Y.length = 55 := by rw [hY]; exact acS_len _ _ _
 rw [← hX, ← hY]
 obtain ⟨w0, e0⟩ : ∃ w0, w0 = (w.alloc (.cells X.toArray 35)).alloc (.cells Y.toArray 35) := ⟨_, rfl⟩
 have hb0 : Below w.heap.size w w0 := by rw [e0]; exact ((Below.refl _ _).alloc (Nat.le_refl _) _).alloc (by simp) _
 have hr : w0.row? w.heap.size 0 55 = some X := by rw [e0, World.row?_alloc_lt _ (by simp)]; exact World.row?_alloc_at X 35 _ rfl lX
 have hs : w0.row? (w.heap.size + 1) 0 55 = some Y := by rw [e0]; exact World.row?_alloc_at Y 35 _ (by simp) lY
 rw [hX] at hr
 rw [hY] at hs
 have x0 : w0.row? w.heap.size 0 20 = some (beC 20 a) := row_cat hr (i := 0) rfl (by simp [acS, offOf_succ, offOf_zero]) (by simp)
 have x1 : w0.cell? ⟨w.heap.size, 20, none⟩ = some (.int .i64 n) := cell_cat hr (i := 1) rfl (by simp [acS, offOf_succ, offOf_zero])
 have x2 : w0.row? w.heap.size 21 32 = some (beC 32 b) := row_cat hr (i := 2) rfl (by simp [acS, offOf_succ, offOf_zero]) (by simp)
 have x3 : w0.cell? ⟨w.heap.size, 53, none⟩ = some (.slice a1 d.length c1) := cell_cat hr (i := 3) rfl (by simp [acS, offOf_succ, offOf_zero])
 have x4 : w0.cell? ⟨w.heap.size, 54, none⟩ = some (.slice s1 0 j1) := cell_cat hr (i := 4) rfl (by simp [acS, offOf_succ, offOf_zero])
 have y0 : w0.row? (w.heap.size + 1) 0 20 = some (beC 20 a) := row_cat hs (i := 0) rfl (by simp [acS, offOf_succ, offOf_zero]) (by simp)
 have y1 : w0.cell? ⟨(w.heap.size + 1), 20, none⟩ = some (.int .i64 n) := cell_cat hs (i := 1) rfl (by simp [acS, offOf_succ, offOf_zero])
 have y2 : w0.row? (w.heap.size + 1) 21 32 = some (beC 32 b) := row_cat hs (i := 2) rfl (by simp [acS, offOf_succ, offOf_zero]) (by simp)
 have y3 : w0.cell? ⟨(w.heap.size + 1), 53, none⟩ = some (.slice a2 d.length c2) := cell_cat hs (i := 3) rfl (by simp [acS, offOf_succ, offOf_zero])
 have y4 : w0.cell? ⟨(w.heap.size + 1), 54, none⟩ = some (.slice s2 0 j2) := cell_cat hs (i := 4) rfl (by simp [acS, offOf_succ, offOf_zero])
 have q1 := run_bytes_string' (P := Tryz.prog) Tryz.underlying26 Tryz.underlying5 Tryz.underlying9 rfl (h1.below hb0)
 have q2 := run_bytes_string' (P := Tryz.prog) Tryz.underlying26 Tryz.underlying5 Tryz.underlying9 rfl (h2.below hb0)
 have HB := Lib.hid hb0
 have HE := Lib.hid e0
 generalize strOf d = S at *
 generalize d.length = m at *
 rw [e0] at x0 x1 x2 x3 x4 y0 y1 y2 y3 y4 q1 q2
 clear hX hY hr hs e0 hb0 h1 h2 lX lY
 go_enter Tryz.func78, Tryz.ntmps78
 go_wp2_with fail
 rw [← HE.out]
 rw [← HE.out] at x0 x1 x2 x3 x4 y0 y1 y2 y3 y4 q1 q2
 go_loopw [5] (fun ix wz => ix = .int .i64 0 ∧ wz = w0) (fun _ _ => 0)
 case atStart => exact ⟨rfl, rfl⟩
 case round =>
  obtain ⟨rfl, rfl⟩ := hrel
  go_wp2
  go_ret
  exact ⟨rfl, HB.out⟩
set_option maxRecDepth 100000 in
set_option maxHeartbeats 2000000 in
theorem same_accs0 {w : World} {v1 v2 : Value} {B1 B2 : Nat} {ds1 ds2 : List (RAc × Value × Value)} (ho1 : w.ownsRow B1 35 55 v1 ds1.length (rowsR ds1)) (ho2 : w.ownsRow B2 35 55 v2 ds2.length (rowsR ds2)) (h1 : ∀ p ∈ ds1, EasyR w p) (h2 : ∀ p ∈ ds2, EasyR w p) (hL : fsts ds1 = fsts ds2) (hm9 : ds1.length ≤ 4000000) :
  Calls Tryz.prog 32 #[v1, v2] w fun e w' => e = .returned (.bool true) ∧ Below w.heap.size w w' := by
 have hlen : ds2.length = ds1.length := by have := congrArg List.length hL; simpa [fsts] using this.symm
 rw [hlen] at ho2
 obtain ⟨m, hm⟩ : ∃ m, m = ds1.length := ⟨_, rfl⟩
 rw [← hm] at ho1 ho2 hlen hm9
 have hbn : ((m : Int) != (m : Int)) = false := by simp
 by_cases hz : m = 0
 ·obtain ⟨ad1, c1, rfl⟩ := own_form ho1
  obtain ⟨ad2, c2, rfl⟩ := own_form ho2
  subst hz
  clear h1 h2 hL hlen ho1 ho2 hm
  go_enter Tryz.func32, Tryz.ntmps32
  go_wp2_with fail
  go_loopw [5] (fun ix wz => ix = .int .i64 0 ∧ wz = w) (fun _ _ => 0)
  case atStart => exact ⟨rfl, rfl⟩
  case round =>
   obtain ⟨rfl, rfl⟩ := hrel
   go_wp2
   go_ret
   exact ⟨rfl, Below.refl _ _⟩
 ·obtain ⟨b, c, rfl, _, hc, hcm, hrow, _⟩ := own_words ho1 (by omega)
  obtain ⟨b', c', rfl, _, hc', hcm', hrow', _⟩ := own_words ho2 (by omega)
  have HAT : Hid (∀ q, q < m → ∃ a n bl d a1 a2 k1 k2 s1 s2 j1 j2, w.row? b (q * 55) 55 = some (cat (acS ⟨a, n, bl, d⟩ (.slice a1 d.length k1) (.slice s1 0 j1))) ∧ w.row? b' (q * 55) 55 = some (cat (acS ⟨a, n, bl, d⟩ (.slice a2 d.length k2) (.slice s2 0 j2))) ∧ Ints w .u8 a1 k1 d ∧ Ints w .u8 a2 k2 d) := by
   intro q hq
   have hq1 : q < ds1.length := by omega
   have hq2 : q < ds2.length := by omega
   have e : (ds1[q]'hq1).1 = (ds2[q]'hq2).1 := by
    have := congrArg (fun l => l[q]?) hL
    simpa [fsts, hq1, hq2] using this
   have r1 := World.row?_sub hrow (o' := 0 + q * 55) (n' := 55) (by omega) (by omega)
   have r2 := World.row?_sub hrow' (o' := 0 + q * 55) (n' := 55) (by omega) (by omega)
   rw [Nat.zero_add, Nat.sub_zero, rowsR_at ds1 q hq1] at r1
   rw [Nat.zero_add, Nat.sub_zero, rowsR_at ds2 q hq2] at r2
   obtain ⟨a1, k1, s1, j1, e1, i1, f1⟩ := h1 _ (List.getElem_mem hq1)
   obtain ⟨a2, k2, s2, j2, e2, i2, f2⟩ := h2 _ (List.getElem_mem hq2)
   unfold racC at r1 r2
   rw [e1, f1] at r1
   rw [e2, f2, ← e] at r2
   rw [← e] at i2
   exact ⟨_, _, _, _, a1, a2, k1, k2, s1, s2, j1, j2, r1, r2, i1, i2⟩
  have HLT := Lib.hid (World.row?_lt hrow)
  have HLT' := Lib.hid (World.row?_lt hrow')
  clear h1 h2 hL hrow hrow' hm ho1 ho2 hlen
  go_enter Tryz.func32, Tryz.ntmps32
  go_wp2_with fail
  go_loopw [5] (fun i wr => ∃ q : Nat, q ≤ m ∧ i = .int .i64 q ∧ Below w.heap.size w wr) (fun i _ => m - (intOf i).toNat)
  case atStart => exact ⟨0, by omega, rfl, Below.refl _ _⟩
  case round =>
   obtain ⟨q, hq, rfl, hbw⟩ := hrel
   have HBW := Lib.hid hbw
   clear hbw
   by_cases hlt : q < m
   ·obtain ⟨a, n, bl, d, a1, a2, k1, k2, s1, s2, j1, j2, r1, r2, i1, i2⟩ := HAT.out q hlt
    obtain ⟨X, hX⟩ : ∃ X, X = cat (acS ⟨a, n, bl, d⟩ (.slice a1 d.length k1) (.slice s1 0 j1)) := ⟨_, rfl⟩
    obtain ⟨Y, hY⟩ : ∃ Y, Y = cat (acS ⟨a, n, bl, d⟩ (.slice a2 d.length k2) (.slice s2 0 j2)) := ⟨_, rfl⟩
    have HC := Lib.hid (fun (W : World) (hW : Below w.heap.size w W) => same_acc0 a n bl d a1 a2 s1 s2 k1 k2 j1 j2 W (i1.below hW) (i2.below hW))
    rw [← hX, ← hY] at HC
    rw [← hX] at r1
    rw [← hY] at r2
    have hx : X.length = 55 := by rw [hX]; exact acS_len _ _ _
    have hy : Y.length = 55 := by rw [hY]; exact acS_len _ _ _
    obtain ⟨T, hT⟩ : ∃ T : World → Prop, T = fun W => W.row? b (q * 55) 55 = some X ∧ W.row? b' (q * 55) 55 = some Y := ⟨_, rfl⟩
    have HT := Lib.hid hT
    have HTB : Hid (∀ W, Below w.heap.size w W → T W) := by
     intro W hW
     rw [hT]
     exact ⟨((brow hW).1 _ _ _ HLT.out).trans r1, ((brow hW).1 _ _ _ HLT'.out).trans r2⟩
    have hql : (q : Int) < (m : Int) := by omega
    have dql : decide ((q : Int) < (m : Int)) = true := decide_eq_true hql
    have dqn : (q < m) = True := eq_true hlt
    have t0 : T wr.drew := HTB.out _ HBW.out.drew
    clear hT r1 r2 i1 i2 HAT hX hY
    go_wp2_with fail
    refine wp_region_tree T [] (.pure 0 (.pure 1 (.pure 2 (.take 3 (.pure 4 (.pure 5 (.pure 6 (.take 7 (.alt 8 (.pure 9 .fin) .stop))))))))) (by kernel_rfl) (by kernel_rfl) ?_
    refine tree_pure ?_ rfl (by rfl) (fun w' hs => ?_) (fun _ _ _ h => h) ?_
    rotate_left
    ·clear hs
     go_simp
     try rfl
    simp only [Act.put, tsa, tsb, tsc]
    refine tree_pure ?_ rfl (by rfl) (fun w' hs => ?_) (fun _ _ _ h => h) ?_
    rotate_left
    ·clear hs
     go_simp
     try rfl
    simp only [Act.put, tsa, tsb, tsc]
    refine tree_pure ?_ rfl (by rfl) (fun w' hs => ?_) (fun _ _ _ h => h) ?_
    rotate_left
    ·clear hs
     go_simp
     try rfl
    simp only [Act.put, tsa, tsb, tsc]
    refine tree_take ?_ t0 rfl (by rfl) (fun w' hs => ?_) (fun _ _ _ h => h) ?_
    rotate_left
    ·rw [HT.out] at hs
     obtain ⟨g1, g2⟩ := hs
     go_simp
     try rfl
    simp only [Act.put, tsa, tsb, tsc]
    refine tree_pure ?_ rfl (by rfl) (fun w' hs => ?_) (fun _ _ _ h => h) ?_
    rotate_left
    ·clear hs
     go_simp
     try rfl
    simp only [Act.put, tsa, tsb, tsc]
    refine tree_pure ?_ rfl (by rfl) (fun w' hs => ?_) (fun _ _ _ h => h) ?_
    rotate_left
    ·clear hs
     go_simp
     try rfl
    simp only [Act.put, tsa, tsb, tsc]
    refine tree_pure ?_ rfl (by rfl) (fun w' hs => ?_) (fun _ _ _ h => h) ?_
    rotate_left
    ·clear hs
     go_simp
     try rfl
    simp only [Act.put, tsa, tsb, tsc]
    refine tree_take ?_ t0 rfl (by rfl) (fun w' hs => ?_) (fun _ _ _ h => h) ?_
    rotate_left
    ·rw [HT.out] at hs
     obtain ⟨g1, g2⟩ := hs
     go_simp
     try rfl
    simp only [Act.put, tsa, tsb, tsc]
    refine tree_run rfl (fun K hK => ?_)
    go_simp
    refine (HC.out _ HBW.out.drew).mono ?_
    rintro e w9 ⟨rfl, hb9⟩
    have HB9 : Hid (Below w.heap.size w w9) := HBW.out.drew.trans (hb9.mono HBW.out.drew.size)
    have t9 : T w9 := HTB.out _ HB9.out
    clear hb9
    refine hK.out _ _ t9 ?_
    clear hK K
    refine tree_pure ?_ rfl (by rfl) (fun w' hs => ?_) (fun _ _ _ h => h) ?_
    rotate_left
    ·clear hs
     go_simp
     try rfl
    simp only [Act.put, tsa, tsb, tsc]
    refine tree_fin ?_
    go_wp2_with fail
    have hk1 : IntKind.i64.wrap ((q : Int) + 1) = ((q + 1 : Nat) : Int) := by rw [wrI _ (by omega) (by omega)]; omega
    go_roundw
    case rel => exact ⟨q + 1, by omega, by go_num, HB9.out⟩
    case measure => simp [intOf]; omega
   ·obtain rfl : q = m := by omega
    go_wp2_with fail
    go_ret
    exact ⟨rfl, HBW.out⟩
theorem EasyR.below {w w' : World} {p : RAc × Value × Value} (h : EasyR w p) (hb : Below w.heap.size w w') : EasyR w' p := by
 obtain ⟨a, k, s, j, e1, i1, f1⟩ := h
 exact ⟨a, k, s, j, e1, i1.below hb, f1⟩
theorem cop_easy {w0 w : World} {v : Value} {ds : List (RAc × Value × Value)} (h : CopR w0 w v ds) (hs : ∀ p ∈ ds, p.1.slots = []) : ∀ p ∈ ds, EasyR w p := by
 intro p hp
 obtain ⟨a, k, e1, _, i1⟩ := Ints.of_own' (h.code p hp)
 obtain ⟨s, j, f1⟩ := own_shape (h.slots p hp)
 rw [hs p hp] at f1
 exact ⟨a, k, s, j, e1, i1, f1⟩
def accP (S : St) (p : Nat × Value) : RAc × Value × Value := (⟨acOf p.1 (S p.1), []⟩, p.2, .slice none 0 0)
theorem accs_rows {w0 w : World} {S : St} {v : Value} {cs : List (Nat × Value)} (h : AccsR w0 w S v cs) : w.ownsRow w0.heap.size 35 55 v (cs.map (accP S)).length (rowsR (cs.map (accP S))) ∧ ∀ p ∈ cs.map (accP S), EasyR w p := by
 refine ⟨?_, fun p hp => ?_⟩
 ·rw [List.length_map]
  have : rowsR (cs.map (accP S)) = acsC S cs := by
   unfold rowsR acsC
   rw [List.flatMap_map]; rfl
  rw [this]; exact h.own
 ·obtain ⟨q, hq, rfl⟩ := List.mem_map.1 hp
  obtain ⟨a, k, e1, _, i1⟩ := Ints.of_own' (h.code q hq)
  exact ⟨a, k, none, 0, e1, i1, rfl⟩
structure AccsX (S : St) (n : Nat) (L : List RAc) : Prop where
 up : Rising L
 acc : ∀ x ∈ L, x.acc = S x.ac.addr ∧ ¬ (S x.ac.addr).empty
 all : ∀ a, ¬ (S a).empty → ∃ x ∈ L, x.ac.addr = a
 well : ∀ x ∈ L, RacB x ∧ x.slots.length ≤ n ∧ (x.slots.map Prod.fst).Pairwise (· < ·) ∧ ∀ q ∈ x.slots, q.2 ≠ 0
 len : L.length ≤ n
theorem emptyX_iff {x : RAc} (h0 : 0 ≤ x.ac.nonce) (hp : (x.slots.map Prod.fst).Pairwise (· < ·)) (hz : ∀ q ∈ x.slots, q.2 ≠ 0) : emptyX x = true ↔ x.acc.empty := by
 unfold emptyX Acc.empty RAc.acc
 simp only [Bool.and_eq_true, decide_eq_true_eq]
 constructor
 ·rintro ⟨⟨⟨h1, h2⟩, h3⟩, h4⟩
  exact ⟨by rw [h1]; rfl, h2, h3, fun k => by rw [h4]; rfl⟩
 ·rintro ⟨h1, h2, h3, h4⟩
  refine ⟨⟨⟨by omega, h2⟩, h3⟩, ?_⟩
  match hs : x.slots with
  | [] => rfl
  | q :: r =>
   have h5 := h4 q.1
   rw [hs] at h5
   have h6 := hz q (by rw [hs]; simp)
   simp [getA] at h5
   exact absurd h5 h6
def liveR (ps : List (RAc × Value × Value)) : List (RAc × Value × Value) := ps.filter fun p => !emptyX p.1
theorem live_accs {w : World} {own : Go.Mun.Own} {ps : List (RAc × Value × Value)} {n : Nat} (hu : Rising (fsts ps)) (hok : ∀ p ∈ ps, RAcOk w own p) (hw : RWell ps n) {L : List RAc} (hL : L = fsts (liveR ps)) : AccsX (rst (fsts ps)) n L := by
 subst hL
 have hmem : ∀ x ∈ fsts (liveR ps), ∃ p ∈ ps, p.1 = x ∧ emptyX x = false := by
  intro x hx
  obtain ⟨p, hp, rfl⟩ := List.mem_map.1 hx
  obtain ⟨h1, h2⟩ := List.mem_filter.1 hp
  exact ⟨p, h1, rfl, by simpa using h2⟩
 have hacc : ∀ p ∈ ps, p.1.acc = rst (fsts ps) p.1.ac.addr := by
  intro p hp
  obtain ⟨i, hi⟩ := List.mem_iff_getElem?.1 hp
  exact (rst_some hu (i := i) (x := p.1) (by unfold fsts; rw [List.getElem?_map, hi]; rfl)).symm
 refine ⟨?_, fun x hx => ?_, fun a ha => ?_, fun x hx => ?_, ?_⟩
 ·unfold Rising fsts liveR at *
  exact hu.sublist (List.Sublist.map _ (List.Sublist.map _ List.filter_sublist))
 ·obtain ⟨p, hp, rfl, he⟩ := hmem x hx
  have h1 := hacc p hp
  refine ⟨h1, fun h => ?_⟩
  rw [← h1] at h
  have := (emptyX_iff (hok p hp).nonce.1 (hw.slots p hp).2.1 (hw.slots p hp).2.2).2 h
  rw [he] at this; cases this
 ·by_cases hx : ∃ p ∈ ps, p.1.ac.addr = a
  ·obtain ⟨p, hp, rfl⟩ := hx
   refine ⟨p.1, List.mem_map.2 ⟨p, List.mem_filter.2 ⟨hp, ?_⟩, rfl⟩, rfl⟩
   cases he : emptyX p.1 with
   | false => rfl
   | true =>
    have := (emptyX_iff (hok p hp).nonce.1 (hw.slots p hp).2.1 (hw.slots p hp).2.2).1 he
    rw [hacc p hp] at this
    exact absurd this ha
  ·exfalso
   apply ha
   rw [rst_none (fun x hx2 e => by obtain ⟨p, hp, rfl⟩ := List.mem_map.1 hx2; exact hx ⟨p, hp, e⟩)]
   exact ⟨rfl, rfl, rfl, fun _ => rfl⟩
 ·obtain ⟨p, hp, rfl, _⟩ := hmem x hx
  exact ⟨rac_b (hok p hp), hw.slots p hp⟩
 ·have h1 : (fsts (liveR ps)).length ≤ ps.length := by unfold fsts liveR; rw [List.length_map]; exact List.length_filter_le _ _
  exact Nat.le_trans h1 hw.len
set_option maxRecDepth 100000 in
set_option maxHeartbeats 2000000 in
theorem r_accounts {w : World} {own : Go.Mun.Own} {sb n : Nat} {S : St} {M : List (Nat × St)} (h : RState w own sb S M n) (hn : n ≤ 1000000) :
  Calls Tryz.prog 69 #[.pointer (some ⟨sb, 0, none⟩)] w fun e w' => ∃ v ds, e = .returned v ∧ CopR w w' v ds ∧ AccsX S n (fsts ds) := by
 obtain ⟨lv, mv, ps, ms, x0, h1, rfl, _, hw, _, _⟩ := h
 have hpl : ps.length ≤ 1000000 := Nat.le_trans hw.len hn
 obtain ⟨la, lc, rfl⟩ := h1.arr.form
 have HLIVE : Hid (∀ {L : List RAc}, L = fsts (liveR ps) → AccsX (rst (fsts ps)) n L) := fun hL => live_accs h1.up h1.arr.ok hw hL
 obtain ⟨m, hm⟩ : ∃ m, m = ps.length := ⟨_, rfl⟩
 have H1 := Lib.hid h1
 have HM := Lib.hid hm
 rw [← hm] at hpl
 clear h1 hm hw
 go_enter Tryz.func69, Tryz.ntmps69
 go_wp2_with fail
 go_loopw [3, 4] (fun u ix wr => ∃ (k : Nat) (os : List (RAc × Value × Value)), k ≤ m ∧ ix = .int .i64 (k : Int) ∧ Hid (Below w.heap.size w wr ∧ os = liveR (ps.take k) ∧ wr.ownsRow w.heap.size 35 55 u os.length (rowsR os))) (fun _ ix _ => m - (intOf ix).toNat)
 case atStart => exact ⟨0, [], by omega, rfl, Below.refl _ _, by simp [liveR], World.ownsRow_nil _ _ _ _⟩
 case round =>
  obtain ⟨k, os, hk, rfl, HR⟩ := hrel
  have hw2 : RStC wr own sb (.slice la ps.length lc) mv ps ms x0 := H1.out.only (S := fun _ => False) (Only.of_below_size HR.out.1) (fun _ h => h.elim)
  have c0 := World.row?_cell hw2.row (i := 0) (by omega)
  simp only [Nat.zero_add, List.getElem?_cons_zero] at c0
  rw [← HM.out] at c0
  have HW2 := Lib.hid hw2
  clear hw2
  by_cases hkm : k < m
  ·have hkp : k < ps.length := by have := HM.out; omega
   have hI : (k : Int) < m := by omega
   have hdk : decide ((k : Int) < (m : Int)) = true := decide_eq_true hI
   have hdn : (k < m) = True := eq_true hkm
   obtain ⟨g, c', hlv, hgo, hrow, hfr⟩ := HW2.out.arr.row hkp
   cases hlv
   obtain ⟨P, hP⟩ : ∃ P, P = ps[k]'hkp := ⟨_, rfl⟩
   have hPm : P ∈ ps := by rw [hP]; exact List.getElem_mem hkp
   have hPo := HW2.out.arr.ok P hPm
   obtain ⟨⟨⟨ca, cc, ecv, _⟩, _⟩, ⟨⟨sa, sc, esv, _⟩, _⟩⟩ := rac_src hPo
   have HEM := Lib.hid (fun W => ref_empty ecv esv hPo.bal W)
   have hol : os.length ≤ 1000000 := by
    rw [HR.out.2.1]
    have h1 : (liveR (ps.take k)).length ≤ (ps.take k).length := List.length_filter_le _ _
    rw [List.length_take] at h1
    omega
   have HTK : Hid (ps.take (k + 1) = ps.take k ++ [P]) := by
    show _ = _
    rw [List.take_add_one, List.getElem?_eq_getElem hkp, hP]; rfl
   have hr1 : wr.row? g (k * 55) 55 = some (racC P) := by rw [hP]; exact hrow
   have hokc := racC_ok' ecv esv
   obtain ⟨C, hC⟩ : ∃ C, C = racC P := ⟨_, rfl⟩
   rw [← hC] at hr1 hokc HEM
   have hcl := okL_len hokc
   have HC := Lib.hid hC
   have hglt := World.row?_lt hr1
   have hsbl := World.block_lt_of_cell? _ _ c0
   clear hrow hfr hC hP hPo ecv esv hgo
   cases hem : emptyX P.1 with
   | true =>
    rw [hem] at HEM
    have HN : Hid (os = liveR (ps.take (k + 1))) := by
     show _ = _
     rw [HTK.out]; unfold liveR; rw [List.filter_append]
     have : [P].filter (fun p => !emptyX p.1) = [] := by simp [hem]
     rw [this, List.append_nil]; exact HR.out.2.1
    go_wp2_with fail
    refine (HEM.out _).mono ?_
    rintro e w3 ⟨rfl, hb3⟩
    have HB3 : Hid (Below w.heap.size w w3 ∧ w3.ownsRow w.heap.size 35 55 _ os.length (rowsR os)) := ⟨HR.out.1.trans (hb3.mono HR.out.1.size), ownsRow_below HR.out.2.2 hb3⟩
    clear hb3 hr1
    go_wp2
    go_roundw
    case rel => exact ⟨k + 1, os, by omega, by go_num, HB3.out.1, HN.out, HB3.out.2⟩
    case measure => simp [intOf]; omega
   | false =>
    rw [hem] at HEM
    go_wp2_with fail
    refine (HEM.out _).mono ?_
    rintro e w3 ⟨rfl, hb3⟩
    have HB3 : Hid (Below w.heap.size w w3 ∧ w3.ownsRow w.heap.size 35 55 _ os.length (rowsR os)) := ⟨HR.out.1.trans (hb3.mono HR.out.1.size), ownsRow_below HR.out.2.2 hb3⟩
    have hr3 : w3.row? g (k * 55) 55 = some C := ((brow hb3).1 _ _ _ hglt).trans hr1
    have c3 := (hb3.cell (p := ⟨sb, 0, none⟩) hsbl).trans c0
    have hszw := HB3.out.1.size
    clear hb3 hr1
    go_wp2_with (at_builtin; go_must (refine wpList_append_at (base := w.heap.size) (n := os.length) (xs := rowsR os) elemG rfl _ _ rfl rfl rfl HB3.out.2 rfl (by simpa using hokc) ?f1 ?f2 ?f3 ?_))
    case f1 => unfold maxLen; omega
    case f2 => omega
    case f3 => exact hszw
    intro v9 w9 hv9 hg9 _
    have HN9 : Hid (Below w.heap.size w w9 ∧ os ++ [P] = liveR (ps.take (k + 1)) ∧ w9.ownsRow w.heap.size 35 55 v9 (os ++ [P]).length (rowsR (os ++ [P]))) := by
     refine ⟨HB3.out.1.grown hg9 hszw (fun k hk => (HB3.out.2.lt k hk).1), ?_, ?_⟩
     ·rw [HTK.out, HR.out.2.1]; unfold liveR; rw [List.filter_append]
      have : [P].filter (fun p => !emptyX p.1) = [P] := by simp [hem]
      rw [this]
     ·rw [List.length_append, rowsR_append]
      have : rowsR [P] = C := by rw [HC.out]; simp [rowsR]
      rw [this]; exact hv9
    clear hv9 hg9
    go_wp2
    go_roundw
    case rel => exact ⟨k + 1, _, by omega, by go_num, HN9⟩
    case measure => simp [intOf]; omega
  ·obtain rfl : k = m := by omega
   have hI : ¬ (k : Int) < k := by omega
   have hos : os = liveR ps := by rw [HR.out.2.1, List.take_of_length_le (by have := HM.out; omega)]
   have hol : os.length ≤ 1000001 := by
    rw [hos]
    have h1 : (liveR ps).length ≤ ps.length := List.length_filter_le _ _
    have := HM.out
    omega
   have HSR := Lib.hid (src_of_own HR.out.2.2 (fun p hp => HW2.out.arr.ok p (List.mem_filter.1 (by rw [hos] at hp; exact hp)).1) hol)
   have HOS := Lib.hid hos
   have hdk : decide ((k : Int) < (k : Int)) = false := decide_eq_false hI
   have hdn : (k < k) = False := eq_false hkm
   clear hkm hos
   go_wp2_with fail
   refine (r_copied HSR.out).mono ?_
   rintro e w3 ⟨v, ds, rfl, hc, hf⟩
   have HCP : Hid (CopR w w3 v ds) := ⟨HR.out.1.trans (hc.below.mono HR.out.1.size), ownsRow_mono hc.own HR.out.1.size, fun p hp => ownsRow_mono (hc.code p hp) HR.out.1.size, fun p hp => ownsRow_mono (hc.slots p hp) HR.out.1.size⟩
   have HF := Lib.hid hf
   clear hc hf
   go_wp2
   go_ret
   exact ⟨v, ds, rfl, HCP.out, HLIVE.out (by rw [HF.out, HOS.out])⟩
theorem fld35_2 (p : RAc × Value × Value) (W : World) : (Instr.field 35 (.agg (racC p).toArray) 2).run Tryz.prog W = .ok (.agg (beC 32 p.1.ac.bal).toArray) W := by
 have h : ∀ C : List Value, (Instr.field 35 (.agg C.toArray) 2).run Tryz.prog W = .ok (.agg (C.toArray.extract 21 (21 + 32))) W := fun C => by kernel_rfl
 rw [h]
 have e : (racC p).toArray.extract 21 (21 + 32) = (beC 32 p.1.ac.bal).toArray := by
  rw [List.extract_toArray, List.extract_eq_take_drop]
  have hs := cat_split (l := acS p.1.ac p.2.1 p.2.2) (i := 2) rfl
  have h1 : (cat ((acS p.1.ac p.2.1 p.2.2).take 2)).length = 21 := by simp [acS, cat_len_cons, cat_len_nil]
  unfold racC
  rw [hs, ← h1, List.drop_left, h1, show 21 + 32 - 21 = (beC 32 p.1.ac.bal).length by simp, List.take_left]
 rw [e]
theorem fld35_3 (p : RAc × Value × Value) (W : World) : (Instr.field 35 (.agg (racC p).toArray) 3).run Tryz.prog W = .ok p.2.1 W := by
 have h : ∀ C : List Value, (Instr.field 35 (.agg C.toArray) 3).run Tryz.prog W = ((match C.toArray[53]? with | some v => pure v | none => stuck "part: no such cell") : Sem Value).run Tryz.prog W := fun C => by kernel_rfl
 rw [h]
 have e : (racC p).toArray[53]? = some p.2.1 := by
  rw [List.getElem?_toArray]
  have hs := cat_split (l := acS p.1.ac p.2.1 p.2.2) (i := 3) rfl
  have h1 : (cat ((acS p.1.ac p.2.1 p.2.2).take 3)).length = 53 := by simp [acS, cat_len_cons, cat_len_nil]
  unfold racC
  rw [hs, List.getElem?_append_right (by omega), h1]; rfl
 rw [e]; rfl
theorem got_bal {w : World} {own : Go.Mun.Own} {S : St} {n a : Nat} {p : RAc × Value × Value} (h : GotR w own S n a p) : p.1.ac.bal = (S a).bal := by rw [← h.acc]; rfl
theorem cmp_neg (n m : Nat) : decide (cmpN n m < 0) = decide (n < m) := by
 unfold cmpN
 by_cases h : n < m
 ·rw [if_pos h]; simp [h]
 ·rw [if_neg h]; split <;> simp [h]
theorem box32 (W : World) (C : List Value) (h : okL 32 C = true) : Below W.heap.size W ((W.alloc (.cells (zU8 32).toArray 25)).setCells W.heap.size 0 C) ∧ ((W.alloc (.cells (zU8 32).toArray 25)).setCells W.heap.size 0 C).row? W.heap.size 0 32 = some C := by
 have hf : (W.alloc (.cells (zU8 32).toArray 25)).free? W.heap.size 0 32 = true := World.free?_alloc_at _ _ rfl (by simp)
 exact ⟨((Below.refl _ _).alloc (Nat.le_refl _) _).setCells (Nat.le_refl _) _ _, row?_setCells_whole C hf h⟩
structure MvR (w : World) (a b v : Nat) (W : World) : Prop where
 t5 : W.row? w.heap.size 0 20 = some (beC 20 a)
 t6 : W.row? (w.heap.size + 1) 0 20 = some (beC 20 b)
 t7 : W.row? (w.heap.size + 1 + 1) 0 32 = some (beC 32 v)
theorem MvR.next {w W W' : World} {a b v : Nat} (h : MvR w a b v W) (hb : Below W.heap.size W W') : MvR w a b v W' :=
 ⟨((brow hb).1 _ _ _ (World.row?_lt h.t5)).trans h.t5, ((brow hb).1 _ _ _ (World.row?_lt h.t6)).trans h.t6, ((brow hb).1 _ _ _ (World.row?_lt h.t7)).trans h.t7⟩
theorem MvR.start (w : World) (a b v : Nat) : MvR w a b v (((w.alloc (.cells (beC 20 a).toArray 23)).alloc (.cells (beC 20 b).toArray 23)).alloc (.cells (beC 32 v).toArray 25)) := by
 refine ⟨?_, ?_, ?_⟩
 ·rw [World.row?_alloc_lt _ (by simp; omega), World.row?_alloc_lt _ (by simp)]; exact World.row?_alloc_at _ _ _ rfl (by simp)
 ·rw [World.row?_alloc_lt _ (by simp)]; exact World.row?_alloc_at _ _ _ (by simp) (by simp)
 ·exact World.row?_alloc_at _ _ _ (by simp) (by simp)
theorem mv_wrap {x y v : Nat} (hy : y < wW) (hv : v < wW) : (wW ≤ y + v → cmpN ((y + v) % wW) y = -1) ∧ (¬ wW ≤ y + v → ¬ cmpN ((y + v) % wW) y < 0) := by
 constructor
 ·intro h
  have e : (y + v) % wW = y + v - wW := by rw [Nat.mod_eq_sub_mod h, Nat.mod_eq_of_lt (by omega)]
  rw [e]; exact cmpN_lt (by omega)
 ·intro h
  rw [Nat.mod_eq_of_lt (by omega)]
  unfold cmpN; rw [if_neg (by omega)]; split <;> omega
def MoveR (w : World) (own : Go.Mun.Own) (sb : Nat) (S : St) (M : List (Nat × St)) (n : Nat) (r : Option St) (e : Ending) (w' : World) : Prop :=
 match r with
 | none => e = .returned (.bool false) ∧ ∃ own', RState w' own' sb S M n ∧ ChgR w w' own own'
 | some S1 => e = .returned (.bool true) ∧ ∃ own', RState w' own' sb S1 M n ∧ ChgR w w' own own'
set_option maxRecDepth 100000 in
set_option maxHeartbeats 4000000 in
theorem r_move {w : World} {own : Go.Mun.Own} {sb a b v n : Nat} {S : St} {M : List (Nat × St)} (h : RState w own sb S M n) (ha : a < wA) (hbw : b < wA) (hv : v < wW) (hn : n ≤ 999990) :
  Calls Tryz.prog 107 #[.pointer (some ⟨sb, 0, none⟩), .agg (beC 20 a).toArray, .agg (beC 20 b).toArray, .agg (beC 32 v).toArray] w (MoveR w own sb S M (n + 4) (S.move a b v)) := by
 obtain ⟨w0, e0⟩ : ∃ w0, w0 = ((w.alloc (.cells (beC 20 a).toArray 23)).alloc (.cells (beC 20 b).toArray 23)).alloc (.cells (beC 32 v).toArray 25) := ⟨_, rfl⟩
 have hb0 : Below w.heap.size w w0 := by rw [e0]; exact (((Below.refl _ _).alloc (Nat.le_refl _) _).alloc (by simp) _).alloc (by simp; omega) _
 have hm0 : MvR w a b v w0 := by rw [e0]; exact MvR.start w a b v
 have q5 := hm0.t5
 have hst := h.below hb0
 have HST := Lib.hid hst
 have HM0 := Lib.hid hm0
 have HE := Lib.hid e0
 have HB0 := Lib.hid hb0
 have HA := Lib.hid ha
 have HBW := Lib.hid hbw
 have HV := Lib.hid hv
 have HN := Lib.hid hn
 have h0 := Lib.hid h
 have hla := beC_len 20 a
 have hlb := beC_len 20 b
 have hlv := beC_len 32 v
 rw [e0] at q5
 clear e0 hb0 hm0 hst h hn
 go_enter Tryz.func107, Tryz.ntmps107
 go_wp2_with fail
 rw [← HE.out]
 refine (r_get HST.out ha (by have := HN.out; omega)).mono ?_
 rintro e w1 ⟨p, rfl, hb1, hg1⟩
 obtain ⟨x, hx⟩ : ∃ x, x = (S a).bal := ⟨_, rfl⟩
 have hfp : ∀ W, (Instr.field 35 (.agg (racC p).toArray) 2).run Tryz.prog W = .ok (.agg (beC 32 x).toArray) W := fun W => by rw [fld35_2, got_bal hg1, hx]
 have hxW : x < wW := by rw [hx, ← got_bal hg1]; exact hg1.ok.bal
 obtain ⟨C, hC⟩ : ∃ C, C = racC p := ⟨_, rfl⟩
 rw [← hC] at hfp ⊢
 have hlx := beC_len 32 x
 have hokx := beC_ok 32 x
 obtain ⟨g2, r2⟩ := box32 w1 (beC 32 x) hokx
 obtain ⟨w2, e2⟩ : ∃ w2, w2 = (w1.alloc (.cells (zU8 32).toArray 25)).setCells w1.heap.size 0 (beC 32 x) := ⟨_, rfl⟩
 rw [← e2] at g2 r2
 obtain ⟨B1, hB1⟩ : ∃ B1, B1 = w1.heap.size := ⟨_, rfl⟩
 have hm2 : MvR w a b v w2 := (HM0.out.next hb1).next g2
 have HB2 : Hid (Below w0.heap.size w0 w2) := hb1.trans (g2.mono hb1.size)
 have HST2 := Lib.hid ((HST.out.below hb1).below g2)
 have q6 := hm2.t6
 rw [e2] at q6
 have HM2 := Lib.hid hm2
 have HE2 := Lib.hid e2
 have HX := Lib.hid hx
 have R1 : Hid (w2.row? B1 0 32 = some (beC 32 x)) := by rw [hB1]; exact r2
 have HB1 := Lib.hid hB1
 have HOB1 : Hid (own B1 = none) := own_new h0.out (by rw [hB1]; have := HB0.out.size; have := hb1.size; omega)
 clear hb1 hg1 hx hC g2 r2 e2 hm2 hB1 q5
 go_wp2_with fail
 rw [← HE2.out]
 rw [← HB1.out]
 refine (r_get HST2.out hbw (by have := HN.out; omega)).mono ?_
 rintro e w3 ⟨p2, rfl, hb3, hg3⟩
 obtain ⟨y, hy⟩ : ∃ y, y = (S b).bal := ⟨_, rfl⟩
 have hfp2 : ∀ W, (Instr.field 35 (.agg (racC p2).toArray) 2).run Tryz.prog W = .ok (.agg (beC 32 y).toArray) W := fun W => by rw [fld35_2, got_bal hg3, hy]
 have hyW : y < wW := by rw [hy, ← got_bal hg3]; exact hg3.ok.bal
 obtain ⟨D, hD⟩ : ∃ D, D = racC p2 := ⟨_, rfl⟩
 rw [← hD] at hfp2 ⊢
 have hly := beC_len 32 y
 have hoky := beC_ok 32 y
 obtain ⟨g4, r4⟩ := box32 w3 (beC 32 y) hoky
 obtain ⟨w4, e4⟩ : ∃ w4, w4 = (w3.alloc (.cells (zU8 32).toArray 25)).setCells w3.heap.size 0 (beC 32 y) := ⟨_, rfl⟩
 rw [← e4] at g4 r4
 obtain ⟨B2, hB2⟩ : ∃ B2, B2 = w3.heap.size := ⟨_, rfl⟩
 have hm4 : MvR w a b v w4 := (HM2.out.next hb3).next g4
 have hb24 : Below w2.heap.size w2 w4 := hb3.trans (g4.mono hb3.size)
 have HB4 : Hid (Below w0.heap.size w0 w4) := HB2.out.trans (hb24.mono HB2.out.size)
 have HST4 := Lib.hid (HST2.out.below hb24)
 have s1 : w4.row? B1 0 32 = some (beC 32 x) := ((brow hb24).1 _ _ _ (World.row?_lt R1.out)).trans R1.out
 have s7 := hm4.t7
 have HM4 := Lib.hid hm4
 have HE4 := Lib.hid e4
 have HY := Lib.hid hy
 have R1b := Lib.hid s1
 have R2 : Hid (w4.row? B2 0 32 = some (beC 32 y)) := by rw [hB2]; exact r4
 have HB2b := Lib.hid hB2
 rw [e4] at s1 s7
 clear hb3 hg3 hy hD g4 r4 e4 hm4 hb24 hB2 hfp q6
 go_wp2_with fail
 rw [← HE4.out]
 rw [← HB2b.out]
 refine (ref_Cmp x v hxW hv _).mono ?_
 rintro e w5 ⟨rfl, hb5⟩
 have hm5 := HM4.out.next hb5
 have HST5 := Lib.hid (HST4.out.below hb5)
 have HB5 : Hid (Below w0.heap.size w0 w5) := HB4.out.trans (hb5.mono HB4.out.size)
 have R15 : Hid (w5.row? B1 0 32 = some (beC 32 x)) := ((brow hb5).1 _ _ _ (World.row?_lt R1b.out)).trans R1b.out
 have R25 : Hid (w5.row? B2 0 32 = some (beC 32 y)) := ((brow hb5).1 _ _ _ (World.row?_lt R2.out)).trans R2.out
 have u5 := hm5.t5
 have u6 := hm5.t6
 have u7 := hm5.t7
 have u2 := R25.out
 have HM5 := Lib.hid hm5
 clear hb5 hm5 s1 s7 hfp2
 by_cases hlt : x < v
 ·have hd : decide (cmpN x v < 0) = true := by rw [cmp_neg]; exact decide_eq_true hlt
  have hcI : cmpN x v = -1 := cmpN_lt hlt
  have HR : Hid (S.move a b v = none) := by show _ = _; unfold St.move; rw [if_pos (by rw [← HX.out]; exact hlt)]
  rw [hcI]
  clear hlt hd hcI
  go_wp2
  go_ret
  rw [HR.out]
  exact ⟨rfl, own, HST5.out.mono (by omega), ChgR.below own (HB0.out.trans (HB5.out.mono HB0.out.size))⟩
 have hge : ¬ cmpN x v < 0 := by have := cmp_neg x v; intro h; rw [decide_eq_true h] at this; exact hlt (of_decide_eq_true this.symm)
 have hd : decide (cmpN x v < 0) = false := decide_eq_false hge
 generalize hcv : cmpN x v = cv at *
 have heq := eqA (a := a) (b := b) HA.out HBW.out w5
 have HLT := Lib.hid hlt
 clear hlt hcv
 by_cases hab : a = b
 ·have hda : decide (a = b) = true := decide_eq_true hab
  rw [hda] at heq
  have HR : Hid (S.move a b v = some S) := by show _ = _; unfold St.move; rw [if_neg (by rw [← HX.out]; exact HLT.out), if_pos hab]
  clear hab hda
  go_wp2
  go_ret
  rw [HR.out]
  exact ⟨rfl, own, HST5.out.mono (by omega), ChgR.below own (HB0.out.trans (HB5.out.mono HB0.out.size))⟩
 have hda : decide (a = b) = false := decide_eq_false hab
 rw [hda] at heq
 have HAB := Lib.hid hab
 clear hab hda
 go_wp2_with fail
 obtain ⟨z, hz⟩ : ∃ z, z = (y + v) % wW := ⟨_, rfl⟩
 have hzW : z < wW := by rw [hz]; exact Nat.mod_lt _ (by decide)
 have hzb : beC 32 (y + v) = beC 32 z := beC_modR 32 _ _ (by rw [hz, wW_eq, Nat.mod_mod])
 have hadd := fun W => ref_Add y v hyW hv W
 rw [hzb] at hadd
 refine (hadd _).mono ?_
 rintro e w6 ⟨rfl, hb6⟩
 have hlz := beC_len 32 z
 have hokz := beC_ok 32 z
 obtain ⟨g7, r7⟩ := box32 w6 (beC 32 z) hokz
 obtain ⟨w7, e7⟩ : ∃ w7, w7 = (w6.alloc (.cells (zU8 32).toArray 25)).setCells w6.heap.size 0 (beC 32 z) := ⟨_, rfl⟩
 rw [← e7] at g7 r7
 obtain ⟨B3, hB3⟩ : ∃ B3, B3 = w6.heap.size := ⟨_, rfl⟩
 have hb57 : Below w5.heap.size w5 w7 := hb6.trans (g7.mono hb6.size)
 have hm7 := HM5.out.next hb57
 have HB7 : Hid (Below w0.heap.size w0 w7) := HB5.out.trans (hb57.mono HB5.out.size)
 have HST7 := Lib.hid (HST5.out.below hb57)
 have k1 : w7.row? B1 0 32 = some (beC 32 x) := ((brow hb57).1 _ _ _ (World.row?_lt R15.out)).trans R15.out
 have k2 : w7.row? B2 0 32 = some (beC 32 y) := ((brow hb57).1 _ _ _ (World.row?_lt R25.out)).trans R25.out
 have R17 := Lib.hid k1
 have R37 : Hid (w7.row? B3 0 32 = some (beC 32 z)) := by rw [hB3]; exact r7
 have HM7 := Lib.hid hm7
 have HE7 := Lib.hid e7
 have HB3b := Lib.hid hB3
 have HB6 : Hid (w5.heap.size ≤ B3) := by show _ ≤ _; rw [hB3]; exact hb6.size
 have HZ := Lib.hid hz
 have k3 := r7
 rw [e7] at k2 k3
 clear hb6 hzb hadd g7 r7 e7 hb57 hm7 hB3 hz u5 u6 u7 u2 k1 heq hd hge
 go_wp2_with fail
 rw [← HE7.out]
 rw [← HB3b.out]
 refine (ref_Cmp z y hzW hyW _).mono ?_
 rintro e w8 ⟨rfl, hb8⟩
 have hm8 := HM7.out.next hb8
 have HST8 := Lib.hid (HST7.out.below hb8.drew)
 have HST8b := Lib.hid (HST7.out.below hb8)
 have HB8 : Hid (Below w0.heap.size w0 w8) := HB7.out.trans (hb8.mono HB7.out.size)
 have R18 : Hid (w8.row? B1 0 32 = some (beC 32 x)) := ((brow hb8).1 _ _ _ (World.row?_lt R17.out)).trans R17.out
 have R38 : Hid (w8.row? B3 0 32 = some (beC 32 z)) := ((brow hb8).1 _ _ _ (World.row?_lt R37.out)).trans R37.out
 have HM8 := Lib.hid hm8
 clear hb8 hm8 k2 k3
 have hwrap := mv_wrap (x := x) hyW hv
 rw [← HZ.out] at hwrap
 by_cases how : wW ≤ y + v
 ·have hcI := hwrap.1 how
  have HR : Hid (S.move a b v = none) := by
   show _ = _; unfold St.move
   rw [if_neg (by rw [← HX.out]; exact HLT.out), if_neg HAB.out, if_pos (by rw [← HY.out]; exact how)]
  rw [hcI]
  clear how hcI hwrap
  go_wp2
  go_ret
  rw [HR.out]
  exact ⟨rfl, own, HST8b.out.mono (by omega), ChgR.below own (HB0.out.trans (HB8.out.mono HB0.out.size))⟩
 have hge2 := hwrap.2 how
 have hd2 : decide (cmpN z y < 0) = false := decide_eq_false hge2
 generalize cmpN z y = cz at *
 have HZ2 : Hid (z = y + v) := by show _ = _; rw [HZ.out, Nat.mod_eq_of_lt (by omega)]
 have HR : Hid (S.move a b v = some (upd (upd S a { S a with bal := x - v }) b { upd S a { S a with bal := x - v } b with bal := z })) := by
  show _ = _; unfold St.move
  rw [if_neg (by rw [← HX.out]; exact HLT.out), if_neg HAB.out, if_neg (by rw [← HY.out]; exact how), ← HX.out, ← HY.out, HZ2.out]
  rfl
 have hxv : v ≤ x := Nat.le_of_not_lt HLT.out
 have HSB : Hid (∀ W, Calls Tryz.prog 63 #[.agg (beC 32 x).toArray, .agg (beC 32 v).toArray] W fun e w' => e = .returned (.agg (beC 32 (x - v)).toArray) ∧ Below W.heap.size W w') := by
  intro W
  have h := ref_Sub x v hxW hv W
  have e : beC 32 (x + wW - v) = beC 32 (x - v) := by
   refine beC_modR 32 _ _ ?_
   rw [show x + wW - v = (x - v) + wW by omega, wW_eq, Nat.add_mod_right]
  rw [e] at h; exact h
 have hxvW : x - v < wW := by omega
 generalize x - v = xv at *
 have hlxv := beC_len 32 xv
 have ho1 : own w.heap.size = none := own_new h0.out (Nat.le_refl _)
 have ho2 : own (w.heap.size + 1) = none := own_new h0.out (Nat.le_succ _)
 have HOB3 : Hid (own B3 = none) := own_new h0.out (by have := HB0.out.size; have := HB5.out.size; have h2 := HB6.out; omega)
 have HO := Lib.hid (And.intro ho1 ho2)
 obtain ⟨T, hT⟩ : ∃ T : World → Prop, T = fun W => MvR w a b v W ∧ W.row? B1 0 32 = some (beC 32 x) ∧ W.row? B3 0 32 = some (beC 32 z) := ⟨_, rfl⟩
 have HT := Lib.hid hT
 have t0 : T w8.drew := by rw [hT]; exact ⟨⟨HM8.out.t5, HM8.out.t6, HM8.out.t7⟩, R18.out, R38.out⟩
 clear hT how hwrap hge2 ho1 ho2 hxv
 go_wp2_with fail
 refine wp_region_tree T [] (.pure 0 (.take 1 (.take 2 (.take 3 (.alt 4 (.alt 5 .fin .stop) .stop))))) (by kernel_rfl) (by kernel_rfl) ?_
 refine tree_pure ?_ rfl (by rfl) (fun w' hs => ?_) (fun _ _ _ h => h) ?_
 rotate_left
 ·clear hs
  go_simp
  try rfl
 simp only [Act.put, tsa, tsb, tsc]
 refine tree_take ?_ t0 rfl (by rfl) (fun w' hs => ?_) (fun _ _ _ h => h) ?_
 rotate_left
 ·rw [HT.out] at hs
  obtain ⟨⟨g5, g6, g7⟩, g1, g3⟩ := hs
  go_simp
  try rfl
 simp only [Act.put, tsa, tsb, tsc]
 refine tree_take ?_ t0 rfl (by rfl) (fun w' hs => ?_) (fun _ _ _ h => h) ?_
 rotate_left
 ·rw [HT.out] at hs
  obtain ⟨⟨g5, g6, g7⟩, g1, g3⟩ := hs
  go_simp
  try rfl
 simp only [Act.put, tsa, tsb, tsc]
 refine tree_take ?_ t0 rfl (by rfl) (fun w' hs => ?_) (fun _ _ _ h => h) ?_
 rotate_left
 ·rw [HT.out] at hs
  obtain ⟨⟨g5, g6, g7⟩, g1, g3⟩ := hs
  go_simp
  try rfl
 simp only [Act.put, tsa, tsb, tsc]
 refine tree_run rfl (fun K hK => ?_)
 go_simp
 refine (HSB.out _).mono ?_
 rintro e w9 ⟨rfl, hb9⟩
 have t9 : T w9 := by rw [HT.out] at t0 ⊢; exact ⟨t0.1.next hb9, ((brow hb9).1 _ _ _ (World.row?_lt t0.2.1)).trans t0.2.1, ((brow hb9).1 _ _ _ (World.row?_lt t0.2.2)).trans t0.2.2⟩
 have HST9 := Lib.hid (HST8.out.below hb9)
 have HB9 : Hid (Below w0.heap.size w0 w9) := HB8.out.drew.trans (hb9.mono HB8.out.drew.size)
 clear hb9
 refine hK.out _ _ t9 ?_
 clear hK K
 refine tree_run rfl (fun K hK => ?_)
 go_simp
 refine (r_setBalance HST9.out HA.out hxvW (by have := HN.out; omega)).mono ?_
 rintro e w10 ⟨rfl, own2, st2, c2⟩
 have t10 : T w10 := by
  rw [HT.out] at t9 ⊢
  have hk := fun (i : Nat) (hi : own i = none) (h2 : hot own i) => h2.1 hi
  exact ⟨⟨(c2.only.row? (World.row?_lt t9.1.t5) (hk _ HO.out.1)).trans t9.1.t5, (c2.only.row? (World.row?_lt t9.1.t6) (hk _ HO.out.2)).trans t9.1.t6, (c2.only.row? (World.row?_lt t9.1.t7) (hk _ (own_new h0.out (by omega)))).trans t9.1.t7⟩, (c2.only.row? (World.row?_lt t9.2.1) (hk _ HOB1.out)).trans t9.2.1, (c2.only.row? (World.row?_lt t9.2.2) (hk _ HOB3.out)).trans t9.2.2⟩
 have HC2 := Lib.hid ((ChgR.below own (HB0.out.trans (HB9.out.mono HB0.out.size))).trans c2)
 have HS2 := Lib.hid st2
 clear st2 c2
 refine hK.out _ _ t10 ?_
 clear hK K
 refine tree_fin ?_
 rw [HT.out] at t10
 have v6 := t10.1.t6
 have v3 := t10.2.2
 have HT10 := Lib.hid t10
 clear t0 t9 t10
 go_wp2_with fail
 refine (r_setBalance HS2.out HBW.out hzW (by have := HN.out; omega)).mono ?_
 rintro e w11 ⟨rfl, own3, st3, c3⟩
 have HS3 := Lib.hid st3
 have HC3 := Lib.hid c3
 clear st3 c3 v6 v3
 go_wp2
 go_ret
 rw [HR.out]
 exact ⟨rfl, own3, HS3.out, HC2.out.trans HC3.out⟩
end Go.Proofs.YtiglinnjnobodaaGreat
