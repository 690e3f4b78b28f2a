/-
  The reference's machine: an account ends.
  The machine: SELFDESTRUCT.
  The reference's machine: what a run of PUSH, STOP, SSTORE and SELFDESTRUCT is told.
  The machine: steps of PUSH, SSTORE and SELFDESTRUCT.
  Steps of both plain machines at spelled frames.
  An account that ends: what both machines do of the law's code, in plain words.
  The walk of EvmNames: which accounts are made.
  The law: an account that ends gives all it has to another one, and is nothing any more.
-/
import Derived.Test.YtfflppedbopdpaaGreatXDo1
import Derived.Test.YtfflppedbopdpaaGreatXCx0
import Derived.Test.YtfflppedbopdpaaGreatXEv16
import Derived.Test.YtfflppedbopdpaaGreatXRf4
import Derived.Test.YtfflppedbopdpaaGreatXRf13
import Derived.Test.YtfflppedbopdpaaGreatXRs17
import Derived.Test.YtfflppedbopdpaaGreatXRef5
set_option linter.unusedVariables false
set_option maxRecDepth 1000000
set_option maxHeartbeats 8000000
set_option linter.unusedSimpArgs false
namespace Go.Proofs.YtfflppedbopdpaaGreat
open Go.RowKit Go.Mun

def lowA (k : Nat) : Nat := beN (lowL (be 32 k))
theorem lowA_eq (k : Nat) : u8L (lowL (be 32 k)) = beC 20 (lowA k) := u8L_beN _ 20 (fun x hx => by unfold lowL at hx; exact beQ_byt 32 k x (List.mem_of_mem_drop (List.mem_of_mem_take hx))) (lowL_len _ (be_len _ _))
theorem lowA_lt (k : Nat) : lowA k < wA := by
 have h3 := beN_lt (lowL (be 32 k)) (fun x hx => by unfold lowL at hx; exact beQ_byt 32 k x (List.mem_of_mem_drop (List.mem_of_mem_take hx)))
 rw [lowL_len _ (be_len _ _)] at h3
 exact h3
theorem ref_low_nat (k : Nat) (w : World) : Calls Tryz.prog 35 #[.agg (beC 32 k).toArray] w fun e w' => e = .returned (.agg (beC 20 (lowA k)).toArray) ∧ Below w.heap.size w w' := by
 have h := ref_low (be 32 k) (be_len _ _) w
 rw [u8L_beQ, lowA_eq] at h
 exact h
theorem ex_neqO {P : Program} (ρ : Operand → Value) (dst : Option Tmp) (x y : Operand) (t t2 ty : TypeId) (pos : String) (after : Array Edge) (gd : Option (Nat × Bool)) (w : World) {xs ys : Array Value} {r : Bool} (hm : P.eqGuardType P.depth t = false) (hx : ρ x = .agg xs) (hy : ρ y = .agg ys)
  (h : (binOp .neq t (.agg xs) (.agg ys)).run P w = .ok (.bool r) w) : (execOp ρ ⟨dst, .binOp .neq t x y t2, ty, pos, after, gd⟩).run P w = .ok (.value (.bool r)) w := by
 simp [execOp, hx, hy, Sem.run_bind, run_eqGuard_agg (hm := hm), h]
theorem neA {a b : Nat} (ha : a < wA) (hb : b < wA) (w : World) : (binOp .neq 23 (.agg (beC 20 a).toArray) (.agg (beC 20 b).toArray)).run Tryz.prog w = .ok (.bool (!decide (a = b))) w := by
 have := neq_of (fun d => eqD23 (a := a) (b := b) ha hb w d)
 simpa using this
theorem RFrOk.mono6 {E : REnv} {w : World} {own : Go.Mun.Own} {c : RFV} {f : Fr} {S : St} {M : List (Nat × St)} {n n' : Nat} (h : RFrOk E w own c f S M n) (hn : n ≤ n') (hc : n' + f.gas ≤ E.N) : RFrOk E w own c f S M n' := { h with st := h.st.mono hn, cnt := hc }
def endS (S : St) (a t : Nat) : St := upd (if t = a then S else (S.move a t (S a).bal).getD S) a Acc.none
theorem rcalls_end {E : REnv} {w : World} {own : Go.Mun.Own} {c : RFV} {f : Fr} {S : St} {M : List (Nat × St)} {n : Nat} {v : Value} {k : Nat} (h : RFrOk E w own c f S M n) (hn : n + 8 + f.gas ≤ E.N) (hk : k < wW) (hv : w.ownsRow 0 25 32 v 1 (stkC [k])) :
  Calls Tryz.prog 268 #[.pointer (some ⟨E.fb, 0, none⟩), .int .u8 255, v] w fun e w' => e = .returned (.int .i64 0) ∧ ∃ own', RFrOk E w' own' c { f with ended := true } (endS S f.m.to (lowA k)) M (n + 6) := by
 obtain ⟨g0, vc, hvf, r0⟩ := word_row (b := 0) (l := [k]) hv (i := 0) (by simp)
 subst hvf
 simp only [List.getElem_cons_zero, Nat.zero_mul, List.length_cons, List.length_nil, Nat.zero_add] at r0
 obtain ⟨a, ha⟩ : ∃ a, a = f.m.to := ⟨_, rfl⟩
 obtain ⟨t, htt⟩ : ∃ t, t = lowA k := ⟨_, rfl⟩
 have haW : a < wA := by rw [ha]; exact h.mok.to
 have htW : t < wA := by rw [htt]; exact lowA_lt k
 have hnn : n + 8 ≤ 999000 := by have := h.lim; omega
 have H := hid h
 have HLW := hid (fun w => ref_low_nat k w)
 rw [← htt] at HLW ⊢
 rw [← ha]
 have HAE := hid ha
 have HN := hid hn
 have HNN := hid hnn
 have hlk := beC_len 32 k
 have hokt := beC_ok 20 t
 have hlt := beC_len 20 t
 have hla := beC_len 20 a
 have hz := zU8_len 20
 clear h hn hv hk ha htt hnn
 go_enter Tryz.func268, Tryz.ntmps268
 go_wp2_with fail
 refine (HLW.out _).mono ?_
 rintro e w1 ⟨rfl, hb1⟩
 obtain ⟨x1, x2, x3⟩ := box20 w1 (beC 20 t) hokt
 obtain ⟨B, hB⟩ : ∃ B, B = w1.heap.size := ⟨_, rfl⟩
 obtain ⟨w2, e2⟩ : ∃ w2, w2 = (w1.alloc (.cells (zU8 20).toArray 23)).setCells w1.heap.size 0 (beC 20 t) := ⟨_, rfl⟩
 rw [← e2] at x1 x2
 have hb2 : Below w.heap.size w w2 := hb1.trans (x1.mono hb1.size)
 have h2 := H.out.below hb2
 have H2 := hid h2
 have hcp := rf_ptr h2.row
 have hcs := rf_self h2.row
 rw [← HAE.out] at hcs
 have hcb : w2.row? B 0 20 = some (beC 20 t) := by rw [hB]; exact x2
 obtain ⟨T, hT⟩ : ∃ T : World → Prop, T = fun W => W.cell? ⟨E.fb, 0, none⟩ = some (.pointer (some ⟨E.sb, 0, none⟩)) ∧ W.row? E.fb 173 20 = some (beC 20 a) ∧ W.row? B 0 20 = some (beC 20 t) := ⟨_, rfl⟩
 have HT := hid hT
 have HTN : Hid (∀ W W', T W → Below W.heap.size W W' → T W') := by show ∀ W W', T W → Below W.heap.size W W' → T W'; rw [hT]; intro W W' h hb; exact ⟨(hb.cell (World.block_lt_of_cell? W _ h.1)).trans h.1, ((brow hb).1 _ _ _ (World.row?_lt h.2.1)).trans h.2.1, ((brow hb).1 _ _ _ (World.row?_lt h.2.2)).trans h.2.2⟩
 have HOB : Hid (own B = none) := own_new H.out.st (by rw [hB]; exact hb1.size)
 have HTR : Hid (∀ W W' own', T W → ChgR W W' own own' → T W') := by
  show ∀ W W' own', T W → ChgR W W' own own' → T W'
  rw [hT]
  intro W W' own' h g
  exact ⟨(g.only.cell? (World.block_lt_of_cell? W _ h.1) (not_hot H.out.fown)).trans h.1, (g.only.row? (World.row?_lt h.2.1) (not_hot H.out.fown)).trans h.2.1, (g.only.row? (World.row?_lt h.2.2) (not_hot HOB.out)).trans h.2.2⟩
 have t0 : T w2.drew := HTN.out w2 _ (by rw [hT]; exact ⟨hcp, hcs, hcb⟩) (Below.refl _ _).drew
 have HNE := hid (fun w => neA htW haW w)
 have HE2 := hid e2
 have HBE := hid hB
 have HCG : Hid (ChgR w w2 own own) := ChgR.below own hb2
 clear hb1 x1 x2 e2 hB hb2 h2 hcp hcs hcb hT r0
 by_cases hta : t = a
 ·have hd : decide (t = a) = true := decide_eq_true hta
  rw [hd] at HNE
  simp only [Bool.not_true] at HNE
  have HTA := hid hta
  clear hta hd
  go_wp2_with fail
  rw [← HE2.out]
  rw [← HBE.out]
  refine wp_region_tree T [] (.take 0 (.pure 1 (.pure 2 (.pure 3 (.take 4 (.pure 5 .fin)))))) (by kernel_rfl) (by kernel_rfl) ?_
  iterate 5
   first
   |refine tree_take ?_ t0 rfl (by rfl) (fun w' hs => ?_) (fun _ _ _ h => h) ?_
    rotate_left
    ·rw [HT.out] at hs
     obtain ⟨g1, g2, g3⟩ := hs
     go_simp
     try rfl
    simp only [Act.put, tsa, tsb, tsc]
   |refine tree_pure ?_ rfl (by rfl) (fun w' hs => ?_) (fun _ _ _ h => h) ?_
    rotate_left
    ·clear hs
     go_simp
     try rfl
    simp only [Act.put, tsa, tsb, tsc]
  refine tree_pure (.bool false) rfl (by rfl) (fun w' hs => ?_) (fun _ _ _ h => h) ?_
  ·clear hs
   exact ex_neqO _ _ _ _ _ _ _ _ _ _ _ eg23O rfl rfl (HNE.out _)
  simp only [Act.put, tsa, tsb, tsc]
  refine tree_fin ?_
  go_wp2_with fail
  have HFA : Hid (RFrOk E w2.drew own c f S M n) := H2.out.below (Below.refl _ _).drew
  clear t0
  have hfr := HFA.out.below (Below.refl _ _).drew
  have c0 := rf_ptr hfr.row
  have c1 := rf_self hfr.row
  rw [← HAE.out] at c1
  obtain ⟨T5, hT5⟩ : ∃ T5 : World → Prop, T5 = fun W => W.cell? ⟨E.fb, 0, none⟩ = some (.pointer (some ⟨E.sb, 0, none⟩)) ∧ W.row? E.fb 173 20 = some (beC 20 a) := ⟨_, rfl⟩
  have HT5 := hid hT5
  have t5 : T5 w2.drew.drew := by rw [hT5]; exact ⟨c0, c1⟩
  have HKL := hid (r_kill hfr.st haW (by have := HNN.out; omega))
  have HFR := hid hfr
  clear hT5 c0 c1 hfr
  refine wp_region_tree T5 [8] (.pure 0 (.pure 1 (.pure 2 (.take 3 (.pure 4 (.pure 5 (.pure 6 (.take 7 (.alt 8 .fin .stop))))))))) (by kernel_rfl) (by kernel_rfl) ?_
  iterate 8
   first
   |refine tree_pure ?_ rfl (by rfl) (fun w' hs => ?_) (fun _ _ _ h => h) ?_
    rotate_left
    ·clear hs
     go_simp
     try rfl
    simp only [Act.put, tsa, tsb, tsc]
   |refine tree_take ?_ t5 rfl (by rfl) (fun w' hs => ?_) (fun _ _ _ h => h) ?_
    rotate_left
    ·rw [HT5.out] at hs
     obtain ⟨g1, g2⟩ := hs
     go_simp
     try rfl
    simp only [Act.put, tsa, tsb, tsc]
  refine tree_z rfl (by simp) (fun K hK => ?_)
  go_simp
  refine HKL.out.mono ?_
  rintro e w7 ⟨rfl, own7, st7, g7⟩
  have HF7 := hid (RFrOk.state HFR.out g7 st7 (by have := HN.out; omega))
  clear st7 g7
  refine hK.out _ _ ?_
  clear hK K
  refine tree_fin ?_
  have hf7 := HF7.out.one (i := 235) (by omega)
  have HF8 := hid (HF7.out.ended true)
  clear t5
  go_wp2
  go_ret
  have hes : endS S a t = upd S a Acc.none := by unfold endS; rw [if_pos HTA.out]
  rw [hes]
  refine ⟨rfl, own7, RFrOk.mono6 HF8.out (by omega) (by have := HN.out; show n + 6 + f.gas ≤ E.N; omega)⟩
 ·have hd : decide (t = a) = false := decide_eq_false hta
  rw [hd] at HNE
  simp only [Bool.not_false] at HNE
  have HTA := hid hta
  clear hta hd
  go_wp2_with fail
  rw [← HE2.out]
  rw [← HBE.out]
  refine wp_region_tree T [] (.take 0 (.pure 1 (.pure 2 (.pure 3 (.take 4 (.pure 5 .fin)))))) (by kernel_rfl) (by kernel_rfl) ?_
  iterate 5
   first
   |refine tree_take ?_ t0 rfl (by rfl) (fun w' hs => ?_) (fun _ _ _ h => h) ?_
    rotate_left
    ·rw [HT.out] at hs
     obtain ⟨g1, g2, g3⟩ := hs
     go_simp
     try rfl
    simp only [Act.put, tsa, tsb, tsc]
   |refine tree_pure ?_ rfl (by rfl) (fun w' hs => ?_) (fun _ _ _ h => h) ?_
    rotate_left
    ·clear hs
     go_simp
     try rfl
    simp only [Act.put, tsa, tsb, tsc]
  refine tree_pure (.bool true) rfl (by rfl) (fun w' hs => ?_) (fun _ _ _ h => h) ?_
  ·clear hs
   exact ex_neqO _ _ _ _ _ _ _ _ _ _ _ eg23O rfl rfl (HNE.out _)
  simp only [Act.put, tsa, tsb, tsc]
  refine tree_fin ?_
  go_wp2_with fail
  have t1 : T w2.drew.drew := HTN.out _ _ t0 (Below.refl _ _).drew
  have HFd : Hid (RFrOk E w2.drew.drew own c f S M n) := H2.out.below (Below.refl _ _).drew.drew
  obtain ⟨x, hx⟩ : ∃ x, x = (S a).bal := ⟨_, rfl⟩
  have HX := hid hx
  have hxW : x < wW := by rw [hx]; exact H2.out.st.bal a
  clear hx t0
  refine wp_region_tree T [] (.pure 0 (.pure 1 (.pure 2 (.take 3 (.pure 4 (.pure 5 (.pure 6 (.take 7 (.take 8 (.pure 9 (.pure 10 (.pure 11 (.take 12 (.pure 13 (.pure 14 (.pure 15 (.take 16 (.alt 17 (.pure 18 (.alt 19 .fin .stop)) .stop)))))))))))))))))) (by kernel_rfl) (by kernel_rfl) ?_
  iterate 17
   first
   |refine tree_pure ?_ rfl (by rfl) (fun w' hs => ?_) (fun _ _ _ h => h) ?_
    rotate_left
    ·clear hs
     go_simp
     try rfl
    simp only [Act.put, tsa, tsb, tsc]
   |refine tree_take ?_ t1 rfl (by rfl) (fun w' hs => ?_) (fun _ _ _ h => h) ?_
    rotate_left
    ·rw [HT.out] at hs
     obtain ⟨g1, g2, g3⟩ := hs
     go_simp
     try rfl
    simp only [Act.put, tsa, tsb, tsc]
  refine tree_run rfl (fun K hK => ?_)
  go_simp
  refine (r_get HFd.out.st haW (by have := HNN.out; omega)).mono ?_
  rintro e w4 ⟨p, rfl, hb4, hg4⟩
  have hfp : ∀ W, (Instr.field 35 (.agg (racC p).toArray) 2).run Tryz.prog W = .ok (.agg (beC 32 x).toArray) W := fun W => by rw [fld35_2, got_bal hg4, HX.out]
  obtain ⟨C, hC⟩ : ∃ C, C = racC p := ⟨_, rfl⟩
  rw [← hC] at hfp ⊢
  have t2 : T w4 := HTN.out _ _ t1 hb4
  have HF4 := hid (HFd.out.below hb4)
  clear hb4 hg4 hC
  refine hK.out _ _ t2 ?_
  clear hK K
  refine tree_pure ?_ rfl (by rfl) (fun w' hs => ?_) (fun _ _ _ h => h) ?_
  rotate_left
  ·clear hs
   go_simp
   try rfl
  simp only [Act.put, tsa, tsb, tsc]
  refine tree_run rfl (fun K hK => ?_)
  go_simp
  have hmv := r_move HF4.out.st haW htW hxW (by have := HNN.out; omega)
  have hmv2 : Calls Tryz.prog 69 #[.pointer (some ⟨E.sb, 0, none⟩), .agg (beC 20 a).toArray, .agg (beC 20 t).toArray, .agg (beC 32 x).toArray] w4 fun e w5 => (∃ b, e = .returned (.bool b)) ∧ ∃ own5, RState w5 own5 E.sb ((S.move a t x).getD S) M (n + 4) ∧ ChgR w4 w5 own own5 := by
   refine hmv.mono ?_
   intro e w5 hh
   unfold MoveR at hh
   cases em : S.move a t x with
   | none => rw [em] at hh; exact ⟨⟨_, hh.1⟩, hh.2⟩
   | some S1 => rw [em] at hh; exact ⟨⟨_, hh.1⟩, hh.2⟩
  refine hmv2.mono ?_
  rintro e w5 ⟨⟨b5, rfl⟩, own5, st5, g5⟩
  have HF5 := hid (RFrOk.state HF4.out g5 st5 (by have := HN.out; omega))
  have t3 : T w5 := HTR.out _ _ _ t2 g5
  clear st5 g5 hmv hmv2
  refine hK.out _ _ t3 ?_
  clear hK K
  refine tree_fin ?_
  clear t1 t2 t3 hfp
  have hfr := HF5.out.below (Below.refl _ _).drew
  have c0 := rf_ptr hfr.row
  have c1 := rf_self hfr.row
  rw [← HAE.out] at c1
  obtain ⟨T5, hT5⟩ : ∃ T5 : World → Prop, T5 = fun W => W.cell? ⟨E.fb, 0, none⟩ = some (.pointer (some ⟨E.sb, 0, none⟩)) ∧ W.row? E.fb 173 20 = some (beC 20 a) := ⟨_, rfl⟩
  have HT5 := hid hT5
  have t5 : T5 w5.drew := by rw [hT5]; exact ⟨c0, c1⟩
  have HKL := hid (r_kill hfr.st haW (by have := HNN.out; omega))
  have HFR := hid hfr
  clear hT5 c0 c1 hfr
  go_wp2_with fail
  refine wp_region_tree T5 [8] (.pure 0 (.pure 1 (.pure 2 (.take 3 (.pure 4 (.pure 5 (.pure 6 (.take 7 (.alt 8 .fin .stop))))))))) (by kernel_rfl) (by kernel_rfl) ?_
  iterate 8
   first
   |refine tree_pure ?_ rfl (by rfl) (fun w' hs => ?_) (fun _ _ _ h => h) ?_
    rotate_left
    ·clear hs
     go_simp
     try rfl
    simp only [Act.put, tsa, tsb, tsc]
   |refine tree_take ?_ t5 rfl (by rfl) (fun w' hs => ?_) (fun _ _ _ h => h) ?_
    rotate_left
    ·rw [HT5.out] at hs
     obtain ⟨g1, g2⟩ := hs
     go_simp
     try rfl
    simp only [Act.put, tsa, tsb, tsc]
  refine tree_z rfl (by simp) (fun K hK => ?_)
  go_simp
  refine HKL.out.mono ?_
  rintro e w7 ⟨rfl, own7, st7, g7⟩
  have HF7 := hid (RFrOk.state HFR.out g7 st7 (by have := HN.out; omega))
  clear st7 g7
  refine hK.out _ _ ?_
  clear hK K
  refine tree_fin ?_
  have hf7 := HF7.out.one (i := 235) (by omega)
  have HF8 := hid (HF7.out.ended true)
  clear t5
  go_wp2
  go_ret
  have hes : endS S a t = upd ((S.move a t x).getD S) a Acc.none := by unfold endS; rw [if_neg HTA.out, HX.out]
  rw [hes]
  exact ⟨rfl, own7, HF8.out⟩
theorem evm_low_nat (k : Nat) (w : World) : Calls Tryz.prog 29 #[.agg (beC 32 k).toArray] w fun e w' => e = .returned (.agg (beC 20 (lowA k)).toArray) ∧ Below w.heap.size w w' := by
 have h := evm_low (be 32 k) (be_len _ _) w
 rw [u8L_beQ, lowA_eq] at h
 exact h
theorem evm_destruct {E : Env} {w : World} {own : Go.Mun.Own} {c : FV} {f : Fr} {S : St} {n : Nat} {v : Value} (k : Nat) (h : FrOk E w own c f S n) (hN : E.N ≤ 1099511627776) (hs : n + 3 + f.gas ≤ E.N) (hw : Wds E.w0.heap.size w v [k]) (hgf : ∀ g, v.ownBlock = some g → g ≠ E.fb ∧ own g = none) :
  Calls Tryz.prog 155 #[.pointer (some ⟨E.fb, 0, none⟩), v] w (Post E (.ok { f with ended := true } (endS S f.m.to (lowA k)))) := by
 obtain ⟨g, cc, rfl, hgb, hgl, hc1, hc2, hrow⟩ := hw.at (by simp)
 have hg0 := hrow 0 (by simp)
 simp only [Nat.zero_mul, List.getElem?_cons_zero, Option.getD_some] at hg0
 obtain ⟨a, ha⟩ : ∃ a, a = f.m.to := ⟨_, rfl⟩
 obtain ⟨t, htt⟩ : ∃ t, t = lowA k := ⟨_, rfl⟩
 have haW : a < wA := by rw [ha]; exact h.mok.to
 have htW : t < wA := by rw [htt]; exact lowA_lt k
 have H := hid h
 have HLW := hid (fun w => evm_low_nat k w)
 rw [← htt] at HLW ⊢
 rw [← ha]
 have HAE := hid ha
 have HN := hid hN
 have HS := hid hs
 have hlk := beC_len 32 k
 have hokt := beC_ok 20 t
 have hlt := beC_len 20 t
 have hla := beC_len 20 a
 have hz := zU8_len 20
 clear h hN hs hw hrow hgb hgl hc1 hc2 hgf ha htt
 have hcx : ([k] : List Nat).length = 1 := rfl
 rw [hcx]
 clear hcx
 go_enter Tryz.func155, Tryz.ntmps155
 go_wp2_with fail
 refine (HLW.out _).mono ?_
 rintro e w1 ⟨rfl, hb1⟩
 obtain ⟨x1, x2, x3⟩ := box20 w1 (beC 20 t) hokt
 obtain ⟨B, hB⟩ : ∃ B, B = w1.heap.size := ⟨_, rfl⟩
 obtain ⟨w2, e2⟩ : ∃ w2, w2 = (w1.alloc (.cells (zU8 20).toArray 23)).setCells w1.heap.size 0 (beC 20 t) := ⟨_, rfl⟩
 rw [← e2] at x1 x2
 have hb2 : Below w.heap.size w w2 := hb1.trans (x1.mono hb1.size)
 have h2 := H.out.below (hb2.drew)
 have H2 := hid h2
 have hcb : w2.drew.row? B 0 20 = some (beC 20 t) := by rw [hB]; exact x2
 obtain ⟨T, hT⟩ : ∃ T : World → Prop, T = fun W => W.cell? ⟨E.fb, 0, none⟩ = some (.pointer (some ⟨E.rb, 0, none⟩)) ∧ W.cell? ⟨E.rb, 0, none⟩ = some (.pointer (some ⟨E.sb, 0, none⟩)) ∧ W.row? E.fb 22 20 = some (beC 20 a) ∧ W.row? B 0 20 = some (beC 20 t) := ⟨_, rfl⟩
 have HT := hid hT
 have HOB : Hid (own B = none) := free_own H.out.st.lows (by rw [hB]; exact hb1.size)
 have HTF : Hid (∀ W own' c' f' S' n', FrOk E W own' c' f' S' n' → f'.m.to = a → W.row? B 0 20 = some (beC 20 t) → T W) := by
  show ∀ W own' c' f' S' n', FrOk E W own' c' f' S' n' → f'.m.to = a → W.row? B 0 20 = some (beC 20 t) → T W
  rw [hT]
  intro W own' c' f' S' n' h1 h2 h3
  exact ⟨fr_pointer h1.row, (h1.run.chg h1.chg).sp, by rw [← h2]; exact msg_to (fr_m h1.row), h3⟩
 have HRB := hid hcb
 have t0 : T w2.drew := HTF.out _ _ _ _ _ _ h2 HAE.out.symm hcb
 have HNE := hid (fun w => neA htW haW w)
 have HE2 := hid e2
 have HBE := hid hB
 clear hb1 x1 x2 e2 hB hb2 h2 hcb hT
 by_cases hta : t = a
 ·have hd : decide (t = a) = true := decide_eq_true hta
  rw [hd] at HNE
  simp only [Bool.not_true] at HNE
  have HTA := hid hta
  clear hta hd
  go_wp2_with fail
  rw [← HE2.out]
  rw [← HBE.out]
  refine wp_region_tree T [] (.take 0 (.pure 1 (.pure 2 (.pure 3 (.pure 4 (.take 5 (.pure 6 .fin))))))) (by kernel_rfl) (by kernel_rfl) ?_
  iterate 6
   first
   |refine tree_take ?_ t0 rfl (by rfl) (fun w' hs => ?_) (fun _ _ _ h => h) ?_
    rotate_left
    ·rw [HT.out] at hs
     obtain ⟨g1, g2, g3, g4⟩ := hs
     go_simp
     try rfl
    simp only [Act.put, tsa, tsb, tsc]
   |refine tree_pure ?_ rfl (by rfl) (fun w' hs => ?_) (fun _ _ _ h => h) ?_
    rotate_left
    ·clear hs
     go_simp
     try rfl
    simp only [Act.put, tsa, tsb, tsc]
  refine tree_pure (.bool false) rfl (by rfl) (fun w' hs => ?_) (fun _ _ _ h => h) ?_
  ·clear hs
   exact ex_neqO _ _ _ _ _ _ _ _ _ _ _ eg23O rfl rfl (HNE.out _)
  simp only [Act.put, tsa, tsb, tsc]
  refine tree_fin ?_
  go_wp2_with fail
  have HX := hid (H2.out.below (Below.refl _ _).drew)
  have HRX : Hid (w2.drew.drew.row? B 0 20 = some (beC 20 t)) := HRB.out
  have tX : T w2.drew.drew := HTF.out _ _ _ _ _ _ HX.out HAE.out.symm HRX.out
  clear t0
  refine wp_region_tree T [] (.pure 0 (.pure 1 (.pure 2 (.take 3 (.pure 4 (.pure 5 (.take 6 (.pure 7 (.pure 8 (.pure 9 (.pure 10 (.take 11 (.alt 12 .fin .stop))))))))))))) (by kernel_rfl) (by kernel_rfl) ?_
  iterate 12
   first
   |refine tree_pure ?_ rfl (by rfl) (fun w' hs => ?_) (fun _ _ _ h => h) ?_
    rotate_left
    ·clear hs
     go_simp
     try rfl
    simp only [Act.put, tsa, tsb, tsc]
   |refine tree_take ?_ tX rfl (by rfl) (fun w' hs => ?_) (fun _ _ _ h => h) ?_
    rotate_left
    ·rw [HT.out] at hs
     obtain ⟨g1, g2, g3, g4⟩ := hs
     go_simp
     try rfl
    simp only [Act.put, tsa, tsb, tsc]
  refine tree_run rfl (fun K hK => ?_)
  go_simp
  refine (st_kill HX.out.st a haW (by have := HS.out; have := HN.out; omega)).mono ?_
  rintro e w7 ⟨rfl, own7, st7, g7⟩
  have h7 := HX.out.state g7 st7 (by have := HS.out; omega) (by omega)
  have t7 : T w7 := HTF.out _ _ _ _ _ _ h7 HAE.out.symm (box_kept HRX.out HOB.out g7)
  have H7 := hid h7
  clear st7 g7 h7
  refine hK.out _ _ t7 ?_
  clear hK K
  refine tree_fin ?_
  have f7 := H7.out.one (i := 140) (by omega)
  have H8 := hid (H7.out.ended true)
  clear t7
  go_wp2
  go_end0
  have hes : endS S a t = upd S a Acc.none := by unfold endS; rw [if_pos HTA.out]
  rw [hes]
  exact ⟨rfl, own7, c, _, H8.out⟩
 ·have hd : decide (t = a) = false := decide_eq_false hta
  rw [hd] at HNE
  simp only [Bool.not_false] at HNE
  have HTA := hid hta
  clear hta hd
  go_wp2_with fail
  rw [← HE2.out]
  rw [← HBE.out]
  refine wp_region_tree T [] (.take 0 (.pure 1 (.pure 2 (.pure 3 (.pure 4 (.take 5 (.pure 6 .fin))))))) (by kernel_rfl) (by kernel_rfl) ?_
  iterate 6
   first
   |refine tree_take ?_ t0 rfl (by rfl) (fun w' hs => ?_) (fun _ _ _ h => h) ?_
    rotate_left
    ·rw [HT.out] at hs
     obtain ⟨g1, g2, g3, g4⟩ := hs
     go_simp
     try rfl
    simp only [Act.put, tsa, tsb, tsc]
   |refine tree_pure ?_ rfl (by rfl) (fun w' hs => ?_) (fun _ _ _ h => h) ?_
    rotate_left
    ·clear hs
     go_simp
     try rfl
    simp only [Act.put, tsa, tsb, tsc]
  refine tree_pure (.bool true) rfl (by rfl) (fun w' hs => ?_) (fun _ _ _ h => h) ?_
  ·clear hs
   exact ex_neqO _ _ _ _ _ _ _ _ _ _ _ eg23O rfl rfl (HNE.out _)
  simp only [Act.put, tsa, tsb, tsc]
  refine tree_fin ?_
  go_wp2_with fail
  have HX := hid (H2.out.below (Below.refl _ _).drew)
  have HRX : Hid (w2.drew.drew.row? B 0 20 = some (beC 20 t)) := HRB.out
  have tX : T w2.drew.drew := HTF.out _ _ _ _ _ _ HX.out HAE.out.symm HRX.out
  clear t0
  refine wp_region_tree T [] (.pure 0 (.pure 1 (.pure 2 (.take 3 (.pure 4 (.pure 5 (.take 6 (.pure 7 (.pure 8 (.pure 9 (.pure 10 (.take 11 (.take 12 (.pure 13 (.pure 14 (.pure 15 (.take 16 (.pure 17 (.pure 18 (.take 19 (.pure 20 (.pure 21 (.pure 22 (.pure 23 (.take 24 (.alt 25 (.alt 26 .fin .stop) .stop)))))))))))))))))))))))))) (by kernel_rfl) (by kernel_rfl) ?_
  iterate 25
   first
   |refine tree_pure ?_ rfl (by rfl) (fun w' hs => ?_) (fun _ _ _ h => h) ?_
    rotate_left
    ·clear hs
     go_simp
     try rfl
    simp only [Act.put, tsa, tsb, tsc]
   |refine tree_take ?_ tX rfl (by rfl) (fun w' hs => ?_) (fun _ _ _ h => h) ?_
    rotate_left
    ·rw [HT.out] at hs
     obtain ⟨g1, g2, g3, g4⟩ := hs
     go_simp
     try rfl
    simp only [Act.put, tsa, tsb, tsc]
  refine tree_run rfl (fun K hK => ?_)
  go_simp
  refine (st_balance HX.out.st a haW).mono ?_
  rintro e w3 ⟨rfl, hb3⟩
  have H3 := hid (HX.out.below hb3)
  have HR3 : Hid (w3.row? B 0 20 = some (beC 20 t)) := ((brow hb3).1 _ _ _ (World.row?_lt HRX.out)).trans HRX.out
  have t3 : T w3 := HTF.out _ _ _ _ _ _ H3.out HAE.out.symm HR3.out
  clear hb3
  refine hK.out _ _ t3 ?_
  clear hK K
  refine tree_run rfl (fun K hK => ?_)
  go_simp
  refine (st_move H3.out.st a t (S a).bal haW htW (H3.out.st.bal a) (by have := HS.out; have := HN.out; omega)).mono ?_
  rintro e w4 ⟨rfl, own4, st4, g4⟩
  have h4 := H3.out.state g4 st4 (by have := HS.out; omega) (by omega)
  have HR4 : Hid (w4.row? B 0 20 = some (beC 20 t)) := box_kept HR3.out HOB.out g4
  have HO4 : Hid (own4 B = none) := by show own4 B = none; rw [g4.ext B (World.row?_lt HR3.out)]; exact HOB.out
  have t4 : T w4 := HTF.out _ _ _ _ _ _ h4 HAE.out.symm HR4.out
  have H4 := hid h4
  clear st4 g4 h4
  refine hK.out _ _ t4 ?_
  clear hK K
  refine tree_fin ?_
  go_wp2_with fail
  have HY := hid (H4.out.below (Below.refl _ _).drew)
  have HRY : Hid (w4.drew.row? B 0 20 = some (beC 20 t)) := HR4.out
  have tY : T w4.drew := HTF.out _ _ _ _ _ _ HY.out HAE.out.symm HRY.out
  clear t4
  refine wp_region_tree T [] (.pure 0 (.pure 1 (.pure 2 (.take 3 (.pure 4 (.pure 5 (.take 6 (.pure 7 (.pure 8 (.pure 9 (.pure 10 (.take 11 (.alt 12 .fin .stop))))))))))))) (by kernel_rfl) (by kernel_rfl) ?_
  iterate 12
   first
   |refine tree_pure ?_ rfl (by rfl) (fun w' hs => ?_) (fun _ _ _ h => h) ?_
    rotate_left
    ·clear hs
     go_simp
     try rfl
    simp only [Act.put, tsa, tsb, tsc]
   |refine tree_take ?_ tY rfl (by rfl) (fun w' hs => ?_) (fun _ _ _ h => h) ?_
    rotate_left
    ·rw [HT.out] at hs
     obtain ⟨g1, g2, g3, g4⟩ := hs
     go_simp
     try rfl
    simp only [Act.put, tsa, tsb, tsc]
  refine tree_run rfl (fun K hK => ?_)
  go_simp
  refine (st_kill HY.out.st a haW (by have := HS.out; have := HN.out; omega)).mono ?_
  rintro e w7 ⟨rfl, own7, st7, g7⟩
  have h7 := HY.out.state g7 st7 (by have := HS.out; omega) (by omega)
  have t7 : T w7 := HTF.out _ _ _ _ _ _ h7 HAE.out.symm (box_kept HRY.out HO4.out g7)
  have H7 := hid h7
  clear st7 g7 h7
  refine hK.out _ _ t7 ?_
  clear hK K
  refine tree_fin ?_
  have f7 := H7.out.one (i := 140) (by omega)
  have H8 := hid (H7.out.ended true)
  clear t7
  go_wp2
  go_end0
  have hes : endS S a t = upd ((S.move a t (S a).bal).getD S) a Acc.none := by unfold endS; rw [if_neg HTA.out]
  rw [hes]
  exact ⟨rfl, own7, c, _, H8.out⟩
theorem do_destruct {E : Env} {w : World} {own : Go.Mun.Own} {c : FV} {f : Fr} {S : St} {n : Nat} {v : Value} (k : Nat) (ht : TabOk E.tab) (h : FrOk E w own c f S n) (hN : E.N ≤ 1099511627776) (hs : n + 3 + f.gas ≤ E.N) (hw : Wds E.w0.heap.size w v [k]) (hgf : ∀ g, v.ownBlock = some g → g ≠ E.fb ∧ own g = none) :
  Calls Tryz.prog 374 #[.pointer (some ⟨E.fb, 0, none⟩), .int .u8 255, v] w (Post E (.ok { f with ended := true } (endS S f.m.to (lowA k)))) := by
 have hr := h.run.chg h.chg
 have c0 := fr_pointer h.row
 have c1 := hr.tp
 have hlk := tab_look hr ht (k := 255) (f := 155) 255 rfl (by decide) (by decide)
 have HS := hid (evm_destruct k h hN hs hw hgf)
 clear hr ht h hw hgf
 go_enter Tryz.func374, Tryz.ntmps374
 go_wp2_with fail
 refine HS.out.mono ?_
 intro e w2 hp
 obtain ⟨rfl, hp⟩ := hp
 have HP := hid hp
 clear hp
 go_wp2
 go_end0
 exact ⟨rfl, HP.out⟩
def noArB (x : Int) : Bool := !(([32, 55, 57, 60, 62, 81, 82, 83, 160, 161, 162, 163, 164, 240, 241, 243, 244, 245, 250, 253] : List Int).contains x)
theorem noAr_of {x : Int} (h : noArB x = true) : NoArea x := by
 unfold noArB at h
 simp at h
 unfold NoArea
 omega
def prE2 (f : Fr) (S : St) (x : Int) : Pri :=
 if x = 85 then (if 2 ≤ f.stack.length then .more (storeCost ((S f.m.to).slots (topF f 0)) (topF f 1)) f else .none)
 else if noArB x = true ∧ x ≠ 10 then .more 0 f else .none
def doE2 (f : Fr) (S : St) (x : Int) : Res :=
 if x = 0 then .ok { f with ended := true } S
 else if 96 ≤ x ∧ x ≤ 127 then .ok { f with stack := f.stack ++ [ownR f (x.toNat - 95)] } S
 else if x = 85 then .ok { f with stack := f.stack.take (f.stack.length - 2) } (S.setSlot f.m.to (topF f 0) (topF f 1))
 else if x = 255 then .ok { f with stack := f.stack.take (f.stack.length - 1), ended := true } (endS S f.m.to (lowA (topF f 0)))
 else .none
theorem top1 {f : Fr} (h : 1 ≤ f.stack.length) : f.stack.reverse.take 1 = [topF f 0] := by
 unfold topF
 have hl : 0 < f.stack.reverse.length := by rw [List.length_reverse]; omega
 cases e : f.stack.reverse with
 | nil => rw [e] at hl; simp at hl
 | cons a l => simp
theorem top2 {f : Fr} (h : 2 ≤ f.stack.length) : f.stack.reverse.take 2 = [topF f 0, topF f 1] := by
 unfold topF
 have hl : 2 ≤ f.stack.reverse.length := by simpa using h
 cases e : f.stack.reverse with
 | nil => rw [e] at hl; simp at hl
 | cons a l =>
  cases l with
  | nil => rw [e] at hl; simp at hl
  | cons b l => simp
theorem told_two (E : REnv) : RTold E prE2 doE2 where
 price := by
  intro w own c f S M n h htl hn
  unfold prE2 at hn ⊢
  by_cases h85 : opR f = 85
  ·rw [if_pos h85] at hn ⊢
   by_cases hl : 2 ≤ f.stack.length
   ·rw [if_pos hl]
    rw [h85]
    refine (r_price_store h hl).mono ?_
    rintro e w' ⟨rfl, hb⟩
    refine ⟨rfl, ?_, ⟨own, c, M, n, h.below hb, htl, rfl⟩, Only.of_below_size hb⟩
    unfold storeCost
    split <;> omega
   ·rw [if_neg hl] at hn
    exact absurd rfl hn
  ·rw [if_neg h85] at hn ⊢
   by_cases hx : noArB (opR f) = true ∧ opR f ≠ 10
   ·rw [if_pos hx]
    refine (r_price_none (opR f) (noAr_of hx.1) hx.2 h85 E.fb w).mono ?_
    rintro e w' ⟨rfl, rfl⟩
    exact ⟨rfl, by decide, ⟨own, c, M, n, h, htl, rfl⟩, Only.refl _ _⟩
   ·rw [if_neg hx] at hn
    exact absurd rfl hn
 act := by
  intro w own c f S M n p q g h htl _ ho hp hq hd hcost
  unfold doE2 at hd ⊢
  by_cases h0 : opR f = 0
  ·rw [if_pos h0, h0]
   exact rdo_stop h htl
  rw [if_neg h0] at hd ⊢
  by_cases h1 : 96 ≤ opR f ∧ opR f ≤ 127
  ·rw [if_pos h1]
   obtain ⟨m, hm, hop⟩ := opR_bd h
   rw [hop] at h1 ho ⊢
   have hpq : p = 0 ∧ q = 1 := by
    unfold ofL at ho
    rw [if_pos h1] at ho
    cases ho
    exact ⟨rfl, rfl⟩
   rw [show ((m : Int)).toNat - 95 = m - 95 by omega]
   exact rdo_push m (by omega) h htl (by omega)
  rw [if_neg h1] at hd ⊢
  by_cases h2 : opR f = 85
  ·rw [if_pos h2]
   rw [h2] at ho hcost ⊢
   have ho2 : ofL 85 = some (2, 0, 0) := by kernel_rfl
   rw [ho2] at ho
   cases ho
   have hl : 2 ≤ f.stack.length := by omega
   have hslack : n + 2 + f.gas ≤ E.N := by
    obtain ⟨f0, f1, k, hk, hc⟩ := hcost
    unfold prE2 at hk
    rw [if_pos rfl] at hk
    split at hk
    ·cases hk
     have : 5000 ≤ storeCost ((S f0.m.to).slots (topF f0 0)) (topF f0 1) := by unfold storeCost; split <;> omega
     omega
    ·cases hk
   refine rdo_plain (x := 85) (p := 2) (q := 0) (g := 0) (by omega) h htl ho2 hl (by simp) ?_
   intro W v c' h' htl' hjv hv hvo
   rw [top2 hl] at hv
   refine (rplain_store (k := topF f 0) (x := topF f 1) h' hslack (topF_lt h 0) (topF_lt h 1) (ownsRow_mono hv (Nat.zero_le _))).mono ?_
   rintro e w' ⟨rfl, own', h3, _⟩
   exact ⟨rfl, own', c', M, n + 2, h3, htl', hjv⟩
  rw [if_neg h2] at hd ⊢
  by_cases h3 : opR f = 255
  ·rw [if_pos h3]
   rw [h3] at ho hcost ⊢
   have ho2 : ofL 255 = some (1, 0, 5000) := by kernel_rfl
   rw [ho2] at ho
   cases ho
   have hl : 1 ≤ f.stack.length := by omega
   have hslack : n + 8 + f.gas ≤ E.N := by
    obtain ⟨f0, f1, k, hk, hc⟩ := hcost
    have : (5000 : Int).toNat = 5000 := rfl
    omega
   refine rdo_calls (x := 255) (p := 1) (q := 0) (g := 5000) (by omega) h htl ho2 hl (by simp) ?_
   intro W v c' h' htl' hjv hv hvo
   rw [top1 hl] at hv
   refine (rcalls_end (k := topF f 0) h' hslack (topF_lt h 0) (ownsRow_mono hv (Nat.zero_le _))).mono ?_
   rintro e w' ⟨rfl, own', h4⟩
   exact ⟨rfl, own', c', M, n + 6, h4, htl', hjv⟩
  ·rw [if_neg h3] at hd
   exact absurd rfl hd
theorem actP_ok {E : Env} {w : World} {own : Go.Mun.Own} {c : FV} {f' : Fr} {S : St} {n : Nat} {v : Value} {l : List Nat} {x : Int} (ht : TabOk E.tab) (hN : E.N ≤ 1099511627776) (hf : FrOk E w own c f' S n) (hn2 : actP f' S x l ≠ .none) (hw : Wds E.w0.heap.size w v l) (hv : ∀ x ∈ l, x < wW)
  (hb : ∀ g, l ≠ [] → v.ownBlock = some g → g ≠ E.fb ∧ own g = none ∧ c.mv.ownBlock ≠ some g ∧ c.lv.ownBlock ≠ some g) : Calls Tryz.prog 374 #[.pointer (some ⟨E.fb, 0, none⟩), .int .u8 x, v] w (Post E (actP f' S x l)) := by
 unfold actP at hn2 ⊢
 split at hn2
 ·rename_i hc
  rw [if_pos hc]
  split at hn2
  ·rename_i hd
   rw [if_pos hd]
   obtain ⟨m, hm⟩ : ∃ m : Nat, x = m := ⟨x.toNat, by omega⟩
   rw [hm] at hc hd ⊢
   have e : ((m : Int) - 95).toNat = m - 95 := by omega
   rw [e] at hd ⊢
   exact do_push m ⟨by omega, by omega⟩ hf hd.1 hd.2
  ·exact absurd rfl hn2
 ·rename_i hc
  rw [if_neg hc]
  split at hn2
  ·rename_i hd
   rw [if_pos hd, hd]
   match l, hw, hv, hb, hn2 with
   | [k, x], hw, hv, hb, _ => exact do_sstore k x ht hf hN hw (fun g hg => ⟨(hb g (by simp) hg).1, (hb g (by simp) hg).2.1⟩) (hv k (by simp)) (hv x (by simp))
   | [], _, _, _, hn2 => exact absurd rfl hn2
   | [_], _, _, _, hn2 => exact absurd rfl hn2
   | _ :: _ :: _ :: _, _, _, _, hn2 => exact absurd rfl hn2
  ·exact absurd rfl hn2
def actE (f : Fr) (S : St) (op : Int) (v : List Nat) : Res :=
 if op = 255 then (match v with | [k] => .ok { f with ended := true } (endS S f.m.to (lowA k)) | _ => .none) else actP f S op v
def stepE : Fr → St → Res := stepR actE turnP
theorem stepE_ok {sb rb tb : Nat} {cx : Ctx} {tab : Tabl} (ht : TabOk tab) : StepOk sb rb tb cx tab stepE := by
 intro E w own c f S n h1 h2 h3 h4 h5 hN h hlt hne
 refine frame_step h hN hlt actE turnP hne ?_ (fun w own c f' n _ hh => absurd rfl hh)
 intro w' own' c' f' n' v l hf hn2 hw hv hb hg
 unfold actE at hn2 ⊢
 split at hn2
 ·rename_i hc
  rw [if_pos hc, hc]
  rw [hc] at hg
  have hs := hg 1 0 5000 (by kernel_rfl)
  match l, hw, hv, hb, hn2 with
  | [k], hw, hv, hb, _ => exact do_destruct k (by rw [h5]; exact ht) hf hN (by have : (5000 : Int).toNat = 5000 := rfl; omega) hw (fun g hg => ⟨(hb g (by simp) hg).1, (hb g (by simp) hg).2.1⟩)
  | [], _, _, _, hn2 => exact absurd rfl hn2
  | _ :: _ :: _, _, _, _, hn2 => exact absurd rfl hn2
 ·rename_i hc
  rw [if_neg hc]
  exact actP_ok (by rw [h5]; exact ht) hN hf hn2 hw hv hb
theorem runsP_by {m : Msg} {dv : Value} {S S1 S' : St} {f' : Fr} {K : Nat} {step : Fr → St → Res} (hs : ∀ {sb rb tb : Nat} {cx : Ctx} {tab : Tabl}, TabOk tab → StepOk sb rb tb cx tab step) (hm : MsgOk m) (hk : m.kind = 0) (hg : 0 ≤ m.gas ∧ m.gas ≤ 1000000) (hd : m.depth ≤ 64) (hmv : S.move m.frm m.to m.value = some S1) (hl : loopR step K (frame0 m (S1 m.to).code) S1 = some (0, f', S')) (ho : f'.logs = []) :
  RunsP m dv ⟨0, 0, 0, 0, 0⟩ S f'.gas 0 0 f'.out S' := by
 intro w own sb hst hda
 refine (evm_run_ok (N := 3 + m.gas.toNat) hst (by omega) hm hk hg.1 hd hda (by omega) (fun rb tb tab ht => hs ht) hmv hl).mono ?_
 rintro e w' ⟨o, ov, lv, own', n', rfl, st, g, oa, h1, h2, h3, h4, h5, h6, h7⟩
 have hout := oa.out
 obtain ⟨a, k, b, j, rfl, rfl⟩ := oa.forms
 rw [h6, ho] at oa ⊢
 rw [h5] at hout ⊢
 refine ⟨a, k, b, j, own', n', ?_, hout, st, g, by omega⟩
 unfold outV outS
 rw [h4, h3, h7]
 rfl
theorem runsR_by {m : Msg} {dv : Value} {S S1 S' : St} {f' : Fr} {K : Nat} {pr : Fr → St → Int → Pri} {dor : Fr → St → Int → Res} (hT : ∀ E, RTold E pr dor) (hm : MsgOk m) (hk : m.kind = 0) (hg : 0 ≤ m.gas ∧ m.gas ≤ 900000) (hd : m.depth ≤ 64) (hs : m.static = false) (hmv : S.move m.frm m.to m.value = some S1) (hl : loopX (rstepR pr dor) K (frame0 m (S1 m.to).code) S1 = some (0, f', S')) (ho : f'.out = []) :
  RunsR m dv ⟨0, 0, 0, 0, 0⟩ S f'.gas 0 0 f'.out S' := by
 intro w own sb n hn hst hda
 refine (r_run_call (N := 999000) hT hst hm hk hg.1 hd hs hda (by omega) (Nat.le_refl _) hmv hl).mono ?_
 rintro e w' ⟨oa, oc, own', M', n', rfl, st, g, hn', hi⟩
 exact ⟨oa, oc, none, 0, own', M', n', rfl, hi ho, st, g, hn'⟩
theorem stepR_at {act : Fr → St → Int → List Nat → Res} {turn : Fr → St → Int → Res} {m : Msg} {code mm ret out : Bts} {lg : List Lg} {st st' ts : List Nat} {pc nx gas gas' nx' : Nat} {en : Bool} {S : St} (x : Int) (p q g L : Nat) (hx : code[nx]?.getD 0 = x) (ho : ofL x = some ((p : Int), (q : Int), (g : Int))) (hL : st.length = L) (hl : p ≤ L ∧ L - p + q ≤ 1024) (ht : ¬ (128 ≤ x ∧ x < 160)) (hm : m.static = false)
  (hg : g ≤ gas) (hs : st.take (st.length - p) = st') (hts : st.reverse.take p = ts) (hgg : gas - g = gas') (hn : nx + 1 + (ownOf x).toNat = nx') :
  stepR act turn ⟨m, code, st, mm, pc, nx, gas, ret, out, lg, en⟩ S = act ⟨m, code, st', mm, nx, nx', gas', ret, out, lg, en⟩ S x ts := by
 subst hx
 obtain ⟨f, hf⟩ : ∃ f : Fr, f = ⟨m, code, st, mm, pc, nx, gas, ret, out, lg, en⟩ := ⟨_, rfl⟩
 have hop : opAt f = code[nx]?.getD 0 := by rw [hf]; rfl
 rw [← hop] at ho ht hn ⊢
 rw [← hf]
 unfold stepR
 rw [ho]
 simp only [Int.toNat_natCast]
 rw [if_neg (by rw [hf]; show ¬ ¬ (p ≤ st.length ∧ st.length - p + q ≤ 1024); rw [hL]; exact fun h => h hl), if_neg ht, if_neg (by rw [hf]; show ¬ (m.static = true ∧ _); rw [hm]; simp), if_pos (by rw [hf]; exact hg), ← hs, ← hts, ← hgg, ← hn]
 rw [hf]
 rfl
theorem loopR_at {step : Fr → St → Res} {k : Nat} {m : Msg} {code mm ret out : Bts} {lg : List Lg} {st : List Nat} {pc nx gas : Nat} {f' : Fr} {S S' : St} (L : Nat) (hL : code.length = L) (hn : ¬ L ≤ nx) (h : step ⟨m, code, st, mm, pc, nx, gas, ret, out, lg, false⟩ S = .ok f' S') :
  loopR step (k + 1) ⟨m, code, st, mm, pc, nx, gas, ret, out, lg, false⟩ S = loopR step k f' S' := by
 rw [loopR, if_neg (by show ¬ (false = true ∨ code.length ≤ nx); rw [hL]; simp [hn]), h]
theorem rstepR_at {pr : Fr → St → Int → Pri} {dor : Fr → St → Int → Res} {m : Msg} {code mm mm1 ret out : Bts} {lg : List Lg} {st : List Nat} {pc nx gas gas' nx' : Nat} {en : Bool} {f2 : Fr} {S S2 : St} (x : Int) (p q g k L C : Nat) (hC : code.length = C) (hnx : nx < C) (hx : code[nx]?.getD 0 = x) (ho : ofL x = some ((p : Int), (q : Int), (g : Int))) (hL : st.length = L) (hl : ¬ ((L : Int) < (p : Int) ∨ 1024 < (L : Int) - (p : Int) + (q : Int))) (hm : m.static = false)
  (hp : pr ⟨m, code, st, mm, pc, nx, gas, ret, out, lg, en⟩ S x = .more k ⟨m, code, st, mm1, pc, nx, gas, ret, out, lg, en⟩) (hk : g + k ≤ gas) (hgg : gas - g - k = gas') (hd : dor ⟨m, code, st, mm1, pc, nx, gas', ret, out, lg, en⟩ S x = .ok f2 S2) (hn : f2.next = nx) (hw : nx + 1 + (ownOf x).toNat = nx') (hw2 : nx' ≤ 2199023255552) :
  rstepR pr dor ⟨m, code, st, mm, pc, nx, gas, ret, out, lg, en⟩ S = .ok { f2 with next := nx' } S2 := by
 subst hx
 obtain ⟨f, hf⟩ : ∃ f : Fr, f = ⟨m, code, st, mm, pc, nx, gas, ret, out, lg, en⟩ := ⟨_, rfl⟩
 have hop : opR f = code[nx]?.getD 0 := by rw [hf]; show (if nx < code.length then _ else _) = _; rw [hC, if_pos hnx]
 have e1 : f.stack.length = L := by rw [hf]; exact hL
 have e2 : f.m.static = false := by rw [hf]; exact hm
 have e3 : f.next = nx := by rw [hf]
 rw [← hop] at ho hp hd hw
 rw [← hf] at hp ⊢
 unfold rstepR
 rw [ho]
 simp only [Int.toNat_natCast]
 rw [e1, if_neg hl, if_neg (by rw [e2]; simp), hp]
 simp only []
 rw [if_pos ⟨hk, e3.symm, by rw [hf], by rw [hf]⟩, hgg, hd]
 simp only []
 rw [e3, if_pos hn, hw, if_pos hw2]
theorem loopX_at {step : Fr → St → Res} {k : Nat} {m : Msg} {code mm ret out : Bts} {lg : List Lg} {st : List Nat} {pc nx gas : Nat} {f' : Fr} {S S' : St} (h : step ⟨m, code, st, mm, pc, nx, gas, ret, out, lg, false⟩ S = .ok f' S') : loopX step (k + 1) ⟨m, code, st, mm, pc, nx, gas, ret, out, lg, false⟩ S = loopX step k f' S' := by
 rw [loopX, if_neg (by show ¬ (false = true); simp), h]
theorem setSlotR_at {m : Msg} {code mm ret out : Bts} {lg : List Lg} {st : List Nat} {pc nx gas gas' : Nat} {en : Bool} {S : St} {k x : Nat} (c : Nat) (hc : storeCost ((S m.to).slots k) x = c) (hg : c ≤ gas) (hgg : gas - c = gas') :
  setSlotR ⟨m, code, st, mm, pc, nx, gas, ret, out, lg, en⟩ S k x = .ok ⟨m, code, st, mm, pc, nx, gas', ret, out, lg, en⟩ (S.setSlot m.to k x) := by
 unfold setSlotR
 show (if storeCost ((S m.to).slots k) x ≤ gas then _ else _) = _
 rw [hc, if_pos hg, ← hgg]
def endC (t : Int) : Bts := [96, 5, 96, 0, 85, 96, t, 255, 96, 7, 96, 0, 85]
def askG (g : Int) : Msg := ⟨0, 3, 1, 0, 0, 0, [], g, 0, false⟩
theorem askG_ok (g : Int) (h : 0 ≤ g ∧ g ≤ 1000000) : MsgOk (askG g) :=
 ⟨by show 3 < wA; decide, by show 1 < wA; decide, by show 0 < wA; decide, by show 0 < wW; decide, by show 0 < wW; decide, ⟨by show _ ≤ g; omega, by show g ≤ _; omega⟩, ⟨by show _ ≤ (0 : Int); decide, by show (0 : Int) ≤ _; decide⟩⟩
def endT (t : Nat) : St := endS ((movQ (endC t) [] 0).setSlot 1 0 5) 1 t
theorem o96 : ofL 96 = some (0, 1, 3) := by kernel_rfl
theorem o85 : ofL 85 = some (2, 0, 0) := by kernel_rfl
theorem o255 : ofL 255 = some (1, 0, 5000) := by kernel_rfl
theorem loopPe0 (t : Int) (S : St) (hS : (S 1).slots 0 = 0) : ∃ f', loopR stepE 10 (frame0 (askG 60000) (endC t)) S = some (0, f', endS (S.setSlot 1 0 5) 1 (lowA (beN [t]))) ∧ f'.gas = 34991 ∧ f'.out = [] ∧ f'.logs = [] := by
 have e0 : frame0 (askG 60000) (endC t) = ⟨askG 60000, endC t, [], [], 0, 0, 60000, [], [], [], false⟩ := rfl
 have s1 : stepE ⟨askG 60000, endC t, [], [], 0, 0, 60000, [], [], [], false⟩ S = .ok ⟨askG 60000, endC t, [5], [], 0, 2, 59997, [], [], [], false⟩ S :=
  (stepR_at 96 0 1 3 0 rfl o96 rfl (by decide) (by decide) rfl (by decide) rfl rfl rfl rfl).trans (rfl)
 have s2 : stepE ⟨askG 60000, endC t, [5], [], 0, 2, 59997, [], [], [], false⟩ S = .ok ⟨askG 60000, endC t, [5, 0], [], 2, 4, 59994, [], [], [], false⟩ S :=
  (stepR_at 96 0 1 3 1 rfl o96 rfl (by decide) (by decide) rfl (by decide) rfl rfl rfl rfl).trans (rfl)
 have s3 : stepE ⟨askG 60000, endC t, [5, 0], [], 2, 4, 59994, [], [], [], false⟩ S = .ok ⟨askG 60000, endC t, [], [], 4, 5, 39994, [], [], [], false⟩ (S.setSlot 1 0 5) :=
  (stepR_at 85 2 0 0 2 rfl o85 rfl (by decide) (by decide) rfl (by decide) rfl rfl rfl rfl).trans (setSlotR_at 20000 (by show storeCost ((S 1).slots 0) 5 = _; rw [hS]; rfl) (by decide) rfl)
 have s4 : stepE ⟨askG 60000, endC t, [], [], 4, 5, 39994, [], [], [], false⟩ (S.setSlot 1 0 5) = .ok ⟨askG 60000, endC t, [beN [t]], [], 5, 7, 39991, [], [], [], false⟩ (S.setSlot 1 0 5) :=
  (stepR_at 96 0 1 3 0 rfl o96 rfl (by decide) (by decide) rfl (by decide) rfl rfl rfl rfl).trans (rfl)
 have s5 : stepE ⟨askG 60000, endC t, [beN [t]], [], 5, 7, 39991, [], [], [], false⟩ (S.setSlot 1 0 5) = .ok ⟨askG 60000, endC t, [], [], 7, 8, 34991, [], [], [], true⟩ (endS (S.setSlot 1 0 5) 1 (lowA (beN [t]))) :=
  (stepR_at 255 1 0 5000 1 rfl o255 rfl (by decide) (by decide) rfl (by decide) rfl rfl rfl rfl).trans (rfl)
 rw [e0, loopR_at 13 rfl (by decide) s1, loopR_at 13 rfl (by decide) s2, loopR_at 13 rfl (by decide) s3, loopR_at 13 rfl (by decide) s4, loopR_at 13 rfl (by decide) s5]
 exact ⟨_, rfl, rfl, rfl, rfl⟩
theorem loopXe0 (t : Int) (S : St) (hS : (S 1).slots 0 = 0) : ∃ f', loopX (rstepR prE2 doE2) 10 (frame0 (askG 60000) (endC t)) S = some (0, f', endS (S.setSlot 1 0 5) 1 (lowA (beN [t]))) ∧ f'.gas = 34991 ∧ f'.out = [] := by
 have e0 : frame0 (askG 60000) (endC t) = ⟨askG 60000, endC t, [], [], 0, 0, 60000, [], [], [], false⟩ := rfl
 have s1 : rstepR prE2 doE2 ⟨askG 60000, endC t, [], [], 0, 0, 60000, [], [], [], false⟩ S = .ok ⟨askG 60000, endC t, [5], [], 0, 2, 59997, [], [], [], false⟩ S :=
  (rstepR_at (f2 := ⟨askG 60000, endC t, [5], [], 0, 0, 59997, [], [], [], false⟩) (gas' := 59997) 96 0 1 3 0 0 13 rfl (by decide) rfl o96 rfl (by decide) rfl (rfl) (by decide) rfl (rfl) rfl rfl (by decide))
 have s2 : rstepR prE2 doE2 ⟨askG 60000, endC t, [5], [], 0, 2, 59997, [], [], [], false⟩ S = .ok ⟨askG 60000, endC t, [5, 0], [], 0, 4, 59994, [], [], [], false⟩ S :=
  (rstepR_at (f2 := ⟨askG 60000, endC t, [5, 0], [], 0, 2, 59994, [], [], [], false⟩) (gas' := 59994) 96 0 1 3 0 1 13 rfl (by decide) rfl o96 rfl (by decide) rfl (rfl) (by decide) rfl (rfl) rfl rfl (by decide))
 have s3 : rstepR prE2 doE2 ⟨askG 60000, endC t, [5, 0], [], 0, 4, 59994, [], [], [], false⟩ S = .ok ⟨askG 60000, endC t, [], [], 0, 5, 39994, [], [], [], false⟩ (S.setSlot 1 0 5) :=
  (rstepR_at (f2 := ⟨askG 60000, endC t, [], [], 0, 4, 39994, [], [], [], false⟩) (gas' := 39994) 85 2 0 0 20000 2 13 rfl (by decide) rfl o85 rfl (by decide) rfl (by show Pri.more (storeCost ((S 1).slots 0) 5) _ = _; rw [hS]; rfl) (by decide) rfl (rfl) rfl rfl (by decide))
 have s4 : rstepR prE2 doE2 ⟨askG 60000, endC t, [], [], 0, 5, 39994, [], [], [], false⟩ (S.setSlot 1 0 5) = .ok ⟨askG 60000, endC t, [beN [t]], [], 0, 7, 39991, [], [], [], false⟩ (S.setSlot 1 0 5) :=
  (rstepR_at (f2 := ⟨askG 60000, endC t, [beN [t]], [], 0, 5, 39991, [], [], [], false⟩) (gas' := 39991) 96 0 1 3 0 0 13 rfl (by decide) rfl o96 rfl (by decide) rfl (rfl) (by decide) rfl (rfl) rfl rfl (by decide))
 have s5 : rstepR prE2 doE2 ⟨askG 60000, endC t, [beN [t]], [], 0, 7, 39991, [], [], [], false⟩ (S.setSlot 1 0 5) = .ok ⟨askG 60000, endC t, [], [], 0, 8, 34991, [], [], [], true⟩ (endS (S.setSlot 1 0 5) 1 (lowA (beN [t]))) :=
  (rstepR_at (f2 := ⟨askG 60000, endC t, [], [], 0, 7, 34991, [], [], [], true⟩) (gas' := 34991) 255 1 0 5000 0 1 13 rfl (by decide) rfl o255 rfl (by decide) rfl (rfl) (by decide) rfl (rfl) rfl rfl (by decide))
 rw [e0, loopX_at s1, loopX_at s2, loopX_at s3, loopX_at s4, loopX_at s5]
 exact ⟨_, rfl, rfl, rfl⟩
theorem lowA_all : ((List.range 256).all fun k => lowA k == k) = true := by kernel_rfl
theorem lowA_byte {k : Nat} (h : k < 256) : lowA k = k := by
 have := List.all_eq_true.1 lowA_all k (List.mem_range.2 h)
 simpa using this
theorem loopPe (t : Nat) (h : t < 256) : ∃ f', loopR stepE 10 (frame0 (askG 60000) (endC t)) (movQ (endC t) [] 0) = some (0, f', endT t) ∧ f'.gas = 34991 ∧ f'.out = [] ∧ f'.logs = [] := by
 have h1 := loopPe0 t (movQ (endC t) [] 0) rfl
 have e : beN [(t : Int)] = t := by simp [beN]
 rw [e, lowA_byte h] at h1
 exact h1
theorem loopXe (t : Nat) (h : t < 256) : ∃ f', loopX (rstepR prE2 doE2) 10 (frame0 (askG 60000) (endC t)) (movQ (endC t) [] 0) = some (0, f', endT t) ∧ f'.gas = 34991 ∧ f'.out = [] := by
 have h1 := loopXe0 t (movQ (endC t) [] 0) rfl
 have e : beN [(t : Int)] = t := by simp [beN]
 rw [e, lowA_byte h] at h1
 exact h1
theorem movQ_bal (a b : Bts) (t : Nat) : (movQ a b 0 t).bal = if t = 1 ∨ t = 2 ∨ t = 3 then 1000 else 0 := by
 unfold movQ St.setBal upd
 by_cases h1 : t = 1
 ·subst h1; rfl
 by_cases h2 : t = 2
 ·subst h2; rfl
 by_cases h3 : t = 3
 ·subst h3; rfl
 rw [if_neg h1, if_neg h3, if_neg (by omega)]
 show (upd (upd (upd (fun _ => Acc.none) 1 _) 2 _) 3 _ t).bal = 0
 rw [upd_other _ _ h3, upd_other _ _ h2, upd_other _ _ h1]
 rfl
theorem endT_1 (t : Nat) : endT t 1 = Acc.none := by unfold endT endS; rw [upd_same]
theorem endT_bal (t : Nat) : (endT t t).bal = if t = 1 then 0 else if t = 2 ∨ t = 3 then 2000 else 1000 := by
 by_cases h1 : t = 1
 ·subst h1; rw [endT_1]; rfl
 rw [if_neg h1]
 unfold endT endS
 rw [upd_other _ _ h1, if_neg h1]
 have e1 : (((movQ (endC t) [] 0).setSlot 1 0 5) 1).bal = 1000 := rfl
 have e2 : (((movQ (endC t) [] 0).setSlot 1 0 5) t).bal = (movQ (endC t) [] 0 t).bal := by unfold St.setSlot; rw [upd_other _ _ h1]
 have e3 := movQ_bal (endC t) [] t
 rw [e1]
 unfold St.move
 rw [e1, if_neg (by omega), if_neg (fun e => h1 e.symm), e2, e3]
 by_cases h2 : t = 2 ∨ t = 3
 ·rw [if_pos h2, if_pos (show t = 1 ∨ t = 2 ∨ t = 3 from .inr h2), if_neg (by decide : ¬ wW ≤ 1000 + 1000)]
  show (upd _ t _ t).bal = 2000
  rw [upd_same]
 ·rw [if_neg h2, if_neg (show ¬ (t = 1 ∨ t = 2 ∨ t = 3) from fun h => h.elim h1 h2), if_neg (by decide : ¬ wW ≤ 0 + 1000)]
  show (upd _ t _ t).bal = 1000
  rw [upd_same]
theorem upd_slots {S : St} {b : Nat} {x : Acc} (h : ∀ a, a ≠ b → ∀ k, (S a).slots k = 0) (hx : ∀ k, x.slots k = 0) : ∀ a k, (upd S b x a).slots k = 0 := by
 intro a k
 by_cases e : a = b
 ·rw [e, upd_same]; exact hx k
 ·rw [upd_other _ _ e]; exact h a e k
theorem endT_slots (t : Nat) : ∀ a k, (endT t a).slots k = 0 := by
 have h0 : ∀ a, a ≠ 1 → ∀ k, (((movQ (endC t) [] 0).setSlot 1 0 5) a).slots k = 0 := fun a ha k => by unfold St.setSlot; rw [upd_other _ _ ha]; exact movQ_slots _ _ _ _ _
 unfold endT endS
 refine upd_slots (x := Acc.none) ?_ (fun _ => rfl)
 intro a ha k
 by_cases h1 : t = 1
 ·rw [if_pos h1]; exact h0 a ha k
 rw [if_neg h1]
 unfold St.move
 split
 ·exact h0 a ha k
 ·split
  ·exact h0 a ha k
  ·split
   ·exact h0 a ha k
   ·show ((St.setBal (St.setBal _ _ _) _ _) a).slots k = 0
    unfold St.setBal
    by_cases e : a = t
    ·rw [e, upd_same]
     show ((upd _ 1 _) t).slots k = 0
     rw [upd_other _ _ h1]
     exact h0 t h1 k
    ·rw [upd_other _ _ e, upd_other _ _ ha]
     exact h0 a ha k
theorem ex_eql {P : Program} (ρ : Operand → Value) (dst : Option Tmp) (x y : Operand) (t t2 ty : TypeId) (pos : String) (after : Array Edge) (gd : Option (Nat × Bool)) (w : World) {xs ys : Array Value} {r : Bool} (hm : P.eqGuardType P.depth t = false) (hx : ρ x = .agg xs) (hy : ρ y = .agg ys)
  (h : (binOp .eql t (.agg xs) (.agg ys)).run P w = .ok (.bool r) w) : (execOp ρ ⟨dst, .binOp .eql t x y t2, ty, pos, after, gd⟩).run P w = .ok (.value (.bool r)) w := by
 simp [execOp, hx, hy, Sem.run_bind, run_eqGuard_agg (hm := hm), h]
theorem eg25e : Tryz.prog.eqGuardType Tryz.prog.depth 25 = false := by kernel_rfl
theorem evmEnds_law (a0 : Int) (h0 : (Lit.int .u8 a0).wf = true) (w : World) : Calls Tryz.prog 6 #[.int .u8 a0] w fun e w' => e = .returned (.bool true) ∧ Below w.heap.size w w' := by
 have hu := wf_u8 h0
 obtain ⟨t, ht⟩ : ∃ t : Nat, a0 = t := ⟨a0.toNat, by omega⟩
 subst ht
 have ht : t < 256 := by omega
 obtain ⟨f1, hl1, hg1, ho1, hlg1⟩ := loopPe t ht
 obtain ⟨f2, hl2, hg2, ho2⟩ := loopXe t ht
 have HRP : Hid (RunsP (askG 60000) (.slice none 0 0) ⟨0, 0, 0, 0, 0⟩ (newS (twoL (endC t) [])) 34991 0 0 [] (endT t)) := by
  have h := runsP_by (dv := .slice none 0 0) (step := stepE) (fun ht => stepE_ok ht) (askG_ok 60000 (by decide)) rfl (by decide) (by decide) (moveT (endC t) [] 0 (by decide)) hl1 hlg1
  rw [hg1, ho1] at h
  exact h
 have HRR : Hid (RunsR (askG 60000) (.slice none 0 0) ⟨0, 0, 0, 0, 0⟩ (newS (twoL (endC t) [])) 34991 0 0 [] (endT t)) := by
  have h := runsR_by (dv := .slice none 0 0) (pr := prE2) (dor := doE2) (fun E => told_two E) (askG_ok 60000 (by decide)) rfl (by decide) (by decide) rfl (moveT (endC t) [] 0 (by decide)) hl2 ho2
  rw [hg2, ho2] at h
  exact h
 have HLA := hid (fun w => law_alive w)
 have HN1 := hid (fun w => ref_name 1 (by decide) w)
 have HNT := hid (fun w => ref_name t ht w)
 have O1 := hid (fun w => ref_of 1000 (by decide) (by decide) w)
 rw [show ofW 1000 = 1000 by kernel_rfl] at O1
 have O2 := hid (fun w => ref_of 2000 (by decide) (by decide) w)
 rw [show ofW 2000 = 2000 by kernel_rfl] at O2
 have HASK := hid (fun w => law_ask 60000 w)
 have HCO : Hid (∀ W : World, RoAt (W.alloc (.cells #[.int .u8 96, .int .u8 5, .int .u8 96, .int .u8 0, .int .u8 85, .int .u8 96, .int .u8 t, .int .u8 255, .int .u8 96, .int .u8 7, .int .u8 96, .int .u8 0, .int .u8 85] 5)) (fun _ => False) (.slice (some ⟨W.heap.size, 0, none⟩) 13 13) (endC t)) := fun W =>
  ⟨⟨_, _, rfl, Ints.new W .u8 (endC t) 5 (by show 13 ≤ maxLen; decide), fun _ _ _ h => h⟩, by intro x hx; simp [endC] at hx; omega, by show 13 ≤ 1099511627776; decide⟩
 have HBO : Hid (∀ W gb, (∀ i (hi : i < (twoL (endC t) []).length), AcAt W gb (0 + i * 55) (twoL (endC t) [])[i]) → Calls Tryz.prog 15 #[.slice (some ⟨gb, 0, none⟩) 3 3, .agg (cat (msgS (askG 60000) (.slice none 0 0))).toArray] W (BothEnd W 34991 0 0 [] (endT t))) := fun W gb h =>
  law_both (c := 3) (l := twoL (endC t) []) (m := askG 60000) (ad := 0) (by show 3 ≤ 100; decide) h (by intro x hx; simp [twoL] at hx; rcases hx with rfl | rfl | rfl <;> first | decide | exact (by decide : (0 : Int) ≤ 0)) (roAt_nil _ _) (by decide) HRP.out HRR.out (endT_slots t)
 have HT0 := hid ht
 have hwt : IntKind.i64.wrap (t : Int) = (t : Int) := wrI _ (by omega) (by omega)
 have ok1 := beC_ok 20 1
 have okt := beC_ok 20 t
 have ok3 := beC_ok 32 1000
 have ok4 := beC_ok 32 2000
 have ok0 := beC_ok 32 0
 have l1 := beC_len 20 1
 have lt_ := beC_len 20 t
 have l3 := beC_len 32 1000
 have l4 := beC_len 32 2000
 have l0 := beC_len 32 0
 have z20 := zU8_len 20
 have z32 := zU8_len 32
 clear h0 hu hl1 hg1 ho1 hlg1 hl2 hg2 ho2 ht
 go_enter Tryz.func6, Tryz.ntmps6
 go_wp2_with fail
 refine (HLA.out _).mono ?_
 rintro e w1 ⟨rfl, hb1⟩
 have HB1 := hid hb1
 clear hb1
 go_wp2_with fail
 have hco := (HCO.out w1)
 obtain ⟨w2, e2⟩ : ∃ w2, w2 = w1.alloc (.cells #[.int .u8 96, .int .u8 5, .int .u8 96, .int .u8 0, .int .u8 85, .int .u8 96, .int .u8 t, .int .u8 255, .int .u8 96, .int .u8 7, .int .u8 96, .int .u8 0, .int .u8 85] 5) := ⟨_, rfl⟩
 rw [← e2] at hco ⊢
 have HB2 : Hid (Below w.heap.size w w2) := by show Below _ _ _; rw [e2]; exact HB1.out.alloc HB1.out.size _
 clear e2
 refine (law_two hco (roAt_nil _ _)).mono ?_
 rintro e w3 ⟨gb, rfl, hb3, hac⟩
 have HB3 : Hid (Below w.heap.size w w3) := HB2.out.trans (hb3.mono HB2.out.size)
 have HAC := hid hac
 clear hb3 hac hco
 go_wp2_with fail
 refine (HASK.out _).mono ?_
 rintro e w4 ⟨rfl, hb4⟩
 have HB4 : Hid (Below w.heap.size w w4) := HB3.out.trans (hb4.mono HB3.out.size)
 have HAC4 := hid (fun i hi => (HAC.out i hi).below hb4)
 clear hb4
 go_wp2_with fail
 refine (HBO.out w4 gb HAC4.out).mono ?_
 rintro e w5 ⟨oa, oc, la, lc, sb, own, n, rfl, hb5, hst, hge⟩
 obtain ⟨O, hO⟩ : ∃ O, O = outV 34991 0 0 oa ([] : Bts).length oc la lc := ⟨_, rfl⟩
 have lO : O.length = 24 := by rw [hO]; exact outV_len _ _ _ _ _ _ _ _
 have kO : okL 24 O = true := by rw [hO]; exact outV_ok _ _ _ _ _ _ _ _
 rw [← hO]
 have HOO := hid hO
 have HK5 : Hid (Kst w [] own sb (endT t) n w5) := ⟨(Kep.start w).next (HB4.out.trans (hb5.mono HB4.out.size)), hst, fun _ h => (by cases h)⟩
 have f5 := box_free w5 (cat zs46) 41 24 zs46_len
 clear hb5 hst hge hO
 have hk6 := HK5.out.box 41 (cat zs46) O zs46_len kO
 obtain ⟨rb, erb⟩ : ∃ rb, rb = w5.heap.size := ⟨_, rfl⟩
 obtain ⟨w6, e6⟩ : ∃ w6, w6 = (w5.alloc (.cells (cat zs46).toArray 41)).setCells w5.heap.size 0 O := ⟨_, rfl⟩
 rw [← e6, ← erb] at hk6
 have HK6 := hid hk6
 have HE6 := hid e6
 have HRB := hid erb
 clear hk6 e6 erb
 go_wp2_with fail
 rw [← HE6.out]
 rw [← HRB.out]
 refine (HN1.out _).mono ?_
 rintro e w7 ⟨rfl, hb7⟩
 have HK7 := hid (HK6.out.next hb7)
 have f7 := box_free w7 (zU8 20) 23 20 z20
 clear hb7 f5
 have hk8 := HK7.out.box 23 (zU8 20) (beC 20 1) z20 ok1
 obtain ⟨xb, exb⟩ : ∃ b, b = w7.heap.size := ⟨_, rfl⟩
 obtain ⟨w8, e8⟩ : ∃ w8, w8 = (w7.alloc (.cells (zU8 20).toArray 23)).setCells w7.heap.size 0 (beC 20 1) := ⟨_, rfl⟩
 rw [← e8, ← exb] at hk8
 have HK8 := hid hk8
 have HE8 := hid e8
 have HXB := hid exb
 clear hk8 e8 exb
 go_wp2_with fail
 rw [← HE8.out]
 rw [← HXB.out]
 refine (HNT.out _).mono ?_
 rintro e w9 ⟨rfl, hb9⟩
 have HK9 := hid (HK8.out.next hb9)
 have f9 := box_free w9 (zU8 20) 23 20 z20
 clear hb9 f7
 have hk10 := HK9.out.box 23 (zU8 20) (beC 20 t) z20 okt
 obtain ⟨yb, eyb⟩ : ∃ b, b = w9.heap.size := ⟨_, rfl⟩
 obtain ⟨w10, e10⟩ : ∃ w10, w10 = (w9.alloc (.cells (zU8 20).toArray 23)).setCells w9.heap.size 0 (beC 20 t) := ⟨_, rfl⟩
 rw [← e10, ← eyb] at hk10
 have HK10 := hid hk10
 have HE10 := hid e10
 have HYB := hid eyb
 clear hk10 e10 eyb
 go_wp2_with fail
 rw [← HE10.out]
 rw [← HYB.out]
 refine (O1.out _).mono ?_
 rintro e w11 ⟨rfl, hb11⟩
 have HK11 := hid (HK10.out.next hb11)
 have f11 := box_free w11 (zU8 32) 25 32 z32
 clear hb11 f9
 have hk12 := HK11.out.box 25 (zU8 32) (beC 32 1000) z32 ok3
 obtain ⟨zb, ezb⟩ : ∃ b, b = w11.heap.size := ⟨_, rfl⟩
 obtain ⟨w12, e12⟩ : ∃ w12, w12 = (w11.alloc (.cells (zU8 32).toArray 25)).setCells w11.heap.size 0 (beC 32 1000) := ⟨_, rfl⟩
 rw [← e12, ← ezb] at hk12
 have HZL : Hid (w.heap.size ≤ zb ∧ ∀ x ∈ [(yb, 20, beC 20 t), (xb, 20, beC 20 1), (rb, 24, O)], x.1 ≠ zb) := by rw [ezb]; exact ⟨HK11.out.below.size, fun x hx => by have := HK11.out.lt x hx; omega⟩
 have HK12 := hid hk12
 have fz : w12.free? zb 0 32 = true := HK12.out.fr (b := zb) (n := 32) (L := beC 32 1000) (by simp)
 have HE12 := hid e12
 have HZB := hid ezb
 rw [e12, ezb] at fz
 clear hk12 e12 ezb
 rcases (by omega : t = 1 ∨ t = 2 ∨ t = 3 ∨ (¬ t = 1 ∧ ¬ t = 2 ∧ ¬ t = 3)) with k1 | k2 | k3 | kn
 case' inl =>
  have e1 : ((t : Int) == 1) = true := by simp; omega
  have e2 : ((t : Int) == 2) = false := by simp; omega
  have e3 : ((t : Int) == 3) = false := by simp; omega
  have HK1 := hid k1
  clear k1
  go_wp2_with fail
  rw [← HE12.out]
  rw [← HZB.out]
  obtain ⟨wE, hwE⟩ : ∃ wE, wE = w12.setCells zb 0 (beC 32 0) := ⟨_, rfl⟩
  rw [← hwE]
  have hkE := HK12.out.set (beC 32 0) ok0 HZL.out.1 HZL.out.2
  rw [← hwE] at hkE
  obtain ⟨V, hV⟩ : ∃ V, V = 0 := ⟨_, rfl⟩
  have HBL : Hid ((endT t t).bal = V ∧ V < wW) := by rw [hV, endT_bal, if_pos HK1.out]; exact ⟨rfl, by decide⟩
  have HKE : Hid (Kst w [(zb, 32, beC 32 V), (yb, 20, beC 20 t), (xb, 20, beC 20 1), (rb, 24, O)] own sb (endT t) n wE) := by show Kst _ _ _ _ _ _ _; rw [hV]; exact hkE
  clear hV
 case' inr.inl =>
  have e1 : ((t : Int) == 1) = false := by simp; omega
  have e2 : ((t : Int) == 2) = true := by simp; omega
  have e3 : ((t : Int) == 3) = false := by simp; omega
  have HK1 : Hid (¬ t = 1) := by show ¬ t = 1; omega
  have HKK : Hid (t = 2 ∨ t = 3) := by show t = 2 ∨ t = 3; omega
  clear k2
  go_wp2_with fail
  rw [← HE12.out]
  rw [← HZB.out]
  refine (O2.out _).mono ?_
  rintro e w13 ⟨rfl, hb13⟩
  have HK13 := hid (HK12.out.next hb13)
  have fz3 : w13.free? zb 0 32 = true := HK13.out.fr (b := zb) (n := 32) (L := beC 32 1000) (by simp)
  clear hb13 fz
  go_wp2_with fail
  obtain ⟨wE, hwE⟩ : ∃ wE, wE = w13.setCells zb 0 (beC 32 2000) := ⟨_, rfl⟩
  rw [← hwE]
  have hkE := HK13.out.set (beC 32 2000) ok4 HZL.out.1 HZL.out.2
  rw [← hwE] at hkE
  obtain ⟨V, hV⟩ : ∃ V, V = 2000 := ⟨_, rfl⟩
  have HBL : Hid ((endT t t).bal = V ∧ V < wW) := by rw [hV, endT_bal, if_neg HK1.out, if_pos HKK.out]; exact ⟨rfl, by decide⟩
  have HKE : Hid (Kst w [(zb, 32, beC 32 V), (yb, 20, beC 20 t), (xb, 20, beC 20 1), (rb, 24, O)] own sb (endT t) n wE) := by show Kst _ _ _ _ _ _ _; rw [hV]; exact hkE
  clear hV
 case' inr.inr.inl =>
  have e1 : ((t : Int) == 1) = false := by simp; omega
  have e2 : ((t : Int) == 2) = false := by simp; omega
  have e3 : ((t : Int) == 3) = true := by simp; omega
  have HK1 : Hid (¬ t = 1) := by show ¬ t = 1; omega
  have HKK : Hid (t = 2 ∨ t = 3) := by show t = 2 ∨ t = 3; omega
  clear k3
  go_wp2_with fail
  rw [← HE12.out]
  rw [← HZB.out]
  refine (O2.out _).mono ?_
  rintro e w13 ⟨rfl, hb13⟩
  have HK13 := hid (HK12.out.next hb13)
  have fz3 : w13.free? zb 0 32 = true := HK13.out.fr (b := zb) (n := 32) (L := beC 32 1000) (by simp)
  clear hb13 fz
  go_wp2_with fail
  obtain ⟨wE, hwE⟩ : ∃ wE, wE = w13.setCells zb 0 (beC 32 2000) := ⟨_, rfl⟩
  rw [← hwE]
  have hkE := HK13.out.set (beC 32 2000) ok4 HZL.out.1 HZL.out.2
  rw [← hwE] at hkE
  obtain ⟨V, hV⟩ : ∃ V, V = 2000 := ⟨_, rfl⟩
  have HBL : Hid ((endT t t).bal = V ∧ V < wW) := by rw [hV, endT_bal, if_neg HK1.out, if_pos HKK.out]; exact ⟨rfl, by decide⟩
  have HKE : Hid (Kst w [(zb, 32, beC 32 V), (yb, 20, beC 20 t), (xb, 20, beC 20 1), (rb, 24, O)] own sb (endT t) n wE) := by show Kst _ _ _ _ _ _ _; rw [hV]; exact hkE
  clear hV
 case' inr.inr.inr =>
  obtain ⟨k1, k2, k3⟩ := kn
  have e1 : ((t : Int) == 1) = false := by simp; omega
  have e2 : ((t : Int) == 2) = false := by simp; omega
  have e3 : ((t : Int) == 3) = false := by simp; omega
  have kk : ¬ (t = 2 ∨ t = 3) := by omega
  have HKK := hid kk
  have HK1 := hid k1
  clear kk k1 k2 k3
  go_wp2_with fail
  rw [← HE12.out]
  rw [← HZB.out]
  obtain ⟨wE, hwE⟩ : ∃ wE, wE = w12 := ⟨_, rfl⟩
  rw [← hwE] at HK12 ⊢
  obtain ⟨V, hV⟩ : ∃ V, V = 1000 := ⟨_, rfl⟩
  have HBL : Hid ((endT t t).bal = V ∧ V < wW) := by rw [hV, endT_bal, if_neg HK1.out, if_neg HKK.out]; exact ⟨rfl, by decide⟩
  have HKE : Hid (Kst w [(zb, 32, beC 32 V), (yb, 20, beC 20 t), (xb, 20, beC 20 1), (rb, 24, O)] own sb (endT t) n wE) := by show Kst _ _ _ _ _ _ _; rw [hV]; exact HK12.out
  clear hV
 all_goals
  obtain ⟨RS, hRS⟩ : ∃ R : List (Nat × Nat × List Value), R = [(zb, 32, beC 32 V), (yb, 20, beC 20 t), (xb, 20, beC 20 1), (rb, 24, O)] := ⟨_, rfl⟩
  obtain ⟨T, hT⟩ : ∃ T : World → Prop, T = Kst w RS own sb (endT t) n := ⟨_, rfl⟩
  have HT := hid hT
  have HTN : Hid (∀ W W', T W → Below W.heap.size W W' → T W') := by show ∀ W W', T W → Below W.heap.size W W' → T W'; rw [hT]; exact fun W W' h hb => h.next hb
  have HTG : Hid (∀ W, T W → Kst w RS own sb (endT t) n W) := by show ∀ W, T W → _; rw [hT]; exact fun W h => h
  have t0 : T wE.drew := HTN.out wE _ (by rw [hT, hRS]; exact HKE.out) (Below.refl _ _).drew
  have M1 : Hid ((rb, 24, O) ∈ RS) := by show _ ∈ RS; rw [hRS]; simp
  have M2 : Hid ((xb, 20, beC 20 1) ∈ RS) := by show _ ∈ RS; rw [hRS]; simp
  have M3 : Hid ((yb, 20, beC 20 t) ∈ RS) := by show _ ∈ RS; rw [hRS]; simp
  have M4 : Hid ((zb, 32, beC 32 V) ∈ RS) := by show _ ∈ RS; rw [hRS]; simp
  have HQ : Hid (∀ w, (binOp .eql 25 (.agg (beC 32 V).toArray) (.agg (beC 32 V).toArray)).run Tryz.prog w = .ok (.bool true) w) := by
   show ∀ w, _
   intro w
   have := eql_of (fun d => eqD25 (a := V) (b := V) HBL.out.2 HBL.out.2 w d)
   simpa using this
  have HEX : Hid ((endT t 1).emptyB = true) := by show _ = _; rw [endT_1]; exact emptyB_yes ⟨rfl, rfl, rfl, fun _ => rfl⟩
  clear hT hRS
  refine wp_region_tree T [] (.pure 0 (.pure 1 (.pure 2 (.pure 3 (.pure 4 (.pure 5 (.take 6 (.alt 7 (.pure 8 (.pure 9 (.pure 10 (.pure 11 (.take 12 (.alt 13 (.pure 14 (.pure 15 (.pure 16 (.pure 17 (.take 18 (.take 20 (.alt 19 (.pure 21 (.pure 22 (.pure 23 .fin))) .stop))))))) .stop)))))) .stop)))))))) (by kernel_rfl) (by kernel_rfl) ?_
  generalize wE.drew = vE at *
  iterate 7
   first
   |refine tree_pure ?_ rfl (by rfl) (fun w' hs => ?_) (fun _ _ _ h => h) ?_
    rotate_left
    ·clear hs
     go_simp
     try rfl
    simp only [Act.put, tsa, tsb, tsc]
   |refine tree_take ?_ t0 rfl (by rfl) (fun w' hs => ?_) (fun _ _ _ h => h) ?_
    rotate_left
    ·rw [HT.out] at hs
     have g1 := hs.get M1.out; have g2 := hs.get M2.out; have g3 := hs.get M3.out; have g4 := hs.get M4.out; rw [HOO.out] at g1; have u1 := out_err g1
     go_simp
     try rfl
    simp only [Act.put, tsa, tsb, tsc]
  refine tree_run rfl (fun K hK => ?_)
  go_simp
  refine (law_num 0 _).mono ?_
  rintro e y ⟨rfl, rfl⟩
  refine hK.out _ _ t0 ?_
  clear hK K
  iterate 5
   first
   |refine tree_pure ?_ rfl (by rfl) (fun w' hs => ?_) (fun _ _ _ h => h) ?_
    rotate_left
    ·clear hs
     go_simp
     try rfl
    simp only [Act.put, tsa, tsb, tsc]
   |refine tree_take ?_ t0 rfl (by rfl) (fun w' hs => ?_) (fun _ _ _ h => h) ?_
    rotate_left
    ·rw [HT.out] at hs
     have g1 := hs.get M1.out; have g2 := hs.get M2.out; have g3 := hs.get M3.out; have g4 := hs.get M4.out; rw [HOO.out] at g1; have u1 := out_err g1
     go_simp
     try rfl
    simp only [Act.put, tsa, tsb, tsc]
  refine tree_run rfl (fun K hK => ?_)
  go_simp
  refine (st_exists (HTG.out _ t0).st 1 (by decide)).mono ?_
  rintro e y1 ⟨rfl, hby⟩
  rw [HEX.out]
  have t1 : T y1 := HTN.out _ _ t0 hby
  clear hby
  refine hK.out _ _ t1 ?_
  clear hK K
  iterate 6
   first
   |refine tree_pure ?_ rfl (by rfl) (fun w' hs => ?_) (fun _ _ _ h => h) ?_
    rotate_left
    ·clear hs
     go_simp
     try rfl
    simp only [Act.put, tsa, tsb, tsc]
   |refine tree_take ?_ t1 rfl (by rfl) (fun w' hs => ?_) (fun _ _ _ h => h) ?_
    rotate_left
    ·rw [HT.out] at hs
     have g1 := hs.get M1.out; have g2 := hs.get M2.out; have g3 := hs.get M3.out; have g4 := hs.get M4.out; rw [HOO.out] at g1; have u1 := out_err g1
     go_simp
     try rfl
    simp only [Act.put, tsa, tsb, tsc]
  refine tree_run rfl (fun K hK => ?_)
  go_simp
  refine (st_balance (HTG.out _ t1).st t (by have := HT0.out; exact Nat.lt_of_lt_of_le this (by decide))).mono ?_
  rintro e y2 ⟨rfl, hby⟩
  rw [HBL.out.1]
  have t2 : T y2 := HTN.out _ _ t1 hby
  clear hby
  refine hK.out _ _ t2 ?_
  clear hK K
  refine tree_pure (.bool true) rfl (by rfl) (fun w' hs => ?_) (fun _ _ _ h => h) ?_
  ·clear hs
   exact ex_eql _ _ _ _ _ _ _ _ _ _ _ eg25e rfl rfl (HQ.out _)
  simp only [Act.put, tsa, tsb, tsc]
  iterate 2
   refine tree_pure ?_ rfl (by rfl) (fun w' hs => ?_) (fun _ _ _ h => h) ?_
   rotate_left
   ·clear hs
    go_simp
    try rfl
   simp only [Act.put, tsa, tsb, tsc]
  refine tree_fin ?_
  have HFB := hid (HTG.out _ t2).below
  go_wp2
  go_ret
  exact ⟨rfl, HFB.out⟩
end Go.Proofs.YtfflppedbopdpaaGreat
