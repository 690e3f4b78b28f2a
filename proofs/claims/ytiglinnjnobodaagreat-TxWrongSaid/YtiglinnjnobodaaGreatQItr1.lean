/-
  The iterator over the keys of a map of accounts.
  slices.AppendSeq, slices.Collect over the keys of a map of accounts.
-/
import Derived.Test.YtiglinnjnobodaaGreatQTy
import Derived.Test.YtiglinnjnobodaaGreatQPlain
import Derived.Test.YtiglinnjnobodaaGreatQKyr
import Derived.RangeFuncNested
import Derived.RangeFuncBound
import Derived.RangeFuncCalls
import Derived.RangeFuncLeaves
import Derived.Shelf.Abstract
import Derived.Shelf.RegionOpen
import Derived.WalkKit
import Derived.OwnWalkIn
import Derived.TacticsInMore
import Derived.LoopNIn
import Derived.LoopIn
import Derived.Maps.AppendAt
import Derived.Test.YtiglinnjnobodaaGreatQTy3
set_option linter.unusedVariables false
set_option linter.unusedSimpArgs false
namespace Go.Proofs.YtiglinnjnobodaaGreat
open Go.RowKit Go.Mun Go.Maps Go.Shelf
theorem semAt_run (ro : Option Nat) (ρ : Operand → Value) (o : Oper) (P : Program) (w : World) (h : ∀ c, o.op ≠ .defer c) : (Oper.semAt ro ρ o).run P w = (execOp ρ o).run P w := by
  rw [Oper.semAt_eq _ _ _ h]
attribute [local go_sem] Oper.semAt_some
attribute [local go_sem ↓] semAt_run
attribute [local irreducible] beC zU8
theorem adV_eq (a : Nat) : adV a = .agg (beC 20 a).toArray := rfl
set_option maxRecDepth 100000 in
set_option maxHeartbeats 2000000 in
theorem keys116 (F : Fence) (n : Nat) (hF : F.fn 116) (hro : F.round = none) (hn : 1 ≤ n) (Bm b nn : Nat) (D : DataW Unit) (ks : List Nat) (w : World)
    (hks : ∀ a ∈ ks, a < wA) (hd : ks.Nodup) (hsz : Maps.size D = ks.length) (h1 : ∀ kl, Maps.has D kl = true → ∃ a ∈ ks, keyOf Tryz.prog 23 (adV a) = some kl) (h2 : ∀ a ∈ ks, ∀ kl, keyOf Tryz.prog 23 (adV a) = some kl → Maps.has D kl = true)
    (hBm : Bm < w.heap.size) (hm : w.cell? ⟨Bm, 0, none⟩ = some (.map (some b))) (hown : w.ownsMap Tryz.prog 23 R0 b nn D) :
    SeqStopsK F n Tryz.prog 116 #[.pointer (some ⟨Bm, 0, none⟩)] (fun a : Nat => #[adV a]) KeepsWalks (fun ss => ss.Perm ks) (fun _ => True) ks.length w := by
  intro l J Jx W hW hJ hJx hY h0
  have hm' : W.cell? ⟨Bm, 0, none⟩ = some (.map (some b)) := (hW.cell (p := ⟨Bm, 0, none⟩) hBm).trans hm
  have hown' : W.ownsMap Tryz.prog 23 R0 b nn D := by
    have hbl := hown.lt
    obtain ⟨es, clock, hb, Ft, hs, hD⟩ := hown
    exact ⟨es, clock, (hW.block b hbl).trans hb, Ft, hs, hD⟩
  clear hm hown hW
  refine callsIn_of_wp Tryz.func116 rfl hF ?_ hro
  try simp only [Tryz.ntmps116, List.size_toArray, List.length_cons, List.length_nil, Nat.reduceAdd, Nat.reduceSub, Array.replicate_succ, Array.replicate_zero, List.push_toArray, List.append_toArray, List.nil_append, List.cons_append]
  gi_wp2_with (first
    | (gi_at_range; refine wpListIn_range_own _ rfl _ 89 rfl 23 94 keyA.keyed Tryz.underlying89 _ b nn _ rfl hown' ?_; intro w0 hrg0 hg0 hs0)
    | gi_in)
  try go_frame
  gi_loopw [3] (fun _ wr => ∃ (left : Lit → Bool) (cnt : Nat) (ss : List Nat), wr.ranges Tryz.prog 23 R0 b W.heap.size nn D left cnt ∧ ss.length + cnt ≤ Maps.size D ∧ Came Tryz.prog 23 adV wA ks left ss ∧ J ss wr)
    (fun _ wr => wr.rangeLeft b W.heap.size)
  case atStart =>
    exact ⟨_, _, [], hrg0, by simp, Came.start h1 h2, hJ [] W w0 none h0 hg0 (fun r e => by cases e)⟩
  case round =>
    obtain ⟨left, cnt, ss, hrg, hcs, hC, hJs⟩ := hrel
    gi_wp2_with (first
      | (gi_at_next; refine wpListIn_next_ranges _ rfl _ rfl 23 keyA.keyed R0 id id (fun key kl hk => ⟨key, rfl⟩) (fun v _ _ => ⟨v, rfl⟩) b W.heap.size nn _ _ _ rfl hrg ?_ ?_)
      | gi_in)
    · intro hc0 hl0
      gi_wp2
      go_end0
      exact ⟨⟨_, rfl⟩, .inl ⟨ss, hC.perm keyA hks hd hl0, hJs⟩⟩
    · intro x c kl yd yp w2 cnt2 hkey hlk hv hat hrg2 hlt hg2 hs2 hen
      obtain ⟨a, ha, hxa, hns, hC2⟩ := hC.step keyA hks hkey hlk
      obtain rfl : x = adV a := hxa
      have hJ2 : J ss w2 := hJ ss wr w2 (some W.heap.size) hJs hg2 (fun r e => by cases e; exact ⟨Nat.le_refl _, hrg.iter_walk⟩)
      clear hs2 hv hat
      have hf2 : (w2.alloc (.cells (zU8 20).toArray 23)).free? w2.heap.size 0 20 = true := World.free?_alloc_at _ _ rfl (by simp [zU8])
      have hok := beC_ok 20 a
      have hlen := okL_len hok
      generalize hw3 : (w2.alloc (.cells (zU8 20).toArray 23)).setCells w2.heap.size 0 (beC 20 a) = w3
      have hb3 : Below w2.heap.size w2 w3 := by rw [← hw3]; exact ((Below.refl _ w2).alloc (Nat.le_refl _) _).setCells (Nat.le_refl _) _ _
      have hJ3 : J ss w3 := hJ ss w2 w3 none hJ2 ⟨hb3.1, hb3.2, hb3.3, hb3.size, fun k hk _ => hb3.block k hk⟩ (fun r e => by cases e)
      have hr3 : w3.row? w2.heap.size 0 20 = some (beC 20 a) := by
        have hz : (zU8 20).length = 20 := by simp [zU8]
        rw [← hw3, World.row?_setCells_lay 0 (beC 20 a) (Nat.le_refl _) (by rw [hlen]; exact Nat.le_refl _), World.row?_alloc_at _ _ _ rfl hz]
        show some (lay (zU8 20) 0 (beC 20 a)) = _
        rw [lay_all _ _ (by rw [hlen, hz])]
      obtain ⟨fn, tmps, assign, body, hy, hR⟩ := hY ss a w3 hJ3 (by omega)
      have hk3 : KeepsWalks w2 w3 := ⟨hb3.size, fun k o h _ => (hb3.block k (Array.getElem?_eq_some_iff.1 h).1).trans h⟩
      simp only [adV_eq] at hy hen ⊢
      gi_wp2
      refine hR.mono ?_
      rintro e W3 (⟨rfl, hJ4, hk4⟩ | ⟨rfl, hJ4⟩)
      · gi_wp2
        have hrg3 := (hrg2.of_walks hk3).of_walks hk4
        go_roundw
        case rel => exact ⟨_, cnt2, ss ++ [a], hrg3, by simp; omega, hC2, hJ4⟩
        case measure => rw [hrg3.left_eq, hrg.left_eq]; exact hlt
      · gi_wp2
        refine bodyPost_ret (results_none rfl _ _ _) rfl ?_
        exact ⟨⟨_, rfl⟩, .inr ⟨_, trivial, hJ4⟩⟩
end Go.Proofs.YtiglinnjnobodaaGreat
namespace Go.Mun
open Go.RowKit
/-- Addresses side by side. -/
def adrC (l : List Nat) : List Value := l.flatMap (beC 20)
@[go_sem, simp] theorem adrC_len (l : List Nat) : (adrC l).length = l.length * 20 := by
  induction l with
  | nil => rfl
  | cons a l ih => simp [adrC] at ih ⊢; omega
theorem adrC_snoc (l : List Nat) (x : Nat) : adrC (l ++ [x]) = adrC l ++ beC 20 x := by simp [adrC]
theorem Below.asGrown {w w' : World} (h : Below w.heap.size w w') : w.grownBy w' none := ⟨h.1, h.2, h.3, h.size, fun k hk _ => h.block k hk⟩
theorem Below.keepsOthers {w w' : World} (h : Below w.heap.size w w') : KeepsOthers w w' := ⟨h.size, fun k o hk _ => (h.block k (Array.getElem?_eq_some_iff.1 hk).1).trans hk⟩
theorem Below.keepsWalks {w w' : World} (h : Below w.heap.size w w') : KeepsWalks w w' := ⟨h.size, fun k o hk _ => (h.block k (Array.getElem?_eq_some_iff.1 hk).1).trans hk⟩
theorem row_own (B n : Nat) (L : List Value) : _root_.Go.Own (fun (_ : Unit) W => W.row? B 0 n = some L) := by
  intro s X Y row h hg hr
  have hlt := World.row?_lt h
  refine (World.row?_of_block (hg.block B hlt ?_)).trans h
  intro e
  obtain ⟨o, ho, hc⟩ := hr B e.symm
  obtain ⟨c, t, f, hb, _⟩ := World.row?_inv h
  rw [hb] at ho; cases ho; cases hc
theorem cell_row_new (w : World) (L : List Value) (t : TypeId) : ∀ j u, L[j]? = some u → (w.alloc (.cells L.toArray t)).cell? ((⟨w.heap.size, 0, none⟩ : Addr).add j) = some u := by
  intro j u hj
  have h := World.alloc_heap_new w (.cells L.toArray t)
  have h2 : ((⟨w.heap.size, 0, none⟩ : Addr).add j) = ⟨w.heap.size, j, none⟩ := by
    cases j <;> simp [Addr.add]
  rw [h2]
  unfold World.cell?
  simp only [h]
  simpa using hj
theorem Boxed.free {W : World} {B : Nat} {t : TypeId} {v : Value} (h : Boxed W B t v) : W.free? B 0 1 = true := by
  unfold Boxed at h
  unfold World.free?
  simp only [h]
  simp
end Go.Mun
namespace Go.Proofs.YtiglinnjnobodaaGreat
open Go.RowKit Go.Mun Go.Maps Go.Shelf
attribute [local go_sem] Oper.semAt_some
attribute [local go_sem ↓] semAt_run
attribute [local irreducible] beC zU8
set_option maxRecDepth 1000000 in
theorem slA1 : SliceLit Tryz.prog 122 23 20 1 (zU8 20) := ⟨Tryz.underlying122, ⟨_, .agg (zU8 20).toArray, rfl, by kernel_rfl, by kernel_rfl, by kernel_rfl⟩, by decide, by kernel_rfl, by decide⟩
def fillA (p : List (Nat × Value)) : Option (List Value) := fillL (1 * 20) ((List.range 1).map fun i => (i * 20, 20)) (zU8 20) p
theorem bsA1 (ρ : Operand → Value) (dst : Option Tmp) (x : Operand) (t : TypeId) (pos : String) (after : Array Edge) (gd : Option (Nat × Bool)) (w : World) :
    (execOp ρ ⟨dst, .buildSlice 122 1 #[(0, x)], t, pos, after, gd⟩).run Tryz.prog w = asNext (bsRow Tryz.prog 122 23 1 [(0, ρ x)] w (fillA [(0, ρ x)])) :=
  ex_bslice ρ dst t pos after gd w slA1 [(0, x)]
theorem zU8_len (n : Nat) : (zU8 n).length = n := by unfold zU8; simp
@[go_sem] theorem fillA_one (c : List Value) (h : c.length = 20) : fillA [(0, .agg c.toArray)] = some c := by
  unfold fillA
  have hz := zU8_len 20
  have : lay (zU8 20) 0 c = c := by
    have := lay_left (zU8 20) c [] (by simp [h, hz])
    simpa using this
  simp [fillL, h, Value.cells, this]
theorem s1_A (ρ : Operand → Value) (dst : Option Tmp) (x y : Operand) (t : TypeId) (pos : String) (after : Array Edge) (gd : Option (Nat × Bool)) (w : World) : (execOp ρ ⟨dst, .store 122 x y, t, pos, after, gd⟩).run Tryz.prog w = asSkip (stOne Tryz.prog 122 (ρ x) (ρ y) w) := ex_store1 ρ dst x y t pos after gd w (by kernel_rfl)
attribute [go_sem ↓] bsA1 s1_A
theorem infoA : (Tryz.prog.info? 23).map (fun i => (i.zero, i.size, i.bytes)) = some (some (.agg (zU8 20).toArray), 20, 20) := by kernel_rfl
set_option maxRecDepth 100000 in
set_option maxHeartbeats 400000 in
theorem appendSeq212 (F : Fence) (n : Nat) (hF : F.fn 212) (hG : F.fn 116) (hro : F.round = none) (hn : 3 ≤ n) (Bm : Nat) (ks : List Nat) (w : World) (hN : ks.length ≤ 4000000)
    (hseq : ∀ w' : World, Below w.heap.size w w' → SeqStopsK F (n - 1) Tryz.prog 116 #[.pointer (some ⟨Bm, 0, none⟩)] (fun a : Nat => #[adV a]) KeepsWalks (fun ss => ss.Perm ks) (fun _ => True) ks.length w') :
    CallsIn F n Tryz.prog 212 #[.slice none 0 0, .func (.func 116) #[] #[.pointer (some ⟨Bm, 0, none⟩)]] w fun e W' => ∃ v ss, e = .returned v ∧ ss.Perm ks ∧ W'.ownsRow w.heap.size 23 20 v ss.length (adrC ss) ∧ (v = .slice none 0 0 ↔ ss = []) ∧ Below w.heap.size w W' := by
  obtain ⟨i0, hi, hz0, hz1, hz2⟩ := info_parts infoA
  have h1 : 1 ≤ n := by omega
  refine callsIn_of_wp_marks Tryz.func212 rfl hF ?_ hro
  try simp only [Tryz.ntmps212, List.size_toArray, List.length_cons, List.length_nil, Nat.reduceAdd, Nat.reduceSub, Array.replicate_succ, Array.replicate_zero, List.push_toArray, List.append_toArray, List.nil_append, List.cons_append]
  gi_wp2
  obtain ⟨W0, hW0⟩ : ∃ W0, w.alloc (.cells #[.slice none 0 0] 122) = W0 := ⟨_, rfl⟩
  have hsz : W0.heap.size = w.heap.size + 1 := by rw [← hW0]; simp
  have hB0 : Boxed W0 w.heap.size 122 (.slice none 0 0) := by rw [← hW0]; exact Boxed.new _ _ _
  have hBW : Below w.heap.size w W0 := by rw [← hW0]; exact (Below.refl _ w).alloc (Nat.le_refl _) _
  rw [hW0]
  have hO1 : OwnFrom W0.heap.size (fun (pre : List Nat) W => ∃ v, Boxed W w.heap.size 122 v ∧ W.ownsRow w.heap.size 23 20 v pre.length (adrC pre) ∧ (v = .slice none 0 0 ↔ pre = [])) :=
    _root_.Go.Own.from (holdsRow_own (β := List Nat) w.heap.size w.heap.size 122 23 20 (fun pre => pre.length) adrC (fun pre v => v = .slice none 0 0 ↔ pre = [])) _
  have hO2 : OwnFrom W0.heap.size (fun (_ : List Nat) W => Below w.heap.size w W) := ownFrom_below (Nat.le_refl _) (by rw [hsz]; omega)
  have hOI := OwnFrom.and hO1 hO2
  refine wpIn_rangeFunc_ownH hro h1 (gf := 116) (lb := #[.pointer (some ⟨Bm, 0, none⟩)]) rfl hG (enters_of Tryz.func116 (by kernel_rfl) rfl)
    (hseq W0 hBW) walksK_t walksK_b (Below.refl _ _) (fun _ => rfl)
    (fun pre W => (∃ v, Boxed W w.heap.size 122 v ∧ W.ownsRow w.heap.size 23 20 v pre.length (adrC pre) ∧ (v = .slice none 0 0 ↔ pre = [])) ∧ Below w.heap.size w W)
    (fun _ _ _ => False)
    hOI
    (fun _ _ _ _ _ h _ _ => h)
    ⟨⟨_, hB0, World.ownsRow_nil _ _ _ _, by simp⟩, hBW⟩
    (fun x a' W => ∃ Bx, w.heap.size < Bx ∧ W.row? Bx 0 20 = some (beC 20 x) ∧ a' = { tmps := #[.slice none 0 0, .func (.func 116) #[] #[.pointer (some ⟨Bm, 0, none⟩)], .pointer (some ⟨w.heap.size, 0, none⟩), undef, .slice none 0 0, .pointer (some ⟨Bx, 0, none⟩), .func (.func 116) #[] #[.pointer (some ⟨Bm, 0, none⟩)], adV x, undef, undef, undef, undef, undef], defers := [] })
    (fun x a' s X Y row h hg hr => by
      obtain ⟨Bx, hB, hrow, e⟩ := h
      exact ⟨Bx, hB, row_own Bx 20 _ () X Y row hrow hg (fun r e => (hr r e).2), e⟩) ?assign ?body ?done ?stop
  case assign =>
    rintro l pre x W K ⟨⟨v, hv, hrow, hnil⟩, hB⟩ hK
    have hf2 : (W.alloc (.cells (zU8 20).toArray 23)).free? W.heap.size 0 20 = true := World.free?_alloc_at _ _ rfl (by simp [zU8_len])
    have hok := beC_ok 20 x
    have hlen := okL_len hok
    have hr3 : ((W.alloc (.cells (zU8 20).toArray 23)).setCells W.heap.size 0 (beC 20 x)).row? W.heap.size 0 20 = some (beC 20 x) := by
      rw [World.row?_setCells_lay 0 (beC 20 x) (Nat.le_refl _) (by rw [hlen]; exact Nat.le_refl _), World.row?_alloc_at _ _ _ rfl (zU8_len 20)]
      show some (lay (zU8 20) 0 (beC 20 x)) = _
      rw [lay_all _ _ (by rw [hlen, zU8_len])]
    have hb3 : Below W.heap.size W ((W.alloc (.cells (zU8 20).toArray 23)).setCells W.heap.size 0 (beC 20 x)) := ((Below.refl _ W).alloc (Nat.le_refl _) _).setCells (Nat.le_refl _) _ _
    simp only [adV_eq] at hK ⊢
    gi_wp2
    refine hK _ _ ((Below.keepsOthers hb3).from _) (Below.keepsWalks hb3) ⟨⟨v, ?_, ?_, hnil⟩, ?_⟩ ⟨_, ?_, hr3, rfl⟩
    · exact Boxed.kept hv (Below.asGrown hb3) (by simp)
    · exact hrow.kept (Below.asGrown hb3) (by cases v.ownBlock <;> simp)
    · exact hB.trans (hb3.mono hB.size)
    · exact Nat.lt_of_lt_of_le hv.lt (Nat.le_refl _)
  case body =>
    rintro l pre x a' W hl _ ⟨⟨v, hv, hrow, hnil⟩, hB⟩ ⟨Bx, hBx, hrx, rfl⟩ hlt
    have hvc := hv.cell
    have hok := beC_ok 20 x
    have hlen := okL_len hok
    have hsW := hB.size
    gi_wp2_with (gi_at_builtin; go_must (refine wpListIn_append_own _ rfl _ _ 122 rfl w.heap.size 23 i0 _ 20 20 Tryz.underlying122 hi hz0 hz1 hz2 (by simp [Value.cells, zU8_len]) (by decide) _ _ _ rfl (hrow.alloc _) ⟨W.heap.size, 0, none⟩ 1 1 (beC 20 x) rfl (by rw [hlen]) (cell_row_new _ _ _) (okL_mem hok) (by unfold maxLen; omega) (by omega) (by simp; omega) ?_); intro v' w1 hown' hgrow _; obtain ⟨g', cap', rfl⟩ := ownsRow_succ hown'; obtain ⟨hv1, hv2, hr2, hk2, hb2⟩ := hv.appended (by decide) hrow hB.size (Nat.le_refl _) hown' hgrow; have hc1 := hv1.cell; have hf1 := Boxed.free hv1)
    refine ⟨hk2.from _, hk2.walks, ⟨⟨_, hv2, ?_, ?_⟩, ?_⟩⟩
    · rw [adrC_snoc]; simpa using hr2
    · simp
    · exact hB.trans hb2
  case done =>
    rintro D xs W hD hp ⟨⟨v, hv, hrow, hnil⟩, hB⟩ hK
    have hvc := hv.cell
    gi_wp2
    refine ⟨by simp, .inl ⟨_, _, rfl, run_takeDeferred hK, ?_⟩⟩
    refine ⟨_, results_tmp rfl _ _ _, v, xs, rfl, hp, ownsRow_putObj hrow _ hK rfl, hnil, hB.trans (belowK_b (w := w) (Nat.le_refl _) W D _ _ (by omega) hK rfl rfl)⟩
  case stop =>
    rintro D c pre W hD _ h _
    exact h.elim
end Go.Proofs.YtiglinnjnobodaaGreat
