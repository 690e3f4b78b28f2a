/-
  The iterator over the keys of a map of slots.
  slices.AppendSeq, slices.Collect over the keys of a map of slots.
  The keys of a map of accounts, in their order.
  DERIVED: THE SHELF's CONTRACTS AT THIS DUMP, IN PLAIN WORDS (tools/lay-plain.mjs out of 'YtiglinnjnobodaaGreatSrw0.lean', which tools/lay-shelf.mjs wrote): THE SAME DECLARATIONS UNDER THE SAME NAMES: 'import', 'namespace', 'open', 'def', 'theorem' AND NOTHING ELSE: no command of the shelf's: FOR A HAND-IN. Each laying: the table of numbers ('.._ren') and one theorem, a field a fact of the dump's own or the kernel's comparison; each contract: ONE APPLICATION.
  The keys of a slots map that holds nothing, in their order: none.
-/
import Derived.Test.YtiglinnjnobodaaGreatQItr1
import Derived.Test.YtiglinnjnobodaaGreatQPlain
import Derived.Test.YtiglinnjnobodaaGreatQKyr
import Derived.RangeFuncNested
import Derived.RangeFuncBound
import Derived.RangeFuncCalls
import Derived.RangeFuncLeaves
import Derived.Shelf.Abstract
import Derived.Shelf.RegionOpen
import Derived.WalkKit
import Derived.OwnWalkIn
import Derived.TacticsInMore
import Derived.LoopNIn
import Derived.LoopIn
import Derived.Maps.AppendAt
import Derived.Test.YtiglinnjnobodaaGreatQEv1
import Derived.Test.YtiglinnjnobodaaGreatQSrt
import Derived.Shelf.SlGeneric
import Derived.Shelf.SlSortCmp.NoneTotal
import Derived.Ground.SlsfProg
import Derived.Test.YtiglinnjnobodaaGreatProg
set_option linter.unusedVariables false
set_option linter.unusedSimpArgs false
namespace Go.Proofs.YtiglinnjnobodaaGreat
open Go.RowKit Go.Mun Go.Maps Go.Shelf
attribute [local go_sem] Oper.semAt_some
attribute [local go_sem ↓] semAt_run
attribute [local irreducible] beC zU8
theorem wdV_eq (a : Nat) : wdV a = .agg (beC 32 a).toArray := rfl
set_option maxRecDepth 100000 in
set_option maxHeartbeats 2000000 in
theorem keys120 (F : Fence) (n : Nat) (hF : F.fn 120) (hro : F.round = none) (hn : 1 ≤ n) (Bm b nn : Nat) (D : DataW Unit) (ks : List Nat) (w : World)
    (hks : ∀ a ∈ ks, a < wW) (hd : ks.Nodup) (hsz : Maps.size D = ks.length) (h1 : ∀ kl, Maps.has D kl = true → ∃ a ∈ ks, keyOf Tryz.prog 25 (wdV a) = some kl) (h2 : ∀ a ∈ ks, ∀ kl, keyOf Tryz.prog 25 (wdV a) = some kl → Maps.has D kl = true)
    (hBm : Bm < w.heap.size) (hm : w.cell? ⟨Bm, 0, none⟩ = some (.map (some b))) (hown : w.ownsMap Tryz.prog 25 R0 b nn D) :
    SeqStopsK F n Tryz.prog 120 #[.pointer (some ⟨Bm, 0, none⟩)] (fun a : Nat => #[wdV a]) KeepsWalks (fun ss => ss.Perm ks) (fun _ => True) ks.length w := by
  intro l J Jx W hW hJ hJx hY h0
  have hm' : W.cell? ⟨Bm, 0, none⟩ = some (.map (some b)) := (hW.cell (p := ⟨Bm, 0, none⟩) hBm).trans hm
  have hown' : W.ownsMap Tryz.prog 25 R0 b nn D := by
    have hbl := hown.lt
    obtain ⟨es, clock, hb, Ft, hs, hD⟩ := hown
    exact ⟨es, clock, (hW.block b hbl).trans hb, Ft, hs, hD⟩
  clear hm hown hW
  refine callsIn_of_wp Tryz.func120 rfl hF ?_ hro
  try simp only [Tryz.ntmps120, List.size_toArray, List.length_cons, List.length_nil, Nat.reduceAdd, Nat.reduceSub, Array.replicate_succ, Array.replicate_zero, List.push_toArray, List.append_toArray, List.nil_append, List.cons_append]
  gi_wp2_with (first
    | (gi_at_range; refine wpListIn_range_own _ rfl _ 96 rfl 25 25 keyW.keyed Tryz.underlying96 _ b nn _ rfl hown' ?_; intro w0 hrg0 hg0 hs0)
    | gi_in)
  try go_frame
  gi_loopw [3] (fun _ wr => ∃ (left : Lit → Bool) (cnt : Nat) (ss : List Nat), wr.ranges Tryz.prog 25 R0 b W.heap.size nn D left cnt ∧ ss.length + cnt ≤ Maps.size D ∧ Came Tryz.prog 25 wdV wW ks left ss ∧ J ss wr)
    (fun _ wr => wr.rangeLeft b W.heap.size)
  case atStart =>
    exact ⟨_, _, [], hrg0, by simp, Came.start h1 h2, hJ [] W w0 none h0 hg0 (fun r e => by cases e)⟩
  case round =>
    obtain ⟨left, cnt, ss, hrg, hcs, hC, hJs⟩ := hrel
    gi_wp2_with (first
      | (gi_at_next; refine wpListIn_next_ranges _ rfl _ rfl 25 keyW.keyed R0 id id (fun key kl hk => ⟨key, rfl⟩) (fun v _ _ => ⟨v, rfl⟩) b W.heap.size nn _ _ _ rfl hrg ?_ ?_)
      | gi_in)
    · intro hc0 hl0
      gi_wp2
      go_end0
      exact ⟨⟨_, rfl⟩, .inl ⟨ss, hC.perm keyW hks hd hl0, hJs⟩⟩
    · intro x c kl yd yp w2 cnt2 hkey hlk hv hat hrg2 hlt hg2 hs2 hen
      obtain ⟨a, ha, hxa, hns, hC2⟩ := hC.step keyW hks hkey hlk
      obtain rfl : x = wdV a := hxa
      have hJ2 : J ss w2 := hJ ss wr w2 (some W.heap.size) hJs hg2 (fun r e => by cases e; exact ⟨Nat.le_refl _, hrg.iter_walk⟩)
      clear hs2 hv hat
      have hf2 : (w2.alloc (.cells (zU8 32).toArray 25)).free? w2.heap.size 0 32 = true := World.free?_alloc_at _ _ rfl (by simp [zU8])
      have hok := beC_ok 32 a
      have hlen := okL_len hok
      generalize hw3 : (w2.alloc (.cells (zU8 32).toArray 25)).setCells w2.heap.size 0 (beC 32 a) = w3
      have hb3 : Below w2.heap.size w2 w3 := by rw [← hw3]; exact ((Below.refl _ w2).alloc (Nat.le_refl _) _).setCells (Nat.le_refl _) _ _
      have hJ3 : J ss w3 := hJ ss w2 w3 none hJ2 ⟨hb3.1, hb3.2, hb3.3, hb3.size, fun k hk _ => hb3.block k hk⟩ (fun r e => by cases e)
      have hr3 : w3.row? w2.heap.size 0 32 = some (beC 32 a) := by
        have hz : (zU8 32).length = 32 := by simp [zU8]
        rw [← hw3, World.row?_setCells_lay 0 (beC 32 a) (Nat.le_refl _) (by rw [hlen]; exact Nat.le_refl _), World.row?_alloc_at _ _ _ rfl hz]
        show some (lay (zU8 32) 0 (beC 32 a)) = _
        rw [lay_all _ _ (by rw [hlen, hz])]
      obtain ⟨fn, tmps, assign, body, hy, hR⟩ := hY ss a w3 hJ3 (by omega)
      have hk3 : KeepsWalks w2 w3 := ⟨hb3.size, fun k o h _ => (hb3.block k (Array.getElem?_eq_some_iff.1 h).1).trans h⟩
      simp only [wdV_eq] at hy hen ⊢
      gi_wp2
      refine hR.mono ?_
      rintro e W3 (⟨rfl, hJ4, hk4⟩ | ⟨rfl, hJ4⟩)
      · gi_wp2
        have hrg3 := (hrg2.of_walks hk3).of_walks hk4
        go_roundw
        case rel => exact ⟨_, cnt2, ss ++ [a], hrg3, by simp; omega, hC2, hJ4⟩
        case measure => rw [hrg3.left_eq, hrg.left_eq]; exact hlt
      · gi_wp2
        refine bodyPost_ret (results_none rfl _ _ _) rfl ?_
        exact ⟨⟨_, rfl⟩, .inr ⟨_, trivial, hJ4⟩⟩
end Go.Proofs.YtiglinnjnobodaaGreat
namespace Go.Proofs.YtiglinnjnobodaaGreat
open Go.RowKit Go.Mun Go.Maps Go.Shelf
attribute [local go_sem] Oper.semAt_some
attribute [local go_sem ↓] semAt_run
attribute [local irreducible] beC zU8
theorem stkC_snoc (l : List Nat) (x : Nat) : stkC (l ++ [x]) = stkC l ++ beC 32 x := by simp [stkC]
theorem infoW : (Tryz.prog.info? 25).map (fun i => (i.zero, i.size, i.bytes)) = some (some (.agg (zU8 32).toArray), 32, 32) := by kernel_rfl
set_option maxRecDepth 100000 in
set_option maxHeartbeats 400000 in
theorem appendSeq215 (F : Fence) (n : Nat) (hF : F.fn 215) (hG : F.fn 120) (hro : F.round = none) (hn : 3 ≤ n) (Bm : Nat) (ks : List Nat) (w : World) (hN : ks.length ≤ 4000000)
    (hseq : ∀ w' : World, Below w.heap.size w w' → SeqStopsK F (n - 1) Tryz.prog 120 #[.pointer (some ⟨Bm, 0, none⟩)] (fun a : Nat => #[wdV a]) KeepsWalks (fun ss => ss.Perm ks) (fun _ => True) ks.length w') :
    CallsIn F n Tryz.prog 215 #[.slice none 0 0, .func (.func 120) #[] #[.pointer (some ⟨Bm, 0, none⟩)]] w fun e W' => ∃ v ss, e = .returned v ∧ ss.Perm ks ∧ W'.ownsRow w.heap.size 25 32 v ss.length (stkC ss) ∧ (v = .slice none 0 0 ↔ ss = []) ∧ Below w.heap.size w W' := by
  obtain ⟨i0, hi, hz0, hz1, hz2⟩ := info_parts infoW
  have h1 : 1 ≤ n := by omega
  refine callsIn_of_wp_marks Tryz.func215 rfl hF ?_ hro
  try simp only [Tryz.ntmps215, List.size_toArray, List.length_cons, List.length_nil, Nat.reduceAdd, Nat.reduceSub, Array.replicate_succ, Array.replicate_zero, List.push_toArray, List.append_toArray, List.nil_append, List.cons_append]
  gi_wp2
  obtain ⟨W0, hW0⟩ : ∃ W0, w.alloc (.cells #[.slice none 0 0] 129) = W0 := ⟨_, rfl⟩
  have hsz : W0.heap.size = w.heap.size + 1 := by rw [← hW0]; simp
  have hB0 : Boxed W0 w.heap.size 129 (.slice none 0 0) := by rw [← hW0]; exact Boxed.new _ _ _
  have hBW : Below w.heap.size w W0 := by rw [← hW0]; exact (Below.refl _ w).alloc (Nat.le_refl _) _
  rw [hW0]
  have hO1 : OwnFrom W0.heap.size (fun (pre : List Nat) W => ∃ v, Boxed W w.heap.size 129 v ∧ W.ownsRow w.heap.size 25 32 v pre.length (stkC pre) ∧ (v = .slice none 0 0 ↔ pre = [])) :=
    _root_.Go.Own.from (holdsRow_own (β := List Nat) w.heap.size w.heap.size 129 25 32 (fun pre => pre.length) stkC (fun pre v => v = .slice none 0 0 ↔ pre = [])) _
  have hO2 : OwnFrom W0.heap.size (fun (_ : List Nat) W => Below w.heap.size w W) := ownFrom_below (Nat.le_refl _) (by rw [hsz]; omega)
  have hOI := OwnFrom.and hO1 hO2
  refine wpIn_rangeFunc_ownH hro h1 (gf := 120) (lb := #[.pointer (some ⟨Bm, 0, none⟩)]) rfl hG (enters_of Tryz.func120 (by kernel_rfl) rfl)
    (hseq W0 hBW) walksK_t walksK_b (Below.refl _ _) (fun _ => rfl)
    (fun pre W => (∃ v, Boxed W w.heap.size 129 v ∧ W.ownsRow w.heap.size 25 32 v pre.length (stkC pre) ∧ (v = .slice none 0 0 ↔ pre = [])) ∧ Below w.heap.size w W)
    (fun _ _ _ => False)
    hOI
    (fun _ _ _ _ _ h _ _ => h)
    ⟨⟨_, hB0, World.ownsRow_nil _ _ _ _, by simp⟩, hBW⟩
    (fun x a' W => ∃ Bx, w.heap.size < Bx ∧ W.row? Bx 0 32 = some (beC 32 x) ∧ a' = { tmps := #[.slice none 0 0, .func (.func 120) #[] #[.pointer (some ⟨Bm, 0, none⟩)], .pointer (some ⟨w.heap.size, 0, none⟩), undef, .slice none 0 0, .pointer (some ⟨Bx, 0, none⟩), .func (.func 120) #[] #[.pointer (some ⟨Bm, 0, none⟩)], wdV x, undef, undef, undef, undef, undef], defers := [] })
    (fun x a' s X Y row h hg hr => by
      obtain ⟨Bx, hB, hrow, e⟩ := h
      exact ⟨Bx, hB, row_own Bx 32 _ () X Y row hrow hg (fun r e => (hr r e).2), e⟩) ?assign ?body ?done ?stop
  case assign =>
    rintro l pre x W K ⟨⟨v, hv, hrow, hnil⟩, hB⟩ hK
    have hf2 : (W.alloc (.cells (zU8 32).toArray 25)).free? W.heap.size 0 32 = true := World.free?_alloc_at _ _ rfl (by simp [zU8_len])
    have hok := beC_ok 32 x
    have hlen := okL_len hok
    have hr3 : ((W.alloc (.cells (zU8 32).toArray 25)).setCells W.heap.size 0 (beC 32 x)).row? W.heap.size 0 32 = some (beC 32 x) := by
      rw [World.row?_setCells_lay 0 (beC 32 x) (Nat.le_refl _) (by rw [hlen]; exact Nat.le_refl _), World.row?_alloc_at _ _ _ rfl (zU8_len 32)]
      show some (lay (zU8 32) 0 (beC 32 x)) = _
      rw [lay_all _ _ (by rw [hlen, zU8_len])]
    have hb3 : Below W.heap.size W ((W.alloc (.cells (zU8 32).toArray 25)).setCells W.heap.size 0 (beC 32 x)) := ((Below.refl _ W).alloc (Nat.le_refl _) _).setCells (Nat.le_refl _) _ _
    simp only [wdV_eq] at hK ⊢
    gi_wp2
    refine hK _ _ ((Below.keepsOthers hb3).from _) (Below.keepsWalks hb3) ⟨⟨v, ?_, ?_, hnil⟩, ?_⟩ ⟨_, ?_, hr3, rfl⟩
    · exact Boxed.kept hv (Below.asGrown hb3) (by simp)
    · exact hrow.kept (Below.asGrown hb3) (by cases v.ownBlock <;> simp)
    · exact hB.trans (hb3.mono hB.size)
    · exact Nat.lt_of_lt_of_le hv.lt (Nat.le_refl _)
  case body =>
    rintro l pre x a' W hl _ ⟨⟨v, hv, hrow, hnil⟩, hB⟩ ⟨Bx, hBx, hrx, rfl⟩ hlt
    have hvc := hv.cell
    have hok := beC_ok 32 x
    have hlen := okL_len hok
    have hsW := hB.size
    gi_wp2_with (gi_at_builtin; go_must (refine wpListIn_append_own _ rfl _ _ 129 rfl w.heap.size 25 i0 _ 32 32 Tryz.underlying129 hi hz0 hz1 hz2 (by simp [Value.cells, zU8_len]) (by decide) _ _ _ rfl (hrow.alloc _) ⟨W.heap.size, 0, none⟩ 1 1 (beC 32 x) rfl (by rw [hlen]) (cell_row_new _ _ _) (okL_mem hok) (by unfold maxLen; omega) (by omega) (by simp; omega) ?_); intro v' w1 hown' hgrow _; obtain ⟨g', cap', rfl⟩ := ownsRow_succ hown'; obtain ⟨hv1, hv2, hr2, hk2, hb2⟩ := hv.appended (by decide) hrow hB.size (Nat.le_refl _) hown' hgrow; have hc1 := hv1.cell; have hf1 := Boxed.free hv1)
    refine ⟨hk2.from _, hk2.walks, ⟨⟨_, hv2, ?_, ?_⟩, ?_⟩⟩
    · rw [stkC_snoc]; simpa using hr2
    · simp
    · exact hB.trans hb2
  case done =>
    rintro D xs W hD hp ⟨⟨v, hv, hrow, hnil⟩, hB⟩ hK
    have hvc := hv.cell
    gi_wp2
    refine ⟨by simp, .inl ⟨_, _, rfl, run_takeDeferred hK, ?_⟩⟩
    refine ⟨_, results_tmp rfl _ _ _, v, xs, rfl, hp, ownsRow_putObj hrow _ hK rfl, hnil, hB.trans (belowK_b (w := w) (Nat.le_refl _) W D _ _ (by omega) hK rfl rfl)⟩
  case stop =>
    rintro D c pre W hD _ h _
    exact h.elim
end Go.Proofs.YtiglinnjnobodaaGreat
namespace Go.Proofs.YtiglinnjnobodaaGreat
open Go.RowKit Go.Mun Go.Maps Go.Shelf
set_option maxRecDepth 100000 in
set_option maxHeartbeats 1000000 in
theorem collect118 (F : Fence) (n : Nat) (hF0 : F.fn 118) (hF : F.fn 215) (hG : F.fn 120) (hro : F.round = none) (hn : 4 ≤ n) (Bm : Nat) (ks : List Nat) (w : World) (hN : ks.length ≤ 4000000)
    (hseq : ∀ w' : World, Below w.heap.size w w' → SeqStopsK F (n - 1 - 1) Tryz.prog 120 #[.pointer (some ⟨Bm, 0, none⟩)] (fun a : Nat => #[wdV a]) KeepsWalks (fun ss => ss.Perm ks) (fun _ => True) ks.length w') :
    CallsIn F n Tryz.prog 118 #[.func (.func 120) #[] #[.pointer (some ⟨Bm, 0, none⟩)]] w fun e W' => ∃ v ss, e = .returned v ∧ ss.Perm ks ∧ W'.ownsRow w.heap.size 25 32 v ss.length (stkC ss) ∧ (v = .slice none 0 0 ↔ ss = []) ∧ Below w.heap.size w W' := by
  refine callsIn_of_wp Tryz.func118 rfl hF0 ?_ hro
  have hap := appendSeq215 F (n - 1) hF hG hro (by omega) Bm ks w hN hseq
  clear hseq
  have h1 : 1 ≤ n := by omega
  simp only [Tryz.ntmps118, List.size_toArray, List.length_cons, List.length_nil, Nat.reduceAdd, Nat.reduceSub, Array.replicate_succ, Array.replicate_zero, List.push_toArray, List.append_toArray, List.nil_append, List.cons_append]
  gi_wp2_with (gi_at_call 215; refine hap.mono ?_; rintro e w' ⟨v, ss, rfl, hp, hrow, hnil, hB⟩)
  go_ret
  exact ⟨v, ss, rfl, hp, hrow, hnil, hB⟩
theorem collect_plainW (Bm b nn : Nat) (D : DataW Unit) (ks : List Nat) (w : World) (hks : ∀ a ∈ ks, a < wW) (hd : ks.Nodup) (hN : ks.length ≤ 4000000) (hsz : Maps.size D = ks.length)
    (h1 : ∀ kl, Maps.has D kl = true → ∃ a ∈ ks, keyOf Tryz.prog 25 (wdV a) = some kl) (h2 : ∀ a ∈ ks, ∀ kl, keyOf Tryz.prog 25 (wdV a) = some kl → Maps.has D kl = true)
    (hBm : Bm < w.heap.size) (hm : w.cell? ⟨Bm, 0, none⟩ = some (.map (some b))) (hown : w.ownsMap Tryz.prog 25 R0 b nn D) :
    Calls Tryz.prog 118 #[.func (.func 120) #[] #[.pointer (some ⟨Bm, 0, none⟩)]] w fun e W' => ∃ v ss, e = .returned v ∧ ss.Perm ks ∧ W'.ownsRow w.heap.size 25 32 v ss.length (stkC ss) ∧ (v = .slice none 0 0 ↔ ss = []) ∧ Below w.heap.size w W' := by
  refine (callsIn_wide (n := 4)).1 (collect118 Fence.wide 4 trivial trivial trivial rfl (by omega) Bm ks w hN fun w' hb => ?_)
  refine keys120 Fence.wide 2 trivial rfl (by omega) Bm b nn D ks w' hks hd hsz h1 h2 (Nat.lt_of_lt_of_le hBm hb.size) ((hb.cell (p := ⟨Bm, 0, none⟩) hBm).trans hm) ?_
  have hbl := hown.lt
  obtain ⟨es, clock, hbk, Ft, hs, hD⟩ := hown
  exact ⟨es, clock, (hb.block b hbl).trans hbk, Ft, hs, hD⟩
set_option maxHeartbeats 1000000 in
/-- maps.Keys: the map is boxed. -/
theorem maps_KeysW (m : Value) (w : World) (hm : m.oneCell' = true) : Calls Tryz.prog 76 #[m] w fun e w' => e = .returned (.func (.func 120) #[] #[.pointer (some ⟨w.heap.size, 0, none⟩)]) ∧ w' = w.alloc (.cells #[m] 96) := by
  go_enter Tryz.func76, Tryz.ntmps76
  go_wp2
  go_ret
  exact ⟨rfl, rfl⟩
end Go.Proofs.YtiglinnjnobodaaGreat
namespace Go.Proofs
open Go.Shelf
def Tryz.sortW_ren : Go.Shelf.Ren := ⟨fun | 6 => 119 | 15 => 214 | 14 => 216 | 28 => 298 | 29 => 299 | 20 => 300 | 21 => 301 | 22 => 302 | 23 => 303 | 24 => 304 | 25 => 305 | 26 => 306 | 27 => 307 | 46 => 363 | 47 => 359 | 48 => 360 | 49 => 364 | 50 => 365 | 57 => 380 | n => n, fun | 22 => 129 | 24 => 25 | 25 => 116 | 3 => 3 | 39 => 110 | 0 => 0 | 53 => 306 | 55 => 148 | 4 => 4 | 46 => 300 | 45 => 299 | 50 => 143 | 5 => 5 | 9 => 9 | 66 => 337 | 70 => 341 | 76 => 353 | 77 => 354 | n => n, fun | n => n⟩
theorem Tryz.sortW : Go.Proofs.SlLaysF0.n6 Tryz.prog Tryz.sortW_ren := {
  mixed := by kernel_rfl
  f6 := ⟨Tryz.f119.name, by decide, Tryz.func119.trans (congrArg some (by kernel_rfl))⟩
  f14 := ⟨Tryz.f216.name, by decide, Tryz.func216.trans (congrArg some (by kernel_rfl))⟩
  f15 := Tryz.func214.trans (congrArg some (by kernel_rfl))
  f20 := ⟨Tryz.f300.name, by decide, Tryz.func300.trans (congrArg some (by kernel_rfl))⟩
  f21 := ⟨Tryz.f301.name, by decide, Tryz.func301.trans (congrArg some (by kernel_rfl))⟩
  f22 := ⟨Tryz.f302.name, by decide, Tryz.func302.trans (congrArg some (by kernel_rfl))⟩
  f23 := ⟨Tryz.f303.name, by decide, Tryz.func303.trans (congrArg some (by kernel_rfl))⟩
  f24 := ⟨Tryz.f304.name, by decide, Tryz.func304.trans (congrArg some (by kernel_rfl))⟩
  f25 := ⟨Tryz.f305.name, by decide, Tryz.func305.trans (congrArg some (by kernel_rfl))⟩
  f26 := ⟨Tryz.f306.name, by decide, Tryz.func306.trans (congrArg some (by kernel_rfl))⟩
  f27 := ⟨Tryz.f307.name, by decide, Tryz.func307.trans (congrArg some (by kernel_rfl))⟩
  f28 := Tryz.func298.trans (congrArg some (by kernel_rfl))
  f29 := Tryz.func299.trans (congrArg some (by kernel_rfl))
  f46 := ⟨Tryz.f363.name, by decide, Tryz.func363.trans (congrArg some (by kernel_rfl))⟩
  f47 := Tryz.func359.trans (congrArg some (by kernel_rfl))
  f48 := Tryz.func360.trans (congrArg some (by kernel_rfl))
  f49 := ⟨Tryz.f364.name, by decide, Tryz.func364.trans (congrArg some (by kernel_rfl))⟩
  f50 := ⟨Tryz.f365.name, by decide, Tryz.func365.trans (congrArg some (by kernel_rfl))⟩
  f57 := ⟨Tryz.f380.name, by decide, Tryz.func380.trans (congrArg some (by kernel_rfl))⟩
  t0 := Tryz.underlying0
  a0 := Tryz.isAgg0
  z0 := Tryz.sizeOf0
  v0 := Tryz.zeroValue0
  t3 := Tryz.underlying3
  a3 := Tryz.isAgg3
  z3 := Tryz.sizeOf3
  v3 := Tryz.zeroValue3
  t4 := Tryz.underlying4
  a4 := Tryz.isAgg4
  z4 := Tryz.sizeOf4
  v4 := Tryz.zeroValue4
  t5 := Tryz.underlying5
  a5 := Tryz.isAgg5
  z5 := Tryz.sizeOf5
  v5 := Tryz.zeroValue5
  t9 := Tryz.underlying9
  a9 := Tryz.isAgg9
  z9 := Tryz.sizeOf9
  v9 := Tryz.zeroValue9
  t22 := Tryz.underlying129
  a22 := Tryz.isAgg129
  z22 := Tryz.sizeOf129
  v22 := Tryz.zeroValue129
  t25 := Tryz.underlying116
  a25 := Tryz.isAgg116
  z25 := Tryz.sizeOf116
  v25 := Tryz.zeroValue116
  t39 := Tryz.underlying110
  a39 := Tryz.isAgg110
  z39 := Tryz.sizeOf110
  v39 := Tryz.zeroValue110
  t45 := Tryz.underlying299
  a45 := Tryz.isAgg299
  z45 := Tryz.sizeOf299
  v45 := Tryz.zeroValue299
  t46 := Tryz.underlying300
  a46 := Tryz.isAgg300
  z46 := Tryz.sizeOf300
  v46 := Tryz.zeroValue300
  t50 := Tryz.underlying143
  a50 := Tryz.isAgg143
  z50 := Tryz.sizeOf143
  v50 := Tryz.zeroValue143
  t53 := Tryz.underlying306
  a53 := Tryz.isAgg306
  z53 := Tryz.sizeOf306
  v53 := Tryz.zeroValue306
  t55 := Tryz.underlying148
  a55 := Tryz.isAgg148
  z55 := Tryz.sizeOf148
  v55 := Tryz.zeroValue148
  t66 := Tryz.underlying337
  a66 := Tryz.isAgg337
  z66 := Tryz.sizeOf337
  v66 := Tryz.zeroValue337
  t70 := Tryz.underlying341
  a70 := Tryz.isAgg341
  z70 := Tryz.sizeOf341
  v70 := Tryz.zeroValue341
  t76 := Tryz.underlying353
  a76 := Tryz.isAgg353
  z76 := Tryz.sizeOf353
  v76 := Tryz.zeroValue353
  t77 := Tryz.underlying354
  a77 := Tryz.isAgg354
  z77 := Tryz.sizeOf354
  v77 := Tryz.zeroValue354 }
end Go.Proofs
namespace Go.Proofs.YtiglinnjnobodaaGreat
open Go.RowKit Go.Mun Go.Maps Go.Shelf
theorem words_sort_none (w : World) : Calls Tryz.prog 119 #[.slice none 0 0, .func (.func 77) #[] #[]] w fun e w' => e = .returned (.tuple #[]) ∧ w' = w :=
  AnyF.slices_SortFunc_none Tryz.sortW none 0 (.func (.func 77) #[] #[]) w
set_option maxHeartbeats 1000000 in
theorem words_none {w : World} {Bm q : Nat} (hBm : Bm < w.heap.size) (hm : w.cell? ⟨Bm, 0, none⟩ = some (.map (some q))) (hq : MapAt wdV wW wdV w q []) :
    Calls Tryz.prog 75 #[.func (.func 120) #[] #[.pointer (some ⟨Bm, 0, none⟩)], .func (.func 77) #[] #[]] w fun e w' => e = .returned (.slice none 0 0) ∧ Below w.heap.size w w' := by
  obtain ⟨D, hD, hsz, h1, h2⟩ := hq.owns keyW (by decide)
  have hcol := collect_plainW Bm q 0 D [] w (by simp) List.nodup_nil (by decide) hsz h1 h2 hBm hm hD
  have hcol2 : Calls Tryz.prog 118 #[.func (.func 120) #[] #[.pointer (some ⟨Bm, 0, none⟩)]] w fun e w' => e = .returned (.slice none 0 0) ∧ Below w.heap.size w w' := by
    refine Calls.mono hcol ?_
    rintro e w' ⟨v, ss, rfl, hp, _, hn, hB⟩
    exact ⟨by rw [hn.2 hp.eq_nil], hB⟩
  clear hcol hD h1 h2 hsz hm hq
  have hs := words_sort_none
  go_enter Tryz.func75, Tryz.ntmps75
  go_wp2_with (first
    | (go_at_call 118; refine hcol2.mono ?_; rintro e w1 ⟨rfl, hB⟩)
    | (go_at_call 119; refine (hs _).mono ?_; rintro e w2 ⟨rfl, rfl⟩))
  go_ret
  exact ⟨rfl, hB⟩
theorem slots_zero {sl : List (Nat × Nat)} {f : Nat → Nat} (h : SlotsOk sl f) (hz : ∀ k, f k = 0) : sl = [] := by
  cases sl with
  | nil => rfl
  | cons p r =>
    have h1 := h.get p.1
    have h2 := (h.val p (by simp)).1
    rw [hz p.1] at h1
    have : getA p.1 (p :: r) = some p.2 := by simp [getA]
    rw [this] at h1
    simp at h1
    omega
end Go.Proofs.YtiglinnjnobodaaGreat
