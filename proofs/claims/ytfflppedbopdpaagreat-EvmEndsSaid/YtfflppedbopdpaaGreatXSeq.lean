/-
  A region that draws its order: what is read out of cells that stay as they are is taken first; the rest goes in the one order that is left.
  A region that draws its order, where what is drawn matters: a tree of what may come up.
-/
import Derived.Test.YtfflppedbopdpaaGreatXLib
import Derived.Deep.RegionHeld3
import Derived.StillTailTactics
set_option linter.unusedVariables false
set_option linter.unusedSimpArgs false
namespace Go.Mun
open Go.RowKit

section
variable {P : Program} {ops : Array Oper} {Q : Exit → Act → World → Prop} {md : Region.Mode} {S : World → Prop} {Z : List Nat}

def anyZ (P : Program) (md : Region.Mode) (ops : Array Oper) (Q : Exit → Act → World → Prop) (S : World → Prop) (Z : List Nat) : Nat → Array Bool → Act → World → Prop
 | 0, l, a, w => Region.ready md ops l = [] ∧ Q .normal a w
 | n + 1, l, a, w => (Region.ready md ops l = [] → Q .normal a w) ∧
  ∀ i ∈ Region.ready md ops l, wpOp P ops Q i (fun a' w' => (i ∉ Z → S w') ∧ anyZ P md ops Q S Z n (l.setIfInBounds i true) a' w') a w
theorem any_of_anyZ : ∀ (n : Nat) (l : Array Bool) (a : Act) (w : World), anyZ P md ops Q S Z n l a w → wpAny P md ops Q n l a w
 | 0, _, _, _, h => h
 | n + 1, _, _, _, h => ⟨h.1, fun i hi => wpOp_mono (fun a' w' k => any_of_anyZ n _ a' w' k.2) (h.2 i hi)⟩
theorem anyZ_take {i : Nat} {oi : Oper} {v : Value} (hi : ops[i]? = some oi) (hs : Region.noSelect ops = true) (hQ : ∀ c a w, Q (.panic c) (a.put oi.dst v) w → Q (.panic c) a w)
  (hZ : ∀ z ∈ Z, ∀ oz, ops[z]? = some oz → ∃ e ∈ oz.after, Region.binds md e = true ∧ e.on = i) :
  ∀ (n : Nat) (l : Array Bool) (a : Act) (w : World),
   (∀ j oj, ops[j]? = some oj → j ≠ i → l.getD j true = false → (∀ e ∈ oj.after, Region.binds md e = true → e.on ≠ i) → oi.apart ops oj = true) →
   i ∈ Region.ready md ops l → YieldsIf P ops S oi v a → S w → anyZ P md ops Q S Z n (l.setIfInBounds i true) (a.put oi.dst v) w → anyZ P md ops Q S Z (n + 1) l a w := by
 have hsel := Region.noSelect_spec hs
 intro n
 induction n with
 | zero =>
  intro l a w _ hr hy hS H
  refine ⟨fun h0 => (by rw [h0] at hr; cases hr), fun j hj => ?_⟩
  by_cases e : j = i
  ·subst e; exact hy.wpOp hi hS ⟨fun _ => hS, H⟩
  ·have := ready_mono hj e
   rw [H.1] at this; cases this
 | succ n ih =>
  intro l a w hf hr hy hS H
  refine ⟨fun h0 => (by rw [h0] at hr; cases hr), fun j hj => ?_⟩
  by_cases e : j = i
  ·subst e; exact hy.wpOp hi hS ⟨fun _ => hS, H⟩
  ·obtain ⟨hun, oj, hoj, hall⟩ := mem_ready.1 hj
   have hiun := (mem_ready.1 hr).1
   have hnot : ∀ e ∈ oj.after, Region.binds md e = true → e.on ≠ i := fun e he hb heq => by
    have h1 := hall e he hb
    rw [heq] at h1
    rcases Nat.lt_or_ge i l.size with h' | h'
    ·simp [h'] at hiun h1; rw [hiun] at h1; cases h1
    ·simp [Array.getElem?_eq_none h'] at h1
   have hjZ : j ∉ Z := fun hz => by
    obtain ⟨e, he, hb, hon⟩ := hZ j hz oj hoj
    exact hnot e he hb hon
   have h2 := wpOp_putIf hoj (hf j oj hoj e hun hnot) (fun cs b => hsel i oi cs b hi) (fun cs b => hsel j oj cs b hoj) hQ hy (H.2 j (ready_mono hj e))
   refine wpOp_mono (fun a' w' h3 => ⟨fun _ => h3.2.1 hjZ, ih (l.setIfInBounds j true) a' w' (fun k ok hk hki hku hno => ?_) (ready_mono hr (Ne.symm e)) h3.1 (h3.2.1 hjZ) ?_⟩) h2
   ·refine hf k ok hk hki ?_ hno
    by_cases hjk : j = k
    ·subst hjk; exact hun
    ·rw [getD_set_ne true hjk] at hku; exact hku
   ·rw [Array.setIfInBounds_comm _ _ e]
    exact h3.2.2

def wpSeq (P : Program) (ops : Array Oper) (Q : Exit → Act → World → Prop) (S : World → Prop) (Z : List Nat) : List Nat → Act → World → Prop
 | [], a, w => Q .normal a w
 | i :: is, a, w => wpOp P ops Q i (fun a' w' => (i ∉ Z → S w') ∧ wpSeq P ops Q S Z is a' w') a w
def seqOk (md : Region.Mode) (ops : Array Oper) : Array Bool → List Nat → Bool
 | l, [] => (Region.ready md ops l).isEmpty
 | l, i :: is => (Region.ready md ops l == [i]) && seqOk md ops (l.setIfInBounds i true) is
theorem anyZ_of_seq : ∀ (is : List Nat) (l : Array Bool) (n : Nat) (a : Act) (w : World), seqOk md ops l is = true → is.length ≤ n → wpSeq P ops Q S Z is a w → anyZ P md ops Q S Z n l a w
 | [], l, 0, a, w, hk, _, h => ⟨by simpa [seqOk] using hk, h⟩
 | [], l, n + 1, a, w, hk, _, h => ⟨fun _ => h, by rw [show Region.ready md ops l = [] by simpa [seqOk] using hk]; simp⟩
 | i :: is, l, 0, a, w, _, hf, _ => by simp at hf
 | i :: is, l, n + 1, a, w, hk, hf, h => by
  simp only [seqOk, Bool.and_eq_true, beq_iff_eq] at hk
  refine ⟨fun h0 => (by rw [hk.1] at h0; cases h0), fun j hj => ?_⟩
  rw [hk.1] at hj
  obtain rfl : j = i := by simpa using hj
  exact wpOp_mono (fun a' w' h' => ⟨h'.1, anyZ_of_seq is _ n a' w' hk.2 (by simpa using hf) h'.2⟩) h
def wpHoist (P : Program) (ops : Array Oper) (Q : Exit → Act → World → Prop) (S : World → Prop) (Z : List Nat) : List Nat → List Nat → Act → World → Prop
 | [], is, a, w => wpSeq P ops Q S Z is a w
 | i :: H, is, a, w => ∃ o v, ops[i]? = some o ∧ YieldsIf P ops S o v a ∧ (∀ c a w, Q (.panic c) (a.put o.dst v) w → Q (.panic c) a w) ∧ wpHoist P ops Q S Z H is (a.put o.dst v) w
def zOk (md : Region.Mode) (ops : Array Oper) (i : Nat) (z : Nat) : Bool := match ops[z]? with
 | some oz => oz.after.any fun e => Region.binds md e && e.on == i
 | none => true
def hoistOk (md : Region.Mode) (ops : Array Oper) (Z : List Nat) : Array Bool → List Nat → List Nat → Bool
 | l, [], is => seqOk md ops l is
 | l, i :: H, is => Region.free md ops l i && (Region.ready md ops l).contains i && Z.all (zOk md ops i) && hoistOk md ops Z (l.setIfInBounds i true) H is
theorem anyZ_of_hoist (hs : Region.noSelect ops = true) : ∀ (H is : List Nat) (l : Array Bool) (n : Nat) (a : Act) (w : World), S w → hoistOk md ops Z l H is = true → H.length + is.length ≤ n → wpHoist P ops Q S Z H is a w → anyZ P md ops Q S Z n l a w
 | [], is, l, n, a, w, _, hk, hf, h => anyZ_of_seq is l n a w hk (by simpa using hf) h
 | i :: H, is, l, 0, a, w, _, _, hf, _ => by simp at hf
 | i :: H, is, l, n + 1, a, w, hS, hk, hf, h => by
  simp only [hoistOk, Bool.and_eq_true] at hk
  obtain ⟨o, v, ho, hy, hQ, h⟩ := h
  refine anyZ_take ho hs hQ (fun z hz oz hoz => ?_) n l a w (Region.free_spec ho hk.1.1.1) (by simpa using hk.1.1.2) hy hS (anyZ_of_hoist hs H is _ n _ w hS hk.2 (by simp at hf; omega) h)
  have := List.all_eq_true.1 hk.1.2 z hz
  unfold zOk at this
  rw [hoz] at this
  obtain ⟨e, he, hb⟩ := Array.any_eq_true'.1 this
  simp only [Bool.and_eq_true, beq_iff_eq] at hb
  exact ⟨e, he, hb.1, hb.2⟩
theorem wp_region_z (S : World → Prop) (Z H is : List Nat) {id : Nat} {a : Act} {w : World} (hm : P.follows .mixedOrders = true)
  (hk : (Region.noSelect ops && hoistOk .any ops Z (Array.replicate ops.size false) H is && decide (H.length + is.length ≤ ops.size)) = true) (hS : S w.drew)
  (h : wpHoist P ops Q S Z H is a w.drew) : (Code.region id ops true).wp P Q a w := by
 simp only [Bool.and_eq_true, decide_eq_true_eq] at hk
 exact wp_region_any hm (any_of_anyZ _ _ _ _ (anyZ_of_hoist hk.1.1 H is _ _ a _ hS hk.1.2 hk.2 h))
theorem wp_region_seq (S : World → Prop) (H is : List Nat) {id : Nat} {a : Act} {w : World} (hm : P.follows .mixedOrders = true)
  (hk : (Region.noSelect ops && hoistOk .any ops [] (Array.replicate ops.size false) H is && decide (H.length + is.length ≤ ops.size)) = true) (hS : S w.drew)
  (h : wpHoist P ops Q S [] H is a w.drew) : (Code.region id ops true).wp P Q a w := wp_region_z S [] H is hm hk hS h
theorem toList_at {i : Nat} {o : Oper} (h : ops.toList[i]? = some o) : ops[i]? = some o := by simpa using h
theorem wpHoist_cons {i : Nat} {H is : List Nat} {a : Act} {w : World} (v : Value) {o : Oper} (ho : ops.toList[i]? = some o) (hw : Region.wanted o (yielded ops a.tmps) = true) (hr : ∀ w, S w → (execOp a.eval o).run P w = .ok (.value v) w)
  (hQ : ∀ c a w, Q (.panic c) (a.put o.dst v) w → Q (.panic c) a w) (h : wpHoist P ops Q S Z H is (a.put o.dst v) w) : wpHoist P ops Q S Z (i :: H) is a w :=
 ⟨o, v, toList_at ho, .inl ⟨hw, hr⟩, hQ, h⟩
theorem wpHoist_nil {is : List Nat} {a : Act} {w : World} (h : wpSeq P ops Q S Z is a w) : wpHoist P ops Q S Z [] is a w := h
theorem wpSeq_nil {a : Act} {w : World} (h : Q .normal a w) : wpSeq P ops Q S Z [] a w := h
theorem wpSeq_cons {i : Nat} {is : List Nat} {a : Act} {w : World} {o : Oper} (ho : ops.toList[i]? = some o)
  (h : ∀ K' : Act → World → Prop, Shut (∀ a w, S w → wpSeq P ops Q S Z is a w → K' a w) → if Region.wanted o (yielded ops a.tmps) = true then Oper.wp P o a w K' Q else K' (a.put o.dst undef) w) : wpSeq P ops Q S Z (i :: is) a w :=
 wpOp_step (toList_at ho) (fun K' hK => h K' (fun a w hS hW => hK a w ⟨fun _ => hS, hW⟩))
theorem wpSeq_z {i : Nat} {is : List Nat} {a : Act} {w : World} {o : Oper} (ho : ops.toList[i]? = some o) (hz : i ∈ Z)
  (h : ∀ K' : Act → World → Prop, Shut (∀ a w, wpSeq P ops Q S Z is a w → K' a w) → if Region.wanted o (yielded ops a.tmps) = true then Oper.wp P o a w K' Q else K' (a.put o.dst undef) w) : wpSeq P ops Q S Z (i :: is) a w :=
 wpOp_step (toList_at ho) (fun K' hK => h K' (fun a w hW => hK a w ⟨fun hn => absurd hz hn, hW⟩))
def wpPlan (P : Program) (ops : Array Oper) (Q : Exit → Act → World → Prop) (S : World → Prop) (Z : List Nat) : List (Bool × Nat) → Act → World → Prop
 | [], a, w => Q .normal a w
 | (true, i) :: r, a, w => ∃ o v, ops[i]? = some o ∧ YieldsIf P ops S o v a ∧ (∀ c a w, Q (.panic c) (a.put o.dst v) w → Q (.panic c) a w) ∧ S w ∧ wpPlan P ops Q S Z r (a.put o.dst v) w
 | (false, i) :: r, a, w => wpOp P ops Q i (fun a' w' => (i ∉ Z → S w') ∧ wpPlan P ops Q S Z r a' w') a w
def planOk (md : Region.Mode) (ops : Array Oper) (Z : List Nat) : Array Bool → List (Bool × Nat) → Bool
 | l, [] => (Region.ready md ops l).isEmpty
 | l, (true, i) :: r => Region.free md ops l i && (Region.ready md ops l).contains i && Z.all (zOk md ops i) && planOk md ops Z (l.setIfInBounds i true) r
 | l, (false, i) :: r => (Region.ready md ops l == [i]) && planOk md ops Z (l.setIfInBounds i true) r
theorem anyZ_of_plan (hs : Region.noSelect ops = true) : ∀ (r : List (Bool × Nat)) (l : Array Bool) (n : Nat) (a : Act) (w : World), planOk md ops Z l r = true → r.length ≤ n → wpPlan P ops Q S Z r a w → anyZ P md ops Q S Z n l a w
 | [], l, 0, a, w, hk, _, h => ⟨by simpa [planOk] using hk, h⟩
 | [], l, n + 1, a, w, hk, _, h => ⟨fun _ => h, by rw [show Region.ready md ops l = [] by simpa [planOk] using hk]; simp⟩
 | _ :: _, l, 0, a, w, _, hf, _ => by simp at hf
 | (true, i) :: r, l, n + 1, a, w, hk, hf, h => by
  simp only [planOk, Bool.and_eq_true] at hk
  obtain ⟨o, v, ho, hy, hQ, hS, h⟩ := h
  refine anyZ_take ho hs hQ (fun z hz oz hoz => ?_) n l a w (Region.free_spec ho hk.1.1.1) (by simpa using hk.1.1.2) hy hS (anyZ_of_plan hs r _ n _ w hk.2 (by simpa using hf) h)
  have := List.all_eq_true.1 hk.1.2 z hz
  unfold zOk at this
  rw [hoz] at this
  obtain ⟨e, he, hb⟩ := Array.any_eq_true'.1 this
  simp only [Bool.and_eq_true, beq_iff_eq] at hb
  exact ⟨e, he, hb.1, hb.2⟩
 | (false, i) :: r, l, n + 1, a, w, hk, hf, h => by
  simp only [planOk, Bool.and_eq_true, beq_iff_eq] at hk
  refine ⟨fun h0 => (by rw [hk.1] at h0; cases h0), fun j hj => ?_⟩
  rw [hk.1] at hj
  obtain rfl : j = i := by simpa using hj
  exact wpOp_mono (fun a' w' h' => ⟨h'.1, anyZ_of_plan hs r _ n a' w' hk.2 (by simpa using hf) h'.2⟩) h
theorem wp_region_plan (S : World → Prop) (Z : List Nat) (r : List (Bool × Nat)) {id : Nat} {a : Act} {w : World} (hm : P.follows .mixedOrders = true)
  (hk : (Region.noSelect ops && planOk .any ops Z (Array.replicate ops.size false) r && decide (r.length ≤ ops.size)) = true) (h : wpPlan P ops Q S Z r a w.drew) : (Code.region id ops true).wp P Q a w := by
 simp only [Bool.and_eq_true, decide_eq_true_eq] at hk
 exact wp_region_any hm (any_of_anyZ _ _ _ _ (anyZ_of_plan hk.1.1 r _ _ a _ hk.1.2 hk.2 h))
theorem plan_take {i : Nat} {r : List (Bool × Nat)} {a : Act} {w : World} (v : Value) {o : Oper} (hS : S w) (ho : ops.toList[i]? = some o) (hw : Region.wanted o (yielded ops a.tmps) = true) (hr : ∀ w, S w → (execOp a.eval o).run P w = .ok (.value v) w)
  (hQ : ∀ c a w, Q (.panic c) (a.put o.dst v) w → Q (.panic c) a w) (h : wpPlan P ops Q S Z r (a.put o.dst v) w) : wpPlan P ops Q S Z ((true, i) :: r) a w :=
 ⟨o, v, toList_at ho, .inl ⟨hw, hr⟩, hQ, hS, h⟩
theorem plan_nil {a : Act} {w : World} (h : Q .normal a w) : wpPlan P ops Q S Z [] a w := h
theorem plan_run {i : Nat} {r : List (Bool × Nat)} {a : Act} {w : World} {o : Oper} (ho : ops.toList[i]? = some o)
  (h : ∀ K' : Act → World → Prop, Shut (∀ a w, S w → wpPlan P ops Q S Z r a w → K' a w) → if Region.wanted o (yielded ops a.tmps) = true then Oper.wp P o a w K' Q else K' (a.put o.dst undef) w) : wpPlan P ops Q S Z ((false, i) :: r) a w :=
 wpOp_step (toList_at ho) (fun K' hK => h K' (fun a w hS hW => hK a w ⟨fun _ => hS, hW⟩))
theorem plan_z {i : Nat} {r : List (Bool × Nat)} {a : Act} {w : World} {o : Oper} (ho : ops.toList[i]? = some o) (hz : i ∈ Z)
  (h : ∀ K' : Act → World → Prop, Shut (∀ a w, wpPlan P ops Q S Z r a w → K' a w) → if Region.wanted o (yielded ops a.tmps) = true then Oper.wp P o a w K' Q else K' (a.put o.dst undef) w) : wpPlan P ops Q S Z ((false, i) :: r) a w :=
 wpOp_step (toList_at ho) (fun K' hK => h K' (fun a w hW => hK a w ⟨fun hn => absurd hz hn, hW⟩))
theorem wp_tail (n : Nat) {id : Nat} {a : Act} {w : World} {l : List Oper} (hm : P.follows .mixedOrders = true) (hB : Region.lexTailB .any l.toArray n = true)
  (h : wpStill P l.toArray w.drew (fun a' => wpList P l.toArray Q (l.drop n) a' w.drew) (l.take n) a) : (Code.region id l.toArray true).wp P Q a w := wp_region_still_tail n hm hB h
theorem wp_reads {id : Nat} {a : Act} {w : World} {l : List Oper} (hm : P.follows .mixedOrders = true) (hB : Region.lexB .any l.toArray = true)
  (h : wpStill P l.toArray w.drew (fun a' => Q .normal a' w.drew) l a) : (Code.region id l.toArray true).wp P Q a w := wp_region_still_lit hm hB h
end
end Go.Mun
namespace Go.Mun
open Go.RowKit
theorem tsa {α : Type} (l : List α) (i : Nat) (a : α) : l.toArray.setIfInBounds i a = (l.set i a).toArray := List.setIfInBounds_toArray l i a
theorem tsb {α : Type} (x : α) (l : List α) (a : α) : (x :: l).set 0 a = a :: l := List.set_cons_zero
theorem tsc {α : Type} (x : α) (l : List α) (n : Nat) (a : α) : (x :: l).set (n + 1) a = x :: l.set n a := List.set_cons_succ

inductive Tree where
 | fin
 | stop
 | take (i : Nat) (r : Tree)
 | pure (i : Nat) (r : Tree)
 | alt (i : Nat) (r m : Tree)
def Tree.heads : Tree → List Nat
 | .alt i _ m => i :: m.heads
 | _ => []
section
variable {P : Program} {ops : Array Oper} {Q : Exit → Act → World → Prop} {md : Region.Mode} {S : World → Prop} {Z : List Nat}
def wpTree (P : Program) (ops : Array Oper) (Q : Exit → Act → World → Prop) (S : World → Prop) (Z : List Nat) : Tree → Act → World → Prop
 | .fin, a, w => Q .normal a w
 | .stop, _, _ => True
 | .take i r, a, w => ∃ o v, ops[i]? = some o ∧ YieldsIf P ops S o v a ∧ (∀ c a w, Q (.panic c) (a.put o.dst v) w → Q (.panic c) a w) ∧ S w ∧ wpTree P ops Q S Z r (a.put o.dst v) w
 | .pure i r, a, w => ∃ o v, ops[i]? = some o ∧ YieldsIf P ops (fun _ => True) o v a ∧ (∀ c a w, Q (.panic c) (a.put o.dst v) w → Q (.panic c) a w) ∧ wpTree P ops Q S Z r (a.put o.dst v) w
 | .alt i r m, a, w => wpOp P ops Q i (fun a' w' => (i ∉ Z → S w') ∧ wpTree P ops Q S Z r a' w') a w ∧ wpTree P ops Q S Z m a w
def treeOk (md : Region.Mode) (ops : Array Oper) (Z : List Nat) : Tree → Nat → Bool → Array Bool → Bool
 | .fin, _, top, l => top && (Region.ready md ops l).isEmpty
 | .stop, _, top, _ => !top
 | .take _ _, 0, _, _ => false
 | .take i r, n + 1, top, l => top && Region.free md ops l i && (Region.ready md ops l).contains i && Z.all (zOk md ops i) && treeOk md ops Z r n true (l.setIfInBounds i true)
 | .pure _ _, 0, _, _ => false
 | .pure i r, n + 1, top, l => top && Region.free md ops l i && (Region.ready md ops l).contains i && treeOk md ops Z r n true (l.setIfInBounds i true)
 | .alt _ _ _, 0, _, _ => false
 | .alt i r m, n + 1, top, l => (!top || (Region.ready md ops l == i :: m.heads)) && treeOk md ops Z r n true (l.setIfInBounds i true) && treeOk md ops Z m (n + 1) false l
def anyY (P : Program) (md : Region.Mode) (ops : Array Oper) (Q : Exit → Act → World → Prop) (S : World → Prop) (Z : List Nat) : Nat → Array Bool → Act → World → Prop
 | 0, l, a, w => Region.ready md ops l = [] ∧ Q .normal a w
 | n + 1, l, a, w => (Region.ready md ops l = [] → Q .normal a w) ∧
  ∀ i ∈ Region.ready md ops l, wpOp P ops Q i (fun a' w' => (i ∉ Z → S w → S w') ∧ anyY P md ops Q S Z n (l.setIfInBounds i true) a' w') a w
theorem any_of_anyY : ∀ (n : Nat) (l : Array Bool) (a : Act) (w : World), anyY P md ops Q S Z n l a w → wpAny P md ops Q n l a w
 | 0, _, _, _, h => h
 | n + 1, _, _, _, h => ⟨h.1, fun i hi => wpOp_mono (fun a' w' k => any_of_anyY n _ a' w' k.2) (h.2 i hi)⟩
theorem anyY_take {i : Nat} {oi : Oper} {v : Value} (hi : ops[i]? = some oi) (hs : Region.noSelect ops = true) (hQ : ∀ c a w, Q (.panic c) (a.put oi.dst v) w → Q (.panic c) a w)
  (hZ : ∀ z ∈ Z, ∀ oz, ops[z]? = some oz → ∃ e ∈ oz.after, Region.binds md e = true ∧ e.on = i) :
  ∀ (n : Nat) (l : Array Bool) (a : Act) (w : World),
   (∀ j oj, ops[j]? = some oj → j ≠ i → l.getD j true = false → (∀ e ∈ oj.after, Region.binds md e = true → e.on ≠ i) → oi.apart ops oj = true) →
   i ∈ Region.ready md ops l → YieldsIf P ops S oi v a → S w → anyY P md ops Q S Z n (l.setIfInBounds i true) (a.put oi.dst v) w → anyY P md ops Q S Z (n + 1) l a w := by
 have hsel := Region.noSelect_spec hs
 intro n
 induction n with
 | zero =>
  intro l a w _ hr hy hS H
  refine ⟨fun h0 => (by rw [h0] at hr; cases hr), fun j hj => ?_⟩
  by_cases e : j = i
  ·subst e; exact hy.wpOp hi hS ⟨fun _ _ => hS, H⟩
  ·have := ready_mono hj e
   rw [H.1] at this; cases this
 | succ n ih =>
  intro l a w hf hr hy hS H
  refine ⟨fun h0 => (by rw [h0] at hr; cases hr), fun j hj => ?_⟩
  by_cases e : j = i
  ·subst e; exact hy.wpOp hi hS ⟨fun _ _ => hS, H⟩
  ·obtain ⟨hun, oj, hoj, hall⟩ := mem_ready.1 hj
   have hiun := (mem_ready.1 hr).1
   have hnot : ∀ e ∈ oj.after, Region.binds md e = true → e.on ≠ i := fun e he hb heq => by
    have h1 := hall e he hb
    rw [heq] at h1
    rcases Nat.lt_or_ge i l.size with h' | h'
    ·simp [h'] at hiun h1; rw [hiun] at h1; cases h1
    ·simp [Array.getElem?_eq_none h'] at h1
   have hjZ : j ∉ Z := fun hz => by
    obtain ⟨e, he, hb, hon⟩ := hZ j hz oj hoj
    exact hnot e he hb hon
   have h2 := wpOp_putIf hoj (hf j oj hoj e hun hnot) (fun cs b => hsel i oi cs b hi) (fun cs b => hsel j oj cs b hoj) hQ hy (H.2 j (ready_mono hj e))
   refine wpOp_mono (fun a' w' h3 => ⟨fun _ _ => h3.2.1 hjZ hS, ih (l.setIfInBounds j true) a' w' (fun k ok hk hki hku hno => ?_) (ready_mono hr (Ne.symm e)) h3.1 (h3.2.1 hjZ hS) ?_⟩) h2
   ·refine hf k ok hk hki ?_ hno
    by_cases hjk : j = k
    ·subst hjk; exact hun
    ·rw [getD_set_ne true hjk] at hku; exact hku
   ·rw [Array.setIfInBounds_comm _ _ e]
    exact h3.2.2

theorem anyY_pure {i : Nat} {oi : Oper} {v : Value} (hi : ops[i]? = some oi) (hs : Region.noSelect ops = true) (hQ : ∀ c a w, Q (.panic c) (a.put oi.dst v) w → Q (.panic c) a w) :
  ∀ (n : Nat) (l : Array Bool) (a : Act) (w : World),
   (∀ j oj, ops[j]? = some oj → j ≠ i → l.getD j true = false → (∀ e ∈ oj.after, Region.binds md e = true → e.on ≠ i) → oi.apart ops oj = true) →
   i ∈ Region.ready md ops l → YieldsIf P ops (fun _ => True) oi v a → anyY P md ops Q S Z n (l.setIfInBounds i true) (a.put oi.dst v) w → anyY P md ops Q S Z (n + 1) l a w := by
 have hsel := Region.noSelect_spec hs
 intro n
 induction n with
 | zero =>
  intro l a w _ hr hy H
  refine ⟨fun h0 => (by rw [h0] at hr; cases hr), fun j hj => ?_⟩
  by_cases e : j = i
  ·subst e; exact hy.wpOp hi trivial ⟨fun _ hS => hS, H⟩
  ·have := ready_mono hj e
   rw [H.1] at this; cases this
 | succ n ih =>
  intro l a w hf hr hy H
  refine ⟨fun h0 => (by rw [h0] at hr; cases hr), fun j hj => ?_⟩
  by_cases e : j = i
  ·subst e; exact hy.wpOp hi trivial ⟨fun _ hS => hS, H⟩
  ·obtain ⟨hun, oj, hoj, hall⟩ := mem_ready.1 hj
   have hiun := (mem_ready.1 hr).1
   have hnot : ∀ e ∈ oj.after, Region.binds md e = true → e.on ≠ i := fun e he hb heq => by
    have h1 := hall e he hb
    rw [heq] at h1
    rcases Nat.lt_or_ge i l.size with h' | h'
    ·simp [h'] at hiun h1; rw [hiun] at h1; cases h1
    ·simp [Array.getElem?_eq_none h'] at h1
   have h2 := wpOp_putIf hoj (hf j oj hoj e hun hnot) (fun cs b => hsel i oi cs b hi) (fun cs b => hsel j oj cs b hoj) hQ hy (H.2 j (ready_mono hj e))
   refine wpOp_mono (fun a' w' h3 => ⟨h3.2.1, ih (l.setIfInBounds j true) a' w' (fun k ok hk hki hku hno => ?_) (ready_mono hr (Ne.symm e)) h3.1 ?_⟩) h2
   ·refine hf k ok hk hki ?_ hno
    by_cases hjk : j = k
    ·subst hjk; exact hun
    ·rw [getD_set_ne true hjk] at hku; exact hku
   ·rw [Array.setIfInBounds_comm _ _ e]
    exact h3.2.2

theorem tree_heads : ∀ (m : Tree) (n : Nat) (l : Array Bool) (a : Act) (w : World),
  treeOk md ops Z m n false l = true → wpTree P ops Q S Z m a w →
  ∀ j ∈ m.heads, ∃ r n', n = n' + 1 ∧ treeOk md ops Z r n' true (l.setIfInBounds j true) = true ∧ wpOp P ops Q j (fun a' w' => (j ∉ Z → S w') ∧ wpTree P ops Q S Z r a' w') a w
 | .alt i r m, n + 1, l, a, w, hk, h => by
  intro j hj
  simp only [treeOk, Bool.and_eq_true] at hk
  simp only [Tree.heads, List.mem_cons] at hj
  rcases hj with rfl | hj
  ·exact ⟨r, n, rfl, hk.1.2, h.1⟩
  ·exact tree_heads m (n + 1) l a w hk.2 h.2 j hj
 | .alt _ _ _, 0, _, _, _, hk, _ => by simp [treeOk] at hk
 | .fin, _, _, _, _, _, _ => by intro j hj; simp [Tree.heads] at hj
 | .stop, _, _, _, _, _, _ => by intro j hj; simp [Tree.heads] at hj
 | .take _ _, _, _, _, _, _, _ => by intro j hj; simp [Tree.heads] at hj
 | .pure _ _, _, _, _, _, _, _ => by intro j hj; simp [Tree.heads] at hj
theorem anyY_of_tree (hs : Region.noSelect ops = true) : ∀ (n : Nat) (t : Tree) (l : Array Bool) (a : Act) (w : World), treeOk md ops Z t n true l = true → wpTree P ops Q S Z t a w → anyY P md ops Q S Z n l a w
 | 0, .fin, l, a, w, hk, h => ⟨by simpa [treeOk] using hk, h⟩
 | 0, .take _ _, _, _, _, hk, _ => by simp [treeOk] at hk
 | 0, .pure _ _, _, _, _, hk, _ => by simp [treeOk] at hk
 | 0, .alt _ _ _, _, _, _, hk, _ => by simp [treeOk] at hk
 | _, .stop, _, _, _, hk, _ => by simp [treeOk] at hk
 | n + 1, .fin, l, a, w, hk, h => ⟨fun _ => h, by rw [show Region.ready md ops l = [] by simpa [treeOk] using hk]; simp⟩
 | n + 1, .take i r, l, a, w, hk, h => by
  simp only [treeOk, Bool.and_eq_true] at hk
  obtain ⟨o, v, ho, hy, hQ, hS, h⟩ := h
  refine anyY_take ho hs hQ (fun z hz oz hoz => ?_) n l a w (Region.free_spec ho hk.1.1.1.2) (by simpa using hk.1.1.2) hy hS (anyY_of_tree hs n r _ _ w hk.2 h)
  have := List.all_eq_true.1 hk.1.2 z hz
  unfold zOk at this
  rw [hoz] at this
  obtain ⟨e, he, hb⟩ := Array.any_eq_true'.1 this
  simp only [Bool.and_eq_true, beq_iff_eq] at hb
  exact ⟨e, he, hb.1, hb.2⟩
 | n + 1, .pure i r, l, a, w, hk, h => by
  simp only [treeOk, Bool.and_eq_true] at hk
  obtain ⟨o, v, ho, hy, hQ, h⟩ := h
  exact anyY_pure ho hs hQ n l a w (Region.free_spec ho hk.1.1.2) (by simpa using hk.1.2) hy (anyY_of_tree hs n r _ _ w hk.2 h)
 | n + 1, .alt i r m, l, a, w, hk, h => by
  have hk' := hk
  simp only [treeOk, Bool.and_eq_true, Bool.not_true, Bool.false_or, beq_iff_eq] at hk
  refine ⟨fun h0 => (by rw [hk.1.1] at h0; cases h0), fun j hj => ?_⟩
  rw [hk.1.1] at hj
  have hf : treeOk md ops Z (.alt i r m) (n + 1) false l = true := by
   simp only [treeOk, Bool.and_eq_true, Bool.not_false, Bool.true_or, true_and]
   exact ⟨hk.1.2, hk.2⟩
  obtain ⟨r', n', e, hk2, h2⟩ := tree_heads (Tree.alt i r m) (n + 1) l a w hf h j hj
  obtain rfl : n = n' := by omega
  exact wpOp_mono (fun a' w' h' => ⟨fun hz _ => h'.1 hz, anyY_of_tree hs n r' _ a' w' hk2 h'.2⟩) h2
theorem wp_region_tree (S : World → Prop) (Z : List Nat) (t : Tree) {id : Nat} {a : Act} {w : World} (hm : P.follows .mixedOrders = true)
  (hk : (Region.noSelect ops && treeOk .any ops Z t ops.size true (Array.replicate ops.size false)) = true) (h : wpTree P ops Q S Z t a w.drew) : (Code.region id ops true).wp P Q a w := by
 simp only [Bool.and_eq_true] at hk
 exact wp_region_any hm (any_of_anyY _ _ _ _ (anyY_of_tree hk.1 _ t _ a _ hk.2 h))
theorem tree_take {i : Nat} {r : Tree} {a : Act} {w : World} (v : Value) {o : Oper} (hS : S w) (ho : ops.toList[i]? = some o) (hw : Region.wanted o (yielded ops a.tmps) = true) (hr : ∀ w, S w → (execOp a.eval o).run P w = .ok (.value v) w)
  (hQ : ∀ c a w, Q (.panic c) (a.put o.dst v) w → Q (.panic c) a w) (h : wpTree P ops Q S Z r (a.put o.dst v) w) : wpTree P ops Q S Z (.take i r) a w :=
 ⟨o, v, toList_at ho, .inl ⟨hw, hr⟩, hQ, hS, h⟩
theorem tree_skip {i : Nat} {r : Tree} {a : Act} {w : World} {o : Oper} (hS : S w) (ho : ops.toList[i]? = some o) (hw : Region.wanted o (yielded ops a.tmps) = false)
  (hQ : ∀ c a w, Q (.panic c) (a.put o.dst undef) w → Q (.panic c) a w) (h : wpTree P ops Q S Z r (a.put o.dst undef) w) : wpTree P ops Q S Z (.take i r) a w :=
 ⟨o, undef, toList_at ho, .inr ⟨hw, rfl⟩, hQ, hS, h⟩
theorem tree_pure {i : Nat} {r : Tree} {a : Act} {w : World} (v : Value) {o : Oper} (ho : ops.toList[i]? = some o) (hw : Region.wanted o (yielded ops a.tmps) = true) (hr : ∀ w, True → (execOp a.eval o).run P w = .ok (.value v) w)
  (hQ : ∀ c a w, Q (.panic c) (a.put o.dst v) w → Q (.panic c) a w) (h : wpTree P ops Q S Z r (a.put o.dst v) w) : wpTree P ops Q S Z (.pure i r) a w :=
 ⟨o, v, toList_at ho, .inl ⟨hw, hr⟩, hQ, h⟩
theorem tree_fin {a : Act} {w : World} (h : Q .normal a w) : wpTree P ops Q S Z .fin a w := h
theorem tree_alt {i : Nat} {r m : Tree} {a : Act} {w : World} {o : Oper} (ho : ops.toList[i]? = some o)
  (h : ∀ K' : Act → World → Prop, Shut (∀ a w, S w → wpTree P ops Q S Z r a w → K' a w) → if Region.wanted o (yielded ops a.tmps) = true then Oper.wp P o a w K' Q else K' (a.put o.dst undef) w)
  (h2 : wpTree P ops Q S Z m a w) : wpTree P ops Q S Z (.alt i r m) a w :=
 ⟨wpOp_step (toList_at ho) (fun K' hK => h K' (fun a w hS hW => hK a w ⟨fun _ => hS, hW⟩)), h2⟩
theorem tree_run {i : Nat} {r : Tree} {a : Act} {w : World} {o : Oper} (ho : ops.toList[i]? = some o)
  (h : ∀ K' : Act → World → Prop, Shut (∀ a w, S w → wpTree P ops Q S Z r a w → K' a w) → if Region.wanted o (yielded ops a.tmps) = true then Oper.wp P o a w K' Q else K' (a.put o.dst undef) w) : wpTree P ops Q S Z (.alt i r .stop) a w :=
 tree_alt ho h trivial
theorem tree_z {i : Nat} {r : Tree} {a : Act} {w : World} {o : Oper} (ho : ops.toList[i]? = some o) (hz : i ∈ Z)
  (h : ∀ K' : Act → World → Prop, Shut (∀ a w, wpTree P ops Q S Z r a w → K' a w) → if Region.wanted o (yielded ops a.tmps) = true then Oper.wp P o a w K' Q else K' (a.put o.dst undef) w) : wpTree P ops Q S Z (.alt i r .stop) a w :=
 ⟨wpOp_step (toList_at ho) (fun K' hK => h K' (fun a w hW => hK a w ⟨fun hn => absurd hz hn, hW⟩)), trivial⟩
end
end Go.Mun
