/-
  Boxes that stay: rows of blocks that are free to be written.
  A range over a map whose keys are numbers: what has come and what is to come.
  The iterator over the keys of a map of accounts.
  slices.AppendSeq, slices.Collect over the keys of a map of accounts.
  Bytes compared: the order of the numbers that they are.
  The comparison of two addresses as bytes.
  The comparison of two addresses, as Accounts hands it to SortedFunc.
  DERIVED: THE SHELF's CONTRACTS AT THIS DUMP, IN PLAIN WORDS (tools/lay-plain.mjs out of 'YtfflppedbopdpaaGreatSrt0.lean', which tools/lay-shelf.mjs wrote): THE SAME DECLARATIONS UNDER THE SAME NAMES: 'import', 'namespace', 'open', 'def', 'theorem' AND NOTHING ELSE: no command of the shelf's: FOR A HAND-IN. Each laying: the table of numbers ('.._ren') and one theorem, a field a fact of the dump's own or the kernel's comparison; each contract: ONE APPLICATION.
  slices.SortFunc over addresses: the slice holds them in their order.
  The keys of a map of accounts, in their order.
  The iterator over the keys of a map of slots.
  slices.AppendSeq, slices.Collect over the keys of a map of slots.
  The keys of a map of accounts, in their order.
-/
import Derived.Test.YtfflppedbopdpaaGreatQWrd4
import Derived.Test.YtfflppedbopdpaaGreatQMap
import Derived.Sort.MapsRangeIn
import Derived.RangeFuncSeq
import Derived.Test.YtfflppedbopdpaaGreatQTy
import Derived.Test.YtfflppedbopdpaaGreatQPlain
import Derived.RangeFuncNested
import Derived.RangeFuncBound
import Derived.RangeFuncCalls
import Derived.RangeFuncLeaves
import Derived.Shelf.Abstract
import Derived.Shelf.RegionOpen
import Derived.WalkKit
import Derived.OwnWalkIn
import Derived.TacticsInMore
import Derived.LoopNIn
import Derived.LoopIn
import Derived.Maps.AppendAt
import Derived.Test.YtfflppedbopdpaaGreatQTy3
import Derived.Test.YtfflppedbopdpaaGreatQEv16
import Derived.Lib.Bytealg
import Derived.Sort.Statements
import Derived.Test.YtfflppedbopdpaaGreatQSeq
import Derived.Sort.Grow
import Derived.Shelf.SlSortCmp.InsertionK
import Derived.Shelf.SlGeneric
import Derived.Shelf.SlSortCmp.NoneTotal
import Derived.Ground.SlsfProg
import Derived.Test.YtfflppedbopdpaaGreatProg
import Derived.Lib.Hide
import Derived.Test.YtfflppedbopdpaaGreatQEv1
set_option linter.unusedVariables false
set_option maxRecDepth 1000000
set_option maxHeartbeats 8000000
set_option linter.unusedSimpArgs false
namespace Go.Mun
open Go.RowKit

structure Kep (w : World) (rs : List (Nat × Nat × List Value)) (W : World) : Prop where
 below : Below w.heap.size w W
 row : ∀ r ∈ rs, W.row? r.1 0 r.2.1 = some r.2.2
 free : ∀ r ∈ rs, W.free? r.1 0 r.2.1 = true
theorem free?_ltK {w : World} {b o n : Nat} (h : w.free? b o n = true) : b < w.heap.size := by
 unfold World.free? at h
 cases e : w.heap[b]? with
 | none => rw [e] at h; cases h
 | some x => exact (Array.getElem?_eq_some_iff.1 e).1
section
variable {w W W' : World} {rs : List (Nat × Nat × List Value)}
theorem Kep.start (w : World) : Kep w [] w := ⟨Below.refl _ _, fun _ h => (by cases h), fun _ h => (by cases h)⟩
theorem Kep.lt (h : Kep w rs W) : ∀ x ∈ rs, x.1 < W.heap.size := fun x hx => World.row?_lt (h.row x hx)
theorem Kep.get (h : Kep w rs W) {b n : Nat} {L : List Value} (hm : (b, n, L) ∈ rs) : W.row? b 0 n = some L := h.row _ hm
theorem Kep.fr (h : Kep w rs W) {b n : Nat} {L : List Value} (hm : (b, n, L) ∈ rs) : W.free? b 0 n = true := h.free _ hm
theorem Kep.next (h : Kep w rs W) (hb : Below W.heap.size W W') : Kep w rs W' :=
 ⟨h.below.trans (hb.mono h.below.size), fun x hx => ((brow hb).1 _ _ _ (h.lt x hx)).trans (h.row x hx), fun x hx => ((brow hb).2 _ _ _ (free?_ltK (h.free x hx))).trans (h.free x hx)⟩
theorem Kep.only {r : Nat} (h : Kep w rs W) (ho : Only (fun b => b = r) W W') (hr : ∀ x ∈ rs, x.1 < r) (hw : w.heap.size ≤ r) : Kep w rs W' :=
 ⟨h.below.trans (ho.below h.below.size (fun i hi => by have e : i = r := hi; omega)),
  fun x hx => (ho.row? (h.lt x hx) (by have := hr x hx; show ¬ x.1 = r; omega)).trans (h.row x hx),
  fun x hx => (ho.free? (h.lt x hx) (by have := hr x hx; show ¬ x.1 = r; omega)).trans (h.free x hx)⟩
theorem Kep.add (h : Kep w rs W) {b n : Nat} {L : List Value} (hr : W.row? b 0 n = some L) (hf : W.free? b 0 n = true) : Kep w ((b, n, L) :: rs) W :=
 ⟨h.below, fun x hx => (List.mem_cons.1 hx).elim (fun e => by rw [e]; exact hr) (h.row x), fun x hx => (List.mem_cons.1 hx).elim (fun e => by rw [e]; exact hf) (h.free x)⟩
theorem Kep.sub {rs' : List (Nat × Nat × List Value)} (h : Kep w rs W) (hs : ∀ x ∈ rs', x ∈ rs) : Kep w rs' W := ⟨h.below, fun x hx => h.row x (hs x hx), fun x hx => h.free x (hs x hx)⟩
theorem own_next {b e size n : Nat} {v : Value} {xs : List Value} (h : w.ownsRow b e size v n xs) (hb : Below w.heap.size w W) : W.ownsRow b e size v n xs := Only.own (S := fun _ => False) h (Only.of_below_size hb) (fun _ _ h => h)
theorem own_newR (w : World) (e size n : Nat) (L : List Value) (hl : L.length = n * size) (hn : n ≤ maxLen) : (w.alloc (.cells L.toArray e)).ownsRow 0 e size (.slice (some ⟨w.heap.size, 0, none⟩) n n) n L :=
 ⟨hl, .inr ⟨w.heap.size, n, L.toArray, rfl, Nat.zero_le _, by show (w.heap.push _)[w.heap.size]? = _; simp, Nat.le_refl _, hn, by simp [hl], by simp [← hl]⟩⟩
end
end Go.Mun
namespace Go.Mun
open Go.RowKit Go.Maps Go.ChangeMaps Go.MapKept Go.WideShapes
open Go.WideElems (Fit rg pl rd_key rd_val rg_of other_key)

def R0 (_ : Value) : Option (DataW Unit × List MemPlace) := some (.lit (.bool true), [])
section
variable {β : Type} {ke : Nat → Value} {N : Nat} {ve : β → Value} {w : World} {b : Nat} {L : List (Nat × β)} {P : Program} {k : TypeId}
theorem MapAt.owns (h : MapAt ke N ve w b L) (K : KeyEnc P k ke N) (hn : L.length ≤ maxLen) :
  ∃ D : DataW Unit, w.ownsMap P k R0 b L.length D ∧ Maps.size D = L.length ∧ (∀ kl, Maps.has D kl = true → ∃ a ∈ L.map Prod.fst, keyOf P k (ke a) = some kl) ∧ ∀ a ∈ L.map Prod.fst, ∀ kl, keyOf P k (ke a) = some kl → Maps.has D kl = true := by
 obtain ⟨es, clock, hb, he, hN, hs⟩ := h
 have hlen : es.size = L.length := by
  have := congrArg List.length he
  simpa using this
 have hkey : ∀ x ∈ es.toList, ∃ p ∈ L, x.key = ke p.1 := fun x hx => by
  have : (x.key, x.val) ∈ L.map (fun p => (ke p.1, ve p.2)) := he ▸ List.mem_map.2 ⟨x, hx, rfl⟩
  obtain ⟨p, hp, e⟩ := List.mem_map.1 this
  exact ⟨p, hp, (congrArg Prod.fst e).symm⟩
 have hkey2 : ∀ p ∈ L, ∃ x ∈ es.toList, x.key = ke p.1 := fun p hp => by
  have : (ke p.1, ve p.2) ∈ es.toList.map (fun e => (e.key, e.val)) := he ▸ List.mem_map.2 ⟨p, hp, rfl⟩
  obtain ⟨x, hx, e⟩ := List.mem_map.1 this
  exact ⟨x, hx, congrArg Prod.fst e⟩
 have hrd : ∀ x ∈ es.toList, ∀ p ∈ L, x.key = ke p.1 → ∀ kl, keyOf P k (ke p.1) = some kl → WideElems.rd P k R0 x = some (kl, .lit (.bool true)) := fun x hx p hp e kl hk => by
  unfold WideElems.rd
  rw [e, hk]
  rfl
 have F : Fit P k R0 es clock := ⟨by rw [hlen]; exact hn, hs, fun x hx => by
  obtain ⟨p, hp, e⟩ := hkey x hx
  obtain ⟨kl, hk⟩ := K.key p.1 (hN p hp)
  exact ⟨_, hrd x hx p hp e kl hk⟩⟩
 refine ⟨_, ⟨es, clock, hb, F, by rw [hlen]; exact Nat.le_refl _, rfl⟩, ?_, ?_, ?_⟩
 ·simp [Maps.size, length_sorted, hlen]
 ·intro kl hkl
  obtain ⟨q, hq, hqk⟩ := List.any_eq_true.1 hkl
  obtain ⟨x, hx, rfl⟩ := List.mem_map.1 (mem_sorted.1 hq)
  obtain ⟨p, hp, e⟩ := hkey x hx
  obtain ⟨kl', hk⟩ := K.key p.1 (hN p hp)
  have hr := hrd x hx p hp e kl' hk
  rw [rg_of hr] at hqk
  have := WideAt.sameKey_eq hqk
  refine ⟨p.1, List.mem_map.2 ⟨p, hp, rfl⟩, ?_⟩
  rw [hk]; exact congrArg some this
 ·intro a ha kl hk
  obtain ⟨p, hp, rfl⟩ := List.mem_map.1 ha
  obtain ⟨x, hx, e⟩ := hkey2 p hp
  have hr := hrd x hx p hp e kl hk
  exact List.any_eq_true.2 ⟨rg P k R0 x, mem_sorted.2 (List.mem_map.2 ⟨x, hx, rfl⟩), by rw [rg_of hr]; exact WideAt.sameKey_self (K.keyed.key hk)⟩
structure Came (P : Program) (k : TypeId) (ke : Nat → Value) (N : Nat) (ks : List Nat) (left : Lit → Bool) (ss : List Nat) : Prop where
 iff : ∀ a ∈ ks, ∀ kl, keyOf P k (ke a) = some kl → (left kl = true ↔ a ∉ ss)
 sub : ∀ a ∈ ss, a ∈ ks
 nod : ss.Nodup
 key : ∀ kl, left kl = true → ∃ a ∈ ks, keyOf P k (ke a) = some kl
theorem Came.start {ks : List Nat} {left : Lit → Bool} (h1 : ∀ kl, left kl = true → ∃ a ∈ ks, keyOf P k (ke a) = some kl) (h2 : ∀ a ∈ ks, ∀ kl, keyOf P k (ke a) = some kl → left kl = true) : Came P k ke N ks left [] :=
 ⟨fun a ha kl hk => ⟨fun _ => (by simp), fun _ => h2 a ha kl hk⟩, fun a ha => (by cases ha), List.nodup_nil, h1⟩
theorem Came.step {ks : List Nat} {left : Lit → Bool} {ss : List Nat} (h : Came P k ke N ks left ss) (K : KeyEnc P k ke N) (hN : ∀ a ∈ ks, a < N) {x : Value} {kl : Lit} (hx : keyOf P k x = some kl) (hl : left kl = true) :
  ∃ a ∈ ks, x = ke a ∧ a ∉ ss ∧ Came P k ke N ks (fun z => left z && !z.sameKey kl) (ss ++ [a]) := by
 obtain ⟨a, ha, hk⟩ := h.key kl hl
 have hns : a ∉ ss := (h.iff a ha kl hk).1 hl
 refine ⟨a, ha, K.keyed.inj hx hk, hns, ⟨?_, ?_, ?_, ?_⟩⟩
 ·intro a' ha' kl' hk'
  have hiff : kl'.sameKey kl = true ↔ a' = a := by
   constructor
   ·intro e
    have e2 := WideAt.sameKey_eq e
    rw [e2] at hk'
    exact K.inj a' a (hN a' ha') (hN a ha) (K.keyed.inj hk' hk)
   ·rintro rfl
    rw [hk] at hk'
    cases hk'
    exact WideAt.sameKey_self (K.keyed.key hk)
  have h1 := h.iff a' ha' kl' hk'
  rw [Bool.and_eq_true, h1, List.mem_append, List.mem_singleton]
  constructor
  ·rintro ⟨h2, h3⟩ h4
   rcases h4 with h4 | h4
   ·exact h2 h4
   ·have := hiff.2 h4
    rw [this] at h3
    cases h3
  ·intro h2
   refine ⟨fun h3 => h2 (.inl h3), ?_⟩
   cases hs : kl'.sameKey kl with
   | false => rfl
   | true => exact absurd (.inr (hiff.1 hs)) h2
 ·intro c hc
  rcases List.mem_append.1 hc with h1 | h1
  ·exact h.sub c h1
  ·rw [List.mem_singleton] at h1; rw [h1]; exact ha
 ·rw [List.nodup_append]
  refine ⟨h.nod, by simp, ?_⟩
  intro x hx y hy
  rw [List.mem_singleton] at hy
  subst hy
  rintro rfl
  exact hns hx
 ·intro kl' hl'
  rw [Bool.and_eq_true] at hl'
  exact h.key kl' hl'.1
theorem Came.perm {ks : List Nat} {left : Lit → Bool} {ss : List Nat} (h : Came P k ke N ks left ss) (K : KeyEnc P k ke N) (hN : ∀ a ∈ ks, a < N) (hd : ks.Nodup) (hl : ∀ kl, left kl = false) : ss.Perm ks := by
 refine (List.perm_ext_iff_of_nodup h.nod hd).2 fun a => ⟨h.sub a, fun ha => ?_⟩
 obtain ⟨kl, hk⟩ := K.key a (hN a ha)
 have := h.iff a ha kl hk
 rw [hl kl] at this
 by_cases hm : a ∈ ss
 ·exact hm
 ·exact absurd (this.2 hm) (by simp)
end
end Go.Mun
namespace Go.Proofs.YtfflppedbopdpaaGreat
open Go.RowKit Go.Mun Go.Maps Go.Shelf
theorem semAt_run (ro : Option Nat) (ρ : Operand → Value) (o : Oper) (P : Program) (w : World) (h : ∀ c, o.op ≠ .defer c) : (Oper.semAt ro ρ o).run P w = (execOp ρ o).run P w := by
 rw [Oper.semAt_eq _ _ _ h]
attribute [local go_sem] Oper.semAt_some
attribute [local go_sem ↓] semAt_run
attribute [local irreducible] beC zU8
theorem adV_eq (a : Nat) : adV a = .agg (beC 20 a).toArray := rfl
theorem keys116 (F : Fence) (n : Nat) (hF : F.fn 184) (hro : F.round = none) (hn : 1 ≤ n) (Bm b nn : Nat) (D : DataW Unit) (ks : List Nat) (w : World)
  (hks : ∀ a ∈ ks, a < wA) (hd : ks.Nodup) (hsz : Maps.size D = ks.length) (h1 : ∀ kl, Maps.has D kl = true → ∃ a ∈ ks, keyOf Tryz.prog 23 (adV a) = some kl) (h2 : ∀ a ∈ ks, ∀ kl, keyOf Tryz.prog 23 (adV a) = some kl → Maps.has D kl = true)
  (hBm : Bm < w.heap.size) (hm : w.cell? ⟨Bm, 0, none⟩ = some (.map (some b))) (hown : w.ownsMap Tryz.prog 23 R0 b nn D) :
  SeqStopsK F n Tryz.prog 184 #[.pointer (some ⟨Bm, 0, none⟩)] (fun a : Nat => #[adV a]) KeepsWalks (fun ss => ss.Perm ks) (fun _ => True) ks.length w := by
 intro l J Jx W hW hJ hJx hY h0
 have hm' : W.cell? ⟨Bm, 0, none⟩ = some (.map (some b)) := (hW.cell (p := ⟨Bm, 0, none⟩) hBm).trans hm
 have hown' : W.ownsMap Tryz.prog 23 R0 b nn D := by
  have hbl := hown.lt
  obtain ⟨es, clock, hb, Ft, hs, hD⟩ := hown
  exact ⟨es, clock, (hW.block b hbl).trans hb, Ft, hs, hD⟩
 clear hm hown hW
 refine callsIn_of_wp Tryz.func184 rfl hF ?_ hro
 try simp only [Tryz.ntmps184, List.size_toArray, List.length_cons, List.length_nil, Nat.reduceAdd, Nat.reduceSub, Array.replicate_succ, Array.replicate_zero, List.push_toArray, List.append_toArray, List.nil_append, List.cons_append]
 gi_wp2_with (first
  | (gi_at_range; refine wpListIn_range_own _ rfl _ 90 rfl 23 87 keyA.keyed Tryz.underlying90 _ b nn _ rfl hown' ?_; intro w0 hrg0 hg0 hs0)
  | gi_in)
 try go_frame
 gi_loopw [3] (fun _ wr => ∃ (left : Lit → Bool) (cnt : Nat) (ss : List Nat), wr.ranges Tryz.prog 23 R0 b W.heap.size nn D left cnt ∧ ss.length + cnt ≤ Maps.size D ∧ Came Tryz.prog 23 adV wA ks left ss ∧ J ss wr)
  (fun _ wr => wr.rangeLeft b W.heap.size)
 case atStart =>
  exact ⟨_, _, [], hrg0, by simp, Came.start h1 h2, hJ [] W w0 none h0 hg0 (fun r e => by cases e)⟩
 case round =>
  obtain ⟨left, cnt, ss, hrg, hcs, hC, hJs⟩ := hrel
  gi_wp2_with (first
   | (gi_at_next; refine wpListIn_next_ranges _ rfl _ rfl 23 keyA.keyed R0 id id (fun key kl hk => ⟨key, rfl⟩) (fun v _ _ => ⟨v, rfl⟩) b W.heap.size nn _ _ _ rfl hrg ?_ ?_)
   | gi_in)
  ·intro hc0 hl0
   gi_wp2
   go_end0
   exact ⟨⟨_, rfl⟩, .inl ⟨ss, hC.perm keyA hks hd hl0, hJs⟩⟩
  ·intro x c kl yd yp w2 cnt2 hkey hlk hv hat hrg2 hlt hg2 hs2 hen
   obtain ⟨a, ha, hxa, hns, hC2⟩ := hC.step keyA hks hkey hlk
   obtain rfl : x = adV a := hxa
   have hJ2 : J ss w2 := hJ ss wr w2 (some W.heap.size) hJs hg2 (fun r e => by cases e; exact ⟨Nat.le_refl _, hrg.iter_walk⟩)
   clear hs2 hv hat
   have hf2 : (w2.alloc (.cells (zU8 20).toArray 23)).free? w2.heap.size 0 20 = true := World.free?_alloc_at _ _ rfl (by simp [zU8])
   have hok := beC_ok 20 a
   have hlen := okL_len hok
   generalize hw3 : (w2.alloc (.cells (zU8 20).toArray 23)).setCells w2.heap.size 0 (beC 20 a) = w3
   have hb3 : Below w2.heap.size w2 w3 := by rw [← hw3]; exact ((Below.refl _ w2).alloc (Nat.le_refl _) _).setCells (Nat.le_refl _) _ _
   have hJ3 : J ss w3 := hJ ss w2 w3 none hJ2 ⟨hb3.1, hb3.2, hb3.3, hb3.size, fun k hk _ => hb3.block k hk⟩ (fun r e => by cases e)
   have hr3 : w3.row? w2.heap.size 0 20 = some (beC 20 a) := by
    have hz : (zU8 20).length = 20 := by simp [zU8]
    rw [← hw3, World.row?_setCells_lay 0 (beC 20 a) (Nat.le_refl _) (by rw [hlen]; exact Nat.le_refl _), World.row?_alloc_at _ _ _ rfl hz]
    show some (lay (zU8 20) 0 (beC 20 a)) = _
    rw [lay_all _ _ (by rw [hlen, hz])]
   obtain ⟨fn, tmps, assign, body, hy, hR⟩ := hY ss a w3 hJ3 (by omega)
   have hk3 : KeepsWalks w2 w3 := ⟨hb3.size, fun k o h _ => (hb3.block k (Array.getElem?_eq_some_iff.1 h).1).trans h⟩
   simp only [adV_eq] at hy hen ⊢
   gi_wp2
   refine hR.mono ?_
   rintro e W3 (⟨rfl, hJ4, hk4⟩ | ⟨rfl, hJ4⟩)
   ·gi_wp2
    have hrg3 := (hrg2.of_walks hk3).of_walks hk4
    go_roundw
    case rel => exact ⟨_, cnt2, ss ++ [a], hrg3, by simp; omega, hC2, hJ4⟩
    case measure => rw [hrg3.left_eq, hrg.left_eq]; exact hlt
   ·gi_wp2
    refine bodyPost_ret (results_none rfl _ _ _) rfl ?_
    exact ⟨⟨_, rfl⟩, .inr ⟨_, trivial, hJ4⟩⟩
end Go.Proofs.YtfflppedbopdpaaGreat
namespace Go.Mun
open Go.RowKit
def adrC (l : List Nat) : List Value := l.flatMap (beC 20)
@[go_sem, simp] theorem adrC_len (l : List Nat) : (adrC l).length = l.length * 20 := by
 induction l with
 | nil => rfl
 | cons a l ih => simp [adrC] at ih ⊢; omega
theorem adrC_snoc (l : List Nat) (x : Nat) : adrC (l ++ [x]) = adrC l ++ beC 20 x := by simp [adrC]
theorem Below.asGrown {w w' : World} (h : Below w.heap.size w w') : w.grownBy w' none := ⟨h.1, h.2, h.3, h.size, fun k hk _ => h.block k hk⟩
theorem Below.keepsOthers {w w' : World} (h : Below w.heap.size w w') : KeepsOthers w w' := ⟨h.size, fun k o hk _ => (h.block k (Array.getElem?_eq_some_iff.1 hk).1).trans hk⟩
theorem Below.keepsWalks {w w' : World} (h : Below w.heap.size w w') : KeepsWalks w w' := ⟨h.size, fun k o hk _ => (h.block k (Array.getElem?_eq_some_iff.1 hk).1).trans hk⟩
theorem row_own (B n : Nat) (L : List Value) : _root_.Go.Own (fun (_ : Unit) W => W.row? B 0 n = some L) := by
 intro s X Y row h hg hr
 have hlt := World.row?_lt h
 refine (World.row?_of_block (hg.block B hlt ?_)).trans h
 intro e
 obtain ⟨o, ho, hc⟩ := hr B e.symm
 obtain ⟨c, t, f, hb, _⟩ := World.row?_inv h
 rw [hb] at ho; cases ho; cases hc
theorem cell_row_new (w : World) (L : List Value) (t : TypeId) : ∀ j u, L[j]? = some u → (w.alloc (.cells L.toArray t)).cell? ((⟨w.heap.size, 0, none⟩ : Addr).add j) = some u := by
 intro j u hj
 have h := World.alloc_heap_new w (.cells L.toArray t)
 have h2 : ((⟨w.heap.size, 0, none⟩ : Addr).add j) = ⟨w.heap.size, j, none⟩ := by
  cases j <;> simp [Addr.add]
 rw [h2]
 unfold World.cell?
 simp only [h]
 simpa using hj
theorem Boxed.free {W : World} {B : Nat} {t : TypeId} {v : Value} (h : Boxed W B t v) : W.free? B 0 1 = true := by
 unfold Boxed at h
 unfold World.free?
 simp only [h]
 simp
end Go.Mun
namespace Go.Proofs.YtfflppedbopdpaaGreat
open Go.RowKit Go.Mun Go.Maps Go.Shelf
attribute [local go_sem] Oper.semAt_some
attribute [local go_sem ↓] semAt_run
attribute [local irreducible] beC zU8
theorem slA1 : SliceLit Tryz.prog 150 23 20 1 (zU8 20) := ⟨Tryz.underlying150, ⟨_, .agg (zU8 20).toArray, rfl, by kernel_rfl, by kernel_rfl, by kernel_rfl⟩, by decide, by kernel_rfl, by decide⟩
def fillA (p : List (Nat × Value)) : Option (List Value) := fillL (1 * 20) ((List.range 1).map fun i => (i * 20, 20)) (zU8 20) p
theorem bsA1 (ρ : Operand → Value) (dst : Option Tmp) (x : Operand) (t : TypeId) (pos : String) (after : Array Edge) (gd : Option (Nat × Bool)) (w : World) :
  (execOp ρ ⟨dst, .buildSlice 150 1 #[(0, x)], t, pos, after, gd⟩).run Tryz.prog w = asNext (bsRow Tryz.prog 150 23 1 [(0, ρ x)] w (fillA [(0, ρ x)])) :=
 ex_bslice ρ dst t pos after gd w slA1 [(0, x)]
theorem zU8_len (n : Nat) : (zU8 n).length = n := by unfold zU8; simp
@[go_sem] theorem fillA_one (c : List Value) (h : c.length = 20) : fillA [(0, .agg c.toArray)] = some c := by
 unfold fillA
 have hz := zU8_len 20
 have : lay (zU8 20) 0 c = c := by
  have := lay_left (zU8 20) c [] (by simp [h, hz])
  simpa using this
 simp [fillL, h, Value.cells, this]
theorem s1_A (ρ : Operand → Value) (dst : Option Tmp) (x y : Operand) (t : TypeId) (pos : String) (after : Array Edge) (gd : Option (Nat × Bool)) (w : World) : (execOp ρ ⟨dst, .store 150 x y, t, pos, after, gd⟩).run Tryz.prog w = asSkip (stOne Tryz.prog 150 (ρ x) (ρ y) w) := ex_store1 ρ dst x y t pos after gd w (by kernel_rfl)
attribute [go_sem ↓] bsA1 s1_A
theorem infoA : (Tryz.prog.info? 23).map (fun i => (i.zero, i.size, i.bytes)) = some (some (.agg (zU8 20).toArray), 20, 20) := by kernel_rfl
theorem appendSeq212 (F : Fence) (n : Nat) (hF : F.fn 270) (hG : F.fn 184) (hro : F.round = none) (hn : 3 ≤ n) (Bm : Nat) (ks : List Nat) (w : World) (hN : ks.length ≤ 4000000)
  (hseq : ∀ w' : World, Below w.heap.size w w' → SeqStopsK F (n - 1) Tryz.prog 184 #[.pointer (some ⟨Bm, 0, none⟩)] (fun a : Nat => #[adV a]) KeepsWalks (fun ss => ss.Perm ks) (fun _ => True) ks.length w') :
  CallsIn F n Tryz.prog 270 #[.slice none 0 0, .func (.func 184) #[] #[.pointer (some ⟨Bm, 0, none⟩)]] w fun e W' => ∃ v ss, e = .returned v ∧ ss.Perm ks ∧ W'.ownsRow w.heap.size 23 20 v ss.length (adrC ss) ∧ (v = .slice none 0 0 ↔ ss = []) ∧ Below w.heap.size w W' := by
 obtain ⟨i0, hi, hz0, hz1, hz2⟩ := info_parts infoA
 have h1 : 1 ≤ n := by omega
 refine callsIn_of_wp_marks Tryz.func270 rfl hF ?_ hro
 try simp only [Tryz.ntmps270, List.size_toArray, List.length_cons, List.length_nil, Nat.reduceAdd, Nat.reduceSub, Array.replicate_succ, Array.replicate_zero, List.push_toArray, List.append_toArray, List.nil_append, List.cons_append]
 gi_wp2
 obtain ⟨W0, hW0⟩ : ∃ W0, w.alloc (.cells #[.slice none 0 0] 150) = W0 := ⟨_, rfl⟩
 have hsz : W0.heap.size = w.heap.size + 1 := by rw [← hW0]; simp
 have hB0 : Boxed W0 w.heap.size 150 (.slice none 0 0) := by rw [← hW0]; exact Boxed.new _ _ _
 have hBW : Below w.heap.size w W0 := by rw [← hW0]; exact (Below.refl _ w).alloc (Nat.le_refl _) _
 rw [hW0]
 have hO1 : OwnFrom W0.heap.size (fun (pre : List Nat) W => ∃ v, Boxed W w.heap.size 150 v ∧ W.ownsRow w.heap.size 23 20 v pre.length (adrC pre) ∧ (v = .slice none 0 0 ↔ pre = [])) :=
  _root_.Go.Own.from (holdsRow_own (β := List Nat) w.heap.size w.heap.size 150 23 20 (fun pre => pre.length) adrC (fun pre v => v = .slice none 0 0 ↔ pre = [])) _
 have hO2 : OwnFrom W0.heap.size (fun (_ : List Nat) W => Below w.heap.size w W) := ownFrom_below (Nat.le_refl _) (by rw [hsz]; omega)
 have hOI := OwnFrom.and hO1 hO2
 refine wpIn_rangeFunc_ownH hro h1 (gf := 184) (lb := #[.pointer (some ⟨Bm, 0, none⟩)]) rfl hG (enters_of Tryz.func184 (by kernel_rfl) rfl)
  (hseq W0 hBW) walksK_t walksK_b (Below.refl _ _) (fun _ => rfl)
  (fun pre W => (∃ v, Boxed W w.heap.size 150 v ∧ W.ownsRow w.heap.size 23 20 v pre.length (adrC pre) ∧ (v = .slice none 0 0 ↔ pre = [])) ∧ Below w.heap.size w W)
  (fun _ _ _ => False)
  hOI
  (fun _ _ _ _ _ h _ _ => h)
  ⟨⟨_, hB0, World.ownsRow_nil _ _ _ _, by simp⟩, hBW⟩
  (fun x a' W => ∃ Bx, w.heap.size < Bx ∧ W.row? Bx 0 20 = some (beC 20 x) ∧ a' = { tmps := #[.slice none 0 0, .func (.func 184) #[] #[.pointer (some ⟨Bm, 0, none⟩)], .pointer (some ⟨w.heap.size, 0, none⟩), undef, .slice none 0 0, .pointer (some ⟨Bx, 0, none⟩), .func (.func 184) #[] #[.pointer (some ⟨Bm, 0, none⟩)], adV x, undef, undef, undef, undef, undef], defers := [] })
  (fun x a' s X Y row h hg hr => by
   obtain ⟨Bx, hB, hrow, e⟩ := h
   exact ⟨Bx, hB, row_own Bx 20 _ () X Y row hrow hg (fun r e => (hr r e).2), e⟩) ?assign ?body ?done ?stop
 case assign =>
  rintro l pre x W K ⟨⟨v, hv, hrow, hnil⟩, hB⟩ hK
  have hf2 : (W.alloc (.cells (zU8 20).toArray 23)).free? W.heap.size 0 20 = true := World.free?_alloc_at _ _ rfl (by simp [zU8_len])
  have hok := beC_ok 20 x
  have hlen := okL_len hok
  have hr3 : ((W.alloc (.cells (zU8 20).toArray 23)).setCells W.heap.size 0 (beC 20 x)).row? W.heap.size 0 20 = some (beC 20 x) := by
   rw [World.row?_setCells_lay 0 (beC 20 x) (Nat.le_refl _) (by rw [hlen]; exact Nat.le_refl _), World.row?_alloc_at _ _ _ rfl (zU8_len 20)]
   show some (lay (zU8 20) 0 (beC 20 x)) = _
   rw [lay_all _ _ (by rw [hlen, zU8_len])]
  have hb3 : Below W.heap.size W ((W.alloc (.cells (zU8 20).toArray 23)).setCells W.heap.size 0 (beC 20 x)) := ((Below.refl _ W).alloc (Nat.le_refl _) _).setCells (Nat.le_refl _) _ _
  simp only [adV_eq] at hK ⊢
  gi_wp2
  refine hK _ _ ((Below.keepsOthers hb3).from _) (Below.keepsWalks hb3) ⟨⟨v, ?_, ?_, hnil⟩, ?_⟩ ⟨_, ?_, hr3, rfl⟩
  ·exact Boxed.kept hv (Below.asGrown hb3) (by simp)
  ·exact hrow.kept (Below.asGrown hb3) (by cases v.ownBlock <;> simp)
  ·exact hB.trans (hb3.mono hB.size)
  ·exact Nat.lt_of_lt_of_le hv.lt (Nat.le_refl _)
 case body =>
  rintro l pre x a' W hl _ ⟨⟨v, hv, hrow, hnil⟩, hB⟩ ⟨Bx, hBx, hrx, rfl⟩ hlt
  have hvc := hv.cell
  have hok := beC_ok 20 x
  have hlen := okL_len hok
  have hsW := hB.size
  gi_wp2_with (gi_at_builtin; go_must (refine wpListIn_append_own _ rfl _ _ 150 rfl w.heap.size 23 i0 _ 20 20 Tryz.underlying150 hi hz0 hz1 hz2 (by simp [Value.cells, zU8_len]) (by decide) _ _ _ rfl (hrow.alloc _) ⟨W.heap.size, 0, none⟩ 1 1 (beC 20 x) rfl (by rw [hlen]) (cell_row_new _ _ _) (okL_mem hok) (by unfold maxLen; omega) (by omega) (by simp; omega) ?_); intro v' w1 hown' hgrow _; obtain ⟨g', cap', rfl⟩ := ownsRow_succ hown'; obtain ⟨hv1, hv2, hr2, hk2, hb2⟩ := hv.appended (by decide) hrow hB.size (Nat.le_refl _) hown' hgrow; have hc1 := hv1.cell; have hf1 := Boxed.free hv1)
  refine ⟨hk2.from _, hk2.walks, ⟨⟨_, hv2, ?_, ?_⟩, ?_⟩⟩
  ·rw [adrC_snoc]; simpa using hr2
  ·simp
  ·exact hB.trans hb2
 case done =>
  rintro D xs W hD hp ⟨⟨v, hv, hrow, hnil⟩, hB⟩ hK
  have hvc := hv.cell
  gi_wp2
  refine ⟨by simp, .inl ⟨_, _, rfl, run_takeDeferred hK, ?_⟩⟩
  refine ⟨_, results_tmp rfl _ _ _, v, xs, rfl, hp, ownsRow_putObj hrow _ hK rfl, hnil, hB.trans (belowK_b (w := w) (Nat.le_refl _) W D _ _ (by omega) hK rfl rfl)⟩
 case stop =>
  rintro D c pre W hD _ h _
  exact h.elim
end Go.Proofs.YtfflppedbopdpaaGreat
namespace Go.Mun
open Go.RowKit

def numU : List UInt8 → Nat
 | [] => 0
 | x :: l => x.toNat * 256 ^ l.length + numU l
theorem numU_lt : ∀ l : List UInt8, numU l < 256 ^ l.length
 | [] => by simp [numU]
 | x :: l => by
  have h1 : x.toNat < 256 := x.toNat_lt
  have h2 := numU_lt l
  have h3 : x.toNat * 256 ^ l.length ≤ 255 * 256 ^ l.length := Nat.mul_le_mul_right _ (by omega)
  simp only [numU, List.length_cons, Nat.pow_succ]
  omega
theorem cmpU : ∀ (A B : List UInt8), A.length = B.length → Lib.compareBytes A B = if numU A < numU B then -1 else if numU B < numU A then 1 else 0
 | [], [], _ => by simp [Lib.compareBytes, numU]
 | [], _ :: _, h => by simp at h
 | _ :: _, [], h => by simp at h
 | x :: A, y :: B, h => by
  have hl : A.length = B.length := by simpa using h
  have ha := numU_lt A
  have hb := numU_lt B
  rw [hl] at ha
  unfold Lib.compareBytes
  simp only [numU, hl]
  have hxy : x < y ↔ x.toNat < y.toNat := UInt8.lt_iff_toNat_lt
  have hyx : y < x ↔ y.toNat < x.toNat := UInt8.lt_iff_toNat_lt
  by_cases h1 : x < y
  ·have h2 : (x.toNat + 1) * 256 ^ B.length ≤ y.toNat * 256 ^ B.length := Nat.mul_le_mul_right _ (hxy.1 h1)
   rw [Nat.add_mul, Nat.one_mul] at h2
   rw [if_pos h1, if_pos (by omega)]
  ·rw [if_neg h1]
   by_cases h2 : y < x
   ·have h3 : (y.toNat + 1) * 256 ^ B.length ≤ x.toNat * 256 ^ B.length := Nat.mul_le_mul_right _ (hyx.1 h2)
    rw [Nat.add_mul, Nat.one_mul] at h3
    rw [if_pos h2, if_neg (by omega), if_pos (by omega)]
   ·have he : x.toNat = y.toNat := by
     rw [hxy] at h1; rw [hyx] at h2; omega
    rw [if_neg h2, cmpU A B hl, he]
    simp only [Nat.add_lt_add_iff_left]
def toU (l : Bts) : List UInt8 := l.map fun x => x.toNat.toUInt8
theorem numU_toU : ∀ l : Bts, Byt l → numU (toU l) = beN l
 | [], _ => rfl
 | x :: l, h => by
  have hx := h x (by simp)
  have h1 : (x.toNat.toUInt8).toNat = x.toNat := by
   show (UInt8.ofNat x.toNat).toNat = x.toNat
   rw [UInt8.toNat_ofNat']
   omega
  have h2 := numU_toU l (fun y hy => h y (List.mem_cons_of_mem _ hy))
  show (x.toNat.toUInt8).toNat * 256 ^ (toU l).length + numU (toU l) = x.toNat * 256 ^ l.length + beN l
  rw [h1, h2]
  simp [toU]
theorem be_byt (k a : Nat) : Byt (be k a) := by
 intro x hx
 unfold be at hx
 obtain ⟨i, _, rfl⟩ := List.mem_map.1 hx
 have := Nat.mod_lt (a / 256 ^ (k - 1 - i)) (show 0 < 256 by decide)
 omega
theorem beN_be : ∀ (k n : Nat), n < 256 ^ k → beN (be k n) = n
 | 0, n, h => by
  have : n = 0 := by simpa using h
  subst this; rfl
 | k + 1, n, h => by
  have h1 : n / 256 ^ k < 256 := by
   rw [Nat.div_lt_iff_lt_mul (Nat.pow_pos (by decide))]
   rw [Nat.pow_succ] at h; omega
  rw [be_succ]
  simp only [beN, be_len]
  have e : be k n = be k (n % 256 ^ k) := (be_mod k n).symm
  rw [e, beN_be k (n % 256 ^ k) (Nat.mod_lt _ (Nat.pow_pos (by decide)))]
  have h3 : ((n / 256 ^ k % 256 : Nat) : Int).toNat = n / 256 ^ k := by rw [Int.toNat_natCast, Nat.mod_eq_of_lt h1]
  first
   | rw [h3, Nat.mul_comm, Nat.div_add_mod]
   | (simp only [Int.toNat_natCast]; rw [Nat.mod_eq_of_lt h1, Nat.mul_comm, Nat.div_add_mod])
def cmpZ (a b : Nat) : Int := if a < b then -1 else if b < a then 1 else 0
theorem cmp_be (k a b : Nat) (ha : a < 256 ^ k) (hb : b < 256 ^ k) : Lib.compareBytes (toU (be k a)) (toU (be k b)) = cmpZ a b := by
 rw [cmpU _ _ (by simp [toU]), numU_toU _ (be_byt k a), numU_toU _ (be_byt k b), beN_be k a ha, beN_be k b hb]
 rfl
theorem run_loadBytes {P : Program} {w : World} {b : Nat} : ∀ (l : Bts) (off : Nat) (acc : ByteArray), (∀ i, i < l.length → w.cell? ⟨b, off + i, none⟩ = some (.int .u8 (l[i]?.getD 0))) →
  (Extern.Bytes.loadBytes ⟨b, off, none⟩ l.length acc).run P w = .ok ⟨acc.data ++ (toU l).toArray⟩ w
 | [], off, acc, _ => by
  show Result.ok acc w = _
  simp [toU]
 | x :: l, off, acc, h => by
  have h0 := h 0 (by simp)
  simp only [Nat.add_zero, List.getElem?_cons_zero, Option.getD_some] at h0
  have hi := run_loadBytes (P := P) l (off + 1) (acc.push x.toNat.toUInt8) (fun i hi => by
   have := h (i + 1) (by simp; omega)
   simp only [List.getElem?_cons_succ] at this
   rw [show off + 1 + i = off + (i + 1) by omega]; exact this)
  have hl : (load ⟨b, off, none⟩).run P w = .ok (.int .u8 x) w := by
   rw [run_load, h0]
  simp only [List.length_cons, Extern.Bytes.loadBytes, Sem.run_bind, hl, Result.andThen]
  have ha : (⟨b, off, none⟩ : Addr).add 1 = ⟨b, off + 1, none⟩ := add_off rfl
  rw [ha, hi]
  congr 1
  simp [toU, ByteArray.push]
theorem run_bytesOf {P : Program} {w : World} {a : Option Addr} {c : Nat} {l : Bts} (hI : Ints w .u8 a c l) : (Extern.Bytes.bytesOf (.slice a l.length c)).run P w = .ok ⟨(toU l).toArray⟩ w := by
 cases a with
 | none =>
  have h1 := hI.nil rfl
  have h2 := hI.len
  have : l = [] := List.eq_nil_of_length_eq_zero (by omega)
  subst this
  rfl
 | some ad =>
  by_cases hn : l = []
  ·subst hn; rfl
  ·obtain ⟨b, off, ha, hc⟩ := hI.cell hn
   cases ha
   have := run_loadBytes (P := P) l off ByteArray.empty hc
   show (Extern.Bytes.loadBytes ⟨b, off, none⟩ l.length ByteArray.empty).run P w = _
   simpa using this
end Go.Mun
namespace Go.Proofs.YtfflppedbopdpaaGreat
open Go.RowKit Go.Mun
theorem bytealg117 {w : World} {a a2 : Option Addr} {c c2 : Nat} {l m : Bts} (hI : Ints w .u8 a c l) (hJ : Ints w .u8 a2 c2 m) :
  (callFunc 185 #[.slice a l.length c, .slice a2 m.length c2]).run Tryz.prog w = .ok (.value (.int .i64 (Lib.compareBytes (toU l) (toU m)))) w := by
 rw [run_callFunc_extern Tryz.func185 (by kernel_rfl) (by kernel_rfl) (by kernel_rfl) (e := Extern.BytealgCompare.compare) (by kernel_rfl)]
 show (((do pure (goInt (Extern.BytealgCompare.cmp (← Extern.Bytes.bytesOf (.slice a l.length c)) (← Extern.Bytes.bytesOf (.slice a2 m.length c2)))) : Sem Value)).run Tryz.prog w).andThen _ = _
 simp only [Sem.run_bind, Sem.run_pure, run_bytesOf hI, run_bytesOf hJ, Result.andThen]
 rw [Lib.cmp_eq]
 rfl
theorem bytes_Compare {w : World} {a a2 : Option Addr} {c c2 : Nat} {l m : Bts} (hI : Ints w .u8 a c l) (hJ : Ints w .u8 a2 c2 m) :
  Calls Tryz.prog 78 #[.slice a l.length c, .slice a2 m.length c2] w fun e w' => e = .returned (.int .i64 (Lib.compareBytes (toU l) (toU m))) ∧ w' = w := by
 have h117 := bytealg117 hI hJ
 clear hI hJ
 generalize Lib.compareBytes (toU l) (toU m) = r at *
 go_enter Tryz.func78, Tryz.ntmps78
 go_wp2
 go_ret
 exact ⟨rfl, rfl⟩
end Go.Proofs.YtfflppedbopdpaaGreat
namespace Go.Proofs.YtfflppedbopdpaaGreat
open Go.RowKit Go.Mun Go.Sort
theorem slice23 (b : Nat) (w : World) : (Instr.sliceAt 23 (.pointer (some ⟨b, 0, none⟩)) none none none).run Tryz.prog w = .ok (.slice (some ⟨b, 0, none⟩) 20 20) w := by
 kernel_rfl
theorem ints_beC {w : World} {b c k : Nat} {a : Nat} (h : w.row? b 0 k = some (beC k a)) (hk : k ≤ c) (hm : c ≤ maxLen) : Ints w .u8 (some ⟨b, 0, none⟩) c (be k a) := by
 refine ⟨fun _ => ⟨b, 0, rfl, fun i hi => ?_⟩, fun h => (by cases h), by simpa using hk, hm⟩
 have hi' : i < k := by simpa using hi
 have := World.row?_cell h (i := i) hi'
 rw [this]
 unfold beC
 rw [List.getElem?_map]
 cases hx : (be k a)[i]? with
 | none => rw [List.getElem?_eq_none_iff] at hx; simp at hx; omega
 | some y => simp
theorem closure72 (x y : Nat) (hx : x < wA) (hy : y < wA) (W : World) : Calls Tryz.prog 77 #[.agg (beC 20 x).toArray, .agg (beC 20 y).toArray] W fun e w' => e = .returned (.int .i64 (cmpZ x y)) ∧ ∃ q os', w' = grow (W.drewN q) os' := by
 obtain ⟨W2, e2⟩ : ∃ W2, W2 = (W.alloc (.cells (beC 20 x).toArray 23)).alloc (.cells (beC 20 y).toArray 23) := ⟨_, rfl⟩
 have h1 : W2.drew.row? W.heap.size 0 20 = some (beC 20 x) := by
  rw [World.row?_drew, e2, World.row?_alloc_lt _ (by simp)]; exact World.row?_alloc_at _ _ _ rfl (beC_len _ _)
 have h2 : W2.drew.row? (W.heap.size + 1) 0 20 = some (beC 20 y) := by
  rw [World.row?_drew, e2]; exact World.row?_alloc_at _ _ _ (by simp) (beC_len _ _)
 have hc := bytes_Compare (ints_beC h1 (Nat.le_refl 20) (by decide)) (ints_beC h2 (Nat.le_refl 20) (by decide))
 rw [be_len, be_len, cmp_be 20 x y hx hy] at hc
 have HC := Lib.hid hc
 have s1 := slice23 W.heap.size
 have s2 := slice23 (W.heap.size + 1)
 have HE := Lib.hid e2
 obtain ⟨T, hT⟩ : ∃ T : World → Prop, T = fun W' => W' = W2.drew := ⟨_, rfl⟩
 have HT := Lib.hid hT
 have t0 : T W2.drew := by rw [hT]
 clear hc hT h1 h2 e2 hx hy
 generalize cmpZ x y = r at *
 have hlx := beC_len 20 x
 have hly := beC_len 20 y
 go_enter Tryz.func77, Tryz.ntmps77
 go_wp2_with fail
 rw [← HE.out]
 refine wp_region_tree T [] (.pure 0 (.pure 1 (.alt 2 (.pure 3 .fin) .stop))) (by kernel_rfl) (by kernel_rfl) ?_
 iterate 2
  refine tree_pure ?_ rfl (by rfl) (fun w' hs => ?_) (fun _ _ _ h => h) ?_
  rotate_left
  ·clear hs
   go_simp
   try rfl
  simp only [Act.put, tsa, tsb, tsc]
 refine tree_run rfl (fun K hK => ?_)
 go_simp
 refine HC.out.mono ?_
 rintro e w' ⟨rfl, rfl⟩
 refine hK.out _ _ t0 ?_
 clear hK K
 refine tree_pure ?_ rfl (by rfl) (fun w' hs => ?_) (fun _ _ _ h => h) ?_
 rotate_left
 ·clear hs
  go_simp
  try rfl
 simp only [Act.put, tsa, tsb, tsc]
 refine tree_fin ?_
 go_wp2
 go_ret
 refine ⟨rfl, 1, #[.cells (beC 20 x).toArray 23, .cells (beC 20 y).toArray 23], ?_⟩
 rw [HE.out, alloc_eq_grow, alloc_eq_grow, grow_grow]
 rfl
end Go.Proofs.YtfflppedbopdpaaGreat
namespace Go.Proofs
open Go.Shelf
def Tryz.sortA_ren : Go.Shelf.Ren := ⟨fun | 6 => 183 | 15 => 272 | 14 => 271 | 28 => 338 | 29 => 339 | 20 => 330 | 21 => 331 | 22 => 332 | 23 => 333 | 24 => 334 | 25 => 335 | 26 => 336 | 27 => 337 | 46 => 361 | 47 => 362 | 48 => 363 | 49 => 364 | 50 => 365 | 57 => 375 | n => n, fun | 22 => 150 | 24 => 23 | 25 => 156 | 3 => 3 | 39 => 89 | 0 => 0 | 53 => 315 | 55 => 112 | 4 => 4 | 46 => 309 | 45 => 308 | 50 => 107 | 5 => 5 | 9 => 9 | 66 => 332 | 70 => 336 | 76 => 347 | 77 => 348 | n => n, fun | n => n⟩
theorem Tryz.sortA : Go.Proofs.SlLaysF0.n6 Tryz.prog Tryz.sortA_ren := {
 mixed := by kernel_rfl
 f6 := ⟨Tryz.f183.name, by decide, Tryz.func183.trans (congrArg some (by kernel_rfl))⟩
 f14 := ⟨Tryz.f271.name, by decide, Tryz.func271.trans (congrArg some (by kernel_rfl))⟩
 f15 := Tryz.func272.trans (congrArg some (by kernel_rfl))
 f20 := ⟨Tryz.f330.name, by decide, Tryz.func330.trans (congrArg some (by kernel_rfl))⟩
 f21 := ⟨Tryz.f331.name, by decide, Tryz.func331.trans (congrArg some (by kernel_rfl))⟩
 f22 := ⟨Tryz.f332.name, by decide, Tryz.func332.trans (congrArg some (by kernel_rfl))⟩
 f23 := ⟨Tryz.f333.name, by decide, Tryz.func333.trans (congrArg some (by kernel_rfl))⟩
 f24 := ⟨Tryz.f334.name, by decide, Tryz.func334.trans (congrArg some (by kernel_rfl))⟩
 f25 := ⟨Tryz.f335.name, by decide, Tryz.func335.trans (congrArg some (by kernel_rfl))⟩
 f26 := ⟨Tryz.f336.name, by decide, Tryz.func336.trans (congrArg some (by kernel_rfl))⟩
 f27 := ⟨Tryz.f337.name, by decide, Tryz.func337.trans (congrArg some (by kernel_rfl))⟩
 f28 := Tryz.func338.trans (congrArg some (by kernel_rfl))
 f29 := Tryz.func339.trans (congrArg some (by kernel_rfl))
 f46 := ⟨Tryz.f361.name, by decide, Tryz.func361.trans (congrArg some (by kernel_rfl))⟩
 f47 := Tryz.func362.trans (congrArg some (by kernel_rfl))
 f48 := Tryz.func363.trans (congrArg some (by kernel_rfl))
 f49 := ⟨Tryz.f364.name, by decide, Tryz.func364.trans (congrArg some (by kernel_rfl))⟩
 f50 := ⟨Tryz.f365.name, by decide, Tryz.func365.trans (congrArg some (by kernel_rfl))⟩
 f57 := ⟨Tryz.f375.name, by decide, Tryz.func375.trans (congrArg some (by kernel_rfl))⟩
 t0 := Tryz.underlying0
 a0 := Tryz.isAgg0
 z0 := Tryz.sizeOf0
 v0 := Tryz.zeroValue0
 t3 := Tryz.underlying3
 a3 := Tryz.isAgg3
 z3 := Tryz.sizeOf3
 v3 := Tryz.zeroValue3
 t4 := Tryz.underlying4
 a4 := Tryz.isAgg4
 z4 := Tryz.sizeOf4
 v4 := Tryz.zeroValue4
 t5 := Tryz.underlying5
 a5 := Tryz.isAgg5
 z5 := Tryz.sizeOf5
 v5 := Tryz.zeroValue5
 t9 := Tryz.underlying9
 a9 := Tryz.isAgg9
 z9 := Tryz.sizeOf9
 v9 := Tryz.zeroValue9
 t22 := Tryz.underlying150
 a22 := Tryz.isAgg150
 z22 := Tryz.sizeOf150
 v22 := Tryz.zeroValue150
 t25 := Tryz.underlying156
 a25 := Tryz.isAgg156
 z25 := Tryz.sizeOf156
 v25 := Tryz.zeroValue156
 t39 := Tryz.underlying89
 a39 := Tryz.isAgg89
 z39 := Tryz.sizeOf89
 v39 := Tryz.zeroValue89
 t45 := Tryz.underlying308
 a45 := Tryz.isAgg308
 z45 := Tryz.sizeOf308
 v45 := Tryz.zeroValue308
 t46 := Tryz.underlying309
 a46 := Tryz.isAgg309
 z46 := Tryz.sizeOf309
 v46 := Tryz.zeroValue309
 t50 := Tryz.underlying107
 a50 := Tryz.isAgg107
 z50 := Tryz.sizeOf107
 v50 := Tryz.zeroValue107
 t53 := Tryz.underlying315
 a53 := Tryz.isAgg315
 z53 := Tryz.sizeOf315
 v53 := Tryz.zeroValue315
 t55 := Tryz.underlying112
 a55 := Tryz.isAgg112
 z55 := Tryz.sizeOf112
 v55 := Tryz.zeroValue112
 t66 := Tryz.underlying332
 a66 := Tryz.isAgg332
 z66 := Tryz.sizeOf332
 v66 := Tryz.zeroValue332
 t70 := Tryz.underlying336
 a70 := Tryz.isAgg336
 z70 := Tryz.sizeOf336
 v70 := Tryz.zeroValue336
 t76 := Tryz.underlying347
 a76 := Tryz.isAgg347
 z76 := Tryz.sizeOf347
 v76 := Tryz.zeroValue347
 t77 := Tryz.underlying348
 a77 := Tryz.isAgg348
 z77 := Tryz.sizeOf348
 v77 := Tryz.zeroValue348 }
end Go.Proofs
namespace Go.Mun
open Go.RowKit Go.Sort
open Go.Proofs (ltOf)
abbrev AdrT := { x : Nat // x < wA }
instance : Inhabited AdrT := ⟨⟨0, by unfold wA; decide⟩⟩
def adE (x : AdrT) : List Value := beC 20 x.1
theorem adE_len (x : AdrT) : (adE x).length = 20 := beC_len _ _
def adC (x y : AdrT) : Int := cmpZ x.1 y.1
theorem adC_lt (x y : AdrT) : ltOf adC x y = decide (x.1 < y.1) := by
 unfold ltOf adC cmpZ
 by_cases h : x.1 < y.1
 ·simp [h]
 ·simp only [h, if_false]
  by_cases h2 : y.1 < x.1 <;> simp [h2]
theorem adC_swo : SWO (ltOf adC) := by
 refine ⟨fun x => ?_, fun x y z h1 h2 => ?_, fun x y z h1 h2 => ?_⟩ <;> simp only [adC_lt, decide_eq_true_eq, decide_eq_false_iff_not] at * <;> omega
theorem adC_tot (x y : AdrT) (h1 : ltOf adC x y = false) (h2 : ltOf adC y x = false) : x = y := by
 simp only [adC_lt, decide_eq_false_iff_not] at h1 h2
 exact Subtype.ext (by omega)
theorem adrC_at : ∀ (l : List AdrT) (t : Nat), t < l.length * 20 → (adrC (l.map Subtype.val))[t]? = some ((adE l[t / 20]!)[t % 20]!)
 | [], t, h => by simp at h
 | a :: l, t, h => by
  have h2 : adrC ((a :: l).map Subtype.val) = adE a ++ adrC (l.map Subtype.val) := by simp [adrC, adE]
  rw [h2]
  by_cases ht : t < 20
  ·rw [List.getElem?_append_left (by rw [adE_len]; exact ht), Nat.div_eq_of_lt ht, Nat.mod_eq_of_lt ht]
   have hl : t < (adE a).length := by rw [adE_len]; exact ht
   simp [List.getElem!_eq_getElem?_getD, hl]
  ·obtain ⟨u, rfl⟩ : ∃ u, t = u + 20 := ⟨t - 20, by omega⟩
   rw [List.getElem?_append_right (by rw [adE_len]; omega), adE_len, Nat.add_sub_cancel, adrC_at l u (by simp at h; omega)]
   rw [Nat.add_div_right u (by decide), Nat.add_mod_right]
   simp
theorem flat_adrC (l : List AdrT) : (flatK adE 20 l.toArray).toList = adrC (l.map Subtype.val) := by
 apply List.ext_getElem?
 intro t
 by_cases ht : t < l.length * 20
 ·rw [adrC_at l t ht]
  have hs : t < (flatK adE 20 l.toArray).size := by simpa using ht
  have := get_flatK adE 20 l.toArray t (by simpa using ht)
  rw [getElem!_pos _ t hs] at this
  rw [Array.getElem?_toList, Array.getElem?_eq_getElem hs, this]
  simp
 ·rw [List.getElem?_eq_none (by simp; omega), List.getElem?_eq_none (by simp; omega)]
theorem own_put {w : World} {n₀ g n cap size : Nat} {e : TypeId} {xs : List Value} (h : w.ownsRow n₀ e size (.slice (some ⟨g, 0, none⟩) n cap) n xs) (F : Array Value) (hF : F.size = n * size) (m : Nat) (os : Array Obj) :
  (grow (putRow id (Go.Sort.ahead w m) g 0 F) os).ownsRow n₀ e size (.slice (some ⟨g, 0, none⟩) n cap) n F.toList := by
 rcases h.2 with ⟨h1, _⟩ | ⟨g', cap', cur, h1, hb, hh, hn, hm, hs, ht⟩
 ·cases h1
 cases h1
 refine ⟨by simpa using hF, .inr ⟨g, cap, putCells id 0 F cur, rfl, hb, ?_, hn, hm, by simpa [putCells] using hs, ?_⟩⟩
 ·have hlt := (Array.getElem?_eq_some_iff.1 hh).1
  have hh2 : (Go.Sort.ahead w m).heap[g]? = some (.cells cur e (0, 0)) := hh
  show ((putRow id (Go.Sort.ahead w m) g 0 F).heap ++ os)[g]? = _
  rw [Array.getElem?_append_left (by rw [size_putRow]; exact hlt)]
  show ((Go.Sort.ahead w m).heap.modify g (onCells (putCells id 0 F)))[g]? = _
  rw [Array.getElem?_modify, hh2]
  simp [onCells]
 ·apply List.ext_getElem?
  intro i
  have hle : n * size ≤ cap * size := Nat.mul_le_mul_right _ hn
  rw [List.getElem?_take]
  by_cases hi : i < n * size
  ·rw [if_pos hi]
   have hic : i < cur.size := by omega
   have hiF : i < F.size := by omega
   simp [putCells, hic, hiF, getElem!_pos]
  ·rw [if_neg hi]
   have hiF : ¬ i < F.size := by omega
   simp [hiF]
end Go.Mun
namespace Go.Proofs.YtfflppedbopdpaaGreat
open Go.RowKit Go.Mun Go.Sort
theorem isAgg23 (w : World) : (isAgg 23).run Tryz.prog w = .ok true w := by kernel_rfl
theorem sizeOf23 (w : World) : (Go.sizeOf 23).run Tryz.prog w = .ok 20 w := by kernel_rfl
theorem slices_SortFunc {w : World} {v : Value} {n₀ : Nat} {ss : List Nat} (hs : ∀ a ∈ ss, a < wA) (hown : w.ownsRow n₀ 23 20 v ss.length (adrC ss)) (hsz : ss.length ≤ 4000000) :
  Calls Tryz.prog 183 #[v, .func (.func 77) #[] #[]] w fun e w' => e = .returned (.tuple #[]) ∧ ∃ rs : List Nat, rs.Perm ss ∧ rs.Pairwise (· ≤ ·) ∧ w'.ownsRow n₀ 23 20 v ss.length (adrC rs) ∧ Below n₀ w w' := by
 have hcase := hown.2
 rcases hcase with ⟨rfl, h0⟩ | ⟨g, cap, cur, rfl, hb, hh, hn, hm, hcs, ht⟩
 ·have he : ss = [] := List.eq_nil_of_length_eq_zero h0
  subst he
  have hc := AnyF.slices_SortFunc_none Tryz.sortA none 0 (.func (.func 77) #[] #[]) w
  refine Calls.mono hc ?_
  rintro e w' ⟨rfl, rfl⟩
  exact ⟨rfl, [], List.Perm.refl _, List.Pairwise.nil, hown, Below.refl _ _⟩
 ·obtain ⟨l, hl⟩ : ∃ l : List AdrT, l.map Subtype.val = ss := ⟨ss.attach.map fun a => ⟨a.1, hs a.1 a.2⟩, by simp⟩
  have hll : l.length = ss.length := by rw [← hl]; simp
  have hlt : g < w.heap.size := (Array.getElem?_eq_some_iff.1 hh).1
  have hfl := flat_adrC l
  rw [hl] at hfl
  have hH : HoldsK adE 20 w g 0 l.toArray := by
   intro j hj
   have hj' : j < (adrC ss).length := by simpa [hll] using hj
   have hgj : (adrC ss)[j]? = some ((flatK adE 20 l.toArray)[j]!) := by
    rw [← hfl, Array.getElem?_toList, getElem!_pos _ j hj, Array.getElem?_eq_getElem hj]
   constructor
   ·rw [Nat.zero_add]
    show _ = some ((flatK adE 20 l.toArray)[j]!)
    rw [← hgj, ← ht, List.getElem?_take, if_pos (by simpa using hj'), Array.getElem?_toList]
    unfold World.cell?
    simp only [hh]
    rfl
   ·unfold World.frozen?
    simp only [hh]
    simp
  have eg : ∀ args w, (callFunc 77 args).run Tryz.prog w = .ok (.enter 77 args) w := enters_of Tryz.func77 (by kernel_rfl) rfl
  have hcmp : CmpLays Tryz.prog 77 #[] adE 20 adC g 0 l.toArray.size w := fun _ _ _ _ x y => closure72 x.1 y.1 x.2 y.2 _
  have hc := AnyQ.slices_SortFunc_total Tryz.sortA 20 isAgg23 sizeOf23 adE adE_len (fun x => okL_mem (beC_ok 20 x.1)) adC adC_swo 77 #[] g 0 cap l.toArray w eg hcmp hH hlt (by simp; omega) adC_tot
  have hcs2 : l.toArray.size = ss.length := by simp [hll]
  rw [hcs2] at hc
  refine Calls.mono hc ?_
  rintro e w' ⟨rfl, m, os, rfl⟩
  refine ⟨rfl, (l.mergeSort fun x y => !(ltOf adC) y x).map Subtype.val, ?_, ?_, ?_, ?_⟩
  ·rw [← hl]; exact (List.mergeSort_perm l _).map _
  ·rw [List.pairwise_map]
   refine (List.pairwise_mergeSort (le := fun x y : AdrT => !(ltOf adC) y x) ?_ ?_ l).imp ?_
   ·intro a b c; simp only [adC_lt, Bool.not_eq_true', decide_eq_false_iff_not]; omega
   ·intro a b; simp only [adC_lt, Bool.or_eq_true, Bool.not_eq_true', decide_eq_false_iff_not]; omega
   ·intro a b; simp only [adC_lt, Bool.not_eq_true', decide_eq_false_iff_not]; omega
  ·rw [← flat_adrC]
   exact own_put hown _ (by rw [size_flatK]; simp [hll]) m os
  ·refine ⟨rfl, rfl, rfl, ?_, fun k hk => ?_⟩
   ·show w.heap.size ≤ ((putRowK adE 20 (Go.Sort.ahead w m) g 0 _).heap ++ os).size
    rw [Array.size_append]
    unfold putRowK
    rw [size_putRow]
    show w.heap.size ≤ w.heap.size + _
    omega
   ·show ((w.heap.modify g (onCells _)) ++ os)[k]? = _
    rw [Array.getElem?_append_left (by rw [Array.size_modify]; omega), Array.getElem?_modify, if_neg (by omega)]
end Go.Proofs.YtfflppedbopdpaaGreat
namespace Go.Proofs.YtfflppedbopdpaaGreat
open Go.RowKit Go.Mun Go.Maps Go.Shelf
theorem collect114 (F : Fence) (n : Nat) (hF0 : F.fn 182) (hF : F.fn 270) (hG : F.fn 184) (hro : F.round = none) (hn : 4 ≤ n) (Bm : Nat) (ks : List Nat) (w : World) (hN : ks.length ≤ 4000000)
  (hseq : ∀ w' : World, Below w.heap.size w w' → SeqStopsK F (n - 1 - 1) Tryz.prog 184 #[.pointer (some ⟨Bm, 0, none⟩)] (fun a : Nat => #[adV a]) KeepsWalks (fun ss => ss.Perm ks) (fun _ => True) ks.length w') :
  CallsIn F n Tryz.prog 182 #[.func (.func 184) #[] #[.pointer (some ⟨Bm, 0, none⟩)]] w fun e W' => ∃ v ss, e = .returned v ∧ ss.Perm ks ∧ W'.ownsRow w.heap.size 23 20 v ss.length (adrC ss) ∧ (v = .slice none 0 0 ↔ ss = []) ∧ Below w.heap.size w W' := by
 refine callsIn_of_wp Tryz.func182 rfl hF0 ?_ hro
 have hap := appendSeq212 F (n - 1) hF hG hro (by omega) Bm ks w hN hseq
 clear hseq
 have h1 : 1 ≤ n := by omega
 simp only [Tryz.ntmps182, List.size_toArray, List.length_cons, List.length_nil, Nat.reduceAdd, Nat.reduceSub, Array.replicate_succ, Array.replicate_zero, List.push_toArray, List.append_toArray, List.nil_append, List.cons_append]
 gi_wp2_with (gi_at_call 270; refine hap.mono ?_; rintro e w' ⟨v, ss, rfl, hp, hrow, hnil, hB⟩)
 go_ret
 exact ⟨v, ss, rfl, hp, hrow, hnil, hB⟩
theorem collect_plain (Bm b nn : Nat) (D : DataW Unit) (ks : List Nat) (w : World) (hks : ∀ a ∈ ks, a < wA) (hd : ks.Nodup) (hN : ks.length ≤ 4000000) (hsz : Maps.size D = ks.length)
  (h1 : ∀ kl, Maps.has D kl = true → ∃ a ∈ ks, keyOf Tryz.prog 23 (adV a) = some kl) (h2 : ∀ a ∈ ks, ∀ kl, keyOf Tryz.prog 23 (adV a) = some kl → Maps.has D kl = true)
  (hBm : Bm < w.heap.size) (hm : w.cell? ⟨Bm, 0, none⟩ = some (.map (some b))) (hown : w.ownsMap Tryz.prog 23 R0 b nn D) :
  Calls Tryz.prog 182 #[.func (.func 184) #[] #[.pointer (some ⟨Bm, 0, none⟩)]] w fun e W' => ∃ v ss, e = .returned v ∧ ss.Perm ks ∧ W'.ownsRow w.heap.size 23 20 v ss.length (adrC ss) ∧ (v = .slice none 0 0 ↔ ss = []) ∧ Below w.heap.size w W' := by
 refine (callsIn_wide (n := 4)).1 (collect114 Fence.wide 4 trivial trivial trivial rfl (by omega) Bm ks w hN fun w' hb => ?_)
 refine keys116 Fence.wide 2 trivial rfl (by omega) Bm b nn D ks w' hks hd hsz h1 h2 (Nat.lt_of_lt_of_le hBm hb.size) ((hb.cell (p := ⟨Bm, 0, none⟩) hBm).trans hm) ?_
 have hbl := hown.lt
 obtain ⟨es, clock, hbk, Ft, hs, hD⟩ := hown
 exact ⟨es, clock, (hb.block b hbl).trans hbk, Ft, hs, hD⟩
theorem maps_Keys (m : Value) (w : World) (hm : m.oneCell' = true) : Calls Tryz.prog 76 #[m] w fun e w' => e = .returned (.func (.func 184) #[] #[.pointer (some ⟨w.heap.size, 0, none⟩)]) ∧ w' = w.alloc (.cells #[m] 90) := by
 go_enter Tryz.func76, Tryz.ntmps76
 go_wp2
 go_ret
 exact ⟨rfl, rfl⟩
theorem sortedFunc70 (sv : Value) (ks : List Nat) (w : World) (hks : ∀ a ∈ ks, a < wA) (hN : ks.length ≤ 4000000)
  (hcol : Calls Tryz.prog 182 #[sv] w fun e W' => ∃ v ss, e = .returned v ∧ ss.Perm ks ∧ W'.ownsRow w.heap.size 23 20 v ss.length (adrC ss) ∧ (v = .slice none 0 0 ↔ ss = []) ∧ Below w.heap.size w W') :
  Calls Tryz.prog 75 #[sv, .func (.func 77) #[] #[]] w fun e W' => ∃ v ss, e = .returned v ∧ ss.Perm ks ∧ ss.Pairwise (· ≤ ·) ∧ W'.ownsRow w.heap.size 23 20 v ss.length (adrC ss) ∧ Below w.heap.size w W' := by
 have HS := Lib.hid (fun (W : World) (v : Value) (ss : List Nat) (hp : ss.Perm ks) (hr : W.ownsRow w.heap.size 23 20 v ss.length (adrC ss)) => slices_SortFunc (w := W) (fun a ha => hks a (hp.mem_iff.1 ha)) hr (by rw [hp.length_eq]; exact hN))
 clear hks hN
 go_enter Tryz.func75, Tryz.ntmps75
 go_wp2_with (first
  | (go_at_call 182; refine hcol.mono ?_; rintro e w1 ⟨v, ss, rfl, hp, hrow, hnil, hB⟩; clear hnil)
  | (go_at_call 183; refine (HS.out _ v ss hp hrow).mono ?_; rintro e w2 ⟨rfl, rs, hp2, hpw, hrow2, hB2⟩))
 go_ret
 exact ⟨v, rs, rfl, hp2.trans hp, hpw, by rw [hp2.length_eq]; exact hrow2, hB.trans hB2⟩
end Go.Proofs.YtfflppedbopdpaaGreat
namespace Go.Proofs.YtfflppedbopdpaaGreat
open Go.RowKit Go.Mun Go.Maps Go.Shelf
attribute [local go_sem] Oper.semAt_some
attribute [local go_sem ↓] semAt_run
attribute [local irreducible] beC zU8
theorem wdV_eq (a : Nat) : wdV a = .agg (beC 32 a).toArray := rfl
theorem keys120 (F : Fence) (n : Nat) (hF : F.fn 188) (hro : F.round = none) (hn : 1 ≤ n) (Bm b nn : Nat) (D : DataW Unit) (ks : List Nat) (w : World)
  (hks : ∀ a ∈ ks, a < wW) (hd : ks.Nodup) (hsz : Maps.size D = ks.length) (h1 : ∀ kl, Maps.has D kl = true → ∃ a ∈ ks, keyOf Tryz.prog 25 (wdV a) = some kl) (h2 : ∀ a ∈ ks, ∀ kl, keyOf Tryz.prog 25 (wdV a) = some kl → Maps.has D kl = true)
  (hBm : Bm < w.heap.size) (hm : w.cell? ⟨Bm, 0, none⟩ = some (.map (some b))) (hown : w.ownsMap Tryz.prog 25 R0 b nn D) :
  SeqStopsK F n Tryz.prog 188 #[.pointer (some ⟨Bm, 0, none⟩)] (fun a : Nat => #[wdV a]) KeepsWalks (fun ss => ss.Perm ks) (fun _ => True) ks.length w := by
 intro l J Jx W hW hJ hJx hY h0
 have hm' : W.cell? ⟨Bm, 0, none⟩ = some (.map (some b)) := (hW.cell (p := ⟨Bm, 0, none⟩) hBm).trans hm
 have hown' : W.ownsMap Tryz.prog 25 R0 b nn D := by
  have hbl := hown.lt
  obtain ⟨es, clock, hb, Ft, hs, hD⟩ := hown
  exact ⟨es, clock, (hW.block b hbl).trans hb, Ft, hs, hD⟩
 clear hm hown hW
 refine callsIn_of_wp Tryz.func188 rfl hF ?_ hro
 try simp only [Tryz.ntmps188, List.size_toArray, List.length_cons, List.length_nil, Nat.reduceAdd, Nat.reduceSub, Array.replicate_succ, Array.replicate_zero, List.push_toArray, List.append_toArray, List.nil_append, List.cons_append]
 gi_wp2_with (first
  | (gi_at_range; refine wpListIn_range_own _ rfl _ 84 rfl 25 25 keyW.keyed Tryz.underlying84 _ b nn _ rfl hown' ?_; intro w0 hrg0 hg0 hs0)
  | gi_in)
 try go_frame
 gi_loopw [3] (fun _ wr => ∃ (left : Lit → Bool) (cnt : Nat) (ss : List Nat), wr.ranges Tryz.prog 25 R0 b W.heap.size nn D left cnt ∧ ss.length + cnt ≤ Maps.size D ∧ Came Tryz.prog 25 wdV wW ks left ss ∧ J ss wr)
  (fun _ wr => wr.rangeLeft b W.heap.size)
 case atStart =>
  exact ⟨_, _, [], hrg0, by simp, Came.start h1 h2, hJ [] W w0 none h0 hg0 (fun r e => by cases e)⟩
 case round =>
  obtain ⟨left, cnt, ss, hrg, hcs, hC, hJs⟩ := hrel
  gi_wp2_with (first
   | (gi_at_next; refine wpListIn_next_ranges _ rfl _ rfl 25 keyW.keyed R0 id id (fun key kl hk => ⟨key, rfl⟩) (fun v _ _ => ⟨v, rfl⟩) b W.heap.size nn _ _ _ rfl hrg ?_ ?_)
   | gi_in)
  ·intro hc0 hl0
   gi_wp2
   go_end0
   exact ⟨⟨_, rfl⟩, .inl ⟨ss, hC.perm keyW hks hd hl0, hJs⟩⟩
  ·intro x c kl yd yp w2 cnt2 hkey hlk hv hat hrg2 hlt hg2 hs2 hen
   obtain ⟨a, ha, hxa, hns, hC2⟩ := hC.step keyW hks hkey hlk
   obtain rfl : x = wdV a := hxa
   have hJ2 : J ss w2 := hJ ss wr w2 (some W.heap.size) hJs hg2 (fun r e => by cases e; exact ⟨Nat.le_refl _, hrg.iter_walk⟩)
   clear hs2 hv hat
   have hf2 : (w2.alloc (.cells (zU8 32).toArray 25)).free? w2.heap.size 0 32 = true := World.free?_alloc_at _ _ rfl (by simp [zU8])
   have hok := beC_ok 32 a
   have hlen := okL_len hok
   generalize hw3 : (w2.alloc (.cells (zU8 32).toArray 25)).setCells w2.heap.size 0 (beC 32 a) = w3
   have hb3 : Below w2.heap.size w2 w3 := by rw [← hw3]; exact ((Below.refl _ w2).alloc (Nat.le_refl _) _).setCells (Nat.le_refl _) _ _
   have hJ3 : J ss w3 := hJ ss w2 w3 none hJ2 ⟨hb3.1, hb3.2, hb3.3, hb3.size, fun k hk _ => hb3.block k hk⟩ (fun r e => by cases e)
   have hr3 : w3.row? w2.heap.size 0 32 = some (beC 32 a) := by
    have hz : (zU8 32).length = 32 := by simp [zU8]
    rw [← hw3, World.row?_setCells_lay 0 (beC 32 a) (Nat.le_refl _) (by rw [hlen]; exact Nat.le_refl _), World.row?_alloc_at _ _ _ rfl hz]
    show some (lay (zU8 32) 0 (beC 32 a)) = _
    rw [lay_all _ _ (by rw [hlen, hz])]
   obtain ⟨fn, tmps, assign, body, hy, hR⟩ := hY ss a w3 hJ3 (by omega)
   have hk3 : KeepsWalks w2 w3 := ⟨hb3.size, fun k o h _ => (hb3.block k (Array.getElem?_eq_some_iff.1 h).1).trans h⟩
   simp only [wdV_eq] at hy hen ⊢
   gi_wp2
   refine hR.mono ?_
   rintro e W3 (⟨rfl, hJ4, hk4⟩ | ⟨rfl, hJ4⟩)
   ·gi_wp2
    have hrg3 := (hrg2.of_walks hk3).of_walks hk4
    go_roundw
    case rel => exact ⟨_, cnt2, ss ++ [a], hrg3, by simp; omega, hC2, hJ4⟩
    case measure => rw [hrg3.left_eq, hrg.left_eq]; exact hlt
   ·gi_wp2
    refine bodyPost_ret (results_none rfl _ _ _) rfl ?_
    exact ⟨⟨_, rfl⟩, .inr ⟨_, trivial, hJ4⟩⟩
end Go.Proofs.YtfflppedbopdpaaGreat
namespace Go.Proofs.YtfflppedbopdpaaGreat
open Go.RowKit Go.Mun Go.Maps Go.Shelf
attribute [local go_sem] Oper.semAt_some
attribute [local go_sem ↓] semAt_run
attribute [local irreducible] beC zU8
theorem stkC_snoc (l : List Nat) (x : Nat) : stkC (l ++ [x]) = stkC l ++ beC 32 x := by simp [stkC]
theorem infoW : (Tryz.prog.info? 25).map (fun i => (i.zero, i.size, i.bytes)) = some (some (.agg (zU8 32).toArray), 32, 32) := by kernel_rfl
theorem appendSeq215 (F : Fence) (n : Nat) (hF : F.fn 273) (hG : F.fn 188) (hro : F.round = none) (hn : 3 ≤ n) (Bm : Nat) (ks : List Nat) (w : World) (hN : ks.length ≤ 4000000)
  (hseq : ∀ w' : World, Below w.heap.size w w' → SeqStopsK F (n - 1) Tryz.prog 188 #[.pointer (some ⟨Bm, 0, none⟩)] (fun a : Nat => #[wdV a]) KeepsWalks (fun ss => ss.Perm ks) (fun _ => True) ks.length w') :
  CallsIn F n Tryz.prog 273 #[.slice none 0 0, .func (.func 188) #[] #[.pointer (some ⟨Bm, 0, none⟩)]] w fun e W' => ∃ v ss, e = .returned v ∧ ss.Perm ks ∧ W'.ownsRow w.heap.size 25 32 v ss.length (stkC ss) ∧ (v = .slice none 0 0 ↔ ss = []) ∧ Below w.heap.size w W' := by
 obtain ⟨i0, hi, hz0, hz1, hz2⟩ := info_parts infoW
 have h1 : 1 ≤ n := by omega
 refine callsIn_of_wp_marks Tryz.func273 rfl hF ?_ hro
 try simp only [Tryz.ntmps273, List.size_toArray, List.length_cons, List.length_nil, Nat.reduceAdd, Nat.reduceSub, Array.replicate_succ, Array.replicate_zero, List.push_toArray, List.append_toArray, List.nil_append, List.cons_append]
 gi_wp2
 obtain ⟨W0, hW0⟩ : ∃ W0, w.alloc (.cells #[.slice none 0 0] 56) = W0 := ⟨_, rfl⟩
 have hsz : W0.heap.size = w.heap.size + 1 := by rw [← hW0]; simp
 have hB0 : Boxed W0 w.heap.size 56 (.slice none 0 0) := by rw [← hW0]; exact Boxed.new _ _ _
 have hBW : Below w.heap.size w W0 := by rw [← hW0]; exact (Below.refl _ w).alloc (Nat.le_refl _) _
 rw [hW0]
 have hO1 : OwnFrom W0.heap.size (fun (pre : List Nat) W => ∃ v, Boxed W w.heap.size 56 v ∧ W.ownsRow w.heap.size 25 32 v pre.length (stkC pre) ∧ (v = .slice none 0 0 ↔ pre = [])) :=
  _root_.Go.Own.from (holdsRow_own (β := List Nat) w.heap.size w.heap.size 56 25 32 (fun pre => pre.length) stkC (fun pre v => v = .slice none 0 0 ↔ pre = [])) _
 have hO2 : OwnFrom W0.heap.size (fun (_ : List Nat) W => Below w.heap.size w W) := ownFrom_below (Nat.le_refl _) (by rw [hsz]; omega)
 have hOI := OwnFrom.and hO1 hO2
 refine wpIn_rangeFunc_ownH hro h1 (gf := 188) (lb := #[.pointer (some ⟨Bm, 0, none⟩)]) rfl hG (enters_of Tryz.func188 (by kernel_rfl) rfl)
  (hseq W0 hBW) walksK_t walksK_b (Below.refl _ _) (fun _ => rfl)
  (fun pre W => (∃ v, Boxed W w.heap.size 56 v ∧ W.ownsRow w.heap.size 25 32 v pre.length (stkC pre) ∧ (v = .slice none 0 0 ↔ pre = [])) ∧ Below w.heap.size w W)
  (fun _ _ _ => False)
  hOI
  (fun _ _ _ _ _ h _ _ => h)
  ⟨⟨_, hB0, World.ownsRow_nil _ _ _ _, by simp⟩, hBW⟩
  (fun x a' W => ∃ Bx, w.heap.size < Bx ∧ W.row? Bx 0 32 = some (beC 32 x) ∧ a' = { tmps := #[.slice none 0 0, .func (.func 188) #[] #[.pointer (some ⟨Bm, 0, none⟩)], .pointer (some ⟨w.heap.size, 0, none⟩), undef, .slice none 0 0, .pointer (some ⟨Bx, 0, none⟩), .func (.func 188) #[] #[.pointer (some ⟨Bm, 0, none⟩)], wdV x, undef, undef, undef, undef, undef], defers := [] })
  (fun x a' s X Y row h hg hr => by
   obtain ⟨Bx, hB, hrow, e⟩ := h
   exact ⟨Bx, hB, row_own Bx 32 _ () X Y row hrow hg (fun r e => (hr r e).2), e⟩) ?assign ?body ?done ?stop
 case assign =>
  rintro l pre x W K ⟨⟨v, hv, hrow, hnil⟩, hB⟩ hK
  have hf2 : (W.alloc (.cells (zU8 32).toArray 25)).free? W.heap.size 0 32 = true := World.free?_alloc_at _ _ rfl (by simp [zU8_len])
  have hok := beC_ok 32 x
  have hlen := okL_len hok
  have hr3 : ((W.alloc (.cells (zU8 32).toArray 25)).setCells W.heap.size 0 (beC 32 x)).row? W.heap.size 0 32 = some (beC 32 x) := by
   rw [World.row?_setCells_lay 0 (beC 32 x) (Nat.le_refl _) (by rw [hlen]; exact Nat.le_refl _), World.row?_alloc_at _ _ _ rfl (zU8_len 32)]
   show some (lay (zU8 32) 0 (beC 32 x)) = _
   rw [lay_all _ _ (by rw [hlen, zU8_len])]
  have hb3 : Below W.heap.size W ((W.alloc (.cells (zU8 32).toArray 25)).setCells W.heap.size 0 (beC 32 x)) := ((Below.refl _ W).alloc (Nat.le_refl _) _).setCells (Nat.le_refl _) _ _
  simp only [wdV_eq] at hK ⊢
  gi_wp2
  refine hK _ _ ((Below.keepsOthers hb3).from _) (Below.keepsWalks hb3) ⟨⟨v, ?_, ?_, hnil⟩, ?_⟩ ⟨_, ?_, hr3, rfl⟩
  ·exact Boxed.kept hv (Below.asGrown hb3) (by simp)
  ·exact hrow.kept (Below.asGrown hb3) (by cases v.ownBlock <;> simp)
  ·exact hB.trans (hb3.mono hB.size)
  ·exact Nat.lt_of_lt_of_le hv.lt (Nat.le_refl _)
 case body =>
  rintro l pre x a' W hl _ ⟨⟨v, hv, hrow, hnil⟩, hB⟩ ⟨Bx, hBx, hrx, rfl⟩ hlt
  have hvc := hv.cell
  have hok := beC_ok 32 x
  have hlen := okL_len hok
  have hsW := hB.size
  gi_wp2_with (gi_at_builtin; go_must (refine wpListIn_append_own _ rfl _ _ 56 rfl w.heap.size 25 i0 _ 32 32 Tryz.underlying56 hi hz0 hz1 hz2 (by simp [Value.cells, zU8_len]) (by decide) _ _ _ rfl (hrow.alloc _) ⟨W.heap.size, 0, none⟩ 1 1 (beC 32 x) rfl (by rw [hlen]) (cell_row_new _ _ _) (okL_mem hok) (by unfold maxLen; omega) (by omega) (by simp; omega) ?_); intro v' w1 hown' hgrow _; obtain ⟨g', cap', rfl⟩ := ownsRow_succ hown'; obtain ⟨hv1, hv2, hr2, hk2, hb2⟩ := hv.appended (by decide) hrow hB.size (Nat.le_refl _) hown' hgrow; have hc1 := hv1.cell; have hf1 := Boxed.free hv1)
  refine ⟨hk2.from _, hk2.walks, ⟨⟨_, hv2, ?_, ?_⟩, ?_⟩⟩
  ·rw [stkC_snoc]; simpa using hr2
  ·simp
  ·exact hB.trans hb2
 case done =>
  rintro D xs W hD hp ⟨⟨v, hv, hrow, hnil⟩, hB⟩ hK
  have hvc := hv.cell
  gi_wp2
  refine ⟨by simp, .inl ⟨_, _, rfl, run_takeDeferred hK, ?_⟩⟩
  refine ⟨_, results_tmp rfl _ _ _, v, xs, rfl, hp, ownsRow_putObj hrow _ hK rfl, hnil, hB.trans (belowK_b (w := w) (Nat.le_refl _) W D _ _ (by omega) hK rfl rfl)⟩
 case stop =>
  rintro D c pre W hD _ h _
  exact h.elim
end Go.Proofs.YtfflppedbopdpaaGreat
namespace Go.Proofs.YtfflppedbopdpaaGreat
open Go.RowKit Go.Mun Go.Maps Go.Shelf
theorem collect118 (F : Fence) (n : Nat) (hF0 : F.fn 186) (hF : F.fn 273) (hG : F.fn 188) (hro : F.round = none) (hn : 4 ≤ n) (Bm : Nat) (ks : List Nat) (w : World) (hN : ks.length ≤ 4000000)
  (hseq : ∀ w' : World, Below w.heap.size w w' → SeqStopsK F (n - 1 - 1) Tryz.prog 188 #[.pointer (some ⟨Bm, 0, none⟩)] (fun a : Nat => #[wdV a]) KeepsWalks (fun ss => ss.Perm ks) (fun _ => True) ks.length w') :
  CallsIn F n Tryz.prog 186 #[.func (.func 188) #[] #[.pointer (some ⟨Bm, 0, none⟩)]] w fun e W' => ∃ v ss, e = .returned v ∧ ss.Perm ks ∧ W'.ownsRow w.heap.size 25 32 v ss.length (stkC ss) ∧ (v = .slice none 0 0 ↔ ss = []) ∧ Below w.heap.size w W' := by
 refine callsIn_of_wp Tryz.func186 rfl hF0 ?_ hro
 have hap := appendSeq215 F (n - 1) hF hG hro (by omega) Bm ks w hN hseq
 clear hseq
 have h1 : 1 ≤ n := by omega
 simp only [Tryz.ntmps186, List.size_toArray, List.length_cons, List.length_nil, Nat.reduceAdd, Nat.reduceSub, Array.replicate_succ, Array.replicate_zero, List.push_toArray, List.append_toArray, List.nil_append, List.cons_append]
 gi_wp2_with (gi_at_call 273; refine hap.mono ?_; rintro e w' ⟨v, ss, rfl, hp, hrow, hnil, hB⟩)
 go_ret
 exact ⟨v, ss, rfl, hp, hrow, hnil, hB⟩
theorem collect_plainW (Bm b nn : Nat) (D : DataW Unit) (ks : List Nat) (w : World) (hks : ∀ a ∈ ks, a < wW) (hd : ks.Nodup) (hN : ks.length ≤ 4000000) (hsz : Maps.size D = ks.length)
  (h1 : ∀ kl, Maps.has D kl = true → ∃ a ∈ ks, keyOf Tryz.prog 25 (wdV a) = some kl) (h2 : ∀ a ∈ ks, ∀ kl, keyOf Tryz.prog 25 (wdV a) = some kl → Maps.has D kl = true)
  (hBm : Bm < w.heap.size) (hm : w.cell? ⟨Bm, 0, none⟩ = some (.map (some b))) (hown : w.ownsMap Tryz.prog 25 R0 b nn D) :
  Calls Tryz.prog 186 #[.func (.func 188) #[] #[.pointer (some ⟨Bm, 0, none⟩)]] w fun e W' => ∃ v ss, e = .returned v ∧ ss.Perm ks ∧ W'.ownsRow w.heap.size 25 32 v ss.length (stkC ss) ∧ (v = .slice none 0 0 ↔ ss = []) ∧ Below w.heap.size w W' := by
 refine (callsIn_wide (n := 4)).1 (collect118 Fence.wide 4 trivial trivial trivial rfl (by omega) Bm ks w hN fun w' hb => ?_)
 refine keys120 Fence.wide 2 trivial rfl (by omega) Bm b nn D ks w' hks hd hsz h1 h2 (Nat.lt_of_lt_of_le hBm hb.size) ((hb.cell (p := ⟨Bm, 0, none⟩) hBm).trans hm) ?_
 have hbl := hown.lt
 obtain ⟨es, clock, hbk, Ft, hs, hD⟩ := hown
 exact ⟨es, clock, (hb.block b hbl).trans hbk, Ft, hs, hD⟩
theorem maps_KeysW (m : Value) (w : World) (hm : m.oneCell' = true) : Calls Tryz.prog 80 #[m] w fun e w' => e = .returned (.func (.func 188) #[] #[.pointer (some ⟨w.heap.size, 0, none⟩)]) ∧ w' = w.alloc (.cells #[m] 84) := by
 go_enter Tryz.func80, Tryz.ntmps80
 go_wp2
 go_ret
 exact ⟨rfl, rfl⟩
end Go.Proofs.YtfflppedbopdpaaGreat
