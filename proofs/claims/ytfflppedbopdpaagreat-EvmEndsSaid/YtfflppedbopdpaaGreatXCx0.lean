/-
  Boxes that stay: rows of blocks that are free to be written.
  Boxes that stay, and the program's state beside them.
  The state behind an account's end: its place in the map is another block's.
  The program's state: Kill.
  The reference's state in plain words: accounts by rising address.
  Bytes compared: the order of the numbers that they are.
  The zero account, built; slices of accounts.
  How the reference's state lies in memory.
  The comparison of two addresses as bytes.
  A range over a map whose keys are numbers: what has come and what is to come.
  The iterator over the keys of a map of accounts.
  slices.AppendSeq, slices.Collect over the keys of a map of accounts.
  The comparison of two addresses, as Accounts hands it to SortedFunc.
  Parts of the reference's array of accounts.
-/
import Derived.Test.YtfflppedbopdpaaGreatXWrd4
import Derived.Test.YtfflppedbopdpaaGreatXNw1
import Derived.Test.YtfflppedbopdpaaGreatXEv16
import Derived.Lib.Bytealg
import Derived.Sort.Statements
import Derived.Test.YtfflppedbopdpaaGreatXRef1
import Derived.Test.YtfflppedbopdpaaGreatXEv1
import Derived.Test.YtfflppedbopdpaaGreatXTy3
import Derived.Test.YtfflppedbopdpaaGreatXSeq
import Derived.Sort.Grow
import Derived.Test.YtfflppedbopdpaaGreatXMap
import Derived.Sort.MapsRangeIn
import Derived.RangeFuncSeq
import Derived.Test.YtfflppedbopdpaaGreatXTy
import Derived.Test.YtfflppedbopdpaaGreatXPlain
import Derived.RangeFuncNested
import Derived.RangeFuncBound
import Derived.RangeFuncCalls
import Derived.RangeFuncLeaves
import Derived.Shelf.Abstract
import Derived.Shelf.RegionOpen
import Derived.WalkKit
import Derived.OwnWalkIn
import Derived.TacticsInMore
import Derived.LoopNIn
import Derived.LoopIn
import Derived.Maps.AppendAt
import Derived.Shelf.SlSortCmp.InsertionK
set_option linter.unusedVariables false
set_option maxRecDepth 1000000
set_option maxHeartbeats 8000000
set_option linter.unusedSimpArgs false
namespace Go.Mun
open Go.RowKit

structure Kep (w : World) (rs : List (Nat × Nat × List Value)) (W : World) : Prop where
 below : Below w.heap.size w W
 row : ∀ r ∈ rs, W.row? r.1 0 r.2.1 = some r.2.2
 free : ∀ r ∈ rs, W.free? r.1 0 r.2.1 = true
theorem free?_ltK {w : World} {b o n : Nat} (h : w.free? b o n = true) : b < w.heap.size := by
 unfold World.free? at h
 cases e : w.heap[b]? with
 | none => rw [e] at h; cases h
 | some x => exact (Array.getElem?_eq_some_iff.1 e).1
section
variable {w W W' : World} {rs : List (Nat × Nat × List Value)}
theorem Kep.start (w : World) : Kep w [] w := ⟨Below.refl _ _, fun _ h => (by cases h), fun _ h => (by cases h)⟩
theorem Kep.lt (h : Kep w rs W) : ∀ x ∈ rs, x.1 < W.heap.size := fun x hx => World.row?_lt (h.row x hx)
theorem Kep.get (h : Kep w rs W) {b n : Nat} {L : List Value} (hm : (b, n, L) ∈ rs) : W.row? b 0 n = some L := h.row _ hm
theorem Kep.fr (h : Kep w rs W) {b n : Nat} {L : List Value} (hm : (b, n, L) ∈ rs) : W.free? b 0 n = true := h.free _ hm
theorem Kep.next (h : Kep w rs W) (hb : Below W.heap.size W W') : Kep w rs W' :=
 ⟨h.below.trans (hb.mono h.below.size), fun x hx => ((brow hb).1 _ _ _ (h.lt x hx)).trans (h.row x hx), fun x hx => ((brow hb).2 _ _ _ (free?_ltK (h.free x hx))).trans (h.free x hx)⟩
theorem Kep.only {r : Nat} (h : Kep w rs W) (ho : Only (fun b => b = r) W W') (hr : ∀ x ∈ rs, x.1 < r) (hw : w.heap.size ≤ r) : Kep w rs W' :=
 ⟨h.below.trans (ho.below h.below.size (fun i hi => by have e : i = r := hi; omega)),
  fun x hx => (ho.row? (h.lt x hx) (by have := hr x hx; show ¬ x.1 = r; omega)).trans (h.row x hx),
  fun x hx => (ho.free? (h.lt x hx) (by have := hr x hx; show ¬ x.1 = r; omega)).trans (h.free x hx)⟩
theorem Kep.add (h : Kep w rs W) {b n : Nat} {L : List Value} (hr : W.row? b 0 n = some L) (hf : W.free? b 0 n = true) : Kep w ((b, n, L) :: rs) W :=
 ⟨h.below, fun x hx => (List.mem_cons.1 hx).elim (fun e => by rw [e]; exact hr) (h.row x), fun x hx => (List.mem_cons.1 hx).elim (fun e => by rw [e]; exact hf) (h.free x)⟩
theorem Kep.sub {rs' : List (Nat × Nat × List Value)} (h : Kep w rs W) (hs : ∀ x ∈ rs', x ∈ rs) : Kep w rs' W := ⟨h.below, fun x hx => h.row x (hs x hx), fun x hx => h.free x (hs x hx)⟩
end
end Go.Mun
namespace Go.Proofs.YtfflppedbopdpaaGreat
open Go.RowKit Go.Mun

structure Kst (w : World) (rs : List (Nat × Nat × List Value)) (own : Go.Mun.Own) (sb : Nat) (S : St) (n : Nat) (W : World) : Prop extends Kep w rs W where
 st : StateAt TU W own sb S [] n
 out : ∀ x ∈ rs, own x.1 = none
section
variable {w W W' : World} {rs : List (Nat × Nat × List Value)} {own : Go.Mun.Own} {sb n : Nat} {S : St}
theorem Kst.next (h : Kst w rs own sb S n W) (hb : Below W.heap.size W W') : Kst w rs own sb S n W' := ⟨h.toKep.next hb, h.st.below hb, h.out⟩
theorem box_free (W : World) (Z : List Value) (ty k : Nat) (hz : Z.length = k) : (W.alloc (.cells Z.toArray ty)).free? W.heap.size 0 k = true := World.free?_alloc_at _ _ rfl (by omega)
theorem Kst.box (h : Kst w rs own sb S n W) {k : Nat} (ty : Nat) (Z C : List Value) (hz : Z.length = k) (hC : okL k C = true) : Kst w ((W.heap.size, k, C) :: rs) own sb S n ((W.alloc (.cells Z.toArray ty)).setCells W.heap.size 0 C) := by
 have hf := box_free W Z ty k hz
 have hb : Below W.heap.size W ((W.alloc (.cells Z.toArray ty)).setCells W.heap.size 0 C) := ((Below.refl _ _).alloc (Nat.le_refl _) _).setCells (Nat.le_refl _) _ _
 have h2 := h.next hb
 exact ⟨h2.toKep.add (row?_setCells_whole C hf hC) (by rw [World.free?_setCells']; exact hf), h2.st, fun x hx => (List.mem_cons.1 hx).elim (fun e => by rw [e]; exact free_own h.st.lows (Nat.le_refl _)) (h2.out x)⟩
theorem Kst.set {b k : Nat} {L : List Value} (h : Kst w ((b, k, L) :: rs) own sb S n W) (C : List Value) (hC : okL k C = true) (hb : w.heap.size ≤ b) (hr : ∀ x ∈ rs, x.1 ≠ b) : Kst w ((b, k, C) :: rs) own sb S n (W.setCells b 0 C) := by
 have hf := h.fr (b := b) (n := k) (L := L) (by simp)
 have ho : Only (fun x => x = b) W (W.setCells b 0 C) := Only.setCells (S := fun x => x = b) (Only.refl _ _) (fun _ => rfl) _ _
 have hob : own b = none := h.out (b, k, L) (by simp)
 refine ⟨⟨h.below.trans (ho.below h.below.size (fun i hi => by have e : i = b := hi; omega)), fun x hx => ?_, fun x hx => ?_⟩, h.st.only ho (fun x hx => by rw [hx]; exact hob), fun x hx => ?_⟩
 ·rcases List.mem_cons.1 hx with rfl | hx
  ·exact row?_setCells_whole C hf hC
  ·exact (ho.row? (h.lt x (List.mem_cons_of_mem _ hx)) (hr x hx)).trans (h.row x (List.mem_cons_of_mem _ hx))
 ·rcases List.mem_cons.1 hx with rfl | hx
  ·rw [World.free?_setCells']; exact hf
  ·exact (ho.free? (h.lt x (List.mem_cons_of_mem _ hx)) (hr x hx)).trans (h.free x (List.mem_cons_of_mem _ hx))
 ·rcases List.mem_cons.1 hx with rfl | hx
  ·exact hob
  ·exact h.out x (List.mem_cons_of_mem _ hx)
end
end Go.Proofs.YtfflppedbopdpaaGreat
namespace Go.Mun
open Go.RowKit

theorem sta_swap {T : UTy} {w w2 : World} {own own2 : Own} {sb mb : Nat} {uv mv : Value} {last : Nat} {E : List (Nat × Nat)} {U : List Und} {mk : List (Nat × Nat)} {S : St} {a p2 : Nat} {x : Acc} (h : StaCore T w own sb mb uv mv last E U mk S)
  (hm : MapAt adV wA ptV w2 mb (putA a p2 E)) (ho : Only (fun b => b = mb) w w2) (hle : own.le own2) (hlow : ∀ b, own2 b ≠ none → b < w2.heap.size) (hacc : AccAt w2 own2 p2 x) : StaCore T w2 own2 sb mb uv mv last (putA a p2 E) U mk (upd S a x) := by
 have hB : ∀ b, b = mb → own b = none ∨ own b = some .st ∨ own b = some .undos ∨ own b = some .marks ∨ own b = some .amap := fun b hb => by rw [hb, h.mlab]; simp
 have hno : ∀ {b : Nat} {l : Lab}, own b = some l → l ≠ .amap → ¬ b = mb := fun hb hl e => by rw [e, h.mlab] at hb; cases hb; exact hl rfl
 have hlt := World.row?_lt h.row
 have hsm := hno h.lab (by simp)
 exact {
  lab := hle _ _ h.lab
  row := by rw [ho.row? hlt hsm]; exact h.row
  free := by rw [ho.free? hlt hsm]; exact h.free
  mlab := hle _ _ h.mlab
  map := hm
  acc := fun p hp => by
   by_cases e : p.1 = a
   ·have h1 : getA a (putA a p2 E) = some p.2 := by
     obtain ⟨j, hj⟩ := List.mem_iff_getElem?.1 hp
     exact getA_at hm.nodup (by rw [hj, ← e])
    rw [getA_put, if_pos rfl] at h1
    cases h1
    rw [e, upd_same]
    exact hacc
   ·rw [upd_other _ _ e]
    rcases mem_putA hp with rfl | hp2
    ·exact absurd rfl e
    ·exact ((h.acc p hp2).but ho hB).le hle
  out := fun b hb => by
   rw [getA_put] at hb
   split at hb
   ·cases hb
   ·rename_i e
    rw [upd_other _ _ e]
    exact h.out b hb
  urow := Only.own h.urow ho fun g hg => hno (h.ulab g hg) (by simp)
  ulab := fun g hg => hle _ _ (h.ulab g hg)
  und := fun u hu => ((h.und u hu).but ho hB).le hle
  mrow := Only.own h.mrow ho fun g hg => hno (h.mklab g hg) (by simp)
  mklab := fun g hg => hle _ _ (h.mklab g hg)
  mks := h.mks
  mkle := h.mkle
  low := hlow }
theorem putA_perm {a q p2 : Nat} : ∀ {E : List (Nat × Nat)}, getA a E = some q → ((putA a p2 E).map Prod.snd ++ [q]).Perm (p2 :: E.map Prod.snd)
 | [], h => by simp [getA] at h
 | (b, y) :: l, h => by
  simp only [getA] at h
  by_cases e : b = a
  ·rw [if_pos e] at h
   cases h
   simp only [putA, if_pos e, List.map_cons, List.cons_append]
   exact List.Perm.cons _ (List.perm_append_singleton _ _)
  ·rw [if_neg e] at h
   simp only [putA, if_neg e, List.map_cons, List.cons_append]
   exact ((putA_perm h).cons y).trans (List.Perm.swap _ _ _)
theorem sta_kill {T : UTy} {w w2 : World} {own own2 : Own} {sb mb : Nat} {uv uv2 mv : Value} {last : Nat} {E E' : List (Nat × Nat)} {U : List Und} {mk : List (Nat × Nat)} {S : St} {M : List (Nat × St)} {n p p2 a : Nat} {x : Option (Nat × Acc)} (h0 : StaAt T w own sb mb uv mv last E U mk S)
  (hM : M = mk.map fun m => (m.1, undoAll (U.take (U.length - m.2)) S)) (hn : last ≤ n ∧ U.length ≤ n ∧ mk.length ≤ n ∧ E.length ≤ n + 1000000) (hE : E' = E ∨ (getA a E = none ∧ E' = putA a p E ∧ w.heap.size ≤ p)) (hp : getA a E' = some p) (hx : x = (getA a E).map fun q => (q, S a))
  (hp2 : w.heap.size ≤ p2 ∧ p2 ≠ p) (h : StaCore T w2 own2 sb mb uv2 mv last (putA a p2 E') (pushU mk (.all a x) U) mk (upd S a Acc.none)) : StateAt T w2 own2 sb (upd S a Acc.none) M (n + 1) := by
 have hlt : ∀ q ∈ E.map Prod.snd ++ ptrsU U, q < w.heap.size := fun q hq => h0.low q (by rw [h0.ptr_lab q hq]; simp)
 have hkE : ∀ b, b ∈ E.map Prod.fst → b ∈ (putA a p2 E').map Prod.fst := fun b hb => by
  have hb' : b ∈ E'.map Prod.fst := by
   rcases hE with rfl | ⟨h1, rfl, _⟩
   ·exact hb
   ·rw [putA_new (getA_none_iff h1), List.map_append]; exact List.mem_append_left _ hb
  cases e : getA b (putA a p2 E') with
  | some v => exact List.mem_map.2 ⟨_, getA_mem e, rfl⟩
  | none =>
   rw [getA_put] at e
   split at e
   ·cases e
   ·obtain ⟨q, hq, rfl⟩ := List.mem_map.1 hb'
    exact absurd rfl (getA_none_iff e q hq)
 have ha : a ∈ (putA a p2 E').map Prod.fst := List.mem_map.2 ⟨_, getA_mem (show getA a (putA a p2 E') = some p2 by rw [getA_put, if_pos rfl]), rfl⟩
 have hKO : keysOk (fun b => b ∈ (putA a p2 E').map Prod.fst) (pushU mk (.all a x) U) := by
  unfold pushU; split
  ·exact keysOk_mono U hkE h0.keys
  ·cases hg : getA a E with
   | none =>
    rw [hg] at hx
    subst hx
    refine ⟨ha, keysOk_mono U (fun c hc => ⟨hkE c hc, fun e => ?_⟩) h0.keys⟩
    obtain ⟨q, hq, rfl⟩ := List.mem_map.1 hc
    exact getA_none_iff hg q hq e
   | some q =>
    rw [hg] at hx
    subst hx
    exact ⟨ha, keysOk_mono U hkE h0.keys⟩
 have hperm := putA_perm (p2 := p2) hp
 have hND : ((putA a p2 E').map Prod.snd ++ ptrsU (pushU mk (.all a x) U)).Nodup := by
  have hbig : (((putA a p2 E').map Prod.snd ++ [p]) ++ ptrsU U).Nodup := by
   refine ((hperm.append_right (ptrsU U)).nodup_iff).2 ?_
   show (p2 :: (E'.map Prod.snd ++ ptrsU U)).Nodup
   refine List.nodup_cons.2 ⟨fun hm => ?_, grown_nodup h0.nodup hlt hE getA_none_iff⟩
   rcases hE with rfl | ⟨h1, rfl, _⟩
   ·have := hlt p2 hm; omega
   ·rw [putA_new (getA_none_iff h1), List.map_append] at hm
    simp only [List.map_cons, List.map_nil, List.append_assoc, List.mem_append, List.mem_cons, List.not_mem_nil, or_false] at hm
    rcases hm with hm | hm | hm
    ·have := hlt p2 (List.mem_append_left _ hm); omega
    ·exact hp2.2 hm
    ·have := hlt p2 (List.mem_append_right _ hm); omega
  have hsmall : ((putA a p2 E').map Prod.snd ++ ptrsU U).Nodup := hbig.sublist (List.Sublist.append_right (List.sublist_append_left _ _) _)
  unfold pushU
  split
  ·exact hsmall
  ·cases hg : getA a E with
   | none =>
    rw [hg] at hx
    subst hx
    exact hsmall
   | some q =>
    have hEE : E' = E := by
     rcases hE with h1 | ⟨h1, _⟩
     ·exact h1
     ·rw [hg] at h1; cases h1
    have hqp : q = p := by rw [hEE, hg] at hp; exact Option.some.inj hp
    rw [hg] at hx
    subst hx
    subst hqp
    show ((putA a p2 E').map Prod.snd ++ (q :: ptrsU U)).Nodup
    have := hbig
    rw [List.append_assoc] at this
    exact this
 have hb : undo1 (upd S a Acc.none) (.all a x) = S := by
  cases hg : getA a E with
  | none =>
   rw [hg] at hx
   subst hx
   show upd (upd S a Acc.none) a Acc.none = S
   rw [upd_upd, ← h0.out a hg, upd_self]
  | some q =>
   rw [hg] at hx
   subst hx
   show upd (upd S a Acc.none) a (S a) = S
   rw [upd_upd, upd_self]
 have hlen : (putA a p2 E').length ≤ n + 1 + 1000000 := by
  have e1 := hperm.length_eq
  simp only [List.length_append, List.length_map, List.length_cons, List.length_nil] at e1
  rcases hE with rfl | ⟨h1, rfl, _⟩
  ·omega
  ·have e2 : (putA a p E).length = E.length + 1 := by rw [putA_new (getA_none_iff h1), List.length_append, List.length_singleton]
   omega
 refine ⟨mb, uv2, mv, last, putA a p2 E', pushU mk (.all a x) U, mk, ⟨h, hKO, hND⟩, ?_, by omega, ?_, by omega, hlen⟩
 ·rw [hM]
  by_cases hmk : mk = []
  ·rw [hmk]; rfl
  ·refine List.map_congr_left fun m hm => ?_
   unfold pushU
   rw [if_neg hmk, undoAll_cons _ U _ (h0.mkle m hm).2, hb]
 ·unfold pushU; split
  ·omega
  ·rw [List.length_cons]; omega
end Go.Mun
namespace Go.Mun
open Go.RowKit
theorem sta_swapnew {T : UTy} {w w1 : World} {own : Own} {sb mb : Nat} {uv mv : Value} {last : Nat} {E : List (Nat × Nat)} {U : List Und} {mk : List (Nat × Nat)} {S : St} {t2 : TypeId} (h : StaCore T w own sb mb uv mv last E U mk S) (a : Nat)
  (hm : MapAt adV wA ptV w1 mb (putA a (w.heap.size + 1) E)) (ho : Only (· = mb) ((w.alloc (.map #[] 0)).alloc (.cells (accC 0 0 (.slice none 0 0) (.map (some w.heap.size))).toArray t2)) w1) :
  ∃ own', StaCore T w1 own' sb mb uv mv last (putA a (w.heap.size + 1) E) U mk (upd S a Acc.none) ∧ Chg w w1 own own' := by
 have hlow : ∀ b l, own b = some l → b < w.heap.size := fun b l hb => h.low b (by rw [hb]; simp)
 have ho1 : Only (· = mb) w w1 := (((Only.refl _ _).alloc _).alloc _).trans ho (fun i hi _ => hi)
 have hsz : w.heap.size + 2 ≤ w1.heap.size := by have := ho.size; simp at this; omega
 obtain ⟨own', hown⟩ : ∃ own' : Own, own' = fun b => if b = w.heap.size + 1 then some .acc else if b = w.heap.size then some (.smap (w.heap.size + 1)) else own b := ⟨_, rfl⟩
 have hext : ∀ b, b < w.heap.size → own' b = own b := by
  intro b hb
  rw [hown]
  show (if b = w.heap.size + 1 then some Lab.acc else if b = w.heap.size then some (.smap (w.heap.size + 1)) else own b) = own b
  rw [if_neg (by omega), if_neg (by omega)]
 have hle : own.le own' := fun b l hb => by rw [hext b (hlow b l hb)]; exact hb
 have hmb := hlow _ _ h.mlab
 have hacc : AccAt w1 own' (w.heap.size + 1) Acc.none := by
  have hne : ¬ w.heap.size + 1 = mb := by omega
  have hne2 : ¬ w.heap.size = mb := by omega
  refine ⟨by simp [hown], ?_, ⟨.slice none 0 0, w.heap.size, [], ?_, ⟨⟨none, 0, rfl, ⟨fun h => absurd rfl h, fun _ => rfl, Nat.le_refl _, Nat.zero_le _⟩, fun _ p hp => by cases hp⟩, fun x hx => by simp [Acc.none] at hx, Nat.zero_le _⟩, by simp [hown], ?_, ⟨fun k => rfl, fun p hp => by cases hp⟩⟩, Nat.zero_le _, by show 0 < wW; decide⟩
  ·rw [ho.free? (by simp) hne]; exact World.free?_alloc_at _ _ (by simp) (by rw [accC_len]; omega)
  ·rw [ho.row? (by simp) hne]; exact World.row?_alloc_at _ _ _ (by simp) (accC_len _ _ _ _)
  ·exact ((MapAt.new w wdV wW wdV).below ((Below.refl _ _).alloc (Nat.le_refl _) _)).only ho hne2
 refine ⟨own', sta_swap h hm ho1 hle (fun b hb => ?_) hacc, ⟨hext, ho1.mono fun b hb => by rw [hb, h.mlab]; simp⟩⟩
 rw [hown] at hb
 have hb : (if b = w.heap.size + 1 then some Lab.acc else if b = w.heap.size then some (.smap (w.heap.size + 1)) else own b) ≠ none := hb
 split at hb
 ·omega
 ·split at hb
  ·omega
  ·have := h.low b hb; omega
end Go.Mun
namespace Go.Proofs.YtfflppedbopdpaaGreat
open Go.RowKit Go.Mun

theorem st_kill {w : World} {own : Go.Mun.Own} {sb : Nat} {S : St} {M : List (Nat × St)} {n : Nat} (h : StateAt TU w own sb S M n) (a : Nat) (ha : a < wA) (hn : n ≤ 1099511627776) :
  Calls Tryz.prog 235 #[.pointer (some ⟨sb, 0, none⟩), .agg (beC 20 a).toArray] w fun e w' => e = .returned (.tuple #[]) ∧ ∃ own', StateAt TU w' own' sb (upd S a Acc.none) M (n + 1) ∧ Chg w w' own own' := by
 obtain ⟨mb, uv, mv, last, E, U, mk, s, hM, hb1, hb2, hb3⟩ := h
 have hl0 : (beC 20 a).length = 20 := by simp
 obtain ⟨w0, e0⟩ : ∃ w0, w0 = w.alloc (.cells (beC 20 a).toArray 23) := ⟨_, rfl⟩
 have b0 : Below w.heap.size w w0 := by rw [e0]; exact (Below.refl _ _).alloc (Nat.le_refl _) _
 have r0 : w0.row? w.heap.size 0 20 = some (beC 20 a) := by rw [e0]; exact World.row?_alloc_at _ _ _ rfl hl0
 have hnl : w.heap.size < w0.heap.size := World.row?_lt r0
 have s0 : StaAt TU w0.drew own sb mb uv mv last E U mk S := s.only (R := fun _ => False) (Only.of_below_size b0.drew) (fun _ h => h.elim)
 have HOW := hid (free_own s.low (Nat.le_refl w.heap.size))
 have HE0 := hid e0
 have HB0 := hid b0
 have HS := hid s0
 have HM := hid hM
 have HN : Hid (last ≤ n ∧ U.length ≤ n ∧ mk.length ≤ n ∧ E.length ≤ n + 1000000) := ⟨hb1, hb2, hb3⟩
 obtain ⟨x, hx⟩ : ∃ x : Option (Nat × Acc), x = (getA a E).map fun q => (q, S a) := ⟨_, rfl⟩
 have HX := hid hx
 have HOK : Hid (UndOk w0.drew own (.all a x)) := by
  show UndOk w0.drew own (.all a x)
  rw [hx]
  cases hg : getA a E with
  | none => exact ha
  | some q => exact ⟨ha, s0.acc (a, q) (getA_mem hg)⟩
 have HLK : Hid (∀ W, MapAt adV wA ptV W mb E → (Instr.lookup 90 (.map (some mb)) (.agg (beC 20 a).toArray) false).run Tryz.prog W = .ok (ptrO x) W) := by
  intro W hmp
  have l1 := hmp.look keyA Tryz.underlying90 (zero82 _) ha
  rw [hx]
  cases hg : getA a E with
  | none => rw [hg] at l1; exact l1
  | some q => rw [hg] at l1; exact l1
 have hlay := lay2 z263 (beC 20 0) (beC 20 a) [Value.pointer none] [ptrO x] 20 rfl (by simp) (by simp) (by simp)
 have hp1 : (ptrO x).oneCell' = true := by cases x <;> rfl
 have hU := undV_one TU (.all a x)
 have HUV : Hid (undV TU (.all a x) = .iface 290 (.agg (beC 20 a ++ [ptrO x]).toArray)) := rfl
 have s0d := s0
 have r0d : w0.drew.row? w.heap.size 0 20 = some (beC 20 a) := r0
 clear s hM hb1 hb2 hb3 e0 b0 s0 hx
 obtain ⟨pv, hpx⟩ : ∃ pv, ptrO x = .pointer pv := by rcases x with _ | ⟨_, _⟩ <;> exact ⟨_, rfl⟩
 rw [hpx] at hlay hp1 HUV HLK
 clear hpx
 go_enter Tryz.func235, Tryz.ntmps235
 go_wp2_with fail
 rw [← HE0.out]
 have q0 := s0d.cells.1
 have q1 := r0d
 have q3 := HLK.out _ s0d.map
 clear s0d r0d
 go_still_tail 11, (by kernel_rfl)
 go_wp2_with fail
 rw [← HUV.out]
 refine (st_change HS.out.toStaCore a ha (.all a x) HOK.out (by have := HN.out; omega)).mono ?_
 rintro e w2 ⟨p, uv2, E2, own2, rfl, s2, hp, hac, hE, g2⟩
 have HS2 := hid s2
 have HP2 := hid hp
 have HEE := hid hE
 have HG2 := hid g2
 have HPL := hid hac.lab
 clear s2 hp hE g2 hac q3 q0
 have HR2 : Hid (w2.row? w.heap.size 0 20 = some (beC 20 a)) := box_kept q1 HOW.out HG2.out
 clear q1 hlay hp1 hU
 go_wp2_with fail
 have d0 : w2.drew.cell? ⟨sb, 0, none⟩ = some (.map (some mb)) := HS2.out.cells.1
 have d1 : w2.drew.row? w.heap.size 0 20 = some (beC 20 a) := HR2.out
 generalize hw3 : w2.drew = w3 at *
 have o23 : Only (fun _ => False) w2 w3 := by rw [← hw3]; exact (Only.refl _ _).drew
 have HS3 : Hid (StaCore TU w3 own2 sb mb uv2 mv last E2 (pushU mk (.all a x) U) mk S) := HS2.out.only o23 (fun _ h => h.elim)
 have HG3 : Hid (Chg w w3 own own2) := ((Chg.below own HB0.out.drew).trans HG2.out).trans (Chg.below own2 (by rw [← hw3]; exact (Below.refl _ _).drew))
 have hsb3 : sb < w3.heap.size := HS3.out.low _ (by rw [HS3.out.lab]; simp)
 have hmb3 := HS3.out.map.lt
 have hnl3 : w.heap.size < w3.heap.size := World.row?_lt d1
 obtain ⟨T2, hT2⟩ : ∃ T : World → Prop, T = fun w' => w'.cell? ⟨sb, 0, none⟩ = some (.map (some mb)) ∧ w'.row? w.heap.size 0 20 = some (beC 20 a) := ⟨_, rfl⟩
 have HT2 := hid hT2
 have t0 : T2 w3 := by rw [hT2]; exact ⟨d0, d1⟩
 have tl : ∀ w', Below w3.heap.size w3 w' → T2 w' := by
  intro w' hb
  rw [hT2]
  exact ⟨(hb.cell (p := ⟨sb, 0, none⟩) hsb3).trans d0, ((brow hb).1 _ _ _ hnl3).trans d1⟩
 have t1 := tl _ ((Below.refl _ _).alloc (Nat.le_refl _) (.map #[] 0))
 have t2 := tl _ (((Below.refl _ _).alloc (Nat.le_refl _) (.map #[] 0)).alloc (by simp) (.cells (accC 0 0 (.slice none 0 0) (.map (some w3.heap.size))).toArray 86))
 have hla := lay_accZ (.map (some w3.heap.size))
 have t0' : T2 w2.drew := by rw [hw3]; exact t0
 have HW3 := hid hw3
 clear hT2 tl hw3
 refine wp_region_seq T2 [0, 1, 2, 3, 4] [5, 6, 7, 8] (by kernel_rfl) (by kernel_rfl) t0' ?_
 rw [HW3.out]
 refine wpHoist_cons (.pointer (some ⟨sb, 0, none⟩)) rfl (by rfl) (fun w' hs => ?_) (fun _ _ _ h => h) ?_
 ·go_simp
 refine wpHoist_cons (.pointer (some ⟨sb, 0, none⟩)) rfl (by rfl) (fun w' hs => ?_) (fun _ _ _ h => h) ?_
 ·go_simp
 refine wpHoist_cons (.pointer (some ⟨sb, 0, none⟩)) rfl (by rfl) (fun w' hs => ?_) (fun _ _ _ h => h) ?_
 ·go_simp
 refine wpHoist_cons (.map (some mb)) rfl (by rfl) (fun w' hs => ?_) (fun _ _ _ h => h) ?_
 ·rw [HT2.out] at hs
  obtain ⟨s1, s2⟩ := hs
  go_simp
 refine wpHoist_cons (.agg (beC 20 a).toArray) rfl (by rfl) (fun w' hs => ?_) (fun _ _ _ h => h) ?_
 ·rw [HT2.out] at hs
  obtain ⟨s1, s2⟩ := hs
  go_simp
 refine wpHoist_nil ?_
 simp only [Act.put, tsa, tsb, tsc]
 have hmm := mkMap 84 w3
 refine wpSeq_cons rfl (fun K hK => ?_)
 go_simp
 refine hK.out _ _ t1 ?_
 clear hK K
 refine wpSeq_cons rfl (fun K hK => ?_)
 go_simp
 refine hK.out _ _ t1 ?_
 clear hK K
 refine wpSeq_cons rfl (fun K hK => ?_)
 go_simp
 refine hK.out _ _ t2 ?_
 clear hK K
 have hm3 := HS3.out.map.below (((Below.refl _ _).alloc (Nat.le_refl _) (.map #[] 0)).alloc (by simp) (.cells (accC 0 0 (.slice none 0 0) (.map (some w3.heap.size))).toArray 86))
 refine wpSeq_cons rfl (fun K hK => ?_)
 refine step_put rfl _ _ _ 90 rfl keyA Tryz.underlying90 hm3 rfl (n := a) rfl ha (w3.heap.size + 1) rfl ?_
 intro w4 hm4 ho4
 obtain ⟨own3, s4, g4⟩ := sta_swapnew (t2 := 86) HS3.out a hm4 ho4
 have hpl : p < w3.heap.size := HS3.out.low p (by rw [HPL.out]; simp)
 have hst := sta_kill HS.out HM.out HN.out HEE.out HP2.out HX.out (p2 := w3.heap.size + 1) ⟨by have := HG3.out.only.size; have := HB0.out.size; show w0.drew.heap.size ≤ _; have e : w0.drew.heap.size = w0.heap.size := rfl; have := HG2.out.only.size; have e2 : w2.drew.heap.size = w2.heap.size := rfl; rw [← HW3.out]; omega, by omega⟩ s4
 have HFIN : Hid (∃ own', StateAt TU w4 own' sb (upd S a Acc.none) M (n + 1) ∧ Chg w w4 own own') := ⟨own3, hst, HG3.out.trans g4⟩
 have hnm : ¬ sb = mb := fun e => by have := HS3.out.lab; rw [e, HS3.out.mlab] at this; cases this
 have hnw : ¬ w.heap.size = mb := fun e => by have h1 := HG3.out.ext mb; have h2 := HS.out.low mb (by rw [HS.out.mlab]; simp); have h3 := HOW.out; rw [e, HS.out.mlab] at h3; cases h3
 have t4 : T2 w4 := by
  rw [HT2.out] at t2 ⊢
  exact ⟨by rw [ho4.cell? (by simp; omega) hnm]; exact t2.1, by rw [ho4.row? (by simp; omega) hnw]; exact t2.2⟩
 clear s4 g4 hm4 ho4 hst
 refine hK.out _ _ t4 (wpSeq_nil ?_)
 clear hK K
 go_wp2
 go_end0
 exact ⟨rfl, HFIN.out⟩
end Go.Proofs.YtfflppedbopdpaaGreat
namespace Go.Mun
open Go.Proofs.YtfflppedbopdpaaGreat (Ac)

structure RAc where
 ac : Ac
 slots : List (Nat × Nat)
def RAc.new (a : Nat) : RAc := ⟨⟨a, 0, 0, []⟩, []⟩
def RAc.acc (x : RAc) : Acc := ⟨x.ac.nonce.toNat, x.ac.bal, x.ac.code, fun k => (getA k x.slots).getD 0⟩
def posR : List RAc → Nat → Nat
 | [], _ => 0
 | x :: R, a => if x.ac.addr < a then posR R a + 1 else 0
def hasR (R : List RAc) (a : Nat) : Prop := ∃ x, R[posR R a]? = some x ∧ x.ac.addr = a
def atR (R : List RAc) (a : Nat) : List RAc := R.take (posR R a) ++ RAc.new a :: R.drop (posR R a)
def Rising (R : List RAc) : Prop := (R.map fun x => x.ac.addr).Pairwise (· < ·)
def rst : List RAc → St
 | [], _ => Acc.none
 | x :: R, a => if x.ac.addr = a then x.acc else rst R a
theorem posR_le (R : List RAc) (a : Nat) : posR R a ≤ R.length := by
 induction R with
 | nil => exact Nat.le_refl _
 | cons x R ih => simp only [posR]; split <;> simp <;> omega
theorem posR_lt (R : List RAc) (a : Nat) : ∀ i, i < posR R a → ∃ x, R[i]? = some x ∧ x.ac.addr < a := by
 induction R with
 | nil => intro i hi; simp [posR] at hi
 | cons x R ih =>
  intro i hi
  simp only [posR] at hi
  split at hi
  ·cases i with
   | zero => exact ⟨x, rfl, by assumption⟩
   | succ i => exact ih i (by omega)
  ·omega
theorem posR_at (R : List RAc) (a : Nat) : ∀ x, R[posR R a]? = some x → a ≤ x.ac.addr := by
 induction R with
 | nil => intro x hx; simp at hx
 | cons y R ih =>
  intro x hx
  simp only [posR] at hx
  split at hx
  ·exact ih x (by simpa using hx)
  ·simp at hx; subst hx; omega
theorem rst_none {R : List RAc} {a : Nat} (h : ∀ x ∈ R, x.ac.addr ≠ a) : rst R a = Acc.none := by
 induction R with
 | nil => rfl
 | cons x R ih =>
  simp only [rst]
  rw [if_neg (h x (by simp))]
  exact ih fun y hy => h y (by simp [hy])
theorem rst_some {R : List RAc} (hr : Rising R) {i : Nat} {x : RAc} (h : R[i]? = some x) : rst R x.ac.addr = x.acc := by
 induction R generalizing i with
 | nil => simp at h
 | cons y R ih =>
  unfold Rising at hr
  rw [List.map_cons, List.pairwise_cons] at hr
  cases i with
  | zero => simp at h; subst h; simp [rst]
  | succ i =>
   have hx : x ∈ R := List.mem_of_getElem? (by simpa using h)
   have := hr.1 x.ac.addr (List.mem_map.2 ⟨x, hx, rfl⟩)
   simp only [rst]
   rw [if_neg (by omega)]
   exact ih hr.2 (by simpa using h)
theorem rst_append (R T : List RAc) (a : Nat) : rst (R ++ T) a = if ∃ x ∈ R, x.ac.addr = a then rst R a else rst T a := by
 induction R with
 | nil => simp
 | cons x R ih =>
  simp only [List.cons_append, rst]
  by_cases hx : x.ac.addr = a
  ·rw [if_pos hx, if_pos ⟨x, by simp, hx⟩, if_pos hx]
  ·rw [if_neg hx, ih]
   by_cases h2 : ∃ y ∈ R, y.ac.addr = a
   ·obtain ⟨y, hy, hya⟩ := h2
    rw [if_pos ⟨y, hy, hya⟩, if_pos ⟨y, by simp [hy], hya⟩, if_neg hx]
   ·rw [if_neg h2, if_neg]
    rintro ⟨y, hy, hya⟩
    rcases List.mem_cons.1 hy with rfl | h3
    ·exact hx hya
    ·exact h2 ⟨y, h3, hya⟩
theorem hasR_iff {R : List RAc} {a : Nat} (hr : Rising R) : hasR R a ↔ ∃ x ∈ R, x.ac.addr = a := by
 constructor
 ·rintro ⟨x, h1, h2⟩; exact ⟨x, List.mem_of_getElem? h1, h2⟩
 ·rintro ⟨x, hx, rfl⟩
  obtain ⟨i, hi⟩ := List.mem_iff_getElem?.1 hx
  have hlt : ∀ j, j < i → ∃ y, R[j]? = some y ∧ y.ac.addr < x.ac.addr := by
   intro j hj
   obtain ⟨hil, hi'⟩ := List.getElem?_eq_some_iff.1 hi
   refine ⟨R[j]'(by omega), List.getElem?_eq_getElem _, ?_⟩
   have := List.pairwise_iff_getElem.1 hr j i (by simpa using (show j < R.length by omega)) (by simpa using hil) hj
   simp only [List.getElem_map] at this
   rw [hi'] at this
   exact this
  have hp : posR R x.ac.addr = i := by
   rcases Nat.lt_trichotomy (posR R x.ac.addr) i with h | h | h
   ·obtain ⟨y, h1, h2⟩ := hlt _ h
    have := posR_at R x.ac.addr y h1
    omega
   ·exact h
   ·obtain ⟨y, h1, h2⟩ := posR_lt R x.ac.addr i h
    rw [hi] at h1; cases h1; omega
  exact ⟨x, by rw [hp]; exact hi, rfl⟩
theorem rst_atR {R : List RAc} {a : Nat} (hr : Rising R) (hn : ¬ hasR R a) : rst (atR R a) = rst R := by
 have hna : ∀ x ∈ R, x.ac.addr ≠ a := fun x hx e => hn ((hasR_iff hr).2 ⟨x, hx, e⟩)
 funext b
 unfold atR
 rw [rst_append]
 have e : rst R b = rst (R.take (posR R a) ++ R.drop (posR R a)) b := by rw [List.take_append_drop]
 rw [e, rst_append]
 split
 ·rfl
 ·simp only [rst]
  split
  ·rename_i h1 h2
   have h2' : a = b := h2
   subst h2'
   rw [rst_none]
   ·rfl
   ·intro x hx
    exact hna x (List.mem_of_mem_drop hx)
  ·rfl
theorem rising_atR {R : List RAc} {a : Nat} (hr : Rising R) (hn : ¬ hasR R a) : Rising (atR R a) := by
 have h1 : ∀ x ∈ R.take (posR R a), x.ac.addr < a := by
  intro x hx
  obtain ⟨i, hi⟩ := List.mem_iff_getElem?.1 hx
  rw [List.getElem?_take] at hi
  split at hi
  ·rename_i h
   obtain ⟨y, h2, h3⟩ := posR_lt R a i h
   rw [hi] at h2; cases h2; exact h3
  ·cases hi
 have h2 : ∀ x ∈ R.drop (posR R a), a < x.ac.addr := by
  intro x hx
  have hx2 := hx
  obtain ⟨i, hi⟩ := List.mem_iff_getElem?.1 hx
  rw [List.getElem?_drop] at hi
  have hne : x.ac.addr ≠ a := fun e => hn ((hasR_iff hr).2 ⟨x, List.mem_of_getElem? hi, e⟩)
  have h0 : posR R a < R.length := by
   have := (List.getElem?_eq_some_iff.1 hi).1
   omega
  have h3 := posR_at R a _ (List.getElem?_eq_getElem h0)
  cases i with
  | zero =>
   rw [Nat.add_zero, List.getElem?_eq_getElem h0] at hi
   cases hi
   omega
  | succ i =>
   have hlt := (List.getElem?_eq_some_iff.1 hi).1
   have := List.pairwise_iff_getElem.1 hr (posR R a) (posR R a + (i + 1)) (by simpa using h0) (by simpa using hlt) (by omega)
   simp only [List.getElem_map] at this
   rw [(List.getElem?_eq_some_iff.1 hi).2] at this
   omega
 unfold Rising atR
 rw [List.map_append, List.map_cons, List.pairwise_append, List.pairwise_cons]
 have hr1 : ((R.take (posR R a)).map fun x => x.ac.addr).Pairwise (· < ·) := by
  have := hr.sublist (List.Sublist.map (fun x : RAc => x.ac.addr) (List.take_sublist (posR R a) R))
  exact this
 have hr2 : ((R.drop (posR R a)).map fun x => x.ac.addr).Pairwise (· < ·) := by
  have := hr.sublist (List.Sublist.map (fun x : RAc => x.ac.addr) (List.drop_sublist (posR R a) R))
  exact this
 refine ⟨hr1, ⟨?_, hr2⟩, ?_⟩
 ·intro b hb
  obtain ⟨x, hx, rfl⟩ := List.mem_map.1 hb
  exact h2 x hx
 ·intro b hb c hc
  obtain ⟨x, hx, rfl⟩ := List.mem_map.1 hb
  have hxa := h1 x hx
  rcases List.mem_cons.1 hc with rfl | hc
  ·exact hxa
  ·obtain ⟨y, hy, rfl⟩ := List.mem_map.1 hc
   have := h2 y hy
   exact Nat.lt_trans hxa this
theorem hasR_atR (R : List RAc) (a : Nat) : (atR R a)[posR R a]? = some (RAc.new a) := by
 unfold atR
 rw [List.getElem?_append_right (by rw [List.length_take]; omega), List.length_take]
 have := posR_le R a
 rw [Nat.min_eq_left this, Nat.sub_self]
 rfl
theorem rst_set {R : List RAc} {i : Nat} {x y : RAc} (hr : Rising R) (h : R[i]? = some x) (he : y.ac.addr = x.ac.addr) : rst (R.set i y) = upd (rst R) x.ac.addr y.acc := by
 funext b
 induction R generalizing i with
 | nil => simp at h
 | cons z R ih =>
  unfold Rising at hr
  rw [List.map_cons, List.pairwise_cons] at hr
  cases i with
  | zero =>
   simp at h; subst h
   simp only [List.set_cons_zero, rst, upd]
   rw [he]
   by_cases hb : b = z.ac.addr
   ·subst hb; simp
   ·rw [if_neg (fun e => hb e.symm), if_neg hb, if_neg (fun e => hb e.symm)]
  | succ i =>
   have hx : x ∈ R := List.mem_of_getElem? (by simpa using h)
   have hlt := hr.1 x.ac.addr (List.mem_map.2 ⟨x, hx, rfl⟩)
   simp only [List.set_cons_succ, rst, upd]
   rw [ih hr.2 (by simpa using h)]
   unfold upd
   by_cases hb : b = x.ac.addr
   ·subst hb; rw [if_neg (by omega), if_pos rfl, if_pos rfl]
   ·rw [if_neg hb, if_neg hb]
theorem rising_set {R : List RAc} {i : Nat} {x y : RAc} (hr : Rising R) (h : R[i]? = some x) (he : y.ac.addr = x.ac.addr) : Rising (R.set i y) := by
 have : (R.set i y).map (fun x : RAc => x.ac.addr) = R.map fun x => x.ac.addr := by
  rw [List.map_set, he]
  apply List.ext_getElem?
  intro j
  rw [List.getElem?_set]
  split
  ·rename_i e
   subst e
   split
   ·rw [List.getElem?_map, h]; rfl
   ·rename_i hl
    rw [List.getElem?_eq_none (by omega)]
  ·rfl
 unfold Rising
 rw [this]
 exact hr
end Go.Mun
namespace Go.Mun
open Go.RowKit

def numU : List UInt8 → Nat
 | [] => 0
 | x :: l => x.toNat * 256 ^ l.length + numU l
theorem numU_lt : ∀ l : List UInt8, numU l < 256 ^ l.length
 | [] => by simp [numU]
 | x :: l => by
  have h1 : x.toNat < 256 := x.toNat_lt
  have h2 := numU_lt l
  have h3 : x.toNat * 256 ^ l.length ≤ 255 * 256 ^ l.length := Nat.mul_le_mul_right _ (by omega)
  simp only [numU, List.length_cons, Nat.pow_succ]
  omega
theorem cmpU : ∀ (A B : List UInt8), A.length = B.length → Lib.compareBytes A B = if numU A < numU B then -1 else if numU B < numU A then 1 else 0
 | [], [], _ => by simp [Lib.compareBytes, numU]
 | [], _ :: _, h => by simp at h
 | _ :: _, [], h => by simp at h
 | x :: A, y :: B, h => by
  have hl : A.length = B.length := by simpa using h
  have ha := numU_lt A
  have hb := numU_lt B
  rw [hl] at ha
  unfold Lib.compareBytes
  simp only [numU, hl]
  have hxy : x < y ↔ x.toNat < y.toNat := UInt8.lt_iff_toNat_lt
  have hyx : y < x ↔ y.toNat < x.toNat := UInt8.lt_iff_toNat_lt
  by_cases h1 : x < y
  ·have h2 : (x.toNat + 1) * 256 ^ B.length ≤ y.toNat * 256 ^ B.length := Nat.mul_le_mul_right _ (hxy.1 h1)
   rw [Nat.add_mul, Nat.one_mul] at h2
   rw [if_pos h1, if_pos (by omega)]
  ·rw [if_neg h1]
   by_cases h2 : y < x
   ·have h3 : (y.toNat + 1) * 256 ^ B.length ≤ x.toNat * 256 ^ B.length := Nat.mul_le_mul_right _ (hyx.1 h2)
    rw [Nat.add_mul, Nat.one_mul] at h3
    rw [if_pos h2, if_neg (by omega), if_pos (by omega)]
   ·have he : x.toNat = y.toNat := by
     rw [hxy] at h1; rw [hyx] at h2; omega
    rw [if_neg h2, cmpU A B hl, he]
    simp only [Nat.add_lt_add_iff_left]
def toU (l : Bts) : List UInt8 := l.map fun x => x.toNat.toUInt8
theorem numU_toU : ∀ l : Bts, Byt l → numU (toU l) = beN l
 | [], _ => rfl
 | x :: l, h => by
  have hx := h x (by simp)
  have h1 : (x.toNat.toUInt8).toNat = x.toNat := by
   show (UInt8.ofNat x.toNat).toNat = x.toNat
   rw [UInt8.toNat_ofNat']
   omega
  have h2 := numU_toU l (fun y hy => h y (List.mem_cons_of_mem _ hy))
  show (x.toNat.toUInt8).toNat * 256 ^ (toU l).length + numU (toU l) = x.toNat * 256 ^ l.length + beN l
  rw [h1, h2]
  simp [toU]
theorem be_byt (k a : Nat) : Byt (be k a) := by
 intro x hx
 unfold be at hx
 obtain ⟨i, _, rfl⟩ := List.mem_map.1 hx
 have := Nat.mod_lt (a / 256 ^ (k - 1 - i)) (show 0 < 256 by decide)
 omega
theorem beN_be : ∀ (k n : Nat), n < 256 ^ k → beN (be k n) = n
 | 0, n, h => by
  have : n = 0 := by simpa using h
  subst this; rfl
 | k + 1, n, h => by
  have h1 : n / 256 ^ k < 256 := by
   rw [Nat.div_lt_iff_lt_mul (Nat.pow_pos (by decide))]
   rw [Nat.pow_succ] at h; omega
  rw [be_succ]
  simp only [beN, be_len]
  have e : be k n = be k (n % 256 ^ k) := (be_mod k n).symm
  rw [e, beN_be k (n % 256 ^ k) (Nat.mod_lt _ (Nat.pow_pos (by decide)))]
  have h3 : ((n / 256 ^ k % 256 : Nat) : Int).toNat = n / 256 ^ k := by rw [Int.toNat_natCast, Nat.mod_eq_of_lt h1]
  first
   | rw [h3, Nat.mul_comm, Nat.div_add_mod]
   | (simp only [Int.toNat_natCast]; rw [Nat.mod_eq_of_lt h1, Nat.mul_comm, Nat.div_add_mod])
def cmpZ (a b : Nat) : Int := if a < b then -1 else if b < a then 1 else 0
theorem cmp_be (k a b : Nat) (ha : a < 256 ^ k) (hb : b < 256 ^ k) : Lib.compareBytes (toU (be k a)) (toU (be k b)) = cmpZ a b := by
 rw [cmpU _ _ (by simp [toU]), numU_toU _ (be_byt k a), numU_toU _ (be_byt k b), beN_be k a ha, beN_be k b hb]
 rfl
theorem run_loadBytes {P : Program} {w : World} {b : Nat} : ∀ (l : Bts) (off : Nat) (acc : ByteArray), (∀ i, i < l.length → w.cell? ⟨b, off + i, none⟩ = some (.int .u8 (l[i]?.getD 0))) →
  (Extern.Bytes.loadBytes ⟨b, off, none⟩ l.length acc).run P w = .ok ⟨acc.data ++ (toU l).toArray⟩ w
 | [], off, acc, _ => by
  show Result.ok acc w = _
  simp [toU]
 | x :: l, off, acc, h => by
  have h0 := h 0 (by simp)
  simp only [Nat.add_zero, List.getElem?_cons_zero, Option.getD_some] at h0
  have hi := run_loadBytes (P := P) l (off + 1) (acc.push x.toNat.toUInt8) (fun i hi => by
   have := h (i + 1) (by simp; omega)
   simp only [List.getElem?_cons_succ] at this
   rw [show off + 1 + i = off + (i + 1) by omega]; exact this)
  have hl : (load ⟨b, off, none⟩).run P w = .ok (.int .u8 x) w := by
   rw [run_load, h0]
  simp only [List.length_cons, Extern.Bytes.loadBytes, Sem.run_bind, hl, Result.andThen]
  have ha : (⟨b, off, none⟩ : Addr).add 1 = ⟨b, off + 1, none⟩ := add_off rfl
  rw [ha, hi]
  congr 1
  simp [toU, ByteArray.push]
theorem run_bytesOf {P : Program} {w : World} {a : Option Addr} {c : Nat} {l : Bts} (hI : Ints w .u8 a c l) : (Extern.Bytes.bytesOf (.slice a l.length c)).run P w = .ok ⟨(toU l).toArray⟩ w := by
 cases a with
 | none =>
  have h1 := hI.nil rfl
  have h2 := hI.len
  have : l = [] := List.eq_nil_of_length_eq_zero (by omega)
  subst this
  rfl
 | some ad =>
  by_cases hn : l = []
  ·subst hn; rfl
  ·obtain ⟨b, off, ha, hc⟩ := hI.cell hn
   cases ha
   have := run_loadBytes (P := P) l off ByteArray.empty hc
   show (Extern.Bytes.loadBytes ⟨b, off, none⟩ l.length ByteArray.empty).run P w = _
   simpa using this
end Go.Mun
namespace Go.Proofs.YtfflppedbopdpaaGreat
open Go.RowKit Go.Mun

theorem lensG : lens zs81 = [20, 1, 32, 1, 1] := by kernel_rfl
theorem slG1 : SliceLit Tryz.prog 45 35 55 1 (cat [cat zs81]) := ⟨Tryz.underlying45, ⟨_, .agg (cat zs81).toArray, rfl, by kernel_rfl, by kernel_rfl, by kernel_rfl⟩, by decide, by kernel_rfl, by decide⟩
def fillG (p : List (Nat × Value)) : Option (List Value) := fillL (1 * 55) ((List.range 1).map fun i => (i * 55, 55)) (cat [cat zs81]) p
theorem bsG1 (ρ : Operand → Value) (dst : Option Tmp) (x : Operand) (t : TypeId) (pos : String) (after : Array Edge) (gd : Option (Nat × Bool)) (w : World) :
  (execOp ρ ⟨dst, .buildSlice 45 1 #[(0, x)], t, pos, after, gd⟩).run Tryz.prog w = asNext (bsRow Tryz.prog 45 35 1 [(0, ρ x)] w (fillG [(0, ρ x)])) :=
 ex_bslice ρ dst t pos after gd w slG1 [(0, x)]
@[go_sem] theorem fillG_one (c : List Value) (h : c.length = 55) : fillG [(0, .agg c.toArray)] = some c := by
 unfold fillG
 have h1 : lens [cat zs81] = [55] := by kernel_rfl
 have h3 : plOf [cat zs81] = (List.range 1).map fun i => (i * 55, 55) := by kernel_rfl
 rw [← h3, fillL_cats _ _ _ (by kernel_rfl)]
 ·show some (cat [c]) = some c
  simp [cat]
 ·rw [h1]
  refine fits_cons ?_ (fits_nil _)
  show some 55 = some c.length; rw [h]
attribute [go_sem ↓] bsG1
theorem elemG : ElemOf Tryz.prog 45 35 (.agg (cat zs81).toArray) 55 112 := .mk' Tryz.underlying45 (by kernel_rfl) (by kernel_rfl) (by decide)
end Go.Proofs.YtfflppedbopdpaaGreat
namespace Go.Mun
open Go.RowKit
open Go.Proofs.YtfflppedbopdpaaGreat (Ac acS acS_len)

theorem lessU : ∀ (A B : List UInt8), A.length = B.length → Op.bytesLess A B = decide (numU A < numU B)
 | [], [], _ => by simp [Op.bytesLess, numU]
 | [], _ :: _, h => by simp at h
 | _ :: _, [], h => by simp at h
 | x :: A, y :: B, h => by
  have hl : A.length = B.length := by simpa using h
  have ha := numU_lt A
  have hb := numU_lt B
  rw [hl] at ha
  simp only [Op.bytesLess, numU, hl, lessU A B hl]
  have hxy : x < y ↔ x.toNat < y.toNat := UInt8.lt_iff_toNat_lt
  rcases Nat.lt_trichotomy x.toNat y.toNat with h1 | h1 | h1
  ·have h2 : (x.toNat + 1) * 256 ^ B.length ≤ y.toNat * 256 ^ B.length := Nat.mul_le_mul_right _ h1
   rw [Nat.add_mul, Nat.one_mul] at h2
   have d1 : decide (x < y) = true := decide_eq_true (hxy.2 h1)
   rw [d1, Bool.true_or]
   exact (decide_eq_true (by omega)).symm
  ·have e : x = y := UInt8.toNat_inj.1 h1
   subst e
   have d1 : decide (x < x) = false := decide_eq_false (by rw [hxy]; omega)
   rw [d1]
   simp
  ·have h2 : (y.toNat + 1) * 256 ^ B.length ≤ x.toNat * 256 ^ B.length := Nat.mul_le_mul_right _ h1
   rw [Nat.add_mul, Nat.one_mul] at h2
   have d1 : decide (x < y) = false := decide_eq_false (by rw [hxy]; omega)
   have d2 : (x == y) = false := by
    rw [beq_eq_false_iff_ne]; rintro rfl; omega
   rw [d1, d2]
   simp only [Bool.false_and, Bool.or_false]
   exact (decide_eq_false (by omega)).symm
theorem strOf_toList (l : Bts) : (strOf l).toList = toU l := by
 unfold strOf toU
 rw [ByteArray.toList_mk]
theorem less_be (k a b : Nat) (ha : a < 256 ^ k) (hb : b < 256 ^ k) : Op.bytesLess (strOf (be k a)).toList (strOf (be k b)).toList = decide (a < b) := by
 rw [strOf_toList, strOf_toList, lessU _ _ (by simp [toU]), numU_toU _ (be_byt k a), numU_toU _ (be_byt k b), beN_be k a ha, beN_be k b hb]

def slotC (sl : List (Nat × Nat)) : List Value := sl.flatMap fun p => beC 32 p.1 ++ beC 32 p.2
theorem slotC_len (sl : List (Nat × Nat)) : (slotC sl).length = sl.length * 64 := by
 induction sl with
 | nil => rfl
 | cons p sl ih => simp [slotC] at ih ⊢; omega
structure SlotsAt (w : World) (own : Own) (sv : Value) (sl : List (Nat × Nat)) : Prop where
 read : w.ownsRow 0 97 64 sv sl.length (slotC sl)
 lab : ∀ g, sv.ownBlock = some g → own g = some (.smap 0)
 val : ∀ p ∈ sl, p.1 < wW ∧ p.2 < wW
 len : sl.length ≤ 1000000
structure RAcOk (w : World) (own : Own) (p : RAc × Value × Value) : Prop where
 code : CodeAt w own p.2.1 p.1.ac.code
 slots : SlotsAt w own p.2.2 p.1.slots
 addr : p.1.ac.addr < wA
 bal : p.1.ac.bal < wW
 nonce : 0 ≤ p.1.ac.nonce ∧ p.1.ac.nonce ≤ 9223372036854775807
def racC (p : RAc × Value × Value) : List Value := cat (acS p.1.ac p.2.1 p.2.2)
theorem racC_len (p : RAc × Value × Value) : (racC p).length = 55 := acS_len _ _ _
def rowsR (ps : List (RAc × Value × Value)) : List Value := ps.flatMap racC
theorem rowsR_cons (p : RAc × Value × Value) (ps : List (RAc × Value × Value)) : rowsR (p :: ps) = racC p ++ rowsR ps := by simp [rowsR]
theorem rowsR_append (ps qs : List (RAc × Value × Value)) : rowsR (ps ++ qs) = rowsR ps ++ rowsR qs := by simp [rowsR]
theorem rowsR_len (ps : List (RAc × Value × Value)) : (rowsR ps).length = ps.length * 55 := by
 induction ps with
 | nil => rfl
 | cons p ps ih => rw [rowsR_cons, List.length_append, racC_len, ih, List.length_cons]; omega
theorem rowsR_take (ps : List (RAc × Value × Value)) (k : Nat) : (rowsR ps).take (k * 55) = rowsR (ps.take k) := by
 induction ps generalizing k with
 | nil => simp [rowsR]
 | cons p ps ih =>
  cases k with
  | zero => simp [rowsR]
  | succ k =>
   rw [rowsR_cons, List.take_succ_cons, rowsR_cons, show (k + 1) * 55 = (racC p).length + k * 55 by rw [racC_len]; omega, List.take_length_add_append, ih]
theorem rowsR_drop (ps : List (RAc × Value × Value)) (k : Nat) : (rowsR ps).drop (k * 55) = rowsR (ps.drop k) := by
 induction ps generalizing k with
 | nil => simp [rowsR]
 | cons p ps ih =>
  cases k with
  | zero => simp [rowsR]
  | succ k =>
   rw [rowsR_cons, List.drop_succ_cons, show (k + 1) * 55 = (racC p).length + k * 55 by rw [racC_len]; omega, ← List.drop_drop, List.drop_left, ih]
structure RArr (w : World) (own : Own) (v : Value) (ps : List (RAc × Value × Value)) : Prop where
 cells : w.ownsRow 0 35 55 v ps.length (rowsR ps)
 lab : ∀ g, v.ownBlock = some g → own g = some .acc
 ok : ∀ p ∈ ps, RAcOk w own p
structure RStC (w : World) (own : Own) (sb : Nat) (lv mv : Value) (ps : List (RAc × Value × Value)) (ms : List (Nat × Value × List (RAc × Value × Value))) (n : Nat) : Prop where
 lab : own sb = some .st
 row : w.row? sb 0 3 = some [lv, mv, .int .i64 n]
 free : w.free? sb 0 3 = true
 arr : RArr w own lv ps
 up : Rising (ps.map fun p => p.1)
 marks : w.ownsRow 0 195 2 mv ms.length (ms.flatMap fun m => [.int .i64 m.1, m.2.1])
 mlab : ∀ g, mv.ownBlock = some g → own g = some .marks
 each : ∀ m ∈ ms, RArr w own m.2.1 m.2.2 ∧ Rising (m.2.2.map fun p => p.1)
 apart : (lv :: ms.map fun m => m.2.1).Pairwise fun a b => a.ownBlock = none ∨ a.ownBlock ≠ b.ownBlock
 low : ∀ b, own b ≠ none → b < w.heap.size
 count : ms.length ≤ n ∧ ∀ m ∈ ms, m.1 ≤ n
def RSt (w : World) (own : Own) (sb : Nat) (R : List RAc) (M : List (Nat × List RAc)) (n : Nat) : Prop :=
 ∃ lv mv ps ms, RStC w own sb lv mv ps ms n ∧ R = ps.map (fun p => p.1) ∧ M = ms.map fun m => (m.1, m.2.2.map fun p => p.1)
section
variable {w w' : World} {own : Own} {S : Nat → Prop}
theorem SlotsAt.only {sv : Value} {sl : List (Nat × Nat)} (h : SlotsAt w own sv sl) (ho : Only S w w') (hS : ∀ b, S b → own b ≠ some (.smap 0)) : SlotsAt w' own sv sl :=
 ⟨Only.own h.read ho fun g hg hs => hS g hs (h.lab g hg), h.lab, h.val, h.len⟩
theorem RAcOk.only {p : RAc × Value × Value} (h : RAcOk w own p) (ho : Only S w w') (hS : ∀ b, S b → own b ≠ some .code ∧ own b ≠ some (.smap 0)) : RAcOk w' own p :=
 ⟨h.code.only ho fun b hb => (hS b hb).1, h.slots.only ho fun b hb => (hS b hb).2, h.addr, h.bal, h.nonce⟩
theorem RArr.only {v : Value} {ps : List (RAc × Value × Value)} (h : RArr w own v ps) (ho : Only S w w') (hS : ∀ b, S b → own b ≠ some .code ∧ own b ≠ some (.smap 0)) (hv : ∀ g, v.ownBlock = some g → ¬ S g) : RArr w' own v ps :=
 ⟨Only.own h.cells ho hv, h.lab, fun p hp => (h.ok p hp).only ho hS⟩
theorem RArr.only_out {v : Value} {ps : List (RAc × Value × Value)} (h : RArr w own v ps) (ho : Only S w w') (hS : ∀ b, S b → own b = none) : RArr w' own v ps :=
 h.only ho (fun b hb => by rw [hS b hb]; simp) fun g hg hs => by have := h.lab g hg; rw [hS g hs] at this; cases this
theorem RStC.only {sb : Nat} {lv mv : Value} {ps : List (RAc × Value × Value)} {ms : List (Nat × Value × List (RAc × Value × Value))} {n : Nat} (h : RStC w own sb lv mv ps ms n) (ho : Only S w w') (hS : ∀ b, S b → own b = none) : RStC w' own sb lv mv ps ms n := by
 have hn : ∀ {b l}, own b = some l → ¬ S b := fun hb hr => by rw [hS _ hr] at hb; cases hb
 have hlt := World.row?_lt h.row
 exact { h with
  row := by rw [ho.row? hlt (hn h.lab)]; exact h.row
  free := by rw [ho.free? hlt (hn h.lab)]; exact h.free
  arr := h.arr.only_out ho hS
  marks := Only.own h.marks ho fun g hg => hn (h.mlab g hg)
  each := fun m hm => ⟨(h.each m hm).1.only_out ho hS, (h.each m hm).2⟩
  low := fun b hb => Nat.lt_of_lt_of_le (h.low b hb) ho.size }
theorem RSt.only {sb : Nat} {R : List RAc} {M : List (Nat × List RAc)} {n : Nat} (h : RSt w own sb R M n) (ho : Only S w w') (hS : ∀ b, S b → own b = none) : RSt w' own sb R M n := by
 obtain ⟨lv, mv, ps, ms, h1, h2⟩ := h
 exact ⟨lv, mv, ps, ms, h1.only ho hS, h2⟩
theorem RSt.below {sb : Nat} {R : List RAc} {M : List (Nat × List RAc)} {n : Nat} (h : RSt w own sb R M n) (hb : Below w.heap.size w w') : RSt w' own sb R M n :=
 h.only (S := fun _ => False) (Only.of_below_size hb) (fun _ h => h.elim)
theorem RSt.lows {sb : Nat} {R : List RAc} {M : List (Nat × List RAc)} {n : Nat} (h : RSt w own sb R M n) : ∀ b, own b ≠ none → b < w.heap.size := by
 obtain ⟨lv, mv, ps, ms, h1, _⟩ := h
 exact h1.low
theorem SlotsAt.le {own' : Own} {sv : Value} {sl : List (Nat × Nat)} (h : SlotsAt w own sv sl) (hl : own.le own') : SlotsAt w own' sv sl := ⟨h.read, fun g hg => hl _ _ (h.lab g hg), h.val, h.len⟩
theorem RAcOk.le {own' : Own} {p : RAc × Value × Value} (h : RAcOk w own p) (hl : own.le own') : RAcOk w own' p := ⟨h.code.le hl, h.slots.le hl, h.addr, h.bal, h.nonce⟩
theorem RArr.le {own' : Own} {v : Value} {ps : List (RAc × Value × Value)} (h : RArr w own v ps) (hl : own.le own') : RArr w own' v ps := ⟨h.cells, fun g hg => hl _ _ (h.lab g hg), fun p hp => (h.ok p hp).le hl⟩
end
end Go.Mun
namespace Go.Proofs.YtfflppedbopdpaaGreat
open Go.RowKit Go.Mun
theorem bytealg117 {w : World} {a a2 : Option Addr} {c c2 : Nat} {l m : Bts} (hI : Ints w .u8 a c l) (hJ : Ints w .u8 a2 c2 m) :
  (callFunc 185 #[.slice a l.length c, .slice a2 m.length c2]).run Tryz.prog w = .ok (.value (.int .i64 (Lib.compareBytes (toU l) (toU m)))) w := by
 rw [run_callFunc_extern Tryz.func185 (by kernel_rfl) (by kernel_rfl) (by kernel_rfl) (e := Extern.BytealgCompare.compare) (by kernel_rfl)]
 show (((do pure (goInt (Extern.BytealgCompare.cmp (← Extern.Bytes.bytesOf (.slice a l.length c)) (← Extern.Bytes.bytesOf (.slice a2 m.length c2)))) : Sem Value)).run Tryz.prog w).andThen _ = _
 simp only [Sem.run_bind, Sem.run_pure, run_bytesOf hI, run_bytesOf hJ, Result.andThen]
 rw [Lib.cmp_eq]
 rfl
theorem bytes_Compare {w : World} {a a2 : Option Addr} {c c2 : Nat} {l m : Bts} (hI : Ints w .u8 a c l) (hJ : Ints w .u8 a2 c2 m) :
  Calls Tryz.prog 78 #[.slice a l.length c, .slice a2 m.length c2] w fun e w' => e = .returned (.int .i64 (Lib.compareBytes (toU l) (toU m))) ∧ w' = w := by
 have h117 := bytealg117 hI hJ
 clear hI hJ
 generalize Lib.compareBytes (toU l) (toU m) = r at *
 go_enter Tryz.func78, Tryz.ntmps78
 go_wp2
 go_ret
 exact ⟨rfl, rfl⟩
end Go.Proofs.YtfflppedbopdpaaGreat
namespace Go.Mun
open Go.RowKit Go.Maps Go.ChangeMaps Go.MapKept Go.WideShapes
open Go.WideElems (Fit rg pl rd_key rd_val rg_of other_key)

def R0 (_ : Value) : Option (DataW Unit × List MemPlace) := some (.lit (.bool true), [])
section
variable {β : Type} {ke : Nat → Value} {N : Nat} {ve : β → Value} {w : World} {b : Nat} {L : List (Nat × β)} {P : Program} {k : TypeId}
theorem MapAt.owns (h : MapAt ke N ve w b L) (K : KeyEnc P k ke N) (hn : L.length ≤ maxLen) :
  ∃ D : DataW Unit, w.ownsMap P k R0 b L.length D ∧ Maps.size D = L.length ∧ (∀ kl, Maps.has D kl = true → ∃ a ∈ L.map Prod.fst, keyOf P k (ke a) = some kl) ∧ ∀ a ∈ L.map Prod.fst, ∀ kl, keyOf P k (ke a) = some kl → Maps.has D kl = true := by
 obtain ⟨es, clock, hb, he, hN, hs⟩ := h
 have hlen : es.size = L.length := by
  have := congrArg List.length he
  simpa using this
 have hkey : ∀ x ∈ es.toList, ∃ p ∈ L, x.key = ke p.1 := fun x hx => by
  have : (x.key, x.val) ∈ L.map (fun p => (ke p.1, ve p.2)) := he ▸ List.mem_map.2 ⟨x, hx, rfl⟩
  obtain ⟨p, hp, e⟩ := List.mem_map.1 this
  exact ⟨p, hp, (congrArg Prod.fst e).symm⟩
 have hkey2 : ∀ p ∈ L, ∃ x ∈ es.toList, x.key = ke p.1 := fun p hp => by
  have : (ke p.1, ve p.2) ∈ es.toList.map (fun e => (e.key, e.val)) := he ▸ List.mem_map.2 ⟨p, hp, rfl⟩
  obtain ⟨x, hx, e⟩ := List.mem_map.1 this
  exact ⟨x, hx, congrArg Prod.fst e⟩
 have hrd : ∀ x ∈ es.toList, ∀ p ∈ L, x.key = ke p.1 → ∀ kl, keyOf P k (ke p.1) = some kl → WideElems.rd P k R0 x = some (kl, .lit (.bool true)) := fun x hx p hp e kl hk => by
  unfold WideElems.rd
  rw [e, hk]
  rfl
 have F : Fit P k R0 es clock := ⟨by rw [hlen]; exact hn, hs, fun x hx => by
  obtain ⟨p, hp, e⟩ := hkey x hx
  obtain ⟨kl, hk⟩ := K.key p.1 (hN p hp)
  exact ⟨_, hrd x hx p hp e kl hk⟩⟩
 refine ⟨_, ⟨es, clock, hb, F, by rw [hlen]; exact Nat.le_refl _, rfl⟩, ?_, ?_, ?_⟩
 ·simp [Maps.size, length_sorted, hlen]
 ·intro kl hkl
  obtain ⟨q, hq, hqk⟩ := List.any_eq_true.1 hkl
  obtain ⟨x, hx, rfl⟩ := List.mem_map.1 (mem_sorted.1 hq)
  obtain ⟨p, hp, e⟩ := hkey x hx
  obtain ⟨kl', hk⟩ := K.key p.1 (hN p hp)
  have hr := hrd x hx p hp e kl' hk
  rw [rg_of hr] at hqk
  have := WideAt.sameKey_eq hqk
  refine ⟨p.1, List.mem_map.2 ⟨p, hp, rfl⟩, ?_⟩
  rw [hk]; exact congrArg some this
 ·intro a ha kl hk
  obtain ⟨p, hp, rfl⟩ := List.mem_map.1 ha
  obtain ⟨x, hx, e⟩ := hkey2 p hp
  have hr := hrd x hx p hp e kl hk
  exact List.any_eq_true.2 ⟨rg P k R0 x, mem_sorted.2 (List.mem_map.2 ⟨x, hx, rfl⟩), by rw [rg_of hr]; exact WideAt.sameKey_self (K.keyed.key hk)⟩
structure Came (P : Program) (k : TypeId) (ke : Nat → Value) (N : Nat) (ks : List Nat) (left : Lit → Bool) (ss : List Nat) : Prop where
 iff : ∀ a ∈ ks, ∀ kl, keyOf P k (ke a) = some kl → (left kl = true ↔ a ∉ ss)
 sub : ∀ a ∈ ss, a ∈ ks
 nod : ss.Nodup
 key : ∀ kl, left kl = true → ∃ a ∈ ks, keyOf P k (ke a) = some kl
theorem Came.start {ks : List Nat} {left : Lit → Bool} (h1 : ∀ kl, left kl = true → ∃ a ∈ ks, keyOf P k (ke a) = some kl) (h2 : ∀ a ∈ ks, ∀ kl, keyOf P k (ke a) = some kl → left kl = true) : Came P k ke N ks left [] :=
 ⟨fun a ha kl hk => ⟨fun _ => (by simp), fun _ => h2 a ha kl hk⟩, fun a ha => (by cases ha), List.nodup_nil, h1⟩
theorem Came.step {ks : List Nat} {left : Lit → Bool} {ss : List Nat} (h : Came P k ke N ks left ss) (K : KeyEnc P k ke N) (hN : ∀ a ∈ ks, a < N) {x : Value} {kl : Lit} (hx : keyOf P k x = some kl) (hl : left kl = true) :
  ∃ a ∈ ks, x = ke a ∧ a ∉ ss ∧ Came P k ke N ks (fun z => left z && !z.sameKey kl) (ss ++ [a]) := by
 obtain ⟨a, ha, hk⟩ := h.key kl hl
 have hns : a ∉ ss := (h.iff a ha kl hk).1 hl
 refine ⟨a, ha, K.keyed.inj hx hk, hns, ⟨?_, ?_, ?_, ?_⟩⟩
 ·intro a' ha' kl' hk'
  have hiff : kl'.sameKey kl = true ↔ a' = a := by
   constructor
   ·intro e
    have e2 := WideAt.sameKey_eq e
    rw [e2] at hk'
    exact K.inj a' a (hN a' ha') (hN a ha) (K.keyed.inj hk' hk)
   ·rintro rfl
    rw [hk] at hk'
    cases hk'
    exact WideAt.sameKey_self (K.keyed.key hk)
  have h1 := h.iff a' ha' kl' hk'
  rw [Bool.and_eq_true, h1, List.mem_append, List.mem_singleton]
  constructor
  ·rintro ⟨h2, h3⟩ h4
   rcases h4 with h4 | h4
   ·exact h2 h4
   ·have := hiff.2 h4
    rw [this] at h3
    cases h3
  ·intro h2
   refine ⟨fun h3 => h2 (.inl h3), ?_⟩
   cases hs : kl'.sameKey kl with
   | false => rfl
   | true => exact absurd (.inr (hiff.1 hs)) h2
 ·intro c hc
  rcases List.mem_append.1 hc with h1 | h1
  ·exact h.sub c h1
  ·rw [List.mem_singleton] at h1; rw [h1]; exact ha
 ·rw [List.nodup_append]
  refine ⟨h.nod, by simp, ?_⟩
  intro x hx y hy
  rw [List.mem_singleton] at hy
  subst hy
  rintro rfl
  exact hns hx
 ·intro kl' hl'
  rw [Bool.and_eq_true] at hl'
  exact h.key kl' hl'.1
theorem Came.perm {ks : List Nat} {left : Lit → Bool} {ss : List Nat} (h : Came P k ke N ks left ss) (K : KeyEnc P k ke N) (hN : ∀ a ∈ ks, a < N) (hd : ks.Nodup) (hl : ∀ kl, left kl = false) : ss.Perm ks := by
 refine (List.perm_ext_iff_of_nodup h.nod hd).2 fun a => ⟨h.sub a, fun ha => ?_⟩
 obtain ⟨kl, hk⟩ := K.key a (hN a ha)
 have := h.iff a ha kl hk
 rw [hl kl] at this
 by_cases hm : a ∈ ss
 ·exact hm
 ·exact absurd (this.2 hm) (by simp)
end
end Go.Mun
namespace Go.Proofs.YtfflppedbopdpaaGreat
open Go.RowKit Go.Mun Go.Maps Go.Shelf
theorem semAt_run (ro : Option Nat) (ρ : Operand → Value) (o : Oper) (P : Program) (w : World) (h : ∀ c, o.op ≠ .defer c) : (Oper.semAt ro ρ o).run P w = (execOp ρ o).run P w := by
 rw [Oper.semAt_eq _ _ _ h]
attribute [local go_sem] Oper.semAt_some
attribute [local go_sem ↓] semAt_run
attribute [local irreducible] beC zU8
theorem adV_eq (a : Nat) : adV a = .agg (beC 20 a).toArray := rfl
theorem keys116 (F : Fence) (n : Nat) (hF : F.fn 184) (hro : F.round = none) (hn : 1 ≤ n) (Bm b nn : Nat) (D : DataW Unit) (ks : List Nat) (w : World)
  (hks : ∀ a ∈ ks, a < wA) (hd : ks.Nodup) (hsz : Maps.size D = ks.length) (h1 : ∀ kl, Maps.has D kl = true → ∃ a ∈ ks, keyOf Tryz.prog 23 (adV a) = some kl) (h2 : ∀ a ∈ ks, ∀ kl, keyOf Tryz.prog 23 (adV a) = some kl → Maps.has D kl = true)
  (hBm : Bm < w.heap.size) (hm : w.cell? ⟨Bm, 0, none⟩ = some (.map (some b))) (hown : w.ownsMap Tryz.prog 23 R0 b nn D) :
  SeqStopsK F n Tryz.prog 184 #[.pointer (some ⟨Bm, 0, none⟩)] (fun a : Nat => #[adV a]) KeepsWalks (fun ss => ss.Perm ks) (fun _ => True) ks.length w := by
 intro l J Jx W hW hJ hJx hY h0
 have hm' : W.cell? ⟨Bm, 0, none⟩ = some (.map (some b)) := (hW.cell (p := ⟨Bm, 0, none⟩) hBm).trans hm
 have hown' : W.ownsMap Tryz.prog 23 R0 b nn D := by
  have hbl := hown.lt
  obtain ⟨es, clock, hb, Ft, hs, hD⟩ := hown
  exact ⟨es, clock, (hW.block b hbl).trans hb, Ft, hs, hD⟩
 clear hm hown hW
 refine callsIn_of_wp Tryz.func184 rfl hF ?_ hro
 try simp only [Tryz.ntmps184, List.size_toArray, List.length_cons, List.length_nil, Nat.reduceAdd, Nat.reduceSub, Array.replicate_succ, Array.replicate_zero, List.push_toArray, List.append_toArray, List.nil_append, List.cons_append]
 gi_wp2_with (first
  | (gi_at_range; refine wpListIn_range_own _ rfl _ 90 rfl 23 87 keyA.keyed Tryz.underlying90 _ b nn _ rfl hown' ?_; intro w0 hrg0 hg0 hs0)
  | gi_in)
 try go_frame
 gi_loopw [3] (fun _ wr => ∃ (left : Lit → Bool) (cnt : Nat) (ss : List Nat), wr.ranges Tryz.prog 23 R0 b W.heap.size nn D left cnt ∧ ss.length + cnt ≤ Maps.size D ∧ Came Tryz.prog 23 adV wA ks left ss ∧ J ss wr)
  (fun _ wr => wr.rangeLeft b W.heap.size)
 case atStart =>
  exact ⟨_, _, [], hrg0, by simp, Came.start h1 h2, hJ [] W w0 none h0 hg0 (fun r e => by cases e)⟩
 case round =>
  obtain ⟨left, cnt, ss, hrg, hcs, hC, hJs⟩ := hrel
  gi_wp2_with (first
   | (gi_at_next; refine wpListIn_next_ranges _ rfl _ rfl 23 keyA.keyed R0 id id (fun key kl hk => ⟨key, rfl⟩) (fun v _ _ => ⟨v, rfl⟩) b W.heap.size nn _ _ _ rfl hrg ?_ ?_)
   | gi_in)
  ·intro hc0 hl0
   gi_wp2
   go_end0
   exact ⟨⟨_, rfl⟩, .inl ⟨ss, hC.perm keyA hks hd hl0, hJs⟩⟩
  ·intro x c kl yd yp w2 cnt2 hkey hlk hv hat hrg2 hlt hg2 hs2 hen
   obtain ⟨a, ha, hxa, hns, hC2⟩ := hC.step keyA hks hkey hlk
   obtain rfl : x = adV a := hxa
   have hJ2 : J ss w2 := hJ ss wr w2 (some W.heap.size) hJs hg2 (fun r e => by cases e; exact ⟨Nat.le_refl _, hrg.iter_walk⟩)
   clear hs2 hv hat
   have hf2 : (w2.alloc (.cells (zU8 20).toArray 23)).free? w2.heap.size 0 20 = true := World.free?_alloc_at _ _ rfl (by simp [zU8])
   have hok := beC_ok 20 a
   have hlen := okL_len hok
   generalize hw3 : (w2.alloc (.cells (zU8 20).toArray 23)).setCells w2.heap.size 0 (beC 20 a) = w3
   have hb3 : Below w2.heap.size w2 w3 := by rw [← hw3]; exact ((Below.refl _ w2).alloc (Nat.le_refl _) _).setCells (Nat.le_refl _) _ _
   have hJ3 : J ss w3 := hJ ss w2 w3 none hJ2 ⟨hb3.1, hb3.2, hb3.3, hb3.size, fun k hk _ => hb3.block k hk⟩ (fun r e => by cases e)
   have hr3 : w3.row? w2.heap.size 0 20 = some (beC 20 a) := by
    have hz : (zU8 20).length = 20 := by simp [zU8]
    rw [← hw3, World.row?_setCells_lay 0 (beC 20 a) (Nat.le_refl _) (by rw [hlen]; exact Nat.le_refl _), World.row?_alloc_at _ _ _ rfl hz]
    show some (lay (zU8 20) 0 (beC 20 a)) = _
    rw [lay_all _ _ (by rw [hlen, hz])]
   obtain ⟨fn, tmps, assign, body, hy, hR⟩ := hY ss a w3 hJ3 (by omega)
   have hk3 : KeepsWalks w2 w3 := ⟨hb3.size, fun k o h _ => (hb3.block k (Array.getElem?_eq_some_iff.1 h).1).trans h⟩
   simp only [adV_eq] at hy hen ⊢
   gi_wp2
   refine hR.mono ?_
   rintro e W3 (⟨rfl, hJ4, hk4⟩ | ⟨rfl, hJ4⟩)
   ·gi_wp2
    have hrg3 := (hrg2.of_walks hk3).of_walks hk4
    go_roundw
    case rel => exact ⟨_, cnt2, ss ++ [a], hrg3, by simp; omega, hC2, hJ4⟩
    case measure => rw [hrg3.left_eq, hrg.left_eq]; exact hlt
   ·gi_wp2
    refine bodyPost_ret (results_none rfl _ _ _) rfl ?_
    exact ⟨⟨_, rfl⟩, .inr ⟨_, trivial, hJ4⟩⟩
end Go.Proofs.YtfflppedbopdpaaGreat
namespace Go.Mun
open Go.RowKit
def adrC (l : List Nat) : List Value := l.flatMap (beC 20)
@[go_sem, simp] theorem adrC_len (l : List Nat) : (adrC l).length = l.length * 20 := by
 induction l with
 | nil => rfl
 | cons a l ih => simp [adrC] at ih ⊢; omega
theorem adrC_snoc (l : List Nat) (x : Nat) : adrC (l ++ [x]) = adrC l ++ beC 20 x := by simp [adrC]
theorem Below.asGrown {w w' : World} (h : Below w.heap.size w w') : w.grownBy w' none := ⟨h.1, h.2, h.3, h.size, fun k hk _ => h.block k hk⟩
theorem Below.keepsOthers {w w' : World} (h : Below w.heap.size w w') : KeepsOthers w w' := ⟨h.size, fun k o hk _ => (h.block k (Array.getElem?_eq_some_iff.1 hk).1).trans hk⟩
theorem Below.keepsWalks {w w' : World} (h : Below w.heap.size w w') : KeepsWalks w w' := ⟨h.size, fun k o hk _ => (h.block k (Array.getElem?_eq_some_iff.1 hk).1).trans hk⟩
theorem row_own (B n : Nat) (L : List Value) : _root_.Go.Own (fun (_ : Unit) W => W.row? B 0 n = some L) := by
 intro s X Y row h hg hr
 have hlt := World.row?_lt h
 refine (World.row?_of_block (hg.block B hlt ?_)).trans h
 intro e
 obtain ⟨o, ho, hc⟩ := hr B e.symm
 obtain ⟨c, t, f, hb, _⟩ := World.row?_inv h
 rw [hb] at ho; cases ho; cases hc
theorem cell_row_new (w : World) (L : List Value) (t : TypeId) : ∀ j u, L[j]? = some u → (w.alloc (.cells L.toArray t)).cell? ((⟨w.heap.size, 0, none⟩ : Addr).add j) = some u := by
 intro j u hj
 have h := World.alloc_heap_new w (.cells L.toArray t)
 have h2 : ((⟨w.heap.size, 0, none⟩ : Addr).add j) = ⟨w.heap.size, j, none⟩ := by
  cases j <;> simp [Addr.add]
 rw [h2]
 unfold World.cell?
 simp only [h]
 simpa using hj
theorem Boxed.free {W : World} {B : Nat} {t : TypeId} {v : Value} (h : Boxed W B t v) : W.free? B 0 1 = true := by
 unfold Boxed at h
 unfold World.free?
 simp only [h]
 simp
end Go.Mun
namespace Go.Proofs.YtfflppedbopdpaaGreat
open Go.RowKit Go.Mun Go.Maps Go.Shelf
attribute [local go_sem] Oper.semAt_some
attribute [local go_sem ↓] semAt_run
attribute [local irreducible] beC zU8
theorem slA1 : SliceLit Tryz.prog 150 23 20 1 (zU8 20) := ⟨Tryz.underlying150, ⟨_, .agg (zU8 20).toArray, rfl, by kernel_rfl, by kernel_rfl, by kernel_rfl⟩, by decide, by kernel_rfl, by decide⟩
def fillA (p : List (Nat × Value)) : Option (List Value) := fillL (1 * 20) ((List.range 1).map fun i => (i * 20, 20)) (zU8 20) p
theorem bsA1 (ρ : Operand → Value) (dst : Option Tmp) (x : Operand) (t : TypeId) (pos : String) (after : Array Edge) (gd : Option (Nat × Bool)) (w : World) :
  (execOp ρ ⟨dst, .buildSlice 150 1 #[(0, x)], t, pos, after, gd⟩).run Tryz.prog w = asNext (bsRow Tryz.prog 150 23 1 [(0, ρ x)] w (fillA [(0, ρ x)])) :=
 ex_bslice ρ dst t pos after gd w slA1 [(0, x)]
theorem zU8_len (n : Nat) : (zU8 n).length = n := by unfold zU8; simp
@[go_sem] theorem fillA_one (c : List Value) (h : c.length = 20) : fillA [(0, .agg c.toArray)] = some c := by
 unfold fillA
 have hz := zU8_len 20
 have : lay (zU8 20) 0 c = c := by
  have := lay_left (zU8 20) c [] (by simp [h, hz])
  simpa using this
 simp [fillL, h, Value.cells, this]
theorem s1_A (ρ : Operand → Value) (dst : Option Tmp) (x y : Operand) (t : TypeId) (pos : String) (after : Array Edge) (gd : Option (Nat × Bool)) (w : World) : (execOp ρ ⟨dst, .store 150 x y, t, pos, after, gd⟩).run Tryz.prog w = asSkip (stOne Tryz.prog 150 (ρ x) (ρ y) w) := ex_store1 ρ dst x y t pos after gd w (by kernel_rfl)
attribute [go_sem ↓] bsA1 s1_A
theorem infoA : (Tryz.prog.info? 23).map (fun i => (i.zero, i.size, i.bytes)) = some (some (.agg (zU8 20).toArray), 20, 20) := by kernel_rfl
theorem appendSeq212 (F : Fence) (n : Nat) (hF : F.fn 270) (hG : F.fn 184) (hro : F.round = none) (hn : 3 ≤ n) (Bm : Nat) (ks : List Nat) (w : World) (hN : ks.length ≤ 4000000)
  (hseq : ∀ w' : World, Below w.heap.size w w' → SeqStopsK F (n - 1) Tryz.prog 184 #[.pointer (some ⟨Bm, 0, none⟩)] (fun a : Nat => #[adV a]) KeepsWalks (fun ss => ss.Perm ks) (fun _ => True) ks.length w') :
  CallsIn F n Tryz.prog 270 #[.slice none 0 0, .func (.func 184) #[] #[.pointer (some ⟨Bm, 0, none⟩)]] w fun e W' => ∃ v ss, e = .returned v ∧ ss.Perm ks ∧ W'.ownsRow w.heap.size 23 20 v ss.length (adrC ss) ∧ (v = .slice none 0 0 ↔ ss = []) ∧ Below w.heap.size w W' := by
 obtain ⟨i0, hi, hz0, hz1, hz2⟩ := info_parts infoA
 have h1 : 1 ≤ n := by omega
 refine callsIn_of_wp_marks Tryz.func270 rfl hF ?_ hro
 try simp only [Tryz.ntmps270, List.size_toArray, List.length_cons, List.length_nil, Nat.reduceAdd, Nat.reduceSub, Array.replicate_succ, Array.replicate_zero, List.push_toArray, List.append_toArray, List.nil_append, List.cons_append]
 gi_wp2
 obtain ⟨W0, hW0⟩ : ∃ W0, w.alloc (.cells #[.slice none 0 0] 150) = W0 := ⟨_, rfl⟩
 have hsz : W0.heap.size = w.heap.size + 1 := by rw [← hW0]; simp
 have hB0 : Boxed W0 w.heap.size 150 (.slice none 0 0) := by rw [← hW0]; exact Boxed.new _ _ _
 have hBW : Below w.heap.size w W0 := by rw [← hW0]; exact (Below.refl _ w).alloc (Nat.le_refl _) _
 rw [hW0]
 have hO1 : OwnFrom W0.heap.size (fun (pre : List Nat) W => ∃ v, Boxed W w.heap.size 150 v ∧ W.ownsRow w.heap.size 23 20 v pre.length (adrC pre) ∧ (v = .slice none 0 0 ↔ pre = [])) :=
  _root_.Go.Own.from (holdsRow_own (β := List Nat) w.heap.size w.heap.size 150 23 20 (fun pre => pre.length) adrC (fun pre v => v = .slice none 0 0 ↔ pre = [])) _
 have hO2 : OwnFrom W0.heap.size (fun (_ : List Nat) W => Below w.heap.size w W) := ownFrom_below (Nat.le_refl _) (by rw [hsz]; omega)
 have hOI := OwnFrom.and hO1 hO2
 refine wpIn_rangeFunc_ownH hro h1 (gf := 184) (lb := #[.pointer (some ⟨Bm, 0, none⟩)]) rfl hG (enters_of Tryz.func184 (by kernel_rfl) rfl)
  (hseq W0 hBW) walksK_t walksK_b (Below.refl _ _) (fun _ => rfl)
  (fun pre W => (∃ v, Boxed W w.heap.size 150 v ∧ W.ownsRow w.heap.size 23 20 v pre.length (adrC pre) ∧ (v = .slice none 0 0 ↔ pre = [])) ∧ Below w.heap.size w W)
  (fun _ _ _ => False)
  hOI
  (fun _ _ _ _ _ h _ _ => h)
  ⟨⟨_, hB0, World.ownsRow_nil _ _ _ _, by simp⟩, hBW⟩
  (fun x a' W => ∃ Bx, w.heap.size < Bx ∧ W.row? Bx 0 20 = some (beC 20 x) ∧ a' = { tmps := #[.slice none 0 0, .func (.func 184) #[] #[.pointer (some ⟨Bm, 0, none⟩)], .pointer (some ⟨w.heap.size, 0, none⟩), undef, .slice none 0 0, .pointer (some ⟨Bx, 0, none⟩), .func (.func 184) #[] #[.pointer (some ⟨Bm, 0, none⟩)], adV x, undef, undef, undef, undef, undef], defers := [] })
  (fun x a' s X Y row h hg hr => by
   obtain ⟨Bx, hB, hrow, e⟩ := h
   exact ⟨Bx, hB, row_own Bx 20 _ () X Y row hrow hg (fun r e => (hr r e).2), e⟩) ?assign ?body ?done ?stop
 case assign =>
  rintro l pre x W K ⟨⟨v, hv, hrow, hnil⟩, hB⟩ hK
  have hf2 : (W.alloc (.cells (zU8 20).toArray 23)).free? W.heap.size 0 20 = true := World.free?_alloc_at _ _ rfl (by simp [zU8_len])
  have hok := beC_ok 20 x
  have hlen := okL_len hok
  have hr3 : ((W.alloc (.cells (zU8 20).toArray 23)).setCells W.heap.size 0 (beC 20 x)).row? W.heap.size 0 20 = some (beC 20 x) := by
   rw [World.row?_setCells_lay 0 (beC 20 x) (Nat.le_refl _) (by rw [hlen]; exact Nat.le_refl _), World.row?_alloc_at _ _ _ rfl (zU8_len 20)]
   show some (lay (zU8 20) 0 (beC 20 x)) = _
   rw [lay_all _ _ (by rw [hlen, zU8_len])]
  have hb3 : Below W.heap.size W ((W.alloc (.cells (zU8 20).toArray 23)).setCells W.heap.size 0 (beC 20 x)) := ((Below.refl _ W).alloc (Nat.le_refl _) _).setCells (Nat.le_refl _) _ _
  simp only [adV_eq] at hK ⊢
  gi_wp2
  refine hK _ _ ((Below.keepsOthers hb3).from _) (Below.keepsWalks hb3) ⟨⟨v, ?_, ?_, hnil⟩, ?_⟩ ⟨_, ?_, hr3, rfl⟩
  ·exact Boxed.kept hv (Below.asGrown hb3) (by simp)
  ·exact hrow.kept (Below.asGrown hb3) (by cases v.ownBlock <;> simp)
  ·exact hB.trans (hb3.mono hB.size)
  ·exact Nat.lt_of_lt_of_le hv.lt (Nat.le_refl _)
 case body =>
  rintro l pre x a' W hl _ ⟨⟨v, hv, hrow, hnil⟩, hB⟩ ⟨Bx, hBx, hrx, rfl⟩ hlt
  have hvc := hv.cell
  have hok := beC_ok 20 x
  have hlen := okL_len hok
  have hsW := hB.size
  gi_wp2_with (gi_at_builtin; go_must (refine wpListIn_append_own _ rfl _ _ 150 rfl w.heap.size 23 i0 _ 20 20 Tryz.underlying150 hi hz0 hz1 hz2 (by simp [Value.cells, zU8_len]) (by decide) _ _ _ rfl (hrow.alloc _) ⟨W.heap.size, 0, none⟩ 1 1 (beC 20 x) rfl (by rw [hlen]) (cell_row_new _ _ _) (okL_mem hok) (by unfold maxLen; omega) (by omega) (by simp; omega) ?_); intro v' w1 hown' hgrow _; obtain ⟨g', cap', rfl⟩ := ownsRow_succ hown'; obtain ⟨hv1, hv2, hr2, hk2, hb2⟩ := hv.appended (by decide) hrow hB.size (Nat.le_refl _) hown' hgrow; have hc1 := hv1.cell; have hf1 := Boxed.free hv1)
  refine ⟨hk2.from _, hk2.walks, ⟨⟨_, hv2, ?_, ?_⟩, ?_⟩⟩
  ·rw [adrC_snoc]; simpa using hr2
  ·simp
  ·exact hB.trans hb2
 case done =>
  rintro D xs W hD hp ⟨⟨v, hv, hrow, hnil⟩, hB⟩ hK
  have hvc := hv.cell
  gi_wp2
  refine ⟨by simp, .inl ⟨_, _, rfl, run_takeDeferred hK, ?_⟩⟩
  refine ⟨_, results_tmp rfl _ _ _, v, xs, rfl, hp, ownsRow_putObj hrow _ hK rfl, hnil, hB.trans (belowK_b (w := w) (Nat.le_refl _) W D _ _ (by omega) hK rfl rfl)⟩
 case stop =>
  rintro D c pre W hD _ h _
  exact h.elim
end Go.Proofs.YtfflppedbopdpaaGreat
namespace Go.Proofs.YtfflppedbopdpaaGreat
open Go.RowKit Go.Mun Go.Sort
theorem slice23 (b : Nat) (w : World) : (Instr.sliceAt 23 (.pointer (some ⟨b, 0, none⟩)) none none none).run Tryz.prog w = .ok (.slice (some ⟨b, 0, none⟩) 20 20) w := by
 kernel_rfl
theorem ints_beC {w : World} {b c k : Nat} {a : Nat} (h : w.row? b 0 k = some (beC k a)) (hk : k ≤ c) (hm : c ≤ maxLen) : Ints w .u8 (some ⟨b, 0, none⟩) c (be k a) := by
 refine ⟨fun _ => ⟨b, 0, rfl, fun i hi => ?_⟩, fun h => (by cases h), by simpa using hk, hm⟩
 have hi' : i < k := by simpa using hi
 have := World.row?_cell h (i := i) hi'
 rw [this]
 unfold beC
 rw [List.getElem?_map]
 cases hx : (be k a)[i]? with
 | none => rw [List.getElem?_eq_none_iff] at hx; simp at hx; omega
 | some y => simp
theorem closure72 (x y : Nat) (hx : x < wA) (hy : y < wA) (W : World) : Calls Tryz.prog 77 #[.agg (beC 20 x).toArray, .agg (beC 20 y).toArray] W fun e w' => e = .returned (.int .i64 (cmpZ x y)) ∧ ∃ q os', w' = grow (W.drewN q) os' := by
 obtain ⟨W2, e2⟩ : ∃ W2, W2 = (W.alloc (.cells (beC 20 x).toArray 23)).alloc (.cells (beC 20 y).toArray 23) := ⟨_, rfl⟩
 have h1 : W2.drew.row? W.heap.size 0 20 = some (beC 20 x) := by
  rw [World.row?_drew, e2, World.row?_alloc_lt _ (by simp)]; exact World.row?_alloc_at _ _ _ rfl (beC_len _ _)
 have h2 : W2.drew.row? (W.heap.size + 1) 0 20 = some (beC 20 y) := by
  rw [World.row?_drew, e2]; exact World.row?_alloc_at _ _ _ (by simp) (beC_len _ _)
 have hc := bytes_Compare (ints_beC h1 (Nat.le_refl 20) (by decide)) (ints_beC h2 (Nat.le_refl 20) (by decide))
 rw [be_len, be_len, cmp_be 20 x y hx hy] at hc
 have HC := hid hc
 have s1 := slice23 W.heap.size
 have s2 := slice23 (W.heap.size + 1)
 have HE := hid e2
 obtain ⟨T, hT⟩ : ∃ T : World → Prop, T = fun W' => W' = W2.drew := ⟨_, rfl⟩
 have HT := hid hT
 have t0 : T W2.drew := by rw [hT]
 clear hc hT h1 h2 e2 hx hy
 generalize cmpZ x y = r at *
 have hlx := beC_len 20 x
 have hly := beC_len 20 y
 go_enter Tryz.func77, Tryz.ntmps77
 go_wp2_with fail
 rw [← HE.out]
 refine wp_region_tree T [] (.pure 0 (.pure 1 (.alt 2 (.pure 3 .fin) .stop))) (by kernel_rfl) (by kernel_rfl) ?_
 iterate 2
  refine tree_pure ?_ rfl (by rfl) (fun w' hs => ?_) (fun _ _ _ h => h) ?_
  rotate_left
  ·clear hs
   go_simp
   try rfl
  simp only [Act.put, tsa, tsb, tsc]
 refine tree_run rfl (fun K hK => ?_)
 go_simp
 refine HC.out.mono ?_
 rintro e w' ⟨rfl, rfl⟩
 refine hK.out _ _ t0 ?_
 clear hK K
 refine tree_pure ?_ rfl (by rfl) (fun w' hs => ?_) (fun _ _ _ h => h) ?_
 rotate_left
 ·clear hs
  go_simp
  try rfl
 simp only [Act.put, tsa, tsb, tsc]
 refine tree_fin ?_
 go_wp2
 go_ret
 refine ⟨rfl, 1, #[.cells (beC 20 x).toArray 23, .cells (beC 20 y).toArray 23], ?_⟩
 rw [HE.out, alloc_eq_grow, alloc_eq_grow, grow_grow]
 rfl
end Go.Proofs.YtfflppedbopdpaaGreat
namespace Go.Proofs.YtfflppedbopdpaaGreat
open Go.RowKit Go.Mun
theorem _root_.Go.Mun.SlotsAt.form {w : World} {own : Go.Mun.Own} {sv : Value} {sl : List (Nat × Nat)} (h : SlotsAt w own sv sl) : ∃ a c, sv = .slice a sl.length c := by
 rcases h.read.2 with ⟨rfl, h0⟩ | ⟨g, cap, cur, rfl, _⟩
 ·exact ⟨none, 0, by rw [h0]⟩
 ·exact ⟨_, _, rfl⟩
theorem racC_ok {w : World} {own : Go.Mun.Own} {p : RAc × Value × Value} (h : RAcOk w own p) : okL 55 (racC p) = true := by
 obtain ⟨a, c, h1, _⟩ := h.code.read
 obtain ⟨a2, c2, h2⟩ := h.slots.form
 unfold racC
 rw [h1, h2]
 refine okL_cat (acS_len _ _ _) fun s hs => ?_
 simp only [acS, List.mem_cons, List.not_mem_nil, or_false] at hs
 rcases hs with rfl | rfl | rfl | rfl | rfl
 all_goals first | rfl | (rw [beC_len]; exact beC_ok _ _)
theorem rowsR_ok {w : World} {own : Go.Mun.Own} {ps : List (RAc × Value × Value)} (h : ∀ p ∈ ps, RAcOk w own p) : okL (ps.length * 55) (rowsR ps) = true := by
 refine okL_mk (rowsR_len ps) fun v hv => ?_
 obtain ⟨p, hp, hv2⟩ := List.mem_flatMap.1 hv
 exact okL_mem (racC_ok (h p hp)) v hv2
def tailV (a : Option Addr) (n c k : Nat) : Option Addr := if c = k then a else a.map (·.add (k * 55))
theorem slice31_tail (a : Option Addr) (n c k : Nat) (hk : k ≤ n) (w : World) : (Instr.slice 45 (.slice a n c) (some (.int .i64 (k : Int))) none none).run Tryz.prog w = .ok (.slice (tailV a n c k) (n - k) (c - k)) w := by
 have he : Tryz.prog.elem 45 = 35 := by kernel_rfl
 have hs : (sizeOf 35).run Tryz.prog w = .ok 55 w := by kernel_rfl
 rw [run_slice_l w 45 a n c (by rw [he]; exact Tryz.underlying45) .i64 (k : Int) (by omega) (by omega), he, hs]
 simp only [Result.andThen, sliced, Int.toNat_natCast]
 rfl
theorem slice31_head (a : Option Addr) (n c k : Nat) (hk : k ≤ c) (w : World) : (Instr.slice 45 (.slice a n c) none (some (.int .i64 (k : Int))) none).run Tryz.prog w = .ok (.slice a k c) w := by
 have he : Tryz.prog.elem 45 = 35 := by kernel_rfl
 have hs : (sizeOf 35).run Tryz.prog w = .ok 55 w := by kernel_rfl
 rw [run_slice_h w 45 a n c (by rw [he]; exact Tryz.underlying45) .i64 (k : Int) (by omega) (by omega), he, hs]
 have ha : (if c = 0 then a else a.map (·.add (0 * 55))) = a := by
  split
  ·rfl
  ·cases a with
   | none => rfl
   | some a => simp [Addr.add]
 simp only [Result.andThen, sliced, Int.toNat_natCast, Nat.sub_zero, ha]
section
variable {w : World} {own : Go.Mun.Own} {a : Option Addr} {c n : Nat} {ps : List (RAc × Value × Value)}
theorem _root_.Go.Mun.RArr.src_tail (h : RArr w own (.slice a ps.length c) ps) (k : Nat) (hk : k ≤ ps.length) : SrcAt w (tailV a ps.length c k) (c - k) (ps.length - k) 55 (rowsR (ps.drop k)) := by
 refine ⟨?_, fun hm => ?_, fun e => ?_⟩
 ·have := rowsR_ok (ps := ps.drop k) (fun p hp => h.ok p (List.mem_of_mem_drop hp))
  rwa [List.length_drop] at this
 ·obtain ⟨g, c', hv, _, hc, _, hr, _⟩ := own_words h.cells (by omega)
  cases hv
  refine ⟨g, k * 55, ?_, fun j u hu => ?_⟩
  ·unfold tailV
   rw [if_neg (by omega), Option.map_some, add_off rfl, Nat.zero_add]
  ·rw [← rowsR_drop, List.getElem?_drop] at hu
   have hj := (List.getElem?_eq_some_iff.1 hu).1
   rw [rowsR_len] at hj
   have := World.row?_cell hr (i := k * 55 + j) hj
   rw [Nat.zero_add] at this
   rw [this]; exact hu
 ·rcases h.cells.2 with ⟨h1, h2⟩ | ⟨g, cap, cur, h1, h2, h3, h4⟩
  ·injection h1 with e1 e2 e3; omega
  ·injection h1 with e1 e2 e3
   subst e1
   unfold tailV at e
   split at e <;> simp at e
theorem _root_.Go.Mun.RArr.src_head (h : RArr w own (.slice a ps.length c) ps) (k : Nat) (hk : k ≤ ps.length) : SrcAt w a c k 55 (rowsR (ps.take k)) := by
 refine ⟨?_, fun hm => ?_, fun e => ?_⟩
 ·have := rowsR_ok (ps := ps.take k) (fun p hp => h.ok p (List.mem_of_mem_take hp))
  rwa [List.length_take, Nat.min_eq_left hk] at this
 ·obtain ⟨g, c', hv, _, hc, _, hr, _⟩ := own_words h.cells (by omega)
  cases hv
  refine ⟨g, 0, rfl, fun j u hu => ?_⟩
  rw [← rowsR_take, List.getElem?_take] at hu
  split at hu
  ·have hj := (List.getElem?_eq_some_iff.1 hu).1
   rw [rowsR_len] at hj
   have := World.row?_cell hr (i := j) hj
   rw [Nat.zero_add] at this ⊢
   rw [this]; exact hu
  ·cases hu
 ·subst e
  rcases h.cells.2 with ⟨h1, h2⟩ | ⟨g, cap, cur, h1, h2, h3, h4⟩
  ·injection h1 with e1 e2 e3; omega
  ·injection h1 with e1 e2 e3; cases e1
theorem _root_.Go.Mun.RArr.form {v : Value} (h : RArr w own v ps) : ∃ a c, v = .slice a ps.length c := by
 rcases h.cells.2 with ⟨rfl, h0⟩ | ⟨g, cap, cur, rfl, _⟩
 ·exact ⟨none, 0, by rw [h0]⟩
 ·exact ⟨_, _, rfl⟩
theorem rowsR_at (ps : List (RAc × Value × Value)) (i : Nat) (hi : i < ps.length) : ((rowsR ps).drop (i * 55)).take 55 = racC ps[i] := by
 rw [rowsR_drop, List.drop_eq_getElem_cons hi, rowsR_cons, List.take_left' (racC_len _)]
theorem _root_.Go.Mun.RArr.row {v : Value} (h : RArr w own v ps) {i : Nat} (hi : i < ps.length) : ∃ g c, v = .slice (some ⟨g, 0, none⟩) ps.length c ∧ own g = some .acc ∧ w.row? g (i * 55) 55 = some (racC ps[i]) ∧ w.free? g (i * 55) 55 = true := by
 obtain ⟨g, c, rfl, _, hc, _, hr, hf⟩ := own_words h.cells (by omega)
 refine ⟨g, c, rfl, h.lab g rfl, ?_, World.free?_sub hf (by omega)⟩
 have h1 := World.row?_sub hr (o' := i * 55) (n' := 55) (by omega) (by omega)
 rw [h1, Nat.sub_zero, rowsR_at ps i hi]
end
theorem slice23o (b o : Nat) (w : World) : (Instr.sliceAt 23 (.pointer (some ⟨b, o, none⟩)) none none none).run Tryz.prog w = .ok (.slice (some ⟨b, o, none⟩) 20 20) w := by
 have hl : Tryz.prog.arrayLen 23 = 20 := by kernel_rfl
 have he : Tryz.prog.elem 23 = 5 := by kernel_rfl
 have hs : (sizeOf 5).run Tryz.prog w = .ok 1 w := by kernel_rfl
 rw [run_sliceAt_array_all w 23 ⟨b, o, none⟩ (by rw [hl, he]; exact Tryz.underlying23), he, hs, hl]
 simp only [Result.andThen, slicedAt, Nat.zero_mul, Nat.sub_zero]
 rw [if_neg (by omega), add_off rfl, Nat.add_zero]
theorem adr_string {w : World} {b o x : Nat} (h : w.row? b o 20 = some (beC 20 x)) : (convert 26 9 (.slice (some ⟨b, o, none⟩) 20 20)).run Tryz.prog w = .ok (.string (strOf (be 20 x))) w := by
 refine run_bytes_string' (P := Tryz.prog) Tryz.underlying26 Tryz.underlying5 Tryz.underlying9 (by simp) ?_
 refine ⟨fun _ => ⟨b, o, rfl, fun i hi => ?_⟩, fun h => (by cases h), by simp, by decide⟩
 have hi' : i < 20 := by simpa using hi
 rw [World.row?_cell h hi']
 unfold beC
 rw [List.getElem?_map]
 cases hx : (be 20 x)[i]? with
 | none => rw [List.getElem?_eq_none_iff] at hx; simp at hx; omega
 | some y => simp
end Go.Proofs.YtfflppedbopdpaaGreat
