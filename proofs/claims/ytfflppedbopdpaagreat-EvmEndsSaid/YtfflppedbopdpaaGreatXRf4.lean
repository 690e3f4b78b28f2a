/-
  The reference's Pop.
  A block that is one row, and what is copied into it (out of another seat's texts).
  The reference's Cut.
  The reference's machine: what PUSH does.
  The reference's machine: values are taken; what STOP does.
  The reference's machine: what instructions without memory of their own cost besides.
  The reference's machine: a code is run, told of what each instruction costs and does.
  The reference's machine: what a run of PUSH and STOP is told.
  The reference's machine: what a message comes to.
  The reference's machine: a frame is made.
-/
import Derived.Test.YtfflppedbopdpaaGreatXRs17
import Derived.Test.YtfflppedbopdpaaGreatXEv9
set_option linter.unusedVariables false
set_option maxRecDepth 1000000
set_option maxHeartbeats 8000000
set_option linter.unusedSimpArgs false
namespace Go.Proofs.YtfflppedbopdpaaGreat
open Go.RowKit Go.Mun

theorem slice129_head (a : Option Addr) (n c k : Nat) (hk : k ≤ c) (w : World) : (Instr.slice 56 (.slice a n c) none (some (.int .i64 (k : Int))) none).run Tryz.prog w = .ok (.slice a k c) w := by
 have he : Tryz.prog.elem 56 = 25 := by kernel_rfl
 have hs : (sizeOf 25).run Tryz.prog w = .ok 32 w := by kernel_rfl
 rw [run_slice_h w 56 a n c (by rw [he]; exact Tryz.underlying56) .i64 (k : Int) (by omega) (by omega), he, hs]
 have ha : (if c = 0 then a else a.map (·.add (0 * 32))) = a := by
  split
  ·rfl
  ·cases a with
   | none => rfl
   | some a => simp [Addr.add]
 simp only [Result.andThen, sliced, Int.toNat_natCast, Nat.sub_zero, ha]
theorem stkC_oneR (l : List Nat) (i : Nat) (hi : i < l.length) : ((stkC l).drop (i * 32)).take 32 = beC 32 l[i] := by
 rw [stkC_drop, List.drop_eq_getElem_cons hi]
 have : stkC (l[i] :: l.drop (i + 1)) = beC 32 l[i] ++ stkC (l.drop (i + 1)) := by unfold stkC; rw [List.flatMap_cons]
 rw [this, List.take_left' (by simp)]
theorem r_pop0 {w : World} {b o : Nat} {sv : Value} {l : List Nat} (k : Nat) (h : w.cell? ⟨b, o, none⟩ = some sv) (hf : w.free? b o 1 = true) (hr : w.ownsRow 0 25 32 sv l.length (stkC l))
  (hk : k ≤ l.length) (hl : l.length ≤ 1024) :
  Calls Tryz.prog 263 #[.pointer (some ⟨b, o, none⟩), .int .i64 (k : Int)] w fun e w' => ∃ v sv' w1, e = .returned (.tuple #[v, .bool true]) ∧ w' = w1.setCell ⟨b, o, none⟩ sv' ∧ Below w.heap.size w w1 ∧
   w1.ownsRow w.heap.size 25 32 v k (stkC (l.reverse.take k)) ∧ w1.ownsRow 0 25 32 sv' (l.take (l.length - k)).length (stkC (l.take (l.length - k))) ∧ ∀ g, sv'.ownBlock = some g → sv.ownBlock = some g := by
 have hbl : b < w.heap.size := free?_lt hf
 obtain ⟨a, c, rfl⟩ := own_shape hr
 have hcap : l.length ≤ c := by
  rcases hr.2 with ⟨e, h0⟩ | ⟨g, c', cur, e, _, _, h3, _⟩
  ·omega
  ·injection e with e1 e2 e3; omega
 obtain ⟨n, hn⟩ : ∃ n, n = l.length := ⟨_, rfl⟩
 have HTK : Hid (w.ownsRow 0 25 32 (.slice a (n - k) c) (l.take (n - k)).length (stkC (l.take (n - k)))) := by
  rw [hn]
  have hlen : (l.take (l.length - k)).length = l.length - k := by rw [List.length_take, Nat.min_eq_left (Nat.sub_le _ _)]
  rcases hr.2 with ⟨e, h0⟩ | ⟨g, c', cur, e, _, _, _, _⟩
  ·have : l = [] := List.eq_nil_of_length_eq_zero h0
   subst this
   injection e with e1 e2 e3
   subst e1 e3
   show World.ownsRow _ _ _ _ _ _ _
   rw [show ([] : List Nat).length - k = 0 by simp]
   exact World.ownsRow_nil _ _ _ _
  ·injection e with e1 e2 e3
   subst e1 e3
   have := own_take hr (Nat.sub_le l.length k)
   rw [stkC_take] at this
   rw [hlen]
   exact this
 have HAT : Hid (∀ j, j < n → ∃ g, a = some ⟨g, 0, none⟩ ∧ g < w.heap.size ∧ w.row? g ((n - 1 - j) * 32) 32 = some (beC 32 (l.reverse[j]?.getD 0))) := by
  intro j hj
  obtain ⟨g, c', e, _, _, _, hrow, _⟩ := own_words hr (by omega)
  cases e
  refine ⟨g, rfl, World.row?_lt hrow, ?_⟩
  have h1 := World.row?_sub hrow (o' := (n - 1 - j) * 32) (n' := 32) (Nat.zero_le _) (by omega)
  rw [h1, Nat.sub_zero, stkC_oneR l (n - 1 - j) (by omega), List.getElem?_reverse (by omega), List.getElem?_eq_getElem (by omega)]
  simp only [Option.getD_some]
  congr 2
  ·congr 1; omega
 have hsl := slice129_head a n c (n - k) (by omega)
 have hnk : IntKind.i64.wrap ((n : Int) - (k : Int)) = ((n - k : Nat) : Int) := by rw [wrI _ (by omega) (by omega)]; omega
 have hlt : ¬ (k : Int) < 0 := by omega
 have hgt : ¬ (n : Int) < (k : Int) := by omega
 rw [← hn] at h hcap hk hl ⊢
 have HF := hid hf
 have HN := hid hn
 have HH := hid h
 clear hr hn hf
 go_enter Tryz.func263, Tryz.ntmps263
 go_wp2_with fail
 go_loopw [6, 7] (fun u ix wr => ∃ j : Nat, j ≤ k ∧ ix = .int .i64 (j : Int) ∧ Hid (Below w.heap.size w wr ∧ wr.ownsRow w.heap.size 25 32 u j (stkC (l.reverse.take j)))) (fun _ ix _ => k - (intOf ix).toNat)
 case atStart => exact ⟨0, by omega, rfl, Below.refl _ _, World.ownsRow_nil _ _ _ _⟩
 case round =>
  obtain ⟨j, hj, rfl, HR⟩ := hrel
  have c1 : wr.cell? ⟨b, o, none⟩ = some (.slice a n c) := (HR.out.1.cell (p := ⟨b, o, none⟩) hbl).trans HH.out
  have hsz := HR.out.1.size
  by_cases hjk : j < k
  ·have hI : (j : Int) < k := by omega
   obtain ⟨g, rfl, hg, hr0⟩ := HAT.out j (by omega)
   obtain ⟨y, hy⟩ : ∃ y, y = l.reverse[j]?.getD 0 := ⟨_, rfl⟩
   rw [← hy] at hr0
   obtain ⟨i1, hi1⟩ : ∃ i1, i1 = n - 1 - j := ⟨_, rfl⟩
   rw [← hi1] at hr0
   have e1 : IntKind.i64.wrap ((n : Int) - 1) = (n : Int) - 1 := wrI _ (by omega) (by omega)
   have e2 : IntKind.i64.wrap ((n : Int) - 1 - (j : Int)) = (i1 : Int) := by rw [wrI _ (by omega) (by omega)]; omega
   have hi2 : i1 < n := by omega
   have hi2I : (i1 : Int) < n := by omega
   have hly := beC_len 32 y
   have hrw : wr.row? g (i1 * 32) 32 = some (beC 32 y) := ((brow HR.out.1).1 _ _ _ hg).trans hr0
   obtain ⟨T, hT⟩ : ∃ T : World → Prop, T = fun W => W.cell? ⟨b, o, none⟩ = some (.slice (some ⟨g, 0, none⟩) n c) ∧ W.row? g (i1 * 32) 32 = some (beC 32 y) := ⟨_, rfl⟩
   have HT := hid hT
   have t0 : T wr.drew := by rw [hT]; exact ⟨c1, hrw⟩
   have HTKE : Hid (l.reverse.take (j + 1) = l.reverse.take j ++ [y]) := by
    show _ = _
    rw [List.take_add_one, hy]
    have : j < l.reverse.length := by rw [List.length_reverse, ← HN.out]; omega
    rw [List.getElem?_eq_getElem this]; rfl
   have hbw : b < wr.heap.size := by omega
   have hgw : g < wr.heap.size := by omega
   have hok := beC_ok 32 y
   have hww : w.heap.size ≤ wr.heap.size := hsz
   have HRW : Hid (w.row? g (i1 * 32) 32 = some (beC 32 y)) := hr0
   clear hT hy hi1 hr0 hrw c1 hlt hgt hsl
   go_wp2_with fail
   refine wp_region_tree T [] (.pure 0 (.pure 1 (.pure 2 (.pure 3 (.take 4 (.pure 5 (.pure 6 (.pure 7 (.take 8 (.pure 9 (.pure 10 (.pure 11 (.pure 12 (.pure 13 (.take 14 (.alt 15 (.alt 16 (.pure 17 .fin) .stop) .stop)))))))))))))))) (by kernel_rfl) (by kernel_rfl) ?_
   iterate 15
    first
    |refine tree_pure ?_ rfl (by rfl) (fun w' hs => ?_) (fun _ _ _ h => h) ?_
     rotate_left
     ·clear hs
      go_simp
      try rfl
     simp only [Act.put, tsa, tsb, tsc]
    |refine tree_take ?_ t0 rfl (by rfl) (fun w' hs => ?_) (fun _ _ _ h => h) ?_
     rotate_left
     ·rw [HT.out] at hs
      obtain ⟨s1, s2⟩ := hs
      go_simp
      try rfl
     simp only [Act.put, tsa, tsb, tsc]
   refine tree_run rfl (fun K hK => ?_)
   go_simp
   have t1 : T (wr.drew.alloc (.cells (beC 32 y).toArray 25)) := by
    rw [HT.out] at t0 ⊢
    exact ⟨(World.cell?_alloc_lt _ _ _ hbw).trans t0.1, (World.row?_alloc_lt _ hgw).trans t0.2⟩
   refine hK.out _ _ t1 ?_
   clear hK K
   refine tree_run rfl (fun K hK => ?_)
   have hown : (wr.drew.alloc (.cells (beC 32 y).toArray 25)).ownsRow w.heap.size 25 32 _ j (stkC (l.reverse.take j)) := Only.own (S := fun _ => False) HR.out.2 ((Only.refl _ _).drew.alloc _) (fun _ _ h => h)
   have hge := ownsRow_ge hown
   refine step_app elem33 rfl _ _ rfl (ownsRow_mono hown (Nat.zero_le _)) rfl (SrcAt.new wr.drew (m := 1) (size := 32) (cs := beC 32 y) 25 (0, 0) hok 1) rfl (by unfold maxLen; omega) (by omega) ?_
   intro u' w3 hr3 ho3 hl3
   have hB3 : Below w.heap.size w w3 := (HR.out.1.trans (((Below.refl _ _).drew.alloc (Nat.le_refl _) _).mono hsz)).trans (ho3.below (by simp; omega) (fun i hi => hge i hi))
   have hr3' : w3.ownsRow w.heap.size 25 32 u' (j + 1) (stkC (l.reverse.take (j + 1))) := by
    rw [HTKE.out]
    have e : stkC (l.reverse.take j ++ [y]) = stkC (l.reverse.take j) ++ beC 32 y := by simp [stkC]
    rw [e]
    exact ownsRow_base hr3 (fun g2 hg2 => by
     rcases hl3 g2 hg2 with h | h
     ·exact hge g2 h
     ·simp at h; omega)
   have t3 : T w3 := by
    rw [HT.out]
    exact ⟨(hB3.cell (p := ⟨b, o, none⟩) hbl).trans HH.out, ((brow hB3).1 _ _ _ hg).trans HRW.out⟩
   have HN3 : Hid (Below w.heap.size w w3 ∧ w3.ownsRow w.heap.size 25 32 u' (j + 1) (stkC (l.reverse.take (j + 1)))) := ⟨hB3, hr3'⟩
   clear hr3 ho3 hl3 hown hge hB3 hr3'
   refine hK.out _ _ t3 ?_
   clear hK K
   refine tree_pure ?_ rfl (by rfl) (fun w' hs => ?_) (fun _ _ _ h => h) ?_
   rotate_left
   ·clear hs
    go_simp
    try rfl
   simp only [Act.put, tsa, tsb, tsc]
   refine tree_fin ?_
   clear t0 t1 t3
   go_wp2_with fail
   go_roundw
   case rel => exact ⟨j + 1, by omega, by go_num, HN3⟩
   case measure => simp [intOf]; omega
  ·obtain rfl : j = k := by omega
   have hI : ¬ (j : Int) < j := by omega
   have hfw : wr.free? b o 1 = true := ((brow HR.out.1).2 _ _ _ hbl).trans HF.out
   have hfd : wr.drew.free? b o 1 = true := hfw
   have cd : wr.drew.cell? ⟨b, o, none⟩ = some (.slice a n c) := c1
   clear hjk
   go_wp2_with fail
   go_still_tail 13, (by kernel_rfl)
   go_wp2
   go_ret2
   refine ⟨_, _, wr.drew, rfl, rfl, HR.out.1.drew, HR.out.2, ?_, fun g hg => by cases a <;> exact hg⟩
   have := ownsRow_below HTK.out (HR.out.1.drew)
   exact this
end Go.Proofs.YtfflppedbopdpaaGreat
namespace Go.Mun
def getK (l : Bts) (p n : Nat) : Bts := (l.drop p ++ List.replicate n 0).take n
theorem getK_len (l : Bts) (p n : Nat) : (getK l p n).length = n := by
 unfold getK
 rw [List.length_take, List.length_append, List.length_replicate]
 omega
end Go.Mun
namespace Go.Proofs.YtfflppedbopdpaaGreat
open Go.RowKit Go.Mun

def Whole (w : World) (b : Nat) (t : TypeId) (L : List Value) : Prop := w.heap[b]? = some (.cells L.toArray t (0, 0))
theorem Whole.new (w : World) (t : TypeId) (L : List Value) : Whole (w.alloc (.cells L.toArray t)) w.heap.size t L := heap_alloc_new w (.cells L.toArray t)
theorem Whole.lt {w : World} {b : Nat} {t : TypeId} {L : List Value} (h : Whole w b t L) : b < w.heap.size := (Array.getElem?_eq_some_iff.1 h).1
theorem Whole.set {w : World} {b : Nat} {t : TypeId} {L : List Value} (h : Whole w b t L) (i : Nat) (v : Value) : Whole (w.setCell ⟨b, i, none⟩ v) b t (L.set i v) := by
 have := setCell_heap (w := w) (b := b) (o := i) L.toArray t (0, 0) v h
 unfold Whole
 rw [this, List.setIfInBounds_toArray]
theorem Whole.only {w w' : World} {S : Nat → Prop} {b : Nat} {t : TypeId} {L : List Value} (h : Whole w b t L) (ho : Only S w w') (hs : ¬ S b) : Whole w' b t L := (ho.block b h.lt hs).trans h
theorem Whole.below {w w' : World} {b : Nat} {t : TypeId} {L : List Value} (h : Whole w b t L) (hb : Below w.heap.size w w') : Whole w' b t L := h.only (S := fun _ => False) (Only.of_below_size hb) (fun h => h)
theorem Whole.arr {w : World} {b n : Nat} {t : TypeId} {L : List Value} (h : Whole w b t L) (hn : L.length = n) : Arr w b n L := by
 subst hn
 refine ⟨?_, ?_⟩
 ·unfold World.row?
  rw [show w.heap[b]? = _ from h]
  simp
 ·unfold World.free?
  rw [show w.heap[b]? = _ from h]
  simp
theorem only_setRow (w : World) (g : Nat) (cs : Array Value) : Only (· = g) w (w.setRow g cs) :=
 ⟨rfl, rfl, rfl, by simp [World.setRow], fun k _ hs => setRow_other w g k cs hs⟩
theorem step_copy_only {P : Program} {ops : Array Oper} {o : Oper} {a : Act} {w : World} {K : Act → World → Prop} {Q : Exit → Act → World → Prop} {E : Prop} (hgd : o.guard = none) (d s : Operand) (dT sT : TypeId)
  (ho : o.op = .call { callee := .builtin .copy, args := #[d, s], argTypes := #[dT, sT] }) (elem : TypeId) (hu : P.underlying dT = some (.slice elem)) (hsz : (P.info? elem).map (·.size) = some 1)
  (dp sp : Option Addr) (dLen dCap sLen sCap : Nat) (hd : a.eval d = .slice dp dLen dCap) (hs : a.eval s = .slice sp sLen sCap)
  (g off : Nat) (cur : List Value) (t : TypeId) (hg : Whole w g t cur) (cs : List Value) (hn : cs.length = Nat.min sLen dLen)
  (hpos : 0 < cs.length → dp = some ⟨g, off, none⟩ ∧ ∃ ad, sp = some ad ∧ ∀ j v, cs[j]? = some v → w.cell? (ad.add j) = some v)
  (hfit : off + cs.length ≤ cur.length) (h1 : ∀ v ∈ cs, v.oneCell' = true)
  (h : ∀ w', Hid (Whole w' g t (splice cur off cs)) → Only (· = g) w w' → K (a.put o.dst (goInt cs.length)) w') :
  if Region.wanted o (yielded ops a.tmps) = true then Oper.wp P o a w K Q else E := by
 have hw : Region.wanted o (yielded ops a.tmps) = true := by simp [Region.wanted, hgd]
 rw [if_pos hw]
 by_cases h0 : cs.length = 0
 ·obtain rfl : cs = [] := List.eq_nil_of_length_eq_zero h0
  have hrun := run_copy_none (P := P) w dT sT o.type elem dp sp dLen dCap sLen sCap hu hsz (by simpa using hn.symm)
  unfold Oper.wp
  simp [execOp, ho, resolve, invoke, builtin, hd, hs, hrun, Result.andThen]
  exact h w (show Whole _ _ _ _ by simpa [splice] using hg) (Only.refl _ _)
 ·obtain ⟨rfl, ad, rfl, hsrc⟩ := hpos (by omega)
  have hrun := run_copy_row (P := P) w dT sT o.type elem g off dLen dCap ad sLen sCap cur.toArray t cs hu hsz hg hn hsrc (by simpa using hfit) h1
  unfold Oper.wp
  simp [execOp, ho, resolve, invoke, builtin, hd, hs, hrun, Result.andThen]
  exact h _ (show _ = _ by simpa [splice] using setRow_heap w g _ _ t _ hg) (only_setRow _ _ _)
theorem splice_cat {l : List (List Value)} {i : Nat} {s : List Value} (hs : l[i]? = some s) {v : List Value} (hv : v.length = s.length) {p : Nat} (hp : p = offOf l i) : splice (cat l) p v = cat (l.set i v) := by
 subst hp
 have hle := off_le hs
 rw [← lay_eq _ _ _ (by omega), lay_cat hs hv]
theorem Whole.seg {w : World} {b : Nat} {t : TypeId} {l : List (List Value)} (h : Whole w b t (cat l)) {i : Nat} {u : Value} (hs : l[i]? = some [u]) (v : Value) {p : Nat} (hp : p = offOf l i) : Whole (w.setCell ⟨b, p, none⟩ v) b t (cat (l.set i [v])) := by
 have h1 := h.set p v
 have hle := off_le hs
 rw [← splice_one _ _ _ (by subst hp; simp at hle; omega), splice_cat (v := [v]) hs rfl hp] at h1
 exact h1
theorem _root_.Go.Mun.Arr.seg {w : World} {b N : Nat} {l : List (List Value)} (h : Arr w b N (cat l)) {i : Nat} {u : Value} (hs : l[i]? = some [u]) (v : Value) {p : Nat} (hp : p = offOf l i) : Arr (w.setCell ⟨b, p, none⟩ v) b N (cat (l.set i [v])) := by
 have hle := off_le hs
 have hN := h.len
 exact ⟨cell_cat_set h.row hs v (by omega), by rw [free?_setCell _ (h.free1 (i := p) (by subst hp; simp at hle; omega))]; exact h.free⟩
theorem ints_src {w : World} {a : Option Addr} {c : Nat} {l : Bts} (hI : Ints w .u8 a c l) (hl : 0 < l.length) : ∃ ad, a = some ad ∧ ∀ j v, (u8L l)[j]? = some v → w.cell? (ad.add j) = some v := by
 obtain ⟨b, off, ha, hbl, hc⟩ := hI.at hl
 refine ⟨_, ha, fun j v hv => ?_⟩
 have hj : j < l.length := by have := (List.getElem?_eq_some_iff.1 hv).1; simpa using this
 have h2 : v = .int .u8 (l[j]?.getD 0) := by
  rw [List.getElem?_eq_getElem (by simpa using hj)] at hv
  rw [List.getElem?_eq_getElem hj]
  simp [u8L] at hv
  simpa using hv.symm
 rw [h2, show (⟨b, off, none⟩ : Addr).add j = ⟨b, off + j, none⟩ from add_off rfl]
 exact hc j hj
theorem ints_part {w : World} {b off c : Nat} {L : Bts} (h : Ints w .u8 (some ⟨b, off, none⟩) c L) (p q : Nat) (hpq : p + q ≤ L.length) (hp : p < c) : Ints w .u8 (some ⟨b, off + p, none⟩) (c - p) ((L.drop p).take q) := by
 have hl := h.len
 have hll : ((L.drop p).take q).length = q := by rw [List.length_take, List.length_drop]; omega
 refine ⟨fun hn => ?_, fun e => (by cases e), (by rw [hll]; omega), Nat.le_trans (Nat.sub_le _ _) h.cap⟩
 have hq : 0 < q := by rw [← hll]; exact List.length_pos_iff.2 hn
 obtain ⟨b', o', ha, _, hc⟩ := h.at (i := 0) (by omega)
 cases ha
 refine ⟨b, off + p, rfl, fun i hi => ?_⟩
 rw [hll] at hi
 have := hc (p + i) (by omega)
 rw [Nat.add_assoc, this, List.getElem?_take, if_pos hi, List.getElem?_drop]
theorem slice_rest {w : World} {b off c : Nat} {L : Bts} (h : Ints w .u8 (some ⟨b, off, none⟩) c L) (p : Nat) (hp0 : p ≤ L.length) :
  ∃ o' c', (∀ w', (Instr.slice 26 (.slice (some ⟨b, off, none⟩) L.length c) (some (.int .i64 (p : Int))) none none).run Tryz.prog w' = .ok (.slice (some ⟨b, o', none⟩) (L.length - p) c') w') ∧ Ints w .u8 (some ⟨b, o', none⟩) c' (L.drop p) := by
 have hl := h.len
 have he : Tryz.prog.elem 26 = 5 := by kernel_rfl
 have hs : ∀ w', (sizeOf 5).run Tryz.prog w' = .ok 1 w' := fun w' => by kernel_rfl
 by_cases hp : p < c
 ·refine ⟨off + p, c - p, fun w' => ?_, ?_⟩
  ·rw [run_slice_l w' 26 (some ⟨b, off, none⟩) L.length c (by rw [he]; exact Tryz.underlying26) .i64 (p : Int) (by omega) (by omega), he, hs]
   simp only [Result.andThen, sliced, Int.toNat_natCast, Nat.mul_one]
   rw [if_neg (by omega), Option.map_some, add_off rfl]
  ·have := ints_part h p (L.length - p) (by omega) hp
   rw [List.take_of_length_le (by rw [List.length_drop]; omega)] at this
   exact this
 ·have hpc : c = p := by omega
  have hlp : L.length = p := by omega
  refine ⟨off, 0, fun w' => ?_, ⟨fun hn => absurd (List.drop_of_length_le (by omega)) hn, fun e => (by cases e), by simp [hlp], Nat.zero_le _⟩⟩
  rw [run_slice_l w' 26 (some ⟨b, off, none⟩) L.length c (by rw [he]; exact Tryz.underlying26) .i64 (p : Int) (by omega) (by omega), he, hs]
  simp only [Result.andThen, sliced, Int.toNat_natCast, Nat.mul_one]
  rw [if_pos hpc, hpc, Nat.sub_self]
theorem getK_out (l : Bts) (p n : Nat) (h : l.length ≤ p) : u8L (getK l p n) = zU8 n := by
 unfold getK
 rw [List.drop_of_length_le h, List.nil_append, List.take_of_length_le (by simp)]
 simp [u8L, zU8]
theorem getK_splice (l : Bts) (p n : Nat) : splice (zU8 n) 0 (u8L ((l.drop p).take n)) = u8L (getK l p n) := by
 unfold splice getK
 rw [List.take_zero, List.nil_append, Nat.zero_add, List.take_append]
 simp only [u8L, List.map_append, List.length_map]
 congr 1
 rw [List.length_take]
 simp [zU8, List.drop_replicate, List.take_replicate]
 omega
theorem ref_Cut {w : World} {sa : Option Addr} {sc : Nat} {l : Bts} (p n : Nat) (hp : p ≤ 4398046511104) (hn : n ≤ 1048576) (hI : Ints w .u8 sa sc l) (hl : l.length ≤ 1099511627776) :
  Calls Tryz.prog 259 #[.slice sa l.length sc, .int .i64 p, .int .i64 n] w fun e w' => ∃ v, e = .returned v ∧ NewB w w' v (getK l p n) := by
 obtain ⟨w0, e0⟩ : ∃ w0, w0 = w.alloc (.cells (zU8 n).toArray 5) := ⟨_, rfl⟩
 have hb0 : Below w.heap.size w w0 := by rw [e0]; exact (Below.refl _ _).alloc (Nat.le_refl _) _
 have hw0 : Whole w0 w.heap.size 5 (zU8 n) := by rw [e0]; exact Whole.new w 5 (zU8 n)
 have hmk : ∀ w', (Instr.makeSlice 26 (.int .i64 (n : Int)) (.int .i64 (n : Int))).run Tryz.prog w' = .ok (.slice (some ⟨w'.heap.size, 0, none⟩) n n) (w'.alloc (.cells (zU8 n).toArray 5)) := fun w' => run_makeU8 elem26 (n : Int) n rfl (by omega) w'
 have HE := hid e0
 have HB := hid hb0
 have HW0 := hid hw0
 have HI := hid (hI.below hb0)
 have HN := hid hn
 have HL := hid hl
 clear e0 hb0 hw0 hI
 by_cases hlt : p < l.length
 ·have d4 : decide ((p : Int) < (l.length : Int)) = true := decide_eq_true (by omega)
  have d5 : (p < l.length) = True := eq_true hlt
  obtain ⟨gb, off, ha, _, _⟩ := HI.out.at (i := 0) (by omega)
  subst ha
  obtain ⟨o', c', hsl, hI2⟩ := slice_rest HI.out p (by omega)
  have HI2 := hid hI2
  have hcl : (u8L ((l.drop p).take n)).length = Nat.min (l.length - p) n := by
   simp only [u8L, List.length_map, List.length_take, List.length_drop]
   exact Nat.min_comm _ _
  have HCL := hid hcl
  have HSRC : Hid (0 < (u8L ((l.drop p).take n)).length → ∃ ad, (some ⟨gb, o', none⟩ : Option Addr) = some ad ∧ ∀ j v, (u8L ((l.drop p).take n))[j]? = some v → w0.cell? (ad.add j) = some v) := fun hpos => by
   have h1 : 0 < (l.drop p).length := by rw [List.length_drop]; omega
   obtain ⟨ad, e, hs⟩ := ints_src HI2.out h1
   refine ⟨ad, e, fun j v hv => hs j v ?_⟩
   have hj : j < ((l.drop p).take n).length := by have := (List.getElem?_eq_some_iff.1 hv).1; simpa using this
   have hjn : j < n := by rw [List.length_take] at hj; omega
   simp only [u8L, List.getElem?_map, List.getElem?_take, if_pos hjn] at hv ⊢
   exact hv
  clear hI2 hcl hlt
  go_enter Tryz.func259, Tryz.ntmps259
  go_wp2_with (rw [← HE.out]; refine wpList_copy_splice rfl _ _ 26 26 rfl 5 Tryz.underlying26 (by kernel_rfl) (some ⟨w.heap.size, 0, none⟩) (some ⟨gb, o', none⟩) n n (l.length - p) c' rfl rfl w.heap.size 0 (zU8 n) 5 HW0.out (u8L ((l.drop p).take n)) HCL.out (fun hpos => ⟨rfl, HSRC.out hpos⟩) (by rw [HCL.out]; simp [zU8]; exact Nat.min_le_right _ _) (fun v hv => by obtain ⟨x, _, rfl⟩ := List.mem_map.1 hv; rfl) w.heap.size w HB.out (Nat.le_refl _) ?_)
  intro w2 hg2 hb2
  have hW2 : Whole w2 w.heap.size 5 (u8L (getK l p n)) := by rw [← getK_splice]; exact hg2.out
  have hA := hW2.arr (n := n) (by simp [u8L, getK_len])
  have HA := hid hA
  have HB2 := hid hb2
  clear hg2 hb2 hW2 hA hsl
  go_wp2
  go_ret
  exact ⟨_, rfl, ⟨⟨some ⟨w.heap.size, 0, none⟩, n, by rw [getK_len]; rfl, Ints.of_arr HA.out (getK_len _ _ _).symm (Nat.le_refl _) (by have := HN.out; unfold maxLen; omega), fun q hq => by cases hq; exact Nat.le_refl _⟩, HB2.out⟩⟩
 ·have d4 : decide ((p : Int) < (l.length : Int)) = false := decide_eq_false (by omega)
  have d5 : (p < l.length) = False := eq_false hlt
  have d6 : (l.length ≤ p) = True := eq_true (by omega)
  have hW2 : Whole w0 w.heap.size 5 (u8L (getK l p n)) := by rw [getK_out l p n (by omega)]; exact HW0.out
  have HA := hid (hW2.arr (n := n) (by simp [u8L, getK_len]))
  clear hW2 hlt
  go_enter Tryz.func259, Tryz.ntmps259
  go_wp2
  rw [← HE.out]
  go_ret
  exact ⟨_, rfl, ⟨⟨some ⟨w.heap.size, 0, none⟩, n, by rw [getK_len]; rfl, Ints.of_arr HA.out (getK_len _ _ _).symm (Nat.le_refl _) (by have := HN.out; unfold maxLen; omega), fun q hq => by cases hq; exact Nat.le_refl _⟩, HB.out⟩⟩
theorem getK_byt {l : Bts} (h : Byt l) (p n : Nat) : Byt (getK l p n) := fun x hx => by
 unfold getK at hx
 rcases List.mem_append.1 (List.mem_of_mem_take hx) with h1 | h1
 ·exact h x (List.mem_of_mem_drop h1)
 ·rw [List.eq_of_mem_replicate h1]; decide
theorem word_tail {L : Bts} {k : Nat} (hb : Byt L) (hl : L.length = k) (hk : k ≤ 32) : splice (zU8 32) (32 - k) (u8L L) = beC 32 (beN L) := by
 have h1 := be_beN (List.replicate (32 - k) 0 ++ L) (byt_app (byt_zeros _) hb)
 have h2 : (List.replicate (32 - k) (0 : Int) ++ L).length = 32 := by simp [hl]; omega
 rw [h2, beN_zeros] at h1
 unfold beC
 rw [h1]
 unfold splice zU8 u8L
 rw [List.take_replicate, List.drop_replicate, List.length_map, hl, List.map_append, List.map_replicate, Nat.min_eq_left (by omega), show 32 - (32 - k + k) = 0 by omega]
 simp
def ownR (f : Fr) (k : Nat) : Nat := beN (getK f.code (f.next + 1) k)
theorem ownR_lt {E : REnv} {w : World} {own : Go.Mun.Own} {c : RFV} {f : Fr} {S : St} {M : List (Nat × St)} {n : Nat} (h : RFrOk E w own c f S M n) (k : Nat) (hk : k ≤ 32) : ownR f k < wW := by
 have h1 := beN_lt (getK f.code (f.next + 1) k) (getK_byt h.code.byte _ _)
 rw [getK_len] at h1
 have h3 : 256 ^ k ≤ 256 ^ 32 := Nat.pow_le_pow_right (by decide) hk
 unfold ownR
 rw [← wW_eq]; omega
def RDo (E : REnv) (jv : Value) (r : Res) (e : Ending) (w : World) : Prop :=
 match r with
 | .ok f S => e = .returned (.int .i64 0) ∧ ∃ own c M n, RFrOk E w own c f S M n ∧ c.tl = infsC infT ∧ c.jv = jv
 | .stop x f _ => e = .returned (.int .i64 (x : Int)) ∧ x ≠ 0 ∧ ∃ own c M n f' S', RFrOk E w own c f' S' M n ∧ (x = 15 → f'.gas = f.gas ∧ f'.out = f.out)
 | .none => True
theorem rdo_push {E : REnv} {w : World} {own : Go.Mun.Own} {c : RFV} {f : Fr} {S : St} {M : List (Nat × St)} {n : Nat} (m : Nat) (hm : 96 ≤ m ∧ m ≤ 127) (h : RFrOk E w own c f S M n) (htl : c.tl = infsC infT) (hl : f.stack.length < 1024) :
  Calls Tryz.prog 179 #[.pointer (some ⟨E.fb, 0, none⟩), .int .u8 (m : Int), c.jv] w (RDo E c.jv (.ok { f with stack := f.stack ++ [ownR f (m - 95)] } S)) := by
 obtain ⟨k, hk⟩ : ∃ k, k = m - 95 := ⟨_, rfl⟩
 have hk32 : k ≤ 32 := by omega
 have hk1 : 1 ≤ k := by omega
 rw [← hk]
 obtain ⟨x, hx⟩ : ∃ x, x = ownR f k := ⟨_, rfl⟩
 have hxW : x < wW := by rw [hx]; exact ownR_lt h k hk32
 obtain ⟨w1, e1⟩ : ∃ w1, w1 = w.alloc (.cells (zU8 32).toArray 25) := ⟨_, rfl⟩
 have hb1 : Below w.heap.size w w1 := by rw [e1]; exact (Below.refl _ _).alloc (Nat.le_refl _) _
 have hwh : Whole w1 w.heap.size 25 (zU8 32) := by rw [e1]; exact Whole.new w 25 (zU8 32)
 obtain ⟨⟨ca, cc, hcv, hci, _⟩, hcb, hcl⟩ := h.code
 have c193 := rf_code h.row
 have c229 := rf_pc h.row
 rw [hcv] at c193
 obtain ⟨cl, hcln⟩ : ∃ cl, cl = f.code.length := ⟨_, rfl⟩
 rw [← hcln] at c193 hcl
 obtain ⟨pc, hpc⟩ : ∃ pc, pc = f.next := ⟨_, rfl⟩
 rw [← hpc] at c229
 have hpcl : pc ≤ 2199023255552 := by rw [hpc]; exact h.nxt
 have hlt := h.lt
 have hown := ref_own (m : Int) (by omega) (by omega)
 have hom : ownOf (m : Int) = (k : Int) := by unfold ownOf; rw [if_pos (by omega)]; omega
 rw [hom] at hown
 have hm1 : (96 : Int) ≤ m := by omega
 have hm2 : (m : Int) < 128 := by omega
 have hd1 : decide ((96 : Int) ≤ m) = true := decide_eq_true hm1
 have hd2 : decide ((m : Int) < 128) = true := decide_eq_true hm2
 obtain ⟨j, hj⟩ : ∃ j, j = 32 - k := ⟨_, rfl⟩
 have hi1 : IntKind.i64.wrap (32 - (k : Int)) = (j : Int) := by rw [wrI _ (by omega) (by omega)]; omega
 have hi2 : IntKind.i64.wrap ((pc : Int) + 1) = ((pc + 1 : Nat) : Int) := by rw [wrI _ (by omega) (by omega)]; omega
 obtain ⟨p1, hp1⟩ : ∃ p1, p1 = pc + 1 := ⟨_, rfl⟩
 rw [← hp1] at hi2
 have hs25 := fun b => slice25 b j (by omega)
 have HCUT : Hid (∀ W, Below w.heap.size w W → Calls Tryz.prog 259 #[.slice ca cl cc, .int .i64 (p1 : Int), .int .i64 (k : Int)] W fun e w' => ∃ v, e = .returned v ∧ NewB W w' v (getK f.code p1 k)) := by
  intro W hW
  rw [hcln]
  exact ref_Cut p1 k (by omega) (by omega) (hci.below hW) (by rw [← hcln]; exact hcl)
 have HXO : Hid (ownR f k = x) := hx.symm
 have HX : Hid (x = beN (getK f.code p1 k)) := by show _ = _; rw [hx, hp1, hpc]; rfl
 obtain ⟨L, hL⟩ : ∃ L, L = getK f.code p1 k := ⟨_, rfl⟩
 have hLb : Byt L := by rw [hL]; exact getK_byt hcb _ _
 have hLl : L.length = k := by rw [hL]; exact getK_len _ _ _
 rw [← hL] at HCUT HX
 have HWT : Hid (splice (zU8 32) j (u8L L) = beC 32 x) := by show _ = _; rw [hj, HX.out]; exact word_tail hLb hLl hk32
 have HLB := hid hLb
 have HLL := hid hLl
 obtain ⟨T, hT⟩ : ∃ T : World → Prop, T = fun W => W.cell? ⟨E.fb, 193, none⟩ = some (.slice ca cl cc) ∧ W.cell? ⟨E.fb, 229, none⟩ = some (.int .i64 (pc : Int)) := ⟨_, rfl⟩
 have HT := hid hT
 have HTB : Hid (∀ W, Below w.heap.size w W → T W) := by
  rw [hT]; intro W hb
  exact ⟨(hb.cell (p := ⟨E.fb, 193, none⟩) hlt).trans c193, (hb.cell (p := ⟨E.fb, 229, none⟩) hlt).trans c229⟩
 have t0 : T w1.drew := HTB.out _ hb1.drew
 have H := hid h
 have HTL := hid htl
 have HE := hid e1
 have HB1 := hid hb1
 have HWH := hid hwh
 have HL := hid hl
 have HJ : Hid (32 - j = k) := by show _ = _; omega
 have hjl : j < 32 := by omega
 have hjk : j + k = 32 := by omega
 clear htl hT hx e1 hb1 hwh hcv hci hcb h c193 c229 hcln hpc hom hp1 hL hLb hLl hl hk hj hm
 go_enter Tryz.func179, Tryz.ntmps179
 go_wp2_with fail
 rw [← HE.out]
 refine (hown _).mono ?_
 rintro e w2 ⟨rfl, rfl⟩
 go_wp2_with fail
 refine wp_region_tree T [] (.pure 0 (.pure 1 (.pure 2 (.pure 3 (.pure 4 (.pure 5 (.take 6 (.pure 7 (.pure 8 (.pure 9 (.take 10 (.pure 11 (.pure 12 (.alt 13 (.alt 14 .fin .stop) .stop)))))))))))))) (by kernel_rfl) (by kernel_rfl) ?_
 iterate 13
  first
  |refine tree_pure ?_ rfl (by rfl) (fun w' hs => ?_) (fun _ _ _ h => h) ?_
   rotate_left
   ·clear hs
    go_simp
    try rfl
   simp only [Act.put, tsa, tsb, tsc]
  |refine tree_take ?_ t0 rfl (by rfl) (fun w' hs => ?_) (fun _ _ _ h => h) ?_
   rotate_left
   ·rw [HT.out] at hs
    obtain ⟨s1, s2⟩ := hs
    go_simp
    try rfl
   simp only [Act.put, tsa, tsb, tsc]
 refine tree_run rfl (fun K hK => ?_)
 go_simp
 refine (HCUT.out _ HB1.out.drew).mono ?_
 rintro e w3 ⟨v, rfl, hnb⟩
 obtain ⟨⟨va, vc, ev, hvi, hva⟩, hb3⟩ := hnb
 subst ev
 have HB3 : Hid (Below w.heap.size w w3) := HB1.out.drew.trans (hb3.mono HB1.out.drew.size)
 have t3 := HTB.out _ HB3.out
 have HWH3 : Hid (Whole w3 w.heap.size 25 (zU8 32)) := Whole.below (w := w1.drew) HWH.out hb3
 have HVI := hid hvi
 have hvl : L.length = k := HLL.out
 rw [hvl]
 clear hb3 hvi hva
 refine hK.out _ _ t3 ?_
 clear hK K
 refine tree_run rfl (fun K hK => ?_)
 refine step_copy_only rfl _ _ 26 26 rfl 5 Tryz.underlying26 (by kernel_rfl) (some ⟨w.heap.size, j, none⟩) va (32 - j) (32 - j) k vc rfl rfl w.heap.size j (zU8 32) 25 HWH3.out (u8L L) (by rw [HJ.out, u8L_len, hvl]; simp) (fun hpos => ⟨rfl, ints_src HVI.out (by simpa using hpos)⟩) (by rw [u8L_len, hvl, zU8_len]; omega) (okL_mem (u8L_ok L _ rfl)) ?_
 intro w4 hw4 ho4
 rw [HWT.out] at hw4
 have HB4 : Hid (Below w.heap.size w w4) := HB3.out.trans (ho4.below HB3.out.size (fun i hi => by have : i = w.heap.size := hi; omega))
 have t4 := HTB.out _ HB4.out
 have HA4 := hid (hw4.out.arr (n := 32) (by simp))
 clear hw4 ho4
 refine hK.out _ _ t4 ?_
 clear hK K
 refine tree_fin ?_
 clear t0 t3 t4
 have hr4 : w4.drew.row? w.heap.size 0 32 = some (beC 32 x) := HA4.out.row
 obtain ⟨T2, hT2⟩ : ∃ T2 : World → Prop, T2 = fun W => W.row? w.heap.size 0 32 = some (beC 32 x) := ⟨_, rfl⟩
 have HT := hid hT2
 have t5 : T2 w4.drew := by rw [hT2]; exact hr4
 have HP := hid (r_push x hxW HL.out (H.out.below HB4.out.drew))
 have hl32 := beC_len 32 x
 clear hT2 hr4
 go_wp2_with fail
 refine wp_region_tree T2 [4] (.pure 0 (.pure 1 (.pure 2 (.take 3 (.alt 4 .fin .stop))))) (by kernel_rfl) (by kernel_rfl) ?_
 iterate 4
  first
  |refine tree_pure ?_ rfl (by rfl) (fun w' hs => ?_) (fun _ _ _ h => h) ?_
   rotate_left
   ·clear hs
    go_simp
    try rfl
   simp only [Act.put, tsa, tsb, tsc]
  |refine tree_take ?_ t5 rfl (by rfl) (fun w' hs => ?_) (fun _ _ _ h => h) ?_
   rotate_left
   ·rw [HT.out] at hs
    have s1 := hs
    go_simp
    try rfl
   simp only [Act.put, tsa, tsb, tsc]
 refine tree_z rfl (by simp) (fun K hK => ?_)
 go_simp
 refine HP.out.mono ?_
 rintro e w5 ⟨rfl, c', h5, ht5, hj5⟩
 have H5 := hid h5
 have HT5 := hid (ht5.trans HTL.out)
 have HJ5 := hid hj5
 clear h5 ht5 hj5
 refine hK.out _ _ ?_
 clear hK K
 refine tree_fin ?_
 clear t5
 go_wp2
 go_ret
 exact ⟨rfl, own, c', M, n, by rw [HXO.out]; exact H5.out, HT5.out, HJ5.out⟩
theorem r_pop {E : REnv} {w : World} {own : Go.Mun.Own} {c : RFV} {f : Fr} {S : St} {M : List (Nat × St)} {n : Nat} (k : Nat) (hk : k ≤ f.stack.length) (h : RFrOk E w own c f S M n) :
  Calls Tryz.prog 263 #[.pointer (some ⟨E.fb, 230, none⟩), .int .i64 (k : Int)] w fun e w' => ∃ v c', e = .returned (.tuple #[v, .bool true]) ∧ RFrOk E w' own c' { f with stack := f.stack.take (f.stack.length - k) } S M n ∧ (c'.tl = c.tl ∧ c'.jv = c.jv) ∧
   w'.ownsRow w.heap.size 25 32 v k (stkC (f.stack.reverse.take k)) ∧ (∀ g, v.ownBlock = some g → own g = none ∧ c'.sv.ownBlock ≠ some g ∧ c'.mv.ownBlock ≠ some g) := by
 refine (r_pop0 k (rf_sv h.row) (h.one (by omega)) (ownsRow_mono h.stk (Nat.zero_le _)) hk h.slen).mono ?_
 rintro e w' ⟨v, sv', w1, rfl, rfl, hb, hv, hs, hg⟩
 have hvg := ownsRow_ge hv
 refine ⟨v, _, rfl, h.stack (Only.of_below_size hb) hs (fun g hg2 => .inl (hg g hg2)) (fun y hy => h.sval y (List.mem_of_mem_take hy)) (Nat.le_trans (by rw [List.length_take]; exact Nat.min_le_right _ _) h.slen), ⟨rfl, rfl⟩, ?_, fun g hg2 => ⟨free_own h.st.lows (hvg g hg2), fun e => ?_, fun e => ?_⟩⟩
 ·exact Only.own hv (only_cell w1 E.fb 230 sv') (fun g hg2 e => by have e2 : g = E.fb := e; have := hvg g hg2; have := h.lt; omega)
 ·have h1 := hg g e
  have := ownsRow_lt h.stk g h1
  have := hvg g hg2
  omega
 ·have := ownsRow_lt h.mem g e
  have := hvg g hg2
  omega
theorem inf0 : infT[0]? = some ⟨0, [83, 84, 79, 80], 0, 0, 0⟩ := by kernel_rfl
theorem rf_inf {E : REnv} {w : World} {own : Go.Mun.Own} {c : RFV} {f : Fr} {S : St} {M : List (Nat × St)} {n : Nat} (h : RFrOk E w own c f S M n) (htl : c.tl = infsC infT) (m : Nat) (x : Inf) (hx : infT[m]? = some x) : w.row? E.fb (236 + m * 5) 5 = some x.c := by
 have hm : m < 256 := by have := (List.getElem?_eq_some_iff.1 hx).1; rw [infT_len] at this; exact this
 have h1 := rf_t h.row h.tlen
 have h2 := World.row?_sub h1 (o' := 236 + m * 5) (n' := 5) (by omega) (by omega)
 rw [h2, htl, show 236 + m * 5 - 236 = 5 * m by omega, infsC_at infT m x hx]
theorem rplain_stop {E : REnv} {w : World} {own : Go.Mun.Own} {c : RFV} {f : Fr} {S : St} {M : List (Nat × St)} {n : Nat} {v jv : Value} (h : RFrOk E w own c f S M n) :
  Calls Tryz.prog 269 #[.pointer (some ⟨E.fb, 0, none⟩), .int .u8 0, v, jv] w fun e w' => e = .returned (.int .i64 0) ∧ RFrOk E w' own c { f with ended := true } S M n := by
 have hf := h.one (i := 235) (by omega)
 have H := hid (h.ended true)
 clear h
 go_enter Tryz.func269, Tryz.ntmps269
 go_wp2
 go_ret
 exact ⟨rfl, H.out⟩
theorem rdo_stop {E : REnv} {w : World} {own : Go.Mun.Own} {c : RFV} {f : Fr} {S : St} {M : List (Nat × St)} {n : Nat} (h : RFrOk E w own c f S M n) (htl : c.tl = infsC infT) :
  Calls Tryz.prog 179 #[.pointer (some ⟨E.fb, 0, none⟩), .int .u8 0, c.jv] w (RDo E c.jv (.ok { f with ended := true } S)) := by
 have hr := rf_inf h htl 0 _ inf0
 have hc : w.cell? ⟨E.fb, 238, none⟩ = some (.int .i64 0) := by
  have := World.row?_cell hr (i := 2) (by omega)
  rw [this]; unfold Inf.c; rfl
 obtain ⟨T, hT⟩ : ∃ T : World → Prop, T = fun W => W.cell? ⟨E.fb, 238, none⟩ = some (.int .i64 0) := ⟨_, rfl⟩
 have HT := hid hT
 have t0 : T w.drew := by rw [hT]; exact hc
 have HP := hid (r_pop 0 (Nat.zero_le _) (h.below (Below.refl _ _).drew))
 have HTL := hid htl
 clear h htl hr hc hT
 go_enter Tryz.func179, Tryz.ntmps179
 go_wp2_with fail
 refine wp_region_tree T [10] (.pure 0 (.pure 1 (.pure 2 (.pure 3 (.pure 4 (.pure 5 (.pure 6 (.pure 7 (.pure 8 (.take 9 (.alt 10 (.pure 11 (.pure 12 (.pure 13 (.pure 14 (.pure 15 .fin))))) .stop))))))))))) (by kernel_rfl) (by kernel_rfl) ?_
 iterate 10
  first
  |refine tree_pure ?_ rfl (by rfl) (fun w' hs => ?_) (fun _ _ _ h => h) ?_
   rotate_left
   ·clear hs
    go_simp
    try rfl
   simp only [Act.put, tsa, tsb, tsc]
  |refine tree_take ?_ t0 rfl (by rfl) (fun w' hs => ?_) (fun _ _ _ h => h) ?_
   rotate_left
   ·rw [HT.out] at hs
    have s1 := hs
    go_simp
    try rfl
   simp only [Act.put, tsa, tsb, tsc]
 refine tree_z rfl (by simp) (fun K hK => ?_)
 go_simp
 refine HP.out.mono ?_
 rintro e w1 ⟨v, c1, rfl, h1, ⟨ht1, hj1⟩, _, _⟩
 have H1 := hid h1
 have HT1 := hid (ht1.trans HTL.out)
 have HJ1 := hid hj1
 clear h1 ht1 hj1
 refine hK.out _ _ ?_
 clear hK K
 iterate 5
  refine tree_pure ?_ rfl (by rfl) (fun w' hs => ?_) (fun _ _ _ h => h) ?_
  rotate_left
  ·clear hs
   go_simp
   try rfl
  simp only [Act.put, tsa, tsb, tsc]
 refine tree_fin ?_
 have HST : Hid (RFrOk E w1 own c1 f S M n) := by
  have := H1.out
  rw [show f.stack.take (f.stack.length - 0) = f.stack by simp] at this
  exact this
 clear t0
 go_wp2_with fail
 refine (rplain_stop HST.out).mono ?_
 rintro e w2 ⟨rfl, h2⟩
 have H2 := hid h2
 clear h2
 go_wp2
 go_ret
 exact ⟨rfl, own, c1, M, n, H2.out, HT1.out, HJ1.out⟩
def Easy (x : Int) : Prop := x = 0 ∨ 96 ≤ x ∧ x ≤ 159
def opR (f : Fr) : Int := if f.next < f.code.length then f.code[f.next]?.getD 0 else 0
inductive Pri
 | none
 | no
 | more (k : Nat) (f : Fr)
def rstepR (pr : Fr → St → Int → Pri) (dor : Fr → St → Int → Res) (f : Fr) (S : St) : Res :=
 match ofL (opR f) with
 | Option.none => .stop 12 f S
 | some (p, q, g) =>
  if (f.stack.length : Int) < p ∨ 1024 < (f.stack.length : Int) - p + q then .stop 10 f S
  else if f.m.static = true then .none
  else match pr f S (opR f) with
   | .none => .none
   | .no => .stop 11 f S
   | .more k f1 => if g.toNat + k ≤ f1.gas ∧ f1.next = f.next ∧ f1.code = f.code ∧ f1.stack = f.stack then
     (match dor { f1 with gas := f1.gas - g.toNat - k } S (opR f) with
      | .ok f2 S2 => if f2.next = f.next then (if f.next + 1 + (ownOf (opR f)).toNat ≤ 2199023255552 then .ok { f2 with next := f.next + 1 + (ownOf (opR f)).toNat } S2 else .none) else .ok f2 S2
      | r => r)
    else if f1.next = f.next ∧ f1.code = f.code ∧ f1.stack = f.stack then .stop 11 f1 S else .none
def loopX (step : Fr → St → Res) : Nat → Fr → St → Option (Nat × Fr × St)
 | 0, _, _ => none
 | k + 1, f, S => if f.ended = true then some (0, f, S) else match step f S with
  | .ok f' S' => loopX step k f' S'
  | .stop x f' S' => if x = 0 then none else some (x, f', S')
  | .none => none
def RPri (E : REnv) (w0 : World) (own0 : Go.Mun.Own) (c0 : RFV) (S : St) (r : Pri) (e : Ending) (w : World) : Prop :=
 match r with
 | .none => True
 | .no => (∃ x : Int, e = .returned (.tuple #[.int .i64 x, .bool false])) ∧ ∃ own c f M n S', RFrOk E w own c f S' M n
 | .more k f => e = .returned (.tuple #[.int .i64 (k : Int), .bool true]) ∧ k ≤ 1099511627776 ∧ (∃ own c M n, RFrOk E w own c f S M n ∧ c.tl = infsC infT ∧ c.jv = c0.jv) ∧ Only (rmu own0 E.fb c0) w0 w
structure RTold (E : REnv) (pr : Fr → St → Int → Pri) (dor : Fr → St → Int → Res) : Prop where
 price : ∀ {w : World} {own : Go.Mun.Own} {c : RFV} {f : Fr} {S : St} {M : List (Nat × St)} {n : Nat}, RFrOk E w own c f S M n → c.tl = infsC infT → pr f S (opR f) ≠ .none → Calls Tryz.prog 178 #[.pointer (some ⟨E.fb, 0, none⟩), .int .u8 (opR f)] w (RPri E w own c S (pr f S (opR f)))
 act : ∀ {w : World} {own : Go.Mun.Own} {c : RFV} {f : Fr} {S : St} {M : List (Nat × St)} {n : Nat} {p q g : Int}, RFrOk E w own c f S M n → c.tl = infsC infT → c.jv ≠ .nilFunc → ofL (opR f) = some (p, q, g) → p ≤ f.stack.length → (f.stack.length : Int) - p + q ≤ 1024 → dor f S (opR f) ≠ .none → (∃ f0 f1 k, pr f0 S (opR f) = .more k f1 ∧ n + f.gas + (g.toNat + k) ≤ E.N) →
  Calls Tryz.prog 179 #[.pointer (some ⟨E.fb, 0, none⟩), .int .u8 (opR f), c.jv] w (RDo E c.jv (dor f S (opR f)))
theorem opR_same {f f1 : Fr} {x : Nat} (h1 : f1.next = f.next) (h2 : f1.code = f.code) : opR { f1 with gas := x } = opR f := by
 show opR ⟨f1.m, f1.code, f1.stack, f1.mem, f1.pc, f1.next, x, f1.ret, f1.out, f1.logs, f1.ended⟩ = opR f
 rw [h1, h2]
 rfl
theorem rf_pc_gas {E : REnv} {w : World} {own : Go.Mun.Own} {c : RFV} {f : Fr} {S : St} {M : List (Nat × St)} {n x : Nat} (h : RFrOk E w own c { f with gas := x } S M n) : w.cell? ⟨E.fb, 229, none⟩ = some (.int .i64 (f.next : Int)) := by
 have h1 := rf_pc h.row
 exact h1
theorem opR_bd {E : REnv} {w : World} {own : Go.Mun.Own} {c : RFV} {f : Fr} {S : St} {M : List (Nat × St)} {n : Nat} (h : RFrOk E w own c f S M n) : ∃ m : Nat, m < 256 ∧ opR f = (m : Int) := by
 unfold opR
 split
 ·rename_i hlt
  have := h.code.byte (f.code[f.next]) (List.getElem_mem hlt)
  rw [List.getElem?_eq_getElem hlt, Option.getD_some]
  exact ⟨(f.code[f.next]).toNat, by omega, by omega⟩
 ·exact ⟨0, by decide, rfl⟩
theorem inf_at (m : Nat) (hm : m < 256) : ∃ x, infT[m]? = some x ∧ match ofL (m : Int) with
  | Option.none => x.name = []
  | some (p, q, g) => x.name ≠ [] ∧ x.pops = p ∧ x.pushes = q ∧ x.gas = g := by
 have h := List.all_eq_true.1 infT_ok m (List.mem_range.2 hm)
 have hl : m < infT.length := by rw [infT_len]; exact hm
 rw [List.getElem?_eq_getElem hl] at h ⊢
 refine ⟨_, rfl, ?_⟩
 simp only [Option.getD_some] at h
 cases e : ofL (m : Int) with
 | none => rw [e] at h; exact of_decide_eq_true h
 | some t =>
  obtain ⟨p, q, g⟩ := t
  rw [e] at h
  simp only [Bool.and_eq_true, decide_eq_true_eq] at h
  exact ⟨h.1.1.1, h.1.1.2, h.1.2, h.2⟩
theorem box5 (W : World) (C : List Value) (h : okL 5 C = true) : Below W.heap.size W ((W.alloc (.cells infZC.toArray 142)).setCells W.heap.size 0 C) ∧ ((W.alloc (.cells infZC.toArray 142)).setCells W.heap.size 0 C).row? W.heap.size 0 5 = some C ∧ (W.alloc (.cells infZC.toArray 142)).free? W.heap.size 0 5 = true := by
 have hf : (W.alloc (.cells infZC.toArray 142)).free? W.heap.size 0 5 = true := World.free?_alloc_at _ _ rfl (by rw [okL_len infZC_ok]; decide)
 exact ⟨((Below.refl _ _).alloc (Nat.le_refl _) _).setCells (Nat.le_refl _) _ _, row?_setCells_whole C hf h, hf⟩
theorem str_none : (str []).toList.isEmpty = true := by rw [ByteArray.toList_eq]; rfl
theorem str_some {l : List UInt8} (h : l ≠ []) : (str l).toList.isEmpty = false := by
 rw [ByteArray.toList_eq]
 cases l with
 | nil => exact absurd rfl h
 | cons a l => rfl
theorem inf_cell1' {w : World} {b : Nat} {x : Inf} (h : w.row? b 0 5 = some x.c) : w.cell? ⟨b, 1, none⟩ = some (.string (str x.name)) := by
 rw [show (1 : Nat) = 0 + 1 from rfl, World.row?_cell h (i := 1) (by decide)]; unfold Inf.c; rfl
theorem inf_cell2 {w : World} {b : Nat} {x : Inf} (h : w.row? b 0 5 = some x.c) : w.cell? ⟨b, 2, none⟩ = some (.int .i64 x.pops) := by
 rw [show (2 : Nat) = 0 + 2 from rfl, World.row?_cell h (i := 2) (by decide)]; unfold Inf.c; rfl
theorem inf_cell3 {w : World} {b : Nat} {x : Inf} (h : w.row? b 0 5 = some x.c) : w.cell? ⟨b, 3, none⟩ = some (.int .i64 x.pushes) := by
 rw [show (3 : Nat) = 0 + 3 from rfl, World.row?_cell h (i := 3) (by decide)]; unfold Inf.c; rfl
theorem inf_cell4 {w : World} {b : Nat} {x : Inf} (h : w.row? b 0 5 = some x.c) : w.cell? ⟨b, 4, none⟩ = some (.int .i64 x.gas) := by
 rw [show (4 : Nat) = 0 + 4 from rfl, World.row?_cell h (i := 4) (by decide)]; unfold Inf.c; rfl
attribute [local irreducible] wpStill Inf.c infZC infsC
def RRun (E : REnv) (x : Nat) (f : Fr) (S : St) (e : Ending) (w : World) : Prop :=
 e = .returned (.int .i64 (x : Int)) ∧ ∃ own c M n f' S', RFrOk E w own c f' S' M n ∧ (x = 0 → f' = f ∧ S' = S) ∧ (x = 15 → f'.gas = f.gas ∧ f'.out = f.out)
theorem rf_run {E : REnv} {w : World} {own : Go.Mun.Own} {c : RFV} {f f' : Fr} {S S' : St} {M : List (Nat × St)} {n K x : Nat} {pr : Fr → St → Int → Pri} {dor : Fr → St → Int → Res} (hT : RTold E pr dor) (h : RFrOk E w own c f S M n) (hl : loopX (rstepR pr dor) K f S = some (x, f', S')) :
  Calls Tryz.prog 71 #[.pointer (some ⟨E.fb, 0, none⟩)] w (RRun E x f' S') := by
 obtain ⟨⟨ca, cc, hcv, hci, _⟩, hcb, hcl⟩ := h.code
 have c193 := rf_code h.row
 rw [hcv] at c193
 have HJ := hid (ref_jumps ca cc f.code w hci (fun i hi => by have := hcb (f.code[i]) (List.getElem_mem hi); rw [List.getElem?_eq_getElem hi, Option.getD_some]; omega) hcl)
 have H := hid h
 have HT := hid hT
 have HL := hid hl
 clear h hT hl hcv hci hcb hcl
 go_enter Tryz.func71, Tryz.ntmps71
 go_wp2_with fail
 refine HJ.out.mono ?_
 rintro e w1 ⟨jv, rfl, hj, hb1⟩
 have h1 := H.out.jumps hb1 hj
 have HJN : Hid (jv ≠ .nilFunc) := by
  obtain ⟨ja, jc, e⟩ := own_shape hj
  show _ ≠ _
  rw [e]; simp
 have H1 := hid h1
 clear hj hb1 h1 c193
 go_wp2_with fail
 refine (ref_all _).mono ?_
 rintro e w2 ⟨rfl, hb2⟩
 have h2 := H1.out.below hb2
 have hf2 := World.free?_sub h2.free (o' := 236) (n' := 1280) (by omega)
 have hok2 : okL 1280 (infsC infT) = true := by
  have := infsC_ok infT
  rw [infT_len] at this
  exact this
 have h3 := h2.table (infsC infT) (by rw [infsC_len, infT_len])
 have H3 := hid h3
 clear hb2 h2 h3
 obtain ⟨I, hI⟩ : ∃ I, I = infsC infT := ⟨_, rfl⟩
 have HI := hid hI
 rw [← hI] at H3 hok2 ⊢
 clear hI
 go_wp2_with fail
 go_loopg [] K (fun k wr => ∃ own c f S M n, RFrOk E wr own c f S M n ∧ c.tl = infsC infT ∧ c.jv = jv ∧ loopX (rstepR pr dor) k f S = some (x, f', S'))
 case atStart => exact ⟨_, _, f, S, M, n, H3.out, HI.out, rfl, HL.out⟩
 case round =>
  obtain ⟨own, c, f, S, M, n, h, htl, hjv, hl⟩ := hrel
  have c235 := rf_ended h.row
  have HTL := hid htl
  have HJV := hid hjv
  have HL := hid hl
  have H := hid h
  clear h htl hjv hl
  cases hen : f.ended with
  | true =>
   rw [hen] at c235
   have HE : Hid (x = 0 ∧ f' = f ∧ S' = S) := by
    have h := HL.out
    cases gk with
    | zero => simp [loopX] at h
    | succ k =>
     rw [loopX, if_pos hen] at h
     simp only [Option.some.injEq, Prod.mk.injEq] at h
     exact ⟨h.1.symm, h.2.1.symm, h.2.2.symm⟩
   go_wp2
   go_ret
   obtain ⟨rfl, rfl, rfl⟩ := HE.out
   exact ⟨rfl, own, c, M, n, f', S', H.out, fun _ => ⟨rfl, rfl⟩, fun e => by cases e⟩
  | false =>
   rw [hen] at c235
   obtain ⟨⟨ca, cc, hcv, hci, _⟩, _, _⟩ := H.out.code
   have q193 : wr.drew.cell? ⟨E.fb, 193, none⟩ = some (.slice ca f.code.length cc) := by rw [← hcv]; exact rf_code H.out.row
   have q229 : wr.drew.cell? ⟨E.fb, 229, none⟩ = some (.int .i64 (f.next : Int)) := rf_pc H.out.row
   have HCI := hid hci
   obtain ⟨cl, hcln⟩ : ∃ cl, cl = f.code.length := ⟨_, rfl⟩
   obtain ⟨pc, hpc⟩ : ∃ pc, pc = f.next := ⟨_, rfl⟩
   rw [← hcln] at q193
   rw [← hpc] at q229
   have HCL := hid hcln
   have HPC := hid hpc
   obtain ⟨m, hm, hop⟩ := opR_bd H.out
   obtain ⟨X, hX, hXX⟩ := inf_at m hm
   have HX := hid hX
   have HOP := hid hop
   obtain ⟨k1, hk1⟩ : ∃ k1, gk = k1 + 1 := by
    cases gk with
    | zero => have := HL.out; simp [loopX] at this
    | succ k => exact ⟨k, rfl⟩
   have HST : Hid (match rstepR pr dor f S with
     | .ok f1 S1 => loopX (rstepR pr dor) k1 f1 S1 = some (x, f', S')
     | .stop y f1 S1 => y ≠ 0 ∧ x = y ∧ f' = f1 ∧ S' = S1
     | .none => False) := by
    have h := HL.out
    rw [hk1, loopX, if_neg (by rw [hen]; simp)] at h
    show match rstepR pr dor f S with
     | .ok f1 S1 => loopX (rstepR pr dor) k1 f1 S1 = some (x, f', S')
     | .stop y f1 S1 => y ≠ 0 ∧ x = y ∧ f' = f1 ∧ S' = S1
     | .none => False
    cases hr : rstepR pr dor f S with
    | ok f1 S1 => rw [hr] at h; exact h
    | stop y f1 S1 =>
     rw [hr] at h
     by_cases hy : y = 0
     ·simp [hy] at h
     ·simp only [if_neg hy, Option.some.injEq, Prod.mk.injEq] at h
      exact ⟨hy, h.1.symm, h.2.1.symm, h.2.2.symm⟩
    | none => rw [hr] at h; cases h
   have HK1 := hid hk1
   have HXX := hid hXX
   clear hcv hci hcln hpc hop hX hXX hen hk1
   by_cases hlt : pc < cl
   focus
    have hI : (pc : Int) < cl := by omega
    have dI : decide ((pc : Int) < (cl : Int)) = true := decide_eq_true hI
    have dN : (pc < cl) = True := eq_true hlt
    obtain ⟨cb, off, rfl, hcbl, hcell⟩ := HCI.out.at (i := pc) (by have := HCL.out; omega)
    have qop : wr.drew.drew.cell? ⟨cb, off + pc, none⟩ = some (.int .u8 (m : Int)) := by
     have h1 := hcell pc (by have := HCL.out; omega)
     have h2 := HOP.out
     unfold opR at h2
     rw [if_pos (by rw [← HPC.out, ← HCL.out]; exact hlt), ← HPC.out] at h2
     rw [h2] at h1
     exact h1
    have q193' : wr.drew.drew.cell? ⟨E.fb, 193, none⟩ = some (.slice (some ⟨cb, off, none⟩) cl cc) := q193
    have q229' : wr.drew.drew.cell? ⟨E.fb, 229, none⟩ = some (.int .i64 (pc : Int)) := q229
    clear hcell hcbl
    go_wp2_with fail
    refine wp_reads (by kernel_rfl) (by kernel_rfl) ?_
    repeat still_step
    refine wpStill_nil ?_
    go_wp2_with fail
    refine wp_reads (by kernel_rfl) (by kernel_rfl) ?_
    repeat still_step
    refine wpStill_nil ?_
    obtain ⟨W, hW⟩ : ∃ W, W = wr.drew.drew := ⟨_, rfl⟩
    have hHW : RFrOk E W own c f S M n := by rw [hW]; exact H.out.below ((Below.refl _ _).drew.drew)
    rw [← hW]
    clear hW q193 q229 q193' q229' qop hI dI dN c235 hlt
   rotate_left
   focus
    have dI : decide ((pc : Int) < (cl : Int)) = false := decide_eq_false (by omega)
    have dN : (pc < cl) = False := eq_false hlt
    have hz : Value.int IntKind.u8 0 = Value.int IntKind.u8 (m : Int) := by
     have h2 := HOP.out
     unfold opR at h2
     rw [if_neg (by rw [← HPC.out, ← HCL.out]; exact hlt)] at h2
     rw [← h2]
    have HZ := hid hz
    clear hlt hz
    go_wp2_with fail
    refine wp_reads (by kernel_rfl) (by kernel_rfl) ?_
    repeat still_step
    refine wpStill_nil ?_
    rw [HZ.out]
    obtain ⟨W, hW⟩ : ∃ W, W = wr.drew := ⟨_, rfl⟩
    have hHW : RFrOk E W own c f S M n := by rw [hW]; exact H.out.below (Below.refl _ _).drew
    rw [← hW]
    clear hW q193 q229 dI dN c235
   all_goals
    obtain ⟨B, hB⟩ : ∃ B, B = (W.alloc (.cells infZC.toArray 142)).setCells W.heap.size 0 X.c := ⟨_, rfl⟩
    have HHW := hid hHW
    clear hHW
    have r7 := rf_inf HHW.out HTL.out m X HX.out
    have b5 := box5 W X.c (Inf.ok X)
    have free5 := b5.2.2
    have ok5 := Inf.ok X
    have row5 := b5.2.1
    have q1 := inf_cell1' row5
    have HB5 := hid b5.1
    have H2 := hid (HHW.out.below b5.1)
    have HROW := hid row5
    have HE := hid hB
    clear b5 row5
    cases eo : ofL (m : Int) with
    | none =>
     have hx := HXX.out
     rw [eo] at hx
     have hnm : X.name = [] := hx
     have HSN : Hid (x = 12) := by
      have h := HST.out
      rw [show rstepR pr dor f S = .stop 12 f S by unfold rstepR; rw [HOP.out, eo]] at h
      exact h.2.1
     have hem : (str X.name).toList.isEmpty = true := by rw [hnm]; exact str_none
     clear hx hnm hB eo
     go_wp2
     go_ret
     rw [HSN.out]
     exact ⟨rfl, own, c, M, n, f, S, H2.out, fun h => absurd h (by decide), fun h => absurd h (by decide)⟩
    | some t =>
     obtain ⟨p, q, g⟩ := t
     have hx := HXX.out
     rw [eo] at hx
     obtain ⟨hnm, hxp, hxq, hxg⟩ : X.name ≠ [] ∧ X.pops = p ∧ X.pushes = q ∧ X.gas = g := hx
     have hem : (str X.name).toList.isEmpty = false := str_some hnm
     have HBD := hid (ofL_bd hm eo)
     have HM := hid hm
     have HEO := hid eo
     have HXP := hid (And.intro hxp (And.intro hxq hxg))
     clear hnm hB eo hxp hxq hxg
     go_wp2_with fail
     rw [← HE.out]
     obtain ⟨b, hb⟩ : ∃ b, b = W.heap.size := ⟨_, rfl⟩
     rw [← hb]
     have h2 : RFrOk E B own c f S M n := by rw [HE.out]; exact H2.out
     have hrow : B.row? b 0 5 = some X.c := by rw [HE.out, hb]; exact HROW.out
     have q2 := inf_cell2 hrow
     have q3 := inf_cell3 hrow
     have q4 := inf_cell4 hrow
     rw [HXP.out.1] at q2
     rw [HXP.out.2.1] at q3
     rw [HXP.out.2.2] at q4
     have hbB : b < B.heap.size := World.row?_lt hrow
     have hnb : ¬ rmu own E.fb c b := by
      have hg := HHW.out
      intro hr
      rcases hr with hr | hr | hr | hr
      ·exact hr.1 (free_own hg.st.lows (by omega))
      ·have := hg.lt; omega
      ·have := ownsRow_lt hg.stk b hr; omega
      ·have := ownsRow_lt hg.mem b hr; omega
     have HNB := hid hnb
     have H3 := hid h2
     obtain ⟨sa, sc, hsv⟩ := own_shape h2.stk
     obtain ⟨sl, hsl⟩ : ∃ sl, sl = f.stack.length := ⟨_, rfl⟩
     have q230 : B.drew.cell? ⟨E.fb, 230, none⟩ = some (.slice sa sl sc) := by rw [hsl, ← hsv]; exact rf_sv h2.row
     have q227 : B.drew.cell? ⟨E.fb, 227, none⟩ = some (.bool f.m.static) := rf_static h2.row
     have qd2 : B.drew.cell? ⟨b, 2, none⟩ = some (.int .i64 p) := q2
     have qd3 : B.drew.cell? ⟨b, 3, none⟩ = some (.int .i64 q) := q3
     have HQ4 : Hid (B.drew.cell? ⟨b, 4, none⟩ = some (.int .i64 g)) := q4
     have HSL := hid hsl
     have HLB : Hid (sl ≤ 1024) := by rw [hsl]; exact h2.slen
     have hbB3 : b < B.drew.heap.size := hbB
     clear hb hnb h2 hrow q1 q2 q3 q4 hbB hsv hsl r7 free5 ok5 hem hm
     obtain ⟨w3, hw3⟩ : ∃ w3, w3 = B.drew := ⟨_, rfl⟩
     have HW3 := hid hw3
     have h3 : RFrOk E w3 own c f S M n := by rw [hw3]; exact H3.out.below (Below.refl _ _).drew
     rw [← hw3] at q230 q227 qd2 qd3 hbB3
     by_cases hlp : (sl : Int) < p
     ·have d1 : decide ((sl : Int) < p) = true := decide_eq_true hlp
      have HSN : Hid (x = 10) := by
       have h := HST.out
       rw [show rstepR pr dor f S = .stop 10 f S by unfold rstepR; rw [HOP.out, HEO.out]; exact if_pos (.inl (by rw [← HSL.out]; exact hlp))] at h
       exact h.2.1
      have H4 := hid h3
      rw [hw3] at q230 qd2 qd3
      clear h3 hw3 hlp q227
      refine wp_reads (by kernel_rfl) (by kernel_rfl) ?_
      repeat still_step
      refine wpStill_nil ?_
      go_wp2
      go_ret
      rw [HSN.out, ← HW3.out]
      exact ⟨rfl, own, c, M, n, f, S, H4.out, fun h => absurd h (by decide), fun h => absurd h (by decide)⟩
     ·have hlp2 : p ≤ (sl : Int) := by omega
      have d1 : decide ((sl : Int) < p) = false := decide_eq_false hlp
      obtain ⟨bp0, bp1, bq0, bq1, bg0, bg1⟩ := HBD.out
      have hsl2 := HLB.out
      obtain ⟨dd, hdd⟩ : ∃ dd : Int, dd = (sl : Int) - p := ⟨_, rfl⟩
      have wd : IntKind.i64.wrap ((sl : Int) - p) = dd := by rw [hdd, IntKind.wrap_i64]; omega
      have we : IntKind.i64.wrap (dd + q) = dd + q := by rw [IntKind.wrap_i64]; omega
      have HDD := hid hdd
      have HLP := hid hlp2
      by_cases hq : 1024 < dd + q
      ·have d2 : decide (1024 < dd + q) = true := decide_eq_true hq
       have HSN : Hid (x = 10) := by
        have h := HST.out
        rw [show rstepR pr dor f S = .stop 10 f S by unfold rstepR; rw [HOP.out, HEO.out]; exact if_pos (.inr (by rw [← HSL.out, ← HDD.out]; exact hq))] at h
        exact h.2.1
       have H4 := hid h3
       rw [hw3] at q230 qd2 qd3
       clear h3 hw3 hlp hlp2 q227 hdd hq bp0 bp1 bq0 bq1 bg0 bg1 hsl2
       refine wp_reads (by kernel_rfl) (by kernel_rfl) ?_
       repeat still_step
       refine wpStill_nil ?_
       go_wp2
       go_ret
       rw [HSN.out, ← HW3.out]
       exact ⟨rfl, own, c, M, n, f, S, H4.out, fun h => absurd h (by decide), fun h => absurd h (by decide)⟩
      ·have d2 : decide (1024 < dd + q) = false := decide_eq_false hq
       have HQ := hid (show dd + q ≤ 1024 by omega)
       have hr1 : rstepR pr dor f S = (if f.m.static = true then .none
         else match pr f S (opR f) with
         | .none => .none
         | .no => .stop 11 f S
         | .more k f1 => if g.toNat + k ≤ f1.gas ∧ f1.next = f.next ∧ f1.code = f.code ∧ f1.stack = f.stack then
           (match dor { f1 with gas := f1.gas - g.toNat - k } S (opR f) with
            | .ok f2 S2 => if f2.next = f.next then (if f.next + 1 + (ownOf (opR f)).toNat ≤ 2199023255552 then .ok { f2 with next := f.next + 1 + (ownOf (opR f)).toNat } S2 else .none) else .ok f2 S2
            | r => r)
          else if f1.next = f.next ∧ f1.code = f.code ∧ f1.stack = f.stack then .stop 11 f1 S else .none) := by
        conv => lhs; unfold rstepR
        rw [HOP.out, HEO.out]
        exact if_neg (by rw [← HSL.out]; omega)
       cases hst : f.m.static with
       | true =>
        have h := HST.out
        rw [hr1, if_pos hst] at h
        exact h.elim
       | false =>
        rw [if_neg (by rw [hst]; simp)] at hr1
        have HR1 := hid hr1
        rw [hst] at q227
        have H4 := hid h3
        have hpn : pr f S (opR f) ≠ .none := by
         intro e
         have h := HST.out
         rw [hr1, e] at h
         exact h
        have HPN := hid hpn
        rw [hw3] at q230 qd2 qd3
        clear h3 hw3 hlp hlp2 hdd hq bp0 bp1 bq0 bq1 bg0 bg1 hsl2 hr1 hpn
        refine wp_reads (by kernel_rfl) (by kernel_rfl) ?_
        repeat still_step
        refine wpStill_nil ?_
        rw [← HW3.out]
        clear q230 qd2 qd3
        go_wp2_with fail
        have hcp := HT.out.price H4.out HTL.out HPN.out
        rw [HOP.out] at hcp
        refine hcp.mono ?_
        intro e w4 hpost
        have HHB := hid hbB3
        cases ep : pr f S (opR f) with
        | none => exact absurd ep HPN.out
        | no =>
         rw [HOP.out] at ep
         rw [ep] at hpost
         obtain ⟨⟨x1, rfl⟩, own4, c4, f4, M4, n4, S4, h4⟩ := hpost
         have HSN : Hid (x = 11) := by
          have h := HST.out
          rw [HR1.out, HOP.out, ep] at h
          exact h.2.1
         have H5 := hid h4
         clear ep h4
         go_wp2_with fail
         refine wp_reads (by kernel_rfl) (by kernel_rfl) ?_
         repeat still_step
         refine wpStill_nil ?_
         go_wp2
         go_ret
         rw [HSN.out]
         exact ⟨rfl, own4, c4, M4, n4, f4, S4, H5.out.below (Below.refl _ _).drew, fun h => absurd h (by decide), fun h => absurd h (by decide)⟩
        | more k f1 =>
         rw [HOP.out] at ep
         rw [ep] at hpost
         obtain ⟨rfl, hk, ⟨own4, c4, M4, n4, h4, htl4, hjv4⟩, ho4⟩ := hpost
         obtain ⟨bp0, bp1, bq0, bq1, bg0, bg1⟩ := HBD.out
         have q4 : w4.drew.cell? ⟨b, 4, none⟩ = some (.int .i64 g) := by
          show w4.cell? ⟨b, 4, none⟩ = _
          rw [ho4.cell? HHB.out HNB.out, HW3.out]
          exact HQ4.out
         obtain ⟨G, hG⟩ : ∃ G, G = f1.gas := ⟨_, rfl⟩
         have hGb : G ≤ 999000 := by have := h4.cnt; have := h4.lim; omega
         have q228 : w4.drew.cell? ⟨E.fb, 228, none⟩ = some (.int .i64 (G : Int)) := by rw [hG]; exact rf_gas h4.row
         obtain ⟨gk2, hgk2⟩ : ∃ z : Int, z = g + (k : Int) := ⟨_, rfl⟩
         have we : IntKind.i64.wrap (g + (k : Int)) = gk2 := by rw [hgk2, IntKind.wrap_i64]; omega
         have HTL4 := hid htl4
         have HJV4 := hid hjv4
         have HGG := hid hG
         have H5 := hid h4
         have HGK := hid hgk2
         have HEP := hid ep
         clear ep h4 htl4 hjv4 hG ho4 hcp
         by_cases hgt : (G : Int) < gk2
         ·have d1 : decide ((G : Int) < gk2) = true := decide_eq_true hgt
          have HSN : Hid (x = 11) := by
           have h := HST.out
           rw [show rstepR pr dor f S = (if f1.next = f.next ∧ f1.code = f.code ∧ f1.stack = f.stack then .stop 11 f1 S else .none) by rw [HR1.out, HOP.out, HEP.out]; exact if_neg (by rw [← HGG.out]; omega)] at h
           split at h
           ·rename_i heq
            split at heq
            ·cases heq
            ·cases heq
           ·rename_i heq
            split at heq
            ·cases heq; exact h.2.1
            ·cases heq
           ·exact h.elim
          clear hgt hgk2 bp0 bp1 bq0 bq1 bg0 bg1 hGb hk
          go_wp2_with fail
          refine wp_reads (by kernel_rfl) (by kernel_rfl) ?_
          repeat still_step
          refine wpStill_nil ?_
          go_wp2
          go_ret
          rw [HSN.out]
          exact ⟨rfl, own4, c4, M4, n4, f1, S, H5.out.below (Below.refl _ _).drew, fun h => absurd h (by decide), fun h => absurd h (by decide)⟩
         ·have d1 : decide ((G : Int) < gk2) = false := decide_eq_false hgt
          obtain ⟨e1, he1⟩ : ∃ e1 : Int, e1 = (G : Int) - g := ⟨_, rfl⟩
          obtain ⟨e2, he2⟩ : ∃ e2 : Nat, e2 = G - g.toNat - k := ⟨_, rfl⟩
          have we1 : IntKind.i64.wrap ((G : Int) - g) = e1 := by rw [he1, IntKind.wrap_i64]; omega
          have we2 : IntKind.i64.wrap (e1 - (k : Int)) = (e2 : Int) := by rw [he1, IntKind.wrap_i64]; omega
          have hle : e2 ≤ f1.gas := by rw [← HGG.out]; omega
          have hke : e2 + (g.toNat + k) ≤ f1.gas := by rw [← HGG.out]; omega
          have HKE := hid hke
          clear hke
          have hcc : f1.next = f.next ∧ f1.code = f.code ∧ f1.stack = f.stack := by
           refine Classical.byContradiction fun hne => ?_
           have h := HST.out
           rw [show rstepR pr dor f S = .none by rw [HR1.out, HOP.out, HEP.out]; exact (if_neg (fun hh => hne hh.2)).trans (if_neg hne)] at h
           exact h
          have hr2 : rstepR pr dor f S = (match dor { f1 with gas := e2 } S (m : Int) with
            | .ok f2 S2 => if f2.next = f.next then (if f.next + 1 + (ownOf (m : Int)).toNat ≤ 2199023255552 then .ok { f2 with next := f.next + 1 + (ownOf (m : Int)).toNat } S2 else .none) else .ok f2 S2
            | r => r) := by
           rw [HR1.out, HOP.out, HEP.out, he2, HGG.out]
           exact if_pos ⟨by rw [← HGG.out]; omega, hcc⟩
          have hop6 : opR { f1 with gas := e2 } = (m : Int) := by
           rw [← HOP.out]
           exact opR_same hcc.1 hcc.2.1
          have hdn : dor { f1 with gas := e2 } S (m : Int) ≠ .none := by
           intro hd
           have h := HST.out
           rw [hr2, hd] at h
           exact h
          have HR2 := hid hr2
          have HDN := hid hdn
          have HCC := hid hcc
          have HOP6 := hid hop6
          have HLE := hid hle
          have HE12 := hid (And.intro he1 he2)
          clear hgt hgk2 bp0 bp1 bq0 bq1 bg0 bg1 hGb hk he1 he2 hle hcc hr2 hop6 hdn
          go_wp2_with fail
          refine wp_reads (by kernel_rfl) (by kernel_rfl) ?_
          repeat still_step
          refine wpStill_nil ?_
          obtain ⟨w5, hw5⟩ : ∃ w5, w5 = w4.drew := ⟨_, rfl⟩
          have h5 : RFrOk E w5 own4 c4 f1 S M4 n4 := by rw [hw5]; exact H5.out.below (Below.refl _ _).drew
          rw [← hw5] at q4 q228 ⊢
          have h6 := (h5.below (Below.refl _ _).drew).gas e2 HLE.out
          have f228 : w5.drew.free? E.fb 228 1 = true := (h5.below (Below.refl _ _).drew).one (by omega)
          have q229 : (w5.drew.setCell ⟨E.fb, 228, none⟩ (.int .i64 (e2 : Int))).cell? ⟨E.fb, 229, none⟩ = some (.int .i64 (pc : Int)) := by
           rw [HPC.out, ← HCC.out.1]
           exact rf_pc_gas h6
          have q229w : w5.cell? ⟨E.fb, 229, none⟩ = some (.int .i64 (pc : Int)) := by
           rw [HPC.out, ← HCC.out.1]
           exact rf_pc h5.row
          have hact := HT.out.act (p := p) (q := q) (g := g) h6 HTL4.out (by rw [HJV4.out, HJV.out]; exact HJN.out) (by rw [HOP6.out]; exact HEO.out) (by show p ≤ (f1.stack.length : Int); rw [HCC.out.2.2, ← HSL.out]; exact HLP.out) (by show (f1.stack.length : Int) - p + q ≤ 1024; rw [HCC.out.2.2, ← HSL.out, ← HDD.out]; exact HQ.out) (by rw [HOP6.out]; exact HDN.out) ⟨f, f1, k, by rw [HOP6.out]; exact HEP.out, by have h1 := H5.out.cnt; have h2 := HKE.out; show n4 + e2 + (g.toNat + k) ≤ E.N; omega⟩
          rw [HOP6.out, show c4.jv = jv by rw [HJV4.out, HJV.out]] at hact
          have HACT := hid hact
          have q4' : w5.drew.cell? ⟨b, 4, none⟩ = some (.int .i64 g) := q4
          have q228' : w5.drew.cell? ⟨E.fb, 228, none⟩ = some (.int .i64 (G : Int)) := q228
          clear hw5 h5 h6 hact q4 q228
          go_wp2_with fail
          go_still_tail 12, (by kernel_rfl)
          go_wp2_with fail
          refine HACT.out.mono ?_
          intro e w6 hpost
          cases ed : dor { f1 with gas := e2 } S (m : Int) with
          | none => exact absurd ed HDN.out
          | stop y f3 S3 =>
           rw [ed] at hpost
           obtain ⟨rfl, hy, own6, c6, M6, n6, f6, S6, h6, h15⟩ := hpost
           have hst2 := HST.out
           rw [HR2.out, ed] at hst2
           obtain ⟨_, hxy, hf, hS⟩ : y ≠ 0 ∧ x = y ∧ f' = f3 ∧ S' = S3 := hst2
           have hyI : ((y : Int) == 0) = false := by simp; omega
           have HH6 := hid h6
           have H15 := hid h15
           have HXY := hid (And.intro hxy (And.intro hf hS))
           have HY := hid hy
           clear ed h6 h15 hxy hf hS hy
           go_wp2
           go_ret
           obtain ⟨rfl, rfl, rfl⟩ := HXY.out
           exact ⟨rfl, own6, c6, M6, n6, f6, S6, HH6.out, fun h => absurd h HY.out, fun h => H15.out h⟩
          | ok f2 S2 =>
           rw [ed] at hpost
           obtain ⟨rfl, own6, c6, M6, n6, h6, htl6, hjv6⟩ := hpost
           have q229 := rf_pc h6.row
           have f229 : w6.free? E.fb 229 1 = true := h6.one (by omega)
           have hst2 := HST.out
           rw [HR2.out, ed] at hst2
           dsimp only at hst2
           have HTL6 := hid htl6
           have HJV6 := hid hjv6
           by_cases hn : f2.next = pc
           ·rw [hn] at q229
            have hst3 : f.next + 1 + (ownOf (m : Int)).toNat ≤ 2199023255552 ∧ loopX (rstepR pr dor) k1 { f2 with next := f.next + 1 + (ownOf (m : Int)).toNat } S2 = some (x, f', S') := by
             rw [if_pos (hn.trans HPC.out)] at hst2
             by_cases hbd : f.next + 1 + (ownOf (m : Int)).toNat ≤ 2199023255552
             ·rw [if_pos hbd] at hst2
              exact ⟨hbd, hst2⟩
             ·rw [if_neg hbd] at hst2
              exact hst2.elim
            obtain ⟨Z, hZ⟩ : ∃ Z, Z = f.next + 1 + (ownOf (m : Int)).toNat := ⟨_, rfl⟩
            rw [← hZ] at hst3
            have hown := ref_own (m : Int) (by omega) (by have := HM.out; omega) w6
            have how0 : 0 ≤ ownOf (m : Int) ∧ ownOf (m : Int) ≤ 256 := by
             have := HM.out
             unfold ownOf
             split <;> omega
            obtain ⟨ow, how⟩ : ∃ ow, ow = ownOf (m : Int) := ⟨_, rfl⟩
            rw [← how] at hown hZ how0
            obtain ⟨A, hA⟩ : ∃ A : Int, A = (pc : Int) + 1 := ⟨_, rfl⟩
            have hpcb : pc < 2199023255552 := by have := hst3.1; have := HPC.out; omega
            have a1 : IntKind.i64.wrap ((pc : Int) + 1) = A := by rw [hA, IntKind.wrap_i64]; omega
            have a2 : IntKind.i64.wrap (A + ow) = (Z : Int) := by have := HPC.out; rw [hA, IntKind.wrap_i64]; omega
            have HH6 := hid h6
            have HST3 := hid hst3
            have HOWN := hid hown
            clear hst2 hst3 h6 htl6 hjv6 ed hn hZ how how0 hA hpcb hown
            go_wp2_with fail
            refine HOWN.out.mono ?_
            rintro e w7 ⟨rfl, rfl⟩
            go_wp2_with fail
            go_roundg k1
            case rel => exact ⟨own6, c6, { f2 with next := Z }, S2, M6, n6, HH6.out.pc Z HST3.out.1, HTL6.out, HJV6.out, HST3.out.2⟩
            case measure => have := HK1.out; omega
           ·rw [if_neg (show ¬ f2.next = f.next from fun e => hn (e.trans HPC.out.symm))] at hst2
            have HH6 := hid h6
            have HST3 := hid hst2
            clear hst2 h6 htl6 hjv6 ed
            obtain ⟨nx, hnx⟩ : ∃ nx, nx = f2.next := ⟨_, rfl⟩
            rw [← hnx] at q229 hn
            have hnI : ((nx : Int) == (pc : Int)) = false := by simp; omega
            clear hnx hn
            go_wp2_with fail
            go_roundg k1
            case rel => exact ⟨own6, c6, f2, S2, M6, n6, HH6.out, HTL6.out, HJV6.out, HST3.out⟩
            case measure => have := HK1.out; omega
end Go.Proofs.YtfflppedbopdpaaGreat
namespace Go.Proofs.YtfflppedbopdpaaGreat
open Go.RowKit Go.Mun
def prE (f : Fr) (_ : St) (x : Int) : Pri := if x = 0 ∨ 96 ≤ x ∧ x ≤ 159 then .more 0 f else .none
def doE (f : Fr) (S : St) (x : Int) : Res :=
 if x = 0 then .ok { f with ended := true } S
 else if 96 ≤ x ∧ x ≤ 127 then .ok { f with stack := f.stack ++ [ownR f (x.toNat - 95)] } S
 else .none
theorem build46o (g : Int) (a b : Option Addr) (k kc j jc : Nat) :
  fillL 24 (plOf zs46) (cat zs46) [(0, .int .i64 g), (2, .slice a k kc), (3, .slice b j jc)] = some (cat (outS ⟨g, 0, [], [], 0⟩ (.slice a k kc) (.slice b j jc))) := by
 rw [fillL_cats _ _ _ zs46_len]
 ·rfl
 ·rw [lens46]
  exact fits_cons rfl (fits_cons rfl (fits_cons rfl (fits_nil _)))
theorem box46 (w : World) : (w.alloc (.cells (cat zs46).toArray 41)).free? w.heap.size 0 24 = true := World.free?_alloc_at _ _ rfl (by rw [zs46_len]; omega)
theorem r_outcome {E : REnv} {w : World} {own : Go.Mun.Own} {c : RFV} {f : Fr} {S : St} {M : List (Nat × St)} {n : Nat} (x : Int) (h : RFrOk E w own c f S M n) :
  Calls Tryz.prog 72 #[.pointer (some ⟨E.fb, 0, none⟩), .int .i64 0, .int .i64 x] w fun e w' => e = .returned (.agg (cat (outS ⟨f.gas, 0, [], [], 0⟩ c.out (.slice none 0 0))).toArray) ∧ Below w.heap.size w w' := by
 have hlv := h.logs.2
 obtain ⟨⟨oa, oc, hov, _, _⟩, _, _⟩ := h.out
 have c228 := rf_gas h.row
 have c233 := rf_out h.row
 have c234 := rf_lv h.row
 rw [hov] at c233
 rw [hlv] at c234
 have hlt := h.lt
 have hf := box46 w
 have hbld := build46o f.gas oa none f.out.length oc 0 0
 have hok := outS_ok ⟨f.gas, 0, [], [], 0⟩ oa none f.out.length oc 0 0
 rw [hov]
 obtain ⟨W, hW⟩ : ∃ W, W = w.alloc (.cells (cat zs46).toArray 41) := ⟨_, rfl⟩
 have q228 : W.drew.cell? ⟨E.fb, 228, none⟩ = some (.int .i64 f.gas) := by rw [hW]; exact (World.cell?_alloc_past _ _ _ hlt).trans c228
 have q233 : W.drew.cell? ⟨E.fb, 233, none⟩ = some (.slice oa f.out.length oc) := by rw [hW]; exact (World.cell?_alloc_past _ _ _ hlt).trans c233
 have q234 : W.drew.cell? ⟨E.fb, 234, none⟩ = some (.slice none 0 0) := by rw [hW]; exact (World.cell?_alloc_past _ _ _ hlt).trans c234
 have hfd : W.drew.free? w.heap.size 0 24 = true := by rw [hW]; exact hf
 have HB : Hid (Below w.heap.size w W.drew) := by rw [hW]; exact ((Below.refl _ _).alloc (Nat.le_refl _) _).drew
 have HW := hid hW
 clear h hlv hov c228 c233 c234 hlt hf hW
 go_enter Tryz.func72, Tryz.ntmps72
 go_wp2_with fail
 rw [← HW.out]
 go_still_tail 13, (by kernel_rfl)
 go_wp2
 exact ret_row ty46 rfl _ rfl rfl hfd hok ⟨rfl, HB.out.setCells (Nat.le_refl _) _ _⟩
def tl0 : List Value := infsC (List.replicate 256 infZ)
theorem tl0_len : tl0.length = 1280 := by unfold tl0; rw [infsC_len, List.length_replicate]
def zs189 : List (List Value) := [[.pointer none], cat zs42, cat zs49, beC 20 0, [.slice none 0 0], [.slice none 0 0], beC 32 0, [.bool false], [.int .i64 0], [.int .i64 0], [.slice none 0 0], [.slice none 0 0], [.slice none 0 0], [.slice none 0 0], [.slice none 0 0], [.bool false], tl0]
theorem lens189 : lens zs189 = [1, 129, 43, 20, 1, 1, 32, 1, 1, 1, 1, 1, 1, 1, 1, 1, 1280] := by kernel_rfl
theorem zs189_len : (cat zs189).length = 1516 := by kernel_rfl
theorem sty189 : StructTy Tryz.prog 145 1516 (cat zs189) (plOf zs189) := ⟨⟨_, _, rfl, Tryz.underlying145, by kernel_rfl, by kernel_rfl⟩, zs189_len⟩
theorem bl189 (ρ : Operand → Value) (dst : Option Tmp) (parts : List (Nat × Operand)) (t : TypeId) (pos : String) (after : Array Edge) (gd : Option (Nat × Bool)) (w : World) : (execOp ρ ⟨dst, .build 145 parts.toArray, t, pos, after, gd⟩).run Tryz.prog w = asNext (blRow Tryz.prog 145 (parts.map fun p => (p.1, ρ p.2)) w (fillL 1516 (plOf zs189) (cat zs189) (parts.map fun p => (p.1, ρ p.2)))) := ex_build ρ dst t pos after gd w sty189 parts
theorem build189 (sb : Nat) (m : Msg) (dv : Value) (cx : Ctx) (a v : Nat) (d : Option Addr) (k kc : Nat) (s : Bool) (g : Int) :
  fillL 1516 (plOf zs189) (cat zs189) [(0, .pointer (some ⟨sb, 0, none⟩)), (1, .agg (cat (msgS m dv)).toArray), (2, .agg (cat (ctxS cx)).toArray), (3, .agg (beC 20 a).toArray), (5, .slice d k kc), (6, .agg (beC 32 v).toArray), (7, .bool s), (8, .int .i64 g)] =
   some (cat [[.pointer (some ⟨sb, 0, none⟩)], cat (msgS m dv), cat (ctxS cx), beC 20 a, [.slice none 0 0], [.slice d k kc], beC 32 v, [.bool s], [.int .i64 g], [.int .i64 0], [.slice none 0 0], [.slice none 0 0], [.slice none 0 0], [.slice none 0 0], [.slice none 0 0], [.bool false], tl0]) := by
 rw [fillL_cats _ _ _ zs189_len]
 ·rfl
 ·rw [lens189]
  refine fits_cons rfl (fits_cons ?_ (fits_cons ?_ (fits_cons ?_ (fits_cons rfl (fits_cons ?_ (fits_cons rfl (fits_cons rfl (fits_nil _))))))))
  ·show some 129 = some (cat (msgS m dv)).length; rw [msgS_len]
  ·show some 43 = some (cat (ctxS cx)).length; rw [ctxS_len]
  ·show some 20 = some (beC 20 a).length; rw [beC_len]
  ·show some 32 = some (beC 32 v).length; rw [beC_len]
attribute [go_sem ↓] bl189
end Go.Proofs.YtfflppedbopdpaaGreat
