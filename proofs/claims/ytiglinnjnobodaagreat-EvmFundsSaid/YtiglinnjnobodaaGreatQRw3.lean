/-
  The reference's rows of digits as words; sums.
  The reference's rows of digits: the sum of two of one length.
  The reference's rows of digits: the difference.
  The reference's words: Cmp, Add, Sub.
  The reference's copies of accounts.
  The reference's copied.
  The reference's marks: copies get labels; a mark more.
-/
import Derived.Test.YtiglinnjnobodaaGreatQRs6
import Derived.Test.YtiglinnjnobodaaGreatQTx5
set_option linter.unusedVariables false
set_option linter.unusedSimpArgs false
namespace Go.Proofs.YtiglinnjnobodaaGreat
open Go.RowKit Go.Mun

structure WrdR (v k : Nat) (w wr : World) : Prop where
 below : Below w.heap.size w wr
 res : wr.free? w.heap.size 0 32 = true
 free : wr.free? (w.heap.size + 1) 0 32 = true
 row : ∃ L : List Int, wr.row? (w.heap.size + 1) 0 32 = some (u8L L) ∧ L.length = 32 ∧ ∀ i, i < 32 → 32 - 2 * k ≤ i → L[i]?.getD 0 = ((v / 256 ^ (31 - i) % 256 : Nat) : Int)
theorem WrdR.start (v : Nat) (w : World) : WrdR v 0 w ((w.alloc (.cells (zU8 32).toArray 25)).alloc (.cells (zU8 32).toArray 25)) := by
 refine ⟨((Below.refl _ _).alloc (Nat.le_refl _) _).alloc (by simp) _, ?_, ?_, List.replicate 32 0, ?_, by simp, fun i hi h => by omega⟩
 ·rw [World.free?_alloc_lt _ (by simp)]; exact World.free?_alloc_at _ _ rfl (by simp)
 ·exact World.free?_alloc_at _ _ (by simp) (by simp)
 ·rw [u8L_replicate]; exact World.row?_alloc_at _ _ _ (by simp) (by simp)
theorem WrdR.next {v k : Nat} {w wr : World} (h : WrdR v k w wr) (hk : k < 16) {x y : Nat} (hx : x = v / 256 ^ (2 * k) % 256) (hy : y = v / 256 ^ (2 * k + 1) % 256) {i1 i2 : Nat} (h1 : i1 = 31 - 2 * k) (h2 : i2 = 30 - 2 * k) :
  WrdR v (k + 1) w ((wr.setCell ⟨w.heap.size + 1, i1, none⟩ (.int .u8 (x : Int))).setCell ⟨w.heap.size + 1, i2, none⟩ (.int .u8 (y : Int))) := by
 obtain ⟨L, r, hl, hv⟩ := h.row
 have f1 := World.free?_sub h.free (o' := i1) (n' := 1) (by omega)
 have f2 := World.free?_sub h.free (o' := i2) (n' := 1) (by omega)
 have f2' : (wr.setCell ⟨w.heap.size + 1, i1, none⟩ (.int .u8 (x : Int))).free? (w.heap.size + 1) i2 1 = true := by rw [free?_setCell _ f1]; exact f2
 refine ⟨(h.below.setCell (p := ⟨w.heap.size + 1, i1, none⟩) (Nat.le_succ _) _).setCell (p := ⟨w.heap.size + 1, i2, none⟩) (Nat.le_succ _) _, ?_, ?_, (L.set i1 x).set i2 y, ?_, by simpa using hl, ?_⟩
 ·rw [free?_setCell _ f2', free?_setCell _ f1]; exact h.res
 ·rw [free?_setCell _ f2', free?_setCell _ f1]; exact h.free
 ·have r1 := row?_setCell_in (.int .u8 (x : Int)) r (Nat.zero_le _) (show i1 < 0 + 32 by omega)
  rw [Nat.sub_zero, u8L_set L _ (by omega)] at r1
  have r2 := row?_setCell_in (.int .u8 (y : Int)) r1 (Nat.zero_le _) (show i2 < 0 + 32 by omega)
  rw [Nat.sub_zero, u8L_set _ _ (by simp; omega)] at r2
  exact r2
 ·intro i hi hi2
  rw [List.getElem?_set, List.getElem?_set]
  by_cases e2 : i2 = i
  ·rw [if_pos e2, if_pos (by simp; omega), hy, show 31 - i = 2 * k + 1 by omega]; rfl
  ·rw [if_neg e2]
   by_cases e1 : i1 = i
   ·rw [if_pos e1, if_pos (by omega), hx, show 31 - i = 2 * k by omega]; rfl
   ·rw [if_neg e1]; exact hv i hi (by omega)
theorem WrdR.done {v : Nat} {w wr : World} (h : WrdR v 16 w wr) : wr.row? (w.heap.size + 1) 0 32 = some (beC 32 v) := by
 obtain ⟨L, r, hl, hv⟩ := h.row
 rw [r]
 have : L = be 32 v := by
  apply List.ext_getElem (by simpa using hl)
  intro i g1 g2
  have hi : i < 32 := by omega
  have := hv i hi (by omega)
  rw [List.getElem?_eq_getElem g1] at this
  simp only [Option.getD_some] at this
  rw [this]
  simp [be]
 rw [this]; rfl
set_option maxRecDepth 100000 in
set_option maxHeartbeats 1000000 in
theorem ref_word0 {w : World} {ad : Option Addr} {c : Nat} {l : List Int} (hd : DigAt w ad c l) (h16 : 16 ≤ l.length) :
  Calls Tryz.prog 99 #[.slice ad l.length c] w fun e w' => e = .returned (.agg (beC 32 (dval l)).toArray) ∧ Below w.heap.size w w' := by
 obtain ⟨m, hm⟩ : ∃ m, m = l.length := ⟨_, rfl⟩
 obtain ⟨v, hv⟩ : ∃ v, v = dval l := ⟨_, rfl⟩
 have HD := Lib.hid hd
 have hlen : m ≤ 100000 := by rw [hm]; exact hd.len
 have HM := Lib.hid hm
 have HV := Lib.hid hv
 have HS := Lib.hid (WrdR.start v w)
 rw [← hm, ← hv]
 rw [← hm] at h16
 have hb32 := beC_ok 32 v
 clear hm hv hd
 go_enter Tryz.func99, Tryz.ntmps99
 go_wp2_with fail
 go_loopw [4] (fun ix wr => ∃ k : Nat, k ≤ 16 ∧ ix = .int .i64 (k : Int) ∧ Hid (WrdR v k w wr)) (fun ix _ => 16 - (intOf ix).toNat)
 case atStart => exact ⟨0, by omega, rfl, HS⟩
 case round =>
  obtain ⟨k, hk, rfl, HR⟩ := hrel
  by_cases hlt : k < 16
  ·have hI : (k : Int) < 16 := by omega
   have hI2 : (k : Int) < m := by omega
   have hIN : k < m := by omega
   obtain ⟨d, hdd⟩ : ∃ d : Nat, d = v / 65536 ^ k % 65536 := ⟨_, rfl⟩
   have hd16 : d < 65536 := by rw [hdd]; exact Nat.mod_lt _ (by decide)
   obtain ⟨x, hx⟩ : ∃ x : Nat, x = d % 256 := ⟨_, rfl⟩
   obtain ⟨y, hy⟩ : ∃ y : Nat, y = d / 256 := ⟨_, rfl⟩
   have hxv : Hid (x = v / 256 ^ (2 * k) % 256) := by rw [hx, hdd]; exact dig_low v k
   have hyv : Hid (y = v / 256 ^ (2 * k + 1) % 256) := by rw [hy, hdd]; exact dig_high v k
   have hx8 : x < 256 := by omega
   have hy8 : y < 256 := by omega
   have b1 : bits .and .i64 (d : Int) 255 = (x : Int) := by rw [and_255]; omega
   have b2 : (d : Int) / 256 = (y : Int) := by omega
   have b3 : IntKind.u8.wrap (x : Int) = (x : Int) := wr8 _ (by omega) (by omega)
   have b4 : IntKind.u8.wrap (y : Int) = (y : Int) := wr8 _ (by omega) (by omega)
   obtain ⟨i1, hi1⟩ : ∃ i1 : Nat, i1 = 31 - 2 * k := ⟨_, rfl⟩
   obtain ⟨i2, hi2⟩ : ∃ i2 : Nat, i2 = 30 - 2 * k := ⟨_, rfl⟩
   have hw1 : IntKind.i64.wrap (2 * (k : Int)) = 2 * (k : Int) := wrI _ (by omega) (by omega)
   have hw2 : IntKind.i64.wrap (31 - 2 * (k : Int)) = (i1 : Int) := by rw [wrI _ (by omega) (by omega)]; omega
   have hw3 : IntKind.i64.wrap (30 - 2 * (k : Int)) = (i2 : Int) := by rw [wrI _ (by omega) (by omega)]; omega
   have h1 : i1 < 32 := by omega
   have h2 : i2 < 32 := by omega
   have hJ1 : (i1 : Int) < 32 := by omega
   have hJ2 : (i2 : Int) < 32 := by omega
   obtain ⟨b, off, rfl, hbl, hc⟩ := HD.out.ints.at (i := k) (by have := HM.out; omega)
   have hcell : wr.cell? ⟨b, off + k, none⟩ = some (.int .i64 (d : Int)) := by
    have e1 := hc k (by have := HM.out; omega)
    have e2 : l[k]?.getD 0 = (d : Int) := by
     have := dval_at HD.out.dig k
     unfold dat at this
     rw [this, ← HV.out, hdd]
    rw [e2] at e1
    exact (HR.out.below.cell (p := ⟨b, off + k, none⟩) hbl).trans e1
   have f1 := World.free?_sub HR.out.free (o' := i1) (n' := 1) (by omega)
   have f2 := World.free?_sub HR.out.free (o' := i2) (n' := 1) (by omega)
   have hne : b ≠ w.heap.size + 1 := by omega
   have f2' : (wr.setCell ⟨w.heap.size + 1, i1, none⟩ (.int .u8 (x : Int))).free? (w.heap.size + 1) i2 1 = true := by rw [free?_setCell _ f1]; exact f2
   have hcell2 : (wr.setCell ⟨w.heap.size + 1, i1, none⟩ (.int .u8 (x : Int))).cell? ⟨b, off + k, none⟩ = some (.int .i64 (d : Int)) := by
    exact (World.cell?_setCells_block (w := wr) (w.heap.size + 1) i1 ⟨b, off + k, none⟩ [.int .u8 (x : Int)] hne).trans hcell
   have HN := Lib.hid (HR.out.next hlt hxv.out hyv.out hi1 hi2)
   clear hdd hx hy hi1 hi2 hlt hc hbl hd16
   go_wp2
   go_roundw
   case rel => exact ⟨k + 1, by omega, by go_num, HN⟩
   case measure => simp [intOf]; omega
  ·obtain rfl : k = 16 := by omega
   have hr := HR.out.done
   have hf := HR.out.res
   have HB := Lib.hid HR.out.below
   clear hlt
   go_wp2
   refine ret_row ty25 rfl _ rfl rfl hf hb32 ?_
   exact ⟨rfl, HB.out.setCells (Nat.le_refl _) _ _⟩
structure SumD (a b : List Int) (w wr : World) (v : Value) (k c : Nat) (done : List Int) : Prop where
 len : done.length = k
 dig : Dig done
 val : dval done + 65536 ^ k * c = dval (a.take k) + dval (b.take k)
 c1 : c ≤ 1
 own : wr.ownsRow w.heap.size 3 1 v done.length (done.map (Value.int .i64))
 below : Below w.heap.size w wr
theorem and_65535 (m : Int) : bits .and .i64 m 65535 = m % 65536 := and_mask m 16 (by decide)
theorem SumD.next {a b : List Int} {w wr w1 : World} {v v' : Value} {k c x y : Nat} {done : List Int} (h : SumD a b w wr v k c done) (ha : dat a k = (x : Int)) (hb : dat b k = (y : Int)) (hx : x < 65536) (hy : y < 65536)
  (ho : w1.ownsRow w.heap.size 3 1 v' (done.length + 1) (done.map (Value.int .i64) ++ [.int .i64 (((c + x + y) % 65536 : Nat) : Int)])) (hg : wr.grownBy w1 v.ownBlock) : SumD a b w w1 v' (k + 1) ((c + x + y) / 65536) (done ++ [(((c + x + y) % 65536 : Nat) : Int)]) := by
 obtain ⟨h1, h2, h3, h4, h5, h6⟩ := h
 refine ⟨by simp [h1], dig_append h2 (fun z hz => by simp at hz; omega), ?_, by omega, by simpa using ho, h6.grown hg h6.size (fun k hk => (h5.lt k hk).1)⟩
 rw [dval_append, dval_take, dval_take, h1, ha, hb]
 have := add_round (dval (a.take k)) (dval (b.take k)) (65536 ^ k) (dval done) c x y h3
 simp only [dval, Int.toNat_natCast, Nat.pow_succ] at this ⊢
 rw [Nat.mul_zero, Nat.add_zero]
 exact this
structure DigNew (w0 w : World) (v : Value) (l : List Int) : Prop where
 below : Below w0.heap.size w0 w
 own : w.ownsRow w0.heap.size 3 1 v l.length (l.map (Value.int .i64))
 dig : Dig l
theorem DigNew.at {w0 w : World} {v : Value} {l : List Int} (h : DigNew w0 w v l) (hl : l.length ≤ 100000) : ∃ ad c, v = .slice ad l.length c ∧ DigAt w ad c l := by
 obtain ⟨ad, c, e, _, hI⟩ := Ints.of_own' h.own
 exact ⟨ad, c, e, hI, h.dig, hl⟩
set_option maxRecDepth 100000 in
set_option maxHeartbeats 1000000 in
theorem ref_add0 {w : World} {aa ab : Option Addr} {ca cb : Nat} {a b : List Int} (ha : DigAt w aa ca a) (hb : DigAt w ab cb b) (hl : b.length = a.length) :
  Calls Tryz.prog 100 #[.slice aa a.length ca, .slice ab b.length cb] w fun e w' => ∃ v l, e = .returned v ∧ DigNew w w' v l ∧ l.length = a.length + 1 ∧ dval l = dval a + dval b := by
 obtain ⟨m, hm⟩ : ∃ m, m = a.length := ⟨_, rfl⟩
 have HA := Lib.hid ha
 have HB := Lib.hid hb
 have hlen : m ≤ 100000 := by rw [hm]; exact ha.len
 have HL : Hid (b.length = m) := by rw [hm]; exact hl
 have HM := Lib.hid hm
 rw [hl, ← hm]
 clear hm ha hb hl
 go_enter Tryz.func100, Tryz.ntmps100
 go_wp2_with fail
 go_loopw [5, 6, 7] (fun v cx ix wr => ∃ (k c : Nat) (done : List Int), k ≤ m ∧ ix = .int .i64 (k : Int) ∧ cx = .int .i64 (c : Int) ∧ Hid (SumD a b w wr v k c done)) (fun _ _ ix _ => m - (intOf ix).toNat)
 case atStart => exact ⟨0, 0, [], by omega, rfl, rfl, rfl, fun x hx => (by cases hx), by simp [dval], by omega, World.ownsRow_nil _ _ _ _, Below.refl _ _⟩
 case round =>
  obtain ⟨k, c, done, hk, rfl, rfl, HR⟩ := hrel
  have hc1 := HR.out.c1
  by_cases hlt : k < m
  ·have hI : (k : Int) < m := by omega
   obtain ⟨ba, oa, rfl, hla, hca⟩ := HA.out.ints.at (i := k) (by have := HM.out; omega)
   obtain ⟨bb, ob, rfl, hlb, hcb⟩ := HB.out.ints.at (i := k) (by have := HL.out; omega)
   obtain ⟨x, hx⟩ : ∃ x : Nat, dat a k = (x : Int) := ⟨(dat a k).toNat, by have := (dat_dig HA.out.dig k).1; omega⟩
   obtain ⟨y, hy⟩ : ∃ y : Nat, dat b k = (y : Int) := ⟨(dat b k).toNat, by have := (dat_dig HB.out.dig k).1; omega⟩
   have hx6 : x < 65536 := by have := (dat_dig HA.out.dig k).2; omega
   have hy6 : y < 65536 := by have := (dat_dig HB.out.dig k).2; omega
   have c1 : wr.cell? ⟨ba, oa + k, none⟩ = some (.int .i64 (x : Int)) := by
    rw [← hx]; exact (HR.out.below.cell (p := ⟨ba, oa + k, none⟩) hla).trans (hca k (by have := HM.out; omega))
   have c2 : wr.cell? ⟨bb, ob + k, none⟩ = some (.int .i64 (y : Int)) := by
    rw [← hy]; exact (HR.out.below.cell (p := ⟨bb, ob + k, none⟩) hlb).trans (hcb k (by have := HL.out; omega))
   obtain ⟨s, hs⟩ : ∃ s, s = c + x + y := ⟨_, rfl⟩
   obtain ⟨lo, hlo⟩ : ∃ lo, lo = s % 65536 := ⟨_, rfl⟩
   obtain ⟨hi, hhi⟩ : ∃ hi, hi = s / 65536 := ⟨_, rfl⟩
   have w1 : IntKind.i64.wrap ((c : Int) + (x : Int)) = (c : Int) + (x : Int) := wrI _ (by omega) (by omega)
   have w2 : IntKind.i64.wrap ((c : Int) + (x : Int) + (y : Int)) = (s : Int) := by rw [wrI _ (by omega) (by omega)]; omega
   have b1 : bits .and .i64 (s : Int) 65535 = (lo : Int) := by rw [and_65535]; omega
   have b2 : (s : Int) / 65536 = (hi : Int) := by omega
   have HX := Lib.hid hx
   have HY := Lib.hid hy
   have HLO : Hid (lo = (c + x + y) % 65536) := by rw [hlo, hs]; rfl
   have HHI : Hid (hi = (c + x + y) / 65536) := by rw [hhi, hs]; rfl
   have hsz := HR.out.below.size
   have hdl : done.length = k := HR.out.len
   clear hx hy hs hlo hhi hca hcb hla hlb hlt
   go_wp2_with (at_builtin; go_must (refine wpList_append_new elem157 rfl _ _ rfl HR.out.own rfl 1 rfl rfl ?c1 ?c2 ?c3 ?c4 ?_))
   case c1 => simp [Value.oneCell']
   case c2 => unfold maxLen; omega
   case c3 => omega
   case c4 => exact hsz
   intro v' w3 ho hg _
   rw [HLO.out] at ho
   have HN := Lib.hid (HR.out.next HX.out HY.out hx6 hy6 (by rw [hdl]; exact ho) hg)
   rw [← HHI.out] at HN
   clear ho hg
   go_wp2
   go_roundw
   case rel => exact ⟨k + 1, hi, _, by omega, by go_num, rfl, HN⟩
   case measure => simp [intOf]; omega
  ·obtain rfl : k = m := by omega
   have hI : ¬ (k : Int) < k := by omega
   have hsz := HR.out.below.size
   have hdl : done.length = k := HR.out.len
   clear hlt
   go_wp2_with (at_builtin; go_must (refine wpList_append_new elem157 rfl _ _ rfl HR.out.own rfl 1 rfl rfl ?d1 ?d2 ?d3 ?d4 ?_))
   case d2 => unfold maxLen; omega
   case d3 => omega
   intro v' w3 ho hg _
   have HO := Lib.hid ho
   have HB3 := Lib.hid (HR.out.below.grown hg hsz (fun k hk => (HR.out.own.lt k hk).1))
   clear ho hg
   go_wp2
   go_ret
   refine ⟨_, done ++ [(c : Int)], rfl, ⟨HB3.out, by simpa [hdl] using HO.out, dig_append HR.out.dig (fun z hz => by simp at hz; omega)⟩, by simp [hdl], ?_⟩
   have := HR.out.val
   rw [dval_take_all (by have := HM.out; omega), dval_take_all (by have := HL.out; omega)] at this
   rw [dval_append, hdl]
   simp only [dval, Int.toNat_natCast, Nat.mul_zero, Nat.add_zero]
   exact this
def preZ (n : Nat) (l : List Int) : List Int := l ++ List.replicate (n - l.length) 0
theorem preZ_set (n : Nat) (l : List Int) (x : Int) (h : l.length < n) : (preZ n l).set l.length x = preZ n (l ++ [x]) := by
 unfold preZ
 rw [List.set_append_right _ _ (Nat.le_refl _), Nat.sub_self]
 obtain ⟨m, hm⟩ : ∃ m, n - l.length = m + 1 := ⟨n - l.length - 1, by omega⟩
 rw [hm, List.replicate_succ, List.set_cons_zero, List.length_append, show n - (l.length + [x].length) = m by simp; omega]
 simp
structure DifD (a b : List Int) (m : Nat) (w wr : World) (k c : Nat) (done : List Int) : Prop where
 len : done.length = k
 dig : Dig done
 val : dval done + dval (b.take k) = dval (a.take k) + 65536 ^ k * c
 c1 : c ≤ 1
 arr : Arr wr w.heap.size m (dcL (preZ m done))
 below : Below w.heap.size w wr
theorem DifD.next {a b : List Int} {m : Nat} {w wr : World} {k c x y z d : Nat} {done : List Int} (h : DifD a b m w wr k c done) (hk : k < m) (ha : dat a k = (x : Int)) (hb : dat b k = (y : Int)) (hz : z < 65536) (hd : d ≤ 1) (he : z + y + c = x + 65536 * d) :
  DifD a b m w (wr.setCell ⟨w.heap.size, k, none⟩ (.int .i64 (z : Int))) (k + 1) d (done ++ [(z : Int)]) := by
 obtain ⟨h1, h2, h3, h4, h5, h6⟩ := h
 refine ⟨by simp [h1], dig_append h2 (fun q hq => by simp at hq; omega), ?_, hd, ?_, h6.setCell (p := ⟨w.heap.size, k, none⟩) (Nat.le_refl _) _⟩
 ·rw [dval_append, dval_take, dval_take, h1, ha, hb]
  have := sub_round' (dval (a.take k)) (dval (b.take k)) (65536 ^ k) (dval done) c x y z d h3 he
  simp only [dval, Int.toNat_natCast, Nat.pow_succ, Nat.mul_zero, Nat.add_zero] at this ⊢
  exact this
 ·have := h5.set hk (.int .i64 (z : Int))
  rw [dcL_set] at this
  have e : (preZ m done).set k (z : Int) = preZ m (done ++ [(z : Int)]) := by
   rw [← h1]; exact preZ_set m done z (by omega)
  rw [e] at this
  exact this
theorem DifD.drew {a b : List Int} {m : Nat} {w wr : World} {k c : Nat} {done : List Int} (h : DifD a b m w wr k c done) : DifD a b m w wr.drew k c done := ⟨h.len, h.dig, h.val, h.c1, ⟨h.arr.row, h.arr.free⟩, h.below.drew⟩
set_option maxRecDepth 100000 in
set_option maxHeartbeats 2000000 in
theorem ref_sub0 {w : World} {aa ab : Option Addr} {ca cb : Nat} {a b : List Int} (ha : DigAt w aa ca a) (hb : DigAt w ab cb b) (hl : b.length ≤ a.length) :
  Calls Tryz.prog 103 #[.slice aa a.length ca, .slice ab b.length cb] w fun e w' => ∃ ad, e = .returned (.slice ad a.length a.length) ∧ Below w.heap.size w w' ∧ ∃ l, DigAt w' ad a.length l ∧ l.length = a.length ∧ ∃ d, d ≤ 1 ∧ dval l + dval b = dval a + 65536 ^ a.length * d := by
 obtain ⟨m, hm⟩ : ∃ m, m = a.length := ⟨_, rfl⟩
 obtain ⟨mb, hmb⟩ : ∃ mb, mb = b.length := ⟨_, rfl⟩
 have hmk : ∀ w', (Instr.makeSlice 173 (.int .i64 (m : Int)) (.int .i64 (m : Int))).run Tryz.prog w' = .ok (.slice (some ⟨w'.heap.size, 0, none⟩) m m) (w'.alloc (.cells (zDg m).toArray 3)) := fun w' => run_makeI64 elem157 (m : Int) m rfl (by have := ha.len; omega) w'
 obtain ⟨w0, e0⟩ : ∃ w0, w0 = w.alloc (.cells (zDg m).toArray 3) := ⟨_, rfl⟩
 have hs : DifD a b m w w0 0 0 [] := by
  rw [e0]
  refine ⟨rfl, fun x hx => (by cases hx), by simp [dval], by omega, ⟨?_, ?_⟩, (Below.refl _ _).alloc (Nat.le_refl _) _⟩
  ·have : preZ m [] = List.replicate m 0 := by simp [preZ]
   rw [this, dcL_zero]; exact World.row?_alloc_at _ _ _ rfl (by simp)
  ·exact World.free?_alloc_at _ _ rfl (by simp)
 have HS := Lib.hid hs
 have HE := Lib.hid e0
 have HA := Lib.hid ha
 have HB := Lib.hid hb
 have hlen : m ≤ 100000 := by rw [hm]; exact ha.len
 have hlb : mb ≤ m := by omega
 have HM := Lib.hid hm
 have HMB := Lib.hid hmb
 rw [← hm, ← hmb]
 clear hm hmb ha hb hl hs e0
 go_enter Tryz.func103, Tryz.ntmps103
 go_wp2_with fail
 rw [← HE.out]
 go_loopw [6, 7] (fun cx ix wr => ∃ (k c : Nat) (done : List Int), k ≤ m ∧ ix = .int .i64 (k : Int) ∧ cx = .int .i64 (c : Int) ∧ Hid (DifD a b m w wr k c done)) (fun _ ix _ => m - (intOf ix).toNat)
 case atStart => exact ⟨0, 0, [], by omega, rfl, rfl, HS⟩
 case round =>
  obtain ⟨k, c, done, hk, rfl, rfl, HR⟩ := hrel
  have hc1 := HR.out.c1
  by_cases hlt : k < m
  ·have hI : (k : Int) < m := by omega
   have hIN : k < m := hlt
   have hf : wr.free? w.heap.size k 1 = true := World.free?_sub HR.out.arr.free (by omega)
   obtain ⟨ba, oa, rfl, hla, hca⟩ := HA.out.ints.at (i := k) (by have := HM.out; omega)
   obtain ⟨x, hx⟩ : ∃ x : Nat, dat a k = (x : Int) := ⟨(dat a k).toNat, by have := (dat_dig HA.out.dig k).1; omega⟩
   have hx6 : x < 65536 := by have := (dat_dig HA.out.dig k).2; omega
   have c1 : wr.cell? ⟨ba, oa + k, none⟩ = some (.int .i64 (x : Int)) := by
    rw [← hx]; exact (HR.out.below.cell (p := ⟨ba, oa + k, none⟩) hla).trans (hca k (by have := HM.out; omega))
   have HX := Lib.hid hx
   clear hx hca
   obtain ⟨y, hy⟩ : ∃ y : Nat, dat b k = (y : Int) := ⟨(dat b k).toNat, by have := (dat_dig HB.out.dig k).1; omega⟩
   have hy6 : y < 65536 := by have := (dat_dig HB.out.dig k).2; omega
   have HY := Lib.hid hy
   have w1 : IntKind.i64.wrap ((x : Int) - (c : Int)) = (x : Int) - (c : Int) := wrI _ (by omega) (by omega)
   have w2 : IntKind.i64.wrap ((x : Int) - (c : Int) - (y : Int)) = (x : Int) - (c : Int) - (y : Int) := wrI _ (by omega) (by omega)
   have w3 : IntKind.i64.wrap ((x : Int) - (c : Int) - (y : Int) + 65536) = (x : Int) - (c : Int) - (y : Int) + 65536 := wrI _ (by omega) (by omega)
   by_cases hkb : k < mb
   ·have hJ : (k : Int) < mb := by omega
    obtain ⟨bb, ob, rfl, hlb2, hcb⟩ := HB.out.ints.at (i := k) (by have := HMB.out; omega)
    have c2 : wr.cell? ⟨bb, ob + k, none⟩ = some (.int .i64 (y : Int)) := by
     rw [← hy]; exact (HR.out.below.cell (p := ⟨bb, ob + k, none⟩) hlb2).trans (hcb k (by have := HMB.out; omega))
    clear hy hcb hlb2
    by_cases hneg : (x : Int) - (c : Int) - (y : Int) < 0
    ·obtain ⟨z, hz⟩ : ∃ z : Nat, (x : Int) - (c : Int) - (y : Int) + 65536 = (z : Int) := ⟨((x : Int) - (c : Int) - (y : Int) + 65536).toNat, by omega⟩
     have HN := Lib.hid (HR.out.next hlt HX.out HY.out (z := z) (d := 1) (by omega) (by omega) (by omega))
     have w3' : IntKind.i64.wrap ((x : Int) - (c : Int) - (y : Int) + 65536) = (z : Int) := by rw [w3, hz]
     clear w3 hz
     go_wp2
     go_roundw
     case rel => exact ⟨k + 1, 1, _, by omega, by go_num, rfl, HN⟩
     case measure => simp [intOf]; omega
    ·obtain ⟨z, hz⟩ : ∃ z : Nat, (x : Int) - (c : Int) - (y : Int) = (z : Int) := ⟨((x : Int) - (c : Int) - (y : Int)).toNat, by omega⟩
     have HN := Lib.hid (HR.out.next hlt HX.out HY.out (z := z) (d := 0) (by omega) (by omega) (by omega))
     rw [← hz] at HN
     clear hz
     go_wp2
     go_roundw
     case rel => exact ⟨k + 1, 0, _, by omega, by go_num, rfl, HN⟩
     case measure => simp [intOf]; omega
   ·have hJ : ¬ (k : Int) < mb := by omega
    obtain rfl : y = 0 := by
     have : dat b k = 0 := dat_ge (by have := HMB.out; omega)
     rw [this] at hy; omega
    clear hy w2 w3
    by_cases hneg : (x : Int) - (c : Int) < 0
    ·obtain ⟨z, hz⟩ : ∃ z : Nat, (x : Int) - (c : Int) + 65536 = (z : Int) := ⟨((x : Int) - (c : Int) + 65536).toNat, by omega⟩
     have HN := Lib.hid (HR.out.next hlt HX.out HY.out (z := z) (d := 1) (by omega) (by omega) (by omega))
     have w3' : IntKind.i64.wrap ((x : Int) - (c : Int) + 65536) = (z : Int) := by rw [wrI _ (by omega) (by omega), hz]
     clear hz
     go_wp2
     go_roundw
     case rel => exact ⟨k + 1, 1, _, by omega, by go_num, rfl, HN⟩
     case measure => simp [intOf]; omega
    ·obtain ⟨z, hz⟩ : ∃ z : Nat, (x : Int) - (c : Int) = (z : Int) := ⟨((x : Int) - (c : Int)).toNat, by omega⟩
     have HN := Lib.hid (HR.out.next hlt HX.out HY.out (z := z) (d := 0) (by omega) (by omega) (by omega))
     rw [← hz] at HN
     clear hz
     go_wp2
     go_roundw
     case rel => exact ⟨k + 1, 0, _, by omega, by go_num, rfl, HN⟩
     case measure => simp [intOf]; omega
  ·obtain rfl : k = m := by omega
   have hI : ¬ (k : Int) < k := by omega
   clear hlt
   go_wp2
   go_ret
   have hr := HR.out.arr.row
   have hdl := HR.out.len
   have e : preZ k done = done := by unfold preZ; rw [hdl, Nat.sub_self]; simp
   rw [e] at hr
   have := HR.out.val
   rw [dval_take_all (l := a) (by have := HM.out; omega), dval_take_all (l := b) (by have := HMB.out; omega)] at this
   exact ⟨_, rfl, HR.out.below, done, ⟨ints_dcL hr (by omega), HR.out.dig, by omega⟩, hdl, c, hc1, this⟩
theorem dval_dgW {n : Nat} (h : n < wW) : dval (dg 16 n) = n := by
 rw [dval_dg, show (65536 : Nat) ^ 16 = wW by rw [wW_eq]]; exact Nat.mod_eq_of_lt h
theorem beC_modR (k n m : Nat) (h : n % 256 ^ k = m % 256 ^ k) : beC k n = beC k m := by
 rw [← beC_mod k n, ← beC_mod k m, h]
set_option maxRecDepth 100000 in
set_option maxHeartbeats 1000000 in
theorem ref_Cmp (n m : Nat) (hn : n < wW) (hm : m < wW) (w : World) :
  Calls Tryz.prog 62 #[.agg (beC 32 n).toArray, .agg (beC 32 m).toArray] w fun e w' => e = .returned (.int .i64 (cmpN n m)) ∧ Below w.heap.size w w' := by
 obtain ⟨w0, e0⟩ : ∃ w0, w0 = (w.alloc (.cells (beC 32 n).toArray 25)).alloc (.cells (beC 32 m).toArray 25) := ⟨_, rfl⟩
 have hx : Box2 w w0.drew n m := by rw [e0]; exact (Box2.start w n m).on (Below.refl _ _).drew
 obtain ⟨T, hT⟩ : ∃ T : World → Prop, T = fun w' => Box2 w w' n m := ⟨_, rfl⟩
 have t0 : T w0.drew := by rw [hT]; exact hx
 have HTB : Hid (∀ W W', T W → Below W.heap.size W W' → T W') := by
  rw [hT]; intro W W' hW hb; exact hW.on hb
 have HE := Lib.hid e0
 have hl1 : (beC 32 n).length = 32 := by simp
 have hl2 : (beC 32 m).length = 32 := by simp
 have HT := Lib.hid hT
 have EN := Lib.hid (dval_dgW hn)
 have EM := Lib.hid (dval_dgW hm)
 clear e0 hx hT
 go_enter Tryz.func62, Tryz.ntmps62
 go_wp2_with fail
 rw [← HE.out]
 refine wp_region_tree T [] (.take 0 (.take 2 (.alt 1 (.alt 3 (.alt 4 (.pure 5 .fin) .stop) .stop) .stop))) (by kernel_rfl) (by kernel_rfl) ?_
 refine tree_take ?_ t0 rfl (by rfl) (fun w' hs => ?_) (fun _ _ _ h => h) ?_
 rotate_left
 ·rw [HT.out] at hs
  have q1 := hs.x; have q2 := hs.y
  go_simp
  try rfl
 simp only [Act.put, tsa, tsb, tsc]
 refine tree_take ?_ t0 rfl (by rfl) (fun w' hs => ?_) (fun _ _ _ h => h) ?_
 rotate_left
 ·rw [HT.out] at hs
  have q1 := hs.x; have q2 := hs.y
  go_simp
  try rfl
 simp only [Act.put, tsa, tsb, tsc]
 refine tree_run rfl (fun K hK => ?_)
 go_simp
 refine (ref_limbs n _).mono ?_
 rintro e w1 ⟨ad1, rfl, hb, hd1⟩
 have t1 := HTB.out _ _ t0 hb
 have HD1 := Lib.hid hd1
 clear hb hd1
 refine hK.out _ _ t1 ?_
 clear hK K
 refine tree_run rfl (fun K hK => ?_)
 go_simp
 refine (ref_limbs m _).mono ?_
 rintro e w2 ⟨ad2, rfl, hb, hd2⟩
 have t2 := HTB.out _ _ t1 hb
 have HD1b := Lib.hid (HD1.out.below hb)
 have HD2 := Lib.hid hd2
 clear hb hd2
 refine hK.out _ _ t2 ?_
 clear hK K
 refine tree_run rfl (fun K hK => ?_)
 go_simp
 have hcm := ref_cmp0 HD1b.out HD2.out
 simp only [dg_len, EN.out, EM.out] at hcm
 refine hcm.mono ?_
 rintro e w3 ⟨rfl, hb⟩
 have t3 := HTB.out _ _ t2 hb
 clear hb hcm
 refine hK.out _ _ t3 ?_
 clear hK K
 refine tree_pure ?_ rfl (by rfl) (fun w' hs => ?_) (fun _ _ _ h => h) ?_
 rotate_left
 ·clear hs
  go_simp
  try rfl
 simp only [Act.put, tsa, tsb, tsc]
 refine tree_fin ?_
 rw [HT.out] at t3
 have HB := Lib.hid t3.below
 clear t0 t1 t2 t3
 go_wp2
 go_ret
 exact ⟨rfl, HB.out⟩
set_option maxRecDepth 100000 in
set_option maxHeartbeats 1000000 in
theorem ref_Add (n m : Nat) (hn : n < wW) (hm : m < wW) (w : World) :
  Calls Tryz.prog 61 #[.agg (beC 32 n).toArray, .agg (beC 32 m).toArray] w fun e w' => e = .returned (.agg (beC 32 (n + m)).toArray) ∧ Below w.heap.size w w' := by
 obtain ⟨w0, e0⟩ : ∃ w0, w0 = ((w.alloc (.cells (beC 32 n).toArray 25)).alloc (.cells (beC 32 m).toArray 25)).alloc (.cells (zU8 32).toArray 25) := ⟨_, rfl⟩
 have hx : Box2 w w0.drew n m := by rw [e0]; exact (Box2.start w n m).on ((Below.refl _ _).alloc (Nat.le_refl _) _).drew
 have hf : w0.drew.free? (w.heap.size + 1 + 1) 0 32 = true := by rw [e0]; exact World.free?_alloc_at _ _ (by simp) (by simp)
 obtain ⟨T, hT⟩ : ∃ T : World → Prop, T = fun w' => Box2 w w' n m ∧ w'.free? (w.heap.size + 1 + 1) 0 32 = true := ⟨_, rfl⟩
 have t0 : T w0.drew := by rw [hT]; exact ⟨hx, hf⟩
 have HTB : Hid (∀ W W', T W → Below W.heap.size W W' → T W') := by
  rw [hT]; intro W W' hW hb; exact ⟨hW.1.on hb, ((brow hb).2 _ _ _ (free?_lt hW.2)).trans hW.2⟩
 have HE := Lib.hid e0
 have hl1 : (beC 32 n).length = 32 := by simp
 have hl2 : (beC 32 m).length = 32 := by simp
 have HT := Lib.hid hT
 have EN := Lib.hid (dval_dgW hn)
 have EM := Lib.hid (dval_dgW hm)
 clear e0 hx hT hf
 go_enter Tryz.func61, Tryz.ntmps61
 go_wp2_with fail
 rw [← HE.out]
 refine wp_region_tree T [6] (.take 0 (.take 2 (.alt 1 (.alt 3 (.alt 4 (.alt 5 (.alt 6 .fin .stop) .stop) .stop) .stop) .stop))) (by kernel_rfl) (by kernel_rfl) ?_
 refine tree_take ?_ t0 rfl (by rfl) (fun w' hs => ?_) (fun _ _ _ h => h) ?_
 rotate_left
 ·rw [HT.out] at hs
  have q1 := hs.1.x; have q2 := hs.1.y
  go_simp
  try rfl
 simp only [Act.put, tsa, tsb, tsc]
 refine tree_take ?_ t0 rfl (by rfl) (fun w' hs => ?_) (fun _ _ _ h => h) ?_
 rotate_left
 ·rw [HT.out] at hs
  have q1 := hs.1.x; have q2 := hs.1.y
  go_simp
  try rfl
 simp only [Act.put, tsa, tsb, tsc]
 refine tree_run rfl (fun K hK => ?_)
 go_simp
 refine (ref_limbs n _).mono ?_
 rintro e w1 ⟨ad1, rfl, hb, hd1⟩
 have t1 := HTB.out _ _ t0 hb
 have HD1 := Lib.hid hd1
 clear hb hd1
 refine hK.out _ _ t1 ?_
 clear hK K
 refine tree_run rfl (fun K hK => ?_)
 go_simp
 refine (ref_limbs m _).mono ?_
 rintro e w2 ⟨ad2, rfl, hb, hd2⟩
 have t2 := HTB.out _ _ t1 hb
 have HD1b := Lib.hid (HD1.out.below hb)
 have HD2 := Lib.hid hd2
 clear hb hd2
 refine hK.out _ _ t2 ?_
 clear hK K
 refine tree_run rfl (fun K hK => ?_)
 go_simp
 have had := ref_add0 HD1b.out HD2.out (by simp)
 simp only [dg_len, EN.out, EM.out] at had
 refine had.mono ?_
 rintro e w3 ⟨v3, l3, rfl, hd3, hl3, hv3⟩
 obtain ⟨ad3, c3, rfl, hd4⟩ := hd3.at (by omega)
 have t3 := HTB.out _ _ t2 hd3.below
 have HD4 := Lib.hid hd4
 have HL3 := Lib.hid hl3
 have EV : Hid (beC 32 (dval l3) = beC 32 (n + m)) := by show _ = _; rw [hv3]
 clear hd3 hd4 had hv3 hl3
 refine hK.out _ _ t3 ?_
 clear hK K
 refine tree_run rfl (fun K hK => ?_)
 go_simp
 have hwd := ref_word0 HD4.out (by have := HL3.out; omega)
 rw [EV.out] at hwd
 refine hwd.mono ?_
 rintro e w4 ⟨rfl, hb⟩
 have t4 := HTB.out _ _ t3 hb
 have hbo := beC_ok 32 (n + m)
 clear hb hwd
 refine hK.out _ _ t4 ?_
 clear hK K
 refine tree_z rfl (by simp) (fun K hK => ?_)
 go_simp
 rw [HT.out] at t4
 have t5 := t4.2
 go_simp
 refine hK.out _ _ ?_
 clear hK K
 refine tree_fin ?_
 have HB := Lib.hid t4.1.below
 clear t0 t1 t2 t3 t4
 go_wp2
 refine ret_row ty25 rfl _ rfl rfl t5 hbo ?_
 exact ⟨rfl, HB.out.setCells (Nat.le_trans (Nat.le_succ _) (Nat.le_succ _)) _ _⟩
set_option maxRecDepth 100000 in
set_option maxHeartbeats 1000000 in
theorem ref_Sub (n m : Nat) (hn : n < wW) (hm : m < wW) (w : World) :
  Calls Tryz.prog 63 #[.agg (beC 32 n).toArray, .agg (beC 32 m).toArray] w fun e w' => e = .returned (.agg (beC 32 (n + wW - m)).toArray) ∧ Below w.heap.size w w' := by
 obtain ⟨w0, e0⟩ : ∃ w0, w0 = ((w.alloc (.cells (beC 32 n).toArray 25)).alloc (.cells (beC 32 m).toArray 25)).alloc (.cells (zU8 32).toArray 25) := ⟨_, rfl⟩
 have hx : Box2 w w0.drew n m := by rw [e0]; exact (Box2.start w n m).on ((Below.refl _ _).alloc (Nat.le_refl _) _).drew
 have hf : w0.drew.free? (w.heap.size + 1 + 1) 0 32 = true := by rw [e0]; exact World.free?_alloc_at _ _ (by simp) (by simp)
 obtain ⟨T, hT⟩ : ∃ T : World → Prop, T = fun w' => Box2 w w' n m ∧ w'.free? (w.heap.size + 1 + 1) 0 32 = true := ⟨_, rfl⟩
 have t0 : T w0.drew := by rw [hT]; exact ⟨hx, hf⟩
 have HTB : Hid (∀ W W', T W → Below W.heap.size W W' → T W') := by
  rw [hT]; intro W W' hW hb; exact ⟨hW.1.on hb, ((brow hb).2 _ _ _ (free?_lt hW.2)).trans hW.2⟩
 have HE := Lib.hid e0
 have hl1 : (beC 32 n).length = 32 := by simp
 have hl2 : (beC 32 m).length = 32 := by simp
 have HT := Lib.hid hT
 have EN := Lib.hid (dval_dgW hn)
 have EM := Lib.hid (dval_dgW hm)
 clear e0 hx hT hf
 go_enter Tryz.func63, Tryz.ntmps63
 go_wp2_with fail
 rw [← HE.out]
 refine wp_region_tree T [6] (.take 0 (.take 2 (.alt 1 (.alt 3 (.alt 4 (.alt 5 (.alt 6 .fin .stop) .stop) .stop) .stop) .stop))) (by kernel_rfl) (by kernel_rfl) ?_
 refine tree_take ?_ t0 rfl (by rfl) (fun w' hs => ?_) (fun _ _ _ h => h) ?_
 rotate_left
 ·rw [HT.out] at hs
  have q1 := hs.1.x; have q2 := hs.1.y
  go_simp
  try rfl
 simp only [Act.put, tsa, tsb, tsc]
 refine tree_take ?_ t0 rfl (by rfl) (fun w' hs => ?_) (fun _ _ _ h => h) ?_
 rotate_left
 ·rw [HT.out] at hs
  have q1 := hs.1.x; have q2 := hs.1.y
  go_simp
  try rfl
 simp only [Act.put, tsa, tsb, tsc]
 refine tree_run rfl (fun K hK => ?_)
 go_simp
 refine (ref_limbs n _).mono ?_
 rintro e w1 ⟨ad1, rfl, hb, hd1⟩
 have t1 := HTB.out _ _ t0 hb
 have HD1 := Lib.hid hd1
 clear hb hd1
 refine hK.out _ _ t1 ?_
 clear hK K
 refine tree_run rfl (fun K hK => ?_)
 go_simp
 refine (ref_limbs m _).mono ?_
 rintro e w2 ⟨ad2, rfl, hb, hd2⟩
 have t2 := HTB.out _ _ t1 hb
 have HD1b := Lib.hid (HD1.out.below hb)
 have HD2 := Lib.hid hd2
 clear hb hd2
 refine hK.out _ _ t2 ?_
 clear hK K
 refine tree_run rfl (fun K hK => ?_)
 go_simp
 have had := ref_sub0 HD1b.out HD2.out (by simp)
 simp only [dg_len, EN.out, EM.out] at had
 refine had.mono ?_
 rintro e w3 ⟨ad3, rfl, hb3, l3, hd4, hl3, d3, hd3, hv3⟩
 have t3 := HTB.out _ _ t2 hb3
 have hd5 : DigAt w3 ad3 16 l3 := hd4
 have HD4 := Lib.hid hd5
 have HL3 := Lib.hid hl3
 have EV : Hid (beC 32 (dval l3) = beC 32 (n + wW - m)) := by
  refine beC_modR 32 _ _ ?_
  rw [show (65536 : Nat) ^ 16 = 256 ^ 32 by decide] at hv3
  have hw : wW = 256 ^ 32 := wW_eq
  rw [hw] at hn hm ⊢
  generalize (256 : Nat) ^ 32 = P at *
  have hd : d3 = 0 ∨ d3 = 1 := by omega
  rcases hd with rfl | rfl
  ·have e1 : dval l3 + P = n + P - m := by omega
   rw [← e1, Nat.add_mod_right]
  ·have e1 : dval l3 = n + P - m := by omega
   rw [e1]
 clear hb3 hd4 hd5 had hv3 hl3
 refine hK.out _ _ t3 ?_
 clear hK K
 refine tree_run rfl (fun K hK => ?_)
 go_simp
 have hwd := ref_word0 (c := 16) (ad := ad3) HD4.out (by have := HL3.out; omega)
 rw [EV.out, HL3.out] at hwd
 refine hwd.mono ?_
 rintro e w4 ⟨rfl, hb⟩
 have t4 := HTB.out _ _ t3 hb
 have hbo := beC_ok 32 (n + wW - m)
 clear hb hwd
 refine hK.out _ _ t4 ?_
 clear hK K
 refine tree_z rfl (by simp) (fun K hK => ?_)
 go_simp
 rw [HT.out] at t4
 have t5 := t4.2
 go_simp
 refine hK.out _ _ ?_
 clear hK K
 refine tree_fin ?_
 have HB := Lib.hid t4.1.below
 clear t0 t1 t2 t3 t4
 go_wp2
 refine ret_row ty25 rfl _ rfl rfl t5 hbo ?_
 exact ⟨rfl, HB.out.setCells (Nat.le_trans (Nat.le_succ _) (Nat.le_succ _)) _ _⟩
theorem elemS : ElemOf Tryz.prog 33 100 (.agg (zU8 64).toArray) 64 64 := .mk' Tryz.underlying33 (by kernel_rfl) (by kernel_rfl) (by decide)
theorem s1_sl (ρ : Operand → Value) (dst : Option Tmp) (x y : Operand) (t : TypeId) (pos : String) (after : Array Edge) (gd : Option (Nat × Bool)) (w : World) : (execOp ρ ⟨dst, .store 33 x y, t, pos, after, gd⟩).run Tryz.prog w = asSkip (stOne Tryz.prog 33 (ρ x) (ρ y) w) := ex_store1 ρ dst x y t pos after gd w (by kernel_rfl)
attribute [go_sem ↓] s1_sl
theorem slotC_ok (sl : List (Nat × Nat)) : okL (sl.length * 64) (slotC sl) = true := by
 refine okL_mk (slotC_len sl) fun v hv => ?_
 obtain ⟨p, _, hp⟩ := List.mem_flatMap.1 hv
 rcases List.mem_append.1 hp with h | h
 ·exact okL_mem (beC_ok 32 p.1) v h
 ·exact okL_mem (beC_ok 32 p.2) v h
structure CopR (w0 w : World) (v : Value) (ds : List (RAc × Value × Value)) : Prop where
 below : Below w0.heap.size w0 w
 own : w.ownsRow w0.heap.size 35 55 v ds.length (rowsR ds)
 code : ∀ p ∈ ds, w.ownsRow w0.heap.size 5 1 p.2.1 p.1.ac.code.length (p.1.ac.code.map (Value.int .u8))
 slots : ∀ p ∈ ds, w.ownsRow w0.heap.size 100 64 p.2.2 p.1.slots.length (slotC p.1.slots)
theorem CopR.start (w : World) : CopR w w (.slice none 0 0) [] := ⟨Below.refl _ _, World.ownsRow_nil _ _ _ _, fun p hp => (by cases hp), fun p hp => (by cases hp)⟩
theorem CopR.next {w0 w w' : World} {v : Value} {ds : List (RAc × Value × Value)} (h : CopR w0 w v ds) (hb : Below w.heap.size w w') : CopR w0 w' v ds :=
 ⟨h.below.trans (hb.mono h.below.size), ownsRow_below h.own hb, fun p hp => ownsRow_below (h.code p hp) hb, fun p hp => ownsRow_below (h.slots p hp) hb⟩
theorem grown_only {w w' : World} {row : Option Nat} (hg : w.grownBy w' row) : Only (fun g => row = some g) w w' := Only.of_grown hg
theorem CopR.app {w0 w w' : World} {v v' : Value} {ds : List (RAc × Value × Value)} {p : RAc × Value × Value} (h : CopR w0 w v ds) (ho : w'.ownsRow w0.heap.size 35 55 v' (ds.length + 1) (rowsR ds ++ racC p))
  (hg : w.grownBy w' v.ownBlock) (hc : w.ownsRow w0.heap.size 5 1 p.2.1 p.1.ac.code.length (p.1.ac.code.map (Value.int .u8))) (hs : w.ownsRow w0.heap.size 100 64 p.2.2 p.1.slots.length (slotC p.1.slots)) : CopR w0 w' v' (ds ++ [p]) := by
 have hO := grown_only hg
 have hk : ∀ {e s n : Nat} {u : Value} {xs : List Value}, w.ownsRow w0.heap.size e s u n xs → e ≠ 35 → w'.ownsRow w0.heap.size e s u n xs := fun hu he => Only.own hu hO fun g hg2 e2 => by
  rcases own_apart h.own hu (fun e3 => he e3.symm) with e4 | e4
  ·rw [e4] at e2; cases e2
  ·exact e4 (by rw [e2, hg2])
 refine ⟨h.below.grown hg h.below.size (fun k hk => (h.own.lt k hk).1), ?_, fun q hq => ?_, fun q hq => ?_⟩
 ·rw [List.length_append, rowsR_append]
  have : rowsR [p] = racC p := by simp [rowsR]
  rw [this]; exact ho
 ·rcases List.mem_append.1 hq with hq | hq
  ·exact hk (h.code q hq) (by decide)
  ·rw [List.mem_singleton.1 hq]; exact hk hc (by decide)
 ·rcases List.mem_append.1 hq with hq | hq
  ·exact hk (h.slots q hq) (by decide)
  ·rw [List.mem_singleton.1 hq]; exact hk hs (by decide)
structure SrcR (w : World) (v : Value) (ps : List (RAc × Value × Value)) : Prop where
 form : ∃ ad c, v = .slice ad ps.length c ∧ ∀ i (hi : i < ps.length), ∃ g off, ad = some ⟨g, off, none⟩ ∧ w.row? g (off + i * 55) 55 = some (racC ps[i])
 code : ∀ p ∈ ps, (∃ a c, p.2.1 = .slice a p.1.ac.code.length c ∧ Ints w .u8 a c p.1.ac.code) ∧ p.1.ac.code.length ≤ 1099511627776
 slots : ∀ p ∈ ps, (∃ a c, p.2.2 = .slice a p.1.slots.length c ∧ SrcAt w a c p.1.slots.length 64 (slotC p.1.slots)) ∧ p.1.slots.length ≤ 1000000
 len : ps.length ≤ 1000001
theorem SrcR.next {w w' : World} {v : Value} {ps : List (RAc × Value × Value)} (h : SrcR w v ps) (hb : Below w.heap.size w w') : SrcR w' v ps := by
 obtain ⟨⟨ad, c, h1, h2⟩, h3, h4, h5⟩ := h
 refine ⟨⟨ad, c, h1, fun i hi => ?_⟩, fun p hp => ?_, fun p hp => ?_, h5⟩
 ·obtain ⟨g, off, e1, e2⟩ := h2 i hi
  exact ⟨g, off, e1, ((brow hb).1 _ _ _ (World.row?_lt e2)).trans e2⟩
 ·obtain ⟨⟨a, c, e1, e2⟩, e3⟩ := h3 p hp
  exact ⟨⟨a, c, e1, e2.below hb⟩, e3⟩
 ·obtain ⟨⟨a, c, e1, e2⟩, e3⟩ := h4 p hp
  exact ⟨⟨a, c, e1, e2.below hb⟩, e3⟩
theorem rac_src {w : World} {own : Go.Mun.Own} {p : RAc × Value × Value} (h : RAcOk w own p) : ((∃ a c, p.2.1 = .slice a p.1.ac.code.length c ∧ Ints w .u8 a c p.1.ac.code) ∧ p.1.ac.code.length ≤ 1099511627776) ∧ ((∃ a c, p.2.2 = .slice a p.1.slots.length c ∧ SrcAt w a c p.1.slots.length 64 (slotC p.1.slots)) ∧ p.1.slots.length ≤ 1000000) := by
 obtain ⟨a, c, e1, e2, _⟩ := h.code.read
 obtain ⟨a2, c2, e3⟩ := own_shape h.slots.read
 refine ⟨⟨⟨a, c, e1, e2⟩, h.code.len⟩, ⟨⟨a2, c2, e3, ?_⟩, h.slots.len⟩⟩
 have := h.slots.read
 rw [e3] at this
 exact src_own this (slotC_ok _)
theorem src_of_own {w : World} {own : Go.Mun.Own} {base : Nat} {v : Value} {ps : List (RAc × Value × Value)} (h : w.ownsRow base 35 55 v ps.length (rowsR ps)) (hok : ∀ p ∈ ps, RAcOk w own p) (hl : ps.length ≤ 1000001) : SrcR w v ps := by
 refine ⟨?_, fun p hp => (rac_src (hok p hp)).1, fun p hp => (rac_src (hok p hp)).2, hl⟩
 obtain ⟨ad, c, e⟩ := own_shape h
 refine ⟨ad, c, e, fun i hi => ?_⟩
 obtain ⟨g, c', e2, _, _, _, hr, _⟩ := own_words h (by omega)
 rw [e] at e2
 cases e2
 refine ⟨g, 0, rfl, ?_⟩
 have h1 := World.row?_sub hr (o' := 0 + i * 55) (n' := 55) (by omega) (by omega)
 rw [h1, Nat.zero_add, Nat.sub_zero, rowsR_at ps i hi]
theorem rac_split (p : RAc × Value × Value) (u v : Value) : racC (p.1, u, v) = splice (splice (racC p) 53 [u]) 54 [v] := by
 unfold racC
 rw [splice_catR (i := 3) (s := [p.2.1]) rfl (by simp) (by simp [acS, offOf_succ, offOf_zero])]
 rw [splice_catR (i := 4) (s := [p.2.2]) rfl (by simp) (by simp [acS, offOf_succ, offOf_zero])]
 rfl
theorem cell_53 {w : World} {g o : Nat} {p : RAc × Value × Value} (h : w.row? g o 55 = some (racC p)) : w.cell? ⟨g, o + 53, none⟩ = some p.2.1 := cell_cat h (i := 3) rfl (by simp [acS, offOf_succ, offOf_zero])
theorem cell_54 {w : World} {g o : Nat} {p : RAc × Value × Value} (h : w.row? g o 55 = some (racC p)) : w.cell? ⟨g, o + 54, none⟩ = some p.2.2 := cell_cat h (i := 4) rfl (by simp [acS, offOf_succ, offOf_zero])
def CopP (w : World) (ps : List (RAc × Value × Value)) (e : Ending) (w' : World) : Prop :=
 ∃ v ds, e = .returned v ∧ CopR w w' v ds ∧ fsts ds = fsts ps
set_option maxRecDepth 100000 in
set_option maxHeartbeats 4000000 in
theorem r_copied {w : World} {v : Value} {ps : List (RAc × Value × Value)} (h : SrcR w v ps) : Calls Tryz.prog 113 #[v] w (CopP w ps) := by
 obtain ⟨ad, cp, rfl, hrow⟩ := h.form
 obtain ⟨m, hm⟩ : ∃ m, m = ps.length := ⟨_, rfl⟩
 have hml : m ≤ 1000001 := by rw [hm]; exact h.len
 have HM := Lib.hid hm
 have HS := Lib.hid h
 have HROW := Lib.hid hrow
 rw [← hm]
 clear h hm hrow
 go_enter Tryz.func113, Tryz.ntmps113
 go_wp2_with fail
 go_loopw [3, 4] (fun u ix wr => ∃ (k : Nat) (ds : List (RAc × Value × Value)), k ≤ m ∧ ix = .int .i64 (k : Int) ∧ Hid (CopR w wr u ds ∧ fsts ds = (fsts ps).take k)) (fun _ ix _ => m - (intOf ix).toNat)
 case atStart => exact ⟨0, [], by omega, rfl, CopR.start w, by simp [fsts]⟩
 case round =>
  obtain ⟨k, ds, hk, rfl, HR⟩ := hrel
  by_cases hlt : k < m
  ·have hI : (k : Int) < m := by omega
   have hkp : k < ps.length := by have := HM.out; omega
   have hdl : ds.length = k := by
    have := congrArg List.length HR.out.2
    simpa [fsts, List.length_take, Nat.min_eq_left (Nat.le_of_lt hkp)] using this
   obtain ⟨g, off, rfl, hr0⟩ := HROW.out k hkp
   have hglt := World.row?_lt hr0
   obtain ⟨P, hP⟩ : ∃ P, P = ps[k]'hkp := ⟨_, rfl⟩
   have hPm : P ∈ ps := by rw [hP]; exact List.getElem_mem hkp
   obtain ⟨⟨ca, cc, ecv, _⟩, hcl⟩ := HS.out.code P hPm
   obtain ⟨⟨sa, sc, esv, _⟩, hsl⟩ := HS.out.slots P hPm
   have HTK : Hid ((fsts ps).take (k + 1) = (fsts ps).take k ++ [P.1]) := by
    have : (fsts ps)[k]? = some P.1 := by unfold fsts; rw [List.getElem?_map, List.getElem?_eq_getElem hkp, hP]; rfl
    show (fsts ps).take (k + 1) = _
    rw [List.take_add_one, this]; rfl
   have hr1 : wr.row? g (off + k * 55) 55 = some (racC P) := by rw [hP]; exact ((brow HR.out.1.below).1 _ _ _ hglt).trans hr0
   obtain ⟨C, hC⟩ : ∃ C, C = racC P := ⟨_, rfl⟩
   have hok : okL 55 C = true := by
    rw [hC]; unfold racC; rw [ecv, esv]
    exact okL_cat (acS_len _ _ _) fun s hs => by
     simp only [acS, List.mem_cons, List.not_mem_nil, or_false] at hs
     rcases hs with rfl | rfl | rfl | rfl | rfl
     all_goals first | rfl | (rw [beC_len]; exact beC_ok _ _)
   obtain ⟨n1, hn1⟩ : ∃ n1, n1 = P.1.ac.code.length := ⟨_, rfl⟩
   obtain ⟨n2, hn2⟩ : ∃ n2, n2 = P.1.slots.length := ⟨_, rfl⟩
   have c53 := cell_53 hr1
   have c54 := cell_54 hr1
   rw [ecv, ← hn1] at c53
   rw [esv, ← hn2] at c54
   rw [← hC] at hr1
   -- the box
   obtain ⟨b, hb⟩ : ∃ b, b = wr.heap.size := ⟨_, rfl⟩
   have hgb : g < b := by rw [hb]; exact Nat.lt_of_lt_of_le hglt HR.out.1.below.size
   have hz := zs81_len
   obtain ⟨w5, e5⟩ : ∃ w5, w5 = (wr.alloc (.cells (cat zs81).toArray 35)).setCells wr.heap.size 0 C := ⟨_, rfl⟩
   have hfz : (wr.alloc (.cells (cat zs81).toArray 35)).free? wr.heap.size 0 55 = true := World.free?_alloc_at _ _ rfl (by rw [hz]; omega)
   have hb5 : Below wr.heap.size wr w5 := by rw [e5]; exact ((Below.refl _ _).alloc (Nat.le_refl _) _).setCells (Nat.le_refl _) _ _
   have a5 : Arr w5 b 55 C := by
    rw [e5, hb]
    exact ⟨row?_setCells_whole C hfz hok, by rw [World.free?_setCells']; exact hfz⟩
   have q53 : w5.cell? ⟨g, off + k * 55 + 53, none⟩ = some (.slice ca n1 cc) := by rw [hb5.cell (p := ⟨g, off + k * 55 + 53, none⟩) (by rw [← hb]; exact hgb)]; exact c53
   have q54 : w5.cell? ⟨g, off + k * 55 + 54, none⟩ = some (.slice sa n2 sc) := by rw [hb5.cell (p := ⟨g, off + k * 55 + 54, none⟩) (by rw [← hb]; exact hgb)]; exact c54
   have HI5 : Hid (Ints w5 .u8 ca cc P.1.ac.code ∧ SrcAt w5 sa sc n2 64 (slotC P.1.slots)) := by
    have hx := HS.out.next (HR.out.1.below.trans (hb5.mono HR.out.1.below.size))
    obtain ⟨⟨ca', cc', e1, i1⟩, _⟩ := hx.code P hPm
    obtain ⟨⟨sa', sc', e2, i2⟩, _⟩ := hx.slots P hPm
    rw [ecv] at e1; rw [esv] at e2
    cases e1; cases e2
    rw [hn2]; exact ⟨i1, i2⟩
   have HR5 := Lib.hid (HR.out.1.next hb5)
   have HB5 := Lib.hid hb5
   have HA5 := Lib.hid a5
   have HE5 := Lib.hid e5
   have HC := Lib.hid hC
   have HN1 := Lib.hid hn1
   have HN2 := Lib.hid hn2
   have HBS := Lib.hid hb
   have HQ54 := Lib.hid q54
   have HESV := Lib.hid esv
   have HECV := Lib.hid ecv
   have hn1l : n1 ≤ 1099511627776 := by omega
   have hn2l : n2 ≤ 1000000 := by omega
   rw [e5] at q53
   clear hb5 a5 e5 c53 c54 hC hn1 hn2 hr0 hP q54 hb esv ecv
   go_wp2_with (rw [← HE5.out]; rw [← HBS.out]; at_builtin; go_must (refine wpList_app elem26 rfl _ _ rfl (World.ownsRow_nil _ _ _ _) rfl (by rw [HN1.out]; exact SrcAt.ints HI5.out.1) rfl ?c1 ?c2 ?_))
   case c1 => unfold maxLen; omega
   case c2 => omega
   intro v6 w6 hv6 ho6 hn6
   obtain ⟨a6, c6, ev6⟩ := own_shape hv6
   have hb6 : Below w5.heap.size w5 w6 := ho6.below (Nat.le_refl _) (fun i hi => by simp [Value.ownBlock] at hi)
   have hsz5 := HB5.out.size
   have hv6' : w6.ownsRow w.heap.size 5 1 v6 P.1.ac.code.length (P.1.ac.code.map (Value.int .u8)) := by
    have := ownsRow_base (base := w.heap.size) hv6 (fun g hg => by
     have h1 := (hn6 g hg).resolve_left (by simp [Value.ownBlock])
     have h2 := HR.out.1.below.size
     omega)
    rw [HN1.out] at this
    simpa using this
   have hA6 : Arr w6 b 55 C := HA5.out.below hb6
   have hf53 := World.free?_sub hA6.free (o' := 53) (n' := 1) (by omega)
   have hone6 : v6.oneCell' = true := by rw [ev6]; rfl
   have hA6s := hA6.set (i := 53) (by omega) v6
   have hbl5 : b < w5.heap.size := HA5.out.lt
   have hb6w : Below wr.heap.size wr (w6.setCell ⟨b, 53, none⟩ v6) := (HB5.out.trans (hb6.mono hsz5)).setCell (p := ⟨b, 53, none⟩) (by rw [← HBS.out]; exact Nat.le_refl _) _
   have q54 : (w6.setCell ⟨b, 53, none⟩ v6).cell? ⟨g, off + k * 55 + 54, none⟩ = some (.slice sa n2 sc) := by
    have h1 : w6.cell? ⟨g, off + k * 55 + 54, none⟩ = some (.slice sa n2 sc) := (hb6.cell (p := ⟨g, off + k * 55 + 54, none⟩) (by show g < w5.heap.size; omega)).trans HQ54.out
    exact (World.cell?_setCells_block (w := w6) b 53 ⟨g, off + k * 55 + 54, none⟩ [v6] (by show g ≠ b; omega)).trans h1
   have HV6 := Lib.hid hv6'
   have HW6 := Lib.hid hb6w
   have HA6 := Lib.hid hA6s
   have HEV6 := Lib.hid ev6
   have HNW6 : Hid (∀ g, v6.ownBlock = some g → w5.heap.size ≤ g) := fun g hg => (hn6 g hg).resolve_left (by simp [Value.ownBlock])
   obtain ⟨W7, hW7⟩ : ∃ W7, W7 = w6.setCell ⟨b, 53, none⟩ v6 := ⟨_, rfl⟩
   have HW7 := Lib.hid hW7
   have HSA : Hid (SrcAt W7 sa sc n2 64 (slotC P.1.slots)) := by
    rw [hW7]
    have hx := HS.out.next (HR.out.1.below.trans (hb6w.mono HR.out.1.below.size))
    obtain ⟨⟨sa', sc', e2, i2⟩, _⟩ := hx.slots P hPm
    have e3 := HESV.out
    rw [e3] at e2
    cases e2
    rw [HN2.out]; exact i2
   clear hv6 ho6 hn6 hb6 hv6' hA6 hA6s hb6w ev6 hW7
   go_wp2_with (rw [← HW7.out]; at_builtin; go_must (refine wpList_app elemS rfl _ _ rfl (World.ownsRow_nil _ _ _ _) rfl HSA.out rfl ?e1 ?e2 ?_))
   case e1 => unfold maxLen; omega
   case e2 => omega
   intro v7 w7 hv7 ho7 hn7
   obtain ⟨a7, c7, ev7⟩ := own_shape hv7
   have hb7 : Below W7.heap.size W7 w7 := ho7.below (Nat.le_refl _) (fun i hi => by simp [Value.ownBlock] at hi)
   have hW7w : Below wr.heap.size wr W7 := by rw [HW7.out]; exact HW6.out
   have hv7' : w7.ownsRow w.heap.size 100 64 v7 P.1.slots.length (slotC P.1.slots) := by
    have := ownsRow_base (base := w.heap.size) hv7 (fun g hg => by
     have h1 := (hn7 g hg).resolve_left (by simp [Value.ownBlock])
     have h2 := HR.out.1.below.size
     have h3 := hW7w.size
     omega)
    rw [HN2.out] at this
    simpa using this
   have hA7 : Arr w7 b 55 (C.set 53 v6) := Arr.below (by rw [HW7.out]; exact HA6.out) hb7
   have hf54 := World.free?_sub hA7.free (o' := 54) (n' := 1) (by omega)
   have hone7 : v7.oneCell' = true := by rw [ev7]; rfl
   have hA8 := hA7.set (i := 54) (by omega) v7
   obtain ⟨D, hD⟩ : ∃ D, D = racC (P.1, v6, v7) := ⟨_, rfl⟩
   have eD : (C.set 53 v6).set 54 v7 = D := by
    have hl := okL_len hok
    rw [hD, rac_split, ← HC.out, splice_one C 53 v6 (by omega), splice_one (C.set 53 v6) 54 v7 (by simp; omega)]
   rw [eD] at hA8
   have r8 := hA8.row
   have hDl : D.length = 55 := by rw [hD]; exact racC_len _
   have HDK : Hid (okL (1 * 55) D = true) := by
    show _ = _
    rw [hD]; unfold racC
    rw [show (P.1, v6, v7).2.1 = v6 from rfl, show (P.1, v6, v7).2.2 = v7 from rfl, HEV6.out, ev7]
    exact okL_cat (acS_len _ _ _) fun s hs => by
     simp only [acS, List.mem_cons, List.not_mem_nil, or_false] at hs
     rcases hs with rfl | rfl | rfl | rfl | rfl
     all_goals first | rfl | (rw [beC_len]; exact beC_ok _ _)
   obtain ⟨W8, hW8⟩ : ∃ W8, W8 = w7.setCell ⟨b, 54, none⟩ v7 := ⟨_, rfl⟩
   have hb8 : Below wr.heap.size wr W8 := by
    rw [hW8]; exact (hW7w.trans (hb7.mono hW7w.size)).setCell (p := ⟨b, 54, none⟩) (by rw [← HBS.out]; exact Nat.le_refl _) _
   have HR8 := Lib.hid (HR.out.1.next hb8)
   -- the two new rows there
   have hbb6 : ∀ g, v6.ownBlock = some g → g ≠ b := fun g hg e => by
    have := HNW6.out g hg
    have := HA5.out.lt
    omega
   have hbb7 : ∀ g, v7.ownBlock = some g → g ≠ b := fun g hg e => by
    have h1 := (hn7 g hg).resolve_left (by simp [Value.ownBlock])
    have h2 : b < W7.heap.size := by rw [HW7.out]; exact HA6.out.lt
    omega
   have HV6' : Hid (W8.ownsRow w.heap.size 5 1 v6 P.1.ac.code.length (P.1.ac.code.map (Value.int .u8))) := by
    have h1 : W7.ownsRow w.heap.size 5 1 v6 P.1.ac.code.length (P.1.ac.code.map (Value.int .u8)) := by
     rw [HW7.out]; exact Only.own HV6.out (only_cell w6 b 53 v6) (fun g hg e => hbb6 g hg e)
    rw [hW8]
    exact Only.own (ownsRow_below h1 hb7) (only_cell w7 b 54 v7) (fun g hg e => hbb6 g hg e)
   have HV7' : Hid (W8.ownsRow w.heap.size 100 64 v7 P.1.slots.length (slotC P.1.slots)) := by
    rw [hW8]
    exact Only.own hv7' (only_cell w7 b 54 v7) (fun g hg e => hbb7 g hg e)
   have HSZ : Hid (w7.heap.size = W8.heap.size) := by
    show _ = _
    rw [hW8]; simp
   have HW8 := Lib.hid hW8
   have HD := Lib.hid hD
   have hsz8 := hb8.size
   have hszw := HR.out.1.below.size
   clear hv7 ho7 hn7 ev7 hb7 hW7w hv7' hA7 hA8 hD hW8 hb8 hbb6 hbb7 eD q54
   go_wp2_with (rw [← HW8.out]; at_builtin; go_must (refine wpList_append_at (base := w.heap.size) (n := ds.length) (xs := rowsR ds) elemG rfl _ _ rfl rfl rfl HR8.out.own HSZ.out HDK.out ?f1 ?f2 ?f3 ?_))
   case f1 => unfold maxLen; omega
   case f2 => omega
   case f3 => have := hsz8; omega
   intro v9 w9 hv9 hg9 _
   have HN9 : Hid (CopR w w9 v9 (ds ++ [(P.1, v6, v7)]) ∧ fsts (ds ++ [(P.1, v6, v7)]) = (fsts ps).take (k + 1)) := by
    refine ⟨HR8.out.app (p := (P.1, v6, v7)) (by rw [← HD.out]; simpa [hdl] using hv9) hg9 HV6'.out HV7'.out, ?_⟩
    rw [HTK.out, ← HR.out.2]
    simp [fsts]
   clear hv9 hg9
   go_wp2
   go_roundw
   case rel => exact ⟨k + 1, _, by omega, by go_num, HN9⟩
   case measure => simp [intOf]; omega
  ·obtain rfl : k = m := by omega
   have hI : ¬ (k : Int) < k := by omega
   clear hlt
   go_wp2
   go_ret
   obtain ⟨h1, h2⟩ := HR.out
   exact ⟨_, ds, rfl, h1, by rw [h2]; exact List.take_of_length_le (by simp [fsts]; have := HM.out; omega)⟩
structure RacB (x : RAc) : Prop where
 addr : x.ac.addr < wA
 bal : x.ac.bal < wW
 nonce : 0 ≤ x.ac.nonce ∧ x.ac.nonce ≤ 9223372036854775807
 byte : Byt x.ac.code
 clen : x.ac.code.length ≤ 1099511627776
 val : ∀ p ∈ x.slots, p.1 < wW ∧ p.2 < wW
 slen : x.slots.length ≤ 1000000
theorem rac_b {w : World} {own : Go.Mun.Own} {p : RAc × Value × Value} (h : RAcOk w own p) : RacB p.1 := ⟨h.addr, h.bal, h.nonce, h.code.byte, h.code.len, h.slots.val, h.slots.len⟩
theorem rac_bs {w : World} {own : Go.Mun.Own} {ps ds : List (RAc × Value × Value)} (h : ∀ p ∈ ps, RAcOk w own p) (he : fsts ds = fsts ps) : ∀ p ∈ ds, RacB p.1 := by
 intro p hp
 have : p.1 ∈ fsts ds := List.mem_map.2 ⟨p, hp, rfl⟩
 rw [he] at this
 obtain ⟨q, hq, e⟩ := List.mem_map.1 this
 rw [← e]; exact rac_b (h q hq)
open Classical in
theorem cop_label {v0 w : World} {own : Go.Mun.Own} {v : Value} {ds : List (RAc × Value × Value)} (hlow : ∀ b, own b ≠ none → b < v0.heap.size) (hc : CopR v0 w v ds) (hb : ∀ p ∈ ds, RacB p.1) :
  ∃ own' : Go.Mun.Own, (∀ b, b < v0.heap.size → own' b = own b) ∧ (∀ b, own' b ≠ none → b < w.heap.size) ∧ RArr w own' v ds ∧ own.le own' := by
 let own' : Go.Mun.Own := fun b => if v.ownBlock = some b then some .acc else if (∃ p ∈ ds, p.2.1.ownBlock = some b) then some .code else if (∃ p ∈ ds, p.2.2.ownBlock = some b) then some (.smap 0) else own b
 have hx : ∀ b, b < v0.heap.size → own' b = own b := by
  intro b hlt
  show (if v.ownBlock = some b then some Lab.acc else if (∃ p ∈ ds, p.2.1.ownBlock = some b) then some Lab.code else if (∃ p ∈ ds, p.2.2.ownBlock = some b) then some (Lab.smap 0) else own b) = own b
  rw [if_neg (fun e => by have := ownsRow_ge hc.own b e; omega), if_neg (by rintro ⟨p, hp, e⟩; have := ownsRow_ge (hc.code p hp) b e; omega), if_neg (by rintro ⟨p, hp, e⟩; have := ownsRow_ge (hc.slots p hp) b e; omega)]
 have hle : own.le own' := fun b l h => by
  have hlt := hlow b (by rw [h]; simp)
  rw [hx b hlt]; exact h
 have hs := hc.below.size
 refine ⟨own', hx, ?_, ⟨ownsRow_mono hc.own (Nat.zero_le _), ?_, ?_⟩, hle⟩
 ·intro b hne
  by_cases h1 : v.ownBlock = some b
  ·exact ownsRow_lt hc.own b h1
  by_cases h2 : ∃ p ∈ ds, p.2.1.ownBlock = some b
  ·obtain ⟨p, hp, e⟩ := h2; exact ownsRow_lt (hc.code p hp) b e
  by_cases h3 : ∃ p ∈ ds, p.2.2.ownBlock = some b
  ·obtain ⟨p, hp, e⟩ := h3; exact ownsRow_lt (hc.slots p hp) b e
  have hne2 : (if v.ownBlock = some b then some Lab.acc else if (∃ p ∈ ds, p.2.1.ownBlock = some b) then some Lab.code else if (∃ p ∈ ds, p.2.2.ownBlock = some b) then some (Lab.smap 0) else own b) ≠ none := hne
  rw [if_neg h1, if_neg h2, if_neg h3] at hne2
  exact Nat.lt_of_lt_of_le (hlow b hne2) hs
 ·intro g hg
  show (if v.ownBlock = some g then some Lab.acc else _) = some Lab.acc
  rw [if_pos hg]
 ·intro p hp
  have B := hb p hp
  have hv5 := hc.code p hp
  have hv6 := hc.slots p hp
  obtain ⟨a, c, e1, _, i1⟩ := Ints.of_own' hv5
  refine ⟨⟨⟨a, c, e1, i1, fun _ q hq => ?_⟩, B.byte, B.clen⟩, ⟨ownsRow_mono hv6 (Nat.zero_le _), fun g hg => ?_, B.val, B.slen⟩, B.addr, B.bal, B.nonce⟩
  ·have hob : p.2.1.ownBlock = some q.block := by rw [e1, hq]; rfl
   show (if v.ownBlock = some q.block then some Lab.acc else if (∃ p ∈ ds, p.2.1.ownBlock = some q.block) then some Lab.code else _) = some Lab.code
   rw [if_neg (fun e => by
    rcases own_apart hc.own hv5 (by decide) with h | h
    ·rw [h] at e; cases e
    ·exact h (by rw [e, hob])), if_pos ⟨p, hp, hob⟩]
  ·show (if v.ownBlock = some g then some Lab.acc else if (∃ p ∈ ds, p.2.1.ownBlock = some g) then some Lab.code else if (∃ p ∈ ds, p.2.2.ownBlock = some g) then some (Lab.smap 0) else own g) = some (Lab.smap 0)
   rw [if_neg (fun e => by
    rcases own_apart hc.own hv6 (by decide) with h | h
    ·rw [h] at e; cases e
    ·exact h (by rw [e, hg])), if_neg (by
    rintro ⟨q, hq, e⟩
    rcases own_apart (hc.code q hq) hv6 (by decide) with h | h
    ·rw [h] at e; cases e
    ·exact h (by rw [e, hg])), if_pos ⟨p, hp, hg⟩]
section
variable {w w' : World} {own own' : Go.Mun.Own} {sb n : Nat} {lv mv : Value} {ps : List (RAc × Value × Value)} {ms : List (Nat × Value × List (RAc × Value × Value))}
theorem _root_.Go.Mun.RStC.le (h : RStC w own sb lv mv ps ms n) (hle : own.le own') (hlow : ∀ b, own' b ≠ none → b < w.heap.size) : RStC w own' sb lv mv ps ms n :=
 { h with
  lab := hle _ _ h.lab
  arr := h.arr.le hle
  mlab := fun g hg => hle _ _ (h.mlab g hg)
  each := fun m hm => ⟨(h.each m hm).1.le hle, (h.each m hm).2⟩
  low := hlow }
theorem _root_.Go.Mun.RStC.tick (h : RStC w own sb lv mv ps ms n) : RStC (w.setCell ⟨sb, 2, none⟩ (.int .i64 ((n + 1 : Nat) : Int))) own sb lv mv ps ms (n + 1) ∧ ChgR w (w.setCell ⟨sb, 2, none⟩ (.int .i64 ((n + 1 : Nat) : Int))) own own := by
 have hO : Only (· = sb) w (w.setCell ⟨sb, 2, none⟩ (.int .i64 ((n + 1 : Nat) : Int))) := only_cell _ _ _ _
 have hS : ∀ b, b = sb → own b ≠ some .code ∧ own b ≠ some (.smap 0) := fun b hb => by rw [hb, h.lab]; simp
 have hno : ∀ {u : Value} {l : Lab}, l ≠ .st → (∀ g, u.ownBlock = some g → own g = some l) → ∀ g, u.ownBlock = some g → ¬ g = sb := fun hl hv g hg e => by
  have := hv g hg
  rw [e, h.lab] at this
  cases this; exact hl rfl
 refine ⟨{
  lab := h.lab
  row := by rw [row?_setCell_in _ h.row (Nat.zero_le _) (by omega)]; rfl
  free := by rw [free?_setCell']; exact h.free
  arr := h.arr.only hO hS (hno (by simp) h.arr.lab)
  up := h.up
  marks := Only.own h.marks hO (hno (by simp) h.mlab)
  mlab := h.mlab
  each := fun m hm => ⟨(h.each m hm).1.only hO hS (hno (by simp) (h.each m hm).1.lab), (h.each m hm).2⟩
  apart := h.apart
  low := fun b hb => Nat.lt_of_lt_of_le (h.low b hb) hO.size
  count := ⟨Nat.le_succ_of_le h.count.1, fun m hm => Nat.le_succ_of_le (h.count.2 m hm)⟩ }, ⟨fun _ _ => rfl, hO.mono fun b hb => by
   have hb' : b = sb := hb
   exact hot_lab (l := .st) (by rw [hb']; exact h.lab) (by simp) (by simp)⟩⟩
def mrkC (ms : List (Nat × Value × List (RAc × Value × Value))) : List Value := ms.flatMap fun m => [.int .i64 m.1, m.2.1]
theorem _root_.Go.Mun.RStC.addMark {w3 : World} {v mv' : Value} {ds : List (RAc × Value × Value)} (h : RStC w own sb lv mv ps ms n) (hm : ms.length + 1 ≤ n) (harr : RArr w own v ds) (hup : Rising (fsts ds))
  (hap : ∀ u ∈ lv :: ms.map (fun m => m.2.1), u.ownBlock = none ∨ u.ownBlock ≠ v.ownBlock) (ho : Only (fun g => mv.ownBlock = some g) w w3) (hr : w3.ownsRow 0 233 2 mv' (ms.length + 1) (mrkC ms ++ [.int .i64 (n : Int), v]))
  (hl : ∀ g, mv'.ownBlock = some g → mv.ownBlock = some g ∨ w.heap.size ≤ g) :
  ∃ own', RStC (w3.setCell ⟨sb, 1, none⟩ mv') own' sb lv mv' ps (ms ++ [(n, v, ds)]) n ∧ ChgR w (w3.setCell ⟨sb, 1, none⟩ mv') own own' := by
 obtain ⟨hext, hle⟩ := Own.mark_le (l := .marks) hl h.mlab h.low
 have hmv : ∀ {u : Value} {l : Lab}, l ≠ .marks → (∀ g, u.ownBlock = some g → own g = some l) → ∀ g, u.ownBlock = some g → ¬ mv.ownBlock = some g := fun hl hv g hg e => by
  have h1 := hv g hg
  rw [h.mlab g e] at h1
  cases h1; exact hl rfl
 have hsbn : ¬ mv.ownBlock = some sb := fun e => by have := h.mlab sb e; rw [h.lab] at this; cases this
 have hlt := World.row?_lt h.row
 have hO : Only (fun g => mv.ownBlock = some g ∨ g = sb) w (w3.setCell ⟨sb, 1, none⟩ mv') := (ho.mono fun _ h => .inl h).setCell (p := ⟨sb, 1, none⟩) (fun _ => .inr rfl) _
 have hS : ∀ b, (mv.ownBlock = some b ∨ b = sb) → own b ≠ some .code ∧ own b ≠ some (.smap 0) := fun b hb => by
  rcases hb with hb | hb
  ·rw [h.mlab b hb]; simp
  ·rw [hb, h.lab]; simp
 have hno : ∀ {u : Value} {l : Lab}, l ≠ .st → l ≠ .marks → (∀ g, u.ownBlock = some g → own g = some l) → ∀ g, u.ownBlock = some g → ¬ (mv.ownBlock = some g ∨ g = sb) := fun h1 h2 hv g hg e => by
  rcases e with e | e
  ·exact hmv h2 hv g hg e
  ·have := hv g hg; rw [e, h.lab] at this; cases this; exact h1 rfl
 have hrow3 : w3.row? sb 0 3 = some [lv, mv, .int .i64 n] := by rw [ho.row? hlt hsbn]; exact h.row
 have hfree3 : w3.free? sb 0 3 = true := by rw [ho.free? hlt hsbn]; exact h.free
 have hmvs : ∀ g, mv'.ownBlock = some g → ¬ g = sb := fun g hg e => by
  rcases hl g hg with h1 | h1
  ·exact hsbn (by rw [← e]; exact h1)
  ·omega
 refine ⟨_, {
  lab := hle _ _ h.lab
  row := by rw [row?_setCell_in _ hrow3 (Nat.zero_le _) (by omega)]; rfl
  free := by rw [free?_setCell']; exact hfree3
  arr := (h.arr.only hO hS (hno (by simp) (by simp) h.arr.lab)).le hle
  up := h.up
  marks := ?_
  mlab := fun g hg => by show (if _ then _ else _) = _; rw [if_pos hg]
  each := fun m hm2 => ?_
  apart := ?_
  low := ?_
  count := ⟨by rw [List.length_append]; exact hm, fun m hm2 => ?_⟩ }, ⟨hext, hO.mono fun b hb => ?_⟩⟩
 ·have := Only.own hr (only_cell w3 sb 1 mv') hmvs
  rw [List.length_append]
  have e : (ms ++ [(n, v, ds)]).flatMap (fun m => [Value.int .i64 m.1, m.2.1]) = mrkC ms ++ [.int .i64 (n : Int), v] := by
   rw [List.flatMap_append]; rfl
  rw [e]; exact this
 ·rcases List.mem_append.1 hm2 with h2 | h2
  ·exact ⟨((h.each m h2).1.only hO hS (hno (by simp) (by simp) (h.each m h2).1.lab)).le hle, (h.each m h2).2⟩
  ·rw [List.mem_singleton.1 h2]
   exact ⟨(harr.only hO hS (hno (by simp) (by simp) harr.lab)).le hle, hup⟩
 ·have e : lv :: (ms ++ [(n, v, ds)]).map (fun m => m.2.1) = (lv :: ms.map fun m => m.2.1) ++ [v] := by simp
  rw [e, List.pairwise_append]
  exact ⟨h.apart, List.pairwise_singleton _ _, fun a ha b hb => by rw [List.mem_singleton.1 hb]; exact hap a ha⟩
 ·intro b hb
  by_cases e : mv'.ownBlock = some b
  ·rw [World.size_setCell]; exact ownsRow_lt hr b e
  ·have hb2 : (if mv'.ownBlock = some b then some Lab.marks else own b) ≠ none := hb
   rw [if_neg e] at hb2
   exact Nat.lt_of_lt_of_le (h.low b hb2) hO.size
 ·rcases List.mem_append.1 hm2 with h2 | h2
  ·exact h.count.2 m h2
  ·rw [List.mem_singleton.1 h2]; exact Nat.le_refl _
 ·rcases hb with hb | hb
  ·exact hot_lab (l := .marks) (h.mlab b hb) (by simp) (by simp)
  ·exact hot_lab (l := .st) (by rw [hb]; exact h.lab) (by simp) (by simp)
end
end Go.Proofs.YtiglinnjnobodaaGreat
