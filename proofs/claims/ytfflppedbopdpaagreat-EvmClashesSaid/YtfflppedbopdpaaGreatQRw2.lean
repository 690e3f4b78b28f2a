/-
  The reference's words as rows of digits, and back.
  The reference's rows of digits as words; sums.
  The reference's rows of digits: the sum of two of one length.
  The reference's rows of digits: the difference.
  The reference's words: Cmp, Add, Sub.
  The reference's copies of accounts.
  The reference's copied.
  The reference's marks: copies get labels; a mark more.
  The reference's Mark.
  The reference's IsEmpty.
  The reference's SameAccount, SameAccounts: of accounts that are the same.
  The reference's SameAccounts: of what Accounts has told twice.
  The reference's SameAccounts, of accounts without slots, by whomever told.
-/
import Derived.Test.YtfflppedbopdpaaGreatQRs5
import Derived.Test.YtfflppedbopdpaaGreatQOps3
import Derived.StillTailTactics
import Derived.Test.YtfflppedbopdpaaGreatQSrw
set_option linter.unusedVariables false
set_option maxRecDepth 1000000
set_option maxHeartbeats 8000000
set_option linter.unusedSimpArgs false
namespace Go.Mun
open Go.RowKit
def zDg (n : Nat) : List Value := List.replicate n (.int .i64 0)
def dcL (L : List Int) : List Value := L.map (Value.int .i64)
@[go_sem, simp] theorem zDg_len (n : Nat) : (zDg n).length = n := by simp [zDg]
@[go_sem, simp] theorem dcL_len (L : List Int) : (dcL L).length = L.length := by simp [dcL]
theorem dcL_zero (n : Nat) : dcL (List.replicate n 0) = zDg n := by simp [dcL, zDg]
theorem dcL_set (L : List Int) (i : Nat) (x : Int) : (dcL L).set i (.int .i64 x) = dcL (L.set i x) := by simp [dcL, List.map_set]
theorem run_makeI64 {P : Program} {t e : TypeId} (E : ElemOf P t e (.int .i64 0) 1 8) (x : Int) (n : Nat) (hx : x = n) (hn : n ≤ 16777216) (w : World) :
  (Instr.makeSlice t (.int .i64 x) (.int .i64 x)).run P w = .ok (.slice (some ⟨w.heap.size, 0, none⟩) n n) (w.alloc (.cells (zDg n).toArray e)) := by
 subst hx
 obtain ⟨i, hi, hz, hsz, hb⟩ := E.info
 have := run_make (P := P) w t e i _ E.slice hi hz .i64 .i64 n n (by omega) (Int.le_refl _) (by rw [hb]; omega) (by omega)
 simp only [Int.toNat_natCast, hsz, Nat.mul_one] at this
 rw [this]
 have e0 : madeCells (Value.int .i64 0).cells n = (zDg n).toArray := by
  apply Array.ext
  ·simp [madeCells]
  ·intro i h1 h2
   simp [madeCells, zDg, Value.cells]
   have : i % 1 = 0 := Nat.mod_one i
   simp [this]
 rw [e0]
def dgZ (n v k : Nat) : List Int := (dg n v).take k ++ List.replicate (n - k) 0
theorem dgZ_zero (n v : Nat) : dgZ n v 0 = List.replicate n 0 := by simp [dgZ]
theorem dgZ_all (n v : Nat) : dgZ n v n = dg n v := by simp [dgZ, List.take_of_length_le]
theorem dgZ_set (n v k : Nat) (h : k < n) : (dgZ n v k).set k ((v / 65536 ^ k % 65536 : Nat) : Int) = dgZ n v (k + 1) := by
 apply List.ext_getElem?
 intro i
 unfold dgZ
 rw [List.getElem?_set]
 by_cases hik : k = i
 ·subst hik
  rw [if_pos rfl, if_pos (by simp; omega), List.getElem?_append_left (by simp; omega), List.getElem?_take, if_pos (by omega), dg_at _ _ _ h]
 ·rw [if_neg hik]
  by_cases hi : i < k
  ·rw [List.getElem?_append_left (by simp; omega), List.getElem?_append_left (by simp; omega), List.getElem?_take, List.getElem?_take, if_pos hi, if_pos (by omega)]
  ·rw [List.getElem?_append_right (by simp; omega), List.getElem?_append_right (by simp; omega)]
   simp only [List.length_take, dg_len]
   rw [Nat.min_eq_left (by omega), Nat.min_eq_left (by omega), List.getElem?_replicate, List.getElem?_replicate]
   by_cases h2 : i < n
   ·rw [if_pos (by omega), if_pos (by omega)]
   ·rw [if_neg (by omega), if_neg (by omega)]
end Go.Mun
namespace Go.Proofs.YtfflppedbopdpaaGreat
open Go.RowKit Go.Mun

structure LimR (v k : Nat) (w wr : World) : Prop where
 below : Below w.heap.size w wr
 box : wr.row? w.heap.size 0 32 = some (beC 32 v)
 arr : Arr wr (w.heap.size + 1) 16 (dcL (dgZ 16 v k))
theorem LimR.start (v : Nat) (w : World) : LimR v 0 w ((w.alloc (.cells (beC 32 v).toArray 25)).alloc (.cells (zDg 16).toArray 3)) := by
 refine ⟨((Below.refl _ _).alloc (Nat.le_refl _) _).alloc (by simp) _, ?_, ⟨?_, ?_⟩⟩
 ·rw [World.row?_alloc_lt _ (by simp)]; exact World.row?_alloc_at _ _ _ rfl (by simp)
 ·rw [dgZ_zero, dcL_zero]; exact World.row?_alloc_at _ _ _ (by simp) (by simp)
 ·exact World.free?_alloc_at _ _ (by simp) (by simp)
theorem LimR.drew {v k : Nat} {w wr : World} (h : LimR v k w wr) : LimR v k w wr.drew := ⟨h.below.drew, h.box, ⟨h.arr.row, h.arr.free⟩⟩
theorem LimR.next {v k : Nat} {w wr : World} (h : LimR v k w wr) (hk : k < 16) : LimR v (k + 1) w (wr.setCell ⟨w.heap.size + 1, k, none⟩ (.int .i64 ((v / 65536 ^ k % 65536 : Nat) : Int))) := by
 refine ⟨h.below.setCell (p := ⟨w.heap.size + 1, k, none⟩) (Nat.le_succ _) _, ?_, ?_⟩
 ·rw [row?_setCell_other _ (by omega)]; exact h.box
 ·have := h.arr.set hk (.int .i64 ((v / 65536 ^ k % 65536 : Nat) : Int))
  rw [dcL_set, dgZ_set 16 v k hk] at this
  exact this
theorem beC_at (n v i : Nat) (h : i < n) : (beC n v)[i]? = some (.int .u8 ((v / 256 ^ (n - 1 - i) % 256 : Nat) : Int)) := by
 unfold beC be
 rw [List.getElem?_map, List.getElem?_map, List.getElem?_range h]; rfl
theorem ints_dcL {w : World} {b n : Nat} {L : List Int} (h : w.row? b 0 n = some (dcL L)) (hn : n ≤ 100000) : Ints w .i64 (some ⟨b, 0, none⟩) n L := by
 have hl : L.length = n := by have := World.row?_len h; simpa using this
 refine ⟨fun _ => ⟨b, 0, rfl, fun i hi => ?_⟩, fun e => (by cases e), by omega, by unfold maxLen; omega⟩
 rw [World.row?_cell h (by omega)]
 unfold dcL
 rw [List.getElem?_map, List.getElem?_eq_getElem hi]; rfl
theorem ref_limbs (v : Nat) (w : World) :
  Calls Tryz.prog 172 #[.agg (beC 32 v).toArray] w fun e w' => ∃ ad, e = .returned (.slice ad 16 16) ∧ Below w.heap.size w w' ∧ DigAt w' ad 16 (dg 16 v) := by
 have hmk : ∀ w', (Instr.makeSlice 192 (.int .i64 16) (.int .i64 16)).run Tryz.prog w' = .ok (.slice (some ⟨w'.heap.size, 0, none⟩) 16 16) (w'.alloc (.cells (zDg 16).toArray 3)) := fun w' => run_makeI64 elem157 16 16 rfl (by decide) w'
 have hl1 := beC_len 32 v
 have HS := Lib.hid (LimR.start v w)
 go_enter Tryz.func172, Tryz.ntmps172
 go_wp2_with fail
 go_loopw [4] (fun ix wr => ∃ k : Nat, k ≤ 16 ∧ ix = .int .i64 (k : Int) ∧ Hid (LimR v k w wr)) (fun ix _ => 16 - (intOf ix).toNat)
 case atStart => exact ⟨0, by omega, rfl, HS⟩
 case round =>
  obtain ⟨k, hk, rfl, HR⟩ := hrel
  by_cases hlt : k < 16
  ·have hI : (k : Int) < 16 := by omega
   have hd : decide ((k : Int) < 16) = true := decide_eq_true hI
   obtain ⟨x, hx⟩ : ∃ x : Nat, x = v / 256 ^ (2 * k) % 256 := ⟨_, rfl⟩
   obtain ⟨y, hy⟩ : ∃ y : Nat, y = v / 256 ^ (2 * k + 1) % 256 := ⟨_, rfl⟩
   obtain ⟨z, hz⟩ : ∃ z : Nat, z = v / 65536 ^ k % 65536 := ⟨_, rfl⟩
   have hxy : x + 256 * y = z := by rw [hx, hy, hz]; exact dig_bytes v k
   have hx8 : x < 256 := by omega
   have hy8 : y < 256 := by omega
   have hor := i64_or_dig x y hx8 hy8
   rw [hxy] at hor
   obtain ⟨i1, hi1⟩ : ∃ i1 : Nat, i1 = 31 - 2 * k := ⟨_, rfl⟩
   obtain ⟨i2, hi2⟩ : ∃ i2 : Nat, i2 = 30 - 2 * k := ⟨_, rfl⟩
   have e1 : (31 : Int) - 2 * k = i1 := by omega
   have e2 : (30 : Int) - 2 * k = i2 := by omega
   have hw1 : IntKind.i64.wrap (2 * (k : Int)) = 2 * (k : Int) := wrI _ (by omega) (by omega)
   have hw2 : IntKind.i64.wrap (31 - 2 * (k : Int)) = (i1 : Int) := by rw [wrI _ (by omega) (by omega)]; exact e1
   have hw3 : IntKind.i64.wrap (30 - 2 * (k : Int)) = (i2 : Int) := by rw [wrI _ (by omega) (by omega)]; exact e2
   have h1 : i1 < 32 := by omega
   have h2 : i2 < 32 := by omega
   have c1 : wr.drew.cell? ⟨w.heap.size, i1, none⟩ = some (.int .u8 (x : Int)) := by
    have := World.row?_cell HR.out.box h1
    rw [Nat.zero_add, beC_at 32 v i1 h1, show 32 - 1 - i1 = 2 * k by omega, ← hx] at this
    exact this
   have c2 : wr.drew.cell? ⟨w.heap.size, i2, none⟩ = some (.int .u8 (y : Int)) := by
    have := World.row?_cell HR.out.box h2
    rw [Nat.zero_add, beC_at 32 v i2 h2, show 32 - 1 - i2 = 2 * k + 1 by omega, ← hy] at this
    exact this
   have hf : wr.drew.free? (w.heap.size + 1) k 1 = true := World.free?_sub HR.out.arr.free (by omega)
   have HN := Lib.hid (HR.out.drew.next hlt)
   rw [← hz] at HN
   have hJ1 : (i1 : Int) < 32 := by omega
   have hJ2 : (i2 : Int) < 32 := by omega
   clear hx hy hz hxy hi1 hi2 hlt e1 e2
   go_wp2_with fail
   go_still_tail 16, (by kernel_rfl)
   go_wp2
   go_roundw
   case rel => exact ⟨k + 1, by omega, by go_num, HN⟩
   case measure => simp [intOf]; omega
  ·obtain rfl : k = 16 := by omega
   clear hlt
   go_wp2
   go_ret
   have hr := HR.out.arr.row
   rw [dgZ_all] at hr
   exact ⟨_, rfl, HR.out.below, ints_dcL hr (by decide), dg_dig 16 v, by simp⟩
structure WrdR (v k : Nat) (w wr : World) : Prop where
 below : Below w.heap.size w wr
 res : wr.free? w.heap.size 0 32 = true
 free : wr.free? (w.heap.size + 1) 0 32 = true
 row : ∃ L : List Int, wr.row? (w.heap.size + 1) 0 32 = some (u8L L) ∧ L.length = 32 ∧ ∀ i, i < 32 → 32 - 2 * k ≤ i → L[i]?.getD 0 = ((v / 256 ^ (31 - i) % 256 : Nat) : Int)
theorem WrdR.start (v : Nat) (w : World) : WrdR v 0 w ((w.alloc (.cells (zU8 32).toArray 25)).alloc (.cells (zU8 32).toArray 25)) := by
 refine ⟨((Below.refl _ _).alloc (Nat.le_refl _) _).alloc (by simp) _, ?_, ?_, List.replicate 32 0, ?_, by simp, fun i hi h => by omega⟩
 ·rw [World.free?_alloc_lt _ (by simp)]; exact World.free?_alloc_at _ _ rfl (by simp)
 ·exact World.free?_alloc_at _ _ (by simp) (by simp)
 ·rw [u8L_replicate]; exact World.row?_alloc_at _ _ _ (by simp) (by simp)
theorem WrdR.next {v k : Nat} {w wr : World} (h : WrdR v k w wr) (hk : k < 16) {x y : Nat} (hx : x = v / 256 ^ (2 * k) % 256) (hy : y = v / 256 ^ (2 * k + 1) % 256) {i1 i2 : Nat} (h1 : i1 = 31 - 2 * k) (h2 : i2 = 30 - 2 * k) :
  WrdR v (k + 1) w ((wr.setCell ⟨w.heap.size + 1, i1, none⟩ (.int .u8 (x : Int))).setCell ⟨w.heap.size + 1, i2, none⟩ (.int .u8 (y : Int))) := by
 obtain ⟨L, r, hl, hv⟩ := h.row
 have f1 := World.free?_sub h.free (o' := i1) (n' := 1) (by omega)
 have f2 := World.free?_sub h.free (o' := i2) (n' := 1) (by omega)
 have f2' : (wr.setCell ⟨w.heap.size + 1, i1, none⟩ (.int .u8 (x : Int))).free? (w.heap.size + 1) i2 1 = true := by rw [free?_setCell _ f1]; exact f2
 refine ⟨(h.below.setCell (p := ⟨w.heap.size + 1, i1, none⟩) (Nat.le_succ _) _).setCell (p := ⟨w.heap.size + 1, i2, none⟩) (Nat.le_succ _) _, ?_, ?_, (L.set i1 x).set i2 y, ?_, by simpa using hl, ?_⟩
 ·rw [free?_setCell _ f2', free?_setCell _ f1]; exact h.res
 ·rw [free?_setCell _ f2', free?_setCell _ f1]; exact h.free
 ·have r1 := row?_setCell_in (.int .u8 (x : Int)) r (Nat.zero_le _) (show i1 < 0 + 32 by omega)
  rw [Nat.sub_zero, u8L_set L _ (by omega)] at r1
  have r2 := row?_setCell_in (.int .u8 (y : Int)) r1 (Nat.zero_le _) (show i2 < 0 + 32 by omega)
  rw [Nat.sub_zero, u8L_set _ _ (by simp; omega)] at r2
  exact r2
 ·intro i hi hi2
  rw [List.getElem?_set, List.getElem?_set]
  by_cases e2 : i2 = i
  ·rw [if_pos e2, if_pos (by simp; omega), hy, show 31 - i = 2 * k + 1 by omega]; rfl
  ·rw [if_neg e2]
   by_cases e1 : i1 = i
   ·rw [if_pos e1, if_pos (by omega), hx, show 31 - i = 2 * k by omega]; rfl
   ·rw [if_neg e1]; exact hv i hi (by omega)
theorem WrdR.done {v : Nat} {w wr : World} (h : WrdR v 16 w wr) : wr.row? (w.heap.size + 1) 0 32 = some (beC 32 v) := by
 obtain ⟨L, r, hl, hv⟩ := h.row
 rw [r]
 have : L = be 32 v := by
  apply List.ext_getElem (by simpa using hl)
  intro i g1 g2
  have hi : i < 32 := by omega
  have := hv i hi (by omega)
  rw [List.getElem?_eq_getElem g1] at this
  simp only [Option.getD_some] at this
  rw [this]
  simp [be]
 rw [this]; rfl
structure SumD (a b : List Int) (w wr : World) (v : Value) (k c : Nat) (done : List Int) : Prop where
 len : done.length = k
 dig : Dig done
 val : dval done + 65536 ^ k * c = dval (a.take k) + dval (b.take k)
 c1 : c ≤ 1
 own : wr.ownsRow w.heap.size 3 1 v done.length (done.map (Value.int .i64))
 below : Below w.heap.size w wr
theorem SumD.next {a b : List Int} {w wr w1 : World} {v v' : Value} {k c x y : Nat} {done : List Int} (h : SumD a b w wr v k c done) (ha : dat a k = (x : Int)) (hb : dat b k = (y : Int)) (hx : x < 65536) (hy : y < 65536)
  (ho : w1.ownsRow w.heap.size 3 1 v' (done.length + 1) (done.map (Value.int .i64) ++ [.int .i64 (((c + x + y) % 65536 : Nat) : Int)])) (hg : wr.grownBy w1 v.ownBlock) : SumD a b w w1 v' (k + 1) ((c + x + y) / 65536) (done ++ [(((c + x + y) % 65536 : Nat) : Int)]) := by
 obtain ⟨h1, h2, h3, h4, h5, h6⟩ := h
 refine ⟨by simp [h1], dig_append h2 (fun z hz => by simp at hz; omega), ?_, by omega, by simpa using ho, h6.grown hg h6.size (fun k hk => (h5.lt k hk).1)⟩
 rw [dval_append, dval_take, dval_take, h1, ha, hb]
 have := add_round (dval (a.take k)) (dval (b.take k)) (65536 ^ k) (dval done) c x y h3
 simp only [dval, Int.toNat_natCast, Nat.pow_succ] at this ⊢
 rw [Nat.mul_zero, Nat.add_zero]
 exact this
structure DigNew (w0 w : World) (v : Value) (l : List Int) : Prop where
 below : Below w0.heap.size w0 w
 own : w.ownsRow w0.heap.size 3 1 v l.length (l.map (Value.int .i64))
 dig : Dig l
theorem DigNew.at {w0 w : World} {v : Value} {l : List Int} (h : DigNew w0 w v l) (hl : l.length ≤ 100000) : ∃ ad c, v = .slice ad l.length c ∧ DigAt w ad c l := by
 obtain ⟨ad, c, e, _, hI⟩ := Ints.of_own' h.own
 exact ⟨ad, c, e, hI, h.dig, hl⟩
def preZ (n : Nat) (l : List Int) : List Int := l ++ List.replicate (n - l.length) 0
theorem preZ_set (n : Nat) (l : List Int) (x : Int) (h : l.length < n) : (preZ n l).set l.length x = preZ n (l ++ [x]) := by
 unfold preZ
 rw [List.set_append_right _ _ (Nat.le_refl _), Nat.sub_self]
 obtain ⟨m, hm⟩ : ∃ m, n - l.length = m + 1 := ⟨n - l.length - 1, by omega⟩
 rw [hm, List.replicate_succ, List.set_cons_zero, List.length_append, show n - (l.length + [x].length) = m by simp; omega]
 simp
structure DifD (a b : List Int) (m : Nat) (w wr : World) (k c : Nat) (done : List Int) : Prop where
 len : done.length = k
 dig : Dig done
 val : dval done + dval (b.take k) = dval (a.take k) + 65536 ^ k * c
 c1 : c ≤ 1
 arr : Arr wr w.heap.size m (dcL (preZ m done))
 below : Below w.heap.size w wr
theorem DifD.next {a b : List Int} {m : Nat} {w wr : World} {k c x y z d : Nat} {done : List Int} (h : DifD a b m w wr k c done) (hk : k < m) (ha : dat a k = (x : Int)) (hb : dat b k = (y : Int)) (hz : z < 65536) (hd : d ≤ 1) (he : z + y + c = x + 65536 * d) :
  DifD a b m w (wr.setCell ⟨w.heap.size, k, none⟩ (.int .i64 (z : Int))) (k + 1) d (done ++ [(z : Int)]) := by
 obtain ⟨h1, h2, h3, h4, h5, h6⟩ := h
 refine ⟨by simp [h1], dig_append h2 (fun q hq => by simp at hq; omega), ?_, hd, ?_, h6.setCell (p := ⟨w.heap.size, k, none⟩) (Nat.le_refl _) _⟩
 ·rw [dval_append, dval_take, dval_take, h1, ha, hb]
  have := sub_round' (dval (a.take k)) (dval (b.take k)) (65536 ^ k) (dval done) c x y z d h3 he
  simp only [dval, Int.toNat_natCast, Nat.pow_succ, Nat.mul_zero, Nat.add_zero] at this ⊢
  exact this
 ·have := h5.set hk (.int .i64 (z : Int))
  rw [dcL_set] at this
  have e : (preZ m done).set k (z : Int) = preZ m (done ++ [(z : Int)]) := by
   rw [← h1]; exact preZ_set m done z (by omega)
  rw [e] at this
  exact this
theorem DifD.drew {a b : List Int} {m : Nat} {w wr : World} {k c : Nat} {done : List Int} (h : DifD a b m w wr k c done) : DifD a b m w wr.drew k c done := ⟨h.len, h.dig, h.val, h.c1, ⟨h.arr.row, h.arr.free⟩, h.below.drew⟩
theorem dval_dgW {n : Nat} (h : n < wW) : dval (dg 16 n) = n := by
 rw [dval_dg, show (65536 : Nat) ^ 16 = wW by rw [wW_eq]]; exact Nat.mod_eq_of_lt h
theorem ref_Cmp (n m : Nat) (hn : n < wW) (hm : m < wW) (w : World) :
  Calls Tryz.prog 65 #[.agg (beC 32 n).toArray, .agg (beC 32 m).toArray] w fun e w' => e = .returned (.int .i64 (cmpN n m)) ∧ Below w.heap.size w w' := by
 obtain ⟨w0, e0⟩ : ∃ w0, w0 = (w.alloc (.cells (beC 32 n).toArray 25)).alloc (.cells (beC 32 m).toArray 25) := ⟨_, rfl⟩
 have hx : Box2 w w0.drew n m := by rw [e0]; exact (Box2.start w n m).on (Below.refl _ _).drew
 obtain ⟨T, hT⟩ : ∃ T : World → Prop, T = fun w' => Box2 w w' n m := ⟨_, rfl⟩
 have t0 : T w0.drew := by rw [hT]; exact hx
 have HTB : Hid (∀ W W', T W → Below W.heap.size W W' → T W') := by
  rw [hT]; intro W W' hW hb; exact hW.on hb
 have HE := Lib.hid e0
 have hl1 : (beC 32 n).length = 32 := by simp
 have hl2 : (beC 32 m).length = 32 := by simp
 have HT := Lib.hid hT
 have EN := Lib.hid (dval_dgW hn)
 have EM := Lib.hid (dval_dgW hm)
 clear e0 hx hT
 go_enter Tryz.func65, Tryz.ntmps65
 go_wp2_with fail
 rw [← HE.out]
 refine wp_region_tree T [] (.take 0 (.take 2 (.alt 1 (.alt 3 (.alt 4 (.pure 5 .fin) .stop) .stop) .stop))) (by kernel_rfl) (by kernel_rfl) ?_
 iterate 2
  refine tree_take ?_ t0 rfl (by rfl) (fun w' hs => ?_) (fun _ _ _ h => h) ?_
  rotate_left
  ·rw [HT.out] at hs
   have q1 := hs.x; have q2 := hs.y
   go_simp
   try rfl
  simp only [Act.put, tsa, tsb, tsc]
 refine tree_run rfl (fun K hK => ?_)
 go_simp
 refine (ref_limbs n _).mono ?_
 rintro e w1 ⟨ad1, rfl, hb, hd1⟩
 have t1 := HTB.out _ _ t0 hb
 have HD1 := Lib.hid hd1
 clear hb hd1
 refine hK.out _ _ t1 ?_
 clear hK K
 refine tree_run rfl (fun K hK => ?_)
 go_simp
 refine (ref_limbs m _).mono ?_
 rintro e w2 ⟨ad2, rfl, hb, hd2⟩
 have t2 := HTB.out _ _ t1 hb
 have HD1b := Lib.hid (HD1.out.below hb)
 have HD2 := Lib.hid hd2
 clear hb hd2
 refine hK.out _ _ t2 ?_
 clear hK K
 refine tree_run rfl (fun K hK => ?_)
 go_simp
 have hcm := ref_cmp0 HD1b.out HD2.out
 simp only [dg_len, EN.out, EM.out] at hcm
 refine hcm.mono ?_
 rintro e w3 ⟨rfl, hb⟩
 have t3 := HTB.out _ _ t2 hb
 clear hb hcm
 refine hK.out _ _ t3 ?_
 clear hK K
 refine tree_pure ?_ rfl (by rfl) (fun w' hs => ?_) (fun _ _ _ h => h) ?_
 rotate_left
 ·clear hs
  go_simp
  try rfl
 simp only [Act.put, tsa, tsb, tsc]
 refine tree_fin ?_
 rw [HT.out] at t3
 have HB := Lib.hid t3.below
 clear t0 t1 t2 t3
 go_wp2
 go_ret
 exact ⟨rfl, HB.out⟩
theorem elemS : ElemOf Tryz.prog 33 97 (.agg (zU8 64).toArray) 64 64 := .mk' Tryz.underlying33 (by kernel_rfl) (by kernel_rfl) (by decide)
theorem s1_sl (ρ : Operand → Value) (dst : Option Tmp) (x y : Operand) (t : TypeId) (pos : String) (after : Array Edge) (gd : Option (Nat × Bool)) (w : World) : (execOp ρ ⟨dst, .store 33 x y, t, pos, after, gd⟩).run Tryz.prog w = asSkip (stOne Tryz.prog 33 (ρ x) (ρ y) w) := ex_store1 ρ dst x y t pos after gd w (by kernel_rfl)
attribute [go_sem ↓] s1_sl
theorem slotC_ok (sl : List (Nat × Nat)) : okL (sl.length * 64) (slotC sl) = true := by
 refine okL_mk (slotC_len sl) fun v hv => ?_
 obtain ⟨p, _, hp⟩ := List.mem_flatMap.1 hv
 rcases List.mem_append.1 hp with h | h
 ·exact okL_mem (beC_ok 32 p.1) v h
 ·exact okL_mem (beC_ok 32 p.2) v h
structure CopR (w0 w : World) (v : Value) (ds : List (RAc × Value × Value)) : Prop where
 below : Below w0.heap.size w0 w
 own : w.ownsRow w0.heap.size 35 55 v ds.length (rowsR ds)
 code : ∀ p ∈ ds, w.ownsRow w0.heap.size 5 1 p.2.1 p.1.ac.code.length (p.1.ac.code.map (Value.int .u8))
 slots : ∀ p ∈ ds, w.ownsRow w0.heap.size 97 64 p.2.2 p.1.slots.length (slotC p.1.slots)
theorem CopR.start (w : World) : CopR w w (.slice none 0 0) [] := ⟨Below.refl _ _, World.ownsRow_nil _ _ _ _, fun p hp => (by cases hp), fun p hp => (by cases hp)⟩
theorem CopR.next {w0 w w' : World} {v : Value} {ds : List (RAc × Value × Value)} (h : CopR w0 w v ds) (hb : Below w.heap.size w w') : CopR w0 w' v ds :=
 ⟨h.below.trans (hb.mono h.below.size), ownsRow_below h.own hb, fun p hp => ownsRow_below (h.code p hp) hb, fun p hp => ownsRow_below (h.slots p hp) hb⟩
theorem grown_only {w w' : World} {row : Option Nat} (hg : w.grownBy w' row) : Only (fun g => row = some g) w w' := Only.of_grown hg
theorem CopR.app {w0 w w' : World} {v v' : Value} {ds : List (RAc × Value × Value)} {p : RAc × Value × Value} (h : CopR w0 w v ds) (ho : w'.ownsRow w0.heap.size 35 55 v' (ds.length + 1) (rowsR ds ++ racC p))
  (hg : w.grownBy w' v.ownBlock) (hc : w.ownsRow w0.heap.size 5 1 p.2.1 p.1.ac.code.length (p.1.ac.code.map (Value.int .u8))) (hs : w.ownsRow w0.heap.size 97 64 p.2.2 p.1.slots.length (slotC p.1.slots)) : CopR w0 w' v' (ds ++ [p]) := by
 have hO := grown_only hg
 have hk : ∀ {e s n : Nat} {u : Value} {xs : List Value}, w.ownsRow w0.heap.size e s u n xs → e ≠ 35 → w'.ownsRow w0.heap.size e s u n xs := fun hu he => Only.own hu hO fun g hg2 e2 => by
  rcases own_apart h.own hu (fun e3 => he e3.symm) with e4 | e4
  ·rw [e4] at e2; cases e2
  ·exact e4 (by rw [e2, hg2])
 refine ⟨h.below.grown hg h.below.size (fun k hk => (h.own.lt k hk).1), ?_, fun q hq => ?_, fun q hq => ?_⟩
 ·rw [List.length_append, rowsR_append]
  have : rowsR [p] = racC p := by simp [rowsR]
  rw [this]; exact ho
 ·rcases List.mem_append.1 hq with hq | hq
  ·exact hk (h.code q hq) (by decide)
  ·rw [List.mem_singleton.1 hq]; exact hk hc (by decide)
 ·rcases List.mem_append.1 hq with hq | hq
  ·exact hk (h.slots q hq) (by decide)
  ·rw [List.mem_singleton.1 hq]; exact hk hs (by decide)
structure SrcR (w : World) (v : Value) (ps : List (RAc × Value × Value)) : Prop where
 form : ∃ ad c, v = .slice ad ps.length c ∧ ∀ i (hi : i < ps.length), ∃ g off, ad = some ⟨g, off, none⟩ ∧ w.row? g (off + i * 55) 55 = some (racC ps[i])
 code : ∀ p ∈ ps, (∃ a c, p.2.1 = .slice a p.1.ac.code.length c ∧ Ints w .u8 a c p.1.ac.code) ∧ p.1.ac.code.length ≤ 1099511627776
 slots : ∀ p ∈ ps, (∃ a c, p.2.2 = .slice a p.1.slots.length c ∧ SrcAt w a c p.1.slots.length 64 (slotC p.1.slots)) ∧ p.1.slots.length ≤ 1000000
 len : ps.length ≤ 1000001
theorem SrcR.next {w w' : World} {v : Value} {ps : List (RAc × Value × Value)} (h : SrcR w v ps) (hb : Below w.heap.size w w') : SrcR w' v ps := by
 obtain ⟨⟨ad, c, h1, h2⟩, h3, h4, h5⟩ := h
 refine ⟨⟨ad, c, h1, fun i hi => ?_⟩, fun p hp => ?_, fun p hp => ?_, h5⟩
 ·obtain ⟨g, off, e1, e2⟩ := h2 i hi
  exact ⟨g, off, e1, ((brow hb).1 _ _ _ (World.row?_lt e2)).trans e2⟩
 ·obtain ⟨⟨a, c, e1, e2⟩, e3⟩ := h3 p hp
  exact ⟨⟨a, c, e1, e2.below hb⟩, e3⟩
 ·obtain ⟨⟨a, c, e1, e2⟩, e3⟩ := h4 p hp
  exact ⟨⟨a, c, e1, e2.below hb⟩, e3⟩
theorem rac_src {w : World} {own : Go.Mun.Own} {p : RAc × Value × Value} (h : RAcOk w own p) : ((∃ a c, p.2.1 = .slice a p.1.ac.code.length c ∧ Ints w .u8 a c p.1.ac.code) ∧ p.1.ac.code.length ≤ 1099511627776) ∧ ((∃ a c, p.2.2 = .slice a p.1.slots.length c ∧ SrcAt w a c p.1.slots.length 64 (slotC p.1.slots)) ∧ p.1.slots.length ≤ 1000000) := by
 obtain ⟨a, c, e1, e2, _⟩ := h.code.read
 obtain ⟨a2, c2, e3⟩ := own_shape h.slots.read
 refine ⟨⟨⟨a, c, e1, e2⟩, h.code.len⟩, ⟨⟨a2, c2, e3, ?_⟩, h.slots.len⟩⟩
 have := h.slots.read
 rw [e3] at this
 exact src_own this (slotC_ok _)
theorem src_of_own {w : World} {own : Go.Mun.Own} {base : Nat} {v : Value} {ps : List (RAc × Value × Value)} (h : w.ownsRow base 35 55 v ps.length (rowsR ps)) (hok : ∀ p ∈ ps, RAcOk w own p) (hl : ps.length ≤ 1000001) : SrcR w v ps := by
 refine ⟨?_, fun p hp => (rac_src (hok p hp)).1, fun p hp => (rac_src (hok p hp)).2, hl⟩
 obtain ⟨ad, c, e⟩ := own_shape h
 refine ⟨ad, c, e, fun i hi => ?_⟩
 obtain ⟨g, c', e2, _, _, _, hr, _⟩ := own_words h (by omega)
 rw [e] at e2
 cases e2
 refine ⟨g, 0, rfl, ?_⟩
 have h1 := World.row?_sub hr (o' := 0 + i * 55) (n' := 55) (by omega) (by omega)
 rw [h1, Nat.zero_add, Nat.sub_zero, rowsR_at ps i hi]
theorem rac_split (p : RAc × Value × Value) (u v : Value) : racC (p.1, u, v) = splice (splice (racC p) 53 [u]) 54 [v] := by
 unfold racC
 rw [splice_catR (i := 3) (s := [p.2.1]) rfl (by simp) (by simp [acS, offOf_succ, offOf_zero])]
 rw [splice_catR (i := 4) (s := [p.2.2]) rfl (by simp) (by simp [acS, offOf_succ, offOf_zero])]
 rfl
theorem cell_53 {w : World} {g o : Nat} {p : RAc × Value × Value} (h : w.row? g o 55 = some (racC p)) : w.cell? ⟨g, o + 53, none⟩ = some p.2.1 := cell_cat h (i := 3) rfl (by simp [acS, offOf_succ, offOf_zero])
theorem cell_54 {w : World} {g o : Nat} {p : RAc × Value × Value} (h : w.row? g o 55 = some (racC p)) : w.cell? ⟨g, o + 54, none⟩ = some p.2.2 := cell_cat h (i := 4) rfl (by simp [acS, offOf_succ, offOf_zero])
def CopP (w : World) (ps : List (RAc × Value × Value)) (e : Ending) (w' : World) : Prop :=
 ∃ v ds, e = .returned v ∧ CopR w w' v ds ∧ fsts ds = fsts ps
theorem r_copied {w : World} {v : Value} {ps : List (RAc × Value × Value)} (h : SrcR w v ps) : Calls Tryz.prog 83 #[v] w (CopP w ps) := by
 obtain ⟨ad, cp, rfl, hrow⟩ := h.form
 obtain ⟨m, hm⟩ : ∃ m, m = ps.length := ⟨_, rfl⟩
 have hml : m ≤ 1000001 := by rw [hm]; exact h.len
 have HM := Lib.hid hm
 have HS := Lib.hid h
 have HROW := Lib.hid hrow
 rw [← hm]
 clear h hm hrow
 go_enter Tryz.func83, Tryz.ntmps83
 go_wp2_with fail
 go_loopw [3, 4] (fun u ix wr => ∃ (k : Nat) (ds : List (RAc × Value × Value)), k ≤ m ∧ ix = .int .i64 (k : Int) ∧ Hid (CopR w wr u ds ∧ fsts ds = (fsts ps).take k)) (fun _ ix _ => m - (intOf ix).toNat)
 case atStart => exact ⟨0, [], by omega, rfl, CopR.start w, by simp [fsts]⟩
 case round =>
  obtain ⟨k, ds, hk, rfl, HR⟩ := hrel
  by_cases hlt : k < m
  ·have hI : (k : Int) < m := by omega
   have hkp : k < ps.length := by have := HM.out; omega
   have hdl : ds.length = k := by
    have := congrArg List.length HR.out.2
    simpa [fsts, List.length_take, Nat.min_eq_left (Nat.le_of_lt hkp)] using this
   obtain ⟨g, off, rfl, hr0⟩ := HROW.out k hkp
   have hglt := World.row?_lt hr0
   obtain ⟨P, hP⟩ : ∃ P, P = ps[k]'hkp := ⟨_, rfl⟩
   have hPm : P ∈ ps := by rw [hP]; exact List.getElem_mem hkp
   obtain ⟨⟨ca, cc, ecv, _⟩, hcl⟩ := HS.out.code P hPm
   obtain ⟨⟨sa, sc, esv, _⟩, hsl⟩ := HS.out.slots P hPm
   have HTK : Hid ((fsts ps).take (k + 1) = (fsts ps).take k ++ [P.1]) := by
    have : (fsts ps)[k]? = some P.1 := by unfold fsts; rw [List.getElem?_map, List.getElem?_eq_getElem hkp, hP]; rfl
    show (fsts ps).take (k + 1) = _
    rw [List.take_add_one, this]; rfl
   have hr1 : wr.row? g (off + k * 55) 55 = some (racC P) := by rw [hP]; exact ((brow HR.out.1.below).1 _ _ _ hglt).trans hr0
   obtain ⟨C, hC⟩ : ∃ C, C = racC P := ⟨_, rfl⟩
   have hok : okL 55 C = true := by
    rw [hC]; unfold racC; rw [ecv, esv]
    exact okL_cat (acS_len _ _ _) fun s hs => by
     simp only [acS, List.mem_cons, List.not_mem_nil, or_false] at hs
     rcases hs with rfl | rfl | rfl | rfl | rfl
     all_goals first | rfl | (rw [beC_len]; exact beC_ok _ _)
   obtain ⟨n1, hn1⟩ : ∃ n1, n1 = P.1.ac.code.length := ⟨_, rfl⟩
   obtain ⟨n2, hn2⟩ : ∃ n2, n2 = P.1.slots.length := ⟨_, rfl⟩
   have c53 := cell_53 hr1
   have c54 := cell_54 hr1
   rw [ecv, ← hn1] at c53
   rw [esv, ← hn2] at c54
   rw [← hC] at hr1
   -- the box
   obtain ⟨b, hb⟩ : ∃ b, b = wr.heap.size := ⟨_, rfl⟩
   have hgb : g < b := by rw [hb]; exact Nat.lt_of_lt_of_le hglt HR.out.1.below.size
   have hz := zs81_len
   obtain ⟨w5, e5⟩ : ∃ w5, w5 = (wr.alloc (.cells (cat zs81).toArray 35)).setCells wr.heap.size 0 C := ⟨_, rfl⟩
   have hfz : (wr.alloc (.cells (cat zs81).toArray 35)).free? wr.heap.size 0 55 = true := World.free?_alloc_at _ _ rfl (by rw [hz]; omega)
   have hb5 : Below wr.heap.size wr w5 := by rw [e5]; exact ((Below.refl _ _).alloc (Nat.le_refl _) _).setCells (Nat.le_refl _) _ _
   have a5 : Arr w5 b 55 C := by
    rw [e5, hb]
    exact ⟨row?_setCells_whole C hfz hok, by rw [World.free?_setCells']; exact hfz⟩
   have q53 : w5.cell? ⟨g, off + k * 55 + 53, none⟩ = some (.slice ca n1 cc) := by rw [hb5.cell (p := ⟨g, off + k * 55 + 53, none⟩) (by rw [← hb]; exact hgb)]; exact c53
   have q54 : w5.cell? ⟨g, off + k * 55 + 54, none⟩ = some (.slice sa n2 sc) := by rw [hb5.cell (p := ⟨g, off + k * 55 + 54, none⟩) (by rw [← hb]; exact hgb)]; exact c54
   have HI5 : Hid (Ints w5 .u8 ca cc P.1.ac.code ∧ SrcAt w5 sa sc n2 64 (slotC P.1.slots)) := by
    have hx := HS.out.next (HR.out.1.below.trans (hb5.mono HR.out.1.below.size))
    obtain ⟨⟨ca', cc', e1, i1⟩, _⟩ := hx.code P hPm
    obtain ⟨⟨sa', sc', e2, i2⟩, _⟩ := hx.slots P hPm
    rw [ecv] at e1; rw [esv] at e2
    cases e1; cases e2
    rw [hn2]; exact ⟨i1, i2⟩
   have HR5 := Lib.hid (HR.out.1.next hb5)
   have HB5 := Lib.hid hb5
   have HA5 := Lib.hid a5
   have HE5 := Lib.hid e5
   have HC := Lib.hid hC
   have HN1 := Lib.hid hn1
   have HN2 := Lib.hid hn2
   have HBS := Lib.hid hb
   have HQ54 := Lib.hid q54
   have HESV := Lib.hid esv
   have HECV := Lib.hid ecv
   have hn1l : n1 ≤ 1099511627776 := by omega
   have hn2l : n2 ≤ 1000000 := by omega
   rw [e5] at q53
   clear hb5 a5 e5 c53 c54 hC hn1 hn2 hr0 hP q54 hb esv ecv
   go_wp2_with (rw [← HE5.out]; rw [← HBS.out]; at_builtin; go_must (refine wpList_app elem26 rfl _ _ rfl (World.ownsRow_nil _ _ _ _) rfl (by rw [HN1.out]; exact SrcAt.ints HI5.out.1) rfl ?c1 ?c2 ?_))
   case c1 => unfold maxLen; omega
   case c2 => omega
   intro v6 w6 hv6 ho6 hn6
   obtain ⟨a6, c6, ev6⟩ := own_shape hv6
   have hb6 : Below w5.heap.size w5 w6 := ho6.below (Nat.le_refl _) (fun i hi => by simp [Value.ownBlock] at hi)
   have hsz5 := HB5.out.size
   have hv6' : w6.ownsRow w.heap.size 5 1 v6 P.1.ac.code.length (P.1.ac.code.map (Value.int .u8)) := by
    have := ownsRow_base (base := w.heap.size) hv6 (fun g hg => by
     have h1 := (hn6 g hg).resolve_left (by simp [Value.ownBlock])
     have h2 := HR.out.1.below.size
     omega)
    rw [HN1.out] at this
    simpa using this
   have hA6 : Arr w6 b 55 C := HA5.out.below hb6
   have hf53 := World.free?_sub hA6.free (o' := 53) (n' := 1) (by omega)
   have hone6 : v6.oneCell' = true := by rw [ev6]; rfl
   have hA6s := hA6.set (i := 53) (by omega) v6
   have hbl5 : b < w5.heap.size := HA5.out.lt
   have hb6w : Below wr.heap.size wr (w6.setCell ⟨b, 53, none⟩ v6) := (HB5.out.trans (hb6.mono hsz5)).setCell (p := ⟨b, 53, none⟩) (by rw [← HBS.out]; exact Nat.le_refl _) _
   have q54 : (w6.setCell ⟨b, 53, none⟩ v6).cell? ⟨g, off + k * 55 + 54, none⟩ = some (.slice sa n2 sc) := by
    have h1 : w6.cell? ⟨g, off + k * 55 + 54, none⟩ = some (.slice sa n2 sc) := (hb6.cell (p := ⟨g, off + k * 55 + 54, none⟩) (by show g < w5.heap.size; omega)).trans HQ54.out
    exact (World.cell?_setCells_block (w := w6) b 53 ⟨g, off + k * 55 + 54, none⟩ [v6] (by show g ≠ b; omega)).trans h1
   have HV6 := Lib.hid hv6'
   have HW6 := Lib.hid hb6w
   have HA6 := Lib.hid hA6s
   have HEV6 := Lib.hid ev6
   have HNW6 : Hid (∀ g, v6.ownBlock = some g → w5.heap.size ≤ g) := fun g hg => (hn6 g hg).resolve_left (by simp [Value.ownBlock])
   obtain ⟨W7, hW7⟩ : ∃ W7, W7 = w6.setCell ⟨b, 53, none⟩ v6 := ⟨_, rfl⟩
   have HW7 := Lib.hid hW7
   have HSA : Hid (SrcAt W7 sa sc n2 64 (slotC P.1.slots)) := by
    rw [hW7]
    have hx := HS.out.next (HR.out.1.below.trans (hb6w.mono HR.out.1.below.size))
    obtain ⟨⟨sa', sc', e2, i2⟩, _⟩ := hx.slots P hPm
    have e3 := HESV.out
    rw [e3] at e2
    cases e2
    rw [HN2.out]; exact i2
   clear hv6 ho6 hn6 hb6 hv6' hA6 hA6s hb6w ev6 hW7
   go_wp2_with (rw [← HW7.out]; at_builtin; go_must (refine wpList_app elemS rfl _ _ rfl (World.ownsRow_nil _ _ _ _) rfl HSA.out rfl ?e1 ?e2 ?_))
   case e1 => unfold maxLen; omega
   case e2 => omega
   intro v7 w7 hv7 ho7 hn7
   obtain ⟨a7, c7, ev7⟩ := own_shape hv7
   have hb7 : Below W7.heap.size W7 w7 := ho7.below (Nat.le_refl _) (fun i hi => by simp [Value.ownBlock] at hi)
   have hW7w : Below wr.heap.size wr W7 := by rw [HW7.out]; exact HW6.out
   have hv7' : w7.ownsRow w.heap.size 97 64 v7 P.1.slots.length (slotC P.1.slots) := by
    have := ownsRow_base (base := w.heap.size) hv7 (fun g hg => by
     have h1 := (hn7 g hg).resolve_left (by simp [Value.ownBlock])
     have h2 := HR.out.1.below.size
     have h3 := hW7w.size
     omega)
    rw [HN2.out] at this
    simpa using this
   have hA7 : Arr w7 b 55 (C.set 53 v6) := Arr.below (by rw [HW7.out]; exact HA6.out) hb7
   have hf54 := World.free?_sub hA7.free (o' := 54) (n' := 1) (by omega)
   have hone7 : v7.oneCell' = true := by rw [ev7]; rfl
   have hA8 := hA7.set (i := 54) (by omega) v7
   obtain ⟨D, hD⟩ : ∃ D, D = racC (P.1, v6, v7) := ⟨_, rfl⟩
   have eD : (C.set 53 v6).set 54 v7 = D := by
    have hl := okL_len hok
    rw [hD, rac_split, ← HC.out, splice_one C 53 v6 (by omega), splice_one (C.set 53 v6) 54 v7 (by simp; omega)]
   rw [eD] at hA8
   have r8 := hA8.row
   have hDl : D.length = 55 := by rw [hD]; exact racC_len _
   have HDK : Hid (okL (1 * 55) D = true) := by
    show _ = _
    rw [hD]; unfold racC
    rw [show (P.1, v6, v7).2.1 = v6 from rfl, show (P.1, v6, v7).2.2 = v7 from rfl, HEV6.out, ev7]
    exact okL_cat (acS_len _ _ _) fun s hs => by
     simp only [acS, List.mem_cons, List.not_mem_nil, or_false] at hs
     rcases hs with rfl | rfl | rfl | rfl | rfl
     all_goals first | rfl | (rw [beC_len]; exact beC_ok _ _)
   obtain ⟨W8, hW8⟩ : ∃ W8, W8 = w7.setCell ⟨b, 54, none⟩ v7 := ⟨_, rfl⟩
   have hb8 : Below wr.heap.size wr W8 := by
    rw [hW8]; exact (hW7w.trans (hb7.mono hW7w.size)).setCell (p := ⟨b, 54, none⟩) (by rw [← HBS.out]; exact Nat.le_refl _) _
   have HR8 := Lib.hid (HR.out.1.next hb8)
   -- the two new rows there
   have hbb6 : ∀ g, v6.ownBlock = some g → g ≠ b := fun g hg e => by
    have := HNW6.out g hg
    have := HA5.out.lt
    omega
   have hbb7 : ∀ g, v7.ownBlock = some g → g ≠ b := fun g hg e => by
    have h1 := (hn7 g hg).resolve_left (by simp [Value.ownBlock])
    have h2 : b < W7.heap.size := by rw [HW7.out]; exact HA6.out.lt
    omega
   have HV6' : Hid (W8.ownsRow w.heap.size 5 1 v6 P.1.ac.code.length (P.1.ac.code.map (Value.int .u8))) := by
    have h1 : W7.ownsRow w.heap.size 5 1 v6 P.1.ac.code.length (P.1.ac.code.map (Value.int .u8)) := by
     rw [HW7.out]; exact Only.own HV6.out (only_cell w6 b 53 v6) (fun g hg e => hbb6 g hg e)
    rw [hW8]
    exact Only.own (ownsRow_below h1 hb7) (only_cell w7 b 54 v7) (fun g hg e => hbb6 g hg e)
   have HV7' : Hid (W8.ownsRow w.heap.size 97 64 v7 P.1.slots.length (slotC P.1.slots)) := by
    rw [hW8]
    exact Only.own hv7' (only_cell w7 b 54 v7) (fun g hg e => hbb7 g hg e)
   have HSZ : Hid (w7.heap.size = W8.heap.size) := by
    show _ = _
    rw [hW8]; simp
   have HW8 := Lib.hid hW8
   have HD := Lib.hid hD
   have hsz8 := hb8.size
   have hszw := HR.out.1.below.size
   clear hv7 ho7 hn7 ev7 hb7 hW7w hv7' hA7 hA8 hD hW8 hb8 hbb6 hbb7 eD q54
   go_wp2_with (rw [← HW8.out]; at_builtin; go_must (refine wpList_append_at (base := w.heap.size) (n := ds.length) (xs := rowsR ds) elemG rfl _ _ rfl rfl rfl HR8.out.own HSZ.out HDK.out ?f1 ?f2 ?f3 ?_))
   case f1 => unfold maxLen; omega
   case f2 => omega
   case f3 => have := hsz8; omega
   intro v9 w9 hv9 hg9 _
   have HN9 : Hid (CopR w w9 v9 (ds ++ [(P.1, v6, v7)]) ∧ fsts (ds ++ [(P.1, v6, v7)]) = (fsts ps).take (k + 1)) := by
    refine ⟨HR8.out.app (p := (P.1, v6, v7)) (by rw [← HD.out]; simpa [hdl] using hv9) hg9 HV6'.out HV7'.out, ?_⟩
    rw [HTK.out, ← HR.out.2]
    simp [fsts]
   clear hv9 hg9
   go_wp2
   go_roundw
   case rel => exact ⟨k + 1, _, by omega, by go_num, HN9⟩
   case measure => simp [intOf]; omega
  ·obtain rfl : k = m := by omega
   have hI : ¬ (k : Int) < k := by omega
   clear hlt
   go_wp2
   go_ret
   obtain ⟨h1, h2⟩ := HR.out
   exact ⟨_, ds, rfl, h1, by rw [h2]; exact List.take_of_length_le (by simp [fsts]; have := HM.out; omega)⟩
structure RacB (x : RAc) : Prop where
 addr : x.ac.addr < wA
 bal : x.ac.bal < wW
 nonce : 0 ≤ x.ac.nonce ∧ x.ac.nonce ≤ 9223372036854775807
 byte : Byt x.ac.code
 clen : x.ac.code.length ≤ 1099511627776
 val : ∀ p ∈ x.slots, p.1 < wW ∧ p.2 < wW
 slen : x.slots.length ≤ 1000000
theorem rac_b {w : World} {own : Go.Mun.Own} {p : RAc × Value × Value} (h : RAcOk w own p) : RacB p.1 := ⟨h.addr, h.bal, h.nonce, h.code.byte, h.code.len, h.slots.val, h.slots.len⟩
open Classical in
theorem cop_label {v0 w : World} {own : Go.Mun.Own} {v : Value} {ds : List (RAc × Value × Value)} (hlow : ∀ b, own b ≠ none → b < v0.heap.size) (hc : CopR v0 w v ds) (hb : ∀ p ∈ ds, RacB p.1) :
  ∃ own' : Go.Mun.Own, (∀ b, b < v0.heap.size → own' b = own b) ∧ (∀ b, own' b ≠ none → b < w.heap.size) ∧ RArr w own' v ds ∧ own.le own' := by
 let own' : Go.Mun.Own := fun b => if v.ownBlock = some b then some .acc else if (∃ p ∈ ds, p.2.1.ownBlock = some b) then some .code else if (∃ p ∈ ds, p.2.2.ownBlock = some b) then some (.smap 0) else own b
 have hx : ∀ b, b < v0.heap.size → own' b = own b := by
  intro b hlt
  show (if v.ownBlock = some b then some Lab.acc else if (∃ p ∈ ds, p.2.1.ownBlock = some b) then some Lab.code else if (∃ p ∈ ds, p.2.2.ownBlock = some b) then some (Lab.smap 0) else own b) = own b
  rw [if_neg (fun e => by have := ownsRow_ge hc.own b e; omega), if_neg (by rintro ⟨p, hp, e⟩; have := ownsRow_ge (hc.code p hp) b e; omega), if_neg (by rintro ⟨p, hp, e⟩; have := ownsRow_ge (hc.slots p hp) b e; omega)]
 have hle : own.le own' := fun b l h => by
  have hlt := hlow b (by rw [h]; simp)
  rw [hx b hlt]; exact h
 have hs := hc.below.size
 refine ⟨own', hx, ?_, ⟨ownsRow_mono hc.own (Nat.zero_le _), ?_, ?_⟩, hle⟩
 ·intro b hne
  by_cases h1 : v.ownBlock = some b
  ·exact ownsRow_lt hc.own b h1
  by_cases h2 : ∃ p ∈ ds, p.2.1.ownBlock = some b
  ·obtain ⟨p, hp, e⟩ := h2; exact ownsRow_lt (hc.code p hp) b e
  by_cases h3 : ∃ p ∈ ds, p.2.2.ownBlock = some b
  ·obtain ⟨p, hp, e⟩ := h3; exact ownsRow_lt (hc.slots p hp) b e
  have hne2 : (if v.ownBlock = some b then some Lab.acc else if (∃ p ∈ ds, p.2.1.ownBlock = some b) then some Lab.code else if (∃ p ∈ ds, p.2.2.ownBlock = some b) then some (Lab.smap 0) else own b) ≠ none := hne
  rw [if_neg h1, if_neg h2, if_neg h3] at hne2
  exact Nat.lt_of_lt_of_le (hlow b hne2) hs
 ·intro g hg
  show (if v.ownBlock = some g then some Lab.acc else _) = some Lab.acc
  rw [if_pos hg]
 ·intro p hp
  have B := hb p hp
  have hv5 := hc.code p hp
  have hv6 := hc.slots p hp
  obtain ⟨a, c, e1, _, i1⟩ := Ints.of_own' hv5
  refine ⟨⟨⟨a, c, e1, i1, fun _ q hq => ?_⟩, B.byte, B.clen⟩, ⟨ownsRow_mono hv6 (Nat.zero_le _), fun g hg => ?_, B.val, B.slen⟩, B.addr, B.bal, B.nonce⟩
  ·have hob : p.2.1.ownBlock = some q.block := by rw [e1, hq]; rfl
   show (if v.ownBlock = some q.block then some Lab.acc else if (∃ p ∈ ds, p.2.1.ownBlock = some q.block) then some Lab.code else _) = some Lab.code
   rw [if_neg (fun e => by
    rcases own_apart hc.own hv5 (by decide) with h | h
    ·rw [h] at e; cases e
    ·exact h (by rw [e, hob])), if_pos ⟨p, hp, hob⟩]
  ·show (if v.ownBlock = some g then some Lab.acc else if (∃ p ∈ ds, p.2.1.ownBlock = some g) then some Lab.code else if (∃ p ∈ ds, p.2.2.ownBlock = some g) then some (Lab.smap 0) else own g) = some (Lab.smap 0)
   rw [if_neg (fun e => by
    rcases own_apart hc.own hv6 (by decide) with h | h
    ·rw [h] at e; cases e
    ·exact h (by rw [e, hg])), if_neg (by
    rintro ⟨q, hq, e⟩
    rcases own_apart (hc.code q hq) hv6 (by decide) with h | h
    ·rw [h] at e; cases e
    ·exact h (by rw [e, hg])), if_pos ⟨p, hp, hg⟩]
section
variable {w w' : World} {own own' : Go.Mun.Own} {sb n : Nat} {lv mv : Value} {ps : List (RAc × Value × Value)} {ms : List (Nat × Value × List (RAc × Value × Value))}
theorem _root_.Go.Mun.RStC.le (h : RStC w own sb lv mv ps ms n) (hle : own.le own') (hlow : ∀ b, own' b ≠ none → b < w.heap.size) : RStC w own' sb lv mv ps ms n :=
 { h with
  lab := hle _ _ h.lab
  arr := h.arr.le hle
  mlab := fun g hg => hle _ _ (h.mlab g hg)
  each := fun m hm => ⟨(h.each m hm).1.le hle, (h.each m hm).2⟩
  low := hlow }
def mrkC (ms : List (Nat × Value × List (RAc × Value × Value))) : List Value := ms.flatMap fun m => [.int .i64 m.1, m.2.1]
end
end Go.Proofs.YtfflppedbopdpaaGreat
namespace Go.Proofs.YtfflppedbopdpaaGreat
open Go.RowKit Go.Mun
theorem s1_102 (ρ : Operand → Value) (dst : Option Tmp) (x y : Operand) (t : TypeId) (pos : String) (after : Array Edge) (gd : Option (Nat × Bool)) (w : World) : (execOp ρ ⟨dst, .store 123 x y, t, pos, after, gd⟩).run Tryz.prog w = asSkip (stOne Tryz.prog 123 (ρ x) (ρ y) w) := ex_store1 ρ dst x y t pos after gd w (by kernel_rfl)
attribute [go_sem ↓] s1_102
end Go.Proofs.YtfflppedbopdpaaGreat
namespace Go.Proofs.YtfflppedbopdpaaGreat
open Go.RowKit Go.Mun
def emptyX (x : RAc) : Bool := decide (x.ac.nonce = 0) && decide (x.ac.bal = 0) && decide (x.ac.code = []) && decide (x.slots = [])
theorem racC_ok' {p : RAc × Value × Value} {ca sa : Option Addr} {n1 n2 cc sc : Nat} (e1 : p.2.1 = .slice ca n1 cc) (e2 : p.2.2 = .slice sa n2 sc) : okL 55 (racC p) = true := by
 unfold racC; rw [e1, e2]
 exact okL_cat (acS_len _ _ _) fun s hs => by
  simp only [acS, List.mem_cons, List.not_mem_nil, or_false] at hs
  rcases hs with rfl | rfl | rfl | rfl | rfl
  all_goals first | rfl | (rw [beC_len]; exact beC_ok _ _)
theorem ref_empty {p : RAc × Value × Value} {ca sa : Option Addr} {cc sc : Nat} (ec : p.2.1 = .slice ca p.1.ac.code.length cc) (es : p.2.2 = .slice sa p.1.slots.length sc) (hb : p.1.ac.bal < wW) (w : World) :
  Calls Tryz.prog 82 #[.agg (racC p).toArray] w fun e w' => e = .returned (.bool (emptyX p.1)) ∧ Below w.heap.size w w' := by
 have hok := racC_ok' ec es
 obtain ⟨w0, e0⟩ : ∃ w0, w0 = w.alloc (.cells (racC p).toArray 35) := ⟨_, rfl⟩
 have hr : w0.row? w.heap.size 0 55 = some (racC p) := by rw [e0]; exact World.row?_alloc_at _ _ _ rfl (racC_len p)
 have hB : Below w.heap.size w w0 := by rw [e0]; exact (Below.refl _ _).alloc (Nat.le_refl _) _
 have c20 : w0.cell? ⟨w.heap.size, 20, none⟩ = some (.int .i64 p.1.ac.nonce) := cell_cat hr (i := 1) rfl (by simp [acS, offOf_succ, offOf_zero])
 have r21 : w0.row? w.heap.size 21 32 = some (beC 32 p.1.ac.bal) := row_cat hr (i := 2) rfl (by simp [acS, offOf_succ, offOf_zero]) (by simp)
 have c53 := cell_53 hr
 have c54 := cell_54 hr
 rw [Nat.zero_add, ec] at c53
 rw [Nat.zero_add, es] at c54
 have HX : Hid (emptyX p.1 = (decide (p.1.ac.nonce = 0) && decide (p.1.ac.bal = 0) && decide (p.1.ac.code.length = 0) && decide (p.1.slots.length = 0))) := by
  show _ = _
  unfold emptyX
  simp [List.length_eq_zero_iff]
 have HB := Lib.hid hB
 have HE := Lib.hid e0
 generalize emptyX p.1 = E at *
 generalize p.1.ac.nonce = nn at *
 generalize p.1.ac.bal = bl at *
 generalize p.1.ac.code.length = n1 at *
 generalize p.1.slots.length = n2 at *
 have hl2 : (beC 32 bl).length = 32 := by simp
 obtain ⟨C, hC⟩ : ∃ C, C = racC p := ⟨_, rfl⟩
 have hcl : C.length = 55 := by rw [hC]; exact racC_len p
 have gc : ∀ i (hi : i < C.length) u, w0.cell? ⟨w.heap.size, i, none⟩ = some u → C[i] = u := by
  intro i hi u h
  have h2 := World.row?_cell hr (i := i) (by omega)
  rw [Nat.zero_add, h, ← hC, List.getElem?_eq_getElem hi] at h2
  exact (Option.some.inj h2).symm
 have g20 : C[20]'(by omega) = .int .i64 nn := gc _ _ _ c20
 have g53 : C[53]'(by omega) = .slice ca n1 cc := gc _ _ _ c53
 have g54 : C[54]'(by omega) = .slice sa n2 sc := gc _ _ _ c54
 rw [← hC] at HE hok ⊢
 rw [e0, ← hC] at r21
 have z25 := b0_25
 have heq := eqW (a := bl) (b := 0) hb (show (0 : Nat) < wW by decide)
 clear e0 hr hB ec es hC gc c20 c53 c54
 by_cases h1 : nn = 0
 ·subst h1
  by_cases h2 : bl = 0
  ·have hd2 : decide (bl = 0) = true := by simp [h2]
   rw [hd2] at heq
   by_cases h3 : n1 = 0
   ·subst h3
    have HR : Hid (E = decide (n2 = 0)) := by show _ = _; rw [HX.out]; simp [h2]
    clear HX h2 hd2
    go_enter Tryz.func82, Tryz.ntmps82
    go_wp2_with fail
    by_cases h4 : n2 = 0
    ·subst h4
     go_wp2
     go_ret
     exact ⟨by rw [HR.out]; rfl, HE.out ▸ HB.out⟩
    ·have h4I : ((n2 : Int) == 0) = false := by simp [h4]
     have HN := Lib.hid h4
     clear h4
     go_wp2
     go_ret
     exact ⟨by rw [HR.out]; simp [HN.out], HE.out ▸ HB.out⟩
   ·have h3I : ((n1 : Int) == 0) = false := by simp [h3]
    have HR : Hid (E = false) := by show _ = _; rw [HX.out]; simp [h3]
    clear HX h2 hd2 h3
    go_enter Tryz.func82, Tryz.ntmps82
    go_wp2
    go_ret
    exact ⟨by rw [HR.out]; rfl, HE.out ▸ HB.out⟩
  ·have hd2 : decide (bl = 0) = false := by simp [h2]
   rw [hd2] at heq
   have HR : Hid (E = false) := by show _ = _; rw [HX.out]; simp [h2]
   clear HX h2 hd2
   go_enter Tryz.func82, Tryz.ntmps82
   go_wp2
   go_ret
   exact ⟨by rw [HR.out]; rfl, HE.out ▸ HB.out⟩
 ·have h1I : (nn == 0) = false := by simp [h1]
  have HR : Hid (E = false) := by show _ = _; rw [HX.out]; simp [h1]
  clear HX h1
  go_enter Tryz.func82, Tryz.ntmps82
  go_wp2
  go_ret
  exact ⟨by rw [HR.out]; rfl, HE.out ▸ HB.out⟩
end Go.Proofs.YtfflppedbopdpaaGreat
namespace Go.Proofs.YtfflppedbopdpaaGreat
open Go.RowKit Go.Mun
theorem eqA_refl (x : Nat) (w : World) : (Op.equalIn 10000 23 (.agg (beC 20 x).toArray) (.agg (beC 20 x).toArray)).run Tryz.prog w = .ok true w := by
 have h : ∀ d, (Op.equalIn (d + 3) 23 (.agg (beC 20 x).toArray) (.agg (beC 20 x).toArray)).run Tryz.prog w = .ok true w := fun d => by
  have := run_eq_beD (n := 20) Tryz.underlying23 Tryz.underlying5 (by kernel_rfl) (d + 1) x x w
  simpa [beEq] using this
 exact at10000 h
theorem eqW_refl (x : Nat) (w : World) : (Op.equalIn 10000 25 (.agg (beC 32 x).toArray) (.agg (beC 32 x).toArray)).run Tryz.prog w = .ok true w := by
 have h : ∀ d, (Op.equalIn (d + 3) 25 (.agg (beC 32 x).toArray) (.agg (beC 32 x).toArray)).run Tryz.prog w = .ok true w := fun d => by
  have := run_eq_beD (n := 32) Tryz.underlying25 Tryz.underlying5 (by kernel_rfl) (d + 1) x x w
  simpa [beEq] using this
 exact at10000 h
end Go.Proofs.YtfflppedbopdpaaGreat
namespace Go.Proofs.YtfflppedbopdpaaGreat
open Go.RowKit Go.Mun
end Go.Proofs.YtfflppedbopdpaaGreat
namespace Go.Proofs.YtfflppedbopdpaaGreat
open Go.RowKit Go.Mun
def EasyR (w : World) (p : RAc × Value × Value) : Prop := ∃ a k s j, p.2.1 = .slice a p.1.ac.code.length k ∧ Ints w .u8 a k p.1.ac.code ∧ p.2.2 = .slice s 0 j
theorem same_acc0 (a : Nat) (n : Int) (b : Nat) (d : Bts) (a1 a2 s1 s2 : Option Addr) (c1 c2 j1 j2 : Nat) (w : World) (h1 : Ints w .u8 a1 c1 d) (h2 : Ints w .u8 a2 c2 d) :
  Calls Tryz.prog 74 #[.agg (cat (acS ⟨a, n, b, d⟩ (.slice a1 d.length c1) (.slice s1 0 j1))).toArray, .agg (cat (acS ⟨a, n, b, d⟩ (.slice a2 d.length c2) (.slice s2 0 j2))).toArray] w fun e w' => e = .returned (.bool true) ∧ Below w.heap.size w w' := by
 have ha := eqA_refl a
 have hw := eqW_refl b
 obtain ⟨X, hX⟩ : ∃ X, X = cat (acS ⟨a, n, b, d⟩ (.slice a1 d.length c1) (.slice s1 0 j1)) := ⟨_, rfl⟩
 obtain ⟨Y, hY⟩ : ∃ Y, Y = cat (acS ⟨a, n, b, d⟩ (.slice a2 d.length c2) (.slice s2 0 j2)) := ⟨_, rfl⟩
 have lX : X.length = 55 := by rw [hX]; exact acS_len _ _ _
 have lY : Y.length = 55 := by rw [hY]; exact acS_len _ _ _
 rw [← hX, ← hY]
 obtain ⟨w0, e0⟩ : ∃ w0, w0 = (w.alloc (.cells X.toArray 35)).alloc (.cells Y.toArray 35) := ⟨_, rfl⟩
 have hb0 : Below w.heap.size w w0 := by rw [e0]; exact ((Below.refl _ _).alloc (Nat.le_refl _) _).alloc (by simp) _
 have hr : w0.row? w.heap.size 0 55 = some X := by rw [e0, World.row?_alloc_lt _ (by simp)]; exact World.row?_alloc_at X 35 _ rfl lX
 have hs : w0.row? (w.heap.size + 1) 0 55 = some Y := by rw [e0]; exact World.row?_alloc_at Y 35 _ (by simp) lY
 rw [hX] at hr
 rw [hY] at hs
 have x0 : w0.row? w.heap.size 0 20 = some (beC 20 a) := row_cat hr (i := 0) rfl (by simp [acS, offOf_succ, offOf_zero]) (by simp)
 have x1 : w0.cell? ⟨w.heap.size, 20, none⟩ = some (.int .i64 n) := cell_cat hr (i := 1) rfl (by simp [acS, offOf_succ, offOf_zero])
 have x2 : w0.row? w.heap.size 21 32 = some (beC 32 b) := row_cat hr (i := 2) rfl (by simp [acS, offOf_succ, offOf_zero]) (by simp)
 have x3 : w0.cell? ⟨w.heap.size, 53, none⟩ = some (.slice a1 d.length c1) := cell_cat hr (i := 3) rfl (by simp [acS, offOf_succ, offOf_zero])
 have x4 : w0.cell? ⟨w.heap.size, 54, none⟩ = some (.slice s1 0 j1) := cell_cat hr (i := 4) rfl (by simp [acS, offOf_succ, offOf_zero])
 have y0 : w0.row? (w.heap.size + 1) 0 20 = some (beC 20 a) := row_cat hs (i := 0) rfl (by simp [acS, offOf_succ, offOf_zero]) (by simp)
 have y1 : w0.cell? ⟨(w.heap.size + 1), 20, none⟩ = some (.int .i64 n) := cell_cat hs (i := 1) rfl (by simp [acS, offOf_succ, offOf_zero])
 have y2 : w0.row? (w.heap.size + 1) 21 32 = some (beC 32 b) := row_cat hs (i := 2) rfl (by simp [acS, offOf_succ, offOf_zero]) (by simp)
 have y3 : w0.cell? ⟨(w.heap.size + 1), 53, none⟩ = some (.slice a2 d.length c2) := cell_cat hs (i := 3) rfl (by simp [acS, offOf_succ, offOf_zero])
 have y4 : w0.cell? ⟨(w.heap.size + 1), 54, none⟩ = some (.slice s2 0 j2) := cell_cat hs (i := 4) rfl (by simp [acS, offOf_succ, offOf_zero])
 have q1 := run_bytes_string' (P := Tryz.prog) Tryz.underlying26 Tryz.underlying5 Tryz.underlying9 rfl (h1.below hb0)
 have q2 := run_bytes_string' (P := Tryz.prog) Tryz.underlying26 Tryz.underlying5 Tryz.underlying9 rfl (h2.below hb0)
 have HB := Lib.hid hb0
 have HE := Lib.hid e0
 generalize strOf d = S at *
 generalize d.length = m at *
 rw [e0] at x0 x1 x2 x3 x4 y0 y1 y2 y3 y4 q1 q2
 clear hX hY hr hs e0 hb0 h1 h2 lX lY
 go_enter Tryz.func74, Tryz.ntmps74
 go_wp2_with fail
 rw [← HE.out]
 rw [← HE.out] at x0 x1 x2 x3 x4 y0 y1 y2 y3 y4 q1 q2
 go_loopw [5] (fun ix wz => ix = .int .i64 0 ∧ wz = w0) (fun _ _ => 0)
 case atStart => exact ⟨rfl, rfl⟩
 case round =>
  obtain ⟨rfl, rfl⟩ := hrel
  go_wp2
  go_ret
  exact ⟨rfl, HB.out⟩
theorem same_accs0 {w : World} {v1 v2 : Value} {B1 B2 : Nat} {ds1 ds2 : List (RAc × Value × Value)} (ho1 : w.ownsRow B1 35 55 v1 ds1.length (rowsR ds1)) (ho2 : w.ownsRow B2 35 55 v2 ds2.length (rowsR ds2)) (h1 : ∀ p ∈ ds1, EasyR w p) (h2 : ∀ p ∈ ds2, EasyR w p) (hL : fsts ds1 = fsts ds2) (hm9 : ds1.length ≤ 4000000) :
  Calls Tryz.prog 40 #[v1, v2] w fun e w' => e = .returned (.bool true) ∧ Below w.heap.size w w' := by
 have hlen : ds2.length = ds1.length := by have := congrArg List.length hL; simpa [fsts] using this.symm
 rw [hlen] at ho2
 obtain ⟨m, hm⟩ : ∃ m, m = ds1.length := ⟨_, rfl⟩
 rw [← hm] at ho1 ho2 hlen hm9
 have hbn : ((m : Int) != (m : Int)) = false := by simp
 by_cases hz : m = 0
 ·obtain ⟨ad1, c1, rfl⟩ := own_form ho1
  obtain ⟨ad2, c2, rfl⟩ := own_form ho2
  subst hz
  clear h1 h2 hL hlen ho1 ho2 hm
  go_enter Tryz.func40, Tryz.ntmps40
  go_wp2_with fail
  go_loopw [5] (fun ix wz => ix = .int .i64 0 ∧ wz = w) (fun _ _ => 0)
  case atStart => exact ⟨rfl, rfl⟩
  case round =>
   obtain ⟨rfl, rfl⟩ := hrel
   go_wp2
   go_ret
   exact ⟨rfl, Below.refl _ _⟩
 ·obtain ⟨b, c, rfl, _, hc, hcm, hrow, _⟩ := own_words ho1 (by omega)
  obtain ⟨b', c', rfl, _, hc', hcm', hrow', _⟩ := own_words ho2 (by omega)
  have HAT : Hid (∀ q, q < m → ∃ a n bl d a1 a2 k1 k2 s1 s2 j1 j2, w.row? b (q * 55) 55 = some (cat (acS ⟨a, n, bl, d⟩ (.slice a1 d.length k1) (.slice s1 0 j1))) ∧ w.row? b' (q * 55) 55 = some (cat (acS ⟨a, n, bl, d⟩ (.slice a2 d.length k2) (.slice s2 0 j2))) ∧ Ints w .u8 a1 k1 d ∧ Ints w .u8 a2 k2 d) := by
   intro q hq
   have hq1 : q < ds1.length := by omega
   have hq2 : q < ds2.length := by omega
   have e : (ds1[q]'hq1).1 = (ds2[q]'hq2).1 := by
    have := congrArg (fun l => l[q]?) hL
    simpa [fsts, hq1, hq2] using this
   have r1 := World.row?_sub hrow (o' := 0 + q * 55) (n' := 55) (by omega) (by omega)
   have r2 := World.row?_sub hrow' (o' := 0 + q * 55) (n' := 55) (by omega) (by omega)
   rw [Nat.zero_add, Nat.sub_zero, rowsR_at ds1 q hq1] at r1
   rw [Nat.zero_add, Nat.sub_zero, rowsR_at ds2 q hq2] at r2
   obtain ⟨a1, k1, s1, j1, e1, i1, f1⟩ := h1 _ (List.getElem_mem hq1)
   obtain ⟨a2, k2, s2, j2, e2, i2, f2⟩ := h2 _ (List.getElem_mem hq2)
   unfold racC at r1 r2
   rw [e1, f1] at r1
   rw [e2, f2, ← e] at r2
   rw [← e] at i2
   exact ⟨_, _, _, _, a1, a2, k1, k2, s1, s2, j1, j2, r1, r2, i1, i2⟩
  have HLT := Lib.hid (World.row?_lt hrow)
  have HLT' := Lib.hid (World.row?_lt hrow')
  clear h1 h2 hL hrow hrow' hm ho1 ho2 hlen
  go_enter Tryz.func40, Tryz.ntmps40
  go_wp2_with fail
  go_loopw [5] (fun i wr => ∃ q : Nat, q ≤ m ∧ i = .int .i64 q ∧ Below w.heap.size w wr) (fun i _ => m - (intOf i).toNat)
  case atStart => exact ⟨0, by omega, rfl, Below.refl _ _⟩
  case round =>
   obtain ⟨q, hq, rfl, hbw⟩ := hrel
   have HBW := Lib.hid hbw
   clear hbw
   by_cases hlt : q < m
   ·obtain ⟨a, n, bl, d, a1, a2, k1, k2, s1, s2, j1, j2, r1, r2, i1, i2⟩ := HAT.out q hlt
    obtain ⟨X, hX⟩ : ∃ X, X = cat (acS ⟨a, n, bl, d⟩ (.slice a1 d.length k1) (.slice s1 0 j1)) := ⟨_, rfl⟩
    obtain ⟨Y, hY⟩ : ∃ Y, Y = cat (acS ⟨a, n, bl, d⟩ (.slice a2 d.length k2) (.slice s2 0 j2)) := ⟨_, rfl⟩
    have HC := Lib.hid (fun (W : World) (hW : Below w.heap.size w W) => same_acc0 a n bl d a1 a2 s1 s2 k1 k2 j1 j2 W (i1.below hW) (i2.below hW))
    rw [← hX, ← hY] at HC
    rw [← hX] at r1
    rw [← hY] at r2
    have hx : X.length = 55 := by rw [hX]; exact acS_len _ _ _
    have hy : Y.length = 55 := by rw [hY]; exact acS_len _ _ _
    obtain ⟨T, hT⟩ : ∃ T : World → Prop, T = fun W => W.row? b (q * 55) 55 = some X ∧ W.row? b' (q * 55) 55 = some Y := ⟨_, rfl⟩
    have HT := Lib.hid hT
    have HTB : Hid (∀ W, Below w.heap.size w W → T W) := by
     intro W hW
     rw [hT]
     exact ⟨((brow hW).1 _ _ _ HLT.out).trans r1, ((brow hW).1 _ _ _ HLT'.out).trans r2⟩
    have hql : (q : Int) < (m : Int) := by omega
    have dql : decide ((q : Int) < (m : Int)) = true := decide_eq_true hql
    have dqn : (q < m) = True := eq_true hlt
    have t0 : T wr.drew := HTB.out _ HBW.out.drew
    clear hT r1 r2 i1 i2 HAT hX hY
    go_wp2_with fail
    refine wp_region_tree T [] (.pure 0 (.pure 1 (.pure 2 (.take 3 (.pure 4 (.pure 5 (.pure 6 (.take 7 (.alt 8 (.pure 9 .fin) .stop))))))))) (by kernel_rfl) (by kernel_rfl) ?_
    iterate 8
     first
     |refine tree_pure ?_ rfl (by rfl) (fun w' hs => ?_) (fun _ _ _ h => h) ?_
      rotate_left
      ·clear hs
       go_simp
       try rfl
      simp only [Act.put, tsa, tsb, tsc]
     |refine tree_take ?_ t0 rfl (by rfl) (fun w' hs => ?_) (fun _ _ _ h => h) ?_
      rotate_left
      ·rw [HT.out] at hs
       obtain ⟨g1, g2⟩ := hs
       go_simp
       try rfl
      simp only [Act.put, tsa, tsb, tsc]
    refine tree_run rfl (fun K hK => ?_)
    go_simp
    refine (HC.out _ HBW.out.drew).mono ?_
    rintro e w9 ⟨rfl, hb9⟩
    have HB9 : Hid (Below w.heap.size w w9) := HBW.out.drew.trans (hb9.mono HBW.out.drew.size)
    have t9 : T w9 := HTB.out _ HB9.out
    clear hb9
    refine hK.out _ _ t9 ?_
    clear hK K
    refine tree_pure ?_ rfl (by rfl) (fun w' hs => ?_) (fun _ _ _ h => h) ?_
    rotate_left
    ·clear hs
     go_simp
     try rfl
    simp only [Act.put, tsa, tsb, tsc]
    refine tree_fin ?_
    go_wp2_with fail
    have hk1 : IntKind.i64.wrap ((q : Int) + 1) = ((q + 1 : Nat) : Int) := by rw [wrI _ (by omega) (by omega)]; omega
    go_roundw
    case rel => exact ⟨q + 1, by omega, by go_num, HB9.out⟩
    case measure => simp [intOf]; omega
   ·obtain rfl : q = m := by omega
    go_wp2_with fail
    go_ret
    exact ⟨rfl, HBW.out⟩
theorem EasyR.below {w w' : World} {p : RAc × Value × Value} (h : EasyR w p) (hb : Below w.heap.size w w') : EasyR w' p := by
 obtain ⟨a, k, s, j, e1, i1, f1⟩ := h
 exact ⟨a, k, s, j, e1, i1.below hb, f1⟩
theorem cop_easy {w0 w : World} {v : Value} {ds : List (RAc × Value × Value)} (h : CopR w0 w v ds) (hs : ∀ p ∈ ds, p.1.slots = []) : ∀ p ∈ ds, EasyR w p := by
 intro p hp
 obtain ⟨a, k, e1, _, i1⟩ := Ints.of_own' (h.code p hp)
 obtain ⟨s, j, f1⟩ := own_shape (h.slots p hp)
 rw [hs p hp] at f1
 exact ⟨a, k, s, j, e1, i1, f1⟩
def accP (S : St) (p : Nat × Value) : RAc × Value × Value := (⟨acOf p.1 (S p.1), []⟩, p.2, .slice none 0 0)
theorem accs_rows {w0 w : World} {S : St} {v : Value} {cs : List (Nat × Value)} (h : AccsR w0 w S v cs) : w.ownsRow w0.heap.size 35 55 v (cs.map (accP S)).length (rowsR (cs.map (accP S))) ∧ ∀ p ∈ cs.map (accP S), EasyR w p := by
 refine ⟨?_, fun p hp => ?_⟩
 ·rw [List.length_map]
  have : rowsR (cs.map (accP S)) = acsC S cs := by
   unfold rowsR acsC
   rw [List.flatMap_map]; rfl
  rw [this]; exact h.own
 ·obtain ⟨q, hq, rfl⟩ := List.mem_map.1 hp
  obtain ⟨a, k, e1, _, i1⟩ := Ints.of_own' (h.code q hq)
  exact ⟨a, k, none, 0, e1, i1, rfl⟩
end Go.Proofs.YtfflppedbopdpaaGreat
