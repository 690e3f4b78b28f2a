/-
  The program's hash: contracts of permute, take, Sum.
  The program's hash of lists of bytes: the contract of Sum.
-/
import Derived.Test.YtfflppedbopdpaaGreatQKec1
import Derived.Test.YtfflppedbopdpaaGreatQFrm2
import Derived.Test.YtfflppedbopdpaaGreatQNum
set_option linter.unusedVariables false
set_option maxRecDepth 1000000
set_option maxHeartbeats 8000000
set_option linter.unusedSimpArgs false
namespace Go.Proofs.YtfflppedbopdpaaGreat
open Go.RowKit Go.Mun

def permP (L : List Int) (k : Nat) : List Int := (List.range k).foldl (fun L i => roundP L (at64 rcL i)) L
theorem permP_succ (L : List Int) (k : Nat) : permP L (k + 1) = roundP (permP L k) (at64 rcL k) := by
 simp [permP, List.range_succ]

theorem kec_permute (sb : Nat) (L : List Int) (w : World) (hs : Arr w sb 25 (l64 L)) :
  Calls Tryz.prog 54 #[.pointer (some ⟨sb, 0, none⟩)] w fun e w' => e = .returned (.tuple #[]) ∧ Arr w' sb 25 (l64 (permP L 24)) ∧ Only (· = sb) w w' := by
 have HS := Lib.hid hs
 clear hs
 have ok : okL 25 (i64L tL) = true := rfl
 go_enter Tryz.func54, Tryz.ntmps54
 go_wp2_with fail
 refine (kec_turns _).mono ?_
 rintro e w1 ⟨rfl, hb1⟩
 have h1 := HS.out.only (S := fun _ => False) (Only.of_below_size hb1) (by simp)
 have hsz := HS.out.lt
 have o1 : Only (· = sb) w w1 := Only.of_below_size hb1
 generalize hi : i64L tL = T at ok
 have HI := Lib.hid hi
 clear hi
 go_wp2_with fail
 have ht : Arr ((w1.alloc (Obj.cells (zI64 25).toArray 180)).setCells w1.heap.size 0 T) w1.heap.size 25 T :=
  (Arr.new w1 25 (zI64 25) 180 (by simp)).setCells T ok
 have hlt := h1.lt
 have hA : Arr ((w1.alloc (Obj.cells (zI64 25).toArray 180)).setCells w1.heap.size 0 T) sb 25 (l64 L) :=
  (h1.alloc _).of_block (heap_setCells_other _ (by omega) _ _ _)
 have oA : Only (· = sb) w ((w1.alloc (Obj.cells (zI64 25).toArray 180)).setCells w1.heap.size 0 T) :=
  (o1.alloc _).setCells (by intro h; have := hb1.size; omega) _ _
 have hlt2 := hA.lt
 generalize (w1.alloc (Obj.cells (zI64 25).toArray 180)).setCells w1.heap.size 0 T = wa at *
 generalize hr : l64 rcL = R
 refine (kec_consts wa).mono ?_
 rintro e w2 ⟨rfl, hb2⟩
 rw [hr]
 have HR := Lib.hid hr
 clear hr
 have hne : sb ≠ w1.heap.size := by omega
 have h2 := hA.only (S := fun _ => False) (Only.of_below_size hb2) (by simp)
 have t2 := ht.only (S := fun _ => False) (Only.of_below_size hb2) (by simp)
 have o2 : Only (· = sb) w w2 := oA.trans (T := fun _ => False) (Only.of_below_size hb2) (by simp)
 generalize w1.heap.size = tb at *
 have H0 : Hid (sb ≠ tb ∧ Arr w2 tb 25 T ∧ Arr w2 sb 25 (l64 L) ∧ Only (· = sb) w w2) := ⟨hne, t2, h2, o2⟩
 clear hne t2 h2 o2 hlt2 oA hA hlt ht ok o1 hsz h1 hb1 hb2
 go_wp2_with fail
 go_loopw [7] (fun i wr => ∃ k : Nat, k ≤ 24 ∧ i = .int .i64 k ∧ Arr wr tb 25 T ∧ Arr wr sb 25 (l64 (permP L k)) ∧ Only (· = sb) w wr) (fun i _ => 24 - (intOf i).toNat)
 case atStart => exact ⟨0, by omega, rfl, H0.out.2.1, H0.out.2.2.1, H0.out.2.2.2⟩
 case round =>
  obtain ⟨k, hk, rfl, h1, h2, h3⟩ := hrel
  by_cases hlt : k < 24
  ·have hx : R[k]? = some (.int .u64 (at64 rcL k)) := by
    rw [← HR.out]
    simp only [l64, List.getElem?_map, at64]
    rw [List.getElem?_eq_getElem (by rw [rcL_len]; exact hlt)]
    simp [List.getElem?_eq_getElem (show k < rcL.length by rw [rcL_len]; exact hlt)]
   have hx' := run_index_row (P := Tryz.prog) Tryz.underlying182 Tryz.underlying112 (by kernel_rfl) R k hlt hx wr
   have b0 : (k : Int) < 24 := by omega
   have G := Lib.hid (And.intro h1 (And.intro h2 h3))
   clear h1 h2 h3
   go_wp2_with fail
   refine (kec_round sb tb _ _ wr G.out.2.1 (by rw [HI.out]; exact G.out.1) H0.out.1).mono ?_
   rintro e w3 ⟨rfl, h4, h5⟩
   have G2 : Hid (Arr w3 tb 25 T ∧ Arr w3 sb 25 (l64 (permP L (k + 1))) ∧ Only (· = sb) w w3) :=
    ⟨G.out.1.only h5 (fun e => H0.out.1 e.symm), by rw [permP_succ]; exact h4, G.out.2.2.trans h5 (fun _ h _ => h)⟩
   clear h4 h5
   go_wp2
   go_roundw
   case rel => exact ⟨k + 1, by omega, by go_num, G2.out⟩
   case measure => simp [intOf]; omega
  ·obtain rfl : k = 24 := by omega
   have G := Lib.hid (And.intro h2 h3)
   clear h1 h2 h3
   go_wp2
   go_end0
   exact ⟨rfl, G.out⟩

def takeP (L : List Int) (p : Nat) (x : Int) : List Int := L.set (p / 8) (bits .xor .u64 (at64 L (p / 8)) (IntKind.u64.wrap (x * 2 ^ (8 * (p % 8)))))

theorem kec_take (sb : Nat) (L : List Int) (p : Nat) (x : Int) (hp : p < 136) (hx0 : 0 ≤ x) (hx : x < 256) (w : World) (hs : Arr w sb 25 (l64 L)) :
  Calls Tryz.prog 53 #[.pointer (some ⟨sb, 0, none⟩), .int .i64 p, .int .u8 x] w fun e w' => e = .returned (.tuple #[]) ∧ Arr w' sb 25 (l64 (takeP L p x)) ∧ Only (· = sb) w w' := by
 obtain ⟨j, ej⟩ : ∃ j, j = p / 8 := ⟨_, rfl⟩
 obtain ⟨r, er⟩ : ∃ j, j = p % 8 := ⟨_, rfl⟩
 obtain ⟨q, eq⟩ : ∃ j, j = 8 * r := ⟨_, rfl⟩
 have c0 := l64_at hs (show j < 25 by omega)
 have f0 : w.drew.free? sb j 1 = true := hs.free1 (by omega)
 have b0 : (j : Int) < 25 := by omega
 have m1 : (p : Int).tdiv 8 = (j : Int) := by rw [Int.tdiv_eq_ediv_of_nonneg (by omega)]; omega
 have m2 : (p : Int).tmod 8 = (r : Int) := by rw [Int.tmod_eq_emod_of_nonneg (by omega)]; omega
 have m1' : (p : Int) / 8 = (j : Int) := by omega
 have m2' : (p : Int) % 8 = (r : Int) := by omega
 have m3 : IntKind.i64.wrap (8 * (r : Int)) = (q : Int) := by rw [wrI _ (by omega) (by omega)]; omega
 have m4 : IntKind.u64.wrap x = x := wrU _ hx0 (by omega)
 have m5 : ¬ 64 < q := by omega
 have m6 : IntKind.i64.wrap (j : Int) = (j : Int) := wrI _ (by omega) (by omega)
 have m7 : min q 64 = q := by omega
 have HE : Hid (j = p / 8 ∧ q = 8 * (p % 8)) := ⟨ej, by rw [eq, er]⟩
 have HS := Lib.hid hs
 have H25 : Hid (j < 25) := show j < 25 by omega
 have hq64 : (q : Int) ≤ 64 := by omega
 clear hs ej er eq
 go_enter Tryz.func53, Tryz.ntmps53
 go_wp2_with fail
 go_still_tail 15, (by kernel_rfl)
 change wpList _ _ _ _ _ w.drew
 have H2 := Lib.hid HS.out.drew
 have o2 : Hid (Only (· = sb) w w.drew) := (Only.refl _ _).drew
 generalize w.drew = wd at *
 go_wp2
 go_end0
 refine ⟨rfl, ?_, o2.out.setCell (by simp) _⟩
 have := H2.out.set H25.out (.int .u64 (bits .xor .u64 (at64 L j) (IntKind.u64.wrap (x * 2 ^ q))))
 rw [l64_set] at this
 unfold takeP
 rw [← HE.out.1, ← HE.out.2]
 exact this
def feed1 (S : List Int × Nat) (x : Int) : List Int × Nat := if S.2 + 1 = 136 then (permP (takeP S.1 S.2 x) 24, 0) else (takeP S.1 S.2 x, S.2 + 1)
def feed (S : List Int × Nat) (l : List Int) : List Int × Nat := l.foldl feed1 S
def fed0 : List Int × Nat := (List.replicate 25 0, 0)
def endP (S : List Int × Nat) : List Int := permP (takeP (takeP S.1 S.2 1) 135 128) 24
def outB (L : List Int) (i : Nat) : Int := at64 L (i / 8) / 2 ^ (8 * (i % 8)) % 256
def kecL (bs : List Int) : List Int := (List.range 32).map (outB (endP (feed fed0 bs)))
theorem feed_append (S : List Int × Nat) (l m : List Int) : feed S (l ++ m) = feed (feed S l) m := by simp [feed]
theorem feed_take (S : List Int × Nat) (l : List Int) (k : Nat) (h : k < l.length) : feed S (l.take (k + 1)) = feed1 (feed S (l.take k)) (l[k]?.getD 0) := by
 rw [List.take_succ_eq_append_getElem h, feed_append]
 simp [feed, h]
theorem flat_take (bs : List (List Int)) (k : Nat) (h : k < bs.length) : (bs.take (k + 1)).flatten = (bs.take k).flatten ++ bs[k] := by
 rw [List.take_succ_eq_append_getElem h, List.flatten_append]; simp

structure Parts (w : World) (b off : Nat) (bs : List (List Int)) : Prop where
 lt : b < w.heap.size
 cell : ∀ i (h : i < bs.length), ∃ a c, w.cell? ⟨b, off + i, none⟩ = some (.slice a bs[i].length c) ∧ Ints w .u8 a c bs[i]
 byte : ∀ l ∈ bs, ∀ x ∈ l, 0 ≤ x ∧ x < 256

structure SR (w wr : World) (S : List Int × Nat) : Prop where
 below : Below w.heap.size w wr
 s : Arr wr (w.heap.size + 1) 25 (l64 S.1)
 free : wr.free? w.heap.size 0 32 = true
 at_ : S.2 < 136
theorem SR.size {w wr : World} {S : List Int × Nat} (h : SR w wr S) : w.heap.size + 1 < wr.heap.size := h.s.lt
theorem SR.step {w wr w' : World} {S S' : List Int × Nat} (h : SR w wr S) (hs : Arr w' (w.heap.size + 1) 25 (l64 S'.1)) (ho : Only (· = w.heap.size + 1) wr w') (ha : S'.2 < 136) : SR w w' S' :=
 ⟨h.below.trans (ho.below (by have := h.size; omega) (by omega)), hs, by rw [ho.free? (by have := h.size; omega) (by omega)]; exact h.free, ha⟩

structure OR (w wr : World) (ob : Nat) (E : List Int) (k : Nat) : Prop where
 sr : SR w wr (E, 0)
 o : Arr wr ob 32 (u8L (partL 32 (outB E) k))
 lt : w.heap.size + 2 ≤ ob
theorem u8L_set' (L : List Int) (i : Nat) (x : Int) : (u8L L).set i (.int .u8 x) = u8L (L.set i x) := by simp [u8L, List.map_set]
theorem OR.step {w wr : World} {ob : Nat} {E : List Int} {k : Nat} (h : OR w wr ob E k) (hk : k < 32) (x : Int) (hx : x = outB E k) : OR w (wr.setCell ⟨ob, k, none⟩ (.int .u8 x)) ob E (k + 1) := by
 have := h.lt
 refine ⟨⟨h.sr.below.setCell (by simp; omega) _, h.sr.s.setCell_other (by omega) _, by rw [free?_setCell _ (h.o.free1 hk)]; exact h.sr.free, h.sr.at_⟩, ?_, h.lt⟩
 rw [← partL_set 32 (outB E) k x hx, ← u8L_set']
 exact h.o.set hk _

theorem kec_sum (b off n c : Nat) (bs : List (List Int)) (hn : n = bs.length) (hn2 : n ≤ maxLen) (w : World) (hp : Parts w b off bs) :
  Calls Tryz.prog 30 #[.slice (some ⟨b, off, none⟩) n c] w fun e w' => e = .returned (.agg (u8L (kecL bs.flatten)).toArray) ∧ Below w.heap.size w w' := by
 have HP := Lib.hid hp
 have HN := Lib.hid hn
 unfold maxLen at hn2
 clear hp hn
 go_enter Tryz.func30, Tryz.ntmps30
 go_wp2_with fail
 have H0 : Hid (SR w ((w.alloc (.cells (zU8 32).toArray 25)).alloc (.cells (zU64 25).toArray 114)) fed0) := by
  refine ⟨((Below.refl _ _).alloc (Nat.le_refl _) _).alloc (by simp) _, ?_, by simp [go_sem], by decide⟩
  show Arr _ _ _ (l64 (List.replicate 25 0))
  rw [← zU64_l64]
  have := Arr.new (w.alloc (.cells (zU8 32).toArray 25)) 25 (zU64 25) 114 (by simp)
  simpa using this
 go_loopw [4, 13] (fun p i wr => ∃ k : Nat, k ≤ n ∧ i = .int .i64 k ∧ p = .int .i64 ((feed fed0 (bs.take k).flatten).2 : Nat) ∧ SR w wr (feed fed0 (bs.take k).flatten)) (fun _ i _ => n - (intOf i).toNat)
 case atStart => exact ⟨0, by omega, rfl, rfl, H0.out⟩
 case round =>
  clear H0
  obtain ⟨k, hk, rfl, rfl, hr⟩ := hrel
  by_cases hlt : k < n
  ·have hlt' : k < bs.length := by rw [← HN.out]; exact hlt
   obtain ⟨a, c1, h1, h2⟩ := HP.out.cell k hlt'
   have hby := HP.out.byte bs[k] (List.getElem_mem _)
   have HT := Lib.hid (flat_take bs k hlt')
   generalize bs[k] = l at h1 h2 hby HT
   generalize hS0 : feed fed0 (bs.take k).flatten = S0 at hr
   rw [(bcell hr.below).1 _ _ HP.out.lt |>.symm] at h1
   obtain ⟨m, hm⟩ : ∃ m, m = l.length := ⟨_, rfl⟩
   rw [← hm] at h1
   have HM := Lib.hid hm
   have hm2 : m ≤ 9223372036854775807 := by have := h2.len; have := h2.cap; unfold maxLen at this; omega
   have HI := Lib.hid h2
   have HB := Lib.hid hby
   have HS0 := Lib.hid hS0
   have HR := Lib.hid hr
   have b0 : (k : Int) < n := by omega
   clear hS0 hm h2 hby hr
   go_wp2_with fail
   go_loopw [4, 19] (fun p j wr => ∃ i : Nat, i ≤ m ∧ j = .int .i64 i ∧ p = .int .i64 ((feed S0 (l.take i)).2 : Nat) ∧ SR w wr (feed S0 (l.take i))) (fun _ j _ => m - (intOf j).toNat)
   case atStart => exact ⟨0, by omega, rfl, rfl, HR.out⟩
   case round =>
    clear HR h1
    obtain ⟨i, hi, rfl, rfl, hr⟩ := hrel
    by_cases hli : i < m
    ·have hli' : i < l.length := by rw [← HM.out]; exact hli
     obtain ⟨b2, o2, rfl, hb2, hcell⟩ := HI.out.at hli'
     have cx := hcell i hli'
     rw [(bcell hr.below).1 _ _ hb2 |>.symm] at cx
     have hbx := HB.out (l[i]?.getD 0) (by rw [List.getElem?_eq_getElem hli']; exact List.getElem_mem _)
     have HT2 := Lib.hid (feed_take S0 l i hli')
     generalize l[i]?.getD 0 = x at cx hbx HT2
     clear hcell
     obtain ⟨S, hS⟩ : ∃ S, S = feed S0 (l.take i) := ⟨_, rfl⟩
     rw [← hS] at hr HT2 ⊢
     clear hS
     obtain ⟨L, p⟩ := S
     have hp136 : p < 136 := hr.at_
     have hs := hr.s
     have HR := Lib.hid hr
     have b1 : (i : Int) < m := by omega
     clear hr
     simp only at hs ⊢
     by_cases h136 : p + 1 = 136
     ·have e1 : ((p : Int) + 1 == 136) = true := by simp; omega
      have HE : Hid (feed1 (L, p) x = (permP (takeP L p x) 24, 0)) := by unfold Hid feed1; rw [if_pos h136]
      have H136 := Lib.hid h136
      clear h136
      go_wp2_with fail
      refine (kec_take _ L p x hp136 hbx.1 hbx.2 _ hs).mono ?_
      rintro e w3 ⟨rfl, h3, h4⟩
      go_wp2_with fail
      refine (kec_permute _ _ _ h3).mono ?_
      rintro e w4 ⟨rfl, h5, h6⟩
      have HR2 : Hid (SR w w4 (feed S0 (l.take (i + 1)))) := by
       rw [HT2.out, HE.out]
       exact HR.out.step h5 (h4.trans h6 (fun _ h _ => h)) (show 0 < 136 by decide)
      have HZ : Hid ((feed S0 (l.take (i + 1))).2 = 0) := by rw [HT2.out, HE.out]; rfl
      clear h3 h4 h5 h6 hs
      go_wp2
      go_roundw
      case rel => exact ⟨i + 1, by omega, by go_num, by rw [HZ.out]; rfl, HR2.out⟩
      case measure => simp [intOf]; omega
     ·have e1 : ((p : Int) + 1 == 136) = false := by simp; omega
      have HE : Hid (feed1 (L, p) x = (takeP L p x, p + 1)) := by unfold Hid feed1; rw [if_neg h136]
      have H136 := Lib.hid h136
      clear h136
      go_wp2_with fail
      refine (kec_take _ L p x hp136 hbx.1 hbx.2 _ hs).mono ?_
      rintro e w3 ⟨rfl, h3, h4⟩
      have HR2 : Hid (SR w w3 (feed S0 (l.take (i + 1)))) := by
       rw [HT2.out, HE.out]
       exact HR.out.step h3 h4 (by have := H136.out; simp; omega)
      have HZ : Hid ((feed S0 (l.take (i + 1))).2 = p + 1) := by rw [HT2.out, HE.out]; rfl
      clear h3 h4 hs
      go_wp2
      go_roundw
      case rel => exact ⟨i + 1, by omega, by go_num, by rw [HZ.out]; go_num, HR2.out⟩
      case measure => simp [intOf]; omega
    ·obtain rfl : i = m := by omega
     have e2 : Hid (feed fed0 (bs.take (k + 1)).flatten = feed S0 (l.take i)) := by
      unfold Hid
      rw [HT.out, feed_append, HS0.out, List.take_of_length_le (by rw [HM.out]; omega)]
     have HR := Lib.hid hr
     clear hr
     go_wp2
     go_roundw
     case rel => exact ⟨k + 1, by omega, by go_num, by rw [e2.out], by rw [e2.out]; exact HR.out⟩
     case measure => simp [intOf]; omega
  ·obtain rfl : k = n := by omega
   have e2 : bs.take k = bs := List.take_of_length_le (by rw [HN.out]; omega)
   rw [e2] at hr ⊢
   generalize hS : feed fed0 bs.flatten = S at hr ⊢
   have HS := Lib.hid hS
   clear hS e2 hk hlt
   obtain ⟨L, p⟩ := S
   have hp136 : p < 136 := hr.at_
   have hs := hr.s
   have HR := Lib.hid hr
   clear hr
   simp only at hs ⊢
   go_wp2_with fail
   refine (kec_take _ L p 1 hp136 (by decide) (by decide) _ hs).mono ?_
   rintro e w3 ⟨rfl, h3, h4⟩
   go_wp2_with fail
   refine (kec_take _ _ 135 128 (by decide) (by decide) (by decide) _ h3).mono ?_
   rintro e w4 ⟨rfl, h5, h6⟩
   go_wp2_with fail
   refine (kec_permute _ _ _ h5).mono ?_
   rintro e w5 ⟨rfl, h7, h8⟩
   have HR2 : Hid (SR w w5 (endP (L, p), 0)) := HR.out.step h7 ((h4.trans h6 (fun _ h _ => h)).trans h8 (fun _ h _ => h)) (show 0 < 136 by decide)
   have HX : Hid (endP (feed fed0 bs.flatten) = endP (L, p)) := by rw [HS.out]; rfl
   clear h3 h4 h5 h6 h7 h8 hs HR HS
   generalize endP (L, p) = E at HR2 HX
   go_wp2_with fail
   have H0 : Hid (OR w (w5.alloc (.cells (zU8 32).toArray 25)) w5.heap.size E 0) := by
    refine ⟨⟨HR2.out.below.alloc (by have := HR2.out.size; omega) _, HR2.out.s.alloc _, ?_, HR2.out.at_⟩, ?_, HR2.out.size⟩
    ·rw [World.free?_alloc_lt _ (by have := HR2.out.size; omega)]; exact HR2.out.free
    ·rw [partL_zero, u8L_replicate]; exact Arr.new _ _ _ _ (by simp)
   generalize w5.heap.size = ob at *
   go_loopw [37] (fun i wr => ∃ k : Nat, k ≤ 32 ∧ i = .int .i64 k ∧ OR w wr ob E k) (fun i _ => 32 - (intOf i).toNat)
   case atStart => exact ⟨0, by omega, rfl, H0.out⟩
   case round =>
    clear H0 HR2
    obtain ⟨i, hi, rfl, hr⟩ := hrel
    by_cases hli : i < 32
    ·obtain ⟨j, ej⟩ : ∃ j, j = i / 8 := ⟨_, rfl⟩
     obtain ⟨r, er⟩ : ∃ j, j = i % 8 := ⟨_, rfl⟩
     obtain ⟨q, eq⟩ : ∃ j, j = 8 * r := ⟨_, rfl⟩
     have c0 := l64_at hr.sr.s (show j < 25 by omega)
     have f0 := hr.o.free1 hli
     have b0 : (j : Int) < 25 := by omega
     have b1 : (i : Int) < 32 := by omega
     have m1 : (i : Int).tdiv 8 = (j : Int) := by rw [Int.tdiv_eq_ediv_of_nonneg (by omega)]; omega
     have m2 : (i : Int).tmod 8 = (r : Int) := by rw [Int.tmod_eq_emod_of_nonneg (by omega)]; omega
     have m1' : (i : Int) / 8 = (j : Int) := by omega
     have m2' : (i : Int) % 8 = (r : Int) := by omega
     have m3 : IntKind.i64.wrap (8 * (r : Int)) = (q : Int) := by rw [wrI _ (by omega) (by omega)]; omega
     have m3' : 8 * (r : Int) = (q : Int) := by omega
     have m5 : ¬ 64 < q := by omega
     have m7 : min q 64 = q := by omega
     have HE : Hid (j = i / 8 ∧ q = 8 * (i % 8)) := ⟨ej, by rw [eq, er]⟩
     have HR := Lib.hid hr
     clear hr ej er eq
     go_wp2
     go_roundw
     case rel => exact ⟨i + 1, by omega, by go_num, HR.out.step hli _ (by unfold outB; rw [← HE.out.1, ← HE.out.2])⟩
     case measure => simp [intOf]; omega
    ·obtain rfl : i = 32 := by omega
     have e3 : u8L (kecL bs.flatten) = u8L (partL 32 (outB E) 32) := by rw [partL_full, kecL, HX.out]
     have h1 := hr.o.row
     have h2 := hr.sr.free
     have ok : okL 32 (u8L (partL 32 (outB E) 32)) = true := u8L_ok _ _ (partL_len _ _ _)
     have hb := hr.sr.below
     generalize u8L (partL 32 (outB E) 32) = O at h1 ok e3
     have E3 := Lib.hid e3
     clear e3 hr
     go_wp2
     exact ret_row ty25 rfl _ rfl rfl h2 ok ⟨by rw [E3.out], hb.setCells (Nat.le_refl _) _ _⟩
end Go.Proofs.YtfflppedbopdpaaGreat
