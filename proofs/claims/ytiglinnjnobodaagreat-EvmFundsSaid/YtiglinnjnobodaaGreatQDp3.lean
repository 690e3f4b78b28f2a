/-
  Which accounts the two texts tell of one state; the law's accounts, and what its codes come to.
  The law's accounts and its message.
  The reference's machine: what a message comes to.
  The reference's machine: a frame is made.
  The reference's machine: Run's boxes; a frame ahead of its run.
  The machine: a message that can't be: too deep, or more than its sender has.
  The machine: Run of a message that can't be.
  The reference's machine: Run of a message that calls.
-/
import Derived.Test.YtiglinnjnobodaaGreatQTx5
import Derived.Test.YtiglinnjnobodaaGreatQRs18
import Derived.Test.YtiglinnjnobodaaGreatQRf7
import Derived.Test.YtiglinnjnobodaaGreatQEv16
import Derived.Test.YtiglinnjnobodaaGreatQEv9
import Derived.Test.YtiglinnjnobodaaGreatQEv12
set_option linter.unusedVariables false
set_option linter.unusedSimpArgs false
namespace Go.Proofs.YtiglinnjnobodaaGreat
open Go.RowKit Go.Mun

theorem newS_slotsD (l : List Ac) (a k : Nat) : (newS l a).slots k = 0 := by
 have h : ∀ (l : List Ac) (S : St), (∀ a k, (S a).slots k = 0) → ∀ a k, (l.foldl (fun S x => upd S x.addr (accOf x)) S a).slots k = 0 := by
  intro l
  induction l with
  | nil => intro S hS; exact hS
  | cons x l ih =>
   intro S hS
   refine ih _ fun a k => ?_
   show (upd S x.addr (accOf x) a).slots k = 0
   unfold upd
   split
   ·rfl
   ·exact hS a k
 exact h l _ (fun _ _ => rfl) a k
theorem ofW_natD (n : Nat) (h : n < wW) : ofW (n : Int) = n := by
 have e : wW = 115792089237316195423570985008687907853269984665640564039457584007913129639936 := by unfold wW; decide
 unfold ofW; omega
theorem i64_wWD {n : Nat} (h : n ≤ 9223372036854775807) : n < wW := Nat.lt_of_le_of_lt h (by decide)
theorem msgS_okD (m : Msg) (a : Option Addr) (n k : Nat) : okL 129 (cat (msgS m (.slice a n k))) = true := by
 refine okL_cat (msgS_len _ _) fun s hs => ?_
 simp only [msgS, List.mem_cons, List.not_mem_nil, or_false] at hs
 rcases hs with rfl | rfl | rfl | rfl | rfl | rfl | rfl | rfl | rfl | rfl
 all_goals first | rfl | (rw [beC_len]; exact beC_ok _ _)
theorem getA_mem_some {l : List (Nat × Nat)} (hp : (l.map Prod.fst).Pairwise (· < ·)) {q : Nat × Nat} (hq : q ∈ l) : (getA q.1 l) = some q.2 := by
 induction l with
 | nil => cases hq
 | cons x l ih =>
  rw [List.map_cons, List.pairwise_cons] at hp
  rcases List.mem_cons.1 hq with rfl | h
  ·simp [getA]
  ·have h1 := hp.1 q.1 (List.mem_map.2 ⟨q, h, rfl⟩)
   have h2 := ih hp.2 h
   have hne : ¬ x.1 = q.1 := by omega
   simp [getA, hne, h2]
theorem accsX_eq {S : St} {n : Nat} {L : List RAc} {l : List Nat} (h : AccsX S n L) (hl : AccsL S l) (hz : ∀ a k, (S a).slots k = 0) : L = l.map fun a => ⟨acOf a (S a), []⟩ := by
 have h1 : L.map (fun x => x.ac.addr) = l := by
  have hu : (L.map (fun x => x.ac.addr)).Pairwise (· < ·) := h.up
  have n1 : (L.map (fun x => x.ac.addr)).Nodup := hu.imp fun {a b} hlt => by omega
  have n2 : l.Nodup := hl.1.imp fun {a b} hlt => by omega
  refine List.Perm.eq_of_pairwise (le := (· < ·)) ?_ hu hl.1 ((List.perm_ext_iff_of_nodup n1 n2).2 fun a => ?_)
  ·intro a b _ _ h1 h2; omega
  ·rw [hl.2 a]
   constructor
   ·intro ha
    obtain ⟨x, hx, rfl⟩ := List.mem_map.1 ha
    exact ⟨(h.well x hx).1.addr, (h.acc x hx).2⟩
   ·rintro ⟨_, h2⟩
    obtain ⟨x, hx, e⟩ := h.all a h2
    exact List.mem_map.2 ⟨x, hx, e⟩
 have h2 : ∀ x ∈ L, x = ⟨acOf x.ac.addr (S x.ac.addr), []⟩ := by
  intro x hx
  have e1 := (h.acc x hx).1
  have hw := h.well x hx
  have hs : x.slots = [] := by
   cases hsl : x.slots with
   | nil => rfl
   | cons q r =>
    exfalso
    have hm : q ∈ x.slots := by rw [hsl]; exact List.mem_cons_self
    have e2 := getA_mem_some hw.2.2.1 hm
    have e3 : x.acc.slots q.1 = q.2 := by unfold RAc.acc; simp [e2]
    rw [e1, hz] at e3
    exact hw.2.2.2 q hm e3.symm
  obtain ⟨⟨a, nn, b, cd⟩, sl⟩ := x
  simp only at hs
  subst hs
  have hn := hw.1.nonce.1
  simp only at e1 hn
  show (⟨⟨a, nn, b, cd⟩, []⟩ : RAc) = ⟨acOf a (S a), []⟩
  rw [← e1]
  unfold acOf RAc.acc
  simp only [RAc.mk.injEq, Ac.mk.injEq, and_true, true_and]
  omega
 rw [← h1, List.map_map]
 conv => lhs; rw [← List.map_id L]
 exact List.map_congr_left h2
theorem accsX_fsts {S : St} {cs : List (Nat × Value)} : fsts (cs.map (accP S)) = (cs.map Prod.fst).map fun a => ⟨acOf a (S a), []⟩ := by
 unfold fsts
 rw [List.map_map, List.map_map]
 rfl
def twoL (a b : Bts) : List Ac := [⟨1, 0, 1000, a⟩, ⟨2, 1, 1000, b⟩, ⟨3, 0, 1000, []⟩]
def askM (v : Nat) (d : Int) : Msg := ⟨0, 3, 1, 0, v, 0, [], 20000, d, false⟩
theorem askM_ok (v : Nat) (d : Int) (hv : v < wW) (hd : 0 ≤ d ∧ d ≤ 1000) : MsgOk (askM v d) :=
 ⟨by show 3 < wA; decide, by show 1 < wA; decide, by show 0 < wA; decide, hv, by show 0 < wW; decide, ⟨by show _ ≤ (20000 : Int); decide, by show (20000 : Int) ≤ _; decide⟩, ⟨by show _ ≤ d; omega, by show d ≤ _; omega⟩⟩
theorem twoL_3 (a b : Bts) : newS (twoL a b) 3 = ⟨0, 1000, [], fun _ => 0⟩ := by rfl
theorem twoL_1 (a b : Bts) : newS (twoL a b) 1 = ⟨0, 1000, a, fun _ => 0⟩ := by rfl
def movQ (a b : Bts) (v : Nat) : St := ((newS (twoL a b)).setBal 3 (1000 - v)).setBal 1 (1000 + v)
theorem moveT (a b : Bts) (v : Nat) (hv : v ≤ 1000) : (newS (twoL a b)).move 3 1 v = some (movQ a b v) := by
 have e : wW = 115792089237316195423570985008687907853269984665640564039457584007913129639936 := by unfold wW; decide
 unfold St.move
 rw [twoL_3, twoL_1]
 rw [if_neg (by show ¬ 1000 < v; omega), if_neg (by decide), if_neg (by show ¬ wW ≤ 1000 + v; omega)]
 rfl
theorem setBal_slots {S : St} (h : ∀ a k, (S a).slots k = 0) (x n : Nat) : ∀ a k, ((S.setBal x n) a).slots k = 0 := by
 intro a k
 unfold St.setBal upd
 split
 ·exact h x k
 ·exact h a k
theorem movQ_slots (a b : Bts) (v : Nat) : ∀ x k, (movQ a b v x).slots k = 0 := setBal_slots (setBal_slots (newS_slotsD _) _ _) _ _
theorem loopP0 (v : Nat) (d : Int) (S : St) : ∃ f', loopR stepP 10 (frame0 (askM v d) []) S = some (0, f', S) ∧ f'.gas = 20000 ∧ f'.out = [] ∧ f'.logs = [] := ⟨_, rfl, rfl, rfl, rfl⟩
theorem loopX0 (v : Nat) (d : Int) (S : St) : ∃ f', loopX (rstepR prE doE) 10 (frame0 (askM v d) []) S = some (0, f', S) ∧ f'.gas = 20000 ∧ f'.out = [] := ⟨_, rfl, rfl, rfl⟩
theorem build81n (a b : Nat) (p : Option Addr) (k c : Nat) (x : Int) : fillL 55 (plOf zs81) (cat zs81) [(0, .agg (beC 20 a).toArray), (2, .agg (beC 32 b).toArray), (3, .slice p k c), (1, .int .i64 x)] = some (cat (acS ⟨a, x, b, []⟩ (.slice p k c) (.slice none 0 0))) := by
 rw [fillL_cats _ _ _ zs81_len]
 ·rfl
 ·rw [lens81]
  refine fits_cons ?_ (fits_cons ?_ (fits_cons rfl (fits_cons rfl (fits_nil _))))
  ·show some 20 = some (beC 20 a).length; rw [beC_len]
  ·show some 32 = some (beC 32 b).length; rw [beC_len]
set_option maxRecDepth 1000000 in
theorem sl31_3 : SliceLit Tryz.prog 31 35 55 3 (cat [cat zs81, cat zs81, cat zs81]) := ⟨Tryz.underlying31, ⟨_, .agg (cat zs81).toArray, rfl, by kernel_rfl, by kernel_rfl, by kernel_rfl⟩, by decide, by kernel_rfl, by decide⟩
def fill31_3 (p : List (Nat × Value)) : Option (List Value) := fillL (3 * 55) ((List.range 3).map fun i => (i * 55, 55)) (cat [cat zs81, cat zs81, cat zs81]) p
theorem bs31_3 (ρ : Operand → Value) (dst : Option Tmp) (x y z : Operand) (t : TypeId) (pos : String) (after : Array Edge) (gd : Option (Nat × Bool)) (w : World) :
  (execOp ρ ⟨dst, .buildSlice 31 3 #[(0, x), (1, y), (2, z)], t, pos, after, gd⟩).run Tryz.prog w = asNext (bsRow Tryz.prog 31 35 3 [(0, ρ x), (1, ρ y), (2, ρ z)] w (fill31_3 [(0, ρ x), (1, ρ y), (2, ρ z)])) :=
 ex_bslice ρ dst t pos after gd w sl31_3 [(0, x), (1, y), (2, z)]
theorem fill31_three (a b c : List Value) (ha : a.length = 55) (hb : b.length = 55) (hc : c.length = 55) : fill31_3 [(0, .agg a.toArray), (1, .agg b.toArray), (2, .agg c.toArray)] = some (cat [a, b, c]) := by
 unfold fill31_3
 have h1 : lens [cat zs81, cat zs81, cat zs81] = [55, 55, 55] := by kernel_rfl
 have h3 : plOf [cat zs81, cat zs81, cat zs81] = (List.range 3).map fun i => (i * 55, 55) := by kernel_rfl
 rw [← h3, fillL_cats _ _ _ (by kernel_rfl)]
 ·rfl
 ·rw [h1]
  refine fits_cons ?_ (fits_cons ?_ (fits_cons ?_ (fits_nil _)))
  ·show some 55 = some a.length; rw [ha]
  ·show some 55 = some b.length; rw [hb]
  ·show some 55 = some c.length; rw [hc]
attribute [go_sem ↓] bs31_3
set_option maxRecDepth 100000 in
set_option maxHeartbeats 1000000 in
theorem law_two {w : World} {av bv : Value} {a b : Bts} (ha : RoAt w (fun _ => False) av a) (hbx : RoAt w (fun _ => False) bv b) :
  Calls Tryz.prog 28 #[av, bv] w fun e w' => ∃ g, e = .returned (.slice (some ⟨g, 0, none⟩) 3 3) ∧ Below w.heap.size w w' ∧ ∀ i (hi : i < (twoL a b).length), AcAt w' g (0 + i * 55) (twoL a b)[i] := by
 obtain ⟨⟨ca, cc, rfl, hci, hcx⟩, hcb, hcl⟩ := ha
 obtain ⟨⟨da, dc, rfl, hdi, hdx⟩, hdb, hdl⟩ := hbx
 have HC : Hid (RoAt w (fun _ => False) (.slice ca a.length cc) a) := ⟨⟨ca, cc, rfl, hci, hcx⟩, hcb, hcl⟩
 have HD : Hid (RoAt w (fun _ => False) (.slice da b.length dc) b) := ⟨⟨da, dc, rfl, hdi, hdx⟩, hdb, hdl⟩
 have o1 : ofW 1000 = 1000 := by kernel_rfl
 have N1 := Lib.hid (fun w => ref_name 1 (by decide) w)
 have N2 := Lib.hid (fun w => ref_name 2 (by decide) w)
 have N3 := Lib.hid (fun w => ref_name 3 (by decide) w)
 have O1 := Lib.hid (fun w => ref_of 1000 (by decide) (by decide) w)
 rw [o1] at O1
 have b1 := build81a 1 1000 ca a.length cc
 have b2 := build81n 2 1000 da b.length dc 1
 have b3 := build81b 3 1000
 obtain ⟨X, hX⟩ : ∃ X, X = cat (acS ⟨1, 0, 1000, []⟩ (.slice ca a.length cc) (.slice none 0 0)) := ⟨_, rfl⟩
 obtain ⟨Y, hY⟩ : ∃ Y, Y = cat (acS ⟨2, 1, 1000, []⟩ (.slice da b.length dc) (.slice none 0 0)) := ⟨_, rfl⟩
 obtain ⟨Z, hZ⟩ : ∃ Z, Z = cat (acS ⟨3, 0, 1000, []⟩ (.slice none 0 0) (.slice none 0 0)) := ⟨_, rfl⟩
 have lX : X.length = 55 := by rw [hX]; exact acS_len _ _ _
 have lY : Y.length = 55 := by rw [hY]; exact acS_len _ _ _
 have lZ : Z.length = 55 := by rw [hZ]; exact acS_len _ _ _
 have bf := fill31_three X Y Z lX lY lZ
 rw [← hX] at b1
 rw [← hY] at b2
 rw [← hZ] at b3
 have HX := Lib.hid hX
 have HY := Lib.hid hY
 have HZ := Lib.hid hZ
 clear hci hcx hcb hcl hdi hdx hdb hdl o1 hX hY hZ
 go_enter Tryz.func28, Tryz.ntmps28
 go_wp2_with fail
 refine (N1.out _).mono ?_
 rintro e w1 ⟨rfl, h1⟩
 have B1 := Lib.hid h1
 clear h1
 go_wp2_with fail
 refine (O1.out _).mono ?_
 rintro e w2 ⟨rfl, h2⟩
 have B2 : Hid (Below w.heap.size w w2) := B1.out.trans (h2.mono B1.out.size)
 clear h2
 go_wp2_with fail
 refine (N2.out _).mono ?_
 rintro e w3 ⟨rfl, h3⟩
 have B3 : Hid (Below w.heap.size w w3) := B2.out.trans (h3.mono B2.out.size)
 clear h3
 go_wp2_with fail
 refine (O1.out _).mono ?_
 rintro e w4 ⟨rfl, h4⟩
 have B4 : Hid (Below w.heap.size w w4) := B3.out.trans (h4.mono B3.out.size)
 clear h4
 go_wp2_with fail
 refine (N3.out _).mono ?_
 rintro e w5 ⟨rfl, h5⟩
 have B5 : Hid (Below w.heap.size w w5) := B4.out.trans (h5.mono B4.out.size)
 clear h5
 go_wp2_with fail
 refine (O1.out _).mono ?_
 rintro e w6 ⟨rfl, h6⟩
 have B6 : Hid (Below w.heap.size w w6) := B5.out.trans (h6.mono B5.out.size)
 clear h6
 go_wp2
 go_ret
 refine ⟨_, rfl, B6.out.alloc B6.out.size _, fun i hi => ?_⟩
 have r := World.row?_alloc_at (w := w6) (cat [X, Y, Z]) 35 (0, 0) rfl (n := 165) (by rw [cat_len_cons, cat_len_cons, cat_len_cons, lX, lY, lZ]; rfl)
 have hb2 := B6.out.alloc B6.out.size (.cells (cat [X, Y, Z]).toArray 35)
 match i, hi with
 | 0, _ => exact ⟨⟨_, by rw [row_cat r (i := 0) rfl (by simp [offOf_zero]) lX.symm, HX.out]; rfl, HC.out.below hb2⟩, by show 1 < wA; decide, by show 1000 < wW; decide, by show (0 : Int) ≤ _; decide⟩
 | 1, _ => exact ⟨⟨_, by rw [row_cat r (i := 1) rfl (by simp [offOf_succ, offOf_zero, lX]) lY.symm, HY.out]; rfl, HD.out.below hb2⟩, by show 2 < wA; decide, by show 1000 < wW; decide, by show (1 : Int) ≤ _; decide⟩
 | 2, _ => exact ⟨⟨_, by rw [row_cat r (i := 2) rfl (by simp [offOf_succ, offOf_zero, lX, lY]) lZ.symm, HZ.out]; rfl, roAt_nil _ _⟩, by show 3 < wA; decide, by show 1000 < wW; decide, by show (0 : Int) ≤ _; decide⟩
 | i + 3, hi => exact absurd hi (by simp [twoL])
theorem build62a (g : Int) : fillL 129 (plOf zs42) (cat zs42) [(1, .agg (beC 20 3).toArray), (2, .agg (beC 20 1).toArray), (7, .int .i64 g)] = some (cat (msgS ⟨0, 3, 1, 0, 0, 0, [], g, 0, false⟩ (.slice none 0 0))) := by
 rw [fillL_cats _ _ _ zs42_len]
 ·rfl
 ·rw [lens42]
  refine fits_cons ?_ (fits_cons ?_ (fits_cons rfl (fits_nil _)))
  ·show some 20 = some (beC 20 3).length; rw [beC_len]
  ·show some 20 = some (beC 20 1).length; rw [beC_len]
set_option maxRecDepth 100000 in
set_option maxHeartbeats 1000000 in
theorem law_ask (g : Int) (w : World) : Calls Tryz.prog 26 #[.int .i64 g] w fun e w' => e = .returned (.agg (cat (msgS ⟨0, 3, 1, 0, 0, 0, [], g, 0, false⟩ (.slice none 0 0))).toArray) ∧ Below w.heap.size w w' := by
 have N1 := Lib.hid (fun w => ref_name 1 (by decide) w)
 have N3 := Lib.hid (fun w => ref_name 3 (by decide) w)
 have hbld := build62a g
 have hok := msgS_okD ⟨0, 3, 1, 0, 0, 0, [], g, 0, false⟩ none 0 0
 have hl := msgS_len ⟨0, 3, 1, 0, 0, 0, [], g, 0, false⟩ (.slice none 0 0)
 obtain ⟨C, hC⟩ : ∃ C, C = cat (msgS ⟨0, 3, 1, 0, 0, 0, [], g, 0, false⟩ (.slice none 0 0)) := ⟨_, rfl⟩
 rw [← hC] at hbld hok hl ⊢
 have HC := Lib.hid hC
 have hz : (cat zs42).length = 129 := zs42_len
 have hf : (w.alloc (.cells (cat zs42).toArray 62)).free? w.heap.size 0 129 = true := World.free?_alloc_at _ _ rfl (by rw [hz]; omega)
 have hb0 : Below w.heap.size w (w.alloc (.cells (cat zs42).toArray 62)) := (Below.refl _ _).alloc (Nat.le_refl _) _
 have HF := Lib.hid hf
 have HB0 := Lib.hid hb0
 clear hC hf hb0 hz
 go_enter Tryz.func26, Tryz.ntmps26
 go_wp2_with fail
 refine (N3.out _).mono ?_
 rintro e w1 ⟨rfl, h1⟩
 have f1 : Hid (w1.free? w.heap.size 0 129 = true) := ((brow h1).2 _ _ _ (free?_lt HF.out)).trans HF.out
 have B1 : Hid (Below w.heap.size w w1) := HB0.out.trans (h1.mono HB0.out.size)
 clear h1
 go_wp2_with fail
 refine (N1.out _).mono ?_
 rintro e w2 ⟨rfl, h2⟩
 have f2 := ((brow h2).2 _ _ _ (free?_lt f1.out)).trans f1.out
 have B2 : Hid (Below w.heap.size w w2) := B1.out.trans (h2.mono B1.out.size)
 clear h2
 go_wp2
 exact ret_row ty42 rfl _ rfl rfl f2 hok ⟨rfl, B2.out.setCells (Nat.le_refl _) _ _⟩
theorem build46f (g e : Int) : fillL 24 (plOf zs46) (cat zs46) [(0, .int .i64 g), (1, .int .i64 e)] = some (cat (outS ⟨g, e, [], [], 0⟩ (.slice none 0 0) (.slice none 0 0))) := by
 rw [fillL_cats _ _ _ zs46_len]
 ·rfl
 ·rw [lens46]
  exact fits_cons rfl (fits_cons rfl (fits_nil _))
theorem build46o (g : Int) (a b : Option Addr) (k kc j jc : Nat) :
  fillL 24 (plOf zs46) (cat zs46) [(0, .int .i64 g), (2, .slice a k kc), (3, .slice b j jc)] = some (cat (outS ⟨g, 0, [], [], 0⟩ (.slice a k kc) (.slice b j jc))) := by
 rw [fillL_cats _ _ _ zs46_len]
 ·rfl
 ·rw [lens46]
  exact fits_cons rfl (fits_cons rfl (fits_cons rfl (fits_nil _)))
theorem box46 (w : World) : (w.alloc (.cells (cat zs46).toArray 65)).free? w.heap.size 0 24 = true := World.free?_alloc_at _ _ rfl (by rw [zs46_len]; omega)
set_option maxRecDepth 100000 in
theorem ref_failed (g x : Int) (w : World) : Calls Tryz.prog 104 #[.int .i64 g, .int .i64 x] w fun e w' => e = .returned (.agg (cat (outS ⟨g, x, [], [], 0⟩ (.slice none 0 0) (.slice none 0 0))).toArray) ∧ Below w.heap.size w w' := by
 have hf := box46 w
 have hbld := build46f g x
 have hok := outS_ok ⟨g, x, [], [], 0⟩ none none 0 0 0 0
 go_enter Tryz.func104, Tryz.ntmps104
 go_wp2
 exact ret_row ty46 rfl _ rfl rfl hf hok ⟨rfl, ((Below.refl _ _).alloc (Nat.le_refl _) _).setCells (Nat.le_refl _) _ _⟩
set_option maxRecDepth 100000 in
set_option maxHeartbeats 2000000 in
theorem r_outcome {E : REnv} {w : World} {own : Go.Mun.Own} {c : RFV} {f : Fr} {S : St} {M : List (Nat × St)} {n : Nat} (x : Int) (h : RFrOk E w own c f S M n) :
  Calls Tryz.prog 110 #[.pointer (some ⟨E.fb, 0, none⟩), .int .i64 0, .int .i64 x] w fun e w' => e = .returned (.agg (cat (outS ⟨f.gas, 0, [], [], 0⟩ c.out (.slice none 0 0))).toArray) ∧ Below w.heap.size w w' := by
 have hlv := h.logs.2
 obtain ⟨⟨oa, oc, hov, _, _⟩, _, _⟩ := h.out
 have c228 := rf_gas h.row
 have c233 := rf_out h.row
 have c234 := rf_lv h.row
 rw [hov] at c233
 rw [hlv] at c234
 have hlt := h.lt
 have hf := box46 w
 have hbld := build46o f.gas oa none f.out.length oc 0 0
 have hok := outS_ok ⟨f.gas, 0, [], [], 0⟩ oa none f.out.length oc 0 0
 rw [hov]
 obtain ⟨W, hW⟩ : ∃ W, W = w.alloc (.cells (cat zs46).toArray 65) := ⟨_, rfl⟩
 have q228 : W.drew.cell? ⟨E.fb, 228, none⟩ = some (.int .i64 f.gas) := by rw [hW]; exact (World.cell?_alloc_past _ _ _ hlt).trans c228
 have q233 : W.drew.cell? ⟨E.fb, 233, none⟩ = some (.slice oa f.out.length oc) := by rw [hW]; exact (World.cell?_alloc_past _ _ _ hlt).trans c233
 have q234 : W.drew.cell? ⟨E.fb, 234, none⟩ = some (.slice none 0 0) := by rw [hW]; exact (World.cell?_alloc_past _ _ _ hlt).trans c234
 have hfd : W.drew.free? w.heap.size 0 24 = true := by rw [hW]; exact hf
 have HB : Hid (Below w.heap.size w W.drew) := by rw [hW]; exact ((Below.refl _ _).alloc (Nat.le_refl _) _).drew
 have HW := Lib.hid hW
 clear h hlv hov c228 c233 c234 hlt hf hW
 go_enter Tryz.func110, Tryz.ntmps110
 go_wp2_with fail
 rw [← HW.out]
 go_still_tail 13, (by kernel_rfl)
 go_wp2
 exact ret_row ty46 rfl _ rfl rfl hfd hok ⟨rfl, HB.out.setCells (Nat.le_refl _) _ _⟩
def tl0 : List Value := infsC (List.replicate 256 infZ)
theorem tl0_len : tl0.length = 1280 := by unfold tl0; rw [infsC_len, List.length_replicate]
def zs189 : List (List Value) := [[.pointer none], cat zs42, cat zs49, beC 20 0, [.slice none 0 0], [.slice none 0 0], beC 32 0, [.bool false], [.int .i64 0], [.int .i64 0], [.slice none 0 0], [.slice none 0 0], [.slice none 0 0], [.slice none 0 0], [.slice none 0 0], [.bool false], tl0]
theorem lens189 : lens zs189 = [1, 129, 43, 20, 1, 1, 32, 1, 1, 1, 1, 1, 1, 1, 1, 1, 1280] := by kernel_rfl
theorem zs189_len : (cat zs189).length = 1516 := by kernel_rfl
set_option maxRecDepth 1000000 in
theorem sty189 : StructTy Tryz.prog 189 1516 (cat zs189) (plOf zs189) := ⟨⟨_, _, rfl, Tryz.underlying189, by kernel_rfl, by kernel_rfl⟩, zs189_len⟩
theorem bl189 (ρ : Operand → Value) (dst : Option Tmp) (parts : List (Nat × Operand)) (t : TypeId) (pos : String) (after : Array Edge) (gd : Option (Nat × Bool)) (w : World) : (execOp ρ ⟨dst, .build 189 parts.toArray, t, pos, after, gd⟩).run Tryz.prog w = asNext (blRow Tryz.prog 189 (parts.map fun p => (p.1, ρ p.2)) w (fillL 1516 (plOf zs189) (cat zs189) (parts.map fun p => (p.1, ρ p.2)))) := ex_build ρ dst t pos after gd w sty189 parts
theorem build189 (sb : Nat) (m : Msg) (dv : Value) (cx : Ctx) (a v : Nat) (d : Option Addr) (k kc : Nat) (s : Bool) (g : Int) :
  fillL 1516 (plOf zs189) (cat zs189) [(0, .pointer (some ⟨sb, 0, none⟩)), (1, .agg (cat (msgS m dv)).toArray), (2, .agg (cat (ctxS cx)).toArray), (3, .agg (beC 20 a).toArray), (5, .slice d k kc), (6, .agg (beC 32 v).toArray), (7, .bool s), (8, .int .i64 g)] =
   some (cat [[.pointer (some ⟨sb, 0, none⟩)], cat (msgS m dv), cat (ctxS cx), beC 20 a, [.slice none 0 0], [.slice d k kc], beC 32 v, [.bool s], [.int .i64 g], [.int .i64 0], [.slice none 0 0], [.slice none 0 0], [.slice none 0 0], [.slice none 0 0], [.slice none 0 0], [.bool false], tl0]) := by
 rw [fillL_cats _ _ _ zs189_len]
 ·rfl
 ·rw [lens189]
  refine fits_cons rfl (fits_cons ?_ (fits_cons ?_ (fits_cons ?_ (fits_cons rfl (fits_cons ?_ (fits_cons rfl (fits_cons rfl (fits_nil _))))))))
  ·show some 129 = some (cat (msgS m dv)).length; rw [msgS_len]
  ·show some 43 = some (cat (ctxS cx)).length; rw [ctxS_len]
  ·show some 20 = some (beC 20 a).length; rw [beC_len]
  ·show some 32 = some (beC 32 v).length; rw [beC_len]
attribute [go_sem ↓] bl189
theorem not_hot {own : Go.Mun.Own} {i : Nat} (h : own i = none) : ¬ hot own i := fun h2 => h2.1 h
structure RunB (w : World) (own0 : Go.Mun.Own) (m : Msg) (dv : Value) (cx : Ctx) (W : World) (own : Go.Mun.Own) (sb : Nat) (S : St) (M : List (Nat × St)) (n : Nat) : Prop where
 t4 : W.row? w.heap.size 0 129 = some (cat (msgS m dv))
 t5 : W.row? (w.heap.size + 1) 0 43 = some (cat (ctxS cx))
 t6 : W.free? (w.heap.size + 1 + 1) 0 24 = true
 o4 : own w.heap.size = none
 o5 : own (w.heap.size + 1) = none
 o6 : own (w.heap.size + 1 + 1) = none
 st : RState W own sb S M n
 chg : ChgR w W own0 own
section
variable {w W W' : World} {own0 own own' : Go.Mun.Own} {m : Msg} {dv : Value} {cx : Ctx} {sb n n' : Nat} {S S' : St} {M M' : List (Nat × St)}
theorem RunB.go (h : RunB w own0 m dv cx W own sb S M n) (st : RState W' own' sb S' M' n') (c : ChgR W W' own own') : RunB w own0 m dv cx W' own' sb S' M' n' :=
 ⟨(c.only.row? (World.row?_lt h.t4) (not_hot h.o4)).trans h.t4, (c.only.row? (World.row?_lt h.t5) (not_hot h.o5)).trans h.t5, (c.only.free? (free?_lt h.t6) (not_hot h.o6)).trans h.t6,
  (c.ext _ (World.row?_lt h.t4)).trans h.o4, (c.ext _ (World.row?_lt h.t5)).trans h.o5, (c.ext _ (free?_lt h.t6)).trans h.o6, st, h.chg.trans c⟩
theorem RunB.below (h : RunB w own0 m dv cx W own sb S M n) (hb : Below W.heap.size W W') : RunB w own0 m dv cx W' own sb S M n := h.go (h.st.below hb) (ChgR.below own hb)
theorem RunB.box (h : RunB w own0 m dv cx W own sb S M n) {b : Nat} (hb : w.heap.size + 1 + 1 < b) (ho : own b = none) (h1 : Only (· = b) W W') : RunB w own0 m dv cx W' own sb S M n :=
 ⟨(h1.row? (World.row?_lt h.t4) (by omega)).trans h.t4, (h1.row? (World.row?_lt h.t5) (by omega)).trans h.t5, (h1.free? (free?_lt h.t6) (by omega)).trans h.t6,
  h.o4, h.o5, h.o6, h.st.only h1 (fun c hc => by have e : c = b := hc; rw [e]; exact ho), ⟨h.chg.ext, h.chg.only.trans h1 (fun i hi he => by have : i = b := hi; omega)⟩⟩
theorem RunB.start (h : RState w own sb S M n) : RunB w own m dv cx (((w.alloc (.cells (cat (msgS m dv)).toArray 62)).alloc (.cells (cat (ctxS cx)).toArray 51)).alloc (.cells (cat zs46).toArray 65)) own sb S M n := by
 have hb : Below w.heap.size w (((w.alloc (.cells (cat (msgS m dv)).toArray 62)).alloc (.cells (cat (ctxS cx)).toArray 51)).alloc (.cells (cat zs46).toArray 65)) := (((Below.refl _ _).alloc (Nat.le_refl _) _).alloc (by simp) _).alloc (by simp; omega) _
 refine ⟨?_, ?_, ?_, own_new h (Nat.le_refl _), own_new h (by omega), own_new h (by omega), h.below hb, ChgR.below own hb⟩
 ·rw [World.row?_alloc_lt _ (by simp; omega), World.row?_alloc_lt _ (by simp)]; exact World.row?_alloc_at _ _ _ rfl (msgS_len m dv)
 ·rw [World.row?_alloc_lt _ (by simp)]; exact World.row?_alloc_at _ _ _ (by simp) (ctxS_len cx)
 ·exact World.free?_alloc_at _ _ (by simp) (by rw [zs46_len]; omega)
end
structure FrB (E : REnv) (c : RFV) (f : Fr) (W : World) (own : Go.Mun.Own) : Prop where
 row : W.row? E.fb 0 1516 = some (cat (rfS E c f))
 free : W.free? E.fb 0 1516 = true
 fown : own E.fb = none
 base : E.w0.heap.size ≤ E.fb
 chg : ChgR E.w0 W E.own0 own
section
variable {E : REnv} {c : RFV} {f : Fr} {W W' : World} {own own' : Go.Mun.Own}
theorem FrB.lt (h : FrB E c f W own) : E.fb < W.heap.size := World.row?_lt h.row
theorem FrB.go (h : FrB E c f W own) (g : ChgR W W' own own') : FrB E c f W' own' :=
 ⟨(g.only.row? h.lt (not_hot h.fown)).trans h.row, (g.only.free? h.lt (not_hot h.fown)).trans h.free, (g.ext _ h.lt).trans h.fown, h.base, h.chg.trans g⟩
theorem FrB.code (h : FrB E c f W own) (v : Value) : FrB E { c with code := v } f (W.setCell ⟨E.fb, 193, none⟩ v) own := by
 have ho := only_cell W E.fb 193 v
 refine ⟨rfset_code v h.row, by rw [free?_setCell _ (World.free?_sub h.free (by omega))]; exact h.free, h.fown, h.base, ⟨h.chg.ext, h.chg.only.trans ho (fun i hi he => by have : i = E.fb := hi; have := h.base; omega)⟩⟩
end
def rfv0 (cv dv : Value) : RFV := ⟨cv, dv, .slice none 0 0, .slice none 0 0, .slice none 0 0, .slice none 0 0, .slice none 0 0, .nilFunc, tl0⟩
theorem rfr_start {E : REnv} {cv dv : Value} {m : Msg} {code : Bts} {W w : World} {own own00 : Go.Mun.Own} {S : St} {M T : List (Nat × St)} {n : Nat} (h : FrB E (rfv0 cv dv) (frame0 m code) W own) (hst : RState W own E.sb S M n) (hc : CodeAt W own cv code)
  (hd : RoAt w (hot own00) dv m.data) (hw : ChgR w W own00 own) (hfb : w.heap.size ≤ E.fb) (hm : MsgOk m) (hM : M = E.M0 ++ T) (hcnt : n + m.gas.toNat ≤ E.N) (hlim : E.N ≤ 999000) : RFrOk E W own (rfv0 cv dv) (frame0 m code) S M n := by
 have hrm : ∀ b, rmu own E.fb (rfv0 cv dv) b → hot own b ∨ b = E.fb := by
  rintro b (h1 | h1 | h1 | h1)
  ·exact .inl h1
  ·exact .inr h1
  ·cases h1
  ·cases h1
 refine { row := h.row, free := h.free, tlen := tl0_len, base := h.base, fown := h.fown, chg := h.chg, mok := hm, stk := World.ownsRow_nil _ _ _ _, sown := fun g hg => (by cases hg), sval := fun x hx => (by cases hx), slen := Nat.zero_le _, mem := World.ownsRow_nil _ _ _ _, mown := fun g hg => (by cases hg),
          mbyte := fun x hx => (by cases hx), mlen := ⟨Nat.zero_le _, rfl⟩, logs := ⟨rfl, rfl⟩, code := ?_, data := ?_, out := roAt_nil _ _, told := roAt_nil _ _, jmp := fun hj => absurd rfl hj, st := hst, ms := ⟨T, hM⟩, cnt := hcnt, lim := hlim, nxt := Nat.zero_le _ }
 ·obtain ⟨⟨a, k, h1, h2, h3⟩, hb, hl⟩ := hc
  refine ⟨⟨a, k, h1, h2, fun hn p hp hx => ?_⟩, hb, hl⟩
  have hlab := h3 hn p hp
  rcases hrm _ hx with h4 | h4
  ·exact h4.2.1 hlab
  ·rw [h4, h.fown] at hlab; cases hlab
 ·exact hd.only hw.only (fun _ h => h) fun b hb hx => by
   rcases hrm b hx with h4 | h4
   ·unfold hot at *; rw [← hw.ext b hb]; exact h4
   ·omega
end Go.Proofs.YtiglinnjnobodaaGreat
namespace Go.Proofs.YtiglinnjnobodaaGreat
open Go.RowKit Go.Mun
set_option maxRecDepth 100000 in
set_option maxHeartbeats 1000000 in
theorem may_deep {w : World} {own : Go.Mun.Own} {sb rb tb : Nat} {cx : Ctx} {tab : Tabl} {S : St} {M : List (Nat × St)} {n : Nat} {m : Msg} {dv : Value} (hst : StateAt TU w own sb S M n) (hr : RunAt w own sb rb tb cx tab) (hm : MsgOk m) (hk : m.kind = 0) (hd : 64 < m.depth) :
  Calls Tryz.prog 190 #[.pointer (some ⟨rb, 0, none⟩), .agg (cat (msgS m dv)).toArray] w fun e w' => e = .returned (.int .i64 17) ∧ Below w.heap.size w w' := by
 have hml := msgS_len m dv
 obtain ⟨w1, e1⟩ : ∃ w1, w1 = w.alloc (.cells (cat (msgS m dv)).toArray 62) := ⟨_, rfl⟩
 have hb1 : Below w.heap.size w w1 := by rw [e1]; exact (Below.refl _ _).alloc (Nat.le_refl _) _
 have hr1 : w1.row? w.heap.size 0 129 = some (cat (msgS m dv)) := by rw [e1]; exact World.row?_alloc_at _ _ _ rfl hml
 have t0 : MayT w w1 own sb rb S M n m dv := ⟨hr1, (hr.chg (Chg.below own hb1)).sp, hst.below hb1, hb1⟩
 have hnn := StateAt.nonce hst m.frm
 have hbb := hst.bal m.frm
 have c0 : (cat (msgS m dv))[0]'(by rw [hml]; omega) = .int .i64 m.kind := rfl
 have c1 := msgS_depth m dv
 have HT0 := Lib.hid t0
 have HE := Lib.hid e1
 have hfa := hm.frm
 have hva := hm.value
 clear hst hr e1 hb1 hr1 hm
 rw [hk] at c0
 have HM : Hid (∀ w, Calls Tryz.prog 192 #[.agg (cat (msgS m dv)).toArray] w fun e w' => e = .returned (.bool false) ∧ Below w.heap.size w w') := fun w => by have := evm_makes m dv w; rw [show decide (m.kind = 3 ∨ m.kind = 4) = false by rw [hk]; decide] at this; exact this
 obtain ⟨T, hT⟩ : ∃ T : World → Prop, T = fun w' => MayT w w' own sb rb S M n m dv := ⟨_, rfl⟩
 have HT := Lib.hid hT
 have tb : ∀ w2 w3, T w2 → Below w2.heap.size w2 w3 → T w3 := by rw [hT]; intro w2 w3 h hb; exact h.next hb
 have HTB := Lib.hid tb
 have ts : ∀ w2, T w2 → StateAt TU w2 own sb S M n := by rw [hT]; intro w2 h; exact h.st
 have HTS := Lib.hid ts
 have tg : ∀ w2, T w2 → Below w.heap.size w w2 := by rw [hT]; intro w2 h; exact h.below
 have HTG := Lib.hid tg
 have tt : T w1 := by rw [hT]; exact HT0.out
 clear hT tb ts tg t0 HT0
 have hdI : decide ((64 : Int) < m.depth) = true := decide_eq_true hd
 have HB := Lib.hid (HTG.out _ tt)
 have HXX := Lib.hid hd
 clear hd tt
 go_enter Tryz.func190, Tryz.ntmps190
 go_wp2
 go_ret
 exact ⟨rfl, by rw [← HE.out]; exact HB.out⟩
set_option maxRecDepth 100000 in
set_option maxHeartbeats 1000000 in
theorem may_funds {w : World} {own : Go.Mun.Own} {sb rb tb : Nat} {cx : Ctx} {tab : Tabl} {S : St} {M : List (Nat × St)} {n : Nat} {m : Msg} {dv : Value} (hst : StateAt TU w own sb S M n) (hr : RunAt w own sb rb tb cx tab) (hm : MsgOk m) (hk : m.kind = 0) (hd : m.depth ≤ 64) (hv : (S m.frm).bal < m.value) :
  Calls Tryz.prog 190 #[.pointer (some ⟨rb, 0, none⟩), .agg (cat (msgS m dv)).toArray] w fun e w' => e = .returned (.int .i64 16) ∧ Below w.heap.size w w' := by
 have hml := msgS_len m dv
 obtain ⟨w1, e1⟩ : ∃ w1, w1 = w.alloc (.cells (cat (msgS m dv)).toArray 62) := ⟨_, rfl⟩
 have hb1 : Below w.heap.size w w1 := by rw [e1]; exact (Below.refl _ _).alloc (Nat.le_refl _) _
 have hr1 : w1.row? w.heap.size 0 129 = some (cat (msgS m dv)) := by rw [e1]; exact World.row?_alloc_at _ _ _ rfl hml
 have t0 : MayT w w1 own sb rb S M n m dv := ⟨hr1, (hr.chg (Chg.below own hb1)).sp, hst.below hb1, hb1⟩
 have hnn := StateAt.nonce hst m.frm
 have hbb := hst.bal m.frm
 have c0 : (cat (msgS m dv))[0]'(by rw [hml]; omega) = .int .i64 m.kind := rfl
 have c1 := msgS_depth m dv
 have HT0 := Lib.hid t0
 have HE := Lib.hid e1
 have hfa := hm.frm
 have hva := hm.value
 clear hst hr e1 hb1 hr1 hm
 rw [hk] at c0
 have HM : Hid (∀ w, Calls Tryz.prog 192 #[.agg (cat (msgS m dv)).toArray] w fun e w' => e = .returned (.bool false) ∧ Below w.heap.size w w') := fun w => by have := evm_makes m dv w; rw [show decide (m.kind = 3 ∨ m.kind = 4) = false by rw [hk]; decide] at this; exact this
 obtain ⟨T, hT⟩ : ∃ T : World → Prop, T = fun w' => MayT w w' own sb rb S M n m dv := ⟨_, rfl⟩
 have HT := Lib.hid hT
 have tb : ∀ w2 w3, T w2 → Below w2.heap.size w2 w3 → T w3 := by rw [hT]; intro w2 w3 h hb; exact h.next hb
 have HTB := Lib.hid tb
 have ts : ∀ w2, T w2 → StateAt TU w2 own sb S M n := by rw [hT]; intro w2 h; exact h.st
 have HTS := Lib.hid ts
 have tg : ∀ w2, T w2 → Below w.heap.size w w2 := by rw [hT]; intro w2 h; exact h.below
 have HTG := Lib.hid tg
 have tt : T w1 := by rw [hT]; exact HT0.out
 clear hT tb ts tg t0 HT0
 have hdI : decide ((64 : Int) < m.depth) = false := decide_eq_false (by omega)
 have hcn : cmpN (S m.frm).bal m.value < 0 := by rw [cmpN_lt hv]; decide
 have hdc : decide (cmpN (S m.frm).bal m.value < 0) = true := decide_eq_true hcn
 go_enter Tryz.func190, Tryz.ntmps190
 go_wp2_with fail
 rw [← HE.out]
 have t3 : T w1.drew := HTB.out _ _ tt (Below.refl _ _).drew
 clear tt
 refine wp_region_tree T [] (.pure 0 (.pure 1 (.pure 2 (.pure 3 (.pure 4 (.take 5 (.pure 6 (.take 7 (.pure 9 (.take 10 (.alt 8 (.alt 11 (.pure 12 (.pure 13 (.pure 14 .fin))) .stop) .stop))))))))))) (by kernel_rfl) (by kernel_rfl) ?_
 refine tree_pure ?_ rfl (by rfl) (fun w' hs => ?_) (fun _ _ _ h => h) ?_
 rotate_left
 ·clear hs
  go_simp
  try rfl
 simp only [Act.put, tsa, tsb, tsc]
 refine tree_pure ?_ rfl (by rfl) (fun w' hs => ?_) (fun _ _ _ h => h) ?_
 rotate_left
 ·clear hs
  go_simp
  try rfl
 simp only [Act.put, tsa, tsb, tsc]
 refine tree_pure ?_ rfl (by rfl) (fun w' hs => ?_) (fun _ _ _ h => h) ?_
 rotate_left
 ·clear hs
  go_simp
  try rfl
 simp only [Act.put, tsa, tsb, tsc]
 refine tree_pure ?_ rfl (by rfl) (fun w' hs => ?_) (fun _ _ _ h => h) ?_
 rotate_left
 ·clear hs
  go_simp
  try rfl
 simp only [Act.put, tsa, tsb, tsc]
 refine tree_pure ?_ rfl (by rfl) (fun w' hs => ?_) (fun _ _ _ h => h) ?_
 rotate_left
 ·clear hs
  go_simp
  try rfl
 simp only [Act.put, tsa, tsb, tsc]
 refine tree_take ?_ t3 rfl (by rfl) (fun w' hs => ?_) (fun _ _ _ h => h) ?_
 rotate_left
 ·rw [HT.out] at hs
  have q0 := hs.sp; have q1 := msg_frm hs.row; have q2 := msg_value hs.row; simp only [Nat.zero_add] at q1 q2
  go_simp
  try rfl
 simp only [Act.put, tsa, tsb, tsc]
 refine tree_pure ?_ rfl (by rfl) (fun w' hs => ?_) (fun _ _ _ h => h) ?_
 rotate_left
 ·clear hs
  go_simp
  try rfl
 simp only [Act.put, tsa, tsb, tsc]
 refine tree_take ?_ t3 rfl (by rfl) (fun w' hs => ?_) (fun _ _ _ h => h) ?_
 rotate_left
 ·rw [HT.out] at hs
  have q0 := hs.sp; have q1 := msg_frm hs.row; have q2 := msg_value hs.row; simp only [Nat.zero_add] at q1 q2
  go_simp
  try rfl
 simp only [Act.put, tsa, tsb, tsc]
 refine tree_pure ?_ rfl (by rfl) (fun w' hs => ?_) (fun _ _ _ h => h) ?_
 rotate_left
 ·clear hs
  go_simp
  try rfl
 simp only [Act.put, tsa, tsb, tsc]
 refine tree_take ?_ t3 rfl (by rfl) (fun w' hs => ?_) (fun _ _ _ h => h) ?_
 rotate_left
 ·rw [HT.out] at hs
  have q0 := hs.sp; have q1 := msg_frm hs.row; have q2 := msg_value hs.row; simp only [Nat.zero_add] at q1 q2
  go_simp
  try rfl
 simp only [Act.put, tsa, tsb, tsc]
 refine tree_run rfl (fun K hK => ?_)
 go_simp
 refine (st_balance (HTS.out _ t3) m.frm hfa).mono ?_
 rintro e w4 ⟨rfl, hb⟩
 have t4 : T w4 := HTB.out _ _ t3 hb
 clear hb t3
 refine hK.out _ _ t4 ?_
 clear hK K
 refine tree_run rfl (fun K hK => ?_)
 go_simp
 refine (word_cmp _ m.value hbb hva _).mono ?_
 rintro e w5 ⟨rfl, hb⟩
 have t5 : T w5 := HTB.out _ _ t4 hb
 clear hb t4
 refine hK.out _ _ t5 ?_
 clear hK K
 refine tree_pure ?_ rfl (by rfl) (fun w' hs => ?_) (fun _ _ _ h => h) ?_
 rotate_left
 ·clear hs
  go_simp
  try rfl
 simp only [Act.put, tsa, tsb, tsc]
 refine tree_pure ?_ rfl (by rfl) (fun w' hs => ?_) (fun _ _ _ h => h) ?_
 rotate_left
 ·clear hs
  go_simp
  try rfl
 simp only [Act.put, tsa, tsb, tsc]
 refine tree_pure ?_ rfl (by rfl) (fun w' hs => ?_) (fun _ _ _ h => h) ?_
 rotate_left
 ·clear hs
  go_simp
  try rfl
 simp only [Act.put, tsa, tsb, tsc]
 refine tree_fin ?_
 go_wp2
 go_ret
 exact ⟨rfl, HTG.out _ t5⟩
end Go.Proofs.YtiglinnjnobodaaGreat
namespace Go.Proofs.YtiglinnjnobodaaGreat
open Go.RowKit Go.Mun
theorem noB (g e : Int) : fillL 24 (plOf zs46) (cat zs46) [(0, .int .i64 g), (1, .int .i64 e)] = some (cat (outS ⟨g, e, [], [], 0⟩ (.slice none 0 0) (.slice none 0 0))) := by
 rw [fillL_cats _ _ _ zs46_len]
 ·rfl
 ·rw [lens46]
  exact fits_cons rfl (fits_cons rfl (fits_nil _))
theorem noBox (w : World) : (w.alloc (.cells (cat zs46).toArray 65)).free? w.heap.size 0 24 = true := World.free?_alloc_at _ _ rfl (by rw [zs46_len]; omega)
def NoOut (w : World) (g x : Int) (e : Ending) (w' : World) : Prop := e = .returned (.agg (cat (outS ⟨g, x, [], [], 0⟩ (.slice none 0 0) (.slice none 0 0))).toArray) ∧ Below w.heap.size w w'
set_option maxRecDepth 100000 in
theorem evm_failed (g x : Int) (w : World) : Calls Tryz.prog 191 #[.int .i64 g, .int .i64 x] w (NoOut w g x) := by
 have hf := noBox w
 have hbld := noB g x
 have hok := outS_ok ⟨g, x, [], [], 0⟩ none none 0 0 0 0
 go_enter Tryz.func191, Tryz.ntmps191
 go_wp2
 exact ret_row ty46 rfl _ rfl rfl hf hok ⟨rfl, ((Below.refl _ _).alloc (Nat.le_refl _) _).setCells (Nat.le_refl _) _ _⟩
def mayN (S : St) (m : Msg) (x : Int) : Prop := (x = 17 ∧ 64 < m.depth) ∨ (x = 16 ∧ m.depth ≤ 64 ∧ (S m.frm).bal < m.value)
set_option maxRecDepth 100000 in
set_option maxHeartbeats 4000000 in
theorem evm_message_no16 {w : World} {own : Go.Mun.Own} {sb rb tb : Nat} {cx : Ctx} {tab : Tabl} {S : St} {M : List (Nat × St)} {n N : Nat} {m : Msg} {dv : Value}
  (h : RunCx w own sb rb tb cx tab S M n N) (hm : MsgOk m) (hk : m.kind = 0) (hg : 0 < m.gas) (hd : RoAt w (fun b => own b ≠ none) dv m.data) (hx : mayN S m 16) :
  Calls Tryz.prog 80 #[.pointer (some ⟨rb, 0, none⟩), .agg (cat (msgS m dv)).toArray] w (NoOut w m.gas 16) := by
 have hml := msgS_len m dv
 have c0 := msgS_gas m dv
 obtain ⟨w1, e1⟩ : ∃ w1, w1 = (w.alloc (.cells (cat (msgS m dv)).toArray 62)).alloc (.cells (cat zs46).toArray 65) := ⟨_, rfl⟩
 have t1 := callT_new (m := m) h.st h.run hd
 rw [← e1] at t1
 have hf0 : (w.alloc (.cells (cat (msgS m dv)).toArray 62)).free? w.heap.size 126 1 = true := World.free?_alloc_at _ _ rfl (by rw [hml]; omega)
 have HN := h.lim
 have HT1 := Lib.hid t1
 have hb1 : Below w.heap.size w w1 := by rw [e1]; exact ((Below.refl _ _).alloc (Nat.le_refl _) _).alloc (by simp) _
 have HB1 := Lib.hid hb1
 clear hb1
 have HE1 := Lib.hid e1
 have HMK := Lib.hid (fun w => evm_makes m dv w)
 have hset : (cat (msgS m dv)).set 126 (.int .i64 m.gas) = cat (msgS m dv) := by
  apply List.ext_getElem?
  intro i
  rw [List.getElem?_set]
  by_cases hi : 126 = i
  ·subst hi
   rw [if_pos rfl, if_pos (by rw [hml]; omega), List.getElem?_eq_getElem (by rw [hml]; omega), c0]
  ·rw [if_neg hi]
 have HMAY : Hid (Calls Tryz.prog 190 #[.pointer (some ⟨rb, 0, none⟩), .agg (cat (msgS m dv)).toArray] w1 fun e w' => e = .returned (.int .i64 16) ∧ Below w1.heap.size w1 w') := by
  rcases hx with ⟨hx, h1⟩ | ⟨hx, h1, h2⟩
  ·first | exact may_deep t1.st t1.run hm hk h1 | (exfalso; omega)
  ·first | exact may_funds t1.st t1.run hm hk h1 h2 | (exfalso; omega)
 have HMOK := Lib.hid hm
 have HKK := Lib.hid hk
 have hz : ¬ m.gas ≤ 0 := by omega
 have hmax : max (0 : Int) m.gas = m.gas := by omega
 have HHX := Lib.hid hx
 clear h hm hk e1 t1 hx
 go_enter Tryz.func80, Tryz.ntmps80
 go_wp2_with fail
 rw [← HE1.out]
 refine HMAY.out.mono ?_
 rintro e w3 ⟨rfl, hb3⟩
 have t3 := HT1.out.below hb3
 have c3 := msg_gas t3.row
 rw [Nat.zero_add] at c3
 have HB3 : Hid (Below w.heap.size w w3) := HB1.out.trans (hb3.mono HB1.out.size)
 have HT3 := Lib.hid t3
 clear hb3 t3 hset hf0
 go_wp2_with fail
 refine (evm_failed _ 16 _).mono ?_
 rintro e w5 ⟨rfl, hb5⟩
 have hf5 := (HT3.out.below hb5).res
 have HB5 : Hid (Below w.heap.size w w5) := HB3.out.trans (hb5.mono HB3.out.size)
 have hok := outS_ok ⟨m.gas, 16, [], [], 0⟩ none none 0 0 0 0
 clear hb5 c3
 go_wp2
 exact ret_row ty46 rfl _ rfl rfl hf5 hok ⟨rfl, HB5.out.setCells (by simp) _ _⟩
set_option maxRecDepth 100000 in
set_option maxHeartbeats 4000000 in
theorem evm_message_no17 {w : World} {own : Go.Mun.Own} {sb rb tb : Nat} {cx : Ctx} {tab : Tabl} {S : St} {M : List (Nat × St)} {n N : Nat} {m : Msg} {dv : Value}
  (h : RunCx w own sb rb tb cx tab S M n N) (hm : MsgOk m) (hk : m.kind = 0) (hg : 0 < m.gas) (hd : RoAt w (fun b => own b ≠ none) dv m.data) (hx : mayN S m 17) :
  Calls Tryz.prog 80 #[.pointer (some ⟨rb, 0, none⟩), .agg (cat (msgS m dv)).toArray] w (NoOut w m.gas 17) := by
 have hml := msgS_len m dv
 have c0 := msgS_gas m dv
 obtain ⟨w1, e1⟩ : ∃ w1, w1 = (w.alloc (.cells (cat (msgS m dv)).toArray 62)).alloc (.cells (cat zs46).toArray 65) := ⟨_, rfl⟩
 have t1 := callT_new (m := m) h.st h.run hd
 rw [← e1] at t1
 have hf0 : (w.alloc (.cells (cat (msgS m dv)).toArray 62)).free? w.heap.size 126 1 = true := World.free?_alloc_at _ _ rfl (by rw [hml]; omega)
 have HN := h.lim
 have HT1 := Lib.hid t1
 have hb1 : Below w.heap.size w w1 := by rw [e1]; exact ((Below.refl _ _).alloc (Nat.le_refl _) _).alloc (by simp) _
 have HB1 := Lib.hid hb1
 clear hb1
 have HE1 := Lib.hid e1
 have HMK := Lib.hid (fun w => evm_makes m dv w)
 have hset : (cat (msgS m dv)).set 126 (.int .i64 m.gas) = cat (msgS m dv) := by
  apply List.ext_getElem?
  intro i
  rw [List.getElem?_set]
  by_cases hi : 126 = i
  ·subst hi
   rw [if_pos rfl, if_pos (by rw [hml]; omega), List.getElem?_eq_getElem (by rw [hml]; omega), c0]
  ·rw [if_neg hi]
 have HMAY : Hid (Calls Tryz.prog 190 #[.pointer (some ⟨rb, 0, none⟩), .agg (cat (msgS m dv)).toArray] w1 fun e w' => e = .returned (.int .i64 17) ∧ Below w1.heap.size w1 w') := by
  rcases hx with ⟨hx, h1⟩ | ⟨hx, h1, h2⟩
  ·first | exact may_deep t1.st t1.run hm hk h1 | (exfalso; omega)
  ·first | exact may_funds t1.st t1.run hm hk h1 h2 | (exfalso; omega)
 have HMOK := Lib.hid hm
 have HKK := Lib.hid hk
 have hz : ¬ m.gas ≤ 0 := by omega
 have hmax : max (0 : Int) m.gas = m.gas := by omega
 have HHX := Lib.hid hx
 clear h hm hk e1 t1 hx
 go_enter Tryz.func80, Tryz.ntmps80
 go_wp2_with fail
 rw [← HE1.out]
 refine HMAY.out.mono ?_
 rintro e w3 ⟨rfl, hb3⟩
 have t3 := HT1.out.below hb3
 have c3 := msg_gas t3.row
 rw [Nat.zero_add] at c3
 have HB3 : Hid (Below w.heap.size w w3) := HB1.out.trans (hb3.mono HB1.out.size)
 have HT3 := Lib.hid t3
 clear hb3 t3 hset hf0
 go_wp2_with fail
 refine (evm_failed _ 17 _).mono ?_
 rintro e w5 ⟨rfl, hb5⟩
 have hf5 := (HT3.out.below hb5).res
 have HB5 : Hid (Below w.heap.size w w5) := HB3.out.trans (hb5.mono HB3.out.size)
 have hok := outS_ok ⟨m.gas, 17, [], [], 0⟩ none none 0 0 0 0
 clear hb5 c3
 go_wp2
 exact ret_row ty46 rfl _ rfl rfl hf5 hok ⟨rfl, HB5.out.setCells (by simp) _ _⟩
theorem evm_message_no {w : World} {own : Go.Mun.Own} {sb rb tb : Nat} {cx : Ctx} {tab : Tabl} {S : St} {M : List (Nat × St)} {n N : Nat} {m : Msg} {dv : Value} {x : Int}
  (h : RunCx w own sb rb tb cx tab S M n N) (hm : MsgOk m) (hk : m.kind = 0) (hg : 0 < m.gas) (hd : RoAt w (fun b => own b ≠ none) dv m.data) (hx : mayN S m x) :
  Calls Tryz.prog 80 #[.pointer (some ⟨rb, 0, none⟩), .agg (cat (msgS m dv)).toArray] w (NoOut w m.gas x) := by
 have h1 := hx
 rcases h1 with ⟨rfl, _⟩ | ⟨rfl, _⟩
 ·exact evm_message_no17 h hm hk hg hd hx
 ·exact evm_message_no16 h hm hk hg hd hx
attribute [local irreducible] TabRel
set_option maxRecDepth 100000 in
set_option maxHeartbeats 4000000 in
theorem evm_run_no {w : World} {own : Go.Mun.Own} {sb : Nat} {cx : Ctx} {S : St} {M : List (Nat × St)} {n N : Nat} {m : Msg} {dv : Value} {x : Int}
  (hst : StateAt TU w own sb S M n) (hN : N ≤ 1099511627776) (hm : MsgOk m) (hk : m.kind = 0) (hg : 0 < m.gas) (hd : RoAt w (fun b => own b ≠ none) dv m.data) (hx : mayN S m x) :
  Calls Tryz.prog 34 #[.pointer (some ⟨sb, 0, none⟩), .agg (cat (msgS m dv)).toArray, .agg (cat (ctxS cx)).toArray] w (NoOut w m.gas x) := by
 have hml := msgS_len m dv
 have hcl := ctxS_len cx
 obtain ⟨w1, e1⟩ : ∃ w1, w1 = ((w.alloc (.cells (cat (msgS m dv)).toArray 62)).alloc (.cells (cat (ctxS cx)).toArray 51)).alloc (.cells (cat zs46).toArray 65) := ⟨_, rfl⟩
 have hb1 : Below w.heap.size w w1 := by rw [e1]; exact (((Below.refl _ _).alloc (Nat.le_refl _) _).alloc (by simp) _).alloc (by simp; omega) _
 have r1 : w1.row? w.heap.size 0 129 = some (cat (msgS m dv)) := by rw [e1, World.row?_alloc_lt _ (by simp; omega), World.row?_alloc_lt _ (by simp)]; exact World.row?_alloc_at _ _ _ rfl hml
 have r2 : w1.row? (w.heap.size + 1) 0 43 = some (cat (ctxS cx)) := by rw [e1, World.row?_alloc_lt _ (by simp)]; exact World.row?_alloc_at _ _ _ (by simp) hcl
 have f1 : w1.free? (w.heap.size + 1 + 1) 0 24 = true := by rw [e1]; exact World.free?_alloc_at _ _ (by simp) (by rw [zs46_len]; omega)
 have HST := Lib.hid hst
 have HB1 := Lib.hid hb1
 have HE1 := Lib.hid e1
 have HF1 := Lib.hid f1
 have HR1 := Lib.hid r1
 have HD := Lib.hid hd
 have HX := Lib.hid hx
 obtain ⟨T, hT⟩ : ∃ T : World → Prop, T = fun w' => w'.row? (w.heap.size + 1) 0 43 = some (cat (ctxS cx)) := ⟨_, rfl⟩
 have HT := Lib.hid hT
 have tb : ∀ w2 w3, T w2 → Below w2.heap.size w2 w3 → T w3 := by rw [hT]; intro w2 w3 h hb; exact ((brow hb).1 _ _ _ (World.row?_lt h)).trans h
 have HTB := Lib.hid tb
 have t0 : T w1.drew := by rw [hT]; exact r2
 clear hst hb1 e1 f1 r1 r2 hd hx hT tb
 go_enter Tryz.func34, Tryz.ntmps34
 go_wp2_with fail
 rw [← HE1.out]
 refine wp_region_tree T [] (.pure 0 (.take 1 (.alt 2 (.pure 3 (.alt 4 (.pure 5 .fin) .stop)) .stop))) (by kernel_rfl) (by kernel_rfl) ?_
 refine tree_pure ?_ rfl (by rfl) (fun w' hs => ?_) (fun _ _ _ h => h) ?_
 rotate_left
 ·clear hs
  go_simp
  try rfl
 simp only [Act.put, tsa, tsb, tsc]
 refine tree_take ?_ t0 rfl (by rfl) (fun w' hs => ?_) (fun _ _ _ h => h) ?_
 rotate_left
 ·rw [HT.out] at hs
  go_simp
  try rfl
 simp only [Act.put, tsa, tsb, tsc]
 refine tree_run rfl (fun K hK => ?_)
 go_simp
 refine (evm_table _).mono ?_
 rintro e w2 ⟨tb, rfl, hrel⟩
 obtain ⟨tab, htab, hb2, hrun⟩ := runAt_new (sb := sb) (cx := cx) HST.out.lows HB1.out.drew hrel
 have t2 : T w2 := HTB.out _ _ t0 hb2
 have HTAB := Lib.hid htab
 have HB2 := Lib.hid hb2
 have HRUN := Lib.hid hrun
 have hbuild := build102 sb tb cx
 clear htab hb2 hrun hrel
 refine hK.out _ _ t2 ?_
 clear hK K
 refine tree_pure ?_ rfl (by rfl) (fun w' hs => ?_) (fun _ _ _ h => h) ?_
 rotate_left
 ·clear hs
  go_simp
  try rfl
 simp only [Act.put, tsa, tsb, tsc]
 refine tree_run rfl (fun K hK => ?_)
 go_simp
 have hb3 : Below w2.heap.size w2 (w2.alloc (.cells (cat (runS sb tb cx)).toArray 139)) := (Below.refl _ _).alloc (Nat.le_refl _) _
 have t3 : T (w2.alloc (.cells (cat (runS sb tb cx)).toArray 139)) := HTB.out _ _ t2 hb3
 have HB3 := Lib.hid hb3
 clear hb3
 refine hK.out _ _ t3 ?_
 clear hK K
 refine tree_pure ?_ rfl (by rfl) (fun w' hs => ?_) (fun _ _ _ h => h) ?_
 rotate_left
 ·clear hs
  go_simp
  try rfl
 simp only [Act.put, tsa, tsb, tsc]
 refine tree_fin ?_
 have hbb : Below w.heap.size w (w2.alloc (.cells (cat (runS sb tb cx)).toArray 139)) := (HB1.out.drew.trans (HB2.out.mono HB1.out.size)).trans (HB3.out.mono (by have h1 := HB1.out.size; have h2 := HB2.out.size; exact Nat.le_trans h1 h2))
 generalize w2.alloc (.cells (cat (runS sb tb cx)).toArray 139) = w3 at *
 have hrx := (brow HB3.out).1 w.heap.size 0 129 (Nat.lt_of_lt_of_le (World.row?_lt HR1.out) HB2.out.size)
 have hfx := (brow HB3.out).2 (w.heap.size + 1 + 1) 0 24 (Nat.lt_of_lt_of_le (free?_lt HF1.out) HB2.out.size)
 rw [(brow HB2.out).1 w.heap.size 0 129 (World.row?_lt HR1.out)] at hrx
 rw [(brow HB2.out).2 (w.heap.size + 1 + 1) 0 24 (free?_lt HF1.out)] at hfx
 have r3 : w3.row? w.heap.size 0 129 = some (cat (msgS m dv)) := hrx.trans HR1.out
 have f3 : w3.free? (w.heap.size + 1 + 1) 0 24 = true := hfx.trans HF1.out
 have HMSG := Lib.hid (evm_message_no (N := N) ⟨HST.out.below hbb, HRUN.out, hN⟩ hm hk hg (HD.out.below hbb) HX.out)
 have HBB := Lib.hid hbb
 have HF3 := Lib.hid f3
 clear hrx hfx hbb t0 t2 t3 hbuild f3
 go_wp2_with fail
 refine HMSG.out.mono ?_
 rintro e w5 ⟨rfl, hb5⟩
 have hok8 := outS_ok ⟨m.gas, x, [], [], 0⟩ none none 0 0 0 0
 have f10 : w5.free? (w.heap.size + 1 + 1) 0 24 = true := ((brow hb5).2 _ _ _ (free?_lt HF3.out)).trans HF3.out
 have HB5 : Hid (Below w.heap.size w w5) := HBB.out.trans (hb5.mono HBB.out.size)
 clear hb5 r3
 go_wp2
 exact ret_row ty46 rfl _ rfl rfl f10 hok8 ⟨rfl, HB5.out.setCells (by omega) _ _⟩
end Go.Proofs.YtiglinnjnobodaaGreat
namespace Go.Proofs.YtiglinnjnobodaaGreat
open Go.RowKit Go.Mun
theorem _root_.Go.Mun.RState.bal {w : World} {own : Go.Mun.Own} {sb n : Nat} {S : St} {M : List (Nat × St)} (h : RState w own sb S M n) (a : Nat) : (S a).bal < wW := by
 obtain ⟨lv, mv, ps, ms, k, h1, h2, _, hw, _, _⟩ := h
 by_cases e : ∃ x ∈ fsts ps, x.ac.addr = a
 ·obtain ⟨x, hx, rfl⟩ := e
  obtain ⟨p, hp, rfl⟩ := List.mem_map.1 hx
  obtain ⟨i, hi⟩ := List.mem_iff_getElem?.1 hp
  have := rst_some h1.up (i := i) (x := p.1) (by rw [List.getElem?_map, hi]; rfl)
  have e2 : S p.1.ac.addr = p.1.acc := by rw [h2]; exact this
  rw [e2]
  exact (h1.arr.ok p hp).bal
 ·rw [h2, rst_none (fun x hx e2 => e ⟨x, hx, e2⟩)]
  show 0 < wW
  decide
attribute [local irreducible] zs189 tl0
set_option maxRecDepth 100000 in
set_option maxHeartbeats 2000000 in
theorem r_run_deep {w : World} {own : Go.Mun.Own} {sb n : Nat} {S : St} {M : List (Nat × St)} {m : Msg} {dv : Value} {cx : Ctx} (h : RState w own sb S M n) (hm : MsgOk m) (hk : m.kind = 0) (hg : 0 ≤ m.gas) (hd : 64 < m.depth) :
  Calls Tryz.prog 64 #[.pointer (some ⟨sb, 0, none⟩), .agg (cat (msgS m dv)).toArray, .agg (cat (ctxS cx)).toArray] w (NoOut w m.gas 17) := by
 have hml := msgS_len m dv
 have hcl := ctxS_len cx
 obtain ⟨w0, e0⟩ : ∃ w0, w0 = ((w.alloc (.cells (cat (msgS m dv)).toArray 62)).alloc (.cells (cat (ctxS cx)).toArray 51)).alloc (.cells (cat zs46).toArray 65) := ⟨_, rfl⟩
 have hB0 : RunB w own m dv cx w0 own sb S M n := by rw [e0]; exact RunB.start h
 have c0 : (cat (msgS m dv))[0]'(by rw [hml]; omega) = .int .i64 m.kind := rfl
 have c1 := msgS_depth m dv
 have c2 := msgS_gas m dv
 rw [hk] at c0
 have hfa := hm.frm
 have hta := hm.to
 have hva := hm.value
 have HST := Lib.hid h
 have HB0 := Lib.hid hB0
 have HE := Lib.hid e0
 have HM := Lib.hid hm
 have HK := Lib.hid hk
 have hdI : decide ((64 : Int) < m.depth) = true := decide_eq_true hd
 have hgI : decide (m.gas < 0) = false := decide_eq_false (by omega)
 have hgn : ¬ m.gas < 0 := by omega
 have HG := Lib.hid hg
 have HD := Lib.hid hd
 have HBB : Hid (Below w.heap.size w w0) := by rw [e0]; exact (((Below.refl _ _).alloc (Nat.le_refl _) _).alloc (by simp) _).alloc (by simp; omega) _
 clear h hm hk hB0 e0 hg hd
 go_enter Tryz.func64, Tryz.ntmps64
 go_wp2_with fail
 rw [← HE.out]
 refine (ref_failed m.gas 17 _).mono ?_
 rintro e w1 ⟨rfl, hb1⟩
 have hf1 := (HB0.out.below hb1).t6
 have HB1 : Hid (Below w.heap.size w w1) := HBB.out.trans (hb1.mono HBB.out.size)
 have hok := outS_ok ⟨m.gas, 17, [], [], 0⟩ none none 0 0 0 0
 clear hb1
 go_wp2
 exact ret_row ty46 rfl _ rfl rfl hf1 hok ⟨rfl, HB1.out.setCells (by omega) _ _⟩
set_option maxRecDepth 100000 in
set_option maxHeartbeats 4000000 in
theorem r_run_funds {w : World} {own : Go.Mun.Own} {sb n : Nat} {S : St} {M : List (Nat × St)} {m : Msg} {dv : Value} {cx : Ctx} (h : RState w own sb S M n) (hm : MsgOk m) (hk : m.kind = 0) (hg : 0 ≤ m.gas) (hd : m.depth ≤ 64) (hv : (S m.frm).bal < m.value) (hn : n ≤ 999000) :
  Calls Tryz.prog 64 #[.pointer (some ⟨sb, 0, none⟩), .agg (cat (msgS m dv)).toArray, .agg (cat (ctxS cx)).toArray] w (NoOut w m.gas 16) := by
 have hml := msgS_len m dv
 have hcl := ctxS_len cx
 obtain ⟨w0, e0⟩ : ∃ w0, w0 = ((w.alloc (.cells (cat (msgS m dv)).toArray 62)).alloc (.cells (cat (ctxS cx)).toArray 51)).alloc (.cells (cat zs46).toArray 65) := ⟨_, rfl⟩
 have hB0 : RunB w own m dv cx w0 own sb S M n := by rw [e0]; exact RunB.start h
 have c0 : (cat (msgS m dv))[0]'(by rw [hml]; omega) = .int .i64 m.kind := rfl
 have c1 := msgS_depth m dv
 have c2 := msgS_gas m dv
 rw [hk] at c0
 have hfa := hm.frm
 have hta := hm.to
 have hva := hm.value
 have HST := Lib.hid h
 have HB0 := Lib.hid hB0
 have HE := Lib.hid e0
 have HM := Lib.hid hm
 have HK := Lib.hid hk
 obtain ⟨x, hx⟩ : ∃ x, x = (S m.frm).bal := ⟨_, rfl⟩
 have hxW : x < wW := by rw [hx]; exact h.bal m.frm
 have HX := Lib.hid hx
 have HN := Lib.hid hn
 obtain ⟨T, hT⟩ : ∃ T : World → Prop, T = fun W => RunB w own m dv cx W own sb S M n ∧ RState W own sb S M n ∧ Below w.heap.size w W := ⟨_, rfl⟩
 have HT := Lib.hid hT
 have HTB : Hid (∀ w2 w3, T w2 → Below w2.heap.size w2 w3 → T w3) := by show ∀ w2 w3, T w2 → Below w2.heap.size w2 w3 → T w3; rw [hT]; intro w2 w3 h hb; exact ⟨h.1.below hb, h.2.1.below hb, h.2.2.trans (hb.mono h.2.2.size)⟩
 have HTG : Hid (∀ w2, T w2 → RunB w own m dv cx w2 own sb S M n ∧ RState w2 own sb S M n ∧ Below w.heap.size w w2) := by show ∀ w2, T w2 → _; rw [hT]; intro w2 h; exact h
 have tt : T w0.drew := by rw [hT]; exact ⟨hB0.below (Below.refl _ _).drew, (hB0.below (Below.refl _ _).drew).st, by rw [e0]; exact ((((Below.refl _ _).alloc (Nat.le_refl _) _).alloc (by simp) _).alloc (by simp; omega) _).drew⟩
 have hdI : decide ((64 : Int) < m.depth) = false := decide_eq_false (by omega)
 have hgI : decide (m.gas < 0) = false := decide_eq_false (by omega)
 have hgn : ¬ m.gas < 0 := by omega
 have hcn : cmpN x m.value < 0 := by rw [hx, cmpN_lt hv]; decide
 have hdc : decide (cmpN x m.value < 0) = true := decide_eq_true hcn
 have HBB : Hid (∀ w2, T w2 → Below w.heap.size w w2) := by
  show ∀ w2, T w2 → Below w.heap.size w w2
  intro w2 h2
  rw [hT] at h2
  exact h2.2.2
 clear h hm hk hB0 e0 hg hd hx hn hT hv
 go_enter Tryz.func64, Tryz.ntmps64
 go_wp2_with fail
 rw [← HE.out]
 have t0 := tt
 clear tt
 refine wp_region_tree T [] (.pure 0 (.pure 1 (.pure 2 (.pure 3 (.take 4 (.pure 7 (.take 8 (.alt 5 (.pure 6 (.alt 9 (.pure 10 (.pure 11 (.pure 12 .fin))) .stop)) .stop)))))))) (by kernel_rfl) (by kernel_rfl) ?_
 refine tree_pure ?_ rfl (by rfl) (fun w' hs => ?_) (fun _ _ _ h => h) ?_
 rotate_left
 ·clear hs
  go_simp
  try rfl
 simp only [Act.put, tsa, tsb, tsc]
 refine tree_pure ?_ rfl (by rfl) (fun w' hs => ?_) (fun _ _ _ h => h) ?_
 rotate_left
 ·clear hs
  go_simp
  try rfl
 simp only [Act.put, tsa, tsb, tsc]
 refine tree_pure ?_ rfl (by rfl) (fun w' hs => ?_) (fun _ _ _ h => h) ?_
 rotate_left
 ·clear hs
  go_simp
  try rfl
 simp only [Act.put, tsa, tsb, tsc]
 refine tree_pure ?_ rfl (by rfl) (fun w' hs => ?_) (fun _ _ _ h => h) ?_
 rotate_left
 ·clear hs
  go_simp
  try rfl
 simp only [Act.put, tsa, tsb, tsc]
 refine tree_take ?_ t0 rfl (by rfl) (fun w' hs => ?_) (fun _ _ _ h => h) ?_
 rotate_left
 ·rw [HT.out] at hs
  obtain ⟨g, _, _⟩ := hs; have q1 := msg_frm g.t4; have q2 := msg_value g.t4; simp only [Nat.zero_add] at q1 q2
  go_simp
  try rfl
 simp only [Act.put, tsa, tsb, tsc]
 refine tree_pure ?_ rfl (by rfl) (fun w' hs => ?_) (fun _ _ _ h => h) ?_
 rotate_left
 ·clear hs
  go_simp
  try rfl
 simp only [Act.put, tsa, tsb, tsc]
 refine tree_take ?_ t0 rfl (by rfl) (fun w' hs => ?_) (fun _ _ _ h => h) ?_
 rotate_left
 ·rw [HT.out] at hs
  obtain ⟨g, _, _⟩ := hs; have q1 := msg_frm g.t4; have q2 := msg_value g.t4; simp only [Nat.zero_add] at q1 q2
  go_simp
  try rfl
 simp only [Act.put, tsa, tsb, tsc]
 refine tree_run rfl (fun K hK => ?_)
 go_simp
 refine (r_get (HTG.out _ t0).2.1 hfa (by have := HN.out; omega)).mono ?_
 rintro e wa ⟨p, rfl, hba, hga⟩
 have hfp : ∀ W, (Instr.field 35 (.agg (racC p).toArray) 2).run Tryz.prog W = .ok (.agg (beC 32 x).toArray) W := fun W => by rw [fld35_2, got_bal hga, HX.out]
 obtain ⟨C, hC⟩ : ∃ C, C = racC p := ⟨_, rfl⟩
 rw [← hC] at hfp ⊢
 have t1 : T wa := HTB.out _ _ t0 hba
 clear hba hga hC
 refine hK.out _ _ t1 ?_
 clear hK K
 refine tree_pure ?_ rfl (by rfl) (fun w' hs => ?_) (fun _ _ _ h => h) ?_
 rotate_left
 ·clear hs
  go_simp
  try rfl
 simp only [Act.put, tsa, tsb, tsc]
 refine tree_run rfl (fun K hK => ?_)
 go_simp
 refine (ref_Cmp x m.value hxW hva _).mono ?_
 rintro e wb ⟨rfl, hbb⟩
 have t2 : T wb := HTB.out _ _ t1 hbb
 clear hbb
 refine hK.out _ _ t2 ?_
 clear hK K
 refine tree_pure ?_ rfl (by rfl) (fun w' hs => ?_) (fun _ _ _ h => h) ?_
 rotate_left
 ·clear hs
  go_simp
  try rfl
 simp only [Act.put, tsa, tsb, tsc]
 refine tree_pure ?_ rfl (by rfl) (fun w' hs => ?_) (fun _ _ _ h => h) ?_
 rotate_left
 ·clear hs
  go_simp
  try rfl
 simp only [Act.put, tsa, tsb, tsc]
 refine tree_pure ?_ rfl (by rfl) (fun w' hs => ?_) (fun _ _ _ h => h) ?_
 rotate_left
 ·clear hs
  go_simp
  try rfl
 simp only [Act.put, tsa, tsb, tsc]
 refine tree_fin ?_
 go_wp2_with fail
 refine (ref_failed m.gas 16 _).mono ?_
 rintro e w1 ⟨rfl, hb1⟩
 have t3 : T w1 := HTB.out _ _ t2 hb1
 have hf1 := (HTG.out _ t3).1.t6
 have HB1 := Lib.hid (HBB.out _ t3)
 have hok := outS_ok ⟨m.gas, 16, [], [], 0⟩ none none 0 0 0 0
 clear hb1 t3 t2
 go_wp2
 exact ret_row ty46 rfl _ rfl rfl hf1 hok ⟨rfl, HB1.out.setCells (by omega) _ _⟩
end Go.Proofs.YtiglinnjnobodaaGreat
