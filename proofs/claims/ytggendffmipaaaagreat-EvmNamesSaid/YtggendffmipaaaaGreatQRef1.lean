/-
  The contract of the reference's Of: a whole number as a word.
  The law's accounts: one with a code.
  The law's example: it holds.
-/
import Derived.Test.YtggendffmipaaaaGreatQNw1
set_option linter.unusedVariables false
set_option linter.unusedSimpArgs false
namespace Go.Proofs.YtggendffmipaaaaGreat
open Go.RowKit Go.Mun

/-- The reference's word while it is written: m is what is left of n behind 31 - i of its bytes. -/
structure RO (n : Int) (k j : Nat) (w wr : World) : Prop where
  below : Below w.heap.size w wr
  size : w.heap.size + 1 < wr.heap.size
  res : wr.free? w.heap.size 0 32 = true
  free : wr.free? (w.heap.size + 1) 0 32 = true
  row : ∃ L : List Int, wr.row? (w.heap.size + 1) 0 32 = some (u8L L) ∧ L.length = 32 ∧ (∀ i, i < 32 → 32 - k ≤ i → L[i]?.getD 0 = n / 256 ^ (31 - i) % 256) ∧ (∀ i, i < j → L[i]?.getD 0 = n / 256 ^ 8 % 256)

theorem RO.cell {n : Int} {k j : Nat} {w wr : World} (h : RO n k j w wr) (i : Nat) (hi : i < 32) :
    wr.frozen? ⟨w.heap.size + 1, i, none⟩ = false ∧ ∃ v, wr.cell? ⟨w.heap.size + 1, i, none⟩ = some v := by
  have := World.free?_there h.free i hi
  simp only [Nat.zero_add] at this
  exact ⟨this.2, Option.isSome_iff_exists.1 this.1⟩

theorem RO.step1 {n : Int} {k : Nat} {w wr : World} (h : RO n k 0 w wr) (hk : k < 8) (x : Int) (hx : x = n / 256 ^ k % 256) :
    RO n (k + 1) 0 w (wr.setCell ⟨w.heap.size + 1, 31 - k, none⟩ (.int .u8 x)) := by
  obtain ⟨h1, h2, h3, h4, L, h5, h6, h7, h8⟩ := h
  have hf := World.free?_sub h4 (o' := 31 - k) (n' := 1) (by omega)
  refine ⟨h1.setCell (by simp) _, by simpa using h2, by rw [free?_setCell _ hf]; exact h3, by rw [free?_setCell _ hf]; exact h4, L.set (31 - k) x, ?_, by simpa using h6, fun i hi hik => ?_, fun i hi => by omega⟩
  · rw [row?_setCell_in _ h5 (Nat.zero_le _) (by omega)]
    simp only [Nat.sub_zero]
    rw [u8L_set L _ (by omega)]
  · rw [List.getElem?_set]
    by_cases h9 : 31 - k = i
    · rw [if_pos h9, if_pos (by omega), hx]; simp only [Option.getD_some]; congr 3; omega
    · rw [if_neg h9]; exact h7 i hi (by omega)

theorem RO.step2 {n : Int} {j : Nat} {w wr : World} (h : RO n 8 j w wr) (hj : j < 24) (x : Int) (hx : x = n / 256 ^ 8 % 256) :
    RO n 8 (j + 1) w (wr.setCell ⟨w.heap.size + 1, j, none⟩ (.int .u8 x)) := by
  obtain ⟨h1, h2, h3, h4, L, h5, h6, h7, h8⟩ := h
  have hf := World.free?_sub h4 (o' := j) (n' := 1) (by omega)
  refine ⟨h1.setCell (by simp) _, by simpa using h2, by rw [free?_setCell _ hf]; exact h3, by rw [free?_setCell _ hf]; exact h4, L.set j x, ?_, by simpa using h6, fun i hi hik => ?_, fun i hi => ?_⟩
  · rw [row?_setCell_in _ h5 (Nat.zero_le _) (by omega)]
    simp only [Nat.sub_zero]
    rw [u8L_set L _ (by omega)]
  · rw [List.getElem?_set, if_neg (by omega)]; exact h7 i hi hik
  · rw [List.getElem?_set]
    by_cases h9 : j = i
    · rw [if_pos h9, if_pos (by omega), hx]; rfl
    · rw [if_neg h9]; exact h8 i (by omega)

theorem RO.done {n : Int} {w wr : World} (h : RO n 8 24 w wr) (hn : -9223372036854775808 ≤ n) (hn' : n ≤ 9223372036854775807) : wr.row? (w.heap.size + 1) 0 32 = some (beC 32 (ofW n)) := by
  obtain ⟨h1, h2, h3, h4, L, h5, h6, h7, h8⟩ := h
  rw [h5]
  have : L = be 32 (ofW n) := by
    apply List.ext_getElem (by simpa using h6)
    intro i g1 g2
    have hi : i < 32 := by omega
    have e : (be 32 (ofW n))[i] = n / 256 ^ (31 - i) % 256 := by
      rw [← ofW_byte n (31 - i) (by omega)]; simp [be]
    refine Eq.trans ?_ e.symm
    by_cases h24 : 24 ≤ i
    · have := h7 i hi (by omega); simpa [g1] using this
    · have h9 := h8 i (by omega)
      have h10 : n / 256 ^ (31 - i) % 256 = n / 256 ^ 8 % 256 := by
        obtain ⟨t, ht⟩ : ∃ t, 31 - i = 8 + t := ⟨31 - i - 8, by omega⟩
        rw [ht, Int.pow_add, ← Int.ediv_ediv_of_nonneg (by decide)]
        have hp : (0 : Int) < 256 ^ t := Int.pow_pos (by decide)
        have hq : n / 256 ^ 8 = 0 ∨ n / 256 ^ 8 = -1 := by omega
        rcases hq with hq | hq
        · rw [hq]; simp
        · rw [hq]
          have : (-1 : Int) / 256 ^ t = -1 := by
            rw [Int.neg_one_ediv]; simp [Int.sign_eq_one_of_pos hp]
          rw [this]
      rw [h10, ← h9]; simp [g1]
  rw [this]; rfl

attribute [local irreducible] be beC zU8
set_option maxRecDepth 10000 in
set_option maxHeartbeats 400000 in
theorem ref_of (n : Int) (hn : -9223372036854775808 ≤ n) (hn' : n ≤ 9223372036854775807) (w : World) :
    Calls Tryz.prog 21 #[.int .i64 n] w fun e w' => e = .returned (.agg (beC 32 (ofW n)).toArray) ∧ Below w.heap.size w w' := by
  have HN := Lib.hid (And.intro hn hn')
  clear hn hn'
  go_enter Tryz.func21, Tryz.ntmps21
  go_wp2
  go_loopw [0, 4] (fun m i wr => ∃ k : Nat, k ≤ 8 ∧ i = .int .i64 (31 - (k : Int)) ∧ m = .int .i64 (n / 256 ^ k) ∧ RO n k 0 w wr) (fun _ i _ => (intOf i).toNat)
  case atStart =>
    refine ⟨0, by omega, rfl, by simp, ((Below.refl _ _).alloc (Nat.le_refl _) _).alloc (by simp) _, by simp, by simp [go_sem], by simp [go_sem], List.replicate 32 0, ?_, by simp, by intro i hi hi'; omega, by intro i hi; omega⟩
    have : u8L (List.replicate 32 0) = zU8 32 := by simp [u8L, zU8]
    rw [this]
    simp [go_sem]
  case round =>
    obtain ⟨k, hk, rfl, rfl, hr⟩ := hrel
    by_cases hlt : k < 8
    · have hf := World.free?_sub hr.free (o' := 31 - k) (n' := 1) (by omega)
      have HR := Lib.hid hr
      clear hr
      generalize hm : n / 256 ^ k = m at *
      have HM := Lib.hid hm
      clear hm
      go_wp2
      go_roundw
      case rel =>
        refine ⟨k + 1, by omega, by go_num, ?_, HR.out.step1 hlt _ ?_⟩
        · rw [← HM.out, Int.pow_succ, ← Int.ediv_ediv_of_nonneg (by have : (0 : Int) < 256 ^ k := Int.pow_pos (by decide); omega)]
        · rw [HM.out, and_255]; omega
      case measure => simp [intOf]; omega
    · obtain rfl : k = 8 := by omega
      generalize hm : n / 256 ^ 8 = m at *
      have HM := Lib.hid hm
      clear hm
      have HR0 := Lib.hid hr
      clear hr
      go_wp2
      go_loopw [5] (fun i wr => ∃ j : Nat, j ≤ 24 ∧ i = .int .i64 j ∧ RO n 8 j w wr) (fun i _ => 24 - (intOf i).toNat)
      case atStart => exact ⟨0, by omega, rfl, HR0.out⟩
      case round =>
        obtain ⟨j, hj, rfl, hr⟩ := hrel
        by_cases hlt : j < 24
        · have hf := World.free?_sub hr.free (o' := j) (n' := 1) (by omega)
          have HR := Lib.hid hr
          clear hr
          go_wp2
          go_roundw
          case rel =>
            refine ⟨j + 1, by omega, by go_num, HR.out.step2 hlt _ ?_⟩
            rw [HM.out, and_255]; omega
          case measure => simp [intOf]; omega
        · obtain rfl : j = 24 := by omega
          have h1 := hr.done HN.out.1 HN.out.2
          have h2 := hr.res
          have h3 := hr.size
          go_wp2
          refine ret_row ty25 rfl _ rfl rfl h2 (beC_ok _ _) ⟨rfl, hr.below.setCells (Nat.le_refl _) _ _⟩
theorem beC_small (n : Nat) (hn : n < 256) : (zU8 20).set 19 (.int .u8 n) = beC 20 n := by
  have hz : Byt (List.replicate 19 0 ++ [(n : Int)]) := byt_app (byt_zeros 19) (fun x hx => by obtain rfl := List.mem_singleton.1 hx; omega)
  have e := be_beN _ hz
  rw [beN_zeros] at e
  have h1 : beN [(n : Int)] = n := by simp [beN]
  rw [h1] at e
  have h2 : (List.replicate 19 (0 : Int) ++ [(n : Int)]).length = 20 := by simp
  rw [h2] at e
  unfold beC
  rw [e]
  unfold zU8
  rw [List.map_append, List.map_replicate]
  rfl
theorem ref_name (n : Nat) (hn : n < 256) (w : World) : Calls Tryz.prog 14 #[.int .i64 n] w fun e w' => e = .returned (.agg (beC 20 n).toArray) ∧ Below w.heap.size w w' := by
  have f2 : ((w.alloc (.cells (zU8 20).toArray 23)).alloc (.cells (zU8 20).toArray 23)).free? (w.heap.size + 1) 19 1 = true := World.free?_alloc_at _ _ (by simp) (by simp)
  have f1 : ((w.alloc (.cells (zU8 20).toArray 23)).alloc (.cells (beC 20 n).toArray 23)).free? w.heap.size 0 20 = true := by rw [World.free?_alloc_lt _ (by simp)]; exact World.free?_alloc_at _ _ rfl (by simp)
  have hand : bits .and .i64 (n : Int) 255 % 256 = n := by rw [and_255]; omega
  have hw : IntKind.u8.wrap (bits .and .i64 (n : Int) 255) = n := by rw [and_255, wr8 _ (by omega) (by omega)]; omega
  have hok := beC_ok 20 n
  have hset := beC_small n hn
  have F1 := Lib.hid f1
  clear f1
  go_enter Tryz.func14, Tryz.ntmps14
  go_wp2
  exact ret_row ty23 rfl _ rfl rfl F1.out hok ⟨rfl, (((Below.refl _ _).alloc (Nat.le_refl _) _).alloc (by simp) _).setCells (Nat.le_refl _) _ _⟩
end Go.Proofs.YtggendffmipaaaaGreat
namespace Go.Proofs.YtggendffmipaaaaGreat
open Go.RowKit Go.Mun

theorem lens81 : lens zs81 = [20, 1, 32, 1, 1] := by kernel_rfl
theorem build81a (a b : Nat) (p : Option Addr) (k c : Nat) : fillL 55 (plOf zs81) (cat zs81) [(0, .agg (beC 20 a).toArray), (2, .agg (beC 32 b).toArray), (3, .slice p k c)] = some (cat (acS ⟨a, 0, b, []⟩ (.slice p k c) (.slice none 0 0))) := by
  rw [fillL_cats _ _ _ zs81_len]
  · rfl
  · rw [lens81]
    refine fits_cons ?_ (fits_cons ?_ (fits_cons rfl (fits_nil _)))
    · show some 20 = some (beC 20 a).length; rw [beC_len]
    · show some 32 = some (beC 32 b).length; rw [beC_len]
theorem build81b (a b : Nat) : fillL 55 (plOf zs81) (cat zs81) [(0, .agg (beC 20 a).toArray), (2, .agg (beC 32 b).toArray)] = some (cat (acS ⟨a, 0, b, []⟩ (.slice none 0 0) (.slice none 0 0))) := by
  rw [fillL_cats _ _ _ zs81_len]
  · rfl
  · rw [lens81]
    refine fits_cons ?_ (fits_cons ?_ (fits_nil _))
    · show some 20 = some (beC 20 a).length; rw [beC_len]
    · show some 32 = some (beC 32 b).length; rw [beC_len]
set_option maxRecDepth 1000000 in
theorem sl36_2 : SliceLit Tryz.prog 36 81 55 2 (cat [cat zs81, cat zs81]) := ⟨Tryz.underlying36, ⟨_, .agg (cat zs81).toArray, rfl, by kernel_rfl, by kernel_rfl, by kernel_rfl⟩, by decide, by kernel_rfl, by decide⟩
def fill36 (p : List (Nat × Value)) : Option (List Value) := fillL (2 * 55) ((List.range 2).map fun i => (i * 55, 55)) (cat [cat zs81, cat zs81]) p
theorem bs36_2 (ρ : Operand → Value) (dst : Option Tmp) (x y : Operand) (t : TypeId) (pos : String) (after : Array Edge) (gd : Option (Nat × Bool)) (w : World) :
    (execOp ρ ⟨dst, .buildSlice 36 2 #[(0, x), (1, y)], t, pos, after, gd⟩).run Tryz.prog w = asNext (bsRow Tryz.prog 36 81 2 [(0, ρ x), (1, ρ y)] w (fill36 [(0, ρ x), (1, ρ y)])) :=
  ex_bslice ρ dst t pos after gd w sl36_2 [(0, x), (1, y)]
theorem fill36_two (a b : List Value) (ha : a.length = 55) (hb : b.length = 55) : fill36 [(0, .agg a.toArray), (1, .agg b.toArray)] = some (cat [a, b]) := by
  unfold fill36
  have h1 : lens [cat zs81, cat zs81] = [55, 55] := by kernel_rfl
  have h3 : plOf [cat zs81, cat zs81] = (List.range 2).map fun i => (i * 55, 55) := by kernel_rfl
  rw [← h3, fillL_cats _ _ _ (by kernel_rfl)]
  · rfl
  · rw [h1]
    refine fits_cons ?_ (fits_cons ?_ (fits_nil _))
    · show some 55 = some a.length; rw [ha]
    · show some 55 = some b.length; rw [hb]
attribute [go_sem ↓] bs36_2
def oneL (code : Bts) : List Ac := [⟨1, 0, 1000, code⟩, ⟨2, 0, 5000, []⟩]
set_option maxRecDepth 100000 in
theorem law_one {w : World} {cv : Value} {code : Bts} (hc : RoAt w (fun _ => False) cv code) :
    Calls Tryz.prog 12 #[cv] w fun e w' => ∃ b, e = .returned (.slice (some ⟨b, 0, none⟩) 2 2) ∧ Below w.heap.size w w' ∧ ∀ i (hi : i < (oneL code).length), AcAt w' b (0 + i * 55) (oneL code)[i] := by
  obtain ⟨⟨ca, cc, rfl, hci, hcx⟩, hcb, hcl⟩ := hc
  have HC : Hid (RoAt w (fun _ => False) (.slice ca code.length cc) code) := ⟨⟨ca, cc, rfl, hci, hcx⟩, hcb, hcl⟩
  have o1 : ofW 1000 = 1000 := by kernel_rfl
  have o2 : ofW 5000 = 5000 := by kernel_rfl
  have N1 := Lib.hid (fun w => ref_name 1 (by decide) w)
  have N2 := Lib.hid (fun w => ref_name 2 (by decide) w)
  have O1 := Lib.hid (fun w => ref_of 1000 (by decide) (by decide) w)
  have O2 := Lib.hid (fun w => ref_of 5000 (by decide) (by decide) w)
  rw [o1] at O1
  rw [o2] at O2
  have b1 := build81a 1 1000 ca code.length cc
  have b2 := build81b 2 5000
  have bf := fill36_two (cat (acS ⟨1, 0, 1000, []⟩ (.slice ca code.length cc) (.slice none 0 0))) (cat (acS ⟨2, 0, 5000, []⟩ (.slice none 0 0) (.slice none 0 0))) (acS_len _ _ _) (acS_len _ _ _)
  clear hci hcx hcb hcl o1 o2
  go_enter Tryz.func12, Tryz.ntmps12
  go_wp2_with fail
  refine (N1.out _).mono ?_
  rintro e w1 ⟨rfl, h1⟩
  go_wp2_with fail
  refine (O1.out _).mono ?_
  rintro e w2 ⟨rfl, h2⟩
  go_wp2_with fail
  refine (N2.out _).mono ?_
  rintro e w3 ⟨rfl, h3⟩
  go_wp2_with fail
  refine (O2.out _).mono ?_
  rintro e w4 ⟨rfl, h4⟩
  have hb : Below w.heap.size w w4 := ((h1.trans (h2.mono h1.size)).trans (h3.mono (by have := h1.size; have := h2.size; omega))).trans (h4.mono (by have := h1.size; have := h2.size; have := h3.size; omega))
  have HB := Lib.hid hb
  clear h1 h2 h3 h4 hb
  go_wp2
  go_ret
  refine ⟨_, rfl, HB.out.alloc HB.out.size _, fun i hi => ?_⟩
  have r := World.row?_alloc_at (w := w4) (cat [cat (acS ⟨1, 0, 1000, []⟩ (.slice ca code.length cc) (.slice none 0 0)), cat (acS ⟨2, 0, 5000, []⟩ (.slice none 0 0) (.slice none 0 0))]) 81 (0, 0) rfl (n := 110) (by rw [cat_len_cons, cat_len_cons, acS_len, acS_len]; rfl)
  have hb2 := HB.out.alloc HB.out.size (.cells (cat [cat (acS ⟨1, 0, 1000, []⟩ (.slice ca code.length cc) (.slice none 0 0)), cat (acS ⟨2, 0, 5000, []⟩ (.slice none 0 0) (.slice none 0 0))]).toArray 81)
  match i, hi with
  | 0, _ => exact ⟨⟨_, row_cat r (i := 0) rfl (by simp [offOf_zero]) (by simp), HC.out.below hb2⟩, by show 1 < wA; decide, by show 1000 < wW; decide, by show (0 : Int) ≤ _; decide⟩
  | 1, _ => exact ⟨⟨_, row_cat r (i := 1) rfl (by simp [offOf_succ, offOf_zero]) (by simp), roAt_nil _ _⟩, by show 2 < wA; decide, by show 5000 < wW; decide, by show (0 : Int) ≤ _; decide⟩
  | i + 2, hi => exact absurd hi (by simp [oneL])
end Go.Proofs.YtggendffmipaaaaGreat
namespace Go.Proofs.YtggendffmipaaaaGreat
open Go.RowKit Go.Mun

def codeA : Bts := [96, 5, 96, 0, 85]
def msgA : Msg := ⟨0, 2, 1, 0, 0, 0, [], 30000, 0, false⟩
def stA : St := newS (oneL codeA)
def st1A : St := (stA.setBal 2 5000).setBal 1 1000
theorem moveA : stA.move msgA.frm msgA.to msgA.value = some st1A := by kernel_rfl
theorem loopA : (loopR stepP 10 (frame0 msgA (st1A msgA.to).code) st1A).map (fun r => (r.1, r.2.1.gas, (r.2.2 1).slots 0)) = some (0, 9994, 5) := by kernel_rfl
theorem runA : ∃ f' S', loopR stepP 10 (frame0 msgA (st1A msgA.to).code) st1A = some (0, f', S') ∧ f'.gas = 9994 ∧ (S' 1).slots 0 = 5 := by
  have h := loopA
  cases e : loopR stepP 10 (frame0 msgA (st1A msgA.to).code) st1A with
  | none => rw [e] at h; cases h
  | some r =>
    obtain ⟨x, f', S'⟩ := r
    rw [e] at h
    simp only [Option.map_some, Option.some.injEq, Prod.mk.injEq] at h
    obtain ⟨rfl, h2, h3⟩ := h
    exact ⟨f', S', rfl, h2, h3⟩
theorem lens42 : lens zs42 = [1, 20, 20, 20, 32, 32, 1, 1, 1, 1] := by kernel_rfl
theorem build42a : fillL 129 (plOf zs42) (cat zs42) [(1, .agg (beC 20 2).toArray), (2, .agg (beC 20 1).toArray), (7, .int .i64 30000)] = some (cat (msgS msgA (.slice none 0 0))) := by
  rw [fillL_cats _ _ _ zs42_len]
  · rfl
  · rw [lens42]
    refine fits_cons ?_ (fits_cons ?_ (fits_cons rfl (fits_nil _)))
    · show some 20 = some (beC 20 2).length; rw [beC_len]
    · show some 20 = some (beC 20 1).length; rw [beC_len]
theorem law_num (e : Int) (w : World) : Calls Tryz.prog 19 #[.int .i64 e] w fun r w' => r = .returned (.int .i64 e) ∧ w' = w := by
  go_enter Tryz.func19, Tryz.ntmps19
  go_wp2
  go_ret
  exact ⟨rfl, rfl⟩
set_option maxRecDepth 100000 in
set_option maxHeartbeats 200000 in
/-- The example holds. -/
theorem law_alive (w : World) : Calls Tryz.prog 5 #[] w fun e w' => e = .returned (.bool true) ∧ Below w.heap.size w w' := by
  obtain ⟨f', S', hrun, hgas, hslot⟩ := runA
  have HR := Lib.hid hrun
  have HGS := Lib.hid hgas
  have HSL := Lib.hid hslot
  have o5 : ofW 5 = 5 := by kernel_rfl
  have N1 := Lib.hid (fun w => ref_name 1 (by decide) w)
  have N2 := Lib.hid (fun w => ref_name 2 (by decide) w)
  have O5 := Lib.hid (fun w => ref_of 5 (by decide) (by decide) w)
  rw [o5] at O5
  have b42 := build42a
  have HRO : Hid (RoAt (w.alloc (.cells (codeA.map (Value.int .u8)).toArray 5)) (fun _ => False) (.slice (some ⟨w.heap.size, 0, none⟩) codeA.length codeA.length) codeA) :=
    ⟨⟨_, _, rfl, Ints.new w .u8 codeA 5 (by decide), fun _ _ _ h => h⟩, by intro x hx; simp [codeA] at hx; omega, by decide⟩
  have HB0 : Hid (Below w.heap.size w (w.alloc (.cells (codeA.map (Value.int .u8)).toArray 5))) := (Below.refl _ _).alloc (Nat.le_refl _) _
  clear hrun hgas hslot o5
  go_enter Tryz.func5, Tryz.ntmps5
  go_wp2_with fail
  refine (law_one HRO.out).mono ?_
  rintro e w1 ⟨b, rfl, hb1, hac⟩
  have HN := Lib.hid (state_new b 0 2 (oneL codeA) (by decide) w1 hac)
  have HB1 := Lib.hid (HB0.out.trans (hb1.mono HB0.out.size))
  clear hb1 hac HB0
  go_wp2_with fail
  refine HN.out.mono ?_
  rintro e w2 ⟨sb, rfl, hb2, own, hst, hlo⟩
  have HST := Lib.hid hst
  have HLO := Lib.hid hlo
  have HB2 := Lib.hid (HB1.out.trans (hb2.mono HB1.out.size))
  clear hst hlo hb2
  go_wp2_with fail
  refine (N2.out _).mono ?_
  rintro e w3 ⟨rfl, hb3⟩
  have HST3 := Lib.hid (HST.out.below hb3)
  have HB3 := Lib.hid (HB2.out.trans (hb3.mono HB2.out.size))
  clear hb3
  go_wp2_with fail
  refine (N1.out _).mono ?_
  rintro e w4 ⟨rfl, hb4⟩
  have HST4 := Lib.hid (HST3.out.below hb4)
  have HB4 := Lib.hid (HB3.out.trans (hb4.mono HB3.out.size))
  clear hb4
  have HRUN := Lib.hid (evm_run_ok (w := w4) (cx := ⟨0, 0, 0, 0, 0⟩) (N := 40000) (m := msgA) HST4.out (by decide) ⟨by show 2 < wA; decide, by show 1 < wA; decide, by show 0 < wA; decide, by show 0 < wW; decide, by show 0 < wW; decide, by decide, by decide⟩ rfl (by decide) (by decide) (roAt_nil _ _) (by decide) (fun rb tb tab ht => stepP_ok ht) moveA HR.out)
  go_wp2_with fail
  refine HRUN.out.mono ?_
  rintro e w5 ⟨o, ov, lv, own5, n5, rfl, st5, g5, oa5, -, -, h3, h4, -, -⟩
  obtain ⟨oa, ok, lb, lj, rfl, rfl⟩ := oa5.forms
  have hok8 := outS_ok o oa lb o.out.length ok o.logs.length lj
  have hf5 : (w5.alloc (.cells (cat zs46).toArray 46)).free? w5.heap.size 0 24 = true := World.free?_alloc_at _ _ rfl (by rw [zs46_len]; omega)
  have hbx := box_new (w := w5) (t := 46) (n := 24) zs46_len hok8
  obtain ⟨w6, e6⟩ : ∃ w6, w6 = (w5.alloc (.cells (cat zs46).toArray 46)).setCells w5.heap.size 0 (cat (outS o (.slice oa o.out.length ok) (.slice lb o.logs.length lj))) := ⟨_, rfl⟩
  rw [← e6] at hbx
  have c0 := out_gas hbx.2
  have c1 := out_err hbx.2
  rw [h4, HGS.out] at c0
  rw [h3, Nat.zero_add] at c1
  have HST6 := Lib.hid (st5.below hbx.1)
  have HB5 : Hid (Below w.heap.size w w5) := HB4.out.trans (g5.only.below HB4.out.size (fun i hi => Nat.le_trans HB1.out.size (HLO.out i hi)))
  have HB6 := Lib.hid (HB5.out.trans (hbx.1.mono HB5.out.size))
  have HE6 := Lib.hid e6
  have HC0 := Lib.hid c0
  have HC1 := Lib.hid c1
  rw [e6] at c0 c1
  have heq : ∀ w, (binOp .eql 25 (.agg (beC 32 5).toArray) (.agg (beC 32 5).toArray)).run Tryz.prog w = .ok (.bool true) w := fun w => by
    have := eql_of (fun d => eqD25 (a := 5) (b := 5) (by decide) (by decide) w d)
    simpa using this
  clear st5 g5 oa5 h3 h4 e6 hbx b42
  have HEQ := Lib.hid heq
  clear heq
  generalize Value.agg (cat (msgS msgA (Value.slice none 0 0))).toArray = vm at *
  generalize Value.agg (cat zs49).toArray = vc at *
  go_wp2_with fail
  rw [← HE6.out]
  have d0 := HC0.out
  have d1 := HC1.out
  refine (law_num 0 _).mono ?_
  rintro e w7 ⟨rfl, rfl⟩
  go_wp2_with fail
  refine (N1.out _).mono ?_
  rintro e w8 ⟨rfl, hb8⟩
  have HST8 := Lib.hid (HST6.out.below hb8)
  have HB8 := Lib.hid (HB6.out.trans (hb8.mono HB6.out.size))
  clear hb8
  go_wp2_with fail
  refine (st_slot HST8.out 1 0 (by decide) (by decide)).mono ?_
  rintro e w9 ⟨rfl, hb9⟩
  have HB9 := Lib.hid (HB8.out.trans (hb9.mono HB8.out.size))
  clear hb9
  rw [HSL.out]
  go_wp2_with fail
  refine (O5.out _).mono ?_
  rintro e w10 ⟨rfl, hb10⟩
  have HBX := Lib.hid (HB9.out.trans (hb10.mono HB9.out.size))
  clear hb10
  have heq := HEQ.out
  go_wp2
  go_ret
  exact ⟨rfl, HBX.out⟩
end Go.Proofs.YtggendffmipaaaaGreat
