/-
  The reference's IntOf, of what its WordOf comes to.
  The reference's IntOf, of what its WordOf comes to.
  The reference's WordOf: the ways that give none.
  The reference's WordOf: a word.
  The reference's WordOf: of no bytes.
  The reference's Of: the short ways.
-/
import Derived.Test.YtikiciojfhfagaaGreatQKd9
set_option linter.unusedVariables false
set_option linter.unusedSimpArgs false
namespace Go.Proofs.YtikiciojfhfagaaGreat
open Go.RowKit Go.Mun

theorem beN_low (l : Bts) (hb : Byt l) (hl : 0 < l.length) (h0 : l[0]?.getD 0 ≠ 0) : ∀ q, q + 1 ≤ l.length → 256 ^ q ≤ beN (l.take (q + 1))
  | 0, _ => by
    have h1 := beN_take l 0 hl
    have h2 : (0 : Int) ≤ l[0]?.getD 0 := by rw [List.getElem?_eq_getElem hl]; exact (hb _ (List.getElem_mem _)).1
    rw [h1]
    simp only [Nat.pow_zero]
    omega
  | q + 1, hq => by
    have ih := beN_low l hb hl h0 q (by omega)
    have h1 := beN_take l (q + 1) (by omega)
    rw [h1, Nat.pow_succ]
    omega
theorem intK_word (k : Option Bts) (hb : ∀ l, k = some l → Byt l) : intK k = (wordK k).bind fitK := by
  cases k with
  | none => rfl
  | some l =>
    have hby := hb l rfl
    show (if numB (some l) = true ∧ l.length ≤ 8 ∧ beN l ≤ 9223372036854775807 then some (beN l) else none) = Option.bind (if numB (some l) = true ∧ l.length ≤ 32 then some (beN l) else none) fitK
    by_cases hn : numB (some l) = true
    · by_cases h8 : l.length ≤ 8
      · by_cases hs : beN l ≤ 9223372036854775807
        · rw [if_pos ⟨hn, h8, hs⟩, if_pos ⟨hn, by omega⟩]
          show _ = fitK _
          unfold fitK; rw [if_pos (by omega)]
        · rw [if_neg (by omega), if_pos ⟨hn, by omega⟩]
          show _ = fitK _
          unfold fitK; rw [if_neg (by omega)]
      · rw [if_neg (by omega)]
        by_cases h32 : l.length ≤ 32
        · rw [if_pos ⟨hn, h32⟩]
          have h0 : l[0]?.getD 0 ≠ 0 := by
            have hn : (l.isEmpty || !(l[0]?.getD 0 == 0)) = true := hn
            have hne : l.isEmpty = false := by cases l with
              | nil => simp at h8
              | cons _ _ => rfl
            rw [hne] at hn
            simpa using hn
          have := beN_low l hby (by omega) h0 (l.length - 1) (by omega)
          rw [show l.length - 1 + 1 = l.length by omega, List.take_length] at this
          have h1 : 256 ^ 8 ≤ 256 ^ (l.length - 1) := Nat.pow_le_pow_right (by decide) (by omega)
          have h2 : (256 : Nat) ^ 8 = 18446744073709551616 := by decide
          show _ = fitK _
          unfold fitK; rw [if_neg (by omega)]
        · rw [if_neg (fun h => h32 h.2)]; rfl
    · rw [if_neg (fun h => hn h.1), if_neg (fun h => hn h.1)]; rfl
end Go.Proofs.YtikiciojfhfagaaGreat
namespace Go.Proofs.YtikiciojfhfagaaGreat
open Go.RowKit Go.Mun

def RefWordOk : Prop := ∀ (R : Nat → Prop) (cs : List Value) (k : Option Bts) (w : World), KidAt w R cs k →
  Calls Tryz.prog 85 #[.agg cs.toArray] w fun e w' => e = .returned (.tuple #[.agg (beC 32 ((wordK k).getD 0)).toArray, .bool (wordK k).isSome]) ∧ Below w.heap.size w w'
theorem wordK_lt {k : Option Bts} (hb : ∀ l, k = some l → Byt l) : (wordK k).getD 0 < 256 ^ 32 := by
  cases k with
  | none => exact Nat.pow_pos (by decide)
  | some l =>
    show (if numB (some l) = true ∧ l.length ≤ 32 then some (beN l) else none).getD 0 < 256 ^ 32
    by_cases h : numB (some l) = true ∧ l.length ≤ 32
    · rw [if_pos h]
      exact Nat.lt_of_lt_of_le (beN_lt l (hb l rfl)) (Nat.pow_le_pow_right (by decide) h.2)
    · rw [if_neg h]; exact Nat.pow_pos (by decide)
set_option maxRecDepth 100000 in
set_option maxHeartbeats 1000000 in
theorem ref_IntOf (hwd : RefWordOk) {R : Nat → Prop} {cs : List Value} {k : Option Bts} {w : World} (h : KidAt w R cs k) :
    Calls Tryz.prog 84 #[.agg cs.toArray] w fun e w' => e = .returned (.tuple #[.int .i64 (((intK k).getD 0 : Nat) : Int), .bool (intK k).isSome]) ∧ Below w.heap.size w w' := by
  have hcl := h.len
  have hby : ∀ l, k = some l → Byt l := fun l hl => by subst hl; obtain ⟨_, _, _, _, _, h5⟩ := h; exact h5
  obtain ⟨w0, e0⟩ : ∃ w0, w0 = w.alloc (.cells cs.toArray 65) := ⟨_, rfl⟩
  have hb0 : Below w.heap.size w w0 := by rw [e0]; exact (Below.refl _ _).alloc (Nat.le_refl _) _
  have hr : w0.row? w.heap.size 0 3 = some cs := by rw [e0]; exact World.row?_alloc_at _ _ _ rfl hcl
  have HIW := Lib.hid (intK_word k hby)
  have HLT := Lib.hid (wordK_lt hby)
  have HC := Lib.hid (hwd _ cs k w0 (h.only (R' := fun _ => True) (Only.of_below_size hb0) (fun _ _ _ h => h) (fun _ _ _ => trivial)))
  have HE := Lib.hid e0
  have HB := Lib.hid hb0
  rw [e0] at hr
  clear hb0 e0 h hby hwd
  go_enter Tryz.func84, Tryz.ntmps84
  go_wp2_with fail
  rw [← HE.out]
  refine HC.out.mono ?_
  rintro e w1 ⟨rfl, hb1⟩
  obtain ⟨wk, hwk⟩ : ∃ wk, wk = wordK k := ⟨_, rfl⟩
  have HLT2 : Hid (wk.getD 0 < 256 ^ 32) := by show _ < _; rw [hwk]; exact HLT.out
  have HIW2 : Hid (intK k = wk.bind fitK) := by show _ = _; rw [hwk]; exact HIW.out
  rw [← hwk]
  have okV := beC_ok 32 (wk.getD 0)
  obtain ⟨W1, eW1⟩ : ∃ W1, W1 = (w1.alloc (.cells (zU8 32).toArray 25)).setCells w1.heap.size 0 (beC 32 (wk.getD 0)) := ⟨_, rfl⟩
  have hb1' : Below w0.heap.size w0 W1 := by rw [eW1]; exact (hb1.alloc hb1.size _).setCells hb1.size _ _
  have hA : Arr W1 w1.heap.size 32 (beC 32 (wk.getD 0)) := by rw [eW1]; exact (Arr.new w1 32 (zU8 32) 25 (by simp [zU8])).setCells _ okV
  have ra := hA.row
  have f25 : (w1.alloc (.cells (zU8 32).toArray 25)).free? w1.heap.size 0 32 = true := World.free?_alloc_at _ _ rfl (by simp [zU8])
  have HI := Lib.hid (ref_Int (wk.getD 0) HLT2.out W1)
  have HB1 := Lib.hid (HB.out.trans (hb1'.mono HB.out.size))
  have HW := Lib.hid eW1
  rw [eW1] at ra
  clear hwk HC HLT hb1 hb1' hA eW1 hr
  go_wp2_with fail
  rw [← HW.out]
  refine HI.out.mono ?_
  rintro e w2 ⟨rfl, hb2⟩
  have HB2 := Lib.hid (HB1.out.trans (hb2.mono HB1.out.size))
  clear hb2 ra
  cases wk with
  | none =>
    have h0 : fitK ((none : Option Nat).getD 0) = some 0 := rfl
    rw [h0]
    go_wp2
    go_ret2
    rw [HIW2.out]
    exact ⟨rfl, HB2.out⟩
  | some n =>
    rw [show (some n).getD 0 = n from rfl]
    generalize hf : fitK n = r at *
    have HF : Hid (intK k = r) := by show _ = _; rw [HIW2.out, ← hf]; rfl
    clear hf
    cases r with
    | none =>
      go_wp2
      go_ret2
      rw [HF.out]
      exact ⟨rfl, HB2.out⟩
    | some m =>
      go_wp2
      go_ret2
      rw [HF.out]
      exact ⟨rfl, HB2.out⟩
end Go.Proofs.YtikiciojfhfagaaGreat
namespace Go.Proofs.YtikiciojfhfagaaGreat
open Go.RowKit Go.Mun

theorem wordK_none {l : Bts} (h : 32 < l.length ∨ numB (some l) = false) : wordK (some l) = none := by
  show (if numB (some l) = true ∧ l.length ≤ 32 then some (beN l) else none) = none
  rw [if_neg]
  rintro ⟨h1, h2⟩
  rcases h with h | h
  · omega
  · rw [h1] at h; cases h
set_option maxRecDepth 100000 in
theorem ref_WordOf_list {R : Nat → Prop} {cs : List Value} {w : World} (h : KidAt w R cs none) :
    Calls Tryz.prog 85 #[.agg cs.toArray] w fun e w' => e = .returned (.tuple #[.agg (beC 32 ((wordK none).getD 0)).toArray, .bool (wordK none).isSome]) ∧ Below w.heap.size w w' := by
  have hokz := beC_ok 32 0
  obtain ⟨a, n, c, rfl⟩ := h
  obtain ⟨w0, e0⟩ : ∃ w0, w0 = ((w.alloc (.cells #[.bool true, .slice none 0 0, .slice a n c] 65)).alloc (.cells (zU8 32).toArray 25)).alloc (.cells (zU8 32).toArray 25) := ⟨_, rfl⟩
  have hb0 : Below w.heap.size w w0 := by rw [e0]; exact (((Below.refl _ _).alloc (Nat.le_refl _) _).alloc (by simp) _).alloc (by simp; omega) _
  have hr : w0.row? w.heap.size 0 3 = some [.bool true, .slice none 0 0, .slice a n c] := by rw [e0, World.row?_alloc_lt _ (by simp; omega), World.row?_alloc_lt _ (by simp)]; exact World.row?_alloc_at [.bool true, .slice none 0 0, .slice a n c] 65 _ rfl rfl
  have hf : w0.free? (w.heap.size + 1) 0 32 = true := by rw [e0, World.free?_alloc_lt _ (by simp)]; exact World.free?_alloc_at _ _ (by simp) (by simp)
  have hz : w0.row? (w.heap.size + 1 + 1) 0 32 = some (beC 32 0) := by rw [e0]; exact World.row?_alloc_at (beC 32 0) 25 _ (by simp) (by simp)
  have HB := Lib.hid hb0
  rw [e0] at hr hf hz HB
  clear hb0 e0
  go_enter Tryz.func85, Tryz.ntmps85
  go_wp2
  exact ret_row2 ty25 rfl _ _ rfl rfl rfl (row?_setCells_whole _ hf hokz) ⟨rfl, HB.out.setCells (by omega) _ _⟩
set_option maxRecDepth 100000 in
theorem ref_WordOf_no {R : Nat → Prop} {cs : List Value} {l : Bts} {w : World} (h : KidAt w R cs (some l)) (hno : 32 < l.length ∨ numB (some l) = false) :
    Calls Tryz.prog 85 #[.agg cs.toArray] w fun e w' => e = .returned (.tuple #[.agg (beC 32 ((wordK (some l)).getD 0)).toArray, .bool (wordK (some l)).isSome]) ∧ Below w.heap.size w w' := by
  have hokz := beC_ok 32 0
  rw [wordK_none hno]
  obtain ⟨a, c, rfl, hI, _, hby⟩ := h
  obtain ⟨w0, e0⟩ : ∃ w0, w0 = ((w.alloc (.cells #[.bool false, .slice a l.length c, .slice none 0 0] 65)).alloc (.cells (zU8 32).toArray 25)).alloc (.cells (zU8 32).toArray 25) := ⟨_, rfl⟩
  have hb0 : Below w.heap.size w w0 := by rw [e0]; exact (((Below.refl _ _).alloc (Nat.le_refl _) _).alloc (by simp) _).alloc (by simp; omega) _
  have hr : w0.row? w.heap.size 0 3 = some [.bool false, .slice a l.length c, .slice none 0 0] := by rw [e0, World.row?_alloc_lt _ (by simp; omega), World.row?_alloc_lt _ (by simp)]; exact World.row?_alloc_at [.bool false, .slice a l.length c, .slice none 0 0] 65 _ rfl rfl
  have hf : w0.free? (w.heap.size + 1) 0 32 = true := by rw [e0, World.free?_alloc_lt _ (by simp)]; exact World.free?_alloc_at _ _ (by simp) (by simp)
  have hz : w0.row? (w.heap.size + 1 + 1) 0 32 = some (beC 32 0) := by rw [e0]; exact World.row?_alloc_at (beC 32 0) 25 _ (by simp) (by simp)
  have HB := Lib.hid hb0
  by_cases h32 : 32 < l.length
  · have d32 : decide ((32 : Int) < l.length) = true := decide_eq_true (by omega)
    rw [e0] at hr hf hz HB
    clear hb0 e0 h32 hno hI hby
    go_enter Tryz.func85, Tryz.ntmps85
    go_wp2
    exact ret_row2 ty25 rfl _ _ rfl rfl rfl (row?_setCells_whole _ hf hokz) ⟨rfl, HB.out.setCells (by omega) _ _⟩
  · have hnb : (l.isEmpty || !(l[0]?.getD 0 == 0)) = false := hno.resolve_left h32
    have hne : l ≠ [] := by rintro rfl; simp at hnb
    have hl : 0 < l.length := List.length_pos_iff.2 hne
    have hx : l[0]?.getD 0 = 0 := by
      have : l.isEmpty = false := by cases l with
        | nil => exact absurd rfl hne
        | cons _ _ => rfl
      rw [this] at hnb
      simpa using hnb
    obtain ⟨b, off, rfl, hbl, hc⟩ := (hI.below hb0).at hl
    have c0 := hc 0 hl
    rw [hx, Nat.add_zero] at c0
    have d32 : decide ((32 : Int) < l.length) = false := decide_eq_false (by omega)
    have d0 : decide ((0 : Int) < l.length) = true := decide_eq_true (by omega)
    have HL := Lib.hid hl
    have hil : (0 : Int) < l.length := by omega
    rw [e0] at hr hf hz HB c0
    clear hb0 e0 h32 hno hI hby hnb hne hx hc
    go_enter Tryz.func85, Tryz.ntmps85
    go_wp2
    exact ret_row2 ty25 rfl _ _ rfl rfl rfl (row?_setCells_whole _ hf hokz) ⟨rfl, HB.out.setCells (by omega) _ _⟩
end Go.Proofs.YtikiciojfhfagaaGreat
namespace Go.Proofs.YtikiciojfhfagaaGreat
open Go.RowKit Go.Mun

theorem zU8_be : zU8 32 = beC 32 0 := by kernel_rfl
set_option maxRecDepth 100000 in
set_option maxHeartbeats 1000000 in
theorem ref_WordOf_yes {R : Nat → Prop} {cs : List Value} {l : Bts} {w : World} (h : KidAt w R cs (some l)) (h32 : l.length ≤ 32) (hnb : numB (some l) = true) (hl0 : ¬ l = []) :
    Calls Tryz.prog 85 #[.agg cs.toArray] w fun e w' => e = .returned (.tuple #[.agg (beC 32 ((wordK (some l)).getD 0)).toArray, .bool (wordK (some l)).isSome]) ∧ Below w.heap.size w w' := by
  have hwk : wordK (some l) = some (beN l) := if_pos ⟨hnb, h32⟩
  rw [hwk]
  have hok5 := beC_ok 32 (beN l)
  obtain ⟨a, c, rfl, hI, _, hby⟩ := h
  have hsb := splice_be 32 l hby h32
  obtain ⟨w0, e0⟩ : ∃ w0, w0 = ((w.alloc (.cells #[.bool false, .slice a l.length c, .slice none 0 0] 65)).alloc (.cells (zU8 32).toArray 25)).alloc (.cells (zU8 32).toArray 25) := ⟨_, rfl⟩
  have hb0 : Below w.heap.size w w0 := by rw [e0]; exact (((Below.refl _ _).alloc (Nat.le_refl _) _).alloc (by simp) _).alloc (by simp; omega) _
  have hr : w0.row? w.heap.size 0 3 = some [.bool false, .slice a l.length c, .slice none 0 0] := by rw [e0, World.row?_alloc_lt _ (by simp; omega), World.row?_alloc_lt _ (by simp)]; exact World.row?_alloc_at [.bool false, .slice a l.length c, .slice none 0 0] 65 _ rfl rfl
  have hf : w0.free? (w.heap.size + 1) 0 32 = true := by rw [e0, World.free?_alloc_lt _ (by simp)]; exact World.free?_alloc_at _ _ (by simp) (by simp)
  have hhp : w0.heap[w.heap.size + 1 + 1]? = some (.cells (zU8 32).toArray 25 (0, 0)) := by
    rw [e0]
    have := heap_alloc_new ((w.alloc (.cells #[.bool false, .slice a l.length c, .slice none 0 0] 65)).alloc (.cells (zU8 32).toArray 25)) (.cells (zU8 32).toArray 25)
    simpa using this
  have q2 : w0.cell? ⟨w.heap.size, 1, none⟩ = some (.slice a l.length c) := by have := World.row?_cell hr (show 1 < 3 by omega); rwa [Nat.zero_add] at this
  have hsrc : ∀ p, a = some p → ∀ j v, (u8L l)[j]? = some v → w0.cell? (p.add j) = some v := by
    intro p hp j v hv
    have hj : j < l.length := by have := (List.getElem?_eq_some_iff.1 hv).1; simpa using this
    obtain ⟨b, off, ha, hbl, hc⟩ := (hI.below hb0).at hj
    rw [ha] at hp; cases hp
    have h1 := hc j hj
    have h2 : v = .int .u8 (l[j]?.getD 0) := by
      rw [List.getElem?_eq_getElem (by simpa using hj)] at hv
      rw [List.getElem?_eq_getElem hj]
      simp [u8L] at hv
      simpa using hv.symm
    rw [h2]
    have ea : (⟨b, off, none⟩ : Addr).add j = ⟨b, off + j, none⟩ := add_off rfl
    rw [ea]
    exact h1
  have hwr : IntKind.i64.wrap (32 - (l.length : Int)) = 32 - (l.length : Int) := wrI _ (by omega) (by omega)
  have hsl : ∃ dp dl, (∀ w', (Instr.sliceAt 25 (.pointer (some ⟨w.heap.size + 1 + 1, 0, none⟩)) (some (.int .i64 (32 - (l.length : Int)))) none none).run Tryz.prog w' = .ok (.slice dp dl dl) w') ∧ dl = l.length ∧ (0 < l.length → dp = some ⟨w.heap.size + 1 + 1, 32 - l.length, none⟩) := by
    by_cases h0 : l.length = 0
    · refine ⟨some ⟨w.heap.size + 1 + 1, 0, none⟩, 0, fun w' => ?_, h0.symm, fun h => by omega⟩
      rw [show 32 - (l.length : Int) = 32 by omega]
      exact slice25_end (w.heap.size + 1 + 1) w'
    · refine ⟨_, l.length, fun w' => ?_, rfl, fun _ => rfl⟩
      have := slice25 (w.heap.size + 1 + 1) (32 - l.length) (by omega) w'
      rw [show 32 - (32 - l.length) = l.length by omega, show ((32 - l.length : Nat) : Int) = 32 - (l.length : Int) by omega] at this
      exact this
  obtain ⟨dp, dl, hsl1, rfl, hdp⟩ := hsl
  have hz0 : ∃ y, ((decide ((0 : Int) < l.length)) = true → w0.cell? ⟨w.heap.size, 1, none⟩ = some (.slice a l.length c)) ∧ y = decide ((0 : Int) < l.length) := ⟨_, fun _ => q2, rfl⟩
  have d32 : decide ((32 : Int) < l.length) = false := decide_eq_false (by omega)
  obtain ⟨T, hT⟩ : ∃ T : World → Prop, T = fun W => W.cell? ⟨w.heap.size, 1, none⟩ = some (.slice a l.length c) := ⟨_, rfl⟩
  have t0 : T w0.drew := by rw [hT]; exact q2
  have HB := Lib.hid hb0
  have HE := Lib.hid e0
  have HT := Lib.hid hT
  have HF := Lib.hid hf
  have HHP := Lib.hid hhp
  have HSRC := Lib.hid hsrc
  have HDP := Lib.hid hdp
  have HI := Lib.hid hI
  have HSB := Lib.hid hsb
  have HL32 := Lib.hid h32
  have HNB := Lib.hid hnb
  rw [e0] at hr
  have HCP : Hid (0 < (u8L l).length → dp = some ⟨w.heap.size + 1 + 1, 32 - l.length, none⟩ ∧ ∃ ad, a = some ad ∧ ∀ j v, (u8L l)[j]? = some v → w0.drew.cell? (ad.add j) = some v) := fun hpos => by
    have hp : 0 < l.length := by simpa using hpos
    obtain ⟨b, off, ha, _, _⟩ := HI.out.at hp
    exact ⟨HDP.out hp, ⟨b, off, none⟩, ha, HSRC.out _ ha⟩
  have HO1 : Hid (∀ v ∈ u8L l, v.oneCell' = true) := fun v hv => by obtain ⟨x, _, rfl⟩ := List.mem_map.1 hv; rfl
  have HSZ : Hid (w0.heap.size = w.heap.size + 1 + 1 + 1) := by show _ = _; rw [HE.out]; simp
  have hl : 0 < l.length := List.length_pos_iff.2 hl0
  obtain ⟨b, off, ha, hbl, hc⟩ := (HI.out.below HB.out).at hl
  have c0 := hc 0 hl
  rw [Nat.add_zero] at c0
  have hx : (l[0]?.getD 0 == 0) = false := by
    have h1 : (l.isEmpty || !(l[0]?.getD 0 == 0)) = true := HNB.out
    have h2 : l.isEmpty = false := by cases l with
      | nil => exact absurd rfl hl0
      | cons _ _ => rfl
    rw [h2] at h1
    simpa using h1
  subst ha
  generalize l[0]?.getD 0 = x0 at *
  have d0 : decide ((0 : Int) < l.length) = true := decide_eq_true (by omega)
  have hil : (0 : Int) < l.length := by omega
  rw [e0] at c0
  clear hc hl hl0
  clear e0 hb0 hf hhp hsrc hdp hI hby hsb h32 hnb hz0 hwk hT
  go_enter Tryz.func85, Tryz.ntmps85
  go_wp2_with fail
  rw [← HE.out]
  refine wp_region_tree T [] (.pure 0 (.take 1 (.pure 2 (.pure 3 (.pure 4 (.pure 5 (.take 6 (.alt 7 .fin .stop)))))))) (by kernel_rfl) (by kernel_rfl) ?_
  refine tree_pure ?_ rfl (by rfl) (fun w' hs => ?_) (fun _ _ _ h => h) ?_
  rotate_left
  · clear hs
    go_simp
    try rfl
  simp only [Act.put, List.setIfInBounds_toArray, List.set_cons_zero, List.set_cons_succ]
  refine tree_take ?_ t0 rfl (by rfl) (fun w' hs => ?_) (fun _ _ _ h => h) ?_
  rotate_left
  · rw [HT.out] at hs
    have q1 := hs
    go_simp
    try rfl
  simp only [Act.put, List.setIfInBounds_toArray, List.set_cons_zero, List.set_cons_succ]
  refine tree_pure ?_ rfl (by rfl) (fun w' hs => ?_) (fun _ _ _ h => h) ?_
  rotate_left
  · clear hs
    go_simp
    try rfl
  simp only [Act.put, List.setIfInBounds_toArray, List.set_cons_zero, List.set_cons_succ]
  refine tree_pure ?_ rfl (by rfl) (fun w' hs => ?_) (fun _ _ _ h => h) ?_
  rotate_left
  · clear hs
    go_simp
    try rfl
  simp only [Act.put, List.setIfInBounds_toArray, List.set_cons_zero, List.set_cons_succ]
  refine tree_pure ?_ rfl (by rfl) (fun w' hs => ?_) (fun _ _ _ h => h) ?_
  rotate_left
  · clear hs
    go_simp
    try rfl
  simp only [Act.put, List.setIfInBounds_toArray, List.set_cons_zero, List.set_cons_succ]
  refine tree_pure ?_ rfl (by rfl) (fun w' hs => ?_) (fun _ _ _ h => h) ?_
  rotate_left
  · clear hs
    go_simp
    try rfl
  simp only [Act.put, List.setIfInBounds_toArray, List.set_cons_zero, List.set_cons_succ]
  refine tree_take ?_ t0 rfl (by rfl) (fun w' hs => ?_) (fun _ _ _ h => h) ?_
  rotate_left
  · rw [HT.out] at hs
    have q1 := hs
    go_simp
    try rfl
  simp only [Act.put, List.setIfInBounds_toArray, List.set_cons_zero, List.set_cons_succ]
  refine tree_run rfl (fun K hK => ?_)
  refine step_copy_splice rfl _ _ 26 26 rfl 5 Tryz.underlying26 (by kernel_rfl) dp _ l.length l.length l.length c rfl rfl (w.heap.size + 1 + 1) (32 - l.length) (zU8 32) 25 HHP.out (u8L l) (by simp) (fun hpos => HCP.out hpos) (by have := HL32.out; simp; omega) HO1.out (w.heap.size + 1 + 1) w0.drew ((Below.refl _ _).mono (by have := HSZ.out; show _ ≤ w0.heap.size; omega)) (Nat.le_refl _) ?_
  intro w5 hg5 hb5
  have t5 : T w5 := by rw [HT.out] at t0 ⊢; exact (hb5.cell (p := ⟨w.heap.size, 1, none⟩) (by show w.heap.size < _; omega)).trans t0
  refine hK.out _ _ t5 ?_
  clear hK K
  refine tree_fin ?_
  rw [HSB.out] at hg5
  have hr5 : w5.row? (w.heap.size + 1 + 1) 0 32 = some (beC 32 (beN l)) := by
    unfold World.row?
    rw [hg5.out]
    simp
    exact List.take_of_length_le (by simp)
  have hf5 : w5.free? (w.heap.size + 1) 0 32 = true := by
    rw [World.free?_of_block (hb5.block _ (Nat.lt_succ_self _))]; exact HF.out
  have HB5 : Hid (Below w.heap.size w w5) := HB.out.drew.trans (hb5.mono (by omega))
  clear hg5 hb5 t0
  go_wp2
  exact ret_row2 ty25 rfl _ _ rfl rfl rfl (row?_setCells_whole _ hf5 hok5) ⟨rfl, HB5.out.setCells (by omega) _ _⟩
end Go.Proofs.YtikiciojfhfagaaGreat
namespace Go.Proofs.YtikiciojfhfagaaGreat
open Go.RowKit Go.Mun

set_option maxRecDepth 100000 in
set_option maxHeartbeats 1000000 in
theorem ref_WordOf_nil {R : Nat → Prop} {cs : List Value} {w : World} (h : KidAt w R cs (some [])) :
    Calls Tryz.prog 85 #[.agg cs.toArray] w fun e w' => e = .returned (.tuple #[.agg (beC 32 (beN [])).toArray, .bool true]) ∧ Below w.heap.size w w' := by
  have hok5 := beC_ok 32 (beN [])
  obtain ⟨a, c, rfl, hI, _, hby⟩ := h
  have hsb := splice_be 32 [] hby (by simp)
  simp only [List.length_nil] at *
  obtain ⟨w0, e0⟩ : ∃ w0, w0 = ((w.alloc (.cells #[.bool false, .slice a 0 c, .slice none 0 0] 65)).alloc (.cells (zU8 32).toArray 25)).alloc (.cells (zU8 32).toArray 25) := ⟨_, rfl⟩
  have hb0 : Below w.heap.size w w0 := by rw [e0]; exact (((Below.refl _ _).alloc (Nat.le_refl _) _).alloc (by simp) _).alloc (by simp; omega) _
  have hr : w0.row? w.heap.size 0 3 = some [.bool false, .slice a 0 c, .slice none 0 0] := by rw [e0, World.row?_alloc_lt _ (by simp; omega), World.row?_alloc_lt _ (by simp)]; exact World.row?_alloc_at [.bool false, .slice a 0 c, .slice none 0 0] 65 _ rfl rfl
  have hf : w0.free? (w.heap.size + 1) 0 32 = true := by rw [e0, World.free?_alloc_lt _ (by simp)]; exact World.free?_alloc_at _ _ (by simp) (by simp)
  have hhp : w0.heap[w.heap.size + 1 + 1]? = some (.cells (zU8 32).toArray 25 (0, 0)) := by
    rw [e0]
    have := heap_alloc_new ((w.alloc (.cells #[.bool false, .slice a 0 c, .slice none 0 0] 65)).alloc (.cells (zU8 32).toArray 25)) (.cells (zU8 32).toArray 25)
    simpa using this
  have q2 : w0.cell? ⟨w.heap.size, 1, none⟩ = some (.slice a 0 c) := by have := World.row?_cell hr (show 1 < 3 by omega); rwa [Nat.zero_add] at this
  have hsl1 : ∀ w', (Instr.sliceAt 25 (.pointer (some ⟨w.heap.size + 1 + 1, 0, none⟩)) (some (.int .i64 32)) none none).run Tryz.prog w' = .ok (.slice (some ⟨w.heap.size + 1 + 1, 0, none⟩) 0 0) w' := fun w' => slice25_end (w.heap.size + 1 + 1) w'
  obtain ⟨T, hT⟩ : ∃ T : World → Prop, T = fun W => W.cell? ⟨w.heap.size, 1, none⟩ = some (.slice a 0 c) := ⟨_, rfl⟩
  have t0 : T w0.drew := by rw [hT]; exact q2
  have HB := Lib.hid hb0
  have HE := Lib.hid e0
  have HT := Lib.hid hT
  have HF := Lib.hid hf
  have HHP := Lib.hid hhp
  have HSB := Lib.hid hsb
  rw [e0] at hr
  have HSZ : Hid (w0.heap.size = w.heap.size + 1 + 1 + 1) := by show _ = _; rw [HE.out]; simp
  clear e0 hb0 hf hhp hI hby hsb hT
  go_enter Tryz.func85, Tryz.ntmps85
  go_wp2_with fail
  rw [← HE.out]
  refine wp_region_tree T [] (.pure 0 (.take 1 (.pure 2 (.pure 3 (.pure 4 (.pure 5 (.take 6 (.alt 7 .fin .stop)))))))) (by kernel_rfl) (by kernel_rfl) ?_
  refine tree_pure ?_ rfl (by rfl) (fun w' hs => ?_) (fun _ _ _ h => h) ?_
  rotate_left
  · clear hs
    go_simp
    try rfl
  simp only [Act.put, List.setIfInBounds_toArray, List.set_cons_zero, List.set_cons_succ]
  refine tree_take ?_ t0 rfl (by rfl) (fun w' hs => ?_) (fun _ _ _ h => h) ?_
  rotate_left
  · rw [HT.out] at hs
    have q1 := hs
    go_simp
    try rfl
  simp only [Act.put, List.setIfInBounds_toArray, List.set_cons_zero, List.set_cons_succ]
  refine tree_pure ?_ rfl (by rfl) (fun w' hs => ?_) (fun _ _ _ h => h) ?_
  rotate_left
  · clear hs
    go_simp
    try rfl
  simp only [Act.put, List.setIfInBounds_toArray, List.set_cons_zero, List.set_cons_succ]
  refine tree_pure ?_ rfl (by rfl) (fun w' hs => ?_) (fun _ _ _ h => h) ?_
  rotate_left
  · clear hs
    go_simp
    try rfl
  simp only [Act.put, List.setIfInBounds_toArray, List.set_cons_zero, List.set_cons_succ]
  refine tree_pure ?_ rfl (by rfl) (fun w' hs => ?_) (fun _ _ _ h => h) ?_
  rotate_left
  · clear hs
    go_simp
    try rfl
  simp only [Act.put, List.setIfInBounds_toArray, List.set_cons_zero, List.set_cons_succ]
  refine tree_pure ?_ rfl (by rfl) (fun w' hs => ?_) (fun _ _ _ h => h) ?_
  rotate_left
  · clear hs
    go_simp
    try rfl
  simp only [Act.put, List.setIfInBounds_toArray, List.set_cons_zero, List.set_cons_succ]
  refine tree_take ?_ t0 rfl (by rfl) (fun w' hs => ?_) (fun _ _ _ h => h) ?_
  rotate_left
  · rw [HT.out] at hs
    have q1 := hs
    go_simp
    try rfl
  simp only [Act.put, List.setIfInBounds_toArray, List.set_cons_zero, List.set_cons_succ]
  refine tree_run rfl (fun K hK => ?_)
  refine step_copy_splice rfl _ _ 26 26 rfl 5 Tryz.underlying26 (by kernel_rfl) (some ⟨w.heap.size + 1 + 1, 0, none⟩) _ 0 0 0 c rfl rfl (w.heap.size + 1 + 1) (32 - 0) (zU8 32) 25 HHP.out (u8L []) rfl (fun hpos => absurd hpos (by simp [u8L])) (by simp) (by simp [u8L]) (w.heap.size + 1 + 1) w0.drew ((Below.refl _ _).mono (by have := HSZ.out; show _ ≤ w0.heap.size; omega)) (Nat.le_refl _) ?_
  intro w5 hg5 hb5
  have t5 : T w5 := by rw [HT.out] at t0 ⊢; exact (hb5.cell (p := ⟨w.heap.size, 1, none⟩) (by show w.heap.size < _; omega)).trans t0
  refine hK.out _ _ t5 ?_
  clear hK K
  refine tree_fin ?_
  rw [HSB.out] at hg5
  have hr5 : w5.row? (w.heap.size + 1 + 1) 0 32 = some (beC 32 (beN [])) := by
    unfold World.row?
    rw [hg5.out]
    simp
    exact List.take_of_length_le (by simp)
  have hf5 : w5.free? (w.heap.size + 1) 0 32 = true := by
    rw [World.free?_of_block (hb5.block _ (Nat.lt_succ_self _))]; exact HF.out
  have HB5 : Hid (Below w.heap.size w w5) := HB.out.drew.trans (hb5.mono (by omega))
  clear hg5 hb5 t0
  go_wp2
  exact ret_row2 ty25 rfl _ _ rfl rfl rfl (row?_setCells_whole _ hf5 hok5) ⟨rfl, HB5.out.setCells (by omega) _ _⟩
theorem ref_word_ok : RefWordOk := by
  intro R cs k w h
  cases k with
  | none => exact ref_WordOf_list h
  | some l =>
    by_cases hno : 32 < l.length ∨ numB (some l) = false
    · exact ref_WordOf_no h hno
    · have h32 : l.length ≤ 32 := by
        rcases Nat.lt_or_ge 32 l.length with h1 | h1
        · exact absurd (.inl h1) hno
        · exact h1
      have hnb : numB (some l) = true := by
        cases hb : numB (some l) with
        | true => rfl
        | false => exact absurd (.inr hb) hno
      by_cases hl0 : l = []
      · have hwk : wordK (some l) = some (beN l) := if_pos ⟨hnb, h32⟩
        rw [hwk]
        subst hl0
        exact ref_WordOf_nil h
      · exact ref_WordOf_yes h h32 hnb hl0
end Go.Proofs.YtikiciojfhfagaaGreat
namespace Go.Proofs.YtikiciojfhfagaaGreat
open Go.RowKit Go.Mun

set_option maxRecDepth 100000 in
theorem ref_Of_bytes {R : Nat → Prop} {cs : List Value} {l : Bts} {w : World} (h : TopAt w R cs (.bytes l)) :
    Calls Tryz.prog 58 #[.agg cs.toArray] w fun e w' => OfIs w w' (ofK (.bytes l)) e := by
  obtain ⟨a, c, rfl, _⟩ := h
  obtain ⟨w0, e0⟩ : ∃ w0, w0 = ((w.alloc (.cells #[.bool false, .slice a l.length c, .slice none 0 0] 65)).alloc (.cells (cat zsN44).toArray 44)).alloc (.cells (cat zsN44).toArray 44) := ⟨_, rfl⟩
  have hb0 : Below w.heap.size w w0 := by rw [e0]; exact (((Below.refl _ _).alloc (Nat.le_refl _) _).alloc (by simp) _).alloc (by simp; omega) _
  have hr : w0.row? w.heap.size 0 3 = some [.bool false, .slice a l.length c, .slice none 0 0] := by rw [e0, World.row?_alloc_lt _ (by simp; omega), World.row?_alloc_lt _ (by simp)]; exact World.row?_alloc_at [.bool false, .slice a l.length c, .slice none 0 0] 65 _ rfl rfl
  have hf : w0.free? (w.heap.size + 1) 0 77 = true := by rw [e0, World.free?_alloc_lt _ (by simp)]; exact World.free?_alloc_at _ _ (by simp) (by simp [zsN44_len])
  have hz : w0.row? (w.heap.size + 1 + 1) 0 77 = some (cat zsN44) := by rw [e0]; exact World.row?_alloc_at _ _ _ (by simp) (by simp [zsN44_len])
  have HB := Lib.hid hb0
  have hokz := okL_zs44
  rw [e0] at hr hf hz HB
  clear hb0 e0
  go_enter Tryz.func58, Tryz.ntmps58
  go_wp2
  exact ret_row2 tyN44 rfl _ _ rfl rfl rfl (row?_setCells_whole _ hf hokz) (ofIs_none rfl (HB.out.setCells (by omega) _ _))
set_option maxRecDepth 100000 in
theorem ref_Of_short {R : Nat → Prop} {cs : List Value} {ks : List (Option Bts)} {w : World} (h : TopAt w R cs (.list ks)) (hn : ks.length ≠ 7) :
    Calls Tryz.prog 58 #[.agg cs.toArray] w fun e w' => OfIs w w' (ofK (.list ks)) e := by
  obtain ⟨a, c, rfl, _⟩ := h
  obtain ⟨w0, e0⟩ : ∃ w0, w0 = ((w.alloc (.cells #[.bool true, .slice none 0 0, .slice a ks.length c] 65)).alloc (.cells (cat zsN44).toArray 44)).alloc (.cells (cat zsN44).toArray 44) := ⟨_, rfl⟩
  have hb0 : Below w.heap.size w w0 := by rw [e0]; exact (((Below.refl _ _).alloc (Nat.le_refl _) _).alloc (by simp) _).alloc (by simp; omega) _
  have hr : w0.row? w.heap.size 0 3 = some [.bool true, .slice none 0 0, .slice a ks.length c] := by rw [e0, World.row?_alloc_lt _ (by simp; omega), World.row?_alloc_lt _ (by simp)]; exact World.row?_alloc_at [.bool true, .slice none 0 0, .slice a ks.length c] 65 _ rfl rfl
  have hf : w0.free? (w.heap.size + 1) 0 77 = true := by rw [e0, World.free?_alloc_lt _ (by simp)]; exact World.free?_alloc_at _ _ (by simp) (by simp [zsN44_len])
  have hz : w0.row? (w.heap.size + 1 + 1) 0 77 = some (cat zsN44) := by rw [e0]; exact World.row?_alloc_at _ _ _ (by simp) (by simp [zsN44_len])
  have HB := Lib.hid hb0
  have hokz := okL_zs44
  have d7 : ((ks.length : Int) != 7) = true := bne_iff_ne.2 (by omega)
  have HN := Lib.hid (ofK_len hn)
  rw [e0] at hr hf hz HB
  clear hb0 e0 hn
  go_enter Tryz.func58, Tryz.ntmps58
  go_wp2
  exact ret_row2 tyN44 rfl _ _ rfl rfl rfl (row?_setCells_whole _ hf hokz) (ofIs_none HN.out (HB.out.setCells (by omega) _ _))
theorem ofSeven_no2 {k0 k1 k2 k3 k4 k5 k6 : Option Bts} (h : (intK k0).isSome = false ∨ (intK k1).isSome = false ∨ (intK k2).isSome = false ∨ (wordK k5).isSome = false ∨ (addrK k3).isSome = false ∨ isL k4 = true ∨ isL k6 = true) : ofSeven k0 k1 k2 k3 k4 k5 k6 = none := by
  apply ofSeven_no
  have key : (numsK [k0, k1, k2]).isSome = ((intK k0).isSome && (intK k1).isSome && (intK k2).isSome) := by
    simp only [numsK]
    cases intK k0 <;> cases intK k1 <;> cases intK k2 <;> rfl
  rw [key]
  rcases h with h | h | h | h | h | h | h
  · left; rw [h]; rfl
  · left; rw [h]; simp
  · left; rw [h]; simp
  · right; right; left; exact h
  · right; left; exact h
  · right; right; right; left; exact h
  · right; right; right; right; exact h
theorem addrK_no {f : Bts} (h : f.length ≠ 20) : addrK (some f) = none := if_neg h
theorem ofSeven_yes {k0 k1 k2 k5 : Option Bts} {f to d : Bts} {n p g v : Nat} (h0 : intK k0 = some n) (h1 : intK k1 = some p) (h2 : intK k2 = some g) (hf : f.length = 20) (h5 : wordK k5 = some v) :
    ofSeven k0 k1 k2 (some f) (some to) k5 (some d) = if to = [] then some ⟨n, p, g, beN f, 0, true, v, d⟩ else (addrK (some to)).map fun x => ⟨n, p, g, beN f, beN x, false, v, d⟩ := by
  have e1 : numsK [k0, k1, k2] = some [n, p, g] := by simp only [numsK, h0, h1, h2]; rfl
  have e2 : addrK (some f) = some f := if_pos hf
  unfold ofSeven
  rw [e1, e2, h5]
theorem Whole.seg {w : World} {b : Nat} {t : TypeId} {l : List (List Value)} (h : Whole w b t (cat l)) {i : Nat} {u : Value} (hs : l[i]? = some [u]) (v : Value) {p : Nat} (hp : p = offOf l i) : Whole (w.setCell ⟨b, p, none⟩ v) b t (cat (l.set i [v])) := by
  have h1 := h.set p v
  have hle := off_le hs
  rw [← splice_one _ _ _ (by subst hp; simp at hle; omega), splice_cat (v := [v]) hs rfl hp] at h1
  exact h1
theorem _root_.Go.Mun.Arr.seg {w : World} {b N : Nat} {l : List (List Value)} (h : Arr w b N (cat l)) {i : Nat} {u : Value} (hs : l[i]? = some [u]) (v : Value) {p : Nat} (hp : p = offOf l i) : Arr (w.setCell ⟨b, p, none⟩ v) b N (cat (l.set i [v])) := by
  have hle := off_le hs
  have hN := h.len
  exact ⟨cell_cat_set h.row hs v (by omega), by rw [free?_setCell _ (h.free1 (i := p) (by subst hp; simp at hle; omega))]; exact h.free⟩
theorem _root_.Go.Mun.Arr.segs {w : World} {b N : Nat} {l : List (List Value)} (h : Arr w b N (cat l)) {i : Nat} {s : List Value} (hs : l[i]? = some s) {v : List Value} (hv : v.length = s.length) {p : Nat} (hp : p = offOf l i) : Arr (w.setCells b p v) b N (cat (l.set i v)) :=
  ⟨row_cat_set h.row hs hv (by omega), by rw [World.free?_setCells']; exact h.free⟩
theorem txL_len (a b c : Value) (f t : Nat) (m : Value) (v : Nat) (d : Value) : (cat [[a], [b], [c], beC 20 f, beC 20 t, [m], beC 32 v, [d]]).length = 77 := by
  simp only [cat_len_cons, cat_len_nil]; simp
theorem slice23_3 (b : Nat) (w : World) : (Instr.sliceAt 23 (.pointer (some ⟨b, 3, none⟩)) none none none).run Tryz.prog w = .ok (.slice (some ⟨b, 3, none⟩) 20 20) w := by kernel_rfl
theorem slice23_23 (b : Nat) (w : World) : (Instr.sliceAt 23 (.pointer (some ⟨b, 23, none⟩)) none none none).run Tryz.prog w = .ok (.slice (some ⟨b, 23, none⟩) 20 20) w := by kernel_rfl
theorem ints_src {w : World} {a : Option Addr} {c : Nat} {l : Bts} (hI : Ints w .u8 a c l) (hl : 0 < l.length) : ∃ ad, a = some ad ∧ ∀ j v, (u8L l)[j]? = some v → w.cell? (ad.add j) = some v := by
  obtain ⟨b, off, ha, hbl, hc⟩ := hI.at hl
  refine ⟨_, ha, fun j v hv => ?_⟩
  have hj : j < l.length := by have := (List.getElem?_eq_some_iff.1 hv).1; simpa using this
  have h2 : v = .int .u8 (l[j]?.getD 0) := by
    rw [List.getElem?_eq_getElem (by simpa using hj)] at hv
    rw [List.getElem?_eq_getElem hj]
    simp [u8L] at hv
    simpa using hv.symm
  rw [h2, show (⟨b, off, none⟩ : Addr).add j = ⟨b, off + j, none⟩ from add_off rfl]
  exact hc j hj
end Go.Proofs.YtikiciojfhfagaaGreat
