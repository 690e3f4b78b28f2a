/-
  The reference's machine: an instruction pops its values and is done, told of what stands behind.
  The reference's order of words; slices of slots.
  The reference's state where the slots of one account turn.
  The reference's SetSlot.
  The reference's machine: a frame whose state turns; SSTORE.
  The machine: an account that is there already is not made.
  The machine: an account that is there already is not made: create.
  The machine: a message that makes by a salt, and Run, told of what create comes to.
  The reference's machine: an account that is there already is not made.
-/
import Derived.Test.YtfflppedbopdpaaGreatXRf13
import Derived.Test.YtfflppedbopdpaaGreatXRef5
import Derived.Test.YtfflppedbopdpaaGreatXRlp2
import Derived.Test.YtfflppedbopdpaaGreatXEv16
set_option linter.unusedVariables false
set_option maxRecDepth 1000000
set_option maxHeartbeats 8000000
set_option linter.unusedSimpArgs false
namespace Go.Proofs.YtfflppedbopdpaaGreat
open Go.RowKit Go.Mun

theorem rdo_plain {E : REnv} {w : World} {own : Go.Mun.Own} {c : RFV} {f : Fr} {S : St} {M : List (Nat × St)} {n : Nat} {x p : Nat} {q g : Int} {r : Res} (hx : 80 ≤ x ∧ x ≤ 95) (h : RFrOk E w own c f S M n) (htl : c.tl = infsC infT) (ho : ofL (x : Int) = some ((p : Int), q, g)) (hp : p ≤ f.stack.length) (hrn : r ≠ .none)
  (hcl : ∀ W v c', RFrOk E W own c' { f with stack := f.stack.take (f.stack.length - p) } S M n → c'.tl = infsC infT → c'.jv = c.jv → W.ownsRow w.heap.size 25 32 v p (stkC (f.stack.reverse.take p)) →
   (∀ g, v.ownBlock = some g → own g = none ∧ c'.sv.ownBlock ≠ some g ∧ c'.mv.ownBlock ≠ some g) → Calls Tryz.prog 269 #[.pointer (some ⟨E.fb, 0, none⟩), .int .u8 (x : Int), v, c.jv] W (RDo E c.jv r)) :
  Calls Tryz.prog 179 #[.pointer (some ⟨E.fb, 0, none⟩), .int .u8 (x : Int), c.jv] w (RDo E c.jv r) := by
 obtain ⟨y, hy, hyy⟩ := inf_at x (by omega)
 rw [ho] at hyy
 have hr := rf_inf h htl x y hy
 have hc : w.cell? ⟨E.fb, 236 + x * 5 + 2, none⟩ = some (.int .i64 (p : Int)) := by
  have := World.row?_cell hr (i := 2) (by omega)
  rw [this, ← hyy.2.1]; unfold Inf.c; rfl
 obtain ⟨T, hT⟩ : ∃ T : World → Prop, T = fun W => W.cell? ⟨E.fb, 236 + x * 5 + 2, none⟩ = some (.int .i64 (p : Int)) := ⟨_, rfl⟩
 have HT := hid hT
 have t0 : T w.drew := by rw [hT]; exact hc
 have HP := hid (r_pop p hp (h.below (Below.refl _ _).drew))
 have HTL := hid htl
 have HCL := hid hcl
 have HRN := hid hrn
 have d0 : decide ((96 : Int) ≤ (x : Int)) = false := decide_eq_false (by omega)
 have d1 : decide ((x : Int) < 128) = true := decide_eq_true (by omega)
 have d2 : decide ((128 : Int) ≤ (x : Int)) = false := decide_eq_false (by omega)
 have d3 : decide ((144 : Int) ≤ (x : Int)) = false := decide_eq_false (by omega)
 have d4 : decide ((1 : Int) ≤ (x : Int)) = true := decide_eq_true (by omega)
 have d5 : decide ((x : Int) ≤ 7) = false := decide_eq_false (by omega)
 have d6 : decide ((x : Int) = 10) = false := decide_eq_false (by omega)
 have b6 : ((x : Int) == 10) = false := by simp; omega
 have d7 : decide ((x : Int) = 11) = false := decide_eq_false (by omega)
 have b7 : ((x : Int) == 11) = false := by simp; omega
 have d8 : decide ((16 : Int) ≤ (x : Int)) = true := decide_eq_true (by omega)
 have d9 : decide ((x : Int) ≤ 20) = false := decide_eq_false (by omega)
 have d10 : decide ((22 : Int) ≤ (x : Int)) = true := decide_eq_true (by omega)
 have d11 : decide ((x : Int) ≤ 24) = false := decide_eq_false (by omega)
 have d12 : decide ((26 : Int) ≤ (x : Int)) = true := decide_eq_true (by omega)
 have d13 : decide ((x : Int) ≤ 29) = false := decide_eq_false (by omega)
 have d14 : decide ((48 : Int) ≤ (x : Int)) = true := decide_eq_true (by omega)
 have d15 : decide ((x : Int) ≤ 71) = false := decide_eq_false (by omega)
 have d16 : decide ((160 : Int) ≤ (x : Int)) = false := decide_eq_false (by omega)
 have d17 : decide ((240 : Int) ≤ (x : Int)) = false := decide_eq_false (by omega)
 have HX := hid hx
 have hxI : (0 : Int) ≤ (x : Int) ∧ (x : Int) < 256 := by omega
 have HXI := hid hxI
 have htn : (x : Int).toNat = x := Int.toNat_natCast x
 have hxl : ((x : Int) < 256) = True := eq_true (by omega)
 have hxn : (x < 256) = True := eq_true (by omega)
 clear h htl hr hc hT hy hyy ho hp hcl hx hxI hrn
 go_enter Tryz.func179, Tryz.ntmps179
 go_wp2_with fail
 refine wp_region_tree T [10] (.pure 0 (.pure 1 (.pure 2 (.pure 3 (.pure 4 (.pure 5 (.pure 6 (.pure 7 (.pure 8 (.take 9 (.alt 10 (.pure 11 (.pure 12 (.pure 13 (.pure 14 (.pure 15 .fin))))) .stop))))))))))) (by kernel_rfl) (by kernel_rfl) ?_
 iterate 10
  first
  |refine tree_pure ?_ rfl (by rfl) (fun w' hs => ?_) (fun _ _ _ h => h) ?_
   rotate_left
   ·clear hs
    go_simp
    try rfl
   simp only [Act.put, tsa, tsb, tsc]
  |refine tree_take ?_ t0 rfl (by rfl) (fun w' hs => ?_) (fun _ _ _ h => h) ?_
   rotate_left
   ·rw [HT.out] at hs
    have s1 := hs
    go_simp
    try rfl
   simp only [Act.put, tsa, tsb, tsc]
 refine tree_z rfl (by simp) (fun K hK => ?_)
 go_simp
 refine HP.out.mono ?_
 rintro e w1 ⟨v, c1, rfl, h1, ⟨ht1, hj1⟩, hv1, ho1⟩
 have H1 := hid h1
 have HT1 := hid (ht1.trans HTL.out)
 have HJ1 := hid hj1
 have HV := hid hv1
 have HVO := hid ho1
 clear h1 ht1 hj1 hv1 ho1
 refine hK.out _ _ ?_
 clear hK K
 iterate 5
  refine tree_pure ?_ rfl (by rfl) (fun w' hs => ?_) (fun _ _ _ h => h) ?_
  rotate_left
  ·clear hs
   go_simp
   try rfl
  simp only [Act.put, tsa, tsb, tsc]
 refine tree_fin ?_
 have HRF := hid (HCL.out w1 v c1 H1.out HT1.out HJ1.out HV.out HVO.out)
 clear t0
 go_wp2_with fail
 refine HRF.out.mono ?_
 intro e w2 hd
 cases r with
 | ok f2 S2 =>
  obtain ⟨rfl, hd2⟩ := hd
  have HD := hid hd2
  clear hd2
  go_wp2
  go_ret
  exact ⟨rfl, HD.out⟩
 | stop y f2 S2 =>
  obtain ⟨rfl, hd2⟩ := hd
  have HD := hid hd2
  clear hd2
  go_wp2
  go_ret
  exact ⟨rfl, HD.out⟩
 | none => exact absurd rfl HRN.out
theorem rdo_calls {E : REnv} {w : World} {own : Go.Mun.Own} {c : RFV} {f : Fr} {S : St} {M : List (Nat × St)} {n : Nat} {x p : Nat} {q g : Int} {r : Res} (hx : 240 ≤ x ∧ x ≤ 255) (h : RFrOk E w own c f S M n) (htl : c.tl = infsC infT) (ho : ofL (x : Int) = some ((p : Int), q, g)) (hp : p ≤ f.stack.length) (hrn : r ≠ .none)
  (hcl : ∀ W v c', RFrOk E W own c' { f with stack := f.stack.take (f.stack.length - p) } S M n → c'.tl = infsC infT → c'.jv = c.jv → W.ownsRow w.heap.size 25 32 v p (stkC (f.stack.reverse.take p)) →
   (∀ g, v.ownBlock = some g → own g = none ∧ c'.sv.ownBlock ≠ some g ∧ c'.mv.ownBlock ≠ some g) → Calls Tryz.prog 268 #[.pointer (some ⟨E.fb, 0, none⟩), .int .u8 (x : Int), v] W (RDo E c.jv r)) :
  Calls Tryz.prog 179 #[.pointer (some ⟨E.fb, 0, none⟩), .int .u8 (x : Int), c.jv] w (RDo E c.jv r) := by
 obtain ⟨y, hy, hyy⟩ := inf_at x (by omega)
 rw [ho] at hyy
 have hr := rf_inf h htl x y hy
 have hc : w.cell? ⟨E.fb, 236 + x * 5 + 2, none⟩ = some (.int .i64 (p : Int)) := by
  have := World.row?_cell hr (i := 2) (by omega)
  rw [this, ← hyy.2.1]; unfold Inf.c; rfl
 obtain ⟨T, hT⟩ : ∃ T : World → Prop, T = fun W => W.cell? ⟨E.fb, 236 + x * 5 + 2, none⟩ = some (.int .i64 (p : Int)) := ⟨_, rfl⟩
 have HT := hid hT
 have t0 : T w.drew := by rw [hT]; exact hc
 have HP := hid (r_pop p hp (h.below (Below.refl _ _).drew))
 have HTL := hid htl
 have HCL := hid hcl
 have HRN := hid hrn
 have d0 : decide ((96 : Int) ≤ (x : Int)) = true := decide_eq_true (by omega)
 have d1 : decide ((x : Int) < 128) = false := decide_eq_false (by omega)
 have d2 : decide ((128 : Int) ≤ (x : Int)) = true := decide_eq_true (by omega)
 have d3 : decide ((x : Int) < 144) = false := decide_eq_false (by omega)
 have d4 : decide ((144 : Int) ≤ (x : Int)) = true := decide_eq_true (by omega)
 have d5 : decide ((x : Int) < 160) = false := decide_eq_false (by omega)
 have d6 : decide ((1 : Int) ≤ (x : Int)) = true := decide_eq_true (by omega)
 have d7 : decide ((x : Int) ≤ 7) = false := decide_eq_false (by omega)
 have d8 : decide ((x : Int) = 10) = false := decide_eq_false (by omega)
 have b8 : ((x : Int) == 10) = false := by simp; omega
 have d9 : decide ((x : Int) = 11) = false := decide_eq_false (by omega)
 have b9 : ((x : Int) == 11) = false := by simp; omega
 have d10 : decide ((16 : Int) ≤ (x : Int)) = true := decide_eq_true (by omega)
 have d11 : decide ((x : Int) ≤ 20) = false := decide_eq_false (by omega)
 have d12 : decide ((22 : Int) ≤ (x : Int)) = true := decide_eq_true (by omega)
 have d13 : decide ((x : Int) ≤ 24) = false := decide_eq_false (by omega)
 have d14 : decide ((26 : Int) ≤ (x : Int)) = true := decide_eq_true (by omega)
 have d15 : decide ((x : Int) ≤ 29) = false := decide_eq_false (by omega)
 have d16 : decide ((48 : Int) ≤ (x : Int)) = true := decide_eq_true (by omega)
 have d17 : decide ((x : Int) ≤ 71) = false := decide_eq_false (by omega)
 have d18 : decide ((160 : Int) ≤ (x : Int)) = true := decide_eq_true (by omega)
 have d19 : decide ((x : Int) ≤ 164) = false := decide_eq_false (by omega)
 have d20 : decide ((240 : Int) ≤ (x : Int)) = true := decide_eq_true (by omega)
 have HX := hid hx
 have hxI : (0 : Int) ≤ (x : Int) ∧ (x : Int) < 256 := by omega
 have HXI := hid hxI
 have htn : (x : Int).toNat = x := Int.toNat_natCast x
 have hxl : ((x : Int) < 256) = True := eq_true (by omega)
 have hxn : (x < 256) = True := eq_true (by omega)
 clear h htl hr hc hT hy hyy ho hp hcl hx hxI hrn
 go_enter Tryz.func179, Tryz.ntmps179
 go_wp2_with fail
 refine wp_region_tree T [10] (.pure 0 (.pure 1 (.pure 2 (.pure 3 (.pure 4 (.pure 5 (.pure 6 (.pure 7 (.pure 8 (.take 9 (.alt 10 (.pure 11 (.pure 12 (.pure 13 (.pure 14 (.pure 15 .fin))))) .stop))))))))))) (by kernel_rfl) (by kernel_rfl) ?_
 iterate 10
  first
  |refine tree_pure ?_ rfl (by rfl) (fun w' hs => ?_) (fun _ _ _ h => h) ?_
   rotate_left
   ·clear hs
    go_simp
    try rfl
   simp only [Act.put, tsa, tsb, tsc]
  |refine tree_take ?_ t0 rfl (by rfl) (fun w' hs => ?_) (fun _ _ _ h => h) ?_
   rotate_left
   ·rw [HT.out] at hs
    have s1 := hs
    go_simp
    try rfl
   simp only [Act.put, tsa, tsb, tsc]
 refine tree_z rfl (by simp) (fun K hK => ?_)
 go_simp
 refine HP.out.mono ?_
 rintro e w1 ⟨v, c1, rfl, h1, ⟨ht1, hj1⟩, hv1, ho1⟩
 have H1 := hid h1
 have HT1 := hid (ht1.trans HTL.out)
 have HJ1 := hid hj1
 have HV := hid hv1
 have HVO := hid ho1
 clear h1 ht1 hj1 hv1 ho1
 refine hK.out _ _ ?_
 clear hK K
 iterate 5
  refine tree_pure ?_ rfl (by rfl) (fun w' hs => ?_) (fun _ _ _ h => h) ?_
  rotate_left
  ·clear hs
   go_simp
   try rfl
  simp only [Act.put, tsa, tsb, tsc]
 refine tree_fin ?_
 have HRF := hid (HCL.out w1 v c1 H1.out HT1.out HJ1.out HV.out HVO.out)
 clear t0
 go_wp2_with fail
 refine HRF.out.mono ?_
 intro e w2 hd
 cases r with
 | ok f2 S2 =>
  obtain ⟨rfl, hd2⟩ := hd
  have HD := hid hd2
  clear hd2
  go_wp2
  go_ret
  exact ⟨rfl, HD.out⟩
 | stop y f2 S2 =>
  obtain ⟨rfl, hd2⟩ := hd
  have HD := hid hd2
  clear hd2
  go_wp2
  go_ret
  exact ⟨rfl, HD.out⟩
 | none => exact absurd rfl HRN.out
theorem slice25w (b : Nat) (w : World) : (Instr.sliceAt 25 (.pointer (some ⟨b, 0, none⟩)) none none none).run Tryz.prog w = .ok (.slice (some ⟨b, 0, none⟩) 32 32) w := by kernel_rfl
theorem wrd_string {w : World} {b x : Nat} (h : w.row? b 0 32 = some (beC 32 x)) : (convert 26 9 (.slice (some ⟨b, 0, none⟩) 32 32)).run Tryz.prog w = .ok (.string (strOf (be 32 x))) w :=
 run_bytes_string' (P := Tryz.prog) Tryz.underlying26 Tryz.underlying5 Tryz.underlying9 (by rw [be_len]) (ints_rowR (be_len 32 x) (by decide) h)
theorem ref_less (a b : Nat) (ha : a < wW) (hb : b < wW) (w : World) :
  Calls Tryz.prog 170 #[.agg (beC 32 a).toArray, .agg (beC 32 b).toArray] w fun e w' => e = .returned (.bool (decide (a < b))) ∧ Below w.heap.size w w' := by
 obtain ⟨w0, e0⟩ : ∃ w0, w0 = (w.alloc (.cells (beC 32 a).toArray 25)).alloc (.cells (beC 32 b).toArray 25) := ⟨_, rfl⟩
 have hx : Box2 w w0 a b := by rw [e0]; exact Box2.start w a b
 have HE := hid e0
 have hl1 : (beC 32 a).length = 32 := by simp
 have hl2 : (beC 32 b).length = 32 := by simp
 have HB := hid hx.below
 obtain ⟨T, hT⟩ : ∃ T : World → Prop, T = fun W => W.row? w.heap.size 0 32 = some (beC 32 a) ∧ W.row? (w.heap.size + 1) 0 32 = some (beC 32 b) := ⟨_, rfl⟩
 have HT := hid hT
 have t0 : T w0.drew := by rw [hT]; exact ⟨hx.x, hx.y⟩
 have hless := less_be 32 a b (by rw [wW_eq]; exact ha) (by rw [wW_eq]; exact hb)
 have HLS := hid hless
 generalize hsa : strOf (be 32 a) = sa at *
 generalize hsb : strOf (be 32 b) = sb at *
 have HSA := hid hsa
 have HSB := hid hsb
 clear e0 hx hT hsa hsb hless
 go_enter Tryz.func170, Tryz.ntmps170
 go_wp2_with fail
 rw [← HE.out]
 refine wp_region_tree T [] (.pure 0 (.take 1 (.pure 2 (.take 3 (.pure 4 (.pure 5 .fin)))))) (by kernel_rfl) (by kernel_rfl) ?_
 refine tree_pure ?_ rfl (by rfl) (fun w' hs => ?_) (fun _ _ _ h => h) ?_
 rotate_left
 ·clear hs
  have z := slice25w w.heap.size w'
  go_simp
  try rfl
 simp only [Act.put, tsa, tsb, tsc]
 refine tree_take ?_ t0 rfl (by rfl) (fun w' hs => ?_) (fun _ _ _ h => h) ?_
 rotate_left
 ·rw [HT.out] at hs
  obtain ⟨g1, g2⟩ := hs; have s1 := wrd_string g1; have s2 := wrd_string g2; rw [HSA.out] at s1; rw [HSB.out] at s2
  go_simp
  try rfl
 simp only [Act.put, tsa, tsb, tsc]
 refine tree_pure ?_ rfl (by rfl) (fun w' hs => ?_) (fun _ _ _ h => h) ?_
 rotate_left
 ·clear hs
  have z := slice25w (w.heap.size + 1) w'
  go_simp
  try rfl
 simp only [Act.put, tsa, tsb, tsc]
 refine tree_take ?_ t0 rfl (by rfl) (fun w' hs => ?_) (fun _ _ _ h => h) ?_
 rotate_left
 ·rw [HT.out] at hs
  obtain ⟨g1, g2⟩ := hs; have s1 := wrd_string g1; have s2 := wrd_string g2; rw [HSA.out] at s1; rw [HSB.out] at s2
  go_simp
  try rfl
 simp only [Act.put, tsa, tsb, tsc]
 refine tree_pure ?_ rfl (by rfl) (fun w' hs => ?_) (fun _ _ _ h => h) ?_
 rotate_left
 ·clear hs
  have z := HLS.out
  go_simp
  try rfl
 simp only [Act.put, tsa, tsb, tsc]
 refine tree_pure ?_ rfl (by rfl) (fun w' hs => ?_) (fun _ _ _ h => h) ?_
 rotate_left
 ·clear hs
  go_simp
  try rfl
 simp only [Act.put, tsa, tsb, tsc]
 refine tree_fin ?_
 go_wp2
 go_ret
 exact ⟨rfl, HB.out.drew⟩
def tailS (a : Option Addr) (c k : Nat) : Option Addr := if c = k then a else a.map (·.add (k * 64))
theorem slice33_tail (a : Option Addr) (n c k : Nat) (hk : k ≤ n) (w : World) : (Instr.slice 33 (.slice a n c) (some (.int .i64 (k : Int))) none none).run Tryz.prog w = .ok (.slice (tailS a c k) (n - k) (c - k)) w := by
 have he : Tryz.prog.elem 33 = 97 := by kernel_rfl
 have hs : (sizeOf 97).run Tryz.prog w = .ok 64 w := by kernel_rfl
 rw [run_slice_l w 33 a n c (by rw [he]; exact Tryz.underlying33) .i64 (k : Int) (by omega) (by omega), he, hs]
 simp only [Result.andThen, sliced, Int.toNat_natCast]
 rfl
theorem slice33_head (a : Option Addr) (n c k : Nat) (hk : k ≤ c) (w : World) : (Instr.slice 33 (.slice a n c) none (some (.int .i64 (k : Int))) none).run Tryz.prog w = .ok (.slice a k c) w := by
 have he : Tryz.prog.elem 33 = 97 := by kernel_rfl
 have hs : (sizeOf 97).run Tryz.prog w = .ok 64 w := by kernel_rfl
 rw [run_slice_h w 33 a n c (by rw [he]; exact Tryz.underlying33) .i64 (k : Int) (by omega) (by omega), he, hs]
 have ha : (if c = 0 then a else a.map (·.add (0 * 64))) = a := by
  split
  ·rfl
  ·cases a with
   | none => rfl
   | some p => simp [Addr.add]
 simp only [Result.andThen, sliced, Int.toNat_natCast, Nat.sub_zero, ha]
theorem slotC_append (a b : List (Nat × Nat)) : slotC (a ++ b) = slotC a ++ slotC b := by simp [slotC]
theorem slotC_take (l : List (Nat × Nat)) (k : Nat) (hk : k ≤ l.length) : (slotC l).take (k * 64) = slotC (l.take k) := by
 conv => lhs; rw [← List.take_append_drop k l, slotC_append]
 rw [List.take_append_of_le_length (by rw [slotC_len, List.length_take]; omega), List.take_of_length_le (by rw [slotC_len, List.length_take]; omega)]
theorem slotC_drop (l : List (Nat × Nat)) (k : Nat) (hk : k ≤ l.length) : (slotC l).drop (k * 64) = slotC (l.drop k) := by
 conv => lhs; rw [← List.take_append_drop k l, slotC_append]
 have : k * 64 = (slotC (l.take k)).length := by rw [slotC_len, List.length_take]; omega
 rw [this, List.drop_left]
theorem slots_head {w : World} {b : Nat} {a : Option Addr} {c : Nat} {l : List (Nat × Nat)} (h : w.ownsRow b 97 64 (.slice a l.length c) l.length (slotC l)) (k : Nat) (hk : k ≤ l.length) : SrcAt w a c k 64 (slotC (l.take k)) := by
 refine ⟨?_, fun hm => ?_, fun e => ?_⟩
 ·have := slotC_ok (l.take k)
  rwa [List.length_take, Nat.min_eq_left hk] at this
 ·obtain ⟨g, c', hv, _, _, _, hr, _⟩ := own_words h (by omega)
  cases hv
  refine ⟨g, 0, rfl, fun j u hu => ?_⟩
  rw [← slotC_take l k hk, List.getElem?_take] at hu
  split at hu
  ·rename_i hj
   rw [World.row?_cell hr (i := j) (by omega)]; exact hu
  ·cases hu
 ·subst e
  rcases h.2 with ⟨h1, h2⟩ | ⟨g, cap, cur, h1, _⟩
  ·injection h1 with e1 e2 e3; exact ⟨by omega, e3⟩
  ·injection h1 with e1; cases e1
theorem slots_tail {w : World} {b : Nat} {a : Option Addr} {c : Nat} {l : List (Nat × Nat)} (h : w.ownsRow b 97 64 (.slice a l.length c) l.length (slotC l)) (k : Nat) (hk : k ≤ l.length) : SrcAt w (tailS a c k) (c - k) (l.length - k) 64 (slotC (l.drop k)) := by
 refine ⟨?_, fun hm => ?_, fun e => ?_⟩
 ·have := slotC_ok (l.drop k)
  rwa [List.length_drop] at this
 ·obtain ⟨g, c', hv, _, hc, _, hr, _⟩ := own_words h (by omega)
  cases hv
  refine ⟨g, k * 64, ?_, fun j u hu => ?_⟩
  ·unfold tailS
   rw [if_neg (by omega), Option.map_some, add_off rfl, Nat.zero_add]
  ·rw [← slotC_drop l k hk, List.getElem?_drop] at hu
   have hj : k * 64 + j < (slotC l).length := by
    rcases Nat.lt_or_ge (k * 64 + j) (slotC l).length with h | h
    ·exact h
    ·rw [List.getElem?_eq_none h] at hu; cases hu
   rw [slotC_len] at hj
   have := World.row?_cell hr (i := k * 64 + j) hj
   rw [Nat.zero_add] at this
   rw [this]; exact hu
 ·unfold tailS at e
  rcases h.2 with ⟨h1, h2⟩ | ⟨g, cap, cur, h1, _⟩
  ·injection h1 with e1 e2 e3; exact ⟨by omega, by omega⟩
  ·injection h1 with e1 e2 e3
   subst e1
   split at e
   ·cases e
   ·simp at e
theorem slS1 : SliceLit Tryz.prog 33 97 64 1 (cat [cat zs88]) := ⟨Tryz.underlying33, ⟨_, .agg (cat zs88).toArray, rfl, by kernel_rfl, by kernel_rfl, by kernel_rfl⟩, by decide, by kernel_rfl, by decide⟩
def fillS1 (p : List (Nat × Value)) : Option (List Value) := fillL (1 * 64) ((List.range 1).map fun i => (i * 64, 64)) (cat [cat zs88]) p
theorem bsS1 (ρ : Operand → Value) (dst : Option Tmp) (x : Operand) (t : TypeId) (pos : String) (after : Array Edge) (gd : Option (Nat × Bool)) (w : World) :
  (execOp ρ ⟨dst, .buildSlice 33 1 #[(0, x)], t, pos, after, gd⟩).run Tryz.prog w = asNext (bsRow Tryz.prog 33 97 1 [(0, ρ x)] w (fillS1 [(0, ρ x)])) :=
 ex_bslice ρ dst t pos after gd w slS1 [(0, x)]
@[go_sem] theorem fillS1_one (c : List Value) (h : c.length = 64) : fillS1 [(0, .agg c.toArray)] = some c := by
 unfold fillS1
 have h1 : lens [cat zs88] = [64] := by kernel_rfl
 have h3 : plOf [cat zs88] = (List.range 1).map fun i => (i * 64, 64) := by kernel_rfl
 rw [← h3, fillL_cats _ _ _ (by kernel_rfl)]
 ·show some (cat [c]) = some c
  simp [cat]
 ·rw [h1]
  refine fits_cons ?_ (fits_nil _)
  show some 64 = some c.length; rw [h]
attribute [go_sem ↓] bsS1
theorem lens88 : lens zs88 = [32, 32] := by kernel_rfl
theorem build88 (a b : Nat) : fillL 64 (plOf zs88) (cat zs88) [(0, .agg (beC 32 a).toArray), (1, .agg (beC 32 b).toArray)] = some (beC 32 a ++ beC 32 b) := by
 rw [fillL_cats _ _ _ zs88_len]
 ·show some (cat [beC 32 a, beC 32 b]) = some _
  simp [cat]
 ·rw [lens88]
  refine fits_cons ?_ (fits_cons ?_ (fits_nil _))
  ·show some 32 = some (beC 32 a).length; rw [beC_len]
  ·show some 32 = some (beC 32 b).length; rw [beC_len]
theorem _root_.Go.Mun.RHeld.slots {v : World} {own : Go.Mun.Own} {sb n a g k : Nat} {S : St} {M : List (Nat × St)} (h : RHeld v own sb S M n a g k) (hn : n ≤ 999990) :
  ∃ sl sv, v.cell? ⟨g, k * 55 + 54, none⟩ = some sv ∧ v.ownsRow 0 97 64 sv sl.length (slotC sl) ∧ sl.length ≤ n ∧ (sl.map Prod.fst).Pairwise (· < ·) ∧ (∀ q ∈ sl, q.2 ≠ 0) ∧ (∀ q ∈ sl, q.1 < wW ∧ q.2 < wW) ∧ (∀ j, (S a).slots j = (getA j sl).getD 0) ∧
   ∀ (w : World) (sv' : Value) (sl' : List (Nat × Nat)), Below v.heap.size v w → w.ownsRow 0 97 64 sv' sl'.length (slotC sl') → (∀ b, sv'.ownBlock = some b → v.heap.size ≤ b) → (∀ q ∈ sl', q.1 < wW ∧ q.2 < wW) → sl'.length ≤ n + 1 → (sl'.map Prod.fst).Pairwise (· < ·) → (∀ q ∈ sl', q.2 ≠ 0) →
    ∃ own', RState (w.setCells g (k * 55 + 54) [sv']) own' sb (upd S a { S a with slots := fun j => (getA j sl').getD 0 }) M (n + 1) ∧ ChgR v (w.setCells g (k * 55 + 54) [sv']) own own' := by
 obtain ⟨c, mv, ps, ms, x, h1, ⟨hk, ha⟩, h3, h4, h5, h6, h7⟩ := h
 have hmem : ps[k] ∈ ps := List.getElem_mem hk
 have hok := h1.arr.ok _ hmem
 have hwl := h5.slots _ hmem
 obtain ⟨g', c', e, _, hr, _⟩ := h1.arr.row hk
 cases e
 have hS : rst (fsts ps) a = ps[k].1.acc := by
  have := rst_some h1.up (i := k) (x := ps[k].1) (by rw [List.getElem?_map, List.getElem?_eq_getElem hk]; rfl)
  rw [ha] at this; exact this
 refine ⟨ps[k].1.slots, ps[k].2.2, cell_54 hr, hok.slots.read, hwl.1, hwl.2.1, hwl.2.2, hok.slots.val, fun j => by rw [h3, hS]; rfl, ?_⟩
 intro w sv' sl' hb hv hnew hval hlen hpw hnz
 -- the new slots' label
 obtain ⟨own2, hst2, hsl2, hext, hhot⟩ : ∃ own2 : Go.Mun.Own, RStC w own2 sb (.slice (some ⟨g, 0, none⟩) ps.length c) mv ps ms x ∧ SlotsAt w own2 sv' sl' ∧ (∀ b, b < v.heap.size → own2 b = own b) ∧ (∀ b, hot own2 b → hot own b) := by
  have hw := h1.only (S := fun _ => False) (Only.of_below_size hb) (fun _ h => h.elim)
  cases hbk : sv'.ownBlock with
  | none => exact ⟨own, hw, ⟨hv, fun g hg => (by rw [hbk] at hg; cases hg), hval, by omega⟩, fun _ _ => rfl, fun _ h => h⟩
  | some b0 =>
   have h8 := hnew b0 hbk
   have h9 := ownsRow_lt hv b0 hbk
   have h10 : own b0 = none := by
    cases e : own b0 with
    | none => rfl
    | some y => have := h1.low b0 (by rw [e]; simp); omega
   refine ⟨_, (hw.label (.smap 0) h10 h9).1, ⟨hv, fun g hg => ?_, hval, by omega⟩, fun b hb2 => ?_, fun b hx => ?_⟩
   ·rw [hbk] at hg; cases hg; exact if_pos rfl
   ·show (if b = b0 then some (Lab.smap 0) else own b) = own b
    rw [if_neg (by omega)]
   ·have hx2 := hx
    unfold hot at hx2 ⊢
    by_cases e : b = b0
    ·simp only [if_pos e] at hx2; exact absurd rfl hx2.2.2
    ·simp only [if_neg e] at hx2; exact hx2
 have hok2 := hst2.arr.ok _ hmem
 have hp' : RAcOk w own2 (⟨ps[k].1.ac, sl'⟩, ps[k].2.1, sv') := ⟨hok2.code, hsl2, hok2.addr, hok2.bal, hok2.nonce⟩
 have e1 : racC ((⟨ps[k].1.ac, sl'⟩, ps[k].2.1, sv') : RAc × Value × Value) = splice (racC ps[k]) 54 [sv'] := by
  unfold racC
  rw [splice_catR (i := 4) (s := [ps[k].2.2]) rfl (by simp) (by simp [acS, offOf_succ, offOf_zero])]
  rfl
 obtain ⟨k1, k2⟩ := hst2.putAt hk (off := 54) (vs := [sv']) (by simp) e1 rfl hp'
 have hlen2 : (ps.set k (⟨ps[k].1.ac, sl'⟩, ps[k].2.1, sv')).length = ps.length := List.length_set
 refine ⟨own2, ⟨.slice (some ⟨g, 0, none⟩) ps.length c, mv, ps.set k (⟨ps[k].1.ac, sl'⟩, ps[k].2.1, sv'), ms, x, k1, ?_, h4, (h5.mono (Nat.le_succ n)).set ⟨hlen, hpw, hnz⟩, fun m hm => (h6 m hm).mono (Nat.le_succ n), Nat.le_succ_of_le h7⟩, ⟨fun b hbv => (k2.ext b (Nat.lt_of_lt_of_le hbv hb.size)).trans (hext b hbv), ?_⟩⟩
 ·have := rst_put h1.up hk (⟨ps[k].1.ac, sl'⟩, ps[k].2.1, sv') rfl
  rw [this, ha, h3, hS]
  rfl
 ·exact (Only.of_below_size (S := hot own) hb).trans k2.only fun i hx _ => hhot i hx
theorem setSl_parts (l : List (Nat × Nat)) (k v pz tl : Nat) (hp : pz = posS l k) (ht : tl = if (∃ (h : posS l k < l.length), (l[posS l k]'h).1 = k) then posS l k + 1 else posS l k) :
  slotC (setSl l k v) = slotC (l.take pz) ++ (if v = 0 then [] else beC 32 k ++ beC 32 v) ++ slotC (l.drop tl) := by
 rw [setSl_eq, slotC_append, slotC_append, hp, ht]
 congr 2
 split <;> simp [slotC]
theorem setSl_plen (l : List (Nat × Nat)) (k v pz tl : Nat) (hp : pz = posS l k) (ht : tl = if (∃ (h : posS l k < l.length), (l[posS l k]'h).1 = k) then posS l k + 1 else posS l k) :
  (setSl l k v).length = pz + (if v = 0 then 0 else 1) + (l.length - tl) := by
 have hle := posS_le l k
 rw [setSl_eq, List.length_append, List.length_append, List.length_take, List.length_drop, ← ht, ← hp, Nat.min_eq_left (by omega)]
 congr 2
 split <;> simp
theorem setSl_val (l : List (Nat × Nat)) (k v : Nat) (hk : k < wW) (hv : v < wW) (h : ∀ q ∈ l, q.1 < wW ∧ q.2 < wW) : ∀ q ∈ setSl l k v, q.1 < wW ∧ q.2 < wW := by
 intro q hq
 rw [setSl_eq] at hq
 rcases List.mem_append.1 hq with hq | hq
 ·rcases List.mem_append.1 hq with hq | hq
  ·exact h q (List.mem_of_mem_take hq)
  ·split at hq
   ·cases hq
   ·rw [List.mem_singleton.1 hq]; exact ⟨hk, hv⟩
 ·exact h q (List.mem_of_mem_drop hq)
theorem setSlot_eq {S : St} {a k v : Nat} {sl : List (Nat × Nat)} (hpw : (sl.map Prod.fst).Pairwise (· < ·)) (hget : ∀ j, (S a).slots j = (getA j sl).getD 0) : upd S a { S a with slots := fun j => (getA j (setSl sl k v)).getD 0 } = S.setSlot a k v := by
 have e : (fun j => (getA j (setSl sl k v)).getD 0) = setS (S a).slots k v := by
  funext j
  rw [setSl_get sl k v j hpw]
  unfold setS
  split
  ·rfl
  ·exact (hget j).symm
 rw [e]
 rfl
theorem r_setSlot {w : World} {own : Go.Mun.Own} {sb a k v n : Nat} {S : St} {M : List (Nat × St)} (h : RState w own sb S M n) (ha : a < wA) (hk : k < wW) (hv : v < wW) (hn : n ≤ 999000) :
  Calls Tryz.prog 63 #[.pointer (some ⟨sb, 0, none⟩), .agg (beC 20 a).toArray, .agg (beC 32 k).toArray, .agg (beC 32 v).toArray] w (SetR w own sb (S.setSlot a k v) M (n + 2)) := by
 obtain ⟨w0, e0⟩ : ∃ w0, w0 = ((w.alloc (.cells (beC 20 a).toArray 23)).alloc (.cells (beC 32 k).toArray 25)).alloc (.cells (beC 32 v).toArray 25) := ⟨_, rfl⟩
 have hb0 : Below w.heap.size w w0 := by rw [e0]; exact (((Below.refl _ _).alloc (Nat.le_refl _) _).alloc (by simp) _).alloc (by simp; omega) _
 have q5 : w0.row? w.heap.size 0 20 = some (beC 20 a) := by rw [e0, World.row?_alloc_lt _ (by simp; omega), World.row?_alloc_lt _ (by simp)]; exact World.row?_alloc_at _ _ _ rfl (by simp)
 have q6 : w0.row? (w.heap.size + 1) 0 32 = some (beC 32 k) := by rw [e0, World.row?_alloc_lt _ (by simp)]; exact World.row?_alloc_at _ _ _ (by simp) (by simp)
 have q7 : w0.row? (w.heap.size + 1 + 1) 0 32 = some (beC 32 v) := by rw [e0]; exact World.row?_alloc_at _ _ _ (by simp) (by simp)
 have HST := hid (h.below hb0)
 have HE := hid e0
 have HB0 := hid hb0
 have HA := hid ha
 have HK := hid hk
 have HV := hid hv
 have HN := hid hn
 have HO6 : Hid (own (w.heap.size + 1) = none) := own_new h (by omega)
 have HO7 : Hid (own (w.heap.size + 1 + 1) = none) := own_new h (by omega)
 have Q6 := hid q6
 have Q7 := hid q7
 have hla := beC_len 20 a
 have hlk := beC_len 32 k
 have hlv := beC_len 32 v
 have z25 := b0_25
 rw [e0] at q5
 clear e0 hb0 h hn q6 q7 ha hk hv
 go_enter Tryz.func63, Tryz.ntmps63
 go_wp2_with fail
 rw [← HE.out]
 refine (r_hold HST.out HA.out (by have := HN.out; omega)).mono ?_
 rintro e w1 ⟨own1, g, kk, rfl, hheld, hc1⟩
 have r6 : w1.row? (w.heap.size + 1) 0 32 = some (beC 32 k) := (hc1.only.row? (World.row?_lt Q6.out) (not_hot HO6.out)).trans Q6.out
 have r7 : w1.row? (w.heap.size + 1 + 1) 0 32 = some (beC 32 v) := (hc1.only.row? (World.row?_lt Q7.out) (not_hot HO7.out)).trans Q7.out
 have hfree := hheld.free
 obtain ⟨sl, sv, c54, hown, hlen, hpw, hnz, hval, hget, hput⟩ := hheld.slots (by have := HN.out; omega)
 obtain ⟨sa, sc, hsv⟩ := own_shape hown
 subst hsv
 have HCAP : Hid (sl.length ≤ sc) := by
  show sl.length ≤ sc
  rcases hown.2 with ⟨h1, h2⟩ | ⟨g2, cap, cur, h1, _, _, h3, _⟩
  ·injection h1 with e1 e2 e3; omega
  ·injection h1 with e1 e2 e3; omega
 obtain ⟨m, hm⟩ : ∃ m, m = sl.length := ⟨_, rfl⟩
 rw [← hm] at c54
 obtain ⟨pz, hpz⟩ : ∃ pz, pz = posS sl k := ⟨_, rfl⟩
 have hpm : pz ≤ m := by rw [hpz, hm]; exact posS_le sl k
 have hm9 : m ≤ 1000000 := by have := HN.out; omega
 have HROW : Hid (∀ q (hq : q < sl.length), ∃ g0, sa = some ⟨g0, 0, none⟩ ∧ w1.row? g0 (q * 64) 32 = some (beC 32 sl[q].1)) := by
  intro q hq
  obtain ⟨g0, c', e, _, _, _, hr, _⟩ := own_words hown (by omega)
  cases e
  exact ⟨g0, rfl, (slot_rows (n := 0) hr hq).1⟩
 have HOWN := hid hown
 have HPW := hid hpw
 have HNZ := hid hnz
 have HVAL := hid hval
 have HGET := hid hget
 have HPUT := hid hput
 have HM := hid hm
 have HPZ := hid hpz
 have HPM := hid hpm
 have HM9 := hid hm9
 have HLEN := hid hlen
 have HC1 := hid ((ChgR.below own HB0.out).trans hc1)
 obtain ⟨T, hT⟩ : ∃ T : World → Prop, T = fun W => Below w1.heap.size w1 W := ⟨_, rfl⟩
 have HT := hid hT
 have HTG : Hid (∀ W, T W → Below w1.heap.size w1 W) := by show ∀ W, T W → _; rw [hT]; intro W h; exact h
 have HTM : Hid (∀ W, Below w1.heap.size w1 W → T W) := by show ∀ W, _ → T W; rw [hT]; intro W h; exact h
 have HTN : Hid (∀ W W', T W → Below W.heap.size W W' → T W') := by show ∀ W W', T W → Below W.heap.size W W' → T W'; rw [hT]; intro W W' h hb; exact h.trans (hb.mono h.size)
 have HC0 : Hid (∀ W, T W → W.cell? ⟨g, kk * 55 + 54, none⟩ = some (.slice sa m sc) ∧ W.row? (w.heap.size + 1) 0 32 = some (beC 32 k) ∧ W.row? (w.heap.size + 1 + 1) 0 32 = some (beC 32 v) ∧ W.free? g (kk * 55 + 54) 1 = true) := fun W hW => ⟨((HTG.out W hW).cell (World.block_lt_of_cell? w1 _ c54)).trans c54, ((brow (HTG.out W hW)).1 _ _ _ (World.row?_lt r6)).trans r6, ((brow (HTG.out W hW)).1 _ _ _ (World.row?_lt r7)).trans r7, World.free?_sub (((brow (HTG.out W hW)).2 _ _ _ (free?_lt hfree)).trans hfree) (by omega)⟩
 have tt : T w1 := HTM.out _ (Below.refl _ _)
 clear hheld hc1 r6 r7 hfree c54 hown hpw hnz hval hget hput hm hpz hlen hT q5
 go_wp2_with fail
 go_loopw [9] (fun i wr => ∃ q : Nat, q ≤ pz ∧ i = .int .i64 q ∧ T wr) (fun i _ => pz - (intOf i).toNat)
 case atStart => exact ⟨0, Nat.zero_le _, rfl, tt⟩
 case round =>
  obtain ⟨q, hq, rfl, ht⟩ := hrel
  have t0 : T wr.drew := HTN.out _ _ ht (Below.refl _ _).drew
  clear ht
  by_cases hlt : q < pz
  ·have hqs : q < sl.length := by rw [← HM.out]; omega
   obtain ⟨g0, hsa, hk1⟩ := HROW.out q hqs
   obtain ⟨x, hx⟩ : ∃ x, x = sl[q].1 := ⟨_, rfl⟩
   rw [← hx] at hk1
   have hxW : x < wW := by rw [hx]; exact (HVAL.out _ (List.getElem_mem hqs)).1
   subst hsa
   have HR : Hid (∀ W, T W → W.row? g0 (q * 64) 32 = some (beC 32 x)) := fun W hW => ((brow (HTG.out W hW)).1 _ _ _ (World.row?_lt hk1)).trans hk1
   have hqI : (q : Int) < (m : Int) := by omega
   have dql : decide ((q : Int) < (m : Int)) = true := decide_eq_true hqI
   have dqn : (q < m) = True := eq_true (by omega)
   have hlx := beC_len 32 x
   have hlq : x < k := by rw [hx]; exact posS_lt sl k q hqs (by rw [← HPZ.out]; exact hlt)
   have hdl : decide (x < k) = true := decide_eq_true hlq
   have hk1' : IntKind.i64.wrap ((q : Int) + 1) = ((q + 1 : Nat) : Int) := by have := HM9.out; rw [wrI _ (by omega) (by omega)]; omega
   have HX := hid hx
   have HLT := hid hlt
   have HLQ := hid hlq
   clear hx hqI hlq hlt hk1
   go_wp2_with fail
   refine wp_region_tree T [] (.pure 0 (.pure 1 (.pure 2 (.pure 3 (.take 4 (.pure 5 (.pure 6 (.pure 7 (.pure 8 (.pure 9 (.pure 10 (.take 11 (.pure 12 (.pure 13 (.pure 14 (.take 15 (.take 16 (.alt 17 (.pure 18 .fin) .stop)))))))))))))))))) (by kernel_rfl) (by kernel_rfl) ?_
   iterate 17
    first
    |refine tree_pure ?_ rfl (by rfl) (fun w' hs => ?_) (fun _ _ _ h => h) ?_
     rotate_left
     ·clear hs
      go_simp
      try rfl
     simp only [Act.put, tsa, tsb, tsc]
    |refine tree_take ?_ t0 rfl (by rfl) (fun w' hs => ?_) (fun _ _ _ h => h) ?_
     rotate_left
     ·rw [HT.out] at hs
      obtain ⟨u1, u2, u3, u4⟩ := HC0.out w' (by rw [HT.out]; exact hs); have u5 := HR.out w' (by rw [HT.out]; exact hs)
      go_simp
      try rfl
     simp only [Act.put, tsa, tsb, tsc]
   refine tree_run rfl (fun K hK => ?_)
   go_simp
   refine (ref_less x k hxW HK.out _).mono ?_
   rintro e w2 ⟨rfl, hb2⟩
   rw [hdl]
   have t1 : T w2 := HTN.out _ _ t0 hb2
   clear hb2
   refine hK.out _ _ t1 ?_
   clear hK K
   refine tree_pure ?_ rfl (by rfl) (fun w' hs => ?_) (fun _ _ _ h => h) ?_
   rotate_left
   ·clear hs
    go_simp
    try rfl
   simp only [Act.put, tsa, tsb, tsc]
   refine tree_fin ?_
   go_wp2_with fail
   go_roundw
   case rel => exact ⟨q + 1, by have := HLT.out; omega, by go_num, t1⟩
   case measure => have := HLT.out; simp [intOf]; omega
  ·obtain rfl : q = pz := by omega
   clear hlt hq
   by_cases hqm : q < m
   ·have hqs : q < sl.length := by rw [← HM.out]; omega
    obtain ⟨g0, hsa, hk1⟩ := HROW.out q hqs
    obtain ⟨x, hx⟩ : ∃ x, x = sl[q].1 := ⟨_, rfl⟩
    rw [← hx] at hk1
    have hxW : x < wW := by rw [hx]; exact (HVAL.out _ (List.getElem_mem hqs)).1
    subst hsa
    have HR : Hid (∀ W, T W → W.row? g0 (q * 64) 32 = some (beC 32 x)) := fun W hW => ((brow (HTG.out W hW)).1 _ _ _ (World.row?_lt hk1)).trans hk1
    have hqI : (q : Int) < (m : Int) := by omega
    have dql : decide ((q : Int) < (m : Int)) = true := decide_eq_true hqI
    have dqn : (q < m) = True := eq_true (by omega)
    have hlx := beC_len 32 x
    have hge : k ≤ x := by rw [hx]; have := posS_at sl k (by rw [← HPZ.out]; exact hqs); simpa only [← HPZ.out] using this
    have hdl : decide (x < k) = false := decide_eq_false (by omega)
    have HX := hid hx
    have HQM := hid hqm
    have HGE := hid hge
    have HQS := hid hqs
    clear hqI hge hqm hk1 hx
    go_wp2_with fail
    refine wp_region_tree T [] (.pure 0 (.pure 1 (.pure 2 (.pure 3 (.take 4 (.pure 5 (.pure 6 (.pure 7 (.pure 8 (.pure 9 (.pure 10 (.take 11 (.pure 12 (.pure 13 (.pure 14 (.take 15 (.take 16 (.alt 17 (.pure 18 .fin) .stop)))))))))))))))))) (by kernel_rfl) (by kernel_rfl) ?_
    iterate 17
     first
     |refine tree_pure ?_ rfl (by rfl) (fun w' hs => ?_) (fun _ _ _ h => h) ?_
      rotate_left
      ·clear hs
       go_simp
       try rfl
      simp only [Act.put, tsa, tsb, tsc]
     |refine tree_take ?_ t0 rfl (by rfl) (fun w' hs => ?_) (fun _ _ _ h => h) ?_
      rotate_left
      ·rw [HT.out] at hs
       obtain ⟨u1, u2, u3, u4⟩ := HC0.out w' (by rw [HT.out]; exact hs); have u5 := HR.out w' (by rw [HT.out]; exact hs)
       go_simp
       try rfl
      simp only [Act.put, tsa, tsb, tsc]
    refine tree_run rfl (fun K hK => ?_)
    go_simp
    refine (ref_less x k hxW HK.out _).mono ?_
    rintro e w2 ⟨rfl, hb2⟩
    rw [hdl]
    have t1 : T w2 := HTN.out _ _ t0 hb2
    clear hb2
    refine hK.out _ _ t1 ?_
    clear hK K
    refine tree_pure ?_ rfl (by rfl) (fun w' hs => ?_) (fun _ _ _ h => h) ?_
    rotate_left
    ·clear hs
     go_simp
     try rfl
    simp only [Act.put, tsa, tsb, tsc]
    refine tree_fin ?_
    go_wp2_with fail
    have t2 : T w2.drew := HTN.out _ _ t1 (Below.refl _ _).drew
    clear t0 t1
    have HQE := hid (fun w => eqW25 (a := x) (b := k) hxW HK.out w)
    by_cases hke : x = k
    ·have hdk : decide (x = k) = true := decide_eq_true hke
     rw [hdk] at HQE
     have HKE := hid hke
     have hw1 : IntKind.i64.wrap ((q : Int) + 1) = ((q + 1 : Nat) : Int) := by have := HM9.out; have := HPM.out; rw [wrI _ (by omega) (by omega)]; omega
     clear hke hdk
     refine wp_region_tree T [] (.pure 0 (.pure 1 (.pure 2 (.pure 3 (.take 4 (.pure 5 (.pure 6 (.pure 7 (.pure 8 (.pure 9 (.pure 10 (.take 11 (.pure 12 (.pure 13 (.pure 14 (.take 15 (.take 16 (.pure 17 (.pure 18 .fin))))))))))))))))))) (by kernel_rfl) (by kernel_rfl) ?_
     iterate 17
      first
      |refine tree_pure ?_ rfl (by rfl) (fun w' hs => ?_) (fun _ _ _ h => h) ?_
       rotate_left
       ·clear hs
        go_simp
        try rfl
       simp only [Act.put, tsa, tsb, tsc]
      |refine tree_take ?_ t2 rfl (by rfl) (fun w' hs => ?_) (fun _ _ _ h => h) ?_
       rotate_left
       ·rw [HT.out] at hs
        obtain ⟨u1, u2, u3, u4⟩ := HC0.out w' (by rw [HT.out]; exact hs); have u5 := HR.out w' (by rw [HT.out]; exact hs)
        go_simp
        try rfl
       simp only [Act.put, tsa, tsb, tsc]
     refine tree_pure (.bool true) rfl (by rfl) (fun w' hs => ?_) (fun _ _ _ h => h) ?_
     ·clear hs
      exact ex_eqlO _ _ _ _ _ _ _ _ _ _ _ eg25O rfl rfl (HQE.out _)
     simp only [Act.put, tsa, tsb, tsc]
     refine tree_pure ?_ rfl (by rfl) (fun w' hs => ?_) (fun _ _ _ h => h) ?_
     rotate_left
     ·clear hs
      go_simp
      try rfl
     simp only [Act.put, tsa, tsb, tsc]
     refine tree_fin ?_
     skip
     by_cases hvz : v = 0
     focus
      have HVZ := hid hvz
      clear hvz
      generalize w2.drew = W6 at *
      have hsh := slice33_head (some ⟨g0, 0, none⟩) m sc q (by have := HCAP.out; have := HM.out; have := HPM.out; omega)
      have HSH : Hid (SrcAt W6 (some ⟨g0, 0, none⟩) sc q 64 (slotC (sl.take q))) := slots_head (ownsRow_below HOWN.out (HTG.out _ t2)) q (by have := HM.out; have := HPM.out; omega)
      obtain ⟨u1, u2, u3, u4⟩ := HC0.out W6 t2
      have HT6 := hid t2
      clear u2 u3 u4 t2
      go_wp2_with (at_builtin; go_must (refine wpList_app elemS rfl _ _ rfl (World.ownsRow_nil _ _ _ _) rfl HSH.out rfl (by have := HM9.out; have := HPM.out; unfold maxLen; omega) (by have := HM9.out; have := HPM.out; omega) ?_))
      intro v6 w6 hv6 ho6 hn6
      have hb6 : Below W6.heap.size W6 w6 := ho6.below (Nat.le_refl _) (fun i hi => by simp [Value.ownBlock] at hi)
      have hv6' : w6.ownsRow 0 97 64 v6 q (slotC (sl.take q)) := by simpa using hv6
      obtain ⟨a6, c6, rfl⟩ := own_shape hv6'
      have t6 : T w6 := HTN.out _ _ HT6.out hb6
      have HV6 := hid hv6'
      have HN6 : Hid (∀ b, (Value.slice a6 q c6).ownBlock = some b → w1.heap.size ≤ b) := fun b hb => Nat.le_trans (HTG.out _ HT6.out).size ((hn6 b hb).resolve_left (by simp [Value.ownBlock]))
      clear hv6 ho6 hn6 hb6 hv6' u1 hsh
      obtain ⟨u1, u2, u3, u4⟩ := HC0.out w6 t6
      have heq := eqW HV.out (show (0 : Nat) < wW by decide) w6
      have hdv : decide (v = 0) = true := decide_eq_true HVZ.out
      rw [hdv] at heq
      have hst := slice33_tail (some ⟨g0, 0, none⟩) m sc (q + 1) (by have := HPM.out; have := HQM.out; omega)
      rw [show ((q + 1 : Nat) : Int) = (q : Int) + 1 from rfl] at hst
      have HTL : Hid (SrcAt w6 (tailS (some ⟨g0, 0, none⟩) sc (q + 1)) (sc - (q + 1)) (m - (q + 1)) 64 (slotC (sl.drop (q + 1)))) := by
       have := slots_tail (ownsRow_below HOWN.out (HTG.out _ t6)) (q + 1) (by have := HM.out; have := HPM.out; have := HQM.out; omega)
       rw [← HM.out] at this; exact this
      generalize tailS (some ⟨g0, 0, none⟩) sc (q + 1) = ta at *
      obtain ⟨tn, htn⟩ : ∃ tn, tn = m - (q + 1) := ⟨_, rfl⟩
      obtain ⟨tc, htc⟩ : ∃ tc, tc = sc - (q + 1) := ⟨_, rfl⟩
      rw [← htn, ← htc] at hst HTL
      have htn9 : tn ≤ 1000000 := by have := HM9.out; omega
      have HTNN := hid htn
      have HTN9 := hid htn9
      clear htn htc htn9
      go_wp2_with (at_builtin; go_must (refine wpList_app elemS rfl _ _ rfl HV6.out rfl HTL.out rfl (by have := HM9.out; have := HPM.out; have := HTN9.out; unfold maxLen; omega) (by have := HM9.out; have := HPM.out; have := HTN9.out; omega) ?_))
      intro v9 w9 hv9 ho9 hn9
      have hb9 : Below w1.heap.size w1 w9 := (HTG.out _ t6).trans (ho9.below (HTG.out _ t6).size (fun i hi => HN6.out i hi))
      have t9 : T w9 := HTM.out _ hb9
      have hone : v9.oneCell' = true := by obtain ⟨_, _, rfl⟩ := own_shape hv9; rfl
      have hf9 := (HC0.out w9 t9).2.2.2
      have HV9 := hid hv9
      have HN9 : Hid (∀ b, v9.ownBlock = some b → w1.heap.size ≤ b) := fun b hb => by
       rcases hn9 b hb with h | h
       ·exact HN6.out b h
       ·exact Nat.le_trans (HTG.out _ t6).size h
      have HB9 := hid hb9
      clear hv9 ho9 hn9 hb9 t9 t6 u1 hst
      go_wp2
      go_end0
      have htl : (q + 1) = if (∃ (h : posS sl k < sl.length), (sl[posS sl k]'h).1 = k) then posS sl k + 1 else posS sl k := by
       rw [if_pos ⟨by rw [← HPZ.out]; exact HQS.out, by have := HKE.out; rw [HX.out] at this; simpa only [← HPZ.out] using this⟩, ← HPZ.out]
      have e1 := setSl_parts sl k v q (q + 1) HPZ.out htl
      have e2 := setSl_plen sl k v q (q + 1) HPZ.out htl
      have e3 := setSl_len sl k v
      rw [if_pos HVZ.out, List.append_nil] at e1
      rw [if_pos HVZ.out, Nat.add_zero] at e2
     rotate_left
     focus
      have HVZ := hid hvz
      clear hvz
      generalize w2.drew = W6 at *
      have hsh := slice33_head (some ⟨g0, 0, none⟩) m sc q (by have := HCAP.out; have := HM.out; have := HPM.out; omega)
      have HSH : Hid (SrcAt W6 (some ⟨g0, 0, none⟩) sc q 64 (slotC (sl.take q))) := slots_head (ownsRow_below HOWN.out (HTG.out _ t2)) q (by have := HM.out; have := HPM.out; omega)
      obtain ⟨u1, u2, u3, u4⟩ := HC0.out W6 t2
      have HT6 := hid t2
      clear u2 u3 u4 t2
      go_wp2_with (at_builtin; go_must (refine wpList_app elemS rfl _ _ rfl (World.ownsRow_nil _ _ _ _) rfl HSH.out rfl (by have := HM9.out; have := HPM.out; unfold maxLen; omega) (by have := HM9.out; have := HPM.out; omega) ?_))
      intro v6 w6 hv6 ho6 hn6
      have hb6 : Below W6.heap.size W6 w6 := ho6.below (Nat.le_refl _) (fun i hi => by simp [Value.ownBlock] at hi)
      have hv6' : w6.ownsRow 0 97 64 v6 q (slotC (sl.take q)) := by simpa using hv6
      obtain ⟨a6, c6, rfl⟩ := own_shape hv6'
      have t6 : T w6 := HTN.out _ _ HT6.out hb6
      have HV6 := hid hv6'
      have HN6 : Hid (∀ b, (Value.slice a6 q c6).ownBlock = some b → w1.heap.size ≤ b) := fun b hb => Nat.le_trans (HTG.out _ HT6.out).size ((hn6 b hb).resolve_left (by simp [Value.ownBlock]))
      clear hv6 ho6 hn6 hb6 hv6' u1 hsh
      obtain ⟨u1, u2, u3, u4⟩ := HC0.out w6 t6
      have heq := eqW HV.out (show (0 : Nat) < wW by decide) w6
      have hdv : decide (v = 0) = false := decide_eq_false HVZ.out
      rw [hdv] at heq
      have hbl := build88 k v
      have hl64 : (beC 32 k ++ beC 32 v).length = 64 := by simp
      have hok64 : okL (1 * 64) (beC 32 k ++ beC 32 v) = true := by have := slotC_ok [(k, v)]; simpa [slotC] using this
      obtain ⟨CC, hCC⟩ : ∃ CC, CC = beC 32 k ++ beC 32 v := ⟨_, rfl⟩
      rw [← hCC] at hbl hl64 hok64
      have HCC := hid hCC
      have hb7 : Below w6.heap.size w6 (w6.alloc (.cells CC.toArray 97)) := (Below.refl _ _).alloc (Nat.le_refl _) _
      have HV6A : Hid ((w6.alloc (.cells CC.toArray 97)).ownsRow 0 97 64 (.slice a6 q c6) q (slotC (sl.take q))) := ownsRow_below HV6.out hb7
      have HSN : Hid (SrcAt (w6.alloc (.cells CC.toArray 97)) (some ⟨w6.heap.size, 0, none⟩) 1 1 64 CC) := SrcAt.new w6 97 (0, 0) hok64 1
      have T6A := hid (HTN.out _ _ t6 hb7)
      clear hCC hb7 hok64
      go_wp2_with (at_builtin; go_must (refine wpList_app elemS rfl _ _ rfl HV6A.out rfl HSN.out rfl (by have := HM9.out; have := HPM.out; unfold maxLen; omega) (by have := HM9.out; have := HPM.out; omega) ?_))
      intro v7 w7 hv7 ho7 hn7
      have hb7 : Below w1.heap.size w1 w7 := (HTG.out _ T6A.out).trans (ho7.below (HTG.out _ T6A.out).size (fun i hi => HN6.out i hi))
      obtain ⟨a7, c7, rfl⟩ := own_shape hv7
      have t7 : T w7 := HTM.out _ hb7
      have HV7 := hid hv7
      have HN7 : Hid (∀ b, (Value.slice a7 (q + 1) c7).ownBlock = some b → w1.heap.size ≤ b) := fun b hb => by
       rcases hn7 b hb with h | h
       ·exact HN6.out b h
       ·exact Nat.le_trans (HTG.out _ T6A.out).size (by first | exact h | simpa using h)
      clear hv7 ho7 hn7 hb7 u1 u2 u3 u4 heq hbl hl64
      obtain ⟨u1, u2, u3, u4⟩ := HC0.out w7 t7
      have hst := slice33_tail (some ⟨g0, 0, none⟩) m sc (q + 1) (by have := HPM.out; have := HQM.out; omega)
      rw [show ((q + 1 : Nat) : Int) = (q : Int) + 1 from rfl] at hst
      have HTL : Hid (SrcAt w7 (tailS (some ⟨g0, 0, none⟩) sc (q + 1)) (sc - (q + 1)) (m - (q + 1)) 64 (slotC (sl.drop (q + 1)))) := by
       have := slots_tail (ownsRow_below HOWN.out (HTG.out _ t7)) (q + 1) (by have := HM.out; have := HPM.out; have := HQM.out; omega)
       rw [← HM.out] at this; exact this
      generalize tailS (some ⟨g0, 0, none⟩) sc (q + 1) = ta at *
      obtain ⟨tn, htn⟩ : ∃ tn, tn = m - (q + 1) := ⟨_, rfl⟩
      obtain ⟨tc, htc⟩ : ∃ tc, tc = sc - (q + 1) := ⟨_, rfl⟩
      rw [← htn, ← htc] at hst HTL
      have htn9 : tn ≤ 1000000 := by have := HM9.out; omega
      have HTNN := hid htn
      have HTN9 := hid htn9
      clear htn htc u2 u3 u4 htn9
      go_wp2_with (at_builtin; go_must (refine wpList_app elemS rfl _ _ rfl HV7.out rfl HTL.out rfl (by have := HM9.out; have := HPM.out; have := HTN9.out; unfold maxLen; omega) (by have := HM9.out; have := HPM.out; have := HTN9.out; omega) ?_))
      intro v9 w9 hv9 ho9 hn9
      have hb9 : Below w1.heap.size w1 w9 := (HTG.out _ t7).trans (ho9.below (HTG.out _ t7).size (fun i hi => HN7.out i hi))
      have t9 : T w9 := HTM.out _ hb9
      have hone : v9.oneCell' = true := by obtain ⟨_, _, rfl⟩ := own_shape hv9; rfl
      have hf9 := (HC0.out w9 t9).2.2.2
      have HV9 := hid hv9
      have HN9 : Hid (∀ b, v9.ownBlock = some b → w1.heap.size ≤ b) := fun b hb => by
       rcases hn9 b hb with h | h
       ·exact HN7.out b h
       ·exact Nat.le_trans (HTG.out _ t7).size h
      have HB9 := hid hb9
      clear hv9 ho9 hn9 hb9 t9 t7 u1 hst
      go_wp2
      go_end0
      have htl : (q + 1) = if (∃ (h : posS sl k < sl.length), (sl[posS sl k]'h).1 = k) then posS sl k + 1 else posS sl k := by
       rw [if_pos ⟨by rw [← HPZ.out]; exact HQS.out, by have := HKE.out; rw [HX.out] at this; simpa only [← HPZ.out] using this⟩, ← HPZ.out]
      have e1 := setSl_parts sl k v q (q + 1) HPZ.out htl
      have e2 := setSl_plen sl k v q (q + 1) HPZ.out htl
      have e3 := setSl_len sl k v
      rw [if_neg HVZ.out, ← HCC.out] at e1
      rw [if_neg HVZ.out] at e2
     all_goals
      rw [← HM.out, ← HTNN.out] at e2
      have hv9 := HV9.out
      try simp only [List.append_assoc] at hv9
      try simp only [List.append_assoc] at e1
      rw [← e1, ← e2] at hv9
      obtain ⟨own2, s2, g2⟩ := HPUT.out w9 v9 (setSl sl k v) HB9.out hv9 HN9.out (setSl_val sl k v HK.out HV.out HVAL.out) (by have := HLEN.out; omega) (setSl_up sl k v HPW.out).1 (setSl_nz sl k v HNZ.out)
      rw [setSlot_eq HPW.out HGET.out] at s2
      exact ⟨rfl, own2, s2, HC1.out.trans g2⟩
    ·have hdk : decide (x = k) = false := decide_eq_false hke
     rw [hdk] at HQE
     have HKE := hid hke
     clear hke hdk
     refine wp_region_tree T [] (.pure 0 (.pure 1 (.pure 2 (.pure 3 (.take 4 (.pure 5 (.pure 6 (.pure 7 (.pure 8 (.pure 9 (.pure 10 (.take 11 (.pure 12 (.pure 13 (.pure 14 (.take 15 (.take 16 (.pure 17 (.pure 18 .fin))))))))))))))))))) (by kernel_rfl) (by kernel_rfl) ?_
     iterate 17
      first
      |refine tree_pure ?_ rfl (by rfl) (fun w' hs => ?_) (fun _ _ _ h => h) ?_
       rotate_left
       ·clear hs
        go_simp
        try rfl
       simp only [Act.put, tsa, tsb, tsc]
      |refine tree_take ?_ t2 rfl (by rfl) (fun w' hs => ?_) (fun _ _ _ h => h) ?_
       rotate_left
       ·rw [HT.out] at hs
        obtain ⟨u1, u2, u3, u4⟩ := HC0.out w' (by rw [HT.out]; exact hs); have u5 := HR.out w' (by rw [HT.out]; exact hs)
        go_simp
        try rfl
       simp only [Act.put, tsa, tsb, tsc]
     refine tree_pure (.bool false) rfl (by rfl) (fun w' hs => ?_) (fun _ _ _ h => h) ?_
     ·clear hs
      exact ex_eqlO _ _ _ _ _ _ _ _ _ _ _ eg25O rfl rfl (HQE.out _)
     simp only [Act.put, tsa, tsb, tsc]
     refine tree_pure ?_ rfl (by rfl) (fun w' hs => ?_) (fun _ _ _ h => h) ?_
     rotate_left
     ·clear hs
      go_simp
      try rfl
     simp only [Act.put, tsa, tsb, tsc]
     refine tree_fin ?_
     by_cases hvz : v = 0
     focus
      have HVZ := hid hvz
      clear hvz
      generalize w2.drew = W6 at *
      have hsh := slice33_head (some ⟨g0, 0, none⟩) m sc q (by have := HCAP.out; have := HM.out; have := HPM.out; omega)
      have HSH : Hid (SrcAt W6 (some ⟨g0, 0, none⟩) sc q 64 (slotC (sl.take q))) := slots_head (ownsRow_below HOWN.out (HTG.out _ t2)) q (by have := HM.out; have := HPM.out; omega)
      obtain ⟨u1, u2, u3, u4⟩ := HC0.out W6 t2
      have HT6 := hid t2
      clear u2 u3 u4 t2
      go_wp2_with (at_builtin; go_must (refine wpList_app elemS rfl _ _ rfl (World.ownsRow_nil _ _ _ _) rfl HSH.out rfl (by have := HM9.out; have := HPM.out; unfold maxLen; omega) (by have := HM9.out; have := HPM.out; omega) ?_))
      intro v6 w6 hv6 ho6 hn6
      have hb6 : Below W6.heap.size W6 w6 := ho6.below (Nat.le_refl _) (fun i hi => by simp [Value.ownBlock] at hi)
      have hv6' : w6.ownsRow 0 97 64 v6 q (slotC (sl.take q)) := by simpa using hv6
      obtain ⟨a6, c6, rfl⟩ := own_shape hv6'
      have t6 : T w6 := HTN.out _ _ HT6.out hb6
      have HV6 := hid hv6'
      have HN6 : Hid (∀ b, (Value.slice a6 q c6).ownBlock = some b → w1.heap.size ≤ b) := fun b hb => Nat.le_trans (HTG.out _ HT6.out).size ((hn6 b hb).resolve_left (by simp [Value.ownBlock]))
      clear hv6 ho6 hn6 hb6 hv6' u1 hsh
      obtain ⟨u1, u2, u3, u4⟩ := HC0.out w6 t6
      have heq := eqW HV.out (show (0 : Nat) < wW by decide) w6
      have hdv : decide (v = 0) = true := decide_eq_true HVZ.out
      rw [hdv] at heq
      have hst := slice33_tail (some ⟨g0, 0, none⟩) m sc q (by have := HPM.out; have := HQM.out; omega)
      have HTL : Hid (SrcAt w6 (tailS (some ⟨g0, 0, none⟩) sc q) (sc - q) (m - q) 64 (slotC (sl.drop q))) := by
       have := slots_tail (ownsRow_below HOWN.out (HTG.out _ t6)) q (by have := HM.out; have := HPM.out; have := HQM.out; omega)
       rw [← HM.out] at this; exact this
      generalize tailS (some ⟨g0, 0, none⟩) sc q = ta at *
      obtain ⟨tn, htn⟩ : ∃ tn, tn = m - q := ⟨_, rfl⟩
      obtain ⟨tc, htc⟩ : ∃ tc, tc = sc - q := ⟨_, rfl⟩
      rw [← htn, ← htc] at hst HTL
      have htn9 : tn ≤ 1000000 := by have := HM9.out; omega
      have HTNN := hid htn
      have HTN9 := hid htn9
      clear htn htc htn9
      go_wp2_with (at_builtin; go_must (refine wpList_app elemS rfl _ _ rfl HV6.out rfl HTL.out rfl (by have := HM9.out; have := HPM.out; have := HTN9.out; unfold maxLen; omega) (by have := HM9.out; have := HPM.out; have := HTN9.out; omega) ?_))
      intro v9 w9 hv9 ho9 hn9
      have hb9 : Below w1.heap.size w1 w9 := (HTG.out _ t6).trans (ho9.below (HTG.out _ t6).size (fun i hi => HN6.out i hi))
      have t9 : T w9 := HTM.out _ hb9
      have hone : v9.oneCell' = true := by obtain ⟨_, _, rfl⟩ := own_shape hv9; rfl
      have hf9 := (HC0.out w9 t9).2.2.2
      have HV9 := hid hv9
      have HN9 : Hid (∀ b, v9.ownBlock = some b → w1.heap.size ≤ b) := fun b hb => by
       rcases hn9 b hb with h | h
       ·exact HN6.out b h
       ·exact Nat.le_trans (HTG.out _ t6).size h
      have HB9 := hid hb9
      clear hv9 ho9 hn9 hb9 t9 t6 u1 hst
      go_wp2
      go_end0
      have htl : q = if (∃ (h : posS sl k < sl.length), (sl[posS sl k]'h).1 = k) then posS sl k + 1 else posS sl k := by
       rw [if_neg (fun hh => HKE.out (by obtain ⟨h1, h2⟩ := hh; rw [HX.out]; simpa only [← HPZ.out] using h2)), ← HPZ.out]
      have e1 := setSl_parts sl k v q q HPZ.out htl
      have e2 := setSl_plen sl k v q q HPZ.out htl
      have e3 := setSl_len sl k v
      rw [if_pos HVZ.out, List.append_nil] at e1
      rw [if_pos HVZ.out, Nat.add_zero] at e2
     rotate_left
     focus
      have HVZ := hid hvz
      clear hvz
      generalize w2.drew = W6 at *
      have hsh := slice33_head (some ⟨g0, 0, none⟩) m sc q (by have := HCAP.out; have := HM.out; have := HPM.out; omega)
      have HSH : Hid (SrcAt W6 (some ⟨g0, 0, none⟩) sc q 64 (slotC (sl.take q))) := slots_head (ownsRow_below HOWN.out (HTG.out _ t2)) q (by have := HM.out; have := HPM.out; omega)
      obtain ⟨u1, u2, u3, u4⟩ := HC0.out W6 t2
      have HT6 := hid t2
      clear u2 u3 u4 t2
      go_wp2_with (at_builtin; go_must (refine wpList_app elemS rfl _ _ rfl (World.ownsRow_nil _ _ _ _) rfl HSH.out rfl (by have := HM9.out; have := HPM.out; unfold maxLen; omega) (by have := HM9.out; have := HPM.out; omega) ?_))
      intro v6 w6 hv6 ho6 hn6
      have hb6 : Below W6.heap.size W6 w6 := ho6.below (Nat.le_refl _) (fun i hi => by simp [Value.ownBlock] at hi)
      have hv6' : w6.ownsRow 0 97 64 v6 q (slotC (sl.take q)) := by simpa using hv6
      obtain ⟨a6, c6, rfl⟩ := own_shape hv6'
      have t6 : T w6 := HTN.out _ _ HT6.out hb6
      have HV6 := hid hv6'
      have HN6 : Hid (∀ b, (Value.slice a6 q c6).ownBlock = some b → w1.heap.size ≤ b) := fun b hb => Nat.le_trans (HTG.out _ HT6.out).size ((hn6 b hb).resolve_left (by simp [Value.ownBlock]))
      clear hv6 ho6 hn6 hb6 hv6' u1 hsh
      obtain ⟨u1, u2, u3, u4⟩ := HC0.out w6 t6
      have heq := eqW HV.out (show (0 : Nat) < wW by decide) w6
      have hdv : decide (v = 0) = false := decide_eq_false HVZ.out
      rw [hdv] at heq
      have hbl := build88 k v
      have hl64 : (beC 32 k ++ beC 32 v).length = 64 := by simp
      have hok64 : okL (1 * 64) (beC 32 k ++ beC 32 v) = true := by have := slotC_ok [(k, v)]; simpa [slotC] using this
      obtain ⟨CC, hCC⟩ : ∃ CC, CC = beC 32 k ++ beC 32 v := ⟨_, rfl⟩
      rw [← hCC] at hbl hl64 hok64
      have HCC := hid hCC
      have hb7 : Below w6.heap.size w6 (w6.alloc (.cells CC.toArray 97)) := (Below.refl _ _).alloc (Nat.le_refl _) _
      have HV6A : Hid ((w6.alloc (.cells CC.toArray 97)).ownsRow 0 97 64 (.slice a6 q c6) q (slotC (sl.take q))) := ownsRow_below HV6.out hb7
      have HSN : Hid (SrcAt (w6.alloc (.cells CC.toArray 97)) (some ⟨w6.heap.size, 0, none⟩) 1 1 64 CC) := SrcAt.new w6 97 (0, 0) hok64 1
      have T6A := hid (HTN.out _ _ t6 hb7)
      clear hCC hb7 hok64
      go_wp2_with (at_builtin; go_must (refine wpList_app elemS rfl _ _ rfl HV6A.out rfl HSN.out rfl (by have := HM9.out; have := HPM.out; unfold maxLen; omega) (by have := HM9.out; have := HPM.out; omega) ?_))
      intro v7 w7 hv7 ho7 hn7
      have hb7 : Below w1.heap.size w1 w7 := (HTG.out _ T6A.out).trans (ho7.below (HTG.out _ T6A.out).size (fun i hi => HN6.out i hi))
      obtain ⟨a7, c7, rfl⟩ := own_shape hv7
      have t7 : T w7 := HTM.out _ hb7
      have HV7 := hid hv7
      have HN7 : Hid (∀ b, (Value.slice a7 (q + 1) c7).ownBlock = some b → w1.heap.size ≤ b) := fun b hb => by
       rcases hn7 b hb with h | h
       ·exact HN6.out b h
       ·exact Nat.le_trans (HTG.out _ T6A.out).size (by first | exact h | simpa using h)
      clear hv7 ho7 hn7 hb7 u1 u2 u3 u4 heq hbl hl64
      obtain ⟨u1, u2, u3, u4⟩ := HC0.out w7 t7
      have hst := slice33_tail (some ⟨g0, 0, none⟩) m sc q (by have := HPM.out; have := HQM.out; omega)
      have HTL : Hid (SrcAt w7 (tailS (some ⟨g0, 0, none⟩) sc q) (sc - q) (m - q) 64 (slotC (sl.drop q))) := by
       have := slots_tail (ownsRow_below HOWN.out (HTG.out _ t7)) q (by have := HM.out; have := HPM.out; have := HQM.out; omega)
       rw [← HM.out] at this; exact this
      generalize tailS (some ⟨g0, 0, none⟩) sc q = ta at *
      obtain ⟨tn, htn⟩ : ∃ tn, tn = m - q := ⟨_, rfl⟩
      obtain ⟨tc, htc⟩ : ∃ tc, tc = sc - q := ⟨_, rfl⟩
      rw [← htn, ← htc] at hst HTL
      have htn9 : tn ≤ 1000000 := by have := HM9.out; omega
      have HTNN := hid htn
      have HTN9 := hid htn9
      clear htn htc u2 u3 u4 htn9
      go_wp2_with (at_builtin; go_must (refine wpList_app elemS rfl _ _ rfl HV7.out rfl HTL.out rfl (by have := HM9.out; have := HPM.out; have := HTN9.out; unfold maxLen; omega) (by have := HM9.out; have := HPM.out; have := HTN9.out; omega) ?_))
      intro v9 w9 hv9 ho9 hn9
      have hb9 : Below w1.heap.size w1 w9 := (HTG.out _ t7).trans (ho9.below (HTG.out _ t7).size (fun i hi => HN7.out i hi))
      have t9 : T w9 := HTM.out _ hb9
      have hone : v9.oneCell' = true := by obtain ⟨_, _, rfl⟩ := own_shape hv9; rfl
      have hf9 := (HC0.out w9 t9).2.2.2
      have HV9 := hid hv9
      have HN9 : Hid (∀ b, v9.ownBlock = some b → w1.heap.size ≤ b) := fun b hb => by
       rcases hn9 b hb with h | h
       ·exact HN7.out b h
       ·exact Nat.le_trans (HTG.out _ t7).size h
      have HB9 := hid hb9
      clear hv9 ho9 hn9 hb9 t9 t7 u1 hst
      go_wp2
      go_end0
      have htl : q = if (∃ (h : posS sl k < sl.length), (sl[posS sl k]'h).1 = k) then posS sl k + 1 else posS sl k := by
       rw [if_neg (fun hh => HKE.out (by obtain ⟨h1, h2⟩ := hh; rw [HX.out]; simpa only [← HPZ.out] using h2)), ← HPZ.out]
      have e1 := setSl_parts sl k v q q HPZ.out htl
      have e2 := setSl_plen sl k v q q HPZ.out htl
      have e3 := setSl_len sl k v
      rw [if_neg HVZ.out, ← HCC.out] at e1
      rw [if_neg HVZ.out] at e2
     all_goals
      rw [← HM.out, ← HTNN.out] at e2
      have hv9 := HV9.out
      try simp only [List.append_assoc] at hv9
      try simp only [List.append_assoc] at e1
      rw [← e1, ← e2] at hv9
      obtain ⟨own2, s2, g2⟩ := HPUT.out w9 v9 (setSl sl k v) HB9.out hv9 HN9.out (setSl_val sl k v HK.out HV.out HVAL.out) (by have := HLEN.out; omega) (setSl_up sl k v HPW.out).1 (setSl_nz sl k v HNZ.out)
      rw [setSlot_eq HPW.out HGET.out] at s2
      exact ⟨rfl, own2, s2, HC1.out.trans g2⟩
   ·obtain rfl : q = m := by omega
    have dql : decide ((q : Int) < (q : Int)) = false := by simp
    have dqn : (q < q) = False := by simp
    clear hqm
    go_wp2_with fail
    refine wp_region_tree T [] (.pure 0 (.pure 1 (.pure 2 (.pure 3 (.take 4 (.pure 5 (.pure 6 (.pure 7 (.take 8 (.take 9 (.take 10 (.take 11 (.take 12 (.take 13 (.take 14 (.take 15 (.take 16 (.take 17 (.pure 18 .fin))))))))))))))))))) (by kernel_rfl) (by kernel_rfl) ?_
    iterate 8
     first
     |refine tree_pure ?_ rfl (by rfl) (fun w' hs => ?_) (fun _ _ _ h => h) ?_
      rotate_left
      ·clear hs
       go_simp
       try rfl
      simp only [Act.put, tsa, tsb, tsc]
     |refine tree_take ?_ t0 rfl (by rfl) (fun w' hs => ?_) (fun _ _ _ h => h) ?_
      rotate_left
      ·rw [HT.out] at hs
       obtain ⟨u1, u2, u3, u4⟩ := HC0.out w' (by rw [HT.out]; exact hs)
       go_simp
       try rfl
      simp only [Act.put, tsa, tsb, tsc]
    iterate 10
     refine tree_skip t0 rfl (by rfl) (fun _ _ _ h => h) ?_
     simp only [Act.put, tsa, tsb, tsc]
    refine tree_pure ?_ rfl (by rfl) (fun w' hs => ?_) (fun _ _ _ h => h) ?_
    rotate_left
    ·clear hs
     go_simp
     try rfl
    simp only [Act.put, tsa, tsb, tsc]
    refine tree_fin ?_
    go_wp2_with fail
    have t2 : T wr.drew.drew := HTN.out _ _ t0 (Below.refl _ _).drew
    clear t0
    refine wp_region_tree T [] (.pure 0 (.pure 1 (.pure 2 (.pure 3 (.take 4 (.pure 5 (.pure 6 (.pure 7 (.take 8 (.take 9 (.take 10 (.take 11 (.take 12 (.take 13 (.take 14 (.take 15 (.take 16 (.take 17 (.pure 18 .fin))))))))))))))))))) (by kernel_rfl) (by kernel_rfl) ?_
    iterate 8
     first
     |refine tree_pure ?_ rfl (by rfl) (fun w' hs => ?_) (fun _ _ _ h => h) ?_
      rotate_left
      ·clear hs
       go_simp
       try rfl
      simp only [Act.put, tsa, tsb, tsc]
     |refine tree_take ?_ t2 rfl (by rfl) (fun w' hs => ?_) (fun _ _ _ h => h) ?_
      rotate_left
      ·rw [HT.out] at hs
       obtain ⟨u1, u2, u3, u4⟩ := HC0.out w' (by rw [HT.out]; exact hs)
       go_simp
       try rfl
      simp only [Act.put, tsa, tsb, tsc]
    iterate 10
     refine tree_skip t2 rfl (by rfl) (fun _ _ _ h => h) ?_
     simp only [Act.put, tsa, tsb, tsc]
    refine tree_pure ?_ rfl (by rfl) (fun w' hs => ?_) (fun _ _ _ h => h) ?_
    rotate_left
    ·clear hs
     go_simp
     try rfl
    simp only [Act.put, tsa, tsb, tsc]
    refine tree_fin ?_
    by_cases hvz : v = 0
    focus
     have HVZ := hid hvz
     clear hvz
     generalize wr.drew.drew = W6 at *
     have hsh := slice33_head sa q sc q (by have := HCAP.out; have := HM.out; have := HPM.out; omega)
     have HSH : Hid (SrcAt W6 sa sc q 64 (slotC (sl.take q))) := slots_head (ownsRow_below HOWN.out (HTG.out _ t2)) q (by have := HM.out; have := HPM.out; omega)
     obtain ⟨u1, u2, u3, u4⟩ := HC0.out W6 t2
     have HT6 := hid t2
     clear u2 u3 u4 t2
     go_wp2_with (at_builtin; go_must (refine wpList_app elemS rfl _ _ rfl (World.ownsRow_nil _ _ _ _) rfl HSH.out rfl (by have := HM9.out; have := HPM.out; unfold maxLen; omega) (by have := HM9.out; have := HPM.out; omega) ?_))
     intro v6 w6 hv6 ho6 hn6
     have hb6 : Below W6.heap.size W6 w6 := ho6.below (Nat.le_refl _) (fun i hi => by simp [Value.ownBlock] at hi)
     have hv6' : w6.ownsRow 0 97 64 v6 q (slotC (sl.take q)) := by simpa using hv6
     obtain ⟨a6, c6, rfl⟩ := own_shape hv6'
     have t6 : T w6 := HTN.out _ _ HT6.out hb6
     have HV6 := hid hv6'
     have HN6 : Hid (∀ b, (Value.slice a6 q c6).ownBlock = some b → w1.heap.size ≤ b) := fun b hb => Nat.le_trans (HTG.out _ HT6.out).size ((hn6 b hb).resolve_left (by simp [Value.ownBlock]))
     clear hv6 ho6 hn6 hb6 hv6' u1 hsh
     obtain ⟨u1, u2, u3, u4⟩ := HC0.out w6 t6
     have heq := eqW HV.out (show (0 : Nat) < wW by decide) w6
     have hdv : decide (v = 0) = true := decide_eq_true HVZ.out
     rw [hdv] at heq
     have hst := slice33_tail sa q sc q (by have := HPM.out; omega)
     have HTL : Hid (SrcAt w6 (tailS sa sc q) (sc - q) (q - q) 64 (slotC (sl.drop q))) := by
      have := slots_tail (ownsRow_below HOWN.out (HTG.out _ t6)) q (by have := HM.out; have := HPM.out; omega)
      rw [← HM.out] at this; exact this
     generalize tailS sa sc q = ta at *
     obtain ⟨tn, htn⟩ : ∃ tn, tn = q - q := ⟨_, rfl⟩
     obtain ⟨tc, htc⟩ : ∃ tc, tc = sc - q := ⟨_, rfl⟩
     rw [← htn, ← htc] at hst HTL
     have htn9 : tn ≤ 1000000 := by have := HM9.out; omega
     have HTNN := hid htn
     have HTN9 := hid htn9
     clear htn htc htn9
     go_wp2_with (at_builtin; go_must (refine wpList_app elemS rfl _ _ rfl HV6.out rfl HTL.out rfl (by have := HM9.out; have := HPM.out; have := HTN9.out; unfold maxLen; omega) (by have := HM9.out; have := HPM.out; have := HTN9.out; omega) ?_))
     intro v9 w9 hv9 ho9 hn9
     have hb9 : Below w1.heap.size w1 w9 := (HTG.out _ t6).trans (ho9.below (HTG.out _ t6).size (fun i hi => HN6.out i hi))
     have t9 : T w9 := HTM.out _ hb9
     have hone : v9.oneCell' = true := by obtain ⟨_, _, rfl⟩ := own_shape hv9; rfl
     have hf9 := (HC0.out w9 t9).2.2.2
     have HV9 := hid hv9
     have HN9 : Hid (∀ b, v9.ownBlock = some b → w1.heap.size ≤ b) := fun b hb => by
      rcases hn9 b hb with h | h
      ·exact HN6.out b h
      ·exact Nat.le_trans (HTG.out _ t6).size h
     have HB9 := hid hb9
     clear hv9 ho9 hn9 hb9 t9 t6 u1 hst
     go_wp2
     go_end0
     have htl : q = if (∃ (h : posS sl k < sl.length), (sl[posS sl k]'h).1 = k) then posS sl k + 1 else posS sl k := by
      rw [if_neg (fun hh => by obtain ⟨h1, _⟩ := hh; have h2 := HPZ.out; have h3 := HM.out; omega), ← HPZ.out]
     have e1 := setSl_parts sl k v q q HPZ.out htl
     have e2 := setSl_plen sl k v q q HPZ.out htl
     have e3 := setSl_len sl k v
     rw [if_pos HVZ.out, List.append_nil] at e1
     rw [if_pos HVZ.out, Nat.add_zero] at e2
    rotate_left
    focus
     have HVZ := hid hvz
     clear hvz
     generalize wr.drew.drew = W6 at *
     have hsh := slice33_head sa q sc q (by have := HCAP.out; have := HM.out; have := HPM.out; omega)
     have HSH : Hid (SrcAt W6 sa sc q 64 (slotC (sl.take q))) := slots_head (ownsRow_below HOWN.out (HTG.out _ t2)) q (by have := HM.out; have := HPM.out; omega)
     obtain ⟨u1, u2, u3, u4⟩ := HC0.out W6 t2
     have HT6 := hid t2
     clear u2 u3 u4 t2
     go_wp2_with (at_builtin; go_must (refine wpList_app elemS rfl _ _ rfl (World.ownsRow_nil _ _ _ _) rfl HSH.out rfl (by have := HM9.out; have := HPM.out; unfold maxLen; omega) (by have := HM9.out; have := HPM.out; omega) ?_))
     intro v6 w6 hv6 ho6 hn6
     have hb6 : Below W6.heap.size W6 w6 := ho6.below (Nat.le_refl _) (fun i hi => by simp [Value.ownBlock] at hi)
     have hv6' : w6.ownsRow 0 97 64 v6 q (slotC (sl.take q)) := by simpa using hv6
     obtain ⟨a6, c6, rfl⟩ := own_shape hv6'
     have t6 : T w6 := HTN.out _ _ HT6.out hb6
     have HV6 := hid hv6'
     have HN6 : Hid (∀ b, (Value.slice a6 q c6).ownBlock = some b → w1.heap.size ≤ b) := fun b hb => Nat.le_trans (HTG.out _ HT6.out).size ((hn6 b hb).resolve_left (by simp [Value.ownBlock]))
     clear hv6 ho6 hn6 hb6 hv6' u1 hsh
     obtain ⟨u1, u2, u3, u4⟩ := HC0.out w6 t6
     have heq := eqW HV.out (show (0 : Nat) < wW by decide) w6
     have hdv : decide (v = 0) = false := decide_eq_false HVZ.out
     rw [hdv] at heq
     have hbl := build88 k v
     have hl64 : (beC 32 k ++ beC 32 v).length = 64 := by simp
     have hok64 : okL (1 * 64) (beC 32 k ++ beC 32 v) = true := by have := slotC_ok [(k, v)]; simpa [slotC] using this
     obtain ⟨CC, hCC⟩ : ∃ CC, CC = beC 32 k ++ beC 32 v := ⟨_, rfl⟩
     rw [← hCC] at hbl hl64 hok64
     have HCC := hid hCC
     have hb7 : Below w6.heap.size w6 (w6.alloc (.cells CC.toArray 97)) := (Below.refl _ _).alloc (Nat.le_refl _) _
     have HV6A : Hid ((w6.alloc (.cells CC.toArray 97)).ownsRow 0 97 64 (.slice a6 q c6) q (slotC (sl.take q))) := ownsRow_below HV6.out hb7
     have HSN : Hid (SrcAt (w6.alloc (.cells CC.toArray 97)) (some ⟨w6.heap.size, 0, none⟩) 1 1 64 CC) := SrcAt.new w6 97 (0, 0) hok64 1
     have T6A := hid (HTN.out _ _ t6 hb7)
     clear hCC hb7 hok64
     go_wp2_with (at_builtin; go_must (refine wpList_app elemS rfl _ _ rfl HV6A.out rfl HSN.out rfl (by have := HM9.out; have := HPM.out; unfold maxLen; omega) (by have := HM9.out; have := HPM.out; omega) ?_))
     intro v7 w7 hv7 ho7 hn7
     have hb7 : Below w1.heap.size w1 w7 := (HTG.out _ T6A.out).trans (ho7.below (HTG.out _ T6A.out).size (fun i hi => HN6.out i hi))
     obtain ⟨a7, c7, rfl⟩ := own_shape hv7
     have t7 : T w7 := HTM.out _ hb7
     have HV7 := hid hv7
     have HN7 : Hid (∀ b, (Value.slice a7 (q + 1) c7).ownBlock = some b → w1.heap.size ≤ b) := fun b hb => by
      rcases hn7 b hb with h | h
      ·exact HN6.out b h
      ·exact Nat.le_trans (HTG.out _ T6A.out).size (by first | exact h | simpa using h)
     clear hv7 ho7 hn7 hb7 u1 u2 u3 u4 heq hbl hl64
     obtain ⟨u1, u2, u3, u4⟩ := HC0.out w7 t7
     have hst := slice33_tail sa q sc q (by have := HPM.out; omega)
     have HTL : Hid (SrcAt w7 (tailS sa sc q) (sc - q) (q - q) 64 (slotC (sl.drop q))) := by
      have := slots_tail (ownsRow_below HOWN.out (HTG.out _ t7)) q (by have := HM.out; have := HPM.out; omega)
      rw [← HM.out] at this; exact this
     generalize tailS sa sc q = ta at *
     obtain ⟨tn, htn⟩ : ∃ tn, tn = q - q := ⟨_, rfl⟩
     obtain ⟨tc, htc⟩ : ∃ tc, tc = sc - q := ⟨_, rfl⟩
     rw [← htn, ← htc] at hst HTL
     have htn9 : tn ≤ 1000000 := by have := HM9.out; omega
     have HTNN := hid htn
     have HTN9 := hid htn9
     clear htn htc u2 u3 u4 htn9
     go_wp2_with (at_builtin; go_must (refine wpList_app elemS rfl _ _ rfl HV7.out rfl HTL.out rfl (by have := HM9.out; have := HPM.out; have := HTN9.out; unfold maxLen; omega) (by have := HM9.out; have := HPM.out; have := HTN9.out; omega) ?_))
     intro v9 w9 hv9 ho9 hn9
     have hb9 : Below w1.heap.size w1 w9 := (HTG.out _ t7).trans (ho9.below (HTG.out _ t7).size (fun i hi => HN7.out i hi))
     have t9 : T w9 := HTM.out _ hb9
     have hone : v9.oneCell' = true := by obtain ⟨_, _, rfl⟩ := own_shape hv9; rfl
     have hf9 := (HC0.out w9 t9).2.2.2
     have HV9 := hid hv9
     have HN9 : Hid (∀ b, v9.ownBlock = some b → w1.heap.size ≤ b) := fun b hb => by
      rcases hn9 b hb with h | h
      ·exact HN7.out b h
      ·exact Nat.le_trans (HTG.out _ t7).size h
     have HB9 := hid hb9
     clear hv9 ho9 hn9 hb9 t9 t7 u1 hst
     go_wp2
     go_end0
     have htl : q = if (∃ (h : posS sl k < sl.length), (sl[posS sl k]'h).1 = k) then posS sl k + 1 else posS sl k := by
      rw [if_neg (fun hh => by obtain ⟨h1, _⟩ := hh; have h2 := HPZ.out; have h3 := HM.out; omega), ← HPZ.out]
     have e1 := setSl_parts sl k v q q HPZ.out htl
     have e2 := setSl_plen sl k v q q HPZ.out htl
     have e3 := setSl_len sl k v
     rw [if_neg HVZ.out, ← HCC.out] at e1
     rw [if_neg HVZ.out] at e2
    all_goals
     rw [← HM.out, ← HTNN.out] at e2
     have hv9 := HV9.out
     try simp only [List.append_assoc] at hv9
     try simp only [List.append_assoc] at e1
     rw [← e1, ← e2] at hv9
     obtain ⟨own2, s2, g2⟩ := HPUT.out w9 v9 (setSl sl k v) HB9.out hv9 HN9.out (setSl_val sl k v HK.out HV.out HVAL.out) (by have := HLEN.out; omega) (setSl_up sl k v HPW.out).1 (setSl_nz sl k v HNZ.out)
     rw [setSlot_eq HPW.out HGET.out] at s2
     exact ⟨rfl, own2, s2, HC1.out.trans g2⟩
theorem RFrOk.state {E : REnv} {w : World} {own : Go.Mun.Own} {c : RFV} {f : Fr} {S : St} {M : List (Nat × St)} {n : Nat} {w' : World} {own' : Go.Mun.Own} {S' : St} {n' : Nat} (h : RFrOk E w own c f S M n) (g : ChgR w w' own own') (hs : RState w' own' E.sb S' M n') (hn : n' + f.gas ≤ E.N) : RFrOk E w' own' c f S' M n' := by
 have hR : ∀ b, hot own b → rmu own E.fb c b := fun _ h => .inl h
 have hX : ∀ b, b < w.heap.size → rmu own' E.fb c b → rmu own E.fb c b := by
  rintro b hb (h1 | h1)
  ·refine .inl ?_
   unfold hot at *
   rw [← g.ext b hb]; exact h1
  ·exact .inr h1
 exact { h with
  row := by rw [g.only.row? h.lt (not_hot h.fown)]; exact h.row
  free := by rw [g.only.free? h.lt (not_hot h.fown)]; exact h.free
  fown := by rw [g.ext _ h.lt]; exact h.fown
  chg := h.chg.trans g
  stk := Only.own h.stk g.only (fun b hb => not_hot (h.sown b hb).1)
  sown := fun b hb => ⟨by rw [g.ext _ (ownsRow_lt h.stk b hb)]; exact (h.sown b hb).1, (h.sown b hb).2⟩
  mem := Only.own h.mem g.only (fun b hb => not_hot (h.mown b hb).1)
  mown := fun b hb => ⟨by rw [g.ext _ (ownsRow_lt h.mem b hb)]; exact (h.mown b hb).1, (h.mown b hb).2⟩
  code := h.code.only g.only hR hX
  data := h.data.only g.only hR hX
  out := h.out.only g.only hR hX
  told := h.told.only g.only hR hX
  jmp := jmp_only h.jmp g.only hR hX
  st := hs
  cnt := hn }
theorem rplain_store {E : REnv} {w : World} {own : Go.Mun.Own} {c : RFV} {f : Fr} {S : St} {M : List (Nat × St)} {n : Nat} {v jv : Value} {k x : Nat} (h : RFrOk E w own c f S M n) (hn : n + 2 + f.gas ≤ E.N) (hk : k < wW) (hx : x < wW) (hv : w.ownsRow 0 25 32 v 2 (stkC [k, x])) :
  Calls Tryz.prog 269 #[.pointer (some ⟨E.fb, 0, none⟩), .int .u8 85, v, jv] w fun e w' => e = .returned (.int .i64 0) ∧ ∃ own', RFrOk E w' own' c f (S.setSlot f.m.to k x) M (n + 2) ∧ ChgR w w' own own' := by
 obtain ⟨g0, vc, hvf, r0⟩ := word_row (b := 0) (l := [k, x]) hv (i := 0) (by simp)
 obtain ⟨g1, vc1, hvf1, r1⟩ := word_row (b := 0) (l := [k, x]) hv (i := 1) (by simp)
 rw [hvf] at hvf1
 cases hvf1
 subst hvf
 simp only [List.getElem_cons_zero, List.getElem_cons_succ, Nat.zero_mul, Nat.one_mul, List.length_cons, List.length_nil, Nat.zero_add] at r0 r1
 have c0 := rf_ptr h.row
 have c1 := rf_self h.row
 have hto := h.mok.to
 have hnn : n ≤ 999000 := by have := h.lim; have := h.cnt; omega
 have H := hid h
 obtain ⟨T, hT⟩ : ∃ T : World → Prop, T = fun W => W.cell? ⟨E.fb, 0, none⟩ = some (.pointer (some ⟨E.sb, 0, none⟩)) ∧ W.row? E.fb 173 20 = some (beC 20 f.m.to) ∧ W.row? g0 0 32 = some (beC 32 k) ∧ W.row? g0 32 32 = some (beC 32 x) := ⟨_, rfl⟩
 have HT := hid hT
 have t0 : T w.drew := by rw [hT]; exact ⟨c0, c1, r0, r1⟩
 have HS := hid (r_setSlot (H.out.below (Below.refl _ _).drew).st hto hk hx hnn)
 have HN := hid hn
 clear h hT c0 c1 r0 r1 hv hn
 go_enter Tryz.func269, Tryz.ntmps269
 go_wp2_with fail
 refine wp_region_tree T [14] (.pure 0 (.pure 1 (.pure 2 (.take 3 (.pure 4 (.pure 5 (.pure 6 (.take 7 (.pure 8 (.pure 9 (.take 10 (.pure 11 (.pure 12 (.take 13 (.alt 14 .fin .stop))))))))))))))) (by kernel_rfl) (by kernel_rfl) ?_
 iterate 9
  first
  |refine tree_pure ?_ rfl (by rfl) (fun w' hs => ?_) (fun _ _ _ h => h) ?_
   rotate_left
   ·clear hs
    go_simp
    try rfl
   simp only [Act.put, tsa, tsb, tsc]
  |refine tree_take ?_ t0 rfl (by rfl) (fun w' hs => ?_) (fun _ _ _ h => h) ?_
   rotate_left
   ·rw [HT.out] at hs
    obtain ⟨g1, g2, g3, g4⟩ := hs
    go_simp
    try rfl
   simp only [Act.put, tsa, tsb, tsc]
 refine tree_pure (.pointer (some ⟨g0, 0, none⟩)) rfl (by rfl) (fun w' hs => ?_) (fun _ _ _ h => h) ?_
 ·clear hs
  go_simp
 simp only [Act.put, tsa, tsb, tsc]
 refine tree_take ?_ t0 rfl (by rfl) (fun w' hs => ?_) (fun _ _ _ h => h) ?_
 rotate_left
 ·rw [HT.out] at hs
  obtain ⟨g1, g2, g3, g4⟩ := hs
  go_simp
  try rfl
 simp only [Act.put, tsa, tsb, tsc]
 refine tree_pure ?_ rfl (by rfl) (fun w' hs => ?_) (fun _ _ _ h => h) ?_
 rotate_left
 ·clear hs
  go_simp
  try rfl
 simp only [Act.put, tsa, tsb, tsc]
 refine tree_pure (.pointer (some ⟨g0, 32, none⟩)) rfl (by rfl) (fun w' hs => ?_) (fun _ _ _ h => h) ?_
 ·clear hs
  go_simp
 simp only [Act.put, tsa, tsb, tsc]
 refine tree_take ?_ t0 rfl (by rfl) (fun w' hs => ?_) (fun _ _ _ h => h) ?_
 rotate_left
 ·rw [HT.out] at hs
  obtain ⟨g1, g2, g3, g4⟩ := hs
  go_simp
  try rfl
 simp only [Act.put, tsa, tsb, tsc]
 refine tree_z rfl (by simp) (fun K hK => ?_)
 go_simp
 refine HS.out.mono ?_
 rintro e w2 ⟨rfl, own2, st2, ch2⟩
 have HF : Hid (RFrOk E w2 own2 c f (S.setSlot f.m.to k x) M (n + 2) ∧ ChgR w w2 own own2) := by
  have g2 := (ChgR.below own (Below.refl w.heap.size w).drew).trans ch2
  exact ⟨RFrOk.state H.out g2 st2 HN.out, g2⟩
 clear st2 ch2
 refine hK.out _ _ ?_
 clear hK K
 refine tree_fin ?_
 go_wp2
 go_ret
 exact ⟨rfl, own2, HF.out.1, HF.out.2⟩
theorem u8L_beN (l : Bts) (n : Nat) (h : Byt l) (hn : l.length = n) : u8L l = beC n (beN l) := by
 subst hn
 unfold beC
 rw [be_beN l h]
 rfl
def RunP4 (w : World) (own : Go.Mun.Own) (sb : Nat) (S' : St) (M : List (Nat × St)) (N : Nat) (o : Outc) (e : Ending) (w' : World) : Prop :=
 ∃ ov lv own' n', e = .returned (.agg (cat (outS o ov lv)).toArray) ∧ StateAt TU w' own' sb S' M n' ∧ Chg w w' own own' ∧ OutAt w' own' w.heap.size ov lv o ∧ n' ≤ N
def adrQ (a : Nat) (n : Int) : Nat := beN (lowL (kecL (adrB (be 20 a) n)))
theorem beQ_byt (k a : Nat) : Byt (be k a) := by
 intro x hx
 unfold be at hx
 obtain ⟨i, _, rfl⟩ := List.mem_map.1 hx
 have := Nat.mod_lt (a / 256 ^ (k - 1 - i)) (show 0 < 256 by decide)
 omega
theorem u8L_beQ (k a : Nat) : u8L (be k a) = beC k a := rfl
def adr2Q (a s : Nat) (d : Bts) : Nat := beN (lowL (kecL (adr2B (be 20 a) (be 32 s) d)))
structure CrQ (w0 : World) (own0 : Go.Mun.Own) (sb rb tb : Nat) (cx : Ctx) (tab : Tabl) (m : Msg) (dv : Value) (d0 : Value) (l0 : Bts) (w : World) (own : Go.Mun.Own) (S : St) (M : List (Nat × St)) (n : Nat) : Prop where
 msg : Arr w w0.heap.size 129 (cat (msgS m dv))
 res : w.free? (w0.heap.size + 1) 0 24 = true
 o1 : own w0.heap.size = none
 o2 : own (w0.heap.size + 1) = none
 run0 : RunAt w0 own0 sb rb tb cx tab
 st : StateAt TU w own sb S M n
 chg : Chg w0 w own0 own
 data0 : RoAt w0 (fun b => own0 b ≠ none) d0 l0
section
variable {w0 : World} {own0 : Go.Mun.Own} {sb rb tb : Nat} {cx : Ctx} {tab : Tabl} {m : Msg} {dv d0 : Value} {l0 : Bts} {w : World} {own : Go.Mun.Own} {S : St} {M : List (Nat × St)} {n : Nat}
theorem CrQ.run (h : CrQ w0 own0 sb rb tb cx tab m dv d0 l0 w own S M n) : RunAt w own sb rb tb cx tab := h.run0.chg h.chg
theorem CrQ.data (h : CrQ w0 own0 sb rb tb cx tab m dv d0 l0 w own S M n) : RoAt w (fun b => own b ≠ none) d0 l0 := h.data0.chg h.chg
theorem CrQ.size (h : CrQ w0 own0 sb rb tb cx tab m dv d0 l0 w own S M n) : w0.heap.size + 1 < w.heap.size := free?_lt h.res
theorem CrQ.go (h : CrQ w0 own0 sb rb tb cx tab m dv d0 l0 w own S M n) {w' : World} {own' : Go.Mun.Own} {S' : St} {M' : List (Nat × St)} {n' : Nat} (hs : StateAt TU w' own' sb S' M' n') (g : Chg w w' own own') : CrQ w0 own0 sb rb tb cx tab m dv d0 l0 w' own' S' M' n' := by
 have h1 := h.msg.lt
 have h2 := free?_lt h.res
 exact ⟨h.msg.only g.only (fun hh => hh h.o1), by rw [g.only.free? h2 (fun hh => hh h.o2)]; exact h.res, by rw [g.ext _ h1]; exact h.o1, by rw [g.ext _ h2]; exact h.o2, h.run0, hs, h.chg.trans g, h.data0⟩
theorem CrQ.below (h : CrQ w0 own0 sb rb tb cx tab m dv d0 l0 w own S M n) {w' : World} (hb : Below w.heap.size w w') : CrQ w0 own0 sb rb tb cx tab m dv d0 l0 w' own S M n := h.go (h.st.below hb) (Chg.below own hb)
theorem CrQ.turn (h : CrQ w0 own0 sb rb tb cx tab m dv d0 l0 w own S M n) {w' : World} {m' : Msg} {dv' : Value} (ho : Only (· = w0.heap.size) w w') (hr : Arr w' w0.heap.size 129 (cat (msgS m' dv'))) : CrQ w0 own0 sb rb tb cx tab m' dv' d0 l0 w' own S M n :=
 ⟨hr, by rw [ho.free? (free?_lt h.res) (by omega)]; exact h.res, h.o1, h.o2, h.run0, h.st.only ho (fun c hc => by rw [hc]; exact h.o1), ⟨h.chg.ext, h.chg.only.trans ho (fun i hi he => by have : i = w0.heap.size := hi; omega)⟩, h.data0⟩
theorem CrQ.box (h : CrQ w0 own0 sb rb tb cx tab m dv d0 l0 w own S M n) {w' : World} {b : Nat} (hb : w0.heap.size + 1 < b) (ho : own b = none) (h1 : Only (· = b) w w') : CrQ w0 own0 sb rb tb cx tab m dv d0 l0 w' own S M n :=
 ⟨h.msg.only h1 (by omega), by rw [h1.free? (free?_lt h.res) (by omega)]; exact h.res, h.o1, h.o2, h.run0, h.st.only h1 (fun c hc => by rw [hc]; exact ho), ⟨h.chg.ext, h.chg.only.trans h1 (fun i hi he => by have : i = b := hi; omega)⟩, h.data0⟩
end
end Go.Proofs.YtfflppedbopdpaaGreat
namespace Go.Proofs.YtfflppedbopdpaaGreat
open Go.RowKit Go.Mun
end Go.Proofs.YtfflppedbopdpaaGreat
namespace Go.Proofs.YtfflppedbopdpaaGreat
open Go.RowKit Go.Mun
attribute [local irreducible] TabRel
end Go.Proofs.YtfflppedbopdpaaGreat
namespace Go.Proofs.YtfflppedbopdpaaGreat
open Go.RowKit Go.Mun
theorem box20 (W : World) (C : List Value) (h : okL 20 C = true) : Below W.heap.size W ((W.alloc (.cells (zU8 20).toArray 23)).setCells W.heap.size 0 C) ∧ ((W.alloc (.cells (zU8 20).toArray 23)).setCells W.heap.size 0 C).row? W.heap.size 0 20 = some C ∧ (W.alloc (.cells (zU8 20).toArray 23)).free? W.heap.size 0 20 = true := by
 have hf : (W.alloc (.cells (zU8 20).toArray 23)).free? W.heap.size 0 20 = true := World.free?_alloc_at _ _ rfl (by simp)
 exact ⟨((Below.refl _ _).alloc (Nat.le_refl _) _).setCells (Nat.le_refl _) _ _, row?_setCells_whole C hf h, hf⟩
def RClash (w : World) (own : Go.Mun.Own) (sb : Nat) (S' : St) (M : List (Nat × St)) (n : Nat) (o : Outc) (e : Ending) (w' : World) : Prop :=
 e = .returned (.agg (cat (outS o (.slice none 0 0) (.slice none 0 0))).toArray) ∧ ∃ own' n', RState w' own' sb S' M n' ∧ ChgR w w' own own' ∧ n' ≤ n
end Go.Proofs.YtfflppedbopdpaaGreat
