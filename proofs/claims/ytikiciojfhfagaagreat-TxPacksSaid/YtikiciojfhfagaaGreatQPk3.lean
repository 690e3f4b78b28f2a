/-
  Transactions as items: the program's Item.
-/
import Derived.Test.YtikiciojfhfagaaGreatQTx5
set_option linter.unusedVariables false
set_option linter.unusedSimpArgs false
namespace Go.Proofs.YtikiciojfhfagaaGreat
open Go.RowKit Go.Mun
/-- A transaction's parts as bytes. -/
def itemK (t : TxP) : List Bts := [bigL t.nonce.toNat, bigL t.price.toNat, bigL t.gas.toNat, be 20 t.frm, if t.make then [] else be 20 t.to, bigL t.value, t.data]
def negK (t : TxP) : Prop := t.nonce < 0 ∨ t.price < 0 ∨ t.gas < 0
def min3 (x y z : Int) : Int := if z < (if y < x then y else x) then z else (if y < x then y else x)
theorem min3_neg (x y z : Int) : min3 x y z < 0 ↔ x < 0 ∨ y < 0 ∨ z < 0 := by
  unfold min3; split <;> split <;> omega
@[go_sem ↓] theorem run_min_int3 {P : Program} (ts : Array TypeId) (t : TypeId) (k : IntKind) (x y z : Int) (w : World) : (Builtin.min_ ts t #[.int k x, .int k y, .int k z]).run P w = .ok (.int k (min3 x y z)) w := by
  simp [Builtin.min_, Builtin.min2, min3]
def itemZ7 : List Value := itemZ ++ (itemZ ++ (itemZ ++ (itemZ ++ (itemZ ++ (itemZ ++ itemZ)))))
set_option maxRecDepth 1000000 in
theorem slI7 : SliceLit Tryz.prog 63 65 3 7 itemZ7 := ⟨Tryz.underlying63, ⟨_, .agg itemZ.toArray, rfl, by kernel_rfl, by kernel_rfl, by kernel_rfl⟩, by decide, by simp [itemZ7, itemZ], by decide⟩
def zs7 : List (List Value) := [itemZ, itemZ, itemZ, itemZ, itemZ, itemZ, itemZ]
theorem zs7_len : (cat zs7).length = 21 := by kernel_rfl
theorem zs7_pl : ((List.range 7).map fun i => (i * 3, 3)) = plOf zs7 := by kernel_rfl
theorem zs7_cat : itemZ7 = cat zs7 := by kernel_rfl
def fillI7 (p : List (Nat × Value)) : Option (List Value) := fillL 21 (plOf zs7) (cat zs7) p
theorem bsI7 (ρ : Operand → Value) (dst : Option Tmp) (x0 x1 x2 x3 x4 x5 x6 : Operand) (t : TypeId) (pos : String) (after : Array Edge) (gd : Option (Nat × Bool)) (w : World) :
    (execOp ρ ⟨dst, .buildSlice 63 7 #[(0, x0), (1, x1), (2, x2), (3, x3), (4, x4), (5, x5), (6, x6)], t, pos, after, gd⟩).run Tryz.prog w = asNext (bsRow Tryz.prog 63 65 7 [(0, ρ x0), (1, ρ x1), (2, ρ x2), (3, ρ x3), (4, ρ x4), (5, ρ x5), (6, ρ x6)] w (fillI7 [(0, ρ x0), (1, ρ x1), (2, ρ x2), (3, ρ x3), (4, ρ x4), (5, ρ x5), (6, ρ x6)])) := by
  have h := ex_bslice ρ dst t pos after gd w slI7 [(0, x0), (1, x1), (2, x2), (3, x3), (4, x4), (5, x5), (6, x6)]
  rw [zs7_pl, zs7_cat] at h
  exact h
theorem fillI7_all (c0 c1 c2 c3 c4 c5 c6 : List Value) (h0 : c0.length = 3) (h1 : c1.length = 3) (h2 : c2.length = 3) (h3 : c3.length = 3) (h4 : c4.length = 3) (h5 : c5.length = 3) (h6 : c6.length = 3) :
    fillI7 [(0, .agg c0.toArray), (1, .agg c1.toArray), (2, .agg c2.toArray), (3, .agg c3.toArray), (4, .agg c4.toArray), (5, .agg c5.toArray), (6, .agg c6.toArray)] = some (cat [c0, c1, c2, c3, c4, c5, c6]) := by
  unfold fillI7
  rw [fillL_cats _ _ _ zs7_len]
  · rfl
  · have e : lens zs7 = [3, 3, 3, 3, 3, 3, 3] := by kernel_rfl
    rw [e]
    refine fits_cons ?_ (fits_cons ?_ (fits_cons ?_ (fits_cons ?_ (fits_cons ?_ (fits_cons ?_ (fits_cons ?_ (fits_nil _)))))))
    · show some 3 = some c0.length; rw [h0]
    · show some 3 = some c1.length; rw [h1]
    · show some 3 = some c2.length; rw [h2]
    · show some 3 = some c3.length; rw [h3]
    · show some 3 = some c4.length; rw [h4]
    · show some 3 = some c5.length; rw [h5]
    · show some 3 = some c6.length; rw [h6]
attribute [go_sem ↓] bsI7
def kidC (a : Option Addr) (n c : Nat) : List Value := [.bool false, .slice a n c, .slice none 0 0]
/-- What a transaction's item comes to. -/
def ItemIs (w w' : World) (t : TxP) (e : Ending) : Prop := Below w.heap.size w w' ∧ (negK t → e = .returned (.tuple #[.agg itemZ.toArray, .bool false])) ∧
  (¬ negK t → ∃ cs, e = .returned (.tuple #[.agg cs.toArray, .bool true]) ∧ TopAt w' (fun b => w.heap.size ≤ b) cs (.list ((itemK t).map some)))
/-- Seven items of bytes in a block of their own are an item. -/
theorem top_seven {w0 w : World} {g : Nat} {l0 l1 l2 l3 l4 l5 l6 : Bts} {a0 a1 a2 a3 a4 a5 a6 : Option Addr} {n0 n1 n2 n3 n4 n5 n6 c0 c1 c2 c3 c4 c5 c6 : Nat} (hg : w0.heap.size ≤ g)
    (hr : w.row? g 0 21 = some (cat [kidC a0 n0 c0, kidC a1 n1 c1, kidC a2 n2 c2, kidC a3 n3 c3, kidC a4 n4 c4, kidC a5 n5 c5, kidC a6 n6 c6]))
    (e0 : n0 = l0.length) (e1 : n1 = l1.length) (e2 : n2 = l2.length) (e3 : n3 = l3.length) (e4 : n4 = l4.length) (e5 : n5 = l5.length) (e6 : n6 = l6.length)
    (h0 : Ints w .u8 a0 c0 l0) (h1 : Ints w .u8 a1 c1 l1) (h2 : Ints w .u8 a2 c2 l2) (h3 : Ints w .u8 a3 c3 l3) (h4 : Ints w .u8 a4 c4 l4) (h5 : Ints w .u8 a5 c5 l5) (h6 : Ints w .u8 a6 c6 l6)
    (f0 : ∀ p, a0 = some p → w0.heap.size ≤ p.block) (f1 : ∀ p, a1 = some p → w0.heap.size ≤ p.block) (f2 : ∀ p, a2 = some p → w0.heap.size ≤ p.block) (f3 : ∀ p, a3 = some p → w0.heap.size ≤ p.block) (f4 : ∀ p, a4 = some p → w0.heap.size ≤ p.block) (f5 : ∀ p, a5 = some p → w0.heap.size ≤ p.block) (f6 : ∀ p, a6 = some p → w0.heap.size ≤ p.block)
    (b0 : Byt l0) (b1 : Byt l1) (b2 : Byt l2) (b3 : Byt l3) (b4 : Byt l4) (b5 : Byt l5) (b6 : Byt l6) :
    TopAt w (fun b => w0.heap.size ≤ b) [.bool true, .slice none 0 0, .slice (some ⟨g, 0, none⟩) 7 7] (.list ([l0, l1, l2, l3, l4, l5, l6].map some)) := by
  subst e0 e1 e2 e3 e4 e5 e6
  refine ⟨_, 7, rfl, fun _ => ⟨g, 0, [kidC a0 l0.length c0, kidC a1 l1.length c1, kidC a2 l2.length c2, kidC a3 l3.length c3, kidC a4 l4.length c4, kidC a5 l5.length c5, kidC a6 l6.length c6], rfl, Nat.le_refl _, by decide, hg, hr, ?_⟩⟩
  exact ⟨⟨a0, c0, rfl, h0, fun _ => f0, b0⟩, ⟨a1, c1, rfl, h1, fun _ => f1, b1⟩, ⟨a2, c2, rfl, h2, fun _ => f2, b2⟩, ⟨a3, c3, rfl, h3, fun _ => f3, b3⟩, ⟨a4, c4, rfl, h4, fun _ => f4, b4⟩, ⟨a5, c5, rfl, h5, fun _ => f5, b5⟩, ⟨a6, c6, rfl, h6, fun _ => f6, b6⟩, trivial⟩
theorem be_byte (k n : Nat) : Byt (be k n) := by
  intro x hx
  unfold be at hx
  obtain ⟨i, _, rfl⟩ := List.mem_map.1 hx
  exact ⟨Int.natCast_nonneg _, by have := Nat.mod_lt (n / 256 ^ (k - 1 - i)) (show 0 < 256 by decide); omega⟩
set_option maxRecDepth 100000 in
set_option maxHeartbeats 4000000 in
theorem tx_Item (n p g : Int) (f to : Nat) (mk : Bool) (v : Nat) (d : Bts) (hn : n ≤ 9223372036854775807) (hp : p ≤ 9223372036854775807) (hg : g ≤ 9223372036854775807) (hv : v < 256 ^ 32) (hd : d.length ≤ 70000000000000) (hby : Byt d) (da : Option Addr) (dc : Nat) (w : World) (hI : Ints w .u8 da dc d) :
    Calls Tryz.prog 28 #[.agg (cat (txS ⟨n, p, g, f, to, mk, v, d⟩ (.slice da d.length dc))).toArray] w fun e w' => ItemIs w w' ⟨n, p, g, f, to, mk, v, d⟩ e := by
  have hok : okL 3 itemZ = true := itemZ_ok
  obtain ⟨X, hX⟩ : ∃ X, X = cat (txS ⟨n, p, g, f, to, mk, v, d⟩ (.slice da d.length dc)) := ⟨_, rfl⟩
  have lX : X.length = 77 := by rw [hX]; exact txS_len _ _
  rw [← hX]
  obtain ⟨w0, e0⟩ : ∃ w0, w0 = (w.alloc (.cells X.toArray 44)).alloc (.cells itemZ.toArray 65) := ⟨_, rfl⟩
  have hb0 : Below w.heap.size w w0 := by rw [e0]; exact ((Below.refl _ _).alloc (Nat.le_refl _) _).alloc (by simp) _
  have hs0 : w0.heap.size = w.heap.size + 2 := by rw [e0]; simp
  have hr : w0.row? w.heap.size 0 77 = some X := by rw [e0, World.row?_alloc_lt _ (by simp)]; exact World.row?_alloc_at X 44 _ rfl lX
  have hf : w0.free? (w.heap.size + 1) 0 3 = true := by rw [e0]; exact World.free?_alloc_at _ _ (by simp) (Nat.le_refl _)
  rw [hX] at hr
  have x0 : w0.cell? ⟨w.heap.size, 0, none⟩ = some (.int .i64 n) := cell_cat hr (i := 0) rfl (by simp [txS, offOf_zero])
  have x1 : w0.cell? ⟨w.heap.size, 1, none⟩ = some (.int .i64 p) := cell_cat hr (i := 1) rfl (by simp [txS, offOf_succ, offOf_zero])
  have x2 : w0.cell? ⟨w.heap.size, 2, none⟩ = some (.int .i64 g) := cell_cat hr (i := 2) rfl (by simp [txS, offOf_succ, offOf_zero])
  have x5 : w0.cell? ⟨w.heap.size, 43, none⟩ = some (.bool mk) := cell_cat hr (i := 5) rfl (by simp [txS, offOf_succ, offOf_zero])
  have x7 : w0.cell? ⟨w.heap.size, 76, none⟩ = some (.slice da d.length dc) := cell_cat hr (i := 7) rfl (by simp [txS, offOf_succ, offOf_zero])
  have x3 : w0.row? w.heap.size 3 20 = some (beC 20 f) := row_cat hr (i := 3) rfl (by simp [txS, offOf_succ, offOf_zero]) (by simp)
  have x4 : w0.row? w.heap.size 23 20 = some (beC 20 to) := row_cat hr (i := 4) rfl (by simp [txS, offOf_succ, offOf_zero]) (by simp)
  have x6 : w0.row? w.heap.size 44 32 = some (beC 32 v) := row_cat hr (i := 6) rfl (by simp [txS, offOf_succ, offOf_zero]) (by simp)
  have HIB : Hid (∀ (W : World), Below w0.heap.size w0 W → ∀ (o k : Nat), w0.row? w.heap.size o 20 = some (beC 20 k) → Ints W .u8 (some ⟨w.heap.size, o, none⟩) 20 (be 20 k)) := by
    intro W hW o k hk
    have h1 := ((brow hW).1 _ _ _ (World.row?_lt hk)).trans hk
    refine ⟨fun _ => ⟨w.heap.size, o, rfl, fun i hi => ?_⟩, fun h => (by cases h), by rw [be_len]; omega, by decide⟩
    rw [be_len] at hi
    rw [World.row?_cell h1 hi]
    unfold beC
    rw [List.getElem?_map, List.getElem?_eq_getElem (by rw [be_len]; exact hi)]
    rfl
  obtain ⟨dl, hdl⟩ : ∃ dl, dl = d.length := ⟨_, rfl⟩
  rw [← hdl] at x7
  have HDL := Lib.hid hdl
  have HE := Lib.hid e0
  have HB := Lib.hid hb0
  have HS := Lib.hid hs0
  have HF := Lib.hid hf
  have HX3 := Lib.hid x3
  have HX4 := Lib.hid x4
  have HI := Lib.hid (hI.below hb0)
  have HN := Lib.hid (And.intro hn (And.intro hp hg))
  have HV := Lib.hid hv
  have HD := Lib.hid hd
  have HBY := Lib.hid hby
  obtain ⟨T, hT⟩ : ∃ T : World → Prop, T = fun W => W.cell? ⟨w.heap.size, 0, none⟩ = some (.int .i64 n) ∧ W.cell? ⟨w.heap.size, 1, none⟩ = some (.int .i64 p) ∧ W.cell? ⟨w.heap.size, 2, none⟩ = some (.int .i64 g) ∧ W.cell? ⟨w.heap.size, 76, none⟩ = some (.slice da dl dc) ∧ W.row? w.heap.size 44 32 = some (beC 32 v) := ⟨_, rfl⟩
  have HT := Lib.hid hT
  have HTB : Hid (∀ W, Below w0.heap.size w0 W → T W) := by
    show ∀ W, _ → _
    intro W hW
    rw [hT]
    have hl : w.heap.size < w0.heap.size := by omega
    exact ⟨(hW.cell (p := ⟨w.heap.size, 0, none⟩) hl).trans x0, (hW.cell (p := ⟨w.heap.size, 1, none⟩) hl).trans x1, (hW.cell (p := ⟨w.heap.size, 2, none⟩) hl).trans x2, (hW.cell (p := ⟨w.heap.size, 76, none⟩) hl).trans x7, ((brow hW).1 _ _ _ hl).trans x6⟩
  have hsl3 : ∀ w', (Instr.sliceAt 23 (.pointer (some ⟨w.heap.size, 3, none⟩)) none none none).run Tryz.prog w' = .ok (.slice (some ⟨w.heap.size, 3, none⟩) 20 20) w' := fun w' => slice23_3 _ w'
  have hsl4 : ∀ w', (Instr.sliceAt 23 (.pointer (some ⟨w.heap.size, 23, none⟩)) none none none).run Tryz.prog w' = .ok (.slice (some ⟨w.heap.size, 23, none⟩) 20 20) w' := fun w' => slice23_23 _ w'
  rw [e0] at x0 x1 x2 x5
  have HFF := hf
  rw [e0] at HFF
  clear e0 hb0 hs0 hr hf hX x3 x4 x6 x7 hdl hT hI hn hp hg hv hd hby
  by_cases hneg : n < 0 ∨ p < 0 ∨ g < 0
  · have HNG := Lib.hid hneg
    have hmin : decide (min3 n p g < 0) = true := decide_eq_true ((min3_neg n p g).2 hneg)
    have HB2 := HB.out
    rw [HE.out] at HB2
    have HB3 := Lib.hid HB2
    clear hneg HB2
    go_enter Tryz.func28, Tryz.ntmps28
    go_wp2
    exact ret_row2 ty61 rfl _ _ rfl rfl rfl (row?_setCells_whole _ HFF hok) ⟨HB3.out.setCells (by omega) _ _, fun _ => rfl, fun h => absurd HNG.out h⟩
  · have HNG : Hid (¬ negK ⟨n, p, g, f, to, mk, v, d⟩) := hneg
    have hmin : decide (min3 n p g < 0) = false := decide_eq_false (fun h => hneg ((min3_neg n p g).1 h))
    clear hneg
    cases mk with
    | true =>
      go_enter Tryz.func28, Tryz.ntmps28
      go_wp2_with fail
      rw [← HE.out]
      clear x0 x1 x2 x5 HFF
      have BW0 : Hid (Below w0.heap.size w0 w0) := Below.refl _ _
      have t0 : T w0.drew := HTB.out _ BW0.out.drew
      refine wp_region_tree T [] (.pure 0 (.take 1 (.pure 3 (.take 4 (.pure 6 (.take 7 (.pure 9 (.pure 10 (.pure 13 (.pure 14 (.pure 15 (.take 16 (.pure 18 (.take 19 (.alt 2 (.alt 5 (.alt 8 (.alt 11 (.pure 12 (.alt 17 (.alt 20 (.pure 21 (.alt 22 (.pure 23 .fin) .stop)) .stop) .stop)) .stop) .stop) .stop) .stop))))))))))))))) (by kernel_rfl) (by kernel_rfl) ?_
      refine tree_pure ?_ rfl (by rfl) (fun w' hs => ?_) (fun _ _ _ h => h) ?_
      rotate_left
      · clear hs
        go_simp
        try rfl
      simp only [Act.put, List.setIfInBounds_toArray, List.set_cons_zero, List.set_cons_succ]
      refine tree_take ?_ t0 rfl (by rfl) (fun w' hs => ?_) (fun _ _ _ h => h) ?_
      rotate_left
      · rw [HT.out] at hs
        obtain ⟨g0, g1, g2, g7, g6⟩ := hs
        go_simp
        try rfl
      simp only [Act.put, List.setIfInBounds_toArray, List.set_cons_zero, List.set_cons_succ]
      refine tree_pure ?_ rfl (by rfl) (fun w' hs => ?_) (fun _ _ _ h => h) ?_
      rotate_left
      · clear hs
        go_simp
        try rfl
      simp only [Act.put, List.setIfInBounds_toArray, List.set_cons_zero, List.set_cons_succ]
      refine tree_take ?_ t0 rfl (by rfl) (fun w' hs => ?_) (fun _ _ _ h => h) ?_
      rotate_left
      · rw [HT.out] at hs
        obtain ⟨g0, g1, g2, g7, g6⟩ := hs
        go_simp
        try rfl
      simp only [Act.put, List.setIfInBounds_toArray, List.set_cons_zero, List.set_cons_succ]
      refine tree_pure ?_ rfl (by rfl) (fun w' hs => ?_) (fun _ _ _ h => h) ?_
      rotate_left
      · clear hs
        go_simp
        try rfl
      simp only [Act.put, List.setIfInBounds_toArray, List.set_cons_zero, List.set_cons_succ]
      refine tree_take ?_ t0 rfl (by rfl) (fun w' hs => ?_) (fun _ _ _ h => h) ?_
      rotate_left
      · rw [HT.out] at hs
        obtain ⟨g0, g1, g2, g7, g6⟩ := hs
        go_simp
        try rfl
      simp only [Act.put, List.setIfInBounds_toArray, List.set_cons_zero, List.set_cons_succ]
      refine tree_pure ?_ rfl (by rfl) (fun w' hs => ?_) (fun _ _ _ h => h) ?_
      rotate_left
      · clear hs
        go_simp
        try rfl
      simp only [Act.put, List.setIfInBounds_toArray, List.set_cons_zero, List.set_cons_succ]
      refine tree_pure ?_ rfl (by rfl) (fun w' hs => ?_) (fun _ _ _ h => h) ?_
      rotate_left
      · clear hs
        go_simp
        try rfl
      simp only [Act.put, List.setIfInBounds_toArray, List.set_cons_zero, List.set_cons_succ]
      refine tree_pure ?_ rfl (by rfl) (fun w' hs => ?_) (fun _ _ _ h => h) ?_
      rotate_left
      · clear hs
        go_simp
        try rfl
      simp only [Act.put, List.setIfInBounds_toArray, List.set_cons_zero, List.set_cons_succ]
      refine tree_pure ?_ rfl (by rfl) (fun w' hs => ?_) (fun _ _ _ h => h) ?_
      rotate_left
      · clear hs
        go_simp
        try rfl
      simp only [Act.put, List.setIfInBounds_toArray, List.set_cons_zero, List.set_cons_succ]
      refine tree_pure ?_ rfl (by rfl) (fun w' hs => ?_) (fun _ _ _ h => h) ?_
      rotate_left
      · clear hs
        go_simp
        try rfl
      simp only [Act.put, List.setIfInBounds_toArray, List.set_cons_zero, List.set_cons_succ]
      refine tree_take ?_ t0 rfl (by rfl) (fun w' hs => ?_) (fun _ _ _ h => h) ?_
      rotate_left
      · rw [HT.out] at hs
        obtain ⟨g0, g1, g2, g7, g6⟩ := hs
        go_simp
        try rfl
      simp only [Act.put, List.setIfInBounds_toArray, List.set_cons_zero, List.set_cons_succ]
      refine tree_pure ?_ rfl (by rfl) (fun w' hs => ?_) (fun _ _ _ h => h) ?_
      rotate_left
      · clear hs
        go_simp
        try rfl
      simp only [Act.put, List.setIfInBounds_toArray, List.set_cons_zero, List.set_cons_succ]
      refine tree_take ?_ t0 rfl (by rfl) (fun w' hs => ?_) (fun _ _ _ h => h) ?_
      rotate_left
      · rw [HT.out] at hs
        obtain ⟨g0, g1, g2, g7, g6⟩ := hs
        go_simp
        try rfl
      simp only [Act.put, List.setIfInBounds_toArray, List.set_cons_zero, List.set_cons_succ]
      refine tree_run rfl (fun K hK => ?_)
      go_simp
      refine (rlp_num2 n HN.out.1 _).mono ?_
      rintro e w1 ⟨v1, rfl, k1⟩
      obtain ⟨a1, c1, rfl, i1, f1⟩ := k1.read
      have B1 : Hid (Below w0.heap.size w0 w1) := (BW0.out.drew).trans (k1.below.mono BW0.out.size)
      have I1 := Lib.hid i1
      have S1 := Lib.hid k1.below
      have F1 : Hid (∀ p, a1 = some p → w0.heap.size ≤ p.block) := fun p hp => by have h1 := f1 p hp; have h2 := BW0.out.size; simp at h1; omega
      have t1 : T w1 := HTB.out _ B1.out
      clear k1 i1 f1
      refine hK.out _ _ t1 ?_
      clear hK K
      refine tree_run rfl (fun K hK => ?_)
      go_simp
      refine (rlp_num2 p HN.out.2.1 _).mono ?_
      rintro e w2 ⟨v2, rfl, k2⟩
      obtain ⟨a2, c2, rfl, i2, f2⟩ := k2.read
      have B2 : Hid (Below w0.heap.size w0 w2) := B1.out.trans (k2.below.mono B1.out.size)
      have I2 := Lib.hid i2
      have S2 := Lib.hid k2.below
      have F2 : Hid (∀ p, a2 = some p → w0.heap.size ≤ p.block) := fun p hp => by have h1 := f2 p hp; have h2 := B1.out.size; omega
      have t2 : T w2 := HTB.out _ B2.out
      clear k2 i2 f2
      refine hK.out _ _ t2 ?_
      clear hK K
      refine tree_run rfl (fun K hK => ?_)
      go_simp
      refine (rlp_num2 g HN.out.2.2 _).mono ?_
      rintro e w3 ⟨v3, rfl, k3⟩
      obtain ⟨a3, c3, rfl, i3, f3⟩ := k3.read
      have B3 : Hid (Below w0.heap.size w0 w3) := B2.out.trans (k3.below.mono B2.out.size)
      have I3 := Lib.hid i3
      have S3 := Lib.hid k3.below
      have F3 : Hid (∀ p, a3 = some p → w0.heap.size ≤ p.block) := fun p hp => by have h1 := f3 p hp; have h2 := B2.out.size; omega
      have t3 : T w3 := HTB.out _ B3.out
      clear k3 i3 f3
      refine hK.out _ _ t3 ?_
      clear hK K
      refine tree_run rfl (fun K hK => ?_)
      go_simp
      refine (slices_clone (some ⟨w.heap.size, 3, none⟩) 20 20 (be 20 f) (be_len 20 f).symm (by decide) _ (HIB.out _ B3.out 3 f HX3.out)).mono ?_
      rintro e w4 ⟨v4, rfl, k4⟩
      obtain ⟨a4, c4, rfl, i4, f4⟩ := k4.read
      rw [be_len]
      have B4 : Hid (Below w0.heap.size w0 w4) := B3.out.trans (k4.below.mono B3.out.size)
      have I4 := Lib.hid i4
      have S4 := Lib.hid k4.below
      have F4 : Hid (∀ p, a4 = some p → w0.heap.size ≤ p.block) := fun p hp => by have h1 := f4 p hp; have h2 := B3.out.size; omega
      have t4 : T w4 := HTB.out _ B4.out
      clear k4 i4 f4
      refine hK.out _ _ t4 ?_
      clear hK K
      refine tree_pure ?_ rfl (by rfl) (fun w' hs => ?_) (fun _ _ _ h => h) ?_
      rotate_left
      · clear hs
        go_simp
        try rfl
      simp only [Act.put, List.setIfInBounds_toArray, List.set_cons_zero, List.set_cons_succ]
      refine tree_run rfl (fun K hK => ?_)
      go_simp
      refine (rlp_Big v HV.out _).mono ?_
      rintro e w5 ⟨v5, rfl, k5⟩
      obtain ⟨a5, c5, rfl, i5, f5⟩ := k5.read
      have B5 : Hid (Below w0.heap.size w0 w5) := B4.out.trans (k5.below.mono B4.out.size)
      have I5 := Lib.hid i5
      have S5 := Lib.hid k5.below
      have F5 : Hid (∀ p, a5 = some p → w0.heap.size ≤ p.block) := fun p hp => by have h1 := f5 p hp; have h2 := B4.out.size; omega
      have t5 : T w5 := HTB.out _ B5.out
      clear k5 i5 f5
      refine hK.out _ _ t5 ?_
      clear hK K
      refine tree_run rfl (fun K hK => ?_)
      go_simp
      refine (slices_clone da dl dc d HDL.out (by rw [HDL.out]; exact HD.out) _ (HI.out.below B5.out)).mono ?_
      rintro e w6 ⟨v6, rfl, k6⟩
      obtain ⟨a6, c6, rfl, i6, f6⟩ := k6.read
      rw [← HDL.out]
      have B6 : Hid (Below w0.heap.size w0 w6) := B5.out.trans (k6.below.mono B5.out.size)
      have I6 := Lib.hid i6
      have S6 := Lib.hid k6.below
      have F6 : Hid (∀ p, a6 = some p → w0.heap.size ≤ p.block) := fun p hp => by have h1 := f6 p hp; have h2 := B5.out.size; omega
      have t6 : T w6 := HTB.out _ B6.out
      have hfill := fillI7_all [.bool false, .slice a1 (bigL n.toNat).length c1, .slice none 0 0] [.bool false, .slice a2 (bigL p.toNat).length c2, .slice none 0 0] [.bool false, .slice a3 (bigL g.toNat).length c3, .slice none 0 0] (lay itemZ 1 [.slice a4 20 c4]) (lay itemZ 1 [.slice none 0 0]) [.bool false, .slice a5 (bigL v).length c5, .slice none 0 0] (lay itemZ 1 [.slice a6 dl c6]) rfl rfl rfl rfl rfl rfl rfl
      obtain ⟨C7, hC7⟩ : ∃ C7, C7 = cat [[.bool false, .slice a1 (bigL n.toNat).length c1, .slice none 0 0], [.bool false, .slice a2 (bigL p.toNat).length c2, .slice none 0 0], [.bool false, .slice a3 (bigL g.toNat).length c3, .slice none 0 0], (lay itemZ 1 [.slice a4 20 c4]), (lay itemZ 1 [.slice none 0 0]), [.bool false, .slice a5 (bigL v).length c5, .slice none 0 0], (lay itemZ 1 [.slice a6 dl c6])] := ⟨_, rfl⟩
      rw [← hC7] at hfill
      have HC7 : Hid (C7 = cat [kidC a1 (bigL n.toNat).length c1, kidC a2 (bigL p.toNat).length c2, kidC a3 (bigL g.toNat).length c3, kidC a4 20 c4, kidC none 0 0, kidC a5 (bigL v).length c5, kidC a6 dl c6]) := hC7
      have hl7 : C7.length = 21 := by rw [hC7]; rfl
      clear hC7
      clear k6 i6 f6
      refine hK.out _ _ t6 ?_
      clear hK K
      refine tree_pure ?_ rfl (by rfl) (fun w' hs => ?_) (fun _ _ _ h => h) ?_
      rotate_left
      · clear hs
        go_simp
        try rfl
      simp only [Act.put, List.setIfInBounds_toArray, List.set_cons_zero, List.set_cons_succ]
      refine tree_run rfl (fun K hK => ?_)
      go_simp
      obtain ⟨w7, e7⟩ : ∃ w7, w7 = w6.alloc (.cells C7.toArray 65) := ⟨_, rfl⟩
      rw [← e7]
      have b7 : Below w6.heap.size w6 w7 := by rw [e7]; exact (Below.refl _ _).alloc (Nat.le_refl _) _
      have B7 : Hid (Below w0.heap.size w0 w7) := B6.out.trans (b7.mono B6.out.size)
      have R7 : Hid (w7.row? w6.heap.size 0 21 = some C7) := by show _ = _; rw [e7]; exact World.row?_alloc_at _ _ _ rfl hl7
      have t7 : T w7 := HTB.out _ B7.out
      have S7 := Lib.hid b7
      clear b7 e7 hfill
      refine hK.out _ _ t7 ?_
      clear hK K
      refine tree_pure ?_ rfl (by rfl) (fun w' hs => ?_) (fun _ _ _ h => h) ?_
      rotate_left
      · clear hs
        go_simp
        try rfl
      simp only [Act.put, List.setIfInBounds_toArray, List.set_cons_zero, List.set_cons_succ]
      refine tree_fin ?_
      have hf7 : w7.free? (w.heap.size + 1) 0 3 = true := by rw [(brow B7.out).2 _ _ _ (free?_lt HF.out)]; exact HF.out
      have HB7 := Lib.hid (HB.out.trans (B7.out.mono HB.out.size))
      have hg6 : w.heap.size + 2 ≤ w6.heap.size := by have := B6.out.size; have := HS.out; omega
      have HG6 := Lib.hid hg6
      clear t0 t1 t2 t3 t4 t5 t6 t7
      go_wp2
      have e : lay (lay itemZ 0 [.bool true]) 2 [Value.slice (some ⟨w6.heap.size, 0, none⟩) 7 7] = [.bool true, .slice none 0 0, .slice (some ⟨w6.heap.size, 0, none⟩) 7 7] := rfl
      rw [e]
      have hO : Only (· = w.heap.size + 1) w7 (w7.setCells (w.heap.size + 1) 0 [.bool true, .slice none 0 0, .slice (some ⟨w6.heap.size, 0, none⟩) 7 7]) := (Only.refl (· = w.heap.size + 1) _).setCells (fun _ => rfl) _ _
      have K : ∀ (W : World) (a : Option Addr) (c : Nat) (l : Bts), Ints W .u8 a c l → (∀ p, a = some p → w0.heap.size ≤ p.block) → Below W.heap.size W w7 → Ints (w7.setCells (w.heap.size + 1) 0 [.bool true, .slice none 0 0, .slice (some ⟨w6.heap.size, 0, none⟩) 7 7]) .u8 a c l := fun W a c l hi hf hb => Ints.only (hi.below hb) hO (fun q hq hx => by have h1 := hf q hq; have h2 := HS.out; have : q.block = w.heap.size + 1 := hx; omega)
      have D6 := S7.out
      have D5 := S6.out.trans (D6.mono S6.out.size)
      have D4 := S5.out.trans (D5.mono S5.out.size)
      have D3 := S4.out.trans (D4.mono S4.out.size)
      have D2 := S3.out.trans (D3.mono S3.out.size)
      have D1 := S2.out.trans (D2.mono S2.out.size)
      have hrow : (w7.setCells (w.heap.size + 1) 0 [.bool true, .slice none 0 0, .slice (some ⟨w6.heap.size, 0, none⟩) 7 7]).row? w6.heap.size 0 21 = some (cat [kidC a1 (bigL n.toNat).length c1, kidC a2 (bigL p.toNat).length c2, kidC a3 (bigL g.toNat).length c3, kidC a4 20 c4, kidC none 0 0, kidC a5 (bigL v).length c5, kidC a6 dl c6]) := by
        rw [← HC7.out, hO.row? (World.row?_lt R7.out) (by have := HG6.out; omega)]
        exact R7.out
      have KF : ∀ a : Option Addr, (∀ p, a = some p → w0.heap.size ≤ p.block) → ∀ p, a = some p → w.heap.size ≤ p.block := fun a h p hp => by have h1 := h p hp; have h2 := HS.out; omega
      exact ret_row2 ty61 rfl _ _ rfl rfl rfl (row?_setCells_whole _ hf7 rfl) ⟨HB7.out.setCells (by omega) _ _, fun h => absurd h HNG.out, fun _ => ⟨_, rfl, top_seven (w0 := w) (g := w6.heap.size) (by have := HG6.out; omega) hrow rfl rfl rfl (be_len 20 f).symm rfl rfl HDL.out
        (K _ _ _ _ I1.out F1.out D1) (K _ _ _ _ I2.out F2.out D2) (K _ _ _ _ I3.out F3.out D3) (K _ _ _ _ I4.out F4.out D4) ⟨fun h => absurd rfl h, fun _ => rfl, Nat.le_refl _, Nat.zero_le _⟩ (K _ _ _ _ I5.out F5.out D5) (K _ _ _ _ I6.out F6.out D6)
        (KF _ F1.out) (KF _ F2.out) (KF _ F3.out) (KF _ F4.out) (fun p hp => by cases hp) (KF _ F5.out) (KF _ F6.out) (bigL_byte _) (bigL_byte _) (bigL_byte _) (be_byte 20 f) (fun x hx => by cases hx) (bigL_byte _) HBY.out⟩⟩
    | false =>
      go_enter Tryz.func28, Tryz.ntmps28
      go_wp2_with fail
      rw [← HE.out]
      clear x0 x1 x2 x5 HFF
      refine (slices_clone (some ⟨w.heap.size, 23, none⟩) 20 20 (be 20 to) (be_len 20 to).symm (by decide) w0 (HIB.out _ (Below.refl _ _) 23 to HX4.out)).mono ?_
      rintro e wa ⟨va, rfl, ka⟩
      obtain ⟨ta, tc, rfl, ia, fa⟩ := ka.read
      rw [be_len]
      have BA := Lib.hid ka.below
      have IA := Lib.hid ia
      have FA := Lib.hid fa
      have t0 : T wa.drew := HTB.out _ BA.out.drew
      clear ka ia fa
      go_wp2_with fail
      refine wp_region_tree T [] (.pure 0 (.take 1 (.pure 3 (.take 4 (.pure 6 (.take 7 (.pure 9 (.pure 10 (.pure 13 (.pure 14 (.pure 15 (.take 16 (.pure 18 (.take 19 (.alt 2 (.alt 5 (.alt 8 (.alt 11 (.pure 12 (.alt 17 (.alt 20 (.pure 21 (.alt 22 (.pure 23 .fin) .stop)) .stop) .stop)) .stop) .stop) .stop) .stop))))))))))))))) (by kernel_rfl) (by kernel_rfl) ?_
      refine tree_pure ?_ rfl (by rfl) (fun w' hs => ?_) (fun _ _ _ h => h) ?_
      rotate_left
      · clear hs
        go_simp
        try rfl
      simp only [Act.put, List.setIfInBounds_toArray, List.set_cons_zero, List.set_cons_succ]
      refine tree_take ?_ t0 rfl (by rfl) (fun w' hs => ?_) (fun _ _ _ h => h) ?_
      rotate_left
      · rw [HT.out] at hs
        obtain ⟨g0, g1, g2, g7, g6⟩ := hs
        go_simp
        try rfl
      simp only [Act.put, List.setIfInBounds_toArray, List.set_cons_zero, List.set_cons_succ]
      refine tree_pure ?_ rfl (by rfl) (fun w' hs => ?_) (fun _ _ _ h => h) ?_
      rotate_left
      · clear hs
        go_simp
        try rfl
      simp only [Act.put, List.setIfInBounds_toArray, List.set_cons_zero, List.set_cons_succ]
      refine tree_take ?_ t0 rfl (by rfl) (fun w' hs => ?_) (fun _ _ _ h => h) ?_
      rotate_left
      · rw [HT.out] at hs
        obtain ⟨g0, g1, g2, g7, g6⟩ := hs
        go_simp
        try rfl
      simp only [Act.put, List.setIfInBounds_toArray, List.set_cons_zero, List.set_cons_succ]
      refine tree_pure ?_ rfl (by rfl) (fun w' hs => ?_) (fun _ _ _ h => h) ?_
      rotate_left
      · clear hs
        go_simp
        try rfl
      simp only [Act.put, List.setIfInBounds_toArray, List.set_cons_zero, List.set_cons_succ]
      refine tree_take ?_ t0 rfl (by rfl) (fun w' hs => ?_) (fun _ _ _ h => h) ?_
      rotate_left
      · rw [HT.out] at hs
        obtain ⟨g0, g1, g2, g7, g6⟩ := hs
        go_simp
        try rfl
      simp only [Act.put, List.setIfInBounds_toArray, List.set_cons_zero, List.set_cons_succ]
      refine tree_pure ?_ rfl (by rfl) (fun w' hs => ?_) (fun _ _ _ h => h) ?_
      rotate_left
      · clear hs
        go_simp
        try rfl
      simp only [Act.put, List.setIfInBounds_toArray, List.set_cons_zero, List.set_cons_succ]
      refine tree_pure ?_ rfl (by rfl) (fun w' hs => ?_) (fun _ _ _ h => h) ?_
      rotate_left
      · clear hs
        go_simp
        try rfl
      simp only [Act.put, List.setIfInBounds_toArray, List.set_cons_zero, List.set_cons_succ]
      refine tree_pure ?_ rfl (by rfl) (fun w' hs => ?_) (fun _ _ _ h => h) ?_
      rotate_left
      · clear hs
        go_simp
        try rfl
      simp only [Act.put, List.setIfInBounds_toArray, List.set_cons_zero, List.set_cons_succ]
      refine tree_pure ?_ rfl (by rfl) (fun w' hs => ?_) (fun _ _ _ h => h) ?_
      rotate_left
      · clear hs
        go_simp
        try rfl
      simp only [Act.put, List.setIfInBounds_toArray, List.set_cons_zero, List.set_cons_succ]
      refine tree_pure ?_ rfl (by rfl) (fun w' hs => ?_) (fun _ _ _ h => h) ?_
      rotate_left
      · clear hs
        go_simp
        try rfl
      simp only [Act.put, List.setIfInBounds_toArray, List.set_cons_zero, List.set_cons_succ]
      refine tree_take ?_ t0 rfl (by rfl) (fun w' hs => ?_) (fun _ _ _ h => h) ?_
      rotate_left
      · rw [HT.out] at hs
        obtain ⟨g0, g1, g2, g7, g6⟩ := hs
        go_simp
        try rfl
      simp only [Act.put, List.setIfInBounds_toArray, List.set_cons_zero, List.set_cons_succ]
      refine tree_pure ?_ rfl (by rfl) (fun w' hs => ?_) (fun _ _ _ h => h) ?_
      rotate_left
      · clear hs
        go_simp
        try rfl
      simp only [Act.put, List.setIfInBounds_toArray, List.set_cons_zero, List.set_cons_succ]
      refine tree_take ?_ t0 rfl (by rfl) (fun w' hs => ?_) (fun _ _ _ h => h) ?_
      rotate_left
      · rw [HT.out] at hs
        obtain ⟨g0, g1, g2, g7, g6⟩ := hs
        go_simp
        try rfl
      simp only [Act.put, List.setIfInBounds_toArray, List.set_cons_zero, List.set_cons_succ]
      refine tree_run rfl (fun K hK => ?_)
      go_simp
      refine (rlp_num2 n HN.out.1 _).mono ?_
      rintro e w1 ⟨v1, rfl, k1⟩
      obtain ⟨a1, c1, rfl, i1, f1⟩ := k1.read
      have B1 : Hid (Below w0.heap.size w0 w1) := (BA.out.drew).trans (k1.below.mono BA.out.size)
      have I1 := Lib.hid i1
      have S1 := Lib.hid k1.below
      have F1 : Hid (∀ p, a1 = some p → w0.heap.size ≤ p.block) := fun p hp => by have h1 := f1 p hp; have h2 := BA.out.size; simp at h1; omega
      have t1 : T w1 := HTB.out _ B1.out
      clear k1 i1 f1
      refine hK.out _ _ t1 ?_
      clear hK K
      refine tree_run rfl (fun K hK => ?_)
      go_simp
      refine (rlp_num2 p HN.out.2.1 _).mono ?_
      rintro e w2 ⟨v2, rfl, k2⟩
      obtain ⟨a2, c2, rfl, i2, f2⟩ := k2.read
      have B2 : Hid (Below w0.heap.size w0 w2) := B1.out.trans (k2.below.mono B1.out.size)
      have I2 := Lib.hid i2
      have S2 := Lib.hid k2.below
      have F2 : Hid (∀ p, a2 = some p → w0.heap.size ≤ p.block) := fun p hp => by have h1 := f2 p hp; have h2 := B1.out.size; omega
      have t2 : T w2 := HTB.out _ B2.out
      clear k2 i2 f2
      refine hK.out _ _ t2 ?_
      clear hK K
      refine tree_run rfl (fun K hK => ?_)
      go_simp
      refine (rlp_num2 g HN.out.2.2 _).mono ?_
      rintro e w3 ⟨v3, rfl, k3⟩
      obtain ⟨a3, c3, rfl, i3, f3⟩ := k3.read
      have B3 : Hid (Below w0.heap.size w0 w3) := B2.out.trans (k3.below.mono B2.out.size)
      have I3 := Lib.hid i3
      have S3 := Lib.hid k3.below
      have F3 : Hid (∀ p, a3 = some p → w0.heap.size ≤ p.block) := fun p hp => by have h1 := f3 p hp; have h2 := B2.out.size; omega
      have t3 : T w3 := HTB.out _ B3.out
      clear k3 i3 f3
      refine hK.out _ _ t3 ?_
      clear hK K
      refine tree_run rfl (fun K hK => ?_)
      go_simp
      refine (slices_clone (some ⟨w.heap.size, 3, none⟩) 20 20 (be 20 f) (be_len 20 f).symm (by decide) _ (HIB.out _ B3.out 3 f HX3.out)).mono ?_
      rintro e w4 ⟨v4, rfl, k4⟩
      obtain ⟨a4, c4, rfl, i4, f4⟩ := k4.read
      rw [be_len]
      have B4 : Hid (Below w0.heap.size w0 w4) := B3.out.trans (k4.below.mono B3.out.size)
      have I4 := Lib.hid i4
      have S4 := Lib.hid k4.below
      have F4 : Hid (∀ p, a4 = some p → w0.heap.size ≤ p.block) := fun p hp => by have h1 := f4 p hp; have h2 := B3.out.size; omega
      have t4 : T w4 := HTB.out _ B4.out
      clear k4 i4 f4
      refine hK.out _ _ t4 ?_
      clear hK K
      refine tree_pure ?_ rfl (by rfl) (fun w' hs => ?_) (fun _ _ _ h => h) ?_
      rotate_left
      · clear hs
        go_simp
        try rfl
      simp only [Act.put, List.setIfInBounds_toArray, List.set_cons_zero, List.set_cons_succ]
      refine tree_run rfl (fun K hK => ?_)
      go_simp
      refine (rlp_Big v HV.out _).mono ?_
      rintro e w5 ⟨v5, rfl, k5⟩
      obtain ⟨a5, c5, rfl, i5, f5⟩ := k5.read
      have B5 : Hid (Below w0.heap.size w0 w5) := B4.out.trans (k5.below.mono B4.out.size)
      have I5 := Lib.hid i5
      have S5 := Lib.hid k5.below
      have F5 : Hid (∀ p, a5 = some p → w0.heap.size ≤ p.block) := fun p hp => by have h1 := f5 p hp; have h2 := B4.out.size; omega
      have t5 : T w5 := HTB.out _ B5.out
      clear k5 i5 f5
      refine hK.out _ _ t5 ?_
      clear hK K
      refine tree_run rfl (fun K hK => ?_)
      go_simp
      refine (slices_clone da dl dc d HDL.out (by rw [HDL.out]; exact HD.out) _ (HI.out.below B5.out)).mono ?_
      rintro e w6 ⟨v6, rfl, k6⟩
      obtain ⟨a6, c6, rfl, i6, f6⟩ := k6.read
      rw [← HDL.out]
      have B6 : Hid (Below w0.heap.size w0 w6) := B5.out.trans (k6.below.mono B5.out.size)
      have I6 := Lib.hid i6
      have S6 := Lib.hid k6.below
      have F6 : Hid (∀ p, a6 = some p → w0.heap.size ≤ p.block) := fun p hp => by have h1 := f6 p hp; have h2 := B5.out.size; omega
      have t6 : T w6 := HTB.out _ B6.out
      have hfill := fillI7_all [.bool false, .slice a1 (bigL n.toNat).length c1, .slice none 0 0] [.bool false, .slice a2 (bigL p.toNat).length c2, .slice none 0 0] [.bool false, .slice a3 (bigL g.toNat).length c3, .slice none 0 0] (lay itemZ 1 [.slice a4 20 c4]) (lay itemZ 1 [.slice ta 20 tc]) [.bool false, .slice a5 (bigL v).length c5, .slice none 0 0] (lay itemZ 1 [.slice a6 dl c6]) rfl rfl rfl rfl rfl rfl rfl
      obtain ⟨C7, hC7⟩ : ∃ C7, C7 = cat [[.bool false, .slice a1 (bigL n.toNat).length c1, .slice none 0 0], [.bool false, .slice a2 (bigL p.toNat).length c2, .slice none 0 0], [.bool false, .slice a3 (bigL g.toNat).length c3, .slice none 0 0], (lay itemZ 1 [.slice a4 20 c4]), (lay itemZ 1 [.slice ta 20 tc]), [.bool false, .slice a5 (bigL v).length c5, .slice none 0 0], (lay itemZ 1 [.slice a6 dl c6])] := ⟨_, rfl⟩
      rw [← hC7] at hfill
      have HC7 : Hid (C7 = cat [kidC a1 (bigL n.toNat).length c1, kidC a2 (bigL p.toNat).length c2, kidC a3 (bigL g.toNat).length c3, kidC a4 20 c4, kidC ta 20 tc, kidC a5 (bigL v).length c5, kidC a6 dl c6]) := hC7
      have hl7 : C7.length = 21 := by rw [hC7]; rfl
      clear hC7
      clear k6 i6 f6
      refine hK.out _ _ t6 ?_
      clear hK K
      refine tree_pure ?_ rfl (by rfl) (fun w' hs => ?_) (fun _ _ _ h => h) ?_
      rotate_left
      · clear hs
        go_simp
        try rfl
      simp only [Act.put, List.setIfInBounds_toArray, List.set_cons_zero, List.set_cons_succ]
      refine tree_run rfl (fun K hK => ?_)
      go_simp
      obtain ⟨w7, e7⟩ : ∃ w7, w7 = w6.alloc (.cells C7.toArray 65) := ⟨_, rfl⟩
      rw [← e7]
      have b7 : Below w6.heap.size w6 w7 := by rw [e7]; exact (Below.refl _ _).alloc (Nat.le_refl _) _
      have B7 : Hid (Below w0.heap.size w0 w7) := B6.out.trans (b7.mono B6.out.size)
      have R7 : Hid (w7.row? w6.heap.size 0 21 = some C7) := by show _ = _; rw [e7]; exact World.row?_alloc_at _ _ _ rfl hl7
      have t7 : T w7 := HTB.out _ B7.out
      have S7 := Lib.hid b7
      clear b7 e7 hfill
      refine hK.out _ _ t7 ?_
      clear hK K
      refine tree_pure ?_ rfl (by rfl) (fun w' hs => ?_) (fun _ _ _ h => h) ?_
      rotate_left
      · clear hs
        go_simp
        try rfl
      simp only [Act.put, List.setIfInBounds_toArray, List.set_cons_zero, List.set_cons_succ]
      refine tree_fin ?_
      have hf7 : w7.free? (w.heap.size + 1) 0 3 = true := by rw [(brow B7.out).2 _ _ _ (free?_lt HF.out)]; exact HF.out
      have HB7 := Lib.hid (HB.out.trans (B7.out.mono HB.out.size))
      have hg6 : w.heap.size + 2 ≤ w6.heap.size := by have := B6.out.size; have := HS.out; omega
      have HG6 := Lib.hid hg6
      clear t0 t1 t2 t3 t4 t5 t6 t7
      go_wp2
      have e : lay (lay itemZ 0 [.bool true]) 2 [Value.slice (some ⟨w6.heap.size, 0, none⟩) 7 7] = [.bool true, .slice none 0 0, .slice (some ⟨w6.heap.size, 0, none⟩) 7 7] := rfl
      rw [e]
      have hO : Only (· = w.heap.size + 1) w7 (w7.setCells (w.heap.size + 1) 0 [.bool true, .slice none 0 0, .slice (some ⟨w6.heap.size, 0, none⟩) 7 7]) := (Only.refl (· = w.heap.size + 1) _).setCells (fun _ => rfl) _ _
      have K : ∀ (W : World) (a : Option Addr) (c : Nat) (l : Bts), Ints W .u8 a c l → (∀ p, a = some p → w0.heap.size ≤ p.block) → Below W.heap.size W w7 → Ints (w7.setCells (w.heap.size + 1) 0 [.bool true, .slice none 0 0, .slice (some ⟨w6.heap.size, 0, none⟩) 7 7]) .u8 a c l := fun W a c l hi hf hb => Ints.only (hi.below hb) hO (fun q hq hx => by have h1 := hf q hq; have h2 := HS.out; have : q.block = w.heap.size + 1 := hx; omega)
      have D6 := S7.out
      have D5 := S6.out.trans (D6.mono S6.out.size)
      have D4 := S5.out.trans (D5.mono S5.out.size)
      have D3 := S4.out.trans (D4.mono S4.out.size)
      have D2 := S3.out.trans (D3.mono S3.out.size)
      have D1 := S2.out.trans (D2.mono S2.out.size)
      have hrow : (w7.setCells (w.heap.size + 1) 0 [.bool true, .slice none 0 0, .slice (some ⟨w6.heap.size, 0, none⟩) 7 7]).row? w6.heap.size 0 21 = some (cat [kidC a1 (bigL n.toNat).length c1, kidC a2 (bigL p.toNat).length c2, kidC a3 (bigL g.toNat).length c3, kidC a4 20 c4, kidC ta 20 tc, kidC a5 (bigL v).length c5, kidC a6 dl c6]) := by
        rw [← HC7.out, hO.row? (World.row?_lt R7.out) (by have := HG6.out; omega)]
        exact R7.out
      have KF : ∀ a : Option Addr, (∀ p, a = some p → w0.heap.size ≤ p.block) → ∀ p, a = some p → w.heap.size ≤ p.block := fun a h p hp => by have h1 := h p hp; have h2 := HS.out; omega
      exact ret_row2 ty61 rfl _ _ rfl rfl rfl (row?_setCells_whole _ hf7 rfl) ⟨HB7.out.setCells (by omega) _ _, fun h => absurd h HNG.out, fun _ => ⟨_, rfl, top_seven (w0 := w) (g := w6.heap.size) (by have := HG6.out; omega) hrow rfl rfl rfl (be_len 20 f).symm (be_len 20 to).symm rfl HDL.out
        (K _ _ _ _ I1.out F1.out D1) (K _ _ _ _ I2.out F2.out D2) (K _ _ _ _ I3.out F3.out D3) (K _ _ _ _ I4.out F4.out D4) (K _ _ _ _ IA.out FA.out ((Below.refl _ wa).drew.trans (S1.out.trans (D1.mono S1.out.size)))) (K _ _ _ _ I5.out F5.out D5) (K _ _ _ _ I6.out F6.out D6)
        (KF _ F1.out) (KF _ F2.out) (KF _ F3.out) (KF _ F4.out) (KF _ FA.out) (KF _ F5.out) (KF _ F6.out) (bigL_byte _) (bigL_byte _) (bigL_byte _) (be_byte 20 f) (be_byte 20 to) (bigL_byte _) HBY.out⟩⟩
end Go.Proofs.YtikiciojfhfagaaGreat
