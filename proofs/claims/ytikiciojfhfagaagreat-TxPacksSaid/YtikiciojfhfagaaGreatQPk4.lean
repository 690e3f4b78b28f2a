/-
  Transactions as items: the reference's Item.
  The plain law: what is packed is read as it was.
-/
import Derived.Test.YtikiciojfhfagaaGreatQPk3
set_option linter.unusedVariables false
set_option linter.unusedSimpArgs false
namespace Go.Proofs.YtikiciojfhfagaaGreat
open Go.RowKit Go.Mun

/-- Append of bytes to nothing, within a region that draws its order. -/
theorem step_app_new {ops : Array Oper} {o : Oper} {a : Act} {w : World} {K : Act → World → Prop} {Q : Exit → Act → World → Prop} {F : Prop} (hgd : o.guard = none) (s x : Operand)
    (ho : o.op = .call { callee := .builtin .append, args := #[s, x], argTypes := #[26, 26] }) (hs : a.eval s = .slice none 0 0) {ad : Option Addr} {m c : Nat} {l : Bts} (hx : a.eval x = .slice ad m c) (hm : m = l.length) (hI : Ints w .u8 ad c l) (h63 : m ≤ 70000000000000)
    (h : ∀ v' w', OwnB w w' v' l → K (a.put o.dst v') w') : if Region.wanted o (yielded ops a.tmps) = true then Oper.wp Tryz.prog o a w K Q else F := by
  subst hm
  obtain ⟨i, hi, hz, hsz, hb⟩ := elem26.info
  rw [if_pos (by simp [Region.wanted, hgd])]
  have hown : w.ownsRow w.heap.size 5 1 (.slice none 0 0) 0 [] := World.ownsRow_nil _ _ _ _
  cases ad with
  | none =>
    have hc := hI.nil rfl
    have hl := hI.len
    subst hc
    have : l = [] := List.eq_nil_of_length_eq_zero (by omega)
    subst this
    have hrun := run_append_owned_none (P := Tryz.prog) (w := w) w.heap.size 26 o.type 5 i 1 elem26.slice hi (.slice none 0 0) 0 [] hown
    have hx' : a.eval x = .slice none 0 0 := hx
    unfold Oper.wp
    simp [execOp, ho, resolve, invoke, builtin, hs, hx', hrun, Result.andThen]
    exact h _ _ ⟨by simpa using hown, Below.refl _ _⟩
  | some ad =>
    refine wp_append_own _ s x 26 ho w.heap.size 5 i _ 1 _ elem26.slice hi hz hsz hb elem26.zsize elem26.pos (.slice none 0 0) 0 [] hs hown ad l.length c (u8L l) hx (by simp) ?_ ?_ (by unfold maxLen; omega) (by omega) (Nat.le_refl _) fun v' w' h1 h2 _ => h v' w' ⟨by simpa [u8L] using h1, (Below.refl _ _).grown h2 (Nat.le_refl _) (fun k hk => by simp [Value.ownBlock] at hk)⟩
    · intro j u hj
      have hj' : j < l.length := by have := (List.getElem?_eq_some_iff.1 hj).1; simpa using this
      obtain ⟨ad2, ha, hc⟩ := ints_src hI (by omega)
      cases ha
      exact hc j u hj
    · intro u hu
      obtain ⟨y, _, rfl⟩ := List.mem_map.1 hu
      rfl
theorem ref_big2 (m : Nat) (hm : m < 256 ^ 32) (w : World) : Calls Tryz.prog 61 #[.agg (beC 32 m).toArray] w fun e w' => ∃ v, e = .returned v ∧ KidNew w w' v (bigL m) := by
  refine (ref_big m hm w).mono ?_
  rintro e w1 ⟨a, c, rfl, hi, hf, hb⟩
  exact ⟨_, rfl, ⟨a, c, rfl, hi, fun p hp => by have := hf p hp; omega⟩, hb⟩
theorem ref_num2 (n : Int) (hn : -9223372036854775808 ≤ n) (hn' : n ≤ 9223372036854775807) (w : World) : Calls Tryz.prog 43 #[.int .i64 n] w fun e w' => ∃ v, e = .returned v ∧ KidNew w w' v (bigL n.toNat) := by
  obtain ⟨m, em⟩ : ∃ m, m = n.toNat := ⟨_, rfl⟩
  have hm : m ≤ 9223372036854775807 := by omega
  have hm32 : m < 256 ^ 32 := Nat.lt_of_le_of_lt hm (by decide)
  have O := ofW_nat m hm
  have hm1 : -9223372036854775808 ≤ (m : Int) := by omega
  have hm2 : (m : Int) ≤ 9223372036854775807 := by omega
  rw [← em]
  by_cases h : n < 0
  · have e0 : (0 : Int) = (m : Int) := by omega
    have HE := Lib.hid e0
    clear e0 em hm
    go_enter Tryz.func43, Tryz.ntmps43
    go_wp2_with fail
    rw [HE.out]
    refine (ref_of m hm1 hm2 _).mono ?_
    rintro e w1 ⟨rfl, hb1⟩
    rw [O]
    have HB1 : Hid (Below w.heap.size w w1) := ((Below.refl w.heap.size w).alloc (Nat.le_refl _) (.cells itemZ.toArray 65)).trans (hb1.mono (by simp))
    have hf1 : w1.free? w.heap.size 0 3 = true := by
      rw [World.free?_of_block (hb1.block _ (by simp))]; simp [go_sem]
    have HF1 := Lib.hid hf1
    clear hb1 hf1
    go_wp2_with fail
    refine (ref_big m hm32 w1).mono ?_
    rintro e w2 ⟨a, c, rfl, hi, hfr, hb2⟩
    have hok : okL 3 [Value.bool false, .slice a (bigL m).length c, .slice none 0 0] = true := rfl
    have hf2 : w2.free? w.heap.size 0 3 = true := by
      rw [World.free?_of_block (hb2.block _ (free?_lt HF1.out))]; exact HF1.out
    have HB2 : Hid (Below w.heap.size w w2) := HB1.out.trans (hb2.mono HB1.out.size)
    have HI := Lib.hid hi
    have HFR := Lib.hid hfr
    have hs1 : w.heap.size < w1.heap.size := free?_lt HF1.out
    clear hi hb2 hfr
    go_wp2
    refine ret_row ty61 rfl _ rfl rfl hf2 hok ⟨_, rfl, ⟨a, c, rfl, ?_, fun p hp => by have := HFR.out p hp; omega⟩, HB2.out.setCells (Nat.le_refl _) _ _⟩
    refine Ints.only (S := (· = w.heap.size)) HI.out ((Only.refl (· = w.heap.size) w2).setCells (fun _ => rfl) _ _) (fun p hp => ?_)
    have := HFR.out p hp
    show ¬ _ = _
    omega
  · have e0 : n = (m : Int) := by omega
    subst e0
    clear em hm
    go_enter Tryz.func43, Tryz.ntmps43
    go_wp2_with fail
    refine (ref_of m hm1 hm2 _).mono ?_
    rintro e w1 ⟨rfl, hb1⟩
    rw [O]
    have HB1 : Hid (Below w.heap.size w w1) := ((Below.refl w.heap.size w).alloc (Nat.le_refl _) (.cells itemZ.toArray 65)).trans (hb1.mono (by simp))
    have hf1 : w1.free? w.heap.size 0 3 = true := by
      rw [World.free?_of_block (hb1.block _ (by simp))]; simp [go_sem]
    have HF1 := Lib.hid hf1
    clear hb1 hf1
    go_wp2_with fail
    refine (ref_big m hm32 w1).mono ?_
    rintro e w2 ⟨a, c, rfl, hi, hfr, hb2⟩
    have hok : okL 3 [Value.bool false, .slice a (bigL m).length c, .slice none 0 0] = true := rfl
    have hf2 : w2.free? w.heap.size 0 3 = true := by
      rw [World.free?_of_block (hb2.block _ (free?_lt HF1.out))]; exact HF1.out
    have HB2 : Hid (Below w.heap.size w w2) := HB1.out.trans (hb2.mono HB1.out.size)
    have HI := Lib.hid hi
    have HFR := Lib.hid hfr
    have hs1 : w.heap.size < w1.heap.size := free?_lt HF1.out
    clear hi hb2 hfr
    go_wp2
    refine ret_row ty61 rfl _ rfl rfl hf2 hok ⟨_, rfl, ⟨a, c, rfl, ?_, fun p hp => by have := HFR.out p hp; omega⟩, HB2.out.setCells (Nat.le_refl _) _ _⟩
    refine Ints.only (S := (· = w.heap.size)) HI.out ((Only.refl (· = w.heap.size) w2).setCells (fun _ => rfl) _ _) (fun p hp => ?_)
    have := HFR.out p hp
    show ¬ _ = _
    omega
set_option maxRecDepth 100000 in
set_option maxHeartbeats 4000000 in
theorem ref_Item (n p g : Int) (f to : Nat) (mk : Bool) (v : Nat) (d : Bts) (hn' : -9223372036854775808 ≤ n) (hn : n ≤ 9223372036854775807) (hp' : -9223372036854775808 ≤ p) (hp : p ≤ 9223372036854775807) (hg' : -9223372036854775808 ≤ g) (hg : g ≤ 9223372036854775807) (hv : v < 256 ^ 32) (hd : d.length ≤ 70000000000000) (hby : Byt d) (da : Option Addr) (dc : Nat) (w : World) (hI : Ints w .u8 da dc d) :
    Calls Tryz.prog 29 #[.agg (cat (txS ⟨n, p, g, f, to, mk, v, d⟩ (.slice da d.length dc))).toArray] w fun e w' => ItemIs w w' ⟨n, p, g, f, to, mk, v, d⟩ e := by
  have hok : okL 3 itemZ = true := itemZ_ok
  obtain ⟨X, hX⟩ : ∃ X, X = cat (txS ⟨n, p, g, f, to, mk, v, d⟩ (.slice da d.length dc)) := ⟨_, rfl⟩
  have lX : X.length = 77 := by rw [hX]; exact txS_len _ _
  rw [← hX]
  obtain ⟨w0, e0⟩ : ∃ w0, w0 = (w.alloc (.cells X.toArray 44)).alloc (.cells itemZ.toArray 65) := ⟨_, rfl⟩
  have hb0 : Below w.heap.size w w0 := by rw [e0]; exact ((Below.refl _ _).alloc (Nat.le_refl _) _).alloc (by simp) _
  have hs0 : w0.heap.size = w.heap.size + 2 := by rw [e0]; simp
  have hr : w0.row? w.heap.size 0 77 = some X := by rw [e0, World.row?_alloc_lt _ (by simp)]; exact World.row?_alloc_at X 44 _ rfl lX
  have hf : w0.free? (w.heap.size + 1) 0 3 = true := by rw [e0]; exact World.free?_alloc_at _ _ (by simp) (Nat.le_refl _)
  rw [hX] at hr
  have x0 : w0.cell? ⟨w.heap.size, 0, none⟩ = some (.int .i64 n) := cell_cat hr (i := 0) rfl (by simp [txS, offOf_zero])
  have x1 : w0.cell? ⟨w.heap.size, 1, none⟩ = some (.int .i64 p) := cell_cat hr (i := 1) rfl (by simp [txS, offOf_succ, offOf_zero])
  have x2 : w0.cell? ⟨w.heap.size, 2, none⟩ = some (.int .i64 g) := cell_cat hr (i := 2) rfl (by simp [txS, offOf_succ, offOf_zero])
  have x5 : w0.cell? ⟨w.heap.size, 43, none⟩ = some (.bool mk) := cell_cat hr (i := 5) rfl (by simp [txS, offOf_succ, offOf_zero])
  have x7 : w0.cell? ⟨w.heap.size, 76, none⟩ = some (.slice da d.length dc) := cell_cat hr (i := 7) rfl (by simp [txS, offOf_succ, offOf_zero])
  have x3 : w0.row? w.heap.size 3 20 = some (beC 20 f) := row_cat hr (i := 3) rfl (by simp [txS, offOf_succ, offOf_zero]) (by simp)
  have x4 : w0.row? w.heap.size 23 20 = some (beC 20 to) := row_cat hr (i := 4) rfl (by simp [txS, offOf_succ, offOf_zero]) (by simp)
  have x6 : w0.row? w.heap.size 44 32 = some (beC 32 v) := row_cat hr (i := 6) rfl (by simp [txS, offOf_succ, offOf_zero]) (by simp)
  have HIB : Hid (∀ (W : World), Below w0.heap.size w0 W → ∀ (o k : Nat), w0.row? w.heap.size o 20 = some (beC 20 k) → Ints W .u8 (some ⟨w.heap.size, o, none⟩) 20 (be 20 k)) := by
    intro W hW o k hk
    have h1 := ((brow hW).1 _ _ _ (World.row?_lt hk)).trans hk
    refine ⟨fun _ => ⟨w.heap.size, o, rfl, fun i hi => ?_⟩, fun h => (by cases h), by rw [be_len]; omega, by decide⟩
    rw [be_len] at hi
    rw [World.row?_cell h1 hi]
    unfold beC
    rw [List.getElem?_map, List.getElem?_eq_getElem (by rw [be_len]; exact hi)]
    rfl
  obtain ⟨dl, hdl⟩ : ∃ dl, dl = d.length := ⟨_, rfl⟩
  rw [← hdl] at x7
  have HDL := Lib.hid hdl
  have HE := Lib.hid e0
  have HB := Lib.hid hb0
  have HS := Lib.hid hs0
  have HF := Lib.hid hf
  have HX3 := Lib.hid x3
  have HX4 := Lib.hid x4
  have HI := Lib.hid (hI.below hb0)
  have HN : Hid ((-9223372036854775808 ≤ n ∧ n ≤ 9223372036854775807) ∧ (-9223372036854775808 ≤ p ∧ p ≤ 9223372036854775807) ∧ -9223372036854775808 ≤ g ∧ g ≤ 9223372036854775807) := ⟨⟨hn', hn⟩, ⟨hp', hp⟩, hg', hg⟩
  have HV := Lib.hid hv
  have HD := Lib.hid hd
  have HBY := Lib.hid hby
  obtain ⟨T, hT⟩ : ∃ T : World → Prop, T = fun W => W.cell? ⟨w.heap.size, 0, none⟩ = some (.int .i64 n) ∧ W.cell? ⟨w.heap.size, 1, none⟩ = some (.int .i64 p) ∧ W.cell? ⟨w.heap.size, 2, none⟩ = some (.int .i64 g) ∧ W.cell? ⟨w.heap.size, 76, none⟩ = some (.slice da dl dc) ∧ W.row? w.heap.size 44 32 = some (beC 32 v) := ⟨_, rfl⟩
  have HT := Lib.hid hT
  have HTO : Hid (∀ W, Only (· = w.heap.size + 1) w0 W → T W) := by
    show ∀ W, _ → _
    intro W hW
    rw [hT]
    have hl : w.heap.size < w0.heap.size := by omega
    have hne : ¬ w.heap.size = w.heap.size + 1 := by omega
    exact ⟨(hW.cell? hl hne).trans x0, (hW.cell? hl hne).trans x1, (hW.cell? hl hne).trans x2, (hW.cell? hl hne).trans x7, (hW.row? hl hne).trans x6⟩
  have HTB : Hid (∀ W, Below w0.heap.size w0 W → T W) := fun W hW => HTO.out W (Only.mono (S := fun _ => False) (Only.of_below_size hW) (fun _ (h : False) => h.elim))
  have HX5 := Lib.hid x5
  have hsl3 : ∀ w', (Instr.sliceAt 23 (.pointer (some ⟨w.heap.size, 3, none⟩)) none none none).run Tryz.prog w' = .ok (.slice (some ⟨w.heap.size, 3, none⟩) 20 20) w' := fun w' => slice23_3 _ w'
  have hsl4 : ∀ w', (Instr.sliceAt 23 (.pointer (some ⟨w.heap.size, 23, none⟩)) none none none).run Tryz.prog w' = .ok (.slice (some ⟨w.heap.size, 23, none⟩) 20 20) w' := fun w' => slice23_23 _ w'
  rw [e0] at x0 x1 x2 x5
  have HFF := hf
  rw [e0] at HFF
  clear hn' hp' hg'
  clear e0 hb0 hs0 hr hf hX x3 x4 x6 x7 hdl hT hI hn hp hg hv hd hby
  have HB3 : Hid (Below w.heap.size w ((w.alloc (.cells X.toArray 44)).alloc (.cells itemZ.toArray 65))) := by have := HB.out; rw [HE.out] at this; exact this
  by_cases hn0 : n < 0
  · have HNG : Hid (negK ⟨n, p, g, f, to, mk, v, d⟩) := .inl hn0
    clear x5
    go_enter Tryz.func29, Tryz.ntmps29
    go_wp2
    exact ret_row2 ty61 rfl _ _ rfl rfl rfl (row?_setCells_whole _ HFF hok) ⟨HB3.out.setCells (by omega) _ _, fun _ => rfl, fun h => absurd HNG.out h⟩
  have dn0 : decide (n < 0) = false := decide_eq_false hn0
  have HN0 := Lib.hid hn0
  clear hn0
  by_cases hp0 : p < 0
  · have HNG : Hid (negK ⟨n, p, g, f, to, mk, v, d⟩) := .inr (.inl hp0)
    clear x5
    go_enter Tryz.func29, Tryz.ntmps29
    go_wp2
    exact ret_row2 ty61 rfl _ _ rfl rfl rfl (row?_setCells_whole _ HFF hok) ⟨HB3.out.setCells (by omega) _ _, fun _ => rfl, fun h => absurd HNG.out h⟩
  have dp0 : decide (p < 0) = false := decide_eq_false hp0
  have HP0 := Lib.hid hp0
  clear hp0
  by_cases hg0 : g < 0
  · have HNG : Hid (negK ⟨n, p, g, f, to, mk, v, d⟩) := .inr (.inr hg0)
    clear x5
    go_enter Tryz.func29, Tryz.ntmps29
    go_wp2
    exact ret_row2 ty61 rfl _ _ rfl rfl rfl (row?_setCells_whole _ HFF hok) ⟨HB3.out.setCells (by omega) _ _, fun _ => rfl, fun h => absurd HNG.out h⟩
  have dg0 : decide (g < 0) = false := decide_eq_false hg0
  have HNG : Hid (¬ negK ⟨n, p, g, f, to, mk, v, d⟩) := fun h => h.elim HN0.out (fun h => h.elim HP0.out hg0)
  clear hg0
  go_enter Tryz.func29, Tryz.ntmps29
  have HIT : Hid (Ints w0 .u8 (some ⟨w.heap.size, 23, none⟩) 20 (be 20 to)) := HIB.out _ (Below.refl _ _) 23 to HX4.out
  have HIT2 := HIT.out
  rw [HE.out] at HIT2
  have HIT3 := Lib.hid HIT2
  have HOW : Hid (((w.alloc (.cells X.toArray 44)).alloc (.cells itemZ.toArray 65)).ownsRow ((w.alloc (.cells X.toArray 44)).alloc (.cells itemZ.toArray 65)).heap.size 5 1 (.slice none 0 0) 0 []) := World.ownsRow_nil _ _ _ _
  clear HIT2 HFF
  go_wp2_with (at_builtin; go_must (refine wpList_append_intsN (base := ((w.alloc (.cells X.toArray 44)).alloc (.cells itemZ.toArray 65)).heap.size) (n := 0) (xs := []) elem26 rfl _ _ rfl HOW.out rfl rfl (be_len 20 to).symm HIT3.out (by decide) (by decide) (Nat.le_refl _) ?_))
  intro va wa hoa hga
  have Hva : OwnB ((w.alloc (.cells X.toArray 44)).alloc (.cells itemZ.toArray 65)) wa va (be 20 to) := by
    refine ⟨?_, (Below.refl _ _).grown hga (by simp) (fun k hk => by simp [Value.ownBlock] at hk)⟩
    rw [be_len]
    simpa using hoa
  rw [← HE.out] at Hva
  have ka := Hva.new
  obtain ⟨ta, tc, rfl, ia, fa⟩ := ka.read
  rw [be_len]
  have BA := Lib.hid ka.below
  have IA := Lib.hid ia
  have FA := Lib.hid fa
  have t0 : T wa.drew := HTB.out _ BA.out.drew
  have x5a : wa.cell? ⟨w.heap.size, 43, none⟩ = some (.bool mk) := (BA.out.cell (p := ⟨w.heap.size, 43, none⟩) (by have := HS.out; show w.heap.size < _; omega)).trans HX5.out
  clear ka ia fa Hva hoa hga x0 x1 x2 x5
  cases mk with
  | true =>
    go_wp2_with fail
    refine wp_region_tree T [] (.pure 0 (.take 1 (.pure 3 (.take 4 (.pure 6 (.take 7 (.pure 9 (.pure 10 (.pure 13 (.pure 15 (.take 16 (.pure 18 (.take 19 (.alt 2 (.alt 5 (.alt 8 (.alt 11 (.alt 12 (.alt 14 (.alt 17 (.alt 20 (.alt 21 (.alt 22 (.alt 23 (.alt 24 (.pure 25 .fin) .stop) .stop) .stop) .stop) .stop) .stop) .stop) .stop) .stop) .stop) .stop) .stop)))))))))))))) (by kernel_rfl) (by kernel_rfl) ?_
    refine tree_pure ?_ rfl (by rfl) (fun w' hs => ?_) (fun _ _ _ h => h) ?_
    rotate_left
    · clear hs
      go_simp
      try rfl
    simp only [Act.put, List.setIfInBounds_toArray, List.set_cons_zero, List.set_cons_succ]
    refine tree_take ?_ t0 rfl (by rfl) (fun w' hs => ?_) (fun _ _ _ h => h) ?_
    rotate_left
    · rw [HT.out] at hs
      obtain ⟨g0, g1, g2, g7, g6⟩ := hs
      go_simp
      try rfl
    simp only [Act.put, List.setIfInBounds_toArray, List.set_cons_zero, List.set_cons_succ]
    refine tree_pure ?_ rfl (by rfl) (fun w' hs => ?_) (fun _ _ _ h => h) ?_
    rotate_left
    · clear hs
      go_simp
      try rfl
    simp only [Act.put, List.setIfInBounds_toArray, List.set_cons_zero, List.set_cons_succ]
    refine tree_take ?_ t0 rfl (by rfl) (fun w' hs => ?_) (fun _ _ _ h => h) ?_
    rotate_left
    · rw [HT.out] at hs
      obtain ⟨g0, g1, g2, g7, g6⟩ := hs
      go_simp
      try rfl
    simp only [Act.put, List.setIfInBounds_toArray, List.set_cons_zero, List.set_cons_succ]
    refine tree_pure ?_ rfl (by rfl) (fun w' hs => ?_) (fun _ _ _ h => h) ?_
    rotate_left
    · clear hs
      go_simp
      try rfl
    simp only [Act.put, List.setIfInBounds_toArray, List.set_cons_zero, List.set_cons_succ]
    refine tree_take ?_ t0 rfl (by rfl) (fun w' hs => ?_) (fun _ _ _ h => h) ?_
    rotate_left
    · rw [HT.out] at hs
      obtain ⟨g0, g1, g2, g7, g6⟩ := hs
      go_simp
      try rfl
    simp only [Act.put, List.setIfInBounds_toArray, List.set_cons_zero, List.set_cons_succ]
    refine tree_pure ?_ rfl (by rfl) (fun w' hs => ?_) (fun _ _ _ h => h) ?_
    rotate_left
    · clear hs
      go_simp
      try rfl
    simp only [Act.put, List.setIfInBounds_toArray, List.set_cons_zero, List.set_cons_succ]
    refine tree_pure ?_ rfl (by rfl) (fun w' hs => ?_) (fun _ _ _ h => h) ?_
    rotate_left
    · clear hs
      go_simp
      try rfl
    simp only [Act.put, List.setIfInBounds_toArray, List.set_cons_zero, List.set_cons_succ]
    refine tree_pure ?_ rfl (by rfl) (fun w' hs => ?_) (fun _ _ _ h => h) ?_
    rotate_left
    · clear hs
      go_simp
      try rfl
    simp only [Act.put, List.setIfInBounds_toArray, List.set_cons_zero, List.set_cons_succ]
    refine tree_pure ?_ rfl (by rfl) (fun w' hs => ?_) (fun _ _ _ h => h) ?_
    rotate_left
    · clear hs
      go_simp
      try rfl
    simp only [Act.put, List.setIfInBounds_toArray, List.set_cons_zero, List.set_cons_succ]
    refine tree_take ?_ t0 rfl (by rfl) (fun w' hs => ?_) (fun _ _ _ h => h) ?_
    rotate_left
    · rw [HT.out] at hs
      obtain ⟨g0, g1, g2, g7, g6⟩ := hs
      go_simp
      try rfl
    simp only [Act.put, List.setIfInBounds_toArray, List.set_cons_zero, List.set_cons_succ]
    refine tree_pure ?_ rfl (by rfl) (fun w' hs => ?_) (fun _ _ _ h => h) ?_
    rotate_left
    · clear hs
      go_simp
      try rfl
    simp only [Act.put, List.setIfInBounds_toArray, List.set_cons_zero, List.set_cons_succ]
    refine tree_take ?_ t0 rfl (by rfl) (fun w' hs => ?_) (fun _ _ _ h => h) ?_
    rotate_left
    · rw [HT.out] at hs
      obtain ⟨g0, g1, g2, g7, g6⟩ := hs
      go_simp
      try rfl
    simp only [Act.put, List.setIfInBounds_toArray, List.set_cons_zero, List.set_cons_succ]
    refine tree_run rfl (fun K hK => ?_)
    go_simp
    refine (ref_num2 n HN.out.1.1 HN.out.1.2 _).mono ?_
    rintro e w1 ⟨v1, rfl, k1⟩
    obtain ⟨a1, c1, rfl, i1, f1⟩ := k1.read
    have hs1 := k1.below
    have I1 := Lib.hid i1
    have F1 : Hid (∀ p, a1 = some p → w0.heap.size ≤ p.block) := fun p hp => by have h1 := f1 p hp; have h2 := BA.out.size; simp at h1; omega
    have S1 := Lib.hid hs1
    have B1 : Hid (Below w0.heap.size w0 w1) := BA.out.drew.trans (S1.out.mono BA.out.size)
    have t1 : T w1 := HTB.out _ B1.out
    clear k1 i1 f1 hs1
    refine hK.out _ _ t1 ?_
    clear hK K
    refine tree_run rfl (fun K hK => ?_)
    go_simp
    refine (ref_num2 p HN.out.2.1.1 HN.out.2.1.2 _).mono ?_
    rintro e w2 ⟨v2, rfl, k2⟩
    obtain ⟨a2, c2, rfl, i2, f2⟩ := k2.read
    have hs2 := k2.below
    have I2 := Lib.hid i2
    have F2 : Hid (∀ p, a2 = some p → w0.heap.size ≤ p.block) := fun p hp => by have h1 := f2 p hp; have h2 := B1.out.size; omega
    have S2 := Lib.hid hs2
    have B2 : Hid (Below w0.heap.size w0 w2) := B1.out.trans (S2.out.mono B1.out.size)
    have t2 : T w2 := HTB.out _ B2.out
    clear k2 i2 f2 hs2
    refine hK.out _ _ t2 ?_
    clear hK K
    refine tree_run rfl (fun K hK => ?_)
    go_simp
    refine (ref_num2 g HN.out.2.2.1 HN.out.2.2.2 _).mono ?_
    rintro e w3 ⟨v3, rfl, k3⟩
    obtain ⟨a3, c3, rfl, i3, f3⟩ := k3.read
    have hs3 := k3.below
    have I3 := Lib.hid i3
    have F3 : Hid (∀ p, a3 = some p → w0.heap.size ≤ p.block) := fun p hp => by have h1 := f3 p hp; have h2 := B2.out.size; omega
    have S3 := Lib.hid hs3
    have B3 : Hid (Below w0.heap.size w0 w3) := B2.out.trans (S3.out.mono B2.out.size)
    have t3 : T w3 := HTB.out _ B3.out
    clear k3 i3 f3 hs3
    refine hK.out _ _ t3 ?_
    clear hK K
    refine tree_run rfl (fun K hK => ?_)
    refine step_app_new rfl _ _ rfl rfl (ad := some ⟨w.heap.size, 3, none⟩) (m := 20) (c := 20) (l := be 20 f) rfl (be_len 20 f).symm (HIB.out _ B3.out 3 f HX3.out) (by decide) ?_
    intro v4 w4 k4o
    have k4 := k4o.new
    obtain ⟨a4, c4, rfl, i4, f4⟩ := k4.read
    rw [be_len]
    have hs4 := k4.below
    have I4 := Lib.hid i4
    have F4 : Hid (∀ p, a4 = some p → w0.heap.size ≤ p.block) := fun p hp => by have h1 := f4 p hp; have h2 := B3.out.size; omega
    have S4 := Lib.hid hs4
    have B4 : Hid (Below w0.heap.size w0 w4) := B3.out.trans (S4.out.mono B3.out.size)
    have t4 : T w4 := HTB.out _ B4.out
    clear k4o k4 i4 f4 hs4
    refine hK.out _ _ t4 ?_
    clear hK K
    refine tree_run rfl (fun K hK => ?_)
    go_simp
    refine (ref_bytes a4 20 c4 _).mono ?_
    rintro e w5 ⟨rfl, hs5⟩
    have S5 := Lib.hid hs5
    have B5 : Hid (Below w0.heap.size w0 w5) := B4.out.trans (S5.out.mono B4.out.size)
    have t5 : T w5 := HTB.out _ B5.out
    clear hs5
    refine hK.out _ _ t5 ?_
    clear hK K
    refine tree_run rfl (fun K hK => ?_)
    go_simp
    refine (ref_bytes none 0 0 _).mono ?_
    rintro e w6 ⟨rfl, hs6⟩
    have S6 := Lib.hid hs6
    have B6 : Hid (Below w0.heap.size w0 w6) := B5.out.trans (S6.out.mono B5.out.size)
    have t6 : T w6 := HTB.out _ B6.out
    clear hs6
    refine hK.out _ _ t6 ?_
    clear hK K
    refine tree_run rfl (fun K hK => ?_)
    go_simp
    refine (ref_big2 v HV.out _).mono ?_
    rintro e w7 ⟨v7, rfl, k7⟩
    obtain ⟨a7, c7, rfl, i7, f7⟩ := k7.read
    have hs7 := k7.below
    have I7 := Lib.hid i7
    have F7 : Hid (∀ p, a7 = some p → w0.heap.size ≤ p.block) := fun p hp => by have h1 := f7 p hp; have h2 := B6.out.size; omega
    have S7 := Lib.hid hs7
    have B7 : Hid (Below w0.heap.size w0 w7) := B6.out.trans (S7.out.mono B6.out.size)
    have t7 : T w7 := HTB.out _ B7.out
    clear k7 i7 f7 hs7
    refine hK.out _ _ t7 ?_
    clear hK K
    refine tree_run rfl (fun K hK => ?_)
    refine step_app_new rfl _ _ rfl rfl (ad := da) (m := dl) (c := dc) (l := d) rfl HDL.out (HI.out.below B7.out) (by rw [HDL.out]; exact HD.out) ?_
    intro v8 w8 k8o
    have k8 := k8o.new
    obtain ⟨a8, c8, rfl, i8, f8⟩ := k8.read
    rw [← HDL.out]
    have hs8 := k8.below
    have I8 := Lib.hid i8
    have F8 : Hid (∀ p, a8 = some p → w0.heap.size ≤ p.block) := fun p hp => by have h1 := f8 p hp; have h2 := B7.out.size; omega
    have S8 := Lib.hid hs8
    have B8 : Hid (Below w0.heap.size w0 w8) := B7.out.trans (S8.out.mono B7.out.size)
    have t8 : T w8 := HTB.out _ B8.out
    clear k8o k8 i8 f8 hs8
    refine hK.out _ _ t8 ?_
    clear hK K
    refine tree_run rfl (fun K hK => ?_)
    go_simp
    refine (ref_bytes a8 dl c8 _).mono ?_
    rintro e w9 ⟨rfl, hs9⟩
    have S9 := Lib.hid hs9
    have B9 : Hid (Below w0.heap.size w0 w9) := B8.out.trans (S9.out.mono B8.out.size)
    have t9 : T w9 := HTB.out _ B9.out
    clear hs9
    have hfill := fillI7_all [.bool false, .slice a1 (bigL n.toNat).length c1, .slice none 0 0] [.bool false, .slice a2 (bigL p.toNat).length c2, .slice none 0 0] [.bool false, .slice a3 (bigL g.toNat).length c3, .slice none 0 0] [.bool false, .slice a4 20 c4, .slice none 0 0] [.bool false, .slice none 0 0, .slice none 0 0] [.bool false, .slice a7 (bigL v).length c7, .slice none 0 0] [.bool false, .slice a8 dl c8, .slice none 0 0] rfl rfl rfl rfl rfl rfl rfl
    obtain ⟨C7, hC7⟩ : ∃ C7, C7 = cat [[.bool false, .slice a1 (bigL n.toNat).length c1, .slice none 0 0], [.bool false, .slice a2 (bigL p.toNat).length c2, .slice none 0 0], [.bool false, .slice a3 (bigL g.toNat).length c3, .slice none 0 0], [.bool false, .slice a4 20 c4, .slice none 0 0], [.bool false, .slice none 0 0, .slice none 0 0], [.bool false, .slice a7 (bigL v).length c7, .slice none 0 0], [.bool false, .slice a8 dl c8, .slice none 0 0]] := ⟨_, rfl⟩
    rw [← hC7] at hfill
    have HC7 : Hid (C7 = cat [kidC a1 (bigL n.toNat).length c1, kidC a2 (bigL p.toNat).length c2, kidC a3 (bigL g.toNat).length c3, kidC a4 20 c4, kidC none 0 0, kidC a7 (bigL v).length c7, kidC a8 dl c8]) := hC7
    have hl7 : C7.length = 21 := by rw [hC7]; rfl
    clear hC7
    refine hK.out _ _ t9 ?_
    clear hK K
    refine tree_run rfl (fun K hK => ?_)
    go_simp
    obtain ⟨w10, e10⟩ : ∃ w10, w10 = w9.alloc (.cells C7.toArray 65) := ⟨_, rfl⟩
    rw [← e10]
    have hs10 : Below w9.heap.size w9 w10 := by rw [e10]; exact (Below.refl _ _).alloc (Nat.le_refl _) _
    have R10 : Hid (w10.row? w9.heap.size 0 21 = some C7) := by show _ = _; rw [e10]; exact World.row?_alloc_at _ _ _ rfl hl7
    have S10 := Lib.hid hs10
    have B10 : Hid (Below w0.heap.size w0 w10) := B9.out.trans (S10.out.mono B9.out.size)
    have t10 : T w10 := HTB.out _ B10.out
    clear hs10 e10 hfill
    refine hK.out _ _ t10 ?_
    clear hK K
    refine tree_run rfl (fun K hK => ?_)
    go_simp
    refine (ref_list (some ⟨w9.heap.size, 0, none⟩) 7 7 _).mono ?_
    rintro e w11 ⟨rfl, hs11⟩
    have S11 := Lib.hid hs11
    have B11 : Hid (Below w0.heap.size w0 w11) := B10.out.trans (S11.out.mono B10.out.size)
    have t11 : T w11 := HTB.out _ B11.out
    clear hs11
    have hf11 : w11.free? (w.heap.size + 1) 0 3 = true := by rw [(brow B11.out).2 _ _ _ (free?_lt HF.out)]; exact HF.out
    refine hK.out _ _ t11 ?_
    clear hK K
    refine tree_run rfl (fun K hK => ?_)
    go_simp
    obtain ⟨w12, e12⟩ : ∃ w12, w12 = w11.setCells (w.heap.size + 1) 0 [.bool true, .slice none 0 0, .slice (some ⟨w9.heap.size, 0, none⟩) 7 7] := ⟨_, rfl⟩
    rw [← e12]
    have HE12 := Lib.hid e12
    have HF11 := Lib.hid hf11
    have hO : Only (· = w.heap.size + 1) w11 w12 := by rw [e12]; exact (Only.refl (· = w.heap.size + 1) _).setCells (fun _ => rfl) _ _
    have t12 : T w12 := HTO.out _ ((Only.mono (S := fun _ => False) (Only.of_below_size B11.out) (fun _ (h : False) => h.elim)).trans hO (fun i h _ => h))
    have HO := Lib.hid hO
    clear hO e12 hf11
    refine hK.out _ _ t12 ?_
    clear hK K
    refine tree_pure ?_ rfl (by rfl) (fun w' hs => ?_) (fun _ _ _ h => h) ?_
    rotate_left
    · clear hs
      go_simp
      try rfl
    simp only [Act.put, List.setIfInBounds_toArray, List.set_cons_zero, List.set_cons_succ]
    refine tree_fin ?_
    have HB11 := Lib.hid (HB.out.trans (B11.out.mono HB.out.size))
    have hg9 : w.heap.size + 2 ≤ w9.heap.size := by have := B9.out.size; have := HS.out; omega
    clear t0 t1 t2 t3 t4 t5 t6 t7 t8 t9 t10 t11 t12
    go_wp2
    have K : ∀ (W : World) (a : Option Addr) (c : Nat) (l : Bts), Ints W .u8 a c l → (∀ p, a = some p → w0.heap.size ≤ p.block) → Below W.heap.size W w11 → Ints w12 .u8 a c l := fun W a c l hi hf hb => Ints.only (hi.below hb) HO.out (fun q hq hx => by have h1 := hf q hq; have h2 := HS.out; have : q.block = w.heap.size + 1 := hx; omega)
    have D10 := S11.out
    have D9 := S10.out.trans (D10.mono S10.out.size)
    have D8 := S9.out.trans (D9.mono S9.out.size)
    have D7 := S8.out.trans (D8.mono S8.out.size)
    have D6 := S7.out.trans (D7.mono S7.out.size)
    have D5 := S6.out.trans (D6.mono S6.out.size)
    have D4 := S5.out.trans (D5.mono S5.out.size)
    have D3 := S4.out.trans (D4.mono S4.out.size)
    have D2 := S3.out.trans (D3.mono S3.out.size)
    have D1 := S2.out.trans (D2.mono S2.out.size)
    have hrow : w12.row? w9.heap.size 0 21 = some (cat [kidC a1 (bigL n.toNat).length c1, kidC a2 (bigL p.toNat).length c2, kidC a3 (bigL g.toNat).length c3, kidC a4 20 c4, kidC none 0 0, kidC a7 (bigL v).length c7, kidC a8 dl c8]) := by
      have h10 : w11.row? w9.heap.size 0 21 = some C7 := ((brow S11.out).1 _ _ _ (World.row?_lt R10.out)).trans R10.out
      rw [← HC7.out, HO.out.row? (World.row?_lt h10) (by omega)]
      exact h10
    have KF : ∀ a : Option Addr, (∀ p, a = some p → w0.heap.size ≤ p.block) → ∀ p, a = some p → w.heap.size ≤ p.block := fun a h p hp => by have h1 := h p hp; have h2 := HS.out; omega
    have hres : w12.row? (w.heap.size + 1) 0 3 = some [.bool true, .slice none 0 0, .slice (some ⟨w9.heap.size, 0, none⟩) 7 7] := by rw [HE12.out]; exact row?_setCells_whole _ HF11.out rfl
    have hbw : Below w.heap.size w w12 := by rw [HE12.out]; exact HB11.out.setCells (by omega) _ _
    exact ret_row2 ty61 rfl _ _ rfl rfl rfl hres ⟨hbw, fun h => absurd h HNG.out, fun _ => ⟨_, rfl, top_seven (w0 := w) (g := w9.heap.size) (by omega) hrow rfl rfl rfl (be_len 20 f).symm rfl rfl HDL.out
      (K _ _ _ _ I1.out F1.out D1) (K _ _ _ _ I2.out F2.out D2) (K _ _ _ _ I3.out F3.out D3) (K _ _ _ _ I4.out F4.out D4) ⟨fun h => absurd rfl h, fun _ => rfl, Nat.le_refl _, Nat.zero_le _⟩ (K _ _ _ _ I7.out F7.out D7) (K _ _ _ _ I8.out F8.out D8)
      (KF _ F1.out) (KF _ F2.out) (KF _ F3.out) (KF _ F4.out) (fun p hp => by cases hp) (KF _ F7.out) (KF _ F8.out) (bigL_byte _) (bigL_byte _) (bigL_byte _) (be_byte 20 f) (fun x hx => by cases hx) (bigL_byte _) HBY.out⟩⟩
  | false =>
    go_wp2_with fail
    refine wp_region_tree T [] (.pure 0 (.take 1 (.pure 3 (.take 4 (.pure 6 (.take 7 (.pure 9 (.pure 10 (.pure 13 (.pure 15 (.take 16 (.pure 18 (.take 19 (.alt 2 (.alt 5 (.alt 8 (.alt 11 (.alt 12 (.alt 14 (.alt 17 (.alt 20 (.alt 21 (.alt 22 (.alt 23 (.alt 24 (.pure 25 .fin) .stop) .stop) .stop) .stop) .stop) .stop) .stop) .stop) .stop) .stop) .stop) .stop)))))))))))))) (by kernel_rfl) (by kernel_rfl) ?_
    refine tree_pure ?_ rfl (by rfl) (fun w' hs => ?_) (fun _ _ _ h => h) ?_
    rotate_left
    · clear hs
      go_simp
      try rfl
    simp only [Act.put, List.setIfInBounds_toArray, List.set_cons_zero, List.set_cons_succ]
    refine tree_take ?_ t0 rfl (by rfl) (fun w' hs => ?_) (fun _ _ _ h => h) ?_
    rotate_left
    · rw [HT.out] at hs
      obtain ⟨g0, g1, g2, g7, g6⟩ := hs
      go_simp
      try rfl
    simp only [Act.put, List.setIfInBounds_toArray, List.set_cons_zero, List.set_cons_succ]
    refine tree_pure ?_ rfl (by rfl) (fun w' hs => ?_) (fun _ _ _ h => h) ?_
    rotate_left
    · clear hs
      go_simp
      try rfl
    simp only [Act.put, List.setIfInBounds_toArray, List.set_cons_zero, List.set_cons_succ]
    refine tree_take ?_ t0 rfl (by rfl) (fun w' hs => ?_) (fun _ _ _ h => h) ?_
    rotate_left
    · rw [HT.out] at hs
      obtain ⟨g0, g1, g2, g7, g6⟩ := hs
      go_simp
      try rfl
    simp only [Act.put, List.setIfInBounds_toArray, List.set_cons_zero, List.set_cons_succ]
    refine tree_pure ?_ rfl (by rfl) (fun w' hs => ?_) (fun _ _ _ h => h) ?_
    rotate_left
    · clear hs
      go_simp
      try rfl
    simp only [Act.put, List.setIfInBounds_toArray, List.set_cons_zero, List.set_cons_succ]
    refine tree_take ?_ t0 rfl (by rfl) (fun w' hs => ?_) (fun _ _ _ h => h) ?_
    rotate_left
    · rw [HT.out] at hs
      obtain ⟨g0, g1, g2, g7, g6⟩ := hs
      go_simp
      try rfl
    simp only [Act.put, List.setIfInBounds_toArray, List.set_cons_zero, List.set_cons_succ]
    refine tree_pure ?_ rfl (by rfl) (fun w' hs => ?_) (fun _ _ _ h => h) ?_
    rotate_left
    · clear hs
      go_simp
      try rfl
    simp only [Act.put, List.setIfInBounds_toArray, List.set_cons_zero, List.set_cons_succ]
    refine tree_pure ?_ rfl (by rfl) (fun w' hs => ?_) (fun _ _ _ h => h) ?_
    rotate_left
    · clear hs
      go_simp
      try rfl
    simp only [Act.put, List.setIfInBounds_toArray, List.set_cons_zero, List.set_cons_succ]
    refine tree_pure ?_ rfl (by rfl) (fun w' hs => ?_) (fun _ _ _ h => h) ?_
    rotate_left
    · clear hs
      go_simp
      try rfl
    simp only [Act.put, List.setIfInBounds_toArray, List.set_cons_zero, List.set_cons_succ]
    refine tree_pure ?_ rfl (by rfl) (fun w' hs => ?_) (fun _ _ _ h => h) ?_
    rotate_left
    · clear hs
      go_simp
      try rfl
    simp only [Act.put, List.setIfInBounds_toArray, List.set_cons_zero, List.set_cons_succ]
    refine tree_take ?_ t0 rfl (by rfl) (fun w' hs => ?_) (fun _ _ _ h => h) ?_
    rotate_left
    · rw [HT.out] at hs
      obtain ⟨g0, g1, g2, g7, g6⟩ := hs
      go_simp
      try rfl
    simp only [Act.put, List.setIfInBounds_toArray, List.set_cons_zero, List.set_cons_succ]
    refine tree_pure ?_ rfl (by rfl) (fun w' hs => ?_) (fun _ _ _ h => h) ?_
    rotate_left
    · clear hs
      go_simp
      try rfl
    simp only [Act.put, List.setIfInBounds_toArray, List.set_cons_zero, List.set_cons_succ]
    refine tree_take ?_ t0 rfl (by rfl) (fun w' hs => ?_) (fun _ _ _ h => h) ?_
    rotate_left
    · rw [HT.out] at hs
      obtain ⟨g0, g1, g2, g7, g6⟩ := hs
      go_simp
      try rfl
    simp only [Act.put, List.setIfInBounds_toArray, List.set_cons_zero, List.set_cons_succ]
    refine tree_run rfl (fun K hK => ?_)
    go_simp
    refine (ref_num2 n HN.out.1.1 HN.out.1.2 _).mono ?_
    rintro e w1 ⟨v1, rfl, k1⟩
    obtain ⟨a1, c1, rfl, i1, f1⟩ := k1.read
    have hs1 := k1.below
    have I1 := Lib.hid i1
    have F1 : Hid (∀ p, a1 = some p → w0.heap.size ≤ p.block) := fun p hp => by have h1 := f1 p hp; have h2 := BA.out.size; simp at h1; omega
    have S1 := Lib.hid hs1
    have B1 : Hid (Below w0.heap.size w0 w1) := BA.out.drew.trans (S1.out.mono BA.out.size)
    have t1 : T w1 := HTB.out _ B1.out
    clear k1 i1 f1 hs1
    refine hK.out _ _ t1 ?_
    clear hK K
    refine tree_run rfl (fun K hK => ?_)
    go_simp
    refine (ref_num2 p HN.out.2.1.1 HN.out.2.1.2 _).mono ?_
    rintro e w2 ⟨v2, rfl, k2⟩
    obtain ⟨a2, c2, rfl, i2, f2⟩ := k2.read
    have hs2 := k2.below
    have I2 := Lib.hid i2
    have F2 : Hid (∀ p, a2 = some p → w0.heap.size ≤ p.block) := fun p hp => by have h1 := f2 p hp; have h2 := B1.out.size; omega
    have S2 := Lib.hid hs2
    have B2 : Hid (Below w0.heap.size w0 w2) := B1.out.trans (S2.out.mono B1.out.size)
    have t2 : T w2 := HTB.out _ B2.out
    clear k2 i2 f2 hs2
    refine hK.out _ _ t2 ?_
    clear hK K
    refine tree_run rfl (fun K hK => ?_)
    go_simp
    refine (ref_num2 g HN.out.2.2.1 HN.out.2.2.2 _).mono ?_
    rintro e w3 ⟨v3, rfl, k3⟩
    obtain ⟨a3, c3, rfl, i3, f3⟩ := k3.read
    have hs3 := k3.below
    have I3 := Lib.hid i3
    have F3 : Hid (∀ p, a3 = some p → w0.heap.size ≤ p.block) := fun p hp => by have h1 := f3 p hp; have h2 := B2.out.size; omega
    have S3 := Lib.hid hs3
    have B3 : Hid (Below w0.heap.size w0 w3) := B2.out.trans (S3.out.mono B2.out.size)
    have t3 : T w3 := HTB.out _ B3.out
    clear k3 i3 f3 hs3
    refine hK.out _ _ t3 ?_
    clear hK K
    refine tree_run rfl (fun K hK => ?_)
    refine step_app_new rfl _ _ rfl rfl (ad := some ⟨w.heap.size, 3, none⟩) (m := 20) (c := 20) (l := be 20 f) rfl (be_len 20 f).symm (HIB.out _ B3.out 3 f HX3.out) (by decide) ?_
    intro v4 w4 k4o
    have k4 := k4o.new
    obtain ⟨a4, c4, rfl, i4, f4⟩ := k4.read
    rw [be_len]
    have hs4 := k4.below
    have I4 := Lib.hid i4
    have F4 : Hid (∀ p, a4 = some p → w0.heap.size ≤ p.block) := fun p hp => by have h1 := f4 p hp; have h2 := B3.out.size; omega
    have S4 := Lib.hid hs4
    have B4 : Hid (Below w0.heap.size w0 w4) := B3.out.trans (S4.out.mono B3.out.size)
    have t4 : T w4 := HTB.out _ B4.out
    clear k4o k4 i4 f4 hs4
    refine hK.out _ _ t4 ?_
    clear hK K
    refine tree_run rfl (fun K hK => ?_)
    go_simp
    refine (ref_bytes a4 20 c4 _).mono ?_
    rintro e w5 ⟨rfl, hs5⟩
    have S5 := Lib.hid hs5
    have B5 : Hid (Below w0.heap.size w0 w5) := B4.out.trans (S5.out.mono B4.out.size)
    have t5 : T w5 := HTB.out _ B5.out
    clear hs5
    refine hK.out _ _ t5 ?_
    clear hK K
    refine tree_run rfl (fun K hK => ?_)
    go_simp
    refine (ref_bytes ta 20 tc _).mono ?_
    rintro e w6 ⟨rfl, hs6⟩
    have S6 := Lib.hid hs6
    have B6 : Hid (Below w0.heap.size w0 w6) := B5.out.trans (S6.out.mono B5.out.size)
    have t6 : T w6 := HTB.out _ B6.out
    clear hs6
    refine hK.out _ _ t6 ?_
    clear hK K
    refine tree_run rfl (fun K hK => ?_)
    go_simp
    refine (ref_big2 v HV.out _).mono ?_
    rintro e w7 ⟨v7, rfl, k7⟩
    obtain ⟨a7, c7, rfl, i7, f7⟩ := k7.read
    have hs7 := k7.below
    have I7 := Lib.hid i7
    have F7 : Hid (∀ p, a7 = some p → w0.heap.size ≤ p.block) := fun p hp => by have h1 := f7 p hp; have h2 := B6.out.size; omega
    have S7 := Lib.hid hs7
    have B7 : Hid (Below w0.heap.size w0 w7) := B6.out.trans (S7.out.mono B6.out.size)
    have t7 : T w7 := HTB.out _ B7.out
    clear k7 i7 f7 hs7
    refine hK.out _ _ t7 ?_
    clear hK K
    refine tree_run rfl (fun K hK => ?_)
    refine step_app_new rfl _ _ rfl rfl (ad := da) (m := dl) (c := dc) (l := d) rfl HDL.out (HI.out.below B7.out) (by rw [HDL.out]; exact HD.out) ?_
    intro v8 w8 k8o
    have k8 := k8o.new
    obtain ⟨a8, c8, rfl, i8, f8⟩ := k8.read
    rw [← HDL.out]
    have hs8 := k8.below
    have I8 := Lib.hid i8
    have F8 : Hid (∀ p, a8 = some p → w0.heap.size ≤ p.block) := fun p hp => by have h1 := f8 p hp; have h2 := B7.out.size; omega
    have S8 := Lib.hid hs8
    have B8 : Hid (Below w0.heap.size w0 w8) := B7.out.trans (S8.out.mono B7.out.size)
    have t8 : T w8 := HTB.out _ B8.out
    clear k8o k8 i8 f8 hs8
    refine hK.out _ _ t8 ?_
    clear hK K
    refine tree_run rfl (fun K hK => ?_)
    go_simp
    refine (ref_bytes a8 dl c8 _).mono ?_
    rintro e w9 ⟨rfl, hs9⟩
    have S9 := Lib.hid hs9
    have B9 : Hid (Below w0.heap.size w0 w9) := B8.out.trans (S9.out.mono B8.out.size)
    have t9 : T w9 := HTB.out _ B9.out
    clear hs9
    have hfill := fillI7_all [.bool false, .slice a1 (bigL n.toNat).length c1, .slice none 0 0] [.bool false, .slice a2 (bigL p.toNat).length c2, .slice none 0 0] [.bool false, .slice a3 (bigL g.toNat).length c3, .slice none 0 0] [.bool false, .slice a4 20 c4, .slice none 0 0] [.bool false, .slice ta 20 tc, .slice none 0 0] [.bool false, .slice a7 (bigL v).length c7, .slice none 0 0] [.bool false, .slice a8 dl c8, .slice none 0 0] rfl rfl rfl rfl rfl rfl rfl
    obtain ⟨C7, hC7⟩ : ∃ C7, C7 = cat [[.bool false, .slice a1 (bigL n.toNat).length c1, .slice none 0 0], [.bool false, .slice a2 (bigL p.toNat).length c2, .slice none 0 0], [.bool false, .slice a3 (bigL g.toNat).length c3, .slice none 0 0], [.bool false, .slice a4 20 c4, .slice none 0 0], [.bool false, .slice ta 20 tc, .slice none 0 0], [.bool false, .slice a7 (bigL v).length c7, .slice none 0 0], [.bool false, .slice a8 dl c8, .slice none 0 0]] := ⟨_, rfl⟩
    rw [← hC7] at hfill
    have HC7 : Hid (C7 = cat [kidC a1 (bigL n.toNat).length c1, kidC a2 (bigL p.toNat).length c2, kidC a3 (bigL g.toNat).length c3, kidC a4 20 c4, kidC ta 20 tc, kidC a7 (bigL v).length c7, kidC a8 dl c8]) := hC7
    have hl7 : C7.length = 21 := by rw [hC7]; rfl
    clear hC7
    refine hK.out _ _ t9 ?_
    clear hK K
    refine tree_run rfl (fun K hK => ?_)
    go_simp
    obtain ⟨w10, e10⟩ : ∃ w10, w10 = w9.alloc (.cells C7.toArray 65) := ⟨_, rfl⟩
    rw [← e10]
    have hs10 : Below w9.heap.size w9 w10 := by rw [e10]; exact (Below.refl _ _).alloc (Nat.le_refl _) _
    have R10 : Hid (w10.row? w9.heap.size 0 21 = some C7) := by show _ = _; rw [e10]; exact World.row?_alloc_at _ _ _ rfl hl7
    have S10 := Lib.hid hs10
    have B10 : Hid (Below w0.heap.size w0 w10) := B9.out.trans (S10.out.mono B9.out.size)
    have t10 : T w10 := HTB.out _ B10.out
    clear hs10 e10 hfill
    refine hK.out _ _ t10 ?_
    clear hK K
    refine tree_run rfl (fun K hK => ?_)
    go_simp
    refine (ref_list (some ⟨w9.heap.size, 0, none⟩) 7 7 _).mono ?_
    rintro e w11 ⟨rfl, hs11⟩
    have S11 := Lib.hid hs11
    have B11 : Hid (Below w0.heap.size w0 w11) := B10.out.trans (S11.out.mono B10.out.size)
    have t11 : T w11 := HTB.out _ B11.out
    clear hs11
    have hf11 : w11.free? (w.heap.size + 1) 0 3 = true := by rw [(brow B11.out).2 _ _ _ (free?_lt HF.out)]; exact HF.out
    refine hK.out _ _ t11 ?_
    clear hK K
    refine tree_run rfl (fun K hK => ?_)
    go_simp
    obtain ⟨w12, e12⟩ : ∃ w12, w12 = w11.setCells (w.heap.size + 1) 0 [.bool true, .slice none 0 0, .slice (some ⟨w9.heap.size, 0, none⟩) 7 7] := ⟨_, rfl⟩
    rw [← e12]
    have HE12 := Lib.hid e12
    have HF11 := Lib.hid hf11
    have hO : Only (· = w.heap.size + 1) w11 w12 := by rw [e12]; exact (Only.refl (· = w.heap.size + 1) _).setCells (fun _ => rfl) _ _
    have t12 : T w12 := HTO.out _ ((Only.mono (S := fun _ => False) (Only.of_below_size B11.out) (fun _ (h : False) => h.elim)).trans hO (fun i h _ => h))
    have HO := Lib.hid hO
    clear hO e12 hf11
    refine hK.out _ _ t12 ?_
    clear hK K
    refine tree_pure ?_ rfl (by rfl) (fun w' hs => ?_) (fun _ _ _ h => h) ?_
    rotate_left
    · clear hs
      go_simp
      try rfl
    simp only [Act.put, List.setIfInBounds_toArray, List.set_cons_zero, List.set_cons_succ]
    refine tree_fin ?_
    have HB11 := Lib.hid (HB.out.trans (B11.out.mono HB.out.size))
    have hg9 : w.heap.size + 2 ≤ w9.heap.size := by have := B9.out.size; have := HS.out; omega
    clear t0 t1 t2 t3 t4 t5 t6 t7 t8 t9 t10 t11 t12
    go_wp2
    have K : ∀ (W : World) (a : Option Addr) (c : Nat) (l : Bts), Ints W .u8 a c l → (∀ p, a = some p → w0.heap.size ≤ p.block) → Below W.heap.size W w11 → Ints w12 .u8 a c l := fun W a c l hi hf hb => Ints.only (hi.below hb) HO.out (fun q hq hx => by have h1 := hf q hq; have h2 := HS.out; have : q.block = w.heap.size + 1 := hx; omega)
    have D10 := S11.out
    have D9 := S10.out.trans (D10.mono S10.out.size)
    have D8 := S9.out.trans (D9.mono S9.out.size)
    have D7 := S8.out.trans (D8.mono S8.out.size)
    have D6 := S7.out.trans (D7.mono S7.out.size)
    have D5 := S6.out.trans (D6.mono S6.out.size)
    have D4 := S5.out.trans (D5.mono S5.out.size)
    have D3 := S4.out.trans (D4.mono S4.out.size)
    have D2 := S3.out.trans (D3.mono S3.out.size)
    have D1 := S2.out.trans (D2.mono S2.out.size)
    have hrow : w12.row? w9.heap.size 0 21 = some (cat [kidC a1 (bigL n.toNat).length c1, kidC a2 (bigL p.toNat).length c2, kidC a3 (bigL g.toNat).length c3, kidC a4 20 c4, kidC ta 20 tc, kidC a7 (bigL v).length c7, kidC a8 dl c8]) := by
      have h10 : w11.row? w9.heap.size 0 21 = some C7 := ((brow S11.out).1 _ _ _ (World.row?_lt R10.out)).trans R10.out
      rw [← HC7.out, HO.out.row? (World.row?_lt h10) (by omega)]
      exact h10
    have KF : ∀ a : Option Addr, (∀ p, a = some p → w0.heap.size ≤ p.block) → ∀ p, a = some p → w.heap.size ≤ p.block := fun a h p hp => by have h1 := h p hp; have h2 := HS.out; omega
    have hres : w12.row? (w.heap.size + 1) 0 3 = some [.bool true, .slice none 0 0, .slice (some ⟨w9.heap.size, 0, none⟩) 7 7] := by rw [HE12.out]; exact row?_setCells_whole _ HF11.out rfl
    have hbw : Below w.heap.size w w12 := by rw [HE12.out]; exact HB11.out.setCells (by omega) _ _
    exact ret_row2 ty61 rfl _ _ rfl rfl rfl hres ⟨hbw, fun h => absurd h HNG.out, fun _ => ⟨_, rfl, top_seven (w0 := w) (g := w9.heap.size) (by omega) hrow rfl rfl rfl (be_len 20 f).symm (be_len 20 to).symm rfl HDL.out
      (K _ _ _ _ I1.out F1.out D1) (K _ _ _ _ I2.out F2.out D2) (K _ _ _ _ I3.out F3.out D3) (K _ _ _ _ I4.out F4.out D4) (K _ _ _ _ IA.out FA.out ((Below.refl _ wa).drew.trans (S1.out.trans (D1.mono S1.out.size)))) (K _ _ _ _ I7.out F7.out D7) (K _ _ _ _ I8.out F8.out D8)
      (KF _ F1.out) (KF _ F2.out) (KF _ F3.out) (KF _ F4.out) (KF _ FA.out) (KF _ F7.out) (KF _ F8.out) (bigL_byte _) (bigL_byte _) (bigL_byte _) (be_byte 20 f) (be_byte 20 to) (bigL_byte _) HBY.out⟩⟩
end Go.Proofs.YtikiciojfhfagaaGreat
namespace Go.Proofs.YtikiciojfhfagaaGreat
open Go.RowKit Go.Mun

theorem beN_bigL : ∀ n : Nat, beN (bigL n) = n
  | n => by
    by_cases h : n = 0
    · subst h; rw [bigL_zero]; rfl
    · have ih := beN_bigL (n / 256)
      rw [bigL_step n (by omega), beN_snoc, ih]
      have : (((n % 256 : Nat) : Int)).toNat = n % 256 := Int.toNat_natCast _
      rw [this]; omega
  termination_by n => n
  decreasing_by exact Nat.div_lt_self (by omega) (by decide)
theorem numB_bigL (n : Nat) : numB (some (bigL n)) = true := by
  show ((bigL n).isEmpty || !((bigL n)[0]?.getD 0 == 0)) = true
  by_cases h : n = 0
  · subst h; rw [bigL_zero]; rfl
  · obtain ⟨x, r, e, hx, _⟩ := bigL_head n (by omega)
    rw [e]
    simp; omega
theorem intK_bigL (n : Nat) (h : n ≤ 9223372036854775807) : intK (some (bigL n)) = some n := by
  show (if numB (some (bigL n)) = true ∧ (bigL n).length ≤ 8 ∧ beN (bigL n) ≤ 9223372036854775807 then some (beN (bigL n)) else none) = some n
  rw [beN_bigL, if_pos ⟨numB_bigL n, bigL_len 8 n (by omega), h⟩]
theorem wordK_bigL (n : Nat) (h : n < 256 ^ 32) : wordK (some (bigL n)) = some n := by
  show (if numB (some (bigL n)) = true ∧ (bigL n).length ≤ 32 then some (beN (bigL n)) else none) = some n
  rw [beN_bigL, if_pos ⟨numB_bigL n, bigL_len 32 n h⟩]
theorem addrK_be (f : Nat) : addrK (some (be 20 f)) = some (be 20 f) := by
  show (if (be 20 f).length = 20 then some (be 20 f) else none) = _
  rw [if_pos (be_len 20 f)]
theorem beN_be20 (f : Nat) (h : f < 256 ^ 20) : beN (be 20 f) = f := by
  have e := be_big 20 f h
  have key : ∀ (k : Nat) (l : Bts), beN (List.replicate k 0 ++ l) = beN l := by
    intro k l
    induction k with
    | zero => rfl
    | succ k ih => rw [List.replicate_succ, List.cons_append]; show (0 : Int).toNat * _ + beN _ = _; rw [ih]; simp
  rw [e, key, beN_bigL]
/-- What is read of a transaction's item. -/
def backK (t : TxP) : TxP := if t.make then { t with to := 0 } else t
theorem ofK_item (t : TxP) (hn : 0 ≤ t.nonce ∧ t.nonce ≤ 9223372036854775807) (hp : 0 ≤ t.price ∧ t.price ≤ 9223372036854775807) (hg : 0 ≤ t.gas ∧ t.gas ≤ 9223372036854775807) (hf : t.frm < 256 ^ 20) (ht : t.to < 256 ^ 20) (hv : t.value < 256 ^ 32) :
    ofK (.list ((itemK t).map some)) = some (backK t) := by
  obtain ⟨n, p, g, f, to, mk, v, d⟩ := t
  simp only at hn hp hg hf ht hv
  obtain ⟨n, rfl⟩ := Int.eq_ofNat_of_zero_le hn.1
  obtain ⟨p, rfl⟩ := Int.eq_ofNat_of_zero_le hp.1
  obtain ⟨g, rfl⟩ := Int.eq_ofNat_of_zero_le hg.1
  have e0 := intK_bigL n (by omega)
  have e1 := intK_bigL p (by omega)
  have e2 := intK_bigL g (by omega)
  have e3 := wordK_bigL v hv
  show ofSeven (some (bigL ((n : Int)).toNat)) (some (bigL ((p : Int)).toNat)) (some (bigL ((g : Int)).toNat)) (some (be 20 f)) (some (if mk then [] else be 20 to)) (some (bigL v)) (some d) = _
  rw [Int.toNat_natCast, Int.toNat_natCast, Int.toNat_natCast]
  rw [ofSeven_yes e0 e1 e2 (be_len 20 f) e3, beN_be20 f hf]
  cases mk with
  | true => rfl
  | false =>
    have hne : ¬ be 20 to = [] := fun h => by have := be_len 20 to; rw [h] at this; cases this
    show (if be 20 to = [] then _ else (addrK (some (be 20 to))).map _) = _
    rw [if_neg hne, addrK_be]
    show some (TxP.mk _ _ _ _ (beN (be 20 to)) _ _ _) = _
    rw [beN_be20 to ht]; rfl

/-- A head is read as it was laid. -/
theorem hdR_head (base n : Nat) (hb : base = 128 ∨ base = 192) (hn : n ≤ 16777216) (r : Bts) (hr : n ≤ r.length) : hdR (headL base n ++ r) = some ((headL base n).length, n) ∧ (base : Int) ≤ (headL base n ++ r)[0]?.getD 0 ∧ (headL base n ++ r)[0]?.getD 0 < (base : Int) + 64 := by
  by_cases h : n ≤ 55
  · have e : headL base n = [((base + n : Nat) : Int)] := if_pos h
    rw [e]
    have h0 : ([((base + n : Nat) : Int)] ++ r)[0]?.getD 0 = ((base + n : Nat) : Int) := rfl
    have hk : (([((base + n : Nat) : Int)] ++ r)[0]?.getD 0 % 64).toNat = n := by rw [h0]; omega
    have H := Hd.mk' (L := [((base + n : Nat) : Int)] ++ r) (by omega) hk
    refine ⟨?_, by rw [h0]; omega, by rw [h0]; omega⟩
    rw [H.sh h, if_pos (by simp; omega)]
    rfl
  · have e : headL base n = ((base + 55 + (bigL n).length : Nat) : Int) :: bigL n := if_neg h
    have hl4 := size_nat n hn
    obtain ⟨x, q, ex, hx1, hx2⟩ := bigL_head n (by omega)
    have hl1 : 1 ≤ (bigL n).length := by rw [ex]; simp
    obtain ⟨k, hk⟩ : ∃ k, k = (bigL n).length := ⟨_, rfl⟩
    rw [e]
    have h0 : (((base + 55 + (bigL n).length : Nat) : Int) :: bigL n ++ r)[0]?.getD 0 = ((base + 55 + (bigL n).length : Nat) : Int) := rfl
    have hm : ((((base + 55 + (bigL n).length : Nat) : Int) :: bigL n ++ r)[0]?.getD 0 % 64).toNat = 55 + k := by rw [h0, hk]; omega
    have H := Hd.mk' (L := ((base + 55 + (bigL n).length : Nat) : Int) :: bigL n ++ r) (by omega) hm
    have hlen : (((base + 55 + (bigL n).length : Nat) : Int) :: bigL n ++ r).length = 1 + k + r.length := by simp [hk]; omega
    have htk : (((((base + 55 + (bigL n).length : Nat) : Int) :: bigL n ++ r)).drop 1).take k = bigL n := by
      rw [List.cons_append, List.drop_succ_cons, List.drop_zero, hk, List.take_left' rfl]
    have h1 : (((base + 55 + (bigL n).length : Nat) : Int) :: bigL n ++ r)[1]?.getD 0 = x := by rw [ex]; rfl
    refine ⟨?_, by rw [h0]; omega, by rw [h0]; omega⟩
    rw [H.lo k (by omega) (by omega) (by rw [hlen, h1]; rintro (h2 | h2) <;> omega), htk, beN_bigL, if_neg (by rw [hlen]; omega)]
    congr 2
    simp [hk]; omega
theorem headL_ne (base n : Nat) : headL base n ≠ [] := fun h => by have := headL_pos base n; rw [h] at this; simp at this
/-- Bytes that were packed. -/
theorem rd_bytes (d : Nat) (l r : Bts) (hl : l.length ≤ 16777216) (hb : Byt l) : rdT d (packT (.bytes l) ++ r) = .ok (.bytes l) (packT (.bytes l)).length := by
  by_cases h : l.length = 1 ∧ l.getD 0 0 < 128
  · have e : packT (.bytes l) = l := if_pos h
    rw [e]
    match l, h.1 with
    | [x], _ =>
      have hx : ([x] ++ r)[0]?.getD 0 < 128 := by have := h.2; simpa using this
      rw [rdT_one (by simp) hx]
      rfl
  · have e : packT (.bytes l) = headL 128 l.length ++ l := if_neg h
    rw [e, List.append_assoc]
    obtain ⟨h1, h2, h3⟩ := hdR_head 128 l.length (.inl rfl) hl (l ++ r) (by simp)
    have hne : headL 128 l.length ++ (l ++ r) ≠ [] := by simp [headL_ne]
    -- below 192: a head of bytes
    rw [rdT_bytes hne (by omega) (by omega)]
    unfold rdB
    rw [h1]
    simp only
    have hd : (headL 128 l.length ++ (l ++ r)).drop (headL 128 l.length).length = l ++ r := List.drop_left' rfl
    have hg : (headL 128 l.length ++ (l ++ r))[(headL 128 l.length).length]?.getD 0 = (l ++ r)[0]?.getD 0 := by
      rw [List.getElem?_append_right (Nat.le_refl _), Nat.sub_self]
    rw [if_neg, hd, List.take_left' rfl]
    · simp
    · rintro ⟨k1, k2⟩
      rw [hg] at k2
      refine h ⟨k1, ?_⟩
      clear h1 h2 h3 hd hg hne e hl h
      obtain ⟨x, rfl⟩ := List.length_eq_one_iff.1 k1
      exact k2
theorem packB_small (l : Bts) (hl : l.length ≤ 16777216) : (packT (.bytes l)).length ≤ l.length + 5 := by
  by_cases h : l.length = 1 ∧ l.getD 0 0 < 128
  · have e : packT (.bytes l) = l := if_pos h
    rw [e]; omega
  · have e : packT (.bytes l) = headL 128 l.length ++ l := if_neg h
    rw [e, List.length_append, headL_len]
    have := size_nat l.length hl
    split <;> omega
/-- A row of packed bytes. -/
theorem rds_bytes (d : Nat) : ∀ ls : List Bts, (∀ l ∈ ls, l.length ≤ 16777216 ∧ Byt l) → rds (rdT d) (packTs (ls.map .bytes)) = .inr (ls.map some)
  | [], _ => rfl
  | l :: ls, h => by
    have h1 := h l (by simp)
    have ih := rds_bytes d ls (fun x hx => h x (by simp [hx]))
    show rds (rdT d) (packT (.bytes l) ++ packTs (ls.map .bytes)) = _
    have hr := rd_bytes d l (packTs (ls.map .bytes)) h1.1 h1.2
    have hp := packT_pos (.bytes l)
    have hne : packT (.bytes l) ++ packTs (ls.map .bytes) ≠ [] := by
      intro e
      have := congrArg List.length e
      rw [List.length_append, List.length_nil] at this
      omega
    rw [rds_ok (rdT_reads d) hne hr, List.drop_left' rfl, ih]
    rfl
theorem rd_list (d : Nat) (ls : List Bts) (h : ∀ l ∈ ls, l.length ≤ 16777216 ∧ Byt l) (hs : (packTs (ls.map .bytes)).length ≤ 16777216) : rdT (d + 1) (packT (.list (ls.map .bytes))) = .ok (.list (ls.map some)) (packT (.list (ls.map .bytes))).length := by
  have e : packT (.list (ls.map .bytes)) = headL 192 (packTs (ls.map .bytes)).length ++ packTs (ls.map .bytes) := by simp only [packT]
  obtain ⟨h1, h2, h3⟩ := hdR_head 192 (packTs (ls.map .bytes)).length (.inr rfl) hs (packTs (ls.map .bytes)) (Nat.le_refl _)
  rw [← e] at h1 h2 h3
  have hne : packT (.list (ls.map .bytes)) ≠ [] := by rw [e]; simp [headL_ne]
  rw [rdT_list hne (by omega), rdL_eq, h1]
  simp only
  have hd : (packT (.list (ls.map .bytes))).drop (headL 192 (packTs (ls.map .bytes)).length).length = packTs (ls.map .bytes) := by rw [e]; exact List.drop_left' rfl
  rw [hd, List.take_length, rds_bytes d ls h]
  simp only
  rw [e, List.length_append]
theorem rdAll_list (ls : List Bts) (h : ∀ l ∈ ls, l.length ≤ 16777216 ∧ Byt l) (hs : (packTs (ls.map .bytes)).length ≤ 16777216) : ∃ n, rdAll (packT (.list (ls.map .bytes))) = .ok (.list (ls.map some)) n := by
  refine ⟨(packT (.list (ls.map .bytes))).length, ?_⟩
  unfold rdAll
  rw [rd_list 31 ls h hs]
  simp
/-- A transaction's bytes. -/
def packTx (t : TxP) : Bts := packT (.list ((itemK t).map .bytes))
structure TxFit (t : TxP) : Prop where
  nonce : 0 ≤ t.nonce ∧ t.nonce ≤ 9223372036854775807
  price : 0 ≤ t.price ∧ t.price ≤ 9223372036854775807
  gas : 0 ≤ t.gas ∧ t.gas ≤ 9223372036854775807
  frm : t.frm < 256 ^ 20
  to : t.to < 256 ^ 20
  value : t.value < 256 ^ 32
  data : t.data.length ≤ 3000
  byt : Byt t.data
theorem itemK_fit {t : TxP} (h : TxFit t) : (∀ l ∈ itemK t, l.length ≤ 3000 ∧ Byt l) ∧ (itemK t).length = 7 := by
  refine ⟨?_, rfl⟩
  have b8 : ∀ n : Int, n ≤ 9223372036854775807 → (bigL n.toNat).length ≤ 3000 := by
    intro n hn
    have h8 : (256 : Nat) ^ 8 = 18446744073709551616 := by decide
    have := bigL_len 8 n.toNat (by rw [h8]; omega)
    omega
  intro l hl
  simp only [itemK, List.mem_cons, List.not_mem_nil, or_false] at hl
  rcases hl with rfl | rfl | rfl | rfl | rfl | rfl | rfl
  · exact ⟨b8 _ h.nonce.2, bigL_byte _⟩
  · exact ⟨b8 _ h.price.2, bigL_byte _⟩
  · exact ⟨b8 _ h.gas.2, bigL_byte _⟩
  · exact ⟨by rw [be_len]; decide, be_byte 20 _⟩
  · split
    · exact ⟨by simp, fun x hx => by cases hx⟩
    · exact ⟨by rw [be_len]; decide, be_byte 20 _⟩
  · exact ⟨Nat.le_trans (bigL_len 32 _ h.value) (by decide), bigL_byte _⟩
  · exact ⟨h.data, h.byt⟩
theorem packTs_small : ∀ ls : List Bts, (∀ l ∈ ls, l.length ≤ 3000) → (packTs (ls.map .bytes)).length ≤ ls.length * 3005
  | [], _ => by simp [packTs]
  | l :: ls, h => by
    have h1 := h l (by simp)
    have ih := packTs_small ls (fun x hx => h x (by simp [hx]))
    have h2 := packB_small l (by omega)
    show (packT (.bytes l) ++ packTs (ls.map .bytes)).length ≤ (ls.length + 1) * 3005
    rw [List.length_append]
    omega
theorem packTx_small {t : TxP} (h : TxFit t) : (packTs ((itemK t).map .bytes)).length ≤ 21035 ∧ (packTx t).length ≤ 30000 := by
  obtain ⟨h1, h7⟩ := itemK_fit h
  have h2 := packTs_small (itemK t) (fun l hl => (h1 l hl).1)
  rw [h7] at h2
  refine ⟨h2, ?_⟩
  have e : packTx t = headL 192 (packTs ((itemK t).map .bytes)).length ++ packTs ((itemK t).map .bytes) := by unfold packTx; simp only [packT]
  rw [e, List.length_append, headL_len]
  have := size_nat (packTs ((itemK t).map .bytes)).length (by omega)
  split <;> omega
theorem packTx_byte {t : TxP} (h : TxFit t) : Byt (packTx t) := by
  obtain ⟨h1, _⟩ := itemK_fit h
  refine packL_byte _ (by have := (packTx_small h).1; omega) (fun u hu => ?_)
  obtain ⟨l, hl, rfl⟩ := List.mem_map.1 hu
  exact packB_byte l (by have := (h1 l hl).1; omega) (h1 l hl).2
theorem readK_pack {t : TxP} (h : TxFit t) : readK (packTx t) = .inr (backK t) := by
  obtain ⟨h1, _⟩ := itemK_fit h
  obtain ⟨n, hn⟩ := rdAll_list (itemK t) (fun l hl => ⟨by have := (h1 l hl).1; omega, (h1 l hl).2⟩) (by have := (packTx_small h).1; omega)
  unfold readK
  show (match rdAll (packT (.list ((itemK t).map .bytes))) with | .err x => Sum.inl x | .ok t _ => match ofK t with | none => Sum.inl 4 | some t => Sum.inr t) = _
  rw [hn]
  simp only
  rw [ofK_item t h.nonce h.price h.gas h.frm h.to h.value]
end Go.Proofs.YtikiciojfhfagaaGreat
