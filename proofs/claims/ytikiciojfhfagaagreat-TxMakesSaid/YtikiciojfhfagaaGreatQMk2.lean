/-
  The machine: MSTORE8.
  The machine: RETURN.
  The machine: a step of codes that push, store and tell.
  The machine: a new account is given the code that was told.
-/
import Derived.Test.YtikiciojfhfagaaGreatQMm9
set_option linter.unusedVariables false
set_option linter.unusedSimpArgs false
namespace Go.Proofs.YtikiciojfhfagaaGreat
open Go.RowKit Go.Mun

theorem slice25o (b o j : Nat) (hj : j < 32) (w : World) : (Instr.sliceAt 25 (.pointer (some ⟨b, o, none⟩)) (some (.int .i64 (j : Int))) none none).run Tryz.prog w = .ok (.slice (some ⟨b, o + j, none⟩) (32 - j) (32 - j)) w := by
  have hl : Tryz.prog.arrayLen 25 = 32 := by kernel_rfl
  have he : Tryz.prog.elem 25 = 5 := by kernel_rfl
  have hs : (sizeOf 5).run Tryz.prog w = .ok 1 w := by kernel_rfl
  rw [run_sliceAt_array_l w 25 ⟨b, o, none⟩ (by rw [hl, he]; exact Tryz.underlying25) .i64 (j : Int) (by omega) (by rw [hl]; omega), he, hs, hl]
  simp only [Result.andThen, slicedAt, Int.toNat_natCast, Nat.mul_one]
  rw [if_neg (by omega), add_off rfl]
/-- A frame whose memory grew, behind a box that was laid ahead and is filled then. -/
theorem grow_box {E : Env} {v0 wa w1 : World} {own : Own} {c : FV} {f : Fr} {S : St} {k mb gs t : Nat} {m' : Bts} {mv' : Value} {z : Array Value} (h0 : FrOk E v0 own c f S k) (ea : wa = v0.alloc (.cells z t)) (hmb : mb = v0.heap.size)
    (h1 : FrOk E w1 own { c with mv := mv' } { f with mem := m', gas := gs } S k) (ho : Only (fun b => b = E.fb ∨ c.mv.ownBlock = some b) wa w1) (hmv : ∀ g, mv'.ownBlock = some g → c.mv.ownBlock = some g ∨ wa.heap.size ≤ g) (hgs : gs ≤ f.gas) (L : List Value) :
    FrOk E (w1.setCells mb 0 L) own { c with mv := mv' } { f with mem := m', gas := gs } S k := by
  have hb : Below v0.heap.size v0 wa := by rw [ea]; exact (Below.refl _ _).alloc (Nat.le_refl _) _
  have hsz : wa.heap.size = v0.heap.size + 1 := by rw [ea]; simp
  have hO : Only (· = mb) w1 (w1.setCells mb 0 L) := (Only.refl (· = mb) _).setCells (fun _ => rfl) _ _
  have hlt := h0.lt
  have hml := ownsRow_lt h0.mem
  have h01 : Only (fun b => b = E.fb ∨ c.mv.ownBlock = some b) v0 w1 := (Only.mono (S := fun _ => False) (Only.of_below_size hb) (fun _ (h : False) => h.elim)).trans ho (fun i h _ => h)
  have ho2 : Only (fun b => b = E.fb ∨ c.mv.ownBlock = some b) v0 (w1.setCells mb 0 L) := h01.trans hO (fun i h hl => by have : i = mb := h; omega)
  refine h0.memory2 ho2 (by rw [hO.row? h1.lt (by omega)]; exact h1.row) (by rw [hO.free? h1.lt (by omega)]; exact h1.free) ?_ (fun g hg => (hmv g hg).imp id (fun h => by omega)) h1.mbyte h1.mlen hgs
  exact Only.own h1.mem hO (fun g hg hx => by
    have : g = mb := hx
    rcases hmv g hg with h2 | h2
    · have := hml g h2; omega
    · omega)
/-- Two words in a block. -/
def TwoW (g a x : Nat) (W : World) : Prop := W.row? g 0 32 = some (beC 32 a) ∧ W.row? g 32 32 = some (beC 32 x)
theorem TwoW.next {g a x : Nat} {W W' : World} (h : TwoW g a x W) (hb : Below W.heap.size W W') : TwoW g a x W' :=
  ⟨((brow hb).1 _ _ _ (World.row?_lt h.1)).trans h.1, ((brow hb).1 _ _ _ (World.row?_lt h.2)).trans h.2⟩
theorem TwoW.only {g a x : Nat} {W W' : World} {R : Nat → Prop} (h : TwoW g a x W) (ho : Only R W W') (hR : ¬ R g) : TwoW g a x W' :=
  ⟨by rw [ho.row? (World.row?_lt h.1) hR]; exact h.1, by rw [ho.row? (World.row?_lt h.2) hR]; exact h.2⟩
theorem TwoW.lt {g a x : Nat} {W : World} (h : TwoW g a x W) : g < W.heap.size := World.row?_lt h.1
theorem TwoW.last {g a x : Nat} {W : World} (h : TwoW g a x W) : Ints W .u8 (some ⟨g, 63, none⟩) 1 [((x % 256 : Nat) : Int)] := by
  have h1 := World.row?_cell h.2 (i := 31) (by omega)
  rw [be_at x 31 (by omega)] at h1
  refine ⟨fun _ => ⟨g, 63, rfl, fun i hi => ?_⟩, fun h => (by cases h), by simp, by simp [maxLen]⟩
  have : i = 0 := by simp at hi; exact hi
  subst this
  simpa using h1
theorem put_byt {l : Bts} {p x : Nat} (h : Byt l) : Byt (putK l p [((x % 256 : Nat) : Int)]) := by
  intro y hy
  unfold putK at hy
  rcases List.mem_append.1 hy with h1 | h1
  · exact h y (List.mem_of_mem_take h1)
  rcases List.mem_append.1 h1 with h1 | h1
  · rw [List.mem_singleton] at h1
    have := Nat.mod_lt x (show 0 < 256 by decide)
    omega
  · exact h y (List.mem_of_mem_drop h1)
set_option maxRecDepth 100000 in
set_option maxHeartbeats 4000000 in
theorem evm_store8 {E : Env} {w : World} {own : Own} {c : FV} {f : Fr} {S : St} {n : Nat} {v : Value} (a x : Nat) (h : FrOk E w own c f S n) (hN : E.N ≤ 1099511627776) (hw : Wds E.w0.heap.size w v [a, x]) (hgf : ∀ g, v.ownBlock = some g → g ≠ E.fb ∧ c.mv.ownBlock ≠ some g) (ha : a < wW) :
    Calls Tryz.prog 141 #[.pointer (some ⟨E.fb, 0, none⟩), v] w (Post E (store8R f S a x)) := by
  obtain ⟨g, cc, rfl, hgb, hgl, hc1, hc2, hrow⟩ := hw.at (by simp)
  have hg0 := hrow 0 (by simp)
  have hg1 := hrow 1 (by simp)
  simp only [Nat.zero_mul, Nat.one_mul, List.getElem?_cons_zero, List.getElem?_cons_succ, Option.getD_some] at hg0 hg1
  have HGN := Lib.hid (hgf g rfl)
  have HGR : Hid (∀ W W', TwoW g a x W → Only (fun b => b = E.fb ∨ c.mv.ownBlock = some b) W W' → TwoW g a x W') := fun W W' h ho => h.only ho (fun hh => hh.elim HGN.out.1 HGN.out.2)
  obtain ⟨T, hT⟩ : ∃ T : World → Prop, T = TwoW g a x := ⟨_, rfl⟩
  have HT := Lib.hid hT
  have H0 := Lib.hid (h.below (Below.refl _ _).drew)
  have t0 : T w.drew := by rw [hT]; exact TwoW.next ⟨hg0, hg1⟩ (Below.refl _ _).drew
  have o1 : ofW 1 = 1 := by kernel_rfl
  have O1 := Lib.hid (fun w => word_of 1 (by decide) (by decide) w)
  rw [o1] at O1
  have HG := Lib.hid (fun W (hW : FrOk E W own c f S n) => evm_grow a 1 ha (by decide) hW hN)
  have H := Lib.hid h
  have hcx : ([a, x] : List Nat).length = 2 := rfl
  rw [hcx]
  have he1 : (if (1 : Nat) = 0 then 0 else a) = a := if_neg (by decide)
  have hzl := zs216_len
  clear hw hrow hgb hgl hc1 hc2 hgf hg0 hg1 hT hcx h o1 ha
  go_enter Tryz.func141, Tryz.ntmps141
  go_wp2_with fail
  refine wp_region_tree T [7] (.pure 0 (.pure 1 (.pure 2 (.take 3 (.alt 4 (.alt 5 (.alt 6 (.alt 7 .fin .stop) .stop) (.alt 6 (.alt 5 (.alt 7 .fin .stop) .stop) .stop)) (.alt 6 (.alt 4 (.alt 5 (.alt 7 .fin .stop) .stop) .stop) .stop)))))) (by kernel_rfl) (by kernel_rfl) ?_
  generalize w.drew = v0 at *
  refine tree_pure ?_ rfl (by rfl) (fun w' hs => ?_) (fun _ _ _ h => h) ?_
  rotate_left
  · clear hs
    go_simp
    try rfl
  simp only [Act.put, tsa, tsb, tsc]
  refine tree_pure ?_ rfl (by rfl) (fun w' hs => ?_) (fun _ _ _ h => h) ?_
  rotate_left
  · clear hs
    go_simp
    try rfl
  simp only [Act.put, tsa, tsb, tsc]
  refine tree_pure ?_ rfl (by rfl) (fun w' hs => ?_) (fun _ _ _ h => h) ?_
  rotate_left
  · clear hs
    go_simp
    try rfl
  simp only [Act.put, tsa, tsb, tsc]
  refine tree_take ?_ t0 rfl (by rfl) (fun w' hs => ?_) (fun _ _ _ h => h) ?_
  rotate_left
  · rw [HT.out] at hs
    obtain ⟨q0, q1⟩ := hs
    go_simp
    try rfl
  simp only [Act.put, tsa, tsb, tsc]
  refine tree_alt rfl (fun K hK => ?_) ?_
  · go_simp
    refine (O1.out _).mono ?_
    rintro e w1 ⟨rfl, hb⟩
    have H1 := Lib.hid (H0.out.below hb)
    have t1 : T w1 := by have h1 := t0; rw [HT.out] at h1 ⊢; exact h1.next hb
    clear hb
    refine hK.out _ _ t1 ?_
    clear hK K
    refine tree_alt rfl (fun K hK => ?_) ?_
    · go_simp
      refine (HG.out _ H1.out).mono ?_
      rintro e w2 (⟨hk, rfl, hfr⟩ | ⟨cost, z, mv', hk, (⟨hc, rfl, hfr, ho, hmv⟩ | ⟨hc, rfl, hfr⟩)⟩)
      · have HW : Hid (store8R f S a x = .stop 11 f S) := by
          show _ = _
          unfold store8R; rw [hk]
        have HFR := Lib.hid hfr
        clear hk hfr
        go_wp2
        refine ⟨rfl, ?_⟩
        rw [HW.out]
        exact ⟨rfl, own, c, n, f, S, HFR.out, fun h => absurd h (by decide)⟩
      rotate_left
      · have HW : Hid (store8R f S a x = .stop 11 f S) := by
          show _ = _
          unfold store8R; rw [hk]; simp only; rw [if_neg hc]
        have HFR := Lib.hid hfr
        clear hk hfr hc
        go_wp2
        refine ⟨rfl, ?_⟩
        rw [HW.out]
        exact ⟨rfl, own, _, n, _, S, HFR.out, fun h => absurd h (by decide)⟩
      rw [he1]
      have HW : Hid (store8R f S a x = .ok { f with mem := putK (f.mem ++ List.replicate z 0) a [((x % 256 : Nat) : Int)], gas := f.gas - cost } S) := by
        show _ = _
        unfold store8R; rw [hk]; simp only; rw [if_pos hc]
      have HFIT := Lib.hid ((growK_fits H.out.mlen hk).2.2.2 (by decide))
      have HR := Lib.hid hfr
      have t2 : T w2 := by have h1 := t1; rw [HT.out] at h1 ⊢; exact HGR.out _ _ h1 ho
      clear hk hfr ho hmv hc
      refine hK.out _ _ t2 ?_
      clear hK K
      refine tree_run rfl (fun K hK => ?_)
      go_simp
      obtain ⟨mb, em⟩ : ∃ mb, mb = w2.heap.size := ⟨_, rfl⟩
      obtain ⟨wa, ea⟩ : ∃ wa, wa = w2.alloc (.cells (cat zs216).toArray 220) := ⟨_, rfl⟩
      have hb : Below w2.heap.size w2 wa := by rw [ea]; exact (Below.refl _ _).alloc (Nat.le_refl _) _
      have HFA : Hid (wa.free? mb 0 2 = true) := by show _ = _; rw [ea, em]; exact World.free?_alloc_at _ _ rfl (by rw [zs216_len]; omega)
      have ta : T wa := by have h1 := t2; rw [HT.out] at h1 ⊢; exact h1.next hb
      have HRA := Lib.hid (HR.out.below hb)
      have HEA := Lib.hid ea
      have HEM := Lib.hid em
      rw [← em, ← ea]
      clear hb ea em
      refine hK.out _ _ ta ?_
      clear hK K
      refine tree_z rfl (by simp) (fun K hK => ?_)
      have ff7 := HFA.out
      go_simp
      refine hK.out _ _ ?_
      clear hK K
      refine tree_fin ?_
      have HMBV : Hid (¬ mv'.ownBlock = some mb) := fun e => by
        have h1 := ownsRow_lt HR.out.mem mb e; have h2 := HEM.out; omega
      have HZ : Hid (FrOk E (wa.setCells mb 0 [.int .i64 (a : Int), .int .i64 1]) own { c with mv := mv' } { f with mem := f.mem ++ List.replicate z 0, gas := f.gas - cost } S n) := by
        have hb : Below w2.heap.size w2 (wa.setCells mb 0 [.int .i64 (a : Int), .int .i64 1]) := by rw [HEA.out, HEM.out]; exact ((Below.refl _ _).alloc (Nat.le_refl _) _).setCells (Nat.le_refl _) _ _
        exact HR.out.below hb
      have ff := HFA.out
      obtain ⟨wz, ez⟩ : ∃ wz, wz = wa.setCells mb 0 [.int .i64 (a : Int), .int .i64 1] := ⟨_, rfl⟩
      have hzr : wz.row? mb 0 2 = some [.int .i64 (a : Int), .int .i64 1] := by rw [ez]; exact row?_setCells_whole _ ff rfl
      have hzt : TwoW g a x wz := by have h1 := ta; rw [HT.out] at h1; rw [ez]; exact h1.only (R := (· = mb)) ((Only.refl (· = mb) _).setCells (fun _ => rfl) _ _) (fun e => by have h1 := t2; rw [HT.out] at h1; have h2 := h1.lt; have h3 := HEM.out; omega)
      rw [← ez] at HZ
      have HEZ := Lib.hid ez
      have HZR := Lib.hid hzr
      have HZT := Lib.hid hzt
      clear hzr hzt ez HT t0 t1 t2 ta
      obtain ⟨T, hT⟩ : ∃ T : World → Prop, T = fun W => W.cell? ⟨mb, 0, none⟩ = some (.int .i64 (a : Int)) := ⟨_, rfl⟩
      have HT := Lib.hid hT
      have tz : T wz.drew := by rw [hT]; exact World.row?_cell HZR.out (show 0 < 2 by omega)
      have hs63 : ∀ w', (Instr.sliceAt 25 (.pointer (some ⟨g, 32, none⟩)) (some (.int .i64 31)) none none).run Tryz.prog w' = .ok (.slice (some ⟨g, 63, none⟩) 1 1) w' := fun w' => slice25o g 32 31 (by omega) w'
      clear hT
      have HZD := Lib.hid (HZ.out.below (Below.refl _ _).drew)
      have HZTD := Lib.hid (HZT.out.next (Below.refl _ _).drew)
      have HPUT := Lib.hid (mem_put (x := [((x % 256 : Nat) : Int)]) a (fr_mv HZD.out.row) HZD.out.mem HZD.out.mlen.1 rfl HZTD.out.last (by have := HFIT.out; simpa using this))
      go_wp2_with fail
      rw [← HEZ.out]
      clear ff
      refine wp_region_tree T [] (.pure 0 (.pure 1 (.pure 2 (.pure 3 (.take 4 (.pure 5 (.pure 6 (.pure 7 (.alt 8 .fin .stop))))))))) (by kernel_rfl) (by kernel_rfl) ?_
      refine tree_pure ?_ rfl (by rfl) (fun w' hs => ?_) (fun _ _ _ h => h) ?_
      rotate_left
      · clear hs
        go_simp
        try rfl
      simp only [Act.put, tsa, tsb, tsc]
      refine tree_pure ?_ rfl (by rfl) (fun w' hs => ?_) (fun _ _ _ h => h) ?_
      rotate_left
      · clear hs
        go_simp
        try rfl
      simp only [Act.put, tsa, tsb, tsc]
      refine tree_pure ?_ rfl (by rfl) (fun w' hs => ?_) (fun _ _ _ h => h) ?_
      rotate_left
      · clear hs
        go_simp
        try rfl
      simp only [Act.put, tsa, tsb, tsc]
      refine tree_pure ?_ rfl (by rfl) (fun w' hs => ?_) (fun _ _ _ h => h) ?_
      rotate_left
      · clear hs
        go_simp
        try rfl
      simp only [Act.put, tsa, tsb, tsc]
      refine tree_take ?_ tz rfl (by rfl) (fun w' hs => ?_) (fun _ _ _ h => h) ?_
      rotate_left
      · rw [HT.out] at hs
        go_simp
        try rfl
      simp only [Act.put, tsa, tsb, tsc]
      refine tree_pure ?_ rfl (by rfl) (fun w' hs => ?_) (fun _ _ _ h => h) ?_
      rotate_left
      · clear hs
        go_simp
        try rfl
      simp only [Act.put, tsa, tsb, tsc]
      refine tree_pure ?_ rfl (by rfl) (fun w' hs => ?_) (fun _ _ _ h => h) ?_
      rotate_left
      · clear hs
        go_simp
        try rfl
      simp only [Act.put, tsa, tsb, tsc]
      refine tree_pure ?_ rfl (by rfl) (fun w' hs => ?_) (fun _ _ _ h => h) ?_
      rotate_left
      · clear hs
        go_simp
        try rfl
      simp only [Act.put, tsa, tsb, tsc]
      refine tree_run rfl (fun K hK => ?_)
      go_simp
      refine HPUT.out.mono ?_
      rintro e w9 ⟨rfl, ho9, hr9⟩
      have HFIN := Lib.hid (HZD.out.memput (m' := putK (f.mem ++ List.replicate z 0) a [((x % 256 : Nat) : Int)]) ho9 (by rw [putK_len _ _ _ (by have := HFIT.out; simpa using this)]; exact hr9) (put_byt HZD.out.mbyte) (by rw [putK_len _ _ _ (by have := HFIT.out; simpa using this)]; exact HZD.out.mlen))
      have t9 : T w9 := by have h1 := tz; rw [HT.out] at h1 ⊢; exact (ho9.cell? (b := mb) (o := 0) (World.block_lt_of_cell? _ _ h1) (fun hx => HMBV.out hx)).trans h1
      clear ho9 hr9
      refine hK.out _ _ t9 ?_
      clear hK K
      refine tree_fin ?_
      go_wp2
      go_end0
      rw [HW.out]
      exact ⟨rfl, own, _, n, HFIN.out⟩
    refine tree_run rfl (fun K hK => ?_)
    go_simp
    obtain ⟨mb, em⟩ : ∃ mb, mb = w1.heap.size := ⟨_, rfl⟩
    obtain ⟨wa, ea⟩ : ∃ wa, wa = w1.alloc (.cells (cat zs216).toArray 220) := ⟨_, rfl⟩
    have hb : Below w1.heap.size w1 wa := by rw [ea]; exact (Below.refl _ _).alloc (Nat.le_refl _) _
    have HFA : Hid (wa.free? mb 0 2 = true) := by show _ = _; rw [ea, em]; exact World.free?_alloc_at _ _ rfl (by rw [zs216_len]; omega)
    have ta : T wa := by have h1 := t1; rw [HT.out] at h1 ⊢; exact h1.next hb
    have HA := Lib.hid (H1.out.below hb)
    have HEA := Lib.hid ea
    have HEM := Lib.hid em
    rw [← em, ← ea]
    clear hb ea em
    refine hK.out _ _ ta ?_
    clear hK K
    refine tree_run rfl (fun K hK => ?_)
    go_simp
    refine (HG.out _ HA.out).mono ?_
    rintro e w3 (⟨hk, rfl, hfr⟩ | ⟨cost, z, mv', hk, (⟨hc, rfl, hfr, ho, hmv⟩ | ⟨hc, rfl, hfr⟩)⟩)
    · have HW : Hid (store8R f S a x = .stop 11 f S) := by
        show _ = _
        unfold store8R; rw [hk]
      have HFR := Lib.hid hfr
      clear hk hfr
      go_wp2
      refine ⟨rfl, ?_⟩
      rw [HW.out]
      exact ⟨rfl, own, c, n, f, S, HFR.out, fun h => absurd h (by decide)⟩
    rotate_left
    · have HW : Hid (store8R f S a x = .stop 11 f S) := by
        show _ = _
        unfold store8R; rw [hk]; simp only; rw [if_neg hc]
      have HFR := Lib.hid hfr
      clear hk hfr hc
      go_wp2
      refine ⟨rfl, ?_⟩
      rw [HW.out]
      exact ⟨rfl, own, _, n, _, S, HFR.out, fun h => absurd h (by decide)⟩
    rw [he1]
    have HW : Hid (store8R f S a x = .ok { f with mem := putK (f.mem ++ List.replicate z 0) a [((x % 256 : Nat) : Int)], gas := f.gas - cost } S) := by
      show _ = _
      unfold store8R; rw [hk]; simp only; rw [if_pos hc]
    have HFIT := Lib.hid ((growK_fits H.out.mlen hk).2.2.2 (by decide))
    have HR := Lib.hid hfr
    have t3 : T w3 := by have h1 := ta; rw [HT.out] at h1 ⊢; exact HGR.out _ _ h1 ho
    have HF3 : Hid (w3.free? mb 0 2 = true) := by
      show _ = _
      rw [ho.free? (free?_lt HFA.out) (fun hx => by have h1 := HEM.out; have h2 := H1.out.lt; have h3 := ownsRow_lt H1.out.mem; rcases hx with hx | hx; omega; have := h3 _ hx; omega)]
      exact HFA.out
    have HO := Lib.hid ho
    have HMV := Lib.hid hmv
    clear hk hfr ho hmv hc
    refine hK.out _ _ t3 ?_
    clear hK K
    refine tree_z rfl (by simp) (fun K hK => ?_)
    have ff7 := HF3.out
    go_simp
    refine hK.out _ _ ?_
    clear hK K
    refine tree_fin ?_
    have HMBV : Hid (¬ mv'.ownBlock = some mb) := fun e => by
      have h1 := HEM.out; have h3 := H1.out; have h5 : wa.heap.size = w1.heap.size + 1 := by rw [HEA.out]; simp
      rcases HMV.out mb e with h2 | h2
      · have := ownsRow_lt h3.mem mb h2; omega
      · omega
    have HZ : Hid (FrOk E (w3.setCells mb 0 [.int .i64 (a : Int), .int .i64 1]) own { c with mv := mv' } { f with mem := f.mem ++ List.replicate z 0, gas := f.gas - cost } S n) :=
      grow_box H1.out HEA.out HEM.out HR.out HO.out HMV.out (Nat.sub_le _ _) _
    have ff := HF3.out
    obtain ⟨wz, ez⟩ : ∃ wz, wz = w3.setCells mb 0 [.int .i64 (a : Int), .int .i64 1] := ⟨_, rfl⟩
    have hzr : wz.row? mb 0 2 = some [.int .i64 (a : Int), .int .i64 1] := by rw [ez]; exact row?_setCells_whole _ ff rfl
    have hzt : TwoW g a x wz := by have h1 := t3; rw [HT.out] at h1; rw [ez]; exact h1.only (R := (· = mb)) ((Only.refl (· = mb) _).setCells (fun _ => rfl) _ _) (fun e => by have h1 := t1; rw [HT.out] at h1; have h2 := h1.lt; have h3 := HEM.out; omega)
    rw [← ez] at HZ
    have HEZ := Lib.hid ez
    have HZR := Lib.hid hzr
    have HZT := Lib.hid hzt
    clear hzr hzt ez HT t0 t1 ta t3
    obtain ⟨T, hT⟩ : ∃ T : World → Prop, T = fun W => W.cell? ⟨mb, 0, none⟩ = some (.int .i64 (a : Int)) := ⟨_, rfl⟩
    have HT := Lib.hid hT
    have tz : T wz.drew := by rw [hT]; exact World.row?_cell HZR.out (show 0 < 2 by omega)
    have hs63 : ∀ w', (Instr.sliceAt 25 (.pointer (some ⟨g, 32, none⟩)) (some (.int .i64 31)) none none).run Tryz.prog w' = .ok (.slice (some ⟨g, 63, none⟩) 1 1) w' := fun w' => slice25o g 32 31 (by omega) w'
    clear hT
    have HZD := Lib.hid (HZ.out.below (Below.refl _ _).drew)
    have HZTD := Lib.hid (HZT.out.next (Below.refl _ _).drew)
    have HPUT := Lib.hid (mem_put (x := [((x % 256 : Nat) : Int)]) a (fr_mv HZD.out.row) HZD.out.mem HZD.out.mlen.1 rfl HZTD.out.last (by have := HFIT.out; simpa using this))
    go_wp2_with fail
    rw [← HEZ.out]
    clear ff
    refine wp_region_tree T [] (.pure 0 (.pure 1 (.pure 2 (.pure 3 (.take 4 (.pure 5 (.pure 6 (.pure 7 (.alt 8 .fin .stop))))))))) (by kernel_rfl) (by kernel_rfl) ?_
    refine tree_pure ?_ rfl (by rfl) (fun w' hs => ?_) (fun _ _ _ h => h) ?_
    rotate_left
    · clear hs
      go_simp
      try rfl
    simp only [Act.put, tsa, tsb, tsc]
    refine tree_pure ?_ rfl (by rfl) (fun w' hs => ?_) (fun _ _ _ h => h) ?_
    rotate_left
    · clear hs
      go_simp
      try rfl
    simp only [Act.put, tsa, tsb, tsc]
    refine tree_pure ?_ rfl (by rfl) (fun w' hs => ?_) (fun _ _ _ h => h) ?_
    rotate_left
    · clear hs
      go_simp
      try rfl
    simp only [Act.put, tsa, tsb, tsc]
    refine tree_pure ?_ rfl (by rfl) (fun w' hs => ?_) (fun _ _ _ h => h) ?_
    rotate_left
    · clear hs
      go_simp
      try rfl
    simp only [Act.put, tsa, tsb, tsc]
    refine tree_take ?_ tz rfl (by rfl) (fun w' hs => ?_) (fun _ _ _ h => h) ?_
    rotate_left
    · rw [HT.out] at hs
      go_simp
      try rfl
    simp only [Act.put, tsa, tsb, tsc]
    refine tree_pure ?_ rfl (by rfl) (fun w' hs => ?_) (fun _ _ _ h => h) ?_
    rotate_left
    · clear hs
      go_simp
      try rfl
    simp only [Act.put, tsa, tsb, tsc]
    refine tree_pure ?_ rfl (by rfl) (fun w' hs => ?_) (fun _ _ _ h => h) ?_
    rotate_left
    · clear hs
      go_simp
      try rfl
    simp only [Act.put, tsa, tsb, tsc]
    refine tree_pure ?_ rfl (by rfl) (fun w' hs => ?_) (fun _ _ _ h => h) ?_
    rotate_left
    · clear hs
      go_simp
      try rfl
    simp only [Act.put, tsa, tsb, tsc]
    refine tree_run rfl (fun K hK => ?_)
    go_simp
    refine HPUT.out.mono ?_
    rintro e w9 ⟨rfl, ho9, hr9⟩
    have HFIN := Lib.hid (HZD.out.memput (m' := putK (f.mem ++ List.replicate z 0) a [((x % 256 : Nat) : Int)]) ho9 (by rw [putK_len _ _ _ (by have := HFIT.out; simpa using this)]; exact hr9) (put_byt HZD.out.mbyte) (by rw [putK_len _ _ _ (by have := HFIT.out; simpa using this)]; exact HZD.out.mlen))
    have t9 : T w9 := by have h1 := tz; rw [HT.out] at h1 ⊢; exact (ho9.cell? (b := mb) (o := 0) (World.block_lt_of_cell? _ _ h1) (fun hx => HMBV.out hx)).trans h1
    clear ho9 hr9
    refine hK.out _ _ t9 ?_
    clear hK K
    refine tree_fin ?_
    go_wp2
    go_end0
    rw [HW.out]
    exact ⟨rfl, own, _, n, HFIN.out⟩
  refine tree_run rfl (fun K hK => ?_)
  go_simp
  obtain ⟨mb, em⟩ : ∃ mb, mb = v0.heap.size := ⟨_, rfl⟩
  obtain ⟨wa, ea⟩ : ∃ wa, wa = v0.alloc (.cells (cat zs216).toArray 220) := ⟨_, rfl⟩
  have hb : Below v0.heap.size v0 wa := by rw [ea]; exact (Below.refl _ _).alloc (Nat.le_refl _) _
  have HFA : Hid (wa.free? mb 0 2 = true) := by show _ = _; rw [ea, em]; exact World.free?_alloc_at _ _ rfl (by rw [zs216_len]; omega)
  have ta : T wa := by have h1 := t0; rw [HT.out] at h1 ⊢; exact h1.next hb
  have HA := Lib.hid (H0.out.below hb)
  have HEA := Lib.hid ea
  have HEM := Lib.hid em
  rw [← em, ← ea]
  clear hb ea em
  refine hK.out _ _ ta ?_
  clear hK K
  refine tree_run rfl (fun K hK => ?_)
  go_simp
  refine (O1.out _).mono ?_
  rintro e w2 ⟨rfl, hb⟩
  have H2 := Lib.hid (HA.out.below hb)
  have t2 : T w2 := by have h1 := ta; rw [HT.out] at h1 ⊢; exact h1.next hb
  have HF2 : Hid (w2.free? mb 0 2 = true) := by show _ = _; rw [(brow hb).2 _ _ _ (free?_lt HFA.out)]; exact HFA.out
  have HB4 := Lib.hid hb
  clear hb
  refine hK.out _ _ t2 ?_
  clear hK K
  refine tree_run rfl (fun K hK => ?_)
  go_simp
  refine (HG.out _ H2.out).mono ?_
  rintro e w3 (⟨hk, rfl, hfr⟩ | ⟨cost, z, mv', hk, (⟨hc, rfl, hfr, ho, hmv⟩ | ⟨hc, rfl, hfr⟩)⟩)
  · have HW : Hid (store8R f S a x = .stop 11 f S) := by
      show _ = _
      unfold store8R; rw [hk]
    have HFR := Lib.hid hfr
    clear hk hfr
    go_wp2
    refine ⟨rfl, ?_⟩
    rw [HW.out]
    exact ⟨rfl, own, c, n, f, S, HFR.out, fun h => absurd h (by decide)⟩
  rotate_left
  · have HW : Hid (store8R f S a x = .stop 11 f S) := by
      show _ = _
      unfold store8R; rw [hk]; simp only; rw [if_neg hc]
    have HFR := Lib.hid hfr
    clear hk hfr hc
    go_wp2
    refine ⟨rfl, ?_⟩
    rw [HW.out]
    exact ⟨rfl, own, _, n, _, S, HFR.out, fun h => absurd h (by decide)⟩
  rw [he1]
  have HW : Hid (store8R f S a x = .ok { f with mem := putK (f.mem ++ List.replicate z 0) a [((x % 256 : Nat) : Int)], gas := f.gas - cost } S) := by
    show _ = _
    unfold store8R; rw [hk]; simp only; rw [if_pos hc]
  have HFIT := Lib.hid ((growK_fits H.out.mlen hk).2.2.2 (by decide))
  have HR := Lib.hid hfr
  have t3 : T w3 := by have h1 := t2; rw [HT.out] at h1 ⊢; exact HGR.out _ _ h1 ho
  have HF3 : Hid (w3.free? mb 0 2 = true) := by
    show _ = _
    rw [ho.free? (free?_lt HF2.out) (fun hx => by have h1 := HEM.out; have h2 := H0.out.lt; have h3 := ownsRow_lt H0.out.mem; rcases hx with hx | hx; omega; have := h3 _ hx; omega)]
    exact HF2.out
  have HO := Lib.hid ho
  have HMV := Lib.hid hmv
  clear hk hfr ho hmv hc
  refine hK.out _ _ t3 ?_
  clear hK K
  refine tree_z rfl (by simp) (fun K hK => ?_)
  have ff7 := HF3.out
  go_simp
  refine hK.out _ _ ?_
  clear hK K
  refine tree_fin ?_
  have HMBV : Hid (¬ mv'.ownBlock = some mb) := fun e => by
    have h1 := HEM.out; have h3 := H0.out; have h5 : wa.heap.size = v0.heap.size + 1 := by rw [HEA.out]; simp
    rcases HMV.out mb e with h2 | h2
    · have := ownsRow_lt h3.mem mb h2; omega
    · have h4 := HB4.out.size; omega
  have HZ : Hid (FrOk E (w3.setCells mb 0 [.int .i64 (a : Int), .int .i64 1]) own { c with mv := mv' } { f with mem := f.mem ++ List.replicate z 0, gas := f.gas - cost } S n) :=
    grow_box H0.out HEA.out HEM.out HR.out ((Only.mono (S := fun _ => False) (Only.of_below_size HB4.out) (fun _ (h : False) => h.elim)).trans HO.out (fun i h _ => h)) (fun g hg => (HMV.out g hg).imp id (fun h => Nat.le_trans HB4.out.size h)) (Nat.sub_le _ _) _
  have ff := HF3.out
  obtain ⟨wz, ez⟩ : ∃ wz, wz = w3.setCells mb 0 [.int .i64 (a : Int), .int .i64 1] := ⟨_, rfl⟩
  have hzr : wz.row? mb 0 2 = some [.int .i64 (a : Int), .int .i64 1] := by rw [ez]; exact row?_setCells_whole _ ff rfl
  have hzt : TwoW g a x wz := by have h1 := t3; rw [HT.out] at h1; rw [ez]; exact h1.only (R := (· = mb)) ((Only.refl (· = mb) _).setCells (fun _ => rfl) _ _) (fun e => by have h1 := t0; rw [HT.out] at h1; have h2 := h1.lt; have h3 := HEM.out; omega)
  rw [← ez] at HZ
  have HEZ := Lib.hid ez
  have HZR := Lib.hid hzr
  have HZT := Lib.hid hzt
  clear hzr hzt ez HT t0 ta t2 t3
  obtain ⟨T, hT⟩ : ∃ T : World → Prop, T = fun W => W.cell? ⟨mb, 0, none⟩ = some (.int .i64 (a : Int)) := ⟨_, rfl⟩
  have HT := Lib.hid hT
  have tz : T wz.drew := by rw [hT]; exact World.row?_cell HZR.out (show 0 < 2 by omega)
  have hs63 : ∀ w', (Instr.sliceAt 25 (.pointer (some ⟨g, 32, none⟩)) (some (.int .i64 31)) none none).run Tryz.prog w' = .ok (.slice (some ⟨g, 63, none⟩) 1 1) w' := fun w' => slice25o g 32 31 (by omega) w'
  clear hT
  have HZD := Lib.hid (HZ.out.below (Below.refl _ _).drew)
  have HZTD := Lib.hid (HZT.out.next (Below.refl _ _).drew)
  have HPUT := Lib.hid (mem_put (x := [((x % 256 : Nat) : Int)]) a (fr_mv HZD.out.row) HZD.out.mem HZD.out.mlen.1 rfl HZTD.out.last (by have := HFIT.out; simpa using this))
  go_wp2_with fail
  rw [← HEZ.out]
  clear ff
  refine wp_region_tree T [] (.pure 0 (.pure 1 (.pure 2 (.pure 3 (.take 4 (.pure 5 (.pure 6 (.pure 7 (.alt 8 .fin .stop))))))))) (by kernel_rfl) (by kernel_rfl) ?_
  refine tree_pure ?_ rfl (by rfl) (fun w' hs => ?_) (fun _ _ _ h => h) ?_
  rotate_left
  · clear hs
    go_simp
    try rfl
  simp only [Act.put, tsa, tsb, tsc]
  refine tree_pure ?_ rfl (by rfl) (fun w' hs => ?_) (fun _ _ _ h => h) ?_
  rotate_left
  · clear hs
    go_simp
    try rfl
  simp only [Act.put, tsa, tsb, tsc]
  refine tree_pure ?_ rfl (by rfl) (fun w' hs => ?_) (fun _ _ _ h => h) ?_
  rotate_left
  · clear hs
    go_simp
    try rfl
  simp only [Act.put, tsa, tsb, tsc]
  refine tree_pure ?_ rfl (by rfl) (fun w' hs => ?_) (fun _ _ _ h => h) ?_
  rotate_left
  · clear hs
    go_simp
    try rfl
  simp only [Act.put, tsa, tsb, tsc]
  refine tree_take ?_ tz rfl (by rfl) (fun w' hs => ?_) (fun _ _ _ h => h) ?_
  rotate_left
  · rw [HT.out] at hs
    go_simp
    try rfl
  simp only [Act.put, tsa, tsb, tsc]
  refine tree_pure ?_ rfl (by rfl) (fun w' hs => ?_) (fun _ _ _ h => h) ?_
  rotate_left
  · clear hs
    go_simp
    try rfl
  simp only [Act.put, tsa, tsb, tsc]
  refine tree_pure ?_ rfl (by rfl) (fun w' hs => ?_) (fun _ _ _ h => h) ?_
  rotate_left
  · clear hs
    go_simp
    try rfl
  simp only [Act.put, tsa, tsb, tsc]
  refine tree_pure ?_ rfl (by rfl) (fun w' hs => ?_) (fun _ _ _ h => h) ?_
  rotate_left
  · clear hs
    go_simp
    try rfl
  simp only [Act.put, tsa, tsb, tsc]
  refine tree_run rfl (fun K hK => ?_)
  go_simp
  refine HPUT.out.mono ?_
  rintro e w9 ⟨rfl, ho9, hr9⟩
  have HFIN := Lib.hid (HZD.out.memput (m' := putK (f.mem ++ List.replicate z 0) a [((x % 256 : Nat) : Int)]) ho9 (by rw [putK_len _ _ _ (by have := HFIT.out; simpa using this)]; exact hr9) (put_byt HZD.out.mbyte) (by rw [putK_len _ _ _ (by have := HFIT.out; simpa using this)]; exact HZD.out.mlen))
  have t9 : T w9 := by have h1 := tz; rw [HT.out] at h1 ⊢; exact (ho9.cell? (b := mb) (o := 0) (World.block_lt_of_cell? _ _ h1) (fun hx => HMBV.out hx)).trans h1
  clear ho9 hr9
  refine hK.out _ _ t9 ?_
  clear hK K
  refine tree_fin ?_
  go_wp2
  go_end0
  rw [HW.out]
  exact ⟨rfl, own, _, n, HFIN.out⟩
end Go.Proofs.YtikiciojfhfagaaGreat
namespace Go.Proofs.YtikiciojfhfagaaGreat
open Go.RowKit Go.Mun

/-- New bytes may be handed out by a frame. -/
theorem newB_out {E : Env} {w w' : World} {own : Own} {c : FV} {f : Fr} {S : St} {n : Nat} {v : Value} {l : Bts} (h : FrOk E w own c f S n) (hv : NewB w w' v l) (hb : Byt l) (hn : l.length ≤ 1099511627776) : RoAt w' (mn E own c) v l := by
  obtain ⟨⟨a, cc, h1, h2, h3⟩, _⟩ := hv
  refine ⟨⟨a, cc, h1, h2, fun _ p hp hx => ?_⟩, hb, hn⟩
  have hge := h3 p hp
  obtain ⟨cs, hl1, _⟩ := h.logs
  have hlt := h.lt
  have hbase := h.base
  rcases hx with ((hx | hx) | hx | hx | hx | hx) | hx
  · have := h.st.lows _ hx; omega
  · have := (h.keep _ hx).1; omega
  · omega
  · have := ownsRow_lt h.stk _ hx; omega
  · have := ownsRow_lt h.mem _ hx; omega
  · have := ownsRow_lt hl1 _ hx; omega
  · omega
theorem getK_byt {l : Bts} (h : Byt l) (p n : Nat) : Byt (getK l p n) := fun x hx => by
  unfold getK at hx
  rcases List.mem_append.1 (List.mem_of_mem_take hx) with h1 | h1
  · exact h x (List.mem_of_mem_drop h1)
  · rw [List.eq_of_mem_replicate h1]; exact ⟨by decide, by decide⟩
theorem growK_area {L a n cost x : Nat} (h : growK L a n = some (cost, x)) : (if n = 0 then 0 else a) ≤ 1048576 ∧ n ≤ 1048576 := by
  unfold growK at h
  by_cases hn : n = 0
  · rw [if_pos hn]; omega
  · rw [if_neg hn] at h ⊢
    by_cases h1 : a + n ≤ 1048576
    · omega
    · rw [if_neg h1] at h; cases h
set_option maxRecDepth 100000 in
set_option maxHeartbeats 4000000 in
theorem evm_tell {E : Env} {w : World} {own : Own} {c : FV} {f : Fr} {S : St} {k : Nat} {v : Value} (a n : Nat) (h : FrOk E w own c f S k) (hN : E.N ≤ 1099511627776) (hw : Wds E.w0.heap.size w v [a, n]) (hgf : ∀ g, v.ownBlock = some g → g ≠ E.fb ∧ c.mv.ownBlock ≠ some g) (ha : a < wW) (hn : n < wW) :
    Calls Tryz.prog 151 #[.pointer (some ⟨E.fb, 0, none⟩), v] w (Post E (tellR f S a n)) := by
  obtain ⟨g, cc, rfl, hgb, hgl, hc1, hc2, hrow⟩ := hw.at (by simp)
  have hg0 := hrow 0 (by simp)
  have hg1 := hrow 1 (by simp)
  simp only [Nat.zero_mul, Nat.one_mul, List.getElem?_cons_zero, List.getElem?_cons_succ, Option.getD_some] at hg0 hg1
  have HGN := Lib.hid (hgf g rfl)
  have HGR : Hid (∀ W W', TwoW g a n W → Only (fun b => b = E.fb ∨ c.mv.ownBlock = some b) W W' → TwoW g a n W') := fun W W' h ho => h.only ho (fun hh => hh.elim HGN.out.1 HGN.out.2)
  obtain ⟨T, hT⟩ : ∃ T : World → Prop, T = TwoW g a n := ⟨_, rfl⟩
  have HT := Lib.hid hT
  have H0 := Lib.hid (h.below (Below.refl _ _).drew)
  have t0 : T w.drew := by rw [hT]; exact TwoW.next ⟨hg0, hg1⟩ (Below.refl _ _).drew
  have HG := Lib.hid (fun W (hW : FrOk E W own c f S k) => evm_grow a n ha hn hW hN)
  have hcx : ([a, n] : List Nat).length = 2 := rfl
  rw [hcx]
  obtain ⟨q, hq⟩ : ∃ q, q = (if n = 0 then 0 else a) := ⟨_, rfl⟩
  have HQ := Lib.hid hq
  clear hw hrow hgb hgl hc1 hc2 hgf hg0 hg1 hT hcx h ha hn hq
  go_enter Tryz.func151, Tryz.ntmps151
  go_wp2_with fail
  refine wp_region_tree T [13] (.pure 0 (.pure 1 (.pure 2 (.pure 3 (.pure 4 (.take 5 (.pure 6 (.pure 7 (.take 8 (.alt 9 (.alt 10 (.pure 11 (.pure 12 (.alt 13 .fin .stop))) .stop) .stop)))))))))) (by kernel_rfl) (by kernel_rfl) ?_
  generalize w.drew = v0 at *
  refine tree_pure ?_ rfl (by rfl) (fun w' hs => ?_) (fun _ _ _ h => h) ?_
  rotate_left
  · clear hs
    go_simp
    try rfl
  simp only [Act.put, tsa, tsb, tsc]
  refine tree_pure ?_ rfl (by rfl) (fun w' hs => ?_) (fun _ _ _ h => h) ?_
  rotate_left
  · clear hs
    go_simp
    try rfl
  simp only [Act.put, tsa, tsb, tsc]
  refine tree_pure ?_ rfl (by rfl) (fun w' hs => ?_) (fun _ _ _ h => h) ?_
  rotate_left
  · clear hs
    go_simp
    try rfl
  simp only [Act.put, tsa, tsb, tsc]
  refine tree_pure ?_ rfl (by rfl) (fun w' hs => ?_) (fun _ _ _ h => h) ?_
  rotate_left
  · clear hs
    go_simp
    try rfl
  simp only [Act.put, tsa, tsb, tsc]
  refine tree_pure ?_ rfl (by rfl) (fun w' hs => ?_) (fun _ _ _ h => h) ?_
  rotate_left
  · clear hs
    go_simp
    try rfl
  simp only [Act.put, tsa, tsb, tsc]
  refine tree_take ?_ t0 rfl (by rfl) (fun w' hs => ?_) (fun _ _ _ h => h) ?_
  rotate_left
  · rw [HT.out] at hs
    obtain ⟨q0, q1⟩ := hs
    go_simp
    try rfl
  simp only [Act.put, tsa, tsb, tsc]
  refine tree_pure ?_ rfl (by rfl) (fun w' hs => ?_) (fun _ _ _ h => h) ?_
  rotate_left
  · clear hs
    go_simp
    try rfl
  simp only [Act.put, tsa, tsb, tsc]
  refine tree_pure ?_ rfl (by rfl) (fun w' hs => ?_) (fun _ _ _ h => h) ?_
  rotate_left
  · clear hs
    go_simp
    try rfl
  simp only [Act.put, tsa, tsb, tsc]
  refine tree_take ?_ t0 rfl (by rfl) (fun w' hs => ?_) (fun _ _ _ h => h) ?_
  rotate_left
  · rw [HT.out] at hs
    obtain ⟨q0, q1⟩ := hs
    go_simp
    try rfl
  simp only [Act.put, tsa, tsb, tsc]
  refine tree_run rfl (fun K hK => ?_)
  go_simp
  refine (HG.out _ H0.out).mono ?_
  rintro e w1 (⟨hk, rfl, hfr⟩ | ⟨cost, z, mv', hk, (⟨hc, rfl, hfr, ho, hmv⟩ | ⟨hc, rfl, hfr⟩)⟩)
  · have HW : Hid (tellR f S a n = .stop 11 f S) := by
      show _ = _
      unfold tellR; rw [hk]
    have HFR := Lib.hid hfr
    clear hk hfr
    go_wp2
    refine ⟨rfl, ?_⟩
    rw [HW.out]
    exact ⟨rfl, own, c, k, f, S, HFR.out, fun h => absurd h (by decide)⟩
  rotate_left
  · have HW : Hid (tellR f S a n = .stop 11 f S) := by
      show _ = _
      unfold tellR; rw [hk]; simp only; rw [if_neg hc]
    have HFR := Lib.hid hfr
    clear hk hfr hc
    go_wp2
    refine ⟨rfl, ?_⟩
    rw [HW.out]
    exact ⟨rfl, own, _, k, _, S, HFR.out, fun h => absurd h (by decide)⟩
  rw [← HQ.out]
  have HW : Hid (tellR f S a n = .ok { f with mem := f.mem ++ List.replicate z 0, gas := f.gas - cost, out := getK (f.mem ++ List.replicate z 0) q n, ended := true } S) := by
    show _ = _
    unfold tellR; rw [hk]; simp only; rw [if_pos hc, HQ.out]
  have HAR := growK_area hk
  rw [← HQ.out] at HAR
  replace HAR := Lib.hid HAR
  have H1 := Lib.hid hfr
  have t1 : T w1 := by have h1 := t0; rw [HT.out] at h1 ⊢; exact HGR.out _ _ h1 ho
  clear hk hfr ho hmv hc
  refine hK.out _ _ t1 ?_
  clear hK K
  refine tree_run rfl (fun K hK => ?_)
  go_simp
  refine (evm_bytes q n HAR.out.1 HAR.out.2 H1.out).mono ?_
  rintro e w2 ⟨v2, rfl, hnb⟩
  have H2 := Lib.hid (H1.out.below hnb.below)
  have t2 : T w2 := by have h1 := t1; rw [HT.out] at h1 ⊢; exact h1.next hnb.below
  have HRO := Lib.hid (newB_out H1.out hnb (getK_byt H1.out.mbyte _ _) (by rw [getK_len]; have := HAR.out.2; omega))
  have f138 := H2.out.one (i := 138) (by omega)
  obtain ⟨⟨xa, xc, hxv, _, _⟩, _, _⟩ := hnb
  subst hxv
  have H3 := Lib.hid (H2.out.outs HRO.out)
  refine hK.out _ _ t2 ?_
  clear hK K
  refine tree_pure ?_ rfl (by rfl) (fun w' hs => ?_) (fun _ _ _ h => h) ?_
  rotate_left
  · clear hs
    go_simp
    try rfl
  simp only [Act.put, tsa, tsb, tsc]
  refine tree_pure ?_ rfl (by rfl) (fun w' hs => ?_) (fun _ _ _ h => h) ?_
  rotate_left
  · clear hs
    go_simp
    try rfl
  simp only [Act.put, tsa, tsb, tsc]
  refine tree_z rfl (by simp) (fun K hK => ?_)
  go_simp
  refine hK.out _ _ ?_
  clear hK K
  refine tree_fin ?_
  have f140 := H3.out.one (i := 140) (by omega)
  go_wp2
  go_end0
  rw [HW.out]
  exact ⟨rfl, own, _, k, (H3.out.ended true)⟩
end Go.Proofs.YtikiciojfhfagaaGreat
namespace Go.Proofs.YtikiciojfhfagaaGreat
open Go.RowKit Go.Mun

theorem store8R_split (f : Fr) (S : St) (a x : Nat) : store8R f S a x ≠ .none := by
  unfold store8R
  split
  · simp
  · split <;> simp
theorem tellR_split (f : Fr) (S : St) (a n : Nat) : tellR f S a n ≠ .none := by
  unfold tellR
  split
  · simp
  · split <;> simp
set_option maxRecDepth 100000 in
set_option maxHeartbeats 1000000 in
theorem do_store8 {E : Env} {w : World} {own : Own} {c : FV} {f : Fr} {S : St} {n : Nat} {v : Value} (a x : Nat) (ht : TabOk E.tab) (h : FrOk E w own c f S n) (hN : E.N ≤ 1099511627776) (hw : Wds E.w0.heap.size w v [a, x]) (hgf : ∀ g, v.ownBlock = some g → g ≠ E.fb ∧ c.mv.ownBlock ≠ some g) (ha : a < wW) :
    Calls Tryz.prog 257 #[.pointer (some ⟨E.fb, 0, none⟩), .int .u8 83, v] w (Post E (store8R f S a x)) := by
  have hr := h.run.chg h.chg
  have c0 := fr_pointer h.row
  have c1 := hr.tp
  have hlk := tab_look hr ht (k := 83) (f := 141) 83 rfl (by decide) (by decide)
  have HS := Lib.hid (evm_store8 a x h hN hw hgf ha)
  clear hr ht h hw hgf ha
  go_enter Tryz.func257, Tryz.ntmps257
  go_wp2_with fail
  refine HS.out.mono ?_
  intro e w2 hp
  rcases Post.split (store8R_split f S a x) hp with ⟨rfl, hp⟩ | ⟨y, rfl, hp⟩
  · have HP := Lib.hid hp
    clear hp
    go_wp2
    go_end0
    exact HP.out
  · have HP := Lib.hid hp
    clear hp
    go_wp2
    exact ⟨rfl, HP.out⟩
set_option maxRecDepth 100000 in
set_option maxHeartbeats 1000000 in
theorem do_tell {E : Env} {w : World} {own : Own} {c : FV} {f : Fr} {S : St} {k : Nat} {v : Value} (a n : Nat) (ht : TabOk E.tab) (h : FrOk E w own c f S k) (hN : E.N ≤ 1099511627776) (hw : Wds E.w0.heap.size w v [a, n]) (hgf : ∀ g, v.ownBlock = some g → g ≠ E.fb ∧ c.mv.ownBlock ≠ some g) (ha : a < wW) (hn : n < wW) :
    Calls Tryz.prog 257 #[.pointer (some ⟨E.fb, 0, none⟩), .int .u8 243, v] w (Post E (tellR f S a n)) := by
  have hr := h.run.chg h.chg
  have c0 := fr_pointer h.row
  have c1 := hr.tp
  have hlk := tab_look hr ht (k := 243) (f := 151) 243 rfl (by decide) (by decide)
  have HS := Lib.hid (evm_tell a n h hN hw hgf ha hn)
  clear hr ht h hw hgf ha hn
  go_enter Tryz.func257, Tryz.ntmps257
  go_wp2_with fail
  refine HS.out.mono ?_
  intro e w2 hp
  rcases Post.split (tellR_split f S a n) hp with ⟨rfl, hp⟩ | ⟨y, rfl, hp⟩
  · have HP := Lib.hid hp
    clear hp
    go_wp2
    go_end0
    exact HP.out
  · have HP := Lib.hid hp
    clear hp
    go_wp2
    exact ⟨rfl, HP.out⟩
/-- What PUSH and SSTORE do, apart from the step. -/
theorem actP_ok {E : Env} {w : World} {own : Own} {c : FV} {f : Fr} {S : St} {n : Nat} {v : Value} {l : List Nat} {op : Int} (ht : TabOk E.tab) (hN : E.N ≤ 1099511627776) (hf : FrOk E w own c f S n) (hn2 : actP f S op l ≠ .none) (hw : Wds E.w0.heap.size w v l) (hv : ∀ x ∈ l, x < wW)
    (hb : ∀ g, l ≠ [] → v.ownBlock = some g → g ≠ E.fb ∧ own g = none ∧ c.mv.ownBlock ≠ some g ∧ c.lv.ownBlock ≠ some g) :
    Calls Tryz.prog 257 #[.pointer (some ⟨E.fb, 0, none⟩), .int .u8 op, v] w (Post E (actP f S op l)) := by
  unfold actP at hn2 ⊢
  split at hn2
  · rename_i hc
    rw [if_pos hc]
    split at hn2
    · rename_i hd
      rw [if_pos hd]
      obtain ⟨m, hm⟩ : ∃ m : Nat, op = m := ⟨op.toNat, by omega⟩
      subst hm
      have e : ((m : Int) - 95).toNat = m - 95 := by omega
      rw [e] at hd ⊢
      exact do_push m ⟨by omega, by omega⟩ hf hd.1 hd.2
    · exact absurd rfl hn2
  · rename_i hc
    rw [if_neg hc]
    split at hn2
    · rename_i hd
      rw [if_pos hd, hd]
      match l, hw, hv, hb, hn2 with
      | [k, x], hw, hv, hb, _ => exact do_sstore k x ht hf hN hw (fun g hg => ⟨(hb g (by simp) hg).1, (hb g (by simp) hg).2.1⟩) (hv k (by simp)) (hv x (by simp))
      | [], _, _, _, hn2 => exact absurd rfl hn2
      | [_], _, _, _, hn2 => exact absurd rfl hn2
      | _ :: _ :: _ :: _, _, _, _, hn2 => exact absurd rfl hn2
    · exact absurd rfl hn2
theorem stepM_ok {sb rb tb : Nat} {cx : Ctx} {tab : Tabl} (ht : TabOk tab) : StepOk sb rb tb cx tab stepM := by
  intro E w own c f S n h1 h2 h3 h4 h5 hN h hlt hne
  refine frame_step h hN hlt actM turnP hne ?_ (fun w own c f' n _ hh => absurd rfl hh)
  intro w' own' c' f' n' v l hf hn2 hw hv hb
  have ht' : TabOk E.tab := by rw [h5]; exact ht
  unfold actM at hn2 ⊢
  split at hn2
  · rename_i hc
    rw [if_pos hc, hc]
    match l, hw, hv, hb, hn2 with
    | [a, x], hw, hv, hb, _ => exact do_store8 a x ht' hf hN hw (fun g hg => ⟨(hb g (by simp) hg).1, (hb g (by simp) hg).2.2.1⟩) (hv a (by simp))
    | [], _, _, _, hn2 => exact absurd rfl hn2
    | [_], _, _, _, hn2 => exact absurd rfl hn2
    | _ :: _ :: _ :: _, _, _, _, hn2 => exact absurd rfl hn2
  · rename_i hc
    rw [if_neg hc]
    split at hn2
    · rename_i hd
      rw [if_pos hd, hd]
      match l, hw, hv, hb, hn2 with
      | [a, x], hw, hv, hb, _ => exact do_tell a x ht' hf hN hw (fun g hg => ⟨(hb g (by simp) hg).1, (hb g (by simp) hg).2.2.1⟩) (hv a (by simp)) (hv x (by simp))
      | [], _, _, _, hn2 => exact absurd rfl hn2
      | [_], _, _, _, hn2 => exact absurd rfl hn2
      | _ :: _ :: _ :: _, _, _, _, hn2 => exact absurd rfl hn2
    · rename_i hd
      rw [if_neg hd]
      exact actP_ok ht' hN hf hn2 hw hv hb
end Go.Proofs.YtikiciojfhfagaaGreat
namespace Go.Proofs.YtikiciojfhfagaaGreat
open Go.RowKit Go.Mun

/-- What found has in its boxes. -/
structure FndT (b : Nat) (m : Msg) (dv : Value) (sb rb : Nat) (L : List Value) (W : World) : Prop where
  msg : W.row? b 0 129 = some (cat (msgS m dv))
  out : Arr W (b + 1) 24 L
  res : W.free? (b + 1 + 1) 0 24 = true
  sp : W.cell? ⟨rb, 0, none⟩ = some (.pointer (some ⟨sb, 0, none⟩))
theorem FndT.only {b : Nat} {m : Msg} {dv : Value} {sb rb : Nat} {L : List Value} {W W' : World} {R : Nat → Prop} (h : FndT b m dv sb rb L W) (ho : Only R W W') (h0 : ¬ R b) (h1 : ¬ R (b + 1)) (h2 : ¬ R (b + 1 + 1)) (h3 : ¬ R rb) : FndT b m dv sb rb L W' :=
  ⟨by rw [ho.row? (World.row?_lt h.msg) h0]; exact h.msg, h.out.only ho h1, by rw [ho.free? (free?_lt h.res) h2]; exact h.res, by rw [ho.cell? (World.block_lt_of_cell? _ _ h.sp) h3]; exact h.sp⟩
theorem outS_set (o : Outc) (ov lv : Value) (g : Int) (a : Nat) : (((outS o ov lv).set 0 [.int .i64 g]).set 2 [.slice none 0 0]).set 4 (beC 20 a) = outS { o with gas := g, out := [], addr := a } (.slice none 0 0) lv := rfl
set_option maxRecDepth 100000 in
set_option maxHeartbeats 4000000 in
theorem evm_found {w : World} {own : Own} {sb rb tb : Nat} {cx : Ctx} {tab : Tabl} {S : St} {M : List (Nat × St)} {n B : Nat} {m : Msg} {dv : Value} {o : Outc} {ov lv : Value} (hst : StateAt TU w own sb S M n) (hr : RunAt w own sb rb tb cx tab) (ho : OutAt w own B ov lv o)
    (hto : m.to < wA) (hl : o.out.length ≤ 24576) (hg : (200 * o.out.length : Nat) ≤ o.gas) (hgl : o.gas ≤ 9223372036854775807) (hn : n ≤ 1099511627776) :
    Calls Tryz.prog 219 #[.pointer (some ⟨rb, 0, none⟩), .agg (cat (msgS m dv)).toArray, .agg (cat (outS o ov lv)).toArray] w fun e w' =>
      ∃ own', e = .returned (.agg (cat (outS { o with gas := o.gas - (200 * o.out.length : Nat), out := [], addr := m.to } (.slice none 0 0) lv)).toArray) ∧ StateAt TU w' own' sb (S.setCode m.to o.out) M (n + 1) ∧ Chg w w' own own' ∧
        OutAt w' own' B (.slice none 0 0) lv { o with gas := o.gas - (200 * o.out.length : Nat), out := [], addr := m.to } := by
  obtain ⟨a, k, b, j, rfl, rfl⟩ := ho.forms
  have hml := msgS_len m dv
  have hol := outS_len o (.slice a o.out.length k) (.slice b o.logs.length j)
  obtain ⟨w1, e1⟩ : ∃ w1, w1 = ((w.alloc (.cells (cat (msgS m dv)).toArray 77)).alloc (.cells (cat (outS o (.slice a o.out.length k) (.slice b o.logs.length j))).toArray 74)).alloc (.cells (cat zs46).toArray 74) := ⟨_, rfl⟩
  have hb1 : Below w.heap.size w w1 := by rw [e1]; exact (((Below.refl _ _).alloc (Nat.le_refl _) _).alloc (by simp) _).alloc (by simp; omega) _
  have hs1 : w1.heap.size = w.heap.size + 1 + 1 + 1 := by rw [e1]; simp
  have hA1 : Arr w1 (w.heap.size + 1) 24 (cat (outS o (.slice a o.out.length k) (.slice b o.logs.length j))) := by
    rw [e1]; have := (Arr.new (w.alloc (.cells (cat (msgS m dv)).toArray 77)) 24 _ 74 hol).alloc (.cells (cat zs46).toArray 74)
    simpa using this
  have r1 : w1.row? w.heap.size 0 129 = some (cat (msgS m dv)) := by rw [e1, World.row?_alloc_lt _ (by simp; omega), World.row?_alloc_lt _ (by simp)]; exact World.row?_alloc_at _ _ _ rfl hml
  have f1 : w1.free? (w.heap.size + 1 + 1) 0 24 = true := by rw [e1]; exact World.free?_alloc_at _ _ (by simp) (by rw [zs46_len]; omega)
  have hx0 : (cat (outS o (.slice a o.out.length k) (.slice b o.logs.length j)))[0]'(by rw [outS_len]; omega) = .int .i64 o.gas := rfl
  have hx2 : (cat (outS o (.slice a o.out.length k) (.slice b o.logs.length j)))[2]'(by rw [outS_len]; omega) = .slice a o.out.length k := rfl
  have hx0' : (cat (outS o (.slice a o.out.length k) (.slice b o.logs.length j)))[0]? = some (.int .i64 o.gas) := rfl
  have hx2' : (cat (outS o (.slice a o.out.length k) (.slice b o.logs.length j)))[2]? = some (.slice a o.out.length k) := rfl
  have g1 := Chg.below own hb1
  have H1 : Hid (FndT w.heap.size m dv sb rb (cat (outS o (.slice a o.out.length k) (.slice b o.logs.length j))) w1) := ⟨r1, hA1, f1, (hr.chg g1).sp⟩
  have HST := Lib.hid (hst.below hb1)
  have HG1 := Lib.hid g1
  have HO := Lib.hid ho
  have HE := Lib.hid e1
  have HS1 := Lib.hid hs1
  have hrb := World.row?_lt hr.row
  have hro := hr.rown
  have HRB : Hid (rb < w.heap.size ∧ own rb = none) := ⟨hrb, hro⟩
  have hp0 : own w.heap.size = none := free_own hst.lows (Nat.le_refl _)
  have hp1 : own (w.heap.size + 1) = none := free_own hst.lows (by omega)
  have hp2 : own (w.heap.size + 1 + 1) = none := free_own hst.lows (by omega)
  have HP : Hid (own w.heap.size = none ∧ own (w.heap.size + 1) = none ∧ own (w.heap.size + 1 + 1) = none) := ⟨hp0, hp1, hp2⟩
  obtain ⟨c, hc⟩ : ∃ c : Nat, c = 200 * o.out.length := ⟨_, rfl⟩
  rw [← hc] at hg ⊢
  have hmul : IntKind.i64.wrap (200 * (o.out.length : Int)) = (c : Int) := by rw [wrI _ (by omega) (by omega)]; omega
  have hd1 : decide ((24576 : Int) < (o.out.length : Int)) = false := decide_eq_false (by omega)
  have hd2 : decide (o.gas < (c : Int)) = false := decide_eq_false (by omega)
  obtain ⟨g, hgg⟩ : ∃ g : Int, g = o.gas - (c : Int) := ⟨_, rfl⟩
  rw [← hgg]
  have hsub : IntKind.i64.wrap (o.gas - (c : Int)) = g := by rw [hgg]; exact wrI _ (by omega) (by omega)
  have HSC := Lib.hid (fun (W : World) (hW : StateAt TU W own sb S M n) (hI : RoAt W (fun c => own c ≠ none ∨ c < B) (.slice a o.out.length k) o.out) => by
    obtain ⟨⟨a', c', h1, h2, h3⟩, h4, h5⟩ := hI
    cases h1
    exact st_setCode hW m.to a o.out.length k o.out rfl h5 h2 h4 hto (fun hne p hp => by
      have := h3 hne p hp
      by_cases hx : own p.block = none
      · exact hx
      · exact absurd (.inl hx) this) hn)
  clear hst hr ho e1 hb1 hs1 hA1 r1 f1 g1 hrb hro hp0 hp1 hp2 hc hgg hto hl hg hgl hn
  go_enter Tryz.func219, Tryz.ntmps219
  go_wp2_with fail
  rw [← HE.out]
  obtain ⟨T, hT⟩ : ∃ T : World → Prop, T = FndT w.heap.size m dv sb rb (cat (outS o (.slice a o.out.length k) (.slice b o.logs.length j))) := ⟨_, rfl⟩
  have HT := Lib.hid hT
  have H2 : Hid (FndT w.heap.size m dv sb rb (cat (outS o (.slice a o.out.length k) (.slice b o.logs.length j))) w1.drew) := H1.out.only (R := fun _ => False) (Only.of_below_size (Below.refl _ _).drew) (fun h => h) (fun h => h) (fun h => h) (fun h => h)
  have t0 : T w1.drew := by rw [hT]; exact H2.out
  have HST2 := Lib.hid (HST.out.below (Below.refl _ _).drew)
  have HO2 := Lib.hid (HO.out.chg (HG1.out.trans (Chg.below own (Below.refl _ _).drew)))
  clear hT hx0 hx2 hx0' hx2'
  refine wp_region_tree T [] (.pure 0 (.pure 1 (.pure 2 (.take 3 (.pure 4 (.take 5 (.pure 6 (.take 7 (.alt 8 .fin .stop))))))))) (by kernel_rfl) (by kernel_rfl) ?_
  refine tree_pure ?_ rfl (by rfl) (fun w' hs => ?_) (fun _ _ _ h => h) ?_
  rotate_left
  · clear hs
    go_simp
    try rfl
  simp only [Act.put, tsa, tsb, tsc]
  refine tree_pure ?_ rfl (by rfl) (fun w' hs => ?_) (fun _ _ _ h => h) ?_
  rotate_left
  · clear hs
    go_simp
    try rfl
  simp only [Act.put, tsa, tsb, tsc]
  refine tree_pure ?_ rfl (by rfl) (fun w' hs => ?_) (fun _ _ _ h => h) ?_
  rotate_left
  · clear hs
    go_simp
    try rfl
  simp only [Act.put, tsa, tsb, tsc]
  refine tree_take ?_ t0 rfl (by rfl) (fun w' hs => ?_) (fun _ _ _ h => h) ?_
  rotate_left
  · rw [HT.out] at hs
    obtain ⟨k0, k1, k2, k3⟩ := hs; have k4 := msg_to k0; have k5 := k1.cell (i := 2) (by omega) (v := .slice a o.out.length k) rfl; simp only [Nat.zero_add] at k4
    go_simp
    try rfl
  simp only [Act.put, tsa, tsb, tsc]
  refine tree_pure ?_ rfl (by rfl) (fun w' hs => ?_) (fun _ _ _ h => h) ?_
  rotate_left
  · clear hs
    go_simp
    try rfl
  simp only [Act.put, tsa, tsb, tsc]
  refine tree_take ?_ t0 rfl (by rfl) (fun w' hs => ?_) (fun _ _ _ h => h) ?_
  rotate_left
  · rw [HT.out] at hs
    obtain ⟨k0, k1, k2, k3⟩ := hs; have k4 := msg_to k0; have k5 := k1.cell (i := 2) (by omega) (v := .slice a o.out.length k) rfl; simp only [Nat.zero_add] at k4
    go_simp
    try rfl
  simp only [Act.put, tsa, tsb, tsc]
  refine tree_pure ?_ rfl (by rfl) (fun w' hs => ?_) (fun _ _ _ h => h) ?_
  rotate_left
  · clear hs
    go_simp
    try rfl
  simp only [Act.put, tsa, tsb, tsc]
  refine tree_take ?_ t0 rfl (by rfl) (fun w' hs => ?_) (fun _ _ _ h => h) ?_
  rotate_left
  · rw [HT.out] at hs
    obtain ⟨k0, k1, k2, k3⟩ := hs; have k4 := msg_to k0; have k5 := k1.cell (i := 2) (by omega) (v := .slice a o.out.length k) rfl; simp only [Nat.zero_add] at k4
    go_simp
    try rfl
  simp only [Act.put, tsa, tsb, tsc]
  refine tree_run rfl (fun K hK => ?_)
  go_simp
  refine (HSC.out _ HST2.out HO2.out.out).mono ?_
  rintro e w2 ⟨rfl, own', st2, g2⟩
  have hp := HP.out
  have H3 := Lib.hid (H2.out.only g2.only (fun hh => hh hp.1) (fun hh => hh hp.2.1) (fun hh => hh hp.2.2) (fun hh => hh HRB.out.2))
  have HST3 := Lib.hid st2
  have HG3 := Lib.hid ((HG1.out.trans (Chg.below own (Below.refl _ _).drew)).trans g2)
  have hl0 := World.row?_lt H2.out.msg
  have hl1 := H2.out.out.lt
  have hl2 := free?_lt H2.out.res
  have HP3 : Hid (own' w.heap.size = none ∧ own' (w.heap.size + 1) = none ∧ own' (w.heap.size + 1 + 1) = none) := ⟨by rw [g2.ext _ hl0]; exact hp.1, by rw [g2.ext _ hl1]; exact hp.2.1, by rw [g2.ext _ hl2]; exact hp.2.2⟩
  have t2 : T w2 := by rw [HT.out]; exact H3.out
  clear st2 g2 hp hl0 hl1 hl2
  refine hK.out _ _ t2 ?_
  clear hK K
  refine tree_fin ?_
  clear t0 t2 HT T
  have c0 := H3.out.out.cell (i := 0) (by omega) (v := .int .i64 o.gas) rfl
  have f0 := H3.out.out.free1 (i := 0) (by omega)
  go_wp2_with fail
  have HA4 : Hid (Arr (w2.setCell ⟨w.heap.size + 1, 0, none⟩ (.int .i64 g)) (w.heap.size + 1) 24 (cat ((outS o (.slice a o.out.length k) (.slice b o.logs.length j)).set 0 [.int .i64 g]))) :=
    ⟨cell_cat_set H3.out.out.row (i := 0) rfl _ (by simp [outS, offOf_zero]), (H3.out.out.set (i := 0) (by omega) (.int .i64 g)).free⟩
  have ho4 : Only (· = w.heap.size + 1) w2 (w2.setCell ⟨w.heap.size + 1, 0, none⟩ (.int .i64 g)) := only_cell _ _ _ _
  have HO4 := Lib.hid ho4
  have hm4 : (w2.setCell ⟨w.heap.size + 1, 0, none⟩ (.int .i64 g)).row? w.heap.size 0 129 = some (cat (msgS m dv)) := by rw [ho4.row? (World.row?_lt H3.out.msg) (by omega)]; exact H3.out.msg
  have hr4 : (w2.setCell ⟨w.heap.size + 1, 0, none⟩ (.int .i64 g)).free? (w.heap.size + 1 + 1) 0 24 = true := by rw [ho4.free? (free?_lt H3.out.res) (by omega)]; exact H3.out.res
  obtain ⟨w3, e4⟩ : ∃ w3, w3 = w2.setCell ⟨w.heap.size + 1, 0, none⟩ (.int .i64 g) := ⟨_, rfl⟩
  have hA4 : Arr w3.drew (w.heap.size + 1) 24 (cat ((outS o (.slice a o.out.length k) (.slice b o.logs.length j)).set 0 [.int .i64 g])) := by rw [e4]; exact HA4.out.drew
  have hm4' : w3.drew.row? w.heap.size 0 129 = some (cat (msgS m dv)) := by rw [e4]; exact hm4
  have hr4' : w3.drew.free? (w.heap.size + 1 + 1) 0 24 = true := by rw [e4]; exact hr4
  have hO4 : Only (· = w.heap.size + 1) w2 w3.drew := by rw [e4]; exact ⟨ho4.1, ho4.2, ho4.3, ho4.4, ho4.5⟩
  obtain ⟨T, hT⟩ : ∃ T : World → Prop, T = fun W => W.row? w.heap.size 0 129 = some (cat (msgS m dv)) := ⟨_, rfl⟩
  have HT := Lib.hid hT
  have t4 : T w3.drew := by rw [hT]; exact hm4'
  have f2 := hA4.free1 (i := 2) (by omega)
  have HA4 := Lib.hid hA4
  have HR4 := Lib.hid hr4'
  have HO4 := Lib.hid hO4
  rw [← e4]
  clear ho4 hm4 hr4 hA4 hm4' hr4' hO4 hT c0 f0 e4
  refine wp_region_tree T [5] (.pure 0 (.take 1 (.pure 2 (.alt 3 (.pure 4 (.alt 5 .fin .stop)) .stop)))) (by kernel_rfl) (by kernel_rfl) ?_
  generalize w3.drew = w4 at *
  refine tree_pure ?_ rfl (by rfl) (fun w' hs => ?_) (fun _ _ _ h => h) ?_
  rotate_left
  · clear hs
    go_simp
    try rfl
  simp only [Act.put, tsa, tsb, tsc]
  refine tree_take ?_ t4 rfl (by rfl) (fun w' hs => ?_) (fun _ _ _ h => h) ?_
  rotate_left
  · rw [HT.out] at hs
    have k4 := msg_to hs; simp only [Nat.zero_add] at k4
    go_simp
    try rfl
  simp only [Act.put, tsa, tsb, tsc]
  refine tree_pure ?_ rfl (by rfl) (fun w' hs => ?_) (fun _ _ _ h => h) ?_
  rotate_left
  · clear hs
    go_simp
    try rfl
  simp only [Act.put, tsa, tsb, tsc]
  refine tree_run rfl (fun K hK => ?_)
  go_simp
  obtain ⟨w5, e5⟩ : ∃ w5, w5 = w4.setCell ⟨w.heap.size + 1, 2, none⟩ (.slice none 0 0) := ⟨_, rfl⟩
  have ho5 : Only (· = w.heap.size + 1) w4 w5 := by rw [e5]; exact only_cell _ _ _ _
  have hA5 : Arr w5 (w.heap.size + 1) 24 (cat (((outS o (.slice a o.out.length k) (.slice b o.logs.length j)).set 0 [.int .i64 g]).set 2 [.slice none 0 0])) := by
    rw [e5]
    exact ⟨cell_cat_set HA4.out.row (i := 2) rfl _ (by simp [outS, offOf_succ, offOf_zero]), (HA4.out.set (i := 2) (by omega) (.slice none 0 0)).free⟩
  have t5 : T w5 := by have h1 := t4; rw [HT.out] at h1 ⊢; exact (ho5.row? (World.row?_lt h1) (by omega)).trans h1
  have HR5 : Hid (w5.free? (w.heap.size + 1 + 1) 0 24 = true) := by show _ = _; rw [ho5.free? (free?_lt HR4.out) (by omega)]; exact HR4.out
  have f5 := World.free?_sub hA5.free (o' := 4) (n' := 20) (by omega)
  have hok5 := beC_ok 20 m.to
  have HA5 := Lib.hid hA5
  have HO5 := Lib.hid ho5
  rw [← e5]
  clear e5 hA5 ho5
  refine hK.out _ _ t5 ?_
  clear hK K
  refine tree_pure ?_ rfl (by rfl) (fun w' hs => ?_) (fun _ _ _ h => h) ?_
  rotate_left
  · clear hs
    go_simp
    try rfl
  simp only [Act.put, tsa, tsb, tsc]
  refine tree_z rfl (by simp) (fun K hK => ?_)
  go_simp
  obtain ⟨w6, e6⟩ : ∃ w6, w6 = w5.setCells (w.heap.size + 1) 4 (beC 20 m.to) := ⟨_, rfl⟩
  have ho6 : Only (· = w.heap.size + 1) w5 w6 := by rw [e6]; exact (Only.refl (· = w.heap.size + 1) _).setCells (fun _ => rfl) _ _
  have hA6 : Arr w6 (w.heap.size + 1) 24 (cat (outS { o with gas := g, out := [], addr := m.to } (.slice none 0 0) (.slice b o.logs.length j))) := by
    rw [e6, ← outS_set]
    exact ⟨row_cat_set HA5.out.row (i := 4) (s := beC 20 o.addr) rfl (by simp) (by simp [outS, offOf_succ, offOf_zero]), by rw [World.free?_setCells']; exact HA5.out.free⟩
  have HR6 : Hid (w6.free? (w.heap.size + 1 + 1) 0 24 = true) := by show _ = _; rw [ho6.free? (free?_lt HR5.out) (by omega)]; exact HR5.out
  have HA6 := Lib.hid hA6
  have HO6 := Lib.hid (HO5.out.trans ho6 (fun i h _ => h))
  have HE6 := Lib.hid e6
  clear e6 hA6 ho6
  refine hK.out _ _ ?_
  clear hK K
  refine tree_fin ?_
  clear t4 t5 f2 f5
  have r6 := HA6.out.row
  have f6 := HR6.out
  rw [HE6.out] at r6 f6
  have hok6 := outS_ok { o with gas := g, out := [], addr := m.to } none b 0 0 o.logs.length j
  have hol6 := outS_len { o with gas := g, out := [], addr := m.to } (.slice none 0 0) (.slice b o.logs.length j)
  go_wp2
  rw [← HE6.out]
  refine ret_row ty46 rfl _ rfl rfl HR6.out hok6 ?_
  have hO7 : Only (· = w.heap.size + 1 + 1) w6 (w6.setCells (w.heap.size + 1 + 1) 0 (cat (outS { o with gas := g, out := [], addr := m.to } (.slice none 0 0) (.slice b o.logs.length j)))) := (Only.refl (· = w.heap.size + 1 + 1) _).setCells (fun _ => rfl) _ _
  have hO6 : Only (fun i => i = w.heap.size + 1 ∨ i = w.heap.size + 1 + 1) w2 (w6.setCells (w.heap.size + 1 + 1) 0 (cat (outS { o with gas := g, out := [], addr := m.to } (.slice none 0 0) (.slice b o.logs.length j)))) :=
    ((HO4.out.trans HO6.out (fun i h _ => h)).mono (fun i h => .inl h)).trans hO7 (fun i h _ => .inr h)
  obtain ⟨q0, q1, q2⟩ := HP3.out
  have hg7 : Chg w (w6.setCells (w.heap.size + 1 + 1) 0 (cat (outS { o with gas := g, out := [], addr := m.to } (.slice none 0 0) (.slice b o.logs.length j)))) own own' :=
    ⟨HG3.out.ext, HG3.out.only.trans hO6 (fun i hi he => by rcases hi with rfl | rfl <;> omega)⟩
  refine ⟨own', rfl, HST3.out.only hO6 (fun i hi => by rcases hi with rfl | rfl; exact q1; exact q2), hg7, ?_⟩
  have hoa := HO.out.chg hg7
  exact ⟨roAt_nil _ _, hoa.logs, hoa.lown⟩
end Go.Proofs.YtikiciojfhfagaaGreat
