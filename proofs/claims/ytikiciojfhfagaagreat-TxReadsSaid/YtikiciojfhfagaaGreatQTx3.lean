/-
  Transactions: contract of may.
-/
import Derived.Test.YtikiciojfhfagaaGreatQTx1
import Derived.Test.YtikiciojfhfagaaGreatQEv12
set_option linter.unusedVariables false
set_option linter.unusedSimpArgs false
namespace Go.Proofs.YtikiciojfhfagaaGreat
open Go.RowKit Go.Mun

section
variable {w : World} {b : Nat} {t : TxP} {dv : Value}
theorem tx0_nonce (h : w.row? b 0 77 = some (cat (txS t dv))) : w.cell? ⟨b, 0, none⟩ = some (.int .i64 t.nonce) := tx_nonce h
theorem tx0_price (h : w.row? b 0 77 = some (cat (txS t dv))) : w.cell? ⟨b, 1, none⟩ = some (.int .i64 t.price) := by simpa using tx_price h
theorem tx0_gas (h : w.row? b 0 77 = some (cat (txS t dv))) : w.cell? ⟨b, 2, none⟩ = some (.int .i64 t.gas) := by simpa using tx_gas h
theorem tx0_frm (h : w.row? b 0 77 = some (cat (txS t dv))) : w.row? b 3 20 = some (beC 20 t.frm) := by simpa using tx_frm h
theorem tx0_to (h : w.row? b 0 77 = some (cat (txS t dv))) : w.row? b 23 20 = some (beC 20 t.to) := by simpa using tx_to h
theorem tx0_make (h : w.row? b 0 77 = some (cat (txS t dv))) : w.cell? ⟨b, 43, none⟩ = some (.bool t.make) := by simpa using tx_make h
theorem tx0_value (h : w.row? b 0 77 = some (cat (txS t dv))) : w.row? b 44 32 = some (beC 32 t.value) := by simpa using tx_value h
theorem tx0_data (h : w.row? b 0 77 = some (cat (txS t dv))) : w.cell? ⟨b, 76, none⟩ = some dv := by simpa using tx_data h
end
structure TxT (w : World) (own : Own) (sb q v : Nat) (t : TxP) (dv : Value) (S : St) (M : List (Nat × St)) (k : Nat) (X : Nat → Prop) (w' : World) : Prop where
  below : Below w.heap.size w w'
  row : w'.row? w.heap.size 0 77 = some (cat (txS t dv))
  val : w'.row? q 0 32 = some (beC 32 v)
  st : StateAt TU w' own sb S M k
  data : RoAt w' X dv t.data
theorem TxT.next {w : World} {own : Own} {sb q v : Nat} {t : TxP} {dv : Value} {S : St} {M : List (Nat × St)} {k : Nat} {X : Nat → Prop} {w1 w2 : World} (h : TxT w own sb q v t dv S M k X w1) (hb : Below w1.heap.size w1 w2) : TxT w own sb q v t dv S M k X w2 :=
  ⟨h.below.trans (hb.mono h.below.size), ((brow hb).1 _ _ _ (World.row?_lt h.row)).trans h.row, ((brow hb).1 _ _ _ (World.row?_lt h.val)).trans h.val, h.st.below hb, h.data.below hb⟩
theorem intr_le {w : World} {X : Nat → Prop} {t : TxP} {dv : Value} (h : RoAt w X dv t.data) : intrN t ≤ 17600000000000 := by
  have h1 := dataGas_le t.data
  have h2 := h.len
  unfold intrN; split <;> omega
set_option maxRecDepth 100000 in
set_option maxHeartbeats 8000000 in
theorem tx_may {w : World} {own : Own} {sb : Nat} {S : St} {M : List (Nat × St)} {k : Nat} {X : Nat → Prop} {t : TxP} {dv : Value} (h : StateAt TU w own sb S M k) (ht : TxOk t) (hd : RoAt w X dv t.data) :
    Calls Tryz.prog 48 #[.pointer (some ⟨sb, 0, none⟩), .agg (cat (txS t dv)).toArray] w fun e w' => e = .returned (.int .i64 (mayTx S t)) ∧ Below w.heap.size w w' := by
  have hbal := h.bal t.frm
  have hnc := StateAt.nonce h t.frm
  have htl := txS_len t dv
  obtain ⟨w0, e0⟩ : ∃ w0, w0 = w.alloc (.cells (cat (txS t dv)).toArray 44) := ⟨_, rfl⟩
  have hb0 : Below w.heap.size w w0 := by rw [e0]; exact (Below.refl _ _).alloc (Nat.le_refl _) _
  have hr0 : w0.row? w.heap.size 0 77 = some (cat (txS t dv)) := by rw [e0]; exact World.row?_alloc_at _ _ _ rfl htl
  have q3 := tx0_frm hr0
  have HE0 := Lib.hid e0
  have HB0 := Lib.hid hb0
  have HR0 := Lib.hid hr0
  have H0 := Lib.hid (h.below hb0)
  have HD0 := Lib.hid (hd.below hb0)
  have HT0 := Lib.hid ht
  have HIN := Lib.hid (intr_le hd)
  obtain ⟨frm_lt, _, val_lt, n_lt, p_lt, g_lt⟩ := ht
  rw [e0] at q3
  -- whatever comes of the balance, the rest of the function
  have key : ∀ (R : Nat), mayTx S t = R → R = mayTx S t := fun _ h => h.symm
  clear h hd hb0 hr0 e0 key
  go_enter Tryz.func48, Tryz.ntmps48
  go_wp2_with fail
  rw [← HE0.out]
  refine (st_balance H0.out t.frm frm_lt).mono ?_
  rintro e w1 ⟨rfl, hb1⟩
  have hokv := beC_ok 32 (S t.frm).bal
  obtain ⟨q, hq⟩ : ∃ q, q = w1.heap.size := ⟨_, rfl⟩
  obtain ⟨w2, e2⟩ : ∃ w2, w2 = (w1.alloc (.cells (zU8 32).toArray 25)).setCells w1.heap.size 0 (beC 32 (S t.frm).bal) := ⟨_, rfl⟩
  have hz : Arr w2 w1.heap.size 32 (beC 32 (S t.frm).bal) := by rw [e2]; exact (Arr.new w1 32 (zU8 32) 25 (by simp)).setCells _ (beC_ok _ _)
  have hb2 : Below w1.heap.size w1 w2 := by rw [e2]; exact ((Below.refl _ _).alloc (Nat.le_refl _) _).setCells (Nat.le_refl _) _ _
  have f1 : (w1.alloc (.cells (zU8 32).toArray 25)).free? w1.heap.size 0 32 = true := (Arr.new w1 32 (zU8 32) 25 (by simp)).free
  have hb02 : Below w0.heap.size w0 w2 := hb1.trans (hb2.mono hb1.size)
  have hT2 : TxT w own sb q (S t.frm).bal t dv S M k X w2 := ⟨HB0.out.trans (hb02.mono HB0.out.size), ((brow hb02).1 _ _ _ (World.row?_lt HR0.out)).trans HR0.out, by rw [hq]; exact hz.row, H0.out.below hb02, HD0.out.below hb02⟩
  have c0 := tx0_nonce hT2.row
  have c1 := tx0_price hT2.row
  have c2 := tx0_gas hT2.row
  obtain ⟨T, hT⟩ : ∃ T : World → Prop, T = TxT w own sb q (S t.frm).bal t dv S M k X := ⟨_, rfl⟩
  have HT := Lib.hid hT
  have HE2 := Lib.hid e2
  have HQ := Lib.hid hq
  have t0 : T w2 := by rw [hT]; exact hT2
  have tb : ∀ w1 w2, T w1 → Below w1.heap.size w1 w2 → T w2 := by rw [hT]; intro w1 w2 h hb; exact h.next hb
  have HTB := Lib.hid tb
  have HT2 := Lib.hid t0
  have HBW := Lib.hid hT2.below
  rw [e2] at c0 c1 c2
  generalize hNC : (S t.frm).nonce = nc at *
  have HNC := Lib.hid hNC
  generalize hBV : (S t.frm).bal = bv at *
  have HBV := Lib.hid hBV
  have HM : Hid (mayTx S t = if t.nonce < 0 ∨ t.price < 0 ∨ t.gas < 0 ∨ 2147483647 < t.price ∨ 2147483647 < t.gas then 1 else if t.nonce ≠ (nc : Int) ∨ 4611686018427387904 ≤ t.nonce then 20 else if t.gas < (intrN t : Int) then 11 else if bv < t.value ∨ bv - t.value < (t.price * t.gas).toNat then 16 else 0) := by
    show mayTx S t = _
    unfold mayTx
    rw [HNC.out, HBV.out]
  clear hb1 hb2 hz hb02 hT2 hT e2 tb t0 hNC hBV
  obtain ⟨mm, hme⟩ : ∃ mm, (if t.gas < (if t.price < t.nonce then t.price else t.nonce) then t.gas else (if t.price < t.nonce then t.price else t.nonce)) = mm := ⟨_, rfl⟩
  have hmn : mm < 0 ↔ (t.nonce < 0 ∨ t.price < 0 ∨ t.gas < 0) := by rw [← hme]; split <;> split <;> omega
  have hmin : ∀ ts ty w, (Builtin.min_ ts ty #[.int .i64 t.nonce, .int .i64 t.price, .int .i64 t.gas]).run Tryz.prog w = .ok (.int .i64 mm) w := by
    intro ts ty w
    rw [← hme]
    simp [Builtin.min_, Builtin.min2]
  have HMN := Lib.hid hmn
  clear hmn
  by_cases hm : mm < 0
  · go_wp2
    go_ret
    have hM : mayTx S t = 1 := by
      rw [HM.out, if_pos]
      have := HMN.out.1 hm
      omega
    exact ⟨by rw [hM]; rfl, by first | exact HBX.out | (rw [← HE2.out]; exact HBW.out)⟩
  by_cases hp : 2147483647 < t.price
  · go_wp2
    go_ret
    have hM : mayTx S t = 1 := by
      rw [HM.out, if_pos]
      omega
    exact ⟨by rw [hM]; rfl, by first | exact HBX.out | (rw [← HE2.out]; exact HBW.out)⟩
  by_cases hg : 2147483647 < t.gas
  · go_wp2
    go_ret
    have hM : mayTx S t = 1 := by
      rw [HM.out, if_pos]
      omega
    exact ⟨by rw [hM]; rfl, by first | exact HBX.out | (rw [← HE2.out]; exact HBW.out)⟩
  have hn0 : ¬ (t.nonce < 0 ∨ t.price < 0 ∨ t.gas < 0 ∨ 2147483647 < t.price ∨ 2147483647 < t.gas) := by
    intro hh
    exact hm (HMN.out.2 (by omega))
  have HN0 := Lib.hid hn0
  have HMX : Hid (mayTx S t = if t.nonce ≠ (nc : Int) ∨ 4611686018427387904 ≤ t.nonce then 20 else if t.gas < (intrN t : Int) then 11 else if bv < t.value ∨ bv - t.value < (t.price * t.gas).toNat then 16 else 0) := by
    show mayTx S t = _
    rw [HM.out, if_neg HN0.out]
  have dm : decide (mm < 0) = false := decide_eq_false hm
  have dp : decide (2147483647 < t.price) = false := decide_eq_false hp
  have dg : decide (2147483647 < t.gas) = false := decide_eq_false hg
  have HPG0 : Hid (t.price ≤ 2147483647 ∧ t.gas ≤ 2147483647) := ⟨by omega, by omega⟩
  clear hn0 hm hp hg
  go_wp2_with fail
  rw [← HE2.out, ← HQ.out]
  clear hq
  have t0 : T w2.drew := HTB.out _ _ HT2.out (Below.refl _ _).drew
  clear c0 c1 c2 hmin hme f1 q3
  by_cases hne : t.nonce = (nc : Int)
  rotate_left
  · refine wp_region_tree T [] (.pure 0 (.take 1 (.pure 2 (.pure 3 (.take 4 (.alt 5 (.pure 6 (.pure 7 (.take 8 (.take 9 (.take 10 (.pure 11 (.pure 12 .fin))))))) .stop)))))) (by kernel_rfl) (by kernel_rfl) ?_
    refine tree_pure ?_ rfl (by rfl) (fun w' hs => ?_) (fun _ _ _ h => h) ?_
    rotate_left
    · clear hs
      go_simp
      try rfl
    simp only [Act.put, List.setIfInBounds_toArray, List.set_cons_zero, List.set_cons_succ]
    refine tree_take ?_ t0 rfl (by rfl) (fun w' hs => ?_) (fun _ _ _ h => h) ?_
    rotate_left
    · rw [HT.out] at hs
      have r := hs.row; have q0 := tx0_nonce r; have q1 := tx0_price r; have q2 := tx0_gas r; have q3 := tx0_frm r; have q6 := tx0_value r; have qv := hs.val
      go_simp
      try rfl
    simp only [Act.put, List.setIfInBounds_toArray, List.set_cons_zero, List.set_cons_succ]
    refine tree_pure ?_ rfl (by rfl) (fun w' hs => ?_) (fun _ _ _ h => h) ?_
    rotate_left
    · clear hs
      go_simp
      try rfl
    simp only [Act.put, List.setIfInBounds_toArray, List.set_cons_zero, List.set_cons_succ]
    refine tree_pure ?_ rfl (by rfl) (fun w' hs => ?_) (fun _ _ _ h => h) ?_
    rotate_left
    · clear hs
      go_simp
      try rfl
    simp only [Act.put, List.setIfInBounds_toArray, List.set_cons_zero, List.set_cons_succ]
    refine tree_take ?_ t0 rfl (by rfl) (fun w' hs => ?_) (fun _ _ _ h => h) ?_
    rotate_left
    · rw [HT.out] at hs
      have r := hs.row; have q0 := tx0_nonce r; have q1 := tx0_price r; have q2 := tx0_gas r; have q3 := tx0_frm r; have q6 := tx0_value r; have qv := hs.val
      go_simp
      try rfl
    simp only [Act.put, List.setIfInBounds_toArray, List.set_cons_zero, List.set_cons_succ]
    refine tree_run rfl (fun K hK => ?_)
    go_simp
    have hs5 := st_nonce (by rw [HT.out] at t0; exact t0.st) t.frm frm_lt
    rw [HNC.out] at hs5
    refine hs5.mono ?_
    rintro e w3 ⟨rfl, hb⟩
    have t1 : T w3 := HTB.out _ _ t0 hb
    clear hb hs5
    refine hK.out _ _ t1 ?_
    clear hK K
    refine tree_pure (.bool true) rfl (by rfl) (fun w' hs => ?_) (fun _ _ _ h => h) ?_
    · clear hs
      go_simp
    simp only [Act.put, List.setIfInBounds_toArray, List.set_cons_zero, List.set_cons_succ]
    refine tree_pure ?_ rfl (by rfl) (fun w' hs => ?_) (fun _ _ _ h => h) ?_
    rotate_left
    · clear hs
      go_simp
      try rfl
    simp only [Act.put, List.setIfInBounds_toArray, List.set_cons_zero, List.set_cons_succ]
    refine tree_skip t1 rfl (by rfl) (fun _ _ _ h => h) ?_
    simp only [Act.put, List.setIfInBounds_toArray, List.set_cons_zero, List.set_cons_succ]
    refine tree_skip t1 rfl (by rfl) (fun _ _ _ h => h) ?_
    simp only [Act.put, List.setIfInBounds_toArray, List.set_cons_zero, List.set_cons_succ]
    refine tree_skip t1 rfl (by rfl) (fun _ _ _ h => h) ?_
    simp only [Act.put, List.setIfInBounds_toArray, List.set_cons_zero, List.set_cons_succ]
    refine tree_pure (.bool true) rfl (by rfl) (fun w' hs => ?_) (fun _ _ _ h => h) ?_
    · clear hs
      go_simp
    simp only [Act.put, List.setIfInBounds_toArray, List.set_cons_zero, List.set_cons_succ]
    refine tree_pure ?_ rfl (by rfl) (fun w' hs => ?_) (fun _ _ _ h => h) ?_
    rotate_left
    · clear hs
      go_simp
      try rfl
    simp only [Act.put, List.setIfInBounds_toArray, List.set_cons_zero, List.set_cons_succ]
    refine tree_fin ?_
    have HBX := Lib.hid (show Below w.heap.size w _ by rw [HT.out] at t1; exact t1.below)
    go_wp2
    go_ret
    have hM : mayTx S t = 20 := by
      rw [HMX.out, if_pos (Or.inl hne)]
    exact ⟨by rw [hM]; rfl, by first | exact HBX.out | (rw [← HE2.out]; exact HBW.out)⟩
  by_cases hbig : 4611686018427387904 ≤ t.nonce
  · have hne2 : (t.nonce == (nc : Int)) = true := by simpa using hne
    have hbn : 4611686018427387904 ≤ (nc : Int) := by omega
    refine wp_region_tree T [] (.pure 0 (.take 1 (.pure 2 (.pure 3 (.take 4 (.alt 5 (.pure 6 (.pure 7 (.pure 8 (.take 9 (.pure 10 (.pure 11 (.pure 12 .fin))))))) .stop)))))) (by kernel_rfl) (by kernel_rfl) ?_
    refine tree_pure ?_ rfl (by rfl) (fun w' hs => ?_) (fun _ _ _ h => h) ?_
    rotate_left
    · clear hs
      go_simp
      try rfl
    simp only [Act.put, List.setIfInBounds_toArray, List.set_cons_zero, List.set_cons_succ]
    refine tree_take ?_ t0 rfl (by rfl) (fun w' hs => ?_) (fun _ _ _ h => h) ?_
    rotate_left
    · rw [HT.out] at hs
      have r := hs.row; have q0 := tx0_nonce r; have q1 := tx0_price r; have q2 := tx0_gas r; have q3 := tx0_frm r; have q6 := tx0_value r; have qv := hs.val
      go_simp
      try rfl
    simp only [Act.put, List.setIfInBounds_toArray, List.set_cons_zero, List.set_cons_succ]
    refine tree_pure ?_ rfl (by rfl) (fun w' hs => ?_) (fun _ _ _ h => h) ?_
    rotate_left
    · clear hs
      go_simp
      try rfl
    simp only [Act.put, List.setIfInBounds_toArray, List.set_cons_zero, List.set_cons_succ]
    refine tree_pure ?_ rfl (by rfl) (fun w' hs => ?_) (fun _ _ _ h => h) ?_
    rotate_left
    · clear hs
      go_simp
      try rfl
    simp only [Act.put, List.setIfInBounds_toArray, List.set_cons_zero, List.set_cons_succ]
    refine tree_take ?_ t0 rfl (by rfl) (fun w' hs => ?_) (fun _ _ _ h => h) ?_
    rotate_left
    · rw [HT.out] at hs
      have r := hs.row; have q0 := tx0_nonce r; have q1 := tx0_price r; have q2 := tx0_gas r; have q3 := tx0_frm r; have q6 := tx0_value r; have qv := hs.val
      go_simp
      try rfl
    simp only [Act.put, List.setIfInBounds_toArray, List.set_cons_zero, List.set_cons_succ]
    refine tree_run rfl (fun K hK => ?_)
    go_simp
    have hs5 := st_nonce (by rw [HT.out] at t0; exact t0.st) t.frm frm_lt
    rw [HNC.out] at hs5
    refine hs5.mono ?_
    rintro e w3 ⟨rfl, hb⟩
    have t1 : T w3 := HTB.out _ _ t0 hb
    clear hb hs5
    refine hK.out _ _ t1 ?_
    clear hK K
    refine tree_pure (.bool false) rfl (by rfl) (fun w' hs => ?_) (fun _ _ _ h => h) ?_
    · clear hs
      go_simp
    simp only [Act.put, List.setIfInBounds_toArray, List.set_cons_zero, List.set_cons_succ]
    refine tree_pure ?_ rfl (by rfl) (fun w' hs => ?_) (fun _ _ _ h => h) ?_
    rotate_left
    · clear hs
      go_simp
      try rfl
    simp only [Act.put, List.setIfInBounds_toArray, List.set_cons_zero, List.set_cons_succ]
    refine tree_pure ?_ rfl (by rfl) (fun w' hs => ?_) (fun _ _ _ h => h) ?_
    rotate_left
    · clear hs
      go_simp
      try rfl
    simp only [Act.put, List.setIfInBounds_toArray, List.set_cons_zero, List.set_cons_succ]
    refine tree_take ?_ t1 rfl (by rfl) (fun w' hs => ?_) (fun _ _ _ h => h) ?_
    rotate_left
    · rw [HT.out] at hs
      have r := hs.row; have q0 := tx0_nonce r; have q1 := tx0_price r; have q2 := tx0_gas r; have q3 := tx0_frm r; have q6 := tx0_value r; have qv := hs.val
      go_simp
      try rfl
    simp only [Act.put, List.setIfInBounds_toArray, List.set_cons_zero, List.set_cons_succ]
    refine tree_pure (.bool true) rfl (by rfl) (fun w' hs => ?_) (fun _ _ _ h => h) ?_
    · clear hs
      go_simp
    simp only [Act.put, List.setIfInBounds_toArray, List.set_cons_zero, List.set_cons_succ]
    refine tree_pure (.bool true) rfl (by rfl) (fun w' hs => ?_) (fun _ _ _ h => h) ?_
    · clear hs
      go_simp
    simp only [Act.put, List.setIfInBounds_toArray, List.set_cons_zero, List.set_cons_succ]
    refine tree_pure ?_ rfl (by rfl) (fun w' hs => ?_) (fun _ _ _ h => h) ?_
    rotate_left
    · clear hs
      go_simp
      try rfl
    simp only [Act.put, List.setIfInBounds_toArray, List.set_cons_zero, List.set_cons_succ]
    refine tree_fin ?_
    have HBX := Lib.hid (show Below w.heap.size w _ by rw [HT.out] at t1; exact t1.below)
    go_wp2
    go_ret
    have hM : mayTx S t = 20 := by
      rw [HMX.out, if_pos (Or.inr hbig)]
    exact ⟨by rw [hM]; rfl, by first | exact HBX.out | (rw [← HE2.out]; exact HBW.out)⟩
  have hne2 : (t.nonce == (nc : Int)) = true := by simpa using hne
  have hbn : (nc : Int) < 4611686018427387904 := by omega
  refine wp_region_tree T [] (.pure 0 (.take 1 (.pure 2 (.pure 3 (.take 4 (.alt 5 (.pure 6 (.pure 7 (.pure 8 (.take 9 (.pure 10 (.pure 11 (.pure 12 .fin))))))) .stop)))))) (by kernel_rfl) (by kernel_rfl) ?_
  refine tree_pure ?_ rfl (by rfl) (fun w' hs => ?_) (fun _ _ _ h => h) ?_
  rotate_left
  · clear hs
    go_simp
    try rfl
  simp only [Act.put, List.setIfInBounds_toArray, List.set_cons_zero, List.set_cons_succ]
  refine tree_take ?_ t0 rfl (by rfl) (fun w' hs => ?_) (fun _ _ _ h => h) ?_
  rotate_left
  · rw [HT.out] at hs
    have r := hs.row; have q0 := tx0_nonce r; have q1 := tx0_price r; have q2 := tx0_gas r; have q3 := tx0_frm r; have q6 := tx0_value r; have qv := hs.val
    go_simp
    try rfl
  simp only [Act.put, List.setIfInBounds_toArray, List.set_cons_zero, List.set_cons_succ]
  refine tree_pure ?_ rfl (by rfl) (fun w' hs => ?_) (fun _ _ _ h => h) ?_
  rotate_left
  · clear hs
    go_simp
    try rfl
  simp only [Act.put, List.setIfInBounds_toArray, List.set_cons_zero, List.set_cons_succ]
  refine tree_pure ?_ rfl (by rfl) (fun w' hs => ?_) (fun _ _ _ h => h) ?_
  rotate_left
  · clear hs
    go_simp
    try rfl
  simp only [Act.put, List.setIfInBounds_toArray, List.set_cons_zero, List.set_cons_succ]
  refine tree_take ?_ t0 rfl (by rfl) (fun w' hs => ?_) (fun _ _ _ h => h) ?_
  rotate_left
  · rw [HT.out] at hs
    have r := hs.row; have q0 := tx0_nonce r; have q1 := tx0_price r; have q2 := tx0_gas r; have q3 := tx0_frm r; have q6 := tx0_value r; have qv := hs.val
    go_simp
    try rfl
  simp only [Act.put, List.setIfInBounds_toArray, List.set_cons_zero, List.set_cons_succ]
  refine tree_run rfl (fun K hK => ?_)
  go_simp
  have hs5 := st_nonce (by rw [HT.out] at t0; exact t0.st) t.frm frm_lt
  rw [HNC.out] at hs5
  refine hs5.mono ?_
  rintro e w3 ⟨rfl, hb⟩
  have t1 : T w3 := HTB.out _ _ t0 hb
  clear hb hs5
  refine hK.out _ _ t1 ?_
  clear hK K
  refine tree_pure (.bool false) rfl (by rfl) (fun w' hs => ?_) (fun _ _ _ h => h) ?_
  · clear hs
    go_simp
  simp only [Act.put, List.setIfInBounds_toArray, List.set_cons_zero, List.set_cons_succ]
  refine tree_pure ?_ rfl (by rfl) (fun w' hs => ?_) (fun _ _ _ h => h) ?_
  rotate_left
  · clear hs
    go_simp
    try rfl
  simp only [Act.put, List.setIfInBounds_toArray, List.set_cons_zero, List.set_cons_succ]
  refine tree_pure ?_ rfl (by rfl) (fun w' hs => ?_) (fun _ _ _ h => h) ?_
  rotate_left
  · clear hs
    go_simp
    try rfl
  simp only [Act.put, List.setIfInBounds_toArray, List.set_cons_zero, List.set_cons_succ]
  refine tree_take ?_ t1 rfl (by rfl) (fun w' hs => ?_) (fun _ _ _ h => h) ?_
  rotate_left
  · rw [HT.out] at hs
    have r := hs.row; have q0 := tx0_nonce r; have q1 := tx0_price r; have q2 := tx0_gas r; have q3 := tx0_frm r; have q6 := tx0_value r; have qv := hs.val
    go_simp
    try rfl
  simp only [Act.put, List.setIfInBounds_toArray, List.set_cons_zero, List.set_cons_succ]
  refine tree_pure (.bool false) rfl (by rfl) (fun w' hs => ?_) (fun _ _ _ h => h) ?_
  · clear hs
    go_simp
  simp only [Act.put, List.setIfInBounds_toArray, List.set_cons_zero, List.set_cons_succ]
  refine tree_pure (.bool false) rfl (by rfl) (fun w' hs => ?_) (fun _ _ _ h => h) ?_
  · clear hs
    go_simp
  simp only [Act.put, List.setIfInBounds_toArray, List.set_cons_zero, List.set_cons_succ]
  refine tree_pure ?_ rfl (by rfl) (fun w' hs => ?_) (fun _ _ _ h => h) ?_
  rotate_left
  · clear hs
    go_simp
    try rfl
  simp only [Act.put, List.setIfInBounds_toArray, List.set_cons_zero, List.set_cons_succ]
  refine tree_fin ?_
  have t2 : T w3.drew := HTB.out _ _ t1 (Below.refl _ _).drew
  have HMY : Hid (mayTx S t = if t.gas < (intrN t : Int) then 11 else if bv < t.value ∨ bv - t.value < (t.price * t.gas).toNat then 16 else 0) := by
    show mayTx S t = _
    rw [HMX.out, if_neg (by rw [hne]; omega)]
  have HNE := Lib.hid hne
  have HBIG := Lib.hid hbig
  clear t0 t1 hne hne2 hbig hbn
  generalize hI : intrN t = I at *
  have HI := Lib.hid hI
  clear hI
  go_wp2_with fail
  by_cases hgi : t.gas < (I : Int)
  · refine wp_region_tree T [] (.take 0 (.pure 2 (.take 3 (.alt 1 (.pure 4 (.pure 5 .fin)) .stop)))) (by kernel_rfl) (by kernel_rfl) ?_
    refine tree_take ?_ t2 rfl (by rfl) (fun w' hs => ?_) (fun _ _ _ h => h) ?_
    rotate_left
    · rw [HT.out] at hs
      have r := hs.row; have q0 := tx0_nonce r; have q1 := tx0_price r; have q2 := tx0_gas r; have q3 := tx0_frm r; have q6 := tx0_value r; have qv := hs.val
      go_simp
      try rfl
    simp only [Act.put, List.setIfInBounds_toArray, List.set_cons_zero, List.set_cons_succ]
    refine tree_pure ?_ rfl (by rfl) (fun w' hs => ?_) (fun _ _ _ h => h) ?_
    rotate_left
    · clear hs
      go_simp
      try rfl
    simp only [Act.put, List.setIfInBounds_toArray, List.set_cons_zero, List.set_cons_succ]
    refine tree_take ?_ t2 rfl (by rfl) (fun w' hs => ?_) (fun _ _ _ h => h) ?_
    rotate_left
    · rw [HT.out] at hs
      have r := hs.row; have q0 := tx0_nonce r; have q1 := tx0_price r; have q2 := tx0_gas r; have q3 := tx0_frm r; have q6 := tx0_value r; have qv := hs.val
      go_simp
      try rfl
    simp only [Act.put, List.setIfInBounds_toArray, List.set_cons_zero, List.set_cons_succ]
    refine tree_run rfl (fun K hK => ?_)
    go_simp
    have hs5 := gas_intrinsic t dv (by rw [HT.out] at t2; exact t2.data)
    rw [HI.out] at hs5
    refine hs5.mono ?_
    rintro e w4 ⟨rfl, hb⟩
    have t3 : T w4 := HTB.out _ _ t2 hb
    clear hb hs5
    refine hK.out _ _ t3 ?_
    clear hK K
    refine tree_pure (.bool true) rfl (by rfl) (fun w' hs => ?_) (fun _ _ _ h => h) ?_
    · clear hs
      go_simp
    simp only [Act.put, List.setIfInBounds_toArray, List.set_cons_zero, List.set_cons_succ]
    refine tree_pure ?_ rfl (by rfl) (fun w' hs => ?_) (fun _ _ _ h => h) ?_
    rotate_left
    · clear hs
      go_simp
      try rfl
    simp only [Act.put, List.setIfInBounds_toArray, List.set_cons_zero, List.set_cons_succ]
    refine tree_fin ?_
    have HBX := Lib.hid (show Below w.heap.size w _ by rw [HT.out] at t3; exact t3.below)
    go_wp2
    go_ret
    have hM : mayTx S t = 11 := by
      rw [HMY.out, if_pos hgi]
    exact ⟨by rw [hM]; rfl, by first | exact HBX.out | (rw [← HE2.out]; exact HBW.out)⟩
  refine wp_region_tree T [] (.take 0 (.pure 2 (.take 3 (.alt 1 (.pure 4 (.pure 5 .fin)) .stop)))) (by kernel_rfl) (by kernel_rfl) ?_
  refine tree_take ?_ t2 rfl (by rfl) (fun w' hs => ?_) (fun _ _ _ h => h) ?_
  rotate_left
  · rw [HT.out] at hs
    have r := hs.row; have q0 := tx0_nonce r; have q1 := tx0_price r; have q2 := tx0_gas r; have q3 := tx0_frm r; have q6 := tx0_value r; have qv := hs.val
    go_simp
    try rfl
  simp only [Act.put, List.setIfInBounds_toArray, List.set_cons_zero, List.set_cons_succ]
  refine tree_pure ?_ rfl (by rfl) (fun w' hs => ?_) (fun _ _ _ h => h) ?_
  rotate_left
  · clear hs
    go_simp
    try rfl
  simp only [Act.put, List.setIfInBounds_toArray, List.set_cons_zero, List.set_cons_succ]
  refine tree_take ?_ t2 rfl (by rfl) (fun w' hs => ?_) (fun _ _ _ h => h) ?_
  rotate_left
  · rw [HT.out] at hs
    have r := hs.row; have q0 := tx0_nonce r; have q1 := tx0_price r; have q2 := tx0_gas r; have q3 := tx0_frm r; have q6 := tx0_value r; have qv := hs.val
    go_simp
    try rfl
  simp only [Act.put, List.setIfInBounds_toArray, List.set_cons_zero, List.set_cons_succ]
  refine tree_run rfl (fun K hK => ?_)
  go_simp
  have hs5 := gas_intrinsic t dv (by rw [HT.out] at t2; exact t2.data)
  rw [HI.out] at hs5
  refine hs5.mono ?_
  rintro e w4 ⟨rfl, hb⟩
  have t3 : T w4 := HTB.out _ _ t2 hb
  clear hb hs5
  refine hK.out _ _ t3 ?_
  clear hK K
  refine tree_pure (.bool false) rfl (by rfl) (fun w' hs => ?_) (fun _ _ _ h => h) ?_
  · clear hs
    go_simp
  simp only [Act.put, List.setIfInBounds_toArray, List.set_cons_zero, List.set_cons_succ]
  refine tree_pure ?_ rfl (by rfl) (fun w' hs => ?_) (fun _ _ _ h => h) ?_
  rotate_left
  · clear hs
    go_simp
    try rfl
  simp only [Act.put, List.setIfInBounds_toArray, List.set_cons_zero, List.set_cons_succ]
  refine tree_fin ?_
  have t4 : T w4.drew := HTB.out _ _ t3 (Below.refl _ _).drew
  obtain ⟨pg, hpg⟩ : ∃ pg : Nat, t.price * t.gas = pg := ⟨(t.price * t.gas).toNat, by have := Int.mul_nonneg (show 0 ≤ t.price by have := HN0.out; omega) (show 0 ≤ t.gas by have := HN0.out; omega); omega⟩
  have hpgl : pg ≤ 4611686018427387904 := by
    have h1 : t.price * t.gas ≤ 2147483647 * 2147483647 := Int.mul_le_mul HPG0.out.1 HPG0.out.2 (by have := HN0.out; omega) (by decide)
    omega
  have HMZ : Hid (mayTx S t = if bv < t.value ∨ bv - t.value < pg then 16 else 0) := by
    show mayTx S t = _
    rw [HMY.out, if_neg hgi, hpg, Int.toNat_natCast]
  have hmul : IntKind.i64.wrap (t.price * t.gas) = (pg : Int) := by rw [hpg, wrI _ (by omega) (by omega)]
  have hofw := ofW_nat pg (i64_wW (by omega))
  have hpw : pg < wW := i64_wW (by omega)
  have HOF := Lib.hid hofw
  have HPG := Lib.hid hpg
  have HGI := Lib.hid hgi
  clear t2 t3 hofw hpg hgi
  go_wp2_with fail
  by_cases hbv : bv < t.value
  · refine wp_region_tree T [] (.take 0 (.pure 1 (.take 2 (.alt 3 (.pure 4 (.pure 5 (.take 6 (.take 7 (.take 8 (.take 9 (.take 10 (.take 11 (.take 12 (.take 13 (.take 14 (.take 15 (.take 16 (.take 17 (.pure 18 (.pure 19 .fin)))))))))))))))) .stop)))) (by kernel_rfl) (by kernel_rfl) ?_
    refine tree_take ?_ t4 rfl (by rfl) (fun w' hs => ?_) (fun _ _ _ h => h) ?_
    rotate_left
    · rw [HT.out] at hs
      have r := hs.row; have q0 := tx0_nonce r; have q1 := tx0_price r; have q2 := tx0_gas r; have q3 := tx0_frm r; have q6 := tx0_value r; have qv := hs.val
      go_simp
      try rfl
    simp only [Act.put, List.setIfInBounds_toArray, List.set_cons_zero, List.set_cons_succ]
    refine tree_pure ?_ rfl (by rfl) (fun w' hs => ?_) (fun _ _ _ h => h) ?_
    rotate_left
    · clear hs
      go_simp
      try rfl
    simp only [Act.put, List.setIfInBounds_toArray, List.set_cons_zero, List.set_cons_succ]
    refine tree_take ?_ t4 rfl (by rfl) (fun w' hs => ?_) (fun _ _ _ h => h) ?_
    rotate_left
    · rw [HT.out] at hs
      have r := hs.row; have q0 := tx0_nonce r; have q1 := tx0_price r; have q2 := tx0_gas r; have q3 := tx0_frm r; have q6 := tx0_value r; have qv := hs.val
      go_simp
      try rfl
    simp only [Act.put, List.setIfInBounds_toArray, List.set_cons_zero, List.set_cons_succ]
    refine tree_run rfl (fun K hK => ?_)
    go_simp
    refine (word_cmp bv t.value hbal val_lt _).mono ?_
    rintro e w5 ⟨rfl, hb⟩
    have t5 : T w5 := HTB.out _ _ t4 hb
    clear hb
    rw [cmpN_lt hbv]
    refine hK.out _ _ t5 ?_
    clear hK K
    refine tree_pure (.bool true) rfl (by rfl) (fun w' hs => ?_) (fun _ _ _ h => h) ?_
    · clear hs
      go_simp
    simp only [Act.put, List.setIfInBounds_toArray, List.set_cons_zero, List.set_cons_succ]
    refine tree_pure ?_ rfl (by rfl) (fun w' hs => ?_) (fun _ _ _ h => h) ?_
    rotate_left
    · clear hs
      go_simp
      try rfl
    simp only [Act.put, List.setIfInBounds_toArray, List.set_cons_zero, List.set_cons_succ]
    refine tree_skip t5 rfl (by rfl) (fun _ _ _ h => h) ?_
    simp only [Act.put, List.setIfInBounds_toArray, List.set_cons_zero, List.set_cons_succ]
    refine tree_skip t5 rfl (by rfl) (fun _ _ _ h => h) ?_
    simp only [Act.put, List.setIfInBounds_toArray, List.set_cons_zero, List.set_cons_succ]
    refine tree_skip t5 rfl (by rfl) (fun _ _ _ h => h) ?_
    simp only [Act.put, List.setIfInBounds_toArray, List.set_cons_zero, List.set_cons_succ]
    refine tree_skip t5 rfl (by rfl) (fun _ _ _ h => h) ?_
    simp only [Act.put, List.setIfInBounds_toArray, List.set_cons_zero, List.set_cons_succ]
    refine tree_skip t5 rfl (by rfl) (fun _ _ _ h => h) ?_
    simp only [Act.put, List.setIfInBounds_toArray, List.set_cons_zero, List.set_cons_succ]
    refine tree_skip t5 rfl (by rfl) (fun _ _ _ h => h) ?_
    simp only [Act.put, List.setIfInBounds_toArray, List.set_cons_zero, List.set_cons_succ]
    refine tree_skip t5 rfl (by rfl) (fun _ _ _ h => h) ?_
    simp only [Act.put, List.setIfInBounds_toArray, List.set_cons_zero, List.set_cons_succ]
    refine tree_skip t5 rfl (by rfl) (fun _ _ _ h => h) ?_
    simp only [Act.put, List.setIfInBounds_toArray, List.set_cons_zero, List.set_cons_succ]
    refine tree_skip t5 rfl (by rfl) (fun _ _ _ h => h) ?_
    simp only [Act.put, List.setIfInBounds_toArray, List.set_cons_zero, List.set_cons_succ]
    refine tree_skip t5 rfl (by rfl) (fun _ _ _ h => h) ?_
    simp only [Act.put, List.setIfInBounds_toArray, List.set_cons_zero, List.set_cons_succ]
    refine tree_skip t5 rfl (by rfl) (fun _ _ _ h => h) ?_
    simp only [Act.put, List.setIfInBounds_toArray, List.set_cons_zero, List.set_cons_succ]
    refine tree_skip t5 rfl (by rfl) (fun _ _ _ h => h) ?_
    simp only [Act.put, List.setIfInBounds_toArray, List.set_cons_zero, List.set_cons_succ]
    refine tree_pure (.bool true) rfl (by rfl) (fun w' hs => ?_) (fun _ _ _ h => h) ?_
    · clear hs
      go_simp
    simp only [Act.put, List.setIfInBounds_toArray, List.set_cons_zero, List.set_cons_succ]
    refine tree_pure ?_ rfl (by rfl) (fun w' hs => ?_) (fun _ _ _ h => h) ?_
    rotate_left
    · clear hs
      go_simp
      try rfl
    simp only [Act.put, List.setIfInBounds_toArray, List.set_cons_zero, List.set_cons_succ]
    refine tree_fin ?_
    have HBX := Lib.hid (show Below w.heap.size w _ by rw [HT.out] at t5; exact t5.below)
    go_wp2
    go_ret
    have hM : mayTx S t = 16 := by
      rw [HMZ.out, if_pos (Or.inl hbv)]
    exact ⟨by rw [hM]; rfl, by first | exact HBX.out | (rw [← HE2.out]; exact HBW.out)⟩
  by_cases hb2 : bv - t.value < pg
  · refine wp_region_tree T [] (.take 0 (.pure 1 (.take 2 (.alt 3 (.pure 4 (.pure 5 (.take 6 (.pure 7 (.take 8 (.pure 10 (.take 11 (.pure 12 (.take 13 (.pure 14 (.alt 9 (.alt 15 (.alt 16 (.pure 17 (.pure 18 (.pure 19 .fin))) .stop) .stop) .stop))))))))))) .stop)))) (by kernel_rfl) (by kernel_rfl) ?_
    refine tree_take ?_ t4 rfl (by rfl) (fun w' hs => ?_) (fun _ _ _ h => h) ?_
    rotate_left
    · rw [HT.out] at hs
      have r := hs.row; have q0 := tx0_nonce r; have q1 := tx0_price r; have q2 := tx0_gas r; have q3 := tx0_frm r; have q6 := tx0_value r; have qv := hs.val
      go_simp
      try rfl
    simp only [Act.put, List.setIfInBounds_toArray, List.set_cons_zero, List.set_cons_succ]
    refine tree_pure ?_ rfl (by rfl) (fun w' hs => ?_) (fun _ _ _ h => h) ?_
    rotate_left
    · clear hs
      go_simp
      try rfl
    simp only [Act.put, List.setIfInBounds_toArray, List.set_cons_zero, List.set_cons_succ]
    refine tree_take ?_ t4 rfl (by rfl) (fun w' hs => ?_) (fun _ _ _ h => h) ?_
    rotate_left
    · rw [HT.out] at hs
      have r := hs.row; have q0 := tx0_nonce r; have q1 := tx0_price r; have q2 := tx0_gas r; have q3 := tx0_frm r; have q6 := tx0_value r; have qv := hs.val
      go_simp
      try rfl
    simp only [Act.put, List.setIfInBounds_toArray, List.set_cons_zero, List.set_cons_succ]
    refine tree_run rfl (fun K hK => ?_)
    go_simp
    refine (word_cmp bv t.value hbal val_lt _).mono ?_
    rintro e w5 ⟨rfl, hb⟩
    have t5 : T w5 := HTB.out _ _ t4 hb
    clear hb
    have hc3 := cmpN_ge hbv
    generalize cmpN bv t.value = c3 at *
    refine hK.out _ _ t5 ?_
    clear hK K
    refine tree_pure (.bool false) rfl (by rfl) (fun w' hs => ?_) (fun _ _ _ h => h) ?_
    · clear hs
      go_simp
    simp only [Act.put, List.setIfInBounds_toArray, List.set_cons_zero, List.set_cons_succ]
    refine tree_pure ?_ rfl (by rfl) (fun w' hs => ?_) (fun _ _ _ h => h) ?_
    rotate_left
    · clear hs
      go_simp
      try rfl
    simp only [Act.put, List.setIfInBounds_toArray, List.set_cons_zero, List.set_cons_succ]
    refine tree_take ?_ t5 rfl (by rfl) (fun w' hs => ?_) (fun _ _ _ h => h) ?_
    rotate_left
    · rw [HT.out] at hs
      have r := hs.row; have q0 := tx0_nonce r; have q1 := tx0_price r; have q2 := tx0_gas r; have q3 := tx0_frm r; have q6 := tx0_value r; have qv := hs.val
      go_simp
      try rfl
    simp only [Act.put, List.setIfInBounds_toArray, List.set_cons_zero, List.set_cons_succ]
    refine tree_pure ?_ rfl (by rfl) (fun w' hs => ?_) (fun _ _ _ h => h) ?_
    rotate_left
    · clear hs
      go_simp
      try rfl
    simp only [Act.put, List.setIfInBounds_toArray, List.set_cons_zero, List.set_cons_succ]
    refine tree_take ?_ t5 rfl (by rfl) (fun w' hs => ?_) (fun _ _ _ h => h) ?_
    rotate_left
    · rw [HT.out] at hs
      have r := hs.row; have q0 := tx0_nonce r; have q1 := tx0_price r; have q2 := tx0_gas r; have q3 := tx0_frm r; have q6 := tx0_value r; have qv := hs.val
      go_simp
      try rfl
    simp only [Act.put, List.setIfInBounds_toArray, List.set_cons_zero, List.set_cons_succ]
    refine tree_pure ?_ rfl (by rfl) (fun w' hs => ?_) (fun _ _ _ h => h) ?_
    rotate_left
    · clear hs
      go_simp
      try rfl
    simp only [Act.put, List.setIfInBounds_toArray, List.set_cons_zero, List.set_cons_succ]
    refine tree_take ?_ t5 rfl (by rfl) (fun w' hs => ?_) (fun _ _ _ h => h) ?_
    rotate_left
    · rw [HT.out] at hs
      have r := hs.row; have q0 := tx0_nonce r; have q1 := tx0_price r; have q2 := tx0_gas r; have q3 := tx0_frm r; have q6 := tx0_value r; have qv := hs.val
      go_simp
      try rfl
    simp only [Act.put, List.setIfInBounds_toArray, List.set_cons_zero, List.set_cons_succ]
    refine tree_pure ?_ rfl (by rfl) (fun w' hs => ?_) (fun _ _ _ h => h) ?_
    rotate_left
    · clear hs
      go_simp
      try rfl
    simp only [Act.put, List.setIfInBounds_toArray, List.set_cons_zero, List.set_cons_succ]
    refine tree_take ?_ t5 rfl (by rfl) (fun w' hs => ?_) (fun _ _ _ h => h) ?_
    rotate_left
    · rw [HT.out] at hs
      have r := hs.row; have q0 := tx0_nonce r; have q1 := tx0_price r; have q2 := tx0_gas r; have q3 := tx0_frm r; have q6 := tx0_value r; have qv := hs.val
      go_simp
      try rfl
    simp only [Act.put, List.setIfInBounds_toArray, List.set_cons_zero, List.set_cons_succ]
    refine tree_pure (.int .i64 (pg : Int)) rfl (by rfl) (fun w' hs => ?_) (fun _ _ _ h => h) ?_
    · clear hs
      go_simp
    simp only [Act.put, List.setIfInBounds_toArray, List.set_cons_zero, List.set_cons_succ]
    refine tree_run rfl (fun K hK => ?_)
    go_simp
    have hs5 := word_sub bv t.value hbal val_lt w5
    rw [show (bv + wW - t.value) % wW = bv - t.value by rw [show bv + wW - t.value = bv - t.value + wW by omega, Nat.add_mod_right, Nat.mod_eq_of_lt (by omega)]] at hs5
    refine hs5.mono ?_
    rintro e w6 ⟨rfl, hb⟩
    have t6 : T w6 := HTB.out _ _ t5 hb
    clear hb hs5
    refine hK.out _ _ t6 ?_
    clear hK K
    refine tree_run rfl (fun K hK => ?_)
    go_simp
    have hs5 := word_of (pg : Int) (by omega) (by omega) w6
    rw [HOF.out] at hs5
    refine hs5.mono ?_
    rintro e w7 ⟨rfl, hb⟩
    have t7 : T w7 := HTB.out _ _ t6 hb
    clear hb hs5
    refine hK.out _ _ t7 ?_
    clear hK K
    refine tree_run rfl (fun K hK => ?_)
    go_simp
    refine (word_cmp (bv - t.value) pg (by omega) hpw _).mono ?_
    rintro e w8 ⟨rfl, hb⟩
    have t8 : T w8 := HTB.out _ _ t7 hb
    clear hb
    rw [cmpN_lt hb2]
    refine hK.out _ _ t8 ?_
    clear hK K
    refine tree_pure (.bool true) rfl (by rfl) (fun w' hs => ?_) (fun _ _ _ h => h) ?_
    · clear hs
      go_simp
    simp only [Act.put, List.setIfInBounds_toArray, List.set_cons_zero, List.set_cons_succ]
    refine tree_pure (.bool true) rfl (by rfl) (fun w' hs => ?_) (fun _ _ _ h => h) ?_
    · clear hs
      go_simp
    simp only [Act.put, List.setIfInBounds_toArray, List.set_cons_zero, List.set_cons_succ]
    refine tree_pure ?_ rfl (by rfl) (fun w' hs => ?_) (fun _ _ _ h => h) ?_
    rotate_left
    · clear hs
      go_simp
      try rfl
    simp only [Act.put, List.setIfInBounds_toArray, List.set_cons_zero, List.set_cons_succ]
    refine tree_fin ?_
    have HBX := Lib.hid (show Below w.heap.size w _ by rw [HT.out] at t8; exact t8.below)
    go_wp2
    go_ret
    have hM : mayTx S t = 16 := by
      rw [HMZ.out, if_pos (Or.inr hb2)]
    exact ⟨by rw [hM]; rfl, by first | exact HBX.out | (rw [← HE2.out]; exact HBW.out)⟩
  refine wp_region_tree T [] (.take 0 (.pure 1 (.take 2 (.alt 3 (.pure 4 (.pure 5 (.take 6 (.pure 7 (.take 8 (.pure 10 (.take 11 (.pure 12 (.take 13 (.pure 14 (.alt 9 (.alt 15 (.alt 16 (.pure 17 (.pure 18 (.pure 19 .fin))) .stop) .stop) .stop))))))))))) .stop)))) (by kernel_rfl) (by kernel_rfl) ?_
  refine tree_take ?_ t4 rfl (by rfl) (fun w' hs => ?_) (fun _ _ _ h => h) ?_
  rotate_left
  · rw [HT.out] at hs
    have r := hs.row; have q0 := tx0_nonce r; have q1 := tx0_price r; have q2 := tx0_gas r; have q3 := tx0_frm r; have q6 := tx0_value r; have qv := hs.val
    go_simp
    try rfl
  simp only [Act.put, List.setIfInBounds_toArray, List.set_cons_zero, List.set_cons_succ]
  refine tree_pure ?_ rfl (by rfl) (fun w' hs => ?_) (fun _ _ _ h => h) ?_
  rotate_left
  · clear hs
    go_simp
    try rfl
  simp only [Act.put, List.setIfInBounds_toArray, List.set_cons_zero, List.set_cons_succ]
  refine tree_take ?_ t4 rfl (by rfl) (fun w' hs => ?_) (fun _ _ _ h => h) ?_
  rotate_left
  · rw [HT.out] at hs
    have r := hs.row; have q0 := tx0_nonce r; have q1 := tx0_price r; have q2 := tx0_gas r; have q3 := tx0_frm r; have q6 := tx0_value r; have qv := hs.val
    go_simp
    try rfl
  simp only [Act.put, List.setIfInBounds_toArray, List.set_cons_zero, List.set_cons_succ]
  refine tree_run rfl (fun K hK => ?_)
  go_simp
  refine (word_cmp bv t.value hbal val_lt _).mono ?_
  rintro e w5 ⟨rfl, hb⟩
  have t5 : T w5 := HTB.out _ _ t4 hb
  clear hb
  have hc3 := cmpN_ge hbv
  generalize cmpN bv t.value = c3 at *
  refine hK.out _ _ t5 ?_
  clear hK K
  refine tree_pure (.bool false) rfl (by rfl) (fun w' hs => ?_) (fun _ _ _ h => h) ?_
  · clear hs
    go_simp
  simp only [Act.put, List.setIfInBounds_toArray, List.set_cons_zero, List.set_cons_succ]
  refine tree_pure ?_ rfl (by rfl) (fun w' hs => ?_) (fun _ _ _ h => h) ?_
  rotate_left
  · clear hs
    go_simp
    try rfl
  simp only [Act.put, List.setIfInBounds_toArray, List.set_cons_zero, List.set_cons_succ]
  refine tree_take ?_ t5 rfl (by rfl) (fun w' hs => ?_) (fun _ _ _ h => h) ?_
  rotate_left
  · rw [HT.out] at hs
    have r := hs.row; have q0 := tx0_nonce r; have q1 := tx0_price r; have q2 := tx0_gas r; have q3 := tx0_frm r; have q6 := tx0_value r; have qv := hs.val
    go_simp
    try rfl
  simp only [Act.put, List.setIfInBounds_toArray, List.set_cons_zero, List.set_cons_succ]
  refine tree_pure ?_ rfl (by rfl) (fun w' hs => ?_) (fun _ _ _ h => h) ?_
  rotate_left
  · clear hs
    go_simp
    try rfl
  simp only [Act.put, List.setIfInBounds_toArray, List.set_cons_zero, List.set_cons_succ]
  refine tree_take ?_ t5 rfl (by rfl) (fun w' hs => ?_) (fun _ _ _ h => h) ?_
  rotate_left
  · rw [HT.out] at hs
    have r := hs.row; have q0 := tx0_nonce r; have q1 := tx0_price r; have q2 := tx0_gas r; have q3 := tx0_frm r; have q6 := tx0_value r; have qv := hs.val
    go_simp
    try rfl
  simp only [Act.put, List.setIfInBounds_toArray, List.set_cons_zero, List.set_cons_succ]
  refine tree_pure ?_ rfl (by rfl) (fun w' hs => ?_) (fun _ _ _ h => h) ?_
  rotate_left
  · clear hs
    go_simp
    try rfl
  simp only [Act.put, List.setIfInBounds_toArray, List.set_cons_zero, List.set_cons_succ]
  refine tree_take ?_ t5 rfl (by rfl) (fun w' hs => ?_) (fun _ _ _ h => h) ?_
  rotate_left
  · rw [HT.out] at hs
    have r := hs.row; have q0 := tx0_nonce r; have q1 := tx0_price r; have q2 := tx0_gas r; have q3 := tx0_frm r; have q6 := tx0_value r; have qv := hs.val
    go_simp
    try rfl
  simp only [Act.put, List.setIfInBounds_toArray, List.set_cons_zero, List.set_cons_succ]
  refine tree_pure ?_ rfl (by rfl) (fun w' hs => ?_) (fun _ _ _ h => h) ?_
  rotate_left
  · clear hs
    go_simp
    try rfl
  simp only [Act.put, List.setIfInBounds_toArray, List.set_cons_zero, List.set_cons_succ]
  refine tree_take ?_ t5 rfl (by rfl) (fun w' hs => ?_) (fun _ _ _ h => h) ?_
  rotate_left
  · rw [HT.out] at hs
    have r := hs.row; have q0 := tx0_nonce r; have q1 := tx0_price r; have q2 := tx0_gas r; have q3 := tx0_frm r; have q6 := tx0_value r; have qv := hs.val
    go_simp
    try rfl
  simp only [Act.put, List.setIfInBounds_toArray, List.set_cons_zero, List.set_cons_succ]
  refine tree_pure (.int .i64 (pg : Int)) rfl (by rfl) (fun w' hs => ?_) (fun _ _ _ h => h) ?_
  · clear hs
    go_simp
  simp only [Act.put, List.setIfInBounds_toArray, List.set_cons_zero, List.set_cons_succ]
  refine tree_run rfl (fun K hK => ?_)
  go_simp
  have hs5 := word_sub bv t.value hbal val_lt w5
  rw [show (bv + wW - t.value) % wW = bv - t.value by rw [show bv + wW - t.value = bv - t.value + wW by omega, Nat.add_mod_right, Nat.mod_eq_of_lt (by omega)]] at hs5
  refine hs5.mono ?_
  rintro e w6 ⟨rfl, hb⟩
  have t6 : T w6 := HTB.out _ _ t5 hb
  clear hb hs5
  refine hK.out _ _ t6 ?_
  clear hK K
  refine tree_run rfl (fun K hK => ?_)
  go_simp
  have hs5 := word_of (pg : Int) (by omega) (by omega) w6
  rw [HOF.out] at hs5
  refine hs5.mono ?_
  rintro e w7 ⟨rfl, hb⟩
  have t7 : T w7 := HTB.out _ _ t6 hb
  clear hb hs5
  refine hK.out _ _ t7 ?_
  clear hK K
  refine tree_run rfl (fun K hK => ?_)
  go_simp
  refine (word_cmp (bv - t.value) pg (by omega) hpw _).mono ?_
  rintro e w8 ⟨rfl, hb⟩
  have t8 : T w8 := HTB.out _ _ t7 hb
  clear hb
  have hc8 := cmpN_ge hb2
  generalize cmpN (bv - t.value) pg = c8 at *
  refine hK.out _ _ t8 ?_
  clear hK K
  refine tree_pure (.bool false) rfl (by rfl) (fun w' hs => ?_) (fun _ _ _ h => h) ?_
  · clear hs
    go_simp
  simp only [Act.put, List.setIfInBounds_toArray, List.set_cons_zero, List.set_cons_succ]
  refine tree_pure (.bool false) rfl (by rfl) (fun w' hs => ?_) (fun _ _ _ h => h) ?_
  · clear hs
    go_simp
  simp only [Act.put, List.setIfInBounds_toArray, List.set_cons_zero, List.set_cons_succ]
  refine tree_pure ?_ rfl (by rfl) (fun w' hs => ?_) (fun _ _ _ h => h) ?_
  rotate_left
  · clear hs
    go_simp
    try rfl
  simp only [Act.put, List.setIfInBounds_toArray, List.set_cons_zero, List.set_cons_succ]
  refine tree_fin ?_
  have HBX := Lib.hid (show Below w.heap.size w _ by rw [HT.out] at t8; exact t8.below)
  go_wp2
  go_ret
  have hM : mayTx S t = 0 := by
    rw [HMZ.out, if_neg (by omega)]
  exact ⟨by rw [hM]; rfl, by first | exact HBX.out | (rw [← HE2.out]; exact HBW.out)⟩
end Go.Proofs.YtikiciojfhfagaaGreat
