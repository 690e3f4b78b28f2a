/-
  Transactions as bytes: Pack of both texts; SameTx where To is not looked at.
  The law: the bytes of every transaction, or that it has none, and that they are read as it.
  An argument that is a transaction, opened; the law.
-/
import Derived.Test.YtikiciojfhfagaaGreatQPk4
import Derived.Test.YtikiciojfhfagaaGreatQOpen
import Derived.ChangeOld
import Derived.Below
import Derived.WalkKit
import Derived.ProofKit
import Derived.OpenShut
set_option linter.unusedVariables false
set_option linter.unusedSimpArgs false
namespace Go.Proofs.YtikiciojfhfagaaGreat
open Go.RowKit Go.Mun

theorem kid_item {w : World} {R : Nat → Prop} {cs : List Value} {l : Bts} (h : KidAt w R cs (some l)) : ItemAt w cs (.bytes l) := by
  obtain ⟨a, c, rfl, hi, hb⟩ := h.some
  exact .bytes a _ c l none 0 0 rfl hi hb
theorem top_item {w : World} {R : Nat → Prop} {cs : List Value} {ls : List Bts} (h : TopAt w R cs (.list (ls.map some))) (hn : ls ≠ []) : ItemAt w cs (.list (ls.map .bytes)) := by
  obtain ⟨a, c, rfl, h2⟩ := h
  obtain ⟨b, off, css, rfl, _, _, _, hrow, hk⟩ := h2 (by simpa using hn)
  have key : ∀ i (hi : i < ls.length), ∃ x, w.row? b (off + i * 3) 3 = some x ∧ KidAt w R x (some ls[i]) := by
    intro i hi
    exact hk.at hrow (by rw [List.getElem?_map, List.getElem?_eq_getElem hi]; rfl)
  refine .list _ _ c _ (fun i => (w.row? b (off + i * 3) 3).getD []) none 0 0 (by simp) (fun _ => ⟨b, off, rfl, fun i hi => ?_⟩) (fun i hi => ?_)
  · obtain ⟨x, hx, _⟩ := key i (by simpa using hi)
    rw [hx]; rfl
  · have hi' : i < ls.length := by simpa using hi
    obtain ⟨x, hx, hkx⟩ := key i hi'
    show ItemAt w ((w.row? b (off + i * 3) 3).getD []) _
    rw [hx, List.getElem_map]
    exact kid_item hkx
theorem depth_bytes : ∀ ls : List Bts, depthTs (ls.map .bytes) = 0
  | [] => rfl
  | l :: ls => by
    show max (depthT (.bytes l)) (depthTs (ls.map .bytes)) = 0
    rw [depth_bytes ls]; rfl
theorem depth_list (ls : List Bts) : depthT (.list (ls.map .bytes)) ≤ 32 := by
  show 1 + depthTs (ls.map .bytes) ≤ 32
  rw [depth_bytes]; decide
/-- What may stand in a transaction at all. -/
structure TxIn (t : TxP) : Prop where
  nonce : -9223372036854775808 ≤ t.nonce ∧ t.nonce ≤ 9223372036854775807
  price : -9223372036854775808 ≤ t.price ∧ t.price ≤ 9223372036854775807
  gas : -9223372036854775808 ≤ t.gas ∧ t.gas ≤ 9223372036854775807
  frm : t.frm < 256 ^ 20
  to : t.to < 256 ^ 20
  value : t.value < 256 ^ 32
  data : t.data.length ≤ 3000
  byt : Byt t.data
theorem TxIn.fit {t : TxP} (h : TxIn t) (hn : ¬ negK t) : TxFit t := by
  have h1 : ¬ t.nonce < 0 := fun x => hn (.inl x)
  have h2 : ¬ t.price < 0 := fun x => hn (.inr (.inl x))
  have h3 : ¬ t.gas < 0 := fun x => hn (.inr (.inr x))
  exact ⟨⟨by omega, h.nonce.2⟩, ⟨by omega, h.price.2⟩, ⟨by omega, h.gas.2⟩, h.frm, h.to, h.value, h.data, h.byt⟩
theorem tx_item' {t : TxP} (ht : TxIn t) (da : Option Addr) (dc : Nat) (w : World) (hI : Ints w .u8 da dc t.data) :
    Calls Tryz.prog 28 #[.agg (cat (txS t (.slice da t.data.length dc))).toArray] w fun e w' => ItemIs w w' t e := by
  obtain ⟨n, p, g, f, to, mk, v, d⟩ := t
  exact tx_Item n p g f to mk v d ht.nonce.2 ht.price.2 ht.gas.2 ht.value (Nat.le_trans ht.data (by decide)) ht.byt da dc w hI
theorem ref_item' {t : TxP} (ht : TxIn t) (da : Option Addr) (dc : Nat) (w : World) (hI : Ints w .u8 da dc t.data) :
    Calls Tryz.prog 29 #[.agg (cat (txS t (.slice da t.data.length dc))).toArray] w fun e w' => ItemIs w w' t e := by
  obtain ⟨n, p, g, f, to, mk, v, d⟩ := t
  exact ref_Item n p g f to mk v d ht.nonce.1 ht.nonce.2 ht.price.1 ht.price.2 ht.gas.1 ht.gas.2 ht.value (Nat.le_trans ht.data (by decide)) ht.byt da dc w hI
/-- What a transaction's bytes come to. -/
def PackIs (w w' : World) (t : TxP) (e : Ending) : Prop := Below w.heap.size w w' ∧ (negK t → e = .returned (.tuple #[.slice none 0 0, .int .i64 1])) ∧
  (¬ negK t → ∃ v, e = .returned (.tuple #[v, .int .i64 0]) ∧ NewB w w' v (packTx t))
set_option maxRecDepth 100000 in
set_option maxHeartbeats 1000000 in
theorem tx_Pack {t : TxP} (ht : TxIn t) (da : Option Addr) (dc : Nat) (w : World) (hI : Ints w .u8 da dc t.data) :
    Calls Tryz.prog 26 #[.agg (cat (txS t (.slice da t.data.length dc))).toArray] w fun e w' => PackIs w w' t e := by
  have hok : okL 3 itemZ = true := itemZ_ok
  obtain ⟨X, hX⟩ : ∃ X, X = cat (txS t (.slice da t.data.length dc)) := ⟨_, rfl⟩
  have lX : X.length = 77 := by rw [hX]; exact txS_len _ _
  obtain ⟨w0, e0⟩ : ∃ w0, w0 = w.alloc (.cells X.toArray 44) := ⟨_, rfl⟩
  have hb0 : Below w.heap.size w w0 := by rw [e0]; exact (Below.refl _ _).alloc (Nat.le_refl _) _
  have hr : w0.row? w.heap.size 0 77 = some X := by rw [e0]; exact World.row?_alloc_at X 44 _ rfl lX
  have HC := Lib.hid (tx_item' ht da dc w0 (hI.below hb0))
  rw [← hX] at HC ⊢
  have HT := Lib.hid ht
  have HE := Lib.hid e0
  have HB := Lib.hid hb0
  rw [e0] at hr
  clear e0 hb0 hX hI ht
  go_enter Tryz.func26, Tryz.ntmps26
  go_wp2_with fail
  rw [← HE.out]
  refine HC.out.mono ?_
  rintro e w1 ⟨hb1, hneg, hpos⟩
  have hB1 := HB.out.trans (hb1.mono HB.out.size)
  have f4 : (w1.alloc (.cells itemZ.toArray 65)).free? w1.heap.size 0 3 = true := itemZ_row w1
  by_cases hn : negK t
  · have := hneg hn
    subst this
    have HN := Lib.hid hn
    have HB2 : Hid (Below w.heap.size w ((w1.alloc (.cells itemZ.toArray 65)).setCells w1.heap.size 0 itemZ)) := (hB1.alloc hB1.size _).setCells hB1.size _ _
    clear hneg hpos hn hb1 hB1 hr
    go_wp2
    go_ret2
    exact ⟨HB2.out, fun _ => rfl, fun h => absurd HN.out h⟩
  · obtain ⟨cs, rfl, htop⟩ := hpos hn
    obtain ⟨hcl, hcok⟩ := htop.lenok
    have HN := Lib.hid hn
    have hfit := HT.out.fit hn
    obtain ⟨W1, eW1⟩ : ∃ W1, W1 = (w1.alloc (.cells itemZ.toArray 65)).setCells w1.heap.size 0 cs := ⟨_, rfl⟩
    have o1 : Only (fun _ => False) w1 W1 := by rw [eW1]; exact ((Only.refl (fun _ => False) w1).alloc _).setCells (fun hh => absurd hh (Nat.lt_irrefl _)) _ _
    have hB2 : Below w.heap.size w W1 := by rw [eW1]; exact (hB1.alloc hB1.size _).setCells hB1.size _ _
    have hA4 : Arr W1 w1.heap.size 3 cs := by rw [eW1]; exact (Arr.new w1 3 itemZ 65 rfl).setCells cs hcok
    have r4 := hA4.row
    have htop2 := htop.only (R' := fun _ => True) o1 (fun _ _ _ h => h) (fun _ _ _ => trivial)
    have HP := Lib.hid (rlp_pack cs _ W1 (depth_list (itemK t)) (by have := (packTx_small hfit).2; show (packTx t).length ≤ _; omega) (top_item htop2 (fun h => by have := (itemK_fit hfit).2; rw [h] at this; cases this)))
    have HW := Lib.hid eW1
    have HB2 := Lib.hid hB2
    rw [eW1] at r4
    clear hneg hpos hn hb1 hB1 hr htop htop2 o1 hB2 hA4 eW1 hfit
    go_wp2_with fail
    rw [← HW.out]
    refine HP.out.mono ?_
    rintro e w2 ⟨v, rfl, hnb⟩
    have HNB := Lib.hid (hnb.up HB2.out)
    clear hnb r4
    go_wp2
    go_ret2
    exact ⟨HNB.out.below, fun h => absurd h HN.out, fun _ => ⟨_, rfl, HNB.out⟩⟩
set_option maxRecDepth 100000 in
set_option maxHeartbeats 1000000 in
theorem ref_PackTx {t : TxP} (ht : TxIn t) (da : Option Addr) (dc : Nat) (w : World) (hI : Ints w .u8 da dc t.data) :
    Calls Tryz.prog 27 #[.agg (cat (txS t (.slice da t.data.length dc))).toArray] w fun e w' => PackIs w w' t e := by
  have hok : okL 3 itemZ = true := itemZ_ok
  obtain ⟨X, hX⟩ : ∃ X, X = cat (txS t (.slice da t.data.length dc)) := ⟨_, rfl⟩
  have lX : X.length = 77 := by rw [hX]; exact txS_len _ _
  obtain ⟨w0, e0⟩ : ∃ w0, w0 = w.alloc (.cells X.toArray 44) := ⟨_, rfl⟩
  have hb0 : Below w.heap.size w w0 := by rw [e0]; exact (Below.refl _ _).alloc (Nat.le_refl _) _
  have hr : w0.row? w.heap.size 0 77 = some X := by rw [e0]; exact World.row?_alloc_at X 44 _ rfl lX
  have HC := Lib.hid (ref_item' ht da dc w0 (hI.below hb0))
  rw [← hX] at HC ⊢
  have HT := Lib.hid ht
  have HE := Lib.hid e0
  have HB := Lib.hid hb0
  rw [e0] at hr
  clear e0 hb0 hX hI ht
  go_enter Tryz.func27, Tryz.ntmps27
  go_wp2_with fail
  rw [← HE.out]
  refine HC.out.mono ?_
  rintro e w1 ⟨hb1, hneg, hpos⟩
  have hB1 := HB.out.trans (hb1.mono HB.out.size)
  have f4 : (w1.alloc (.cells itemZ.toArray 65)).free? w1.heap.size 0 3 = true := itemZ_row w1
  by_cases hn : negK t
  · have := hneg hn
    subst this
    have HN := Lib.hid hn
    have HB2 : Hid (Below w.heap.size w ((w1.alloc (.cells itemZ.toArray 65)).setCells w1.heap.size 0 itemZ)) := (hB1.alloc hB1.size _).setCells hB1.size _ _
    clear hneg hpos hn hb1 hB1 hr
    go_wp2
    go_ret2
    exact ⟨HB2.out, fun _ => rfl, fun h => absurd HN.out h⟩
  · obtain ⟨cs, rfl, htop⟩ := hpos hn
    obtain ⟨hcl, hcok⟩ := htop.lenok
    have HN := Lib.hid hn
    have hfit := HT.out.fit hn
    obtain ⟨W1, eW1⟩ : ∃ W1, W1 = (w1.alloc (.cells itemZ.toArray 65)).setCells w1.heap.size 0 cs := ⟨_, rfl⟩
    have o1 : Only (fun _ => False) w1 W1 := by rw [eW1]; exact ((Only.refl (fun _ => False) w1).alloc _).setCells (fun hh => absurd hh (Nat.lt_irrefl _)) _ _
    have hB2 : Below w.heap.size w W1 := by rw [eW1]; exact (hB1.alloc hB1.size _).setCells hB1.size _ _
    have hA4 : Arr W1 w1.heap.size 3 cs := by rw [eW1]; exact (Arr.new w1 3 itemZ 65 rfl).setCells cs hcok
    have r4 := hA4.row
    have htop2 := htop.only (R' := fun _ => True) o1 (fun _ _ _ h => h) (fun _ _ _ => trivial)
    have HP := Lib.hid (ref_pack cs _ W1 (depth_list (itemK t)) (by have := (packTx_small hfit).2; show (packTx t).length ≤ _; omega) (top_item htop2 (fun h => by have := (itemK_fit hfit).2; rw [h] at this; cases this)))
    have HW := Lib.hid eW1
    have HB2 := Lib.hid hB2
    rw [eW1] at r4
    clear hneg hpos hn hb1 hB1 hr htop htop2 o1 hB2 hA4 eW1 hfit
    go_wp2_with fail
    rw [← HW.out]
    refine HP.out.mono ?_
    rintro e w2 ⟨v, rfl, hnb⟩
    have HNB := Lib.hid (hnb.up HB2.out)
    clear hnb r4
    go_wp2
    go_ret2
    exact ⟨HNB.out.below, fun h => absurd h HN.out, fun _ => ⟨_, rfl, HNB.out⟩⟩
set_option maxRecDepth 100000 in
set_option maxHeartbeats 1000000 in
theorem same_tx2 (n p g : Int) (f to to2 : Nat) (mk : Bool) (v : Nat) (d : Bts) (hto : mk = false → to = to2) (a1 a2 : Option Addr) (c1 c2 : Nat) (w : World) (h1 : Ints w .u8 a1 c1 d) (h2 : Ints w .u8 a2 c2 d) :
    Calls Tryz.prog 25 #[.agg (cat (txS ⟨n, p, g, f, to, mk, v, d⟩ (.slice a1 d.length c1))).toArray, .agg (cat (txS ⟨n, p, g, f, to2, mk, v, d⟩ (.slice a2 d.length c2))).toArray] w fun e w' => e = .returned (.bool true) ∧ Below w.heap.size w w' := by
  have ha := eqA_refl f
  have hb := eqA_refl to
  have hw := eqW_refl v
  obtain ⟨X, hX⟩ : ∃ X, X = cat (txS ⟨n, p, g, f, to, mk, v, d⟩ (.slice a1 d.length c1)) := ⟨_, rfl⟩
  obtain ⟨Y, hY⟩ : ∃ Y, Y = cat (txS ⟨n, p, g, f, to2, mk, v, d⟩ (.slice a2 d.length c2)) := ⟨_, rfl⟩
  have lX : X.length = 77 := by rw [hX]; exact txS_len _ _
  have lY : Y.length = 77 := by rw [hY]; exact txS_len _ _
  rw [← hX, ← hY]
  obtain ⟨w0, e0⟩ : ∃ w0, w0 = (w.alloc (.cells X.toArray 44)).alloc (.cells Y.toArray 44) := ⟨_, rfl⟩
  have hb0 : Below w.heap.size w w0 := by rw [e0]; exact ((Below.refl _ _).alloc (Nat.le_refl _) _).alloc (by simp) _
  have hr : w0.row? w.heap.size 0 77 = some X := by rw [e0, World.row?_alloc_lt _ (by simp)]; exact World.row?_alloc_at X 44 _ rfl lX
  have hs : w0.row? (w.heap.size + 1) 0 77 = some Y := by rw [e0]; exact World.row?_alloc_at Y 44 _ (by simp) lY
  rw [hX] at hr
  rw [hY] at hs
  have x0 : w0.cell? ⟨w.heap.size, 0, none⟩ = some (.int .i64 n) := cell_cat hr (i := 0) rfl (by simp [txS, offOf_succ, offOf_zero])
  have x1 : w0.cell? ⟨w.heap.size, 1, none⟩ = some (.int .i64 p) := cell_cat hr (i := 1) rfl (by simp [txS, offOf_succ, offOf_zero])
  have x2 : w0.cell? ⟨w.heap.size, 2, none⟩ = some (.int .i64 g) := cell_cat hr (i := 2) rfl (by simp [txS, offOf_succ, offOf_zero])
  have x5 : w0.cell? ⟨w.heap.size, 43, none⟩ = some (.bool mk) := cell_cat hr (i := 5) rfl (by simp [txS, offOf_succ, offOf_zero])
  have x7 : w0.cell? ⟨w.heap.size, 76, none⟩ = some (.slice a1 d.length c1) := cell_cat hr (i := 7) rfl (by simp [txS, offOf_succ, offOf_zero])
  have x3 : w0.row? w.heap.size 3 20 = some (beC 20 f) := row_cat hr (i := 3) rfl (by simp [txS, offOf_succ, offOf_zero]) (by simp)
  have x4 : w0.row? w.heap.size 23 20 = some (beC 20 to) := row_cat hr (i := 4) rfl (by simp [txS, offOf_succ, offOf_zero]) (by simp)
  have x6 : w0.row? w.heap.size 44 32 = some (beC 32 v) := row_cat hr (i := 6) rfl (by simp [txS, offOf_succ, offOf_zero]) (by simp)
  have y0 : w0.cell? ⟨(w.heap.size + 1), 0, none⟩ = some (.int .i64 n) := cell_cat hs (i := 0) rfl (by simp [txS, offOf_succ, offOf_zero])
  have y1 : w0.cell? ⟨(w.heap.size + 1), 1, none⟩ = some (.int .i64 p) := cell_cat hs (i := 1) rfl (by simp [txS, offOf_succ, offOf_zero])
  have y2 : w0.cell? ⟨(w.heap.size + 1), 2, none⟩ = some (.int .i64 g) := cell_cat hs (i := 2) rfl (by simp [txS, offOf_succ, offOf_zero])
  have y5 : w0.cell? ⟨(w.heap.size + 1), 43, none⟩ = some (.bool mk) := cell_cat hs (i := 5) rfl (by simp [txS, offOf_succ, offOf_zero])
  have y7 : w0.cell? ⟨(w.heap.size + 1), 76, none⟩ = some (.slice a2 d.length c2) := cell_cat hs (i := 7) rfl (by simp [txS, offOf_succ, offOf_zero])
  have y3 : w0.row? (w.heap.size + 1) 3 20 = some (beC 20 f) := row_cat hs (i := 3) rfl (by simp [txS, offOf_succ, offOf_zero]) (by simp)
  have y4 : w0.row? (w.heap.size + 1) 23 20 = some (beC 20 to2) := row_cat hs (i := 4) rfl (by simp [txS, offOf_succ, offOf_zero]) (by simp)
  have y6 : w0.row? (w.heap.size + 1) 44 32 = some (beC 32 v) := row_cat hs (i := 6) rfl (by simp [txS, offOf_succ, offOf_zero]) (by simp)
  have q1 := run_bytes_string' (P := Tryz.prog) Tryz.underlying26 Tryz.underlying5 Tryz.underlying9 rfl (h1.below hb0)
  have q2 := run_bytes_string' (P := Tryz.prog) Tryz.underlying26 Tryz.underlying5 Tryz.underlying9 rfl (h2.below hb0)
  have HB := Lib.hid hb0
  have HE := Lib.hid e0
  generalize strOf d = S at *
  generalize d.length = m at *
  rw [e0] at x0 x1 x2 x3 x4 x5 x6 x7 y0 y1 y2 y3 y4 y5 y6 y7 q1 q2
  clear hX hY hr hs e0 hb0 h1 h2 lX lY
  cases mk with
  | true =>
    go_enter Tryz.func25, Tryz.ntmps25
    go_wp2
    rw [← HE.out]
    go_ret
    exact ⟨rfl, HB.out⟩
  | false =>
    obtain rfl := hto rfl
    go_enter Tryz.func25, Tryz.ntmps25
    go_wp2
    rw [← HE.out]
    go_ret
    exact ⟨rfl, HB.out⟩
end Go.Proofs.YtikiciojfhfagaaGreat
namespace Go.Proofs.YtikiciojfhfagaaGreat
open Go.RowKit Go.Mun

theorem kid_zero (w : World) : KidAt w (fun _ => True) itemZ (some []) := ⟨none, 0, rfl, ⟨fun h => absurd rfl h, fun _ => rfl, Nat.le_refl _, Nat.zero_le _⟩, fun _ _ _ => trivial, fun x hx => by cases hx⟩
theorem nil_string (w : World) : (convert 26 9 (.slice none 0 0)).run Tryz.prog w = .ok (.string (strOf [])) w :=
  run_bytes_string' (P := Tryz.prog) Tryz.underlying26 Tryz.underlying5 Tryz.underlying9 (l := []) rfl ⟨fun h => absurd rfl h, fun _ => rfl, Nat.le_refl _, Nat.zero_le _⟩
theorem backK_same (n p g : Int) (f to : Nat) (mk : Bool) (v : Nat) (d : Bts) (a1 a2 : Option Addr) (c1 c2 : Nat) (w : World) (h1 : Ints w .u8 a1 c1 d) (h2 : Ints w .u8 a2 c2 d) :
    Calls Tryz.prog 25 #[.agg (cat (txS (backK ⟨n, p, g, f, to, mk, v, d⟩) (.slice a1 d.length c1))).toArray, .agg (cat (txS ⟨n, p, g, f, to, mk, v, d⟩ (.slice a2 d.length c2))).toArray] w fun e w' => e = .returned (.bool true) ∧ Below w.heap.size w w' := by
  cases mk with
  | true => exact same_tx2 n p g f 0 to true v d (fun h => by cases h) a1 a2 c1 c2 w h1 h2
  | false => exact same_tx2 n p g f to to false v d (fun _ => rfl) a1 a2 c1 c2 w h1 h2
/-- What the law wants of its argument. -/
structure TxArg (t : TxP) : Prop where
  nonce : -9223372036854775808 ≤ t.nonce ∧ t.nonce ≤ 9223372036854775807
  price : -9223372036854775808 ≤ t.price ∧ t.price ≤ 9223372036854775807
  gas : -9223372036854775808 ≤ t.gas ∧ t.gas ≤ 9223372036854775807
  frm : t.frm < 256 ^ 20
  to : t.to < 256 ^ 20
  value : t.value < 256 ^ 32
  byt : Byt t.data
theorem backK_data (t : TxP) : (backK t).data = t.data := by unfold backK; split <;> rfl
set_option maxRecDepth 100000 in
set_option maxHeartbeats 8000000 in
theorem txPacks_walk {t : TxP} (ha : TxArg t) (da : Option Addr) (dc : Nat) (w : World) (hI : Ints w .u8 da dc t.data) :
    Calls Tryz.prog 7 #[.agg (cat (txS t (.slice da t.data.length dc))).toArray] w fun e w' => e = .returned (.bool true) ∧ Below w.heap.size w w' := by
  have hoki : okL 3 itemZ = true := itemZ_ok
  obtain ⟨X, hX⟩ : ∃ X, X = cat (txS t (.slice da t.data.length dc)) := ⟨_, rfl⟩
  have lX : X.length = 77 := by rw [hX]; exact txS_len _ _
  obtain ⟨w0, e0⟩ : ∃ w0, w0 = w.alloc (.cells X.toArray 44) := ⟨_, rfl⟩
  have hb0 : Below w.heap.size w w0 := by rw [e0]; exact (Below.refl _ _).alloc (Nat.le_refl _) _
  have hr : w0.row? w.heap.size 0 77 = some X := by rw [e0]; exact World.row?_alloc_at X 44 _ rfl lX
  have HXR : Hid (∀ W, Below w0.heap.size w0 W → W.row? w.heap.size 0 77 = some X) := fun W hW => ((brow hW).1 _ _ _ (World.row?_lt hr)).trans hr
  have HX := Lib.hid hX
  have HI := Lib.hid (hI.below hb0)
  have HA := Lib.hid (tx_alive w0)
  have HE := Lib.hid e0
  have HB := Lib.hid hb0
  have HARG := Lib.hid ha
  obtain ⟨dl, hdl⟩ : ∃ dl, dl = t.data.length := ⟨_, rfl⟩
  have HDL := Lib.hid hdl
  rw [← hX]
  clear e0 hb0 hr hX hI ha hdl
  go_enter Tryz.func7, Tryz.ntmps7
  go_wp2_with fail
  rw [← HE.out]
  refine HA.out.mono ?_
  rintro e w1 ⟨rfl, hb1⟩
  have B1 := Lib.hid hb1
  have rX := HXR.out w1 hb1
  have q7 : w1.cell? ⟨w.heap.size, 76, none⟩ = some (.slice da dl dc) := by
    have h := rX
    rw [HX.out] at h
    have := cell_cat h (i := 7) rfl (p := 76) (by simp [txS, offOf_succ, offOf_zero])
    rw [HDL.out]; exact this
  clear hb1 HA
  by_cases hbig : 3000 < dl
  · have d1 : decide ((3000 : Int) < (dl : Int)) = true := decide_eq_true (by omega)
    have HBW := Lib.hid (HB.out.trans (B1.out.mono HB.out.size))
    clear hbig
    go_wp2
    go_ret
    exact ⟨rfl, HBW.out⟩
  have d1 : decide ((3000 : Int) < (dl : Int)) = false := decide_eq_false (by omega)
  have HT : Hid (TxIn t) := ⟨HARG.out.nonce, HARG.out.price, HARG.out.gas, HARG.out.frm, HARG.out.to, HARG.out.value, by have := HDL.out; omega, HARG.out.byt⟩
  have HIB : Hid (∀ W, Below w0.heap.size w0 W → Ints W .u8 da dc t.data) := fun W hW => HI.out.below hW
  have HP1 : Hid (∀ W, Below w0.heap.size w0 W → Calls Tryz.prog 26 #[.agg X.toArray] W fun e w' => PackIs W w' t e) := fun W hW => by rw [HX.out]; exact tx_Pack HT.out da dc W (HIB.out W hW)
  have HP2 : Hid (∀ W, Below w0.heap.size w0 W → Calls Tryz.prog 27 #[.agg X.toArray] W fun e w' => PackIs W w' t e) := fun W hW => by rw [HX.out]; exact ref_PackTx HT.out da dc W (HIB.out W hW)
  have HP3 : Hid (∀ W, Below w0.heap.size w0 W → Calls Tryz.prog 28 #[.agg X.toArray] W fun e w' => ItemIs W w' t e) := fun W hW => by rw [HX.out]; exact tx_item' HT.out da dc W (HIB.out W hW)
  have HP4 : Hid (∀ W, Below w0.heap.size w0 W → Calls Tryz.prog 29 #[.agg X.toArray] W fun e w' => ItemIs W w' t e) := fun W hW => by rw [HX.out]; exact ref_item' HT.out da dc W (HIB.out W hW)
  clear hbig
  go_wp2_with fail
  refine (HP1.out w1 B1.out).mono ?_
  rintro e w2 ⟨hb2, n2, p2⟩
  have B2 : Hid (Below w0.heap.size w0 w2) := B1.out.trans (hb2.mono B1.out.size)
  have rX2 := HXR.out w2 B2.out
  clear hb2 q7 rX d1
  by_cases hn : negK t
  · have := n2 hn
    subst this
    clear n2 p2
    go_wp2_with fail
    refine (HP2.out w2 B2.out).mono ?_
    rintro e w3 ⟨hb3, n3, p3⟩
    have B3 : Hid (Below w0.heap.size w0 w3) := B2.out.trans (hb3.mono B2.out.size)
    have S3 := Lib.hid hb3
    have rX3 := HXR.out w3 B3.out
    have := n3 hn
    subst this
    clear n3 p3 hb3 rX2
    go_wp2_with fail
    refine (HP3.out w3 B3.out).mono ?_
    rintro e w4 ⟨hb4, n4, p4⟩
    have hB4 : Below w0.heap.size w0 w4 := B3.out.trans (hb4.mono B3.out.size)
    have fz4 : (w4.alloc (.cells itemZ.toArray 65)).free? w4.heap.size 0 3 = true := itemZ_row w4
    have := n4 hn
    subst this
    have okc4 : okL 3 itemZ = true := itemZ_ok
    obtain ⟨W4, eW4⟩ : ∃ W4, W4 = (w4.alloc (.cells itemZ.toArray 65)).setCells w4.heap.size 0 itemZ := ⟨_, rfl⟩
    have hs4 : Below w4.heap.size w4 W4 := by rw [eW4]; exact ((Below.refl _ _).alloc (Nat.le_refl _) _).setCells (Nat.le_refl _) _ _
    have B4 : Hid (Below w0.heap.size w0 W4) := hB4.trans (hs4.mono hB4.size)
    have A4 : Hid (Arr W4 w4.heap.size 3 itemZ) := by show Arr _ _ _ _; rw [eW4]; exact (Arr.new w4 3 itemZ 65 rfl).setCells _ okc4
    have E4 := Lib.hid eW4
    have rX4 := HXR.out W4 B4.out
    rw [eW4] at rX4
    have SB4 : Hid (Below w3.heap.size w3 W4) := hb4.trans (hs4.mono hb4.size)
    clear n4 p4 hb4 hB4 hs4 eW4
    clear rX3
    go_wp2_with fail
    rw [← E4.out]
    refine (HP4.out W4 B4.out).mono ?_
    rintro e w5 ⟨hb5, n5, p5⟩
    have hB5 : Below w0.heap.size w0 w5 := B4.out.trans (hb5.mono B4.out.size)
    have fz5 : (w5.alloc (.cells itemZ.toArray 65)).free? w5.heap.size 0 3 = true := itemZ_row w5
    have := n5 hn
    subst this
    have okc5 : okL 3 itemZ = true := itemZ_ok
    obtain ⟨W5, eW5⟩ : ∃ W5, W5 = (w5.alloc (.cells itemZ.toArray 65)).setCells w5.heap.size 0 itemZ := ⟨_, rfl⟩
    have hs5 : Below w5.heap.size w5 W5 := by rw [eW5]; exact ((Below.refl _ _).alloc (Nat.le_refl _) _).setCells (Nat.le_refl _) _ _
    have B5 : Hid (Below w0.heap.size w0 W5) := hB5.trans (hs5.mono hB5.size)
    have A5 : Hid (Arr W5 w5.heap.size 3 itemZ) := by show Arr _ _ _ _; rw [eW5]; exact (Arr.new w5 3 itemZ 65 rfl).setCells _ okc5
    have E5 := Lib.hid eW5
    have rX5 := HXR.out W5 B5.out
    rw [eW5] at rX5
    have SB5 : Hid (Below W4.heap.size W4 W5) := hb5.trans (hs5.mono hb5.size)
    clear n5 p5 hb5 hB5 hs5 eW5
    clear rX4
    have A45 : Hid (Arr W5 w4.heap.size 3 itemZ) := A4.out.only (S := fun _ => False) (Only.of_below_size SB5.out) (fun h => h)
    have r8 := A45.out.row
    have r10 := A5.out.row
    rw [E5.out] at r8 r10
    have cv1 := nil_string ((w5.alloc (.cells itemZ.toArray 65)).setCells w5.heap.size 0 itemZ)
    have cv2 := nil_string W5
    generalize strOf [] = S at *
    have HS := Lib.hid (same_bytes (kid_zero W5) (kid_zero W5))
    clear rX5
    go_wp2_with fail
    rw [← E5.out]
    refine (num16 1 _).mono ?_
    rintro e w5b ⟨rfl, rfl⟩
    rw [← E5.out] at r8 r10
    clear cv1
    go_wp2_with fail
    refine HS.out.mono ?_
    rintro e w6 ⟨rfl, hb6⟩
    have B6 : Hid (Below w0.heap.size w0 w6) := B5.out.trans (hb6.mono B5.out.size)
    have HBW := Lib.hid (HB.out.trans (B6.out.mono HB.out.size))
    clear hb6 r8 r10 cv2
    go_wp2
    go_ret
    exact ⟨rfl, HBW.out⟩
  · obtain ⟨v2, rfl, k2⟩ := p2 hn
    clear n2 p2
    go_wp2_with fail
    refine (HP2.out w2 B2.out).mono ?_
    rintro e w3 ⟨hb3, n3, p3⟩
    have B3 : Hid (Below w0.heap.size w0 w3) := B2.out.trans (hb3.mono B2.out.size)
    have S3 := Lib.hid hb3
    have rX3 := HXR.out w3 B3.out
    obtain ⟨v3, rfl, k3⟩ := p3 hn
    obtain ⟨a2, c2, rfl, i2, _⟩ := k2.read
    obtain ⟨a3, c3, rfl, i3, _⟩ := k3.read
    have I2 := Lib.hid (i2.below hb3)
    have I3 := Lib.hid i3
    clear k2 k3 i2 i3
    clear n3 p3 hb3 rX2
    go_wp2_with fail
    refine (HP3.out w3 B3.out).mono ?_
    rintro e w4 ⟨hb4, n4, p4⟩
    have hB4 : Below w0.heap.size w0 w4 := B3.out.trans (hb4.mono B3.out.size)
    have fz4 : (w4.alloc (.cells itemZ.toArray 65)).free? w4.heap.size 0 3 = true := itemZ_row w4
    obtain ⟨cs4, rfl, top4⟩ := p4 hn
    have okc4 := top4.lenok.2
    have lc4 := top4.lenok.1
    obtain ⟨W4, eW4⟩ : ∃ W4, W4 = (w4.alloc (.cells itemZ.toArray 65)).setCells w4.heap.size 0 cs4 := ⟨_, rfl⟩
    have hs4 : Below w4.heap.size w4 W4 := by rw [eW4]; exact ((Below.refl _ _).alloc (Nat.le_refl _) _).setCells (Nat.le_refl _) _ _
    have B4 : Hid (Below w0.heap.size w0 W4) := hB4.trans (hs4.mono hB4.size)
    have A4 : Hid (Arr W4 w4.heap.size 3 cs4) := by show Arr _ _ _ _; rw [eW4]; exact (Arr.new w4 3 itemZ 65 rfl).setCells _ okc4
    have E4 := Lib.hid eW4
    have rX4 := HXR.out W4 B4.out
    rw [eW4] at rX4
    have SB4 : Hid (Below w3.heap.size w3 W4) := hb4.trans (hs4.mono hb4.size)
    have T4 : Hid (TopAt W4 (fun _ => True) cs4 (.list ((itemK t).map some))) := top4.only (Only.of_below_size hs4) (fun _ _ _ h => h) (fun _ _ _ => trivial)
    clear top4
    clear n4 p4 hb4 hB4 hs4 eW4
    clear rX3
    go_wp2_with fail
    rw [← E4.out]
    refine (HP4.out W4 B4.out).mono ?_
    rintro e w5 ⟨hb5, n5, p5⟩
    have hB5 : Below w0.heap.size w0 w5 := B4.out.trans (hb5.mono B4.out.size)
    have fz5 : (w5.alloc (.cells itemZ.toArray 65)).free? w5.heap.size 0 3 = true := itemZ_row w5
    obtain ⟨cs5, rfl, top5⟩ := p5 hn
    have okc5 := top5.lenok.2
    have lc5 := top5.lenok.1
    obtain ⟨W5, eW5⟩ : ∃ W5, W5 = (w5.alloc (.cells itemZ.toArray 65)).setCells w5.heap.size 0 cs5 := ⟨_, rfl⟩
    have hs5 : Below w5.heap.size w5 W5 := by rw [eW5]; exact ((Below.refl _ _).alloc (Nat.le_refl _) _).setCells (Nat.le_refl _) _ _
    have B5 : Hid (Below w0.heap.size w0 W5) := hB5.trans (hs5.mono hB5.size)
    have A5 : Hid (Arr W5 w5.heap.size 3 cs5) := by show Arr _ _ _ _; rw [eW5]; exact (Arr.new w5 3 itemZ 65 rfl).setCells _ okc5
    have E5 := Lib.hid eW5
    have rX5 := HXR.out W5 B5.out
    rw [eW5] at rX5
    have SB5 : Hid (Below W4.heap.size W4 W5) := hb5.trans (hs5.mono hb5.size)
    have T5 : Hid (TopAt W5 (fun _ => True) cs5 (.list ((itemK t).map some))) := top5.only (Only.of_below_size hs5) (fun _ _ _ h => h) (fun _ _ _ => trivial)
    clear top5
    clear n5 p5 hb5 hB5 hs5 eW5
    clear rX4
    have A45 : Hid (Arr W5 w4.heap.size 3 cs4) := A4.out.only (S := fun _ => False) (Only.of_below_size SB5.out) (fun h => h)
    have r8 := A45.out.row
    have r10 := A5.out.row
    rw [E5.out] at r8 r10
    have I2' := I2.out.below (SB4.out.trans (SB5.out.mono SB4.out.size))
    have I3' := I3.out.below (SB4.out.trans (SB5.out.mono SB4.out.size))
    have cv1 := run_bytes_string' (P := Tryz.prog) Tryz.underlying26 Tryz.underlying5 Tryz.underlying9 rfl I2'
    have cv2 := run_bytes_string' (P := Tryz.prog) Tryz.underlying26 Tryz.underlying5 Tryz.underlying9 rfl I3'
    have II2 := Lib.hid I2'
    have hfit := HT.out.fit hn
    obtain ⟨m, hm⟩ : ∃ m, m = (packTx t).length := ⟨_, rfl⟩
    rw [← hm] at cv1 cv2
    have HM := Lib.hid hm
    have HFIT := Lib.hid hfit
    generalize strOf (packTx t) = S at *
    have HS := Lib.hid (same_list (T4.out.only (R' := fun _ => True) (Only.of_below_size SB5.out) (fun _ _ _ h => h) (fun _ _ _ => trivial)) T5.out (fun k hk => by obtain ⟨l, _, rfl⟩ := List.mem_map.1 hk; exact ⟨l, rfl⟩) (by rw [List.length_map, (itemK_fit hfit).2]; decide) (by rw [List.length_map, (itemK_fit hfit).2]; decide))
    rw [← hm]
    clear hm I2' I3' hfit
    clear rX5
    go_wp2_with fail
    rw [← E5.out]
    refine (num16 0 _).mono ?_
    rintro e w5b ⟨rfl, rfl⟩
    rw [← E5.out] at r8 r10
    go_wp2_with fail
    refine HS.out.mono ?_
    rintro e w6 ⟨rfl, hb6⟩
    have B6 : Hid (Below w0.heap.size w0 w6) := B5.out.trans (hb6.mono B5.out.size)
    have S6 := Lib.hid hb6
    have I6 := Lib.hid (II2.out.below hb6)
    have A46 : Hid (Arr w6 w4.heap.size 3 cs4) := A45.out.only (S := fun _ => False) (Only.of_below_size hb6) (fun h => h)
    have T46 : Hid (TopAt w6 (fun _ => True) cs4 (.list ((itemK t).map some))) := (T4.out.only (R' := fun _ => True) (Only.of_below_size SB5.out) (fun _ _ _ h => h) (fun _ _ _ => trivial)).only (Only.of_below_size hb6) (fun _ _ _ h => h) (fun _ _ _ => trivial)
    have HR := Lib.hid (tx_Read a2 c2 (packTx t) w6 I6.out (packTx_byte HFIT.out) (by have := (packTx_small HFIT.out).2; omega))
    rw [readK_pack HFIT.out, ← HM.out] at HR
    clear hb6 r8 r10 cv1 cv2
    go_wp2_with fail
    refine HR.out.mono ?_
    rintro e w7 ⟨hb7, dv7, rfl, nb7, _⟩
    obtain ⟨a7, c7, rfl, i7, _⟩ := nb7.read
    rw [backK_data] at i7
    rw [backK_data]
    have hok7 := txS_ok (backK t) a7 t.data.length c7
    have f12 : (w7.alloc (.cells (cat zsN44).toArray 44)).free? w7.heap.size 0 77 = true := World.free?_alloc_at _ _ rfl (by simp [zsN44_len])
    have hB7 : Below w0.heap.size w0 w7 := B6.out.trans (hb7.mono B6.out.size)
    obtain ⟨Y, hY⟩ : ∃ Y, Y = cat (txS (backK t) (.slice a7 t.data.length c7)) := ⟨_, rfl⟩
    have lY : Y.length = 77 := by rw [hY]; exact txS_len _ _
    rw [← hY] at hok7 ⊢
    obtain ⟨W7, eW7⟩ : ∃ W7, W7 = (w7.alloc (.cells (cat zsN44).toArray 44)).setCells w7.heap.size 0 Y := ⟨_, rfl⟩
    have hs7 : Below w7.heap.size w7 W7 := by rw [eW7]; exact ((Below.refl _ _).alloc (Nat.le_refl _) _).setCells (Nat.le_refl _) _ _
    have B7 : Hid (Below w0.heap.size w0 W7) := hB7.trans (hs7.mono hB7.size)
    have A7 : Hid (Arr W7 w7.heap.size 77 Y) := by show Arr _ _ _ _; rw [eW7]; exact (Arr.new w7 77 (cat zsN44) 44 zsN44_len).setCells _ hok7
    have E7 := Lib.hid eW7
    have SB7 : Hid (Below w6.heap.size w6 W7) := hb7.trans (hs7.mono hb7.size)
    have I7 := Lib.hid (i7.below hs7)
    have HY := Lib.hid hY
    have A47 : Hid (Arr W7 w4.heap.size 3 cs4) := A46.out.only (S := fun _ => False) (Only.of_below_size SB7.out) (fun h => h)
    have r8 := A47.out.row
    have HO := Lib.hid (tx_Of (T46.out.only (R' := fun _ => True) (Only.of_below_size SB7.out) (fun _ _ _ h => h) (fun _ _ _ => trivial)) (fun ks l hk hl => by cases hk; obtain ⟨x, hx, e⟩ := List.mem_map.1 hl; cases e; have := ((itemK_fit HFIT.out).1 l hx).1; omega))
    have hof := ofK_item t HFIT.out.nonce HFIT.out.price HFIT.out.gas HFIT.out.frm HFIT.out.to HFIT.out.value
    rw [hof] at HO
    rw [eW7] at r8
    clear nb7 i7 hb7 hB7 hs7 eW7 hY hof
    go_wp2_with fail
    rw [← E7.out]
    refine HO.out.mono ?_
    rintro e w8 ⟨hb8, dv8, rfl, nb8, _⟩
    obtain ⟨a8, c8, rfl, i8, _⟩ := nb8.read
    rw [backK_data] at i8
    rw [backK_data]
    have hok8 := txS_ok (backK t) a8 t.data.length c8
    have f14 : (w8.alloc (.cells (cat zsN44).toArray 44)).free? w8.heap.size 0 77 = true := World.free?_alloc_at _ _ rfl (by simp [zsN44_len])
    have hB8 : Below w0.heap.size w0 w8 := B7.out.trans (hb8.mono B7.out.size)
    obtain ⟨Z, hZ⟩ : ∃ Z, Z = cat (txS (backK t) (.slice a8 t.data.length c8)) := ⟨_, rfl⟩
    have lZ : Z.length = 77 := by rw [hZ]; exact txS_len _ _
    rw [← hZ] at hok8 ⊢
    obtain ⟨W8, eW8⟩ : ∃ W8, W8 = (w8.alloc (.cells (cat zsN44).toArray 44)).setCells w8.heap.size 0 Z := ⟨_, rfl⟩
    have hs8 : Below w8.heap.size w8 W8 := by rw [eW8]; exact ((Below.refl _ _).alloc (Nat.le_refl _) _).setCells (Nat.le_refl _) _ _
    have B8 : Hid (Below w0.heap.size w0 W8) := hB8.trans (hs8.mono hB8.size)
    have A8 : Hid (Arr W8 w8.heap.size 77 Z) := by show Arr _ _ _ _; rw [eW8]; exact (Arr.new w8 77 (cat zsN44) 44 zsN44_len).setCells _ hok8
    have E8 := Lib.hid eW8
    have SB8 : Hid (Below W7.heap.size W7 W8) := hb8.trans (hs8.mono hb8.size)
    have I78 := Lib.hid (I7.out.below SB8.out)
    have I8 := Lib.hid (i8.below hs8)
    have HZ := Lib.hid hZ
    have A78 : Hid (Arr W8 w7.heap.size 77 Y) := A7.out.only (S := fun _ => False) (Only.of_below_size SB8.out) (fun h => h)
    have r12 := A78.out.row
    have rX8 := HXR.out W8 B8.out
    rw [eW8] at r12 rX8
    clear nb8 i8 hb8 hB8 hs8 eW8 hZ r8
    go_wp2_with fail
    rw [← E8.out]
    refine (num16 0 _).mono ?_
    rintro e w8b ⟨rfl, rfl⟩
    rw [← E8.out] at r12 rX8
    have HS1 : Hid (Calls Tryz.prog 25 #[.agg Y.toArray, .agg X.toArray] w8b fun e w' => e = .returned (.bool true) ∧ Below w8b.heap.size w8b w') := by
      show Calls _ _ _ _ _
      rw [HY.out, HX.out]
      obtain ⟨n, p, g, f, to, mk, v, d⟩ := t
      exact backK_same n p g f to mk v d a7 da c7 dc w8b I78.out (HIB.out _ B8.out)
    go_wp2_with fail
    refine HS1.out.mono ?_
    rintro e w9 ⟨rfl, hb9⟩
    have B9 : Hid (Below w0.heap.size w0 w9) := B8.out.trans (hb9.mono B8.out.size)
    have A89 : Hid (Arr w9 w8.heap.size 77 Z) := A8.out.only (S := fun _ => False) (Only.of_below_size hb9) (fun h => h)
    have A79 : Hid (Arr w9 w7.heap.size 77 Y) := A78.out.only (S := fun _ => False) (Only.of_below_size hb9) (fun h => h)
    have r14 := A89.out.row
    have rX9 := HXR.out w9 B9.out
    have HS2 : Hid (Calls Tryz.prog 25 #[.agg Z.toArray, .agg X.toArray] w9 fun e w' => e = .returned (.bool true) ∧ Below w9.heap.size w9 w') := by
      show Calls _ _ _ _ _
      rw [HZ.out, HX.out]
      have i89 := I8.out.below hb9
      obtain ⟨n, p, g, f, to, mk, v, d⟩ := t
      exact backK_same n p g f to mk v d a8 da c8 dc w9 i89 (HIB.out _ B9.out)
    clear hb9 r12 rX8
    go_wp2_with fail
    refine HS2.out.mono ?_
    rintro e w10 ⟨rfl, hb10⟩
    have B10 : Hid (Below w0.heap.size w0 w10) := B9.out.trans (hb10.mono B9.out.size)
    have A810 := A89.out.only (S := fun _ => False) (Only.of_below_size hb10) (fun h => h)
    have A710 := A79.out.only (S := fun _ => False) (Only.of_below_size hb10) (fun h => h)
    have HBW := Lib.hid (HB.out.trans (B10.out.mono HB.out.size))
    have rX10 := HXR.out w10 B10.out
    have ry := A710.row
    have rz := A810.row
    rw [HY.out] at ry
    rw [HZ.out] at rz
    rw [HX.out] at rX10
    have hz20 : ∀ w, (binOp .eql 23 (.agg (beC 20 0).toArray) (.agg (zU8 20).toArray)).run Tryz.prog w = .ok (.bool true) w := fun w => by rw [zU8_be20]; exact eqA_refl 0 w
    have hz21 := eqA_refl 0
    clear hb10 r14 rX9 A710 A810
    have mx : w10.cell? ⟨w.heap.size, 43, none⟩ = some (.bool t.make) := cell_cat rX10 (i := 5) rfl (by simp [txS, offOf_succ, offOf_zero])
    have hto : t.make = true → w10.row? w7.heap.size 23 20 = some (beC 20 0) ∧ w10.row? w8.heap.size 23 20 = some (beC 20 0) := by
      intro hm
      have hbk : backK t = { t with to := 0 } := if_pos hm
      rw [hbk] at ry rz
      exact ⟨row_cat ry (i := 4) rfl (by simp [txS, offOf_succ, offOf_zero]) (by simp), row_cat rz (i := 4) rfl (by simp [txS, offOf_succ, offOf_zero]) (by simp)⟩
    clear ry rz rX10
    cases hm : t.make with
    | true =>
      obtain ⟨y4, z4⟩ := hto hm
      rw [hm] at mx
      clear hto hm
      go_wp2
      go_ret
      exact ⟨rfl, HBW.out⟩
    | false =>
      rw [hm] at mx
      clear hto hm
      go_wp2
      go_ret
      exact ⟨rfl, HBW.out⟩
end Go.Proofs.YtikiciojfhfagaaGreat
namespace Go.Proofs.YtikiciojfhfagaaGreat
open Go.RowKit Go.Mun Go.WideShapes Go.ChangeShapes Go.ChangeAt

theorem wf_i64 {x : Int} (h : (Lit.int .i64 x).wf = true) : -9223372036854775808 ≤ x ∧ x ≤ 9223372036854775807 := by
  simp [Lit.wf, IntKind.min, IntKind.max, IntKind.signed, IntKind.bits] at h
  omega
theorem seg_step (l : List Value) (a n : Nat) : l.drop a = (l.drop a).take n ++ l.drop (a + n) := by
  conv => lhs; rw [← List.take_append_drop n (l.drop a), List.drop_drop]
theorem byt255 {l : List Int} (h : ∀ y ∈ l, 0 ≤ y ∧ y ≤ 255) : Byt l := fun x hx => ⟨(h x hx).1, by have := (h x hx).2; omega⟩
set_option maxRecDepth 100000 in
set_option maxHeartbeats 1000000 in
theorem open_tx {H : Type} {enc : TypeId × Value → H} {W : World} {base : Nat} {held : Bool} {r : Reach} {b0 : Nat} {v : Value} {d : DataW H} {p : List MemPlace}
    (hv : Value.okWide Tryz.prog W r b0 44 v) (h : DataW.Trod enc Tryz.prog W base (fun _ => true) held 44 v d p) :
    ∃ (t : TxP) (da : Option Addr) (dc : Nat), v = .agg (cat (txS t (.slice da t.data.length dc))).toArray ∧ TxArg t ∧ Ints W .u8 da dc t.data := by
  obtain ⟨cs, rfl, hsz⟩ := okWide_struct Tryz.underlying44 hv
  obtain ⟨fuel, hf⟩ := h
  obtain ⟨xs, n, _, _, hl, hlen, hfs⟩ := DataW.trod_struct Tryz.underlying44 hf
  have hc44 : Tryz.prog.cellsOf 44 = 77 := by kernel_rfl
  have c3 : Tryz.prog.cellsOf 3 = 1 := by kernel_rfl
  have c4 : Tryz.prog.cellsOf 4 = 1 := by kernel_rfl
  have c23 : Tryz.prog.cellsOf 23 = 20 := by kernel_rfl
  have c25 : Tryz.prog.cellsOf 25 = 32 := by kernel_rfl
  have c26 : Tryz.prog.cellsOf 26 = 1 := by kernel_rfl
  have c5 : Tryz.prog.cellsOf 5 = 1 := by kernel_rfl
  have hx8 : xs.length = 8 := hlen
  obtain ⟨l, hll⟩ : ∃ l, l = cs.toList := ⟨_, rfl⟩
  have hl77 : l.length = 77 := by rw [hll, ← hc44]; exact hl
  have k0 : DataW.trod enc Tryz.prog W base (fun _ => true) held n 3 ((cs.toList.drop 0).take (Tryz.prog.cellsOf 3)) = some (xs[0]'(by omega)) := (hfs 0 _ rfl).trans (List.getElem?_eq_getElem (by omega))
  have k1 : DataW.trod enc Tryz.prog W base (fun _ => true) held n 3 ((cs.toList.drop 1).take (Tryz.prog.cellsOf 3)) = some (xs[1]'(by omega)) := (hfs 1 _ rfl).trans (List.getElem?_eq_getElem (by omega))
  have k2 : DataW.trod enc Tryz.prog W base (fun _ => true) held n 3 ((cs.toList.drop 2).take (Tryz.prog.cellsOf 3)) = some (xs[2]'(by omega)) := (hfs 2 _ rfl).trans (List.getElem?_eq_getElem (by omega))
  have k3 : DataW.trod enc Tryz.prog W base (fun _ => true) held n 23 ((cs.toList.drop 3).take (Tryz.prog.cellsOf 23)) = some (xs[3]'(by omega)) := (hfs 3 _ rfl).trans (List.getElem?_eq_getElem (by omega))
  have k4 : DataW.trod enc Tryz.prog W base (fun _ => true) held n 23 ((cs.toList.drop 23).take (Tryz.prog.cellsOf 23)) = some (xs[4]'(by omega)) := (hfs 4 _ rfl).trans (List.getElem?_eq_getElem (by omega))
  have k5 : DataW.trod enc Tryz.prog W base (fun _ => true) held n 4 ((cs.toList.drop 43).take (Tryz.prog.cellsOf 4)) = some (xs[5]'(by omega)) := (hfs 5 _ rfl).trans (List.getElem?_eq_getElem (by omega))
  have k6 : DataW.trod enc Tryz.prog W base (fun _ => true) held n 25 ((cs.toList.drop 44).take (Tryz.prog.cellsOf 25)) = some (xs[6]'(by omega)) := (hfs 6 _ rfl).trans (List.getElem?_eq_getElem (by omega))
  have k7 : DataW.trod enc Tryz.prog W base (fun _ => true) held n 26 ((cs.toList.drop 76).take (Tryz.prog.cellsOf 26)) = some (xs[7]'(by omega)) := (hfs 7 _ rfl).trans (List.getElem?_eq_getElem (by omega))
  obtain ⟨n0, q0, _, z0⟩ := DataW.trod_int Tryz.underlying3 k0
  obtain ⟨n1, q1, _, z1⟩ := DataW.trod_int Tryz.underlying3 k1
  obtain ⟨n2, q2, _, z2⟩ := DataW.trod_int Tryz.underlying3 k2
  obtain ⟨F, q3, lF, bF⟩ := u8_of_trod Tryz.underlying23 Tryz.underlying5 c5 c23 k3
  obtain ⟨A, q4, lA, bA⟩ := u8_of_trod Tryz.underlying23 Tryz.underlying5 c5 c23 k4
  obtain ⟨b, q5, _⟩ := DataW.trod_bool Tryz.underlying4 k5
  obtain ⟨V, q6, lV, bV⟩ := u8_of_trod Tryz.underlying25 Tryz.underlying5 c5 c25 k6
  obtain ⟨da, dl, dc, D, q7, hdl, hD, hw⟩ : ∃ (da : Option Addr) (dl dc : Nat) (D : List Int), (l.drop 76).take 1 = [.slice da dl dc] ∧ dl = D.length ∧ Ints W .u8 da dc D ∧ ∀ i, i < D.length → (Lit.int .u8 (D[i]?.getD 0)).wf = true := by
    rcases open_ints Tryz.underlying26 Tryz.underlying5 c5 k7 with ⟨hcs, _⟩ | ⟨x, l', c, zs, hcs, _, h1, h2, h3, _, h4, h5⟩
    · rw [c26] at hcs
      obtain ⟨D, e1, e2, e3⟩ := Mun.Ints.of_row (w := W) (k := .u8) (a := none) (len := 0) (cap := 0) (zs := []) (.inl ⟨rfl, rfl, rfl, rfl⟩)
      exact ⟨none, 0, 0, D, by rw [hll]; exact hcs, e1, e2, e3⟩
    · rw [c26] at hcs
      obtain ⟨D, e1, e2, e3⟩ := Mun.Ints.of_row (w := W) (k := .u8) (.inr ⟨_, rfl, h1, h2, by simpa using h3, h4, h5⟩)
      exact ⟨_, _, _, D, by rw [hll]; exact hcs, e1, e2, e3⟩
  rw [c3] at q0 q1 q2
  rw [c23] at q3 q4
  rw [c4] at q5
  rw [c25] at q6
  have s0 : l.drop 0 = [.int .i64 n0] ++ l.drop 1 := by rw [seg_step l 0 1]; congr 1; rw [hll]; exact q0
  have s1 : l.drop 1 = [.int .i64 n1] ++ l.drop 2 := by rw [seg_step l 1 1]; congr 1; rw [hll]; exact q1
  have s2 : l.drop 2 = [.int .i64 n2] ++ l.drop 3 := by rw [seg_step l 2 1]; congr 1; rw [hll]; exact q2
  have s3 : l.drop 3 = u8L F ++ l.drop 23 := by rw [seg_step l 3 20]; congr 1; rw [hll]; exact q3
  have s4 : l.drop 23 = u8L A ++ l.drop 43 := by rw [seg_step l 23 20]; congr 1; rw [hll]; exact q4
  have s5 : l.drop 43 = [.bool b] ++ l.drop 44 := by rw [seg_step l 43 1]; congr 1; rw [hll]; exact q5
  have s6 : l.drop 44 = u8L V ++ l.drop 76 := by rw [seg_step l 44 32]; congr 1; rw [hll]; exact q6
  have s7 : l.drop 76 = [.slice da dl dc] ++ l.drop 77 := by rw [seg_step l 76 1]; congr 1
  have s8 : l.drop 77 = [] := List.drop_of_length_le (by omega)
  have hby := byt255 bF
  have hba := byt255 bA
  have hbv := byt255 bV
  refine ⟨⟨n0, n1, n2, beN F, beN A, b, beN V, D⟩, da, dc, ?_, ⟨wf_i64 z0, wf_i64 z1, wf_i64 z2, by have := beN_lt F hby; rw [lF] at this; exact this, by have := beN_lt A hba; rw [lA] at this; exact this, by have := beN_lt V hbv; rw [lV] at this; exact this, byt_of_wf hw⟩, hD⟩
  have hcat : l = cat (txS ⟨n0, n1, n2, beN F, beN A, b, beN V, D⟩ (.slice da D.length dc)) := by
    have e : l = l.drop 0 := rfl
    rw [e, s0, s1, s2, s3, s4, s5, s6, s7, s8, u8L_be F 20 hby lF, u8L_be A 20 hba lA, u8L_be V 32 hbv lV, hdl]
    rfl
  show Value.agg cs = _
  rw [← hcat, hll]
theorem txPacks_law {t : TxP} (ha : TxArg t) (da : Option Addr) (dc : Nat) {w : World} (hI : Ints w .u8 da dc t.data) (w' : World) (e : w' = w := by rfl) :
    Calls Tryz.prog 7 #[.agg (cat (txS t (.slice da t.data.length dc))).toArray] w' fun e w2 => e = .returned (.bool true) ∧ Below w'.heap.size w' w2 := by
  subst e; exact txPacks_walk ha da dc w' hI
end Go.Proofs.YtikiciojfhfagaaGreat
