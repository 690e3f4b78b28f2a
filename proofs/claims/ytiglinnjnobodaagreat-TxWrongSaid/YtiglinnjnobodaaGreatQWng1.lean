/-
  Which transactions are none: the plain part; the reference's Not.
  The law: which transactions are none, and that they change nothing.
-/
import Derived.Test.YtiglinnjnobodaaGreatQTx4
import Derived.Test.YtiglinnjnobodaaGreatQAcs1
set_option linter.unusedVariables false
set_option linter.unusedSimpArgs false
namespace Go.Proofs.YtiglinnjnobodaaGreat
open Go.RowKit Go.Mun

theorem accsL_unique {S : St} {l l' : List Nat} (h : AccsL S l) (h' : AccsL S l') : l = l' := by
  have n1 : l.Nodup := h.1.imp fun {a b} hlt => by omega
  have n2 : l'.Nodup := h'.1.imp fun {a b} hlt => by omega
  refine List.Perm.eq_of_pairwise (le := (· < ·)) ?_ h.1 h'.1 ((List.perm_ext_iff_of_nodup n1 n2).2 fun a => by rw [h.2 a, h'.2 a])
  intro a b _ _ h1 h2
  omega
theorem newS_slots (l : List Ac) (a k : Nat) : (newS l a).slots k = 0 := by
  have h : ∀ (l : List Ac) (S : St), (∀ a k, (S a).slots k = 0) → ∀ a k, (l.foldl (fun S x => upd S x.addr (accOf x)) S a).slots k = 0 := by
    intro l
    induction l with
    | nil => intro S hS; exact hS
    | cons x l ih =>
      intro S hS
      refine ih _ fun a k => ?_
      show (upd S x.addr (accOf x) a).slots k = 0
      unfold upd
      split
      · rfl
      · exact hS a k
  exact h l _ (fun _ _ => rfl) a k
/-- The law's transactions. -/
def wrT (k : Nat) (n : Nat) : TxP :=
  { nonce := if k = 0 then n else if k = 1 then -(n : Int) else 0
    price := if k = 2 then 2147483647 + (n : Int) else 1
    gas := if k = 3 then 2147483647 + (n : Int) else if k = 4 then 21000 - (n : Int) else 30000
    frm := if k = 6 then 50 else 1
    to := 2
    make := false
    value := if k = 5 then 999999999999970000 + n else if k = 7 then wW - 1 else 0
    data := [] }
def wrE (k : Nat) : Nat := if k = 0 then 20 else if k ≤ 3 then 1 else if k = 4 then 11 else 16
theorem wrT_ok (k n : Nat) (hn : 1 ≤ n) (hn2 : n ≤ 1000) : TxOk (wrT k n) := by
  have e : wW = 115792089237316195423570985008687907853269984665640564039457584007913129639936 := by unfold wW; decide
  have e2 : 51 < wA := by decide
  unfold wrT
  refine ⟨?_, ?_, ?_, ?_, ?_, ?_⟩
  · show (if k = 6 then 50 else 1) < wA; split <;> omega
  · show 2 < wA; omega
  · show (if k = 5 then 999999999999970000 + n else if k = 7 then wW - 1 else 0) < wW; split <;> (try split) <;> omega
  · show -9223372036854775808 ≤ (if k = 0 then (n : Int) else if k = 1 then -(n : Int) else 0) ∧ (if k = 0 then (n : Int) else if k = 1 then -(n : Int) else 0) ≤ 9223372036854775807; split <;> (try split) <;> omega
  · show -9223372036854775808 ≤ (if k = 2 then 2147483647 + (n : Int) else 1) ∧ (if k = 2 then 2147483647 + (n : Int) else 1) ≤ 9223372036854775807; split <;> omega
  · show -9223372036854775808 ≤ (if k = 3 then 2147483647 + (n : Int) else if k = 4 then 21000 - (n : Int) else 30000) ∧ (if k = 3 then 2147483647 + (n : Int) else if k = 4 then 21000 - (n : Int) else 30000) ≤ 9223372036854775807; split <;> (try split) <;> omega
theorem accG_n : (newS (genL 2) 1).nonce = 0 ∧ (newS (genL 2) 1).bal = 1000000000000000000 := by rw [newS2_1]; exact ⟨rfl, rfl⟩
theorem acc50 : (newS (genL 2) 50).nonce = 0 ∧ (newS (genL 2) 50).bal = 0 := by rw [newS2_o (by decide) (by decide)]; exact ⟨rfl, rfl⟩
theorem wrT_may (k n : Nat) (hk : k < 8) (hn : 1 ≤ n) (hn2 : n ≤ 1000) : mayTx (newS (genL 2)) (wrT k n) = wrE k := by
  have e : wW = 115792089237316195423570985008687907853269984665640564039457584007913129639936 := by unfold wW; decide
  obtain ⟨a1, a2⟩ := accG_n
  obtain ⟨b1, b2⟩ := acc50
  have hi : intrN (wrT k n) = 21000 := by simp [intrN, wrT, dataGas]
  unfold mayTx
  rw [hi]
  match k, hk with
  | 0, _ => simp [wrT, wrE, a1, a2, b1, b2] <;> (repeat' split) <;> omega
  | 1, _ => simp [wrT, wrE, a1, a2, b1, b2] <;> (repeat' split) <;> omega
  | 2, _ => simp [wrT, wrE, a1, a2, b1, b2] <;> (repeat' split) <;> omega
  | 3, _ => simp [wrT, wrE, a1, a2, b1, b2] <;> (repeat' split) <;> omega
  | 4, _ => simp [wrT, wrE, a1, a2, b1, b2] <;> (repeat' split) <;> omega
  | 5, _ => simp [wrT, wrE, a1, a2, b1, b2] <;> (repeat' split) <;> omega
  | 6, _ => simp [wrT, wrE, a1, a2, b1, b2] <;> (repeat' split) <;> omega
  | 7, _ => simp [wrT, wrE, a1, a2, b1, b2] <;> (repeat' split) <;> omega
theorem wrE_ne (k : Nat) : wrE k ≠ 0 := by
  by_cases h0 : k = 0
  · simp [wrE, h0]
  · by_cases h1 : k ≤ 3
    · simp [wrE, h0, h1]
    · by_cases h2 : k = 4 <;> simp [wrE, h0, h1, h2]
/-- The first k bytes are turned. -/
def notC (k : Nat) : List Value := (List.replicate k (255 : Int) ++ List.replicate (32 - k) 0).map (Value.int .u8)
theorem notC_len (k : Nat) (h : k ≤ 32) : (notC k).length = 32 := by simp [notC]; omega
theorem notC_set (k : Nat) (h : k < 32) : (notC k).set k (.int .u8 255) = notC (k + 1) := by
  have : ∀ k, k < 32 → (List.replicate k (255 : Int) ++ List.replicate (32 - k) 0).set k 255 = List.replicate (k + 1) 255 ++ List.replicate (32 - (k + 1)) 0 := by decide
  unfold notC
  rw [← this k h, List.map_set]
theorem notC_at (k : Nat) (h : k < 32) : (notC k)[k]? = some (.int .u8 0) := by
  have : ∀ k, k < 32 → (List.replicate k (255 : Int) ++ List.replicate (32 - k) 0)[k]? = some 0 := by decide
  unfold notC
  rw [List.getElem?_map, this k h]
  rfl
theorem notC_0 : notC 0 = beC 32 0 := by kernel_rfl
theorem notC_32 : notC 32 = beC 32 (wW - 1) := by kernel_rfl
set_option maxRecDepth 100000 in
set_option maxHeartbeats 1000000 in
theorem ref_not (w : World) : Calls Tryz.prog 30 #[.agg (beC 32 0).toArray] w fun e w' => e = .returned (.agg (beC 32 (wW - 1)).toArray) ∧ Below w.heap.size w w' := by
  rw [← notC_0, ← notC_32]
  have hz := zU8_len 32
  obtain ⟨w0, e0⟩ : ∃ w0, w0 = (w.alloc (.cells (notC 0).toArray 25)).alloc (.cells (zU8 32).toArray 25) := ⟨_, rfl⟩
  have hb0 : Below w.heap.size w w0 := by rw [e0]; exact ((Below.refl _ _).alloc (Nat.le_refl _) _).alloc (by simp) _
  have hA : Arr w0 w.heap.size 32 (notC 0) := by rw [e0]; exact (Arr.new w 32 (notC 0) 25 (notC_len 0 (by decide))).alloc _
  have hf : w0.free? (w.heap.size + 1) 0 32 = true := by rw [e0]; exact World.free?_alloc_at _ _ (by simp) (by rw [hz]; omega)
  have HE := Lib.hid e0
  have HB := Lib.hid hb0
  have HA := Lib.hid hA
  have HF := Lib.hid hf
  have hnl := notC_len 0 (by decide)
  clear e0 hb0 hA hf
  go_enter Tryz.func30, Tryz.ntmps30
  go_wp2_with fail
  rw [← HE.out]
  go_loopw [3] (fun ix wr => ∃ k : Nat, k ≤ 32 ∧ ix = .int .i64 (k : Int) ∧ Below w.heap.size w wr ∧ Arr wr w.heap.size 32 (notC k) ∧ wr.free? (w.heap.size + 1) 0 32 = true) (fun ix _ => 32 - (intOf ix).toNat)
  case atStart => exact ⟨0, by omega, rfl, HB.out, HA.out, HF.out⟩
  case round =>
    obtain ⟨k, hk, rfl, hb, hA, hf⟩ := hrel
    have HB2 := Lib.hid hb
    have HA2 := Lib.hid hA
    have HF2 := Lib.hid hf
    by_cases hlt : k < 32
    · have hk2 : (k : Int) < 32 := by omega
      have c1 : wr.cell? ⟨w.heap.size, k, none⟩ = some (.int .u8 0) := by
        have := World.row?_cell hA.row (i := k) hlt
        rw [Nat.zero_add, notC_at k hlt] at this
        exact this
      have f1 := hA.free1 hlt
      have hset := hA.set hlt (.int .u8 255)
      rw [notC_set k hlt] at hset
      have HS := Lib.hid hset
      have HS2 : Hid (Below w.heap.size w (wr.setCell ⟨w.heap.size, k, none⟩ (.int .u8 255))) := hb.setCell (p := ⟨w.heap.size, k, none⟩) (Nat.le_refl _) _
      have HS3 : Hid ((wr.setCell ⟨w.heap.size, k, none⟩ (.int .u8 255)).free? (w.heap.size + 1) 0 32 = true) := by show _ = _; rw [free?_setCell _ f1]; exact hf
      have hk1 : IntKind.i64.wrap ((k : Int) + 1) = ((k + 1 : Nat) : Int) := by rw [wrI _ (by omega) (by omega)]; omega
      have hx : bits .xor .u8 0 255 = 255 := by kernel_rfl
      clear hb hA hf hset
      go_wp2_with fail
      go_roundw
      case rel => exact ⟨k + 1, by omega, by go_num, HS2.out, HS.out, HS3.out⟩
      case measure => simp [intOf]; omega
    · obtain rfl : k = 32 := by omega
      have r1 := hA.row
      have hnl2 := notC_len 32 (by decide)
      have hok : okL 32 (notC 32) = true := by kernel_rfl
      clear hb hA
      go_wp2
      exact ret_row ty25 rfl _ rfl rfl hf hok ⟨rfl, HB2.out.setCells (by simp) _ _⟩
end Go.Proofs.YtiglinnjnobodaaGreat
namespace Go.Proofs.YtiglinnjnobodaaGreat
open Go.RowKit Go.Mun

theorem buildTxW : fillL 77 (plOf zsN44) (cat zsN44) [(3, .agg (beC 20 1).toArray), (4, .agg (beC 20 2).toArray), (2, .int .i64 30000), (1, .int .i64 1)] = some (cat (txS (wrT 9 0) (.slice none 0 0))) := by
  rw [fillL_cats _ _ _ zsN44_len]
  · rfl
  · rw [lensTx7]
    refine fits_cons ?_ (fits_cons ?_ (fits_cons ?_ (fits_cons ?_ (fits_nil _))))
    · show some 20 = some (beC 20 1).length; rw [beC_len]
    · show some 20 = some (beC 20 2).length; rw [beC_len]
    · rfl
    · rfl
theorem txS_okN (t : TxP) (a : Option Addr) (n k : Nat) : okL 77 (cat (txS t (.slice a n k))) = true := by
  refine okL_cat (txS_len _ _) fun s hs => ?_
  simp only [txS, List.mem_cons, List.not_mem_nil, or_false] at hs
  rcases hs with rfl | rfl | rfl | rfl | rfl | rfl | rfl | rfl
  all_goals first | rfl | (rw [beC_len]; exact beC_ok _ _)
/-- The law's transaction in its box. -/
structure WrR (w : World) (tb : Nat) (t : TxP) (wr : World) : Prop where
  below : Below w.heap.size w wr
  arr : Arr wr tb 77 (cat (txS t (.slice none 0 0)))
  ge : w.heap.size ≤ tb
theorem WrR.next {w wr w' : World} {tb : Nat} {t : TxP} (h : WrR w tb t wr) (hb : Below wr.heap.size wr w') : WrR w tb t w' :=
  ⟨h.below.trans (hb.mono h.below.size), ⟨((brow hb).1 _ _ _ h.arr.lt).trans h.arr.row, ((brow hb).2 _ _ _ h.arr.lt).trans h.arr.free⟩, h.ge⟩
theorem WrR.cell {w wr : World} {tb i : Nat} {t t' : TxP} {v u : Value} (h : WrR w tb t wr) (hl : (txS t (.slice none 0 0))[i]? = some [u]) (ho : offOf (txS t (.slice none 0 0)) i = i) (hi : i < 77) (he : (txS t (.slice none 0 0)).set i [v] = txS t' (.slice none 0 0)) : WrR w tb t' (wr.setCell ⟨tb, i, none⟩ v) := by
  refine ⟨h.below.setCell (p := ⟨tb, i, none⟩) h.ge _, ⟨?_, (h.arr.set hi v).free⟩, h.ge⟩
  rw [← he]
  have := cell_cat_set h.arr.row (i := i) hl v (p := i) (by rw [ho, Nat.zero_add])
  exact this
theorem WrR.row {w wr : World} {tb i off : Nat} {t t' : TxP} {c s : List Value} (h : WrR w tb t wr) (hl : (txS t (.slice none 0 0))[i]? = some s) (hs : c.length = s.length) (ho : offOf (txS t (.slice none 0 0)) i = off) (he : (txS t (.slice none 0 0)).set i c = txS t' (.slice none 0 0)) : WrR w tb t' (wr.setCells tb off c) := by
  refine ⟨h.below.setCells h.ge _ _, ⟨?_, by rw [World.free?_setCells']; exact h.arr.free⟩, h.ge⟩
  rw [← he]
  exact row_cat_set h.arr.row (i := i) hl hs (p := off) (by rw [ho, Nat.zero_add])
set_option maxRecDepth 100000 in
set_option maxHeartbeats 8000000 in
theorem txWrong_law (a0 : Int) (h0 : (Lit.int .i64 a0).wf = true) (a1 : Int) (h1 : (Lit.int .i64 a1).wf = true) (w : World) :
    Calls Tryz.prog 7 #[.int .i64 a0, .int .i64 a1] w fun e w' => e = .returned (.bool true) ∧ Below w.heap.size w w' := by
  have hA := Lib.hid (tx_alive w)
  have G2 := Lib.hid (fun w => ref_gen 2 (by decide) w)
  have N1 := Lib.hid (fun w => ref_name 1 (by decide) w)
  have N2 := Lib.hid (fun w => ref_name 2 (by decide) w)
  have N50 := Lib.hid (fun w => ref_name 50 (by decide) w)
  have RN := Lib.hid ref_not
  clear h0 h1
  go_enter Tryz.func7, Tryz.ntmps7
  go_wp2_with fail
  refine hA.out.mono ?_
  rintro e w1 ⟨rfl, hb1⟩
  have HB1 := Lib.hid hb1
  clear hb1 hA
  by_cases k0 : a1 < 1
  · go_wp2
    go_ret
    exact ⟨rfl, HB1.out⟩
  have dk0 : decide (a1 < 1) = false := decide_eq_false k0
  have HK0 := Lib.hid k0
  clear k0
  by_cases k1 : 1000 < a1
  · go_wp2
    go_ret
    exact ⟨rfl, HB1.out⟩
  have dk1 : decide (1000 < a1) = false := decide_eq_false k1
  have HK1 := Lib.hid k1
  clear k1
  obtain ⟨n, hn⟩ : ∃ n : Nat, a1 = n := ⟨a1.toNat, by have := HK0.out; omega⟩
  subst hn
  have HN : Hid (1 ≤ n ∧ n ≤ 1000) := by have := HK0.out; have := HK1.out; exact ⟨by omega, by omega⟩
  clear HK0 HK1
  have hb43 := buildTxW
  go_wp2_with fail
  refine (N1.out _).mono ?_
  rintro e w2 ⟨rfl, hb2⟩
  have HB2 := Lib.hid (HB1.out.trans (hb2.mono HB1.out.size))
  clear hb2
  go_wp2_with fail
  refine (N2.out _).mono ?_
  rintro e w3 ⟨rfl, hb3⟩
  have HB3 := Lib.hid (HB2.out.trans (hb3.mono HB2.out.size))
  clear hb3
  have hz43 := zsN44_len
  have hok43 := txS_okN (wrT 9 0) none 0 0
  have hl43 := txS_len (wrT 9 0) (.slice none 0 0)
  have hA3 : Arr (w3.alloc (.cells (cat zsN44).toArray 43)) w3.heap.size 77 (cat zsN44) := Arr.new w3 77 (cat zsN44) 43 zsN44_len
  have hf3 := hA3.free
  obtain ⟨tb, htb⟩ : ∃ tb, tb = w3.heap.size := ⟨_, rfl⟩
  obtain ⟨w4, e4⟩ : ∃ w4, w4 = (w3.alloc (.cells (cat zsN44).toArray 43)).setCells w3.heap.size 0 (cat (txS (wrT 9 0) (.slice none 0 0))) := ⟨_, rfl⟩
  have HW : Hid (WrR w tb (wrT 9 0) w4) := ⟨by rw [e4]; exact (HB3.out.alloc HB3.out.size _).setCells HB3.out.size _ _, by rw [e4, htb]; exact hA3.setCells _ hok43, by rw [htb]; exact HB3.out.size⟩
  have HE4 := Lib.hid e4
  have HTB := Lib.hid htb
  clear hA3 e4 htb HB1 HB2 HB3 N1 N2
  by_cases hk : a0 = 0
  · subst hk
    have HTO := Lib.hid (wrT_ok 0 n HN.out.1 HN.out.2)
    have HTM : Hid (mayTx (newS (genL 2)) (wrT 0 n) = 20) := wrT_may 0 n (by decide) HN.out.1 HN.out.2
    have f4 := HW.out.arr.free1 (i := 0) (by decide)
    rw [HE4.out, HTB.out] at f4
    have HT5 : Hid (WrR w tb (wrT 0 n) (w4.setCell ⟨tb, 0, none⟩ (.int .i64 (n : Int)))) := HW.out.cell (i := 0) (u := .int .i64 0) rfl (by simp [txS, offOf_succ, offOf_zero]) (by decide) (by simp [txS, wrT])
    go_wp2_with fail
    rw [← HE4.out, ← HTB.out]
    clear hb43
    refine (G2.out _).mono ?_
    rintro e w6 ⟨gv, rfl, hg⟩
    obtain ⟨b, c, rfl, hbge, hac⟩ := hg.accts (by decide) (by decide)
    have HT6 := Lib.hid (HT5.out.next hg.below)
    have HNW := Lib.hid (state_new b 0 c (genL 2) (by decide) w6 hac)
    clear hg hac hbge
    go_wp2_with fail
    refine HNW.out.mono ?_
    rintro e w7 ⟨sb, rfl, hb, own, hst, hlo⟩
    have HT7 := Lib.hid (HT6.out.next hb)
    have HST := Lib.hid hst
    have HAC := Lib.hid (fun (W : World) (hW : StateAt TU W own sb (newS (genL 2)) [] 0) => st_accounts hW (by decide) (newS_slots (genL 2)))
    clear hst hlo hb
    go_wp2_with fail
    refine (HAC.out _ HST.out).mono ?_
    rintro e w8 ⟨v1, cs1, rfl, hA1, hL1, hC1⟩
    have HT8 := Lib.hid (HT7.out.next hA1.below)
    have HST8 := Lib.hid (HST.out.below hA1.below)
    have HA1 := Lib.hid hA1
    have HL1 := Lib.hid hL1
    have hrow := HT8.out.arr.row
    have hl77 := txS_len (wrT 0 n) (.slice none 0 0)
    clear hA1 hL1 hC1
    go_wp2_with fail
    refine (tx_apply_no (cx := ⟨0, 0, 0, 0, 0⟩) HST8.out HTO.out (roAt_nil _ (fun b => own b ≠ none)) (by rw [HTM.out]; exact wrE_ne 0)).mono ?_
    rintro e w9 ⟨rfl, hb⟩
    rw [HTM.out]
    have hokr : okL 24 (cat zsN39) = true := by kernel_rfl
    have hlr := zsN39_len
    have hA9 : Arr (w9.alloc (.cells (cat zsN39).toArray 47)) w9.heap.size 24 (cat zsN39) := Arr.new w9 24 (cat zsN39) 47 zsN39_len
    have hf9 := hA9.free
    obtain ⟨wa, ea⟩ : ∃ wa, wa = (w9.alloc (.cells (cat zsN39).toArray 47)).setCells w9.heap.size 0 (cat zsN39) := ⟨_, rfl⟩
    have hba : Below w9.heap.size w9 wa := by rw [ea]; exact ((Below.refl _ _).alloc (Nat.le_refl _) _).setCells (Nat.le_refl _) _ _
    have hra : wa.row? w9.heap.size 0 24 = some (cat zsN39) := by rw [ea]; exact (hA9.setCells _ hokr).row
    have hca : wa.cell? ⟨w9.heap.size, 1, none⟩ = some (.int .i64 0) := cell_cat hra (i := 1) rfl (by simp [zsN39, offOf_succ, offOf_zero])
    have hb8a : Below w8.heap.size w8 wa := hb.trans (hba.mono hb.size)
    have HB8A := Lib.hid hb8a
    have HSTA := Lib.hid (HST8.out.below hb8a)
    have HTA := Lib.hid (HT8.out.next hb8a)
    have HAA := Lib.hid (HA1.out.next hb8a)
    have HEA := Lib.hid ea
    clear hb hba hra hb8a ea hA9 hrow hl77
    go_wp2_with fail
    rw [← HEA.out]
    clear hf9 hokr hlr
    refine (num16 20 _).mono ?_
    rintro e wb ⟨rfl, rfl⟩
    go_wp2_with fail
    refine (HAC.out _ HSTA.out).mono ?_
    rintro e wc ⟨v2, cs2, rfl, hA2, hL2, hC2⟩
    have HTC := Lib.hid (HTA.out.next hA2.below)
    have HSM := Lib.hid (same_accs hA2 (HAA.out.next hA2.below) (accsL_unique hL2 HL1.out) hC2)
    clear hA2 hL2 hC2 hca
    go_wp2_with fail
    refine HSM.out.mono ?_
    rintro e wd ⟨rfl, hb⟩
    have HTD := Lib.hid (HTC.out.next hb)
    clear hb
    go_wp2
    go_ret
    exact ⟨rfl, HTD.out.below⟩
  have db0 : (a0 == 0) = false := by simpa using hk
  have dd0 : decide (a0 = 0) = false := decide_eq_false hk
  clear hk
  by_cases hk : a0 = 1
  · subst hk
    have HTO := Lib.hid (wrT_ok 1 n HN.out.1 HN.out.2)
    have HTM : Hid (mayTx (newS (genL 2)) (wrT 1 n) = 1) := wrT_may 1 n (by decide) HN.out.1 HN.out.2
    have f4 := HW.out.arr.free1 (i := 0) (by decide)
    rw [HE4.out, HTB.out] at f4
    have HT5 : Hid (WrR w tb (wrT 1 n) (w4.setCell ⟨tb, 0, none⟩ (.int .i64 (-(n : Int))))) := HW.out.cell (i := 0) (u := .int .i64 0) rfl (by simp [txS, offOf_succ, offOf_zero]) (by decide) (by simp [txS, wrT])
    have hw1 : IntKind.i64.wrap (-(n : Int)) = -(n : Int) := by have := HN.out; exact wrI _ (by omega) (by omega)
    go_wp2_with fail
    rw [← HE4.out, ← HTB.out]
    clear hb43
    refine (G2.out _).mono ?_
    rintro e w6 ⟨gv, rfl, hg⟩
    obtain ⟨b, c, rfl, hbge, hac⟩ := hg.accts (by decide) (by decide)
    have HT6 := Lib.hid (HT5.out.next hg.below)
    have HNW := Lib.hid (state_new b 0 c (genL 2) (by decide) w6 hac)
    clear hg hac hbge
    go_wp2_with fail
    refine HNW.out.mono ?_
    rintro e w7 ⟨sb, rfl, hb, own, hst, hlo⟩
    have HT7 := Lib.hid (HT6.out.next hb)
    have HST := Lib.hid hst
    have HAC := Lib.hid (fun (W : World) (hW : StateAt TU W own sb (newS (genL 2)) [] 0) => st_accounts hW (by decide) (newS_slots (genL 2)))
    clear hst hlo hb
    go_wp2_with fail
    refine (HAC.out _ HST.out).mono ?_
    rintro e w8 ⟨v1, cs1, rfl, hA1, hL1, hC1⟩
    have HT8 := Lib.hid (HT7.out.next hA1.below)
    have HST8 := Lib.hid (HST.out.below hA1.below)
    have HA1 := Lib.hid hA1
    have HL1 := Lib.hid hL1
    have hrow := HT8.out.arr.row
    have hl77 := txS_len (wrT 1 n) (.slice none 0 0)
    clear hA1 hL1 hC1
    go_wp2_with fail
    refine (tx_apply_no (cx := ⟨0, 0, 0, 0, 0⟩) HST8.out HTO.out (roAt_nil _ (fun b => own b ≠ none)) (by rw [HTM.out]; exact wrE_ne 1)).mono ?_
    rintro e w9 ⟨rfl, hb⟩
    rw [HTM.out]
    have hokr : okL 24 (cat zsN39) = true := by kernel_rfl
    have hlr := zsN39_len
    have hA9 : Arr (w9.alloc (.cells (cat zsN39).toArray 47)) w9.heap.size 24 (cat zsN39) := Arr.new w9 24 (cat zsN39) 47 zsN39_len
    have hf9 := hA9.free
    obtain ⟨wa, ea⟩ : ∃ wa, wa = (w9.alloc (.cells (cat zsN39).toArray 47)).setCells w9.heap.size 0 (cat zsN39) := ⟨_, rfl⟩
    have hba : Below w9.heap.size w9 wa := by rw [ea]; exact ((Below.refl _ _).alloc (Nat.le_refl _) _).setCells (Nat.le_refl _) _ _
    have hra : wa.row? w9.heap.size 0 24 = some (cat zsN39) := by rw [ea]; exact (hA9.setCells _ hokr).row
    have hca : wa.cell? ⟨w9.heap.size, 1, none⟩ = some (.int .i64 0) := cell_cat hra (i := 1) rfl (by simp [zsN39, offOf_succ, offOf_zero])
    have hb8a : Below w8.heap.size w8 wa := hb.trans (hba.mono hb.size)
    have HB8A := Lib.hid hb8a
    have HSTA := Lib.hid (HST8.out.below hb8a)
    have HTA := Lib.hid (HT8.out.next hb8a)
    have HAA := Lib.hid (HA1.out.next hb8a)
    have HEA := Lib.hid ea
    clear hb hba hra hb8a ea hA9 hrow hl77
    go_wp2_with fail
    rw [← HEA.out]
    clear hf9 hokr hlr
    refine (num16 1 _).mono ?_
    rintro e wb ⟨rfl, rfl⟩
    go_wp2_with fail
    refine (HAC.out _ HSTA.out).mono ?_
    rintro e wc ⟨v2, cs2, rfl, hA2, hL2, hC2⟩
    have HTC := Lib.hid (HTA.out.next hA2.below)
    have HSM := Lib.hid (same_accs hA2 (HAA.out.next hA2.below) (accsL_unique hL2 HL1.out) hC2)
    clear hA2 hL2 hC2 hca
    go_wp2_with fail
    refine HSM.out.mono ?_
    rintro e wd ⟨rfl, hb⟩
    have HTD := Lib.hid (HTC.out.next hb)
    clear hb
    go_wp2
    go_ret
    exact ⟨rfl, HTD.out.below⟩
  have db1 : (a0 == 1) = false := by simpa using hk
  have dd1 : decide (a0 = 1) = false := decide_eq_false hk
  clear hk
  by_cases hk : a0 = 2
  · subst hk
    have HTO := Lib.hid (wrT_ok 2 n HN.out.1 HN.out.2)
    have HTM : Hid (mayTx (newS (genL 2)) (wrT 2 n) = 1) := wrT_may 2 n (by decide) HN.out.1 HN.out.2
    have f4 := HW.out.arr.free1 (i := 1) (by decide)
    rw [HE4.out, HTB.out] at f4
    have HT5 : Hid (WrR w tb (wrT 2 n) (w4.setCell ⟨tb, 1, none⟩ (.int .i64 (2147483647 + (n : Int))))) := HW.out.cell (i := 1) (u := .int .i64 1) rfl (by simp [txS, offOf_succ, offOf_zero]) (by decide) (by simp [txS, wrT])
    have hw1 : IntKind.i64.wrap (2147483647 + (n : Int)) = 2147483647 + (n : Int) := by have := HN.out; exact wrI _ (by omega) (by omega)
    go_wp2_with fail
    rw [← HE4.out, ← HTB.out]
    clear hb43
    refine (G2.out _).mono ?_
    rintro e w6 ⟨gv, rfl, hg⟩
    obtain ⟨b, c, rfl, hbge, hac⟩ := hg.accts (by decide) (by decide)
    have HT6 := Lib.hid (HT5.out.next hg.below)
    have HNW := Lib.hid (state_new b 0 c (genL 2) (by decide) w6 hac)
    clear hg hac hbge
    go_wp2_with fail
    refine HNW.out.mono ?_
    rintro e w7 ⟨sb, rfl, hb, own, hst, hlo⟩
    have HT7 := Lib.hid (HT6.out.next hb)
    have HST := Lib.hid hst
    have HAC := Lib.hid (fun (W : World) (hW : StateAt TU W own sb (newS (genL 2)) [] 0) => st_accounts hW (by decide) (newS_slots (genL 2)))
    clear hst hlo hb
    go_wp2_with fail
    refine (HAC.out _ HST.out).mono ?_
    rintro e w8 ⟨v1, cs1, rfl, hA1, hL1, hC1⟩
    have HT8 := Lib.hid (HT7.out.next hA1.below)
    have HST8 := Lib.hid (HST.out.below hA1.below)
    have HA1 := Lib.hid hA1
    have HL1 := Lib.hid hL1
    have hrow := HT8.out.arr.row
    have hl77 := txS_len (wrT 2 n) (.slice none 0 0)
    clear hA1 hL1 hC1
    go_wp2_with fail
    refine (tx_apply_no (cx := ⟨0, 0, 0, 0, 0⟩) HST8.out HTO.out (roAt_nil _ (fun b => own b ≠ none)) (by rw [HTM.out]; exact wrE_ne 2)).mono ?_
    rintro e w9 ⟨rfl, hb⟩
    rw [HTM.out]
    have hokr : okL 24 (cat zsN39) = true := by kernel_rfl
    have hlr := zsN39_len
    have hA9 : Arr (w9.alloc (.cells (cat zsN39).toArray 47)) w9.heap.size 24 (cat zsN39) := Arr.new w9 24 (cat zsN39) 47 zsN39_len
    have hf9 := hA9.free
    obtain ⟨wa, ea⟩ : ∃ wa, wa = (w9.alloc (.cells (cat zsN39).toArray 47)).setCells w9.heap.size 0 (cat zsN39) := ⟨_, rfl⟩
    have hba : Below w9.heap.size w9 wa := by rw [ea]; exact ((Below.refl _ _).alloc (Nat.le_refl _) _).setCells (Nat.le_refl _) _ _
    have hra : wa.row? w9.heap.size 0 24 = some (cat zsN39) := by rw [ea]; exact (hA9.setCells _ hokr).row
    have hca : wa.cell? ⟨w9.heap.size, 1, none⟩ = some (.int .i64 0) := cell_cat hra (i := 1) rfl (by simp [zsN39, offOf_succ, offOf_zero])
    have hb8a : Below w8.heap.size w8 wa := hb.trans (hba.mono hb.size)
    have HB8A := Lib.hid hb8a
    have HSTA := Lib.hid (HST8.out.below hb8a)
    have HTA := Lib.hid (HT8.out.next hb8a)
    have HAA := Lib.hid (HA1.out.next hb8a)
    have HEA := Lib.hid ea
    clear hb hba hra hb8a ea hA9 hrow hl77
    go_wp2_with fail
    rw [← HEA.out]
    clear hf9 hokr hlr
    refine (num16 1 _).mono ?_
    rintro e wb ⟨rfl, rfl⟩
    go_wp2_with fail
    refine (HAC.out _ HSTA.out).mono ?_
    rintro e wc ⟨v2, cs2, rfl, hA2, hL2, hC2⟩
    have HTC := Lib.hid (HTA.out.next hA2.below)
    have HSM := Lib.hid (same_accs hA2 (HAA.out.next hA2.below) (accsL_unique hL2 HL1.out) hC2)
    clear hA2 hL2 hC2 hca
    go_wp2_with fail
    refine HSM.out.mono ?_
    rintro e wd ⟨rfl, hb⟩
    have HTD := Lib.hid (HTC.out.next hb)
    clear hb
    go_wp2
    go_ret
    exact ⟨rfl, HTD.out.below⟩
  have db2 : (a0 == 2) = false := by simpa using hk
  have dd2 : decide (a0 = 2) = false := decide_eq_false hk
  clear hk
  by_cases hk : a0 = 3
  · subst hk
    have HTO := Lib.hid (wrT_ok 3 n HN.out.1 HN.out.2)
    have HTM : Hid (mayTx (newS (genL 2)) (wrT 3 n) = 1) := wrT_may 3 n (by decide) HN.out.1 HN.out.2
    have f4 := HW.out.arr.free1 (i := 2) (by decide)
    rw [HE4.out, HTB.out] at f4
    have HT5 : Hid (WrR w tb (wrT 3 n) (w4.setCell ⟨tb, 2, none⟩ (.int .i64 (2147483647 + (n : Int))))) := HW.out.cell (i := 2) (u := .int .i64 30000) rfl (by simp [txS, offOf_succ, offOf_zero]) (by decide) (by simp [txS, wrT])
    have hw1 : IntKind.i64.wrap (2147483647 + (n : Int)) = 2147483647 + (n : Int) := by have := HN.out; exact wrI _ (by omega) (by omega)
    go_wp2_with fail
    rw [← HE4.out, ← HTB.out]
    clear hb43
    refine (G2.out _).mono ?_
    rintro e w6 ⟨gv, rfl, hg⟩
    obtain ⟨b, c, rfl, hbge, hac⟩ := hg.accts (by decide) (by decide)
    have HT6 := Lib.hid (HT5.out.next hg.below)
    have HNW := Lib.hid (state_new b 0 c (genL 2) (by decide) w6 hac)
    clear hg hac hbge
    go_wp2_with fail
    refine HNW.out.mono ?_
    rintro e w7 ⟨sb, rfl, hb, own, hst, hlo⟩
    have HT7 := Lib.hid (HT6.out.next hb)
    have HST := Lib.hid hst
    have HAC := Lib.hid (fun (W : World) (hW : StateAt TU W own sb (newS (genL 2)) [] 0) => st_accounts hW (by decide) (newS_slots (genL 2)))
    clear hst hlo hb
    go_wp2_with fail
    refine (HAC.out _ HST.out).mono ?_
    rintro e w8 ⟨v1, cs1, rfl, hA1, hL1, hC1⟩
    have HT8 := Lib.hid (HT7.out.next hA1.below)
    have HST8 := Lib.hid (HST.out.below hA1.below)
    have HA1 := Lib.hid hA1
    have HL1 := Lib.hid hL1
    have hrow := HT8.out.arr.row
    have hl77 := txS_len (wrT 3 n) (.slice none 0 0)
    clear hA1 hL1 hC1
    go_wp2_with fail
    refine (tx_apply_no (cx := ⟨0, 0, 0, 0, 0⟩) HST8.out HTO.out (roAt_nil _ (fun b => own b ≠ none)) (by rw [HTM.out]; exact wrE_ne 3)).mono ?_
    rintro e w9 ⟨rfl, hb⟩
    rw [HTM.out]
    have hokr : okL 24 (cat zsN39) = true := by kernel_rfl
    have hlr := zsN39_len
    have hA9 : Arr (w9.alloc (.cells (cat zsN39).toArray 47)) w9.heap.size 24 (cat zsN39) := Arr.new w9 24 (cat zsN39) 47 zsN39_len
    have hf9 := hA9.free
    obtain ⟨wa, ea⟩ : ∃ wa, wa = (w9.alloc (.cells (cat zsN39).toArray 47)).setCells w9.heap.size 0 (cat zsN39) := ⟨_, rfl⟩
    have hba : Below w9.heap.size w9 wa := by rw [ea]; exact ((Below.refl _ _).alloc (Nat.le_refl _) _).setCells (Nat.le_refl _) _ _
    have hra : wa.row? w9.heap.size 0 24 = some (cat zsN39) := by rw [ea]; exact (hA9.setCells _ hokr).row
    have hca : wa.cell? ⟨w9.heap.size, 1, none⟩ = some (.int .i64 0) := cell_cat hra (i := 1) rfl (by simp [zsN39, offOf_succ, offOf_zero])
    have hb8a : Below w8.heap.size w8 wa := hb.trans (hba.mono hb.size)
    have HB8A := Lib.hid hb8a
    have HSTA := Lib.hid (HST8.out.below hb8a)
    have HTA := Lib.hid (HT8.out.next hb8a)
    have HAA := Lib.hid (HA1.out.next hb8a)
    have HEA := Lib.hid ea
    clear hb hba hra hb8a ea hA9 hrow hl77
    go_wp2_with fail
    rw [← HEA.out]
    clear hf9 hokr hlr
    refine (num16 1 _).mono ?_
    rintro e wb ⟨rfl, rfl⟩
    go_wp2_with fail
    refine (HAC.out _ HSTA.out).mono ?_
    rintro e wc ⟨v2, cs2, rfl, hA2, hL2, hC2⟩
    have HTC := Lib.hid (HTA.out.next hA2.below)
    have HSM := Lib.hid (same_accs hA2 (HAA.out.next hA2.below) (accsL_unique hL2 HL1.out) hC2)
    clear hA2 hL2 hC2 hca
    go_wp2_with fail
    refine HSM.out.mono ?_
    rintro e wd ⟨rfl, hb⟩
    have HTD := Lib.hid (HTC.out.next hb)
    clear hb
    go_wp2
    go_ret
    exact ⟨rfl, HTD.out.below⟩
  have db3 : (a0 == 3) = false := by simpa using hk
  have dd3 : decide (a0 = 3) = false := decide_eq_false hk
  clear hk
  by_cases hk : a0 = 4
  · subst hk
    have HTO := Lib.hid (wrT_ok 4 n HN.out.1 HN.out.2)
    have HTM : Hid (mayTx (newS (genL 2)) (wrT 4 n) = 11) := wrT_may 4 n (by decide) HN.out.1 HN.out.2
    have f4 := HW.out.arr.free1 (i := 2) (by decide)
    rw [HE4.out, HTB.out] at f4
    have HT5 : Hid (WrR w tb (wrT 4 n) (w4.setCell ⟨tb, 2, none⟩ (.int .i64 (21000 - (n : Int))))) := HW.out.cell (i := 2) (u := .int .i64 30000) rfl (by simp [txS, offOf_succ, offOf_zero]) (by decide) (by simp [txS, wrT])
    have hw1 : IntKind.i64.wrap (21000 - (n : Int)) = 21000 - (n : Int) := by have := HN.out; exact wrI _ (by omega) (by omega)
    go_wp2_with fail
    rw [← HE4.out, ← HTB.out]
    clear hb43
    refine (G2.out _).mono ?_
    rintro e w6 ⟨gv, rfl, hg⟩
    obtain ⟨b, c, rfl, hbge, hac⟩ := hg.accts (by decide) (by decide)
    have HT6 := Lib.hid (HT5.out.next hg.below)
    have HNW := Lib.hid (state_new b 0 c (genL 2) (by decide) w6 hac)
    clear hg hac hbge
    go_wp2_with fail
    refine HNW.out.mono ?_
    rintro e w7 ⟨sb, rfl, hb, own, hst, hlo⟩
    have HT7 := Lib.hid (HT6.out.next hb)
    have HST := Lib.hid hst
    have HAC := Lib.hid (fun (W : World) (hW : StateAt TU W own sb (newS (genL 2)) [] 0) => st_accounts hW (by decide) (newS_slots (genL 2)))
    clear hst hlo hb
    go_wp2_with fail
    refine (HAC.out _ HST.out).mono ?_
    rintro e w8 ⟨v1, cs1, rfl, hA1, hL1, hC1⟩
    have HT8 := Lib.hid (HT7.out.next hA1.below)
    have HST8 := Lib.hid (HST.out.below hA1.below)
    have HA1 := Lib.hid hA1
    have HL1 := Lib.hid hL1
    have hrow := HT8.out.arr.row
    have hl77 := txS_len (wrT 4 n) (.slice none 0 0)
    clear hA1 hL1 hC1
    go_wp2_with fail
    refine (tx_apply_no (cx := ⟨0, 0, 0, 0, 0⟩) HST8.out HTO.out (roAt_nil _ (fun b => own b ≠ none)) (by rw [HTM.out]; exact wrE_ne 4)).mono ?_
    rintro e w9 ⟨rfl, hb⟩
    rw [HTM.out]
    have hokr : okL 24 (cat zsN39) = true := by kernel_rfl
    have hlr := zsN39_len
    have hA9 : Arr (w9.alloc (.cells (cat zsN39).toArray 47)) w9.heap.size 24 (cat zsN39) := Arr.new w9 24 (cat zsN39) 47 zsN39_len
    have hf9 := hA9.free
    obtain ⟨wa, ea⟩ : ∃ wa, wa = (w9.alloc (.cells (cat zsN39).toArray 47)).setCells w9.heap.size 0 (cat zsN39) := ⟨_, rfl⟩
    have hba : Below w9.heap.size w9 wa := by rw [ea]; exact ((Below.refl _ _).alloc (Nat.le_refl _) _).setCells (Nat.le_refl _) _ _
    have hra : wa.row? w9.heap.size 0 24 = some (cat zsN39) := by rw [ea]; exact (hA9.setCells _ hokr).row
    have hca : wa.cell? ⟨w9.heap.size, 1, none⟩ = some (.int .i64 0) := cell_cat hra (i := 1) rfl (by simp [zsN39, offOf_succ, offOf_zero])
    have hb8a : Below w8.heap.size w8 wa := hb.trans (hba.mono hb.size)
    have HB8A := Lib.hid hb8a
    have HSTA := Lib.hid (HST8.out.below hb8a)
    have HTA := Lib.hid (HT8.out.next hb8a)
    have HAA := Lib.hid (HA1.out.next hb8a)
    have HEA := Lib.hid ea
    clear hb hba hra hb8a ea hA9 hrow hl77
    go_wp2_with fail
    rw [← HEA.out]
    clear hf9 hokr hlr
    refine (num16 11 _).mono ?_
    rintro e wb ⟨rfl, rfl⟩
    go_wp2_with fail
    refine (HAC.out _ HSTA.out).mono ?_
    rintro e wc ⟨v2, cs2, rfl, hA2, hL2, hC2⟩
    have HTC := Lib.hid (HTA.out.next hA2.below)
    have HSM := Lib.hid (same_accs hA2 (HAA.out.next hA2.below) (accsL_unique hL2 HL1.out) hC2)
    clear hA2 hL2 hC2 hca
    go_wp2_with fail
    refine HSM.out.mono ?_
    rintro e wd ⟨rfl, hb⟩
    have HTD := Lib.hid (HTC.out.next hb)
    clear hb
    go_wp2
    go_ret
    exact ⟨rfl, HTD.out.below⟩
  have db4 : (a0 == 4) = false := by simpa using hk
  have dd4 : decide (a0 = 4) = false := decide_eq_false hk
  clear hk
  by_cases hk : a0 = 5
  · subst hk
    have HTO := Lib.hid (wrT_ok 5 n HN.out.1 HN.out.2)
    have HTM : Hid (mayTx (newS (genL 2)) (wrT 5 n) = 16) := wrT_may 5 n (by decide) HN.out.1 HN.out.2
    have hw1 : IntKind.i64.wrap (999999999999970000 + (n : Int)) = ((999999999999970000 + n : Nat) : Int) := by have := HN.out; rw [wrI _ (by omega) (by omega)]; omega
    have OV := Lib.hid (fun w => ref_of ((999999999999970000 + n : Nat) : Int) (by have := HN.out; omega) (by have := HN.out; omega) w)
    rw [ofW_natT (999999999999970000 + n) (i64_wW (by have := HN.out; omega))] at OV
    go_wp2_with fail
    rw [← HE4.out, ← HTB.out]
    refine (OV.out _).mono ?_
    rintro e w5 ⟨rfl, hb⟩
    have HW5 := Lib.hid (HW.out.next hb)
    clear hb hb43
    have f4 : w5.free? tb 44 32 = true := World.free?_sub HW5.out.arr.free (by decide)
    have hok4 := beC_ok 32 (999999999999970000 + n)
    have HT5 : Hid (WrR w tb (wrT 5 n) (w5.setCells tb 44 (beC 32 (999999999999970000 + n)))) := HW5.out.row (i := 6) (s := beC 32 0) rfl (by simp) (by simp [txS, offOf_succ, offOf_zero]) (by simp [txS, wrT])
    go_wp2_with fail
    refine (G2.out _).mono ?_
    rintro e w6 ⟨gv, rfl, hg⟩
    obtain ⟨b, c, rfl, hbge, hac⟩ := hg.accts (by decide) (by decide)
    have HT6 := Lib.hid (HT5.out.next hg.below)
    have HNW := Lib.hid (state_new b 0 c (genL 2) (by decide) w6 hac)
    clear hg hac hbge
    go_wp2_with fail
    refine HNW.out.mono ?_
    rintro e w7 ⟨sb, rfl, hb, own, hst, hlo⟩
    have HT7 := Lib.hid (HT6.out.next hb)
    have HST := Lib.hid hst
    have HAC := Lib.hid (fun (W : World) (hW : StateAt TU W own sb (newS (genL 2)) [] 0) => st_accounts hW (by decide) (newS_slots (genL 2)))
    clear hst hlo hb
    go_wp2_with fail
    refine (HAC.out _ HST.out).mono ?_
    rintro e w8 ⟨v1, cs1, rfl, hA1, hL1, hC1⟩
    have HT8 := Lib.hid (HT7.out.next hA1.below)
    have HST8 := Lib.hid (HST.out.below hA1.below)
    have HA1 := Lib.hid hA1
    have HL1 := Lib.hid hL1
    have hrow := HT8.out.arr.row
    have hl77 := txS_len (wrT 5 n) (.slice none 0 0)
    clear hA1 hL1 hC1
    go_wp2_with fail
    refine (tx_apply_no (cx := ⟨0, 0, 0, 0, 0⟩) HST8.out HTO.out (roAt_nil _ (fun b => own b ≠ none)) (by rw [HTM.out]; exact wrE_ne 5)).mono ?_
    rintro e w9 ⟨rfl, hb⟩
    rw [HTM.out]
    have hokr : okL 24 (cat zsN39) = true := by kernel_rfl
    have hlr := zsN39_len
    have hA9 : Arr (w9.alloc (.cells (cat zsN39).toArray 47)) w9.heap.size 24 (cat zsN39) := Arr.new w9 24 (cat zsN39) 47 zsN39_len
    have hf9 := hA9.free
    obtain ⟨wa, ea⟩ : ∃ wa, wa = (w9.alloc (.cells (cat zsN39).toArray 47)).setCells w9.heap.size 0 (cat zsN39) := ⟨_, rfl⟩
    have hba : Below w9.heap.size w9 wa := by rw [ea]; exact ((Below.refl _ _).alloc (Nat.le_refl _) _).setCells (Nat.le_refl _) _ _
    have hra : wa.row? w9.heap.size 0 24 = some (cat zsN39) := by rw [ea]; exact (hA9.setCells _ hokr).row
    have hca : wa.cell? ⟨w9.heap.size, 1, none⟩ = some (.int .i64 0) := cell_cat hra (i := 1) rfl (by simp [zsN39, offOf_succ, offOf_zero])
    have hb8a : Below w8.heap.size w8 wa := hb.trans (hba.mono hb.size)
    have HB8A := Lib.hid hb8a
    have HSTA := Lib.hid (HST8.out.below hb8a)
    have HTA := Lib.hid (HT8.out.next hb8a)
    have HAA := Lib.hid (HA1.out.next hb8a)
    have HEA := Lib.hid ea
    clear hb hba hra hb8a ea hA9 hrow hl77
    go_wp2_with fail
    rw [← HEA.out]
    clear hf9 hokr hlr
    refine (num16 16 _).mono ?_
    rintro e wb ⟨rfl, rfl⟩
    go_wp2_with fail
    refine (HAC.out _ HSTA.out).mono ?_
    rintro e wc ⟨v2, cs2, rfl, hA2, hL2, hC2⟩
    have HTC := Lib.hid (HTA.out.next hA2.below)
    have HSM := Lib.hid (same_accs hA2 (HAA.out.next hA2.below) (accsL_unique hL2 HL1.out) hC2)
    clear hA2 hL2 hC2 hca
    go_wp2_with fail
    refine HSM.out.mono ?_
    rintro e wd ⟨rfl, hb⟩
    have HTD := Lib.hid (HTC.out.next hb)
    clear hb
    go_wp2
    go_ret
    exact ⟨rfl, HTD.out.below⟩
  have db5 : (a0 == 5) = false := by simpa using hk
  have dd5 : decide (a0 = 5) = false := decide_eq_false hk
  clear hk
  by_cases hk : a0 = 6
  · subst hk
    have HTO := Lib.hid (wrT_ok 6 n HN.out.1 HN.out.2)
    have HTM : Hid (mayTx (newS (genL 2)) (wrT 6 n) = 16) := wrT_may 6 n (by decide) HN.out.1 HN.out.2
    go_wp2_with fail
    rw [← HE4.out, ← HTB.out]
    refine (N50.out _).mono ?_
    rintro e w5 ⟨rfl, hb⟩
    have HW5 := Lib.hid (HW.out.next hb)
    clear hb hb43
    have f4 : w5.free? tb 3 20 = true := World.free?_sub HW5.out.arr.free (by decide)
    have hok4 := beC_ok 20 50
    have HT5 : Hid (WrR w tb (wrT 6 n) (w5.setCells tb 3 (beC 20 50))) := HW5.out.row (i := 3) (s := beC 20 1) rfl (by simp) (by simp [txS, offOf_succ, offOf_zero]) (by simp [txS, wrT])
    go_wp2_with fail
    refine (G2.out _).mono ?_
    rintro e w6 ⟨gv, rfl, hg⟩
    obtain ⟨b, c, rfl, hbge, hac⟩ := hg.accts (by decide) (by decide)
    have HT6 := Lib.hid (HT5.out.next hg.below)
    have HNW := Lib.hid (state_new b 0 c (genL 2) (by decide) w6 hac)
    clear hg hac hbge
    go_wp2_with fail
    refine HNW.out.mono ?_
    rintro e w7 ⟨sb, rfl, hb, own, hst, hlo⟩
    have HT7 := Lib.hid (HT6.out.next hb)
    have HST := Lib.hid hst
    have HAC := Lib.hid (fun (W : World) (hW : StateAt TU W own sb (newS (genL 2)) [] 0) => st_accounts hW (by decide) (newS_slots (genL 2)))
    clear hst hlo hb
    go_wp2_with fail
    refine (HAC.out _ HST.out).mono ?_
    rintro e w8 ⟨v1, cs1, rfl, hA1, hL1, hC1⟩
    have HT8 := Lib.hid (HT7.out.next hA1.below)
    have HST8 := Lib.hid (HST.out.below hA1.below)
    have HA1 := Lib.hid hA1
    have HL1 := Lib.hid hL1
    have hrow := HT8.out.arr.row
    have hl77 := txS_len (wrT 6 n) (.slice none 0 0)
    clear hA1 hL1 hC1
    go_wp2_with fail
    refine (tx_apply_no (cx := ⟨0, 0, 0, 0, 0⟩) HST8.out HTO.out (roAt_nil _ (fun b => own b ≠ none)) (by rw [HTM.out]; exact wrE_ne 6)).mono ?_
    rintro e w9 ⟨rfl, hb⟩
    rw [HTM.out]
    have hokr : okL 24 (cat zsN39) = true := by kernel_rfl
    have hlr := zsN39_len
    have hA9 : Arr (w9.alloc (.cells (cat zsN39).toArray 47)) w9.heap.size 24 (cat zsN39) := Arr.new w9 24 (cat zsN39) 47 zsN39_len
    have hf9 := hA9.free
    obtain ⟨wa, ea⟩ : ∃ wa, wa = (w9.alloc (.cells (cat zsN39).toArray 47)).setCells w9.heap.size 0 (cat zsN39) := ⟨_, rfl⟩
    have hba : Below w9.heap.size w9 wa := by rw [ea]; exact ((Below.refl _ _).alloc (Nat.le_refl _) _).setCells (Nat.le_refl _) _ _
    have hra : wa.row? w9.heap.size 0 24 = some (cat zsN39) := by rw [ea]; exact (hA9.setCells _ hokr).row
    have hca : wa.cell? ⟨w9.heap.size, 1, none⟩ = some (.int .i64 0) := cell_cat hra (i := 1) rfl (by simp [zsN39, offOf_succ, offOf_zero])
    have hb8a : Below w8.heap.size w8 wa := hb.trans (hba.mono hb.size)
    have HB8A := Lib.hid hb8a
    have HSTA := Lib.hid (HST8.out.below hb8a)
    have HTA := Lib.hid (HT8.out.next hb8a)
    have HAA := Lib.hid (HA1.out.next hb8a)
    have HEA := Lib.hid ea
    clear hb hba hra hb8a ea hA9 hrow hl77
    go_wp2_with fail
    rw [← HEA.out]
    clear hf9 hokr hlr
    refine (num16 16 _).mono ?_
    rintro e wb ⟨rfl, rfl⟩
    go_wp2_with fail
    refine (HAC.out _ HSTA.out).mono ?_
    rintro e wc ⟨v2, cs2, rfl, hA2, hL2, hC2⟩
    have HTC := Lib.hid (HTA.out.next hA2.below)
    have HSM := Lib.hid (same_accs hA2 (HAA.out.next hA2.below) (accsL_unique hL2 HL1.out) hC2)
    clear hA2 hL2 hC2 hca
    go_wp2_with fail
    refine HSM.out.mono ?_
    rintro e wd ⟨rfl, hb⟩
    have HTD := Lib.hid (HTC.out.next hb)
    clear hb
    go_wp2
    go_ret
    exact ⟨rfl, HTD.out.below⟩
  have db6 : (a0 == 6) = false := by simpa using hk
  have dd6 : decide (a0 = 6) = false := decide_eq_false hk
  clear hk
  by_cases hk : a0 = 7
  · subst hk
    have HTO := Lib.hid (wrT_ok 7 n HN.out.1 HN.out.2)
    have HTM : Hid (mayTx (newS (genL 2)) (wrT 7 n) = 16) := wrT_may 7 n (by decide) HN.out.1 HN.out.2
    go_wp2_with fail
    rw [← HE4.out, ← HTB.out]
    refine (RN.out _).mono ?_
    rintro e w5 ⟨rfl, hb⟩
    have HW5 := Lib.hid (HW.out.next hb)
    clear hb hb43
    have f4 : w5.free? tb 44 32 = true := World.free?_sub HW5.out.arr.free (by decide)
    have hok4 := beC_ok 32 (wW - 1)
    have HT5 : Hid (WrR w tb (wrT 7 n) (w5.setCells tb 44 (beC 32 (wW - 1)))) := HW5.out.row (i := 6) (s := beC 32 0) rfl (by simp) (by simp [txS, offOf_succ, offOf_zero]) (by simp [txS, wrT])
    go_wp2_with fail
    refine (G2.out _).mono ?_
    rintro e w6 ⟨gv, rfl, hg⟩
    obtain ⟨b, c, rfl, hbge, hac⟩ := hg.accts (by decide) (by decide)
    have HT6 := Lib.hid (HT5.out.next hg.below)
    have HNW := Lib.hid (state_new b 0 c (genL 2) (by decide) w6 hac)
    clear hg hac hbge
    go_wp2_with fail
    refine HNW.out.mono ?_
    rintro e w7 ⟨sb, rfl, hb, own, hst, hlo⟩
    have HT7 := Lib.hid (HT6.out.next hb)
    have HST := Lib.hid hst
    have HAC := Lib.hid (fun (W : World) (hW : StateAt TU W own sb (newS (genL 2)) [] 0) => st_accounts hW (by decide) (newS_slots (genL 2)))
    clear hst hlo hb
    go_wp2_with fail
    refine (HAC.out _ HST.out).mono ?_
    rintro e w8 ⟨v1, cs1, rfl, hA1, hL1, hC1⟩
    have HT8 := Lib.hid (HT7.out.next hA1.below)
    have HST8 := Lib.hid (HST.out.below hA1.below)
    have HA1 := Lib.hid hA1
    have HL1 := Lib.hid hL1
    have hrow := HT8.out.arr.row
    have hl77 := txS_len (wrT 7 n) (.slice none 0 0)
    clear hA1 hL1 hC1
    go_wp2_with fail
    refine (tx_apply_no (cx := ⟨0, 0, 0, 0, 0⟩) HST8.out HTO.out (roAt_nil _ (fun b => own b ≠ none)) (by rw [HTM.out]; exact wrE_ne 7)).mono ?_
    rintro e w9 ⟨rfl, hb⟩
    rw [HTM.out]
    have hokr : okL 24 (cat zsN39) = true := by kernel_rfl
    have hlr := zsN39_len
    have hA9 : Arr (w9.alloc (.cells (cat zsN39).toArray 47)) w9.heap.size 24 (cat zsN39) := Arr.new w9 24 (cat zsN39) 47 zsN39_len
    have hf9 := hA9.free
    obtain ⟨wa, ea⟩ : ∃ wa, wa = (w9.alloc (.cells (cat zsN39).toArray 47)).setCells w9.heap.size 0 (cat zsN39) := ⟨_, rfl⟩
    have hba : Below w9.heap.size w9 wa := by rw [ea]; exact ((Below.refl _ _).alloc (Nat.le_refl _) _).setCells (Nat.le_refl _) _ _
    have hra : wa.row? w9.heap.size 0 24 = some (cat zsN39) := by rw [ea]; exact (hA9.setCells _ hokr).row
    have hca : wa.cell? ⟨w9.heap.size, 1, none⟩ = some (.int .i64 0) := cell_cat hra (i := 1) rfl (by simp [zsN39, offOf_succ, offOf_zero])
    have hb8a : Below w8.heap.size w8 wa := hb.trans (hba.mono hb.size)
    have HB8A := Lib.hid hb8a
    have HSTA := Lib.hid (HST8.out.below hb8a)
    have HTA := Lib.hid (HT8.out.next hb8a)
    have HAA := Lib.hid (HA1.out.next hb8a)
    have HEA := Lib.hid ea
    clear hb hba hra hb8a ea hA9 hrow hl77
    go_wp2_with fail
    rw [← HEA.out]
    clear hf9 hokr hlr
    refine (num16 16 _).mono ?_
    rintro e wb ⟨rfl, rfl⟩
    go_wp2_with fail
    refine (HAC.out _ HSTA.out).mono ?_
    rintro e wc ⟨v2, cs2, rfl, hA2, hL2, hC2⟩
    have HTC := Lib.hid (HTA.out.next hA2.below)
    have HSM := Lib.hid (same_accs hA2 (HAA.out.next hA2.below) (accsL_unique hL2 HL1.out) hC2)
    clear hA2 hL2 hC2 hca
    go_wp2_with fail
    refine HSM.out.mono ?_
    rintro e wd ⟨rfl, hb⟩
    have HTD := Lib.hid (HTC.out.next hb)
    clear hb
    go_wp2
    go_ret
    exact ⟨rfl, HTD.out.below⟩
  have db7 : (a0 == 7) = false := by simpa using hk
  have dd7 : decide (a0 = 7) = false := decide_eq_false hk
  clear hk
  go_wp2_with fail
  rw [← HE4.out]
  go_ret
  exact ⟨rfl, HW.out.below⟩
end Go.Proofs.YtiglinnjnobodaaGreat
