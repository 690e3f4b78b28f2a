/-
  Transactions: contract of Apply, where the transaction calls, told of what its message comes to.
  Items as transactions: the program's Of, seven items.
  Bytes as transactions: the program's reader of a transaction.
  The reference's reader of items: the short ways.
  The reference's reader of items: facts about its head.
  A block that is one row: what is copied into it.
  The reference's Read, of what its part comes to.
  The reference's ReadTx, of what its part and its Of come to.
  The reference's Int: a word as a number, when it fits.
  The reference's IntOf, of what its WordOf comes to.
  The reference's IntOf, of what its WordOf comes to.
  The reference's WordOf: the ways that give none.
  The reference's WordOf: a word.
  The reference's WordOf: of no bytes.
  The reference's Of: the short ways.
  The machine's memory: Get.
  The machine's memory: Put.
-/
import Derived.Test.YtikiciojfhfagaaGreatQTx1
import Derived.Test.YtikiciojfhfagaaGreatQMm2
set_option linter.unusedVariables false
set_option linter.unusedSimpArgs false
namespace Go.Proofs.YtikiciojfhfagaaGreat
open Go.RowKit Go.Mun

def recS (err used : Int) (ov lv : Value) (addr : Nat) : List (List Value) := [[.int .i64 err], [.int .i64 used], [ov], [lv], beC 20 addr]
theorem recS_len (e u : Int) (ov lv : Value) (a : Nat) : (cat (recS e u ov lv a)).length = 24 := by simp only [recS, cat_len_cons, cat_len_nil]; simp
attribute [go_sem, simp] recS_len
theorem recS_ok (e u : Int) (a b : Option Addr) (k kc j jc ad : Nat) : okL 24 (cat (recS e u (.slice a k kc) (.slice b j jc) ad)) = true := by
  refine okL_cat (recS_len _ _ _ _ _) fun s hs => ?_
  simp only [recS, List.mem_cons, List.not_mem_nil, or_false] at hs
  rcases hs with rfl | rfl | rfl | rfl | rfl
  all_goals first | rfl | (rw [beC_len]; exact beC_ok _ _)
theorem msgS_ok (m : Msg) (a : Option Addr) (k c : Nat) : okL 129 (cat (msgS m (.slice a k c))) = true := by
  refine okL_cat (msgS_len _ _) fun s hs => ?_
  simp only [msgS, List.mem_cons, List.not_mem_nil, or_false] at hs
  rcases hs with rfl | rfl | rfl | rfl | rfl | rfl | rfl | rfl | rfl | rfl
  all_goals first | rfl | (rw [beC_len]; exact beC_ok _ _)
theorem lensRc : lens zsN39 = [1, 1, 1, 1, 20] := by kernel_rfl
theorem buildRc (e u : Int) (a b : Option Addr) (k kc j jc ad : Nat) : fillL 24 (plOf zsN39) (cat zsN39) [(0, .int .i64 e), (1, .int .i64 u), (2, .slice a k kc), (3, .slice b j jc), (4, .agg (beC 20 ad).toArray)] = some (cat (recS e u (.slice a k kc) (.slice b j jc) ad)) := by
  rw [fillL_cats _ _ _ zsN39_len]
  · rfl
  · rw [lensRc]
    refine fits_cons rfl (fits_cons rfl (fits_cons rfl (fits_cons rfl (fits_cons ?_ (fits_nil _)))))
    show some 20 = some (beC 20 ad).length; rw [beC_len]
theorem lensMs : lens zs42 = [1, 20, 20, 20, 32, 32, 1, 1, 1, 1] := by kernel_rfl
/-- The message of a transaction, before it is told where to. -/
def msgMk (t : TxP) : Msg := ⟨3, t.frm, 0, 0, t.value, 0, t.data, t.gas - intrN t, 0, false⟩
def msgCall (t : TxP) : Msg := ⟨0, t.frm, t.to, 0, t.value, 0, t.data, t.gas - intrN t, 0, false⟩
theorem buildMs (t : TxP) (a : Option Addr) (k c : Nat) (g : Int) (hg : g = t.gas - intrN t) : fillL 129 (plOf zs42) (cat zs42) [(0, .int .i64 3), (1, .agg (beC 20 t.frm).toArray), (4, .agg (beC 32 t.value).toArray), (6, .slice a k c), (7, .int .i64 g)] = some (cat (msgS (msgMk t) (.slice a k c))) := by
  subst hg
  rw [fillL_cats _ _ _ zs42_len]
  · rfl
  · rw [lensMs]
    refine fits_cons rfl (fits_cons ?_ (fits_cons ?_ (fits_cons rfl (fits_cons rfl (fits_nil _)))))
    · show some 20 = some (beC 20 t.frm).length; rw [beC_len]
    · show some 32 = some (beC 32 t.value).length; rw [beC_len]
theorem msgS_called (t : TxP) (dv : Value) : ((msgS (msgMk t) dv).set 0 [.int .i64 0]).set 2 (beC 20 t.to) = msgS (msgCall t) dv := rfl
theorem ctxS_origin (cx : Ctx) (a : Nat) : (ctxS cx).set 4 (beC 20 a) = ctxS { cx with origin := a } := rfl
/-- The variables of Apply. -/
structure ApB (b : Nat) (t : TxP) (dv : Value) (cx : Ctx) (w' : World) : Prop where
  tx : w'.row? b 0 77 = some (cat (txS t dv))
  cx : w'.row? (b + 1) 0 43 = some (cat (ctxS cx))
  cxf : w'.free? (b + 1) 0 43 = true
  rc : w'.free? (b + 1 + 1) 0 24 = true
theorem ApB.only {b : Nat} {t : TxP} {dv : Value} {cx : Ctx} {w1 w2 : World} {R : Nat → Prop} (h : ApB b t dv cx w1) (ho : Only R w1 w2) (h0 : ¬ R b) (h1 : ¬ R (b + 1)) (h2 : ¬ R (b + 1 + 1)) : ApB b t dv cx w2 :=
  ⟨by rw [ho.row? (World.row?_lt h.tx) h0]; exact h.tx, by rw [ho.row? (World.row?_lt h.cx) h1]; exact h.cx, by rw [ho.free? (free?_lt h.cxf) h1]; exact h.cxf, by rw [ho.free? (free?_lt h.rc) h2]; exact h.rc⟩
theorem ApB.below {b : Nat} {t : TxP} {dv : Value} {cx : Ctx} {w1 w2 : World} (h : ApB b t dv cx w1) (hb : Below w1.heap.size w1 w2) : ApB b t dv cx w2 :=
  h.only (R := fun _ => False) (Only.of_below_size hb) (fun h => h) (fun h => h) (fun h => h)
structure ApR (w : World) (own : Own) (sb : Nat) (t : TxP) (dv : Value) (cx : Ctx) (S : St) (M : List (Nat × St)) (k : Nat) (w' : World) (own' : Own) : Prop where
  box : ApB w.heap.size t dv cx w'
  st : StateAt TU w' own' sb S M k
  chg : Chg w w' own own'
  data : RoAt w' (fun c => own' c ≠ none ∨ w.heap.size ≤ c) dv t.data
  n0 : own' w.heap.size = none
  n1 : own' (w.heap.size + 1) = none
  n2 : own' (w.heap.size + 1 + 1) = none
section
variable {w : World} {own : Own} {sb : Nat} {t : TxP} {dv : Value} {cx : Ctx} {S : St} {M : List (Nat × St)} {k : Nat} {w1 : World} {own1 : Own}
theorem ApR.size (h : ApR w own sb t dv cx S M k w1 own1) : w.heap.size + 1 + 1 < w1.heap.size := free?_lt h.box.rc
theorem ApR.below {w2 : World} (h : ApR w own sb t dv cx S M k w1 own1) (hb : Below w1.heap.size w1 w2) : ApR w own sb t dv cx S M k w2 own1 :=
  ⟨h.box.below hb, h.st.below hb, h.chg.trans (Chg.below _ hb), h.data.below hb, h.n0, h.n1, h.n2⟩
theorem ApR.go {w2 : World} {own2 : Own} {S2 : St} {k2 : Nat} (h : ApR w own sb t dv cx S M k w1 own1) (hs : StateAt TU w2 own2 sb S2 M k2) (g : Chg w1 w2 own1 own2) : ApR w own sb t dv cx S2 M k2 w2 own2 := by
  have hz := h.size
  exact ⟨h.box.only g.only (fun hh => hh h.n0) (fun hh => hh h.n1) (fun hh => hh h.n2), hs, h.chg.trans g, h.data.only g.only (fun _ hh => .inl hh) (fun c hc hx => hx.imp (fun hh => by rw [← g.ext c hc]; exact hh) id), by rw [g.ext _ (by omega)]; exact h.n0, by rw [g.ext _ (by omega)]; exact h.n1, by rw [g.ext _ (by omega)]; exact h.n2⟩
/-- A box of its own turns. -/
theorem ApR.put {w2 : World} {b : Nat} (h : ApR w own sb t dv cx S M k w1 own1) (hb : w.heap.size + 1 + 1 < b) (ho : own1 b = none) (hO : Only (· = b) w1 w2) : ApR w own sb t dv cx S M k w2 own1 := by
  refine ⟨h.box.only hO (by omega) (by omega) (by omega), h.st.only hO (fun c hc => by rw [hc]; exact ho), ⟨h.chg.ext, h.chg.only.trans hO (fun i hi he => by omega)⟩, h.data.only hO (fun c hc => .inr (by omega)) (fun _ _ h => h), h.n0, h.n1, h.n2⟩
/-- The context's origin is told. -/
theorem ApR.origin (h : ApR w own sb t dv cx S M k w1 own1) (a : Nat) : ApR w own sb t dv { cx with origin := a } S M k (w1.setCells (w.heap.size + 1) 23 (beC 20 a)) own1 := by
  have hO : Only (· = w.heap.size + 1) w1 (w1.setCells (w.heap.size + 1) 23 (beC 20 a)) := (Only.refl (· = w.heap.size + 1) _).setCells (fun _ => rfl) _ _
  have hrow : (w1.setCells (w.heap.size + 1) 23 (beC 20 a)).row? (w.heap.size + 1) 0 43 = some (cat (ctxS { cx with origin := a })) := by
    have := row_cat_set h.box.cx (i := 4) (s := beC 20 cx.origin) rfl (v := beC 20 a) (by simp) (p := 23) (by simp [ctxS, offOf_succ, offOf_zero])
    rw [ctxS_origin] at this
    exact this
  refine ⟨⟨by rw [hO.row? (World.row?_lt h.box.tx) (by omega)]; exact h.box.tx, hrow, by rw [World.free?_setCells']; exact h.box.cxf, by rw [World.free?_setCells']; exact h.box.rc⟩, h.st.only hO (fun c hc => by rw [hc]; exact h.n1), ⟨h.chg.ext, h.chg.only.trans hO (fun i hi he => by omega)⟩, h.data.only hO (fun c hc => .inr (by omega)) (fun _ _ h => h), h.n0, h.n1, h.n2⟩
theorem ApR.ro (h : ApR w own sb t dv cx S M k w1 own1) : RoAt w1 (fun b => own1 b ≠ none) dv t.data := h.data.only (R := fun _ => False) (Only.refl _ _) (fun _ h => h.elim) (fun _ _ hx => .inl hx)
end
theorem ctx0_coin {w : World} {b : Nat} {cx : Ctx} (h : w.row? b 0 43 = some (cat (ctxS cx))) : w.row? b 3 20 = some (beC 20 cx.coinbase) := row_cat h (i := 3) rfl (by simp [ctxS, offOf_succ, offOf_zero]) (by simp)
section
variable {w : World} {b : Nat} {oc : Outc} {ov lv : Value}
theorem out0_gas (h : w.row? b 0 24 = some (cat (outS oc ov lv))) : w.cell? ⟨b, 0, none⟩ = some (.int .i64 oc.gas) := cell_cat h (i := 0) rfl (by simp [outS, offOf_zero])
theorem out0_err (h : w.row? b 0 24 = some (cat (outS oc ov lv))) : w.cell? ⟨b, 1, none⟩ = some (.int .i64 oc.err) := cell_cat h (i := 1) rfl (by simp [outS, offOf_succ, offOf_zero])
theorem out0_out (h : w.row? b 0 24 = some (cat (outS oc ov lv))) : w.cell? ⟨b, 2, none⟩ = some ov := cell_cat h (i := 2) rfl (by simp [outS, offOf_succ, offOf_zero])
theorem out0_logs (h : w.row? b 0 24 = some (cat (outS oc ov lv))) : w.cell? ⟨b, 3, none⟩ = some lv := cell_cat h (i := 3) rfl (by simp [outS, offOf_succ, offOf_zero])
theorem out0_addr (h : w.row? b 0 24 = some (cat (outS oc ov lv))) : w.row? b 4 20 = some (beC 20 oc.addr) := row_cat h (i := 4) rfl (by simp [outS, offOf_succ, offOf_zero]) (by simp)
end
/-- What a message comes to. -/
def RunP (w : World) (own : Own) (sb : Nat) (S' : St) (M : List (Nat × St)) (N : Nat) (o : Outc) (e : Ending) (w' : World) : Prop :=
  ∃ ov lv own' n', e = .returned (.agg (cat (outS o ov lv)).toArray) ∧ StateAt TU w' own' sb S' M n' ∧ Chg w w' own own' ∧ OutAt w' own' w.heap.size ov lv o ∧ n' ≤ N
theorem may_ok {S : St} {t : TxP} (h : mayTx S t = 0) : 0 ≤ t.nonce ∧ 0 ≤ t.price ∧ 0 ≤ t.gas ∧ t.price ≤ 2147483647 ∧ t.gas ≤ 2147483647 ∧ t.nonce = ((S t.frm).nonce : Int) ∧ t.nonce < 4611686018427387904 ∧ (intrN t : Int) ≤ t.gas ∧ t.value ≤ (S t.frm).bal ∧ (t.price * t.gas).toNat ≤ (S t.frm).bal - t.value := by
  unfold mayTx at h
  split at h
  · cases h
  split at h
  · cases h
  split at h
  · cases h
  split at h
  · cases h
  omega
def payS (S : St) (t : TxP) : St := (S.setBal t.frm ((S t.frm).bal - (t.price * t.gas).toNat)).setNonce t.frm ((S t.frm).nonce + 1)
def endTx (S : St) (t : TxP) (coin : Nat) (g : Int) : St := giveS (giveS S t.frm (g * t.price).toNat) coin ((t.gas - g) * t.price).toNat
theorem mul_bd {a b : Int} (ha : 0 ≤ a) (ha2 : a ≤ 2147483647) (hb : 0 ≤ b) (hb2 : b ≤ 2147483647) : ∃ p : Nat, a * b = p ∧ p ≤ 4611686018427387904 ∧ (a * b).toNat = p := by
  have h0 := Int.mul_nonneg ha hb
  have h1 : a * b ≤ 2147483647 * 2147483647 := Int.mul_le_mul ha2 hb2 hb (by decide)
  exact ⟨(a * b).toNat, by omega, by omega, rfl⟩
set_option maxRecDepth 100000 in
set_option maxHeartbeats 8000000 in
theorem tx_apply_call {w : World} {own : Own} {sb : Nat} {S S' : St} {M : List (Nat × St)} {k N : Nat} {t : TxP} {da : Option Addr} {dl dc : Nat} {cx : Ctx} {F : Outc → Prop} {g0 : Int} (h : StateAt TU w own sb S M k) (ht : TxOk t) (hcx : cx.coinbase < wA)
    (hd : RoAt w (fun b => own b ≠ none) (.slice da dl dc) t.data) (hmay : mayTx S t = 0) (hmk : t.make = false) (hk : k + 1 ≤ 1099511627776) (hN : N + 1 ≤ 1099511627776) (ho : 0 ≤ g0 ∧ g0 ≤ t.gas) (hF : ∀ o, F o → o.gas = g0)
    (hrun : ∀ w1 own1, StateAt TU w1 own1 sb (payS S t) M (k + 1 + 1) → RoAt w1 (fun b => own1 b ≠ none) (.slice da dl dc) t.data →
      Calls Tryz.prog 33 #[.pointer (some ⟨sb, 0, none⟩), .agg (cat (msgS (msgCall t) (.slice da dl dc))).toArray, .agg (cat (ctxS { cx with origin := t.frm })).toArray] w1 fun e w' => ∃ o, F o ∧ RunP w1 own1 sb S' M N o e w') :
    Calls Tryz.prog 17 #[.pointer (some ⟨sb, 0, none⟩), .agg (cat (txS t (.slice da dl dc))).toArray, .agg (cat (ctxS cx)).toArray] w fun e w' =>
      ∃ o, F o ∧ ∃ ov lv own', e = .returned (.tuple #[.agg (cat (recS o.err (t.gas - g0) ov lv o.addr)).toArray, .int .i64 0]) ∧ StateAt TU w' own' sb (endTx S' t cx.coinbase g0) M (N + 1 + 1) ∧ Chg w w' own own' ∧ OutAt w' own' w.heap.size ov lv o := by
  obtain ⟨m1, m2, m3, m4, m5, m6, m7, m8, m9, m10⟩ := may_ok hmay
  obtain ⟨pg, hpg, hpgl, hpgt⟩ := mul_bd m2 m4 m3 m5
  obtain ⟨gp, hgp, hgpl, hgpt⟩ := mul_bd ho.1 (Int.le_trans ho.2 m5) m2 m4
  obtain ⟨up, hup, hupl, hupt⟩ := mul_bd (show 0 ≤ t.gas - g0 by omega) (show t.gas - g0 ≤ 2147483647 by omega) m2 m4
  have hbal := h.bal t.frm
  have htl := txS_len t (.slice da dl dc)
  have hcl := ctxS_len cx
  obtain ⟨w0, e0⟩ : ∃ w0, w0 = ((w.alloc (.cells (cat (txS t (.slice da dl dc))).toArray 44)).alloc (.cells (cat (ctxS cx)).toArray 46)).alloc (.cells (cat zsN39).toArray 39) := ⟨_, rfl⟩
  have hb0 : Below w.heap.size w w0 := by rw [e0]; exact (((Below.refl _ _).alloc (Nat.le_refl _) _).alloc (by simp) _).alloc (by simp; omega) _
  have r0 : w0.row? w.heap.size 0 77 = some (cat (txS t (.slice da dl dc))) := by rw [e0, World.row?_alloc_lt _ (by simp; omega), World.row?_alloc_lt _ (by simp)]; exact World.row?_alloc_at _ _ _ rfl htl
  have hA1 : Arr w0 (w.heap.size + 1) 43 (cat (ctxS cx)) := by
    rw [e0]; have := (Arr.new (w.alloc (.cells (cat (txS t (.slice da dl dc))).toArray 44)) 43 (cat (ctxS cx)) 46 hcl).alloc (.cells (cat zsN39).toArray 39)
    simpa using this
  have f2 : w0.free? (w.heap.size + 1 + 1) 0 24 = true := by rw [e0]; exact World.free?_alloc_at _ _ (by simp) (by rw [zsN39_len]; omega)
  have hlo := h.lows
  have H0 : Hid (ApR w own sb t (.slice da dl dc) cx S M k w0 own) := ⟨⟨r0, hA1.row, hA1.free, f2⟩, h.below hb0, Chg.below own hb0, hd.only (R := fun _ => False) (Only.of_below_size hb0) (fun _ h => h.elim) (fun c hc hx => hx.elim id (fun hh => by omega)), free_own hlo (Nat.le_refl _), free_own hlo (by omega), free_own hlo (by omega)⟩
  have HE0 := Lib.hid e0
  have HTK := Lib.hid ht
  have HRUN := Lib.hid hrun
  have HF := Lib.hid hF
  have HMAY : Hid (((mayTx S t : Nat) : Int) = 0) := by show _ = _; rw [hmay]; rfl
  have HO := Lib.hid ho
  have HMK := Lib.hid hmk
  have HCX := Lib.hid hcx
  have HK := Lib.hid hk
  have HN := Lib.hid hN
  obtain ⟨bv, hbv⟩ : ∃ bv, bv = (S t.frm).bal := ⟨_, rfl⟩
  obtain ⟨nc, hnc⟩ : ∃ nc, nc = (S t.frm).nonce := ⟨_, rfl⟩
  have HBV := Lib.hid hbv
  have HPAY : Hid (payS S t = (S.setBal t.frm (bv - pg)).setNonce t.frm (nc + 1)) := by show payS S t = _; unfold payS; rw [hpgt, hbv, hnc]
  have HEND : Hid (endTx S' t cx.coinbase g0 = giveS (giveS S' t.frm gp) cx.coinbase up) := by show endTx _ _ _ _ = _; unfold endTx; rw [hgpt, hupt]
  have hpb : pg ≤ bv := by rw [hbv]; omega
  rw [← hbv] at hbal
  have hmul : IntKind.i64.wrap (t.price * t.gas) = (pg : Int) := by rw [hpg, wrI _ (by omega) (by omega)]
  have hmul2 : IntKind.i64.wrap (g0 * t.price) = (gp : Int) := by rw [hgp, wrI _ (by omega) (by omega)]
  have hmul3 : IntKind.i64.wrap ((t.gas - g0) * t.price) = (up : Int) := by rw [hup, wrI _ (by omega) (by omega)]
  have hsub2 : IntKind.i64.wrap (t.gas - g0) = t.gas - g0 := wrI _ (by omega) (by omega)
  have hinc : IntKind.i64.wrap (t.nonce + 1) = ((nc + 1 : Nat) : Int) := by rw [wrI _ (by omega) (by omega)]; omega
  have hncl : nc + 1 ≤ 9223372036854775807 := by omega
  obtain ⟨g, hg⟩ : ∃ g, g = t.gas - (intrN t : Int) := ⟨_, rfl⟩
  have hsub : IntKind.i64.wrap (t.gas - (intrN t : Int)) = g := by rw [← hg, wrI _ (by omega) (by omega)]
  have hbuild := buildMs t da dl dc g hg
  have hofw := ofW_natT pg (i64_wW (by omega))
  have HOF := Lib.hid hofw
  have hpw : pg < wW := i64_wW (by omega)
  have HUSED : Hid (gp ≤ 4611686018427387904 ∧ up ≤ 4611686018427387904 ∧ pg ≤ 4611686018427387904) := ⟨hgpl, hupl, hpgl⟩
  obtain ⟨frm_lt, to_lt, val_lt, _, _, _⟩ := ht
  have HG := Lib.hid hg
  obtain ⟨T, hT⟩ : ∃ T : World → Prop, T = ApB w.heap.size t (.slice da dl dc) cx := ⟨_, rfl⟩
  have HT := Lib.hid hT
  rw [e0] at r0
  clear h hd hmay hrun ho hk hN hF m1 m2 m3 m4 m5 m6 m7 m8 m9 m10 hpg hgp hup hpgt hgpt hupt hgpl hupl hpgl hbv hnc hofw hT e0 hb0 hA1 f2 hlo hcx hmk hg
  go_enter Tryz.func17, Tryz.ntmps17
  go_wp2_with fail
  rw [← HE0.out]
  refine (tx_may H0.out.st HTK.out H0.out.data).mono ?_
  rintro e w1 ⟨rfl, hb1⟩
  rw [HMAY.out]
  have H1 := Lib.hid (H0.out.below hb1)
  clear hb1 r0
  go_wp2_with fail
  have H1d := Lib.hid (H1.out.below (Below.refl _ _).drew)
  have t0 : T w1.drew := by rw [HT.out]; exact H1d.out.box
  refine wp_region_tree T [] (.pure 0 (.pure 1 (.take 2 (.pure 3 (.pure 4 (.take 5 (.pure 7 (.take 8 (.pure 9 (.take 10 (.pure 11 (.alt 6 (.alt 12 (.alt 13 (.alt 14 .fin .stop) .stop) .stop) .stop)))))))))))) (by kernel_rfl) (by kernel_rfl) ?_
  refine tree_pure ?_ rfl (by rfl) (fun w' hs => ?_) (fun _ _ _ h => h) ?_
  rotate_left
  · clear hs
    go_simp
    try rfl
  simp only [Act.put, tsa, tsb, tsc]
  refine tree_pure ?_ rfl (by rfl) (fun w' hs => ?_) (fun _ _ _ h => h) ?_
  rotate_left
  · clear hs
    go_simp
    try rfl
  simp only [Act.put, tsa, tsb, tsc]
  refine tree_take ?_ t0 rfl (by rfl) (fun w' hs => ?_) (fun _ _ _ h => h) ?_
  rotate_left
  · rw [HT.out] at hs
    have r := hs.tx; have q1 := tx0_price r; have q2 := tx0_gas r; have q3 := tx0_frm r
    go_simp
    try rfl
  simp only [Act.put, tsa, tsb, tsc]
  refine tree_pure ?_ rfl (by rfl) (fun w' hs => ?_) (fun _ _ _ h => h) ?_
  rotate_left
  · clear hs
    go_simp
    try rfl
  simp only [Act.put, tsa, tsb, tsc]
  refine tree_pure ?_ rfl (by rfl) (fun w' hs => ?_) (fun _ _ _ h => h) ?_
  rotate_left
  · clear hs
    go_simp
    try rfl
  simp only [Act.put, tsa, tsb, tsc]
  refine tree_take ?_ t0 rfl (by rfl) (fun w' hs => ?_) (fun _ _ _ h => h) ?_
  rotate_left
  · rw [HT.out] at hs
    have r := hs.tx; have q1 := tx0_price r; have q2 := tx0_gas r; have q3 := tx0_frm r
    go_simp
    try rfl
  simp only [Act.put, tsa, tsb, tsc]
  refine tree_pure ?_ rfl (by rfl) (fun w' hs => ?_) (fun _ _ _ h => h) ?_
  rotate_left
  · clear hs
    go_simp
    try rfl
  simp only [Act.put, tsa, tsb, tsc]
  refine tree_take ?_ t0 rfl (by rfl) (fun w' hs => ?_) (fun _ _ _ h => h) ?_
  rotate_left
  · rw [HT.out] at hs
    have r := hs.tx; have q1 := tx0_price r; have q2 := tx0_gas r; have q3 := tx0_frm r
    go_simp
    try rfl
  simp only [Act.put, tsa, tsb, tsc]
  refine tree_pure ?_ rfl (by rfl) (fun w' hs => ?_) (fun _ _ _ h => h) ?_
  rotate_left
  · clear hs
    go_simp
    try rfl
  simp only [Act.put, tsa, tsb, tsc]
  refine tree_take ?_ t0 rfl (by rfl) (fun w' hs => ?_) (fun _ _ _ h => h) ?_
  rotate_left
  · rw [HT.out] at hs
    have r := hs.tx; have q1 := tx0_price r; have q2 := tx0_gas r; have q3 := tx0_frm r
    go_simp
    try rfl
  simp only [Act.put, tsa, tsb, tsc]
  refine tree_pure (.int .i64 (pg : Int)) rfl (by rfl) (fun w' hs => ?_) (fun _ _ _ h => h) ?_
  · clear hs
    go_simp
  simp only [Act.put, tsa, tsb, tsc]
  refine tree_run rfl (fun K hK => ?_)
  go_simp
  have hc := st_balance H1d.out.st t.frm frm_lt
  rw [← HBV.out] at hc
  refine hc.mono ?_
  rintro e w2 ⟨rfl, hb⟩
  have H2 := Lib.hid (H1d.out.below hb)
  have t2 : T w2 := by rw [HT.out]; exact H2.out.box
  clear hb hc
  refine hK.out _ _ t2 ?_
  clear hK K
  refine tree_run rfl (fun K hK => ?_)
  go_simp
  have hc := word_of (pg : Int) (by omega) (by have := HUSED.out; omega) w2
  rw [HOF.out] at hc
  refine hc.mono ?_
  rintro e w3 ⟨rfl, hb⟩
  have H3 := Lib.hid (H2.out.below hb)
  have t3 : T w3 := by rw [HT.out]; exact H3.out.box
  clear hb hc
  refine hK.out _ _ t3 ?_
  clear hK K
  refine tree_run rfl (fun K hK => ?_)
  go_simp
  have hc := word_sub bv pg hbal hpw w3
  rw [show (bv + wW - pg) % wW = bv - pg by rw [show bv + wW - pg = bv - pg + wW by omega, Nat.add_mod_right, Nat.mod_eq_of_lt (by omega)]] at hc
  refine hc.mono ?_
  rintro e w4 ⟨rfl, hb⟩
  have H4 := Lib.hid (H3.out.below hb)
  have t4 : T w4 := by rw [HT.out]; exact H4.out.box
  clear hb hc
  refine hK.out _ _ t4 ?_
  clear hK K
  refine tree_run rfl (fun K hK => ?_)
  go_simp
  refine (st_setBalance H4.out.st t.frm (bv - pg) frm_lt (by omega) (by have := HK.out; omega)).mono ?_
  rintro e w5 ⟨rfl, own1, hs5, g5⟩
  have H5 := Lib.hid (H4.out.go hs5 g5)
  have t5 : T w5 := by rw [HT.out]; exact H5.out.box
  clear hs5 g5
  refine hK.out _ _ t5 ?_
  clear hK K
  refine tree_fin ?_
  clear t0 t2 t3 t4 t5
  have H5d := Lib.hid (H5.out.below (Below.refl _ _).drew)
  have t5 : T w5.drew := by rw [HT.out]; exact H5d.out.box
  have hokm := msgS_ok (msgMk t) da dl dc
  go_wp2_with fail
  refine wp_region_tree T [] (.pure 0 (.take 1 (.pure 2 (.take 3 (.pure 4 (.take 5 (.pure 6 (.take 7 (.take 8 (.alt 9 (.pure 10 (.pure 11 (.alt 12 (.alt 13 .fin .stop) .stop))) (.alt 12 (.alt 9 (.pure 10 (.pure 11 (.alt 13 .fin .stop))) .stop) .stop))))))))))) (by kernel_rfl) (by kernel_rfl) ?_
  generalize w5.drew = v5 at *
  refine tree_pure ?_ rfl (by rfl) (fun w' hs => ?_) (fun _ _ _ h => h) ?_
  rotate_left
  · clear hs
    go_simp
    try rfl
  simp only [Act.put, tsa, tsb, tsc]
  refine tree_take ?_ t5 rfl (by rfl) (fun w' hs => ?_) (fun _ _ _ h => h) ?_
  rotate_left
  · rw [HT.out] at hs
    have r := hs.tx; have q1 := tx0_price r; have q2 := tx0_gas r; have q3 := tx0_frm r; have q6 := tx0_value r; have q7 := tx0_data r
    go_simp
    try rfl
  simp only [Act.put, tsa, tsb, tsc]
  refine tree_pure ?_ rfl (by rfl) (fun w' hs => ?_) (fun _ _ _ h => h) ?_
  rotate_left
  · clear hs
    go_simp
    try rfl
  simp only [Act.put, tsa, tsb, tsc]
  refine tree_take ?_ t5 rfl (by rfl) (fun w' hs => ?_) (fun _ _ _ h => h) ?_
  rotate_left
  · rw [HT.out] at hs
    have r := hs.tx; have q1 := tx0_price r; have q2 := tx0_gas r; have q3 := tx0_frm r; have q6 := tx0_value r; have q7 := tx0_data r
    go_simp
    try rfl
  simp only [Act.put, tsa, tsb, tsc]
  refine tree_pure ?_ rfl (by rfl) (fun w' hs => ?_) (fun _ _ _ h => h) ?_
  rotate_left
  · clear hs
    go_simp
    try rfl
  simp only [Act.put, tsa, tsb, tsc]
  refine tree_take ?_ t5 rfl (by rfl) (fun w' hs => ?_) (fun _ _ _ h => h) ?_
  rotate_left
  · rw [HT.out] at hs
    have r := hs.tx; have q1 := tx0_price r; have q2 := tx0_gas r; have q3 := tx0_frm r; have q6 := tx0_value r; have q7 := tx0_data r
    go_simp
    try rfl
  simp only [Act.put, tsa, tsb, tsc]
  refine tree_pure ?_ rfl (by rfl) (fun w' hs => ?_) (fun _ _ _ h => h) ?_
  rotate_left
  · clear hs
    go_simp
    try rfl
  simp only [Act.put, tsa, tsb, tsc]
  refine tree_take ?_ t5 rfl (by rfl) (fun w' hs => ?_) (fun _ _ _ h => h) ?_
  rotate_left
  · rw [HT.out] at hs
    have r := hs.tx; have q1 := tx0_price r; have q2 := tx0_gas r; have q3 := tx0_frm r; have q6 := tx0_value r; have q7 := tx0_data r
    go_simp
    try rfl
  simp only [Act.put, tsa, tsb, tsc]
  refine tree_take ?_ t5 rfl (by rfl) (fun w' hs => ?_) (fun _ _ _ h => h) ?_
  rotate_left
  · rw [HT.out] at hs
    have r := hs.tx; have q1 := tx0_price r; have q2 := tx0_gas r; have q3 := tx0_frm r; have q6 := tx0_value r; have q7 := tx0_data r
    go_simp
    try rfl
  simp only [Act.put, tsa, tsb, tsc]
  refine tree_alt rfl (fun K hK => ?_) ?_
  · go_simp
    refine (gas_intrinsic t _ H5d.out.data).mono ?_
    rintro e wi ⟨rfl, hb⟩
    have HI := Lib.hid (H5d.out.below hb)
    have ti : T wi := by rw [HT.out]; exact HI.out.box
    clear hb
    refine hK.out _ _ ti ?_
    clear hK K
    refine tree_pure (.int .i64 g) rfl (by rfl) (fun w' hs => ?_) (fun _ _ _ h => h) ?_
    · clear hs
      go_simp
    simp only [Act.put, tsa, tsb, tsc]
    refine tree_pure ?_ rfl (by rfl) (fun w' hs => ?_) (fun _ _ _ h => h) ?_
    rotate_left
    · clear hs
      go_simp
      try rfl
    simp only [Act.put, tsa, tsb, tsc]
    refine tree_run rfl (fun K hK => ?_)
    go_simp
    obtain ⟨mb, em⟩ : ∃ mb, mb = wi.heap.size := ⟨_, rfl⟩
    obtain ⟨wa, ea⟩ : ∃ wa, wa = wi.alloc (.cells (cat zs42).toArray 77) := ⟨_, rfl⟩
    have hb : Below wi.heap.size wi wa := by rw [ea]; exact (Below.refl _ _).alloc (Nat.le_refl _) _
    have hz : Arr wa mb 129 (cat zs42) := by rw [ea, em]; exact Arr.new wi 129 (cat zs42) 77 zs42_len
    have hmb : w.heap.size + 1 + 1 < mb ∧ own1 mb = none := ⟨by rw [em]; exact HI.out.size, free_own HI.out.st.lows (by rw [em]; exact Nat.le_refl _)⟩
    have HA := Lib.hid (HI.out.below hb)
    have HZ := Lib.hid hz
    have HMB := Lib.hid hmb
    have ta : T wa := by rw [HT.out]; exact HA.out.box
    rw [← ea, ← em]
    clear hb hz hmb ea em
    refine hK.out _ _ ta ?_
    clear hK K
    refine tree_run rfl (fun K hK => ?_)
    have f9 := HZ.out.free
    go_simp
    obtain ⟨wm, em⟩ : ∃ wm, wm = wa.setCells mb 0 (cat (msgS (msgMk t) (.slice da dl dc))) := ⟨_, rfl⟩
    have hzm : Arr wm mb 129 (cat (msgS (msgMk t) (.slice da dl dc))) := by rw [em]; exact HZ.out.setCells _ hokm
    have HM := Lib.hid (HA.out.put HMB.out.1 HMB.out.2 (show Only (· = mb) wa wm by rw [em]; exact (Only.refl (· = mb) _).setCells (fun _ => rfl) _ _))
    have HZM := Lib.hid hzm
    have tm : T wm := by rw [HT.out]; exact HM.out.box
    rw [← em]
    clear em hzm f9
    refine hK.out _ _ tm ?_
    clear hK K
    refine tree_fin ?_
    clear tm ti ta t5 hokm hbuild hsub
    have q0 := tx0_nonce HM.out.box.tx
    have q3 := tx0_frm HM.out.box.tx
    have q5 := tx0_make HM.out.box.tx
    rw [HMK.out] at q5
    go_wp2_with fail
    refine (st_setNonce HM.out.st t.frm (nc + 1) frm_lt hncl (by have := HK.out; omega)).mono ?_
    rintro e w6 ⟨rfl, own2, hs6, g6⟩
    have hml := HZM.out.lt
    have H6 := Lib.hid ((HM.out.go hs6 g6).below (Below.refl _ _).drew)
    have HZ6 := Lib.hid (HZM.out.only g6.only (fun hh => hh HMB.out.2)).drew
    have HMB2 : Hid (w.heap.size + 1 + 1 < mb ∧ own2 mb = none) := ⟨HMB.out.1, by rw [g6.ext _ hml]; exact HMB.out.2⟩
    have t6 : T w6.drew := by rw [HT.out]; exact H6.out.box
    have f3 := HZ6.out.free1 (i := 0) (by omega)
    clear hs6 g6 hml q0 q3 q5
    go_wp2_with fail
    refine wp_region_tree T [] (.pure 0 (.take 1 (.pure 2 (.alt 3 (.pure 4 (.alt 5 .fin .stop)) .stop)))) (by kernel_rfl) (by kernel_rfl) ?_
    generalize w6.drew = v6 at *
    refine tree_pure ?_ rfl (by rfl) (fun w' hs => ?_) (fun _ _ _ h => h) ?_
    rotate_left
    · clear hs
      go_simp
      try rfl
    simp only [Act.put, tsa, tsb, tsc]
    refine tree_take ?_ t6 rfl (by rfl) (fun w' hs => ?_) (fun _ _ _ h => h) ?_
    rotate_left
    · rw [HT.out] at hs
      have r := hs.tx; have q4 := tx0_to r
      go_simp
      try rfl
    simp only [Act.put, tsa, tsb, tsc]
    refine tree_pure ?_ rfl (by rfl) (fun w' hs => ?_) (fun _ _ _ h => h) ?_
    rotate_left
    · clear hs
      go_simp
      try rfl
    simp only [Act.put, tsa, tsb, tsc]
    refine tree_run rfl (fun K hK => ?_)
    go_simp
    have H7 := Lib.hid (H6.out.put HMB2.out.1 HMB2.out.2 (only_cell v6 mb 0 (.int .i64 0)))
    have t7 : T (v6.setCell ⟨mb, 0, none⟩ (.int .i64 0)) := by rw [HT.out]; exact H7.out.box
    have hz7 := HZ6.out.set (i := 0) (by omega) (.int .i64 0)
    have HR7 := Lib.hid (cell_cat_set HZ6.out.row (i := 0) (u := .int .i64 3) rfl (.int .i64 0) (p := 0) (by simp [msgS, offOf_zero]))
    have f8 := World.free?_sub hz7.free (o' := 21) (n' := 20) (by omega)
    have HZ7 := Lib.hid hz7.free
    have hok8 := beC_ok 20 t.to
    have hl8 := beC_len 20 t.to
    clear hz7
    refine hK.out _ _ t7 ?_
    clear hK K
    refine tree_pure ?_ rfl (by rfl) (fun w' hs => ?_) (fun _ _ _ h => h) ?_
    rotate_left
    · clear hs
      go_simp
      try rfl
    simp only [Act.put, tsa, tsb, tsc]
    refine tree_run rfl (fun K hK => ?_)
    go_simp
    obtain ⟨w8, e8⟩ : ∃ w8, w8 = (v6.setCell ⟨mb, 0, none⟩ (.int .i64 0)).setCells mb 21 (beC 20 t.to) := ⟨_, rfl⟩
    have H8 := Lib.hid (H7.out.put HMB2.out.1 HMB2.out.2 (show Only (· = mb) _ w8 by rw [e8]; exact (Only.refl (· = mb) _).setCells (fun _ => rfl) _ _))
    have hr8 : w8.row? mb 0 129 = some (cat (msgS (msgCall t) (.slice da dl dc))) := by
      have := row_cat_set HR7.out (i := 2) (s := beC 20 0) rfl (v := beC 20 t.to) (by simp) (p := 21) (by simp [msgS, msgMk, offOf_succ, offOf_zero])
      rw [msgS_called] at this
      rw [e8]; exact this
    have HR8 := Lib.hid hr8
    have t8 : T w8 := by rw [HT.out]; exact H8.out.box
    rw [← e8]
    clear e8 hr8
    refine hK.out _ _ t8 ?_
    clear hK K
    refine tree_fin ?_
    clear t6 t7 t8 f3 f8
    have q3 := tx0_frm H8.out.box.tx
    have f9 := World.free?_sub H8.out.box.cxf (o' := 23) (n' := 20) (by omega)
    have hok9 := beC_ok 20 t.frm
    have H9 := Lib.hid (H8.out.origin t.frm)
    obtain ⟨w9, e9⟩ : ∃ w9, w9 = w8.setCells (w.heap.size + 1) 23 (beC 20 t.frm) := ⟨_, rfl⟩
    have rm9 : w9.row? mb 0 129 = some (cat (msgS (msgCall t) (.slice da dl dc))) := by
      have hO : Only (· = w.heap.size + 1) w8 w9 := by rw [e9]; exact (Only.refl (· = w.heap.size + 1) _).setCells (fun _ => rfl) _ _
      rw [hO.row? (World.row?_lt HR8.out) (by have := HMB2.out.1; omega)]; exact HR8.out
    have rc9 := H9.out.box.cx
    have HE9 := Lib.hid e9
    rw [e9] at rm9
    clear e9
    go_wp2_with fail
    rw [← HE9.out] at H9 ⊢
    refine (HRUN.out w9 own2 (by have := H9.out.st; rw [← HPAY.out] at this; exact this) H9.out.ro).mono ?_
    rintro e w10 ⟨o, hphi, ov, lv, own3, n3, rfl, hs10, g10, oa, hn3⟩
    have HPHI := Lib.hid hphi
    obtain ⟨oa1, ok1, lb1, lj1, rfl, rfl⟩ := oa.forms
    have H10 := Lib.hid (H9.out.go hs10 g10)
    have hok10 := outS_ok o oa1 lb1 o.out.length ok1 o.logs.length lj1
    have hl10 := outS_len o (.slice oa1 o.out.length ok1) (.slice lb1 o.logs.length lj1)
    have f10 : (w10.alloc (.cells (cat zs46).toArray 74)).free? w10.heap.size 0 24 = true := (Arr.new w10 24 (cat zs46) 74 zs46_len).free
    obtain ⟨w11, e11⟩ : ∃ w11, w11 = (w10.alloc (.cells (cat zs46).toArray 74)).setCells w10.heap.size 0 (cat (outS o (.slice oa1 o.out.length ok1) (.slice lb1 o.logs.length lj1))) := ⟨_, rfl⟩
    have hz11 : Arr w11 w10.heap.size 24 (cat (outS o (.slice oa1 o.out.length ok1) (.slice lb1 o.logs.length lj1))) := by rw [e11]; exact (Arr.new w10 24 (cat zs46) 74 zs46_len).setCells _ hok10
    have hb11 : Below w10.heap.size w10 w11 := by rw [e11]; exact ((Below.refl _ _).alloc (Nat.le_refl _) _).setCells (Nat.le_refl _) _ _
    have H11 := Lib.hid (H10.out.below hb11)
    have HOA := Lib.hid (oa.chg (Chg.below own3 hb11))
    have HZ11 := Lib.hid hz11
    have HOB : Hid (own3 w10.heap.size = none) := free_own H10.out.st.lows (Nat.le_refl _)
    have H9S := Lib.hid H9.out.size
    have HG10 := Lib.hid g10.only.size
    have q1a := tx0_price H11.out.box.tx
    have q2 := tx0_gas H11.out.box.tx
    have q3' := tx0_frm H11.out.box.tx
    have qg := out0_gas hz11.row
    rw [HF.out o hphi] at qg
    have HS11 := Lib.hid (tx_give (H11.out.st.mono hn3) t.frm gp frm_lt (by have := HUSED.out; omega) (by have := HN.out; omega))
    have HE11 := Lib.hid e11
    have HN3 := Lib.hid hn3
    rw [e11] at q1a q2 q3' qg
    clear hphi hs10 g10 oa hn3 e11 hz11 hb11 rm9 rc9 q3 f9
    go_wp2_with fail
    rw [← HE11.out]
    refine HS11.out.mono ?_
    rintro e w12 ⟨rfl, own4, hs12, g12⟩
    have H12 := Lib.hid (H11.out.go hs12 g12)
    have HZ12 := Lib.hid (HZ11.out.only g12.only (fun hh => hh HOB.out))
    have HOA2 := Lib.hid (HOA.out.chg g12)
    have HOB2 : Hid (own4 w10.heap.size = none) := by show _ = _; rw [g12.ext _ HZ11.out.lt]; exact HOB.out
    have HS12 := Lib.hid (tx_give hs12 cx.coinbase up HCX.out (by have := HUSED.out; omega) (by have := HN.out; omega))
    have q1 := tx0_price H12.out.box.tx
    have qc := ctx0_coin H12.out.box.cx
    clear hs12 g12 q1a q2 q3' qg f10
    go_wp2_with fail
    refine HS12.out.mono ?_
    rintro e w13 ⟨rfl, own5, hs13, g13⟩
    have H13 := Lib.hid (H12.out.go hs13 g13)
    have HZ13 := Lib.hid (HZ12.out.only g13.only (fun hh => hh HOB2.out))
    have HOA3 := Lib.hid (HOA2.out.chg g13)
    have p1 := out0_err HZ13.out.row
    have p2 := out0_out HZ13.out.row
    have p3 := out0_logs HZ13.out.row
    have p4 := out0_addr HZ13.out.row
    have fr := H13.out.box.rc
    have hbr := buildRc o.err (t.gas - g0) oa1 lb1 o.out.length ok1 o.logs.length lj1 o.addr
    have hokr := recS_ok o.err (t.gas - g0) oa1 lb1 o.out.length ok1 o.logs.length lj1 o.addr
    have hlr := recS_len o.err (t.gas - g0) (.slice oa1 o.out.length ok1) (.slice lb1 o.logs.length lj1) o.addr
    clear hs13 g13 q1 qc
    go_wp2
    refine ret_row2 tyN39 rfl _ _ rfl rfl rfl (row?_setCells_whole _ fr hokr) ?_
    have hO : Only (· = w.heap.size + 1 + 1) w13 (w13.setCells (w.heap.size + 1 + 1) 0 (cat (recS o.err (t.gas - g0) (.slice oa1 o.out.length ok1) (.slice lb1 o.logs.length lj1) o.addr))) := (Only.refl (· = w.heap.size + 1 + 1) _).setCells (fun _ => rfl) _ _
    refine ⟨o, HPHI.out, _, _, own5, rfl, ?_, ⟨H13.out.chg.ext, H13.out.chg.only.trans hO (fun i hi he => by have : i = w.heap.size + 1 + 1 := hi; omega)⟩, (HOA3.out.box H9S.out hO).mono (by have := H9S.out; omega)⟩
    rw [HEND.out]
    exact H13.out.st.only hO (fun c hc => by have : c = w.heap.size + 1 + 1 := hc; rw [this]; exact H13.out.n2)
  refine tree_run rfl (fun K hK => ?_)
  go_simp
  obtain ⟨mb, em⟩ : ∃ mb, mb = v5.heap.size := ⟨_, rfl⟩
  obtain ⟨wa, ea⟩ : ∃ wa, wa = v5.alloc (.cells (cat zs42).toArray 77) := ⟨_, rfl⟩
  have hb : Below v5.heap.size v5 wa := by rw [ea]; exact (Below.refl _ _).alloc (Nat.le_refl _) _
  have hz : Arr wa mb 129 (cat zs42) := by rw [ea, em]; exact Arr.new v5 129 (cat zs42) 77 zs42_len
  have hmb : w.heap.size + 1 + 1 < mb ∧ own1 mb = none := ⟨by rw [em]; exact H5d.out.size, free_own H5d.out.st.lows (by rw [em]; exact Nat.le_refl _)⟩
  have HA := Lib.hid (H5d.out.below hb)
  have HZ := Lib.hid hz
  have HMB := Lib.hid hmb
  have ta : T wa := by rw [HT.out]; exact HA.out.box
  rw [← ea, ← em]
  clear hb hz hmb ea em
  refine hK.out _ _ ta ?_
  clear hK K
  refine tree_run rfl (fun K hK => ?_)
  go_simp
  refine (gas_intrinsic t _ HA.out.data).mono ?_
  rintro e wi ⟨rfl, hb⟩
  have HI := Lib.hid (HA.out.below hb)
  have HZI := Lib.hid (HZ.out.only (S := fun _ => False) (Only.of_below_size hb) (fun h => h))
  have ti : T wi := by rw [HT.out]; exact HI.out.box
  clear hb
  refine hK.out _ _ ti ?_
  clear hK K
  refine tree_pure (.int .i64 g) rfl (by rfl) (fun w' hs => ?_) (fun _ _ _ h => h) ?_
  · clear hs
    go_simp
  simp only [Act.put, tsa, tsb, tsc]
  refine tree_pure ?_ rfl (by rfl) (fun w' hs => ?_) (fun _ _ _ h => h) ?_
  rotate_left
  · clear hs
    go_simp
    try rfl
  simp only [Act.put, tsa, tsb, tsc]
  refine tree_run rfl (fun K hK => ?_)
  have f9 := HZI.out.free
  go_simp
  obtain ⟨wm, em⟩ : ∃ wm, wm = wi.setCells mb 0 (cat (msgS (msgMk t) (.slice da dl dc))) := ⟨_, rfl⟩
  have hzm : Arr wm mb 129 (cat (msgS (msgMk t) (.slice da dl dc))) := by rw [em]; exact HZI.out.setCells _ hokm
  have HM := Lib.hid (HI.out.put HMB.out.1 HMB.out.2 (show Only (· = mb) wi wm by rw [em]; exact (Only.refl (· = mb) _).setCells (fun _ => rfl) _ _))
  have HZM := Lib.hid hzm
  have tm : T wm := by rw [HT.out]; exact HM.out.box
  rw [← em]
  clear em hzm f9
  refine hK.out _ _ tm ?_
  clear hK K
  refine tree_fin ?_
  clear tm ti ta t5 hokm hbuild hsub
  have q0 := tx0_nonce HM.out.box.tx
  have q3 := tx0_frm HM.out.box.tx
  have q5 := tx0_make HM.out.box.tx
  rw [HMK.out] at q5
  go_wp2_with fail
  refine (st_setNonce HM.out.st t.frm (nc + 1) frm_lt hncl (by have := HK.out; omega)).mono ?_
  rintro e w6 ⟨rfl, own2, hs6, g6⟩
  have hml := HZM.out.lt
  have H6 := Lib.hid ((HM.out.go hs6 g6).below (Below.refl _ _).drew)
  have HZ6 := Lib.hid (HZM.out.only g6.only (fun hh => hh HMB.out.2)).drew
  have HMB2 : Hid (w.heap.size + 1 + 1 < mb ∧ own2 mb = none) := ⟨HMB.out.1, by rw [g6.ext _ hml]; exact HMB.out.2⟩
  have t6 : T w6.drew := by rw [HT.out]; exact H6.out.box
  have f3 := HZ6.out.free1 (i := 0) (by omega)
  clear hs6 g6 hml q0 q3 q5
  go_wp2_with fail
  refine wp_region_tree T [] (.pure 0 (.take 1 (.pure 2 (.alt 3 (.pure 4 (.alt 5 .fin .stop)) .stop)))) (by kernel_rfl) (by kernel_rfl) ?_
  generalize w6.drew = v6 at *
  refine tree_pure ?_ rfl (by rfl) (fun w' hs => ?_) (fun _ _ _ h => h) ?_
  rotate_left
  · clear hs
    go_simp
    try rfl
  simp only [Act.put, tsa, tsb, tsc]
  refine tree_take ?_ t6 rfl (by rfl) (fun w' hs => ?_) (fun _ _ _ h => h) ?_
  rotate_left
  · rw [HT.out] at hs
    have r := hs.tx; have q4 := tx0_to r
    go_simp
    try rfl
  simp only [Act.put, tsa, tsb, tsc]
  refine tree_pure ?_ rfl (by rfl) (fun w' hs => ?_) (fun _ _ _ h => h) ?_
  rotate_left
  · clear hs
    go_simp
    try rfl
  simp only [Act.put, tsa, tsb, tsc]
  refine tree_run rfl (fun K hK => ?_)
  go_simp
  have H7 := Lib.hid (H6.out.put HMB2.out.1 HMB2.out.2 (only_cell v6 mb 0 (.int .i64 0)))
  have t7 : T (v6.setCell ⟨mb, 0, none⟩ (.int .i64 0)) := by rw [HT.out]; exact H7.out.box
  have hz7 := HZ6.out.set (i := 0) (by omega) (.int .i64 0)
  have HR7 := Lib.hid (cell_cat_set HZ6.out.row (i := 0) (u := .int .i64 3) rfl (.int .i64 0) (p := 0) (by simp [msgS, offOf_zero]))
  have f8 := World.free?_sub hz7.free (o' := 21) (n' := 20) (by omega)
  have HZ7 := Lib.hid hz7.free
  have hok8 := beC_ok 20 t.to
  have hl8 := beC_len 20 t.to
  clear hz7
  refine hK.out _ _ t7 ?_
  clear hK K
  refine tree_pure ?_ rfl (by rfl) (fun w' hs => ?_) (fun _ _ _ h => h) ?_
  rotate_left
  · clear hs
    go_simp
    try rfl
  simp only [Act.put, tsa, tsb, tsc]
  refine tree_run rfl (fun K hK => ?_)
  go_simp
  obtain ⟨w8, e8⟩ : ∃ w8, w8 = (v6.setCell ⟨mb, 0, none⟩ (.int .i64 0)).setCells mb 21 (beC 20 t.to) := ⟨_, rfl⟩
  have H8 := Lib.hid (H7.out.put HMB2.out.1 HMB2.out.2 (show Only (· = mb) _ w8 by rw [e8]; exact (Only.refl (· = mb) _).setCells (fun _ => rfl) _ _))
  have hr8 : w8.row? mb 0 129 = some (cat (msgS (msgCall t) (.slice da dl dc))) := by
    have := row_cat_set HR7.out (i := 2) (s := beC 20 0) rfl (v := beC 20 t.to) (by simp) (p := 21) (by simp [msgS, msgMk, offOf_succ, offOf_zero])
    rw [msgS_called] at this
    rw [e8]; exact this
  have HR8 := Lib.hid hr8
  have t8 : T w8 := by rw [HT.out]; exact H8.out.box
  rw [← e8]
  clear e8 hr8
  refine hK.out _ _ t8 ?_
  clear hK K
  refine tree_fin ?_
  clear t6 t7 t8 f3 f8
  have q3 := tx0_frm H8.out.box.tx
  have f9 := World.free?_sub H8.out.box.cxf (o' := 23) (n' := 20) (by omega)
  have hok9 := beC_ok 20 t.frm
  have H9 := Lib.hid (H8.out.origin t.frm)
  obtain ⟨w9, e9⟩ : ∃ w9, w9 = w8.setCells (w.heap.size + 1) 23 (beC 20 t.frm) := ⟨_, rfl⟩
  have rm9 : w9.row? mb 0 129 = some (cat (msgS (msgCall t) (.slice da dl dc))) := by
    have hO : Only (· = w.heap.size + 1) w8 w9 := by rw [e9]; exact (Only.refl (· = w.heap.size + 1) _).setCells (fun _ => rfl) _ _
    rw [hO.row? (World.row?_lt HR8.out) (by have := HMB2.out.1; omega)]; exact HR8.out
  have rc9 := H9.out.box.cx
  have HE9 := Lib.hid e9
  rw [e9] at rm9
  clear e9
  go_wp2_with fail
  rw [← HE9.out] at H9 ⊢
  refine (HRUN.out w9 own2 (by have := H9.out.st; rw [← HPAY.out] at this; exact this) H9.out.ro).mono ?_
  rintro e w10 ⟨o, hphi, ov, lv, own3, n3, rfl, hs10, g10, oa, hn3⟩
  have HPHI := Lib.hid hphi
  obtain ⟨oa1, ok1, lb1, lj1, rfl, rfl⟩ := oa.forms
  have H10 := Lib.hid (H9.out.go hs10 g10)
  have hok10 := outS_ok o oa1 lb1 o.out.length ok1 o.logs.length lj1
  have hl10 := outS_len o (.slice oa1 o.out.length ok1) (.slice lb1 o.logs.length lj1)
  have f10 : (w10.alloc (.cells (cat zs46).toArray 74)).free? w10.heap.size 0 24 = true := (Arr.new w10 24 (cat zs46) 74 zs46_len).free
  obtain ⟨w11, e11⟩ : ∃ w11, w11 = (w10.alloc (.cells (cat zs46).toArray 74)).setCells w10.heap.size 0 (cat (outS o (.slice oa1 o.out.length ok1) (.slice lb1 o.logs.length lj1))) := ⟨_, rfl⟩
  have hz11 : Arr w11 w10.heap.size 24 (cat (outS o (.slice oa1 o.out.length ok1) (.slice lb1 o.logs.length lj1))) := by rw [e11]; exact (Arr.new w10 24 (cat zs46) 74 zs46_len).setCells _ hok10
  have hb11 : Below w10.heap.size w10 w11 := by rw [e11]; exact ((Below.refl _ _).alloc (Nat.le_refl _) _).setCells (Nat.le_refl _) _ _
  have H11 := Lib.hid (H10.out.below hb11)
  have HOA := Lib.hid (oa.chg (Chg.below own3 hb11))
  have HZ11 := Lib.hid hz11
  have HOB : Hid (own3 w10.heap.size = none) := free_own H10.out.st.lows (Nat.le_refl _)
  have H9S := Lib.hid H9.out.size
  have HG10 := Lib.hid g10.only.size
  have q1a := tx0_price H11.out.box.tx
  have q2 := tx0_gas H11.out.box.tx
  have q3' := tx0_frm H11.out.box.tx
  have qg := out0_gas hz11.row
  rw [HF.out o hphi] at qg
  have HS11 := Lib.hid (tx_give (H11.out.st.mono hn3) t.frm gp frm_lt (by have := HUSED.out; omega) (by have := HN.out; omega))
  have HE11 := Lib.hid e11
  have HN3 := Lib.hid hn3
  rw [e11] at q1a q2 q3' qg
  clear hphi hs10 g10 oa hn3 e11 hz11 hb11 rm9 rc9 q3 f9
  go_wp2_with fail
  rw [← HE11.out]
  refine HS11.out.mono ?_
  rintro e w12 ⟨rfl, own4, hs12, g12⟩
  have H12 := Lib.hid (H11.out.go hs12 g12)
  have HZ12 := Lib.hid (HZ11.out.only g12.only (fun hh => hh HOB.out))
  have HOA2 := Lib.hid (HOA.out.chg g12)
  have HOB2 : Hid (own4 w10.heap.size = none) := by show _ = _; rw [g12.ext _ HZ11.out.lt]; exact HOB.out
  have HS12 := Lib.hid (tx_give hs12 cx.coinbase up HCX.out (by have := HUSED.out; omega) (by have := HN.out; omega))
  have q1 := tx0_price H12.out.box.tx
  have qc := ctx0_coin H12.out.box.cx
  clear hs12 g12 q1a q2 q3' qg f10
  go_wp2_with fail
  refine HS12.out.mono ?_
  rintro e w13 ⟨rfl, own5, hs13, g13⟩
  have H13 := Lib.hid (H12.out.go hs13 g13)
  have HZ13 := Lib.hid (HZ12.out.only g13.only (fun hh => hh HOB2.out))
  have HOA3 := Lib.hid (HOA2.out.chg g13)
  have p1 := out0_err HZ13.out.row
  have p2 := out0_out HZ13.out.row
  have p3 := out0_logs HZ13.out.row
  have p4 := out0_addr HZ13.out.row
  have fr := H13.out.box.rc
  have hbr := buildRc o.err (t.gas - g0) oa1 lb1 o.out.length ok1 o.logs.length lj1 o.addr
  have hokr := recS_ok o.err (t.gas - g0) oa1 lb1 o.out.length ok1 o.logs.length lj1 o.addr
  have hlr := recS_len o.err (t.gas - g0) (.slice oa1 o.out.length ok1) (.slice lb1 o.logs.length lj1) o.addr
  clear hs13 g13 q1 qc
  go_wp2
  refine ret_row2 tyN39 rfl _ _ rfl rfl rfl (row?_setCells_whole _ fr hokr) ?_
  have hO : Only (· = w.heap.size + 1 + 1) w13 (w13.setCells (w.heap.size + 1 + 1) 0 (cat (recS o.err (t.gas - g0) (.slice oa1 o.out.length ok1) (.slice lb1 o.logs.length lj1) o.addr))) := (Only.refl (· = w.heap.size + 1 + 1) _).setCells (fun _ => rfl) _ _
  refine ⟨o, HPHI.out, _, _, own5, rfl, ?_, ⟨H13.out.chg.ext, H13.out.chg.only.trans hO (fun i hi he => by have : i = w.heap.size + 1 + 1 := hi; omega)⟩, (HOA3.out.box H9S.out hO).mono (by have := H9S.out; omega)⟩
  rw [HEND.out]
  exact H13.out.st.only hO (fun c hc => by have : c = w.heap.size + 1 + 1 := hc; rw [this]; exact H13.out.n2)
end Go.Proofs.YtikiciojfhfagaaGreat
namespace Go.Proofs.YtikiciojfhfagaaGreat
open Go.RowKit Go.Mun

theorem KidsAt.seven {w : World} {R : Nat → Prop} {css : List (List Value)} {k0 k1 k2 k3 k4 k5 k6 : Option Bts} (h : KidsAt w R css [k0, k1, k2, k3, k4, k5, k6]) :
    ∃ c0 c1 c2 c3 c4 c5 c6, css = [c0, c1, c2, c3, c4, c5, c6] ∧ KidsAt w R [c0, c1, c2] [k0, k1, k2] ∧ KidAt w R c3 k3 ∧ KidAt w R c4 k4 ∧ KidAt w R c5 k5 ∧ KidAt w R c6 k6 := by
  match css, h with
  | [c0, c1, c2, c3, c4, c5, c6], ⟨h0, h1, h2, h3, h4, h5, h6, _⟩ => exact ⟨_, _, _, _, _, _, _, rfl, ⟨h0, h1, h2, trivial⟩, h3, h4, h5, h6⟩
theorem txS_ok (t : TxP) (a : Option Addr) (k c : Nat) : okL 77 (cat (txS t (.slice a k c))) = true := by
  refine okL_cat (txS_len _ _) fun s hs => ?_
  simp only [txS, List.mem_cons, List.not_mem_nil, or_false] at hs
  rcases hs with rfl | rfl | rfl | rfl | rfl | rfl | rfl | rfl
  all_goals first | rfl | (rw [beC_len]; exact beC_ok _ _)
theorem u8L_be (l : Bts) (n : Nat) (h : Byt l) (hn : l.length = n) : u8L l = beC n (beN l) := by
  subst hn
  unfold beC
  rw [be_beN l h]
  rfl
theorem KidAt.some {w : World} {R : Nat → Prop} {cs : List Value} {l : Bts} (h : KidAt w R cs (some l)) : ∃ a c, cs = [.bool false, .slice a l.length c, .slice none 0 0] ∧ Ints w .u8 a c l ∧ Byt l := by
  obtain ⟨a, c, h1, h2, _, h3⟩ := h; exact ⟨a, c, h1, h2, h3⟩

end Go.Proofs.YtikiciojfhfagaaGreat
namespace Go.Mun
open Go.RowKit
def Small (g : Bts → RdR) : Prop := ∀ x t n l, g x = .ok t n → t.kid = some l → l.length ≤ x.length
end Go.Mun
namespace Go.Proofs.YtikiciojfhfagaaGreat
open Go.RowKit Go.Mun

/-- What bytes say of a transaction: why not, or which. -/
def readK (L : Bts) : Nat ⊕ TxP := match rdAll L with
  | .err x => .inl x
  | .ok t _ => match ofK t with
    | none => .inl 4
    | some t => .inr t
/-- What a transaction's reader of bytes comes to. -/
def ReadTxIs (w w' : World) (r : Nat ⊕ TxP) (e : Ending) : Prop := Below w.heap.size w w' ∧ match r with
  | .inl x => e = .returned (.tuple #[.agg (cat zsN44).toArray, .int .i64 x])
  | .inr t => ∃ dv, e = .returned (.tuple #[.agg (cat (txS t dv)).toArray, .int .i64 0]) ∧ NewB w w' dv t.data ∧ Byt t.data
end Go.Proofs.YtikiciojfhfagaaGreat
namespace Go.Proofs.YtikiciojfhfagaaGreat
open Go.RowKit Go.Mun

def PartOk (d : Nat) : Prop := ∀ (a : Option Addr) (c : Nat) (L : Bts) (w : World), Ints w .u8 a c L → Byt L → L.length ≤ 16777216 → d ≤ 32 →
  Calls Tryz.prog 83 #[.slice a L.length c, .int .i64 (d : Int)] w fun e w' => ReadIs w w' (rdT d L) e
end Go.Proofs.YtikiciojfhfagaaGreat
namespace Go.Proofs.YtikiciojfhfagaaGreat
open Go.RowKit Go.Mun

/-- The head of an item, told by what is in its first byte. -/
structure Hd (L : Bts) (k : Nat) : Prop where
  k64 : k < 64
  sh : k ≤ 55 → hdR L = if k + 1 ≤ L.length then some (1, k) else none
  no : ∀ j, 55 < k → j = k - 55 → L.length < 1 + j ∨ L[1]?.getD 0 = 0 → hdR L = none
  lo : ∀ j, 55 < k → j = k - 55 → ¬ (L.length < 1 + j ∨ L[1]?.getD 0 = 0) → hdR L = if beN ((L.drop 1).take j) ≤ 55 ∨ L.length < 1 + j + beN ((L.drop 1).take j) then none else some (1 + j, beN ((L.drop 1).take j))
theorem Hd.mk' {L : Bts} {k : Nat} (hk : k < 64) (hm : (L[0]?.getD 0 % 64).toNat = k) : Hd L k := by
  have hH : hdR L = if k ≤ 55 then (if k + 1 ≤ L.length then some (1, k) else none) else if L.length < 1 + (k - 55) ∨ L[1]?.getD 0 = 0 then none
      else if beN ((L.drop 1).take (k - 55)) ≤ 55 ∨ L.length < 1 + (k - 55) + beN ((L.drop 1).take (k - 55)) then none else some (1 + (k - 55), beN ((L.drop 1).take (k - 55))) := by
    unfold hdR; rw [hm]
  refine ⟨hk, fun h => by rw [hH, if_pos h], fun j h hj h2 => ?_, fun j h hj h2 => ?_⟩
  · subst hj; rw [hH, if_neg (by omega), if_pos h2]
  · subst hj; rw [hH, if_neg (by omega), if_neg h2]
/-- What the head's loop wants of the bytes behind the first. -/
structure HdLp (w : World) (b off : Nat) (L : Bts) (j : Nat) (B : Nat → Nat) : Prop where
  cell : ∀ q : Nat, q < j → ∃ x : Nat, x < 256 ∧ w.cell? ⟨b, off + (1 + q), none⟩ = some (.int .u8 (x : Int)) ∧ B (q + 1) = B q * 256 + x
  mono : ∀ q : Nat, q ≤ j → B q ≤ B j
  nil : B 0 = 0
theorem HdLp.of {w : World} {b off : Nat} {L : Bts} {j : Nat} (hc : ∀ i, i < L.length → w.cell? ⟨b, off + i, none⟩ = some (.int .u8 (L[i]?.getD 0))) (hby : Byt L) (hl : 1 + j ≤ L.length) :
    HdLp w b off L j (fun q => beN ((L.drop 1).take q)) := by
  refine ⟨fun q hq => ?_, fun q hq => beN_take_le _ (fun x hx => hby x (List.mem_of_mem_drop hx)) q j hq, rfl⟩
  have h1 : 1 + q < L.length := by omega
  have h2 : (0 : Int) ≤ L[1 + q]?.getD 0 ∧ L[1 + q]?.getD 0 < 256 := by rw [List.getElem?_eq_getElem h1]; exact hby _ (List.getElem_mem _)
  refine ⟨(L[1 + q]?.getD 0).toNat, by omega, ?_, ?_⟩
  · rw [hc (1 + q) h1]
    congr 2
    omega
  · have := beN_take (L.drop 1) q (by rw [List.length_drop]; omega)
    rw [List.getElem?_drop] at this
    exact this
end Go.Proofs.YtikiciojfhfagaaGreat
namespace Go.Proofs.YtikiciojfhfagaaGreat
open Go.RowKit Go.Mun

def Whole (w : World) (b : Nat) (t : TypeId) (L : List Value) : Prop := w.heap[b]? = some (.cells L.toArray t (0, 0))
theorem Whole.new (w : World) (t : TypeId) (L : List Value) : Whole (w.alloc (.cells L.toArray t)) w.heap.size t L := heap_alloc_new w (.cells L.toArray t)
theorem Whole.lt {w : World} {b : Nat} {t : TypeId} {L : List Value} (h : Whole w b t L) : b < w.heap.size := (Array.getElem?_eq_some_iff.1 h).1
theorem Whole.set {w : World} {b : Nat} {t : TypeId} {L : List Value} (h : Whole w b t L) (i : Nat) (v : Value) : Whole (w.setCell ⟨b, i, none⟩ v) b t (L.set i v) := by
  have := setCell_heap (w := w) (b := b) (o := i) L.toArray t (0, 0) v h
  unfold Whole
  rw [this, List.setIfInBounds_toArray]
theorem Whole.only {w w' : World} {S : Nat → Prop} {b : Nat} {t : TypeId} {L : List Value} (h : Whole w b t L) (ho : Only S w w') (hs : ¬ S b) : Whole w' b t L := (ho.block b h.lt hs).trans h
theorem Whole.below {w w' : World} {b : Nat} {t : TypeId} {L : List Value} (h : Whole w b t L) (hb : Below w.heap.size w w') : Whole w' b t L := h.only (S := fun _ => False) (Only.of_below_size hb) (fun h => h)
theorem Whole.arr {w : World} {b n : Nat} {t : TypeId} {L : List Value} (h : Whole w b t L) (hn : L.length = n) : Arr w b n L := by
  subst hn
  refine ⟨?_, ?_⟩
  · unfold World.row?
    rw [show w.heap[b]? = _ from h]
    simp
  · unfold World.free?
    rw [show w.heap[b]? = _ from h]
    simp
theorem only_setRow (w : World) (g : Nat) (cs : Array Value) : Only (· = g) w (w.setRow g cs) :=
  ⟨rfl, rfl, rfl, by simp [World.setRow], fun k _ hs => setRow_other w g k cs hs⟩
/-- A copy over a segment. -/
theorem splice_cat {l : List (List Value)} {i : Nat} {s : List Value} (hs : l[i]? = some s) {v : List Value} (hv : v.length = s.length) {p : Nat} (hp : p = offOf l i) : splice (cat l) p v = cat (l.set i v) := by
  subst hp
  have hle := off_le hs
  rw [← lay_eq _ _ _ (by omega), lay_cat hs hv]
end Go.Proofs.YtikiciojfhfagaaGreat
namespace Go.Proofs.YtikiciojfhfagaaGreat
open Go.RowKit Go.Mun

end Go.Proofs.YtikiciojfhfagaaGreat
namespace Go.Proofs.YtikiciojfhfagaaGreat
open Go.RowKit Go.Mun

def RefOfOk : Prop := ∀ (R : Nat → Prop) (cs : List Value) (t : Top) (w : World), TopAt w R cs t → (∀ ks l, t = .list ks → some l ∈ ks → l.length ≤ 70000000000000) →
  Calls Tryz.prog 58 #[.agg cs.toArray] w fun e w' => OfIs w w' (ofK t) e
end Go.Proofs.YtikiciojfhfagaaGreat
namespace Go.Proofs.YtikiciojfhfagaaGreat
open Go.RowKit Go.Mun

/-- A word's number, when it fits. -/
def fitK (k : Nat) : Option Nat := if k < 9223372036854775808 then some k else none
end Go.Proofs.YtikiciojfhfagaaGreat
namespace Go.Proofs.YtikiciojfhfagaaGreat
open Go.RowKit Go.Mun

end Go.Proofs.YtikiciojfhfagaaGreat
namespace Go.Proofs.YtikiciojfhfagaaGreat
open Go.RowKit Go.Mun

def RefWordOk : Prop := ∀ (R : Nat → Prop) (cs : List Value) (k : Option Bts) (w : World), KidAt w R cs k →
  Calls Tryz.prog 85 #[.agg cs.toArray] w fun e w' => e = .returned (.tuple #[.agg (beC 32 ((wordK k).getD 0)).toArray, .bool (wordK k).isSome]) ∧ Below w.heap.size w w'
end Go.Proofs.YtikiciojfhfagaaGreat
namespace Go.Proofs.YtikiciojfhfagaaGreat
open Go.RowKit Go.Mun

end Go.Proofs.YtikiciojfhfagaaGreat
namespace Go.Proofs.YtikiciojfhfagaaGreat
open Go.RowKit Go.Mun

theorem zU8_be : zU8 32 = beC 32 0 := by kernel_rfl
end Go.Proofs.YtikiciojfhfagaaGreat
namespace Go.Proofs.YtikiciojfhfagaaGreat
open Go.RowKit Go.Mun

end Go.Proofs.YtikiciojfhfagaaGreat
namespace Go.Proofs.YtikiciojfhfagaaGreat
open Go.RowKit Go.Mun

theorem Whole.seg {w : World} {b : Nat} {t : TypeId} {l : List (List Value)} (h : Whole w b t (cat l)) {i : Nat} {u : Value} (hs : l[i]? = some [u]) (v : Value) {p : Nat} (hp : p = offOf l i) : Whole (w.setCell ⟨b, p, none⟩ v) b t (cat (l.set i [v])) := by
  have h1 := h.set p v
  have hle := off_le hs
  rw [← splice_one _ _ _ (by subst hp; simp at hle; omega), splice_cat (v := [v]) hs rfl hp] at h1
  exact h1
theorem _root_.Go.Mun.Arr.seg {w : World} {b N : Nat} {l : List (List Value)} (h : Arr w b N (cat l)) {i : Nat} {u : Value} (hs : l[i]? = some [u]) (v : Value) {p : Nat} (hp : p = offOf l i) : Arr (w.setCell ⟨b, p, none⟩ v) b N (cat (l.set i [v])) := by
  have hle := off_le hs
  have hN := h.len
  exact ⟨cell_cat_set h.row hs v (by omega), by rw [free?_setCell _ (h.free1 (i := p) (by subst hp; simp at hle; omega))]; exact h.free⟩
theorem ints_src {w : World} {a : Option Addr} {c : Nat} {l : Bts} (hI : Ints w .u8 a c l) (hl : 0 < l.length) : ∃ ad, a = some ad ∧ ∀ j v, (u8L l)[j]? = some v → w.cell? (ad.add j) = some v := by
  obtain ⟨b, off, ha, hbl, hc⟩ := hI.at hl
  refine ⟨_, ha, fun j v hv => ?_⟩
  have hj : j < l.length := by have := (List.getElem?_eq_some_iff.1 hv).1; simpa using this
  have h2 : v = .int .u8 (l[j]?.getD 0) := by
    rw [List.getElem?_eq_getElem (by simpa using hj)] at hv
    rw [List.getElem?_eq_getElem hj]
    simp [u8L] at hv
    simpa using hv.symm
  rw [h2, show (⟨b, off, none⟩ : Addr).add j = ⟨b, off + j, none⟩ from add_off rfl]
  exact hc j hj
end Go.Proofs.YtikiciojfhfagaaGreat
namespace Go.Mun
/-- Bytes of memory, noughts behind its end. -/
def getK (l : Bts) (p n : Nat) : Bts := (l.drop p ++ List.replicate n 0).take n
theorem getK_len (l : Bts) (p n : Nat) : (getK l p n).length = n := by
  unfold getK
  rw [List.length_take, List.length_append, List.length_replicate]
  omega
end Go.Mun
namespace Go.Proofs.YtikiciojfhfagaaGreat
open Go.RowKit Go.Mun

theorem getK_out (l : Bts) (p n : Nat) (h : l.length ≤ p) : u8L (getK l p n) = zU8 n := by
  unfold getK
  rw [List.drop_of_length_le h, List.nil_append, List.take_of_length_le (by simp)]
  simp [u8L, zU8]
theorem getK_splice (l : Bts) (p n : Nat) : splice (zU8 n) 0 (u8L ((l.drop p).take n)) = u8L (getK l p n) := by
  unfold splice getK
  rw [List.take_zero, List.nil_append, Nat.zero_add, List.take_append]
  simp only [u8L, List.map_append, List.length_map]
  congr 1
  rw [List.length_take]
  simp [zU8, List.drop_replicate, List.take_replicate]
  omega
set_option maxRecDepth 100000 in
set_option maxHeartbeats 1000000 in
theorem mem_get {w : World} {b o : Nat} {sa : Option Addr} {sc : Nat} {l : Bts} (p n : Nat) (hp : p ≤ 1048576) (hn : n ≤ 1048576) (h : w.cell? ⟨b, o, none⟩ = some (.slice sa l.length sc)) (hI : Ints w .u8 sa sc l) (hl : l.length ≤ 1048576) :
    Calls Tryz.prog 232 #[.pointer (some ⟨b, o, none⟩), .int .i64 p, .int .i64 n] w fun e w' => ∃ v, e = .returned v ∧ NewB w w' v (getK l p n) := by
  have hbl : b < w.heap.size := World.block_lt_of_cell? _ _ h
  obtain ⟨w0, e0⟩ : ∃ w0, w0 = w.alloc (.cells (zU8 n).toArray 5) := ⟨_, rfl⟩
  have hb0 : Below w.heap.size w w0 := by rw [e0]; exact (Below.refl _ _).alloc (Nat.le_refl _) _
  have c0 : w0.cell? ⟨b, o, none⟩ = some (.slice sa l.length sc) := (hb0.cell (p := ⟨b, o, none⟩) hbl).trans h
  have hw0 : Whole w0 w.heap.size 5 (zU8 n) := by rw [e0]; exact Whole.new w 5 (zU8 n)
  have hmk : ∀ w', (Instr.makeSlice 26 (.int .i64 (n : Int)) (.int .i64 (n : Int))).run Tryz.prog w' = .ok (.slice (some ⟨w'.heap.size, 0, none⟩) n n) (w'.alloc (.cells (zU8 n).toArray 5)) := fun w' => run_makeU8 elem26 (n : Int) n rfl (by omega) w'
  have d1 : decide ((p : Int) < 0) = false := decide_eq_false (by omega)
  have d2 : decide ((n : Int) < 0) = false := decide_eq_false (by omega)
  have d3 : decide ((1048576 : Int) < (n : Int)) = false := decide_eq_false (by omega)
  have HE := Lib.hid e0
  have HB := Lib.hid hb0
  have HW0 := Lib.hid hw0
  have HI := Lib.hid (hI.below hb0)
  have HN := Lib.hid hn
  have HL := Lib.hid hl
  rw [e0] at c0
  clear e0 hb0 h hw0 hI hbl
  by_cases hlt : p < l.length
  · have d4 : decide ((p : Int) < (l.length : Int)) = true := decide_eq_true (by omega)
    have d5 : (p < l.length) = True := eq_true hlt
    obtain ⟨gb, off, ha, _, _⟩ := HI.out.at (i := 0) (by omega)
    subst ha
    obtain ⟨o', c', hsl, hI2⟩ := slice_rest HI.out p (by omega)
    have HI2 := Lib.hid hI2
    have hcl : (u8L ((l.drop p).take n)).length = Nat.min (l.length - p) n := by
      simp only [u8L, List.length_map, List.length_take, List.length_drop]
      exact Nat.min_comm _ _
    have HCL := Lib.hid hcl
    have HSRC : Hid (0 < (u8L ((l.drop p).take n)).length → ∃ ad, (some ⟨gb, o', none⟩ : Option Addr) = some ad ∧ ∀ j v, (u8L ((l.drop p).take n))[j]? = some v → w0.cell? (ad.add j) = some v) := fun hpos => by
      have h1 : 0 < (l.drop p).length := by rw [List.length_drop]; omega
      obtain ⟨ad, e, hs⟩ := ints_src HI2.out h1
      refine ⟨ad, e, fun j v hv => hs j v ?_⟩
      have hj : j < ((l.drop p).take n).length := by have := (List.getElem?_eq_some_iff.1 hv).1; simpa using this
      have hjn : j < n := by rw [List.length_take] at hj; omega
      simp only [u8L, List.getElem?_map, List.getElem?_take, if_pos hjn] at hv ⊢
      exact hv
    clear hI2 hcl hlt
    go_enter Tryz.func232, Tryz.ntmps232
    go_wp2_with (rw [← HE.out]; refine wpList_copy_splice rfl _ _ 26 26 rfl 5 Tryz.underlying26 (by kernel_rfl) (some ⟨w.heap.size, 0, none⟩) (some ⟨gb, o', none⟩) n n (l.length - p) c' rfl rfl w.heap.size 0 (zU8 n) 5 HW0.out (u8L ((l.drop p).take n)) HCL.out (fun hpos => ⟨rfl, HSRC.out hpos⟩) (by rw [HCL.out]; simp [zU8]; exact Nat.min_le_right _ _) (fun v hv => by obtain ⟨x, _, rfl⟩ := List.mem_map.1 hv; rfl) w.heap.size w HB.out (Nat.le_refl _) ?_)
    intro w2 hg2 hb2
    have hW2 : Whole w2 w.heap.size 5 (u8L (getK l p n)) := by rw [← getK_splice]; exact hg2.out
    have hA := hW2.arr (n := n) (by simp [u8L, getK_len])
    have HA := Lib.hid hA
    have HB2 := Lib.hid hb2
    clear hg2 hb2 hW2 hA hsl
    go_wp2
    go_ret
    exact ⟨_, rfl, ⟨⟨some ⟨w.heap.size, 0, none⟩, n, by rw [getK_len]; rfl, Ints.of_arr HA.out (getK_len _ _ _).symm (Nat.le_refl _) (by have := HN.out; unfold maxLen; omega), fun q hq => by cases hq; exact Nat.le_refl _⟩, HB2.out⟩⟩
  · have d4 : decide ((p : Int) < (l.length : Int)) = false := decide_eq_false (by omega)
    have d5 : (p < l.length) = False := eq_false hlt
    have d6 : (l.length ≤ p) = True := eq_true (by omega)
    have hW2 : Whole w0 w.heap.size 5 (u8L (getK l p n)) := by rw [getK_out l p n (by omega)]; exact HW0.out
    have HA := Lib.hid (hW2.arr (n := n) (by simp [u8L, getK_len]))
    clear hW2 hlt
    go_enter Tryz.func232, Tryz.ntmps232
    go_wp2
    rw [← HE.out]
    go_ret
    exact ⟨_, rfl, ⟨⟨some ⟨w.heap.size, 0, none⟩, n, by rw [getK_len]; rfl, Ints.of_arr HA.out (getK_len _ _ _).symm (Nat.le_refl _) (by have := HN.out; unfold maxLen; omega), fun q hq => by cases hq; exact Nat.le_refl _⟩, HB.out⟩⟩
end Go.Proofs.YtikiciojfhfagaaGreat
namespace Go.Mun
/-- Bytes put into memory. -/
def putK (l : Bts) (p : Nat) (x : Bts) : Bts := l.take p ++ (x ++ l.drop (p + x.length))
theorem putK_len (l : Bts) (p : Nat) (x : Bts) (h : p + x.length ≤ l.length) : (putK l p x).length = l.length := by
  unfold putK; simp; omega
theorem putK_nil (l : Bts) (p : Nat) : putK l p [] = l := by simp [putK]
end Go.Mun
namespace Go.Proofs.YtikiciojfhfagaaGreat
open Go.RowKit Go.Mun

theorem putK_splice (l : Bts) (p : Nat) (x : Bts) : splice (u8L l) p (u8L x) = u8L (putK l p x) := by
  unfold splice putK
  simp [u8L, List.map_take, List.map_drop]
theorem take_splice (L : List Value) (p : Nat) (c : List Value) (n : Nat) (h : p + c.length ≤ n) (hn : n ≤ L.length) : (splice L p c).take n = splice (L.take n) p c := by
  apply List.ext_getElem?
  intro j
  rw [List.getElem?_take, getElem?_splice _ _ _ (by omega), getElem?_splice _ _ _ (by rw [List.length_take]; omega), List.getElem?_take]
  by_cases h1 : j < n
  · rw [if_pos h1]
    simp only [if_pos h1]
  · rw [if_neg h1, if_neg (by omega), if_neg (by omega), if_neg h1]
theorem slice26_from (g p n c : Nat) (hp : p ≤ n) (hpc : p < c) (hnc : n ≤ c) (w' : World) :
    (Instr.slice 26 (.slice (some ⟨g, 0, none⟩) n c) (some (.int .i64 (p : Int))) none none).run Tryz.prog w' = .ok (.slice (some ⟨g, p, none⟩) (n - p) (c - p)) w' := by
  have he : Tryz.prog.elem 26 = 5 := by kernel_rfl
  have hs : (sizeOf 5).run Tryz.prog w' = .ok 1 w' := by kernel_rfl
  rw [run_slice_l w' 26 (some ⟨g, 0, none⟩) n c (by rw [he]; exact Tryz.underlying26) .i64 (p : Int) (by omega) (by omega), he, hs]
  simp only [Result.andThen, sliced, Int.toNat_natCast, Nat.mul_one]
  rw [if_neg (by omega), Option.map_some, add_off rfl, Nat.zero_add]
set_option maxRecDepth 100000 in
set_option maxHeartbeats 1000000 in
theorem mem_put {w : World} {b o base : Nat} {mv : Value} {l : Bts} {xa : Option Addr} {m xc : Nat} {x : Bts} (p : Nat) (h : w.cell? ⟨b, o, none⟩ = some mv) (hr : w.ownsRow base 5 1 mv l.length (u8L l)) (hl : l.length ≤ 1048576)
    (hm : m = x.length) (hI : Ints w .u8 xa xc x) (hfit : p + x.length ≤ l.length) :
    Calls Tryz.prog 205 #[.pointer (some ⟨b, o, none⟩), .int .i64 p, .slice xa m xc] w fun e w' => e = .returned (.bool true) ∧ Only (fun g => mv.ownBlock = some g) w w' ∧ w'.ownsRow base 5 1 mv l.length (u8L (putK l p x)) := by
  have d1 : decide ((p : Int) < 0) = false := decide_eq_false (by omega)
  by_cases hm0 : m = 0
  · have hx : x = [] := List.eq_nil_of_length_eq_zero (by omega)
    have d2 : decide ((0 : Int) < (m : Int)) = false := decide_eq_false (by omega)
    have d3 : (0 < m) = False := eq_false (by omega)
    have d4 : (m = 0) = True := eq_true hm0
    have HR := Lib.hid hr
    subst hx
    rw [putK_nil]
    clear hr hI hm0 hfit hm
    go_enter Tryz.func205, Tryz.ntmps205
    go_wp2
    go_ret
    exact ⟨rfl, Only.refl _ _, HR.out⟩
  · have hmp : 0 < m := by omega
    have d2 : decide ((0 : Int) < (m : Int)) = true := decide_eq_true (by omega)
    have d3 : (0 < m) = True := eq_true hmp
    have d4 : decide ((l.length : Int) < (p : Int)) = false := decide_eq_false (by omega)
    have d5 : (l.length < p) = False := eq_false (by omega)
    have d6 : (p ≤ l.length) = True := eq_true (by omega)
    have d7 : decide ((l.length : Int) - (p : Int) < (m : Int)) = false := decide_eq_false (by omega)
    have hw7 : IntKind.i64.wrap ((l.length : Int) - (p : Int)) = (l.length : Int) - p := wrI _ (by omega) (by omega)
    rcases hr.2 with ⟨hv, h0⟩ | ⟨g, cap, cur, hv, hbg, hg, hnc, hcm, hcs, htake⟩
    · exfalso; omega
    · subst hv
      have hnc' : l.length ≤ cap := hnc
      have hcs' : cur.size = cap := by simpa using hcs
      have htk : cur.toList.take l.length = u8L l := by simpa using htake
      have hsl : ∀ w', (Instr.slice 26 (.slice (some ⟨g, 0, none⟩) l.length cap) (some (.int .i64 (p : Int))) none none).run Tryz.prog w' = .ok (.slice (some ⟨g, p, none⟩) (l.length - p) (cap - p)) w' := fun w' => slice26_from g p l.length cap (by omega) (by omega) hnc' w'
      obtain ⟨ad, hxa, hsrc⟩ := ints_src hI (by omega)
      subst hxa
      have hcl : (u8L x).length = Nat.min m (l.length - p) := by
        rw [show (u8L x).length = x.length by simp [u8L], ← hm]
        exact (Nat.min_eq_left (by omega)).symm
      have HSRC := Lib.hid hsrc
      have HCL := Lib.hid hcl
      have HG := Lib.hid hg
      have HFIT : Hid (p + (u8L x).length ≤ cur.size) := by show _ ≤ _; rw [show (u8L x).length = x.length by simp [u8L], hcs']; omega
      have HX := Lib.hid (show cur.size = cap ∧ l.length ≤ cap ∧ cap ≤ maxLen ∧ base ≤ g ∧ cur.toList.take l.length = u8L l ∧ p + x.length ≤ l.length from ⟨hcs', hnc', hcm, hbg, htk, hfit⟩)
      clear hr hI hm0 hg hcl hsrc hcs htake hcs' htk hnc hcm hbg hm hfit
      go_enter Tryz.func205, Tryz.ntmps205
      go_wp2_with (refine wpList_copy_own rfl _ _ 26 26 rfl 5 Tryz.underlying26 (by kernel_rfl) g p (l.length - p) (cap - p) ad m xc rfl rfl cur 5 HG.out (u8L x) HCL.out HSRC.out HFIT.out (fun v hv => by obtain ⟨y, _, rfl⟩ := List.mem_map.1 hv; rfl) ?_)
      go_ret
      obtain ⟨k1, k2, k3, k4, k5, k6⟩ := HX.out
      have hxl : (u8L x).length = x.length := by simp [u8L]
      have hcl : cur.toList.length = cap := by rw [Array.length_toList]; exact k1
      refine ⟨rfl, (only_setRow w g _).mono (fun i hi => by have : i = g := hi; rw [this]; rfl), by rw [Nat.mul_one]; simp [u8L]; exact putK_len l p x k6, .inr ⟨g, cap, _, rfl, k4, setRow_heap w g cur _ 5 (0, 0) HG.out, k2, k3, ?_, ?_⟩⟩
      · simp only [List.size_toArray, List.length_append, List.length_take, List.length_drop, hcl, hxl]
        omega
      · rw [Nat.mul_one, ← putK_splice, ← k5]
        have ht := take_splice cur.toList p (u8L x) l.length (by rw [hxl]; exact k6) (by omega)
        rw [← ht]
        unfold splice
        rw [hxl]
end Go.Proofs.YtikiciojfhfagaaGreat
