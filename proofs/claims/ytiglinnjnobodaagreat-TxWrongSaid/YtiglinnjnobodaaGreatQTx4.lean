/-
  Transactions: contract of Apply, where the transaction calls, told of what its message comes to.
  The reference's accounts to play with: two at most.
  Transactions: Apply where it can't be; where a plain transaction moves its value.
  Plain transactions: what they come to, in plain Lean.
  The law's example: a plain transaction of two accounts.
-/
import Derived.Test.YtiglinnjnobodaaGreatQTy5
import Derived.Test.YtiglinnjnobodaaGreatQRef1
import Derived.Test.YtiglinnjnobodaaGreatQEv1
set_option linter.unusedVariables false
set_option linter.unusedSimpArgs false
namespace Go.Proofs.YtiglinnjnobodaaGreat
open Go.RowKit Go.Mun

def recS (err used : Int) (ov lv : Value) (addr : Nat) : List (List Value) := [[.int .i64 err], [.int .i64 used], [ov], [lv], beC 20 addr]
theorem recS_len (e u : Int) (ov lv : Value) (a : Nat) : (cat (recS e u ov lv a)).length = 24 := by simp only [recS, cat_len_cons, cat_len_nil]; simp
attribute [go_sem, simp] recS_len
theorem recS_ok (e u : Int) (a b : Option Addr) (k kc j jc ad : Nat) : okL 24 (cat (recS e u (.slice a k kc) (.slice b j jc) ad)) = true := by
  refine okL_cat (recS_len _ _ _ _ _) fun s hs => ?_
  simp only [recS, List.mem_cons, List.not_mem_nil, or_false] at hs
  rcases hs with rfl | rfl | rfl | rfl | rfl
  all_goals first | rfl | (rw [beC_len]; exact beC_ok _ _)
theorem msgS_ok (m : Msg) (a : Option Addr) (k c : Nat) : okL 129 (cat (msgS m (.slice a k c))) = true := by
  refine okL_cat (msgS_len _ _) fun s hs => ?_
  simp only [msgS, List.mem_cons, List.not_mem_nil, or_false] at hs
  rcases hs with rfl | rfl | rfl | rfl | rfl | rfl | rfl | rfl | rfl | rfl
  all_goals first | rfl | (rw [beC_len]; exact beC_ok _ _)
theorem lensRc : lens zsN39 = [1, 1, 1, 1, 20] := by kernel_rfl
theorem buildRc (e u : Int) (a b : Option Addr) (k kc j jc ad : Nat) : fillL 24 (plOf zsN39) (cat zsN39) [(0, .int .i64 e), (1, .int .i64 u), (2, .slice a k kc), (3, .slice b j jc), (4, .agg (beC 20 ad).toArray)] = some (cat (recS e u (.slice a k kc) (.slice b j jc) ad)) := by
  rw [fillL_cats _ _ _ zsN39_len]
  · rfl
  · rw [lensRc]
    refine fits_cons rfl (fits_cons rfl (fits_cons rfl (fits_cons rfl (fits_cons ?_ (fits_nil _)))))
    show some 20 = some (beC 20 ad).length; rw [beC_len]
theorem lensMs : lens zs42 = [1, 20, 20, 20, 32, 32, 1, 1, 1, 1] := by kernel_rfl
/-- The message of a transaction, before it is told where to. -/
def msgMk (t : TxP) : Msg := ⟨3, t.frm, 0, 0, t.value, 0, t.data, t.gas - intrN t, 0, false⟩
def msgCall (t : TxP) : Msg := ⟨0, t.frm, t.to, 0, t.value, 0, t.data, t.gas - intrN t, 0, false⟩
theorem buildMs (t : TxP) (a : Option Addr) (k c : Nat) (g : Int) (hg : g = t.gas - intrN t) : fillL 129 (plOf zs42) (cat zs42) [(0, .int .i64 3), (1, .agg (beC 20 t.frm).toArray), (4, .agg (beC 32 t.value).toArray), (6, .slice a k c), (7, .int .i64 g)] = some (cat (msgS (msgMk t) (.slice a k c))) := by
  subst hg
  rw [fillL_cats _ _ _ zs42_len]
  · rfl
  · rw [lensMs]
    refine fits_cons rfl (fits_cons ?_ (fits_cons ?_ (fits_cons rfl (fits_cons rfl (fits_nil _)))))
    · show some 20 = some (beC 20 t.frm).length; rw [beC_len]
    · show some 32 = some (beC 32 t.value).length; rw [beC_len]
theorem msgS_called (t : TxP) (dv : Value) : ((msgS (msgMk t) dv).set 0 [.int .i64 0]).set 2 (beC 20 t.to) = msgS (msgCall t) dv := rfl
theorem ctxS_origin (cx : Ctx) (a : Nat) : (ctxS cx).set 4 (beC 20 a) = ctxS { cx with origin := a } := rfl
/-- The variables of Apply. -/
structure ApB (b : Nat) (t : TxP) (dv : Value) (cx : Ctx) (w' : World) : Prop where
  tx : w'.row? b 0 77 = some (cat (txS t dv))
  cx : w'.row? (b + 1) 0 43 = some (cat (ctxS cx))
  cxf : w'.free? (b + 1) 0 43 = true
  rc : w'.free? (b + 1 + 1) 0 24 = true
theorem ApB.only {b : Nat} {t : TxP} {dv : Value} {cx : Ctx} {w1 w2 : World} {R : Nat → Prop} (h : ApB b t dv cx w1) (ho : Only R w1 w2) (h0 : ¬ R b) (h1 : ¬ R (b + 1)) (h2 : ¬ R (b + 1 + 1)) : ApB b t dv cx w2 :=
  ⟨by rw [ho.row? (World.row?_lt h.tx) h0]; exact h.tx, by rw [ho.row? (World.row?_lt h.cx) h1]; exact h.cx, by rw [ho.free? (free?_lt h.cxf) h1]; exact h.cxf, by rw [ho.free? (free?_lt h.rc) h2]; exact h.rc⟩
theorem ApB.below {b : Nat} {t : TxP} {dv : Value} {cx : Ctx} {w1 w2 : World} (h : ApB b t dv cx w1) (hb : Below w1.heap.size w1 w2) : ApB b t dv cx w2 :=
  h.only (R := fun _ => False) (Only.of_below_size hb) (fun h => h) (fun h => h) (fun h => h)
structure ApR (w : World) (own : Own) (sb : Nat) (t : TxP) (dv : Value) (cx : Ctx) (S : St) (M : List (Nat × St)) (k : Nat) (w' : World) (own' : Own) : Prop where
  box : ApB w.heap.size t dv cx w'
  st : StateAt TU w' own' sb S M k
  chg : Chg w w' own own'
  data : RoAt w' (fun c => own' c ≠ none ∨ w.heap.size ≤ c) dv t.data
  n0 : own' w.heap.size = none
  n1 : own' (w.heap.size + 1) = none
  n2 : own' (w.heap.size + 1 + 1) = none
section
variable {w : World} {own : Own} {sb : Nat} {t : TxP} {dv : Value} {cx : Ctx} {S : St} {M : List (Nat × St)} {k : Nat} {w1 : World} {own1 : Own}
theorem ApR.size (h : ApR w own sb t dv cx S M k w1 own1) : w.heap.size + 1 + 1 < w1.heap.size := free?_lt h.box.rc
theorem ApR.below {w2 : World} (h : ApR w own sb t dv cx S M k w1 own1) (hb : Below w1.heap.size w1 w2) : ApR w own sb t dv cx S M k w2 own1 :=
  ⟨h.box.below hb, h.st.below hb, h.chg.trans (Chg.below _ hb), h.data.below hb, h.n0, h.n1, h.n2⟩
theorem ApR.go {w2 : World} {own2 : Own} {S2 : St} {k2 : Nat} (h : ApR w own sb t dv cx S M k w1 own1) (hs : StateAt TU w2 own2 sb S2 M k2) (g : Chg w1 w2 own1 own2) : ApR w own sb t dv cx S2 M k2 w2 own2 := by
  have hz := h.size
  exact ⟨h.box.only g.only (fun hh => hh h.n0) (fun hh => hh h.n1) (fun hh => hh h.n2), hs, h.chg.trans g, h.data.only g.only (fun _ hh => .inl hh) (fun c hc hx => hx.imp (fun hh => by rw [← g.ext c hc]; exact hh) id), by rw [g.ext _ (by omega)]; exact h.n0, by rw [g.ext _ (by omega)]; exact h.n1, by rw [g.ext _ (by omega)]; exact h.n2⟩
/-- A box of its own turns. -/
theorem ApR.put {w2 : World} {b : Nat} (h : ApR w own sb t dv cx S M k w1 own1) (hb : w.heap.size + 1 + 1 < b) (ho : own1 b = none) (hO : Only (· = b) w1 w2) : ApR w own sb t dv cx S M k w2 own1 := by
  refine ⟨h.box.only hO (by omega) (by omega) (by omega), h.st.only hO (fun c hc => by rw [hc]; exact ho), ⟨h.chg.ext, h.chg.only.trans hO (fun i hi he => by omega)⟩, h.data.only hO (fun c hc => .inr (by omega)) (fun _ _ h => h), h.n0, h.n1, h.n2⟩
/-- The context's origin is told. -/
theorem ApR.origin (h : ApR w own sb t dv cx S M k w1 own1) (a : Nat) : ApR w own sb t dv { cx with origin := a } S M k (w1.setCells (w.heap.size + 1) 23 (beC 20 a)) own1 := by
  have hO : Only (· = w.heap.size + 1) w1 (w1.setCells (w.heap.size + 1) 23 (beC 20 a)) := (Only.refl (· = w.heap.size + 1) _).setCells (fun _ => rfl) _ _
  have hrow : (w1.setCells (w.heap.size + 1) 23 (beC 20 a)).row? (w.heap.size + 1) 0 43 = some (cat (ctxS { cx with origin := a })) := by
    have := row_cat_set h.box.cx (i := 4) (s := beC 20 cx.origin) rfl (v := beC 20 a) (by simp) (p := 23) (by simp [ctxS, offOf_succ, offOf_zero])
    rw [ctxS_origin] at this
    exact this
  refine ⟨⟨by rw [hO.row? (World.row?_lt h.box.tx) (by omega)]; exact h.box.tx, hrow, by rw [World.free?_setCells']; exact h.box.cxf, by rw [World.free?_setCells']; exact h.box.rc⟩, h.st.only hO (fun c hc => by rw [hc]; exact h.n1), ⟨h.chg.ext, h.chg.only.trans hO (fun i hi he => by omega)⟩, h.data.only hO (fun c hc => .inr (by omega)) (fun _ _ h => h), h.n0, h.n1, h.n2⟩
theorem ApR.ro (h : ApR w own sb t dv cx S M k w1 own1) : RoAt w1 (fun b => own1 b ≠ none) dv t.data := h.data.only (R := fun _ => False) (Only.refl _ _) (fun _ h => h.elim) (fun _ _ hx => .inl hx)
end
theorem ctx0_coin {w : World} {b : Nat} {cx : Ctx} (h : w.row? b 0 43 = some (cat (ctxS cx))) : w.row? b 3 20 = some (beC 20 cx.coinbase) := row_cat h (i := 3) rfl (by simp [ctxS, offOf_succ, offOf_zero]) (by simp)
section
variable {w : World} {b : Nat} {oc : Outc} {ov lv : Value}
theorem out0_gas (h : w.row? b 0 24 = some (cat (outS oc ov lv))) : w.cell? ⟨b, 0, none⟩ = some (.int .i64 oc.gas) := cell_cat h (i := 0) rfl (by simp [outS, offOf_zero])
theorem out0_err (h : w.row? b 0 24 = some (cat (outS oc ov lv))) : w.cell? ⟨b, 1, none⟩ = some (.int .i64 oc.err) := cell_cat h (i := 1) rfl (by simp [outS, offOf_succ, offOf_zero])
theorem out0_out (h : w.row? b 0 24 = some (cat (outS oc ov lv))) : w.cell? ⟨b, 2, none⟩ = some ov := cell_cat h (i := 2) rfl (by simp [outS, offOf_succ, offOf_zero])
theorem out0_logs (h : w.row? b 0 24 = some (cat (outS oc ov lv))) : w.cell? ⟨b, 3, none⟩ = some lv := cell_cat h (i := 3) rfl (by simp [outS, offOf_succ, offOf_zero])
theorem out0_addr (h : w.row? b 0 24 = some (cat (outS oc ov lv))) : w.row? b 4 20 = some (beC 20 oc.addr) := row_cat h (i := 4) rfl (by simp [outS, offOf_succ, offOf_zero]) (by simp)
end
/-- What a message comes to. -/
def RunP (w : World) (own : Own) (sb : Nat) (S' : St) (M : List (Nat × St)) (N : Nat) (o : Outc) (e : Ending) (w' : World) : Prop :=
  ∃ ov lv own' n', e = .returned (.agg (cat (outS o ov lv)).toArray) ∧ StateAt TU w' own' sb S' M n' ∧ Chg w w' own own' ∧ OutAt w' own' w.heap.size ov lv o ∧ n' ≤ N
theorem may_ok {S : St} {t : TxP} (h : mayTx S t = 0) : 0 ≤ t.nonce ∧ 0 ≤ t.price ∧ 0 ≤ t.gas ∧ t.price ≤ 2147483647 ∧ t.gas ≤ 2147483647 ∧ t.nonce = ((S t.frm).nonce : Int) ∧ t.nonce < 4611686018427387904 ∧ (intrN t : Int) ≤ t.gas ∧ t.value ≤ (S t.frm).bal ∧ (t.price * t.gas).toNat ≤ (S t.frm).bal - t.value := by
  unfold mayTx at h
  split at h
  · cases h
  split at h
  · cases h
  split at h
  · cases h
  split at h
  · cases h
  omega
def payS (S : St) (t : TxP) : St := (S.setBal t.frm ((S t.frm).bal - (t.price * t.gas).toNat)).setNonce t.frm ((S t.frm).nonce + 1)
def endTx (S : St) (t : TxP) (coin : Nat) (g : Int) : St := giveS (giveS S t.frm (g * t.price).toNat) coin ((t.gas - g) * t.price).toNat
theorem mul_bd {a b : Int} (ha : 0 ≤ a) (ha2 : a ≤ 2147483647) (hb : 0 ≤ b) (hb2 : b ≤ 2147483647) : ∃ p : Nat, a * b = p ∧ p ≤ 4611686018427387904 ∧ (a * b).toNat = p := by
  have h0 := Int.mul_nonneg ha hb
  have h1 : a * b ≤ 2147483647 * 2147483647 := Int.mul_le_mul ha2 hb2 hb (by decide)
  exact ⟨(a * b).toNat, by omega, by omega, rfl⟩
set_option maxRecDepth 100000 in
set_option maxHeartbeats 8000000 in
theorem tx_apply_call {w : World} {own : Own} {sb : Nat} {S S' : St} {M : List (Nat × St)} {k N : Nat} {t : TxP} {da : Option Addr} {dl dc : Nat} {cx : Ctx} {F : Outc → Prop} {g0 : Int} (h : StateAt TU w own sb S M k) (ht : TxOk t) (hcx : cx.coinbase < wA)
    (hd : RoAt w (fun b => own b ≠ none) (.slice da dl dc) t.data) (hmay : mayTx S t = 0) (hmk : t.make = false) (hk : k + 1 ≤ 1099511627776) (hN : N + 1 ≤ 1099511627776) (ho : 0 ≤ g0 ∧ g0 ≤ t.gas) (hF : ∀ o, F o → o.gas = g0)
    (hrun : ∀ w1 own1, StateAt TU w1 own1 sb (payS S t) M (k + 1 + 1) → RoAt w1 (fun b => own1 b ≠ none) (.slice da dl dc) t.data →
      Calls Tryz.prog 34 #[.pointer (some ⟨sb, 0, none⟩), .agg (cat (msgS (msgCall t) (.slice da dl dc))).toArray, .agg (cat (ctxS { cx with origin := t.frm })).toArray] w1 fun e w' => ∃ o, F o ∧ RunP w1 own1 sb S' M N o e w') :
    Calls Tryz.prog 19 #[.pointer (some ⟨sb, 0, none⟩), .agg (cat (txS t (.slice da dl dc))).toArray, .agg (cat (ctxS cx)).toArray] w fun e w' =>
      ∃ o, F o ∧ ∃ ov lv own', e = .returned (.tuple #[.agg (cat (recS o.err (t.gas - g0) ov lv o.addr)).toArray, .int .i64 0]) ∧ StateAt TU w' own' sb (endTx S' t cx.coinbase g0) M (N + 1 + 1) ∧ Chg w w' own own' ∧ OutAt w' own' w.heap.size ov lv o := by
  obtain ⟨m1, m2, m3, m4, m5, m6, m7, m8, m9, m10⟩ := may_ok hmay
  obtain ⟨pg, hpg, hpgl, hpgt⟩ := mul_bd m2 m4 m3 m5
  obtain ⟨gp, hgp, hgpl, hgpt⟩ := mul_bd ho.1 (Int.le_trans ho.2 m5) m2 m4
  obtain ⟨up, hup, hupl, hupt⟩ := mul_bd (show 0 ≤ t.gas - g0 by omega) (show t.gas - g0 ≤ 2147483647 by omega) m2 m4
  have hbal := h.bal t.frm
  have htl := txS_len t (.slice da dl dc)
  have hcl := ctxS_len cx
  obtain ⟨w0, e0⟩ : ∃ w0, w0 = ((w.alloc (.cells (cat (txS t (.slice da dl dc))).toArray 43)).alloc (.cells (cat (ctxS cx)).toArray 51)).alloc (.cells (cat zsN39).toArray 47) := ⟨_, rfl⟩
  have hb0 : Below w.heap.size w w0 := by rw [e0]; exact (((Below.refl _ _).alloc (Nat.le_refl _) _).alloc (by simp) _).alloc (by simp; omega) _
  have r0 : w0.row? w.heap.size 0 77 = some (cat (txS t (.slice da dl dc))) := by rw [e0, World.row?_alloc_lt _ (by simp; omega), World.row?_alloc_lt _ (by simp)]; exact World.row?_alloc_at _ _ _ rfl htl
  have hA1 : Arr w0 (w.heap.size + 1) 43 (cat (ctxS cx)) := by
    rw [e0]; have := (Arr.new (w.alloc (.cells (cat (txS t (.slice da dl dc))).toArray 43)) 43 (cat (ctxS cx)) 51 hcl).alloc (.cells (cat zsN39).toArray 47)
    simpa using this
  have f2 : w0.free? (w.heap.size + 1 + 1) 0 24 = true := by rw [e0]; exact World.free?_alloc_at _ _ (by simp) (by rw [zsN39_len]; omega)
  have hlo := h.lows
  have H0 : Hid (ApR w own sb t (.slice da dl dc) cx S M k w0 own) := ⟨⟨r0, hA1.row, hA1.free, f2⟩, h.below hb0, Chg.below own hb0, hd.only (R := fun _ => False) (Only.of_below_size hb0) (fun _ h => h.elim) (fun c hc hx => hx.elim id (fun hh => by omega)), free_own hlo (Nat.le_refl _), free_own hlo (by omega), free_own hlo (by omega)⟩
  have HE0 := Lib.hid e0
  have HTK := Lib.hid ht
  have HRUN := Lib.hid hrun
  have HF := Lib.hid hF
  have HMAY : Hid (((mayTx S t : Nat) : Int) = 0) := by show _ = _; rw [hmay]; rfl
  have HO := Lib.hid ho
  have HMK := Lib.hid hmk
  have HCX := Lib.hid hcx
  have HK := Lib.hid hk
  have HN := Lib.hid hN
  obtain ⟨bv, hbv⟩ : ∃ bv, bv = (S t.frm).bal := ⟨_, rfl⟩
  obtain ⟨nc, hnc⟩ : ∃ nc, nc = (S t.frm).nonce := ⟨_, rfl⟩
  have HBV := Lib.hid hbv
  have HPAY : Hid (payS S t = (S.setBal t.frm (bv - pg)).setNonce t.frm (nc + 1)) := by show payS S t = _; unfold payS; rw [hpgt, hbv, hnc]
  have HEND : Hid (endTx S' t cx.coinbase g0 = giveS (giveS S' t.frm gp) cx.coinbase up) := by show endTx _ _ _ _ = _; unfold endTx; rw [hgpt, hupt]
  have hpb : pg ≤ bv := by rw [hbv]; omega
  rw [← hbv] at hbal
  have hmul : IntKind.i64.wrap (t.price * t.gas) = (pg : Int) := by rw [hpg, wrI _ (by omega) (by omega)]
  have hmul2 : IntKind.i64.wrap (g0 * t.price) = (gp : Int) := by rw [hgp, wrI _ (by omega) (by omega)]
  have hmul3 : IntKind.i64.wrap ((t.gas - g0) * t.price) = (up : Int) := by rw [hup, wrI _ (by omega) (by omega)]
  have hsub2 : IntKind.i64.wrap (t.gas - g0) = t.gas - g0 := wrI _ (by omega) (by omega)
  have hinc : IntKind.i64.wrap (t.nonce + 1) = ((nc + 1 : Nat) : Int) := by rw [wrI _ (by omega) (by omega)]; omega
  have hncl : nc + 1 ≤ 9223372036854775807 := by omega
  obtain ⟨g, hg⟩ : ∃ g, g = t.gas - (intrN t : Int) := ⟨_, rfl⟩
  have hsub : IntKind.i64.wrap (t.gas - (intrN t : Int)) = g := by rw [← hg, wrI _ (by omega) (by omega)]
  have hbuild := buildMs t da dl dc g hg
  have hofw := ofW_natT pg (i64_wW (by omega))
  have HOF := Lib.hid hofw
  have hpw : pg < wW := i64_wW (by omega)
  have HUSED : Hid (gp ≤ 4611686018427387904 ∧ up ≤ 4611686018427387904 ∧ pg ≤ 4611686018427387904) := ⟨hgpl, hupl, hpgl⟩
  obtain ⟨frm_lt, to_lt, val_lt, _, _, _⟩ := ht
  have HG := Lib.hid hg
  obtain ⟨T, hT⟩ : ∃ T : World → Prop, T = ApB w.heap.size t (.slice da dl dc) cx := ⟨_, rfl⟩
  have HT := Lib.hid hT
  rw [e0] at r0
  clear h hd hmay hrun ho hk hN hF m1 m2 m3 m4 m5 m6 m7 m8 m9 m10 hpg hgp hup hpgt hgpt hupt hgpl hupl hpgl hbv hnc hofw hT e0 hb0 hA1 f2 hlo hcx hmk hg
  go_enter Tryz.func19, Tryz.ntmps19
  go_wp2_with fail
  rw [← HE0.out]
  refine (tx_may H0.out.st HTK.out H0.out.data).mono ?_
  rintro e w1 ⟨rfl, hb1⟩
  rw [HMAY.out]
  have H1 := Lib.hid (H0.out.below hb1)
  clear hb1 r0
  go_wp2_with fail
  have H1d := Lib.hid (H1.out.below (Below.refl _ _).drew)
  have t0 : T w1.drew := by rw [HT.out]; exact H1d.out.box
  refine wp_region_tree T [] (.pure 0 (.pure 1 (.take 2 (.pure 3 (.pure 4 (.take 5 (.pure 7 (.take 8 (.pure 9 (.take 10 (.pure 11 (.alt 6 (.alt 12 (.alt 13 (.alt 14 .fin .stop) .stop) .stop) .stop)))))))))))) (by kernel_rfl) (by kernel_rfl) ?_
  refine tree_pure ?_ rfl (by rfl) (fun w' hs => ?_) (fun _ _ _ h => h) ?_
  rotate_left
  · clear hs
    go_simp
    try rfl
  simp only [Act.put, tsa, tsb, tsc]
  refine tree_pure ?_ rfl (by rfl) (fun w' hs => ?_) (fun _ _ _ h => h) ?_
  rotate_left
  · clear hs
    go_simp
    try rfl
  simp only [Act.put, tsa, tsb, tsc]
  refine tree_take ?_ t0 rfl (by rfl) (fun w' hs => ?_) (fun _ _ _ h => h) ?_
  rotate_left
  · rw [HT.out] at hs
    have r := hs.tx; have q1 := tx0_price r; have q2 := tx0_gas r; have q3 := tx0_frm r
    go_simp
    try rfl
  simp only [Act.put, tsa, tsb, tsc]
  refine tree_pure ?_ rfl (by rfl) (fun w' hs => ?_) (fun _ _ _ h => h) ?_
  rotate_left
  · clear hs
    go_simp
    try rfl
  simp only [Act.put, tsa, tsb, tsc]
  refine tree_pure ?_ rfl (by rfl) (fun w' hs => ?_) (fun _ _ _ h => h) ?_
  rotate_left
  · clear hs
    go_simp
    try rfl
  simp only [Act.put, tsa, tsb, tsc]
  refine tree_take ?_ t0 rfl (by rfl) (fun w' hs => ?_) (fun _ _ _ h => h) ?_
  rotate_left
  · rw [HT.out] at hs
    have r := hs.tx; have q1 := tx0_price r; have q2 := tx0_gas r; have q3 := tx0_frm r
    go_simp
    try rfl
  simp only [Act.put, tsa, tsb, tsc]
  refine tree_pure ?_ rfl (by rfl) (fun w' hs => ?_) (fun _ _ _ h => h) ?_
  rotate_left
  · clear hs
    go_simp
    try rfl
  simp only [Act.put, tsa, tsb, tsc]
  refine tree_take ?_ t0 rfl (by rfl) (fun w' hs => ?_) (fun _ _ _ h => h) ?_
  rotate_left
  · rw [HT.out] at hs
    have r := hs.tx; have q1 := tx0_price r; have q2 := tx0_gas r; have q3 := tx0_frm r
    go_simp
    try rfl
  simp only [Act.put, tsa, tsb, tsc]
  refine tree_pure ?_ rfl (by rfl) (fun w' hs => ?_) (fun _ _ _ h => h) ?_
  rotate_left
  · clear hs
    go_simp
    try rfl
  simp only [Act.put, tsa, tsb, tsc]
  refine tree_take ?_ t0 rfl (by rfl) (fun w' hs => ?_) (fun _ _ _ h => h) ?_
  rotate_left
  · rw [HT.out] at hs
    have r := hs.tx; have q1 := tx0_price r; have q2 := tx0_gas r; have q3 := tx0_frm r
    go_simp
    try rfl
  simp only [Act.put, tsa, tsb, tsc]
  refine tree_pure (.int .i64 (pg : Int)) rfl (by rfl) (fun w' hs => ?_) (fun _ _ _ h => h) ?_
  · clear hs
    go_simp
  simp only [Act.put, tsa, tsb, tsc]
  refine tree_run rfl (fun K hK => ?_)
  go_simp
  have hc := st_balance H1d.out.st t.frm frm_lt
  rw [← HBV.out] at hc
  refine hc.mono ?_
  rintro e w2 ⟨rfl, hb⟩
  have H2 := Lib.hid (H1d.out.below hb)
  have t2 : T w2 := by rw [HT.out]; exact H2.out.box
  clear hb hc
  refine hK.out _ _ t2 ?_
  clear hK K
  refine tree_run rfl (fun K hK => ?_)
  go_simp
  have hc := word_of (pg : Int) (by omega) (by have := HUSED.out; omega) w2
  rw [HOF.out] at hc
  refine hc.mono ?_
  rintro e w3 ⟨rfl, hb⟩
  have H3 := Lib.hid (H2.out.below hb)
  have t3 : T w3 := by rw [HT.out]; exact H3.out.box
  clear hb hc
  refine hK.out _ _ t3 ?_
  clear hK K
  refine tree_run rfl (fun K hK => ?_)
  go_simp
  have hc := word_sub bv pg hbal hpw w3
  rw [show (bv + wW - pg) % wW = bv - pg by rw [show bv + wW - pg = bv - pg + wW by omega, Nat.add_mod_right, Nat.mod_eq_of_lt (by omega)]] at hc
  refine hc.mono ?_
  rintro e w4 ⟨rfl, hb⟩
  have H4 := Lib.hid (H3.out.below hb)
  have t4 : T w4 := by rw [HT.out]; exact H4.out.box
  clear hb hc
  refine hK.out _ _ t4 ?_
  clear hK K
  refine tree_run rfl (fun K hK => ?_)
  go_simp
  refine (st_setBalance H4.out.st t.frm (bv - pg) frm_lt (by omega) (by have := HK.out; omega)).mono ?_
  rintro e w5 ⟨rfl, own1, hs5, g5⟩
  have H5 := Lib.hid (H4.out.go hs5 g5)
  have t5 : T w5 := by rw [HT.out]; exact H5.out.box
  clear hs5 g5
  refine hK.out _ _ t5 ?_
  clear hK K
  refine tree_fin ?_
  clear t0 t2 t3 t4 t5
  have H5d := Lib.hid (H5.out.below (Below.refl _ _).drew)
  have t5 : T w5.drew := by rw [HT.out]; exact H5d.out.box
  have hokm := msgS_ok (msgMk t) da dl dc
  go_wp2_with fail
  refine wp_region_tree T [] (.pure 0 (.take 1 (.pure 2 (.take 3 (.pure 4 (.take 5 (.pure 6 (.take 7 (.take 8 (.alt 9 (.pure 10 (.pure 11 (.alt 12 (.alt 13 .fin .stop) .stop))) (.alt 12 (.alt 9 (.pure 10 (.pure 11 (.alt 13 .fin .stop))) .stop) .stop))))))))))) (by kernel_rfl) (by kernel_rfl) ?_
  generalize w5.drew = v5 at *
  refine tree_pure ?_ rfl (by rfl) (fun w' hs => ?_) (fun _ _ _ h => h) ?_
  rotate_left
  · clear hs
    go_simp
    try rfl
  simp only [Act.put, tsa, tsb, tsc]
  refine tree_take ?_ t5 rfl (by rfl) (fun w' hs => ?_) (fun _ _ _ h => h) ?_
  rotate_left
  · rw [HT.out] at hs
    have r := hs.tx; have q1 := tx0_price r; have q2 := tx0_gas r; have q3 := tx0_frm r; have q6 := tx0_value r; have q7 := tx0_data r
    go_simp
    try rfl
  simp only [Act.put, tsa, tsb, tsc]
  refine tree_pure ?_ rfl (by rfl) (fun w' hs => ?_) (fun _ _ _ h => h) ?_
  rotate_left
  · clear hs
    go_simp
    try rfl
  simp only [Act.put, tsa, tsb, tsc]
  refine tree_take ?_ t5 rfl (by rfl) (fun w' hs => ?_) (fun _ _ _ h => h) ?_
  rotate_left
  · rw [HT.out] at hs
    have r := hs.tx; have q1 := tx0_price r; have q2 := tx0_gas r; have q3 := tx0_frm r; have q6 := tx0_value r; have q7 := tx0_data r
    go_simp
    try rfl
  simp only [Act.put, tsa, tsb, tsc]
  refine tree_pure ?_ rfl (by rfl) (fun w' hs => ?_) (fun _ _ _ h => h) ?_
  rotate_left
  · clear hs
    go_simp
    try rfl
  simp only [Act.put, tsa, tsb, tsc]
  refine tree_take ?_ t5 rfl (by rfl) (fun w' hs => ?_) (fun _ _ _ h => h) ?_
  rotate_left
  · rw [HT.out] at hs
    have r := hs.tx; have q1 := tx0_price r; have q2 := tx0_gas r; have q3 := tx0_frm r; have q6 := tx0_value r; have q7 := tx0_data r
    go_simp
    try rfl
  simp only [Act.put, tsa, tsb, tsc]
  refine tree_pure ?_ rfl (by rfl) (fun w' hs => ?_) (fun _ _ _ h => h) ?_
  rotate_left
  · clear hs
    go_simp
    try rfl
  simp only [Act.put, tsa, tsb, tsc]
  refine tree_take ?_ t5 rfl (by rfl) (fun w' hs => ?_) (fun _ _ _ h => h) ?_
  rotate_left
  · rw [HT.out] at hs
    have r := hs.tx; have q1 := tx0_price r; have q2 := tx0_gas r; have q3 := tx0_frm r; have q6 := tx0_value r; have q7 := tx0_data r
    go_simp
    try rfl
  simp only [Act.put, tsa, tsb, tsc]
  refine tree_take ?_ t5 rfl (by rfl) (fun w' hs => ?_) (fun _ _ _ h => h) ?_
  rotate_left
  · rw [HT.out] at hs
    have r := hs.tx; have q1 := tx0_price r; have q2 := tx0_gas r; have q3 := tx0_frm r; have q6 := tx0_value r; have q7 := tx0_data r
    go_simp
    try rfl
  simp only [Act.put, tsa, tsb, tsc]
  refine tree_alt rfl (fun K hK => ?_) ?_
  · go_simp
    refine (gas_intrinsic t _ H5d.out.data).mono ?_
    rintro e wi ⟨rfl, hb⟩
    have HI := Lib.hid (H5d.out.below hb)
    have ti : T wi := by rw [HT.out]; exact HI.out.box
    clear hb
    refine hK.out _ _ ti ?_
    clear hK K
    refine tree_pure (.int .i64 g) rfl (by rfl) (fun w' hs => ?_) (fun _ _ _ h => h) ?_
    · clear hs
      go_simp
    simp only [Act.put, tsa, tsb, tsc]
    refine tree_pure ?_ rfl (by rfl) (fun w' hs => ?_) (fun _ _ _ h => h) ?_
    rotate_left
    · clear hs
      go_simp
      try rfl
    simp only [Act.put, tsa, tsb, tsc]
    refine tree_run rfl (fun K hK => ?_)
    go_simp
    obtain ⟨mb, em⟩ : ∃ mb, mb = wi.heap.size := ⟨_, rfl⟩
    obtain ⟨wa, ea⟩ : ∃ wa, wa = wi.alloc (.cells (cat zs42).toArray 62) := ⟨_, rfl⟩
    have hb : Below wi.heap.size wi wa := by rw [ea]; exact (Below.refl _ _).alloc (Nat.le_refl _) _
    have hz : Arr wa mb 129 (cat zs42) := by rw [ea, em]; exact Arr.new wi 129 (cat zs42) 62 zs42_len
    have hmb : w.heap.size + 1 + 1 < mb ∧ own1 mb = none := ⟨by rw [em]; exact HI.out.size, free_own HI.out.st.lows (by rw [em]; exact Nat.le_refl _)⟩
    have HA := Lib.hid (HI.out.below hb)
    have HZ := Lib.hid hz
    have HMB := Lib.hid hmb
    have ta : T wa := by rw [HT.out]; exact HA.out.box
    rw [← ea, ← em]
    clear hb hz hmb ea em
    refine hK.out _ _ ta ?_
    clear hK K
    refine tree_run rfl (fun K hK => ?_)
    have f9 := HZ.out.free
    go_simp
    obtain ⟨wm, em⟩ : ∃ wm, wm = wa.setCells mb 0 (cat (msgS (msgMk t) (.slice da dl dc))) := ⟨_, rfl⟩
    have hzm : Arr wm mb 129 (cat (msgS (msgMk t) (.slice da dl dc))) := by rw [em]; exact HZ.out.setCells _ hokm
    have HM := Lib.hid (HA.out.put HMB.out.1 HMB.out.2 (show Only (· = mb) wa wm by rw [em]; exact (Only.refl (· = mb) _).setCells (fun _ => rfl) _ _))
    have HZM := Lib.hid hzm
    have tm : T wm := by rw [HT.out]; exact HM.out.box
    rw [← em]
    clear em hzm f9
    refine hK.out _ _ tm ?_
    clear hK K
    refine tree_fin ?_
    clear tm ti ta t5 hokm hbuild hsub
    have q0 := tx0_nonce HM.out.box.tx
    have q3 := tx0_frm HM.out.box.tx
    have q5 := tx0_make HM.out.box.tx
    rw [HMK.out] at q5
    go_wp2_with fail
    refine (st_setNonce HM.out.st t.frm (nc + 1) frm_lt hncl (by have := HK.out; omega)).mono ?_
    rintro e w6 ⟨rfl, own2, hs6, g6⟩
    have hml := HZM.out.lt
    have H6 := Lib.hid ((HM.out.go hs6 g6).below (Below.refl _ _).drew)
    have HZ6 := Lib.hid (HZM.out.only g6.only (fun hh => hh HMB.out.2)).drew
    have HMB2 : Hid (w.heap.size + 1 + 1 < mb ∧ own2 mb = none) := ⟨HMB.out.1, by rw [g6.ext _ hml]; exact HMB.out.2⟩
    have t6 : T w6.drew := by rw [HT.out]; exact H6.out.box
    have f3 := HZ6.out.free1 (i := 0) (by omega)
    clear hs6 g6 hml q0 q3 q5
    go_wp2_with fail
    refine wp_region_tree T [] (.pure 0 (.take 1 (.pure 2 (.alt 3 (.pure 4 (.alt 5 .fin .stop)) .stop)))) (by kernel_rfl) (by kernel_rfl) ?_
    generalize w6.drew = v6 at *
    refine tree_pure ?_ rfl (by rfl) (fun w' hs => ?_) (fun _ _ _ h => h) ?_
    rotate_left
    · clear hs
      go_simp
      try rfl
    simp only [Act.put, tsa, tsb, tsc]
    refine tree_take ?_ t6 rfl (by rfl) (fun w' hs => ?_) (fun _ _ _ h => h) ?_
    rotate_left
    · rw [HT.out] at hs
      have r := hs.tx; have q4 := tx0_to r
      go_simp
      try rfl
    simp only [Act.put, tsa, tsb, tsc]
    refine tree_pure ?_ rfl (by rfl) (fun w' hs => ?_) (fun _ _ _ h => h) ?_
    rotate_left
    · clear hs
      go_simp
      try rfl
    simp only [Act.put, tsa, tsb, tsc]
    refine tree_run rfl (fun K hK => ?_)
    go_simp
    have H7 := Lib.hid (H6.out.put HMB2.out.1 HMB2.out.2 (only_cell v6 mb 0 (.int .i64 0)))
    have t7 : T (v6.setCell ⟨mb, 0, none⟩ (.int .i64 0)) := by rw [HT.out]; exact H7.out.box
    have hz7 := HZ6.out.set (i := 0) (by omega) (.int .i64 0)
    have HR7 := Lib.hid (cell_cat_set HZ6.out.row (i := 0) (u := .int .i64 3) rfl (.int .i64 0) (p := 0) (by simp [msgS, offOf_zero]))
    have f8 := World.free?_sub hz7.free (o' := 21) (n' := 20) (by omega)
    have HZ7 := Lib.hid hz7.free
    have hok8 := beC_ok 20 t.to
    have hl8 := beC_len 20 t.to
    clear hz7
    refine hK.out _ _ t7 ?_
    clear hK K
    refine tree_pure ?_ rfl (by rfl) (fun w' hs => ?_) (fun _ _ _ h => h) ?_
    rotate_left
    · clear hs
      go_simp
      try rfl
    simp only [Act.put, tsa, tsb, tsc]
    refine tree_run rfl (fun K hK => ?_)
    go_simp
    obtain ⟨w8, e8⟩ : ∃ w8, w8 = (v6.setCell ⟨mb, 0, none⟩ (.int .i64 0)).setCells mb 21 (beC 20 t.to) := ⟨_, rfl⟩
    have H8 := Lib.hid (H7.out.put HMB2.out.1 HMB2.out.2 (show Only (· = mb) _ w8 by rw [e8]; exact (Only.refl (· = mb) _).setCells (fun _ => rfl) _ _))
    have hr8 : w8.row? mb 0 129 = some (cat (msgS (msgCall t) (.slice da dl dc))) := by
      have := row_cat_set HR7.out (i := 2) (s := beC 20 0) rfl (v := beC 20 t.to) (by simp) (p := 21) (by simp [msgS, msgMk, offOf_succ, offOf_zero])
      rw [msgS_called] at this
      rw [e8]; exact this
    have HR8 := Lib.hid hr8
    have t8 : T w8 := by rw [HT.out]; exact H8.out.box
    rw [← e8]
    clear e8 hr8
    refine hK.out _ _ t8 ?_
    clear hK K
    refine tree_fin ?_
    clear t6 t7 t8 f3 f8
    have q3 := tx0_frm H8.out.box.tx
    have f9 := World.free?_sub H8.out.box.cxf (o' := 23) (n' := 20) (by omega)
    have hok9 := beC_ok 20 t.frm
    have H9 := Lib.hid (H8.out.origin t.frm)
    obtain ⟨w9, e9⟩ : ∃ w9, w9 = w8.setCells (w.heap.size + 1) 23 (beC 20 t.frm) := ⟨_, rfl⟩
    have rm9 : w9.row? mb 0 129 = some (cat (msgS (msgCall t) (.slice da dl dc))) := by
      have hO : Only (· = w.heap.size + 1) w8 w9 := by rw [e9]; exact (Only.refl (· = w.heap.size + 1) _).setCells (fun _ => rfl) _ _
      rw [hO.row? (World.row?_lt HR8.out) (by have := HMB2.out.1; omega)]; exact HR8.out
    have rc9 := H9.out.box.cx
    have HE9 := Lib.hid e9
    rw [e9] at rm9
    clear e9
    go_wp2_with fail
    rw [← HE9.out] at H9 ⊢
    refine (HRUN.out w9 own2 (by have := H9.out.st; rw [← HPAY.out] at this; exact this) H9.out.ro).mono ?_
    rintro e w10 ⟨o, hphi, ov, lv, own3, n3, rfl, hs10, g10, oa, hn3⟩
    have HPHI := Lib.hid hphi
    obtain ⟨oa1, ok1, lb1, lj1, rfl, rfl⟩ := oa.forms
    have H10 := Lib.hid (H9.out.go hs10 g10)
    have hok10 := outS_ok o oa1 lb1 o.out.length ok1 o.logs.length lj1
    have hl10 := outS_len o (.slice oa1 o.out.length ok1) (.slice lb1 o.logs.length lj1)
    have f10 : (w10.alloc (.cells (cat zs46).toArray 65)).free? w10.heap.size 0 24 = true := (Arr.new w10 24 (cat zs46) 65 zs46_len).free
    obtain ⟨w11, e11⟩ : ∃ w11, w11 = (w10.alloc (.cells (cat zs46).toArray 65)).setCells w10.heap.size 0 (cat (outS o (.slice oa1 o.out.length ok1) (.slice lb1 o.logs.length lj1))) := ⟨_, rfl⟩
    have hz11 : Arr w11 w10.heap.size 24 (cat (outS o (.slice oa1 o.out.length ok1) (.slice lb1 o.logs.length lj1))) := by rw [e11]; exact (Arr.new w10 24 (cat zs46) 65 zs46_len).setCells _ hok10
    have hb11 : Below w10.heap.size w10 w11 := by rw [e11]; exact ((Below.refl _ _).alloc (Nat.le_refl _) _).setCells (Nat.le_refl _) _ _
    have H11 := Lib.hid (H10.out.below hb11)
    have HOA := Lib.hid (oa.chg (Chg.below own3 hb11))
    have HZ11 := Lib.hid hz11
    have HOB : Hid (own3 w10.heap.size = none) := free_own H10.out.st.lows (Nat.le_refl _)
    have H9S := Lib.hid H9.out.size
    have HG10 := Lib.hid g10.only.size
    have q1a := tx0_price H11.out.box.tx
    have q2 := tx0_gas H11.out.box.tx
    have q3' := tx0_frm H11.out.box.tx
    have qg := out0_gas hz11.row
    rw [HF.out o hphi] at qg
    have HS11 := Lib.hid (tx_give (H11.out.st.mono hn3) t.frm gp frm_lt (by have := HUSED.out; omega) (by have := HN.out; omega))
    have HE11 := Lib.hid e11
    have HN3 := Lib.hid hn3
    rw [e11] at q1a q2 q3' qg
    clear hphi hs10 g10 oa hn3 e11 hz11 hb11 rm9 rc9 q3 f9
    go_wp2_with fail
    rw [← HE11.out]
    refine HS11.out.mono ?_
    rintro e w12 ⟨rfl, own4, hs12, g12⟩
    have H12 := Lib.hid (H11.out.go hs12 g12)
    have HZ12 := Lib.hid (HZ11.out.only g12.only (fun hh => hh HOB.out))
    have HOA2 := Lib.hid (HOA.out.chg g12)
    have HOB2 : Hid (own4 w10.heap.size = none) := by show _ = _; rw [g12.ext _ HZ11.out.lt]; exact HOB.out
    have HS12 := Lib.hid (tx_give hs12 cx.coinbase up HCX.out (by have := HUSED.out; omega) (by have := HN.out; omega))
    have q1 := tx0_price H12.out.box.tx
    have qc := ctx0_coin H12.out.box.cx
    clear hs12 g12 q1a q2 q3' qg f10
    go_wp2_with fail
    refine HS12.out.mono ?_
    rintro e w13 ⟨rfl, own5, hs13, g13⟩
    have H13 := Lib.hid (H12.out.go hs13 g13)
    have HZ13 := Lib.hid (HZ12.out.only g13.only (fun hh => hh HOB2.out))
    have HOA3 := Lib.hid (HOA2.out.chg g13)
    have p1 := out0_err HZ13.out.row
    have p2 := out0_out HZ13.out.row
    have p3 := out0_logs HZ13.out.row
    have p4 := out0_addr HZ13.out.row
    have fr := H13.out.box.rc
    have hbr := buildRc o.err (t.gas - g0) oa1 lb1 o.out.length ok1 o.logs.length lj1 o.addr
    have hokr := recS_ok o.err (t.gas - g0) oa1 lb1 o.out.length ok1 o.logs.length lj1 o.addr
    have hlr := recS_len o.err (t.gas - g0) (.slice oa1 o.out.length ok1) (.slice lb1 o.logs.length lj1) o.addr
    clear hs13 g13 q1 qc
    go_wp2
    refine ret_row2 tyN39 rfl _ _ rfl rfl rfl (row?_setCells_whole _ fr hokr) ?_
    have hO : Only (· = w.heap.size + 1 + 1) w13 (w13.setCells (w.heap.size + 1 + 1) 0 (cat (recS o.err (t.gas - g0) (.slice oa1 o.out.length ok1) (.slice lb1 o.logs.length lj1) o.addr))) := (Only.refl (· = w.heap.size + 1 + 1) _).setCells (fun _ => rfl) _ _
    refine ⟨o, HPHI.out, _, _, own5, rfl, ?_, ⟨H13.out.chg.ext, H13.out.chg.only.trans hO (fun i hi he => by have : i = w.heap.size + 1 + 1 := hi; omega)⟩, (HOA3.out.box H9S.out hO).mono (by have := H9S.out; omega)⟩
    rw [HEND.out]
    exact H13.out.st.only hO (fun c hc => by have : c = w.heap.size + 1 + 1 := hc; rw [this]; exact H13.out.n2)
  refine tree_run rfl (fun K hK => ?_)
  go_simp
  obtain ⟨mb, em⟩ : ∃ mb, mb = v5.heap.size := ⟨_, rfl⟩
  obtain ⟨wa, ea⟩ : ∃ wa, wa = v5.alloc (.cells (cat zs42).toArray 62) := ⟨_, rfl⟩
  have hb : Below v5.heap.size v5 wa := by rw [ea]; exact (Below.refl _ _).alloc (Nat.le_refl _) _
  have hz : Arr wa mb 129 (cat zs42) := by rw [ea, em]; exact Arr.new v5 129 (cat zs42) 62 zs42_len
  have hmb : w.heap.size + 1 + 1 < mb ∧ own1 mb = none := ⟨by rw [em]; exact H5d.out.size, free_own H5d.out.st.lows (by rw [em]; exact Nat.le_refl _)⟩
  have HA := Lib.hid (H5d.out.below hb)
  have HZ := Lib.hid hz
  have HMB := Lib.hid hmb
  have ta : T wa := by rw [HT.out]; exact HA.out.box
  rw [← ea, ← em]
  clear hb hz hmb ea em
  refine hK.out _ _ ta ?_
  clear hK K
  refine tree_run rfl (fun K hK => ?_)
  go_simp
  refine (gas_intrinsic t _ HA.out.data).mono ?_
  rintro e wi ⟨rfl, hb⟩
  have HI := Lib.hid (HA.out.below hb)
  have HZI := Lib.hid (HZ.out.only (S := fun _ => False) (Only.of_below_size hb) (fun h => h))
  have ti : T wi := by rw [HT.out]; exact HI.out.box
  clear hb
  refine hK.out _ _ ti ?_
  clear hK K
  refine tree_pure (.int .i64 g) rfl (by rfl) (fun w' hs => ?_) (fun _ _ _ h => h) ?_
  · clear hs
    go_simp
  simp only [Act.put, tsa, tsb, tsc]
  refine tree_pure ?_ rfl (by rfl) (fun w' hs => ?_) (fun _ _ _ h => h) ?_
  rotate_left
  · clear hs
    go_simp
    try rfl
  simp only [Act.put, tsa, tsb, tsc]
  refine tree_run rfl (fun K hK => ?_)
  have f9 := HZI.out.free
  go_simp
  obtain ⟨wm, em⟩ : ∃ wm, wm = wi.setCells mb 0 (cat (msgS (msgMk t) (.slice da dl dc))) := ⟨_, rfl⟩
  have hzm : Arr wm mb 129 (cat (msgS (msgMk t) (.slice da dl dc))) := by rw [em]; exact HZI.out.setCells _ hokm
  have HM := Lib.hid (HI.out.put HMB.out.1 HMB.out.2 (show Only (· = mb) wi wm by rw [em]; exact (Only.refl (· = mb) _).setCells (fun _ => rfl) _ _))
  have HZM := Lib.hid hzm
  have tm : T wm := by rw [HT.out]; exact HM.out.box
  rw [← em]
  clear em hzm f9
  refine hK.out _ _ tm ?_
  clear hK K
  refine tree_fin ?_
  clear tm ti ta t5 hokm hbuild hsub
  have q0 := tx0_nonce HM.out.box.tx
  have q3 := tx0_frm HM.out.box.tx
  have q5 := tx0_make HM.out.box.tx
  rw [HMK.out] at q5
  go_wp2_with fail
  refine (st_setNonce HM.out.st t.frm (nc + 1) frm_lt hncl (by have := HK.out; omega)).mono ?_
  rintro e w6 ⟨rfl, own2, hs6, g6⟩
  have hml := HZM.out.lt
  have H6 := Lib.hid ((HM.out.go hs6 g6).below (Below.refl _ _).drew)
  have HZ6 := Lib.hid (HZM.out.only g6.only (fun hh => hh HMB.out.2)).drew
  have HMB2 : Hid (w.heap.size + 1 + 1 < mb ∧ own2 mb = none) := ⟨HMB.out.1, by rw [g6.ext _ hml]; exact HMB.out.2⟩
  have t6 : T w6.drew := by rw [HT.out]; exact H6.out.box
  have f3 := HZ6.out.free1 (i := 0) (by omega)
  clear hs6 g6 hml q0 q3 q5
  go_wp2_with fail
  refine wp_region_tree T [] (.pure 0 (.take 1 (.pure 2 (.alt 3 (.pure 4 (.alt 5 .fin .stop)) .stop)))) (by kernel_rfl) (by kernel_rfl) ?_
  generalize w6.drew = v6 at *
  refine tree_pure ?_ rfl (by rfl) (fun w' hs => ?_) (fun _ _ _ h => h) ?_
  rotate_left
  · clear hs
    go_simp
    try rfl
  simp only [Act.put, tsa, tsb, tsc]
  refine tree_take ?_ t6 rfl (by rfl) (fun w' hs => ?_) (fun _ _ _ h => h) ?_
  rotate_left
  · rw [HT.out] at hs
    have r := hs.tx; have q4 := tx0_to r
    go_simp
    try rfl
  simp only [Act.put, tsa, tsb, tsc]
  refine tree_pure ?_ rfl (by rfl) (fun w' hs => ?_) (fun _ _ _ h => h) ?_
  rotate_left
  · clear hs
    go_simp
    try rfl
  simp only [Act.put, tsa, tsb, tsc]
  refine tree_run rfl (fun K hK => ?_)
  go_simp
  have H7 := Lib.hid (H6.out.put HMB2.out.1 HMB2.out.2 (only_cell v6 mb 0 (.int .i64 0)))
  have t7 : T (v6.setCell ⟨mb, 0, none⟩ (.int .i64 0)) := by rw [HT.out]; exact H7.out.box
  have hz7 := HZ6.out.set (i := 0) (by omega) (.int .i64 0)
  have HR7 := Lib.hid (cell_cat_set HZ6.out.row (i := 0) (u := .int .i64 3) rfl (.int .i64 0) (p := 0) (by simp [msgS, offOf_zero]))
  have f8 := World.free?_sub hz7.free (o' := 21) (n' := 20) (by omega)
  have HZ7 := Lib.hid hz7.free
  have hok8 := beC_ok 20 t.to
  have hl8 := beC_len 20 t.to
  clear hz7
  refine hK.out _ _ t7 ?_
  clear hK K
  refine tree_pure ?_ rfl (by rfl) (fun w' hs => ?_) (fun _ _ _ h => h) ?_
  rotate_left
  · clear hs
    go_simp
    try rfl
  simp only [Act.put, tsa, tsb, tsc]
  refine tree_run rfl (fun K hK => ?_)
  go_simp
  obtain ⟨w8, e8⟩ : ∃ w8, w8 = (v6.setCell ⟨mb, 0, none⟩ (.int .i64 0)).setCells mb 21 (beC 20 t.to) := ⟨_, rfl⟩
  have H8 := Lib.hid (H7.out.put HMB2.out.1 HMB2.out.2 (show Only (· = mb) _ w8 by rw [e8]; exact (Only.refl (· = mb) _).setCells (fun _ => rfl) _ _))
  have hr8 : w8.row? mb 0 129 = some (cat (msgS (msgCall t) (.slice da dl dc))) := by
    have := row_cat_set HR7.out (i := 2) (s := beC 20 0) rfl (v := beC 20 t.to) (by simp) (p := 21) (by simp [msgS, msgMk, offOf_succ, offOf_zero])
    rw [msgS_called] at this
    rw [e8]; exact this
  have HR8 := Lib.hid hr8
  have t8 : T w8 := by rw [HT.out]; exact H8.out.box
  rw [← e8]
  clear e8 hr8
  refine hK.out _ _ t8 ?_
  clear hK K
  refine tree_fin ?_
  clear t6 t7 t8 f3 f8
  have q3 := tx0_frm H8.out.box.tx
  have f9 := World.free?_sub H8.out.box.cxf (o' := 23) (n' := 20) (by omega)
  have hok9 := beC_ok 20 t.frm
  have H9 := Lib.hid (H8.out.origin t.frm)
  obtain ⟨w9, e9⟩ : ∃ w9, w9 = w8.setCells (w.heap.size + 1) 23 (beC 20 t.frm) := ⟨_, rfl⟩
  have rm9 : w9.row? mb 0 129 = some (cat (msgS (msgCall t) (.slice da dl dc))) := by
    have hO : Only (· = w.heap.size + 1) w8 w9 := by rw [e9]; exact (Only.refl (· = w.heap.size + 1) _).setCells (fun _ => rfl) _ _
    rw [hO.row? (World.row?_lt HR8.out) (by have := HMB2.out.1; omega)]; exact HR8.out
  have rc9 := H9.out.box.cx
  have HE9 := Lib.hid e9
  rw [e9] at rm9
  clear e9
  go_wp2_with fail
  rw [← HE9.out] at H9 ⊢
  refine (HRUN.out w9 own2 (by have := H9.out.st; rw [← HPAY.out] at this; exact this) H9.out.ro).mono ?_
  rintro e w10 ⟨o, hphi, ov, lv, own3, n3, rfl, hs10, g10, oa, hn3⟩
  have HPHI := Lib.hid hphi
  obtain ⟨oa1, ok1, lb1, lj1, rfl, rfl⟩ := oa.forms
  have H10 := Lib.hid (H9.out.go hs10 g10)
  have hok10 := outS_ok o oa1 lb1 o.out.length ok1 o.logs.length lj1
  have hl10 := outS_len o (.slice oa1 o.out.length ok1) (.slice lb1 o.logs.length lj1)
  have f10 : (w10.alloc (.cells (cat zs46).toArray 65)).free? w10.heap.size 0 24 = true := (Arr.new w10 24 (cat zs46) 65 zs46_len).free
  obtain ⟨w11, e11⟩ : ∃ w11, w11 = (w10.alloc (.cells (cat zs46).toArray 65)).setCells w10.heap.size 0 (cat (outS o (.slice oa1 o.out.length ok1) (.slice lb1 o.logs.length lj1))) := ⟨_, rfl⟩
  have hz11 : Arr w11 w10.heap.size 24 (cat (outS o (.slice oa1 o.out.length ok1) (.slice lb1 o.logs.length lj1))) := by rw [e11]; exact (Arr.new w10 24 (cat zs46) 65 zs46_len).setCells _ hok10
  have hb11 : Below w10.heap.size w10 w11 := by rw [e11]; exact ((Below.refl _ _).alloc (Nat.le_refl _) _).setCells (Nat.le_refl _) _ _
  have H11 := Lib.hid (H10.out.below hb11)
  have HOA := Lib.hid (oa.chg (Chg.below own3 hb11))
  have HZ11 := Lib.hid hz11
  have HOB : Hid (own3 w10.heap.size = none) := free_own H10.out.st.lows (Nat.le_refl _)
  have H9S := Lib.hid H9.out.size
  have HG10 := Lib.hid g10.only.size
  have q1a := tx0_price H11.out.box.tx
  have q2 := tx0_gas H11.out.box.tx
  have q3' := tx0_frm H11.out.box.tx
  have qg := out0_gas hz11.row
  rw [HF.out o hphi] at qg
  have HS11 := Lib.hid (tx_give (H11.out.st.mono hn3) t.frm gp frm_lt (by have := HUSED.out; omega) (by have := HN.out; omega))
  have HE11 := Lib.hid e11
  have HN3 := Lib.hid hn3
  rw [e11] at q1a q2 q3' qg
  clear hphi hs10 g10 oa hn3 e11 hz11 hb11 rm9 rc9 q3 f9
  go_wp2_with fail
  rw [← HE11.out]
  refine HS11.out.mono ?_
  rintro e w12 ⟨rfl, own4, hs12, g12⟩
  have H12 := Lib.hid (H11.out.go hs12 g12)
  have HZ12 := Lib.hid (HZ11.out.only g12.only (fun hh => hh HOB.out))
  have HOA2 := Lib.hid (HOA.out.chg g12)
  have HOB2 : Hid (own4 w10.heap.size = none) := by show _ = _; rw [g12.ext _ HZ11.out.lt]; exact HOB.out
  have HS12 := Lib.hid (tx_give hs12 cx.coinbase up HCX.out (by have := HUSED.out; omega) (by have := HN.out; omega))
  have q1 := tx0_price H12.out.box.tx
  have qc := ctx0_coin H12.out.box.cx
  clear hs12 g12 q1a q2 q3' qg f10
  go_wp2_with fail
  refine HS12.out.mono ?_
  rintro e w13 ⟨rfl, own5, hs13, g13⟩
  have H13 := Lib.hid (H12.out.go hs13 g13)
  have HZ13 := Lib.hid (HZ12.out.only g13.only (fun hh => hh HOB2.out))
  have HOA3 := Lib.hid (HOA2.out.chg g13)
  have p1 := out0_err HZ13.out.row
  have p2 := out0_out HZ13.out.row
  have p3 := out0_logs HZ13.out.row
  have p4 := out0_addr HZ13.out.row
  have fr := H13.out.box.rc
  have hbr := buildRc o.err (t.gas - g0) oa1 lb1 o.out.length ok1 o.logs.length lj1 o.addr
  have hokr := recS_ok o.err (t.gas - g0) oa1 lb1 o.out.length ok1 o.logs.length lj1 o.addr
  have hlr := recS_len o.err (t.gas - g0) (.slice oa1 o.out.length ok1) (.slice lb1 o.logs.length lj1) o.addr
  clear hs13 g13 q1 qc
  go_wp2
  refine ret_row2 tyN39 rfl _ _ rfl rfl rfl (row?_setCells_whole _ fr hokr) ?_
  have hO : Only (· = w.heap.size + 1 + 1) w13 (w13.setCells (w.heap.size + 1 + 1) 0 (cat (recS o.err (t.gas - g0) (.slice oa1 o.out.length ok1) (.slice lb1 o.logs.length lj1) o.addr))) := (Only.refl (· = w.heap.size + 1 + 1) _).setCells (fun _ => rfl) _ _
  refine ⟨o, HPHI.out, _, _, own5, rfl, ?_, ⟨H13.out.chg.ext, H13.out.chg.only.trans hO (fun i hi he => by have : i = w.heap.size + 1 + 1 := hi; omega)⟩, (HOA3.out.box H9S.out hO).mono (by have := H9S.out; omega)⟩
  rw [HEND.out]
  exact H13.out.st.only hO (fun c hc => by have : c = w.heap.size + 1 + 1 := hc; rw [this]; exact H13.out.n2)
end Go.Proofs.YtiglinnjnobodaaGreat
namespace Go.Proofs.YtiglinnjnobodaaGreat
open Go.RowKit Go.Mun

theorem lensG : lens zs81 = [20, 1, 32, 1, 1] := by kernel_rfl
theorem buildG (a b : Nat) : fillL 55 (plOf zs81) (cat zs81) [(0, .agg (beC 20 a).toArray), (2, .agg (beC 32 b).toArray)] = some (cat (acS ⟨a, 0, b, []⟩ (.slice none 0 0) (.slice none 0 0))) := by
  rw [fillL_cats _ _ _ zs81_len]
  · rfl
  · rw [lensG]
    refine fits_cons ?_ (fits_cons ?_ (fits_nil _))
    · show some 20 = some (beC 20 a).length; rw [beC_len]
    · show some 32 = some (beC 32 b).length; rw [beC_len]
set_option maxRecDepth 1000000 in
theorem slG1 : SliceLit Tryz.prog 31 35 55 1 (cat [cat zs81]) := ⟨Tryz.underlying31, ⟨_, .agg (cat zs81).toArray, rfl, by kernel_rfl, by kernel_rfl, by kernel_rfl⟩, by decide, by kernel_rfl, by decide⟩
def fillG (p : List (Nat × Value)) : Option (List Value) := fillL (1 * 55) ((List.range 1).map fun i => (i * 55, 55)) (cat [cat zs81]) p
theorem bsG1 (ρ : Operand → Value) (dst : Option Tmp) (x : Operand) (t : TypeId) (pos : String) (after : Array Edge) (gd : Option (Nat × Bool)) (w : World) :
    (execOp ρ ⟨dst, .buildSlice 31 1 #[(0, x)], t, pos, after, gd⟩).run Tryz.prog w = asNext (bsRow Tryz.prog 31 35 1 [(0, ρ x)] w (fillG [(0, ρ x)])) :=
  ex_bslice ρ dst t pos after gd w slG1 [(0, x)]
@[go_sem] theorem fillG_one (c : List Value) (h : c.length = 55) : fillG [(0, .agg c.toArray)] = some c := by
  unfold fillG
  have h1 : lens [cat zs81] = [55] := by kernel_rfl
  have h3 : plOf [cat zs81] = (List.range 1).map fun i => (i * 55, 55) := by kernel_rfl
  rw [← h3, fillL_cats _ _ _ (by kernel_rfl)]
  · show some (cat [c]) = some c
    simp [cat]
  · rw [h1]
    refine fits_cons ?_ (fits_nil _)
    show some 55 = some c.length; rw [h]
attribute [go_sem ↓] bsG1
set_option maxRecDepth 100000 in
theorem elemG : ElemOf Tryz.prog 31 35 (.agg (cat zs81).toArray) 55 112 := .mk' Tryz.underlying31 (by kernel_rfl) (by kernel_rfl) (by decide)
def genA (i : Nat) : Ac := ⟨i + 1, 0, 1000000000000000000, []⟩
def genL (k : Nat) : List Ac := (List.range k).map genA
def genC (k : Nat) : List Value := cat ((List.range k).map fun i => cat (acS (genA i) (.slice none 0 0) (.slice none 0 0)))
theorem genC_succ (k : Nat) : genC (k + 1) = genC k ++ cat (acS (genA k) (.slice none 0 0) (.slice none 0 0)) := by
  unfold genC
  rw [List.range_succ, List.map_append]
  simp [cat]
theorem acS0_ok (x : Ac) : okL 55 (cat (acS x (.slice none 0 0) (.slice none 0 0))) = true := by
  refine okL_cat (acS_len _ _ _) fun s hs => ?_
  simp only [acS, List.mem_cons, List.not_mem_nil, or_false] at hs
  rcases hs with rfl | rfl | rfl | rfl | rfl
  · rw [beC_len]; exact beC_ok _ _
  · rfl
  · rw [beC_len]; exact beC_ok _ _
  · rfl
  · rfl
structure GenR (w wr : World) (v : Value) (k : Nat) : Prop where
  below : Below w.heap.size w wr
  own : wr.ownsRow w.heap.size 35 55 v k (genC k)
set_option maxRecDepth 100000 in
theorem ref_gen (n : Nat) (hn : n ≤ 2) (w : World) :
    Calls Tryz.prog 14 #[.int .i64 n] w fun e w' => ∃ v, e = .returned v ∧ GenR w w' v n := by
  have o1 : ofW 1000000000000000000 = 1000000000000000000 := by kernel_rfl
  have O1 := Lib.hid (fun w => ref_of 1000000000000000000 (by decide) (by decide) w)
  rw [o1] at O1
  have hle : (n : Int) ≤ 100 := by omega
  have hd : decide ((100 : Int) < n) = false := decide_eq_false (by omega)
  clear o1
  go_enter Tryz.func14, Tryz.ntmps14
  go_wp2_with fail
  go_loopw [3, 4] (fun v i wr => ∃ k : Nat, k ≤ n ∧ i = .int .i64 ((k : Int) + 1) ∧ GenR w wr v k) (fun _ i _ => n + 1 - (intOf i).toNat)
  case atStart => exact ⟨0, by omega, rfl, Below.refl _ _, World.ownsRow_nil _ _ _ _⟩
  case round =>
    obtain ⟨k, hk, rfl, hr⟩ := hrel
    by_cases hlt : k < n
    · have h3' : (((k : Int) + 1) % 3 == 0) = false := by simp; omega
      have h3'' : ((((k + 1 : Nat) : Int)) % 3 == 0) = false := by simp; omega
      have hti : (((k : Int) + 1).tmod 3 == 0) = false := by rw [Int.tmod_eq_emod_of_nonneg (by omega)]; exact h3'
      have hle2 : ((k : Int) + 1) ≤ n := by omega
      have HR := Lib.hid hr
      have hb := buildG (k + 1) 1000000000000000000
      have hcl := acS_len (genA k) (.slice none 0 0) (.slice none 0 0)
      have ecl : cat (acS ⟨k + 1, 0, 1000000000000000000, []⟩ (.slice none 0 0) (.slice none 0 0)) = cat (acS (genA k) (.slice none 0 0) (.slice none 0 0)) := rfl
      rw [ecl] at hb
      have N1 := Lib.hid (fun w => ref_name (k + 1) (by omega) w)
      have hok := acS0_ok (genA k)
      have HS := Lib.hid (genC_succ k)
      clear hr ecl
      generalize hC : cat (acS (genA k) (.slice none 0 0) (.slice none 0 0)) = C at *
      have HCC := Lib.hid hC
      clear hC
      go_wp2_with fail
      refine (N1.out _).mono ?_
      rintro e w1 ⟨rfl, hb1⟩
      go_wp2_with fail
      refine (O1.out _).mono ?_
      rintro e w2 ⟨rfl, hb2⟩
      have hb12 := hb1.trans (hb2.mono hb1.size)
      have hsz := HR.out.below.size
      have hsz2 := hb12.size
      obtain ⟨w3, e3⟩ : ∃ w3, w3 = (w2.alloc (.cells (cat zs81).toArray 35)).setCells w2.heap.size 0 C := ⟨_, rfl⟩
      have hb3 : Below w2.heap.size w2 w3 := by rw [e3]; exact ((Below.refl _ _).alloc (Nat.le_refl _) _).setCells (Nat.le_refl _) _ _
      have hz : Arr w3 w2.heap.size 55 C := by rw [e3]; exact (Arr.new w2 55 (cat zs81) 35 zs81_len).setCells _ hok
      have hf2 : (w2.alloc (.cells (cat zs81).toArray 35)).free? w2.heap.size 0 55 = true := (Arr.new w2 55 (cat zs81) 35 zs81_len).free
      have r3 := hz.row
      have HB3 := Lib.hid (hb12.trans (hb3.mono hsz2))
      have HE3 := Lib.hid e3
      rw [e3] at r3
      clear hb1 hb2 hb12 hb3 hz e3
      go_wp2_with (at_builtin; go_must (refine wpList_append_at (base := w.heap.size) (n := k) (xs := genC k) elemG rfl _ _ rfl rfl rfl ?own ?c0 ?c1 ?c3 ?c4 ?c5 ?_))
      case own =>
        rw [← HE3.out]
        exact ownsRow_below HR.out.own HB3.out
      case c0 => simp
      case c1 => exact hok
      case c3 => unfold maxLen; omega
      case c4 => omega
      case c5 => have := HB3.out.size; rw [← HE3.out]; omega
      intro v' w' ho hg _
      rw [← HE3.out] at hg
      rw [← HS.out] at ho
      have HN : Hid (GenR w w' v' (k + 1)) := ⟨by
        have hb := HR.out.below.trans (HB3.out.mono hsz)
        exact hb.grown hg (Nat.le_trans hsz HB3.out.size) (fun j hj => ((ownsRow_below HR.out.own HB3.out).lt j hj).1), ho⟩
      clear ho hg
      go_wp2
      go_roundw
      case rel => exact ⟨k + 1, by omega, by go_num, HN.out⟩
      case measure => simp [intOf]; omega
    · have hle2 : ¬ ((k : Int) + 1) ≤ n := by omega
      have hkn : k = n := by omega
      subst hkn
      have HR := Lib.hid hr
      clear hr
      go_wp2
      go_ret
      exact ⟨_, rfl, HR.out⟩
theorem GenR.accts {w wr : World} {v : Value} {k : Nat} (h : GenR w wr v k) (hk : 0 < k) (hk2 : k ≤ 2) : ∃ b c, v = .slice (some ⟨b, 0, none⟩) (genL k).length c ∧ w.heap.size ≤ b ∧ ∀ i (hi : i < (genL k).length), AcAt wr b (0 + i * 55) (genL k)[i] := by
  obtain ⟨g, c, rfl, hg, _, _, hrow, _⟩ := own_words h.own hk
  have hlen : (genL k).length = k := by simp [genL]
  refine ⟨g, c, by rw [hlen], hg, fun i hi => ?_⟩
  rw [hlen] at hi
  have e : (genL k)[i] = genA i := by simp [genL]
  rw [e]
  have hn : (cat ((List.range k).map fun i => cat (acS (genA i) (.slice none 0 0) (.slice none 0 0)))) = genC k := rfl
  refine ⟨⟨.slice none 0 0, ?_, roAt_nil _ _⟩, ?_, ?_, ?_⟩
  · have hoff : offOf ((List.range k).map fun i => cat (acS (genA i) (.slice none 0 0) (.slice none 0 0))) i = i * 55 := by
      match k, i, hk2, hi with
      | 1, 0, _, _ => rfl
      | 2, 0, _, _ => rfl
      | 2, 1, _, _ => simp [offOf_succ, offOf_zero, List.range, List.range.loop]
    rw [← hn] at hrow
    exact row_cat hrow (i := i) (by simp [hi]) (by rw [hoff]) (by simp)
  · show i + 1 < wA
    exact Nat.lt_of_le_of_lt (show i + 1 ≤ 2 by omega) (by decide)
  · show 1000000000000000000 < wW; decide
  · show (0 : Int) ≤ _; decide
end Go.Proofs.YtiglinnjnobodaaGreat
namespace Go.Proofs.YtiglinnjnobodaaGreat
open Go.RowKit Go.Mun

set_option maxRecDepth 100000 in
set_option maxHeartbeats 1000000 in
theorem tx_apply_no {w : World} {own : Own} {sb : Nat} {S : St} {M : List (Nat × St)} {k : Nat} {t : TxP} {dv : Value} {cx : Ctx} {X : Nat → Prop} (h : StateAt TU w own sb S M k) (ht : TxOk t) (hd : RoAt w X dv t.data) (hmay : mayTx S t ≠ 0) :
    Calls Tryz.prog 19 #[.pointer (some ⟨sb, 0, none⟩), .agg (cat (txS t dv)).toArray, .agg (cat (ctxS cx)).toArray] w fun e w' =>
      e = .returned (.tuple #[.agg (cat zsN39).toArray, .int .i64 (mayTx S t)]) ∧ Below w.heap.size w w' := by
  have htl := txS_len t dv
  have hcl := ctxS_len cx
  obtain ⟨w0, e0⟩ : ∃ w0, w0 = ((w.alloc (.cells (cat (txS t dv)).toArray 43)).alloc (.cells (cat (ctxS cx)).toArray 51)).alloc (.cells (cat zsN39).toArray 47) := ⟨_, rfl⟩
  have hb0 : Below w.heap.size w w0 := by rw [e0]; exact (((Below.refl _ _).alloc (Nat.le_refl _) _).alloc (by simp) _).alloc (by simp; omega) _
  have r0 : w0.row? w.heap.size 0 77 = some (cat (txS t dv)) := by rw [e0, World.row?_alloc_lt _ (by simp; omega), World.row?_alloc_lt _ (by simp)]; exact World.row?_alloc_at _ _ _ rfl htl
  have f2 : w0.free? (w.heap.size + 1 + 1) 0 24 = true := by rw [e0]; exact World.free?_alloc_at _ _ (by simp) (by rw [zsN39_len]; omega)
  have HE0 := Lib.hid e0
  have HB0 := Lib.hid hb0
  have HM := Lib.hid (tx_may (h.below hb0) ht (hd.below hb0))
  have HF := Lib.hid f2
  obtain ⟨m, hm⟩ : ∃ m, m = mayTx S t := ⟨_, rfl⟩
  rw [← hm] at HM hmay ⊢
  have hm0 : ((m : Int) == 0) = false := by simpa using hmay
  have hz := zsN39_len
  rw [e0] at r0
  clear h ht hd hmay e0 hb0 f2 hm
  go_enter Tryz.func19, Tryz.ntmps19
  go_wp2_with fail
  rw [← HE0.out]
  refine HM.out.mono ?_
  rintro e w1 ⟨rfl, hb1⟩
  have f3 : w1.free? (w.heap.size + 1 + 1) 0 24 = true := by rw [(brow hb1).2 _ _ _ (free?_lt HF.out)]; exact HF.out
  have HB1 := Lib.hid (HB0.out.trans (hb1.mono HB0.out.size))
  have hok : okL 24 (cat zsN39) = true := by kernel_rfl
  clear hb1 r0
  go_wp2
  refine ret_row2 tyN39 rfl _ _ rfl rfl rfl (row?_setCells_whole _ f3 hok) ⟨rfl, HB1.out.setCells (by omega) _ _⟩
theorem noStep {sb : Nat} {cx : Ctx} : ∀ rb tb tab, TabOk tab → StepOk sb rb tb cx tab (fun _ _ => .none) := by
  intro rb tb tab _ E w own c f S n _ _ _ _ _ _ _ _ hh
  exact absurd rfl hh
/-- A plain transaction: it calls an account without a code. -/
theorem tx_plain {w : World} {own : Own} {sb : Nat} {S S3 : St} {M : List (Nat × St)} {k N : Nat} {t : TxP} {da : Option Addr} {dl dc : Nat} {cx : Ctx} (h : StateAt TU w own sb S M k) (ht : TxOk t) (hcx : cx.coinbase < wA)
    (hd : RoAt w (fun b => own b ≠ none) (.slice da dl dc) t.data) (hmay : mayTx S t = 0) (hmk : t.make = false) (hmv : (payS S t).move t.frm t.to t.value = some S3) (hcode : (S3 t.to).code = []) (hk : k + 6 + t.gas.toNat ≤ N) (hN : N + 1 ≤ 1099511627776) :
    Calls Tryz.prog 19 #[.pointer (some ⟨sb, 0, none⟩), .agg (cat (txS t (.slice da dl dc))).toArray, .agg (cat (ctxS cx)).toArray] w fun e w' =>
      ∃ o, (o.err = 0 ∧ o.gas = t.gas - intrN t) ∧ ∃ ov lv own', e = .returned (.tuple #[.agg (cat (recS o.err (t.gas - (t.gas - intrN t)) ov lv o.addr)).toArray, .int .i64 0]) ∧ StateAt TU w' own' sb (endTx S3 t cx.coinbase (t.gas - intrN t)) M (N + 1 + 1) ∧ Chg w w' own own' ∧ OutAt w' own' w.heap.size ov lv o := by
  obtain ⟨m1, m2, m3, m4, m5, m6, m7, m8, m9, m10⟩ := may_ok hmay
  refine (tx_apply_call (S' := S3) (F := fun o => o.err = 0 ∧ o.gas = t.gas - intrN t) (g0 := t.gas - intrN t) h ht hcx hd hmay hmk (by omega) hN (by omega) (fun o ho => ho.2) (fun w1 own1 h1 hd1 => ?_))
  · obtain ⟨t1, t2, t3, t4, t5, t6⟩ := ht
    have hl : loopR (fun _ _ => Res.none) 1 (frame0 (msgCall t) (S3 (msgCall t).to).code) S3 = some (0, frame0 (msgCall t) (S3 (msgCall t).to).code, S3) := by
      unfold loopR
      rw [if_pos]
      right
      show (S3 t.to).code.length ≤ 0
      rw [hcode]; exact Nat.le_refl _
    refine (evm_run_ok (cx := { cx with origin := t.frm }) (N := N) (m := msgCall t) (dv := .slice da dl dc) (S1 := S3) h1 (by omega) ⟨t1, t2, show 0 < wA by decide, t3, show 0 < wW by decide, ⟨by show _ ≤ t.gas - _; omega, by show t.gas - _ ≤ _; omega⟩, ⟨by show _ ≤ (0 : Int); decide, by show (0 : Int) ≤ _; decide⟩⟩ rfl (by show (0 : Int) ≤ t.gas - _; omega) (by show (0 : Int) ≤ 64; decide) hd1 (by show k + 1 + 1 + 3 + (t.gas - (intrN t : Int)).toNat ≤ N; omega) noStep hmv hl).mono ?_
    rintro e w' ⟨o, ov, lv, own', n', rfl, st, g, oa, o1, o2, o3, o4, o5, o6⟩
    refine ⟨o, ⟨o3, ?_⟩, ov, lv, own', n', rfl, st, g, oa, by omega⟩
    rw [o4]
    show (((t.gas - intrN t).toNat : Nat) : Int) = _
    omega
end Go.Proofs.YtiglinnjnobodaaGreat
namespace Go.Proofs.YtiglinnjnobodaaGreat
open Go.RowKit Go.Mun

theorem lensTx7 : lens zsN44 = [1, 1, 1, 20, 20, 1, 32, 1] := by kernel_rfl
def txP (price gas : Int) (value : Nat) : TxP := ⟨0, price, gas, 1, 2, false, value, []⟩
theorem buildTxA (g : Int) (v : Nat) : fillL 77 (plOf zsN44) (cat zsN44) [(3, .agg (beC 20 1).toArray), (4, .agg (beC 20 2).toArray), (2, .int .i64 g), (6, .agg (beC 32 v).toArray)] = some (cat (txS (txP 0 g v) (.slice none 0 0))) := by
  rw [fillL_cats _ _ _ zsN44_len]
  · rfl
  · rw [lensTx7]
    refine fits_cons ?_ (fits_cons ?_ (fits_cons rfl (fits_cons ?_ (fits_nil _))))
    · show some 20 = some (beC 20 1).length; rw [beC_len]
    · show some 20 = some (beC 20 2).length; rw [beC_len]
    · show some 32 = some (beC 32 v).length; rw [beC_len]
theorem txP_ok {p g : Int} {v : Nat} (hp : 0 ≤ p ∧ p ≤ 1000) (hg : 0 ≤ g ∧ g ≤ 1048576) (hv : v ≤ 1099511627776) : TxOk (txP p g v) :=
  ⟨show 1 < wA by decide, show 2 < wA by decide, show v < wW from Nat.lt_of_le_of_lt hv (by decide), ⟨by show _ ≤ (0 : Int); decide, by show (0 : Int) ≤ _; decide⟩, ⟨by show _ ≤ p; omega, by show p ≤ _; omega⟩, ⟨by show _ ≤ g; omega, by show g ≤ _; omega⟩⟩
theorem txP_intr (p g : Int) (v : Nat) : intrN (txP p g v) = 21000 := rfl
theorem wW_lit : wW = 115792089237316195423570985008687907853269984665640564039457584007913129639936 := by unfold wW; decide
def accG : Acc := ⟨0, 1000000000000000000, [], fun _ => 0⟩
theorem newS2 : newS (genL 2) = upd (upd (fun _ => Acc.none) 1 accG) 2 accG := rfl
theorem newS2_1 : newS (genL 2) 1 = accG := by rw [newS2]; simp [upd]
theorem newS2_2 : newS (genL 2) 2 = accG := by rw [newS2]; simp [upd]
theorem newS2_o {a : Nat} (h1 : a ≠ 1) (h2 : a ≠ 2) : newS (genL 2) a = Acc.none := by rw [newS2]; simp [upd, h1, h2]
theorem mul_small {p g : Int} (hp : 0 ≤ p ∧ p ≤ 1000) (hg : 0 ≤ g ∧ g ≤ 1048576) : ∃ q : Nat, p * g = q ∧ q ≤ 1048576000 := by
  have h0 := Int.mul_nonneg hp.1 hg.1
  have h1 : p * g ≤ 1000 * 1048576 := Int.mul_le_mul hp.2 hg.2 hg.1 (by decide)
  exact ⟨(p * g).toNat, by omega, by omega⟩
theorem may_txP {p g : Int} {v : Nat} (hp : 0 ≤ p ∧ p ≤ 1000) (hg : 0 ≤ g ∧ g ≤ 1048576) (hv : v ≤ 1099511627776) : mayTx (newS (genL 2)) (txP p g v) = if g < 21000 then 11 else 0 := by
  obtain ⟨q, hq, hql⟩ := mul_small hp hg
  unfold mayTx
  rw [show (newS (genL 2)) (txP p g v).frm = accG from newS2_1, txP_intr]
  rw [if_neg (by show ¬ ((0 : Int) < 0 ∨ p < 0 ∨ g < 0 ∨ 2147483647 < p ∨ 2147483647 < g); omega)]
  rw [if_neg (by show ¬ ((0 : Int) ≠ ((0 : Nat) : Int) ∨ 4611686018427387904 ≤ (0 : Int)); omega)]
  show (if g < ((21000 : Nat) : Int) then 11 else if 1000000000000000000 < v ∨ 1000000000000000000 - v < (p * g).toNat then 16 else 0) = _
  by_cases h : g < 21000
  · rw [if_pos (by omega), if_pos h]
  · rw [if_neg (by omega), if_neg h, if_neg (by rw [hq]; omega)]
theorem pay_1 {p g : Int} {v q : Nat} (hq : (p * g).toNat = q) : (payS (newS (genL 2)) (txP p g v)) 1 = ⟨1, 1000000000000000000 - q, [], fun _ => 0⟩ := by
  unfold payS
  show ((newS (genL 2)).setBal 1 ((newS (genL 2) 1).bal - (p * g).toNat)).setNonce 1 ((newS (genL 2) 1).nonce + 1) 1 = _
  rw [hq, newS2_1]
  simp [St.setNonce, St.setBal, upd, newS2_1, accG]
theorem pay_2 {p g : Int} {v : Nat} : (payS (newS (genL 2)) (txP p g v)) 2 = accG := by
  unfold payS
  show ((newS (genL 2)).setBal 1 _).setNonce 1 _ 2 = _
  simp [St.setNonce, St.setBal, upd, newS2_2]
/-- Behind the move. -/
def movS (p g : Int) (v : Nat) : St := ((payS (newS (genL 2)) (txP p g v)).setBal 1 (1000000000000000000 - (p * g).toNat - v)).setBal 2 (1000000000000000000 + v)
theorem mov_ok {p g : Int} {v : Nat} (hp : 0 ≤ p ∧ p ≤ 1000) (hg : 0 ≤ g ∧ g ≤ 1048576) (hv : v ≤ 1099511627776) : (payS (newS (genL 2)) (txP p g v)).move (txP p g v).frm (txP p g v).to (txP p g v).value = some (movS p g v) := by
  obtain ⟨q, hq, hql⟩ := mul_small hp hg
  have hq' : (p * g).toNat = q := by omega
  show St.move _ 1 2 v = _
  unfold St.move movS
  rw [pay_1 hq', pay_2, hq']
  rw [if_neg (by show ¬ (1000000000000000000 - q < v); omega), if_neg (by decide), if_neg (by show ¬ wW ≤ 1000000000000000000 + v; rw [wW_lit]; omega)]
  rfl
theorem mov_2 {p g : Int} {v : Nat} : movS p g v 2 = ⟨0, 1000000000000000000 + v, [], fun _ => 0⟩ := by
  unfold movS
  simp [St.setBal, upd, pay_2, accG]
end Go.Proofs.YtiglinnjnobodaaGreat
namespace Go.Proofs.YtiglinnjnobodaaGreat
open Go.RowKit Go.Mun

theorem num16 (e : Int) (w : World) : Calls Tryz.prog 21 #[.int .i64 e] w fun r w' => r = .returned (.int .i64 e) ∧ w' = w := by
  go_enter Tryz.func21, Tryz.ntmps21
  go_wp2
  go_ret
  exact ⟨rfl, rfl⟩
section
variable {w : World} {b : Nat} {e u : Int} {ov lv : Value} {a : Nat}
theorem rec0_err (h : w.row? b 0 24 = some (cat (recS e u ov lv a))) : w.cell? ⟨b, 0, none⟩ = some (.int .i64 e) := cell_cat h (i := 0) rfl (by simp [recS, offOf_zero])
theorem rec0_used (h : w.row? b 0 24 = some (cat (recS e u ov lv a))) : w.cell? ⟨b, 1, none⟩ = some (.int .i64 u) := cell_cat h (i := 1) rfl (by simp [recS, offOf_succ, offOf_zero])
end
theorem Chg.belowGe {w w1 w2 : World} {own own' : Own} (g : Chg w1 w2 own own') (hb : Below w.heap.size w w1) (hge : ∀ b, own b ≠ none → w.heap.size ≤ b) : Below w.heap.size w w2 := g.only.below hb.size (fun i hi => hge i hi) |> fun h => hb.trans h
set_option maxRecDepth 100000 in
set_option maxHeartbeats 1000000 in
theorem tx_alive (w : World) : Calls Tryz.prog 13 #[] w fun e w' => e = .returned (.bool true) ∧ Below w.heap.size w w' := by
  have G2 := Lib.hid (fun w => ref_gen 2 (by decide) w)
  have N1 := Lib.hid (fun w => ref_name 1 (by decide) w)
  have N2 := Lib.hid (fun w => ref_name 2 (by decide) w)
  have o5 : ofW 5 = 5 := by kernel_rfl
  have O5 := Lib.hid (fun w => ref_of 5 (by decide) (by decide) w)
  rw [o5] at O5
  have hb44 := buildTxA 30000 5
  clear o5
  go_enter Tryz.func13, Tryz.ntmps13
  go_wp2_with fail
  refine (G2.out _).mono ?_
  rintro e w1 ⟨v, rfl, hg⟩
  obtain ⟨b, c, rfl, hbge, hac⟩ := hg.accts (by decide) (by decide)
  have HB1 := Lib.hid hg.below
  have HNW := Lib.hid (state_new b 0 c (genL 2) (by decide) w1 hac)
  clear hg hac
  go_wp2_with fail
  refine HNW.out.mono ?_
  rintro e w2 ⟨sb, rfl, hb2, own, hst, hlo⟩
  have HST := Lib.hid hst
  have HLO := Lib.hid (fun b hb => Nat.le_trans HB1.out.size (hlo b hb))
  have HB2 := Lib.hid (HB1.out.trans (hb2.mono HB1.out.size))
  clear hst hlo hb2
  go_wp2_with fail
  refine (N1.out _).mono ?_
  rintro e w3 ⟨rfl, hb3⟩
  have HST3 := Lib.hid (HST.out.below hb3)
  have HB3 := Lib.hid (HB2.out.trans (hb3.mono HB2.out.size))
  clear hb3
  go_wp2_with fail
  refine (N2.out _).mono ?_
  rintro e w4 ⟨rfl, hb4⟩
  have HST4 := Lib.hid (HST3.out.below hb4)
  have HB4 := Lib.hid (HB3.out.trans (hb4.mono HB3.out.size))
  clear hb4
  go_wp2_with fail
  refine (O5.out _).mono ?_
  rintro e w5 ⟨rfl, hb5⟩
  have HST5 := Lib.hid (HST4.out.below hb5)
  have HB5 := Lib.hid (HB4.out.trans (hb5.mono HB4.out.size))
  clear hb5
  have HAP := Lib.hid (tx_plain (N := 100000) (cx := ⟨0, 0, 0, 0, 0⟩) HST5.out (txP_ok (p := 0) (g := 30000) (v := 5) (by decide) (by decide) (by decide)) (show 0 < wA by decide) (roAt_nil _ _) (may_txP (by decide) (by decide) (by decide)) rfl (mov_ok (by decide) (by decide) (by decide)) (by show (movS 0 30000 5 2).code = []; rw [mov_2]) (by show 0 + 6 + 30000 ≤ 100000; decide) (by decide))
  go_wp2_with fail
  refine HAP.out.mono ?_
  rintro e w6 ⟨o, ⟨o1, o2⟩, ov, lv, own', rfl, hs6, g6, oa⟩
  obtain ⟨oa1, ok1, lb1, lj1, rfl, rfl⟩ := oa.forms
  rw [show (txP 0 30000 5).gas - ((txP 0 30000 5).gas - (intrN (txP 0 30000 5) : Int)) = 21000 from rfl, o1]
  have hokr := recS_ok 0 21000 oa1 lb1 o.out.length ok1 o.logs.length lj1 o.addr
  have hlr := recS_len 0 21000 (.slice oa1 o.out.length ok1) (.slice lb1 o.logs.length lj1) o.addr
  have hfr : (w6.alloc (.cells (cat zsN39).toArray 47)).free? w6.heap.size 0 24 = true := (Arr.new w6 24 (cat zsN39) 47 zsN39_len).free
  have hz := (Arr.new w6 24 (cat zsN39) 47 zsN39_len).setCells _ hokr
  have c0 := rec0_err hz.row
  have c1 := rec0_used hz.row
  have HB6 := Lib.hid (Chg.belowGe g6 HB5.out HLO.out)
  have HB7 := Lib.hid ((HB6.out.alloc HB6.out.size (.cells (cat zsN39).toArray 47)).setCells HB6.out.size (b := w6.heap.size) 0 (cat (recS 0 21000 (.slice oa1 o.out.length ok1) (.slice lb1 o.logs.length lj1) o.addr)))
  clear hs6 g6 oa o1 o2 hz hb44
  go_wp2_with fail
  refine (num16 0 _).mono ?_
  rintro e w7 ⟨rfl, rfl⟩
  go_wp2_with fail
  refine (num16 0 _).mono ?_
  rintro e w8 ⟨rfl, rfl⟩
  go_wp2
  go_ret
  exact ⟨rfl, HB7.out⟩
end Go.Proofs.YtiglinnjnobodaaGreat
