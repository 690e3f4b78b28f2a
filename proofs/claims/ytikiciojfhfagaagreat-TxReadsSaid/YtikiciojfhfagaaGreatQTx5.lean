/-
  The reference's accounts to play with: two at most.
  Transactions: Apply where it can't be; where a plain transaction moves its value.
  Plain transactions: what they come to, in plain Lean.
  The law's example: a plain transaction of two accounts.
  The law: what any bytes are as a transaction, or why they are none.
-/
import Derived.Test.YtikiciojfhfagaaGreatQRef1
import Derived.Test.YtikiciojfhfagaaGreatQEv1
import Derived.Test.YtikiciojfhfagaaGreatQTx4
import Derived.Test.YtikiciojfhfagaaGreatQPt11
set_option linter.unusedVariables false
set_option linter.unusedSimpArgs false
namespace Go.Proofs.YtikiciojfhfagaaGreat
open Go.RowKit Go.Mun

theorem lensG : lens zs81 = [20, 1, 32, 1, 1] := by kernel_rfl
theorem buildG (a b : Nat) : fillL 55 (plOf zs81) (cat zs81) [(0, .agg (beC 20 a).toArray), (2, .agg (beC 32 b).toArray)] = some (cat (acS ⟨a, 0, b, []⟩ (.slice none 0 0) (.slice none 0 0))) := by
  rw [fillL_cats _ _ _ zs81_len]
  · rfl
  · rw [lensG]
    refine fits_cons ?_ (fits_cons ?_ (fits_nil _))
    · show some 20 = some (beC 20 a).length; rw [beC_len]
    · show some 32 = some (beC 32 b).length; rw [beC_len]
set_option maxRecDepth 1000000 in
theorem slG1 : SliceLit Tryz.prog 33 94 55 1 (cat [cat zs81]) := ⟨Tryz.underlying33, ⟨_, .agg (cat zs81).toArray, rfl, by kernel_rfl, by kernel_rfl, by kernel_rfl⟩, by decide, by kernel_rfl, by decide⟩
def fillG (p : List (Nat × Value)) : Option (List Value) := fillL (1 * 55) ((List.range 1).map fun i => (i * 55, 55)) (cat [cat zs81]) p
theorem bsG1 (ρ : Operand → Value) (dst : Option Tmp) (x : Operand) (t : TypeId) (pos : String) (after : Array Edge) (gd : Option (Nat × Bool)) (w : World) :
    (execOp ρ ⟨dst, .buildSlice 33 1 #[(0, x)], t, pos, after, gd⟩).run Tryz.prog w = asNext (bsRow Tryz.prog 33 94 1 [(0, ρ x)] w (fillG [(0, ρ x)])) :=
  ex_bslice ρ dst t pos after gd w slG1 [(0, x)]
@[go_sem] theorem fillG_one (c : List Value) (h : c.length = 55) : fillG [(0, .agg c.toArray)] = some c := by
  unfold fillG
  have h1 : lens [cat zs81] = [55] := by kernel_rfl
  have h3 : plOf [cat zs81] = (List.range 1).map fun i => (i * 55, 55) := by kernel_rfl
  rw [← h3, fillL_cats _ _ _ (by kernel_rfl)]
  · show some (cat [c]) = some c
    simp [cat]
  · rw [h1]
    refine fits_cons ?_ (fits_nil _)
    show some 55 = some c.length; rw [h]
attribute [go_sem ↓] bsG1
set_option maxRecDepth 100000 in
theorem elemG : ElemOf Tryz.prog 33 94 (.agg (cat zs81).toArray) 55 112 := .mk' Tryz.underlying33 (by kernel_rfl) (by kernel_rfl) (by decide)
def genA (i : Nat) : Ac := ⟨i + 1, 0, 1000000000000000000, []⟩
def genL (k : Nat) : List Ac := (List.range k).map genA
def genC (k : Nat) : List Value := cat ((List.range k).map fun i => cat (acS (genA i) (.slice none 0 0) (.slice none 0 0)))
theorem genC_succ (k : Nat) : genC (k + 1) = genC k ++ cat (acS (genA k) (.slice none 0 0) (.slice none 0 0)) := by
  unfold genC
  rw [List.range_succ, List.map_append]
  simp [cat]
theorem acS0_ok (x : Ac) : okL 55 (cat (acS x (.slice none 0 0) (.slice none 0 0))) = true := by
  refine okL_cat (acS_len _ _ _) fun s hs => ?_
  simp only [acS, List.mem_cons, List.not_mem_nil, or_false] at hs
  rcases hs with rfl | rfl | rfl | rfl | rfl
  · rw [beC_len]; exact beC_ok _ _
  · rfl
  · rw [beC_len]; exact beC_ok _ _
  · rfl
  · rfl
structure GenR (w wr : World) (v : Value) (k : Nat) : Prop where
  below : Below w.heap.size w wr
  own : wr.ownsRow w.heap.size 94 55 v k (genC k)
set_option maxRecDepth 100000 in
theorem ref_gen (n : Nat) (hn : n ≤ 2) (w : World) :
    Calls Tryz.prog 15 #[.int .i64 n] w fun e w' => ∃ v, e = .returned v ∧ GenR w w' v n := by
  have o1 : ofW 1000000000000000000 = 1000000000000000000 := by kernel_rfl
  have O1 := Lib.hid (fun w => ref_of 1000000000000000000 (by decide) (by decide) w)
  rw [o1] at O1
  have hle : (n : Int) ≤ 100 := by omega
  have hd : decide ((100 : Int) < n) = false := decide_eq_false (by omega)
  clear o1
  go_enter Tryz.func15, Tryz.ntmps15
  go_wp2_with fail
  go_loopw [3, 4] (fun v i wr => ∃ k : Nat, k ≤ n ∧ i = .int .i64 ((k : Int) + 1) ∧ GenR w wr v k) (fun _ i _ => n + 1 - (intOf i).toNat)
  case atStart => exact ⟨0, by omega, rfl, Below.refl _ _, World.ownsRow_nil _ _ _ _⟩
  case round =>
    obtain ⟨k, hk, rfl, hr⟩ := hrel
    by_cases hlt : k < n
    · have h3' : (((k : Int) + 1) % 3 == 0) = false := by simp; omega
      have h3'' : ((((k + 1 : Nat) : Int)) % 3 == 0) = false := by simp; omega
      have hti : (((k : Int) + 1).tmod 3 == 0) = false := by rw [Int.tmod_eq_emod_of_nonneg (by omega)]; exact h3'
      have hle2 : ((k : Int) + 1) ≤ n := by omega
      have HR := Lib.hid hr
      have hb := buildG (k + 1) 1000000000000000000
      have hcl := acS_len (genA k) (.slice none 0 0) (.slice none 0 0)
      have ecl : cat (acS ⟨k + 1, 0, 1000000000000000000, []⟩ (.slice none 0 0) (.slice none 0 0)) = cat (acS (genA k) (.slice none 0 0) (.slice none 0 0)) := rfl
      rw [ecl] at hb
      have N1 := Lib.hid (fun w => ref_name (k + 1) (by omega) w)
      have hok := acS0_ok (genA k)
      have HS := Lib.hid (genC_succ k)
      clear hr ecl
      generalize hC : cat (acS (genA k) (.slice none 0 0) (.slice none 0 0)) = C at *
      have HCC := Lib.hid hC
      clear hC
      go_wp2_with fail
      refine (N1.out _).mono ?_
      rintro e w1 ⟨rfl, hb1⟩
      go_wp2_with fail
      refine (O1.out _).mono ?_
      rintro e w2 ⟨rfl, hb2⟩
      have hb12 := hb1.trans (hb2.mono hb1.size)
      have hsz := HR.out.below.size
      have hsz2 := hb12.size
      obtain ⟨w3, e3⟩ : ∃ w3, w3 = (w2.alloc (.cells (cat zs81).toArray 94)).setCells w2.heap.size 0 C := ⟨_, rfl⟩
      have hb3 : Below w2.heap.size w2 w3 := by rw [e3]; exact ((Below.refl _ _).alloc (Nat.le_refl _) _).setCells (Nat.le_refl _) _ _
      have hz : Arr w3 w2.heap.size 55 C := by rw [e3]; exact (Arr.new w2 55 (cat zs81) 94 zs81_len).setCells _ hok
      have hf2 : (w2.alloc (.cells (cat zs81).toArray 94)).free? w2.heap.size 0 55 = true := (Arr.new w2 55 (cat zs81) 94 zs81_len).free
      have r3 := hz.row
      have HB3 := Lib.hid (hb12.trans (hb3.mono hsz2))
      have HE3 := Lib.hid e3
      rw [e3] at r3
      clear hb1 hb2 hb12 hb3 hz e3
      go_wp2_with (at_builtin; go_must (refine wpList_append_at (base := w.heap.size) (n := k) (xs := genC k) elemG rfl _ _ rfl rfl rfl ?own ?c0 ?c1 ?c3 ?c4 ?c5 ?_))
      case own =>
        rw [← HE3.out]
        exact ownsRow_below HR.out.own HB3.out
      case c0 => simp
      case c1 => exact hok
      case c3 => unfold maxLen; omega
      case c4 => omega
      case c5 => have := HB3.out.size; rw [← HE3.out]; omega
      intro v' w' ho hg _
      rw [← HE3.out] at hg
      rw [← HS.out] at ho
      have HN : Hid (GenR w w' v' (k + 1)) := ⟨by
        have hb := HR.out.below.trans (HB3.out.mono hsz)
        exact hb.grown hg (Nat.le_trans hsz HB3.out.size) (fun j hj => ((ownsRow_below HR.out.own HB3.out).lt j hj).1), ho⟩
      clear ho hg
      go_wp2
      go_roundw
      case rel => exact ⟨k + 1, by omega, by go_num, HN.out⟩
      case measure => simp [intOf]; omega
    · have hle2 : ¬ ((k : Int) + 1) ≤ n := by omega
      have hkn : k = n := by omega
      subst hkn
      have HR := Lib.hid hr
      clear hr
      go_wp2
      go_ret
      exact ⟨_, rfl, HR.out⟩
theorem GenR.accts {w wr : World} {v : Value} {k : Nat} (h : GenR w wr v k) (hk : 0 < k) (hk2 : k ≤ 2) : ∃ b c, v = .slice (some ⟨b, 0, none⟩) (genL k).length c ∧ w.heap.size ≤ b ∧ ∀ i (hi : i < (genL k).length), AcAt wr b (0 + i * 55) (genL k)[i] := by
  obtain ⟨g, c, rfl, hg, _, _, hrow, _⟩ := own_words h.own hk
  have hlen : (genL k).length = k := by simp [genL]
  refine ⟨g, c, by rw [hlen], hg, fun i hi => ?_⟩
  rw [hlen] at hi
  have e : (genL k)[i] = genA i := by simp [genL]
  rw [e]
  have hn : (cat ((List.range k).map fun i => cat (acS (genA i) (.slice none 0 0) (.slice none 0 0)))) = genC k := rfl
  refine ⟨⟨.slice none 0 0, ?_, roAt_nil _ _⟩, ?_, ?_, ?_⟩
  · have hoff : offOf ((List.range k).map fun i => cat (acS (genA i) (.slice none 0 0) (.slice none 0 0))) i = i * 55 := by
      match k, i, hk2, hi with
      | 1, 0, _, _ => rfl
      | 2, 0, _, _ => rfl
      | 2, 1, _, _ => simp [offOf_succ, offOf_zero, List.range, List.range.loop]
    rw [← hn] at hrow
    exact row_cat hrow (i := i) (by simp [hi]) (by rw [hoff]) (by simp)
  · show i + 1 < wA
    exact Nat.lt_of_le_of_lt (show i + 1 ≤ 2 by omega) (by decide)
  · show 1000000000000000000 < wW; decide
  · show (0 : Int) ≤ _; decide
end Go.Proofs.YtikiciojfhfagaaGreat
namespace Go.Proofs.YtikiciojfhfagaaGreat
open Go.RowKit Go.Mun

theorem noStep {sb : Nat} {cx : Ctx} : ∀ rb tb tab, TabOk tab → StepOk sb rb tb cx tab (fun _ _ => .none) := by
  intro rb tb tab _ E w own c f S n _ _ _ _ _ _ _ _ hh
  exact absurd rfl hh
/-- A plain transaction: it calls an account without a code. -/
theorem tx_plain {w : World} {own : Own} {sb : Nat} {S S3 : St} {M : List (Nat × St)} {k N : Nat} {t : TxP} {da : Option Addr} {dl dc : Nat} {cx : Ctx} (h : StateAt TU w own sb S M k) (ht : TxOk t) (hcx : cx.coinbase < wA)
    (hd : RoAt w (fun b => own b ≠ none) (.slice da dl dc) t.data) (hmay : mayTx S t = 0) (hmk : t.make = false) (hmv : (payS S t).move t.frm t.to t.value = some S3) (hcode : (S3 t.to).code = []) (hk : k + 6 + t.gas.toNat ≤ N) (hN : N + 1 ≤ 1099511627776) :
    Calls Tryz.prog 17 #[.pointer (some ⟨sb, 0, none⟩), .agg (cat (txS t (.slice da dl dc))).toArray, .agg (cat (ctxS cx)).toArray] w fun e w' =>
      ∃ o, (o.err = 0 ∧ o.gas = t.gas - intrN t) ∧ ∃ ov lv own', e = .returned (.tuple #[.agg (cat (recS o.err (t.gas - (t.gas - intrN t)) ov lv o.addr)).toArray, .int .i64 0]) ∧ StateAt TU w' own' sb (endTx S3 t cx.coinbase (t.gas - intrN t)) M (N + 1 + 1) ∧ Chg w w' own own' ∧ OutAt w' own' w.heap.size ov lv o := by
  obtain ⟨m1, m2, m3, m4, m5, m6, m7, m8, m9, m10⟩ := may_ok hmay
  refine (tx_apply_call (S' := S3) (F := fun o => o.err = 0 ∧ o.gas = t.gas - intrN t) (g0 := t.gas - intrN t) h ht hcx hd hmay hmk (by omega) hN (by omega) (fun o ho => ho.2) (fun w1 own1 h1 hd1 => ?_))
  · obtain ⟨t1, t2, t3, t4, t5, t6⟩ := ht
    have hl : loopR (fun _ _ => Res.none) 1 (frame0 (msgCall t) (S3 (msgCall t).to).code) S3 = some (0, frame0 (msgCall t) (S3 (msgCall t).to).code, S3) := by
      unfold loopR
      rw [if_pos]
      right
      show (S3 t.to).code.length ≤ 0
      rw [hcode]; exact Nat.le_refl _
    refine (evm_run_ok (cx := { cx with origin := t.frm }) (N := N) (m := msgCall t) (dv := .slice da dl dc) (S1 := S3) h1 (by omega) ⟨t1, t2, show 0 < wA by decide, t3, show 0 < wW by decide, ⟨by show _ ≤ t.gas - _; omega, by show t.gas - _ ≤ _; omega⟩, ⟨by show _ ≤ (0 : Int); decide, by show (0 : Int) ≤ _; decide⟩⟩ rfl (by show (0 : Int) ≤ t.gas - _; omega) (by show (0 : Int) ≤ 64; decide) hd1 (by show k + 1 + 1 + 3 + (t.gas - (intrN t : Int)).toNat ≤ N; omega) noStep hmv hl).mono ?_
    rintro e w' ⟨o, ov, lv, own', n', rfl, st, g, oa, o1, o2, o3, o4, o5, o6⟩
    refine ⟨o, ⟨o3, ?_⟩, ov, lv, own', n', rfl, st, g, oa, by omega⟩
    rw [o4]
    show (((t.gas - intrN t).toNat : Nat) : Int) = _
    omega
end Go.Proofs.YtikiciojfhfagaaGreat
namespace Go.Proofs.YtikiciojfhfagaaGreat
open Go.RowKit Go.Mun

theorem lensTx7 : lens zsN44 = [1, 1, 1, 20, 20, 1, 32, 1] := by kernel_rfl
def txP (price gas : Int) (value : Nat) : TxP := ⟨0, price, gas, 1, 2, false, value, []⟩
theorem buildTxA (g : Int) (v : Nat) : fillL 77 (plOf zsN44) (cat zsN44) [(3, .agg (beC 20 1).toArray), (4, .agg (beC 20 2).toArray), (2, .int .i64 g), (6, .agg (beC 32 v).toArray)] = some (cat (txS (txP 0 g v) (.slice none 0 0))) := by
  rw [fillL_cats _ _ _ zsN44_len]
  · rfl
  · rw [lensTx7]
    refine fits_cons ?_ (fits_cons ?_ (fits_cons rfl (fits_cons ?_ (fits_nil _))))
    · show some 20 = some (beC 20 1).length; rw [beC_len]
    · show some 20 = some (beC 20 2).length; rw [beC_len]
    · show some 32 = some (beC 32 v).length; rw [beC_len]
theorem txP_ok {p g : Int} {v : Nat} (hp : 0 ≤ p ∧ p ≤ 1000) (hg : 0 ≤ g ∧ g ≤ 1048576) (hv : v ≤ 1099511627776) : TxOk (txP p g v) :=
  ⟨show 1 < wA by decide, show 2 < wA by decide, show v < wW from Nat.lt_of_le_of_lt hv (by decide), ⟨by show _ ≤ (0 : Int); decide, by show (0 : Int) ≤ _; decide⟩, ⟨by show _ ≤ p; omega, by show p ≤ _; omega⟩, ⟨by show _ ≤ g; omega, by show g ≤ _; omega⟩⟩
theorem txP_intr (p g : Int) (v : Nat) : intrN (txP p g v) = 21000 := rfl
theorem wW_lit : wW = 115792089237316195423570985008687907853269984665640564039457584007913129639936 := by unfold wW; decide
def accG : Acc := ⟨0, 1000000000000000000, [], fun _ => 0⟩
theorem newS2 : newS (genL 2) = upd (upd (fun _ => Acc.none) 1 accG) 2 accG := rfl
theorem newS2_1 : newS (genL 2) 1 = accG := by rw [newS2]; simp [upd]
theorem newS2_2 : newS (genL 2) 2 = accG := by rw [newS2]; simp [upd]
theorem mul_small {p g : Int} (hp : 0 ≤ p ∧ p ≤ 1000) (hg : 0 ≤ g ∧ g ≤ 1048576) : ∃ q : Nat, p * g = q ∧ q ≤ 1048576000 := by
  have h0 := Int.mul_nonneg hp.1 hg.1
  have h1 : p * g ≤ 1000 * 1048576 := Int.mul_le_mul hp.2 hg.2 hg.1 (by decide)
  exact ⟨(p * g).toNat, by omega, by omega⟩
theorem may_txP {p g : Int} {v : Nat} (hp : 0 ≤ p ∧ p ≤ 1000) (hg : 0 ≤ g ∧ g ≤ 1048576) (hv : v ≤ 1099511627776) : mayTx (newS (genL 2)) (txP p g v) = if g < 21000 then 11 else 0 := by
  obtain ⟨q, hq, hql⟩ := mul_small hp hg
  unfold mayTx
  rw [show (newS (genL 2)) (txP p g v).frm = accG from newS2_1, txP_intr]
  rw [if_neg (by show ¬ ((0 : Int) < 0 ∨ p < 0 ∨ g < 0 ∨ 2147483647 < p ∨ 2147483647 < g); omega)]
  rw [if_neg (by show ¬ ((0 : Int) ≠ ((0 : Nat) : Int) ∨ 4611686018427387904 ≤ (0 : Int)); omega)]
  show (if g < ((21000 : Nat) : Int) then 11 else if 1000000000000000000 < v ∨ 1000000000000000000 - v < (p * g).toNat then 16 else 0) = _
  by_cases h : g < 21000
  · rw [if_pos (by omega), if_pos h]
  · rw [if_neg (by omega), if_neg h, if_neg (by rw [hq]; omega)]
theorem pay_1 {p g : Int} {v q : Nat} (hq : (p * g).toNat = q) : (payS (newS (genL 2)) (txP p g v)) 1 = ⟨1, 1000000000000000000 - q, [], fun _ => 0⟩ := by
  unfold payS
  show ((newS (genL 2)).setBal 1 ((newS (genL 2) 1).bal - (p * g).toNat)).setNonce 1 ((newS (genL 2) 1).nonce + 1) 1 = _
  rw [hq, newS2_1]
  simp [St.setNonce, St.setBal, upd, newS2_1, accG]
theorem pay_2 {p g : Int} {v : Nat} : (payS (newS (genL 2)) (txP p g v)) 2 = accG := by
  unfold payS
  show ((newS (genL 2)).setBal 1 _).setNonce 1 _ 2 = _
  simp [St.setNonce, St.setBal, upd, newS2_2]
/-- Behind the move. -/
def movS (p g : Int) (v : Nat) : St := ((payS (newS (genL 2)) (txP p g v)).setBal 1 (1000000000000000000 - (p * g).toNat - v)).setBal 2 (1000000000000000000 + v)
theorem mov_ok {p g : Int} {v : Nat} (hp : 0 ≤ p ∧ p ≤ 1000) (hg : 0 ≤ g ∧ g ≤ 1048576) (hv : v ≤ 1099511627776) : (payS (newS (genL 2)) (txP p g v)).move (txP p g v).frm (txP p g v).to (txP p g v).value = some (movS p g v) := by
  obtain ⟨q, hq, hql⟩ := mul_small hp hg
  have hq' : (p * g).toNat = q := by omega
  show St.move _ 1 2 v = _
  unfold St.move movS
  rw [pay_1 hq', pay_2, hq']
  rw [if_neg (by show ¬ (1000000000000000000 - q < v); omega), if_neg (by decide), if_neg (by show ¬ wW ≤ 1000000000000000000 + v; rw [wW_lit]; omega)]
  rfl
theorem mov_2 {p g : Int} {v : Nat} : movS p g v 2 = ⟨0, 1000000000000000000 + v, [], fun _ => 0⟩ := by
  unfold movS
  simp [St.setBal, upd, pay_2, accG]
end Go.Proofs.YtikiciojfhfagaaGreat
namespace Go.Proofs.YtikiciojfhfagaaGreat
open Go.RowKit Go.Mun

theorem num16 (e : Int) (w : World) : Calls Tryz.prog 19 #[.int .i64 e] w fun r w' => r = .returned (.int .i64 e) ∧ w' = w := by
  go_enter Tryz.func19, Tryz.ntmps19
  go_wp2
  go_ret
  exact ⟨rfl, rfl⟩
section
variable {w : World} {b : Nat} {e u : Int} {ov lv : Value} {a : Nat}
theorem rec0_err (h : w.row? b 0 24 = some (cat (recS e u ov lv a))) : w.cell? ⟨b, 0, none⟩ = some (.int .i64 e) := cell_cat h (i := 0) rfl (by simp [recS, offOf_zero])
theorem rec0_used (h : w.row? b 0 24 = some (cat (recS e u ov lv a))) : w.cell? ⟨b, 1, none⟩ = some (.int .i64 u) := cell_cat h (i := 1) rfl (by simp [recS, offOf_succ, offOf_zero])
end
theorem Chg.belowGe {w w1 w2 : World} {own own' : Own} (g : Chg w1 w2 own own') (hb : Below w.heap.size w w1) (hge : ∀ b, own b ≠ none → w.heap.size ≤ b) : Below w.heap.size w w2 := g.only.below hb.size (fun i hi => hge i hi) |> fun h => hb.trans h
set_option maxRecDepth 100000 in
set_option maxHeartbeats 1000000 in
theorem tx_alive (w : World) : Calls Tryz.prog 13 #[] w fun e w' => e = .returned (.bool true) ∧ Below w.heap.size w w' := by
  have G2 := Lib.hid (fun w => ref_gen 2 (by decide) w)
  have N1 := Lib.hid (fun w => ref_name 1 (by decide) w)
  have N2 := Lib.hid (fun w => ref_name 2 (by decide) w)
  have o5 : ofW 5 = 5 := by kernel_rfl
  have O5 := Lib.hid (fun w => ref_of 5 (by decide) (by decide) w)
  rw [o5] at O5
  have hb44 := buildTxA 30000 5
  clear o5
  go_enter Tryz.func13, Tryz.ntmps13
  go_wp2_with fail
  refine (G2.out _).mono ?_
  rintro e w1 ⟨v, rfl, hg⟩
  obtain ⟨b, c, rfl, hbge, hac⟩ := hg.accts (by decide) (by decide)
  have HB1 := Lib.hid hg.below
  have HNW := Lib.hid (state_new b 0 c (genL 2) (by decide) w1 hac)
  clear hg hac
  go_wp2_with fail
  refine HNW.out.mono ?_
  rintro e w2 ⟨sb, rfl, hb2, own, hst, hlo⟩
  have HST := Lib.hid hst
  have HLO := Lib.hid (fun b hb => Nat.le_trans HB1.out.size (hlo b hb))
  have HB2 := Lib.hid (HB1.out.trans (hb2.mono HB1.out.size))
  clear hst hlo hb2
  go_wp2_with fail
  refine (N1.out _).mono ?_
  rintro e w3 ⟨rfl, hb3⟩
  have HST3 := Lib.hid (HST.out.below hb3)
  have HB3 := Lib.hid (HB2.out.trans (hb3.mono HB2.out.size))
  clear hb3
  go_wp2_with fail
  refine (N2.out _).mono ?_
  rintro e w4 ⟨rfl, hb4⟩
  have HST4 := Lib.hid (HST3.out.below hb4)
  have HB4 := Lib.hid (HB3.out.trans (hb4.mono HB3.out.size))
  clear hb4
  go_wp2_with fail
  refine (O5.out _).mono ?_
  rintro e w5 ⟨rfl, hb5⟩
  have HST5 := Lib.hid (HST4.out.below hb5)
  have HB5 := Lib.hid (HB4.out.trans (hb5.mono HB4.out.size))
  clear hb5
  have HAP := Lib.hid (tx_plain (N := 100000) (cx := ⟨0, 0, 0, 0, 0⟩) HST5.out (txP_ok (p := 0) (g := 30000) (v := 5) (by decide) (by decide) (by decide)) (show 0 < wA by decide) (roAt_nil _ _) (may_txP (by decide) (by decide) (by decide)) rfl (mov_ok (by decide) (by decide) (by decide)) (by show (movS 0 30000 5 2).code = []; rw [mov_2]) (by show 0 + 6 + 30000 ≤ 100000; decide) (by decide))
  go_wp2_with fail
  refine HAP.out.mono ?_
  rintro e w6 ⟨o, ⟨o1, o2⟩, ov, lv, own', rfl, hs6, g6, oa⟩
  obtain ⟨oa1, ok1, lb1, lj1, rfl, rfl⟩ := oa.forms
  rw [show (txP 0 30000 5).gas - ((txP 0 30000 5).gas - (intrN (txP 0 30000 5) : Int)) = 21000 from rfl, o1]
  have hokr := recS_ok 0 21000 oa1 lb1 o.out.length ok1 o.logs.length lj1 o.addr
  have hlr := recS_len 0 21000 (.slice oa1 o.out.length ok1) (.slice lb1 o.logs.length lj1) o.addr
  have hfr : (w6.alloc (.cells (cat zsN39).toArray 39)).free? w6.heap.size 0 24 = true := (Arr.new w6 24 (cat zsN39) 39 zsN39_len).free
  have hz := (Arr.new w6 24 (cat zsN39) 39 zsN39_len).setCells _ hokr
  have c0 := rec0_err hz.row
  have c1 := rec0_used hz.row
  have HB6 := Lib.hid (Chg.belowGe g6 HB5.out HLO.out)
  have HB7 := Lib.hid ((HB6.out.alloc HB6.out.size (.cells (cat zsN39).toArray 39)).setCells HB6.out.size (b := w6.heap.size) 0 (cat (recS 0 21000 (.slice oa1 o.out.length ok1) (.slice lb1 o.logs.length lj1) o.addr)))
  clear hs6 g6 oa o1 o2 hz hb44
  go_wp2_with fail
  refine (num16 0 _).mono ?_
  rintro e w7 ⟨rfl, rfl⟩
  go_wp2_with fail
  refine (num16 0 _).mono ?_
  rintro e w8 ⟨rfl, rfl⟩
  go_wp2
  go_ret
  exact ⟨rfl, HB7.out⟩
end Go.Proofs.YtikiciojfhfagaaGreat
namespace Go.Proofs.YtikiciojfhfagaaGreat
open Go.RowKit Go.Mun

theorem readK_errs {L : Bts} {x : Nat} (h : readK L = .inl x) : x ≠ 0 := by
  unfold readK at h
  cases er : rdAll L with
  | err y => rw [er] at h; simp only at h; cases h; exact rdAll_errs er
  | ok t n =>
    rw [er] at h
    simp only at h
    cases eo : ofK t with
    | none => rw [eo] at h; cases h; decide
    | some t2 => rw [eo] at h; cases h
theorem same_zero (w : World) : Calls Tryz.prog 25 #[.agg (cat zsN44).toArray, .agg (cat zsN44).toArray] w fun e w' => e = .returned (.bool true) ∧ Below w.heap.size w w' :=
  same_tx 0 0 0 0 0 false 0 [] none none 0 0 w ⟨fun h => absurd rfl h, fun _ => rfl, Nat.le_refl _, Nat.zero_le _⟩ ⟨fun h => absurd rfl h, fun _ => rfl, Nat.le_refl _, Nat.zero_le _⟩
theorem zU8_be20 : zU8 20 = beC 20 0 := by kernel_rfl
theorem zs44_to {w : World} {b : Nat} (h : w.row? b 0 77 = some (cat zsN44)) : w.row? b 23 20 = some (beC 20 0) := row_cat h (i := 4) rfl (by simp [zsN44, offOf_succ, offOf_zero]) (by simp)
theorem byt_of_wf {l : List Int} (h : ∀ i, i < l.length → (Lit.int .u8 (l[i]?.getD 0)).wf = true) : Byt l := by
  intro x hx
  obtain ⟨i, hi, rfl⟩ := List.getElem_of_mem hx
  have := h i hi
  rw [List.getElem?_eq_getElem hi] at this
  have h2 : 0 ≤ l[i] ∧ l[i] ≤ 255 := wf_u8 this
  exact ⟨h2.1, by omega⟩
set_option maxRecDepth 100000 in
set_option maxHeartbeats 4000000 in
theorem txReads_walk (a : Option Addr) (n cap : Nat) (l : List Int) (hn : n = l.length) (w : World) (hI : Ints w .u8 a cap l) (hby : Byt l) :
    Calls Tryz.prog 6 #[.slice a n cap] w fun e w' => e = .returned (.bool true) ∧ Below w.heap.size w w' := by
  have hA := Lib.hid (tx_alive w)
  have HI := Lib.hid hI
  have HN := Lib.hid hn
  have HBY := Lib.hid hby
  have hokz := okL_zs44
  have hz20 : ∀ w, (binOp .eql 23 (.agg (beC 20 0).toArray) (.agg (zU8 20).toArray)).run Tryz.prog w = .ok (.bool true) w := fun w => by rw [zU8_be20]; exact eqA_refl 0 w
  have hz21 := eqA_refl 0
  clear hI hn hby
  go_enter Tryz.func6, Tryz.ntmps6
  go_wp2_with fail
  refine hA.out.mono ?_
  rintro e w1 ⟨rfl, hb1⟩
  have HB1 := Lib.hid hb1
  have HI1 := Lib.hid (HI.out.below hb1)
  clear hb1 hA
  by_cases hbig : 3000 < n
  · have d1 : decide ((3000 : Int) < (n : Int)) = true := decide_eq_true (by omega)
    clear hbig
    go_wp2
    go_ret
    exact ⟨rfl, HB1.out⟩
  have d1 : decide ((3000 : Int) < (n : Int)) = false := decide_eq_false (by omega)
  have HLE := Lib.hid hbig
  have HOW : Hid (w1.ownsRow w1.heap.size 5 1 (.slice none 0 0) 0 []) := World.ownsRow_nil _ _ _ _
  clear hbig
  go_wp2_with (at_builtin; go_must (refine wpList_append_intsN (base := w1.heap.size) (n := 0) (xs := []) elem26 rfl _ _ rfl HOW.out rfl rfl HN.out HI1.out (by have := HLE.out; unfold maxLen; omega) (by have := HLE.out; omega) (Nat.le_refl _) ?_))
  intro v2 w2 ho2 hg2
  have H2 : OwnB w1 w2 v2 l := by
    refine ⟨?_, (Below.refl _ _).grown hg2 (by simp) (fun k hk => by simp [Value.ownBlock] at hk)⟩
    rw [← HN.out]
    simpa using ho2
  have hnb := H2.new
  obtain ⟨a2, c2, rfl, hi2, _⟩ := hnb.read
  have HB2 := Lib.hid (HB1.out.trans (hnb.below.mono HB1.out.size))
  have HR := Lib.hid (tx_Read a2 c2 l w2 hi2 HBY.out (by have := HLE.out; have := HN.out; omega))
  clear hnb hi2 H2 ho2 hg2
  go_wp2_with fail
  refine HR.out.mono ?_
  rintro e w3 ⟨hb3, hr3⟩
  have hB3 := HB2.out.trans (hb3.mono HB2.out.size)
  have f4 : (w3.alloc (.cells (cat zsN44).toArray 44)).free? w3.heap.size 0 77 = true := World.free?_alloc_at _ _ rfl (by simp [zsN44_len])
  cases er : readK l with
  | inl x =>
    rw [er] at hr3
    simp only at hr3
    subst hr3
    have hx := readK_errs er
    have dx : ((x : Int) == 0) = false := by simpa using hx
    have HX := Lib.hid er
    have hokr := hokz
    have hoks := hokz
    obtain ⟨W3, eW3⟩ : ∃ W3, W3 = (w3.alloc (.cells (cat zsN44).toArray 44)).setCells w3.heap.size 0 (cat zsN44) := ⟨_, rfl⟩
    have hb3' : Below w3.heap.size w3 W3 := by rw [eW3]; exact ((Below.refl _ _).alloc (Nat.le_refl _) _).setCells (Nat.le_refl _) _ _
    have hA3 : Arr W3 w3.heap.size 77 (cat zsN44) := by rw [eW3]; exact (Arr.new w3 77 (cat zsN44) 44 zsN44_len).setCells _ hokr
    have HB3' := Lib.hid (hB3.trans (hb3'.mono hB3.size))
    have HA3 := Lib.hid hA3
    have HW3 := Lib.hid eW3
    have HRR := Lib.hid (ref_read_tx a cap l W3 (HI.out.below HB3'.out) HBY.out (by have := HLE.out; have := HN.out; omega))
    rw [← HN.out] at HRR
    clear er eW3 hb3' hA3 hB3 hb3
    go_wp2_with fail
    rw [← HW3.out]
    refine HRR.out.mono ?_
    rintro e w4 ⟨hb4, hr4⟩
    rw [HX.out] at hr4
    simp only at hr4
    subst hr4
    have hB4 := HB3'.out.trans (hb4.mono HB3'.out.size)
    have f6 : (w4.alloc (.cells (cat zsN44).toArray 44)).free? w4.heap.size 0 77 = true := World.free?_alloc_at _ _ rfl (by simp [zsN44_len])
    obtain ⟨W4, eW4⟩ : ∃ W4, W4 = (w4.alloc (.cells (cat zsN44).toArray 44)).setCells w4.heap.size 0 (cat zsN44) := ⟨_, rfl⟩
    have hb4' : Below w4.heap.size w4 W4 := by rw [eW4]; exact ((Below.refl _ _).alloc (Nat.le_refl _) _).setCells (Nat.le_refl _) _ _
    have hA6 : Arr W4 w4.heap.size 77 (cat zsN44) := by rw [eW4]; exact (Arr.new w4 77 (cat zsN44) 44 zsN44_len).setCells _ hoks
    have hA4 : Arr W4 w3.heap.size 77 (cat zsN44) := (HA3.out.only (S := fun _ => False) (Only.of_below_size hb4) (fun h => h)).only (S := fun _ => False) (Only.of_below_size hb4') (fun h => h)
    have HB4 := Lib.hid (hB4.trans (hb4'.mono hB4.size))
    have HW4 := Lib.hid eW4
    have r4 := hA4.row
    have r6 := hA6.row
    have HS := Lib.hid (same_zero W4)
    have HA4 := Lib.hid hA4
    rw [eW4] at r4 r6
    clear eW4 hb4' hA6 hA4 hB4 hb4
    go_wp2_with fail
    rw [← HW4.out]
    refine (num16 (x : Int) _).mono ?_
    rintro e w5 ⟨rfl, rfl⟩
    rw [← HW4.out] at r4 r6
    have HB5 := HB4
    go_wp2_with fail
    refine HS.out.mono ?_
    rintro e w6 ⟨rfl, hb6⟩
    have HB6 := Lib.hid (HB4.out.trans (hb6.mono HB4.out.size))
    have hA7 := HA4.out.only (S := fun _ => False) (Only.of_below_size hb6) (fun h => h)
    have r7 := hA7.row
    have r8 := zs44_to r7
    clear hb6 hA7 r4 r6
    go_wp2
    go_ret
    exact ⟨rfl, HB6.out⟩
  | inr t =>
    rw [er] at hr3
    obtain ⟨dv, rfl, hnb3, hbyd⟩ := hr3
    have HX := Lib.hid er
    obtain ⟨tn, tp, tg, tf, tt, tm, tv, td⟩ := t
    obtain ⟨da, dc, rfl, hd3, _⟩ := hnb3.read
    have hokr := txS_ok ⟨tn, tp, tg, tf, tt, tm, tv, td⟩ da td.length dc
    obtain ⟨W3, eW3⟩ : ∃ W3, W3 = (w3.alloc (.cells (cat zsN44).toArray 44)).setCells w3.heap.size 0 (cat (txS ⟨tn, tp, tg, tf, tt, tm, tv, td⟩ (.slice da td.length dc))) := ⟨_, rfl⟩
    have hb3' : Below w3.heap.size w3 W3 := by rw [eW3]; exact ((Below.refl _ _).alloc (Nat.le_refl _) _).setCells (Nat.le_refl _) _ _
    have hA3 : Arr W3 w3.heap.size 77 (cat (txS ⟨tn, tp, tg, tf, tt, tm, tv, td⟩ (.slice da td.length dc))) := by rw [eW3]; exact (Arr.new w3 77 (cat zsN44) 44 zsN44_len).setCells _ hokr
    have HB3' := Lib.hid (hB3.trans (hb3'.mono hB3.size))
    have HA3 := Lib.hid hA3
    have HW3 := Lib.hid eW3
    have HRR := Lib.hid (ref_read_tx a cap l W3 (HI.out.below HB3'.out) HBY.out (by have := HLE.out; have := HN.out; omega))
    have HD3 := Lib.hid (hd3.below hb3')
    clear hd3 hnb3 hbyd
    rw [← HN.out] at HRR
    clear er eW3 hb3' hA3 hB3 hb3
    go_wp2_with fail
    rw [← HW3.out]
    refine HRR.out.mono ?_
    rintro e w4 ⟨hb4, hr4⟩
    rw [HX.out] at hr4
    obtain ⟨dv, rfl, hnb4, hbyd⟩ := hr4
    obtain ⟨db, dd, rfl, hd4, _⟩ := hnb4.read
    have hoks := txS_ok ⟨tn, tp, tg, tf, tt, tm, tv, td⟩ db td.length dd
    have hB4 := HB3'.out.trans (hb4.mono HB3'.out.size)
    have f6 : (w4.alloc (.cells (cat zsN44).toArray 44)).free? w4.heap.size 0 77 = true := World.free?_alloc_at _ _ rfl (by simp [zsN44_len])
    obtain ⟨W4, eW4⟩ : ∃ W4, W4 = (w4.alloc (.cells (cat zsN44).toArray 44)).setCells w4.heap.size 0 (cat (txS ⟨tn, tp, tg, tf, tt, tm, tv, td⟩ (.slice db td.length dd))) := ⟨_, rfl⟩
    have hb4' : Below w4.heap.size w4 W4 := by rw [eW4]; exact ((Below.refl _ _).alloc (Nat.le_refl _) _).setCells (Nat.le_refl _) _ _
    have hA6 : Arr W4 w4.heap.size 77 (cat (txS ⟨tn, tp, tg, tf, tt, tm, tv, td⟩ (.slice db td.length dd))) := by rw [eW4]; exact (Arr.new w4 77 (cat zsN44) 44 zsN44_len).setCells _ hoks
    have hA4 : Arr W4 w3.heap.size 77 (cat (txS ⟨tn, tp, tg, tf, tt, tm, tv, td⟩ (.slice da td.length dc))) := (HA3.out.only (S := fun _ => False) (Only.of_below_size hb4) (fun h => h)).only (S := fun _ => False) (Only.of_below_size hb4') (fun h => h)
    have HB4 := Lib.hid (hB4.trans (hb4'.mono hB4.size))
    have HW4 := Lib.hid eW4
    have r4 := hA4.row
    have r6 := hA6.row
    have HS := Lib.hid (same_tx tn tp tg tf tt tm tv td da db dc dd W4 ((HD3.out.below hb4).below hb4') (hd4.below hb4'))
    have HA4 := Lib.hid hA4
    rw [eW4] at r4 r6
    clear eW4 hb4' hA6 hA4 hB4 hb4 hd4 hnb4 hbyd
    go_wp2_with fail
    rw [← HW4.out]
    refine (num16 0 _).mono ?_
    rintro e w5 ⟨rfl, rfl⟩
    rw [← HW4.out] at r4 r6
    have HB5 := HB4
    go_wp2_with fail
    refine HS.out.mono ?_
    rintro e w6 ⟨rfl, hb6⟩
    have HB6 := Lib.hid (HB4.out.trans (hb6.mono HB4.out.size))
    have hA7 := HA4.out.only (S := fun _ => False) (Only.of_below_size hb6) (fun h => h)
    have r7 := hA7.row
    clear hb6 hA7 r4 r6
    go_wp2
    go_ret
    exact ⟨rfl, HB6.out⟩
theorem txReads_law (a : Option Addr) (n cap : Nat) (l : List Int) (hn : n = l.length) {w : World} (hI : Ints w .u8 a cap l) (hw : ∀ i, i < l.length → (Lit.int .u8 (l[i]?.getD 0)).wf = true) (w' : World) (e : w' = w := by rfl) :
    Calls Tryz.prog 6 #[.slice a n cap] w' fun e w2 => e = .returned (.bool true) ∧ Below w'.heap.size w' w2 := by
  subst e; exact txReads_walk a n cap l hn w' hI (byt_of_wf hw)
end Go.Proofs.YtikiciojfhfagaaGreat
