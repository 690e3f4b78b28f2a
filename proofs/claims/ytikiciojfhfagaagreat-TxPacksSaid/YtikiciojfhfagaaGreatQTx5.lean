/-
  The reference's accounts to play with: two at most.
  Transactions: Apply where it can't be; where a plain transaction moves its value.
  Plain transactions: what they come to, in plain Lean.
  The law's example: a plain transaction of two accounts.
  The law: what any bytes are as a transaction, or why they are none.
  Transactions as items: numbers and words as items.
  The reference's SameItem: of items that are the same.
-/
import Derived.Test.YtikiciojfhfagaaGreatQRef1
import Derived.Test.YtikiciojfhfagaaGreatQEv1
import Derived.Test.YtikiciojfhfagaaGreatQTx4
import Derived.Test.YtikiciojfhfagaaGreatQKd8
import Derived.Test.YtikiciojfhfagaaGreatQRef2
set_option linter.unusedVariables false
set_option linter.unusedSimpArgs false
namespace Go.Proofs.YtikiciojfhfagaaGreat
open Go.RowKit Go.Mun

theorem lensG : lens zs81 = [20, 1, 32, 1, 1] := by kernel_rfl
theorem buildG (a b : Nat) : fillL 55 (plOf zs81) (cat zs81) [(0, .agg (beC 20 a).toArray), (2, .agg (beC 32 b).toArray)] = some (cat (acS ⟨a, 0, b, []⟩ (.slice none 0 0) (.slice none 0 0))) := by
  rw [fillL_cats _ _ _ zs81_len]
  · rfl
  · rw [lensG]
    refine fits_cons ?_ (fits_cons ?_ (fits_nil _))
    · show some 20 = some (beC 20 a).length; rw [beC_len]
    · show some 32 = some (beC 32 b).length; rw [beC_len]
set_option maxRecDepth 1000000 in
theorem slG1 : SliceLit Tryz.prog 33 94 55 1 (cat [cat zs81]) := ⟨Tryz.underlying33, ⟨_, .agg (cat zs81).toArray, rfl, by kernel_rfl, by kernel_rfl, by kernel_rfl⟩, by decide, by kernel_rfl, by decide⟩
def fillG (p : List (Nat × Value)) : Option (List Value) := fillL (1 * 55) ((List.range 1).map fun i => (i * 55, 55)) (cat [cat zs81]) p
theorem bsG1 (ρ : Operand → Value) (dst : Option Tmp) (x : Operand) (t : TypeId) (pos : String) (after : Array Edge) (gd : Option (Nat × Bool)) (w : World) :
    (execOp ρ ⟨dst, .buildSlice 33 1 #[(0, x)], t, pos, after, gd⟩).run Tryz.prog w = asNext (bsRow Tryz.prog 33 94 1 [(0, ρ x)] w (fillG [(0, ρ x)])) :=
  ex_bslice ρ dst t pos after gd w slG1 [(0, x)]
@[go_sem] theorem fillG_one (c : List Value) (h : c.length = 55) : fillG [(0, .agg c.toArray)] = some c := by
  unfold fillG
  have h1 : lens [cat zs81] = [55] := by kernel_rfl
  have h3 : plOf [cat zs81] = (List.range 1).map fun i => (i * 55, 55) := by kernel_rfl
  rw [← h3, fillL_cats _ _ _ (by kernel_rfl)]
  · show some (cat [c]) = some c
    simp [cat]
  · rw [h1]
    refine fits_cons ?_ (fits_nil _)
    show some 55 = some c.length; rw [h]
attribute [go_sem ↓] bsG1
set_option maxRecDepth 100000 in
theorem elemG : ElemOf Tryz.prog 33 94 (.agg (cat zs81).toArray) 55 112 := .mk' Tryz.underlying33 (by kernel_rfl) (by kernel_rfl) (by decide)
def genA (i : Nat) : Ac := ⟨i + 1, 0, 1000000000000000000, []⟩
def genL (k : Nat) : List Ac := (List.range k).map genA
def genC (k : Nat) : List Value := cat ((List.range k).map fun i => cat (acS (genA i) (.slice none 0 0) (.slice none 0 0)))
theorem genC_succ (k : Nat) : genC (k + 1) = genC k ++ cat (acS (genA k) (.slice none 0 0) (.slice none 0 0)) := by
  unfold genC
  rw [List.range_succ, List.map_append]
  simp [cat]
theorem acS0_ok (x : Ac) : okL 55 (cat (acS x (.slice none 0 0) (.slice none 0 0))) = true := by
  refine okL_cat (acS_len _ _ _) fun s hs => ?_
  simp only [acS, List.mem_cons, List.not_mem_nil, or_false] at hs
  rcases hs with rfl | rfl | rfl | rfl | rfl
  · rw [beC_len]; exact beC_ok _ _
  · rfl
  · rw [beC_len]; exact beC_ok _ _
  · rfl
  · rfl
structure GenR (w wr : World) (v : Value) (k : Nat) : Prop where
  below : Below w.heap.size w wr
  own : wr.ownsRow w.heap.size 94 55 v k (genC k)
set_option maxRecDepth 100000 in
theorem ref_gen (n : Nat) (hn : n ≤ 2) (w : World) :
    Calls Tryz.prog 15 #[.int .i64 n] w fun e w' => ∃ v, e = .returned v ∧ GenR w w' v n := by
  have o1 : ofW 1000000000000000000 = 1000000000000000000 := by kernel_rfl
  have O1 := Lib.hid (fun w => ref_of 1000000000000000000 (by decide) (by decide) w)
  rw [o1] at O1
  have hle : (n : Int) ≤ 100 := by omega
  have hd : decide ((100 : Int) < n) = false := decide_eq_false (by omega)
  clear o1
  go_enter Tryz.func15, Tryz.ntmps15
  go_wp2_with fail
  go_loopw [3, 4] (fun v i wr => ∃ k : Nat, k ≤ n ∧ i = .int .i64 ((k : Int) + 1) ∧ GenR w wr v k) (fun _ i _ => n + 1 - (intOf i).toNat)
  case atStart => exact ⟨0, by omega, rfl, Below.refl _ _, World.ownsRow_nil _ _ _ _⟩
  case round =>
    obtain ⟨k, hk, rfl, hr⟩ := hrel
    by_cases hlt : k < n
    · have h3' : (((k : Int) + 1) % 3 == 0) = false := by simp; omega
      have h3'' : ((((k + 1 : Nat) : Int)) % 3 == 0) = false := by simp; omega
      have hti : (((k : Int) + 1).tmod 3 == 0) = false := by rw [Int.tmod_eq_emod_of_nonneg (by omega)]; exact h3'
      have hle2 : ((k : Int) + 1) ≤ n := by omega
      have HR := Lib.hid hr
      have hb := buildG (k + 1) 1000000000000000000
      have hcl := acS_len (genA k) (.slice none 0 0) (.slice none 0 0)
      have ecl : cat (acS ⟨k + 1, 0, 1000000000000000000, []⟩ (.slice none 0 0) (.slice none 0 0)) = cat (acS (genA k) (.slice none 0 0) (.slice none 0 0)) := rfl
      rw [ecl] at hb
      have N1 := Lib.hid (fun w => ref_name (k + 1) (by omega) w)
      have hok := acS0_ok (genA k)
      have HS := Lib.hid (genC_succ k)
      clear hr ecl
      generalize hC : cat (acS (genA k) (.slice none 0 0) (.slice none 0 0)) = C at *
      have HCC := Lib.hid hC
      clear hC
      go_wp2_with fail
      refine (N1.out _).mono ?_
      rintro e w1 ⟨rfl, hb1⟩
      go_wp2_with fail
      refine (O1.out _).mono ?_
      rintro e w2 ⟨rfl, hb2⟩
      have hb12 := hb1.trans (hb2.mono hb1.size)
      have hsz := HR.out.below.size
      have hsz2 := hb12.size
      obtain ⟨w3, e3⟩ : ∃ w3, w3 = (w2.alloc (.cells (cat zs81).toArray 94)).setCells w2.heap.size 0 C := ⟨_, rfl⟩
      have hb3 : Below w2.heap.size w2 w3 := by rw [e3]; exact ((Below.refl _ _).alloc (Nat.le_refl _) _).setCells (Nat.le_refl _) _ _
      have hz : Arr w3 w2.heap.size 55 C := by rw [e3]; exact (Arr.new w2 55 (cat zs81) 94 zs81_len).setCells _ hok
      have hf2 : (w2.alloc (.cells (cat zs81).toArray 94)).free? w2.heap.size 0 55 = true := (Arr.new w2 55 (cat zs81) 94 zs81_len).free
      have r3 := hz.row
      have HB3 := Lib.hid (hb12.trans (hb3.mono hsz2))
      have HE3 := Lib.hid e3
      rw [e3] at r3
      clear hb1 hb2 hb12 hb3 hz e3
      go_wp2_with (at_builtin; go_must (refine wpList_append_at (base := w.heap.size) (n := k) (xs := genC k) elemG rfl _ _ rfl rfl rfl ?own ?c0 ?c1 ?c3 ?c4 ?c5 ?_))
      case own =>
        rw [← HE3.out]
        exact ownsRow_below HR.out.own HB3.out
      case c0 => simp
      case c1 => exact hok
      case c3 => unfold maxLen; omega
      case c4 => omega
      case c5 => have := HB3.out.size; rw [← HE3.out]; omega
      intro v' w' ho hg _
      rw [← HE3.out] at hg
      rw [← HS.out] at ho
      have HN : Hid (GenR w w' v' (k + 1)) := ⟨by
        have hb := HR.out.below.trans (HB3.out.mono hsz)
        exact hb.grown hg (Nat.le_trans hsz HB3.out.size) (fun j hj => ((ownsRow_below HR.out.own HB3.out).lt j hj).1), ho⟩
      clear ho hg
      go_wp2
      go_roundw
      case rel => exact ⟨k + 1, by omega, by go_num, HN.out⟩
      case measure => simp [intOf]; omega
    · have hle2 : ¬ ((k : Int) + 1) ≤ n := by omega
      have hkn : k = n := by omega
      subst hkn
      have HR := Lib.hid hr
      clear hr
      go_wp2
      go_ret
      exact ⟨_, rfl, HR.out⟩
theorem GenR.accts {w wr : World} {v : Value} {k : Nat} (h : GenR w wr v k) (hk : 0 < k) (hk2 : k ≤ 2) : ∃ b c, v = .slice (some ⟨b, 0, none⟩) (genL k).length c ∧ w.heap.size ≤ b ∧ ∀ i (hi : i < (genL k).length), AcAt wr b (0 + i * 55) (genL k)[i] := by
  obtain ⟨g, c, rfl, hg, _, _, hrow, _⟩ := own_words h.own hk
  have hlen : (genL k).length = k := by simp [genL]
  refine ⟨g, c, by rw [hlen], hg, fun i hi => ?_⟩
  rw [hlen] at hi
  have e : (genL k)[i] = genA i := by simp [genL]
  rw [e]
  have hn : (cat ((List.range k).map fun i => cat (acS (genA i) (.slice none 0 0) (.slice none 0 0)))) = genC k := rfl
  refine ⟨⟨.slice none 0 0, ?_, roAt_nil _ _⟩, ?_, ?_, ?_⟩
  · have hoff : offOf ((List.range k).map fun i => cat (acS (genA i) (.slice none 0 0) (.slice none 0 0))) i = i * 55 := by
      match k, i, hk2, hi with
      | 1, 0, _, _ => rfl
      | 2, 0, _, _ => rfl
      | 2, 1, _, _ => simp [offOf_succ, offOf_zero, List.range, List.range.loop]
    rw [← hn] at hrow
    exact row_cat hrow (i := i) (by simp [hi]) (by rw [hoff]) (by simp)
  · show i + 1 < wA
    exact Nat.lt_of_le_of_lt (show i + 1 ≤ 2 by omega) (by decide)
  · show 1000000000000000000 < wW; decide
  · show (0 : Int) ≤ _; decide
end Go.Proofs.YtikiciojfhfagaaGreat
namespace Go.Proofs.YtikiciojfhfagaaGreat
open Go.RowKit Go.Mun

theorem noStep {sb : Nat} {cx : Ctx} : ∀ rb tb tab, TabOk tab → StepOk sb rb tb cx tab (fun _ _ => .none) := by
  intro rb tb tab _ E w own c f S n _ _ _ _ _ _ _ _ hh
  exact absurd rfl hh
/-- A plain transaction: it calls an account without a code. -/
theorem tx_plain {w : World} {own : Own} {sb : Nat} {S S3 : St} {M : List (Nat × St)} {k N : Nat} {t : TxP} {da : Option Addr} {dl dc : Nat} {cx : Ctx} (h : StateAt TU w own sb S M k) (ht : TxOk t) (hcx : cx.coinbase < wA)
    (hd : RoAt w (fun b => own b ≠ none) (.slice da dl dc) t.data) (hmay : mayTx S t = 0) (hmk : t.make = false) (hmv : (payS S t).move t.frm t.to t.value = some S3) (hcode : (S3 t.to).code = []) (hk : k + 6 + t.gas.toNat ≤ N) (hN : N + 1 ≤ 1099511627776) :
    Calls Tryz.prog 17 #[.pointer (some ⟨sb, 0, none⟩), .agg (cat (txS t (.slice da dl dc))).toArray, .agg (cat (ctxS cx)).toArray] w fun e w' =>
      ∃ o, (o.err = 0 ∧ o.gas = t.gas - intrN t) ∧ ∃ ov lv own', e = .returned (.tuple #[.agg (cat (recS o.err (t.gas - (t.gas - intrN t)) ov lv o.addr)).toArray, .int .i64 0]) ∧ StateAt TU w' own' sb (endTx S3 t cx.coinbase (t.gas - intrN t)) M (N + 1 + 1) ∧ Chg w w' own own' ∧ OutAt w' own' w.heap.size ov lv o := by
  obtain ⟨m1, m2, m3, m4, m5, m6, m7, m8, m9, m10⟩ := may_ok hmay
  refine (tx_apply_call (S' := S3) (F := fun o => o.err = 0 ∧ o.gas = t.gas - intrN t) (g0 := t.gas - intrN t) h ht hcx hd hmay hmk (by omega) hN (by omega) (fun o ho => ho.2) (fun w1 own1 h1 hd1 => ?_))
  · obtain ⟨t1, t2, t3, t4, t5, t6⟩ := ht
    have hl : loopR (fun _ _ => Res.none) 1 (frame0 (msgCall t) (S3 (msgCall t).to).code) S3 = some (0, frame0 (msgCall t) (S3 (msgCall t).to).code, S3) := by
      unfold loopR
      rw [if_pos]
      right
      show (S3 t.to).code.length ≤ 0
      rw [hcode]; exact Nat.le_refl _
    refine (evm_run_ok (cx := { cx with origin := t.frm }) (N := N) (m := msgCall t) (dv := .slice da dl dc) (S1 := S3) h1 (by omega) ⟨t1, t2, show 0 < wA by decide, t3, show 0 < wW by decide, ⟨by show _ ≤ t.gas - _; omega, by show t.gas - _ ≤ _; omega⟩, ⟨by show _ ≤ (0 : Int); decide, by show (0 : Int) ≤ _; decide⟩⟩ rfl (by show (0 : Int) ≤ t.gas - _; omega) (by show (0 : Int) ≤ 64; decide) hd1 (by show k + 1 + 1 + 3 + (t.gas - (intrN t : Int)).toNat ≤ N; omega) noStep hmv hl).mono ?_
    rintro e w' ⟨o, ov, lv, own', n', rfl, st, g, oa, o1, o2, o3, o4, o5, o6⟩
    refine ⟨o, ⟨o3, ?_⟩, ov, lv, own', n', rfl, st, g, oa, by omega⟩
    rw [o4]
    show (((t.gas - intrN t).toNat : Nat) : Int) = _
    omega
end Go.Proofs.YtikiciojfhfagaaGreat
namespace Go.Proofs.YtikiciojfhfagaaGreat
open Go.RowKit Go.Mun

theorem lensTx7 : lens zsN44 = [1, 1, 1, 20, 20, 1, 32, 1] := by kernel_rfl
def txP (price gas : Int) (value : Nat) : TxP := ⟨0, price, gas, 1, 2, false, value, []⟩
theorem buildTxA (g : Int) (v : Nat) : fillL 77 (plOf zsN44) (cat zsN44) [(3, .agg (beC 20 1).toArray), (4, .agg (beC 20 2).toArray), (2, .int .i64 g), (6, .agg (beC 32 v).toArray)] = some (cat (txS (txP 0 g v) (.slice none 0 0))) := by
  rw [fillL_cats _ _ _ zsN44_len]
  · rfl
  · rw [lensTx7]
    refine fits_cons ?_ (fits_cons ?_ (fits_cons rfl (fits_cons ?_ (fits_nil _))))
    · show some 20 = some (beC 20 1).length; rw [beC_len]
    · show some 20 = some (beC 20 2).length; rw [beC_len]
    · show some 32 = some (beC 32 v).length; rw [beC_len]
theorem txP_ok {p g : Int} {v : Nat} (hp : 0 ≤ p ∧ p ≤ 1000) (hg : 0 ≤ g ∧ g ≤ 1048576) (hv : v ≤ 1099511627776) : TxOk (txP p g v) :=
  ⟨show 1 < wA by decide, show 2 < wA by decide, show v < wW from Nat.lt_of_le_of_lt hv (by decide), ⟨by show _ ≤ (0 : Int); decide, by show (0 : Int) ≤ _; decide⟩, ⟨by show _ ≤ p; omega, by show p ≤ _; omega⟩, ⟨by show _ ≤ g; omega, by show g ≤ _; omega⟩⟩
theorem txP_intr (p g : Int) (v : Nat) : intrN (txP p g v) = 21000 := rfl
theorem wW_lit : wW = 115792089237316195423570985008687907853269984665640564039457584007913129639936 := by unfold wW; decide
def accG : Acc := ⟨0, 1000000000000000000, [], fun _ => 0⟩
theorem newS2 : newS (genL 2) = upd (upd (fun _ => Acc.none) 1 accG) 2 accG := rfl
theorem newS2_1 : newS (genL 2) 1 = accG := by rw [newS2]; simp [upd]
theorem newS2_2 : newS (genL 2) 2 = accG := by rw [newS2]; simp [upd]
theorem mul_small {p g : Int} (hp : 0 ≤ p ∧ p ≤ 1000) (hg : 0 ≤ g ∧ g ≤ 1048576) : ∃ q : Nat, p * g = q ∧ q ≤ 1048576000 := by
  have h0 := Int.mul_nonneg hp.1 hg.1
  have h1 : p * g ≤ 1000 * 1048576 := Int.mul_le_mul hp.2 hg.2 hg.1 (by decide)
  exact ⟨(p * g).toNat, by omega, by omega⟩
theorem may_txP {p g : Int} {v : Nat} (hp : 0 ≤ p ∧ p ≤ 1000) (hg : 0 ≤ g ∧ g ≤ 1048576) (hv : v ≤ 1099511627776) : mayTx (newS (genL 2)) (txP p g v) = if g < 21000 then 11 else 0 := by
  obtain ⟨q, hq, hql⟩ := mul_small hp hg
  unfold mayTx
  rw [show (newS (genL 2)) (txP p g v).frm = accG from newS2_1, txP_intr]
  rw [if_neg (by show ¬ ((0 : Int) < 0 ∨ p < 0 ∨ g < 0 ∨ 2147483647 < p ∨ 2147483647 < g); omega)]
  rw [if_neg (by show ¬ ((0 : Int) ≠ ((0 : Nat) : Int) ∨ 4611686018427387904 ≤ (0 : Int)); omega)]
  show (if g < ((21000 : Nat) : Int) then 11 else if 1000000000000000000 < v ∨ 1000000000000000000 - v < (p * g).toNat then 16 else 0) = _
  by_cases h : g < 21000
  · rw [if_pos (by omega), if_pos h]
  · rw [if_neg (by omega), if_neg h, if_neg (by rw [hq]; omega)]
theorem pay_1 {p g : Int} {v q : Nat} (hq : (p * g).toNat = q) : (payS (newS (genL 2)) (txP p g v)) 1 = ⟨1, 1000000000000000000 - q, [], fun _ => 0⟩ := by
  unfold payS
  show ((newS (genL 2)).setBal 1 ((newS (genL 2) 1).bal - (p * g).toNat)).setNonce 1 ((newS (genL 2) 1).nonce + 1) 1 = _
  rw [hq, newS2_1]
  simp [St.setNonce, St.setBal, upd, newS2_1, accG]
theorem pay_2 {p g : Int} {v : Nat} : (payS (newS (genL 2)) (txP p g v)) 2 = accG := by
  unfold payS
  show ((newS (genL 2)).setBal 1 _).setNonce 1 _ 2 = _
  simp [St.setNonce, St.setBal, upd, newS2_2]
/-- Behind the move. -/
def movS (p g : Int) (v : Nat) : St := ((payS (newS (genL 2)) (txP p g v)).setBal 1 (1000000000000000000 - (p * g).toNat - v)).setBal 2 (1000000000000000000 + v)
theorem mov_ok {p g : Int} {v : Nat} (hp : 0 ≤ p ∧ p ≤ 1000) (hg : 0 ≤ g ∧ g ≤ 1048576) (hv : v ≤ 1099511627776) : (payS (newS (genL 2)) (txP p g v)).move (txP p g v).frm (txP p g v).to (txP p g v).value = some (movS p g v) := by
  obtain ⟨q, hq, hql⟩ := mul_small hp hg
  have hq' : (p * g).toNat = q := by omega
  show St.move _ 1 2 v = _
  unfold St.move movS
  rw [pay_1 hq', pay_2, hq']
  rw [if_neg (by show ¬ (1000000000000000000 - q < v); omega), if_neg (by decide), if_neg (by show ¬ wW ≤ 1000000000000000000 + v; rw [wW_lit]; omega)]
  rfl
theorem mov_2 {p g : Int} {v : Nat} : movS p g v 2 = ⟨0, 1000000000000000000 + v, [], fun _ => 0⟩ := by
  unfold movS
  simp [St.setBal, upd, pay_2, accG]
end Go.Proofs.YtikiciojfhfagaaGreat
namespace Go.Proofs.YtikiciojfhfagaaGreat
open Go.RowKit Go.Mun

theorem num16 (e : Int) (w : World) : Calls Tryz.prog 19 #[.int .i64 e] w fun r w' => r = .returned (.int .i64 e) ∧ w' = w := by
  go_enter Tryz.func19, Tryz.ntmps19
  go_wp2
  go_ret
  exact ⟨rfl, rfl⟩
section
variable {w : World} {b : Nat} {e u : Int} {ov lv : Value} {a : Nat}
theorem rec0_err (h : w.row? b 0 24 = some (cat (recS e u ov lv a))) : w.cell? ⟨b, 0, none⟩ = some (.int .i64 e) := cell_cat h (i := 0) rfl (by simp [recS, offOf_zero])
theorem rec0_used (h : w.row? b 0 24 = some (cat (recS e u ov lv a))) : w.cell? ⟨b, 1, none⟩ = some (.int .i64 u) := cell_cat h (i := 1) rfl (by simp [recS, offOf_succ, offOf_zero])
end
theorem Chg.belowGe {w w1 w2 : World} {own own' : Own} (g : Chg w1 w2 own own') (hb : Below w.heap.size w w1) (hge : ∀ b, own b ≠ none → w.heap.size ≤ b) : Below w.heap.size w w2 := g.only.below hb.size (fun i hi => hge i hi) |> fun h => hb.trans h
set_option maxRecDepth 100000 in
set_option maxHeartbeats 1000000 in
theorem tx_alive (w : World) : Calls Tryz.prog 13 #[] w fun e w' => e = .returned (.bool true) ∧ Below w.heap.size w w' := by
  have G2 := Lib.hid (fun w => ref_gen 2 (by decide) w)
  have N1 := Lib.hid (fun w => ref_name 1 (by decide) w)
  have N2 := Lib.hid (fun w => ref_name 2 (by decide) w)
  have o5 : ofW 5 = 5 := by kernel_rfl
  have O5 := Lib.hid (fun w => ref_of 5 (by decide) (by decide) w)
  rw [o5] at O5
  have hb44 := buildTxA 30000 5
  clear o5
  go_enter Tryz.func13, Tryz.ntmps13
  go_wp2_with fail
  refine (G2.out _).mono ?_
  rintro e w1 ⟨v, rfl, hg⟩
  obtain ⟨b, c, rfl, hbge, hac⟩ := hg.accts (by decide) (by decide)
  have HB1 := Lib.hid hg.below
  have HNW := Lib.hid (state_new b 0 c (genL 2) (by decide) w1 hac)
  clear hg hac
  go_wp2_with fail
  refine HNW.out.mono ?_
  rintro e w2 ⟨sb, rfl, hb2, own, hst, hlo⟩
  have HST := Lib.hid hst
  have HLO := Lib.hid (fun b hb => Nat.le_trans HB1.out.size (hlo b hb))
  have HB2 := Lib.hid (HB1.out.trans (hb2.mono HB1.out.size))
  clear hst hlo hb2
  go_wp2_with fail
  refine (N1.out _).mono ?_
  rintro e w3 ⟨rfl, hb3⟩
  have HST3 := Lib.hid (HST.out.below hb3)
  have HB3 := Lib.hid (HB2.out.trans (hb3.mono HB2.out.size))
  clear hb3
  go_wp2_with fail
  refine (N2.out _).mono ?_
  rintro e w4 ⟨rfl, hb4⟩
  have HST4 := Lib.hid (HST3.out.below hb4)
  have HB4 := Lib.hid (HB3.out.trans (hb4.mono HB3.out.size))
  clear hb4
  go_wp2_with fail
  refine (O5.out _).mono ?_
  rintro e w5 ⟨rfl, hb5⟩
  have HST5 := Lib.hid (HST4.out.below hb5)
  have HB5 := Lib.hid (HB4.out.trans (hb5.mono HB4.out.size))
  clear hb5
  have HAP := Lib.hid (tx_plain (N := 100000) (cx := ⟨0, 0, 0, 0, 0⟩) HST5.out (txP_ok (p := 0) (g := 30000) (v := 5) (by decide) (by decide) (by decide)) (show 0 < wA by decide) (roAt_nil _ _) (may_txP (by decide) (by decide) (by decide)) rfl (mov_ok (by decide) (by decide) (by decide)) (by show (movS 0 30000 5 2).code = []; rw [mov_2]) (by show 0 + 6 + 30000 ≤ 100000; decide) (by decide))
  go_wp2_with fail
  refine HAP.out.mono ?_
  rintro e w6 ⟨o, ⟨o1, o2⟩, ov, lv, own', rfl, hs6, g6, oa⟩
  obtain ⟨oa1, ok1, lb1, lj1, rfl, rfl⟩ := oa.forms
  rw [show (txP 0 30000 5).gas - ((txP 0 30000 5).gas - (intrN (txP 0 30000 5) : Int)) = 21000 from rfl, o1]
  have hokr := recS_ok 0 21000 oa1 lb1 o.out.length ok1 o.logs.length lj1 o.addr
  have hlr := recS_len 0 21000 (.slice oa1 o.out.length ok1) (.slice lb1 o.logs.length lj1) o.addr
  have hfr : (w6.alloc (.cells (cat zsN39).toArray 39)).free? w6.heap.size 0 24 = true := (Arr.new w6 24 (cat zsN39) 39 zsN39_len).free
  have hz := (Arr.new w6 24 (cat zsN39) 39 zsN39_len).setCells _ hokr
  have c0 := rec0_err hz.row
  have c1 := rec0_used hz.row
  have HB6 := Lib.hid (Chg.belowGe g6 HB5.out HLO.out)
  have HB7 := Lib.hid ((HB6.out.alloc HB6.out.size (.cells (cat zsN39).toArray 39)).setCells HB6.out.size (b := w6.heap.size) 0 (cat (recS 0 21000 (.slice oa1 o.out.length ok1) (.slice lb1 o.logs.length lj1) o.addr)))
  clear hs6 g6 oa o1 o2 hz hb44
  go_wp2_with fail
  refine (num16 0 _).mono ?_
  rintro e w7 ⟨rfl, rfl⟩
  go_wp2_with fail
  refine (num16 0 _).mono ?_
  rintro e w8 ⟨rfl, rfl⟩
  go_wp2
  go_ret
  exact ⟨rfl, HB7.out⟩
end Go.Proofs.YtikiciojfhfagaaGreat
namespace Go.Proofs.YtikiciojfhfagaaGreat
open Go.RowKit Go.Mun

theorem zU8_be20 : zU8 20 = beC 20 0 := by kernel_rfl
theorem byt_of_wf {l : List Int} (h : ∀ i, i < l.length → (Lit.int .u8 (l[i]?.getD 0)).wf = true) : Byt l := by
  intro x hx
  obtain ⟨i, hi, rfl⟩ := List.getElem_of_mem hx
  have := h i hi
  rw [List.getElem?_eq_getElem hi] at this
  have h2 : 0 ≤ l[i] ∧ l[i] ≤ 255 := wf_u8 this
  exact ⟨h2.1, by omega⟩
end Go.Proofs.YtikiciojfhfagaaGreat
namespace Go.Proofs.YtikiciojfhfagaaGreat
open Go.RowKit Go.Mun

/-- A new item of bytes. -/
structure KidNew (w w' : World) (v : Value) (l : Bts) : Prop where
  read : ∃ a c, v = .agg #[.bool false, .slice a l.length c, .slice none 0 0] ∧ Ints w' .u8 a c l ∧ ∀ p, a = some p → w.heap.size ≤ p.block
  below : Below w.heap.size w w'
set_option maxRecDepth 100000 in
theorem rlp_num2 (n : Int) (hn : n ≤ 9223372036854775807) (w : World) : Calls Tryz.prog 37 #[.int .i64 n] w fun e w' => ∃ v, e = .returned v ∧ KidNew w w' v (bigL n.toNat) := by
  go_enter Tryz.func37, Tryz.ntmps37
  go_wp2_with fail
  refine (rlp_bigI n hn _).mono ?_
  rintro e w1 ⟨v, rfl, h1⟩
  obtain ⟨a, c, rfl, h2, hfr⟩ := h1.read
  have HF := Lib.hid hfr
  clear hfr
  have hf : w1.free? w.heap.size 0 3 = true := by
    rw [(brow h1.below).2 _ _ _ (by simp)]; simp [go_sem]
  have hb := h1.below
  have HB : Hid (Below w.heap.size w w1) := ((Below.refl _ _).alloc (Nat.le_refl _) _).trans (hb.mono (by simp))
  have H2 := Lib.hid h2
  generalize hl : (bigL n.toNat).length = k at *
  have HL := Lib.hid hl
  clear h1 h2 hb hl
  go_wp2
  have e : lay itemZ 1 [Value.slice a k c] = [.bool false, .slice a k c, .slice none 0 0] := rfl
  rw [e]
  refine ret_row ty61 rfl _ rfl rfl hf (by simp [okL, Value.oneCell']) ⟨_, rfl, ⟨a, c, by rw [HL.out], ?_, fun p hp => ?_⟩, HB.out.setCells (Nat.le_refl _) _ _⟩
  · refine Ints.only (S := (· = w.heap.size)) H2.out ((Only.refl (· = w.heap.size) w1).setCells (fun _ => rfl) _ _) (fun p hp => ?_)
    have := HF.out p hp
    simp at this
    omega
  · have := HF.out p hp
    simp at this
    omega
theorem slice25_all (b : Nat) (w : World) : (Instr.sliceAt 25 (.pointer (some ⟨b, 0, none⟩)) none none none).run Tryz.prog w = .ok (.slice (some ⟨b, 0, none⟩) 32 32) w := by kernel_rfl
set_option maxRecDepth 100000 in
set_option maxHeartbeats 1000000 in
theorem rlp_Big (m : Nat) (hm : m < 256 ^ 32) (w : World) : Calls Tryz.prog 60 #[.agg (beC 32 m).toArray] w fun e w' => ∃ v, e = .returned v ∧ KidNew w w' v (bigL m) := by
  have hz := be_big 32 m hm
  have hl := bigL_len 32 m hm
  obtain ⟨z, ez⟩ : ∃ z, z = 32 - (bigL m).length := ⟨_, rfl⟩
  rw [← ez] at hz
  obtain ⟨L, hL⟩ : ∃ L : Bts, L = List.replicate z 0 ++ bigL m := ⟨_, rfl⟩
  have hL32 : L.length = 32 := by rw [hL]; simp; omega
  obtain ⟨w0, ew0⟩ : ∃ w0, w0 = (w.alloc (.cells (beC 32 m).toArray 25)).alloc (.cells itemZ.toArray 65) := ⟨_, rfl⟩
  have hb0 : Below w.heap.size w w0 := by rw [ew0]; exact ((Below.refl _ _).alloc (Nat.le_refl _) _).alloc (by simp) _
  have hr0 : w0.row? w.heap.size 0 32 = some (u8L L) := by
    rw [ew0, World.row?_alloc_lt _ (by simp)]
    have : u8L L = beC 32 m := by rw [hL, ← hz]; rfl
    rw [this]
    exact World.row?_alloc_at _ _ _ rfl (by simp)
  have hf0 : w0.free? (w.heap.size + 1) 0 3 = true := by rw [ew0]; simp [go_sem]
  have hI : Ints w0 .u8 (some ⟨w.heap.size, 0, none⟩) 32 L := by
    refine ⟨fun _ => ⟨w.heap.size, 0, rfl, fun i hi => ?_⟩, fun h => (by cases h), by omega, by unfold maxLen; omega⟩
    rw [World.row?_cell hr0 (show i < 32 by omega)]
    simp [u8L, List.getElem?_map, List.getElem?_eq_getElem hi]
  have HDZ : Hid (L.drop z = bigL m) := by show _ = _; rw [hL, List.drop_left' (by simp)]
  have HL0 : Hid (∀ q, q < z → L[q]?.getD 0 = 0) := fun q hq => by rw [hL, List.getElem?_append_left (by simpa using hq), List.getElem?_replicate, if_pos hq]; rfl
  have HB0 := Lib.hid hb0
  have HE0 := Lib.hid ew0
  have HF0 := Lib.hid hf0
  have HI := Lib.hid hI
  have HL32 := Lib.hid hL32
  have HZ := Lib.hid (show z = 32 - (bigL m).length ∧ (bigL m).length ≤ 32 from ⟨ez, hl⟩)
  have hsl := slice25_all w.heap.size
  clear hz hl ez hL hL32 hb0 ew0 hr0 hf0 hI hm
  go_enter Tryz.func60, Tryz.ntmps60
  go_wp2_with fail
  rw [← HE0.out]
  go_loop [3] (fun v => ∃ q o c ℓ : Nat, q ≤ z ∧ v = .slice (some ⟨w.heap.size, o, none⟩) ℓ c ∧ ℓ = (L.drop q).length ∧ Ints w0 .u8 (some ⟨w.heap.size, o, none⟩) c (L.drop q)) (fun v => slLen v)
  case atStart => exact ⟨0, 0, 32, 32, Nat.zero_le _, rfl, by rw [List.drop_zero]; exact HL32.out.symm, by rw [List.drop_zero]; exact HI.out⟩
  case round =>
    obtain ⟨q, o, c, ℓ, hq, rfl, hℓ, hIq⟩ := hrel
    have hlen : (L.drop q).length = 32 - q := by rw [List.length_drop, HL32.out]
    by_cases hlt : q < z
    · have hp : 0 < ℓ := by have := HZ.out.1; omega
      obtain ⟨b1, o1, ha1, _, hc1⟩ := hIq.at (i := 0) (by rw [← hℓ]; exact hp)
      cases ha1
      have c0 := hc1 0 (by rw [← hℓ]; exact hp)
      rw [Nat.add_zero, List.getElem?_drop, Nat.add_zero, HL0.out q hlt] at c0
      obtain ⟨o', c', hs1, hI1⟩ := slice_rest hIq 1 (by rw [← hℓ]; exact hp)
      rw [← hℓ, show ((1 : Nat) : Int) = 1 from rfl] at hs1
      rw [List.drop_drop] at hI1
      have dp : decide ((0 : Int) < (ℓ : Int)) = true := decide_eq_true (by omega)
      have hpz : (0 : Int) < (ℓ : Int) := by omega
      have HI1 := Lib.hid hI1
      have HLL : Hid (ℓ - 1 = (L.drop (q + 1)).length ∧ ℓ - 1 < ℓ) := ⟨by rw [List.length_drop, HL32.out]; omega, by omega⟩
      clear hIq hc1 hI1 hℓ hlen
      go_wp2_with fail
      go_round
      case rel => exact ⟨q + 1, o', c', ℓ - 1, by omega, rfl, HLL.out.1, HI1.out⟩
      case measure => exact HLL.out.2
    · obtain rfl : q = z := by omega
      rw [HDZ.out] at hIq hℓ
      have HIq := Lib.hid hIq
      have HLQ := Lib.hid hℓ
      have HC := Lib.hid (slices_clone _ ℓ c (bigL m) hℓ (by have := HZ.out.2; omega) w0 hIq)
      by_cases h0 : ℓ = 0
      · have dp : decide ((0 : Int) < (ℓ : Int)) = false := decide_eq_false (by omega)
        have dpn : (0 < ℓ) = False := eq_false (by omega)
        have dpm : decide (0 < ℓ) = false := decide_eq_false (by omega)
        have dpe : (ℓ = 0) = True := eq_true h0
        clear hIq hℓ hlen hlt hq h0
        go_wp2_with fail
        refine HC.out.mono ?_
        rintro e w2 ⟨v, rfl, hnb⟩
        obtain ⟨a2, c2, rfl, hi2, hfr⟩ := hnb.read
        rw [← HLQ.out]
        have hf2 : w2.free? (w.heap.size + 1) 0 3 = true := by rw [(brow hnb.below).2 _ _ _ (free?_lt HF0.out)]; exact HF0.out
        have HB2 := Lib.hid (HB0.out.trans (hnb.below.mono HB0.out.size))
        have HN2 := Lib.hid hi2
        have HFR := Lib.hid (fun p hp => Nat.lt_of_lt_of_le (free?_lt HF0.out) (hfr p hp))
        clear hnb hi2 hfr
        go_wp2
        have e : lay itemZ 1 [Value.slice a2 ℓ c2] = [.bool false, .slice a2 ℓ c2, .slice none 0 0] := rfl
        rw [e]
        refine ret_row ty61 rfl _ rfl rfl hf2 (by simp [okL, Value.oneCell']) ⟨_, rfl, ⟨a2, c2, by rw [HLQ.out], ?_, fun p hp => by have := HFR.out p hp; omega⟩, HB2.out.setCells (by omega) _ _⟩
        exact Ints.only (S := (· = w.heap.size + 1)) HN2.out ((Only.refl (· = w.heap.size + 1) w2).setCells (fun _ => rfl) _ _) (fun p hp => by have := HFR.out p hp; omega)
      · obtain ⟨x, r, ex, hx1, hx2⟩ := bigL_head m (by
          rcases Nat.eq_zero_or_pos m with h | h
          · subst h; rw [bigL_zero] at hℓ; exact absurd hℓ h0
          · exact h)
        have hp : 0 < ℓ := by omega
        obtain ⟨b1, o1, ha1, _, hc1⟩ := hIq.at (i := 0) (by rw [← hℓ]; exact hp)
        cases ha1
        have c0 := hc1 0 (by rw [← hℓ]; exact hp)
        rw [Nat.add_zero, ex, List.getElem?_cons_zero, Option.getD_some] at c0
        have bx : (x == 0) = false := by simp only [beq_eq_false_iff_ne]; omega
        have dp : decide ((0 : Int) < (ℓ : Int)) = true := decide_eq_true (by omega)
        have hpz : (0 : Int) < (ℓ : Int) := by omega
        clear hIq hℓ hlen hlt hq h0 ex hc1
        go_wp2_with fail
        refine HC.out.mono ?_
        rintro e w2 ⟨v, rfl, hnb⟩
        obtain ⟨a2, c2, rfl, hi2, hfr⟩ := hnb.read
        rw [← HLQ.out]
        have hf2 : w2.free? (w.heap.size + 1) 0 3 = true := by rw [(brow hnb.below).2 _ _ _ (free?_lt HF0.out)]; exact HF0.out
        have HB2 := Lib.hid (HB0.out.trans (hnb.below.mono HB0.out.size))
        have HN2 := Lib.hid hi2
        have HFR := Lib.hid (fun p hp => Nat.lt_of_lt_of_le (free?_lt HF0.out) (hfr p hp))
        clear hnb hi2 hfr
        go_wp2
        have e : lay itemZ 1 [Value.slice a2 ℓ c2] = [.bool false, .slice a2 ℓ c2, .slice none 0 0] := rfl
        rw [e]
        refine ret_row ty61 rfl _ rfl rfl hf2 (by simp [okL, Value.oneCell']) ⟨_, rfl, ⟨a2, c2, by rw [HLQ.out], ?_, fun p hp => by have := HFR.out p hp; omega⟩, HB2.out.setCells (by omega) _ _⟩
        exact Ints.only (S := (· = w.heap.size + 1)) HN2.out ((Only.refl (· = w.heap.size + 1) w2).setCells (fun _ => rfl) _ _) (fun p hp => by have := HFR.out p hp; omega)
end Go.Proofs.YtikiciojfhfagaaGreat
namespace Go.Proofs.YtikiciojfhfagaaGreat
open Go.RowKit Go.Mun

set_option maxRecDepth 100000 in
set_option maxHeartbeats 1000000 in
theorem same_bytes {R R' : Nat → Prop} {cs cs' : List Value} {l : Bts} {w : World} (h : KidAt w R cs (some l)) (h' : KidAt w R' cs' (some l)) :
    Calls Tryz.prog 30 #[.agg cs.toArray, .agg cs'.toArray] w fun e w' => e = .returned (.bool true) ∧ Below w.heap.size w w' := by
  obtain ⟨a, c, rfl, hi, _⟩ := h.some
  obtain ⟨a', c', rfl, hi', _⟩ := h'.some
  obtain ⟨w0, e0⟩ : ∃ w0, w0 = (w.alloc (.cells #[.bool false, .slice a l.length c, .slice none 0 0] 65)).alloc (.cells #[.bool false, .slice a' l.length c', .slice none 0 0] 65) := ⟨_, rfl⟩
  have hb0 : Below w.heap.size w w0 := by rw [e0]; exact ((Below.refl _ _).alloc (Nat.le_refl _) _).alloc (by simp) _
  have hr : w0.row? w.heap.size 0 3 = some [.bool false, .slice a l.length c, .slice none 0 0] := by rw [e0, World.row?_alloc_lt _ (by simp)]; exact World.row?_alloc_at [.bool false, .slice a l.length c, .slice none 0 0] 65 _ rfl rfl
  have hs : w0.row? (w.heap.size + 1) 0 3 = some [.bool false, .slice a' l.length c', .slice none 0 0] := by rw [e0]; exact World.row?_alloc_at [.bool false, .slice a' l.length c', .slice none 0 0] 65 _ (by simp) rfl
  have q1 := run_bytes_string' (P := Tryz.prog) Tryz.underlying26 Tryz.underlying5 Tryz.underlying9 rfl (hi.below hb0)
  have q2 := run_bytes_string' (P := Tryz.prog) Tryz.underlying26 Tryz.underlying5 Tryz.underlying9 rfl (hi'.below hb0)
  have HB := Lib.hid hb0
  generalize strOf l = S at *
  generalize l.length = m at *
  rw [e0] at hr hs q1 q2 HB
  clear hi hi' hb0 e0 h h'
  go_enter Tryz.func30, Tryz.ntmps30
  go_wp2
  go_ret
  exact ⟨rfl, HB.out⟩
set_option maxRecDepth 100000 in
set_option maxHeartbeats 2000000 in
theorem same_list {R R' : Nat → Prop} {cs cs' : List Value} {ks : List (Option Bts)} {w : World} (h : TopAt w R cs (.list ks)) (h' : TopAt w R' cs' (.list ks)) (hks : ∀ k ∈ ks, ∃ l, k = some l) (hn : ks.length ≤ 1000) (hn0 : 0 < ks.length) :
    Calls Tryz.prog 30 #[.agg cs.toArray, .agg cs'.toArray] w fun e w' => e = .returned (.bool true) ∧ Below w.heap.size w w' := by
  obtain ⟨a, c, rfl, h2⟩ := h
  obtain ⟨a', c', rfl, h2'⟩ := h'
  have hne : ks ≠ [] := List.length_pos_iff.1 hn0
  obtain ⟨b, off, css, rfl, hc, hcm, _, hrow, hkk⟩ := h2 hne
  obtain ⟨b', off', css', rfl, hc', hcm', _, hrow', hkk'⟩ := h2' hne
  obtain ⟨m, hm⟩ : ∃ m, m = ks.length := ⟨_, rfl⟩
  rw [← hm] at hn hn0 hc hc' ⊢
  have HAT : Hid (∀ q, q < m → ∃ l x x', w.row? b (off + q * 3) 3 = some x ∧ w.row? b' (off' + q * 3) 3 = some x' ∧ KidAt w R x (some l) ∧ KidAt w R' x' (some l)) := by
    intro q hq
    have hq' : q < ks.length := by omega
    obtain ⟨l, hl⟩ := hks _ (List.getElem_mem hq')
    have hg : ks[q]? = some (some l) := by rw [List.getElem?_eq_getElem hq', hl]
    obtain ⟨x, x1, x2⟩ := hkk.at hrow hg
    obtain ⟨y, y1, y2⟩ := hkk'.at hrow' hg
    exact ⟨l, x, y, x1, y1, x2, y2⟩
  have HLT := Lib.hid (World.row?_lt hrow)
  have HLT' := Lib.hid (World.row?_lt hrow')
  obtain ⟨w0, e0⟩ : ∃ w0, w0 = (w.alloc (.cells #[.bool true, .slice none 0 0, .slice (some ⟨b, off, none⟩) m c] 65)).alloc (.cells #[.bool true, .slice none 0 0, .slice (some ⟨b', off', none⟩) m c'] 65) := ⟨_, rfl⟩
  have hb0 : Below w.heap.size w w0 := by rw [e0]; exact ((Below.refl _ _).alloc (Nat.le_refl _) _).alloc (by simp) _
  have hr : w0.row? w.heap.size 0 3 = some [.bool true, .slice none 0 0, .slice (some ⟨b, off, none⟩) m c] := by rw [e0, World.row?_alloc_lt _ (by simp)]; exact World.row?_alloc_at [.bool true, .slice none 0 0, .slice (some ⟨b, off, none⟩) m c] 65 _ rfl rfl
  have hs : w0.row? (w.heap.size + 1) 0 3 = some [.bool true, .slice none 0 0, .slice (some ⟨b', off', none⟩) m c'] := by rw [e0]; exact World.row?_alloc_at [.bool true, .slice none 0 0, .slice (some ⟨b', off', none⟩) m c'] 65 _ (by simp) rfl
  have hsz : w0.heap.size = w.heap.size + 2 := by rw [e0]; simp
  have HB := Lib.hid hb0
  have HE := Lib.hid e0
  have HSZ := Lib.hid hsz
  have HR := Lib.hid hr
  have HS := Lib.hid hs
  rw [e0] at hr hs
  have hbn : ((m : Int) != (m : Int)) = false := by simp
  have hmz : (m : Int) ≤ 1000 := by omega
  clear hks hkk hkk' hrow hrow' hm h2 h2' hne hb0 e0 hsz hcm hcm'
  go_enter Tryz.func30, Tryz.ntmps30
  go_wp2_with fail
  rw [← HE.out]
  clear hr hs
  go_loopw [5] (fun i wr => ∃ q : Nat, q ≤ m ∧ i = .int .i64 q ∧ Below w0.heap.size w0 wr) (fun i _ => m - (intOf i).toNat)
  case atStart => exact ⟨0, by omega, rfl, Below.refl _ _⟩
  case round =>
    obtain ⟨q, hq, rfl, hbw⟩ := hrel
    have hr := ((brow hbw).1 _ _ _ (World.row?_lt HR.out)).trans HR.out
    have hs := ((brow hbw).1 _ _ _ (World.row?_lt HS.out)).trans HS.out
    have gw : wr.cell? ⟨w.heap.size, 2, none⟩ = some (.slice (some ⟨b, off, none⟩) m c) := by have := World.row?_cell hr (show 2 < 3 by omega); rwa [Nat.zero_add] at this
    have HBW := Lib.hid hbw
    have HBW2 := Lib.hid (HB.out.trans (hbw.mono HB.out.size))
    clear hbw
    by_cases hlt : q < m
    · obtain ⟨l, x, x', r1, r2, k1, k2⟩ := HAT.out q hlt
      have hx := k1.len
      have hx' := k2.len
      have HC := Lib.hid (fun (W : World) (hW : Below w.heap.size w W) => same_bytes (k1.only (R' := fun _ => True) (Only.of_below_size hW) (fun _ _ _ h => h) (fun _ _ _ => trivial)) (k2.only (R' := fun _ => True) (Only.of_below_size hW) (fun _ _ _ h => h) (fun _ _ _ => trivial)))
      obtain ⟨T, hT⟩ : ∃ T : World → Prop, T = fun W => W.cell? ⟨w.heap.size, 2, none⟩ = some (.slice (some ⟨b, off, none⟩) m c) ∧ W.cell? ⟨w.heap.size + 1, 2, none⟩ = some (.slice (some ⟨b', off', none⟩) m c') ∧ W.row? b (off + q * 3) 3 = some x ∧ W.row? b' (off' + q * 3) 3 = some x' := ⟨_, rfl⟩
      have HT := Lib.hid hT
      have HTB : Hid (∀ W, Below w0.heap.size w0 W → T W) := by
        intro W hW
        rw [hT]
        have hW2 : Below w.heap.size w W := HB.out.trans (hW.mono HB.out.size)
        refine ⟨?_, ?_, ((brow hW2).1 _ _ _ HLT.out).trans r1, ((brow hW2).1 _ _ _ HLT'.out).trans r2⟩
        · have := World.row?_cell (((brow hW).1 _ _ _ (World.row?_lt HR.out)).trans HR.out) (show 2 < 3 by omega); rwa [Nat.zero_add] at this
        · have := World.row?_cell (((brow hW).1 _ _ _ (World.row?_lt HS.out)).trans HS.out) (show 2 < 3 by omega); rwa [Nat.zero_add] at this
      have hql : (q : Int) < (m : Int) := by omega
      have dql : decide ((q : Int) < (m : Int)) = true := decide_eq_true hql
      have dqn : (q < m) = True := eq_true hlt
      have t0 : T wr.drew := HTB.out _ HBW.out.drew
      clear hT r1 r2 k1 k2 HAT
      go_wp2_with fail
      refine wp_region_tree T [] (.pure 0 (.take 1 (.pure 2 (.pure 3 (.take 4 (.pure 5 (.take 6 (.pure 7 (.pure 8 (.take 9 (.alt 10 (.pure 11 .fin) .stop))))))))))) (by kernel_rfl) (by kernel_rfl) ?_
      refine tree_pure ?_ rfl (by rfl) (fun w' hs => ?_) (fun _ _ _ h => h) ?_
      rotate_left
      · clear hs
        go_simp
        try rfl
      simp only [Act.put, List.setIfInBounds_toArray, List.set_cons_zero, List.set_cons_succ]
      refine tree_take ?_ t0 rfl (by rfl) (fun w' hs => ?_) (fun _ _ _ h => h) ?_
      rotate_left
      · rw [HT.out] at hs
        obtain ⟨g1, g2, g3, g4⟩ := hs
        go_simp
        try rfl
      simp only [Act.put, List.setIfInBounds_toArray, List.set_cons_zero, List.set_cons_succ]
      refine tree_pure ?_ rfl (by rfl) (fun w' hs => ?_) (fun _ _ _ h => h) ?_
      rotate_left
      · clear hs
        go_simp
        try rfl
      simp only [Act.put, List.setIfInBounds_toArray, List.set_cons_zero, List.set_cons_succ]
      refine tree_pure ?_ rfl (by rfl) (fun w' hs => ?_) (fun _ _ _ h => h) ?_
      rotate_left
      · clear hs
        go_simp
        try rfl
      simp only [Act.put, List.setIfInBounds_toArray, List.set_cons_zero, List.set_cons_succ]
      refine tree_take ?_ t0 rfl (by rfl) (fun w' hs => ?_) (fun _ _ _ h => h) ?_
      rotate_left
      · rw [HT.out] at hs
        obtain ⟨g1, g2, g3, g4⟩ := hs
        go_simp
        try rfl
      simp only [Act.put, List.setIfInBounds_toArray, List.set_cons_zero, List.set_cons_succ]
      refine tree_pure ?_ rfl (by rfl) (fun w' hs => ?_) (fun _ _ _ h => h) ?_
      rotate_left
      · clear hs
        go_simp
        try rfl
      simp only [Act.put, List.setIfInBounds_toArray, List.set_cons_zero, List.set_cons_succ]
      refine tree_take ?_ t0 rfl (by rfl) (fun w' hs => ?_) (fun _ _ _ h => h) ?_
      rotate_left
      · rw [HT.out] at hs
        obtain ⟨g1, g2, g3, g4⟩ := hs
        go_simp
        try rfl
      simp only [Act.put, List.setIfInBounds_toArray, List.set_cons_zero, List.set_cons_succ]
      refine tree_pure ?_ rfl (by rfl) (fun w' hs => ?_) (fun _ _ _ h => h) ?_
      rotate_left
      · clear hs
        go_simp
        try rfl
      simp only [Act.put, List.setIfInBounds_toArray, List.set_cons_zero, List.set_cons_succ]
      refine tree_pure ?_ rfl (by rfl) (fun w' hs => ?_) (fun _ _ _ h => h) ?_
      rotate_left
      · clear hs
        go_simp
        try rfl
      simp only [Act.put, List.setIfInBounds_toArray, List.set_cons_zero, List.set_cons_succ]
      refine tree_take ?_ t0 rfl (by rfl) (fun w' hs => ?_) (fun _ _ _ h => h) ?_
      rotate_left
      · rw [HT.out] at hs
        obtain ⟨g1, g2, g3, g4⟩ := hs
        go_simp
        try rfl
      simp only [Act.put, List.setIfInBounds_toArray, List.set_cons_zero, List.set_cons_succ]
      refine tree_run rfl (fun K hK => ?_)
      go_simp
      refine (HC.out _ HBW2.out.drew).mono ?_
      rintro e w9 ⟨rfl, hb9⟩
      have HB9 : Hid (Below w0.heap.size w0 w9) := HBW.out.drew.trans (hb9.mono (by have := HBW.out.size; simpa using this))
      have t9 : T w9 := HTB.out _ HB9.out
      clear hb9
      refine hK.out _ _ t9 ?_
      clear hK K
      refine tree_pure ?_ rfl (by rfl) (fun w' hs => ?_) (fun _ _ _ h => h) ?_
      rotate_left
      · clear hs
        go_simp
        try rfl
      simp only [Act.put, List.setIfInBounds_toArray, List.set_cons_zero, List.set_cons_succ]
      refine tree_fin ?_
      go_wp2_with fail
      go_roundw
      case rel => exact ⟨q + 1, by omega, by go_num, HB9.out⟩
      case measure => simp [intOf]; omega
    · obtain rfl : q = m := by omega
      go_wp2_with fail
      go_ret
      exact ⟨rfl, HBW2.out⟩
end Go.Proofs.YtikiciojfhfagaaGreat
