/-
  The rules for this program's structs, as segments (written by a program of this seat).
  Words: contract of Of.
  Transactions in plain Lean; how one lies in memory; what it costs ahead of all.
  Transactions: contract of give.
  Transactions: contract of may.
-/
import Derived.Test.YtiglinnjnobodaaGreatProg
import Derived.Test.YtiglinnjnobodaaGreatQTy4
import Derived.Test.YtiglinnjnobodaaGreatQWrd4
import Derived.Test.YtiglinnjnobodaaGreatQOps3
import Derived.Test.YtiglinnjnobodaaGreatQEv12
set_option linter.unusedVariables false
set_option linter.unusedSimpArgs false
namespace Go.Proofs.YtiglinnjnobodaaGreat
open Go.RowKit Go.Mun

def zsN44 : List (List Value) := [[.int .i64 0], [.int .i64 0], [.int .i64 0], beC 20 0, beC 20 0, [.bool false], beC 32 0, [.slice none 0 0]]
theorem zsN44_len : (cat zsN44).length = 77 := by kernel_rfl
set_option maxRecDepth 1000000 in
theorem styN44 : StructTy Tryz.prog 43 77 (cat zsN44) (plOf zsN44) := ⟨⟨_, _, rfl, Tryz.underlying43, by kernel_rfl, by kernel_rfl⟩, zsN44_len⟩
theorem blN44 (ρ : Operand → Value) (dst : Option Tmp) (parts : List (Nat × Operand)) (t : TypeId) (pos : String) (after : Array Edge) (gd : Option (Nat × Bool)) (w : World) : (execOp ρ ⟨dst, .build 43 parts.toArray, t, pos, after, gd⟩).run Tryz.prog w = asNext (blRow Tryz.prog 43 (parts.map fun p => (p.1, ρ p.2)) w (fillL 77 (plOf zsN44) (cat zsN44) (parts.map fun p => (p.1, ρ p.2)))) := ex_build ρ dst t pos after gd w styN44 parts
theorem tyN44 : RowTy Tryz.prog 43 77 := ⟨⟨_, Tryz.underlying43, rfl⟩, by kernel_rfl⟩
theorem ldN44 (ρ : Operand → Value) (dst : Option Tmp) (x : Operand) (t : TypeId) (pos : String) (after : Array Edge) (gd : Option (Nat × Bool)) (w : World) : (execOp ρ ⟨dst, .load 43 x, t, pos, after, gd⟩).run Tryz.prog w = asNext (ldRow Tryz.prog 43 77 (ρ x) w) := ex_load ρ dst x t pos after gd w tyN44
theorem stN44 (ρ : Operand → Value) (dst : Option Tmp) (x y : Operand) (t : TypeId) (pos : String) (after : Array Edge) (gd : Option (Nat × Bool)) (w : World) : (execOp ρ ⟨dst, .store 43 x y, t, pos, after, gd⟩).run Tryz.prog w = asSkip (stRow Tryz.prog 43 77 (ρ x) (ρ y) w) := ex_store ρ dst x y t pos after gd w tyN44
set_option maxRecDepth 1000000 in
theorem alN44 (ρ : Operand → Value) (dst : Option Tmp) (t : TypeId) (pos : String) (after : Array Edge) (gd : Option (Nat × Bool)) (w : World) : (execOp ρ ⟨dst, .alloc 43, t, pos, after, gd⟩).run Tryz.prog w = .ok (.value (.pointer (some ⟨w.heap.size, 0, none⟩))) (w.alloc (.cells (cat zsN44).toArray 43)) := ex_alloc ρ dst t pos after gd w (fun _ => by kernel_rfl)
def zsN39 : List (List Value) := [[.int .i64 0], [.int .i64 0], [.slice none 0 0], [.slice none 0 0], beC 20 0]
theorem zsN39_len : (cat zsN39).length = 24 := by kernel_rfl
set_option maxRecDepth 1000000 in
theorem styN39 : StructTy Tryz.prog 47 24 (cat zsN39) (plOf zsN39) := ⟨⟨_, _, rfl, Tryz.underlying47, by kernel_rfl, by kernel_rfl⟩, zsN39_len⟩
theorem blN39 (ρ : Operand → Value) (dst : Option Tmp) (parts : List (Nat × Operand)) (t : TypeId) (pos : String) (after : Array Edge) (gd : Option (Nat × Bool)) (w : World) : (execOp ρ ⟨dst, .build 47 parts.toArray, t, pos, after, gd⟩).run Tryz.prog w = asNext (blRow Tryz.prog 47 (parts.map fun p => (p.1, ρ p.2)) w (fillL 24 (plOf zsN39) (cat zsN39) (parts.map fun p => (p.1, ρ p.2)))) := ex_build ρ dst t pos after gd w styN39 parts
theorem tyN39 : RowTy Tryz.prog 47 24 := ⟨⟨_, Tryz.underlying47, rfl⟩, by kernel_rfl⟩
theorem ldN39 (ρ : Operand → Value) (dst : Option Tmp) (x : Operand) (t : TypeId) (pos : String) (after : Array Edge) (gd : Option (Nat × Bool)) (w : World) : (execOp ρ ⟨dst, .load 47 x, t, pos, after, gd⟩).run Tryz.prog w = asNext (ldRow Tryz.prog 47 24 (ρ x) w) := ex_load ρ dst x t pos after gd w tyN39
theorem stN39 (ρ : Operand → Value) (dst : Option Tmp) (x y : Operand) (t : TypeId) (pos : String) (after : Array Edge) (gd : Option (Nat × Bool)) (w : World) : (execOp ρ ⟨dst, .store 47 x y, t, pos, after, gd⟩).run Tryz.prog w = asSkip (stRow Tryz.prog 47 24 (ρ x) (ρ y) w) := ex_store ρ dst x y t pos after gd w tyN39
set_option maxRecDepth 1000000 in
theorem alN39 (ρ : Operand → Value) (dst : Option Tmp) (t : TypeId) (pos : String) (after : Array Edge) (gd : Option (Nat × Bool)) (w : World) : (execOp ρ ⟨dst, .alloc 47, t, pos, after, gd⟩).run Tryz.prog w = .ok (.value (.pointer (some ⟨w.heap.size, 0, none⟩))) (w.alloc (.cells (cat zsN39).toArray 47)) := ex_alloc ρ dst t pos after gd w (fun _ => by kernel_rfl)
attribute [go_sem ↓] blN44 ldN44 stN44 alN44 blN39 ldN39 stN39 alN39
end Go.Proofs.YtiglinnjnobodaaGreat
namespace Go.Proofs.YtiglinnjnobodaaGreat
open Go.RowKit Go.Mun

theorem nmC_lit (n a b c d : Nat) (h0 : lim n 0 = a) (h1 : lim n 1 = b) (h2 : lim n 2 = c) (h3 : lim n 3 = d) : nmC n = [.int .u64 (a : Int), .int .u64 (b : Int), .int .u64 (c : Int), .int .u64 (d : Int)] := by
  subst h0 h1 h2 h3; rfl
theorem nmC_small (m : Nat) (h : m < 18446744073709551616) : nmC m = [.int .u64 (m : Int), .int .u64 0, .int .u64 0, .int .u64 0] := by
  refine nmC_lit m m 0 0 0 ?_ ?_ ?_ ?_ <;> unfold lim <;> omega
theorem nmC_neg (m n : Nat) (h : n = m + 115792089237316195423570985008687907853269984665640564039439137263839420088320) (hm : m < 18446744073709551616) :
    nmC n = [.int .u64 (m : Int), .int .u64 18446744073709551615, .int .u64 18446744073709551615, .int .u64 18446744073709551615] := by
  refine nmC_lit n m 18446744073709551615 18446744073709551615 18446744073709551615 ?_ ?_ ?_ ?_ <;> unfold lim <;> omega
theorem ex_stuck {P : Program} {ty : TypeId} (ρ : Operand → Value) (dst : Option Tmp) (parts : List (Nat × Operand)) (t : TypeId) (pos : String) (after : Array Edge) (gd : Option (Nat × Bool)) (w : World) : (execOp ρ ⟨dst, .build ty parts.toArray, t, pos, after, gd⟩).run P w = asNext (stuckBuild P ty (parts.map fun p => (p.1, ρ p.2)) w) := by
  unfold execOp stuckBuild
  simp only [Sem.run_bind, List.map_toArray]
  cases (Instr.build ty (parts.map fun p => (p.1, ρ p.2)).toArray).run P w <;> rfl
theorem bn1_ex (ρ : Operand → Value) (dst : Option Tmp) (x : Operand) (t : TypeId) (pos : String) (after : Array Edge) (gd : Option (Nat × Bool)) (w : World) : (execOp ρ ⟨dst, .build 166 #[(0, x)], t, pos, after, gd⟩).run Tryz.prog w = asNext (stuckBuild Tryz.prog 166 [(0, ρ x)] w) := ex_stuck ρ dst [(0, x)] t pos after gd w
theorem bn4_ex (ρ : Operand → Value) (dst : Option Tmp) (x x1 x2 x3 : Operand) (t : TypeId) (pos : String) (after : Array Edge) (gd : Option (Nat × Bool)) (w : World) : (execOp ρ ⟨dst, .build 166 #[(0, x), (1, x1), (2, x2), (3, x3)], t, pos, after, gd⟩).run Tryz.prog w = asNext (stuckBuild Tryz.prog 166 [(0, ρ x), (1, ρ x1), (2, ρ x2), (3, ρ x3)] w) := ex_stuck ρ dst [(0, x), (1, x1), (2, x2), (3, x3)] t pos after gd w
attribute [local go_sem ↓] bn1_ex bn4_ex
set_option maxRecDepth 100000 in
theorem build151a (m : Nat) (h : m < 18446744073709551616) (w : World) : stuckBuild Tryz.prog 166 [(0, .int .u64 (m : Int))] w = .ok (.agg (nmC m).toArray) w := by
  rw [nmC_small m h]; kernel_rfl
set_option maxRecDepth 100000 in
theorem build151b (m n : Nat) (h : n = m + 115792089237316195423570985008687907853269984665640564039439137263839420088320) (hm : m < 18446744073709551616) (w : World) :
    stuckBuild Tryz.prog 166 [(0, .int .u64 (m : Int)), (1, .int .u64 18446744073709551615), (2, .int .u64 18446744073709551615), (3, .int .u64 18446744073709551615)] w = .ok (.agg (nmC n).toArray) w := by
  rw [nmC_neg m n h hm]; kernel_rfl
set_option maxRecDepth 100000 in
theorem word_of (n : Int) (hn : -9223372036854775808 ≤ n) (hn' : n ≤ 9223372036854775807) (w : World) :
    Calls Tryz.prog 55 #[.int .i64 n] w fun e w' => e = .returned (.agg (beC 32 (ofW n)).toArray) ∧ Below w.heap.size w w' := by
  obtain ⟨w0, e0⟩ : ∃ w0, w0 = (w.alloc (.cells (zU8 32).toArray 25)).alloc (.cells (zU64 4).toArray 166) := ⟨_, rfl⟩
  have hb0 : Below w.heap.size w w0 := by rw [e0]; exact ((Below.refl _ _).alloc (Nat.le_refl _) _).alloc (by simp) _
  have f0 : w0.free? w.heap.size 0 32 = true := by rw [e0]; simp [go_sem]
  have hz : Arr w0 (w.heap.size + 1) 4 (zU64 4) := by
    rw [e0]; have := Arr.new (w.alloc (.cells (zU8 32).toArray 25)) 4 (zU64 4) 166 rfl
    simpa using this
  have HE := Lib.hid e0
  have HB := Lib.hid hb0
  have HF := Lib.hid f0
  obtain ⟨m, hm⟩ : ∃ m : Nat, IntKind.u64.wrap n = (m : Int) := ⟨(IntKind.u64.wrap n).toNat, by rw [IntKind.wrap_u64]; omega⟩
  have hml : m < 18446744073709551616 := by rw [IntKind.wrap_u64] at hm; omega
  have kb := build151a m hml
  by_cases h : n < 0
  · obtain ⟨M, hM⟩ : ∃ M : Nat, M = ofW n := ⟨_, rfl⟩
    have hMm : M = m + 115792089237316195423570985008687907853269984665640564039439137263839420088320 := by
      rw [IntKind.wrap_u64] at hm; rw [hM]; unfold ofW; omega
    have kb2 := build151b m M hMm hml
    have hok := nmC_ok m
    have hz2 : Arr (w0.setCells (w.heap.size + 1) 0 (nmC m)) (w.heap.size + 1) 4 (nmC m) := hz.setCells _ (nmC_ok m)
    have f1 := hz.free
    have f2 := hz2.free
    have hz3 : Arr ((w0.setCells (w.heap.size + 1) 0 (nmC m)).setCells (w.heap.size + 1) 0 (nmC M)) (w.heap.size + 1) 4 (nmC M) := hz2.setCells _ (nmC_ok M)
    have r3 := hz3.row
    have hok2 := nmC_ok M
    rw [← hM]
    have HN := Lib.hid hMm
    clear hMm hM hb0 f0 hz hz2 hz3
    rw [e0] at f1 f2 r3
    clear e0
    go_enter Tryz.func55, Tryz.ntmps55
    go_wp2_with fail
    refine (num_word M _).mono ?_
    rintro e w1 ⟨rfl, hb⟩
    rw [← HE.out] at hb
    have hw : Below w.heap.size w ((w0.setCells (w.heap.size + 1) 0 (nmC m)).setCells (w.heap.size + 1) 0 (nmC M)) := (HB.out.setCells (by omega) _ _).setCells (by omega) _ _
    have f5 : ((w0.setCells (w.heap.size + 1) 0 (nmC m)).setCells (w.heap.size + 1) 0 (nmC M)).free? w.heap.size 0 32 = true := by
      have ho : Only (· = w.heap.size + 1) w0 ((w0.setCells (w.heap.size + 1) 0 (nmC m)).setCells (w.heap.size + 1) 0 (nmC M)) := ((Only.refl (· = w.heap.size + 1) _).setCells (fun _ => rfl) _ _).setCells (fun _ => rfl) _ _
      rw [ho.free? (free?_lt HF.out) (by omega)]; exact HF.out
    have f6 : w1.free? w.heap.size 0 32 = true := by rw [(brow hb).2 _ _ _ (free?_lt f5)]; exact f5
    have hbe := beC_ok 32 M
    have HBX := Lib.hid (hw.trans (hb.mono hw.size))
    clear hb hw f5 r3 f1 f2
    go_wp2
    exact ret_row ty25 rfl _ rfl rfl f6 hbe ⟨rfl, HBX.out.setCells (by omega) _ _⟩
  · have hMm : ofW n = m := by
      rw [IntKind.wrap_u64] at hm; unfold ofW; omega
    have hok := nmC_ok m
    have hz2 : Arr (w0.setCells (w.heap.size + 1) 0 (nmC m)) (w.heap.size + 1) 4 (nmC m) := hz.setCells _ (nmC_ok m)
    have f1 := hz.free
    have r3 := hz2.row
    rw [hMm]
    clear hMm hb0 f0 hz hz2
    rw [e0] at f1 r3
    clear e0
    go_enter Tryz.func55, Tryz.ntmps55
    go_wp2_with fail
    refine (num_word m _).mono ?_
    rintro e w1 ⟨rfl, hb⟩
    rw [← HE.out] at hb
    have hw : Below w.heap.size w (w0.setCells (w.heap.size + 1) 0 (nmC m)) := HB.out.setCells (by omega) _ _
    have f5 : (w0.setCells (w.heap.size + 1) 0 (nmC m)).free? w.heap.size 0 32 = true := by
      have ho : Only (· = w.heap.size + 1) w0 (w0.setCells (w.heap.size + 1) 0 (nmC m)) := (Only.refl (· = w.heap.size + 1) _).setCells (fun _ => rfl) _ _
      rw [ho.free? (free?_lt HF.out) (by omega)]; exact HF.out
    have f6 : w1.free? w.heap.size 0 32 = true := by rw [(brow hb).2 _ _ _ (free?_lt f5)]; exact f5
    have hbe := beC_ok 32 m
    have HBX := Lib.hid (hw.trans (hb.mono hw.size))
    clear hb hw f5 r3 f1
    go_wp2
    exact ret_row ty25 rfl _ rfl rfl f6 hbe ⟨rfl, HBX.out.setCells (by omega) _ _⟩
end Go.Proofs.YtiglinnjnobodaaGreat
namespace Go.Proofs.YtiglinnjnobodaaGreat
open Go.RowKit Go.Mun

structure TxP where
  (nonce price gas : Int) (frm to : Nat) (make : Bool) (value : Nat) (data : Bts)
def txS (t : TxP) (dv : Value) : List (List Value) :=
  [[.int .i64 t.nonce], [.int .i64 t.price], [.int .i64 t.gas], beC 20 t.frm, beC 20 t.to, [.bool t.make], beC 32 t.value, [dv]]
theorem txS_len (t : TxP) (dv : Value) : (cat (txS t dv)).length = 77 := by simp only [txS, cat_len_cons, cat_len_nil]; simp
attribute [go_sem, simp] txS_len
structure TxOk (t : TxP) : Prop where
  frm : t.frm < wA
  to : t.to < wA
  value : t.value < wW
  nonce : -9223372036854775808 ≤ t.nonce ∧ t.nonce ≤ 9223372036854775807
  price : -9223372036854775808 ≤ t.price ∧ t.price ≤ 9223372036854775807
  gas : -9223372036854775808 ≤ t.gas ∧ t.gas ≤ 9223372036854775807
/-- What each byte costs. -/
def byteGas (x : Int) : Nat := if x = 0 then 4 else 16
def dataGas (l : Bts) : Nat := (l.map byteGas).sum
def intrN (t : TxP) : Nat := 21000 + (if t.make then 32000 else 0) + dataGas t.data
theorem dataGas_le (l : Bts) : dataGas l ≤ 16 * l.length := by
  induction l with
  | nil => simp [dataGas]
  | cons x l ih =>
    have h : dataGas (x :: l) = byteGas x + dataGas l := by simp [dataGas]
    have h2 : byteGas x ≤ 16 := by unfold byteGas; split <;> omega
    rw [h, List.length_cons]; omega
theorem dataGas_take (l : Bts) (k : Nat) (h : k < l.length) : dataGas (l.take (k + 1)) = dataGas (l.take k) + byteGas l[k] := by
  unfold dataGas
  rw [List.take_succ_eq_append_getElem h]
  simp only [List.map_append, List.map_cons, List.map_nil, List.sum_append, List.sum_cons, List.sum_nil, Nat.add_zero]
theorem dataGas_all (l : Bts) (k : Nat) (h : l.length ≤ k) : dataGas (l.take k) = dataGas l := by rw [List.take_of_length_le h]
/-- Why a transaction can't be. -/
def mayTx (S : St) (t : TxP) : Nat :=
  if t.nonce < 0 ∨ t.price < 0 ∨ t.gas < 0 ∨ 2147483647 < t.price ∨ 2147483647 < t.gas then 1
  else if t.nonce ≠ ((S t.frm).nonce : Int) ∨ 4611686018427387904 ≤ t.nonce then 20
  else if t.gas < (intrN t : Int) then 11
  else if (S t.frm).bal < t.value ∨ (S t.frm).bal - t.value < (t.price * t.gas).toNat then 16
  else 0
/-- Adds to a balance; what does not fit is lost. -/
def giveS (S : St) (a n : Nat) : St := S.setBal a (if wW ≤ (S a).bal + n then wW - 1 else (S a).bal + n)
section
variable {w : World} {b o : Nat} {t : TxP} {dv : Value}
theorem tx_nonce (h : w.row? b o 77 = some (cat (txS t dv))) : w.cell? ⟨b, o, none⟩ = some (.int .i64 t.nonce) := cell_cat h (i := 0) rfl (by simp [txS, offOf_zero])
theorem tx_price (h : w.row? b o 77 = some (cat (txS t dv))) : w.cell? ⟨b, o + 1, none⟩ = some (.int .i64 t.price) := cell_cat h (i := 1) rfl (by simp [txS, offOf_succ, offOf_zero])
theorem tx_gas (h : w.row? b o 77 = some (cat (txS t dv))) : w.cell? ⟨b, o + 2, none⟩ = some (.int .i64 t.gas) := cell_cat h (i := 2) rfl (by simp [txS, offOf_succ, offOf_zero])
theorem tx_frm (h : w.row? b o 77 = some (cat (txS t dv))) : w.row? b (o + 3) 20 = some (beC 20 t.frm) := row_cat h (i := 3) rfl (by simp [txS, offOf_succ, offOf_zero]) (by simp)
theorem tx_to (h : w.row? b o 77 = some (cat (txS t dv))) : w.row? b (o + 23) 20 = some (beC 20 t.to) := row_cat h (i := 4) rfl (by simp [txS, offOf_succ, offOf_zero]) (by simp)
theorem tx_make (h : w.row? b o 77 = some (cat (txS t dv))) : w.cell? ⟨b, o + 43, none⟩ = some (.bool t.make) := cell_cat h (i := 5) rfl (by simp [txS, offOf_succ, offOf_zero])
theorem tx_value (h : w.row? b o 77 = some (cat (txS t dv))) : w.row? b (o + 44) 32 = some (beC 32 t.value) := row_cat h (i := 6) rfl (by simp [txS, offOf_succ, offOf_zero]) (by simp)
theorem tx_data (h : w.row? b o 77 = some (cat (txS t dv))) : w.cell? ⟨b, o + 76, none⟩ = some dv := cell_cat h (i := 7) rfl (by simp [txS, offOf_succ, offOf_zero])
end
set_option maxRecDepth 100000 in
theorem gas_intrinsic {w : World} {X : Nat → Prop} (t : TxP) (dv : Value) (hd : RoAt w X dv t.data) :
    Calls Tryz.prog 56 #[.agg (cat (txS t dv)).toArray] w fun e w' => e = .returned (.int .i64 (intrN t)) ∧ Below w.heap.size w w' := by
  obtain ⟨⟨a, c, rfl, hi, _⟩, hby, hlen⟩ := hd
  have hdl := dataGas_le t.data
  obtain ⟨w0, e0⟩ : ∃ w0, w0 = w.alloc (.cells (cat (txS t (.slice a t.data.length c))).toArray 43) := ⟨_, rfl⟩
  have hr : w0.row? w.heap.size 0 77 = some (cat (txS t (.slice a t.data.length c))) := by rw [e0]; exact World.row?_alloc_at _ _ _ rfl (txS_len _ _)
  have hb0 : Below w.heap.size w w0 := by rw [e0]; exact (Below.refl _ _).alloc (Nat.le_refl _) _
  have c5 := tx_make hr
  have c7 := tx_data hr
  have hi0 := hi.below hb0
  have HI := Lib.hid hi0
  have HB := Lib.hid hb0
  have HE := Lib.hid e0
  have HY := Lib.hid hby
  have HD := Lib.hid hdl
  rw [e0] at c5 c7
  obtain ⟨base, hbase⟩ : ∃ base : Nat, base = 21000 + (if t.make then 32000 else 0) := ⟨_, rfl⟩
  have hbl : base ≤ 53000 := by rw [hbase]; split <;> omega
  have hin : intrN t = base + dataGas t.data := by unfold intrN; rw [hbase]
  have HIN := Lib.hid hin
  have HBL := Lib.hid hbl
  have HLEN := Lib.hid hlen
  generalize t.data = l at *
  have key : ∀ (mk : Bool), t.make = mk → Calls Tryz.prog 56 #[.agg (cat (txS t (.slice a l.length c))).toArray] w fun e w' => e = .returned (.int .i64 (intrN t)) ∧ Below w.heap.size w w' := by
    intro mk hmk
    rw [hmk] at c5
    have hb : base = if mk = true then 53000 else 21000 := by rw [hbase, hmk]; cases mk <;> rfl
    have HBASE := Lib.hid hb
    clear hbase hb hmk hi hi0 hb0 hr e0 hby hdl hin hbl hlen
    go_enter Tryz.func56, Tryz.ntmps56
    cases mk
    all_goals (
      go_wp2
      go_loopw [3, 13] (fun g i wr => ∃ k : Nat, k ≤ l.length ∧ i = .int .i64 k ∧ g = .int .i64 ((base + dataGas (l.take k) : Nat) : Int) ∧ wr = w0) (fun _ i _ => l.length - (intOf i).toNat)
      case atStart => exact ⟨0, by omega, rfl, by rw [HBASE.out]; rfl, HE.out.symm⟩
      case round =>
        obtain ⟨k, hk, rfl, rfl, rfl⟩ := hrel
        by_cases hlt : k < l.length
        · have hg := dataGas_take l k hlt
          have hg2 := dataGas_le (l.take (k + 1))
          have hg3 : (l.take (k + 1)).length ≤ l.length := by rw [List.length_take]; omega
          obtain ⟨b, off, rfl, hbl, hc⟩ := HI.out.at hlt
          have hck := hc k hlt
          have hx : l[k]?.getD 0 = l[k] := by rw [List.getElem?_eq_getElem hlt]; rfl
          rw [hx] at hck
          clear hc hx
          have hbb := HBL.out
          have hll := HLEN.out
          generalize hxx : l[k] = x at *
          generalize dataGas (l.take k) = g at *
          by_cases h0 : x = 0
          · subst h0
            have hb4 : byteGas 0 = 4 := rfl
            have hw : IntKind.i64.wrap (((base + g : Nat) : Int) + 4) = ((base + g + 4 : Nat) : Int) := by rw [wrI _ (by omega) (by omega)]; omega
            have hw' : IntKind.i64.wrap ((base : Int) + g + 4) = ((base + g + 4 : Nat) : Int) := by rw [wrI _ (by omega) (by omega)]; omega
            have HG := Lib.hid hg
            clear hg hg2
            go_wp2
            go_roundw
            case rel => exact ⟨k + 1, by omega, by go_num, by rw [HG.out, hb4, ← Nat.add_assoc]; go_num, trivial⟩
            case measure => simp [intOf]; omega
          · have hb4 : byteGas x = 16 := by unfold byteGas; rw [if_neg h0]
            have h0' : (x == 0) = false := by simpa using h0
            have hw : IntKind.i64.wrap (((base + g : Nat) : Int) + 16) = ((base + g + 16 : Nat) : Int) := by rw [wrI _ (by omega) (by omega)]; omega
            have hw' : IntKind.i64.wrap ((base : Int) + g + 16) = ((base + g + 16 : Nat) : Int) := by rw [wrI _ (by omega) (by omega)]; omega
            have HG := Lib.hid hg
            clear hg hg2
            go_wp2
            go_roundw
            case rel => exact ⟨k + 1, by omega, by go_num, by rw [HG.out, hb4, ← Nat.add_assoc]; go_num, trivial⟩
            case measure => simp [intOf]; omega
        · go_wp2
          go_ret
          rw [HIN.out, dataGas_all l k (by omega)]
          exact ⟨rfl, HB.out⟩)
  exact key _ rfl
end Go.Proofs.YtiglinnjnobodaaGreat
namespace Go.Proofs.YtiglinnjnobodaaGreat
open Go.RowKit Go.Mun

theorem ofW_natT (n : Nat) (h : n < wW) : ofW (n : Int) = n := by
  have e : wW = 115792089237316195423570985008687907853269984665640564039457584007913129639936 := by unfold wW; decide
  unfold ofW; omega
theorem ofW_m1 : ofW (-1) = wW - 1 := by unfold wW; kernel_rfl
theorem i64_wW {n : Nat} (h : n ≤ 9223372036854775807) : n < wW := Nat.lt_of_le_of_lt h (by decide)
structure GiveT (w : World) (own : Own) (sb a q v : Nat) (S : St) (M : List (Nat × St)) (k : Nat) (w' : World) : Prop where
  below : Below w.heap.size w w'
  row : w'.row? w.heap.size 0 20 = some (beC 20 a)
  val : w'.row? q 0 32 = some (beC 32 v)
  free : w'.free? q 0 32 = true
  st : StateAt TU w' own sb S M k
theorem GiveT.next {w : World} {own : Own} {sb a q v : Nat} {S : St} {M : List (Nat × St)} {k : Nat} {w1 w2 : World} (h : GiveT w own sb a q v S M k w1) (hb : Below w1.heap.size w1 w2) : GiveT w own sb a q v S M k w2 :=
  ⟨h.below.trans (hb.mono h.below.size), ((brow hb).1 _ _ _ (World.row?_lt h.row)).trans h.row, ((brow hb).1 _ _ _ (World.row?_lt h.val)).trans h.val, ((brow hb).2 _ _ _ (free?_lt h.free)).trans h.free, h.st.below hb⟩
theorem GiveT.put {w : World} {own : Own} {sb a q v : Nat} {S : St} {M : List (Nat × St)} {k : Nat} {w1 : World} (h : GiveT w own sb a q v S M k w1) (hq : w.heap.size < q) (ho : own q = none) (v' : Nat) : GiveT w own sb a q v' S M k (w1.setCells q 0 (beC 32 v')) := by
  have hO : Only (· = q) w1 (w1.setCells q 0 (beC 32 v')) := (Only.refl (· = q) _).setCells (fun _ => rfl) _ _
  have ha : Arr w1 q 32 (beC 32 v) := ⟨h.val, h.free⟩
  have hz := ha.setCells (beC 32 v') (beC_ok _ _)
  exact ⟨h.below.setCells (by omega) _ _, by rw [hO.row? (World.row?_lt h.row) (by omega)]; exact h.row, hz.row, hz.free, h.st.only hO (fun b hb => by rw [hb]; exact ho)⟩
set_option maxRecDepth 100000 in
set_option maxHeartbeats 1000000 in
theorem tx_give {w : World} {own : Own} {sb : Nat} {S : St} {M : List (Nat × St)} {k : Nat} (h : StateAt TU w own sb S M k) (a n : Nat) (ha : a < wA) (hn : n ≤ 9223372036854775807) (hk : k ≤ 1099511627776) :
    Calls Tryz.prog 58 #[.pointer (some ⟨sb, 0, none⟩), .agg (beC 20 a).toArray, .int .i64 n] w fun e w' => e = .returned (.tuple #[]) ∧ ∃ own', StateAt TU w' own' sb (giveS S a n) M (k + 1) ∧ Chg w w' own own' := by
  have hl0 : (beC 20 a).length = 20 := by simp
  have hnw := i64_wW hn
  have hbal := h.bal a
  have hbelow : Below w.heap.size w (w.alloc (.cells (beC 20 a).toArray 23)) := (Below.refl _ _).alloc (Nat.le_refl _) _
  have hrow0 : (w.alloc (.cells (beC 20 a).toArray 23)).row? w.heap.size 0 20 = some (beC 20 a) := World.row?_alloc_at _ _ _ rfl hl0
  have HR0 := Lib.hid hrow0
  have HB0 := Lib.hid hbelow
  have HL := Lib.hid h.lows
  have H0 := Lib.hid (h.below hbelow)
  have WO := Lib.hid (fun w => word_of n (by omega) (by omega) w)
  have e1 := ofW_natT n hnw
  rw [e1] at WO
  have W1 := Lib.hid (fun w => word_of (-1) (by omega) (by omega) w)
  rw [ofW_m1] at W1
  have HG : Hid (giveS S a n = S.setBal a (if wW ≤ (S a).bal + n then wW - 1 else (S a).bal + n)) := rfl
  clear h hrow0 hbelow e1
  go_enter Tryz.func58, Tryz.ntmps58
  go_wp2_with fail
  refine (st_balance H0.out a ha).mono ?_
  rintro e w1 ⟨rfl, hb1⟩
  have HB1 := Lib.hid (HB0.out.trans (hb1.mono HB0.out.size))
  have HR1 := Lib.hid (((brow hb1).1 _ _ _ (World.row?_lt HR0.out)).trans HR0.out)
  have H1 := Lib.hid (H0.out.below hb1)
  clear hb1
  go_wp2_with fail
  refine (WO.out _).mono ?_
  rintro e w2 ⟨rfl, hb2⟩
  have HB2 := Lib.hid (HB1.out.trans (hb2.mono HB1.out.size))
  have HR2 := Lib.hid (((brow hb2).1 _ _ _ (World.row?_lt HR1.out)).trans HR1.out)
  have H2 := Lib.hid (H1.out.below hb2)
  clear hb2
  go_wp2_with fail
  refine (word_add _ n hbal hnw _).mono ?_
  rintro e w3 ⟨rfl, hb3⟩
  rw [← beC_wW]
  have HB3 := Lib.hid (HB2.out.trans (hb3.mono HB2.out.size))
  have HR3 := Lib.hid (((brow hb3).1 _ _ _ (World.row?_lt HR2.out)).trans HR2.out)
  have H3 := Lib.hid (H2.out.below hb3)
  clear hb3
  obtain ⟨v, hv⟩ : ∃ v, v = ((S a).bal + n) % wW := ⟨_, rfl⟩
  have hvl : v < wW := by rw [hv]; exact Nat.mod_lt _ (by decide)
  rw [← hv]
  have hcase : (wW ≤ (S a).bal + n ∧ v < (S a).bal) ∨ (¬ wW ≤ (S a).bal + n ∧ ¬ v < (S a).bal ∧ v = (S a).bal + n) := by
    by_cases hc : wW ≤ (S a).bal + n
    · left
      have : v = (S a).bal + n - wW := by rw [hv, Nat.mod_eq_sub_mod hc, Nat.mod_eq_of_lt (by omega)]
      omega
    · right
      have : v = (S a).bal + n := by rw [hv, Nat.mod_eq_of_lt (by omega)]
      omega
  have HC := Lib.hid hcase
  have hokv := beC_ok 32 v
  obtain ⟨q, hq⟩ : ∃ q, q = w3.heap.size := ⟨_, rfl⟩
  have hq1 : w.heap.size < q := by rw [hq]; exact World.row?_lt HR3.out
  have ho : own q = none := free_own HL.out (by omega)
  obtain ⟨w4, e4⟩ : ∃ w4, w4 = (w3.alloc (.cells (zU8 32).toArray 25)).setCells w3.heap.size 0 (beC 32 v) := ⟨_, rfl⟩
  have hz : Arr w4 w3.heap.size 32 (beC 32 v) := by rw [e4]; exact (Arr.new w3 32 (zU8 32) 25 (by simp)).setCells _ (beC_ok _ _)
  have hb4 : Below w3.heap.size w3 w4 := by rw [e4]; exact ((Below.refl _ _).alloc (Nat.le_refl _) _).setCells (Nat.le_refl _) _ _
  have hT4 : GiveT w own sb a q v S M k w4 := ⟨HB3.out.trans (hb4.mono HB3.out.size), ((brow hb4).1 _ _ _ (World.row?_lt HR3.out)).trans HR3.out, by rw [hq]; exact hz.row, by rw [hq]; exact hz.free, H3.out.below hb4⟩
  have f3 : (w3.alloc (.cells (zU8 32).toArray 25)).free? w3.heap.size 0 32 = true := (Arr.new w3 32 (zU8 32) 25 (by simp)).free
  obtain ⟨T, hT⟩ : ∃ T : World → Prop, T = GiveT w own sb a q v S M k := ⟨_, rfl⟩
  have HT := Lib.hid hT
  have HE := Lib.hid e4
  have t0 : T w4.drew := by rw [hT]; exact hT4.next (Below.refl _ _).drew
  have tb : ∀ w1 w2, T w1 → Below w1.heap.size w1 w2 → T w2 := by rw [hT]; intro w1 w2 h hb; exact h.next hb
  have HTB := Lib.hid tb
  have HQ := Lib.hid hq
  have HQ1 := Lib.hid hq1
  clear hv hcase hz hb4 hT4 hT e4 tb H0 HR0 HB0 H1 HR1 HB1 H2 HR2 HB2 H3 HR3 HB3
  go_wp2_with fail
  rw [← HE.out]
  rw [← hq]
  clear hq hq1 f3
  refine wp_region_tree T [] (.take 0 (.pure 1 (.take 2 (.alt 3 (.alt 4 (.pure 5 .fin) .stop) .stop)))) (by kernel_rfl) (by kernel_rfl) ?_
  refine tree_take ?_ t0 rfl (by rfl) (fun w' hs => ?_) (fun _ _ _ h => h) ?_
  rotate_left
  · rw [HT.out] at hs
    have q1 := hs.row; have q2 := hs.val
    go_simp
    try rfl
  simp only [Act.put, tsa, tsb, tsc]
  refine tree_pure ?_ rfl (by rfl) (fun w' hs => ?_) (fun _ _ _ h => h) ?_
  rotate_left
  · clear hs
    go_simp
    try rfl
  simp only [Act.put, tsa, tsb, tsc]
  refine tree_take ?_ t0 rfl (by rfl) (fun w' hs => ?_) (fun _ _ _ h => h) ?_
  rotate_left
  · rw [HT.out] at hs
    have q1 := hs.row; have q2 := hs.val
    go_simp
    try rfl
  simp only [Act.put, tsa, tsb, tsc]
  refine tree_run rfl (fun K hK => ?_)
  go_simp
  refine (st_balance (by rw [HT.out] at t0; exact t0.st) a ha).mono ?_
  rintro e w5 ⟨rfl, hb⟩
  have t1 : T w5 := HTB.out _ _ t0 hb
  clear hb
  refine hK.out _ _ t1 ?_
  clear hK K
  refine tree_run rfl (fun K hK => ?_)
  go_simp
  refine (word_cmp v _ hvl hbal _).mono ?_
  rintro e w6 ⟨rfl, hb⟩
  have t2 : T w6 := HTB.out _ _ t1 hb
  clear hb
  generalize hcc : cmpN v (S a).bal = cc at *
  have HCC := Lib.hid hcc
  clear hcc
  refine hK.out _ _ t2 ?_
  clear hK K
  refine tree_pure ?_ rfl (by rfl) (fun w' hs => ?_) (fun _ _ _ h => h) ?_
  rotate_left
  · clear hs
    go_simp
    try rfl
  simp only [Act.put, tsa, tsb, tsc]
  refine tree_fin ?_
  clear t0 t1
  rcases HC.out with ⟨hov, hlt⟩ | ⟨hov, hlt, hv⟩
  · have hc1 : cc < 0 := by rw [← HCC.out, cmpN_lt hlt]; decide
    have hg : giveS S a n = S.setBal a (wW - 1) := by rw [HG.out, if_pos hov]
    have HGG := Lib.hid hg
    have HH := Lib.hid hov
    clear hov hlt hg
    go_wp2_with fail
    refine (W1.out _).mono ?_
    rintro e w7 ⟨rfl, hb⟩
    have t3 : T w7 := HTB.out _ _ t2 hb
    rw [HT.out] at t3
    have t4 := t3.put HQ1.out ho (wW - 1)
    have f7 := t3.free
    have hok7 := beC_ok 32 (wW - 1)
    have q1 := t4.row
    have q2 := t4.val
    have HS4 := Lib.hid (st_setBalance t4.st a (wW - 1) ha (by decide) hk)
    have HB4 := Lib.hid t4.below
    clear t2 t3 t4 hb
    generalize wW - 1 = z at *
    go_wp2_with fail
    refine HS4.out.mono ?_
    rintro e w8 ⟨rfl, own', h8, g8⟩
    have G8 := Lib.hid ((Chg.below own HB4.out).trans g8)
    have H8 := Lib.hid h8
    clear g8 h8
    go_wp2
    go_end0
    exact ⟨rfl, own', by rw [HGG.out]; exact H8.out, G8.out⟩
  · have hc1 : ¬ cc < 0 := by rw [← HCC.out]; exact cmpN_ge hlt
    have hg : giveS S a n = S.setBal a v := by rw [HG.out, if_neg hov, hv]
    have HGG := Lib.hid hg
    have HH := Lib.hid hov
    clear hov hlt hg hv
    rw [HT.out] at t2
    have q1 := t2.row
    have q2 := t2.val
    have HS4 := Lib.hid (st_setBalance t2.st a v ha hvl hk)
    have HB4 := Lib.hid t2.below
    clear t2
    go_wp2_with fail
    refine HS4.out.mono ?_
    rintro e w8 ⟨rfl, own', h8, g8⟩
    have G8 := Lib.hid ((Chg.below own HB4.out).trans g8)
    have H8 := Lib.hid h8
    clear g8 h8
    go_wp2
    go_end0
    exact ⟨rfl, own', by rw [HGG.out]; exact H8.out, G8.out⟩
end Go.Proofs.YtiglinnjnobodaaGreat
namespace Go.Proofs.YtiglinnjnobodaaGreat
open Go.RowKit Go.Mun

section
variable {w : World} {b : Nat} {t : TxP} {dv : Value}
theorem tx0_nonce (h : w.row? b 0 77 = some (cat (txS t dv))) : w.cell? ⟨b, 0, none⟩ = some (.int .i64 t.nonce) := tx_nonce h
theorem tx0_price (h : w.row? b 0 77 = some (cat (txS t dv))) : w.cell? ⟨b, 1, none⟩ = some (.int .i64 t.price) := by simpa using tx_price h
theorem tx0_gas (h : w.row? b 0 77 = some (cat (txS t dv))) : w.cell? ⟨b, 2, none⟩ = some (.int .i64 t.gas) := by simpa using tx_gas h
theorem tx0_frm (h : w.row? b 0 77 = some (cat (txS t dv))) : w.row? b 3 20 = some (beC 20 t.frm) := by simpa using tx_frm h
theorem tx0_to (h : w.row? b 0 77 = some (cat (txS t dv))) : w.row? b 23 20 = some (beC 20 t.to) := by simpa using tx_to h
theorem tx0_make (h : w.row? b 0 77 = some (cat (txS t dv))) : w.cell? ⟨b, 43, none⟩ = some (.bool t.make) := by simpa using tx_make h
theorem tx0_value (h : w.row? b 0 77 = some (cat (txS t dv))) : w.row? b 44 32 = some (beC 32 t.value) := by simpa using tx_value h
theorem tx0_data (h : w.row? b 0 77 = some (cat (txS t dv))) : w.cell? ⟨b, 76, none⟩ = some dv := by simpa using tx_data h
end
structure TxT (w : World) (own : Own) (sb q v : Nat) (t : TxP) (dv : Value) (S : St) (M : List (Nat × St)) (k : Nat) (X : Nat → Prop) (w' : World) : Prop where
  below : Below w.heap.size w w'
  row : w'.row? w.heap.size 0 77 = some (cat (txS t dv))
  val : w'.row? q 0 32 = some (beC 32 v)
  st : StateAt TU w' own sb S M k
  data : RoAt w' X dv t.data
theorem TxT.next {w : World} {own : Own} {sb q v : Nat} {t : TxP} {dv : Value} {S : St} {M : List (Nat × St)} {k : Nat} {X : Nat → Prop} {w1 w2 : World} (h : TxT w own sb q v t dv S M k X w1) (hb : Below w1.heap.size w1 w2) : TxT w own sb q v t dv S M k X w2 :=
  ⟨h.below.trans (hb.mono h.below.size), ((brow hb).1 _ _ _ (World.row?_lt h.row)).trans h.row, ((brow hb).1 _ _ _ (World.row?_lt h.val)).trans h.val, h.st.below hb, h.data.below hb⟩
theorem intr_le {w : World} {X : Nat → Prop} {t : TxP} {dv : Value} (h : RoAt w X dv t.data) : intrN t ≤ 17600000000000 := by
  have h1 := dataGas_le t.data
  have h2 := h.len
  unfold intrN; split <;> omega
set_option maxRecDepth 100000 in
set_option maxHeartbeats 8000000 in
theorem tx_may {w : World} {own : Own} {sb : Nat} {S : St} {M : List (Nat × St)} {k : Nat} {X : Nat → Prop} {t : TxP} {dv : Value} (h : StateAt TU w own sb S M k) (ht : TxOk t) (hd : RoAt w X dv t.data) :
    Calls Tryz.prog 52 #[.pointer (some ⟨sb, 0, none⟩), .agg (cat (txS t dv)).toArray] w fun e w' => e = .returned (.int .i64 (mayTx S t)) ∧ Below w.heap.size w w' := by
  have hbal := h.bal t.frm
  have hnc := StateAt.nonce h t.frm
  have htl := txS_len t dv
  obtain ⟨w0, e0⟩ : ∃ w0, w0 = w.alloc (.cells (cat (txS t dv)).toArray 43) := ⟨_, rfl⟩
  have hb0 : Below w.heap.size w w0 := by rw [e0]; exact (Below.refl _ _).alloc (Nat.le_refl _) _
  have hr0 : w0.row? w.heap.size 0 77 = some (cat (txS t dv)) := by rw [e0]; exact World.row?_alloc_at _ _ _ rfl htl
  have q3 := tx0_frm hr0
  have HE0 := Lib.hid e0
  have HB0 := Lib.hid hb0
  have HR0 := Lib.hid hr0
  have H0 := Lib.hid (h.below hb0)
  have HD0 := Lib.hid (hd.below hb0)
  have HT0 := Lib.hid ht
  have HIN := Lib.hid (intr_le hd)
  obtain ⟨frm_lt, _, val_lt, n_lt, p_lt, g_lt⟩ := ht
  rw [e0] at q3
  -- whatever comes of the balance, the rest of the function
  have key : ∀ (R : Nat), mayTx S t = R → R = mayTx S t := fun _ h => h.symm
  clear h hd hb0 hr0 e0 key
  go_enter Tryz.func52, Tryz.ntmps52
  go_wp2_with fail
  rw [← HE0.out]
  refine (st_balance H0.out t.frm frm_lt).mono ?_
  rintro e w1 ⟨rfl, hb1⟩
  have hokv := beC_ok 32 (S t.frm).bal
  obtain ⟨q, hq⟩ : ∃ q, q = w1.heap.size := ⟨_, rfl⟩
  obtain ⟨w2, e2⟩ : ∃ w2, w2 = (w1.alloc (.cells (zU8 32).toArray 25)).setCells w1.heap.size 0 (beC 32 (S t.frm).bal) := ⟨_, rfl⟩
  have hz : Arr w2 w1.heap.size 32 (beC 32 (S t.frm).bal) := by rw [e2]; exact (Arr.new w1 32 (zU8 32) 25 (by simp)).setCells _ (beC_ok _ _)
  have hb2 : Below w1.heap.size w1 w2 := by rw [e2]; exact ((Below.refl _ _).alloc (Nat.le_refl _) _).setCells (Nat.le_refl _) _ _
  have f1 : (w1.alloc (.cells (zU8 32).toArray 25)).free? w1.heap.size 0 32 = true := (Arr.new w1 32 (zU8 32) 25 (by simp)).free
  have hb02 : Below w0.heap.size w0 w2 := hb1.trans (hb2.mono hb1.size)
  have hT2 : TxT w own sb q (S t.frm).bal t dv S M k X w2 := ⟨HB0.out.trans (hb02.mono HB0.out.size), ((brow hb02).1 _ _ _ (World.row?_lt HR0.out)).trans HR0.out, by rw [hq]; exact hz.row, H0.out.below hb02, HD0.out.below hb02⟩
  have c0 := tx0_nonce hT2.row
  have c1 := tx0_price hT2.row
  have c2 := tx0_gas hT2.row
  obtain ⟨T, hT⟩ : ∃ T : World → Prop, T = TxT w own sb q (S t.frm).bal t dv S M k X := ⟨_, rfl⟩
  have HT := Lib.hid hT
  have HE2 := Lib.hid e2
  have HQ := Lib.hid hq
  have t0 : T w2 := by rw [hT]; exact hT2
  have tb : ∀ w1 w2, T w1 → Below w1.heap.size w1 w2 → T w2 := by rw [hT]; intro w1 w2 h hb; exact h.next hb
  have HTB := Lib.hid tb
  have HT2 := Lib.hid t0
  have HBW := Lib.hid hT2.below
  rw [e2] at c0 c1 c2
  generalize hNC : (S t.frm).nonce = nc at *
  have HNC := Lib.hid hNC
  generalize hBV : (S t.frm).bal = bv at *
  have HBV := Lib.hid hBV
  have HM : Hid (mayTx S t = if t.nonce < 0 ∨ t.price < 0 ∨ t.gas < 0 ∨ 2147483647 < t.price ∨ 2147483647 < t.gas then 1 else if t.nonce ≠ (nc : Int) ∨ 4611686018427387904 ≤ t.nonce then 20 else if t.gas < (intrN t : Int) then 11 else if bv < t.value ∨ bv - t.value < (t.price * t.gas).toNat then 16 else 0) := by
    show mayTx S t = _
    unfold mayTx
    rw [HNC.out, HBV.out]
  clear hb1 hb2 hz hb02 hT2 hT e2 tb t0 hNC hBV
  obtain ⟨mm, hme⟩ : ∃ mm, (if t.gas < (if t.price < t.nonce then t.price else t.nonce) then t.gas else (if t.price < t.nonce then t.price else t.nonce)) = mm := ⟨_, rfl⟩
  have hmn : mm < 0 ↔ (t.nonce < 0 ∨ t.price < 0 ∨ t.gas < 0) := by rw [← hme]; split <;> split <;> omega
  have hmin : ∀ ts ty w, (Builtin.min_ ts ty #[.int .i64 t.nonce, .int .i64 t.price, .int .i64 t.gas]).run Tryz.prog w = .ok (.int .i64 mm) w := by
    intro ts ty w
    rw [← hme]
    simp [Builtin.min_, Builtin.min2]
  have HMN := Lib.hid hmn
  clear hmn
  by_cases hm : mm < 0
  · go_wp2
    go_ret
    have hM : mayTx S t = 1 := by
      rw [HM.out, if_pos]
      have := HMN.out.1 hm
      omega
    exact ⟨by rw [hM]; rfl, by first | exact HBX.out | (rw [← HE2.out]; exact HBW.out)⟩
  by_cases hp : 2147483647 < t.price
  · go_wp2
    go_ret
    have hM : mayTx S t = 1 := by
      rw [HM.out, if_pos]
      omega
    exact ⟨by rw [hM]; rfl, by first | exact HBX.out | (rw [← HE2.out]; exact HBW.out)⟩
  by_cases hg : 2147483647 < t.gas
  · go_wp2
    go_ret
    have hM : mayTx S t = 1 := by
      rw [HM.out, if_pos]
      omega
    exact ⟨by rw [hM]; rfl, by first | exact HBX.out | (rw [← HE2.out]; exact HBW.out)⟩
  have hn0 : ¬ (t.nonce < 0 ∨ t.price < 0 ∨ t.gas < 0 ∨ 2147483647 < t.price ∨ 2147483647 < t.gas) := by
    intro hh
    exact hm (HMN.out.2 (by omega))
  have HN0 := Lib.hid hn0
  have HMX : Hid (mayTx S t = if t.nonce ≠ (nc : Int) ∨ 4611686018427387904 ≤ t.nonce then 20 else if t.gas < (intrN t : Int) then 11 else if bv < t.value ∨ bv - t.value < (t.price * t.gas).toNat then 16 else 0) := by
    show mayTx S t = _
    rw [HM.out, if_neg HN0.out]
  have dm : decide (mm < 0) = false := decide_eq_false hm
  have dp : decide (2147483647 < t.price) = false := decide_eq_false hp
  have dg : decide (2147483647 < t.gas) = false := decide_eq_false hg
  have HPG0 : Hid (t.price ≤ 2147483647 ∧ t.gas ≤ 2147483647) := ⟨by omega, by omega⟩
  clear hn0 hm hp hg
  go_wp2_with fail
  rw [← HE2.out, ← HQ.out]
  clear hq
  have t0 : T w2.drew := HTB.out _ _ HT2.out (Below.refl _ _).drew
  clear c0 c1 c2 hmin hme f1 q3
  by_cases hne : t.nonce = (nc : Int)
  rotate_left
  · refine wp_region_tree T [] (.pure 0 (.take 1 (.pure 2 (.pure 3 (.take 4 (.alt 5 (.pure 6 (.pure 7 (.take 8 (.take 9 (.take 10 (.pure 11 (.pure 12 .fin))))))) .stop)))))) (by kernel_rfl) (by kernel_rfl) ?_
    refine tree_pure ?_ rfl (by rfl) (fun w' hs => ?_) (fun _ _ _ h => h) ?_
    rotate_left
    · clear hs
      go_simp
      try rfl
    simp only [Act.put, tsa, tsb, tsc]
    refine tree_take ?_ t0 rfl (by rfl) (fun w' hs => ?_) (fun _ _ _ h => h) ?_
    rotate_left
    · rw [HT.out] at hs
      have r := hs.row; have q0 := tx0_nonce r; have q1 := tx0_price r; have q2 := tx0_gas r; have q3 := tx0_frm r; have q6 := tx0_value r; have qv := hs.val
      go_simp
      try rfl
    simp only [Act.put, tsa, tsb, tsc]
    refine tree_pure ?_ rfl (by rfl) (fun w' hs => ?_) (fun _ _ _ h => h) ?_
    rotate_left
    · clear hs
      go_simp
      try rfl
    simp only [Act.put, tsa, tsb, tsc]
    refine tree_pure ?_ rfl (by rfl) (fun w' hs => ?_) (fun _ _ _ h => h) ?_
    rotate_left
    · clear hs
      go_simp
      try rfl
    simp only [Act.put, tsa, tsb, tsc]
    refine tree_take ?_ t0 rfl (by rfl) (fun w' hs => ?_) (fun _ _ _ h => h) ?_
    rotate_left
    · rw [HT.out] at hs
      have r := hs.row; have q0 := tx0_nonce r; have q1 := tx0_price r; have q2 := tx0_gas r; have q3 := tx0_frm r; have q6 := tx0_value r; have qv := hs.val
      go_simp
      try rfl
    simp only [Act.put, tsa, tsb, tsc]
    refine tree_run rfl (fun K hK => ?_)
    go_simp
    have hs5 := st_nonce (by rw [HT.out] at t0; exact t0.st) t.frm frm_lt
    rw [HNC.out] at hs5
    refine hs5.mono ?_
    rintro e w3 ⟨rfl, hb⟩
    have t1 : T w3 := HTB.out _ _ t0 hb
    clear hb hs5
    refine hK.out _ _ t1 ?_
    clear hK K
    refine tree_pure (.bool true) rfl (by rfl) (fun w' hs => ?_) (fun _ _ _ h => h) ?_
    · clear hs
      go_simp
    simp only [Act.put, tsa, tsb, tsc]
    refine tree_pure ?_ rfl (by rfl) (fun w' hs => ?_) (fun _ _ _ h => h) ?_
    rotate_left
    · clear hs
      go_simp
      try rfl
    simp only [Act.put, tsa, tsb, tsc]
    refine tree_skip t1 rfl (by rfl) (fun _ _ _ h => h) ?_
    simp only [Act.put, tsa, tsb, tsc]
    refine tree_skip t1 rfl (by rfl) (fun _ _ _ h => h) ?_
    simp only [Act.put, tsa, tsb, tsc]
    refine tree_skip t1 rfl (by rfl) (fun _ _ _ h => h) ?_
    simp only [Act.put, tsa, tsb, tsc]
    refine tree_pure (.bool true) rfl (by rfl) (fun w' hs => ?_) (fun _ _ _ h => h) ?_
    · clear hs
      go_simp
    simp only [Act.put, tsa, tsb, tsc]
    refine tree_pure ?_ rfl (by rfl) (fun w' hs => ?_) (fun _ _ _ h => h) ?_
    rotate_left
    · clear hs
      go_simp
      try rfl
    simp only [Act.put, tsa, tsb, tsc]
    refine tree_fin ?_
    have HBX := Lib.hid (show Below w.heap.size w _ by rw [HT.out] at t1; exact t1.below)
    go_wp2
    go_ret
    have hM : mayTx S t = 20 := by
      rw [HMX.out, if_pos (Or.inl hne)]
    exact ⟨by rw [hM]; rfl, by first | exact HBX.out | (rw [← HE2.out]; exact HBW.out)⟩
  by_cases hbig : 4611686018427387904 ≤ t.nonce
  · have hne2 : (t.nonce == (nc : Int)) = true := by simpa using hne
    have hbn : 4611686018427387904 ≤ (nc : Int) := by omega
    refine wp_region_tree T [] (.pure 0 (.take 1 (.pure 2 (.pure 3 (.take 4 (.alt 5 (.pure 6 (.pure 7 (.pure 8 (.take 9 (.pure 10 (.pure 11 (.pure 12 .fin))))))) .stop)))))) (by kernel_rfl) (by kernel_rfl) ?_
    refine tree_pure ?_ rfl (by rfl) (fun w' hs => ?_) (fun _ _ _ h => h) ?_
    rotate_left
    · clear hs
      go_simp
      try rfl
    simp only [Act.put, tsa, tsb, tsc]
    refine tree_take ?_ t0 rfl (by rfl) (fun w' hs => ?_) (fun _ _ _ h => h) ?_
    rotate_left
    · rw [HT.out] at hs
      have r := hs.row; have q0 := tx0_nonce r; have q1 := tx0_price r; have q2 := tx0_gas r; have q3 := tx0_frm r; have q6 := tx0_value r; have qv := hs.val
      go_simp
      try rfl
    simp only [Act.put, tsa, tsb, tsc]
    refine tree_pure ?_ rfl (by rfl) (fun w' hs => ?_) (fun _ _ _ h => h) ?_
    rotate_left
    · clear hs
      go_simp
      try rfl
    simp only [Act.put, tsa, tsb, tsc]
    refine tree_pure ?_ rfl (by rfl) (fun w' hs => ?_) (fun _ _ _ h => h) ?_
    rotate_left
    · clear hs
      go_simp
      try rfl
    simp only [Act.put, tsa, tsb, tsc]
    refine tree_take ?_ t0 rfl (by rfl) (fun w' hs => ?_) (fun _ _ _ h => h) ?_
    rotate_left
    · rw [HT.out] at hs
      have r := hs.row; have q0 := tx0_nonce r; have q1 := tx0_price r; have q2 := tx0_gas r; have q3 := tx0_frm r; have q6 := tx0_value r; have qv := hs.val
      go_simp
      try rfl
    simp only [Act.put, tsa, tsb, tsc]
    refine tree_run rfl (fun K hK => ?_)
    go_simp
    have hs5 := st_nonce (by rw [HT.out] at t0; exact t0.st) t.frm frm_lt
    rw [HNC.out] at hs5
    refine hs5.mono ?_
    rintro e w3 ⟨rfl, hb⟩
    have t1 : T w3 := HTB.out _ _ t0 hb
    clear hb hs5
    refine hK.out _ _ t1 ?_
    clear hK K
    refine tree_pure (.bool false) rfl (by rfl) (fun w' hs => ?_) (fun _ _ _ h => h) ?_
    · clear hs
      go_simp
    simp only [Act.put, tsa, tsb, tsc]
    refine tree_pure ?_ rfl (by rfl) (fun w' hs => ?_) (fun _ _ _ h => h) ?_
    rotate_left
    · clear hs
      go_simp
      try rfl
    simp only [Act.put, tsa, tsb, tsc]
    refine tree_pure ?_ rfl (by rfl) (fun w' hs => ?_) (fun _ _ _ h => h) ?_
    rotate_left
    · clear hs
      go_simp
      try rfl
    simp only [Act.put, tsa, tsb, tsc]
    refine tree_take ?_ t1 rfl (by rfl) (fun w' hs => ?_) (fun _ _ _ h => h) ?_
    rotate_left
    · rw [HT.out] at hs
      have r := hs.row; have q0 := tx0_nonce r; have q1 := tx0_price r; have q2 := tx0_gas r; have q3 := tx0_frm r; have q6 := tx0_value r; have qv := hs.val
      go_simp
      try rfl
    simp only [Act.put, tsa, tsb, tsc]
    refine tree_pure (.bool true) rfl (by rfl) (fun w' hs => ?_) (fun _ _ _ h => h) ?_
    · clear hs
      go_simp
    simp only [Act.put, tsa, tsb, tsc]
    refine tree_pure (.bool true) rfl (by rfl) (fun w' hs => ?_) (fun _ _ _ h => h) ?_
    · clear hs
      go_simp
    simp only [Act.put, tsa, tsb, tsc]
    refine tree_pure ?_ rfl (by rfl) (fun w' hs => ?_) (fun _ _ _ h => h) ?_
    rotate_left
    · clear hs
      go_simp
      try rfl
    simp only [Act.put, tsa, tsb, tsc]
    refine tree_fin ?_
    have HBX := Lib.hid (show Below w.heap.size w _ by rw [HT.out] at t1; exact t1.below)
    go_wp2
    go_ret
    have hM : mayTx S t = 20 := by
      rw [HMX.out, if_pos (Or.inr hbig)]
    exact ⟨by rw [hM]; rfl, by first | exact HBX.out | (rw [← HE2.out]; exact HBW.out)⟩
  have hne2 : (t.nonce == (nc : Int)) = true := by simpa using hne
  have hbn : (nc : Int) < 4611686018427387904 := by omega
  refine wp_region_tree T [] (.pure 0 (.take 1 (.pure 2 (.pure 3 (.take 4 (.alt 5 (.pure 6 (.pure 7 (.pure 8 (.take 9 (.pure 10 (.pure 11 (.pure 12 .fin))))))) .stop)))))) (by kernel_rfl) (by kernel_rfl) ?_
  refine tree_pure ?_ rfl (by rfl) (fun w' hs => ?_) (fun _ _ _ h => h) ?_
  rotate_left
  · clear hs
    go_simp
    try rfl
  simp only [Act.put, tsa, tsb, tsc]
  refine tree_take ?_ t0 rfl (by rfl) (fun w' hs => ?_) (fun _ _ _ h => h) ?_
  rotate_left
  · rw [HT.out] at hs
    have r := hs.row; have q0 := tx0_nonce r; have q1 := tx0_price r; have q2 := tx0_gas r; have q3 := tx0_frm r; have q6 := tx0_value r; have qv := hs.val
    go_simp
    try rfl
  simp only [Act.put, tsa, tsb, tsc]
  refine tree_pure ?_ rfl (by rfl) (fun w' hs => ?_) (fun _ _ _ h => h) ?_
  rotate_left
  · clear hs
    go_simp
    try rfl
  simp only [Act.put, tsa, tsb, tsc]
  refine tree_pure ?_ rfl (by rfl) (fun w' hs => ?_) (fun _ _ _ h => h) ?_
  rotate_left
  · clear hs
    go_simp
    try rfl
  simp only [Act.put, tsa, tsb, tsc]
  refine tree_take ?_ t0 rfl (by rfl) (fun w' hs => ?_) (fun _ _ _ h => h) ?_
  rotate_left
  · rw [HT.out] at hs
    have r := hs.row; have q0 := tx0_nonce r; have q1 := tx0_price r; have q2 := tx0_gas r; have q3 := tx0_frm r; have q6 := tx0_value r; have qv := hs.val
    go_simp
    try rfl
  simp only [Act.put, tsa, tsb, tsc]
  refine tree_run rfl (fun K hK => ?_)
  go_simp
  have hs5 := st_nonce (by rw [HT.out] at t0; exact t0.st) t.frm frm_lt
  rw [HNC.out] at hs5
  refine hs5.mono ?_
  rintro e w3 ⟨rfl, hb⟩
  have t1 : T w3 := HTB.out _ _ t0 hb
  clear hb hs5
  refine hK.out _ _ t1 ?_
  clear hK K
  refine tree_pure (.bool false) rfl (by rfl) (fun w' hs => ?_) (fun _ _ _ h => h) ?_
  · clear hs
    go_simp
  simp only [Act.put, tsa, tsb, tsc]
  refine tree_pure ?_ rfl (by rfl) (fun w' hs => ?_) (fun _ _ _ h => h) ?_
  rotate_left
  · clear hs
    go_simp
    try rfl
  simp only [Act.put, tsa, tsb, tsc]
  refine tree_pure ?_ rfl (by rfl) (fun w' hs => ?_) (fun _ _ _ h => h) ?_
  rotate_left
  · clear hs
    go_simp
    try rfl
  simp only [Act.put, tsa, tsb, tsc]
  refine tree_take ?_ t1 rfl (by rfl) (fun w' hs => ?_) (fun _ _ _ h => h) ?_
  rotate_left
  · rw [HT.out] at hs
    have r := hs.row; have q0 := tx0_nonce r; have q1 := tx0_price r; have q2 := tx0_gas r; have q3 := tx0_frm r; have q6 := tx0_value r; have qv := hs.val
    go_simp
    try rfl
  simp only [Act.put, tsa, tsb, tsc]
  refine tree_pure (.bool false) rfl (by rfl) (fun w' hs => ?_) (fun _ _ _ h => h) ?_
  · clear hs
    go_simp
  simp only [Act.put, tsa, tsb, tsc]
  refine tree_pure (.bool false) rfl (by rfl) (fun w' hs => ?_) (fun _ _ _ h => h) ?_
  · clear hs
    go_simp
  simp only [Act.put, tsa, tsb, tsc]
  refine tree_pure ?_ rfl (by rfl) (fun w' hs => ?_) (fun _ _ _ h => h) ?_
  rotate_left
  · clear hs
    go_simp
    try rfl
  simp only [Act.put, tsa, tsb, tsc]
  refine tree_fin ?_
  have t2 : T w3.drew := HTB.out _ _ t1 (Below.refl _ _).drew
  have HMY : Hid (mayTx S t = if t.gas < (intrN t : Int) then 11 else if bv < t.value ∨ bv - t.value < (t.price * t.gas).toNat then 16 else 0) := by
    show mayTx S t = _
    rw [HMX.out, if_neg (by rw [hne]; omega)]
  have HNE := Lib.hid hne
  have HBIG := Lib.hid hbig
  clear t0 t1 hne hne2 hbig hbn
  generalize hI : intrN t = I at *
  have HI := Lib.hid hI
  clear hI
  go_wp2_with fail
  by_cases hgi : t.gas < (I : Int)
  · refine wp_region_tree T [] (.take 0 (.pure 2 (.take 3 (.alt 1 (.pure 4 (.pure 5 .fin)) .stop)))) (by kernel_rfl) (by kernel_rfl) ?_
    refine tree_take ?_ t2 rfl (by rfl) (fun w' hs => ?_) (fun _ _ _ h => h) ?_
    rotate_left
    · rw [HT.out] at hs
      have r := hs.row; have q0 := tx0_nonce r; have q1 := tx0_price r; have q2 := tx0_gas r; have q3 := tx0_frm r; have q6 := tx0_value r; have qv := hs.val
      go_simp
      try rfl
    simp only [Act.put, tsa, tsb, tsc]
    refine tree_pure ?_ rfl (by rfl) (fun w' hs => ?_) (fun _ _ _ h => h) ?_
    rotate_left
    · clear hs
      go_simp
      try rfl
    simp only [Act.put, tsa, tsb, tsc]
    refine tree_take ?_ t2 rfl (by rfl) (fun w' hs => ?_) (fun _ _ _ h => h) ?_
    rotate_left
    · rw [HT.out] at hs
      have r := hs.row; have q0 := tx0_nonce r; have q1 := tx0_price r; have q2 := tx0_gas r; have q3 := tx0_frm r; have q6 := tx0_value r; have qv := hs.val
      go_simp
      try rfl
    simp only [Act.put, tsa, tsb, tsc]
    refine tree_run rfl (fun K hK => ?_)
    go_simp
    have hs5 := gas_intrinsic t dv (by rw [HT.out] at t2; exact t2.data)
    rw [HI.out] at hs5
    refine hs5.mono ?_
    rintro e w4 ⟨rfl, hb⟩
    have t3 : T w4 := HTB.out _ _ t2 hb
    clear hb hs5
    refine hK.out _ _ t3 ?_
    clear hK K
    refine tree_pure (.bool true) rfl (by rfl) (fun w' hs => ?_) (fun _ _ _ h => h) ?_
    · clear hs
      go_simp
    simp only [Act.put, tsa, tsb, tsc]
    refine tree_pure ?_ rfl (by rfl) (fun w' hs => ?_) (fun _ _ _ h => h) ?_
    rotate_left
    · clear hs
      go_simp
      try rfl
    simp only [Act.put, tsa, tsb, tsc]
    refine tree_fin ?_
    have HBX := Lib.hid (show Below w.heap.size w _ by rw [HT.out] at t3; exact t3.below)
    go_wp2
    go_ret
    have hM : mayTx S t = 11 := by
      rw [HMY.out, if_pos hgi]
    exact ⟨by rw [hM]; rfl, by first | exact HBX.out | (rw [← HE2.out]; exact HBW.out)⟩
  refine wp_region_tree T [] (.take 0 (.pure 2 (.take 3 (.alt 1 (.pure 4 (.pure 5 .fin)) .stop)))) (by kernel_rfl) (by kernel_rfl) ?_
  refine tree_take ?_ t2 rfl (by rfl) (fun w' hs => ?_) (fun _ _ _ h => h) ?_
  rotate_left
  · rw [HT.out] at hs
    have r := hs.row; have q0 := tx0_nonce r; have q1 := tx0_price r; have q2 := tx0_gas r; have q3 := tx0_frm r; have q6 := tx0_value r; have qv := hs.val
    go_simp
    try rfl
  simp only [Act.put, tsa, tsb, tsc]
  refine tree_pure ?_ rfl (by rfl) (fun w' hs => ?_) (fun _ _ _ h => h) ?_
  rotate_left
  · clear hs
    go_simp
    try rfl
  simp only [Act.put, tsa, tsb, tsc]
  refine tree_take ?_ t2 rfl (by rfl) (fun w' hs => ?_) (fun _ _ _ h => h) ?_
  rotate_left
  · rw [HT.out] at hs
    have r := hs.row; have q0 := tx0_nonce r; have q1 := tx0_price r; have q2 := tx0_gas r; have q3 := tx0_frm r; have q6 := tx0_value r; have qv := hs.val
    go_simp
    try rfl
  simp only [Act.put, tsa, tsb, tsc]
  refine tree_run rfl (fun K hK => ?_)
  go_simp
  have hs5 := gas_intrinsic t dv (by rw [HT.out] at t2; exact t2.data)
  rw [HI.out] at hs5
  refine hs5.mono ?_
  rintro e w4 ⟨rfl, hb⟩
  have t3 : T w4 := HTB.out _ _ t2 hb
  clear hb hs5
  refine hK.out _ _ t3 ?_
  clear hK K
  refine tree_pure (.bool false) rfl (by rfl) (fun w' hs => ?_) (fun _ _ _ h => h) ?_
  · clear hs
    go_simp
  simp only [Act.put, tsa, tsb, tsc]
  refine tree_pure ?_ rfl (by rfl) (fun w' hs => ?_) (fun _ _ _ h => h) ?_
  rotate_left
  · clear hs
    go_simp
    try rfl
  simp only [Act.put, tsa, tsb, tsc]
  refine tree_fin ?_
  have t4 : T w4.drew := HTB.out _ _ t3 (Below.refl _ _).drew
  obtain ⟨pg, hpg⟩ : ∃ pg : Nat, t.price * t.gas = pg := ⟨(t.price * t.gas).toNat, by have := Int.mul_nonneg (show 0 ≤ t.price by have := HN0.out; omega) (show 0 ≤ t.gas by have := HN0.out; omega); omega⟩
  have hpgl : pg ≤ 4611686018427387904 := by
    have h1 : t.price * t.gas ≤ 2147483647 * 2147483647 := Int.mul_le_mul HPG0.out.1 HPG0.out.2 (by have := HN0.out; omega) (by decide)
    omega
  have HMZ : Hid (mayTx S t = if bv < t.value ∨ bv - t.value < pg then 16 else 0) := by
    show mayTx S t = _
    rw [HMY.out, if_neg hgi, hpg, Int.toNat_natCast]
  have hmul : IntKind.i64.wrap (t.price * t.gas) = (pg : Int) := by rw [hpg, wrI _ (by omega) (by omega)]
  have hofw := ofW_natT pg (i64_wW (by omega))
  have hpw : pg < wW := i64_wW (by omega)
  have HOF := Lib.hid hofw
  have HPG := Lib.hid hpg
  have HGI := Lib.hid hgi
  clear t2 t3 hofw hpg hgi
  go_wp2_with fail
  by_cases hbv : bv < t.value
  · refine wp_region_tree T [] (.take 0 (.pure 1 (.take 2 (.alt 3 (.pure 4 (.pure 5 (.take 6 (.take 7 (.take 8 (.take 9 (.take 10 (.take 11 (.take 12 (.take 13 (.take 14 (.take 15 (.take 16 (.take 17 (.pure 18 (.pure 19 .fin)))))))))))))))) .stop)))) (by kernel_rfl) (by kernel_rfl) ?_
    refine tree_take ?_ t4 rfl (by rfl) (fun w' hs => ?_) (fun _ _ _ h => h) ?_
    rotate_left
    · rw [HT.out] at hs
      have r := hs.row; have q0 := tx0_nonce r; have q1 := tx0_price r; have q2 := tx0_gas r; have q3 := tx0_frm r; have q6 := tx0_value r; have qv := hs.val
      go_simp
      try rfl
    simp only [Act.put, tsa, tsb, tsc]
    refine tree_pure ?_ rfl (by rfl) (fun w' hs => ?_) (fun _ _ _ h => h) ?_
    rotate_left
    · clear hs
      go_simp
      try rfl
    simp only [Act.put, tsa, tsb, tsc]
    refine tree_take ?_ t4 rfl (by rfl) (fun w' hs => ?_) (fun _ _ _ h => h) ?_
    rotate_left
    · rw [HT.out] at hs
      have r := hs.row; have q0 := tx0_nonce r; have q1 := tx0_price r; have q2 := tx0_gas r; have q3 := tx0_frm r; have q6 := tx0_value r; have qv := hs.val
      go_simp
      try rfl
    simp only [Act.put, tsa, tsb, tsc]
    refine tree_run rfl (fun K hK => ?_)
    go_simp
    refine (word_cmp bv t.value hbal val_lt _).mono ?_
    rintro e w5 ⟨rfl, hb⟩
    have t5 : T w5 := HTB.out _ _ t4 hb
    clear hb
    rw [cmpN_lt hbv]
    refine hK.out _ _ t5 ?_
    clear hK K
    refine tree_pure (.bool true) rfl (by rfl) (fun w' hs => ?_) (fun _ _ _ h => h) ?_
    · clear hs
      go_simp
    simp only [Act.put, tsa, tsb, tsc]
    refine tree_pure ?_ rfl (by rfl) (fun w' hs => ?_) (fun _ _ _ h => h) ?_
    rotate_left
    · clear hs
      go_simp
      try rfl
    simp only [Act.put, tsa, tsb, tsc]
    refine tree_skip t5 rfl (by rfl) (fun _ _ _ h => h) ?_
    simp only [Act.put, tsa, tsb, tsc]
    refine tree_skip t5 rfl (by rfl) (fun _ _ _ h => h) ?_
    simp only [Act.put, tsa, tsb, tsc]
    refine tree_skip t5 rfl (by rfl) (fun _ _ _ h => h) ?_
    simp only [Act.put, tsa, tsb, tsc]
    refine tree_skip t5 rfl (by rfl) (fun _ _ _ h => h) ?_
    simp only [Act.put, tsa, tsb, tsc]
    refine tree_skip t5 rfl (by rfl) (fun _ _ _ h => h) ?_
    simp only [Act.put, tsa, tsb, tsc]
    refine tree_skip t5 rfl (by rfl) (fun _ _ _ h => h) ?_
    simp only [Act.put, tsa, tsb, tsc]
    refine tree_skip t5 rfl (by rfl) (fun _ _ _ h => h) ?_
    simp only [Act.put, tsa, tsb, tsc]
    refine tree_skip t5 rfl (by rfl) (fun _ _ _ h => h) ?_
    simp only [Act.put, tsa, tsb, tsc]
    refine tree_skip t5 rfl (by rfl) (fun _ _ _ h => h) ?_
    simp only [Act.put, tsa, tsb, tsc]
    refine tree_skip t5 rfl (by rfl) (fun _ _ _ h => h) ?_
    simp only [Act.put, tsa, tsb, tsc]
    refine tree_skip t5 rfl (by rfl) (fun _ _ _ h => h) ?_
    simp only [Act.put, tsa, tsb, tsc]
    refine tree_skip t5 rfl (by rfl) (fun _ _ _ h => h) ?_
    simp only [Act.put, tsa, tsb, tsc]
    refine tree_pure (.bool true) rfl (by rfl) (fun w' hs => ?_) (fun _ _ _ h => h) ?_
    · clear hs
      go_simp
    simp only [Act.put, tsa, tsb, tsc]
    refine tree_pure ?_ rfl (by rfl) (fun w' hs => ?_) (fun _ _ _ h => h) ?_
    rotate_left
    · clear hs
      go_simp
      try rfl
    simp only [Act.put, tsa, tsb, tsc]
    refine tree_fin ?_
    have HBX := Lib.hid (show Below w.heap.size w _ by rw [HT.out] at t5; exact t5.below)
    go_wp2
    go_ret
    have hM : mayTx S t = 16 := by
      rw [HMZ.out, if_pos (Or.inl hbv)]
    exact ⟨by rw [hM]; rfl, by first | exact HBX.out | (rw [← HE2.out]; exact HBW.out)⟩
  by_cases hb2 : bv - t.value < pg
  · refine wp_region_tree T [] (.take 0 (.pure 1 (.take 2 (.alt 3 (.pure 4 (.pure 5 (.take 6 (.pure 7 (.take 8 (.pure 10 (.take 11 (.pure 12 (.take 13 (.pure 14 (.alt 9 (.alt 15 (.alt 16 (.pure 17 (.pure 18 (.pure 19 .fin))) .stop) .stop) .stop))))))))))) .stop)))) (by kernel_rfl) (by kernel_rfl) ?_
    refine tree_take ?_ t4 rfl (by rfl) (fun w' hs => ?_) (fun _ _ _ h => h) ?_
    rotate_left
    · rw [HT.out] at hs
      have r := hs.row; have q0 := tx0_nonce r; have q1 := tx0_price r; have q2 := tx0_gas r; have q3 := tx0_frm r; have q6 := tx0_value r; have qv := hs.val
      go_simp
      try rfl
    simp only [Act.put, tsa, tsb, tsc]
    refine tree_pure ?_ rfl (by rfl) (fun w' hs => ?_) (fun _ _ _ h => h) ?_
    rotate_left
    · clear hs
      go_simp
      try rfl
    simp only [Act.put, tsa, tsb, tsc]
    refine tree_take ?_ t4 rfl (by rfl) (fun w' hs => ?_) (fun _ _ _ h => h) ?_
    rotate_left
    · rw [HT.out] at hs
      have r := hs.row; have q0 := tx0_nonce r; have q1 := tx0_price r; have q2 := tx0_gas r; have q3 := tx0_frm r; have q6 := tx0_value r; have qv := hs.val
      go_simp
      try rfl
    simp only [Act.put, tsa, tsb, tsc]
    refine tree_run rfl (fun K hK => ?_)
    go_simp
    refine (word_cmp bv t.value hbal val_lt _).mono ?_
    rintro e w5 ⟨rfl, hb⟩
    have t5 : T w5 := HTB.out _ _ t4 hb
    clear hb
    have hc3 := cmpN_ge hbv
    generalize cmpN bv t.value = c3 at *
    refine hK.out _ _ t5 ?_
    clear hK K
    refine tree_pure (.bool false) rfl (by rfl) (fun w' hs => ?_) (fun _ _ _ h => h) ?_
    · clear hs
      go_simp
    simp only [Act.put, tsa, tsb, tsc]
    refine tree_pure ?_ rfl (by rfl) (fun w' hs => ?_) (fun _ _ _ h => h) ?_
    rotate_left
    · clear hs
      go_simp
      try rfl
    simp only [Act.put, tsa, tsb, tsc]
    refine tree_take ?_ t5 rfl (by rfl) (fun w' hs => ?_) (fun _ _ _ h => h) ?_
    rotate_left
    · rw [HT.out] at hs
      have r := hs.row; have q0 := tx0_nonce r; have q1 := tx0_price r; have q2 := tx0_gas r; have q3 := tx0_frm r; have q6 := tx0_value r; have qv := hs.val
      go_simp
      try rfl
    simp only [Act.put, tsa, tsb, tsc]
    refine tree_pure ?_ rfl (by rfl) (fun w' hs => ?_) (fun _ _ _ h => h) ?_
    rotate_left
    · clear hs
      go_simp
      try rfl
    simp only [Act.put, tsa, tsb, tsc]
    refine tree_take ?_ t5 rfl (by rfl) (fun w' hs => ?_) (fun _ _ _ h => h) ?_
    rotate_left
    · rw [HT.out] at hs
      have r := hs.row; have q0 := tx0_nonce r; have q1 := tx0_price r; have q2 := tx0_gas r; have q3 := tx0_frm r; have q6 := tx0_value r; have qv := hs.val
      go_simp
      try rfl
    simp only [Act.put, tsa, tsb, tsc]
    refine tree_pure ?_ rfl (by rfl) (fun w' hs => ?_) (fun _ _ _ h => h) ?_
    rotate_left
    · clear hs
      go_simp
      try rfl
    simp only [Act.put, tsa, tsb, tsc]
    refine tree_take ?_ t5 rfl (by rfl) (fun w' hs => ?_) (fun _ _ _ h => h) ?_
    rotate_left
    · rw [HT.out] at hs
      have r := hs.row; have q0 := tx0_nonce r; have q1 := tx0_price r; have q2 := tx0_gas r; have q3 := tx0_frm r; have q6 := tx0_value r; have qv := hs.val
      go_simp
      try rfl
    simp only [Act.put, tsa, tsb, tsc]
    refine tree_pure ?_ rfl (by rfl) (fun w' hs => ?_) (fun _ _ _ h => h) ?_
    rotate_left
    · clear hs
      go_simp
      try rfl
    simp only [Act.put, tsa, tsb, tsc]
    refine tree_take ?_ t5 rfl (by rfl) (fun w' hs => ?_) (fun _ _ _ h => h) ?_
    rotate_left
    · rw [HT.out] at hs
      have r := hs.row; have q0 := tx0_nonce r; have q1 := tx0_price r; have q2 := tx0_gas r; have q3 := tx0_frm r; have q6 := tx0_value r; have qv := hs.val
      go_simp
      try rfl
    simp only [Act.put, tsa, tsb, tsc]
    refine tree_pure (.int .i64 (pg : Int)) rfl (by rfl) (fun w' hs => ?_) (fun _ _ _ h => h) ?_
    · clear hs
      go_simp
    simp only [Act.put, tsa, tsb, tsc]
    refine tree_run rfl (fun K hK => ?_)
    go_simp
    have hs5 := word_sub bv t.value hbal val_lt w5
    rw [show (bv + wW - t.value) % wW = bv - t.value by rw [show bv + wW - t.value = bv - t.value + wW by omega, Nat.add_mod_right, Nat.mod_eq_of_lt (by omega)]] at hs5
    refine hs5.mono ?_
    rintro e w6 ⟨rfl, hb⟩
    have t6 : T w6 := HTB.out _ _ t5 hb
    clear hb hs5
    refine hK.out _ _ t6 ?_
    clear hK K
    refine tree_run rfl (fun K hK => ?_)
    go_simp
    have hs5 := word_of (pg : Int) (by omega) (by omega) w6
    rw [HOF.out] at hs5
    refine hs5.mono ?_
    rintro e w7 ⟨rfl, hb⟩
    have t7 : T w7 := HTB.out _ _ t6 hb
    clear hb hs5
    refine hK.out _ _ t7 ?_
    clear hK K
    refine tree_run rfl (fun K hK => ?_)
    go_simp
    refine (word_cmp (bv - t.value) pg (by omega) hpw _).mono ?_
    rintro e w8 ⟨rfl, hb⟩
    have t8 : T w8 := HTB.out _ _ t7 hb
    clear hb
    rw [cmpN_lt hb2]
    refine hK.out _ _ t8 ?_
    clear hK K
    refine tree_pure (.bool true) rfl (by rfl) (fun w' hs => ?_) (fun _ _ _ h => h) ?_
    · clear hs
      go_simp
    simp only [Act.put, tsa, tsb, tsc]
    refine tree_pure (.bool true) rfl (by rfl) (fun w' hs => ?_) (fun _ _ _ h => h) ?_
    · clear hs
      go_simp
    simp only [Act.put, tsa, tsb, tsc]
    refine tree_pure ?_ rfl (by rfl) (fun w' hs => ?_) (fun _ _ _ h => h) ?_
    rotate_left
    · clear hs
      go_simp
      try rfl
    simp only [Act.put, tsa, tsb, tsc]
    refine tree_fin ?_
    have HBX := Lib.hid (show Below w.heap.size w _ by rw [HT.out] at t8; exact t8.below)
    go_wp2
    go_ret
    have hM : mayTx S t = 16 := by
      rw [HMZ.out, if_pos (Or.inr hb2)]
    exact ⟨by rw [hM]; rfl, by first | exact HBX.out | (rw [← HE2.out]; exact HBW.out)⟩
  refine wp_region_tree T [] (.take 0 (.pure 1 (.take 2 (.alt 3 (.pure 4 (.pure 5 (.take 6 (.pure 7 (.take 8 (.pure 10 (.take 11 (.pure 12 (.take 13 (.pure 14 (.alt 9 (.alt 15 (.alt 16 (.pure 17 (.pure 18 (.pure 19 .fin))) .stop) .stop) .stop))))))))))) .stop)))) (by kernel_rfl) (by kernel_rfl) ?_
  refine tree_take ?_ t4 rfl (by rfl) (fun w' hs => ?_) (fun _ _ _ h => h) ?_
  rotate_left
  · rw [HT.out] at hs
    have r := hs.row; have q0 := tx0_nonce r; have q1 := tx0_price r; have q2 := tx0_gas r; have q3 := tx0_frm r; have q6 := tx0_value r; have qv := hs.val
    go_simp
    try rfl
  simp only [Act.put, tsa, tsb, tsc]
  refine tree_pure ?_ rfl (by rfl) (fun w' hs => ?_) (fun _ _ _ h => h) ?_
  rotate_left
  · clear hs
    go_simp
    try rfl
  simp only [Act.put, tsa, tsb, tsc]
  refine tree_take ?_ t4 rfl (by rfl) (fun w' hs => ?_) (fun _ _ _ h => h) ?_
  rotate_left
  · rw [HT.out] at hs
    have r := hs.row; have q0 := tx0_nonce r; have q1 := tx0_price r; have q2 := tx0_gas r; have q3 := tx0_frm r; have q6 := tx0_value r; have qv := hs.val
    go_simp
    try rfl
  simp only [Act.put, tsa, tsb, tsc]
  refine tree_run rfl (fun K hK => ?_)
  go_simp
  refine (word_cmp bv t.value hbal val_lt _).mono ?_
  rintro e w5 ⟨rfl, hb⟩
  have t5 : T w5 := HTB.out _ _ t4 hb
  clear hb
  have hc3 := cmpN_ge hbv
  generalize cmpN bv t.value = c3 at *
  refine hK.out _ _ t5 ?_
  clear hK K
  refine tree_pure (.bool false) rfl (by rfl) (fun w' hs => ?_) (fun _ _ _ h => h) ?_
  · clear hs
    go_simp
  simp only [Act.put, tsa, tsb, tsc]
  refine tree_pure ?_ rfl (by rfl) (fun w' hs => ?_) (fun _ _ _ h => h) ?_
  rotate_left
  · clear hs
    go_simp
    try rfl
  simp only [Act.put, tsa, tsb, tsc]
  refine tree_take ?_ t5 rfl (by rfl) (fun w' hs => ?_) (fun _ _ _ h => h) ?_
  rotate_left
  · rw [HT.out] at hs
    have r := hs.row; have q0 := tx0_nonce r; have q1 := tx0_price r; have q2 := tx0_gas r; have q3 := tx0_frm r; have q6 := tx0_value r; have qv := hs.val
    go_simp
    try rfl
  simp only [Act.put, tsa, tsb, tsc]
  refine tree_pure ?_ rfl (by rfl) (fun w' hs => ?_) (fun _ _ _ h => h) ?_
  rotate_left
  · clear hs
    go_simp
    try rfl
  simp only [Act.put, tsa, tsb, tsc]
  refine tree_take ?_ t5 rfl (by rfl) (fun w' hs => ?_) (fun _ _ _ h => h) ?_
  rotate_left
  · rw [HT.out] at hs
    have r := hs.row; have q0 := tx0_nonce r; have q1 := tx0_price r; have q2 := tx0_gas r; have q3 := tx0_frm r; have q6 := tx0_value r; have qv := hs.val
    go_simp
    try rfl
  simp only [Act.put, tsa, tsb, tsc]
  refine tree_pure ?_ rfl (by rfl) (fun w' hs => ?_) (fun _ _ _ h => h) ?_
  rotate_left
  · clear hs
    go_simp
    try rfl
  simp only [Act.put, tsa, tsb, tsc]
  refine tree_take ?_ t5 rfl (by rfl) (fun w' hs => ?_) (fun _ _ _ h => h) ?_
  rotate_left
  · rw [HT.out] at hs
    have r := hs.row; have q0 := tx0_nonce r; have q1 := tx0_price r; have q2 := tx0_gas r; have q3 := tx0_frm r; have q6 := tx0_value r; have qv := hs.val
    go_simp
    try rfl
  simp only [Act.put, tsa, tsb, tsc]
  refine tree_pure ?_ rfl (by rfl) (fun w' hs => ?_) (fun _ _ _ h => h) ?_
  rotate_left
  · clear hs
    go_simp
    try rfl
  simp only [Act.put, tsa, tsb, tsc]
  refine tree_take ?_ t5 rfl (by rfl) (fun w' hs => ?_) (fun _ _ _ h => h) ?_
  rotate_left
  · rw [HT.out] at hs
    have r := hs.row; have q0 := tx0_nonce r; have q1 := tx0_price r; have q2 := tx0_gas r; have q3 := tx0_frm r; have q6 := tx0_value r; have qv := hs.val
    go_simp
    try rfl
  simp only [Act.put, tsa, tsb, tsc]
  refine tree_pure (.int .i64 (pg : Int)) rfl (by rfl) (fun w' hs => ?_) (fun _ _ _ h => h) ?_
  · clear hs
    go_simp
  simp only [Act.put, tsa, tsb, tsc]
  refine tree_run rfl (fun K hK => ?_)
  go_simp
  have hs5 := word_sub bv t.value hbal val_lt w5
  rw [show (bv + wW - t.value) % wW = bv - t.value by rw [show bv + wW - t.value = bv - t.value + wW by omega, Nat.add_mod_right, Nat.mod_eq_of_lt (by omega)]] at hs5
  refine hs5.mono ?_
  rintro e w6 ⟨rfl, hb⟩
  have t6 : T w6 := HTB.out _ _ t5 hb
  clear hb hs5
  refine hK.out _ _ t6 ?_
  clear hK K
  refine tree_run rfl (fun K hK => ?_)
  go_simp
  have hs5 := word_of (pg : Int) (by omega) (by omega) w6
  rw [HOF.out] at hs5
  refine hs5.mono ?_
  rintro e w7 ⟨rfl, hb⟩
  have t7 : T w7 := HTB.out _ _ t6 hb
  clear hb hs5
  refine hK.out _ _ t7 ?_
  clear hK K
  refine tree_run rfl (fun K hK => ?_)
  go_simp
  refine (word_cmp (bv - t.value) pg (by omega) hpw _).mono ?_
  rintro e w8 ⟨rfl, hb⟩
  have t8 : T w8 := HTB.out _ _ t7 hb
  clear hb
  have hc8 := cmpN_ge hb2
  generalize cmpN (bv - t.value) pg = c8 at *
  refine hK.out _ _ t8 ?_
  clear hK K
  refine tree_pure (.bool false) rfl (by rfl) (fun w' hs => ?_) (fun _ _ _ h => h) ?_
  · clear hs
    go_simp
  simp only [Act.put, tsa, tsb, tsc]
  refine tree_pure (.bool false) rfl (by rfl) (fun w' hs => ?_) (fun _ _ _ h => h) ?_
  · clear hs
    go_simp
  simp only [Act.put, tsa, tsb, tsc]
  refine tree_pure ?_ rfl (by rfl) (fun w' hs => ?_) (fun _ _ _ h => h) ?_
  rotate_left
  · clear hs
    go_simp
    try rfl
  simp only [Act.put, tsa, tsb, tsc]
  refine tree_fin ?_
  have HBX := Lib.hid (show Below w.heap.size w _ by rw [HT.out] at t8; exact t8.below)
  go_wp2
  go_ret
  have hM : mayTx S t = 0 := by
    rw [HMZ.out, if_neg (by omega)]
  exact ⟨by rw [hM]; rfl, by first | exact HBX.out | (rw [← HE2.out]; exact HBW.out)⟩
end Go.Proofs.YtiglinnjnobodaaGreat
