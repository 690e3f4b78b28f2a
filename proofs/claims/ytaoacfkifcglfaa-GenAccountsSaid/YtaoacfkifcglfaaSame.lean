/-
  Accounts as they are read, and the reference's comparison of two accounts that read alike.
-/
import Derived.Test.YtaoacfkifcglfaaAcct
import Derived.Test.YtaoacfkifcglfaaEq
import Derived.Laws.BytesString
namespace Go.Mun
open Go.RowKit

/-- A list of bytes as a string. -/
def strOf (l : List Int) : ByteArray := ⟨(l.map fun n => UInt8.ofNat n.toNat).toArray⟩
theorem foldl_push (l : List Int) : ∀ s : ByteArray, l.foldl (fun r n => r.push (UInt8.ofNat n.toNat)) s = ⟨s.data ++ (l.map fun n => UInt8.ofNat n.toNat).toArray⟩ := by
  induction l with
  | nil => intro s; simp
  | cons x l ih =>
    intro s
    rw [List.foldl_cons, ih]
    simp [ByteArray.push]

theorem run_bytes_string {P : Program} {src dst e : TypeId} (hs : P.underlying src = some (.slice e)) (he : P.underlying e = some (.int .u8)) (hd : P.underlying dst = some .string)
    {w : World} {a : Option Addr} {c : Nat} {l : List Int} (hI : Ints w .u8 a c l) : (convert src dst (.slice a l.length c)).run P w = .ok (.string (strOf l)) w := by
  rw [run_convert_bytes_string w src dst e a l.length c hs he hd]
  cases a with
  | none =>
    have h1 := hI.nil rfl
    have h2 := hI.len
    have : l = [] := List.eq_nil_of_length_eq_zero (by omega)
    subst this
    simp [Conv.bytesToString, strOf]
    rfl
  | some ad =>
    have hl : (loadCells ad l.length).run P w = .ok (l.map (Value.int .u8)).toArray w := by
      have := run_loadCells_list (P := P) w ad (l.map (Value.int .u8)) (fun j v hv => by
        have hj : j < l.length := by
          rcases Nat.lt_or_ge j l.length with h | h
          · exact h
          · rw [List.getElem?_eq_none (by simpa using h)] at hv; cases hv
        obtain ⟨b, off, ha, _, hc⟩ := hI.at hj
        have ha' : ad = ⟨b, off, none⟩ := by simpa using ha
        rw [add_off ha', hc j hj]
        simp [hj] at hv
        simp [hj, hv])
      simpa using this
    rw [run_bytesToString w ad l.length c l hl, foldl_push]
    simp [strOf]

/-- Pairs of words in memory, one behind the other. -/
structure Pairs (w : World) (a : Option Addr) (c : Nat) (l : List (Nat × Nat)) : Prop where
  cell : l ≠ [] → ∃ b off, a = some ⟨b, off, none⟩ ∧ ∀ i k v, l[i]? = some (k, v) → w.row? b (off + i * 64) 64 = some (beC 32 k ++ beC 32 v)
  len : l.length ≤ c
  cap : c ≤ maxLen

theorem Pairs.below {w w' : World} {a : Option Addr} {c : Nat} {l : List (Nat × Nat)} (h : Pairs w a c l) (hb : Below w.heap.size w w') : Pairs w' a c l := by
  refine ⟨fun hn => ?_, h.len, h.cap⟩
  obtain ⟨b, off, ha, hc⟩ := h.cell hn
  refine ⟨b, off, ha, fun i k v hi => ?_⟩
  rw [← hc i k v hi]
  exact (brow hb).1 _ _ _ (World.row?_lt (hc i k v hi))

structure Acct where
  addr : Nat
  nonce : Int
  bal : Nat
  code : List Int
  slots : List (Nat × Nat)
end Go.Mun
namespace Go.Proofs.Ytaoacfkifcglfaa
open Go.RowKit Go.Mun
attribute [local irreducible] be beC zU8 ofW

structure AcctAt (w : World) (A : Acct) (cs : List Value) : Prop where
  ex : ∃ ca cc sa sc, cs = acctC A.addr A.nonce A.bal (.slice ca A.code.length cc) (.slice sa A.slots.length sc) ∧ Ints w .u8 ca cc A.code ∧ Pairs w sa sc A.slots

@[go_sem] theorem eg47 : Try.prog.eqGuardType Try.prog.depth 47 = false := by kernel_rfl
@[go_sem] theorem eg50 : Try.prog.eqGuardType Try.prog.depth 50 = false := by kernel_rfl
@[go_sem] theorem eg61 : Try.prog.eqGuardType Try.prog.depth 61 = false := by kernel_rfl
@[go_sem] theorem eq47 (a b : Nat) (w : World) : (Op.equalIn 10000 47 (.agg (beC 20 a).toArray) (.agg (beC 20 b).toArray)).run Try.prog w = .ok (beEq 20 a b) w := run_eq_be Try.underlying47 Try.underlying5 (by kernel_rfl) a b w
@[go_sem] theorem eq50 (a b : Nat) (w : World) : (Op.equalIn 10000 50 (.agg (beC 32 a).toArray) (.agg (beC 32 b).toArray)).run Try.prog w = .ok (beEq 32 a b) w := run_eq_be Try.underlying50 Try.underlying5 (by kernel_rfl) a b w
@[go_sem] theorem beEq_self (k a : Nat) : beEq k a a = true := by simp [beEq]

theorem acct_addr (w : World) (b a : Nat) (n : Int) (l : Nat) (c s : Value) (hb : b = w.heap.size) : (w.alloc (.cells (acctC a n l c s).toArray 54)).row? b 0 20 = some (beC 20 a) := by
  rw [World.row?_alloc_sub _ _ _ hb (by simp [acctC])]
  simp only [acctC, List.drop_zero]
  rw [List.take_left' (beC_len _ _)]
theorem acct_bal (w : World) (b a : Nat) (n : Int) (l : Nat) (c s : Value) (hb : b = w.heap.size) : (w.alloc (.cells (acctC a n l c s).toArray 54)).row? b 21 32 = some (beC 32 l) := by
  rw [World.row?_alloc_sub _ _ _ hb (by simp [acctC])]
  simp only [acctC]
  rw [← List.append_assoc, List.drop_left' (by simp), List.take_left' (beC_len _ _)]
@[go_sem] theorem acct_get20 (a : Nat) (n : Int) (l : Nat) (c s : Value) : (acctC a n l c s)[20]? = some (.int .i64 n) := by
  unfold acctC; rw [List.getElem?_append_right (by simp)]; simp
@[go_sem] theorem acct_get53 (a : Nat) (n : Int) (l : Nat) (c s : Value) : (acctC a n l c s)[53]? = some c := by
  unfold acctC; rw [← List.append_assoc, ← List.append_assoc, List.getElem?_append_right (by simp)]; simp
@[go_sem] theorem acct_get54 (a : Nat) (n : Int) (l : Nat) (c s : Value) : (acctC a n l c s)[54]? = some s := by
  unfold acctC; rw [← List.append_assoc, ← List.append_assoc, List.getElem?_append_right (by simp)]; simp
theorem part50 (X : List Value) (off : Nat) (L : List Value) (h : (X.drop off).take 32 = L) (w : World) : (part 50 X.toArray off).run Try.prog w = .ok (.agg L.toArray) w := by
  have hagg : (isAgg 50).run Try.prog w = .ok true w := by
    unfold isAgg
    rw [Sem.run_bind, run_underlying Try.underlying50 w]; rfl
  have hs : (sizeOf 50).run Try.prog w = .ok 32 w := by kernel_rfl
  simp only [part, Sem.run_bind, hagg, hs, Result.andThen_ok, if_true, Sem.run_pure]
  subst h
  simp
theorem fields61 : (Try.prog.fieldsOf 61).toList = [{ name := "Key", type := 50, offset := 0, embedded := false, tag := "", pkgPath := "", byteOffset := 0 }, { name := "Value", type := 50, offset := 32, embedded := false, tag := "", pkgPath := "", byteOffset := 32 }] := by kernel_rfl
theorem eq61d (d a b : Nat) (w : World) : (Op.equalIn (d + 3) 61 (.agg (beC 32 a ++ beC 32 b).toArray) (.agg (beC 32 a ++ beC 32 b).toArray)).run Try.prog w = .ok true w := by
  have e1 := run_eq_beD (P := Try.prog) Try.underlying50 Try.underlying5 (by kernel_rfl) d a a w
  have e2 := run_eq_beD (P := Try.prog) Try.underlying50 Try.underlying5 (by kernel_rfl) d b b w
  have p1 := part50 (beC 32 a ++ beC 32 b) 0 (beC 32 a) (by simp) w
  have p2 := part50 (beC 32 a ++ beC 32 b) 32 (beC 32 b) (by rw [List.drop_left' (by simp)]; exact List.take_of_length_le (by simp)) w
  rw [beEq_self] at e1 e2
  rw [run_equalIn_struct w (d + 2) 61 _ _ (by kernel_rfl) (by kernel_rfl), fields61]
  exact run_eqFields2t 50 0 50 32 rfl rfl rfl rfl (by simp) (by simp) p1 p1 p2 p2 e1 e2
theorem neq61 (a b : Nat) (w : World) : (binOp .neq 61 (.agg (beC 32 a ++ beC 32 b).toArray) (.agg (beC 32 a ++ beC 32 b).toArray)).run Try.prog w = .ok (.bool false) w :=
  neq_of (r := true) fun d => eq61d d a b w
theorem ty61 : RowTy Try.prog 61 64 := ⟨⟨_, Try.underlying61, rfl⟩, by kernel_rfl⟩
theorem ld61 (ρ : Operand → Value) (dst : Option Tmp) (x : Operand) (t : TypeId) (pos : String) (after : Array Edge) (gd : Option (Nat × Bool)) (w : World) : (execOp ρ ⟨dst, .load 61 x, t, pos, after, gd⟩).run Try.prog w = asNext (ldRow Try.prog 61 64 (ρ x) w) := ex_load ρ dst x t pos after gd w ty61
attribute [go_sem ↓] ld61
attribute [go_sem] acct_addr acct_bal
attribute [local irreducible] acctC

set_option maxHeartbeats 400000 in
theorem same_account (A : Acct) (cs ds : List Value) (w : World) (hc : AcctAt w A cs) (hd : AcctAt w A ds) :
    Calls Try.prog 24 #[.agg cs.toArray, .agg ds.toArray] w fun e w' => e = .returned (.bool true) ∧ Below w.heap.size w w' := by
  obtain ⟨ca, cc, sa, sc, rfl, h1, h2⟩ := hc
  obtain ⟨da, dc, ta, tc, rfl, h3, h4⟩ := hd
  have k1 := fun o1 o2 => run_bytes_string (P := Try.prog) Try.underlying30 Try.underlying5 Try.underlying9 (h1.below (((Below.refl _ _).alloc (Nat.le_refl _) o1).alloc (by simp) o2))
  have k2 := fun o1 o2 => run_bytes_string (P := Try.prog) Try.underlying30 Try.underlying5 Try.underlying9 (h3.below (((Below.refl _ _).alloc (Nat.le_refl _) o1).alloc (by simp) o2))
  have hl := Nat.le_trans h2.len h2.cap
  unfold maxLen at hl
  have H2 := Lib.hid h2
  have H4 := Lib.hid h4
  clear h1 h2 h3 h4
  go_enter Try.func24, Try.ntmps24
  go_wp2_with fail
  go_loopw [5] (fun i wr => ∃ k : Nat, k ≤ A.slots.length ∧ i = .int .i64 k ∧ Below w.heap.size w wr ∧ wr.cell? ⟨w.heap.size, 54, none⟩ = some (.slice sa A.slots.length sc) ∧ wr.cell? ⟨w.heap.size + 1, 54, none⟩ = some (.slice ta A.slots.length tc))
    (fun i _ => A.slots.length - (intOf i).toNat)
  case atStart => exact ⟨0, by omega, rfl, ((Below.refl _ _).alloc (Nat.le_refl _) _).alloc (by simp) _, by simp [go_sem], by simp [go_sem]⟩
  case round =>
    obtain ⟨k, hk, rfl, hb, c1, c2⟩ := hrel
    clear k1 k2
    by_cases hlt : k < A.slots.length
    · have hne : A.slots ≠ [] := by intro h; rw [h] at hlt; simp at hlt
      obtain ⟨b1, o1, rfl, r1⟩ := H2.out.cell hne
      obtain ⟨b2, o2, rfl, r2⟩ := H4.out.cell hne
      obtain ⟨⟨kk, vv⟩, hkv⟩ : ∃ p, A.slots[k]? = some p := ⟨_, List.getElem?_eq_getElem hlt⟩
      have q1 := r1 k kk vv hkv
      have q2 := r2 k kk vv hkv
      have q1' : wr.row? b1 (o1 + k * 64) 64 = some (beC 32 kk ++ beC 32 vv) := by rw [(brow hb).1 _ _ _ (World.row?_lt q1)]; exact q1
      have q2' : wr.row? b2 (o2 + k * 64) 64 = some (beC 32 kk ++ beC 32 vv) := by rw [(brow hb).1 _ _ _ (World.row?_lt q2)]; exact q2
      clear q1 q2 r1 r2 hkv hne
      have hneq := fun wx => neq61 kk vv wx
      go_wp2
      go_quiet (fail)
      go_wp2
      go_roundw
      case rel => exact ⟨k + 1, by omega, by go_num, by first | exact hb | exact below_drewN hb _, by simpa using c1, by simpa using c2⟩
      case measure => simp [intOf]; omega
    · go_wp2
      go_ret
      exact ⟨rfl, hb⟩
end Go.Proofs.Ytaoacfkifcglfaa
