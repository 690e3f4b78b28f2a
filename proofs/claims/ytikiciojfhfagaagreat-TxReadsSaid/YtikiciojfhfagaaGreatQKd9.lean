/-
  Bytes as transactions: the program's reader of a transaction.
  The reference's reader of items: the short ways.
  The reference's reader of items: facts about its head.
  A block that is one row: what is copied into it.
  The reference's Read, of what its part comes to.
  The reference's ReadTx, of what its part and its Of come to.
  The reference's Int: a word as a number, when it fits.
-/
import Derived.Test.YtikiciojfhfagaaGreatQKd8
set_option linter.unusedVariables false
set_option linter.unusedSimpArgs false
namespace Go.Mun
open Go.RowKit
def Small (g : Bts → RdR) : Prop := ∀ x t n l, g x = .ok t n → t.kid = some l → l.length ≤ x.length
theorem rd1_small {lst : Bts → RdR} (h : Small lst) : Small (rd1 lst) := by
  intro x t k l e hl
  unfold rd1 at e
  split at e
  · cases e
  · rename_i hne
    have hp : 0 < x.length := List.length_pos_iff.2 hne
    split at e
    · cases e; cases hl; simp; omega
    · split at e
      · unfold rdB at e
        split at e
        · cases e
        · split at e
          · cases e
          · cases e; cases hl
            rw [List.length_take, List.length_drop]; omega
      · exact h x t k l e hl
theorem rdL_small (g : Bts → RdR) : Small (rdL g) := by
  intro x t k l e hl
  unfold rdL at e
  split at e
  · cases e
  · split at e
    · cases e
    · cases e; cases hl
theorem rdT_small : ∀ d, Small (rdT d)
  | 0 => rd1_small (fun x t k l e => by cases e)
  | d + 1 => rd1_small (rdL_small _)
theorem rdsF_small {g : Bts → RdR} (hg : Small g) : ∀ (m : Nat) (x : Bts) (ks : List (Option Bts)), rdsF g m x = .inr ks → ∀ l, some l ∈ ks → l.length ≤ x.length
  | 0, x, ks, h, _, _ => by cases h
  | m + 1, x, ks, h, l, hl => by
    unfold rdsF at h
    split at h
    · cases h; cases hl
    · cases eg : g x with
      | err e => rw [eg] at h; cases h
      | ok t k =>
        rw [eg] at h
        simp only at h
        cases er : rdsF g m (x.drop k) with
        | inl e => rw [er] at h; cases h
        | inr l2 =>
          rw [er] at h
          cases h
          rcases List.mem_cons.1 hl with h1 | h1
          · exact hg x t k l eg h1.symm
          · have := rdsF_small hg m _ l2 er l h1
            rw [List.length_drop] at this
            omega
theorem rdL_kids {g : Bts → RdR} (hg : Small g) {x : Bts} {ks : List (Option Bts)} {n : Nat} (h : rdL g x = .ok (.list ks) n) {l : Bts} (hl : some l ∈ ks) : l.length ≤ x.length := by
  unfold rdL at h
  split at h
  · cases h
  · split at h
    · cases h
    · rename_i er
      cases h
      have := rdsF_small hg _ _ _ er l hl
      rw [List.length_take, List.length_drop] at this
      omega
theorem rdT_kids (d : Nat) {x : Bts} {ks : List (Option Bts)} {n : Nat} (h : rdT d x = .ok (.list ks) n) {l : Bts} (hl : some l ∈ ks) : l.length ≤ x.length := by
  have key : ∀ lst : Bts → RdR, (∀ n, lst x = .ok (.list ks) n → l.length ≤ x.length) → rd1 lst x = .ok (.list ks) n → l.length ≤ x.length := by
    intro lst hlst h
    unfold rd1 at h
    split at h
    · cases h
    · split at h
      · cases h
      · split at h
        · unfold rdB at h
          split at h
          · cases h
          · split at h
            · cases h
            · cases h
        · exact hlst _ h
  cases d with
  | zero => exact key _ (fun n h => by cases h) h
  | succ d => exact key _ (fun n h => rdL_kids (rdT_small d) h hl) h
theorem rdAll_kids {x : Bts} {ks : List (Option Bts)} {n : Nat} (h : rdAll x = .ok (.list ks) n) {l : Bts} (hl : some l ∈ ks) : l.length ≤ x.length := by
  unfold rdAll at h
  split at h
  · cases h
  · rename_i e
    split at h
    · cases h; exact rdT_kids 32 e hl
    · cases h
theorem rdAll_errs {x : Bts} {e : Nat} (h : rdAll x = .err e) : e ≠ 0 := by
  unfold rdAll at h
  split at h
  · rename_i er; cases h; exact rdT_errs 32 _ _ er
  · split at h
    · cases h
    · cases h; decide
end Go.Mun
namespace Go.Proofs.YtikiciojfhfagaaGreat
open Go.RowKit Go.Mun

theorem tx_Of {R : Nat → Prop} {cs : List Value} {t : Top} {w : World} (h : TopAt w R cs t) (hsz : ∀ ks l, t = .list ks → some l ∈ ks → l.length ≤ 70000000000000) :
    Calls Tryz.prog 31 #[.agg cs.toArray] w fun e w' => OfIs w w' (ofK t) e := by
  cases t with
  | bytes l => exact of_bytes h
  | list ks =>
    by_cases h7 : ks.length = 7
    · match ks, h7 with
      | [k0, k1, k2, k3, k4, k5, k6], _ => exact of_seven h (fun l hl => hsz _ l rfl (by rw [hl]; simp))
    · exact of_short h h7
/-- What bytes say of a transaction: why not, or which. -/
def readK (L : Bts) : Nat ⊕ TxP := match rdAll L with
  | .err x => .inl x
  | .ok t _ => match ofK t with
    | none => .inl 4
    | some t => .inr t
/-- What a transaction's reader of bytes comes to. -/
def ReadTxIs (w w' : World) (r : Nat ⊕ TxP) (e : Ending) : Prop := Below w.heap.size w w' ∧ match r with
  | .inl x => e = .returned (.tuple #[.agg (cat zsN44).toArray, .int .i64 x])
  | .inr t => ∃ dv, e = .returned (.tuple #[.agg (cat (txS t dv)).toArray, .int .i64 0]) ∧ NewB w w' dv t.data ∧ Byt t.data
theorem readTx_err {w w' : World} {r : Nat ⊕ TxP} {x : Nat} (h : r = .inl x) (hb : Below w.heap.size w w') : ReadTxIs w w' r (.returned (.tuple #[.agg (cat zsN44).toArray, .int .i64 x])) := by
  subst h; exact ⟨hb, rfl⟩
theorem readTx_ok {w w' : World} {r : Nat ⊕ TxP} {t : TxP} {dv : Value} (h : r = .inr t) (hd : NewB w w' dv t.data) (hby : Byt t.data) : ReadTxIs w w' r (.returned (.tuple #[.agg (cat (txS t dv)).toArray, .int .i64 0])) := by
  subst h; exact ⟨hd.below, dv, rfl, hd, hby⟩

set_option maxRecDepth 100000 in
set_option maxHeartbeats 2000000 in
theorem tx_Read (a : Option Addr) (c : Nat) (L : Bts) (w : World) (hI : Ints w .u8 a c L) (hby : Byt L) (hlen : L.length ≤ 16777216) :
    Calls Tryz.prog 23 #[.slice a L.length c] w fun e w' => ReadTxIs w w' (readK L) e := by
  have hokz := okL_zs44
  obtain ⟨w0, e0⟩ : ∃ w0, w0 = w.alloc (.cells (cat zsN44).toArray 44) := ⟨_, rfl⟩
  have hb0 : Below w.heap.size w w0 := by rw [e0]; exact (Below.refl _ _).alloc (Nat.le_refl _) _
  have hf0 : w0.free? w.heap.size 0 77 = true := by rw [e0]; exact World.free?_alloc_at _ _ rfl (by simp [zsN44_len])
  have HRD := Lib.hid (rlp_Read a c L w0 (hI.below hb0) hby hlen)
  have HE := Lib.hid e0
  have HB := Lib.hid hb0
  have HF := Lib.hid hf0
  have HLN := Lib.hid hlen
  have HRK : Hid (readK L = match rdAll L with | .err x => .inl x | .ok t _ => match ofK t with | none => .inl 4 | some t => .inr t) := rfl
  clear hI hby hlen e0 hb0 hf0
  go_enter Tryz.func23, Tryz.ntmps23
  go_wp2_with fail
  rw [← HE.out]
  refine HRD.out.mono ?_
  rintro e w1 ⟨hb1, hr1⟩
  have hf1 : w1.free? w.heap.size 0 77 = true := by rw [(brow hb1).2 _ _ _ (free?_lt HF.out)]; exact HF.out
  have hB1 := HB.out.trans (hb1.mono HB.out.size)
  cases er : rdAll L with
  | err x =>
    rw [er] at hr1
    simp only at hr1
    subst hr1
    have hx := rdAll_errs er
    have dx : ((x : Int) == 0) = false := by simpa using hx
    have dx2 : ((x : Int) != 0) = true := by simpa using hx
    have HK : Hid (readK L = .inl x) := by show _ = _; rw [HRK.out, er]
    have hf2 : ((w1.alloc (.cells itemZ.toArray 65)).setCells w1.heap.size 0 itemZ).free? w.heap.size 0 77 = true := by
      rw [World.free?_setCells', World.free?_alloc_lt _ (free?_lt hf1)]; exact hf1
    have f4 : (w1.alloc (.cells itemZ.toArray 65)).free? w1.heap.size 0 3 = true := itemZ_row w1
    have HB1 := Lib.hid ((hB1.alloc hB1.size (.cells itemZ.toArray 65)).setCells (b := w1.heap.size) hB1.size 0 itemZ)
    have hoki : okL 3 itemZ = true := itemZ_ok
    clear er hx hb1 hB1
    go_wp2
    exact ret_row2 tyN44 rfl _ _ rfl rfl rfl (row?_setCells_whole _ hf2 hokz) (readTx_err HK.out (HB1.out.setCells (Nat.le_refl _) _ _))
  | ok t n =>
    rw [er] at hr1
    obtain ⟨cs, rfl, htop⟩ := hr1
    obtain ⟨hcl, hcok⟩ := htop.lenok
    obtain ⟨W1, eW1⟩ : ∃ W1, W1 = (w1.alloc (.cells itemZ.toArray 65)).setCells w1.heap.size 0 cs := ⟨_, rfl⟩
    have o1 : Only (fun _ => False) w1 W1 := by rw [eW1]; exact ((Only.refl (fun _ => False) w1).alloc _).setCells (fun hh => absurd hh (Nat.lt_irrefl _)) _ _
    have hB2 : Below w.heap.size w W1 := by rw [eW1]; exact (hB1.alloc hB1.size _).setCells hB1.size _ _
    have hA4 : Arr W1 w1.heap.size 3 cs := by rw [eW1]; exact (Arr.new w1 3 itemZ 65 rfl).setCells cs hcok
    have f4 : (w1.alloc (.cells itemZ.toArray 65)).free? w1.heap.size 0 3 = true := itemZ_row w1
    have hf2 : W1.free? w.heap.size 0 77 = true := by rw [o1.free? (free?_lt hf1) (fun h => h)]; exact hf1
    have r4 := hA4.row
    have HCO := Lib.hid (tx_Of (htop.only (R' := fun _ => True) o1 (fun _ _ _ h => h) (fun _ _ _ => trivial)) (fun ks l hk hl => by subst hk; have := rdAll_kids er hl; have := HLN.out; omega))
    have HK0 : Hid (readK L = match ofK t with | none => .inl 4 | some t => .inr t) := by show _ = _; rw [HRK.out, er]
    have HW := Lib.hid eW1
    have HB2 := Lib.hid hB2
    have HF2 := Lib.hid hf2
    rw [eW1] at r4
    clear er htop o1 hB2 hA4 hf2 eW1 hb1 hB1 hf1
    go_wp2_with fail
    rw [← HW.out]
    refine HCO.out.mono ?_
    rintro e w2 ⟨hb2, hr2⟩
    have hf3 : w2.free? w.heap.size 0 77 = true := by rw [(brow hb2).2 _ _ _ (free?_lt HF2.out)]; exact HF2.out
    have HB3 := Lib.hid (HB2.out.trans (hb2.mono HB2.out.size))
    have f6 : (w2.alloc (.cells (cat zsN44).toArray 44)).free? w2.heap.size 0 77 = true := World.free?_alloc_at _ _ rfl (by simp [zsN44_len])
    have HLT := Lib.hid (free?_lt hf3)
    cases eo : ofK t with
    | none =>
      rw [eo] at hr2
      simp only at hr2
      subst hr2
      have HK : Hid (readK L = .inl 4) := by show _ = _; rw [HK0.out, eo]
      have hf4 : ((w2.alloc (.cells (cat zsN44).toArray 44)).setCells w2.heap.size 0 (cat zsN44)).free? w.heap.size 0 77 = true := by
        rw [World.free?_setCells', World.free?_alloc_lt _ (free?_lt hf3)]; exact hf3
      have HB4 := Lib.hid ((HB3.out.alloc HB3.out.size (.cells (cat zsN44).toArray 44)).setCells (b := w2.heap.size) HB3.out.size 0 (cat zsN44))
      clear eo hb2 hf3 r4
      go_wp2
      exact ret_row2 tyN44 rfl _ _ rfl rfl rfl (row?_setCells_whole _ hf4 hokz) (readTx_err (x := 4) HK.out (HB4.out.setCells (Nat.le_refl _) _ _))
    | some t2 =>
      rw [eo] at hr2
      obtain ⟨dv, rfl, hnb, hbyd⟩ := hr2
      have HK : Hid (readK L = .inr t2) := by show _ = _; rw [HK0.out, eo]
      obtain ⟨⟨da, dc, rfl, hdi, hdf⟩, _⟩ := hnb
      have hokr := txS_ok t2 da t2.data.length dc
      have hlr := txS_len t2 (.slice da t2.data.length dc)
      obtain ⟨W2, eW2⟩ : ∃ W2, W2 = (w2.alloc (.cells (cat zsN44).toArray 44)).setCells w2.heap.size 0 (cat (txS t2 (.slice da t2.data.length dc))) := ⟨_, rfl⟩
      have hb5 : Below w2.heap.size w2 W2 := by rw [eW2]; exact ((Below.refl _ _).alloc (Nat.le_refl _) _).setCells (Nat.le_refl _) _ _
      have hA6 : Arr W2 w2.heap.size 77 (cat (txS t2 (.slice da t2.data.length dc))) := by rw [eW2]; exact (Arr.new w2 77 (cat zsN44) 44 zsN44_len).setCells _ hokr
      have r6 := hA6.row
      have hf4 : W2.free? w.heap.size 0 77 = true := by rw [(brow hb5).2 _ _ _ (free?_lt hf3)]; exact hf3
      have HD := Lib.hid (hdi.below hb5)
      have HDF := Lib.hid hdf
      have HBY := Lib.hid hbyd
      have HB5 := Lib.hid (HB3.out.trans (hb5.mono HB3.out.size))
      have HW2 := Lib.hid eW2
      have HF4 := Lib.hid hf4
      have HS1 := Lib.hid HB2.out.size
      have HL2 := Lib.hid (free?_lt HF2.out)
      rw [eW2] at r6 hf4
      clear eo hb2 hf3 r4 hdi hdf hbyd hb5 hA6 eW2
      go_wp2
      rw [← HW2.out]
      have ho : Only (· = w.heap.size) W2 (W2.setCells w.heap.size 0 (cat (txS t2 (.slice da t2.data.length dc)))) := (Only.refl (· = w.heap.size) _).setCells (fun _ => rfl) _ _
      exact ret_row2 tyN44 rfl _ _ rfl rfl rfl (row?_setCells_whole _ HF4.out hokr) (readTx_ok HK.out ⟨⟨da, dc, rfl, ints_only HD.out ho (fun q _ hq hx => by have h1 := HDF.out q hq; have h2 := HL2.out; have : q.block = w.heap.size := hx; omega), fun q hq => by have h1 := HDF.out q hq; have h2 := HL2.out; omega⟩, HB5.out.setCells (Nat.le_refl _) _ _⟩ HBY.out)
end Go.Proofs.YtikiciojfhfagaaGreat
namespace Go.Proofs.YtikiciojfhfagaaGreat
open Go.RowKit Go.Mun

def PartOk (d : Nat) : Prop := ∀ (a : Option Addr) (c : Nat) (L : Bts) (w : World), Ints w .u8 a c L → Byt L → L.length ≤ 16777216 → d ≤ 32 →
  Calls Tryz.prog 83 #[.slice a L.length c, .int .i64 (d : Int)] w fun e w' => ReadIs w w' (rdT d L) e
set_option maxRecDepth 100000 in
set_option maxHeartbeats 1000000 in
/-- Nothing to read; a byte that stands for itself. -/
theorem part_small (d : Nat) (a : Option Addr) (c : Nat) (L : Bts) (w : World) (hI : Ints w .u8 a c L) (hby : Byt L) (hs : L = [] ∨ L[0]?.getD 0 < 128) :
    Calls Tryz.prog 83 #[.slice a L.length c, .int .i64 (d : Int)] w fun e w' => ReadIs w w' (rdT d L) e := by
  have hok : okL 3 itemZ = true := itemZ_ok
  by_cases hne : L = []
  · have h0 : L.length = 0 := by rw [hne]; rfl
    have hr : rdT d L = .err 4 := by rw [hne]; exact rdT_nil d
    have HR := Lib.hid hr
    have hf := itemZ_row w
    rw [h0]
    clear hI hby hs hr hne h0
    go_enter Tryz.func83, Tryz.ntmps83
    go_wp2
    refine ret_row3 ty61 rfl _ _ _ rfl rfl rfl rfl (row?_setCells_whole _ hf hok) (readIs_err (x := 4) HR.out (((Below.refl _ _).alloc (Nat.le_refl _) _).setCells (Nat.le_refl _) _ _))
  · have h1 : L[0]?.getD 0 < 128 := hs.resolve_left hne
    have hl : 0 < L.length := List.length_pos_iff.2 hne
    have hr : rdT d L = .ok (.bytes [L[0]?.getD 0]) 1 := rdT_one hne h1
    obtain ⟨b, off, rfl, hbl, hc⟩ := hI.at hl
    have hx0 : (0 : Int) ≤ L[0]?.getD 0 ∧ L[0]?.getD 0 < 256 := by rw [List.getElem?_eq_getElem hl]; exact hby _ (List.getElem_mem _)
    have c0 : (w.alloc (.cells itemZ.toArray 65)).cell? ⟨b, off, none⟩ = some (.int .u8 (L[0]?.getD 0)) := by
      have h0 := hc 0 hl
      rw [Nat.add_zero] at h0
      rw [((Below.refl w.heap.size w).alloc (Nat.le_refl _) (.cells itemZ.toArray 65)).cell hbl]; exact h0
    generalize L[0]?.getD 0 = x at *
    have hll : (L.length == 0) = false := by simp; omega
    have HR := Lib.hid hr
    have HX := Lib.hid hx0
    have hw : IntKind.i64.wrap x = x := wrI _ (by omega) (by omega)
    clear hI hby hs hr hne hc hx0
    go_enter Tryz.func83, Tryz.ntmps83
    go_wp2
    have e : lay itemZ 1 [Value.slice (some ⟨w.heap.size + 1, 0, none⟩) 1 1] = [.bool false, .slice (some ⟨w.heap.size + 1, 0, none⟩) 1 1, .slice none 0 0] := rfl
    rw [e]
    have hf : ((w.alloc (.cells itemZ.toArray 65)).alloc (.cells #[.int .u8 x] 5)).free? w.heap.size 0 3 = true := by rw [World.free?_alloc_lt _ (by simp)]; exact itemZ_row w
    have hI := Ints.new (w.alloc (.cells itemZ.toArray 65)) .u8 [x] 5 (by simp [maxLen])
    have hO : Only (· = w.heap.size) ((w.alloc (.cells itemZ.toArray 65)).alloc (.cells #[.int .u8 x] 5)) (((w.alloc (.cells itemZ.toArray 65)).alloc (.cells #[.int .u8 x] 5)).setCells w.heap.size 0 [.bool false, .slice (some ⟨w.heap.size + 1, 0, none⟩) 1 1, .slice none 0 0]) := (Only.refl (· = w.heap.size) _).setCells (fun _ => rfl) _ _
    have hI2 : Ints ((w.alloc (.cells itemZ.toArray 65)).alloc (.cells #[.int .u8 x] 5)) .u8 (some ⟨w.heap.size + 1, 0, none⟩) 1 [x] := by simpa using hI
    refine ret_row3 ty61 rfl _ _ _ rfl rfl rfl rfl (row?_setCells_whole _ hf (by simp [okL, Value.oneCell'])) (readIs_ok HR.out ((((Below.refl _ _).alloc (Nat.le_refl _) _).alloc (by simp) _).setCells (Nat.le_refl _) _ _) ⟨_, _, rfl, Ints.only (S := (· = w.heap.size)) hI2 hO (fun p hp => by cases hp; simp), fun _ p hp => by cases hp; simp, fun y hy => by
      have : y = x := by simpa using hy
      rw [this]; exact HX.out⟩)
set_option maxRecDepth 100000 in
theorem part_deep (a : Option Addr) (c : Nat) (L : Bts) (w : World) (hI : Ints w .u8 a c L) (hby : Byt L) (hne : L ≠ []) (h2 : ¬ L[0]?.getD 0 < 192) :
    Calls Tryz.prog 83 #[.slice a L.length c, .int .i64 0] w fun e w' => ReadIs w w' (rdT 0 L) e := by
  have hok : okL 3 itemZ = true := itemZ_ok
  have hl : 0 < L.length := List.length_pos_iff.2 hne
  have HRD := Lib.hid (rdT_deep hne h2)
  obtain ⟨b, off, rfl, hbl, hc⟩ := hI.at hl
  have c0 : (w.alloc (.cells itemZ.toArray 65)).cell? ⟨b, off, none⟩ = some (.int .u8 (L[0]?.getD 0)) := by
    have h0 := hc 0 hl
    rw [Nat.add_zero] at h0
    rw [((Below.refl w.heap.size w).alloc (Nat.le_refl _) (.cells itemZ.toArray 65)).cell hbl]; exact h0
  have hf := itemZ_row w
  have hx0 : (0 : Int) ≤ L[0]?.getD 0 ∧ L[0]?.getD 0 < 256 := by rw [List.getElem?_eq_getElem hl]; exact hby _ (List.getElem_mem _)
  generalize L[0]?.getD 0 = x at *
  have hll : (L.length == 0) = false := by simp; omega
  have d1 : decide (x < 128) = false := decide_eq_false (by omega)
  have d2 : decide (x < 192) = false := decide_eq_false h2
  have hw : IntKind.i64.wrap x = x := wrI _ (by omega) (by omega)
  have d3 : decide (192 ≤ x) = true := decide_eq_true (by omega)
  clear hI hne hc h2 hx0 hby
  go_enter Tryz.func83, Tryz.ntmps83
  go_wp2
  refine ret_row3 ty61 rfl _ _ _ rfl rfl rfl rfl (row?_setCells_whole _ hf hok) (readIs_err (x := 3) HRD.out (((Below.refl _ _).alloc (Nat.le_refl _) _).setCells (Nat.le_refl _) _ _))
end Go.Proofs.YtikiciojfhfagaaGreat
namespace Go.Proofs.YtikiciojfhfagaaGreat
open Go.RowKit Go.Mun

theorem i64_and_nat (a b : Nat) (ha : a < 9223372036854775808) (hb : b < 9223372036854775808) : bits .and .i64 (a : Int) (b : Int) = ((a &&& b : Nat) : Int) := by
  have h1 : ((BitVec.ofInt 64 (a : Int)) &&& (BitVec.ofInt 64 (b : Int))).toNat = a &&& b := by
    rw [BitVec.toNat_and, BitVec.toNat_ofInt, BitVec.toNat_ofInt]
    congr 1 <;> omega
  have h2 : a &&& b ≤ a := Nat.and_le_left
  show IntKind.i64.wrap (((BitVec.ofInt 64 (a : Int)) &&& (BitVec.ofInt 64 (b : Int))).toNat : Int) = _
  rw [h1, wrI _ (by omega) (by omega)]
theorem and63i (a k : Nat) (ha : a < 256) (h : a % 64 = k) : bits .and .i64 (a : Int) 63 = (k : Int) := by
  have := i64_and_nat a 63 (by omega) (by omega)
  rw [show ((63 : Nat) : Int) = 63 from rfl] at this
  rw [this, Nat.and_two_pow_sub_one_eq_mod a 6]
  omega
/-- The head of an item, told by what is in its first byte. -/
structure Hd (L : Bts) (k : Nat) : Prop where
  k64 : k < 64
  sh : k ≤ 55 → hdR L = if k + 1 ≤ L.length then some (1, k) else none
  no : ∀ j, 55 < k → j = k - 55 → L.length < 1 + j ∨ L[1]?.getD 0 = 0 → hdR L = none
  lo : ∀ j, 55 < k → j = k - 55 → ¬ (L.length < 1 + j ∨ L[1]?.getD 0 = 0) → hdR L = if beN ((L.drop 1).take j) ≤ 55 ∨ L.length < 1 + j + beN ((L.drop 1).take j) then none else some (1 + j, beN ((L.drop 1).take j))
theorem Hd.mk' {L : Bts} {k : Nat} (hk : k < 64) (hm : (L[0]?.getD 0 % 64).toNat = k) : Hd L k := by
  have hH : hdR L = if k ≤ 55 then (if k + 1 ≤ L.length then some (1, k) else none) else if L.length < 1 + (k - 55) ∨ L[1]?.getD 0 = 0 then none
      else if beN ((L.drop 1).take (k - 55)) ≤ 55 ∨ L.length < 1 + (k - 55) + beN ((L.drop 1).take (k - 55)) then none else some (1 + (k - 55), beN ((L.drop 1).take (k - 55))) := by
    unfold hdR; rw [hm]
  refine ⟨hk, fun h => by rw [hH, if_pos h], fun j h hj h2 => ?_, fun j h hj h2 => ?_⟩
  · subst hj; rw [hH, if_neg (by omega), if_pos h2]
  · subst hj; rw [hH, if_neg (by omega), if_neg h2]
/-- What the head's loop wants of the bytes behind the first. -/
structure HdLp (w : World) (b off : Nat) (L : Bts) (j : Nat) (B : Nat → Nat) : Prop where
  cell : ∀ q : Nat, q < j → ∃ x : Nat, x < 256 ∧ w.cell? ⟨b, off + (1 + q), none⟩ = some (.int .u8 (x : Int)) ∧ B (q + 1) = B q * 256 + x
  mono : ∀ q : Nat, q ≤ j → B q ≤ B j
  nil : B 0 = 0
theorem HdLp.of {w : World} {b off : Nat} {L : Bts} {j : Nat} (hc : ∀ i, i < L.length → w.cell? ⟨b, off + i, none⟩ = some (.int .u8 (L[i]?.getD 0))) (hby : Byt L) (hl : 1 + j ≤ L.length) :
    HdLp w b off L j (fun q => beN ((L.drop 1).take q)) := by
  refine ⟨fun q hq => ?_, fun q hq => beN_take_le _ (fun x hx => hby x (List.mem_of_mem_drop hx)) q j hq, rfl⟩
  have h1 : 1 + q < L.length := by omega
  have h2 : (0 : Int) ≤ L[1 + q]?.getD 0 ∧ L[1 + q]?.getD 0 < 256 := by rw [List.getElem?_eq_getElem h1]; exact hby _ (List.getElem_mem _)
  refine ⟨(L[1 + q]?.getD 0).toNat, by omega, ?_, ?_⟩
  · rw [hc (1 + q) h1]
    congr 2
    omega
  · have := beN_take (L.drop 1) q (by rw [List.length_drop]; omega)
    rw [List.getElem?_drop] at this
    exact this
theorem part_first (l : Bts) (h n : Nat) (hn : 0 < n) (hl : h < l.length) : ((l.drop h).take n)[0]?.getD 0 = l[h]?.getD 0 := by
  rw [List.getElem?_take, if_pos hn, List.getElem?_drop, Nat.add_zero]
end Go.Proofs.YtikiciojfhfagaaGreat
namespace Go.Proofs.YtikiciojfhfagaaGreat
open Go.RowKit Go.Mun

def Whole (w : World) (b : Nat) (t : TypeId) (L : List Value) : Prop := w.heap[b]? = some (.cells L.toArray t (0, 0))
theorem Whole.new (w : World) (t : TypeId) (L : List Value) : Whole (w.alloc (.cells L.toArray t)) w.heap.size t L := heap_alloc_new w (.cells L.toArray t)
theorem Whole.lt {w : World} {b : Nat} {t : TypeId} {L : List Value} (h : Whole w b t L) : b < w.heap.size := (Array.getElem?_eq_some_iff.1 h).1
theorem Whole.set {w : World} {b : Nat} {t : TypeId} {L : List Value} (h : Whole w b t L) (i : Nat) (v : Value) : Whole (w.setCell ⟨b, i, none⟩ v) b t (L.set i v) := by
  have := setCell_heap (w := w) (b := b) (o := i) L.toArray t (0, 0) v h
  unfold Whole
  rw [this, List.setIfInBounds_toArray]
theorem Whole.only {w w' : World} {S : Nat → Prop} {b : Nat} {t : TypeId} {L : List Value} (h : Whole w b t L) (ho : Only S w w') (hs : ¬ S b) : Whole w' b t L := (ho.block b h.lt hs).trans h
theorem Whole.below {w w' : World} {b : Nat} {t : TypeId} {L : List Value} (h : Whole w b t L) (hb : Below w.heap.size w w') : Whole w' b t L := h.only (S := fun _ => False) (Only.of_below_size hb) (fun h => h)
theorem Whole.arr {w : World} {b n : Nat} {t : TypeId} {L : List Value} (h : Whole w b t L) (hn : L.length = n) : Arr w b n L := by
  subst hn
  refine ⟨?_, ?_⟩
  · unfold World.row?
    rw [show w.heap[b]? = _ from h]
    simp
  · unfold World.free?
    rw [show w.heap[b]? = _ from h]
    simp
theorem only_setRow (w : World) (g : Nat) (cs : Array Value) : Only (· = g) w (w.setRow g cs) :=
  ⟨rfl, rfl, rfl, by simp [World.setRow], fun k _ hs => setRow_other w g k cs hs⟩
/-- A copy within a region that draws its order: the block alone turns. -/
theorem step_copy_only {P : Program} {ops : Array Oper} {o : Oper} {a : Act} {w : World} {K : Act → World → Prop} {Q : Exit → Act → World → Prop} {E : Prop} (hgd : o.guard = none) (d s : Operand) (dT sT : TypeId)
    (ho : o.op = .call { callee := .builtin .copy, args := #[d, s], argTypes := #[dT, sT] }) (elem : TypeId) (hu : P.underlying dT = some (.slice elem)) (hsz : (P.info? elem).map (·.size) = some 1)
    (dp sp : Option Addr) (dLen dCap sLen sCap : Nat) (hd : a.eval d = .slice dp dLen dCap) (hs : a.eval s = .slice sp sLen sCap)
    (g off : Nat) (cur : List Value) (t : TypeId) (hg : Whole w g t cur) (cs : List Value) (hn : cs.length = Nat.min sLen dLen)
    (hpos : 0 < cs.length → dp = some ⟨g, off, none⟩ ∧ ∃ ad, sp = some ad ∧ ∀ j v, cs[j]? = some v → w.cell? (ad.add j) = some v)
    (hfit : off + cs.length ≤ cur.length) (h1 : ∀ v ∈ cs, v.oneCell' = true)
    (h : ∀ w', Hid (Whole w' g t (splice cur off cs)) → Only (· = g) w w' → K (a.put o.dst (goInt cs.length)) w') :
    if Region.wanted o (yielded ops a.tmps) = true then Oper.wp P o a w K Q else E := by
  have hw : Region.wanted o (yielded ops a.tmps) = true := by simp [Region.wanted, hgd]
  rw [if_pos hw]
  by_cases h0 : cs.length = 0
  · obtain rfl : cs = [] := List.eq_nil_of_length_eq_zero h0
    have hrun := run_copy_none (P := P) w dT sT o.type elem dp sp dLen dCap sLen sCap hu hsz (by simpa using hn.symm)
    unfold Oper.wp
    simp [execOp, ho, resolve, invoke, builtin, hd, hs, hrun, Result.andThen]
    exact h w (show Whole _ _ _ _ by simpa [splice] using hg) (Only.refl _ _)
  · obtain ⟨rfl, ad, rfl, hsrc⟩ := hpos (by omega)
    have hrun := run_copy_row (P := P) w dT sT o.type elem g off dLen dCap ad sLen sCap cur.toArray t cs hu hsz hg hn hsrc (by simpa using hfit) h1
    unfold Oper.wp
    simp [execOp, ho, resolve, invoke, builtin, hd, hs, hrun, Result.andThen]
    exact h _ (show _ = _ by simpa [splice] using setRow_heap w g _ _ t _ hg) (only_setRow _ _ _)
/-- A copy over a segment. -/
theorem splice_cat {l : List (List Value)} {i : Nat} {s : List Value} (hs : l[i]? = some s) {v : List Value} (hv : v.length = s.length) {p : Nat} (hp : p = offOf l i) : splice (cat l) p v = cat (l.set i v) := by
  subst hp
  have hle := off_le hs
  rw [← lay_eq _ _ _ (by omega), lay_cat hs hv]
theorem splice_nothing (L : List Value) (p : Nat) : splice L p [] = L := by simp [splice]
end Go.Proofs.YtikiciojfhfagaaGreat
namespace Go.Proofs.YtikiciojfhfagaaGreat
open Go.RowKit Go.Mun

set_option maxRecDepth 100000 in
set_option maxHeartbeats 1000000 in
theorem ref_Read (hp : ∀ d, PartOk d) (a : Option Addr) (c : Nat) (L : Bts) (w : World) (hI : Ints w .u8 a c L) (hby : Byt L) (hlen : L.length ≤ 16777216) :
    Calls Tryz.prog 57 #[.slice a L.length c] w fun e w' => TopIs w w' (rdAll L) e := by
  have hok : okL 3 itemZ = true := itemZ_ok
  obtain ⟨w0, e0⟩ : ∃ w0, w0 = w.alloc (.cells itemZ.toArray 65) := ⟨_, rfl⟩
  have hb0 : Below w.heap.size w w0 := by rw [e0]; exact (Below.refl _ _).alloc (Nat.le_refl _) _
  have hf0 : w0.free? w.heap.size 0 3 = true := by rw [e0]; exact itemZ_row w
  have HRD := Lib.hid ((hp 32) a c L w0 (hI.below hb0) hby hlen (Nat.le_refl _))
  have HE := Lib.hid e0
  have HB := Lib.hid hb0
  have HF := Lib.hid hf0
  have dl : decide ((16777216 : Int) < L.length) = false := decide_eq_false (by omega)
  have HRA : Hid (rdAll L = match rdT 32 L with | .err e => .err e | .ok t n => if n = L.length then .ok t n else .err 4) := rfl
  have HRB := Lib.hid (rdT_reads 32 L)
  have HER := Lib.hid (rdT_errs 32 L)
  clear hI hby hlen e0 hb0 hf0 hp
  go_enter Tryz.func57, Tryz.ntmps57
  go_wp2_with fail
  rw [← HE.out]
  refine HRD.out.mono ?_
  rintro e w1 ⟨hb1, hr⟩
  have f1 : w1.free? w.heap.size 0 3 = true := by rw [(brow hb1).2 _ _ _ (free?_lt HF.out)]; exact HF.out
  have f4 : (w1.alloc (.cells itemZ.toArray 65)).free? w1.heap.size 0 3 = true := itemZ_row w1
  have HB1 := Lib.hid (HB.out.trans (hb1.mono HB.out.size))
  have hsz0 : w.heap.size < w0.heap.size := free?_lt HF.out
  have HSZ := Lib.hid hsz0
  have HSZ1 := Lib.hid hb1.size
  cases er : rdT 32 L with
  | err x =>
    rw [er] at hr
    simp only at hr
    subst hr
    have hx := HER.out x er
    have dx : ((x : Int) == 0) = false := by simpa using hx
    have hR : rdAll L = .err x := by rw [HRA.out, er]
    have HR := Lib.hid hR
    have f5 : ((w1.alloc (.cells itemZ.toArray 65)).setCells w1.heap.size 0 itemZ).free? w.heap.size 0 3 = true := by
      rw [World.free?_setCells', World.free?_alloc_lt _ (free?_lt f1)]; exact f1
    clear hb1 er hR hx
    go_wp2
    refine ret_row2 ty61 rfl _ _ rfl rfl rfl (row?_setCells_whole _ f5 hok) (topIs_err HR.out (((HB1.out.alloc HB1.out.size _).setCells HB1.out.size _ _).setCells (Nat.le_refl _) _ _))
  | ok t n =>
    rw [er] at hr
    obtain ⟨cs, rfl, htop⟩ := hr
    obtain ⟨hcl, hcok⟩ := htop.lenok
    have f5 : ((w1.alloc (.cells itemZ.toArray 65)).setCells w1.heap.size 0 cs).free? w.heap.size 0 3 = true := by
      rw [World.free?_setCells', World.free?_alloc_lt _ (free?_lt f1)]; exact f1
    by_cases hn : n = L.length
    · have hR : rdAll L = .ok t n := by rw [HRA.out, er]; exact if_pos hn
      have HR := Lib.hid hR
      have dn : ((n : Int) == (L.length : Int)) = true := by simp [hn]
      have hz := (Arr.new w1 3 itemZ 65 rfl).setCells cs hcok
      have rz := hz.row
      have HT := Lib.hid htop
      clear hb1 er hR hn htop hz
      go_wp2
      have hO : Only (fun b => b = w.heap.size) w1 (((w1.alloc (.cells itemZ.toArray 65)).setCells w1.heap.size 0 cs).setCells w.heap.size 0 cs) := ((((Only.refl (fun b => b = w.heap.size) w1).alloc _).setCells (fun hh => absurd hh (Nat.lt_irrefl _)) _ _).setCells (fun _ => rfl) _ _)
      refine ret_row2 ty61 rfl _ _ rfl rfl rfl (row?_setCells_whole _ f5 hcok) (topIs_ok HR.out (((HB1.out.alloc HB1.out.size _).setCells HB1.out.size _ _).setCells (Nat.le_refl _) _ _) (HT.out.only hO (fun b _ hb => by have := HSZ.out; omega) (fun b _ hb => by have := HSZ.out; omega)))
    · have hR : rdAll L = .err 4 := by rw [HRA.out, er]; exact if_neg hn
      have HR := Lib.hid hR
      have dn : ((n : Int) == (L.length : Int)) = false := by simp; omega
      clear hb1 er hR hn htop
      go_wp2
      refine ret_row2 ty61 rfl _ _ rfl rfl rfl (row?_setCells_whole _ f5 hok) (topIs_err (x := 4) HR.out (((HB1.out.alloc HB1.out.size _).setCells HB1.out.size _ _).setCells (Nat.le_refl _) _ _))
end Go.Proofs.YtikiciojfhfagaaGreat
namespace Go.Proofs.YtikiciojfhfagaaGreat
open Go.RowKit Go.Mun

def RefOfOk : Prop := ∀ (R : Nat → Prop) (cs : List Value) (t : Top) (w : World), TopAt w R cs t → (∀ ks l, t = .list ks → some l ∈ ks → l.length ≤ 70000000000000) →
  Calls Tryz.prog 58 #[.agg cs.toArray] w fun e w' => OfIs w w' (ofK t) e
set_option maxRecDepth 100000 in
set_option maxHeartbeats 2000000 in
theorem ref_ReadTx (hp : ∀ d, PartOk d) (hofr : RefOfOk) (a : Option Addr) (c : Nat) (L : Bts) (w : World) (hI : Ints w .u8 a c L) (hby : Byt L) (hlen : L.length ≤ 16777216) :
    Calls Tryz.prog 24 #[.slice a L.length c] w fun e w' => ReadTxIs w w' (readK L) e := by
  have hokz := okL_zs44
  obtain ⟨w0, e0⟩ : ∃ w0, w0 = w.alloc (.cells (cat zsN44).toArray 44) := ⟨_, rfl⟩
  have hb0 : Below w.heap.size w w0 := by rw [e0]; exact (Below.refl _ _).alloc (Nat.le_refl _) _
  have hf0 : w0.free? w.heap.size 0 77 = true := by rw [e0]; exact World.free?_alloc_at _ _ rfl (by simp [zsN44_len])
  have HRD := Lib.hid (ref_Read hp a c L w0 (hI.below hb0) hby hlen)
  have HE := Lib.hid e0
  have HB := Lib.hid hb0
  have HF := Lib.hid hf0
  have HLN := Lib.hid hlen
  have HRK : Hid (readK L = match rdAll L with | .err x => .inl x | .ok t _ => match ofK t with | none => .inl 4 | some t => .inr t) := rfl
  have HOFR := Lib.hid hofr
  clear hI hby hlen e0 hb0 hf0 hp hofr
  go_enter Tryz.func24, Tryz.ntmps24
  go_wp2_with fail
  rw [← HE.out]
  refine HRD.out.mono ?_
  rintro e w1 ⟨hb1, hr1⟩
  have hf1 : w1.free? w.heap.size 0 77 = true := by rw [(brow hb1).2 _ _ _ (free?_lt HF.out)]; exact HF.out
  have hB1 := HB.out.trans (hb1.mono HB.out.size)
  cases er : rdAll L with
  | err x =>
    rw [er] at hr1
    simp only at hr1
    subst hr1
    have hx := rdAll_errs er
    have dx : ((x : Int) == 0) = false := by simpa using hx
    have dx2 : ((x : Int) != 0) = true := by simpa using hx
    have HK : Hid (readK L = .inl x) := by show _ = _; rw [HRK.out, er]
    have hf2 : ((w1.alloc (.cells itemZ.toArray 65)).setCells w1.heap.size 0 itemZ).free? w.heap.size 0 77 = true := by
      rw [World.free?_setCells', World.free?_alloc_lt _ (free?_lt hf1)]; exact hf1
    have f4 : (w1.alloc (.cells itemZ.toArray 65)).free? w1.heap.size 0 3 = true := itemZ_row w1
    have HB1 := Lib.hid ((hB1.alloc hB1.size (.cells itemZ.toArray 65)).setCells (b := w1.heap.size) hB1.size 0 itemZ)
    have hoki : okL 3 itemZ = true := itemZ_ok
    clear er hx hb1 hB1
    go_wp2
    exact ret_row2 tyN44 rfl _ _ rfl rfl rfl (row?_setCells_whole _ hf2 hokz) (readTx_err HK.out (HB1.out.setCells (Nat.le_refl _) _ _))
  | ok t n =>
    rw [er] at hr1
    obtain ⟨cs, rfl, htop⟩ := hr1
    obtain ⟨hcl, hcok⟩ := htop.lenok
    obtain ⟨W1, eW1⟩ : ∃ W1, W1 = (w1.alloc (.cells itemZ.toArray 65)).setCells w1.heap.size 0 cs := ⟨_, rfl⟩
    have o1 : Only (fun _ => False) w1 W1 := by rw [eW1]; exact ((Only.refl (fun _ => False) w1).alloc _).setCells (fun hh => absurd hh (Nat.lt_irrefl _)) _ _
    have hB2 : Below w.heap.size w W1 := by rw [eW1]; exact (hB1.alloc hB1.size _).setCells hB1.size _ _
    have hA4 : Arr W1 w1.heap.size 3 cs := by rw [eW1]; exact (Arr.new w1 3 itemZ 65 rfl).setCells cs hcok
    have f4 : (w1.alloc (.cells itemZ.toArray 65)).free? w1.heap.size 0 3 = true := itemZ_row w1
    have hf2 : W1.free? w.heap.size 0 77 = true := by rw [o1.free? (free?_lt hf1) (fun h => h)]; exact hf1
    have r4 := hA4.row
    have HCO := Lib.hid (HOFR.out _ _ _ _ (htop.only (R' := fun _ => True) o1 (fun _ _ _ h => h) (fun _ _ _ => trivial)) (fun ks l hk hl => by subst hk; have := rdAll_kids er hl; have := HLN.out; omega))
    have HK0 : Hid (readK L = match ofK t with | none => .inl 4 | some t => .inr t) := by show _ = _; rw [HRK.out, er]
    have HW := Lib.hid eW1
    have HB2 := Lib.hid hB2
    have HF2 := Lib.hid hf2
    rw [eW1] at r4
    clear er htop o1 hB2 hA4 hf2 eW1 hb1 hB1 hf1
    go_wp2_with fail
    rw [← HW.out]
    refine HCO.out.mono ?_
    rintro e w2 ⟨hb2, hr2⟩
    have hf3 : w2.free? w.heap.size 0 77 = true := by rw [(brow hb2).2 _ _ _ (free?_lt HF2.out)]; exact HF2.out
    have HB3 := Lib.hid (HB2.out.trans (hb2.mono HB2.out.size))
    have f6 : (w2.alloc (.cells (cat zsN44).toArray 44)).free? w2.heap.size 0 77 = true := World.free?_alloc_at _ _ rfl (by simp [zsN44_len])
    have HLT := Lib.hid (free?_lt hf3)
    cases eo : ofK t with
    | none =>
      rw [eo] at hr2
      simp only at hr2
      subst hr2
      have HK : Hid (readK L = .inl 4) := by show _ = _; rw [HK0.out, eo]
      have hf4 : ((w2.alloc (.cells (cat zsN44).toArray 44)).setCells w2.heap.size 0 (cat zsN44)).free? w.heap.size 0 77 = true := by
        rw [World.free?_setCells', World.free?_alloc_lt _ (free?_lt hf3)]; exact hf3
      have HB4 := Lib.hid ((HB3.out.alloc HB3.out.size (.cells (cat zsN44).toArray 44)).setCells (b := w2.heap.size) HB3.out.size 0 (cat zsN44))
      clear eo hb2 hf3 r4
      go_wp2
      exact ret_row2 tyN44 rfl _ _ rfl rfl rfl (row?_setCells_whole _ hf4 hokz) (readTx_err (x := 4) HK.out (HB4.out.setCells (Nat.le_refl _) _ _))
    | some t2 =>
      rw [eo] at hr2
      obtain ⟨dv, rfl, hnb, hbyd⟩ := hr2
      have HK : Hid (readK L = .inr t2) := by show _ = _; rw [HK0.out, eo]
      obtain ⟨⟨da, dc, rfl, hdi, hdf⟩, _⟩ := hnb
      have hokr := txS_ok t2 da t2.data.length dc
      have hlr := txS_len t2 (.slice da t2.data.length dc)
      obtain ⟨W2, eW2⟩ : ∃ W2, W2 = (w2.alloc (.cells (cat zsN44).toArray 44)).setCells w2.heap.size 0 (cat (txS t2 (.slice da t2.data.length dc))) := ⟨_, rfl⟩
      have hb5 : Below w2.heap.size w2 W2 := by rw [eW2]; exact ((Below.refl _ _).alloc (Nat.le_refl _) _).setCells (Nat.le_refl _) _ _
      have hA6 : Arr W2 w2.heap.size 77 (cat (txS t2 (.slice da t2.data.length dc))) := by rw [eW2]; exact (Arr.new w2 77 (cat zsN44) 44 zsN44_len).setCells _ hokr
      have r6 := hA6.row
      have hf4 : W2.free? w.heap.size 0 77 = true := by rw [(brow hb5).2 _ _ _ (free?_lt hf3)]; exact hf3
      have HD := Lib.hid (hdi.below hb5)
      have HDF := Lib.hid hdf
      have HBY := Lib.hid hbyd
      have HB5 := Lib.hid (HB3.out.trans (hb5.mono HB3.out.size))
      have HW2 := Lib.hid eW2
      have HF4 := Lib.hid hf4
      have HS1 := Lib.hid HB2.out.size
      have HL2 := Lib.hid (free?_lt HF2.out)
      rw [eW2] at r6 hf4
      clear eo hb2 hf3 r4 hdi hdf hbyd hb5 hA6 eW2
      go_wp2
      rw [← HW2.out]
      have ho : Only (· = w.heap.size) W2 (W2.setCells w.heap.size 0 (cat (txS t2 (.slice da t2.data.length dc)))) := (Only.refl (· = w.heap.size) _).setCells (fun _ => rfl) _ _
      exact ret_row2 tyN44 rfl _ _ rfl rfl rfl (row?_setCells_whole _ HF4.out hokr) (readTx_ok HK.out ⟨⟨da, dc, rfl, ints_only HD.out ho (fun q _ hq hx => by have h1 := HDF.out q hq; have h2 := HL2.out; have : q.block = w.heap.size := hx; omega), fun q hq => by have h1 := HDF.out q hq; have h2 := HL2.out; omega⟩, HB5.out.setCells (Nat.le_refl _) _ _⟩ HBY.out)
end Go.Proofs.YtikiciojfhfagaaGreat
namespace Go.Proofs.YtikiciojfhfagaaGreat
open Go.RowKit Go.Mun

theorem i64_or_byte55 (n x : Nat) (hn : n < 36028797018963968) (hx : x < 256) : bits .or .i64 ((n : Int) * 256) (x : Int) = ((n * 256 + x : Nat) : Int) := by
  have := i64_or_nat (n * 256) x (by omega) (by omega)
  rw [or_byte n x hx] at this
  rw [← this]
  congr 1
/-- A word's number, when it fits. -/
def fitK (k : Nat) : Option Nat := if k < 9223372036854775808 then some k else none
theorem div_step (k e : Nat) : k / 256 ^ (e + 1) * 256 + k / 256 ^ e % 256 = k / 256 ^ e := by
  have : k / 256 ^ (e + 1) = k / 256 ^ e / 256 := by rw [Nat.pow_succ, Nat.div_div_eq_div_mul]
  rw [this]; omega
set_option maxRecDepth 100000 in
set_option maxHeartbeats 2000000 in
theorem ref_Int (k : Nat) (hk : k < 256 ^ 32) (w : World) :
    Calls Tryz.prog 174 #[.agg (beC 32 k).toArray] w fun e w' => e = .returned (.tuple #[.int .i64 (((fitK k).getD 0 : Nat) : Int), .bool (fitK k).isSome]) ∧ Below w.heap.size w w' := by
  obtain ⟨w0, e0⟩ : ∃ w0, w0 = w.alloc (.cells (beC 32 k).toArray 25) := ⟨_, rfl⟩
  have hb0 : Below w.heap.size w w0 := by rw [e0]; exact (Below.refl _ _).alloc (Nat.le_refl _) _
  have hr : w0.row? w.heap.size 0 32 = some (beC 32 k) := by rw [e0]; exact World.row?_alloc_at _ _ _ rfl (beC_len 32 k)
  have hc : ∀ i, i < 32 → w0.cell? ⟨w.heap.size, i, none⟩ = some (.int .u8 ((k / 256 ^ (31 - i) % 256 : Nat) : Int)) := fun i hi => by
    have := World.row?_cell hr hi
    rw [Nat.zero_add, be_at k i hi] at this
    exact this
  have HC := Lib.hid hc
  have HB := Lib.hid hb0
  have HE := Lib.hid e0
  have HN : Hid (∀ i, i < 24 → k / 256 ^ (31 - i) % 256 ≠ 0 → fitK k = none) := fun i hi h => by
    unfold fitK
    rw [if_neg]
    intro hlt
    have h1 : 256 ^ 8 ≤ 256 ^ (31 - i) := Nat.pow_le_pow_right (by decide) (by omega)
    have h2 : (256 : Nat) ^ 8 = 18446744073709551616 := by decide
    have : k / 256 ^ (31 - i) = 0 := Nat.div_eq_of_lt (by omega)
    rw [this] at h; exact h rfl
  have HS : Hid (∀ i, i < 24 → k < 256 ^ (32 - i) → k / 256 ^ (31 - i) % 256 = 0 → k < 256 ^ (32 - (i + 1))) := fun i hi h h0 => by
    have e1 : 32 - i = (31 - i) + 1 := by omega
    rw [e1, Nat.pow_succ] at h
    have h2 : k / 256 ^ (31 - i) < 256 := Nat.div_lt_of_lt_mul (by omega)
    rw [Nat.mod_eq_of_lt h2] at h0
    have h3 : 0 < 256 ^ (31 - i) := Nat.pow_pos (by decide)
    have h4 : k < 256 ^ (31 - i) := by
      rcases Nat.lt_or_ge k (256 ^ (31 - i)) with h5 | h5
      · exact h5
      · have := Nat.div_pos h5 h3; omega
    have e2 : 32 - (i + 1) = 31 - i := by omega
    rw [e2]; exact h4
  have HK : Hid (k < 256 ^ (32 - 0)) := hk
  clear hr hc hb0 e0 hk
  go_enter Tryz.func174, Tryz.ntmps174
  go_wp2
  rw [← HE.out]
  go_loopw [4] (fun i wr => ∃ q : Nat, q ≤ 24 ∧ i = .int .i64 q ∧ wr = w0 ∧ k < 256 ^ (32 - q)) (fun i _ => 24 - (intOf i).toNat)
  case atStart => exact ⟨0, by omega, rfl, rfl, HK.out⟩
  case round =>
    obtain ⟨q, hq, rfl, rfl, hkq⟩ := hrel
    have HKQ := Lib.hid hkq
    clear hkq
    by_cases hlt : q < 24
    · have ck := HC.out q (by omega)
      have HN2 := Lib.hid (HN.out q hlt)
      have HS2 := Lib.hid (HS.out q hlt HKQ.out)
      generalize k / 256 ^ (31 - q) % 256 = x at *
      by_cases hx : x = 0
      · have dx : ((x : Int) != 0) = false := by simp [hx]
        have HR := Lib.hid (HS2.out hx)
        clear hx
        go_wp2
        go_roundw
        case rel => exact ⟨q + 1, by omega, by go_num, by first | trivial | rfl, HR.out⟩
        case measure => simp [intOf]; omega
      · have dx : ((x : Int) != 0) = true := by simpa using hx
        have HR := Lib.hid (HN2.out hx)
        clear hx
        go_wp2
        go_ret2
        rw [HR.out]
        exact ⟨rfl, HB.out⟩
    · have hq24 : q = 24 := by omega
      subst hq24
      have ck := HC.out 24 (by omega)
      have HF : Hid ((128 ≤ k / 256 ^ (31 - 24) % 256 → fitK k = none) ∧ (¬ 128 ≤ k / 256 ^ (31 - 24) % 256 → fitK k = some k ∧ k < 9223372036854775808)) := by
        have h1 := HKQ.out
        have h2 : (256 : Nat) ^ (32 - 24) = 18446744073709551616 := by decide
        have h3 : (256 : Nat) ^ (31 - 24) = 72057594037927936 := by decide
        rw [h2] at h1
        constructor
        · intro h; rw [h3] at h; exact if_neg (by omega)
        · intro h; rw [h3] at h; exact ⟨if_pos (by omega), by omega⟩
      generalize k / 256 ^ (31 - 24) % 256 = y at *
      by_cases hy : 128 ≤ y
      · have dy : decide ((128 : Int) ≤ y) = true := decide_eq_true (by omega)
        have HR := Lib.hid (HF.out.1 hy)
        clear hy
        go_wp2
        go_ret2
        rw [HR.out]
        exact ⟨rfl, HB.out⟩
      · have dy : decide ((128 : Int) ≤ y) = false := decide_eq_false (by omega)
        have HR := Lib.hid (HF.out.2 hy)
        clear hy
        go_wp2
        go_loopw [5, 6] (fun v i W2 => ∃ q : Nat, 24 ≤ q ∧ q ≤ 32 ∧ i = .int .i64 q ∧ v = .int .i64 ((k / 256 ^ (32 - q) : Nat) : Int) ∧ W2 = wr) (fun _ i _ => 32 - (intOf i).toNat)
        case atStart =>
          have h0 : k / 256 ^ (32 - 24) = 0 := Nat.div_eq_of_lt (by have := HR.out.2; have h2 : (256 : Nat) ^ (32 - 24) = 18446744073709551616 := by decide
                                                                    omega)
          exact ⟨24, by omega, by omega, rfl, by rw [h0]; rfl, rfl⟩
        case round =>
          obtain ⟨q, hq1, hq, rfl, rfl, rfl⟩ := hrel
          by_cases hlt : q < 32
          · have ck := HC.out q hlt
            have hst := div_step k (31 - q)
            have e1 : 31 - q + 1 = 32 - q := by omega
            rw [e1] at hst
            have hB : k / 256 ^ (32 - q) < 36028797018963968 := by
              have h1 : 256 ^ 1 ≤ 256 ^ (32 - q) := Nat.pow_le_pow_right (by decide) (by omega)
              have h2 : k / 256 ^ (32 - q) ≤ k / 256 := Nat.div_le_div_left (by simpa using h1) (by decide)
              have := HR.out.2
              omega
            have hx : k / 256 ^ (31 - q) % 256 < 256 := Nat.mod_lt _ (by decide)
            have e2 : 32 - (q + 1) = 31 - q := by omega
            generalize k / 256 ^ (32 - q) = B at *
            generalize k / 256 ^ (31 - q) % 256 = x at *
            have hor := i64_or_byte55 B x hB hx
            have hw : IntKind.i64.wrap ((B : Int) * 256) = (B : Int) * 256 := wrI _ (by omega) (by omega)
            have hxw : IntKind.i64.wrap (x : Int) = x := wrI _ (by omega) (by omega)
            rw [hst] at hor
            have HOR := Lib.hid e2
            clear hst hB hx e1 e2
            go_wp2
            go_roundw
            case rel => exact ⟨q + 1, by omega, by omega, by go_num, by rw [HOR.out]; simp, by first | trivial | rfl⟩
            case measure => simp [intOf]; omega
          · have hq32 : q = 32 := by omega
            subst hq32
            have hk1 : k / 256 ^ (32 - 32) = k := by simp
            rw [hk1]
            go_wp2
            go_ret2
            rw [HR.out.1]
            exact ⟨rfl, HB.out⟩
end Go.Proofs.YtikiciojfhfagaaGreat
