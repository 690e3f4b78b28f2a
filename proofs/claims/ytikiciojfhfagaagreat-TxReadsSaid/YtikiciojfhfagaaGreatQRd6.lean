/-
  Reading items: lists that are too deep; errors; rules for rows of items.
  Reading items: lists; the program's reader.
  Reading items: the program's Read.
  Items as numbers: what the program reads of one.
-/
import Derived.Test.YtikiciojfhfagaaGreatQRd1
import Derived.Test.YtikiciojfhfagaaGreatQEv1
set_option linter.unusedVariables false
set_option linter.unusedSimpArgs false
namespace Go.Mun
open Go.RowKit
def Errs (g : Bts → RdR) : Prop := ∀ x e, g x = .err e → e ≠ 0
theorem rds_errs {g : Bts → RdR} (hg : Reads g) (he : Errs g) : ∀ (n : Nat) (x : Bts), x.length ≤ n → ∀ e, rds g x = .inl e → e ≠ 0
  | n, x, hn, e, h => by
    by_cases hx : x = []
    · subst hx; rw [rds_nil] at h; cases h
    · cases eg : g x with
      | err y => rw [rds_err hx eg] at h; cases h; exact he _ _ eg
      | ok t k =>
        rw [rds_ok hg hx eg] at h
        have hk := hg x t k eg
        cases n with
        | zero => have := List.length_pos_iff.2 hx; omega
        | succ n =>
          cases er : rds g (x.drop k) with
          | inl e' => rw [er] at h; cases h; exact rds_errs hg he n _ (by rw [List.length_drop]; omega) _ er
          | inr l => rw [er] at h; cases h
theorem rd1_errs {lst : Bts → RdR} (h : Errs lst) : Errs (rd1 lst) := by
  intro x e hx
  unfold rd1 at hx
  split at hx
  · cases hx; decide
  · split at hx
    · cases hx
    · split at hx
      · unfold rdB at hx
        split at hx
        · cases hx; decide
        · split at hx
          · cases hx; decide
          · cases hx
      · exact h x e hx
theorem rdL_errs {g : Bts → RdR} (hg : Reads g) (he : Errs g) : Errs (rdL g) := by
  intro x e hx
  rw [rdL_eq] at hx
  split at hx
  · cases hx; decide
  · split at hx
    · rename_i er
      cases hx
      exact rds_errs hg he _ _ (Nat.le_refl _) _ er
    · cases hx
theorem rdT_errs : ∀ d, Errs (rdT d)
  | 0 => rd1_errs (fun x e h => by cases h; decide)
  | d + 1 => rd1_errs (rdL_errs (rdT_reads d) (rdT_errs d))
end Go.Mun
namespace Go.Proofs.YtikiciojfhfagaaGreat
open Go.RowKit Go.Mun

set_option maxRecDepth 100000 in
theorem read_deep (a : Option Addr) (c : Nat) (L : Bts) (w : World) (hI : Ints w .u8 a c L) (hne : L ≠ []) (h2 : ¬ L[0]?.getD 0 < 192) :
    Calls Tryz.prog 82 #[.slice a L.length c, .int .i64 32] w fun e w' => ReadIs w w' (rdT 0 L) e := by
  have hok : okL 3 itemZ = true := itemZ_ok
  have hl : 0 < L.length := List.length_pos_iff.2 hne
  have HRD := Lib.hid (rdT_deep hne h2)
  obtain ⟨b, off, rfl, hbl, hc⟩ := hI.at hl
  have c0 : (w.alloc (.cells itemZ.toArray 65)).cell? ⟨b, off, none⟩ = some (.int .u8 (L[0]?.getD 0)) := by
    have h0 := hc 0 hl
    rw [Nat.add_zero] at h0
    rw [((Below.refl w.heap.size w).alloc (Nat.le_refl _) (.cells itemZ.toArray 65)).cell hbl]; exact h0
  have hf := itemZ_row w
  generalize L[0]?.getD 0 = x at *
  have hll : (L.length == 0) = false := by simp; omega
  have d1 : decide (x < 128) = false := decide_eq_false (by omega)
  have d2 : decide (x < 192) = false := decide_eq_false h2
  clear hI hne hc h2
  go_enter Tryz.func82, Tryz.ntmps82
  go_wp2
  refine ret_row3 ty61 rfl _ _ _ rfl rfl rfl rfl (row?_setCells_whole _ hf hok) (readIs_err (x := 3) HRD.out (((Below.refl _ _).alloc (Nat.le_refl _) _).setCells (Nat.le_refl _) _ _))
set_option maxRecDepth 1000000 in
theorem slI1 : SliceLit Tryz.prog 63 65 3 1 itemZ := ⟨Tryz.underlying63, ⟨_, .agg itemZ.toArray, rfl, by kernel_rfl, by kernel_rfl, by kernel_rfl⟩, by decide, by kernel_rfl, by decide⟩
def fillI (p : List (Nat × Value)) : Option (List Value) := fillL (1 * 3) ((List.range 1).map fun i => (i * 3, 3)) itemZ p
theorem bsI1 (ρ : Operand → Value) (dst : Option Tmp) (x : Operand) (t : TypeId) (pos : String) (after : Array Edge) (gd : Option (Nat × Bool)) (w : World) :
    (execOp ρ ⟨dst, .buildSlice 63 1 #[(0, x)], t, pos, after, gd⟩).run Tryz.prog w = asNext (bsRow Tryz.prog 63 65 1 [(0, ρ x)] w (fillI [(0, ρ x)])) :=
  ex_bslice ρ dst t pos after gd w slI1 [(0, x)]
@[go_sem] theorem fillI_one (c : List Value) (h : c.length = 3) : fillI [(0, .agg c.toArray)] = some c := by
  unfold fillI
  match c, h with
  | [x, y, z], _ => rfl
theorem s1I (ρ : Operand → Value) (dst : Option Tmp) (x y : Operand) (t : TypeId) (pos : String) (after : Array Edge) (gd : Option (Nat × Bool)) (w : World) : (execOp ρ ⟨dst, .store 63 x y, t, pos, after, gd⟩).run Tryz.prog w = asSkip (stOne Tryz.prog 63 (ρ x) (ρ y) w) := ex_store1 ρ dst x y t pos after gd w (by kernel_rfl)
attribute [go_sem ↓] bsI1 s1I
def slLen : Value → Nat
  | .slice _ n _ => n
  | _ => 0
/-- A list's items on their way. -/
structure RdLp (w : World) (q : Nat) (g : Bts → RdR) (x : Bts) (v : Value) (wr : World) (done : List (Option Bts)) (rest : Bts) : Prop where
  below : Below w.heap.size w wr
  res : wr.free? w.heap.size 0 3 = true
  val : ∃ a c, v = .slice a rest.length c ∧ Ints w .u8 a c rest ∧ ∃ p, a = some p
  byt : Byt rest
  eq : rds g x = match rds g rest with | .inl e => .inl e | .inr l => .inr (done ++ l)
  item : ∃ sv css, Arr wr q 3 [.bool true, .slice none 0 0, sv] ∧ wr.ownsRow 0 65 3 sv done.length css.flatten ∧ (∀ g, sv.ownBlock = some g → q < g) ∧ KidsAt wr (fun b => q < b ∧ sv.ownBlock ≠ some b) css done
  cnt : done.length + rest.length ≤ 16777216
end Go.Proofs.YtikiciojfhfagaaGreat
namespace Go.Proofs.YtikiciojfhfagaaGreat
open Go.RowKit Go.Mun

set_option maxRecDepth 100000 in
set_option maxHeartbeats 4000000 in
theorem read_list (d : Nat) (ih : ReadOk d) (hd : d + 1 ≤ 32) (a : Option Addr) (c : Nat) (L : Bts) (w : World) (hI : Ints w .u8 a c L) (hby : Byt L) (hlen : L.length ≤ 16777216) (hne : L ≠ []) (h2 : ¬ L[0]?.getD 0 < 192) :
    Calls Tryz.prog 82 #[.slice a L.length c, .int .i64 (32 - ((d + 1 : Nat) : Int))] w fun e w' => ReadIs w w' (rdT (d + 1) L) e := by
  obtain ⟨z, hz⟩ : ∃ z : Int, z = 32 - ((d + 1 : Nat) : Int) := ⟨_, rfl⟩
  rw [← hz]
  have dz : (z == 32) = false := by simp; omega
  obtain ⟨y, hy⟩ : ∃ y : Int, y = 32 - (d : Int) := ⟨_, rfl⟩
  have hw : IntKind.i64.wrap (z + 1) = y := by rw [wrI _ (by omega) (by omega)]; omega
  have IH := Lib.hid (fun a c L w h1 h2 h3 => ih a c L w h1 h2 h3 (by omega))
  rw [← hy] at IH
  have hok : okL 3 itemZ = true := itemZ_ok
  have hl : 0 < L.length := List.length_pos_iff.2 hne
  have HRD := Lib.hid (rdT_list (d := d) hne h2)
  obtain ⟨w0, e0⟩ : ∃ w0, w0 = w.alloc (.cells itemZ.toArray 65) := ⟨_, rfl⟩
  have hb0 : Below w.heap.size w w0 := by rw [e0]; exact (Below.refl _ _).alloc (Nat.le_refl _) _
  have hf0 : w0.free? w.heap.size 0 3 = true := by rw [e0]; exact itemZ_row w
  have hI0 := hI.below hb0
  obtain ⟨b, off, rfl, hbl, hc⟩ := hI0.at hl
  have hx256 : L[0]?.getD 0 < 256 := by rw [List.getElem?_eq_getElem hl]; exact (hby _ (List.getElem_mem _)).2
  have HLEN := Lib.hid (rlp_length 192 (Or.inr rfl) _ c L w0 hI0 hby hl hlen ⟨by show (192 : Int) ≤ _; omega, by show _ < (192 : Int) + 64; omega⟩)
  have c0 := hc 0 hl
  rw [Nat.add_zero] at c0
  have HE := Lib.hid e0
  have HB := Lib.hid hb0
  have HI := Lib.hid hI
  have HF := Lib.hid hf0
  have HBY := Lib.hid hby
  have HLN := Lib.hid hlen
  generalize hx : L[0]?.getD 0 = x at *
  have hll : (L.length == 0) = false := by simp; omega
  have d1 : decide (x < 128) = false := decide_eq_false (by omega)
  have d2 : decide (x < 192) = false := decide_eq_false h2
  rw [e0] at c0 hf0
  clear hI hby hne hc hx hb0 hI0 e0 hlen h2 hz hy ih hx256 hd
  go_enter Tryz.func82, Tryz.ntmps82
  go_wp2_with fail
  rw [← HE.out]
  refine HLEN.out.mono ?_
  rintro e w1 ⟨hL, rfl⟩
  rw [HE.out]
  unfold LenIs at hL
  have hRD := HRD.out
  rw [rdL_eq] at hRD
  cases eH : hdR L with
  | none =>
    rw [eH] at hL hRD
    obtain ⟨y1, y2, rfl⟩ := hL
    have HR := Lib.hid hRD
    clear hRD c0
    go_wp2
    refine ret_row3 ty61 rfl _ _ _ rfl rfl rfl rfl (row?_setCells_whole _ hf0 hok) (readIs_err (x := 4) HR.out (((Below.refl _ _).alloc (Nat.le_refl _) _).setCells (Nat.le_refl _) _ _))
  | some p =>
    obtain ⟨h, n⟩ := p
    have hle := hdR_le eH
    rw [eH] at hL hRD
    simp only at hL hRD
    subst hL
    have hwn : IntKind.i64.wrap ((h : Int) + n) = (h : Int) + n := wrI _ (by have := HLN.out; omega) (by have := HLN.out; omega)
    obtain ⟨o', c', hsl, hI2⟩ := slice_part HI.out h n hle.2
    rw [show ((h + n : Nat) : Int) = (h : Int) + n by omega] at hsl
    have hpl : ((L.drop h).take n).length = n := by rw [List.length_take, List.length_drop]; omega
    have hbx : Byt ((L.drop h).take n) := fun z hz => HBY.out z (List.mem_of_mem_drop (List.mem_of_mem_take hz))
    generalize hX : (L.drop h).take n = X at *
    have HR := Lib.hid hRD
    have HPL := Lib.hid hpl
    have HI2 := Lib.hid hI2
    have HNL : Hid (n ≤ 16777216) := by show n ≤ _; have := HLN.out; omega
    have HBX := Lib.hid hbx
    have e13 : lay itemZ 0 [Value.bool true] = [.bool true, .slice none 0 0, .slice none 0 0] := rfl
    have f13 : ((w.alloc (.cells itemZ.toArray 65)).alloc (.cells itemZ.toArray 65)).free? (w.heap.size + 1) 0 3 = true := World.free?_alloc_at _ _ (by simp) (Nat.le_refl _)
    have hok13 : okL 3 [.bool true, .slice none 0 0, .slice none 0 0] = true := rfl
    obtain ⟨w2, e2⟩ : ∃ w2, w2 = ((w.alloc (.cells itemZ.toArray 65)).alloc (.cells itemZ.toArray 65)).setCells (w.heap.size + 1) 0 [.bool true, .slice none 0 0, .slice none 0 0] := ⟨_, rfl⟩
    have hb2 : Below w.heap.size w w2 := by rw [e2]; exact (((Below.refl _ _).alloc (Nat.le_refl _) _).alloc (by simp) _).setCells (by omega) _ _
    have hA2 : Arr w2 (w.heap.size + 1) 3 [.bool true, .slice none 0 0, .slice none 0 0] := by
      rw [e2]
      have := (Arr.new (w.alloc (.cells itemZ.toArray 65)) 3 itemZ 65 rfl).setCells [.bool true, .slice none 0 0, .slice none 0 0] hok13
      simpa using this
    have hr2 : w2.free? w.heap.size 0 3 = true := by
      rw [e2, World.free?_setCells', World.free?_alloc_lt _ (by simp)]; exact itemZ_row w
    have H0 : Hid (RdLp w (w.heap.size + 1) (rdT d) X (.slice (some ⟨b, o', none⟩) n c') w2 [] X) := ⟨hb2, hr2, ⟨_, c', by rw [HPL.out], hI2, _, rfl⟩, hbx, by cases rds (rdT d) X <;> rfl, ⟨_, [], hA2, World.ownsRow_nil _ _ _ _, fun g hg => (by cases hg), trivial⟩, by rw [HPL.out]; simpa using HNL.out⟩
    have HE2 := Lib.hid e2
    clear hRD hI2 hle hX hpl hbx hb2 hA2 hr2 e2 eH c0
    go_wp2
    go_loopw [14] (fun v wr => ∃ done rest, RdLp w (w.heap.size + 1) (rdT d) X v wr done rest) (fun v _ => slLen v)
    case atStart => exact ⟨[], X, by have := H0.out; rw [HE2.out] at this; exact this⟩
    case round =>
      obtain ⟨done, rest, hr⟩ := hrel
      obtain ⟨ar, cr, rfl, hIr, pr, rfl⟩ := hr.val
      obtain ⟨sv, css, hA, hown, hge, hk⟩ := hr.item
      have HBW := Lib.hid hr.below
      have HRS := Lib.hid hr.res
      have HEQ := Lib.hid hr.eq
      have HBT := Lib.hid hr.byt
      have HCN := Lib.hid hr.cnt
      have HIR := Lib.hid hIr
      have HA := Lib.hid hA
      have HOW := Lib.hid hown
      have HGE := Lib.hid hge
      have HK := Lib.hid hk
      clear hr hIr hown hge hk
      have hA0 := hA.row
      have hresf := HRS.out
      by_cases hrest : rest = []
      · subst hrest
        have HEQ2 : Hid (rds (rdT d) X = .inr done) := by show _ = _; rw [HEQ.out, rds_nil]; simp
        obtain ⟨sa, sc, rfl⟩ := own_sl HOW.out
        have hoks : okL 3 [.bool true, .slice none 0 0, .slice sa done.length sc] = true := rfl
        have HRR : Hid (rdT (d + 1) L = .ok (.list done) (h + n)) := by
          show _ = _
          rw [HR.out, HEQ2.out]
        clear hA
        go_wp2
        have hO : Only (· = w.heap.size) wr (wr.setCells w.heap.size 0 [.bool true, .slice none 0 0, .slice sa done.length sc]) := (Only.refl (· = w.heap.size) _).setCells (fun _ => rfl) _ _
        refine ret_row3 ty61 rfl _ _ _ rfl rfl rfl rfl (row?_setCells_whole _ hresf hoks) (readIs_ok HRR.out (HBW.out.setCells (Nat.le_refl _) _ _) ⟨sa, sc, rfl, fun hn => ?_⟩)
        obtain ⟨g, gc, hv, _, hnc, hcm, hrow, _⟩ := own_words HOW.out (List.length_pos_iff.2 hn)
        cases hv
        have hgq := HGE.out g rfl
        refine ⟨g, 0, css, rfl, hnc, hcm, by omega, ?_, HK.out.only hO (fun b _ hb => by omega) (fun b _ hb => by omega)⟩
        rw [hO.row? (World.row?_lt hrow) (by omega)]; exact hrow
      · have hlt : 0 < rest.length := List.length_pos_iff.2 hrest
        obtain ⟨rb, ro, hpr, _, _⟩ := HIR.out.at hlt
        cases hpr
        clear hA
        go_wp2_with fail
        refine (IH.out _ _ rest wr (HIR.out.below HBW.out) HBT.out (by have := HCN.out; omega)).mono ?_
        rintro e wc ⟨hbc, hrc⟩
        have fres : wc.free? w.heap.size 0 3 = true := by rw [(brow hbc).2 _ _ _ (free?_lt HRS.out)]; exact HRS.out
        have hszr := HBW.out.size
        have hszc := hbc.size
        have hresl := free?_lt HRS.out
        cases er : rdT d rest with
        | err x =>
          rw [er] at hrc
          simp only at hrc
          subst hrc
          have hx0 := rdT_errs d rest x er
          have dx : ((x : Int) == 0) = false := by simpa using hx0
          have HRR : Hid (rdT (d + 1) L = .err x) := by
            show _ = _
            rw [HR.out, HEQ.out, rds_err hrest er]
          have f15 : (wc.alloc (.cells itemZ.toArray 65)).free? wc.heap.size 0 3 = true := itemZ_row wc
          have fr2 : ((wc.alloc (.cells itemZ.toArray 65)).setCells wc.heap.size 0 itemZ).free? w.heap.size 0 3 = true := by
            rw [World.free?_setCells', World.free?_alloc_lt _ (free?_lt fres)]; exact fres
          have HBC := Lib.hid (HBW.out.trans (hbc.mono hszr))
          clear er hx0 hbc
          go_wp2
          refine ret_row3 ty61 rfl _ _ _ rfl rfl rfl rfl (row?_setCells_whole _ fr2 hok) (readIs_err HRR.out (((HBC.out.alloc HBC.out.size _).setCells HBC.out.size _ _).setCells (Nat.le_refl _) _ _))
        | ok t k =>
          rw [er] at hrc
          obtain ⟨cs, rfl, htop⟩ := hrc
          have hkb := rdT_reads d rest t k er
          have hkid := htop.kid
          have hcl := hkid.len
          have hcok := hkid.ok
          have hql : w.heap.size + 1 < wr.heap.size := HA.out.lt
          obtain ⟨W1, eW1⟩ : ∃ W1, W1 = (wc.alloc (.cells itemZ.toArray 65)).setCells wc.heap.size 0 cs := ⟨_, rfl⟩
          have o1 : Only (fun _ => False) wc W1 := by rw [eW1]; exact ((Only.refl (fun _ => False) wc).alloc _).setCells (fun hh => absurd hh (Nat.lt_irrefl _)) _ _
          have hA15 : Arr W1 wc.heap.size 3 cs := by rw [eW1]; exact (Arr.new wc 3 itemZ 65 rfl).setCells cs hcok
          have hsz1 : W1.heap.size = wc.heap.size + 1 := by rw [eW1]; simp
          obtain ⟨W2, eW2⟩ : ∃ W2, W2 = W1.alloc (.cells cs.toArray 65) := ⟨_, rfl⟩
          have o2 : Only (fun _ => False) wc W2 := by rw [eW2]; exact o1.alloc _
          have hsz2 : W2.heap.size = wc.heap.size + 1 + 1 := by rw [eW2]; simp [hsz1]
          have hsrc : SrcAt W2 (some ⟨wc.heap.size + 1, 0, none⟩) 1 1 3 cs := by
            rw [eW2, ← hsz1]; exact SrcAt.new W1 (m := 1) (size := 3) (cs := cs) 65 (0, 0) hcok 1
          have hown2 : W2.ownsRow 0 65 3 sv done.length css.flatten := Only.own (Only.own HOW.out (Only.of_below_size hbc) (fun _ _ h => h)) o2 (fun _ _ h => h)
          have hA1 : Arr W1 (w.heap.size + 1) 3 [.bool true, .slice none 0 0, sv] := (HA.out.only (S := fun _ => False) (Only.of_below_size hbc) (fun h => h)).only o1 (fun h => h)
          have hA2 : Arr W2 (w.heap.size + 1) 3 [.bool true, .slice none 0 0, sv] := by rw [eW2]; exact hA1.alloc _
          have c13 := hA1.cell (i := 2) (by omega) (v := sv) rfl
          have r15 := hA15.row
          have f15 : (wc.alloc (.cells itemZ.toArray 65)).free? wc.heap.size 0 3 = true := itemZ_row wc
          obtain ⟨ra2, rc2, hsl2, hI3⟩ := slice_rest HIR.out k hkb.2
          have hlen2 : (rest.drop k).length = rest.length - k := List.length_drop
          have HSRC := Lib.hid hsrc
          have HOWN2 := Lib.hid hown2
          have HA2 := Lib.hid hA2
          have HKID := Lib.hid hkid
          have HKB := Lib.hid hkb
          have HI3 := Lib.hid hI3
          have HBC := Lib.hid hbc
          have HO2 := Lib.hid o2
          have HS2 := Lib.hid hsz2
          have HFR := Lib.hid fres
          have HQL := Lib.hid hql
          have HEQ2 : Hid (rds (rdT d) rest = match rds (rdT d) (rest.drop k) with | .inl e => .inl e | .inr l => .inr (t.kid :: l)) := rds_ok (rdT_reads d) hrest er
          have HL2 := Lib.hid hlen2
          rw [eW1] at c13 r15
          rw [eW2, eW1] at hown2 hsrc
          have HSRC1 := Lib.hid hsrc
          have HOWN1 := Lib.hid hown2
          have HW2 : Hid (W2 = ((wc.alloc (.cells itemZ.toArray 65)).setCells wc.heap.size 0 cs).alloc (.cells cs.toArray 65)) := by show _ = _; rw [eW2, eW1]
          clear er htop hkb hkid hbc hA15 hsz1 hsz2 hsrc hown2 hA1 hA2 o1 o2 eW1 eW2 hI3 hszr hszc hresl hql hlen2
          go_wp2_with (at_builtin; go_must (refine wpList_app elem59 rfl _ _ rfl HOWN1.out rfl HSRC1.out rfl ?c1 ?c2 ?c3))
          case c1 => have := HCN.out; unfold maxLen; omega
          case c2 => have := HCN.out; omega
          case c3 =>
            intro v' w' ho hO' hg'
            rw [← HW2.out] at hO'
            obtain ⟨va, vc, rfl⟩ := own_sl ho
            have hAw := HA2.out.only hO' (fun hh => by have := HGE.out _ hh; omega)
            have fq := hAw.free1 (i := 2) (by omega)
            obtain ⟨w9, e9⟩ : ∃ w9, w9 = w'.setCell ⟨w.heap.size + 1, 2, none⟩ (.slice va (done.length + 1) vc) := ⟨_, rfl⟩
            have HE9 := Lib.hid e9
            have hq9 : Only (· = w.heap.size + 1) w' w9 := by rw [e9]; exact only_cell w' (w.heap.size + 1) 2 _
            -- what turns from the call on
            have hT : Only (fun b => sv.ownBlock = some b ∨ b = w.heap.size + 1) wc w9 := ((HO2.out.mono (fun _ hh => hh.elim)).trans hO' (fun i hh _ => .inl hh)).trans hq9 (fun i hh _ => .inr hh)
            have hTr : Only (fun b => sv.ownBlock = some b ∨ b = w.heap.size + 1) wr w9 := (Only.of_below_size HBC.out).trans hT (fun i hh _ => hh)
            have hszc := HBC.out.size
            have hszr := HBW.out.size
            have hql := HQL.out
            have hgl : ∀ g, sv.ownBlock = some g → g < wr.heap.size := ownsRow_lt HOW.out
            have hgv : ∀ g, (Value.slice va (done.length + 1) vc).ownBlock = some g → sv.ownBlock = some g ∨ wc.heap.size + 1 + 1 ≤ g := hg'
            have hge9 : ∀ g, (Value.slice va (done.length + 1) vc).ownBlock = some g → w.heap.size + 1 < g := fun g hg => by
              rcases hgv g hg with h1 | h1
              · exact HGE.out g h1
              · omega
            have HNEW : Hid (RdLp w (w.heap.size + 1) (rdT d) X (.slice (some ⟨rb, ra2, none⟩) (rest.length - k) rc2) w9 (done ++ [t.kid]) (rest.drop k)) := by
              refine ⟨HBW.out.trans (hTr.below hszr (fun i hi => hi.elim (fun h1 => by have := HGE.out i h1; omega) (fun h1 => by omega))), ?_, ⟨_, rc2, by rw [HL2.out], HI3.out, _, rfl⟩, fun x hx => HBT.out x (List.mem_of_mem_drop hx), ?_, ⟨.slice va (done.length + 1) vc, css ++ [cs], ?_, ?_, hge9, ?_⟩, ?_⟩
              · rw [hT.free? (free?_lt HFR.out) (fun hh => hh.elim (fun h1 => by have := HGE.out _ h1; omega) (fun h1 => by omega))]; exact HFR.out
              · rw [HEQ.out, HEQ2.out]
                cases rds (rdT d) (rest.drop k) with
                | inl e => rfl
                | inr l => simp
              · rw [e9]; exact hAw.set (i := 2) (by omega) _
              · have h1 := Only.own ho hq9 (fun g hg hh => by have := hge9 g hg; have : g = w.heap.size + 1 := hh; omega)
                rw [List.flatten_append, List.length_append]
                simpa using h1
              · refine KidsAt.snoc (HK.out.only hTr (fun b hb hh hx => ?_) (fun b hb hh => ⟨hh.1, fun hx => ?_⟩)) (HKID.out.only hT (fun b hb hh hx => ?_) (fun b hb hh => ⟨by omega, fun hx => ?_⟩))
                · rcases hx with h1 | h1
                  · exact hh.2 h1
                  · omega
                · rcases hgv b hx with h1 | h1
                  · exact hh.2 h1
                  · omega
                · rcases hx with h1 | h1
                  · have := hgl b h1; omega
                  · omega
                · rcases hgv b hx with h1 | h1
                  · have := hgl b h1; omega
                  · omega
              · rw [HL2.out, List.length_append, List.length_singleton]
                have := HCN.out
                have := HKB.out
                omega
            clear ho hO' hg' hAw e9 hq9 hT hTr hszc hszr hql hgl hgv hge9
            go_wp2
            go_roundw
            case rel => exact ⟨done ++ [t.kid], rest.drop k, by have := HNEW.out; rw [HE9.out] at this; exact this⟩
            case measure => show rest.length - k < rest.length; have := HKB.out; omega
end Go.Proofs.YtikiciojfhfagaaGreat
namespace Go.Mun
/-- All of the bytes are one item. -/
def rdAll (L : Bts) : RdR := match rdT 32 L with
  | .err e => .err e
  | .ok t n => if n = L.length then .ok t n else .err 4
end Go.Mun
namespace Go.Proofs.YtikiciojfhfagaaGreat
open Go.RowKit Go.Mun

theorem read_all : ∀ d, ReadOk d := by
  intro d
  induction d with
  | zero =>
    intro a c L w hI hby hlen hd
    by_cases hs : L = [] ∨ L[0]?.getD 0 < 128
    · exact read_small 0 a c L w hI hby hs
    · have hne : L ≠ [] := fun h => hs (.inl h)
      have h1 : ¬ L[0]?.getD 0 < 128 := fun h => hs (.inr h)
      by_cases h2 : L[0]?.getD 0 < 192
      · exact read_bytes 0 a c L w hI hby hlen hne h1 h2
      · exact read_deep a c L w hI hne h2
  | succ d ih =>
    intro a c L w hI hby hlen hd
    by_cases hs : L = [] ∨ L[0]?.getD 0 < 128
    · exact read_small (d + 1) a c L w hI hby hs
    · have hne : L ≠ [] := fun h => hs (.inl h)
      have h1 : ¬ L[0]?.getD 0 < 128 := fun h => hs (.inr h)
      by_cases h2 : L[0]?.getD 0 < 192
      · exact read_bytes (d + 1) a c L w hI hby hlen hne h1 h2
      · exact read_list d ih hd a c L w hI hby hlen hne h2
/-- What a reader of all the bytes comes to. -/
def TopIs (w w' : World) (r : RdR) (e : Ending) : Prop := Below w.heap.size w w' ∧ match r with
  | .err x => e = .returned (.tuple #[.agg itemZ.toArray, .int .i64 x])
  | .ok t _ => ∃ cs, e = .returned (.tuple #[.agg cs.toArray, .int .i64 0]) ∧ TopAt w' (fun b => w.heap.size ≤ b) cs t
theorem topIs_err {w w' : World} {r : RdR} {x : Nat} (h : r = .err x) (hb : Below w.heap.size w w') : TopIs w w' r (.returned (.tuple #[.agg itemZ.toArray, .int .i64 x])) := by
  subst h; exact ⟨hb, rfl⟩
theorem topIs_ok {w w' : World} {r : RdR} {t : Top} {n : Nat} {cs : List Value} (h : r = .ok t n) (hb : Below w.heap.size w w') (ht : TopAt w' (fun b => w.heap.size ≤ b) cs t) : TopIs w w' r (.returned (.tuple #[.agg cs.toArray, .int .i64 0])) := by
  subst h; exact ⟨hb, cs, rfl, ht⟩
theorem TopAt.lenok {w : World} {R : Nat → Prop} {cs : List Value} {t : Top} (h : TopAt w R cs t) : cs.length = 3 ∧ okL 3 cs = true := ⟨h.kid.len, h.kid.ok⟩
set_option maxRecDepth 100000 in
set_option maxHeartbeats 1000000 in
theorem rlp_Read (a : Option Addr) (c : Nat) (L : Bts) (w : World) (hI : Ints w .u8 a c L) (hby : Byt L) (hlen : L.length ≤ 16777216) :
    Calls Tryz.prog 56 #[.slice a L.length c] w fun e w' => TopIs w w' (rdAll L) e := by
  have hok : okL 3 itemZ = true := itemZ_ok
  obtain ⟨w0, e0⟩ : ∃ w0, w0 = w.alloc (.cells itemZ.toArray 65) := ⟨_, rfl⟩
  have hb0 : Below w.heap.size w w0 := by rw [e0]; exact (Below.refl _ _).alloc (Nat.le_refl _) _
  have hf0 : w0.free? w.heap.size 0 3 = true := by rw [e0]; exact itemZ_row w
  have HRD := Lib.hid (read_all 32 a c L w0 (hI.below hb0) hby hlen (Nat.le_refl _))
  have HE := Lib.hid e0
  have HB := Lib.hid hb0
  have HF := Lib.hid hf0
  have dl : decide ((16777216 : Int) < L.length) = false := decide_eq_false (by omega)
  have HRA : Hid (rdAll L = match rdT 32 L with | .err e => .err e | .ok t n => if n = L.length then .ok t n else .err 4) := rfl
  have HRB := Lib.hid (rdT_reads 32 L)
  have HER := Lib.hid (rdT_errs 32 L)
  clear hI hby hlen e0 hb0 hf0
  go_enter Tryz.func56, Tryz.ntmps56
  go_wp2_with fail
  rw [← HE.out]
  refine HRD.out.mono ?_
  rintro e w1 ⟨hb1, hr⟩
  have f1 : w1.free? w.heap.size 0 3 = true := by rw [(brow hb1).2 _ _ _ (free?_lt HF.out)]; exact HF.out
  have f4 : (w1.alloc (.cells itemZ.toArray 65)).free? w1.heap.size 0 3 = true := itemZ_row w1
  have HB1 := Lib.hid (HB.out.trans (hb1.mono HB.out.size))
  have hsz0 : w.heap.size < w0.heap.size := free?_lt HF.out
  have HSZ := Lib.hid hsz0
  have HSZ1 := Lib.hid hb1.size
  cases er : rdT 32 L with
  | err x =>
    rw [er] at hr
    simp only at hr
    subst hr
    have hx := HER.out x er
    have dx : ((x : Int) == 0) = false := by simpa using hx
    have hR : rdAll L = .err x := by rw [HRA.out, er]
    have HR := Lib.hid hR
    have f5 : ((w1.alloc (.cells itemZ.toArray 65)).setCells w1.heap.size 0 itemZ).free? w.heap.size 0 3 = true := by
      rw [World.free?_setCells', World.free?_alloc_lt _ (free?_lt f1)]; exact f1
    clear hb1 er hR hx
    go_wp2
    refine ret_row2 ty61 rfl _ _ rfl rfl rfl (row?_setCells_whole _ f5 hok) (topIs_err HR.out (((HB1.out.alloc HB1.out.size _).setCells HB1.out.size _ _).setCells (Nat.le_refl _) _ _))
  | ok t n =>
    rw [er] at hr
    obtain ⟨cs, rfl, htop⟩ := hr
    obtain ⟨hcl, hcok⟩ := htop.lenok
    have f5 : ((w1.alloc (.cells itemZ.toArray 65)).setCells w1.heap.size 0 cs).free? w.heap.size 0 3 = true := by
      rw [World.free?_setCells', World.free?_alloc_lt _ (free?_lt f1)]; exact f1
    by_cases hn : n = L.length
    · have hR : rdAll L = .ok t n := by rw [HRA.out, er]; exact if_pos hn
      have HR := Lib.hid hR
      have dn : ((n : Int) == (L.length : Int)) = true := by simp [hn]
      have hz := (Arr.new w1 3 itemZ 65 rfl).setCells cs hcok
      have rz := hz.row
      have HT := Lib.hid htop
      clear hb1 er hR hn htop hz
      go_wp2
      have hO : Only (fun b => b = w.heap.size) w1 (((w1.alloc (.cells itemZ.toArray 65)).setCells w1.heap.size 0 cs).setCells w.heap.size 0 cs) := ((((Only.refl (fun b => b = w.heap.size) w1).alloc _).setCells (fun hh => absurd hh (Nat.lt_irrefl _)) _ _).setCells (fun _ => rfl) _ _)
      refine ret_row2 ty61 rfl _ _ rfl rfl rfl (row?_setCells_whole _ f5 hcok) (topIs_ok HR.out (((HB1.out.alloc HB1.out.size _).setCells HB1.out.size _ _).setCells (Nat.le_refl _) _ _) (HT.out.only hO (fun b _ hb => by have := HSZ.out; omega) (fun b _ hb => by have := HSZ.out; omega)))
    · have hR : rdAll L = .err 4 := by rw [HRA.out, er]; exact if_neg hn
      have HR := Lib.hid hR
      have dn : ((n : Int) == (L.length : Int)) = false := by simp; omega
      clear hb1 er hR hn htop
      go_wp2
      refine ret_row2 ty61 rfl _ _ rfl rfl rfl (row?_setCells_whole _ f5 hok) (topIs_err (x := 4) HR.out (((HB1.out.alloc HB1.out.size _).setCells HB1.out.size _ _).setCells (Nat.le_refl _) _ _))
end Go.Proofs.YtikiciojfhfagaaGreat
namespace Go.Mun
/-- Are an item's bytes a number's, without noughts ahead? -/
def numB : Option Bts → Bool
  | some l => l.isEmpty || !(l[0]?.getD 0 == 0)
  | none => false
end Go.Mun
namespace Go.Proofs.YtikiciojfhfagaaGreat
open Go.RowKit Go.Mun

attribute [local go_sem] ta26 ta59 ta59'
theorem of_some (a : Option Addr) (n c : Nat) (w : World) : Calls Tryz.prog 67 #[.agg #[.bool false, .slice a n c, .slice none 0 0]] w fun e w' => e = .returned (.iface 26 (.slice a n c)) ∧ Below w.heap.size w w' := by
  go_enter Tryz.func67, Tryz.ntmps67
  go_wp2
  go_ret
  exact ⟨rfl, (Below.refl _ _).alloc (Nat.le_refl _) _⟩
theorem kid_of {cs : List Value} {k : Option Bts} {R : Nat → Prop} {w0 : World} (h : KidAt w0 R cs k) (w : World) : Calls Tryz.prog 67 #[.agg cs.toArray] w fun e w' => e = .returned (ifaceOf cs) ∧ Below w.heap.size w w' := by
  cases k with
  | none =>
    obtain ⟨a, n, c, rfl⟩ := h
    go_enter Tryz.func67, Tryz.ntmps67
    go_wp2
    go_ret
    exact ⟨rfl, (Below.refl _ _).alloc (Nat.le_refl _) _⟩
  | some l =>
    obtain ⟨a, c, rfl, _⟩ := h
    go_enter Tryz.func67, Tryz.ntmps67
    go_wp2
    go_ret
    exact ⟨rfl, (Below.refl _ _).alloc (Nat.le_refl _) _⟩
set_option maxRecDepth 100000 in
theorem bytes_none (a : Option Addr) (n c : Nat) (w : World) : Calls Tryz.prog 87 #[.agg #[.bool true, .slice none 0 0, .slice a n c]] w fun e w' => e = .returned (.tuple #[.slice none 0 0, .bool false]) ∧ Below w.heap.size w w' := by
  have HK := Lib.hid (fun w => kid_of (cs := [.bool true, .slice none 0 0, .slice a n c]) (k := none) (R := fun _ => True) (w0 := w) ⟨a, n, c, rfl⟩ w)
  have hb0 : Below w.heap.size w (w.alloc (.cells #[.bool true, .slice none 0 0, .slice a n c] 65)) := (Below.refl _ _).alloc (Nat.le_refl _) _
  have HB := Lib.hid hb0
  have hr : (w.alloc (.cells #[.bool true, .slice none 0 0, .slice a n c] 65)).row? w.heap.size 0 3 = some [.bool true, .slice none 0 0, .slice a n c] := World.row?_alloc_at [.bool true, .slice none 0 0, .slice a n c] 65 _ rfl rfl
  clear hb0
  go_enter Tryz.func87, Tryz.ntmps87
  go_wp2_with fail
  refine (HK.out _).mono ?_
  rintro e w1 ⟨rfl, hb⟩
  have HB1 := Lib.hid (HB.out.trans (hb.mono HB.out.size))
  have hif : ifaceOf [.bool true, .slice none 0 0, .slice a n c] = .iface 63 (.slice a n c) := rfl
  rw [hif]
  obtain ⟨T, hT⟩ : ∃ T : World → Prop, T = fun _ => True := ⟨_, rfl⟩
  have HT := Lib.hid hT
  have t0 : T w1.drew := by rw [hT]; trivial
  clear hb hr hT
  go_wp2_with fail
  refine wp_region_tree T [] (.pure 0 (.pure 1 (.pure 2 (.take 3 (.take 4 (.take 5 (.take 6 (.take 7 (.take 8 (.take 9 (.take 10 (.take 11 (.pure 12 (.pure 13 (.pure 14 .fin))))))))))))))) (by kernel_rfl) (by kernel_rfl) ?_
  refine tree_pure ?_ rfl (by rfl) (fun w' hs => ?_) (fun _ _ _ h => h) ?_
  rotate_left
  · clear hs
    go_simp
    try rfl
  simp only [Act.put, List.setIfInBounds_toArray, List.set_cons_zero, List.set_cons_succ]
  refine tree_pure ?_ rfl (by rfl) (fun w' hs => ?_) (fun _ _ _ h => h) ?_
  rotate_left
  · clear hs
    go_simp
    try rfl
  simp only [Act.put, List.setIfInBounds_toArray, List.set_cons_zero, List.set_cons_succ]
  refine tree_pure ?_ rfl (by rfl) (fun w' hs => ?_) (fun _ _ _ h => h) ?_
  rotate_left
  · clear hs
    go_simp
    try rfl
  simp only [Act.put, List.setIfInBounds_toArray, List.set_cons_zero, List.set_cons_succ]
  refine tree_skip t0 rfl (by rfl) (fun _ _ _ h => h) ?_
  simp only [Act.put, List.setIfInBounds_toArray, List.set_cons_zero, List.set_cons_succ]
  refine tree_skip t0 rfl (by rfl) (fun _ _ _ h => h) ?_
  simp only [Act.put, List.setIfInBounds_toArray, List.set_cons_zero, List.set_cons_succ]
  refine tree_skip t0 rfl (by rfl) (fun _ _ _ h => h) ?_
  simp only [Act.put, List.setIfInBounds_toArray, List.set_cons_zero, List.set_cons_succ]
  refine tree_skip t0 rfl (by rfl) (fun _ _ _ h => h) ?_
  simp only [Act.put, List.setIfInBounds_toArray, List.set_cons_zero, List.set_cons_succ]
  refine tree_skip t0 rfl (by rfl) (fun _ _ _ h => h) ?_
  simp only [Act.put, List.setIfInBounds_toArray, List.set_cons_zero, List.set_cons_succ]
  refine tree_skip t0 rfl (by rfl) (fun _ _ _ h => h) ?_
  simp only [Act.put, List.setIfInBounds_toArray, List.set_cons_zero, List.set_cons_succ]
  refine tree_skip t0 rfl (by rfl) (fun _ _ _ h => h) ?_
  simp only [Act.put, List.setIfInBounds_toArray, List.set_cons_zero, List.set_cons_succ]
  refine tree_skip t0 rfl (by rfl) (fun _ _ _ h => h) ?_
  simp only [Act.put, List.setIfInBounds_toArray, List.set_cons_zero, List.set_cons_succ]
  refine tree_skip t0 rfl (by rfl) (fun _ _ _ h => h) ?_
  simp only [Act.put, List.setIfInBounds_toArray, List.set_cons_zero, List.set_cons_succ]
  refine tree_pure (.bool false) rfl (by rfl) (fun w' hs => ?_) (fun _ _ _ h => h) ?_
  · clear hs
    go_simp
  simp only [Act.put, List.setIfInBounds_toArray, List.set_cons_zero, List.set_cons_succ]
  refine tree_pure ?_ rfl (by rfl) (fun w' hs => ?_) (fun _ _ _ h => h) ?_
  rotate_left
  · clear hs
    go_simp
    try rfl
  simp only [Act.put, List.setIfInBounds_toArray, List.set_cons_zero, List.set_cons_succ]
  refine tree_pure ?_ rfl (by rfl) (fun w' hs => ?_) (fun _ _ _ h => h) ?_
  rotate_left
  · clear hs
    go_simp
    try rfl
  simp only [Act.put, List.setIfInBounds_toArray, List.set_cons_zero, List.set_cons_succ]
  refine tree_fin ?_
  go_wp2
  go_ret2
  exact ⟨rfl, HB1.out.drew⟩
set_option maxRecDepth 100000 in
set_option maxHeartbeats 1000000 in
theorem bytes_some (a : Option Addr) (c : Nat) (l : Bts) (w : World) (hI : Ints w .u8 a c l) : Calls Tryz.prog 87 #[.agg #[.bool false, .slice a l.length c, .slice none 0 0]] w fun e w' => e = .returned (.tuple #[.slice a l.length c, .bool (numB (some l))]) ∧ Below w.heap.size w w' := by
  have HK := Lib.hid (fun w => of_some a l.length c w)
  have hb0 : Below w.heap.size w (w.alloc (.cells #[.bool false, .slice a l.length c, .slice none 0 0] 65)) := (Below.refl _ _).alloc (Nat.le_refl _) _
  have HB := Lib.hid hb0
  have HI := Lib.hid hI
  have hr : (w.alloc (.cells #[.bool false, .slice a l.length c, .slice none 0 0] 65)).row? w.heap.size 0 3 = some [.bool false, .slice a l.length c, .slice none 0 0] := World.row?_alloc_at [.bool false, .slice a l.length c, .slice none 0 0] 65 _ rfl rfl
  clear hb0 hI
  go_enter Tryz.func87, Tryz.ntmps87
  go_wp2_with fail
  refine (HK.out _).mono ?_
  rintro e w1 ⟨rfl, hb⟩
  have HB1 := Lib.hid (HB.out.trans (hb.mono HB.out.size))
  clear hb hr
  by_cases hl : l = []
  · subst hl
    obtain ⟨T, hT⟩ : ∃ T : World → Prop, T = fun _ => True := ⟨_, rfl⟩
    have HT := Lib.hid hT
    have t0 : T w1.drew := by rw [hT]; trivial
    clear hT
    go_wp2_with fail
    refine wp_region_tree T [] (.pure 0 (.pure 1 (.pure 2 (.pure 3 (.pure 4 (.pure 5 (.pure 6 (.take 7 (.take 8 (.take 9 (.take 10 (.pure 11 (.pure 12 (.pure 13 (.pure 14 .fin))))))))))))))) (by kernel_rfl) (by kernel_rfl) ?_
    refine tree_pure ?_ rfl (by rfl) (fun w' hs => ?_) (fun _ _ _ h => h) ?_
    rotate_left
    · clear hs
      go_simp
      try rfl
    simp only [Act.put, List.setIfInBounds_toArray, List.set_cons_zero, List.set_cons_succ]
    refine tree_pure ?_ rfl (by rfl) (fun w' hs => ?_) (fun _ _ _ h => h) ?_
    rotate_left
    · clear hs
      go_simp
      try rfl
    simp only [Act.put, List.setIfInBounds_toArray, List.set_cons_zero, List.set_cons_succ]
    refine tree_pure ?_ rfl (by rfl) (fun w' hs => ?_) (fun _ _ _ h => h) ?_
    rotate_left
    · clear hs
      go_simp
      try rfl
    simp only [Act.put, List.setIfInBounds_toArray, List.set_cons_zero, List.set_cons_succ]
    refine tree_pure ?_ rfl (by rfl) (fun w' hs => ?_) (fun _ _ _ h => h) ?_
    rotate_left
    · clear hs
      go_simp
      try rfl
    simp only [Act.put, List.setIfInBounds_toArray, List.set_cons_zero, List.set_cons_succ]
    refine tree_pure ?_ rfl (by rfl) (fun w' hs => ?_) (fun _ _ _ h => h) ?_
    rotate_left
    · clear hs
      go_simp
      try rfl
    simp only [Act.put, List.setIfInBounds_toArray, List.set_cons_zero, List.set_cons_succ]
    refine tree_pure (.bool true) rfl (by rfl) (fun w' hs => ?_) (fun _ _ _ h => h) ?_
    · clear hs
      go_simp
    simp only [Act.put, List.setIfInBounds_toArray, List.set_cons_zero, List.set_cons_succ]
    refine tree_pure ?_ rfl (by rfl) (fun w' hs => ?_) (fun _ _ _ h => h) ?_
    rotate_left
    · clear hs
      go_simp
      try rfl
    simp only [Act.put, List.setIfInBounds_toArray, List.set_cons_zero, List.set_cons_succ]
    refine tree_skip t0 rfl (by rfl) (fun _ _ _ h => h) ?_
    simp only [Act.put, List.setIfInBounds_toArray, List.set_cons_zero, List.set_cons_succ]
    refine tree_skip t0 rfl (by rfl) (fun _ _ _ h => h) ?_
    simp only [Act.put, List.setIfInBounds_toArray, List.set_cons_zero, List.set_cons_succ]
    refine tree_skip t0 rfl (by rfl) (fun _ _ _ h => h) ?_
    simp only [Act.put, List.setIfInBounds_toArray, List.set_cons_zero, List.set_cons_succ]
    refine tree_skip t0 rfl (by rfl) (fun _ _ _ h => h) ?_
    simp only [Act.put, List.setIfInBounds_toArray, List.set_cons_zero, List.set_cons_succ]
    refine tree_pure (.bool true) rfl (by rfl) (fun w' hs => ?_) (fun _ _ _ h => h) ?_
    · clear hs
      go_simp
    simp only [Act.put, List.setIfInBounds_toArray, List.set_cons_zero, List.set_cons_succ]
    refine tree_pure (.bool true) rfl (by rfl) (fun w' hs => ?_) (fun _ _ _ h => h) ?_
    · clear hs
      go_simp
    simp only [Act.put, List.setIfInBounds_toArray, List.set_cons_zero, List.set_cons_succ]
    refine tree_pure ?_ rfl (by rfl) (fun w' hs => ?_) (fun _ _ _ h => h) ?_
    rotate_left
    · clear hs
      go_simp
      try rfl
    simp only [Act.put, List.setIfInBounds_toArray, List.set_cons_zero, List.set_cons_succ]
    refine tree_pure ?_ rfl (by rfl) (fun w' hs => ?_) (fun _ _ _ h => h) ?_
    rotate_left
    · clear hs
      go_simp
      try rfl
    simp only [Act.put, List.setIfInBounds_toArray, List.set_cons_zero, List.set_cons_succ]
    refine tree_fin ?_
    go_wp2
    go_ret2
    exact ⟨rfl, HB1.out.drew⟩
  · have hlen : 0 < l.length := List.length_pos_iff.2 hl
    obtain ⟨b, off, rfl, hbl, hc⟩ := HI.out.at hlen
    have hd : (l.length == 0) = false := by simp; omega
    have hdI : ((l.length : Int) == 0) = false := by simp; omega
    obtain ⟨x, hx⟩ : ∃ x, l[0]?.getD 0 = x := ⟨_, rfl⟩
    have hnb : numB (some l) = (x != 0) := by
      show (l.isEmpty || !(l[0]?.getD 0 == 0)) = _
      rw [hx]
      cases l with
      | nil => exact absurd rfl hl
      | cons _ _ => rfl
    have HNB := Lib.hid hnb
    obtain ⟨T, hT⟩ : ∃ T : World → Prop, T = fun w' => w'.cell? ⟨b, off, none⟩ = some (.int .u8 x) := ⟨_, rfl⟩
    have HT := Lib.hid hT
    have t0 : T w1.drew := by
      rw [hT]
      have h0 := hc 0 hlen
      rw [hx, Nat.add_zero] at h0
      exact ((HB1.out.drew).cell (p := ⟨b, off, none⟩) hbl).trans h0
    clear hT hc hnb hx hl
    go_wp2_with fail
    refine wp_region_tree T [] (.pure 0 (.pure 1 (.pure 2 (.pure 3 (.pure 4 (.pure 5 (.pure 6 (.pure 7 (.pure 8 (.take 9 (.pure 10 (.pure 11 (.pure 12 (.pure 13 (.pure 14 .fin))))))))))))))) (by kernel_rfl) (by kernel_rfl) ?_
    refine tree_pure ?_ rfl (by rfl) (fun w' hs => ?_) (fun _ _ _ h => h) ?_
    rotate_left
    · clear hs
      go_simp
      try rfl
    simp only [Act.put, List.setIfInBounds_toArray, List.set_cons_zero, List.set_cons_succ]
    refine tree_pure ?_ rfl (by rfl) (fun w' hs => ?_) (fun _ _ _ h => h) ?_
    rotate_left
    · clear hs
      go_simp
      try rfl
    simp only [Act.put, List.setIfInBounds_toArray, List.set_cons_zero, List.set_cons_succ]
    refine tree_pure ?_ rfl (by rfl) (fun w' hs => ?_) (fun _ _ _ h => h) ?_
    rotate_left
    · clear hs
      go_simp
      try rfl
    simp only [Act.put, List.setIfInBounds_toArray, List.set_cons_zero, List.set_cons_succ]
    refine tree_pure ?_ rfl (by rfl) (fun w' hs => ?_) (fun _ _ _ h => h) ?_
    rotate_left
    · clear hs
      go_simp
      try rfl
    simp only [Act.put, List.setIfInBounds_toArray, List.set_cons_zero, List.set_cons_succ]
    refine tree_pure ?_ rfl (by rfl) (fun w' hs => ?_) (fun _ _ _ h => h) ?_
    rotate_left
    · clear hs
      go_simp
      try rfl
    simp only [Act.put, List.setIfInBounds_toArray, List.set_cons_zero, List.set_cons_succ]
    refine tree_pure (.bool false) rfl (by rfl) (fun w' hs => ?_) (fun _ _ _ h => h) ?_
    · clear hs
      go_simp
    simp only [Act.put, List.setIfInBounds_toArray, List.set_cons_zero, List.set_cons_succ]
    refine tree_pure ?_ rfl (by rfl) (fun w' hs => ?_) (fun _ _ _ h => h) ?_
    rotate_left
    · clear hs
      go_simp
      try rfl
    simp only [Act.put, List.setIfInBounds_toArray, List.set_cons_zero, List.set_cons_succ]
    refine tree_pure ?_ rfl (by rfl) (fun w' hs => ?_) (fun _ _ _ h => h) ?_
    rotate_left
    · clear hs
      go_simp
      try rfl
    simp only [Act.put, List.setIfInBounds_toArray, List.set_cons_zero, List.set_cons_succ]
    refine tree_pure ?_ rfl (by rfl) (fun w' hs => ?_) (fun _ _ _ h => h) ?_
    rotate_left
    · clear hs
      go_simp
      try rfl
    simp only [Act.put, List.setIfInBounds_toArray, List.set_cons_zero, List.set_cons_succ]
    refine tree_take ?_ t0 rfl (by rfl) (fun w' hs => ?_) (fun _ _ _ h => h) ?_
    rotate_left
    · rw [HT.out] at hs
      go_simp
      try rfl
    simp only [Act.put, List.setIfInBounds_toArray, List.set_cons_zero, List.set_cons_succ]
    refine tree_pure (.bool (x != 0)) rfl (by rfl) (fun w' hs => ?_) (fun _ _ _ h => h) ?_
    · clear hs
      go_simp
    simp only [Act.put, List.setIfInBounds_toArray, List.set_cons_zero, List.set_cons_succ]
    refine tree_pure (.bool (x != 0)) rfl (by rfl) (fun w' hs => ?_) (fun _ _ _ h => h) ?_
    · clear hs
      go_simp
    simp only [Act.put, List.setIfInBounds_toArray, List.set_cons_zero, List.set_cons_succ]
    refine tree_pure (.bool (x != 0)) rfl (by rfl) (fun w' hs => ?_) (fun _ _ _ h => h) ?_
    · clear hs
      go_simp
    simp only [Act.put, List.setIfInBounds_toArray, List.set_cons_zero, List.set_cons_succ]
    refine tree_pure ?_ rfl (by rfl) (fun w' hs => ?_) (fun _ _ _ h => h) ?_
    rotate_left
    · clear hs
      go_simp
      try rfl
    simp only [Act.put, List.setIfInBounds_toArray, List.set_cons_zero, List.set_cons_succ]
    refine tree_pure ?_ rfl (by rfl) (fun w' hs => ?_) (fun _ _ _ h => h) ?_
    rotate_left
    · clear hs
      go_simp
      try rfl
    simp only [Act.put, List.setIfInBounds_toArray, List.set_cons_zero, List.set_cons_succ]
    refine tree_fin ?_
    go_wp2
    go_ret2
    rw [HNB.out]
    exact ⟨rfl, HB1.out.drew⟩
end Go.Proofs.YtikiciojfhfagaaGreat
