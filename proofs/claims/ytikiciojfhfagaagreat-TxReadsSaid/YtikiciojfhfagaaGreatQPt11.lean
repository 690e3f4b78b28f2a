/-
  The reference's reader of items: lists.
  The reference's reader of items: whole.
  The reference's ReadTx.
  The reference's SameTx: of a transaction and itself.
-/
import Derived.Test.YtikiciojfhfagaaGreatQKd9
import Derived.Test.YtikiciojfhfagaaGreatQPt10
import Derived.Test.YtikiciojfhfagaaGreatQPt14
set_option linter.unusedVariables false
set_option linter.unusedSimpArgs false
namespace Go.Proofs.YtikiciojfhfagaaGreat
open Go.RowKit Go.Mun

set_option maxRecDepth 100000 in
set_option maxHeartbeats 8000000 in
theorem part_list (d : Nat) (ih : PartOk d) (hd : d + 1 ≤ 32) (a : Option Addr) (c : Nat) (L : Bts) (w : World) (hI : Ints w .u8 a c L) (hby : Byt L) (hlen : L.length ≤ 16777216) (hne : L ≠ []) (h2 : ¬ L[0]?.getD 0 < 192) :
    Calls Tryz.prog 83 #[.slice a L.length c, .int .i64 ((d + 1 : Nat) : Int)] w fun e w' => ReadIs w w' (rdT (d + 1) L) e := by
  obtain ⟨z, hz⟩ : ∃ z : Int, z = ((d + 1 : Nat) : Int) := ⟨_, rfl⟩
  rw [← hz]
  have dz : (z == 0) = false := by simp; omega
  have hw : IntKind.i64.wrap (z - 1) = (d : Int) := by rw [wrI _ (by omega) (by omega)]; omega
  have IH := Lib.hid (fun a c L w h1 h2 h3 => ih a c L w h1 h2 h3 (by omega))
  have HRD := Lib.hid (rdT_list (d := d) hne h2)
  have hok : okL 3 itemZ = true := itemZ_ok
  have hl : 0 < L.length := List.length_pos_iff.2 hne
  have hx0 : (0 : Int) ≤ L[0]?.getD 0 ∧ L[0]?.getD 0 < 256 := by rw [List.getElem?_eq_getElem hl]; exact hby _ (List.getElem_mem _)
  obtain ⟨k, hk⟩ : ∃ k : Nat, L[0]?.getD 0 = ((192 + k : Nat) : Int) := ⟨(L[0]?.getD 0 - 192).toNat, by omega⟩
  have hk64 : k < 64 := by omega
  have HHD := Lib.hid (Hd.mk' (L := L) hk64 (by rw [hk]; omega))
  have hand : bits .and .i64 ((192 + k : Nat) : Int) 63 = (k : Int) := and63i (192 + k) k (by omega) (by omega)
  have hI0 := hI.below ((Below.refl w.heap.size w).alloc (Nat.le_refl _) (.cells itemZ.toArray 65))
  have hf0 : (w.alloc (.cells itemZ.toArray 65)).free? w.heap.size 0 3 = true := itemZ_row w
  obtain ⟨b, off, rfl, hbl, hc⟩ := hI0.at hl
  have c0 := hc 0 hl
  rw [Nat.add_zero, hk] at c0
  have HC := Lib.hid hc
  have HBY := Lib.hid hby
  have HLN := Lib.hid hlen
  have HI := Lib.hid hI0
  have HIw := Lib.hid hI
  have hll : (L.length == 0) = false := by simp; omega
  have hllz : ((L.length : Int) == 0) = false := by simp; omega
  generalize hx : ((192 + k : Nat) : Int) = x at *
  have hwx : IntKind.i64.wrap x = x := wrI _ (by omega) (by omega)
  have dx1 : decide (x < 128) = false := decide_eq_false (by omega)
  have dx2 : decide (x < 192) = false := decide_eq_false (by omega)
  have dx3 : decide (192 ≤ x) = true := decide_eq_true (by omega)
  have HX : Hid (x = ((192 + k : Nat) : Int)) := hx.symm
  have HL : Hid (0 < L.length ∧ L.length ≤ c) := ⟨hl, hI0.len⟩
  clear hI hby hlen hne h2 hz ih hd hx0 hk hx hI0 hc hbl
  by_cases h55 : k ≤ 55
  · have d1 : decide ((55 : Int) < (k : Int)) = false := decide_eq_false (by omega)
    have wl1 : IntKind.i64.wrap ((L.length : Int) - 1) = (L.length : Int) - 1 := wrI _ (by have := HLN.out; omega) (by have := HLN.out; omega)
    by_cases hf : k + 1 ≤ L.length
    · have d86 : decide ((L.length : Int) - 1 < (k : Int)) = false := decide_eq_false (by omega)
      have hEQ : hdR L = some (1, k) := by rw [HHD.out.sh h55, if_pos hf]
      clear hf hk64 h55 HX
      go_enter Tryz.func83, Tryz.ntmps83
      have hle := hdR_le hEQ
      have hwn : IntKind.i64.wrap (1 + (k : Int)) = 1 + (k : Int) := wrI _ (by have := HLN.out; omega) (by have := HLN.out; omega)
      obtain ⟨o', c', hsl, hI2⟩ := slice_part HIw.out 1 k hle.2
      rw [show ((1 + k : Nat) : Int) = 1 + (k : Int) by omega] at hsl
      rw [show ((1 : Nat) : Int) = 1 from rfl] at hsl
      have hpl : ((L.drop 1).take k).length = k := by rw [List.length_take, List.length_drop]; omega
      have hRD := HRD.out
      rw [rdL_eq, hEQ] at hRD
      simp only at hRD
      have hbx : Byt ((L.drop 1).take k) := fun z hz => HBY.out z (List.mem_of_mem_drop (List.mem_of_mem_take hz))
      generalize hX : (L.drop 1).take k = X at *
      have HR := Lib.hid hRD
      have HPL := Lib.hid hpl
      have HI2 := Lib.hid hI2
      have HNL : Hid (k ≤ 16777216) := by show k ≤ _; have := HLN.out; omega
      have HBX := Lib.hid hbx
      have e13 : lay itemZ 0 [Value.bool true] = [.bool true, .slice none 0 0, .slice none 0 0] := rfl
      have f13 : ((w.alloc (.cells itemZ.toArray 65)).alloc (.cells itemZ.toArray 65)).free? (w.heap.size + 1) 0 3 = true := World.free?_alloc_at _ _ (by simp) (Nat.le_refl _)
      have hok13 : okL 3 [.bool true, .slice none 0 0, .slice none 0 0] = true := rfl
      obtain ⟨w2, e2⟩ : ∃ w2, w2 = ((w.alloc (.cells itemZ.toArray 65)).alloc (.cells itemZ.toArray 65)).setCells (w.heap.size + 1) 0 [.bool true, .slice none 0 0, .slice none 0 0] := ⟨_, rfl⟩
      have hb2 : Below w.heap.size w w2 := by rw [e2]; exact (((Below.refl _ _).alloc (Nat.le_refl _) _).alloc (by simp) _).setCells (by omega) _ _
      have hA2 : Arr w2 (w.heap.size + 1) 3 [.bool true, .slice none 0 0, .slice none 0 0] := by
        rw [e2]
        have := (Arr.new (w.alloc (.cells itemZ.toArray 65)) 3 itemZ 65 rfl).setCells [.bool true, .slice none 0 0, .slice none 0 0] hok13
        simpa using this
      have hr2 : w2.free? w.heap.size 0 3 = true := by
        rw [e2, World.free?_setCells', World.free?_alloc_lt _ (by simp)]; exact itemZ_row w
      have H0 : Hid (RdLp w (w.heap.size + 1) (rdT d) X (.slice (some ⟨b, o', none⟩) k c') w2 [] X) := ⟨hb2, hr2, ⟨_, c', by rw [HPL.out], hI2, _, rfl⟩, hbx, by cases rds (rdT d) X <;> rfl, ⟨_, [], hA2, World.ownsRow_nil _ _ _ _, fun g hg => (by cases hg), trivial⟩, by rw [HPL.out]; simpa using HNL.out⟩
      have HE2 := Lib.hid e2
      clear hRD hI2 hle hEQ hX hpl hbx hb2 hA2 hr2 e2
      go_wp2
      go_loopw [13] (fun v wr => ∃ done rest, RdLp w (w.heap.size + 1) (rdT d) X v wr done rest) (fun v _ => slLen v)
      case atStart => exact ⟨[], X, by have := H0.out; rw [HE2.out] at this; exact this⟩
      case round =>
        obtain ⟨done, rest, hr⟩ := hrel
        obtain ⟨ar, cr, rfl, hIr, pr, rfl⟩ := hr.val
        obtain ⟨sv, css, hA, hown, hge, hk⟩ := hr.item
        have HBW := Lib.hid hr.below
        have HRS := Lib.hid hr.res
        have HEQ := Lib.hid hr.eq
        have HBT := Lib.hid hr.byt
        have HCN := Lib.hid hr.cnt
        have HIR := Lib.hid hIr
        have HA := Lib.hid hA
        have HOW := Lib.hid hown
        have HGE := Lib.hid hge
        have HK := Lib.hid hk
        clear hr hIr hown hge hk
        have hA0 := hA.row
        have hresf := HRS.out
        by_cases hrest : rest = []
        · subst hrest
          have HEQ2 : Hid (rds (rdT d) X = .inr done) := by show _ = _; rw [HEQ.out, rds_nil]; simp
          obtain ⟨sa, sc, rfl⟩ := own_sl HOW.out
          have hoks : okL 3 [.bool true, .slice none 0 0, .slice sa done.length sc] = true := rfl
          have HRR : Hid (rdT (d + 1) L = .ok (.list done) (1 + k)) := by
            show _ = _
            rw [HR.out, HEQ2.out]
          clear hA
          go_wp2
          have hO : Only (· = w.heap.size) wr (wr.setCells w.heap.size 0 [.bool true, .slice none 0 0, .slice sa done.length sc]) := (Only.refl (· = w.heap.size) _).setCells (fun _ => rfl) _ _
          refine ret_row3 ty61 rfl _ _ _ rfl rfl rfl rfl (row?_setCells_whole _ hresf hoks) (readIs_ok HRR.out (HBW.out.setCells (Nat.le_refl _) _ _) ⟨sa, sc, rfl, fun hn => ?_⟩)
          obtain ⟨g, gc, hv, _, hnc, hcm, hrow, _⟩ := own_words HOW.out (List.length_pos_iff.2 hn)
          cases hv
          have hgq := HGE.out g rfl
          refine ⟨g, 0, css, rfl, hnc, hcm, by omega, ?_, HK.out.only hO (fun b _ hb => by omega) (fun b _ hb => by omega)⟩
          rw [hO.row? (World.row?_lt hrow) (by omega)]; exact hrow
        · have hlt : 0 < rest.length := List.length_pos_iff.2 hrest
          obtain ⟨rb, ro, hpr, _, _⟩ := HIR.out.at hlt
          cases hpr
          clear hA
          go_wp2_with fail
          refine (IH.out _ _ rest wr (HIR.out.below HBW.out) HBT.out (by have := HCN.out; omega)).mono ?_
          rintro e wc ⟨hbc, hrc⟩
          have fres : wc.free? w.heap.size 0 3 = true := by rw [(brow hbc).2 _ _ _ (free?_lt HRS.out)]; exact HRS.out
          have hszr := HBW.out.size
          have hszc := hbc.size
          have hresl := free?_lt HRS.out
          cases er : rdT d rest with
          | err x =>
            rw [er] at hrc
            simp only at hrc
            subst hrc
            have hx0 := rdT_errs d rest x er
            have dx : ((x : Int) == 0) = false := by simpa using hx0
            have HRR : Hid (rdT (d + 1) L = .err x) := by
              show _ = _
              rw [HR.out, HEQ.out, rds_err hrest er]
            have f15 : (wc.alloc (.cells itemZ.toArray 65)).free? wc.heap.size 0 3 = true := itemZ_row wc
            have fr2 : ((wc.alloc (.cells itemZ.toArray 65)).setCells wc.heap.size 0 itemZ).free? w.heap.size 0 3 = true := by
              rw [World.free?_setCells', World.free?_alloc_lt _ (free?_lt fres)]; exact fres
            have HBC := Lib.hid (HBW.out.trans (hbc.mono hszr))
            clear er hx0 hbc
            go_wp2
            refine ret_row3 ty61 rfl _ _ _ rfl rfl rfl rfl (row?_setCells_whole _ fr2 hok) (readIs_err HRR.out (((HBC.out.alloc HBC.out.size _).setCells HBC.out.size _ _).setCells (Nat.le_refl _) _ _))
          | ok t kq =>
            rw [er] at hrc
            obtain ⟨cs, rfl, htop⟩ := hrc
            have hkb := rdT_reads d rest t kq er
            have hkid := htop.kid
            have hcl := hkid.len
            have hcok := hkid.ok
            have hql : w.heap.size + 1 < wr.heap.size := HA.out.lt
            obtain ⟨W1, eW1⟩ : ∃ W1, W1 = (wc.alloc (.cells itemZ.toArray 65)).setCells wc.heap.size 0 cs := ⟨_, rfl⟩
            have o1 : Only (fun _ => False) wc W1 := by rw [eW1]; exact ((Only.refl (fun _ => False) wc).alloc _).setCells (fun hh => absurd hh (Nat.lt_irrefl _)) _ _
            have hA15 : Arr W1 wc.heap.size 3 cs := by rw [eW1]; exact (Arr.new wc 3 itemZ 65 rfl).setCells cs hcok
            have hsz1 : W1.heap.size = wc.heap.size + 1 := by rw [eW1]; simp
            obtain ⟨W2, eW2⟩ : ∃ W2, W2 = W1.alloc (.cells cs.toArray 65) := ⟨_, rfl⟩
            have o2 : Only (fun _ => False) wc W2 := by rw [eW2]; exact o1.alloc _
            have hsz2 : W2.heap.size = wc.heap.size + 1 + 1 := by rw [eW2]; simp [hsz1]
            have hsrc : SrcAt W2 (some ⟨wc.heap.size + 1, 0, none⟩) 1 1 3 cs := by
              rw [eW2, ← hsz1]; exact SrcAt.new W1 (m := 1) (size := 3) (cs := cs) 65 (0, 0) hcok 1
            have hown2 : W2.ownsRow 0 65 3 sv done.length css.flatten := Only.own (Only.own HOW.out (Only.of_below_size hbc) (fun _ _ h => h)) o2 (fun _ _ h => h)
            have hA1 : Arr W1 (w.heap.size + 1) 3 [.bool true, .slice none 0 0, sv] := (HA.out.only (S := fun _ => False) (Only.of_below_size hbc) (fun h => h)).only o1 (fun h => h)
            have hA2 : Arr W2 (w.heap.size + 1) 3 [.bool true, .slice none 0 0, sv] := by rw [eW2]; exact hA1.alloc _
            have c13 := hA1.cell (i := 2) (by omega) (v := sv) rfl
            have r15 := hA15.row
            have f15 : (wc.alloc (.cells itemZ.toArray 65)).free? wc.heap.size 0 3 = true := itemZ_row wc
            obtain ⟨ra2, rc2, hsl2, hI3⟩ := slice_rest HIR.out kq hkb.2
            have hlen2 : (rest.drop kq).length = rest.length - kq := List.length_drop
            have HSRC := Lib.hid hsrc
            have HOWN2 := Lib.hid hown2
            have HA2 := Lib.hid hA2
            have HKID := Lib.hid hkid
            have HKB := Lib.hid hkb
            have HI3 := Lib.hid hI3
            have HBC := Lib.hid hbc
            have HO2 := Lib.hid o2
            have HS2 := Lib.hid hsz2
            have HFR := Lib.hid fres
            have HQL := Lib.hid hql
            have HEQ2 : Hid (rds (rdT d) rest = match rds (rdT d) (rest.drop kq) with | .inl e => .inl e | .inr l => .inr (t.kid :: l)) := rds_ok (rdT_reads d) hrest er
            have HL2 := Lib.hid hlen2
            rw [eW1] at c13 r15
            rw [eW2, eW1] at hown2 hsrc
            have HSRC1 := Lib.hid hsrc
            have HOWN1 := Lib.hid hown2
            have HW2 : Hid (W2 = ((wc.alloc (.cells itemZ.toArray 65)).setCells wc.heap.size 0 cs).alloc (.cells cs.toArray 65)) := by show _ = _; rw [eW2, eW1]
            clear er htop hkb hkid hbc hA15 hsz1 hsz2 hsrc hown2 hA1 hA2 o1 o2 eW1 eW2 hI3 hszr hszc hresl hql hlen2
            go_wp2_with (at_builtin; go_must (refine wpList_app elem59 rfl _ _ rfl HOWN1.out rfl HSRC1.out rfl ?c1 ?c2 ?c3))
            case c1 => have := HCN.out; unfold maxLen; omega
            case c2 => have := HCN.out; omega
            case c3 =>
              intro v' w' ho hO' hg'
              rw [← HW2.out] at hO'
              obtain ⟨va, vc, rfl⟩ := own_sl ho
              have hAw := HA2.out.only hO' (fun hh => by have := HGE.out _ hh; omega)
              have fq := hAw.free1 (i := 2) (by omega)
              obtain ⟨w9, e9⟩ : ∃ w9, w9 = w'.setCell ⟨w.heap.size + 1, 2, none⟩ (.slice va (done.length + 1) vc) := ⟨_, rfl⟩
              have HE9 := Lib.hid e9
              have hq9 : Only (· = w.heap.size + 1) w' w9 := by rw [e9]; exact only_cell w' (w.heap.size + 1) 2 _
              -- what turns from the call on
              have hT : Only (fun b => sv.ownBlock = some b ∨ b = w.heap.size + 1) wc w9 := ((HO2.out.mono (fun _ hh => hh.elim)).trans hO' (fun i hh _ => .inl hh)).trans hq9 (fun i hh _ => .inr hh)
              have hTr : Only (fun b => sv.ownBlock = some b ∨ b = w.heap.size + 1) wr w9 := (Only.of_below_size HBC.out).trans hT (fun i hh _ => hh)
              have hszc := HBC.out.size
              have hszr := HBW.out.size
              have hql := HQL.out
              have hgl : ∀ g, sv.ownBlock = some g → g < wr.heap.size := ownsRow_lt HOW.out
              have hgv : ∀ g, (Value.slice va (done.length + 1) vc).ownBlock = some g → sv.ownBlock = some g ∨ wc.heap.size + 1 + 1 ≤ g := hg'
              have hge9 : ∀ g, (Value.slice va (done.length + 1) vc).ownBlock = some g → w.heap.size + 1 < g := fun g hg => by
                rcases hgv g hg with h1 | h1
                · exact HGE.out g h1
                · omega
              have HNEW : Hid (RdLp w (w.heap.size + 1) (rdT d) X (.slice (some ⟨rb, ra2, none⟩) (rest.length - kq) rc2) w9 (done ++ [t.kid]) (rest.drop kq)) := by
                refine ⟨HBW.out.trans (hTr.below hszr (fun i hi => hi.elim (fun h1 => by have := HGE.out i h1; omega) (fun h1 => by omega))), ?_, ⟨_, rc2, by rw [HL2.out], HI3.out, _, rfl⟩, fun x hx => HBT.out x (List.mem_of_mem_drop hx), ?_, ⟨.slice va (done.length + 1) vc, css ++ [cs], ?_, ?_, hge9, ?_⟩, ?_⟩
                · rw [hT.free? (free?_lt HFR.out) (fun hh => hh.elim (fun h1 => by have := HGE.out _ h1; omega) (fun h1 => by omega))]; exact HFR.out
                · rw [HEQ.out, HEQ2.out]
                  cases rds (rdT d) (rest.drop kq) with
                  | inl e => rfl
                  | inr l => simp
                · rw [e9]; exact hAw.set (i := 2) (by omega) _
                · have h1 := Only.own ho hq9 (fun g hg hh => by have := hge9 g hg; have : g = w.heap.size + 1 := hh; omega)
                  rw [List.flatten_append, List.length_append]
                  simpa using h1
                · refine KidsAt.snoc (HK.out.only hTr (fun b hb hh hx => ?_) (fun b hb hh => ⟨hh.1, fun hx => ?_⟩)) (HKID.out.only hT (fun b hb hh hx => ?_) (fun b hb hh => ⟨by omega, fun hx => ?_⟩))
                  · rcases hx with h1 | h1
                    · exact hh.2 h1
                    · omega
                  · rcases hgv b hx with h1 | h1
                    · exact hh.2 h1
                    · omega
                  · rcases hx with h1 | h1
                    · have := hgl b h1; omega
                    · omega
                  · rcases hgv b hx with h1 | h1
                    · have := hgl b h1; omega
                    · omega
                · rw [HL2.out, List.length_append, List.length_singleton]
                  have := HCN.out
                  have := HKB.out
                  omega
              clear ho hO' hg' hAw e9 hq9 hT hTr hszc hszr hql hgl hgv hge9
              go_wp2
              go_roundw
              case rel => exact ⟨done ++ [t.kid], rest.drop kq, by have := HNEW.out; rw [HE9.out] at this; exact this⟩
              case measure => show rest.length - kq < rest.length; have := HKB.out; omega
    · have d86 : decide ((L.length : Int) - 1 < (k : Int)) = true := decide_eq_true (by omega)
      have HR : Hid (rdT (d + 1) L = .err 4) := by
        show _ = _
        rw [HRD.out]; rw [rdL_eq, HHD.out.sh h55, if_neg hf]
      clear hf hk64 h55 HX
      go_enter Tryz.func83, Tryz.ntmps83
      go_wp2
      refine ret_row3 ty61 rfl _ _ _ rfl rfl rfl rfl (row?_setCells_whole _ hf0 hok) (readIs_err (x := 4) HR.out (((Below.refl _ _).alloc (Nat.le_refl _) _).setCells (Nat.le_refl _) _ _))
  · obtain ⟨j, hj⟩ : ∃ j, j = k - 55 := ⟨_, rfl⟩
    have d1 : decide ((55 : Int) < (k : Int)) = true := decide_eq_true (by omega)
    have w2 : IntKind.i64.wrap ((k : Int) - 55) = (j : Int) := by rw [wrI _ (by omega) (by omega)]; omega
    obtain ⟨h, hh⟩ : ∃ h : Nat, h = 1 + j := ⟨_, rfl⟩
    have w3 : IntKind.i64.wrap (1 + (j : Int)) = (h : Int) := by rw [wrI _ (by omega) (by omega)]; omega
    have hj1 : 1 ≤ j ∧ j ≤ 8 ∧ h = 1 + j := by omega
    have HNO := Lib.hid (HHD.out.no j (by omega) hj)
    have HLO := Lib.hid (HHD.out.lo j (by omega) hj)
    have HJ := Lib.hid hj1
    clear hj h55 hk64 hj1 hh
    by_cases hs : L.length < 1 + j
    · have d2n : (L.length < h) = True := eq_true (by have := HJ.out; omega)
      have d2m : (h ≤ L.length) = False := eq_false (by have := HJ.out; omega)
      have d2 : decide ((L.length : Int) < (h : Int)) = true := decide_eq_true (by have := HJ.out; omega)
      have HR : Hid (rdT (d + 1) L = .err 4) := by
        show _ = _
        rw [HRD.out]; rw [rdL_eq, HNO.out (.inl hs)]
      clear hs HX
      go_enter Tryz.func83, Tryz.ntmps83
      go_wp2
      refine ret_row3 ty61 rfl _ _ _ rfl rfl rfl rfl (row?_setCells_whole _ hf0 hok) (readIs_err (x := 4) HR.out (((Below.refl _ _).alloc (Nat.le_refl _) _).setCells (Nat.le_refl _) _ _))
    have d2n : (L.length < h) = False := eq_false (by have := HJ.out; omega)
    have d2m : (h ≤ L.length) = True := eq_true (by have := HJ.out; omega)
    have d2 : decide ((L.length : Int) < (h : Int)) = false := decide_eq_false (by have := HJ.out; omega)
    have hl1 : 1 < L.length := by have := HJ.out; omega
    have c1 := HC.out 1 hl1
    have HS := Lib.hid hs
    clear hs
    obtain ⟨z1, hz1⟩ : ∃ z1, L[1]?.getD 0 = z1 := ⟨_, rfl⟩
    rw [hz1] at c1
    have HZ1 := Lib.hid hz1
    clear hz1
    by_cases hz : z1 = 0
    · have HR : Hid (rdT (d + 1) L = .err 4) := by
        show _ = _
        rw [HRD.out]; rw [rdL_eq, HNO.out (.inr (HZ1.out.trans hz))]
      rw [hz] at c1
      clear hz HX
      go_enter Tryz.func83, Tryz.ntmps83
      go_wp2
      refine ret_row3 ty61 rfl _ _ _ rfl rfl rfl rfl (row?_setCells_whole _ hf0 hok) (readIs_err (x := 4) HR.out (((Below.refl _ _).alloc (Nat.le_refl _) _).setCells (Nat.le_refl _) _ _))
    have hzb : (z1 == 0) = false := by simpa using hz
    have HLO2 := Lib.hid (HLO.out (fun h => h.elim HS.out (fun h => hz (HZ1.out.symm.trans h))))
    obtain ⟨w0, e0⟩ : ∃ w0, w0 = w.alloc (.cells itemZ.toArray 65) := ⟨_, rfl⟩
    have HLP := Lib.hid (HdLp.of HC.out HBY.out (j := j) (by have := HS.out; omega))
    rw [← e0] at HLP
    have HE := Lib.hid e0
    generalize hB : (fun q => beN ((L.drop 1).take q)) = B at *
    have HLO3 : Hid (hdR L = if B j ≤ 55 ∨ L.length < 1 + j + B j then none else some (1 + j, B j)) := by show _ = _; rw [← hB]; exact HLO2.out
    clear hz hB e0 HLO HLO2 HNO
    go_enter Tryz.func83, Tryz.ntmps83
    go_wp2
    rw [← HE.out]
    go_loopw [9, 12] (fun v i wr => ∃ q : Nat, q ≤ j ∧ i = .int .i64 q ∧ v = .int .i64 (B q : Nat) ∧ B q ≤ 4294967551 ∧ wr = w0) (fun _ i _ => j - (intOf i).toNat)
    case atStart => exact ⟨0, by omega, rfl, by rw [HLP.out.nil]; rfl, by rw [HLP.out.nil]; omega, rfl⟩
    case round =>
      obtain ⟨q, hq, rfl, rfl, hle0, rfl⟩ := hrel
      by_cases hlt : q < j
      · have hq8 : q < 8 := by have := HJ.out; omega
        obtain ⟨x2, hx256, ck, hst⟩ := HLP.out.cell q hlt
        by_cases hbig : 16777216 < B q
        · have d3 : decide ((16777216 : Int) < ((B q : Nat) : Int)) = true := decide_eq_true (by omega)
          have HR : Hid (rdT (d + 1) L = .err 4) := by
            show _ = _
            rw [HRD.out]; rw [rdL_eq, HLO3.out, if_pos (.inr (by have := HLN.out; have := HLP.out.mono q hq; omega))]
          have hE := HE.out
          subst hE
          clear hbig ck hst
          go_wp2
          refine ret_row3 ty61 rfl _ _ _ rfl rfl rfl rfl (row?_setCells_whole _ hf0 hok) (readIs_err (x := 4) HR.out (((Below.refl _ _).alloc (Nat.le_refl _) _).setCells (Nat.le_refl _) _ _))
        · have d3 : decide ((16777216 : Int) < ((B q : Nat) : Int)) = false := decide_eq_false (by omega)
          have hor := i64_or_byte (B q) x2 (by omega) hx256
          have hw4 : IntKind.i64.wrap ((B q : Int) * 256) = (B q : Int) * 256 := wrI _ (by omega) (by omega)
          have hxw : IntKind.i64.wrap (x2 : Int) = x2 := wrI _ (by omega) (by omega)
          have hwi : IntKind.i64.wrap (1 + (q : Int)) = ((1 + q : Nat) : Int) := by rw [wrI _ (by omega) (by omega)]; omega
          have hil : 1 + q < L.length := by have := HS.out; omega
          rw [← hst] at hor
          have HST2 := Lib.hid hst
          have HBG := Lib.hid hbig
          have HX2 := Lib.hid hx256
          clear hst hbig hx256
          go_wp2
          go_roundw
          case rel => exact ⟨q + 1, by omega, by go_num, rfl, by have := HBG.out; have := HST2.out; have := HX2.out; omega, trivial⟩
          case measure => simp [intOf]; omega
      · have hqj : q = j := by omega
        subst hqj
        have w5 : IntKind.i64.wrap ((L.length : Int) - (h : Int)) = (L.length : Int) - h := wrI _ (by have := HLN.out; have := HJ.out; omega) (by have := HLN.out; have := HJ.out; omega)
        have hE := HE.out
        subst hE
        obtain ⟨n, hn0⟩ : ∃ n, n = B q := ⟨_, rfl⟩
        rw [← hn0]
        have HNB := Lib.hid hn0
        clear hn0 hle0
        by_cases hn : n ≤ 55
        · have d3 : decide ((n : Int) < 56) = true := decide_eq_true (by omega)
          have HR : Hid (rdT (d + 1) L = .err 4) := by
            show _ = _
            rw [HRD.out]; rw [rdL_eq, HLO3.out, if_pos (.inl (by have := HNB.out; omega))]
          clear hn HX
          go_wp2
          refine ret_row3 ty61 rfl _ _ _ rfl rfl rfl rfl (row?_setCells_whole _ hf0 hok) (readIs_err (x := 4) HR.out (((Below.refl _ _).alloc (Nat.le_refl _) _).setCells (Nat.le_refl _) _ _))
        have d3 : decide ((n : Int) < 56) = false := decide_eq_false (by omega)
        by_cases hf : L.length < 1 + q + n
        · have d4 : decide ((L.length : Int) - h < (n : Int)) = true := decide_eq_true (by have := HJ.out; omega)
          have HR : Hid (rdT (d + 1) L = .err 4) := by
            show _ = _
            rw [HRD.out]; rw [rdL_eq, HLO3.out, if_pos (.inr (by have := HNB.out; omega))]
          clear hn hf HX
          go_wp2
          refine ret_row3 ty61 rfl _ _ _ rfl rfl rfl rfl (row?_setCells_whole _ hf0 hok) (readIs_err (x := 4) HR.out (((Below.refl _ _).alloc (Nat.le_refl _) _).setCells (Nat.le_refl _) _ _))
        have d4 : decide ((L.length : Int) - h < (n : Int)) = false := decide_eq_false (by have := HJ.out; omega)
        have hEQ : hdR L = some (h, n) := by
          rw [HLO3.out, ← HNB.out, if_neg (by omega), HJ.out.2.2]
        have HN56 : 55 < n := by omega
        clear hn hf HX HLO3 HNB
        have hle := hdR_le hEQ
        have hwn : IntKind.i64.wrap ((h : Int) + (n : Int)) = (h : Int) + (n : Int) := wrI _ (by have := HLN.out; omega) (by have := HLN.out; omega)
        obtain ⟨o', c', hsl, hI2⟩ := slice_part HIw.out h n hle.2
        rw [show ((h + n : Nat) : Int) = (h : Int) + (n : Int) by omega] at hsl
        have hpl : ((L.drop h).take n).length = n := by rw [List.length_take, List.length_drop]; omega
        have hRD := HRD.out
        rw [rdL_eq, hEQ] at hRD
        simp only at hRD
        have hbx : Byt ((L.drop h).take n) := fun z hz => HBY.out z (List.mem_of_mem_drop (List.mem_of_mem_take hz))
        generalize hX : (L.drop h).take n = X at *
        have HR := Lib.hid hRD
        have HPL := Lib.hid hpl
        have HI2 := Lib.hid hI2
        have HNL : Hid (n ≤ 16777216) := by show n ≤ _; have := HLN.out; omega
        have HBX := Lib.hid hbx
        have e13 : lay itemZ 0 [Value.bool true] = [.bool true, .slice none 0 0, .slice none 0 0] := rfl
        have f13 : ((w.alloc (.cells itemZ.toArray 65)).alloc (.cells itemZ.toArray 65)).free? (w.heap.size + 1) 0 3 = true := World.free?_alloc_at _ _ (by simp) (Nat.le_refl _)
        have hok13 : okL 3 [.bool true, .slice none 0 0, .slice none 0 0] = true := rfl
        obtain ⟨w2, e2⟩ : ∃ w2, w2 = ((w.alloc (.cells itemZ.toArray 65)).alloc (.cells itemZ.toArray 65)).setCells (w.heap.size + 1) 0 [.bool true, .slice none 0 0, .slice none 0 0] := ⟨_, rfl⟩
        have hb2 : Below w.heap.size w w2 := by rw [e2]; exact (((Below.refl _ _).alloc (Nat.le_refl _) _).alloc (by simp) _).setCells (by omega) _ _
        have hA2 : Arr w2 (w.heap.size + 1) 3 [.bool true, .slice none 0 0, .slice none 0 0] := by
          rw [e2]
          have := (Arr.new (w.alloc (.cells itemZ.toArray 65)) 3 itemZ 65 rfl).setCells [.bool true, .slice none 0 0, .slice none 0 0] hok13
          simpa using this
        have hr2 : w2.free? w.heap.size 0 3 = true := by
          rw [e2, World.free?_setCells', World.free?_alloc_lt _ (by simp)]; exact itemZ_row w
        have H0 : Hid (RdLp w (w.heap.size + 1) (rdT d) X (.slice (some ⟨b, o', none⟩) n c') w2 [] X) := ⟨hb2, hr2, ⟨_, c', by rw [HPL.out], hI2, _, rfl⟩, hbx, by cases rds (rdT d) X <;> rfl, ⟨_, [], hA2, World.ownsRow_nil _ _ _ _, fun g hg => (by cases hg), trivial⟩, by rw [HPL.out]; simpa using HNL.out⟩
        have HE2 := Lib.hid e2
        clear HN56 hRD hI2 hle hEQ hX hpl hbx hb2 hA2 hr2 e2
        go_wp2
        go_loopw [13] (fun v wr => ∃ done rest, RdLp w (w.heap.size + 1) (rdT d) X v wr done rest) (fun v _ => slLen v)
        case atStart => exact ⟨[], X, by have := H0.out; rw [HE2.out] at this; exact this⟩
        case round =>
          obtain ⟨done, rest, hr⟩ := hrel
          obtain ⟨ar, cr, rfl, hIr, pr, rfl⟩ := hr.val
          obtain ⟨sv, css, hA, hown, hge, hk⟩ := hr.item
          have HBW := Lib.hid hr.below
          have HRS := Lib.hid hr.res
          have HEQ := Lib.hid hr.eq
          have HBT := Lib.hid hr.byt
          have HCN := Lib.hid hr.cnt
          have HIR := Lib.hid hIr
          have HA := Lib.hid hA
          have HOW := Lib.hid hown
          have HGE := Lib.hid hge
          have HK := Lib.hid hk
          clear hr hIr hown hge hk
          have hA0 := hA.row
          have hresf := HRS.out
          by_cases hrest : rest = []
          · subst hrest
            have HEQ2 : Hid (rds (rdT d) X = .inr done) := by show _ = _; rw [HEQ.out, rds_nil]; simp
            obtain ⟨sa, sc, rfl⟩ := own_sl HOW.out
            have hoks : okL 3 [.bool true, .slice none 0 0, .slice sa done.length sc] = true := rfl
            have HRR : Hid (rdT (d + 1) L = .ok (.list done) (h + n)) := by
              show _ = _
              rw [HR.out, HEQ2.out]
            clear hA
            go_wp2
            have hO : Only (· = w.heap.size) wr (wr.setCells w.heap.size 0 [.bool true, .slice none 0 0, .slice sa done.length sc]) := (Only.refl (· = w.heap.size) _).setCells (fun _ => rfl) _ _
            refine ret_row3 ty61 rfl _ _ _ rfl rfl rfl rfl (row?_setCells_whole _ hresf hoks) (readIs_ok HRR.out (HBW.out.setCells (Nat.le_refl _) _ _) ⟨sa, sc, rfl, fun hn => ?_⟩)
            obtain ⟨g, gc, hv, _, hnc, hcm, hrow, _⟩ := own_words HOW.out (List.length_pos_iff.2 hn)
            cases hv
            have hgq := HGE.out g rfl
            refine ⟨g, 0, css, rfl, hnc, hcm, by omega, ?_, HK.out.only hO (fun b _ hb => by omega) (fun b _ hb => by omega)⟩
            rw [hO.row? (World.row?_lt hrow) (by omega)]; exact hrow
          · have hlt : 0 < rest.length := List.length_pos_iff.2 hrest
            obtain ⟨rb, ro, hpr, _, _⟩ := HIR.out.at hlt
            cases hpr
            clear hA
            go_wp2_with fail
            refine (IH.out _ _ rest wr (HIR.out.below HBW.out) HBT.out (by have := HCN.out; omega)).mono ?_
            rintro e wc ⟨hbc, hrc⟩
            have fres : wc.free? w.heap.size 0 3 = true := by rw [(brow hbc).2 _ _ _ (free?_lt HRS.out)]; exact HRS.out
            have hszr := HBW.out.size
            have hszc := hbc.size
            have hresl := free?_lt HRS.out
            cases er : rdT d rest with
            | err x =>
              rw [er] at hrc
              simp only at hrc
              subst hrc
              have hx0 := rdT_errs d rest x er
              have dx : ((x : Int) == 0) = false := by simpa using hx0
              have HRR : Hid (rdT (d + 1) L = .err x) := by
                show _ = _
                rw [HR.out, HEQ.out, rds_err hrest er]
              have f15 : (wc.alloc (.cells itemZ.toArray 65)).free? wc.heap.size 0 3 = true := itemZ_row wc
              have fr2 : ((wc.alloc (.cells itemZ.toArray 65)).setCells wc.heap.size 0 itemZ).free? w.heap.size 0 3 = true := by
                rw [World.free?_setCells', World.free?_alloc_lt _ (free?_lt fres)]; exact fres
              have HBC := Lib.hid (HBW.out.trans (hbc.mono hszr))
              clear er hx0 hbc
              go_wp2
              refine ret_row3 ty61 rfl _ _ _ rfl rfl rfl rfl (row?_setCells_whole _ fr2 hok) (readIs_err HRR.out (((HBC.out.alloc HBC.out.size _).setCells HBC.out.size _ _).setCells (Nat.le_refl _) _ _))
            | ok t kq =>
              rw [er] at hrc
              obtain ⟨cs, rfl, htop⟩ := hrc
              have hkb := rdT_reads d rest t kq er
              have hkid := htop.kid
              have hcl := hkid.len
              have hcok := hkid.ok
              have hql : w.heap.size + 1 < wr.heap.size := HA.out.lt
              obtain ⟨W1, eW1⟩ : ∃ W1, W1 = (wc.alloc (.cells itemZ.toArray 65)).setCells wc.heap.size 0 cs := ⟨_, rfl⟩
              have o1 : Only (fun _ => False) wc W1 := by rw [eW1]; exact ((Only.refl (fun _ => False) wc).alloc _).setCells (fun hh => absurd hh (Nat.lt_irrefl _)) _ _
              have hA15 : Arr W1 wc.heap.size 3 cs := by rw [eW1]; exact (Arr.new wc 3 itemZ 65 rfl).setCells cs hcok
              have hsz1 : W1.heap.size = wc.heap.size + 1 := by rw [eW1]; simp
              obtain ⟨W2, eW2⟩ : ∃ W2, W2 = W1.alloc (.cells cs.toArray 65) := ⟨_, rfl⟩
              have o2 : Only (fun _ => False) wc W2 := by rw [eW2]; exact o1.alloc _
              have hsz2 : W2.heap.size = wc.heap.size + 1 + 1 := by rw [eW2]; simp [hsz1]
              have hsrc : SrcAt W2 (some ⟨wc.heap.size + 1, 0, none⟩) 1 1 3 cs := by
                rw [eW2, ← hsz1]; exact SrcAt.new W1 (m := 1) (size := 3) (cs := cs) 65 (0, 0) hcok 1
              have hown2 : W2.ownsRow 0 65 3 sv done.length css.flatten := Only.own (Only.own HOW.out (Only.of_below_size hbc) (fun _ _ h => h)) o2 (fun _ _ h => h)
              have hA1 : Arr W1 (w.heap.size + 1) 3 [.bool true, .slice none 0 0, sv] := (HA.out.only (S := fun _ => False) (Only.of_below_size hbc) (fun h => h)).only o1 (fun h => h)
              have hA2 : Arr W2 (w.heap.size + 1) 3 [.bool true, .slice none 0 0, sv] := by rw [eW2]; exact hA1.alloc _
              have c13 := hA1.cell (i := 2) (by omega) (v := sv) rfl
              have r15 := hA15.row
              have f15 : (wc.alloc (.cells itemZ.toArray 65)).free? wc.heap.size 0 3 = true := itemZ_row wc
              obtain ⟨ra2, rc2, hsl2, hI3⟩ := slice_rest HIR.out kq hkb.2
              have hlen2 : (rest.drop kq).length = rest.length - kq := List.length_drop
              have HSRC := Lib.hid hsrc
              have HOWN2 := Lib.hid hown2
              have HA2 := Lib.hid hA2
              have HKID := Lib.hid hkid
              have HKB := Lib.hid hkb
              have HI3 := Lib.hid hI3
              have HBC := Lib.hid hbc
              have HO2 := Lib.hid o2
              have HS2 := Lib.hid hsz2
              have HFR := Lib.hid fres
              have HQL := Lib.hid hql
              have HEQ2 : Hid (rds (rdT d) rest = match rds (rdT d) (rest.drop kq) with | .inl e => .inl e | .inr l => .inr (t.kid :: l)) := rds_ok (rdT_reads d) hrest er
              have HL2 := Lib.hid hlen2
              rw [eW1] at c13 r15
              rw [eW2, eW1] at hown2 hsrc
              have HSRC1 := Lib.hid hsrc
              have HOWN1 := Lib.hid hown2
              have HW2 : Hid (W2 = ((wc.alloc (.cells itemZ.toArray 65)).setCells wc.heap.size 0 cs).alloc (.cells cs.toArray 65)) := by show _ = _; rw [eW2, eW1]
              clear er htop hkb hkid hbc hA15 hsz1 hsz2 hsrc hown2 hA1 hA2 o1 o2 eW1 eW2 hI3 hszr hszc hresl hql hlen2
              go_wp2_with (at_builtin; go_must (refine wpList_app elem59 rfl _ _ rfl HOWN1.out rfl HSRC1.out rfl ?c1 ?c2 ?c3))
              case c1 => have := HCN.out; unfold maxLen; omega
              case c2 => have := HCN.out; omega
              case c3 =>
                intro v' w' ho hO' hg'
                rw [← HW2.out] at hO'
                obtain ⟨va, vc, rfl⟩ := own_sl ho
                have hAw := HA2.out.only hO' (fun hh => by have := HGE.out _ hh; omega)
                have fq := hAw.free1 (i := 2) (by omega)
                obtain ⟨w9, e9⟩ : ∃ w9, w9 = w'.setCell ⟨w.heap.size + 1, 2, none⟩ (.slice va (done.length + 1) vc) := ⟨_, rfl⟩
                have HE9 := Lib.hid e9
                have hq9 : Only (· = w.heap.size + 1) w' w9 := by rw [e9]; exact only_cell w' (w.heap.size + 1) 2 _
                -- what turns from the call on
                have hT : Only (fun b => sv.ownBlock = some b ∨ b = w.heap.size + 1) wc w9 := ((HO2.out.mono (fun _ hh => hh.elim)).trans hO' (fun i hh _ => .inl hh)).trans hq9 (fun i hh _ => .inr hh)
                have hTr : Only (fun b => sv.ownBlock = some b ∨ b = w.heap.size + 1) wr w9 := (Only.of_below_size HBC.out).trans hT (fun i hh _ => hh)
                have hszc := HBC.out.size
                have hszr := HBW.out.size
                have hql := HQL.out
                have hgl : ∀ g, sv.ownBlock = some g → g < wr.heap.size := ownsRow_lt HOW.out
                have hgv : ∀ g, (Value.slice va (done.length + 1) vc).ownBlock = some g → sv.ownBlock = some g ∨ wc.heap.size + 1 + 1 ≤ g := hg'
                have hge9 : ∀ g, (Value.slice va (done.length + 1) vc).ownBlock = some g → w.heap.size + 1 < g := fun g hg => by
                  rcases hgv g hg with h1 | h1
                  · exact HGE.out g h1
                  · omega
                have HNEW : Hid (RdLp w (w.heap.size + 1) (rdT d) X (.slice (some ⟨rb, ra2, none⟩) (rest.length - kq) rc2) w9 (done ++ [t.kid]) (rest.drop kq)) := by
                  refine ⟨HBW.out.trans (hTr.below hszr (fun i hi => hi.elim (fun h1 => by have := HGE.out i h1; omega) (fun h1 => by omega))), ?_, ⟨_, rc2, by rw [HL2.out], HI3.out, _, rfl⟩, fun x hx => HBT.out x (List.mem_of_mem_drop hx), ?_, ⟨.slice va (done.length + 1) vc, css ++ [cs], ?_, ?_, hge9, ?_⟩, ?_⟩
                  · rw [hT.free? (free?_lt HFR.out) (fun hh => hh.elim (fun h1 => by have := HGE.out _ h1; omega) (fun h1 => by omega))]; exact HFR.out
                  · rw [HEQ.out, HEQ2.out]
                    cases rds (rdT d) (rest.drop kq) with
                    | inl e => rfl
                    | inr l => simp
                  · rw [e9]; exact hAw.set (i := 2) (by omega) _
                  · have h1 := Only.own ho hq9 (fun g hg hh => by have := hge9 g hg; have : g = w.heap.size + 1 := hh; omega)
                    rw [List.flatten_append, List.length_append]
                    simpa using h1
                  · refine KidsAt.snoc (HK.out.only hTr (fun b hb hh hx => ?_) (fun b hb hh => ⟨hh.1, fun hx => ?_⟩)) (HKID.out.only hT (fun b hb hh hx => ?_) (fun b hb hh => ⟨by omega, fun hx => ?_⟩))
                    · rcases hx with h1 | h1
                      · exact hh.2 h1
                      · omega
                    · rcases hgv b hx with h1 | h1
                      · exact hh.2 h1
                      · omega
                    · rcases hx with h1 | h1
                      · have := hgl b h1; omega
                      · omega
                    · rcases hgv b hx with h1 | h1
                      · have := hgl b h1; omega
                      · omega
                  · rw [HL2.out, List.length_append, List.length_singleton]
                    have := HCN.out
                    have := HKB.out
                    omega
                clear ho hO' hg' hAw e9 hq9 hT hTr hszc hszr hql hgl hgv hge9
                go_wp2
                go_roundw
                case rel => exact ⟨done ++ [t.kid], rest.drop kq, by have := HNEW.out; rw [HE9.out] at this; exact this⟩
                case measure => show rest.length - kq < rest.length; have := HKB.out; omega
end Go.Proofs.YtikiciojfhfagaaGreat
namespace Go.Proofs.YtikiciojfhfagaaGreat
open Go.RowKit Go.Mun

theorem part_all : ∀ d, PartOk d := by
  intro d
  induction d with
  | zero =>
    intro a c L w hI hby hlen hd
    by_cases hs : L = [] ∨ L[0]?.getD 0 < 128
    · exact part_small 0 a c L w hI hby hs
    · have hne : L ≠ [] := fun h => hs (.inl h)
      have h1 : ¬ L[0]?.getD 0 < 128 := fun h => hs (.inr h)
      by_cases h2 : L[0]?.getD 0 < 192
      · exact part_bytes 0 a c L w hI hby hlen hne h1 h2
      · exact part_deep a c L w hI hby hne h2
  | succ d ih =>
    intro a c L w hI hby hlen hd
    by_cases hs : L = [] ∨ L[0]?.getD 0 < 128
    · exact part_small (d + 1) a c L w hI hby hs
    · have hne : L ≠ [] := fun h => hs (.inl h)
      have h1 : ¬ L[0]?.getD 0 < 128 := fun h => hs (.inr h)
      by_cases h2 : L[0]?.getD 0 < 192
      · exact part_bytes (d + 1) a c L w hI hby hlen hne h1 h2
      · exact part_list d ih hd a c L w hI hby hlen hne h2
end Go.Proofs.YtikiciojfhfagaaGreat
namespace Go.Proofs.YtikiciojfhfagaaGreat
open Go.RowKit Go.Mun

theorem ref_of_ok : RefOfOk := by
  intro R cs t w h hsz
  cases t with
  | bytes l => exact ref_Of_bytes h
  | list ks =>
    by_cases h7 : ks.length = 7
    · match ks, h7 with
      | [k0, k1, k2, k3, k4, k5, k6], _ => exact ref_Of_seven h (fun l hl => hsz _ l rfl (by rw [hl]; simp))
    · exact ref_Of_short h h7
theorem ref_read_tx (a : Option Addr) (c : Nat) (L : Bts) (w : World) (hI : Ints w .u8 a c L) (hby : Byt L) (hlen : L.length ≤ 16777216) :
    Calls Tryz.prog 24 #[.slice a L.length c] w fun e w' => ReadTxIs w w' (readK L) e :=
  ref_ReadTx part_all ref_of_ok a c L w hI hby hlen
end Go.Proofs.YtikiciojfhfagaaGreat
namespace Go.Proofs.YtikiciojfhfagaaGreat
open Go.RowKit Go.Mun

theorem eqA_refl (x : Nat) (w : World) : (binOp .eql 23 (.agg (beC 20 x).toArray) (.agg (beC 20 x).toArray)).run Tryz.prog w = .ok (.bool true) w := by
  have := eql_of (fun d => run_eq_beD (n := 20) Tryz.underlying23 Tryz.underlying5 (by kernel_rfl) (d + 1) x x w)
  simpa [beEq] using this
theorem eqW_refl (x : Nat) (w : World) : (binOp .eql 25 (.agg (beC 32 x).toArray) (.agg (beC 32 x).toArray)).run Tryz.prog w = .ok (.bool true) w := by
  have := eql_of (fun d => run_eq_beD (n := 32) Tryz.underlying25 Tryz.underlying5 (by kernel_rfl) (d + 1) x x w)
  simpa [beEq] using this
set_option maxRecDepth 100000 in
set_option maxHeartbeats 1000000 in
theorem same_tx (n p g : Int) (f to : Nat) (mk : Bool) (v : Nat) (d : Bts) (a1 a2 : Option Addr) (c1 c2 : Nat) (w : World) (h1 : Ints w .u8 a1 c1 d) (h2 : Ints w .u8 a2 c2 d) :
    Calls Tryz.prog 25 #[.agg (cat (txS ⟨n, p, g, f, to, mk, v, d⟩ (.slice a1 d.length c1))).toArray, .agg (cat (txS ⟨n, p, g, f, to, mk, v, d⟩ (.slice a2 d.length c2))).toArray] w fun e w' => e = .returned (.bool true) ∧ Below w.heap.size w w' := by
  have ha := eqA_refl f
  have hb := eqA_refl to
  have hw := eqW_refl v
  obtain ⟨X, hX⟩ : ∃ X, X = cat (txS ⟨n, p, g, f, to, mk, v, d⟩ (.slice a1 d.length c1)) := ⟨_, rfl⟩
  obtain ⟨Y, hY⟩ : ∃ Y, Y = cat (txS ⟨n, p, g, f, to, mk, v, d⟩ (.slice a2 d.length c2)) := ⟨_, rfl⟩
  have lX : X.length = 77 := by rw [hX]; exact txS_len _ _
  have lY : Y.length = 77 := by rw [hY]; exact txS_len _ _
  rw [← hX, ← hY]
  obtain ⟨w0, e0⟩ : ∃ w0, w0 = (w.alloc (.cells X.toArray 44)).alloc (.cells Y.toArray 44) := ⟨_, rfl⟩
  have hb0 : Below w.heap.size w w0 := by rw [e0]; exact ((Below.refl _ _).alloc (Nat.le_refl _) _).alloc (by simp) _
  have hr : w0.row? w.heap.size 0 77 = some X := by rw [e0, World.row?_alloc_lt _ (by simp)]; exact World.row?_alloc_at X 44 _ rfl lX
  have hs : w0.row? (w.heap.size + 1) 0 77 = some Y := by rw [e0]; exact World.row?_alloc_at Y 44 _ (by simp) lY
  rw [hX] at hr
  rw [hY] at hs
  have x0 : w0.cell? ⟨w.heap.size, 0, none⟩ = some (.int .i64 n) := cell_cat hr (i := 0) rfl (by simp [txS, offOf_succ, offOf_zero])
  have x1 : w0.cell? ⟨w.heap.size, 1, none⟩ = some (.int .i64 p) := cell_cat hr (i := 1) rfl (by simp [txS, offOf_succ, offOf_zero])
  have x2 : w0.cell? ⟨w.heap.size, 2, none⟩ = some (.int .i64 g) := cell_cat hr (i := 2) rfl (by simp [txS, offOf_succ, offOf_zero])
  have x5 : w0.cell? ⟨w.heap.size, 43, none⟩ = some (.bool mk) := cell_cat hr (i := 5) rfl (by simp [txS, offOf_succ, offOf_zero])
  have x7 : w0.cell? ⟨w.heap.size, 76, none⟩ = some (.slice a1 d.length c1) := cell_cat hr (i := 7) rfl (by simp [txS, offOf_succ, offOf_zero])
  have x3 : w0.row? w.heap.size 3 20 = some (beC 20 f) := row_cat hr (i := 3) rfl (by simp [txS, offOf_succ, offOf_zero]) (by simp)
  have x4 : w0.row? w.heap.size 23 20 = some (beC 20 to) := row_cat hr (i := 4) rfl (by simp [txS, offOf_succ, offOf_zero]) (by simp)
  have x6 : w0.row? w.heap.size 44 32 = some (beC 32 v) := row_cat hr (i := 6) rfl (by simp [txS, offOf_succ, offOf_zero]) (by simp)
  have y0 : w0.cell? ⟨(w.heap.size + 1), 0, none⟩ = some (.int .i64 n) := cell_cat hs (i := 0) rfl (by simp [txS, offOf_succ, offOf_zero])
  have y1 : w0.cell? ⟨(w.heap.size + 1), 1, none⟩ = some (.int .i64 p) := cell_cat hs (i := 1) rfl (by simp [txS, offOf_succ, offOf_zero])
  have y2 : w0.cell? ⟨(w.heap.size + 1), 2, none⟩ = some (.int .i64 g) := cell_cat hs (i := 2) rfl (by simp [txS, offOf_succ, offOf_zero])
  have y5 : w0.cell? ⟨(w.heap.size + 1), 43, none⟩ = some (.bool mk) := cell_cat hs (i := 5) rfl (by simp [txS, offOf_succ, offOf_zero])
  have y7 : w0.cell? ⟨(w.heap.size + 1), 76, none⟩ = some (.slice a2 d.length c2) := cell_cat hs (i := 7) rfl (by simp [txS, offOf_succ, offOf_zero])
  have y3 : w0.row? (w.heap.size + 1) 3 20 = some (beC 20 f) := row_cat hs (i := 3) rfl (by simp [txS, offOf_succ, offOf_zero]) (by simp)
  have y4 : w0.row? (w.heap.size + 1) 23 20 = some (beC 20 to) := row_cat hs (i := 4) rfl (by simp [txS, offOf_succ, offOf_zero]) (by simp)
  have y6 : w0.row? (w.heap.size + 1) 44 32 = some (beC 32 v) := row_cat hs (i := 6) rfl (by simp [txS, offOf_succ, offOf_zero]) (by simp)
  have q1 := run_bytes_string' (P := Tryz.prog) Tryz.underlying26 Tryz.underlying5 Tryz.underlying9 rfl (h1.below hb0)
  have q2 := run_bytes_string' (P := Tryz.prog) Tryz.underlying26 Tryz.underlying5 Tryz.underlying9 rfl (h2.below hb0)
  have HB := Lib.hid hb0
  have HE := Lib.hid e0
  generalize strOf d = S at *
  generalize d.length = m at *
  rw [e0] at x0 x1 x2 x3 x4 x5 x6 x7 y0 y1 y2 y3 y4 y5 y6 y7 q1 q2
  clear hX hY hr hs e0 hb0 h1 h2 lX lY
  cases mk with
  | true =>
    go_enter Tryz.func25, Tryz.ntmps25
    go_wp2
    rw [← HE.out]
    go_ret
    exact ⟨rfl, HB.out⟩
  | false =>
    go_enter Tryz.func25, Tryz.ntmps25
    go_wp2
    rw [← HE.out]
    go_ret
    exact ⟨rfl, HB.out⟩
end Go.Proofs.YtikiciojfhfagaaGreat
