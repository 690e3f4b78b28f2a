/-
  The reference's reader of items: bytes.
-/
import Derived.Test.YtikiciojfhfagaaGreatQKd9
set_option linter.unusedVariables false
set_option linter.unusedSimpArgs false
namespace Go.Proofs.YtikiciojfhfagaaGreat
open Go.RowKit Go.Mun

set_option maxRecDepth 100000 in
set_option maxHeartbeats 8000000 in
theorem part_bytes (d : Nat) (a : Option Addr) (c : Nat) (L : Bts) (w : World) (hI : Ints w .u8 a c L) (hby : Byt L) (hlen : L.length ≤ 16777216) (hne : L ≠ []) (h1 : ¬ L[0]?.getD 0 < 128) (h2 : L[0]?.getD 0 < 192) :
    Calls Tryz.prog 83 #[.slice a L.length c, .int .i64 (d : Int)] w fun e w' => ReadIs w w' (rdT d L) e := by
  have HRD := Lib.hid (rdT_bytes (d := d) hne h1 h2)
  have hok : okL 3 itemZ = true := itemZ_ok
  have hl : 0 < L.length := List.length_pos_iff.2 hne
  have hx0 : (0 : Int) ≤ L[0]?.getD 0 ∧ L[0]?.getD 0 < 256 := by rw [List.getElem?_eq_getElem hl]; exact hby _ (List.getElem_mem _)
  obtain ⟨k, hk⟩ : ∃ k : Nat, L[0]?.getD 0 = ((128 + k : Nat) : Int) := ⟨(L[0]?.getD 0 - 128).toNat, by omega⟩
  have hk64 : k < 64 := by omega
  have HHD := Lib.hid (Hd.mk' (L := L) hk64 (by rw [hk]; omega))
  have hand : bits .and .i64 ((128 + k : Nat) : Int) 63 = (k : Int) := and63i (128 + k) k (by omega) (by omega)
  have hI0 := hI.below ((Below.refl w.heap.size w).alloc (Nat.le_refl _) (.cells itemZ.toArray 65))
  have hf0 : (w.alloc (.cells itemZ.toArray 65)).free? w.heap.size 0 3 = true := itemZ_row w
  obtain ⟨b, off, rfl, hbl, hc⟩ := hI0.at hl
  have c0 := hc 0 hl
  rw [Nat.add_zero, hk] at c0
  have HC := Lib.hid hc
  have HBY := Lib.hid hby
  have HLN := Lib.hid hlen
  have HI := Lib.hid hI0
  have hll : (L.length == 0) = false := by simp; omega
  have hllz : ((L.length : Int) == 0) = false := by simp; omega
  generalize hx : ((128 + k : Nat) : Int) = x at *
  have hwx : IntKind.i64.wrap x = x := wrI _ (by omega) (by omega)
  have dx1 : decide (x < 128) = false := decide_eq_false (by omega)
  have dx2 : decide (x < 192) = true := decide_eq_true (by omega)
  have dx3 : decide (192 ≤ x) = false := decide_eq_false (by omega)
  have HX : Hid (x = ((128 + k : Nat) : Int)) := hx.symm
  have HL : Hid (0 < L.length ∧ L.length ≤ c) := ⟨hl, hI0.len⟩
  clear hI hby hlen hne h2 h1 hx0 hk hx hI0 hc hbl
  by_cases h55 : k ≤ 55
  · have d1 : decide ((55 : Int) < (k : Int)) = false := decide_eq_false (by omega)
    have wl1 : IntKind.i64.wrap ((L.length : Int) - 1) = (L.length : Int) - 1 := wrI _ (by have := HLN.out; omega) (by have := HLN.out; omega)
    by_cases hf : k + 1 ≤ L.length
    · have d86 : decide ((L.length : Int) - 1 < (k : Int)) = false := decide_eq_false (by omega)
      have hEQ : hdR L = some (1, k) := by rw [HHD.out.sh h55, if_pos hf]
      clear hf hk64 h55 HX
      go_enter Tryz.func83, Tryz.ntmps83
      have hle := hdR_le hEQ
      have hwn : IntKind.i64.wrap (1 + (k : Int)) = 1 + (k : Int) := wrI _ (by have := HLN.out; omega) (by have := HLN.out; omega)
      obtain ⟨o', c', hsl, hI2⟩ := slice_part HI.out 1 k hle.2
      rw [show ((1 + k : Nat) : Int) = 1 + (k : Int) by omega] at hsl
      rw [show ((1 : Nat) : Int) = 1 from rfl] at hsl
      have hpl : ((L.drop 1).take k).length = k := by rw [List.length_take, List.length_drop]; omega
      have HBL : Hid (Byt ((L.drop 1).take k)) := fun z hz => HBY.out z (List.mem_of_mem_drop (List.mem_of_mem_take hz))
      have HLE := Lib.hid hle
      have hRD := HRD.out
      unfold rdB at hRD
      rw [hEQ] at hRD
      simp only at hRD
      by_cases hn1 : k = 1
      · have hhl : 1 < L.length := by omega
        obtain ⟨b1, o1, ha1, hbl1, hc1⟩ := hI2.at (i := 0) (by rw [hpl]; omega)
        cases ha1
        have ck := hc1 0 (by rw [hpl]; omega)
        rw [Nat.add_zero, part_first L 1 k (by omega) hhl] at ck
        have hy0 : (0 : Int) ≤ L[1]?.getD 0 := by rw [List.getElem?_eq_getElem hhl]; exact (HBY.out _ (List.getElem_mem _)).1
        have dn : ((k : Int) == 1) = true := by rw [hn1]; rfl
        have hk0 : 0 < k := by omega
        have hk0z : (0 : Int) < (k : Int) := by omega
        by_cases hy : L[1]?.getD 0 < 128
        · rw [if_pos ⟨hn1, hy⟩] at hRD
          have HR := Lib.hid hRD
          have dy : decide (L[1]?.getD 0 < 128) = true := decide_eq_true hy
          generalize L[1]?.getD 0 = y at *
          clear hRD hc1 hI2 hle hEQ hn1
          go_wp2
          refine ret_row3 ty61 rfl _ _ _ rfl rfl rfl rfl (row?_setCells_whole _ hf0 hok) (readIs_err (x := 4) HR.out (((Below.refl _ _).alloc (Nat.le_refl _) _).setCells (Nat.le_refl _) _ _))
        · rw [if_neg (fun hh => hy hh.2)] at hRD
          have HR := Lib.hid hRD
          have dy : decide (L[1]?.getD 0 < 128) = false := decide_eq_false hy
          generalize L[1]?.getD 0 = y at *
          generalize hl2 : (L.drop 1).take k = l2 at *
          clear hRD hc1 hy hy0 hl2 hle hEQ hn1
          have HPL := Lib.hid hpl
          have HOW : Hid ((w.alloc (.cells itemZ.toArray 65)).ownsRow (w.alloc (.cells itemZ.toArray 65)).heap.size 5 1 (.slice none 0 0) 0 []) := World.ownsRow_nil _ _ _ _
          have HI2 := Lib.hid hI2
          have HFF := Lib.hid hf0
          clear hpl hI2 hf0
          go_wp2_with (at_builtin; go_must (refine wpList_append_intsN (base := (w.alloc (.cells itemZ.toArray 65)).heap.size) (n := 0) (xs := []) elem26 rfl _ _ rfl HOW.out rfl rfl HPL.out.symm HI2.out ?e1a ?e1b (Nat.le_refl _) ?_))
          case e1a => have := HLN.out; have := HLE.out; unfold maxLen; omega
          case e1b => have := HLN.out; have := HLE.out; omega
          intro v3 w3 ho3 hg3
          have H3 : OwnB (w.alloc (.cells itemZ.toArray 65)) w3 v3 l2 := by
            refine ⟨?_, (Below.refl _ _).grown hg3 (by simp) (fun k hk => by simp [Value.ownBlock] at hk)⟩
            rw [HPL.out]
            first
            | exact ho3
            | simpa using ho3
          have hnb := H3.new
          obtain ⟨a2, c2, rfl, hi2, hfr⟩ := hnb.read
          rw [HPL.out]
          have hf2 : w3.free? w.heap.size 0 3 = true := by rw [(brow hnb.below).2 _ _ _ (free?_lt HFF.out)]; exact HFF.out
          have HB2 := Lib.hid (((Below.refl w.heap.size w).alloc (Nat.le_refl _) (.cells itemZ.toArray 65)).trans (hnb.below.mono (by simp)))
          have HN2 := Lib.hid hi2
          have HFR := Lib.hid (fun p hp => Nat.lt_of_lt_of_le (free?_lt HFF.out) (hfr p hp))
          clear hnb hi2 hfr H3 ho3 hg3
          go_wp2
          have e : lay itemZ 1 [Value.slice a2 k c2] = [.bool false, .slice a2 k c2, .slice none 0 0] := rfl
          rw [e]
          have hO : Only (· = w.heap.size) w3 (w3.setCells w.heap.size 0 [.bool false, .slice a2 k c2, .slice none 0 0]) := (Only.refl (· = w.heap.size) _).setCells (fun _ => rfl) _ _
          refine ret_row3 ty61 rfl _ _ _ rfl rfl rfl rfl (row?_setCells_whole _ hf2 (by simp [okL, Value.oneCell'])) (readIs_ok (t := .bytes l2) (n := 1 + k) HR.out (HB2.out.setCells (Nat.le_refl _) _ _) ⟨a2, c2, by rw [HPL.out], Ints.only (S := (· = w.heap.size)) HN2.out hO (fun p hp => by have := HFR.out p hp; omega), fun _ p hp => Nat.le_of_lt (HFR.out p hp), HBL.out⟩)
      · have dn : ((k : Int) == 1) = false := by simp; omega
        rw [if_neg (fun hh => hn1 hh.1)] at hRD
        have HR := Lib.hid hRD
        generalize hl2 : (L.drop 1).take k = l2 at *
        clear hRD hl2 hle hEQ hn1
        have HPL := Lib.hid hpl
        have HOW : Hid ((w.alloc (.cells itemZ.toArray 65)).ownsRow (w.alloc (.cells itemZ.toArray 65)).heap.size 5 1 (.slice none 0 0) 0 []) := World.ownsRow_nil _ _ _ _
        have HI2 := Lib.hid hI2
        have HFF := Lib.hid hf0
        clear hpl hI2 hf0
        go_wp2_with (at_builtin; go_must (refine wpList_append_intsN (base := (w.alloc (.cells itemZ.toArray 65)).heap.size) (n := 0) (xs := []) elem26 rfl _ _ rfl HOW.out rfl rfl HPL.out.symm HI2.out ?e2a ?e2b (Nat.le_refl _) ?_))
        case e2a => have := HLN.out; have := HLE.out; unfold maxLen; omega
        case e2b => have := HLN.out; have := HLE.out; omega
        intro v3 w3 ho3 hg3
        have H3 : OwnB (w.alloc (.cells itemZ.toArray 65)) w3 v3 l2 := by
          refine ⟨?_, (Below.refl _ _).grown hg3 (by simp) (fun k hk => by simp [Value.ownBlock] at hk)⟩
          rw [HPL.out]
          first
          | exact ho3
          | simpa using ho3
        have hnb := H3.new
        obtain ⟨a2, c2, rfl, hi2, hfr⟩ := hnb.read
        rw [HPL.out]
        have hf2 : w3.free? w.heap.size 0 3 = true := by rw [(brow hnb.below).2 _ _ _ (free?_lt HFF.out)]; exact HFF.out
        have HB2 := Lib.hid (((Below.refl w.heap.size w).alloc (Nat.le_refl _) (.cells itemZ.toArray 65)).trans (hnb.below.mono (by simp)))
        have HN2 := Lib.hid hi2
        have HFR := Lib.hid (fun p hp => Nat.lt_of_lt_of_le (free?_lt HFF.out) (hfr p hp))
        clear hnb hi2 hfr H3 ho3 hg3
        go_wp2
        have e : lay itemZ 1 [Value.slice a2 k c2] = [.bool false, .slice a2 k c2, .slice none 0 0] := rfl
        rw [e]
        have hO : Only (· = w.heap.size) w3 (w3.setCells w.heap.size 0 [.bool false, .slice a2 k c2, .slice none 0 0]) := (Only.refl (· = w.heap.size) _).setCells (fun _ => rfl) _ _
        refine ret_row3 ty61 rfl _ _ _ rfl rfl rfl rfl (row?_setCells_whole _ hf2 (by simp [okL, Value.oneCell'])) (readIs_ok (t := .bytes l2) (n := 1 + k) HR.out (HB2.out.setCells (Nat.le_refl _) _ _) ⟨a2, c2, by rw [HPL.out], Ints.only (S := (· = w.heap.size)) HN2.out hO (fun p hp => by have := HFR.out p hp; omega), fun _ p hp => Nat.le_of_lt (HFR.out p hp), HBL.out⟩)
    · have d86 : decide ((L.length : Int) - 1 < (k : Int)) = true := decide_eq_true (by omega)
      have HR : Hid (rdT d L = .err 4) := by
        show _ = _
        rw [HRD.out]; unfold rdB; rw [HHD.out.sh h55, if_neg hf]
      clear hf hk64 h55 HX
      go_enter Tryz.func83, Tryz.ntmps83
      go_wp2
      refine ret_row3 ty61 rfl _ _ _ rfl rfl rfl rfl (row?_setCells_whole _ hf0 hok) (readIs_err (x := 4) HR.out (((Below.refl _ _).alloc (Nat.le_refl _) _).setCells (Nat.le_refl _) _ _))
  · obtain ⟨j, hj⟩ : ∃ j, j = k - 55 := ⟨_, rfl⟩
    have d1 : decide ((55 : Int) < (k : Int)) = true := decide_eq_true (by omega)
    have w2 : IntKind.i64.wrap ((k : Int) - 55) = (j : Int) := by rw [wrI _ (by omega) (by omega)]; omega
    obtain ⟨h, hh⟩ : ∃ h : Nat, h = 1 + j := ⟨_, rfl⟩
    have w3 : IntKind.i64.wrap (1 + (j : Int)) = (h : Int) := by rw [wrI _ (by omega) (by omega)]; omega
    have hj1 : 1 ≤ j ∧ j ≤ 8 ∧ h = 1 + j := by omega
    have HNO := Lib.hid (HHD.out.no j (by omega) hj)
    have HLO := Lib.hid (HHD.out.lo j (by omega) hj)
    have HJ := Lib.hid hj1
    clear hj h55 hk64 hj1 hh
    by_cases hs : L.length < 1 + j
    · have d2n : (L.length < h) = True := eq_true (by have := HJ.out; omega)
      have d2m : (h ≤ L.length) = False := eq_false (by have := HJ.out; omega)
      have d2 : decide ((L.length : Int) < (h : Int)) = true := decide_eq_true (by have := HJ.out; omega)
      have HR : Hid (rdT d L = .err 4) := by
        show _ = _
        rw [HRD.out]; unfold rdB; rw [HNO.out (.inl hs)]
      clear hs HX
      go_enter Tryz.func83, Tryz.ntmps83
      go_wp2
      refine ret_row3 ty61 rfl _ _ _ rfl rfl rfl rfl (row?_setCells_whole _ hf0 hok) (readIs_err (x := 4) HR.out (((Below.refl _ _).alloc (Nat.le_refl _) _).setCells (Nat.le_refl _) _ _))
    have d2n : (L.length < h) = False := eq_false (by have := HJ.out; omega)
    have d2m : (h ≤ L.length) = True := eq_true (by have := HJ.out; omega)
    have d2 : decide ((L.length : Int) < (h : Int)) = false := decide_eq_false (by have := HJ.out; omega)
    have hl1 : 1 < L.length := by have := HJ.out; omega
    have c1 := HC.out 1 hl1
    have HS := Lib.hid hs
    clear hs
    obtain ⟨z1, hz1⟩ : ∃ z1, L[1]?.getD 0 = z1 := ⟨_, rfl⟩
    rw [hz1] at c1
    have HZ1 := Lib.hid hz1
    clear hz1
    by_cases hz : z1 = 0
    · have HR : Hid (rdT d L = .err 4) := by
        show _ = _
        rw [HRD.out]; unfold rdB; rw [HNO.out (.inr (HZ1.out.trans hz))]
      rw [hz] at c1
      clear hz HX
      go_enter Tryz.func83, Tryz.ntmps83
      go_wp2
      refine ret_row3 ty61 rfl _ _ _ rfl rfl rfl rfl (row?_setCells_whole _ hf0 hok) (readIs_err (x := 4) HR.out (((Below.refl _ _).alloc (Nat.le_refl _) _).setCells (Nat.le_refl _) _ _))
    have hzb : (z1 == 0) = false := by simpa using hz
    have HLO2 := Lib.hid (HLO.out (fun h => h.elim HS.out (fun h => hz (HZ1.out.symm.trans h))))
    obtain ⟨w0, e0⟩ : ∃ w0, w0 = w.alloc (.cells itemZ.toArray 65) := ⟨_, rfl⟩
    have HLP := Lib.hid (HdLp.of HC.out HBY.out (j := j) (by have := HS.out; omega))
    rw [← e0] at HLP
    have HE := Lib.hid e0
    generalize hB : (fun q => beN ((L.drop 1).take q)) = B at *
    have HLO3 : Hid (hdR L = if B j ≤ 55 ∨ L.length < 1 + j + B j then none else some (1 + j, B j)) := by show _ = _; rw [← hB]; exact HLO2.out
    clear hz hB e0 HLO HLO2 HNO
    go_enter Tryz.func83, Tryz.ntmps83
    go_wp2
    rw [← HE.out]
    go_loopw [9, 12] (fun v i wr => ∃ q : Nat, q ≤ j ∧ i = .int .i64 q ∧ v = .int .i64 (B q : Nat) ∧ B q ≤ 4294967551 ∧ wr = w0) (fun _ i _ => j - (intOf i).toNat)
    case atStart => exact ⟨0, by omega, rfl, by rw [HLP.out.nil]; rfl, by rw [HLP.out.nil]; omega, rfl⟩
    case round =>
      obtain ⟨q, hq, rfl, rfl, hle0, rfl⟩ := hrel
      by_cases hlt : q < j
      · have hq8 : q < 8 := by have := HJ.out; omega
        obtain ⟨x2, hx256, ck, hst⟩ := HLP.out.cell q hlt
        by_cases hbig : 16777216 < B q
        · have d3 : decide ((16777216 : Int) < ((B q : Nat) : Int)) = true := decide_eq_true (by omega)
          have HR : Hid (rdT d L = .err 4) := by
            show _ = _
            rw [HRD.out]; unfold rdB; rw [HLO3.out, if_pos (.inr (by have := HLN.out; have := HLP.out.mono q hq; omega))]
          have hE := HE.out
          subst hE
          clear hbig ck hst
          go_wp2
          refine ret_row3 ty61 rfl _ _ _ rfl rfl rfl rfl (row?_setCells_whole _ hf0 hok) (readIs_err (x := 4) HR.out (((Below.refl _ _).alloc (Nat.le_refl _) _).setCells (Nat.le_refl _) _ _))
        · have d3 : decide ((16777216 : Int) < ((B q : Nat) : Int)) = false := decide_eq_false (by omega)
          have hor := i64_or_byte (B q) x2 (by omega) hx256
          have hw4 : IntKind.i64.wrap ((B q : Int) * 256) = (B q : Int) * 256 := wrI _ (by omega) (by omega)
          have hxw : IntKind.i64.wrap (x2 : Int) = x2 := wrI _ (by omega) (by omega)
          have hwi : IntKind.i64.wrap (1 + (q : Int)) = ((1 + q : Nat) : Int) := by rw [wrI _ (by omega) (by omega)]; omega
          have hil : 1 + q < L.length := by have := HS.out; omega
          rw [← hst] at hor
          have HST2 := Lib.hid hst
          have HBG := Lib.hid hbig
          have HX2 := Lib.hid hx256
          clear hst hbig hx256
          go_wp2
          go_roundw
          case rel => exact ⟨q + 1, by omega, by go_num, rfl, by have := HBG.out; have := HST2.out; have := HX2.out; omega, trivial⟩
          case measure => simp [intOf]; omega
      · have hqj : q = j := by omega
        subst hqj
        have w5 : IntKind.i64.wrap ((L.length : Int) - (h : Int)) = (L.length : Int) - h := wrI _ (by have := HLN.out; have := HJ.out; omega) (by have := HLN.out; have := HJ.out; omega)
        have hE := HE.out
        subst hE
        obtain ⟨n, hn0⟩ : ∃ n, n = B q := ⟨_, rfl⟩
        rw [← hn0]
        have HNB := Lib.hid hn0
        clear hn0 hle0
        by_cases hn : n ≤ 55
        · have d3 : decide ((n : Int) < 56) = true := decide_eq_true (by omega)
          have HR : Hid (rdT d L = .err 4) := by
            show _ = _
            rw [HRD.out]; unfold rdB; rw [HLO3.out, if_pos (.inl (by have := HNB.out; omega))]
          clear hn HX
          go_wp2
          refine ret_row3 ty61 rfl _ _ _ rfl rfl rfl rfl (row?_setCells_whole _ hf0 hok) (readIs_err (x := 4) HR.out (((Below.refl _ _).alloc (Nat.le_refl _) _).setCells (Nat.le_refl _) _ _))
        have d3 : decide ((n : Int) < 56) = false := decide_eq_false (by omega)
        by_cases hf : L.length < 1 + q + n
        · have d4 : decide ((L.length : Int) - h < (n : Int)) = true := decide_eq_true (by have := HJ.out; omega)
          have HR : Hid (rdT d L = .err 4) := by
            show _ = _
            rw [HRD.out]; unfold rdB; rw [HLO3.out, if_pos (.inr (by have := HNB.out; omega))]
          clear hn hf HX
          go_wp2
          refine ret_row3 ty61 rfl _ _ _ rfl rfl rfl rfl (row?_setCells_whole _ hf0 hok) (readIs_err (x := 4) HR.out (((Below.refl _ _).alloc (Nat.le_refl _) _).setCells (Nat.le_refl _) _ _))
        have d4 : decide ((L.length : Int) - h < (n : Int)) = false := decide_eq_false (by have := HJ.out; omega)
        have hEQ : hdR L = some (h, n) := by
          rw [HLO3.out, ← HNB.out, if_neg (by omega), HJ.out.2.2]
        have HN56 : 55 < n := by omega
        clear hn hf HX HLO3 HNB
        have hle := hdR_le hEQ
        have hwn : IntKind.i64.wrap ((h : Int) + (n : Int)) = (h : Int) + (n : Int) := wrI _ (by have := HLN.out; omega) (by have := HLN.out; omega)
        obtain ⟨o', c', hsl, hI2⟩ := slice_part HI.out h n hle.2
        rw [show ((h + n : Nat) : Int) = (h : Int) + (n : Int) by omega] at hsl
        have hpl : ((L.drop h).take n).length = n := by rw [List.length_take, List.length_drop]; omega
        have HBL : Hid (Byt ((L.drop h).take n)) := fun z hz => HBY.out z (List.mem_of_mem_drop (List.mem_of_mem_take hz))
        have HLE := Lib.hid hle
        have hRD := HRD.out
        unfold rdB at hRD
        rw [hEQ] at hRD
        simp only at hRD
        have dn : ((n : Int) == 1) = false := by simp; omega
        rw [if_neg (fun hh => by have := hh.1; omega)] at hRD
        have HR := Lib.hid hRD
        generalize hl2 : (L.drop h).take n = l2 at *
        clear hRD hl2 hle hEQ HN56
        have HPL := Lib.hid hpl
        have HOW : Hid ((w.alloc (.cells itemZ.toArray 65)).ownsRow (w.alloc (.cells itemZ.toArray 65)).heap.size 5 1 (.slice none 0 0) 0 []) := World.ownsRow_nil _ _ _ _
        have HI2 := Lib.hid hI2
        have HFF := Lib.hid hf0
        clear hpl hI2 hf0
        go_wp2_with (at_builtin; go_must (refine wpList_append_intsN (base := (w.alloc (.cells itemZ.toArray 65)).heap.size) (n := 0) (xs := []) elem26 rfl _ _ rfl HOW.out rfl rfl HPL.out.symm HI2.out ?e3a ?e3b (Nat.le_refl _) ?_))
        case e3a => have := HLN.out; have := HLE.out; unfold maxLen; omega
        case e3b => have := HLN.out; have := HLE.out; omega
        intro v3 w3 ho3 hg3
        have H3 : OwnB (w.alloc (.cells itemZ.toArray 65)) w3 v3 l2 := by
          refine ⟨?_, (Below.refl _ _).grown hg3 (by simp) (fun k hk => by simp [Value.ownBlock] at hk)⟩
          rw [HPL.out]
          first
          | exact ho3
          | simpa using ho3
        have hnb := H3.new
        obtain ⟨a2, c2, rfl, hi2, hfr⟩ := hnb.read
        rw [HPL.out]
        have hf2 : w3.free? w.heap.size 0 3 = true := by rw [(brow hnb.below).2 _ _ _ (free?_lt HFF.out)]; exact HFF.out
        have HB2 := Lib.hid (((Below.refl w.heap.size w).alloc (Nat.le_refl _) (.cells itemZ.toArray 65)).trans (hnb.below.mono (by simp)))
        have HN2 := Lib.hid hi2
        have HFR := Lib.hid (fun p hp => Nat.lt_of_lt_of_le (free?_lt HFF.out) (hfr p hp))
        clear hnb hi2 hfr H3 ho3 hg3
        go_wp2
        have e : lay itemZ 1 [Value.slice a2 n c2] = [.bool false, .slice a2 n c2, .slice none 0 0] := rfl
        rw [e]
        have hO : Only (· = w.heap.size) w3 (w3.setCells w.heap.size 0 [.bool false, .slice a2 n c2, .slice none 0 0]) := (Only.refl (· = w.heap.size) _).setCells (fun _ => rfl) _ _
        refine ret_row3 ty61 rfl _ _ _ rfl rfl rfl rfl (row?_setCells_whole _ hf2 (by simp [okL, Value.oneCell'])) (readIs_ok (t := .bytes l2) (n := h + n) HR.out (HB2.out.setCells (Nat.le_refl _) _ _) ⟨a2, c2, by rw [HPL.out], Ints.only (S := (· = w.heap.size)) HN2.out hO (fun p hp => by have := HFR.out p hp; omega), fun _ p hp => Nat.le_of_lt (HFR.out p hp), HBL.out⟩)
end Go.Proofs.YtikiciojfhfagaaGreat
