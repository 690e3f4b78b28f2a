/-
  The law: a transaction without a receiver makes an account.
-/
import Derived.Test.YtikiciojfhfagaaGreatQMk5
import Derived.Test.YtikiciojfhfagaaGreatQRef5
set_option linter.unusedVariables false
set_option linter.unusedSimpArgs false
namespace Go.Proofs.YtikiciojfhfagaaGreat
open Go.RowKit Go.Mun

theorem ex_eqlM {P : Program} (ρ : Operand → Value) (dst : Option Tmp) (x y : Operand) (t t2 ty : TypeId) (pos : String) (after : Array Edge) (gd : Option (Nat × Bool)) (w : World) {xs ys : Array Value} {r : Bool} (hm : P.eqGuardType P.depth t = false) (hx : ρ x = .agg xs) (hy : ρ y = .agg ys)
    (h : (binOp .eql t (.agg xs) (.agg ys)).run P w = .ok (.bool r) w) : (execOp ρ ⟨dst, .binOp .eql t x y t2, ty, pos, after, gd⟩).run P w = .ok (.value (.bool r)) w := by
  simp [execOp, hx, hy, Sem.run_bind, run_eqGuard_agg (hm := hm), h]
theorem eg23M : Tryz.prog.eqGuardType Tryz.prog.depth 23 = false := by kernel_rfl
theorem eg25M : Tryz.prog.eqGuardType Tryz.prog.depth 25 = false := by kernel_rfl
theorem eqM23 (x : Nat) (w : World) : (binOp .eql 23 (.agg (beC 20 x).toArray) (.agg (beC 20 x).toArray)).run Tryz.prog w = .ok (.bool true) w := by
  have := eql_of (fun d => run_eq_beD (n := 20) Tryz.underlying23 Tryz.underlying5 (by kernel_rfl) (d + 1) x x w)
  simpa [beEq] using this
theorem eqM25 (x : Nat) (w : World) : (binOp .eql 25 (.agg (beC 32 x).toArray) (.agg (beC 32 x).toArray)).run Tryz.prog w = .ok (.bool true) w := by
  have := eql_of (fun d => run_eq_beD (n := 32) Tryz.underlying25 Tryz.underlying5 (by kernel_rfl) (d + 1) x x w)
  simpa [beEq] using this
theorem ref_adM (w : World) : Calls Tryz.prog 10 #[.agg (beC 20 1).toArray, .int .i64 0] w fun e w' => e = .returned (.agg (beC 20 adM).toArray) ∧ Below w.heap.size w w' := by
  have h := ref_address (be 20 1) (be_len _ _) (fun x hx => by have := be20_byt 1 x hx; omega) ((0 : Nat) : Int) (by decide) (by decide) w
  rw [u8L_be20] at h
  have e0 : (((0 : Nat) : Int)) = 0 := rfl
  have h2 := adr_low 1 ((0 : Nat) : Int)
  rw [← adM_is] at h2
  generalize beC 20 1 = C at h ⊢
  refine h.mono ?_
  intro e w' hh
  rw [h2] at hh
  exact hh
theorem dataM_snoc : ∀ (l : Bts) (i : Nat) (x : Int), dataM i (l ++ [x]) = dataM i l ++ [96, x, 96, ((i + l.length : Nat) : Int), 83]
  | [], i, x => by simp [dataM]
  | y :: l, i, x => by
    simp only [List.cons_append, dataM, dataM_snoc l (i + 1) x, List.length_cons]
    rw [show i + 1 + l.length = i + (l.length + 1) by omega]
theorem bytM_of_wf {l : List Int} (h : ∀ i, i < l.length → (Lit.int .u8 (l[i]?.getD 0)).wf = true) : Byt l := by
  intro x hx
  obtain ⟨i, hi, rfl⟩ := List.mem_iff_getElem.1 hx
  have := wf_u8 (h i hi)
  rw [List.getElem?_eq_getElem hi] at this
  simp only [Option.getD_some] at this
  omega
/-- The data on its way. -/
structure DatR (w wr : World) (d : Value) (l : Bts) : Prop where
  below : Below w.heap.size w wr
  own : wr.ownsRow w.heap.size 5 1 d l.length (u8L l)
theorem ro_of_ints {w w' : World} {own : Own} {a : Option Addr} {c : Nat} {l : Bts} (hI : Ints w .u8 a c l) (hb : Byt l) (hn : l.length ≤ 1099511627776) (hlo : ∀ b, own b ≠ none → w.heap.size ≤ b) (hw : Below w.heap.size w w') : RoAt w' (fun b => own b ≠ none) (.slice a l.length c) l := by
  refine ⟨⟨a, c, rfl, hI.below hw, fun hne p hp hx => ?_⟩, hb, hn⟩
  obtain ⟨b, off, ha, hlt, _⟩ := hI.at (i := 0) (List.length_pos_iff.2 hne)
  rw [ha] at hp
  cases hp
  have := hlo b hx
  omega
/-- What the law reads behind the transaction. -/
structure MkB (tb rb ab : Nat) (X R : List Value) (a : Option Addr) (cap : Nat) (l : Bts) (W : World) : Prop where
  tx : W.row? tb 0 77 = some X
  rc : W.row? rb 0 24 = some R
  ad : W.row? ab 0 20 = some (beC 20 adM)
  i : Ints W .u8 a cap l
theorem MkB.next {tb rb ab : Nat} {X R : List Value} {a : Option Addr} {cap : Nat} {l : Bts} {W W' : World} (h : MkB tb rb ab X R a cap l W) (hb : Below W.heap.size W W') : MkB tb rb ab X R a cap l W' :=
  ⟨((brow hb).1 _ _ _ (World.row?_lt h.tx)).trans h.tx, ((brow hb).1 _ _ _ (World.row?_lt h.rc)).trans h.rc, ((brow hb).1 _ _ _ (World.row?_lt h.ad)).trans h.ad, h.i.below hb⟩
set_option maxRecDepth 100000 in
set_option maxHeartbeats 8000000 in
theorem txMakes_walk (a : Option Addr) (n cap : Nat) (l : List Int) (hn : n = l.length) (x : Int) (hx0 : -9223372036854775808 ≤ x ∧ x ≤ 9223372036854775807) (w : World) (hI : Ints w .u8 a cap l) (hby : Byt l) :
    Calls Tryz.prog 5 #[.slice a n cap, .int .i64 x] w fun e w' => e = .returned (.bool true) ∧ Below w.heap.size w w' := by
  have hA := Lib.hid (tx_alive w)
  have HI := Lib.hid hI
  have HN := Lib.hid hn
  have HBY := Lib.hid hby
  clear hI hn hby hx0
  go_enter Tryz.func5, Tryz.ntmps5
  go_wp2_with fail
  refine hA.out.mono ?_
  rintro e w1 ⟨rfl, hb1⟩
  have HB1 := Lib.hid hb1
  clear hb1 hA
  by_cases k0 : (n : Int) < 1
  · go_wp2
    go_ret
    exact ⟨rfl, HB1.out⟩
  have dk0 : decide ((n : Int) < 1) = false := decide_eq_false k0
  have HK0 := Lib.hid k0
  clear k0
  by_cases k1 : 20 < (n : Int)
  · go_wp2
    go_ret
    exact ⟨rfl, HB1.out⟩
  have dk1 : decide (20 < (n : Int)) = false := decide_eq_false k1
  have HK1 := Lib.hid k1
  clear k1
  by_cases k2 : x < 0
  · go_wp2
    go_ret
    exact ⟨rfl, HB1.out⟩
  have dk2 : decide (x < 0) = false := decide_eq_false k2
  have HK2 := Lib.hid k2
  clear k2
  by_cases k3 : 1000 < x
  · go_wp2
    go_ret
    exact ⟨rfl, HB1.out⟩
  have dk3 : decide (1000 < x) = false := decide_eq_false k3
  have HK3 := Lib.hid k3
  clear k3
  have HBD : Hid (1 ≤ n ∧ n ≤ 20 ∧ 0 ≤ x ∧ x ≤ 1000) := by
    have := HK0.out; have := HK1.out; have := HK2.out; have := HK3.out
    show _ ∧ _
    omega
  clear HK0 HK1 HK2 HK3
  go_wp2_with fail
  go_loopw [6, 7] (fun d i wr => ∃ k : Nat, k ≤ n ∧ i = .int .i64 (k : Int) ∧ DatR w1 wr d (dataM 0 (l.take k))) (fun _ i _ => n - (intOf i).toNat)
  case atStart => exact ⟨0, by omega, rfl, Below.refl _ _, World.ownsRow_nil _ _ _ _⟩
  case round =>
    obtain ⟨k, hk, rfl, hr⟩ := hrel
    clear dk0 dk1 dk2 dk3
    by_cases hlt : k < n
    · have hkn : k < l.length := by have := HN.out; omega
      have hlt2 : (k : Int) < (n : Int) := by omega
      have iw := HI.out.below (HB1.out.trans (hr.below.mono HB1.out.size))
      obtain ⟨b, off, ha, hbl, hcell⟩ := iw.at hkn
      have hc := hcell k hkn
      subst ha
      have hwr : IntKind.u8.wrap (k : Int) = (k : Int) := by have := HBD.out; rw [wr8 _ (by omega) (by omega)]
      have hlen : (dataM 0 (l.take k)).length = 5 * k := by rw [dataM_len, List.length_take]; omega
      have hsn : dataM 0 (l.take (k + 1)) = dataM 0 (l.take k) ++ [96, l[k]?.getD 0, 96, (k : Int), 83] := by
        rw [List.take_succ_eq_append_getElem hkn, dataM_snoc]
        have e1 : 0 + (l.take k).length = k := by rw [List.length_take]; omega
        rw [e1, List.getElem?_eq_getElem hkn]; rfl
      obtain ⟨y, hy⟩ : ∃ y, y = l[k]?.getD 0 := ⟨_, rfl⟩
      rw [← hy] at hc hsn
      obtain ⟨ea, ec, hd⟩ := own_slice hr.own
      have HO := Lib.hid hr.own
      have HR := Lib.hid hr.below
      have HSN := Lib.hid hsn
      have HLN := Lib.hid hlen
      have hkb : k ≤ 20 := by have := HBD.out; omega
      have HKB := Lib.hid hkb
      clear hr iw hcell hy hbl hsn hlen
      subst hd
      go_wp2_with (at_builtin; go_must (refine wpList_append_new elem26 rfl _ _ rfl HO.out rfl 5 rfl (cs := [.int .u8 96, .int .u8 y, .int .u8 96, .int .u8 (k : Int), .int .u8 83]) rfl ?d1 ?d2 ?d3 ?d4 ?_))
      case d1 => simp [go_sem]
      case d2 => unfold maxLen; have := HLN.out; have := HKB.out; omega
      case d3 => have := HLN.out; have := HKB.out; omega
      case d4 => exact HR.out.size
      intro v3 w3 ho3 hg3 _
      have HD3 : Hid (DatR w1 w3 v3 (dataM 0 (l.take (k + 1)))) := ⟨HR.out.grown hg3 HR.out.size (fun k hk => by have := (HO.out.lt k hk).1; omega), by
        rw [HSN.out]
        unfold u8L at ho3 ⊢
        simpa using ho3⟩
      clear ho3 hg3
      go_wp2_with fail
      go_roundw
      case rel => exact ⟨k + 1, by omega, by go_num, HD3.out⟩
      case measure => simp [intOf]; omega
    · have hkn : k = n := by omega
      subst hkn
      have hlt2 : ¬ (k : Int) < (k : Int) := by omega
      have hfull : l.take k = l := by rw [HN.out, List.take_length]
      rw [hfull] at hr
      obtain ⟨ea, ec, hd⟩ := own_slice hr.own
      have HO := Lib.hid hr.own
      have HR := Lib.hid hr.below
      have hlen := dataM_len l 0
      have HLN := Lib.hid hlen
      have hwr : IntKind.u8.wrap (k : Int) = (k : Int) := by have := HBD.out; rw [wr8 _ (by omega) (by omega)]
      clear hr hfull hlen hlt hk
      subst hd
      go_wp2_with (at_builtin; go_must (refine wpList_append_new elem26 rfl _ _ rfl HO.out rfl 5 rfl (cs := [.int .u8 96, .int .u8 (k : Int), .int .u8 96, .int .u8 0, .int .u8 243]) rfl ?e1 ?e2 ?e3 ?e4 ?_))
      case e2 => unfold maxLen; have := HLN.out; have := HN.out; have := HBD.out; omega
      case e3 => have := HLN.out; have := HN.out; have := HBD.out; omega
      case e4 => exact HR.out.size
      intro v2 w2 ho2 hg2 _
      have HD2 : Hid (DatR w1 w2 v2 (codeM l)) := ⟨HR.out.grown hg2 HR.out.size (fun k hk => by have := (HO.out.lt k hk).1; omega), by
        have e : codeM l = dataM 0 l ++ [96, (k : Int), 96, 0, 243] := by rw [HN.out]; rfl
        rw [e]
        unfold u8L at ho2 ⊢
        simpa using ho2⟩
      clear ho2 hg2 hwr hlt2
      obtain ⟨da, dc, hdv, _, hId⟩ := Ints.of_own' HD2.out.own
      obtain ⟨dl, hdl⟩ : ∃ dl, dl = (codeM l).length := ⟨_, rfl⟩
      rw [← hdl] at hdv
      subst hdv
      have HDL := Lib.hid hdl
      have HID := Lib.hid hId
      have HB2 := Lib.hid (HB1.out.trans (HD2.out.below.mono HB1.out.size))
      clear hdl hId HO HR HLN HD2
      have G1 := Lib.hid (fun w => ref_gen 1 (by decide) w)
      have N1 := Lib.hid (fun w => ref_name 1 (by decide) w)
      go_wp2_with fail
      refine (G1.out _).mono ?_
      rintro e w3 ⟨gv, rfl, hg⟩
      obtain ⟨b, c, rfl, hbge, hac⟩ := hg.accts (by decide) (by decide)
      have HB3 := Lib.hid (HB2.out.trans (hg.below.mono HB2.out.size))
      have HID3 := Lib.hid (HID.out.below hg.below)
      have HNW := Lib.hid (state_new b 0 c (genL 1) (by decide) w3 hac)
      clear hg hac hbge
      go_wp2_with fail
      refine HNW.out.mono ?_
      rintro e w4 ⟨sb, rfl, hb4, own, hst, hlo⟩
      have HST := Lib.hid hst
      have HLO := Lib.hid (fun b hb => Nat.le_trans HB3.out.size (hlo b hb))
      have HLO3 := Lib.hid hlo
      have HB4 := Lib.hid (HB3.out.trans (hb4.mono HB3.out.size))
      have HX4 := Lib.hid hb4
      clear hst hlo hb4
      go_wp2_with fail
      refine (N1.out _).mono ?_
      rintro e w5 ⟨rfl, hb5⟩
      have HST5 := Lib.hid (HST.out.below hb5)
      have HB5 := Lib.hid (HB4.out.trans (hb5.mono HB4.out.size))
      have HX5 := Lib.hid (HX4.out.trans (hb5.mono HX4.out.size))
      clear hb5
      obtain ⟨v, hv⟩ : ∃ v : Nat, x = v := ⟨x.toNat, by have := HBD.out; omega⟩
      subst hv
      have hvl : v ≤ 1000 := by have := HBD.out; omega
      have HVL := Lib.hid hvl
      have o0 := ofW_natT v (i64_wW (by omega))
      have OV := Lib.hid (fun w => ref_of (v : Int) (by omega) (by omega) w)
      rw [o0] at OV
      clear hvl o0
      go_wp2_with fail
      refine (OV.out _).mono ?_
      rintro e w6 ⟨rfl, hb6⟩
      have HST6 := Lib.hid (HST5.out.below hb6)
      have HB6 := Lib.hid (HB5.out.trans (hb6.mono HB5.out.size))
      have HX6 := Lib.hid (HX5.out.trans (hb6.mono HX5.out.size))
      clear hb6
      have hb44 := buildTxM l v da dl dc
      have hokx := txS_ok (txM l v) da dl dc
      obtain ⟨X, hX⟩ : ∃ X, X = cat (txS (txM l v) (.slice da dl dc)) := ⟨_, rfl⟩
      have lX : X.length = 77 := by rw [hX]; exact txS_len _ _
      rw [← hX] at hb44 hokx
      have f6 : (w6.alloc (.cells (cat zsN44).toArray 44)).free? w6.heap.size 0 77 = true := World.free?_alloc_at _ _ rfl (by simp [zsN44_len])
      obtain ⟨W6, eW6⟩ : ∃ W6, W6 = (w6.alloc (.cells (cat zsN44).toArray 44)).setCells w6.heap.size 0 X := ⟨_, rfl⟩
      have hs6 : Below w6.heap.size w6 W6 := by rw [eW6]; exact ((Below.refl _ _).alloc (Nat.le_refl _) _).setCells (Nat.le_refl _) _ _
      have A6 : Hid (Arr W6 w6.heap.size 77 X) := by show Arr _ _ _ _; rw [eW6]; exact (Arr.new w6 77 (cat zsN44) 44 zsN44_len).setCells _ hokx
      have HST7 := Lib.hid (HST6.out.below hs6)
      have HB7 := Lib.hid (HB6.out.trans (hs6.mono HB6.out.size))
      have HX7 := Lib.hid (HX6.out.trans (hs6.mono HX6.out.size))
      have r6 := A6.out.row
      rw [eW6] at r6
      have HE6 := Lib.hid eW6
      have HOW6 : Hid (own w6.heap.size = none) := free_own HST6.out.lows (Nat.le_refl _)
      have HXX := Lib.hid hX
      have HAP : Hid (Calls Tryz.prog 17 #[.pointer (some ⟨sb, 0, none⟩), .agg X.toArray, .agg (cat (ctxS ⟨0, 0, 0, 0, 0⟩)).toArray] W6 fun e w' =>
        ∃ (u : Int) (ov lv : Value) (own' : Own) (S' : St) (o : Outc), 53000 < u ∧ e = .returned (.tuple #[.agg (cat (recS 0 u ov lv adM)).toArray, .int .i64 0]) ∧ StateAt TU w' own' sb S' [] 200000 ∧ Chg W6 w' own own' ∧ OutAt w' own' W6.heap.size ov lv o ∧ (S' adM).code = l ∧ (S' adM).bal = v ∧ (S' 1).nonce = 1) := by
        show Calls _ _ _ _ _
        have hro := ro_of_ints HID3.out (codeM_byt HBY.out (by have := HN.out; have := HBD.out; omega)) (by rw [codeM_len]; have := HN.out; have := HBD.out; omega) HLO3.out HX7.out
        rw [← HDL.out] at hro
        rw [HXX.out]
        exact tx_makes_ok HST7.out hro HBY.out (by have := HN.out; have := HBD.out; omega) (by have := HN.out; have := HBD.out; omega) HVL.out (by decide)
      clear hX eW6 hs6
      go_wp2_with fail
      rw [← HE6.out]
      refine HAP.out.mono ?_
      rintro e w8 ⟨u, ov, lv, own2, S2, oc, hu, rfl, st8, g8, oa8, hcode, hbal, hnon⟩
      obtain ⟨oa1, ok1, lb1, lj1, rfl, rfl⟩ := oa8.forms
      have hokr := recS_ok 0 u oa1 lb1 oc.out.length ok1 oc.logs.length lj1 adM
      have hlr := recS_len 0 u (.slice oa1 oc.out.length ok1) (.slice lb1 oc.logs.length lj1) adM
      have HST8 := Lib.hid st8
      have hb68 : Below w.heap.size w w8 := Chg.belowGe g8 HB7.out HLO.out
      have HB8 := Lib.hid hb68
      have rx8 : w8.row? w6.heap.size 0 77 = some X := by rw [g8.only.row? A6.out.lt (fun hh => hh HOW6.out)]; exact A6.out.row
      have f8 : (w8.alloc (.cells (cat zsN39).toArray 39)).free? w8.heap.size 0 24 = true := (Arr.new w8 24 (cat zsN39) 39 zsN39_len).free
      obtain ⟨W8, eW8⟩ : ∃ W8, W8 = (w8.alloc (.cells (cat zsN39).toArray 39)).setCells w8.heap.size 0 (cat (recS 0 u (.slice oa1 oc.out.length ok1) (.slice lb1 oc.logs.length lj1) adM)) := ⟨_, rfl⟩
      have hs8 : Below w8.heap.size w8 W8 := by rw [eW8]; exact ((Below.refl _ _).alloc (Nat.le_refl _) _).setCells (Nat.le_refl _) _ _
      have A8 : Hid (Arr W8 w8.heap.size 24 (cat (recS 0 u (.slice oa1 oc.out.length ok1) (.slice lb1 oc.logs.length lj1) adM))) := by show Arr _ _ _ _; rw [eW8]; exact (Arr.new w8 24 (cat zsN39) 39 zsN39_len).setCells _ hokr
      have HST9 := Lib.hid (st8.below hs8)
      have HB9 := Lib.hid (HB8.out.trans (hs8.mono HB8.out.size))
      have rx9 : W8.row? w6.heap.size 0 77 = some X := ((brow hs8).1 _ _ _ (World.row?_lt rx8)).trans rx8
      have HRX9 := Lib.hid rx9
      have q3 : W8.row? w6.heap.size 3 20 = some (beC 20 1) := by
        rw [HXX.out] at rx9
        exact row_cat rx9 (i := 3) rfl (by simp [txS, offOf_succ, offOf_zero]) (by simp)
      have HE8 := Lib.hid eW8
      rw [eW8] at q3
      have HU := Lib.hid hu
      have HS2 := Lib.hid (And.intro hcode (And.intro hbal hnon))
      clear st8 g8 oa8 hu hcode hbal hnon hb68 rx8 eW8 hs8 rx9 r6 f6 hb44 hokx lX HAP
      go_wp2_with fail
      rw [← HE8.out]
      refine (ref_adM _).mono ?_
      rintro e w10 ⟨rfl, hb10⟩
      have hok10 := beC_ok 20 adM
      have f10 : (w10.alloc (.cells (zU8 20).toArray 23)).free? w10.heap.size 0 20 = true := (Arr.new w10 20 (zU8 20) 23 (by simp)).free
      obtain ⟨W10, eW10⟩ : ∃ W10, W10 = (w10.alloc (.cells (zU8 20).toArray 23)).setCells w10.heap.size 0 (beC 20 adM) := ⟨_, rfl⟩
      have hs10 : Below w10.heap.size w10 W10 := by rw [eW10]; exact ((Below.refl _ _).alloc (Nat.le_refl _) _).setCells (Nat.le_refl _) _ _
      have A10 : Arr W10 w10.heap.size 20 (beC 20 adM) := by rw [eW10]; exact (Arr.new w10 20 (zU8 20) 23 (by simp)).setCells _ hok10
      have hb810 : Below W8.heap.size W8 W10 := hb10.trans (hs10.mono hb10.size)
      have HST10 := Lib.hid ((HST9.out.below hb810).below (Below.refl _ _).drew)
      have HB10 := Lib.hid ((HB9.out.trans (hb810.mono HB9.out.size)).drew)
      have HBOX : MkB w6.heap.size w8.heap.size w10.heap.size X (cat (recS 0 u (.slice oa1 oc.out.length ok1) (.slice lb1 oc.logs.length lj1) adM)) a cap l W10.drew :=
        MkB.next (W := W10) ⟨((brow hb810).1 _ _ _ (World.row?_lt HRX9.out)).trans HRX9.out, ((brow hb810).1 _ _ _ A8.out.lt).trans A8.out.row, A10.row, HI.out.below (HB9.out.trans (hb810.mono HB9.out.size))⟩ (Below.refl _ _).drew
      obtain ⟨T, hT⟩ : ∃ T : World → Prop, T = MkB w6.heap.size w8.heap.size w10.heap.size X (cat (recS 0 u (.slice oa1 oc.out.length ok1) (.slice lb1 oc.logs.length lj1) adM)) a cap l := ⟨_, rfl⟩
      have t0 : T W10.drew := by rw [hT]; exact HBOX
      have HT := Lib.hid hT
      have HTB : Hid (∀ W W', T W → Below W.heap.size W W' → T W') := fun W W' h hb => by rw [HT.out] at h ⊢; exact h.next hb
      have HE10 := Lib.hid eW10
      have hdu : decide ((53000 : Int) < u) = true := decide_eq_true HU.out
      clear hb10 hs10 A10 hb810 HBOX hT eW10 q3 f8 hokr
      go_wp2_with fail
      rw [← HE10.out]
      refine wp_region_tree T [] (.pure 0 (.alt 1 (.pure 2 (.pure 3 (.pure 4 (.take 5 (.alt 6 (.pure 7 (.pure 8 (.pure 9 (.pure 10 (.take 11 (.take 12 (.pure 13 (.pure 14 (.pure 15 (.pure 16 (.take 17 (.pure 20 (.take 21 (.alt 18 (.alt 19 (.pure 22 (.pure 23 (.pure 24 (.pure 25 (.take 26 (.pure 28 (.alt 27 (.alt 29 (.pure 30 (.pure 31 (.pure 32 (.pure 33 (.pure 34 (.take 35 (.alt 36 (.pure 37 (.pure 38 (.pure 39 (.pure 40 (.take 41 (.pure 42 (.pure 43 (.pure 44 .fin)))))))) .stop))))))) .stop) .stop))))))) .stop) .stop)))))))))))))) .stop))))) .stop)) (by kernel_rfl) (by kernel_rfl) ?_
      refine tree_pure ?_ rfl (by rfl) (fun w' hs => ?_) (fun _ _ _ h => h) ?_
      rotate_left
      · clear hs
        go_simp
        try rfl
      simp only [Act.put, tsa, tsb, tsc]
      refine tree_run rfl (fun K hK => ?_)
      go_simp
      refine (num16 0 _).mono ?_
      rintro e wa ⟨rfl, rfl⟩
      refine hK.out _ _ t0 ?_
      clear hK K
      refine tree_pure ?_ rfl (by rfl) (fun w' hs => ?_) (fun _ _ _ h => h) ?_
      rotate_left
      · clear hs
        go_simp
        try rfl
      simp only [Act.put, tsa, tsb, tsc]
      refine tree_pure ?_ rfl (by rfl) (fun w' hs => ?_) (fun _ _ _ h => h) ?_
      rotate_left
      · clear hs
        go_simp
        try rfl
      simp only [Act.put, tsa, tsb, tsc]
      refine tree_pure ?_ rfl (by rfl) (fun w' hs => ?_) (fun _ _ _ h => h) ?_
      rotate_left
      · clear hs
        go_simp
        try rfl
      simp only [Act.put, tsa, tsb, tsc]
      refine tree_take ?_ t0 rfl (by rfl) (fun w' hs => ?_) (fun _ _ _ h => h) ?_
      rotate_left
      · rw [HT.out] at hs
        have q1 := hs.tx; have q2 := hs.rc; have q3 := hs.ad; have q4 := run_bytes_string' (P := Tryz.prog) Tryz.underlying26 Tryz.underlying5 Tryz.underlying9 HN.out hs.i; have q5 := rec0_err q2; have q6 := rec0_used q2; have q7 : w'.row? w8.heap.size 4 20 = some (beC 20 adM) := row_cat q2 (i := 4) rfl (by simp [recS, offOf_succ, offOf_zero]) (by simp); rw [HXX.out] at q1; have q8 : w'.row? w6.heap.size 3 20 = some (beC 20 1) := row_cat q1 (i := 3) rfl (by simp [txS, offOf_succ, offOf_zero]) (by simp)
        go_simp
        try rfl
      simp only [Act.put, tsa, tsb, tsc]
      refine tree_run rfl (fun K hK => ?_)
      go_simp
      refine (num16 0 _).mono ?_
      rintro e wb ⟨rfl, rfl⟩
      refine hK.out _ _ t0 ?_
      clear hK K
      refine tree_pure ?_ rfl (by rfl) (fun w' hs => ?_) (fun _ _ _ h => h) ?_
      rotate_left
      · clear hs
        go_simp
        try rfl
      simp only [Act.put, tsa, tsb, tsc]
      refine tree_pure ?_ rfl (by rfl) (fun w' hs => ?_) (fun _ _ _ h => h) ?_
      rotate_left
      · clear hs
        go_simp
        try rfl
      simp only [Act.put, tsa, tsb, tsc]
      refine tree_pure ?_ rfl (by rfl) (fun w' hs => ?_) (fun _ _ _ h => h) ?_
      rotate_left
      · clear hs
        go_simp
        try rfl
      simp only [Act.put, tsa, tsb, tsc]
      refine tree_pure ?_ rfl (by rfl) (fun w' hs => ?_) (fun _ _ _ h => h) ?_
      rotate_left
      · clear hs
        go_simp
        try rfl
      simp only [Act.put, tsa, tsb, tsc]
      refine tree_take ?_ t0 rfl (by rfl) (fun w' hs => ?_) (fun _ _ _ h => h) ?_
      rotate_left
      · rw [HT.out] at hs
        have q1 := hs.tx; have q2 := hs.rc; have q3 := hs.ad; have q4 := run_bytes_string' (P := Tryz.prog) Tryz.underlying26 Tryz.underlying5 Tryz.underlying9 HN.out hs.i; have q5 := rec0_err q2; have q6 := rec0_used q2; have q7 : w'.row? w8.heap.size 4 20 = some (beC 20 adM) := row_cat q2 (i := 4) rfl (by simp [recS, offOf_succ, offOf_zero]) (by simp); rw [HXX.out] at q1; have q8 : w'.row? w6.heap.size 3 20 = some (beC 20 1) := row_cat q1 (i := 3) rfl (by simp [txS, offOf_succ, offOf_zero]) (by simp)
        go_simp
        try rfl
      simp only [Act.put, tsa, tsb, tsc]
      refine tree_take ?_ t0 rfl (by rfl) (fun w' hs => ?_) (fun _ _ _ h => h) ?_
      rotate_left
      · rw [HT.out] at hs
        have q1 := hs.tx; have q2 := hs.rc; have q3 := hs.ad; have q4 := run_bytes_string' (P := Tryz.prog) Tryz.underlying26 Tryz.underlying5 Tryz.underlying9 HN.out hs.i; have q5 := rec0_err q2; have q6 := rec0_used q2; have q7 : w'.row? w8.heap.size 4 20 = some (beC 20 adM) := row_cat q2 (i := 4) rfl (by simp [recS, offOf_succ, offOf_zero]) (by simp); rw [HXX.out] at q1; have q8 : w'.row? w6.heap.size 3 20 = some (beC 20 1) := row_cat q1 (i := 3) rfl (by simp [txS, offOf_succ, offOf_zero]) (by simp)
        go_simp
        try rfl
      simp only [Act.put, tsa, tsb, tsc]
      refine tree_pure (.bool true) rfl (by rfl) (fun w' hs => ?_) (fun _ _ _ h => h) ?_
      · clear hs
        exact ex_eqlM _ _ _ _ _ _ _ _ _ _ _ eg23M rfl rfl (eqM23 _ _)
      simp only [Act.put, tsa, tsb, tsc]
      refine tree_pure ?_ rfl (by rfl) (fun w' hs => ?_) (fun _ _ _ h => h) ?_
      rotate_left
      · clear hs
        go_simp
        try rfl
      simp only [Act.put, tsa, tsb, tsc]
      refine tree_pure ?_ rfl (by rfl) (fun w' hs => ?_) (fun _ _ _ h => h) ?_
      rotate_left
      · clear hs
        go_simp
        try rfl
      simp only [Act.put, tsa, tsb, tsc]
      refine tree_pure ?_ rfl (by rfl) (fun w' hs => ?_) (fun _ _ _ h => h) ?_
      rotate_left
      · clear hs
        go_simp
        try rfl
      simp only [Act.put, tsa, tsb, tsc]
      refine tree_take ?_ t0 rfl (by rfl) (fun w' hs => ?_) (fun _ _ _ h => h) ?_
      rotate_left
      · rw [HT.out] at hs
        have q1 := hs.tx; have q2 := hs.rc; have q3 := hs.ad; have q4 := run_bytes_string' (P := Tryz.prog) Tryz.underlying26 Tryz.underlying5 Tryz.underlying9 HN.out hs.i; have q5 := rec0_err q2; have q6 := rec0_used q2; have q7 : w'.row? w8.heap.size 4 20 = some (beC 20 adM) := row_cat q2 (i := 4) rfl (by simp [recS, offOf_succ, offOf_zero]) (by simp); rw [HXX.out] at q1; have q8 : w'.row? w6.heap.size 3 20 = some (beC 20 1) := row_cat q1 (i := 3) rfl (by simp [txS, offOf_succ, offOf_zero]) (by simp)
        go_simp
        try rfl
      simp only [Act.put, tsa, tsb, tsc]
      refine tree_pure ?_ rfl (by rfl) (fun w' hs => ?_) (fun _ _ _ h => h) ?_
      rotate_left
      · clear hs
        go_simp
        try rfl
      simp only [Act.put, tsa, tsb, tsc]
      refine tree_take ?_ t0 rfl (by rfl) (fun w' hs => ?_) (fun _ _ _ h => h) ?_
      rotate_left
      · rw [HT.out] at hs
        have q1 := hs.tx; have q2 := hs.rc; have q3 := hs.ad; have q4 := run_bytes_string' (P := Tryz.prog) Tryz.underlying26 Tryz.underlying5 Tryz.underlying9 HN.out hs.i; have q5 := rec0_err q2; have q6 := rec0_used q2; have q7 : w'.row? w8.heap.size 4 20 = some (beC 20 adM) := row_cat q2 (i := 4) rfl (by simp [recS, offOf_succ, offOf_zero]) (by simp); rw [HXX.out] at q1; have q8 : w'.row? w6.heap.size 3 20 = some (beC 20 1) := row_cat q1 (i := 3) rfl (by simp [txS, offOf_succ, offOf_zero]) (by simp)
        go_simp
        try rfl
      simp only [Act.put, tsa, tsb, tsc]
      refine tree_run rfl (fun K hK => ?_)
      go_simp
      have hc := st_code HST10.out adM adM_lt
      rw [HS2.out.1] at hc
      refine hc.mono ?_
      rintro e w12 ⟨v5, rfl, hnb⟩
      have hb := hnb.below
      have HST12 := Lib.hid (HST10.out.below hb)
      have HB12 := Lib.hid (HB10.out.trans (hb.mono HB10.out.size))
      have t4 : T w12 := HTB.out _ _ t0 hb
      obtain ⟨⟨a5, c5, hv5, i5, _⟩, _⟩ := hnb
      subst hv5
      have cv1 := run_bytes_string' (P := Tryz.prog) Tryz.underlying26 Tryz.underlying5 Tryz.underlying9 rfl i5
      clear hb hc i5
      refine hK.out _ _ t4 ?_
      clear hK K
      refine tree_run rfl (fun K hK => ?_)
      go_simp
      refine hK.out _ _ t4 ?_
      clear hK K
      refine tree_pure ?_ rfl (by rfl) (fun w' hs => ?_) (fun _ _ _ h => h) ?_
      rotate_left
      · clear hs
        go_simp
        try rfl
      simp only [Act.put, tsa, tsb, tsc]
      refine tree_pure ?_ rfl (by rfl) (fun w' hs => ?_) (fun _ _ _ h => h) ?_
      rotate_left
      · clear hs
        go_simp
        try rfl
      simp only [Act.put, tsa, tsb, tsc]
      refine tree_pure ?_ rfl (by rfl) (fun w' hs => ?_) (fun _ _ _ h => h) ?_
      rotate_left
      · clear hs
        go_simp
        try rfl
      simp only [Act.put, tsa, tsb, tsc]
      refine tree_pure ?_ rfl (by rfl) (fun w' hs => ?_) (fun _ _ _ h => h) ?_
      rotate_left
      · clear hs
        go_simp
        try rfl
      simp only [Act.put, tsa, tsb, tsc]
      refine tree_take ?_ t4 rfl (by rfl) (fun w' hs => ?_) (fun _ _ _ h => h) ?_
      rotate_left
      · rw [HT.out] at hs
        have q1 := hs.tx; have q2 := hs.rc; have q3 := hs.ad; have q4 := run_bytes_string' (P := Tryz.prog) Tryz.underlying26 Tryz.underlying5 Tryz.underlying9 HN.out hs.i; have q5 := rec0_err q2; have q6 := rec0_used q2; have q7 : w'.row? w8.heap.size 4 20 = some (beC 20 adM) := row_cat q2 (i := 4) rfl (by simp [recS, offOf_succ, offOf_zero]) (by simp); rw [HXX.out] at q1; have q8 : w'.row? w6.heap.size 3 20 = some (beC 20 1) := row_cat q1 (i := 3) rfl (by simp [txS, offOf_succ, offOf_zero]) (by simp)
        go_simp
        try rfl
      simp only [Act.put, tsa, tsb, tsc]
      refine tree_pure ?_ rfl (by rfl) (fun w' hs => ?_) (fun _ _ _ h => h) ?_
      rotate_left
      · clear hs
        go_simp
        try rfl
      simp only [Act.put, tsa, tsb, tsc]
      refine tree_run rfl (fun K hK => ?_)
      go_simp
      have hc := st_balance HST12.out adM adM_lt
      rw [HS2.out.2.1] at hc
      refine hc.mono ?_
      rintro e w13 ⟨rfl, hb⟩
      have HST13 := Lib.hid (HST12.out.below hb)
      have HB13 := Lib.hid (HB12.out.trans (hb.mono HB12.out.size))
      have t5 : T w13 := HTB.out _ _ t4 hb
      clear hb hc
      refine hK.out _ _ t5 ?_
      clear hK K
      refine tree_run rfl (fun K hK => ?_)
      go_simp
      refine (OV.out _).mono ?_
      rintro e w14 ⟨rfl, hb⟩
      have HST14 := Lib.hid (HST13.out.below hb)
      have HB14 := Lib.hid (HB13.out.trans (hb.mono HB13.out.size))
      have t6 : T w14 := HTB.out _ _ t5 hb
      clear hb
      refine hK.out _ _ t6 ?_
      clear hK K
      refine tree_pure (.bool true) rfl (by rfl) (fun w' hs => ?_) (fun _ _ _ h => h) ?_
      · clear hs
        exact ex_eqlM _ _ _ _ _ _ _ _ _ _ _ eg25M rfl rfl (eqM25 _ _)
      simp only [Act.put, tsa, tsb, tsc]
      refine tree_pure ?_ rfl (by rfl) (fun w' hs => ?_) (fun _ _ _ h => h) ?_
      rotate_left
      · clear hs
        go_simp
        try rfl
      simp only [Act.put, tsa, tsb, tsc]
      refine tree_pure ?_ rfl (by rfl) (fun w' hs => ?_) (fun _ _ _ h => h) ?_
      rotate_left
      · clear hs
        go_simp
        try rfl
      simp only [Act.put, tsa, tsb, tsc]
      refine tree_pure ?_ rfl (by rfl) (fun w' hs => ?_) (fun _ _ _ h => h) ?_
      rotate_left
      · clear hs
        go_simp
        try rfl
      simp only [Act.put, tsa, tsb, tsc]
      refine tree_pure ?_ rfl (by rfl) (fun w' hs => ?_) (fun _ _ _ h => h) ?_
      rotate_left
      · clear hs
        go_simp
        try rfl
      simp only [Act.put, tsa, tsb, tsc]
      refine tree_take ?_ t6 rfl (by rfl) (fun w' hs => ?_) (fun _ _ _ h => h) ?_
      rotate_left
      · rw [HT.out] at hs
        have q1 := hs.tx; have q2 := hs.rc; have q3 := hs.ad; have q4 := run_bytes_string' (P := Tryz.prog) Tryz.underlying26 Tryz.underlying5 Tryz.underlying9 HN.out hs.i; have q5 := rec0_err q2; have q6 := rec0_used q2; have q7 : w'.row? w8.heap.size 4 20 = some (beC 20 adM) := row_cat q2 (i := 4) rfl (by simp [recS, offOf_succ, offOf_zero]) (by simp); rw [HXX.out] at q1; have q8 : w'.row? w6.heap.size 3 20 = some (beC 20 1) := row_cat q1 (i := 3) rfl (by simp [txS, offOf_succ, offOf_zero]) (by simp)
        go_simp
        try rfl
      simp only [Act.put, tsa, tsb, tsc]
      refine tree_run rfl (fun K hK => ?_)
      go_simp
      have hc := st_nonce HST14.out 1 (by decide)
      rw [HS2.out.2.2] at hc
      refine hc.mono ?_
      rintro e w15 ⟨rfl, hb⟩
      have HST15 := Lib.hid (HST14.out.below hb)
      have HB15 := Lib.hid (HB14.out.trans (hb.mono HB14.out.size))
      have t7 : T w15 := HTB.out _ _ t6 hb
      clear hb hc
      refine hK.out _ _ t7 ?_
      clear hK K
      refine tree_pure ?_ rfl (by rfl) (fun w' hs => ?_) (fun _ _ _ h => h) ?_
      rotate_left
      · clear hs
        go_simp
        try rfl
      simp only [Act.put, tsa, tsb, tsc]
      refine tree_pure ?_ rfl (by rfl) (fun w' hs => ?_) (fun _ _ _ h => h) ?_
      rotate_left
      · clear hs
        go_simp
        try rfl
      simp only [Act.put, tsa, tsb, tsc]
      refine tree_pure ?_ rfl (by rfl) (fun w' hs => ?_) (fun _ _ _ h => h) ?_
      rotate_left
      · clear hs
        go_simp
        try rfl
      simp only [Act.put, tsa, tsb, tsc]
      refine tree_pure ?_ rfl (by rfl) (fun w' hs => ?_) (fun _ _ _ h => h) ?_
      rotate_left
      · clear hs
        go_simp
        try rfl
      simp only [Act.put, tsa, tsb, tsc]
      refine tree_take ?_ t7 rfl (by rfl) (fun w' hs => ?_) (fun _ _ _ h => h) ?_
      rotate_left
      · rw [HT.out] at hs
        have q1 := hs.tx; have q2 := hs.rc; have q3 := hs.ad; have q4 := run_bytes_string' (P := Tryz.prog) Tryz.underlying26 Tryz.underlying5 Tryz.underlying9 HN.out hs.i; have q5 := rec0_err q2; have q6 := rec0_used q2; have q7 : w'.row? w8.heap.size 4 20 = some (beC 20 adM) := row_cat q2 (i := 4) rfl (by simp [recS, offOf_succ, offOf_zero]) (by simp); rw [HXX.out] at q1; have q8 : w'.row? w6.heap.size 3 20 = some (beC 20 1) := row_cat q1 (i := 3) rfl (by simp [txS, offOf_succ, offOf_zero]) (by simp)
        go_simp
        try rfl
      simp only [Act.put, tsa, tsb, tsc]
      refine tree_pure ?_ rfl (by rfl) (fun w' hs => ?_) (fun _ _ _ h => h) ?_
      rotate_left
      · clear hs
        go_simp
        try rfl
      simp only [Act.put, tsa, tsb, tsc]
      refine tree_pure ?_ rfl (by rfl) (fun w' hs => ?_) (fun _ _ _ h => h) ?_
      rotate_left
      · clear hs
        go_simp
        try rfl
      simp only [Act.put, tsa, tsb, tsc]
      refine tree_pure ?_ rfl (by rfl) (fun w' hs => ?_) (fun _ _ _ h => h) ?_
      rotate_left
      · clear hs
        go_simp
        try rfl
      simp only [Act.put, tsa, tsb, tsc]
      refine tree_fin ?_
      clear t0 t4 t5 t6 t7
      go_wp2
      go_ret
      exact ⟨rfl, HB15.out⟩
theorem txMakes_law (a : Option Addr) (n cap : Nat) (l : List Int) (hn : n = l.length) {w : World} (hI : Ints w .u8 a cap l) (hw : ∀ i, i < l.length → (Lit.int .u8 (l[i]?.getD 0)).wf = true) (a1 : Int) (h1 : (Lit.int .i64 a1).wf = true) (w' : World) (e : w' = w := by rfl) :
    Calls Tryz.prog 5 #[.slice a n cap, .int .i64 a1] w' fun e w2 => e = .returned (.bool true) ∧ Below w'.heap.size w' w2 := by
  subst e; exact txMakes_walk a n cap l hn a1 (wf_i64 h1) w' hI (bytM_of_wf hw)
end Go.Proofs.YtikiciojfhfagaaGreat
