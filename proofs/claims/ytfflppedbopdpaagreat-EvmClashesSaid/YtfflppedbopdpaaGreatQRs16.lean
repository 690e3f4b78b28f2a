/-
  The reference's Accounts.
  The reference's Move.
  The reference's NewState, of accounts without slots.
  The reference's table of instructions: contracts of table, Digits, ranges, all (turned from another seat's texts).
  The reference's table of instructions: ranges, all (turned from another seat's texts).
  The law's accounts: one with a code.
  The law's example: it holds.
-/
import Derived.Test.YtfflppedbopdpaaGreatQRw2
import Derived.Test.YtfflppedbopdpaaGreatQNw1
import Derived.Test.YtfflppedbopdpaaGreatQOps1
import Derived.Deep.RegionHeld3
import Derived.Test.YtfflppedbopdpaaGreatQRef1
set_option linter.unusedVariables false
set_option maxRecDepth 1000000
set_option maxHeartbeats 8000000
set_option linter.unusedSimpArgs false
namespace Go.Proofs.YtfflppedbopdpaaGreat
open Go.RowKit Go.Mun

structure AccsX (S : St) (n : Nat) (L : List RAc) : Prop where
 up : Rising L
 acc : ∀ x ∈ L, x.acc = S x.ac.addr ∧ ¬ (S x.ac.addr).empty
 all : ∀ a, ¬ (S a).empty → ∃ x ∈ L, x.ac.addr = a
 well : ∀ x ∈ L, RacB x ∧ x.slots.length ≤ n ∧ (x.slots.map Prod.fst).Pairwise (· < ·) ∧ ∀ q ∈ x.slots, q.2 ≠ 0
 len : L.length ≤ n
theorem emptyX_iff {x : RAc} (h0 : 0 ≤ x.ac.nonce) (hp : (x.slots.map Prod.fst).Pairwise (· < ·)) (hz : ∀ q ∈ x.slots, q.2 ≠ 0) : emptyX x = true ↔ x.acc.empty := by
 unfold emptyX Acc.empty RAc.acc
 simp only [Bool.and_eq_true, decide_eq_true_eq]
 constructor
 ·rintro ⟨⟨⟨h1, h2⟩, h3⟩, h4⟩
  exact ⟨by rw [h1]; rfl, h2, h3, fun k => by rw [h4]; rfl⟩
 ·rintro ⟨h1, h2, h3, h4⟩
  refine ⟨⟨⟨by omega, h2⟩, h3⟩, ?_⟩
  match hs : x.slots with
  | [] => rfl
  | q :: r =>
   have h5 := h4 q.1
   rw [hs] at h5
   have h6 := hz q (by rw [hs]; simp)
   simp [getA] at h5
   exact absurd h5 h6
def liveR (ps : List (RAc × Value × Value)) : List (RAc × Value × Value) := ps.filter fun p => !emptyX p.1
theorem live_accs {w : World} {own : Go.Mun.Own} {ps : List (RAc × Value × Value)} {n : Nat} (hu : Rising (fsts ps)) (hok : ∀ p ∈ ps, RAcOk w own p) (hw : RWell ps n) {L : List RAc} (hL : L = fsts (liveR ps)) : AccsX (rst (fsts ps)) n L := by
 subst hL
 have hmem : ∀ x ∈ fsts (liveR ps), ∃ p ∈ ps, p.1 = x ∧ emptyX x = false := by
  intro x hx
  obtain ⟨p, hp, rfl⟩ := List.mem_map.1 hx
  obtain ⟨h1, h2⟩ := List.mem_filter.1 hp
  exact ⟨p, h1, rfl, by simpa using h2⟩
 have hacc : ∀ p ∈ ps, p.1.acc = rst (fsts ps) p.1.ac.addr := by
  intro p hp
  obtain ⟨i, hi⟩ := List.mem_iff_getElem?.1 hp
  exact (rst_some hu (i := i) (x := p.1) (by unfold fsts; rw [List.getElem?_map, hi]; rfl)).symm
 refine ⟨?_, fun x hx => ?_, fun a ha => ?_, fun x hx => ?_, ?_⟩
 ·unfold Rising fsts liveR at *
  exact hu.sublist (List.Sublist.map _ (List.Sublist.map _ List.filter_sublist))
 ·obtain ⟨p, hp, rfl, he⟩ := hmem x hx
  have h1 := hacc p hp
  refine ⟨h1, fun h => ?_⟩
  rw [← h1] at h
  have := (emptyX_iff (hok p hp).nonce.1 (hw.slots p hp).2.1 (hw.slots p hp).2.2).2 h
  rw [he] at this; cases this
 ·by_cases hx : ∃ p ∈ ps, p.1.ac.addr = a
  ·obtain ⟨p, hp, rfl⟩ := hx
   refine ⟨p.1, List.mem_map.2 ⟨p, List.mem_filter.2 ⟨hp, ?_⟩, rfl⟩, rfl⟩
   cases he : emptyX p.1 with
   | false => rfl
   | true =>
    have := (emptyX_iff (hok p hp).nonce.1 (hw.slots p hp).2.1 (hw.slots p hp).2.2).1 he
    rw [hacc p hp] at this
    exact absurd this ha
  ·exfalso
   apply ha
   rw [rst_none (fun x hx2 e => by obtain ⟨p, hp, rfl⟩ := List.mem_map.1 hx2; exact hx ⟨p, hp, e⟩)]
   exact ⟨rfl, rfl, rfl, fun _ => rfl⟩
 ·obtain ⟨p, hp, rfl, _⟩ := hmem x hx
  exact ⟨rac_b (hok p hp), hw.slots p hp⟩
 ·have h1 : (fsts (liveR ps)).length ≤ ps.length := by unfold fsts liveR; rw [List.length_map]; exact List.length_filter_le _ _
  exact Nat.le_trans h1 hw.len
theorem r_accounts {w : World} {own : Go.Mun.Own} {sb n : Nat} {S : St} {M : List (Nat × St)} (h : RState w own sb S M n) (hn : n ≤ 1000000) :
  Calls Tryz.prog 42 #[.pointer (some ⟨sb, 0, none⟩)] w fun e w' => ∃ v ds, e = .returned v ∧ CopR w w' v ds ∧ AccsX S n (fsts ds) := by
 obtain ⟨lv, mv, ps, ms, x0, h1, rfl, _, hw, _, _⟩ := h
 have hpl : ps.length ≤ 1000000 := Nat.le_trans hw.len hn
 obtain ⟨la, lc, rfl⟩ := h1.arr.form
 have HLIVE : Hid (∀ {L : List RAc}, L = fsts (liveR ps) → AccsX (rst (fsts ps)) n L) := fun hL => live_accs h1.up h1.arr.ok hw hL
 obtain ⟨m, hm⟩ : ∃ m, m = ps.length := ⟨_, rfl⟩
 have H1 := Lib.hid h1
 have HM := Lib.hid hm
 rw [← hm] at hpl
 clear h1 hm hw
 go_enter Tryz.func42, Tryz.ntmps42
 go_wp2_with fail
 go_loopw [3, 4] (fun u ix wr => ∃ (k : Nat) (os : List (RAc × Value × Value)), k ≤ m ∧ ix = .int .i64 (k : Int) ∧ Hid (Below w.heap.size w wr ∧ os = liveR (ps.take k) ∧ wr.ownsRow w.heap.size 35 55 u os.length (rowsR os))) (fun _ ix _ => m - (intOf ix).toNat)
 case atStart => exact ⟨0, [], by omega, rfl, Below.refl _ _, by simp [liveR], World.ownsRow_nil _ _ _ _⟩
 case round =>
  obtain ⟨k, os, hk, rfl, HR⟩ := hrel
  have hw2 : RStC wr own sb (.slice la ps.length lc) mv ps ms x0 := H1.out.only (S := fun _ => False) (Only.of_below_size HR.out.1) (fun _ h => h.elim)
  have c0 := World.row?_cell hw2.row (i := 0) (by omega)
  simp only [Nat.zero_add, List.getElem?_cons_zero] at c0
  rw [← HM.out] at c0
  have HW2 := Lib.hid hw2
  clear hw2
  by_cases hkm : k < m
  ·have hkp : k < ps.length := by have := HM.out; omega
   have hI : (k : Int) < m := by omega
   have hdk : decide ((k : Int) < (m : Int)) = true := decide_eq_true hI
   have hdn : (k < m) = True := eq_true hkm
   obtain ⟨g, c', hlv, hgo, hrow, hfr⟩ := HW2.out.arr.row hkp
   cases hlv
   obtain ⟨P, hP⟩ : ∃ P, P = ps[k]'hkp := ⟨_, rfl⟩
   have hPm : P ∈ ps := by rw [hP]; exact List.getElem_mem hkp
   have hPo := HW2.out.arr.ok P hPm
   obtain ⟨⟨⟨ca, cc, ecv, _⟩, _⟩, ⟨⟨sa, sc, esv, _⟩, _⟩⟩ := rac_src hPo
   have HEM := Lib.hid (fun W => ref_empty ecv esv hPo.bal W)
   have hol : os.length ≤ 1000000 := by
    rw [HR.out.2.1]
    have h1 : (liveR (ps.take k)).length ≤ (ps.take k).length := List.length_filter_le _ _
    rw [List.length_take] at h1
    omega
   have HTK : Hid (ps.take (k + 1) = ps.take k ++ [P]) := by
    show _ = _
    rw [List.take_add_one, List.getElem?_eq_getElem hkp, hP]; rfl
   have hr1 : wr.row? g (k * 55) 55 = some (racC P) := by rw [hP]; exact hrow
   have hokc := racC_ok' ecv esv
   obtain ⟨C, hC⟩ : ∃ C, C = racC P := ⟨_, rfl⟩
   rw [← hC] at hr1 hokc HEM
   have hcl := okL_len hokc
   have HC := Lib.hid hC
   have hglt := World.row?_lt hr1
   have hsbl := World.block_lt_of_cell? _ _ c0
   clear hrow hfr hC hP hPo ecv esv hgo
   cases hem : emptyX P.1 with
   | true =>
    rw [hem] at HEM
    have HN : Hid (os = liveR (ps.take (k + 1))) := by
     show _ = _
     rw [HTK.out]; unfold liveR; rw [List.filter_append]
     have : [P].filter (fun p => !emptyX p.1) = [] := by simp [hem]
     rw [this, List.append_nil]; exact HR.out.2.1
    go_wp2_with fail
    refine (HEM.out _).mono ?_
    rintro e w3 ⟨rfl, hb3⟩
    have HB3 : Hid (Below w.heap.size w w3 ∧ w3.ownsRow w.heap.size 35 55 _ os.length (rowsR os)) := ⟨HR.out.1.trans (hb3.mono HR.out.1.size), ownsRow_below HR.out.2.2 hb3⟩
    clear hb3 hr1
    go_wp2
    go_roundw
    case rel => exact ⟨k + 1, os, by omega, by go_num, HB3.out.1, HN.out, HB3.out.2⟩
    case measure => simp [intOf]; omega
   | false =>
    rw [hem] at HEM
    go_wp2_with fail
    refine (HEM.out _).mono ?_
    rintro e w3 ⟨rfl, hb3⟩
    have HB3 : Hid (Below w.heap.size w w3 ∧ w3.ownsRow w.heap.size 35 55 _ os.length (rowsR os)) := ⟨HR.out.1.trans (hb3.mono HR.out.1.size), ownsRow_below HR.out.2.2 hb3⟩
    have hr3 : w3.row? g (k * 55) 55 = some C := ((brow hb3).1 _ _ _ hglt).trans hr1
    have c3 := (hb3.cell (p := ⟨sb, 0, none⟩) hsbl).trans c0
    have hszw := HB3.out.1.size
    clear hb3 hr1
    go_wp2_with (at_builtin; go_must (refine wpList_append_at (base := w.heap.size) (n := os.length) (xs := rowsR os) elemG rfl _ _ rfl rfl rfl HB3.out.2 rfl (by simpa using hokc) ?f1 ?f2 ?f3 ?_))
    case f1 => unfold maxLen; omega
    case f2 => omega
    case f3 => exact hszw
    intro v9 w9 hv9 hg9 _
    have HN9 : Hid (Below w.heap.size w w9 ∧ os ++ [P] = liveR (ps.take (k + 1)) ∧ w9.ownsRow w.heap.size 35 55 v9 (os ++ [P]).length (rowsR (os ++ [P]))) := by
     refine ⟨HB3.out.1.grown hg9 hszw (fun k hk => (HB3.out.2.lt k hk).1), ?_, ?_⟩
     ·rw [HTK.out, HR.out.2.1]; unfold liveR; rw [List.filter_append]
      have : [P].filter (fun p => !emptyX p.1) = [P] := by simp [hem]
      rw [this]
     ·rw [List.length_append, rowsR_append]
      have : rowsR [P] = C := by rw [HC.out]; simp [rowsR]
      rw [this]; exact hv9
    clear hv9 hg9
    go_wp2
    go_roundw
    case rel => exact ⟨k + 1, _, by omega, by go_num, HN9⟩
    case measure => simp [intOf]; omega
  ·obtain rfl : k = m := by omega
   have hI : ¬ (k : Int) < k := by omega
   have hos : os = liveR ps := by rw [HR.out.2.1, List.take_of_length_le (by have := HM.out; omega)]
   have hol : os.length ≤ 1000001 := by
    rw [hos]
    have h1 : (liveR ps).length ≤ ps.length := List.length_filter_le _ _
    have := HM.out
    omega
   have HSR := Lib.hid (src_of_own HR.out.2.2 (fun p hp => HW2.out.arr.ok p (List.mem_filter.1 (by rw [hos] at hp; exact hp)).1) hol)
   have HOS := Lib.hid hos
   have hdk : decide ((k : Int) < (k : Int)) = false := decide_eq_false hI
   have hdn : (k < k) = False := eq_false hkm
   clear hkm hos
   go_wp2_with fail
   refine (r_copied HSR.out).mono ?_
   rintro e w3 ⟨v, ds, rfl, hc, hf⟩
   have HCP : Hid (CopR w w3 v ds) := ⟨HR.out.1.trans (hc.below.mono HR.out.1.size), ownsRow_mono hc.own HR.out.1.size, fun p hp => ownsRow_mono (hc.code p hp) HR.out.1.size, fun p hp => ownsRow_mono (hc.slots p hp) HR.out.1.size⟩
   have HF := Lib.hid hf
   clear hc hf
   go_wp2
   go_ret
   exact ⟨v, ds, rfl, HCP.out, HLIVE.out (by rw [HF.out, HOS.out])⟩
theorem fld35_2 (p : RAc × Value × Value) (W : World) : (Instr.field 35 (.agg (racC p).toArray) 2).run Tryz.prog W = .ok (.agg (beC 32 p.1.ac.bal).toArray) W := by
 have h : ∀ C : List Value, (Instr.field 35 (.agg C.toArray) 2).run Tryz.prog W = .ok (.agg (C.toArray.extract 21 (21 + 32))) W := fun C => by kernel_rfl
 rw [h]
 have e : (racC p).toArray.extract 21 (21 + 32) = (beC 32 p.1.ac.bal).toArray := by
  rw [List.extract_toArray, List.extract_eq_take_drop]
  have hs := cat_split (l := acS p.1.ac p.2.1 p.2.2) (i := 2) rfl
  have h1 : (cat ((acS p.1.ac p.2.1 p.2.2).take 2)).length = 21 := by simp [acS, cat_len_cons, cat_len_nil]
  unfold racC
  rw [hs, ← h1, List.drop_left, h1, show 21 + 32 - 21 = (beC 32 p.1.ac.bal).length by simp, List.take_left]
 rw [e]
theorem fld35_1 (p : RAc × Value × Value) (W : World) : (Instr.field 35 (.agg (racC p).toArray) 1).run Tryz.prog W = .ok (.int .i64 p.1.ac.nonce) W := by
 have h : ∀ C : List Value, (Instr.field 35 (.agg C.toArray) 1).run Tryz.prog W = ((match C.toArray[20]? with | some v => pure v | none => stuck "part: no such cell") : Sem Value).run Tryz.prog W := fun C => by kernel_rfl
 rw [h]
 have e : (racC p).toArray[20]? = some (.int .i64 p.1.ac.nonce) := by
  rw [List.getElem?_toArray]
  have hs := cat_split (l := acS p.1.ac p.2.1 p.2.2) (i := 1) rfl
  have h1 : (cat ((acS p.1.ac p.2.1 p.2.2).take 1)).length = 20 := by simp [acS, cat_len_cons, cat_len_nil]
  unfold racC
  rw [hs, List.getElem?_append_right (by omega), h1]; rfl
 rw [e]; rfl
theorem got_bal {w : World} {own : Go.Mun.Own} {S : St} {n a : Nat} {p : RAc × Value × Value} (h : GotR w own S n a p) : p.1.ac.bal = (S a).bal := by rw [← h.acc]; rfl
structure MvR (w : World) (a b v : Nat) (W : World) : Prop where
 t5 : W.row? w.heap.size 0 20 = some (beC 20 a)
 t6 : W.row? (w.heap.size + 1) 0 20 = some (beC 20 b)
 t7 : W.row? (w.heap.size + 1 + 1) 0 32 = some (beC 32 v)
theorem MvR.next {w W W' : World} {a b v : Nat} (h : MvR w a b v W) (hb : Below W.heap.size W W') : MvR w a b v W' :=
 ⟨((brow hb).1 _ _ _ (World.row?_lt h.t5)).trans h.t5, ((brow hb).1 _ _ _ (World.row?_lt h.t6)).trans h.t6, ((brow hb).1 _ _ _ (World.row?_lt h.t7)).trans h.t7⟩
theorem MvR.start (w : World) (a b v : Nat) : MvR w a b v (((w.alloc (.cells (beC 20 a).toArray 23)).alloc (.cells (beC 20 b).toArray 23)).alloc (.cells (beC 32 v).toArray 25)) := by
 refine ⟨?_, ?_, ?_⟩
 ·rw [World.row?_alloc_lt _ (by simp; omega), World.row?_alloc_lt _ (by simp)]; exact World.row?_alloc_at _ _ _ rfl (by simp)
 ·rw [World.row?_alloc_lt _ (by simp)]; exact World.row?_alloc_at _ _ _ (by simp) (by simp)
 ·exact World.row?_alloc_at _ _ _ (by simp) (by simp)
def MoveR (w : World) (own : Go.Mun.Own) (sb : Nat) (S : St) (M : List (Nat × St)) (n : Nat) (r : Option St) (e : Ending) (w' : World) : Prop :=
 match r with
 | none => e = .returned (.bool false) ∧ ∃ own', RState w' own' sb S M n ∧ ChgR w w' own own'
 | some S1 => e = .returned (.bool true) ∧ ∃ own', RState w' own' sb S1 M n ∧ ChgR w w' own own'
structure NwS (w wr : World) (own : Go.Mun.Own) (sb : Nat) (S : St) (n : Nat) : Prop where
 st : RState wr own sb S [] n
 ge : ∀ b, own b ≠ none → w.heap.size ≤ b
 below : Below w.heap.size w wr
theorem NwS.step {w wr w' : World} {own own' : Go.Mun.Own} {sb n n' : Nat} {S S' : St} (h : NwS w wr own sb S n) (st : RState w' own' sb S' [] n') (c : ChgR wr w' own own') : NwS w w' own' sb S' n' :=
 ⟨st, fun b hb => by
  by_cases hlt : b < wr.heap.size
  ·rw [c.ext b hlt] at hb; exact h.ge b hb
  ·have := h.below.size; omega, h.below.trans (c.only.below h.below.size fun i hi => h.ge i hi.1)⟩
theorem NwS.next {w wr w' : World} {own : Go.Mun.Own} {sb n : Nat} {S : St} (h : NwS w wr own sb S n) (hb : Below wr.heap.size wr w') : NwS w w' own sb S n := h.step (h.st.below hb) (ChgR.below own hb)
theorem nwS_start (w : World) : ∃ own, NwS w (w.alloc (.cells #[.slice none 0 0, .slice none 0 0, .int .i64 0] 125)) own w.heap.size (fun _ => Acc.none) 0 := by
 refine ⟨fun b => if b = w.heap.size then some .st else none, ⟨⟨.slice none 0 0, .slice none 0 0, [], [], 0, {
   lab := by simp
   row := World.row?_alloc_at [.slice none 0 0, .slice none 0 0, .int .i64 0] 125 (0, 0) rfl rfl
   free := World.free?_alloc_at [.slice none 0 0, .slice none 0 0, .int .i64 0] 125 rfl (by simp)
   arr := ⟨World.ownsRow_nil _ _ _ _, fun g hg => by simp [Value.ownBlock] at hg, fun p hp => by cases hp⟩
   up := List.Pairwise.nil
   marks := World.ownsRow_nil _ _ _ _
   mlab := fun g hg => by simp [Value.ownBlock] at hg
   each := fun m hm => by cases hm
   apart := List.pairwise_singleton _ _
   low := fun b hb => by
    by_cases e : b = w.heap.size
    ·rw [e]; simp
    ·simp [e] at hb
   count := ⟨Nat.zero_le _, fun m hm => by cases hm⟩ }, rfl, rfl, ⟨Nat.zero_le _, fun p hp => (by cases hp)⟩, fun m hm => (by cases hm), Nat.zero_le _⟩, fun b hb => ?_, (Below.refl _ _).alloc (Nat.le_refl _) _⟩⟩
 by_cases e : b = w.heap.size
 ·omega
 ·simp [e] at hb
theorem set_all (S : St) (a : Nat) (nn bl : Nat) (cd : Bts) :
  (let S1 := upd S a Acc.none; let S2 := upd S1 a { S1 a with nonce := nn }; let S3 := upd S2 a { S2 a with bal := bl }; upd S3 a { S3 a with code := cd }) = upd S a ⟨nn, bl, cd, fun _ => 0⟩ := by
 funext b
 by_cases e : b = a
 ·subst e; simp [upd, Acc.none]
 ·simp [upd, e]
theorem ro_mine {w wr : World} {own : Go.Mun.Own} {v : Value} {l : Bts} (h : RoAt w (fun _ => False) v l) (hb : Below w.heap.size w wr) (hg : ∀ b, own b ≠ none → w.heap.size ≤ b) : RoAt wr (fun b => own b ≠ none) v l :=
 h.only (R := fun _ => False) (Only.of_below_size hb) (fun _ h => h.elim) fun b hlt hx => by have := hg b hx; omega
theorem r_new (b o c : Nat) (l : List Ac) (hl : l.length ≤ 100) (w : World) (h : ∀ i (hi : i < l.length), AcAt w b (o + i * 55) l[i]) (hnn : ∀ x ∈ l, 0 ≤ x.nonce) :
  Calls Tryz.prog 37 #[.slice (some ⟨b, o, none⟩) l.length c] w fun e w' => ∃ sb own, e = .returned (.pointer (some ⟨sb, 0, none⟩)) ∧ NwS w w' own sb (newS l) (8 * l.length) := by
 obtain ⟨m, hm⟩ : ∃ m, m = l.length := ⟨_, rfl⟩
 have hm1 : m ≤ 100 := by omega
 have H0 := Lib.hid (nwS_start w)
 have H := Lib.hid h
 have HNN := Lib.hid hnn
 have HM := Lib.hid hm
 rw [← hm]
 clear h hnn hl hm
 go_enter Tryz.func37, Tryz.ntmps37
 go_wp2_with fail
 obtain ⟨sb, hsb⟩ : ∃ sb, sb = w.heap.size := ⟨_, rfl⟩
 rw [← hsb]
 rw [← hsb] at H0
 have HSB := Lib.hid hsb
 clear hsb
 go_loopw [4] (fun ix wr => ∃ (k : Nat), k ≤ m ∧ ix = .int .i64 (k : Int) ∧ Hid (∃ own, NwS w wr own sb (newS (l.take k)) (8 * k))) (fun ix _ => m - (intOf ix).toNat)
 case atStart => exact ⟨0, by omega, rfl, by obtain ⟨own, h⟩ := H0.out; exact ⟨own, h⟩⟩
 case round =>
  obtain ⟨k, hk, rfl, HR⟩ := hrel
  obtain ⟨own, hown⟩ := HR.out
  have HO := Lib.hid hown
  clear hown HR
  by_cases hkm : k < m
  ·have hI : (k : Int) < m := by omega
   have hkl : k < l.length := by have := HM.out; omega
   obtain ⟨X, hX⟩ : ∃ X, X = l[k]'hkl := ⟨_, rfl⟩
   have hat := H.out k hkl
   rw [← hX] at hat
   obtain ⟨⟨cv, hr, hro⟩, hadr, hbal, hnon⟩ := hat
   have hn0 : 0 ≤ X.nonce := HNN.out X (by rw [hX]; exact List.getElem_mem hkl)
   have HNS : Hid (newS (l.take (k + 1)) = upd (newS (l.take k)) X.addr ⟨X.nonce.toNat, X.bal, X.code, fun _ => 0⟩) := by
    show _ = _
    rw [newS_take l k hkl, ← hX]
    unfold accOf
    rw [show max 0 X.nonce = X.nonce by omega]
   obtain ⟨nn, hnn⟩ : ∃ nn : Nat, X.nonce = nn := ⟨X.nonce.toNat, by omega⟩
   have hnn2 : nn ≤ 9223372036854775807 := by omega
   have hnt : X.nonce.toNat = nn := by omega
   rw [hnt] at HNS
   obtain ⟨C, hC⟩ : ∃ C, C = cat (acS X cv (.slice none 0 0)) := ⟨_, rfl⟩
   have HAT : Hid (∀ W, Below w.heap.size w W → W.row? b (o + k * 55) 20 = some (beC 20 X.addr) ∧ W.cell? ⟨b, o + k * 55 + 20, none⟩ = some (.int .i64 (nn : Int)) ∧ W.row? b (o + k * 55 + 21) 32 = some (beC 32 X.bal) ∧ W.cell? ⟨b, o + k * 55 + 53, none⟩ = some cv ∧ W.cell? ⟨b, o + k * 55 + 54, none⟩ = some (.slice none 0 0)) := by
    intro W hW
    have hrW := ((brow hW).1 _ _ _ (World.row?_lt hr)).trans hr
    exact ⟨row_cat hrW (i := 0) rfl (by simp [acS, offOf_zero]) (by simp), by rw [← hnn]; exact cell_cat hrW (i := 1) rfl (by simp [acS, offOf_succ, offOf_zero]), row_cat hrW (i := 2) rfl (by simp [acS, offOf_succ, offOf_zero]) (by simp), cell_cat hrW (i := 3) rfl (by simp [acS, offOf_succ, offOf_zero]), cell_cat hrW (i := 4) rfl (by simp [acS, offOf_succ, offOf_zero])⟩
   have HRO := Lib.hid hro
   have HCO : Hid (cv.oneCell' = true) := RoAt.one hro
   obtain ⟨A, hA⟩ : ∃ A, A = X.addr := ⟨_, rfl⟩
   obtain ⟨BL, hBL⟩ : ∃ BL, BL = X.bal := ⟨_, rfl⟩
   obtain ⟨CD, hCD⟩ : ∃ CD, CD = X.code := ⟨_, rfl⟩
   rw [← hA] at hadr HAT HNS
   rw [← hBL] at hbal HAT HNS
   rw [← hCD] at HRO HNS
   have hlA := beC_len 20 A
   have hlB := beC_len 32 BL
   obtain ⟨p0, p1, p2, p3, p4⟩ := HAT.out wr HO.out.below
   obtain ⟨T, hT⟩ : ∃ T : World → Prop, T = fun W => W.row? b (o + k * 55) 20 = some (beC 20 A) ∧ W.cell? ⟨b, o + k * 55 + 20, none⟩ = some (.int .i64 (nn : Int)) ∧ W.row? b (o + k * 55 + 21) 32 = some (beC 32 BL) ∧ W.cell? ⟨b, o + k * 55 + 53, none⟩ = some cv ∧ W.cell? ⟨b, o + k * 55 + 54, none⟩ = some (.slice none 0 0) := ⟨_, rfl⟩
   have HT := Lib.hid hT
   have HAT2 : Hid (∀ W, Below w.heap.size w W → T W) := by rw [hT]; exact HAT.out
   clear hr hro hn0 hnn hnt hC hnon hX hA hBL hCD hT p1 p2 p3 p4 HAT hkm
   go_wp2_with fail
   refine (r_kill HO.out.st hadr (by omega)).mono ?_
   rintro e w1 ⟨rfl, own1, st1, c1⟩
   have HO1 := Lib.hid (HO.out.step st1 c1)
   have t1 := HAT2.out _ (HO1.out.below.drew)
   clear st1 c1 p0
   go_wp2_with fail
   refine wp_region_tree T [] (.pure 0 (.pure 1 (.pure 2 (.pure 3 (.pure 4 (.take 5 (.pure 6 (.pure 7 (.pure 8 (.pure 9 (.take 10 (.alt 11 .fin .stop)))))))))))) (by kernel_rfl) (by kernel_rfl) ?_
   iterate 11
    first
    |refine tree_pure ?_ rfl (by rfl) (fun w' hs => ?_) (fun _ _ _ h => h) ?_
     rotate_left
     ·clear hs
      go_simp
      try rfl
     simp only [Act.put, tsa, tsb, tsc]
    |refine tree_take ?_ t1 rfl (by rfl) (fun w' hs => ?_) (fun _ _ _ h => h) ?_
     rotate_left
     ·rw [HT.out] at hs
      obtain ⟨p0, p1, p2, p3, p4⟩ := hs
      go_simp
      try rfl
     simp only [Act.put, tsa, tsb, tsc]
   refine tree_run rfl (fun K hK => ?_)
   go_simp
   refine (r_setNonce nn (HO1.out.next (Below.refl _ _).drew).st hadr hnn2 (by omega)).mono ?_
   rintro e w2 ⟨rfl, own2, st2, c2⟩
   have HO2 := Lib.hid ((HO1.out.next (Below.refl _ _).drew).step st2 c2)
   have t2 := HAT2.out _ HO2.out.below
   clear st2 c2
   refine hK.out _ _ t2 ?_
   clear hK K
   refine tree_fin ?_
   have t2d := HAT2.out _ (HO2.out.below.drew)
   clear t1 t2
   go_wp2_with fail
   refine wp_region_tree T [] (.pure 0 (.pure 1 (.pure 2 (.pure 3 (.pure 4 (.take 5 (.pure 6 (.pure 7 (.pure 8 (.pure 9 (.take 10 (.alt 11 .fin .stop)))))))))))) (by kernel_rfl) (by kernel_rfl) ?_
   iterate 11
    first
    |refine tree_pure ?_ rfl (by rfl) (fun w' hs => ?_) (fun _ _ _ h => h) ?_
     rotate_left
     ·clear hs
      go_simp
      try rfl
     simp only [Act.put, tsa, tsb, tsc]
    |refine tree_take ?_ t2d rfl (by rfl) (fun w' hs => ?_) (fun _ _ _ h => h) ?_
     rotate_left
     ·rw [HT.out] at hs
      obtain ⟨p0, p1, p2, p3, p4⟩ := hs
      go_simp
      try rfl
     simp only [Act.put, tsa, tsb, tsc]
   refine tree_run rfl (fun K hK => ?_)
   go_simp
   refine (r_setBalance (HO2.out.next (Below.refl _ _).drew).st hadr hbal (by omega)).mono ?_
   rintro e w3 ⟨rfl, own3, st3, c3⟩
   have HO3 := Lib.hid ((HO2.out.next (Below.refl _ _).drew).step st3 c3)
   have t3 := HAT2.out _ HO3.out.below
   clear st3 c3
   refine hK.out _ _ t3 ?_
   clear hK K
   refine tree_fin ?_
   have t3d := HAT2.out _ (HO3.out.below.drew)
   clear t2d t3
   go_wp2_with fail
   refine wp_region_tree T [] (.pure 0 (.pure 1 (.pure 2 (.pure 3 (.pure 4 (.take 5 (.pure 6 (.pure 7 (.pure 8 (.pure 9 (.take 10 (.alt 11 .fin .stop)))))))))))) (by kernel_rfl) (by kernel_rfl) ?_
   iterate 11
    first
    |refine tree_pure ?_ rfl (by rfl) (fun w' hs => ?_) (fun _ _ _ h => h) ?_
     rotate_left
     ·clear hs
      go_simp
      try rfl
     simp only [Act.put, tsa, tsb, tsc]
    |refine tree_take ?_ t3d rfl (by rfl) (fun w' hs => ?_) (fun _ _ _ h => h) ?_
     rotate_left
     ·rw [HT.out] at hs
      obtain ⟨p0, p1, p2, p3, p4⟩ := hs
      go_simp
      try rfl
     simp only [Act.put, tsa, tsb, tsc]
   refine tree_run rfl (fun K hK => ?_)
   go_simp
   refine (r_setCode (HO3.out.next (Below.refl _ _).drew).st hadr (ro_mine HRO.out HO3.out.below.drew HO3.out.ge) (by omega)).mono ?_
   rintro e w4 ⟨rfl, own4, st4, c4⟩
   have HO4 := Lib.hid ((HO3.out.next (Below.refl _ _).drew).step st4 c4)
   have t4 := HAT2.out _ HO4.out.below
   clear st4 c4
   refine hK.out _ _ t4 ?_
   clear hK K
   refine tree_fin ?_
   have HN : Hid (∃ own, NwS w w4 own sb (newS (l.take (k + 1))) (8 * (k + 1))) := by
    rw [HNS.out, ← set_all]
    exact ⟨own4, by rw [show 8 * (k + 1) = 8 * k + 2 + 2 + 2 + 2 by omega]; exact HO4.out⟩
   rw [HT.out] at t4
   have p4 := t4.2.2.2.2
   clear t3d t4
   go_wp2_with fail
   go_loopw [5] (fun iy wz => iy = .int .i64 0 ∧ wz = w4) (fun _ _ => 0)
   case atStart => exact ⟨rfl, rfl⟩
   case round =>
    obtain ⟨rfl, rfl⟩ := hrel
    go_wp2
    go_roundw
    case rel => exact ⟨k + 1, by omega, by go_num, HN⟩
    case measure => simp [intOf]; omega
  ·obtain rfl : k = m := by omega
   have hI : ¬ (k : Int) < k := by omega
   clear hkm
   go_wp2
   go_ret
   have h := HO.out
   rw [List.take_of_length_le (by have := HM.out; omega)] at h
   exact ⟨sb, rfl, own, h⟩
end Go.Proofs.YtfflppedbopdpaaGreat
namespace Go.Mun
open Go.RowKit
def str (l : List UInt8) : ByteArray := ⟨l.toArray⟩
theorem free?_below {B : Nat} {w w' : World} (hb : Below B w w') {b o n : Nat} (hlt : b < B) (h : w.free? b o n = true) : w'.free? b o n = true := by
 rw [World.free?_of_block (hb.block b hlt)]; exact h
def dU (n : Nat) : UInt8 := UInt8.ofNat (48 + n)
def digL (n : Nat) : List UInt8 := (if 9 < n then [dU (n / 10)] else []) ++ [dU (n % 10)]
structure Inf where
 op : Int
 name : List UInt8
 pops : Int
 pushes : Int
 gas : Int

def Inf.c (x : Inf) : List Value := [.int .u8 x.op, .string (str x.name), .int .i64 x.pops, .int .i64 x.pushes, .int .i64 x.gas]
def infZ : Inf := ⟨0, [], 0, 0, 0⟩
def infsC (l : List Inf) : List Value := l.flatMap Inf.c
theorem infsC_len (l : List Inf) : (infsC l).length = 5 * l.length := by
 induction l with
 | nil => rfl
 | cons x l ih => simp [infsC, Inf.c] at ih ⊢; omega
theorem infsC_at : ∀ (l : List Inf) (i : Nat) (x : Inf), l[i]? = some x → ((infsC l).drop (5 * i)).take 5 = x.c
 | y :: l, 0, x, h => by simp at h; subst h; rfl
 | y :: l, i + 1, x, h => by
  have := infsC_at l i x (by simpa using h)
  rw [← this]
  show ((y.c ++ infsC l).drop (5 * (i + 1))).take 5 = _
  rw [show 5 * (i + 1) = y.c.length + 5 * i by simp [Inf.c]; omega, ← List.drop_drop, List.drop_left]
theorem infsC_set : ∀ (l : List Inf) (i : Nat) (x : Inf), i < l.length → splice (infsC l) (5 * i) x.c = infsC (l.set i x)
 | y :: l, 0, x, _ => by
  show splice (y.c ++ infsC l) 0 x.c = x.c ++ infsC l
  unfold splice
  rw [List.take_zero, List.nil_append, Nat.zero_add, show x.c.length = y.c.length from rfl, List.drop_left]
 | y :: l, i + 1, x, h => by
  have ih := infsC_set l i x (by simpa using h)
  show splice (y.c ++ infsC l) (5 * (i + 1)) x.c = y.c ++ infsC (l.set i x)
  rw [← ih]
  unfold splice
  rw [show 5 * (i + 1) = y.c.length + 5 * i by simp [Inf.c]; omega, List.take_length_add_append, show y.c.length + 5 * i + x.c.length = y.c.length + (5 * i + x.c.length) by omega, ← List.drop_drop, List.drop_left]
  simp
def tableT : List Inf := [
 ⟨0, [83, 84, 79, 80], 0, 0, 0⟩,
 ⟨1, [65, 68, 68], 2, 1, 3⟩,
 ⟨2, [77, 85, 76], 2, 1, 5⟩,
 ⟨3, [83, 85, 66], 2, 1, 3⟩,
 ⟨4, [68, 73, 86], 2, 1, 5⟩,
 ⟨5, [83, 68, 73, 86], 2, 1, 5⟩,
 ⟨6, [77, 79, 68], 2, 1, 5⟩,
 ⟨7, [83, 77, 79, 68], 2, 1, 5⟩,
 ⟨8, [65, 68, 68, 77, 79, 68], 3, 1, 8⟩,
 ⟨9, [77, 85, 76, 77, 79, 68], 3, 1, 8⟩,
 ⟨10, [69, 88, 80], 2, 1, 10⟩,
 ⟨11, [83, 73, 71, 78, 69, 88, 84, 69, 78, 68], 2, 1, 5⟩,
 ⟨16, [76, 84], 2, 1, 3⟩,
 ⟨17, [71, 84], 2, 1, 3⟩,
 ⟨18, [83, 76, 84], 2, 1, 3⟩,
 ⟨19, [83, 71, 84], 2, 1, 3⟩,
 ⟨20, [69, 81], 2, 1, 3⟩,
 ⟨21, [73, 83, 90, 69, 82, 79], 1, 1, 3⟩,
 ⟨22, [65, 78, 68], 2, 1, 3⟩,
 ⟨23, [79, 82], 2, 1, 3⟩,
 ⟨24, [88, 79, 82], 2, 1, 3⟩,
 ⟨25, [78, 79, 84], 1, 1, 3⟩,
 ⟨26, [66, 89, 84, 69], 2, 1, 3⟩,
 ⟨27, [83, 72, 76], 2, 1, 3⟩,
 ⟨28, [83, 72, 82], 2, 1, 3⟩,
 ⟨29, [83, 65, 82], 2, 1, 3⟩,
 ⟨32, [75, 69, 67, 67, 65, 75, 50, 53, 54], 2, 1, 30⟩,
 ⟨48, [65, 68, 68, 82, 69, 83, 83], 0, 1, 2⟩,
 ⟨49, [66, 65, 76, 65, 78, 67, 69], 1, 1, 700⟩,
 ⟨50, [79, 82, 73, 71, 73, 78], 0, 1, 2⟩,
 ⟨51, [67, 65, 76, 76, 69, 82], 0, 1, 2⟩,
 ⟨52, [67, 65, 76, 76, 86, 65, 76, 85, 69], 0, 1, 2⟩,
 ⟨53, [67, 65, 76, 76, 68, 65, 84, 65, 76, 79, 65, 68], 1, 1, 3⟩,
 ⟨54, [67, 65, 76, 76, 68, 65, 84, 65, 83, 73, 90, 69], 0, 1, 2⟩,
 ⟨55, [67, 65, 76, 76, 68, 65, 84, 65, 67, 79, 80, 89], 3, 0, 3⟩,
 ⟨56, [67, 79, 68, 69, 83, 73, 90, 69], 0, 1, 2⟩,
 ⟨57, [67, 79, 68, 69, 67, 79, 80, 89], 3, 0, 3⟩,
 ⟨59, [69, 88, 84, 67, 79, 68, 69, 83, 73, 90, 69], 1, 1, 700⟩,
 ⟨60, [69, 88, 84, 67, 79, 68, 69, 67, 79, 80, 89], 4, 0, 700⟩,
 ⟨61, [82, 69, 84, 85, 82, 78, 68, 65, 84, 65, 83, 73, 90, 69], 0, 1, 2⟩,
 ⟨62, [82, 69, 84, 85, 82, 78, 68, 65, 84, 65, 67, 79, 80, 89], 3, 0, 3⟩,
 ⟨63, [69, 88, 84, 67, 79, 68, 69, 72, 65, 83, 72], 1, 1, 700⟩,
 ⟨65, [67, 79, 73, 78, 66, 65, 83, 69], 0, 1, 2⟩,
 ⟨66, [84, 73, 77, 69, 83, 84, 65, 77, 80], 0, 1, 2⟩,
 ⟨67, [78, 85, 77, 66, 69, 82], 0, 1, 2⟩,
 ⟨69, [71, 65, 83, 76, 73, 77, 73, 84], 0, 1, 2⟩,
 ⟨70, [67, 72, 65, 73, 78, 73, 68], 0, 1, 2⟩,
 ⟨71, [83, 69, 76, 70, 66, 65, 76, 65, 78, 67, 69], 0, 1, 5⟩,
 ⟨80, [80, 79, 80], 1, 0, 2⟩,
 ⟨81, [77, 76, 79, 65, 68], 1, 1, 3⟩,
 ⟨82, [77, 83, 84, 79, 82, 69], 2, 0, 3⟩,
 ⟨83, [77, 83, 84, 79, 82, 69, 56], 2, 0, 3⟩,
 ⟨84, [83, 76, 79, 65, 68], 1, 1, 800⟩,
 ⟨85, [83, 83, 84, 79, 82, 69], 2, 0, 0⟩,
 ⟨86, [74, 85, 77, 80], 1, 0, 8⟩,
 ⟨87, [74, 85, 77, 80, 73], 2, 0, 10⟩,
 ⟨88, [80, 67], 0, 1, 2⟩,
 ⟨89, [77, 83, 73, 90, 69], 0, 1, 2⟩,
 ⟨90, [71, 65, 83], 0, 1, 2⟩,
 ⟨91, [74, 85, 77, 80, 68, 69, 83, 84], 0, 0, 1⟩,
 ⟨95, [80, 85, 83, 72, 48], 0, 1, 2⟩,
 ⟨240, [67, 82, 69, 65, 84, 69], 3, 1, 32000⟩,
 ⟨241, [67, 65, 76, 76], 7, 1, 700⟩,
 ⟨243, [82, 69, 84, 85, 82, 78], 2, 0, 0⟩,
 ⟨244, [68, 69, 76, 69, 71, 65, 84, 69, 67, 65, 76, 76], 6, 1, 700⟩,
 ⟨245, [67, 82, 69, 65, 84, 69, 50], 4, 1, 32000⟩,
 ⟨250, [83, 84, 65, 84, 73, 67, 67, 65, 76, 76], 6, 1, 700⟩,
 ⟨253, [82, 69, 86, 69, 82, 84], 2, 0, 0⟩,
 ⟨255, [83, 69, 76, 70, 68, 69, 83, 84, 82, 85, 67, 84], 1, 0, 5000⟩]
def rangesL (m : Nat) : Inf :=
 if 96 ≤ m ∧ m < 128 then ⟨m, [80, 85, 83, 72] ++ digL (m - 95), 0, 1, 3⟩ else
 if 128 ≤ m ∧ m < 144 then ⟨m, [68, 85, 80] ++ digL (m - 127), m - 127, m - 126, 3⟩ else
 if 144 ≤ m ∧ m < 160 then ⟨m, [83, 87, 65, 80] ++ digL (m - 143), m - 142, m - 142, 3⟩ else
 if 160 ≤ m ∧ m < 165 then ⟨m, [76, 79, 71] ++ digL (m - 160), m - 158, 0, 375 * (m - 159)⟩ else infZ
def rangesT (k : Nat) : List Inf := (List.range 256).map fun i => if i < k then rangesL i else infZ
def laidT (k : Nat) : List Inf := (tableT.take k).foldl (fun l x => l.set x.op.toNat x) (rangesT 256)
def infT : List Inf := laidT 69
end Go.Mun
namespace Go.Proofs.YtfflppedbopdpaaGreat
open Go.RowKit Go.Mun
theorem ty186 : RowTy Tryz.prog 142 5 := ⟨⟨_, Tryz.underlying142, rfl⟩, by kernel_rfl⟩
def infZC : List Value := infZ.c
section
variable (ρ : Operand → Value) (dst : Option Tmp) (x y z : Operand) (parts : List (Nat × Operand)) (t : TypeId) (pos : String) (after : Array Edge) (gd : Option (Nat × Bool)) (w : World)
theorem ld186 : (execOp ρ ⟨dst, .load 142 x, t, pos, after, gd⟩).run Tryz.prog w = asNext (ldRow Tryz.prog 142 5 (ρ x) w) := ex_load ρ dst x t pos after gd w ty186
theorem st186 : (execOp ρ ⟨dst, .store 142 x y, t, pos, after, gd⟩).run Tryz.prog w = asSkip (stRow Tryz.prog 142 5 (ρ x) (ρ y) w) := ex_store ρ dst x y t pos after gd w ty186
theorem al186 : (execOp ρ ⟨dst, .alloc 142, t, pos, after, gd⟩).run Tryz.prog w = .ok (.value (.pointer (some ⟨w.heap.size, 0, none⟩))) (w.alloc (.cells infZC.toArray 142)) := ex_alloc ρ dst t pos after gd w (fun _ => by kernel_rfl)
theorem bz186 : (execOp ρ ⟨dst, .build 142 #[], t, pos, after, gd⟩).run Tryz.prog w = .ok (.value (.agg infZC.toArray)) w := ex_build0 (fun _ => by kernel_rfl) ρ dst t pos after gd w
end
attribute [go_sem ↓] ld186 st186 al186 bz186

attribute [local irreducible] Inf.c infZC infsC
theorem Inf.ok (x : Inf) : okL 5 x.c = true := by unfold Inf.c; simp [okL, Value.oneCell']

def rngOk (m : Nat) : Bool := decide (96 ≤ m) && decide (m < 165)
end Go.Proofs.YtfflppedbopdpaaGreat
namespace Go.Mun
open Go.RowKit
theorem rangesT_len (k : Nat) : (rangesT k).length = 256 := by simp [rangesT]
theorem rangesT_zero : rangesT 0 = List.replicate 256 infZ := by
 have h : ∀ n : Nat, ((List.range n).map fun i => if i < 0 then rangesL i else infZ) = List.replicate n infZ := by
  intro n
  apply List.ext_getElem (by rw [List.length_map, List.length_range, List.length_replicate])
  intro i h1 h2
  rw [List.getElem_map, List.getElem_replicate, if_neg (Nat.not_lt_zero _)]
 exact h 256
end Go.Mun
namespace Go.Proofs.YtfflppedbopdpaaGreat
open Go.RowKit Go.Mun
def infs0 : List Value := infsC (List.replicate 256 infZ)
theorem ty187 : RowTy Tryz.prog 143 1280 := ⟨⟨_, Tryz.underlying143, rfl⟩, by kernel_rfl⟩
section
variable (ρ : Operand → Value) (dst : Option Tmp) (x y z : Operand) (parts : List (Nat × Operand)) (t : TypeId) (pos : String) (after : Array Edge) (gd : Option (Nat × Bool)) (w : World)
theorem ld187 : (execOp ρ ⟨dst, .load 143 x, t, pos, after, gd⟩).run Tryz.prog w = asNext (ldRow Tryz.prog 143 1280 (ρ x) w) := ex_load ρ dst x t pos after gd w ty187
theorem st187 : (execOp ρ ⟨dst, .store 143 x y, t, pos, after, gd⟩).run Tryz.prog w = asSkip (stRow Tryz.prog 143 1280 (ρ x) (ρ y) w) := ex_store ρ dst x y t pos after gd w ty187
theorem al187 : (execOp ρ ⟨dst, .alloc 143, t, pos, after, gd⟩).run Tryz.prog w = .ok (.value (.pointer (some ⟨w.heap.size, 0, none⟩))) (w.alloc (.cells infs0.toArray 143)) := ex_alloc ρ dst t pos after gd w (fun _ => by kernel_rfl)
end
attribute [go_sem ↓] ld187 st187 al187
theorem infs0_len : infs0.length = 1280 := by unfold infs0; rw [infsC_len, List.length_replicate]
attribute [local irreducible] Inf.c infZC infsC infs0

structure AllR (l : List Inf) (w wr : World) : Prop where
 below : Below w.heap.size w wr
 size : w.heap.size + 1 < wr.heap.size
 res : wr.free? w.heap.size 0 1280 = true
 free : wr.free? (w.heap.size + 1) 0 1280 = true
 row : wr.row? (w.heap.size + 1) 0 1280 = some (infsC l)
 len : l.length = 256

theorem AllR.start (w : World) : AllR (rangesT 0) w ((w.alloc (.cells infs0.toArray 143)).alloc (.cells infs0.toArray 143)) := by
 have hs : (w.alloc (.cells infs0.toArray 143)).heap.size = w.heap.size + 1 := by simp
 refine ⟨((Below.refl _ _).alloc (Nat.le_refl _) _).alloc (by simp) _, by simp, ?_, ?_, ?_, rangesT_len 0⟩
 ·rw [World.free?_alloc_lt _ (by simp)]; exact World.free?_alloc_at _ _ rfl (by rw [infs0_len]; decide)
 ·rw [← hs]; exact World.free?_alloc_at _ _ rfl (by rw [infs0_len]; decide)
 ·rw [← hs, World.row?_alloc_at _ _ _ rfl infs0_len, rangesT_zero]; unfold infs0; rfl
theorem AllR.next {l : List Inf} {w wr w2 : World} (h : AllR l w wr) (hb : Below wr.heap.size wr w2) : AllR l w w2 := by
 obtain ⟨h1, h2, h3, h4, h5, h6⟩ := h
 have l1 := free?_lt h3
 have l2 := free?_lt h4
 exact ⟨h1.trans (hb.mono h1.size), Nat.lt_of_lt_of_le h2 hb.size, free?_below hb l1 h3, free?_below hb l2 h4, by rw [(brow hb).1 _ _ _ l2]; exact h5, h6⟩
theorem AllR.drew {l : List Inf} {w wr : World} (h : AllR l w wr) : AllR l w wr.drew := ⟨h.below.drew, h.size, h.res, h.free, h.row, h.len⟩
theorem AllR.set {l : List Inf} {w wr : World} (h : AllR l w wr) (i : Nat) (hi : i < 256) (x : Inf) : AllR (l.set i x) w (wr.setCells (w.heap.size + 1) (i * 5) x.c) := by
 obtain ⟨h1, h2, h3, h4, h5, h6⟩ := h
 have hc : x.c.length = 5 := by unfold Inf.c; rfl
 refine ⟨h1.setCells (by omega) _ _, by simpa using h2, by rw [World.free?_setCells']; exact h3, by rw [World.free?_setCells']; exact h4, ?_, by simpa using h6⟩
 rw [World.row?_setCells_in (i * 5) x.c h5 (Nat.zero_le _) (by rw [hc]; omega), Nat.sub_zero, Nat.mul_comm i 5, infsC_set l i x (by omega)]
theorem AllR.at {l : List Inf} {w wr : World} (h : AllR l w wr) (i : Nat) (hi : i < 256) : wr.free? (w.heap.size + 1) (i * 5) 5 = true :=
 World.free?_sub h.free (by omega)

def TblR (b : Nat) (wr : World) : Prop := ∀ (i : Nat) (x : Inf), tableT[i]? = some x → wr.row? b (i * 5) 5 = some x.c
theorem TblR.new (w : World) : TblR w.heap.size (w.alloc (.cells (infsC tableT).toArray 142)) := by
 intro i x hx
 have hi : i < tableT.length := (List.getElem?_eq_some_iff.1 hx).1
 have hl : tableT.length = 69 := rfl
 rw [World.row?_alloc_sub _ _ _ rfl (by rw [infsC_len]; omega), Nat.mul_comm i 5, infsC_at _ i x hx]
theorem TblR.set {b b' o : Nat} {cs : List Value} {wr : World} (h : TblR b wr) (hb : b ≠ b') : TblR b (wr.setCells b' o cs) := by
 intro i x hx
 rw [World.row?_setCells_other _ _ _ hb]; exact h i x hx
end Go.Proofs.YtfflppedbopdpaaGreat
namespace Go.Proofs.YtfflppedbopdpaaGreat
open Go.RowKit Go.Mun
theorem lens81 : lens zs81 = [20, 1, 32, 1, 1] := by kernel_rfl
theorem build81a (a b : Nat) (p : Option Addr) (k c : Nat) : fillL 55 (plOf zs81) (cat zs81) [(0, .agg (beC 20 a).toArray), (2, .agg (beC 32 b).toArray), (3, .slice p k c)] = some (cat (acS ⟨a, 0, b, []⟩ (.slice p k c) (.slice none 0 0))) := by
 rw [fillL_cats _ _ _ zs81_len]
 ·rfl
 ·rw [lens81]
  refine fits_cons ?_ (fits_cons ?_ (fits_cons rfl (fits_nil _)))
  ·show some 20 = some (beC 20 a).length; rw [beC_len]
  ·show some 32 = some (beC 32 b).length; rw [beC_len]
theorem build81b (a b : Nat) : fillL 55 (plOf zs81) (cat zs81) [(0, .agg (beC 20 a).toArray), (2, .agg (beC 32 b).toArray)] = some (cat (acS ⟨a, 0, b, []⟩ (.slice none 0 0) (.slice none 0 0))) := by
 rw [fillL_cats _ _ _ zs81_len]
 ·rfl
 ·rw [lens81]
  refine fits_cons ?_ (fits_cons ?_ (fits_nil _))
  ·show some 20 = some (beC 20 a).length; rw [beC_len]
  ·show some 32 = some (beC 32 b).length; rw [beC_len]
theorem sl36_2 : SliceLit Tryz.prog 45 35 55 2 (cat [cat zs81, cat zs81]) := ⟨Tryz.underlying45, ⟨_, .agg (cat zs81).toArray, rfl, by kernel_rfl, by kernel_rfl, by kernel_rfl⟩, by decide, by kernel_rfl, by decide⟩
def fill36 (p : List (Nat × Value)) : Option (List Value) := fillL (2 * 55) ((List.range 2).map fun i => (i * 55, 55)) (cat [cat zs81, cat zs81]) p
theorem bs36_2 (ρ : Operand → Value) (dst : Option Tmp) (x y : Operand) (t : TypeId) (pos : String) (after : Array Edge) (gd : Option (Nat × Bool)) (w : World) :
  (execOp ρ ⟨dst, .buildSlice 45 2 #[(0, x), (1, y)], t, pos, after, gd⟩).run Tryz.prog w = asNext (bsRow Tryz.prog 45 35 2 [(0, ρ x), (1, ρ y)] w (fill36 [(0, ρ x), (1, ρ y)])) :=
 ex_bslice ρ dst t pos after gd w sl36_2 [(0, x), (1, y)]
theorem fill36_two (a b : List Value) (ha : a.length = 55) (hb : b.length = 55) : fill36 [(0, .agg a.toArray), (1, .agg b.toArray)] = some (cat [a, b]) := by
 unfold fill36
 have h1 : lens [cat zs81, cat zs81] = [55, 55] := by kernel_rfl
 have h3 : plOf [cat zs81, cat zs81] = (List.range 2).map fun i => (i * 55, 55) := by kernel_rfl
 rw [← h3, fillL_cats _ _ _ (by kernel_rfl)]
 ·rfl
 ·rw [h1]
  refine fits_cons ?_ (fits_cons ?_ (fits_nil _))
  ·show some 55 = some a.length; rw [ha]
  ·show some 55 = some b.length; rw [hb]
attribute [go_sem ↓] bs36_2
def oneL (code : Bts) : List Ac := [⟨1, 0, 1000, code⟩, ⟨2, 0, 5000, []⟩]
theorem law_one {w : World} {cv : Value} {code : Bts} (hc : RoAt w (fun _ => False) cv code) :
  Calls Tryz.prog 25 #[cv] w fun e w' => ∃ b, e = .returned (.slice (some ⟨b, 0, none⟩) 2 2) ∧ Below w.heap.size w w' ∧ ∀ i (hi : i < (oneL code).length), AcAt w' b (0 + i * 55) (oneL code)[i] := by
 obtain ⟨⟨ca, cc, rfl, hci, hcx⟩, hcb, hcl⟩ := hc
 have HC : Hid (RoAt w (fun _ => False) (.slice ca code.length cc) code) := ⟨⟨ca, cc, rfl, hci, hcx⟩, hcb, hcl⟩
 have o1 : ofW 1000 = 1000 := by kernel_rfl
 have o2 : ofW 5000 = 5000 := by kernel_rfl
 have N1 := Lib.hid (fun w => ref_name 1 (by decide) w)
 have N2 := Lib.hid (fun w => ref_name 2 (by decide) w)
 have O1 := Lib.hid (fun w => ref_of 1000 (by decide) (by decide) w)
 have O2 := Lib.hid (fun w => ref_of 5000 (by decide) (by decide) w)
 rw [o1] at O1
 rw [o2] at O2
 have b1 := build81a 1 1000 ca code.length cc
 have b2 := build81b 2 5000
 have bf := fill36_two (cat (acS ⟨1, 0, 1000, []⟩ (.slice ca code.length cc) (.slice none 0 0))) (cat (acS ⟨2, 0, 5000, []⟩ (.slice none 0 0) (.slice none 0 0))) (acS_len _ _ _) (acS_len _ _ _)
 clear hci hcx hcb hcl o1 o2
 go_enter Tryz.func25, Tryz.ntmps25
 go_wp2_with fail
 refine (N1.out _).mono ?_
 rintro e w1 ⟨rfl, h1⟩
 go_wp2_with fail
 refine (O1.out _).mono ?_
 rintro e w2 ⟨rfl, h2⟩
 go_wp2_with fail
 refine (N2.out _).mono ?_
 rintro e w3 ⟨rfl, h3⟩
 go_wp2_with fail
 refine (O2.out _).mono ?_
 rintro e w4 ⟨rfl, h4⟩
 have hb : Below w.heap.size w w4 := ((h1.trans (h2.mono h1.size)).trans (h3.mono (by have := h1.size; have := h2.size; omega))).trans (h4.mono (by have := h1.size; have := h2.size; have := h3.size; omega))
 have HB := Lib.hid hb
 clear h1 h2 h3 h4 hb
 go_wp2
 go_ret
 refine ⟨_, rfl, HB.out.alloc HB.out.size _, fun i hi => ?_⟩
 have r := World.row?_alloc_at (w := w4) (cat [cat (acS ⟨1, 0, 1000, []⟩ (.slice ca code.length cc) (.slice none 0 0)), cat (acS ⟨2, 0, 5000, []⟩ (.slice none 0 0) (.slice none 0 0))]) 35 (0, 0) rfl (n := 110) (by rw [cat_len_cons, cat_len_cons, acS_len, acS_len]; rfl)
 have hb2 := HB.out.alloc HB.out.size (.cells (cat [cat (acS ⟨1, 0, 1000, []⟩ (.slice ca code.length cc) (.slice none 0 0)), cat (acS ⟨2, 0, 5000, []⟩ (.slice none 0 0) (.slice none 0 0))]).toArray 35)
 match i, hi with
 | 0, _ => exact ⟨⟨_, row_cat r (i := 0) rfl (by simp [offOf_zero]) (by simp), HC.out.below hb2⟩, by show 1 < wA; decide, by show 1000 < wW; decide, by show (0 : Int) ≤ _; decide⟩
 | 1, _ => exact ⟨⟨_, row_cat r (i := 1) rfl (by simp [offOf_succ, offOf_zero]) (by simp), roAt_nil _ _⟩, by show 2 < wA; decide, by show 5000 < wW; decide, by show (0 : Int) ≤ _; decide⟩
 | i + 2, hi => exact absurd hi (by simp [oneL])
end Go.Proofs.YtfflppedbopdpaaGreat
namespace Go.Proofs.YtfflppedbopdpaaGreat
open Go.RowKit Go.Mun
def codeA : Bts := [96, 5, 96, 0, 85]
def msgA : Msg := ⟨0, 2, 1, 0, 0, 0, [], 30000, 0, false⟩
def stA : St := newS (oneL codeA)
def st1A : St := (stA.setBal 2 5000).setBal 1 1000
theorem moveA : stA.move msgA.frm msgA.to msgA.value = some st1A := by kernel_rfl
theorem loopA : (loopR stepP 10 (frame0 msgA (st1A msgA.to).code) st1A).map (fun r => (r.1, r.2.1.gas, (r.2.2 1).slots 0)) = some (0, 9994, 5) := by kernel_rfl
theorem runA : ∃ f' S', loopR stepP 10 (frame0 msgA (st1A msgA.to).code) st1A = some (0, f', S') ∧ f'.gas = 9994 ∧ (S' 1).slots 0 = 5 := by
 have h := loopA
 cases e : loopR stepP 10 (frame0 msgA (st1A msgA.to).code) st1A with
 | none => rw [e] at h; cases h
 | some r =>
  obtain ⟨x, f', S'⟩ := r
  rw [e] at h
  simp only [Option.map_some, Option.some.injEq, Prod.mk.injEq] at h
  obtain ⟨rfl, h2, h3⟩ := h
  exact ⟨f', S', rfl, h2, h3⟩
theorem lens42 : lens zs42 = [1, 20, 20, 20, 32, 32, 1, 1, 1, 1] := by kernel_rfl
theorem build42a : fillL 129 (plOf zs42) (cat zs42) [(1, .agg (beC 20 2).toArray), (2, .agg (beC 20 1).toArray), (7, .int .i64 30000)] = some (cat (msgS msgA (.slice none 0 0))) := by
 rw [fillL_cats _ _ _ zs42_len]
 ·rfl
 ·rw [lens42]
  refine fits_cons ?_ (fits_cons ?_ (fits_cons rfl (fits_nil _)))
  ·show some 20 = some (beC 20 2).length; rw [beC_len]
  ·show some 20 = some (beC 20 1).length; rw [beC_len]
theorem law_num (e : Int) (w : World) : Calls Tryz.prog 17 #[.int .i64 e] w fun r w' => r = .returned (.int .i64 e) ∧ w' = w := by
 go_enter Tryz.func17, Tryz.ntmps17
 go_wp2
 go_ret
 exact ⟨rfl, rfl⟩
theorem law_alive (w : World) : Calls Tryz.prog 8 #[] w fun e w' => e = .returned (.bool true) ∧ Below w.heap.size w w' := by
 obtain ⟨f', S', hrun, hgas, hslot⟩ := runA
 have HR := Lib.hid hrun
 have HGS := Lib.hid hgas
 have HSL := Lib.hid hslot
 have o5 : ofW 5 = 5 := by kernel_rfl
 have N1 := Lib.hid (fun w => ref_name 1 (by decide) w)
 have N2 := Lib.hid (fun w => ref_name 2 (by decide) w)
 have O5 := Lib.hid (fun w => ref_of 5 (by decide) (by decide) w)
 rw [o5] at O5
 have b42 := build42a
 have HRO : Hid (RoAt (w.alloc (.cells (codeA.map (Value.int .u8)).toArray 5)) (fun _ => False) (.slice (some ⟨w.heap.size, 0, none⟩) codeA.length codeA.length) codeA) :=
  ⟨⟨_, _, rfl, Ints.new w .u8 codeA 5 (by decide), fun _ _ _ h => h⟩, by intro x hx; simp [codeA] at hx; omega, by decide⟩
 have HB0 : Hid (Below w.heap.size w (w.alloc (.cells (codeA.map (Value.int .u8)).toArray 5))) := (Below.refl _ _).alloc (Nat.le_refl _) _
 clear hrun hgas hslot o5
 go_enter Tryz.func8, Tryz.ntmps8
 go_wp2_with fail
 refine (law_one HRO.out).mono ?_
 rintro e w1 ⟨b, rfl, hb1, hac⟩
 have HN := Lib.hid (state_new b 0 2 (oneL codeA) (by decide) w1 hac)
 have HB1 := Lib.hid (HB0.out.trans (hb1.mono HB0.out.size))
 clear hb1 hac HB0
 go_wp2_with fail
 refine HN.out.mono ?_
 rintro e w2 ⟨sb, rfl, hb2, own, hst, hlo⟩
 have HST := Lib.hid hst
 have HLO := Lib.hid hlo
 have HB2 := Lib.hid (HB1.out.trans (hb2.mono HB1.out.size))
 clear hst hlo hb2
 go_wp2_with fail
 refine (N2.out _).mono ?_
 rintro e w3 ⟨rfl, hb3⟩
 have HST3 := Lib.hid (HST.out.below hb3)
 have HB3 := Lib.hid (HB2.out.trans (hb3.mono HB2.out.size))
 clear hb3
 go_wp2_with fail
 refine (N1.out _).mono ?_
 rintro e w4 ⟨rfl, hb4⟩
 have HST4 := Lib.hid (HST3.out.below hb4)
 have HB4 := Lib.hid (HB3.out.trans (hb4.mono HB3.out.size))
 clear hb4
 have HRUN := Lib.hid (evm_run_ok (w := w4) (cx := ⟨0, 0, 0, 0, 0⟩) (N := 40000) (m := msgA) HST4.out (by decide) ⟨by show 2 < wA; decide, by show 1 < wA; decide, by show 0 < wA; decide, by show 0 < wW; decide, by show 0 < wW; decide, by decide, by decide⟩ rfl (by decide) (by decide) (roAt_nil _ _) (by decide) (fun rb tb tab ht => stepP_ok ht) moveA HR.out)
 go_wp2_with fail
 refine HRUN.out.mono ?_
 rintro e w5 ⟨o, ov, lv, own5, n5, rfl, st5, g5, oa5, -, -, h3, h4, -, -⟩
 obtain ⟨oa, ok, lb, lj, rfl, rfl⟩ := oa5.forms
 have hok8 := outS_ok o oa lb o.out.length ok o.logs.length lj
 have hf5 : (w5.alloc (.cells (cat zs46).toArray 41)).free? w5.heap.size 0 24 = true := World.free?_alloc_at _ _ rfl (by rw [zs46_len]; omega)
 have hbx := box_new (w := w5) (t := 41) (n := 24) zs46_len hok8
 obtain ⟨w6, e6⟩ : ∃ w6, w6 = (w5.alloc (.cells (cat zs46).toArray 41)).setCells w5.heap.size 0 (cat (outS o (.slice oa o.out.length ok) (.slice lb o.logs.length lj))) := ⟨_, rfl⟩
 rw [← e6] at hbx
 have c0 := out_gas hbx.2
 have c1 := out_err hbx.2
 rw [h4, HGS.out] at c0
 rw [h3, Nat.zero_add] at c1
 have HST6 := Lib.hid (st5.below hbx.1)
 have HB5 : Hid (Below w.heap.size w w5) := HB4.out.trans (g5.only.below HB4.out.size (fun i hi => Nat.le_trans HB1.out.size (HLO.out i hi)))
 have HB6 := Lib.hid (HB5.out.trans (hbx.1.mono HB5.out.size))
 have HE6 := Lib.hid e6
 have HC0 := Lib.hid c0
 have HC1 := Lib.hid c1
 rw [e6] at c0 c1
 have heq : ∀ w, (binOp .eql 25 (.agg (beC 32 5).toArray) (.agg (beC 32 5).toArray)).run Tryz.prog w = .ok (.bool true) w := fun w => by
  have := eql_of (fun d => eqD25 (a := 5) (b := 5) (by decide) (by decide) w d)
  simpa using this
 clear st5 g5 oa5 h3 h4 e6 hbx b42
 have HEQ := Lib.hid heq
 clear heq
 generalize Value.agg (cat (msgS msgA (Value.slice none 0 0))).toArray = vm at *
 generalize Value.agg (cat zs49).toArray = vc at *
 go_wp2_with fail
 rw [← HE6.out]
 have d0 := HC0.out
 have d1 := HC1.out
 refine (law_num 0 _).mono ?_
 rintro e w7 ⟨rfl, rfl⟩
 go_wp2_with fail
 refine (N1.out _).mono ?_
 rintro e w8 ⟨rfl, hb8⟩
 have HST8 := Lib.hid (HST6.out.below hb8)
 have HB8 := Lib.hid (HB6.out.trans (hb8.mono HB6.out.size))
 clear hb8
 go_wp2_with fail
 refine (st_slot HST8.out 1 0 (by decide) (by decide)).mono ?_
 rintro e w9 ⟨rfl, hb9⟩
 have HB9 := Lib.hid (HB8.out.trans (hb9.mono HB8.out.size))
 clear hb9
 rw [HSL.out]
 go_wp2_with fail
 refine (O5.out _).mono ?_
 rintro e w10 ⟨rfl, hb10⟩
 have HBX := Lib.hid (HB9.out.trans (hb10.mono HB9.out.size))
 clear hb10
 have heq := HEQ.out
 go_wp2
 go_ret
 exact ⟨rfl, HBX.out⟩
end Go.Proofs.YtfflppedbopdpaaGreat
