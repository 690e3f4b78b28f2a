/-
  The walk of HexWrong: which texts are none of bytes, of a word, of an address.
-/
import Derived.Test.YtaoacfkifcglfaaDoorLawR
import Derived.Deep.QuietTactic
import Derived.BigQuiet
namespace Go.Mun
open Go.RowKit
/-- A slice's literal of constants: its cells stay closed. -/
theorem wpList_bslice {P : Program} {w : World} {ops : Array Oper} {rest : List Oper} {o : Oper} {a : Act} {Q : Exit → Act → World → Prop} (hgd : o.guard = none) {t len e : Nat} {parts : Array (Nat × Operand)}
    (ho : o.op = .buildSlice t len parts) (cs : List Value) (hrun : ∀ w, (Instr.buildSlice t len (parts.map fun p => (p.1, a.eval p.2))).run P w = .ok (.slice (some ⟨w.heap.size, 0, none⟩) len len) (w.alloc (.cells cs.toArray e)))
    (h : wpList P ops Q rest (a.put o.dst (.slice (some ⟨w.heap.size, 0, none⟩) len len)) (w.alloc (.cells cs.toArray e))) : wpList P ops Q (o :: rest) a w := by
  refine wpList_plain hgd fun K hK => ?_
  unfold Oper.wp
  have e1 : (execOp a.eval o).run P w = .ok (.value (.slice (some ⟨w.heap.size, 0, none⟩) len len)) (w.alloc (.cells cs.toArray e)) := by
    unfold execOp
    rw [ho]
    simp only [Sem.run_bind, hrun]
    rfl
  simp [e1]
  exact hK _ _ h
end Go.Mun
namespace Go.Proofs.YtaoacfkifcglfaaDoor
open Go.RowKit Go.Mun
attribute [local irreducible] be beC zU8
def wrongS : List (List UInt8) := [[],
  [48],
  [48, 120],
  [48, 120, 48],
  [48, 120, 48, 48],
  [48, 120, 48, 49],
  [48, 120, 49],
  [48, 88, 48, 49],
  [48, 120, 65],
  [48, 120, 65, 66],
  [48, 120, 97, 98],
  [48, 120, 97, 98, 99],
  [97, 98],
  [48, 120, 32, 97, 98],
  [48, 120, 97, 98, 32],
  [48, 120, 103, 48],
  [48, 120, 48, 48, 48, 48, 48, 48, 48, 48, 48, 48, 48, 48, 48, 48, 48, 48, 48, 48, 48, 48, 48, 48, 48, 48, 48, 48, 48, 48, 48, 48, 48, 48, 48, 48, 48, 48, 48, 48, 102, 102],
  [48, 120, 48, 48, 48, 48, 48, 48, 48, 48, 48, 48, 48, 48, 48, 48, 48, 48, 48, 48, 48, 48, 48, 48, 48, 48, 48, 48, 48, 48, 48, 48, 48, 48, 48, 48, 48, 48, 48, 48, 48],
  [48, 120, 195, 169, 48],
  [48, 120, 49, 48, 48, 48, 48, 48, 48, 48, 48, 48, 48, 48, 48, 48, 48, 48, 48, 48, 48, 48, 48, 48, 48, 48, 48, 48, 48, 48, 48, 48, 48, 48, 48, 48, 48, 48, 48, 48, 48, 48, 48, 48, 48, 48, 48, 48, 48, 48, 48, 48, 48, 48, 48, 48, 48, 48, 48, 48, 48, 48, 48, 48, 48, 48],
  [48, 120, 49, 48, 48, 48, 48, 48, 48, 48, 48, 48, 48, 48, 48, 48, 48, 48, 48, 48, 48, 48, 48, 48, 48, 48, 48, 48, 48, 48, 48, 48, 48, 48, 48, 48, 48, 48, 48, 48, 48, 48, 48, 48, 48, 48, 48, 48, 48, 48, 48, 48, 48, 48, 48, 48, 48, 48, 48, 48, 48, 48, 48, 48, 48, 48, 48]]
def wrongB : List Bool := [false, false, true, false, true, true, false, false, false, false, true, false, false, false, false, false, true, false, false, true, false]
def wrongW : List Bool := [false, false, false, true, false, false, true, false, false, false, true, true, false, false, false, false, false, false, false, true, false]
def strC (l : List (List UInt8)) : List Value := l.map fun s => .string (str s)
def boolC (l : List Bool) : List Value := l.map Value.bool
theorem wrong_all : ∀ i : Fin 21, rdO (wrongS[i.1]?.getD []) = wrongB[i.1]?.getD false ∧ wdO (wrongS[i.1]?.getD []) = wrongW[i.1]?.getD false ∧ adO (wrongS[i.1]?.getD []) = decide (i.1 = 16) := by decide +kernel

theorem strC_at (k : Nat) (hk : k < 21) : (strC wrongS)[k]? = some (.string (str (wrongS[k]?.getD []))) := by
  have hl : k < wrongS.length := hk
  simp [strC, hl]
theorem boolC_at (l : List Bool) (k : Nat) (hk : k < l.length) : (boolC l)[k]? = some (.bool (l[k]?.getD false)) := by simp [boolC, hk]
theorem cell_of_new {w : World} {cs : List Value} {e k : Nat} {v : Value} (h : cs[k]? = some v) : (w.alloc (.cells cs.toArray e)).cell? ⟨w.heap.size, k, none⟩ = some v := by
  rw [cell_of_row _ w.heap.size k _ e (0, 0) (heap_alloc_new w _)]; simpa using h
theorem cell_below {w w' : World} (hb : Below w.heap.size w w') {b o : Nat} {v : Value} (h : w.cell? ⟨b, o, none⟩ = some v) : w'.cell? ⟨b, o, none⟩ = some v := by
  rw [← h]; exact hb.cell (p := ⟨b, o, none⟩) (World.block_lt_of_cell? w _ h)
attribute [local irreducible] strC boolC
theorem wrong_size (k : Nat) : (str (wrongS[k]?.getD [])).size ≤ 100 := by
  rw [str_size]
  by_cases hk : k < 21
  · have : ∀ i : Fin 21, (wrongS[i.1]?.getD []).length ≤ 100 := by decide
    exact this ⟨k, hk⟩
  · have : wrongS[k]? = none := List.getElem?_eq_none (show wrongS.length ≤ k by show 21 ≤ k; omega)
    rw [this]; simp

theorem num3q (n : Int) (w : World) : Calls Tryd.prog 17 #[.int .i64 n] w fun e w' => e = .returned (.int .i64 n) ∧ w' = w := (num3 n w).mono fun _ _ h => ⟨h.1, h.2.symm⟩

set_option maxRecDepth 10000 in
set_option maxHeartbeats 800000 in
theorem hexWrong_walk (n : Int) (hn : -9223372036854775808 ≤ n) (hn' : n ≤ 9223372036854775807) (w : World) :
    Calls Tryd.prog 6 #[.int .i64 n] w fun e w' => e = .returned (.bool true) ∧ Below w.heap.size w w' := by
  by_cases hneg : n < 0
  · go_enter Tryd.func6, Tryd.ntmps6
    go_wp2_with fail
    refine (alive3 _).mono ?_
    rintro e w1 ⟨rfl, hb1⟩
    have B1 := Lib.hid hb1
    clear hb1
    go_wp2_with (first | (with_reducible refine wpList_bslice (o := ⟨some 14, _, _, _, _, _⟩) (e := 9) rfl rfl (strC wrongS) ?h1 ?_) | (with_reducible refine wpList_bslice (o := ⟨some 15, _, _, _, _, _⟩) (e := 4) rfl rfl (boolC wrongB) ?h2 ?_) | (with_reducible refine wpList_bslice (o := ⟨some 16, _, _, _, _, _⟩) (e := 4) rfl rfl (boolC wrongW) ?h3 ?_))
    case h1 => intro wx; kernel_rfl
    case h2 => intro wx; kernel_rfl
    case h3 => intro wx; kernel_rfl
    go_ret
    exact ⟨rfl, ((B1.out.alloc B1.out.size _).alloc (by have := B1.out.size; simp; omega) _).alloc (by have := B1.out.size; simp; omega) _⟩
  · by_cases hgt : 21 ≤ n
    · go_enter Tryd.func6, Tryd.ntmps6
      go_wp2_with fail
      refine (alive3 _).mono ?_
      rintro e w1 ⟨rfl, hb1⟩
      have B1 := Lib.hid hb1
      clear hb1
      go_wp2_with (first | (with_reducible refine wpList_bslice (o := ⟨some 14, _, _, _, _, _⟩) (e := 9) rfl rfl (strC wrongS) ?g1 ?_) | (with_reducible refine wpList_bslice (o := ⟨some 15, _, _, _, _, _⟩) (e := 4) rfl rfl (boolC wrongB) ?g2 ?_) | (with_reducible refine wpList_bslice (o := ⟨some 16, _, _, _, _, _⟩) (e := 4) rfl rfl (boolC wrongW) ?g3 ?_))
      case g1 => intro wx; kernel_rfl
      case g2 => intro wx; kernel_rfl
      case g3 => intro wx; kernel_rfl
      go_ret
      exact ⟨rfl, ((B1.out.alloc B1.out.size _).alloc (by have := B1.out.size; simp; omega) _).alloc (by have := B1.out.size; simp; omega) _⟩
    · obtain ⟨k, rfl⟩ := Int.eq_ofNat_of_zero_le (by omega : 0 ≤ n)
      have hk : k < 21 := by omega
      obtain ⟨f1, f2, f3⟩ := wrong_all ⟨k, hk⟩
      have hsz := wrong_size k
      have HS := Lib.hid (strC_at k hk)
      have HB := Lib.hid (boolC_at wrongB k hk)
      have HW := Lib.hid (boolC_at wrongW k hk)
      simp only at f1 f2 f3
      have HD : Hid (∀ l : List UInt8, (str l).data.toList = l) := Lib.hid str_data
      generalize wrongS[k]?.getD [] = s at *
      generalize wrongB[k]?.getD false = o1 at *
      generalize wrongW[k]?.getD false = o2 at *
      have f4 : adO s = decide ((k : Int) = 16) := by rw [f3, decide_eq_decide]; omega
      go_enter Tryd.func6, Tryd.ntmps6
      go_wp2_with fail
      refine (alive3 _).mono ?_
      rintro e w1 ⟨rfl, hb1⟩
      have B1 := Lib.hid hb1
      clear hb1
      have c1 : (((w1.alloc (.cells (strC wrongS).toArray 9)).alloc (.cells (boolC wrongB).toArray 4)).alloc (.cells (boolC wrongW).toArray 4)).cell? ⟨w1.heap.size, k, none⟩ = some (.string (str s)) := by
        rw [World.cell?_alloc_lt _ _ _ (by simp; omega), World.cell?_alloc_lt _ _ _ (by simp), cell_of_new HS.out]
      go_wp2_with (first | (with_reducible refine wpList_bslice (o := ⟨some 14, _, _, _, _, _⟩) (e := 9) rfl rfl (strC wrongS) ?f1 ?_) | (with_reducible refine wpList_bslice (o := ⟨some 15, _, _, _, _, _⟩) (e := 4) rfl rfl (boolC wrongB) ?f2 ?_) | (with_reducible refine wpList_bslice (o := ⟨some 16, _, _, _, _, _⟩) (e := 4) rfl rfl (boolC wrongW) ?f3 ?_))
      case f1 => intro wx; kernel_rfl
      case f2 => intro wx; kernel_rfl
      case f3 => intro wx; kernel_rfl
      obtain ⟨W, hW⟩ : ∃ W, W = ((w1.alloc (.cells (strC wrongS).toArray 9)).alloc (.cells (boolC wrongB).toArray 4)).alloc (.cells (boolC wrongW).toArray 4) := ⟨_, rfl⟩
      rw [← hW]
      have hz := B1.out.size
      have cA : W.cell? ⟨w1.heap.size, k, none⟩ = some (.string (str s)) := by rw [hW]; exact c1
      have cB : W.cell? ⟨w1.heap.size + 1, k, none⟩ = some (.bool o1) := by
        have h1 : (w1.alloc (.cells (strC wrongS).toArray 9)).heap.size = w1.heap.size + 1 := by simp
        rw [hW, World.cell?_alloc_lt _ _ _ (by simp), ← h1]
        exact cell_of_new HB.out
      have cC : W.cell? ⟨w1.heap.size + 1 + 1, k, none⟩ = some (.bool o2) := by
        have h1 : ((w1.alloc (.cells (strC wrongS).toArray 9)).alloc (.cells (boolC wrongB).toArray 4)).heap.size = w1.heap.size + 1 + 1 := by simp
        rw [hW, ← h1]
        exact cell_of_new HW.out
      have BW := Lib.hid (show Below w.heap.size w W by rw [hW]; exact ((B1.out.alloc hz _).alloc (by simp; omega) _).alloc (by simp; omega) _)
      have CA := Lib.hid cA
      have CB := Lib.hid cB
      have CC := Lib.hid cC
      clear c1 hW cA cB cC hz
      generalize w1.heap.size = p0 at *
      have h40 : (str s).size ≤ 1099511627776 := by omega
      have HR : Hid (∀ w, Calls Tryd.prog 18 #[.string (str s)] w fun e w' => (∃ a n c, e = .returned (.tuple #[.slice a n c, .int .i64 (errK o1)])) ∧ Below w.heap.size w w') := Lib.hid fun w => (hex_read2 (str s) h40 w).mono fun e w' h => by
        obtain ⟨⟨a, n, c, h1, _⟩, h2⟩ := h
        rw [HD.out, f1] at h1
        exact ⟨⟨a, n, c, h1⟩, h2⟩
      have HX : Hid (∀ w, Calls Tryd.prog 16 #[.string (str s)] w fun e w' => e = .returned (.tuple #[.agg (u8L (wdL s)).toArray, .int .i64 (errK o2)]) ∧ Below w.heap.size w w') := Lib.hid fun w => (hex_word2 (str s) h40 w).mono fun e w' h => by
        obtain ⟨h1, h2⟩ := h
        rw [HD.out, f2] at h1
        exact ⟨h1, h2⟩
      have HY : Hid (∀ w, Calls Tryd.prog 21 #[.string (str s)] w fun e w' => e = .returned (.tuple #[.agg (u8L (adL s)).toArray, .int .i64 (errK (decide ((k : Int) = 16)))]) ∧ Below w.heap.size w w') := Lib.hid fun w => (hex_addr2 (str s) h40 w).mono fun e w' h => by
        obtain ⟨h1, h2⟩ := h
        rw [HD.out, f4] at h1
        exact ⟨h1, h2⟩
      have ok2 : okL 32 (u8L (wdL s)) = true := u8L_ok _ 32 (wdL_len s)
      have ok3 : okL 20 (u8L (adL s)) = true := u8L_ok _ 20 (adL_len s)
      generalize wdL s = l2 at *
      generalize adL s = l3 at *
      have e1 : (errK o1 == 0) = o1 := by cases o1 <;> rfl
      have e2 : (errK o2 == 0) = o2 := by cases o2 <;> rfl
      have e3 : (errK (decide ((k : Int) = 16)) == 0) = ((k : Int) == 16) := by
        by_cases h : (k : Int) = 16
        · rw [h]; rfl
        · have h' : ((k : Int) == 16) = false := by simpa using h
          rw [decide_eq_false h, h']; rfl
      generalize errK o1 = k1 at *
      generalize errK o2 = k2 at *
      generalize errK (decide ((k : Int) = 16)) = k3 at *
      clear f1 f2 f3 f4 B1 HS HB HW h40
      refine (HR.out _).mono ?_
      rintro e w2 ⟨⟨a, n, c, rfl⟩, hb⟩
      have A2 := Lib.hid (cell_below hb CA.out)
      have D2 := Lib.hid (cell_below hb CB.out)
      have C2 := Lib.hid (cell_below hb CC.out)
      have B2 := Lib.hid (show Below w.heap.size w w2 from BW.out.trans (hb.mono BW.out.size))
      clear hb
      have ca := A2.out
      go_wp2_with fail
      refine (HX.out _).mono ?_
      rintro e w3 ⟨rfl, hb⟩
      have A3 := Lib.hid (cell_below hb A2.out)
      have D3 := Lib.hid (cell_below hb D2.out)
      have C3 := Lib.hid (cell_below hb C2.out)
      have B3 := Lib.hid (show Below w.heap.size w w3 from B2.out.trans (hb.mono B2.out.size))
      clear hb ca
      have hlt := World.block_lt_of_cell? _ _ A3.out
      have ca : ((w3.alloc (.cells (zU8 32).toArray 25)).setCells w3.heap.size 0 (u8L l2)).cell? ⟨p0, k, none⟩ = some (.string (str s)) := by
        obtain ⟨_, d5, _⟩ := laid_row (W := (w3.alloc (.cells (zU8 32).toArray 25)).setCells w3.heap.size 0 (u8L l2)) rfl B3.out ok2
        exact cell_below d5 A3.out
      go_wp2_with fail
      obtain ⟨w4, hw4⟩ : ∃ W, W = (w3.alloc (.cells (zU8 32).toArray 25)).setCells w3.heap.size 0 (u8L l2) := ⟨_, rfl⟩
      rw [← hw4]
      obtain ⟨b5, d5, r5⟩ := laid_row hw4 B3.out ok2
      have D4 := Lib.hid (cell_below d5 D3.out)
      have C4 := Lib.hid (cell_below d5 C3.out)
      have B4 := Lib.hid b5
      clear b5 d5 r5 ca hw4 hlt
      refine (HY.out _).mono ?_
      rintro e w5 ⟨rfl, hb⟩
      have D5 := Lib.hid (cell_below hb D4.out)
      have C5 := Lib.hid (cell_below hb C4.out)
      have B5 := Lib.hid (show Below w.heap.size w w5 from B4.out.trans (hb.mono B4.out.size))
      clear hb
      go_wp2_with fail
      obtain ⟨w6, hw6⟩ : ∃ W, W = (w5.alloc (.cells (zU8 20).toArray 41)).setCells w5.heap.size 0 (u8L l3) := ⟨_, rfl⟩
      rw [← hw6]
      obtain ⟨b5, d5, r5⟩ := laid_row hw6 B5.out ok3
      have cd := cell_below d5 D5.out
      have cc := cell_below d5 C5.out
      have B6 := Lib.hid b5
      clear b5 d5 r5 hw6
      generalize w5.heap.size = p3 at *
      go_quiet ((go_at_call 17; exact Calls.quiet_of_same (num3q _ _)))
      go_wp2
      go_ret
      exact ⟨rfl, below_drewN B6.out _⟩
theorem hexWrong_law (n : Int) (h : (Lit.int .i64 n).wf = true) (w : World) :
    Calls Tryd.prog 6 #[.int .i64 n] w fun e w' => e = .returned (.bool true) ∧ Below w.heap.size w w' := hexWrong_walk n (wf_i64 h).1 (wf_i64 h).2 w
end Go.Proofs.YtaoacfkifcglfaaDoor
