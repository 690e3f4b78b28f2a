/-
  The walk of AsmWrong: which lines are none.
-/
import Derived.Test.YtaoacfkifcglfaaDoorAsm4
import Derived.Deep.QuietTactic
import Derived.BigQuiet
namespace Go.Proofs.YtaoacfkifcglfaaDoor
open Go.RowKit Go.Mun
def asmS : List (List UInt8) := [[],
  [65, 68, 68, 10],
  [97, 100, 100, 10],
  [65, 68, 68, 32, 10],
  [32, 65, 68, 68, 10],
  [65, 68, 68, 32, 48, 120, 48, 49, 10],
  [80, 85, 83, 72, 49, 10],
  [80, 85, 83, 72, 49, 32, 48, 120, 10],
  [80, 85, 83, 72, 49, 32, 48, 120, 48, 49, 48, 50, 10],
  [80, 85, 83, 72, 49, 32, 48, 120, 48, 71, 10],
  [80, 85, 83, 72, 49, 32, 48, 120, 65, 66, 10],
  [80, 85, 83, 72, 51, 51, 32, 48, 120, 48, 48, 10],
  [80, 85, 83, 72, 48, 10],
  [66, 89, 84, 69, 32, 48, 120, 48, 49, 10],
  [66, 89, 84, 69, 10],
  [66, 89, 84, 69, 32, 48, 120, 48, 49, 48, 50, 10],
  [73, 78, 86, 65, 76, 73, 68, 10],
  [65, 68, 68],
  [10],
  [80, 85, 83, 72, 50, 32, 32, 48, 120, 48, 49, 48, 50, 10],
  [68, 85, 80, 49, 55, 10],
  [76, 79, 71, 53, 10],
  [83, 87, 65, 80, 48, 10]]
def asmB : List Bool := [true, true, false, false, false, false, false, false, false, false, false, false, true, true, true, false, false, false, false, false, false, false, false]
def pushL : List UInt8 := [80, 85, 83, 72, 49, 32, 48, 120, 53, 98, 10]
def preG : Nat → List UInt8
  | 0 => []
  | i + 1 => preG i ++ pushL
theorem preG_len (i : Nat) : (preG i).length = 11 * i := by
  induction i with
  | zero => rfl
  | succ i ih => rw [preG, List.length_append, ih]; simp [pushL]; omega
theorem rd_preG : ∀ (g no : Nat) (out : List Int) (t : List UInt8), ∃ out', out'.length = out.length + 2 * g ∧ rd (preG g ++ t) no out = rd t (no + g) out'
  | 0, no, out, t => ⟨out, by omega, rfl⟩
  | g + 1, no, out, t => by
    obtain ⟨o1, h1, h2⟩ := rd_preG g no out (pushL ++ t)
    have hc : lineCode [80, 85, 83, 72, 49, 32, 48, 120, 53, 98] = some [96, 91] := by decide +kernel
    refine ⟨o1 ++ [96, 91], by simp; omega, ?_⟩
    rw [preG, List.append_assoc, h2, show pushL ++ t = [80, 85, 83, 72, 49, 32, 48, 120, 53, 98] ++ 10 :: t from rfl, rd_cons (by decide), hc]
    simp only
    rw [Nat.add_assoc]
theorem asm_lines : ∀ k : Fin 23, k.1 = 0 ∨ k.1 = 17 ∨ ((asmS[k.1]?.getD []) = (asmS[k.1]?.getD []).dropLast ++ [10] ∧ (asmS[k.1]?.getD []).dropLast.all (fun x => x != 10) = true ∧ (lineCode (asmS[k.1]?.getD []).dropLast).isSome = asmB[k.1]?.getD false) := by decide +kernel
theorem asm_short : ∀ k : Fin 23, (asmS[k.1]?.getD []).length ≤ 20 := by decide +kernel
theorem asm_wrong (k g : Nat) (hk : k < 23) (hg : g ≤ 50) : ∃ er no out, readA (preG g ++ (asmS[k]?.getD [])) = (er, no, out) ∧
    ((asmB[k]?.getD false = true ∧ er = 0 ∧ no = 0 ∧ 2 * g ≤ out.length) ∨ (asmB[k]?.getD false = false ∧ er = 2 ∧ no = g + 1 ∧ out = [])) := by
  have hs := asm_short ⟨k, hk⟩
  simp only at hs
  have hl := preG_len g
  unfold readA
  rw [if_neg (by rw [List.length_append, hl]; omega)]
  obtain ⟨o, h1, h2⟩ := rd_preG g 1 [] (asmS[k]?.getD [])
  rw [h2]
  rcases asm_lines ⟨k, hk⟩ with h | h | ⟨ha, hb, hc⟩
  · simp only at h
    subst h
    exact ⟨0, 0, o, rd_nil _ _, .inl ⟨rfl, rfl, rfl, by simp at h1; omega⟩⟩
  · simp only at h
    subst h
    refine ⟨2, 1 + g, [], ?_, .inr ⟨rfl, rfl, by omega, rfl⟩⟩
    have e := rd_end (s := [65, 68, 68]) (i := 0) (no := 1 + g) (out := o) (by decide) (fun k x h1 h2 hx => by
      have : k = 0 ∨ k = 1 ∨ k = 2 := by simp at h2; omega
      rcases this with rfl | rfl | rfl <;> (simp at hx; subst hx; decide))
    rw [if_pos (by decide)] at e
    exact e
  · simp only at ha hb hc
    rw [ha, rd_cons (fun x hx => by simpa using List.all_eq_true.1 hb x hx)]
    cases hlc : lineCode (asmS[k]?.getD []).dropLast with
    | none =>
      rw [hlc] at hc
      exact ⟨2, 1 + g, [], rfl, .inr ⟨hc.symm, rfl, by omega, rfl⟩⟩
    | some L =>
      rw [hlc] at hc
      exact ⟨0, 0, o ++ L, rd_nil _ _, .inl ⟨hc.symm, rfl, rfl, by simp at h1 ⊢; omega⟩⟩
theorem asmS_at (k : Nat) (hk : k < 23) : (strC asmS)[k]? = some (.string (str (asmS[k]?.getD []))) := by
  have hl : k < asmS.length := hk
  unfold strC
  simp [hl]
theorem asmB_at (k : Nat) (hk : k < 23) : (boolC asmB)[k]? = some (.bool (asmB[k]?.getD false)) := boolC_at asmB k hk
attribute [local irreducible] strC boolC

set_option maxRecDepth 100000 in
set_option maxHeartbeats 1000000 in
theorem asmWrong_walk (n m : Int) (hn : -9223372036854775808 ≤ n) (hn' : n ≤ 9223372036854775807) (hm : -9223372036854775808 ≤ m) (hm' : m ≤ 9223372036854775807) (w : World) (hT : Tab w) (hM : MaxL w) :
    Calls Tryd.prog 11 #[.int .i64 n, .int .i64 m] w fun e w' => e = .returned (.bool true) ∧ Below w.heap.size w w' := by
  by_cases hneg : n < 0
  · go_enter Tryd.func11, Tryd.ntmps11
    go_wp2_with fail
    refine (alive12 _ hT).mono ?_
    rintro e w1 ⟨rfl, hb1⟩
    have B1 := Lib.hid hb1
    clear hb1
    go_wp2_with (first | (with_reducible refine wpList_bslice (o := ⟨some 14, _, _, _, _, _⟩) (e := 9) rfl rfl (strC asmS) ?a1 ?_) | (with_reducible refine wpList_bslice (o := ⟨some 15, _, _, _, _, _⟩) (e := 4) rfl rfl (boolC asmB) ?a2 ?_))
    case a1 => intro wx; kernel_rfl
    case a2 => intro wx; kernel_rfl
    go_ret
    exact ⟨rfl, (B1.out.alloc B1.out.size _).alloc (by have := B1.out.size; simp; omega) _⟩
  by_cases hgt : 23 ≤ n
  · go_enter Tryd.func11, Tryd.ntmps11
    go_wp2_with fail
    refine (alive12 _ hT).mono ?_
    rintro e w1 ⟨rfl, hb1⟩
    have B1 := Lib.hid hb1
    clear hb1
    go_wp2_with (first | (with_reducible refine wpList_bslice (o := ⟨some 14, _, _, _, _, _⟩) (e := 9) rfl rfl (strC asmS) ?b1 ?_) | (with_reducible refine wpList_bslice (o := ⟨some 15, _, _, _, _, _⟩) (e := 4) rfl rfl (boolC asmB) ?b2 ?_))
    case b1 => intro wx; kernel_rfl
    case b2 => intro wx; kernel_rfl
    go_ret
    exact ⟨rfl, (B1.out.alloc B1.out.size _).alloc (by have := B1.out.size; simp; omega) _⟩
  by_cases hmn : m < 0
  · go_enter Tryd.func11, Tryd.ntmps11
    go_wp2_with fail
    refine (alive12 _ hT).mono ?_
    rintro e w1 ⟨rfl, hb1⟩
    have B1 := Lib.hid hb1
    clear hb1
    go_wp2_with (first | (with_reducible refine wpList_bslice (o := ⟨some 14, _, _, _, _, _⟩) (e := 9) rfl rfl (strC asmS) ?c1 ?_) | (with_reducible refine wpList_bslice (o := ⟨some 15, _, _, _, _, _⟩) (e := 4) rfl rfl (boolC asmB) ?c2 ?_))
    case c1 => intro wx; kernel_rfl
    case c2 => intro wx; kernel_rfl
    go_ret
    exact ⟨rfl, (B1.out.alloc B1.out.size _).alloc (by have := B1.out.size; simp; omega) _⟩
  by_cases hmg : 50 < m
  · go_enter Tryd.func11, Tryd.ntmps11
    go_wp2_with fail
    refine (alive12 _ hT).mono ?_
    rintro e w1 ⟨rfl, hb1⟩
    have B1 := Lib.hid hb1
    clear hb1
    go_wp2_with (first | (with_reducible refine wpList_bslice (o := ⟨some 14, _, _, _, _, _⟩) (e := 9) rfl rfl (strC asmS) ?d1 ?_) | (with_reducible refine wpList_bslice (o := ⟨some 15, _, _, _, _, _⟩) (e := 4) rfl rfl (boolC asmB) ?d2 ?_))
    case d1 => intro wx; kernel_rfl
    case d2 => intro wx; kernel_rfl
    go_ret
    exact ⟨rfl, (B1.out.alloc B1.out.size _).alloc (by have := B1.out.size; simp; omega) _⟩
  obtain ⟨k, rfl⟩ := Int.eq_ofNat_of_zero_le (by omega : 0 ≤ n)
  obtain ⟨g, rfl⟩ := Int.eq_ofNat_of_zero_le (by omega : 0 ≤ m)
  have hk : k < 23 := by omega
  have hg : g ≤ 50 := by omega
  have hk0 : (k : Int) < 23 := by omega
  have hg0 : (g : Int) ≤ 50 := by omega
  have HS := Lib.hid (asmS_at k hk)
  have HB := Lib.hid (asmB_at k hk)
  have hsz := asm_short ⟨k, hk⟩
  simp only at hsz
  obtain ⟨er, no, out, hR, hcase⟩ := asm_wrong k g hk hg
  have HC := Lib.hid hcase
  have HPl := Lib.hid (Nat.le_refl w.heap.size)
  have HRd : Hid (∀ wx, Below w.heap.size w wx → Calls Tryd.prog 36 #[.string (str (preG g) ++ str (asmS[k]?.getD []))] wx fun e w' => (∃ a n c, e = .returned (.tuple #[.slice a n c, .int .i64 (no : Int), .int .i64 er]) ∧ n = out.length ∧ Ints w' .u8 a c out) ∧ Below wx.heap.size wx w') := Lib.hid fun wx h => by
    rw [str_append]
    refine (asm_readAll (str (preG g ++ (asmS[k]?.getD []))) (by rw [str_size, List.length_append, preG_len]; omega) wx (hT.below h) (hM.below h)).mono ?_
    rintro e w' ⟨h1, h2⟩
    rw [str_data, hR] at h1
    exact ⟨h1, h2⟩
  have HA := Lib.hid (alive12 w hT)
  generalize asmB[k]?.getD false = bo at *
  have hts : (str (asmS[k]?.getD [])).size ≤ 20 := by rw [str_size]; exact hsz
  generalize str (asmS[k]?.getD []) = t at *
  clear hneg hgt hmn hmg hn hn' hm hm' hk hR hcase hsz hT hM
  go_enter Tryd.func11, Tryd.ntmps11
  go_wp2_with fail
  refine HA.out.mono ?_
  rintro e w1 ⟨rfl, hb1⟩
  have B1 := Lib.hid hb1
  clear hb1
  go_wp2_with (first | (with_reducible refine wpList_bslice (o := ⟨some 14, _, _, _, _, _⟩) (e := 9) rfl rfl (strC asmS) ?e1 ?_) | (with_reducible refine wpList_bslice (o := ⟨some 15, _, _, _, _, _⟩) (e := 4) rfl rfl (boolC asmB) ?e2 ?_))
  case e1 => intro wx; kernel_rfl
  case e2 => intro wx; kernel_rfl
  obtain ⟨W, hW⟩ : ∃ W, W = (w1.alloc (.cells (strC asmS).toArray 9)).alloc (.cells (boolC asmB).toArray 4) := ⟨_, rfl⟩
  rw [← hW]
  have cA : W.cell? ⟨w1.heap.size, k, none⟩ = some (.string t) := by
    rw [hW, World.cell?_alloc_lt _ _ _ (by simp), cell_of_new HS.out]
  have cB : W.cell? ⟨w1.heap.size + 1, k, none⟩ = some (.bool bo) := by
    have h1 : (w1.alloc (.cells (strC asmS).toArray 9)).heap.size = w1.heap.size + 1 := by simp
    rw [hW, ← h1]
    exact cell_of_new HB.out
  have hz := B1.out.size
  have BW := Lib.hid (show Below w.heap.size w W by rw [hW]; exact (B1.out.alloc hz _).alloc (by simp; omega) _)
  have CB := Lib.hid cB
  clear hW cB hz
  generalize w1.heap.size = p0 at *
  go_loop [8, 9] (fun s i => ∃ j : Nat, j ≤ g ∧ i = .int .i64 (j : Int) ∧ s = .string (str (preG j))) (fun _ i => g - (intOf i).toNat)
  case atStart => exact ⟨0, by omega, rfl, rfl⟩
  case round =>
    obtain ⟨j, hj, rfl, rfl⟩ := hrel
    have hps : (str (preG j)).size ≤ 550 := by rw [str_size, preG_len]; omega
    have HE : Hid (str (preG (j + 1)) = str (preG j) ++ ⟨#[80, 85, 83, 72, 49, 32, 48, 120, 53, 98, 10]⟩) := Lib.hid (by rw [preG, ← str_append]; rfl)
    by_cases hlt : j < g
    · obtain ⟨q, hq⟩ : ∃ q, q = str (preG j) := ⟨_, rfl⟩
      rw [← hq] at hps HE ⊢
      have q11 : (⟨#[80, 85, 83, 72, 49, 32, 48, 120, 53, 98, 10]⟩ : ByteArray).size = 11 := rfl
      clear hq
      go_wp2
      go_round
      case rel => exact ⟨j + 1, by omega, by go_num, by rw [HE.out]⟩
      case measure => simp [intOf]; omega
    · obtain rfl : j = g := by omega
      obtain ⟨q, hq⟩ : ∃ q, q = str (preG j) := ⟨_, rfl⟩
      rw [← hq] at hps HRd ⊢
      clear hq HE
      go_wp2_with fail
      refine (HRd.out _ BW.out).mono ?_
      rintro e w2 ⟨⟨a, n, c, rfl, hnl, _⟩, hb⟩
      have B2 := Lib.hid (below_next HPl.out BW.out hb)
      have cb := cell_below hb CB.out
      clear hb
      rcases HC.out with ⟨h1, h2, h3, h4⟩ | ⟨h1, h2, h3, h4⟩
      · subst h1 h2 h3
        have hge : (j : Int) * 2 ≤ n := by omega
        have hge2 : 2 * (j : Int) ≤ n := by omega
        clear hnl h4
        go_wp2_with (go_at_call 38; refine (num12 _ _).mono ?_; rintro e w6 ⟨rfl, rfl⟩)
        go_ret
        exact ⟨rfl, B2.out⟩
      · subst h1 h2 h3 h4
        obtain rfl : n = 0 := hnl
        go_wp2_with (go_at_call 38; refine (num12 _ _).mono ?_; rintro e w6 ⟨rfl, rfl⟩)
        go_ret
        exact ⟨rfl, B2.out⟩
theorem asmWrong_law (n : Int) (hn : (Lit.int .i64 n).wf = true) (m : Int) (hm : (Lit.int .i64 m).wf = true) (W : World) (hL : laidMet Tryd.prog Rows.asmWrongRow.laid W) (hsh : W.ShapedOpen Tryd.prog) :
    Calls Tryd.prog 11 #[.int .i64 n, .int .i64 m] W fun e w' => e = .returned (.bool true) ∧ Below W.heap.size W w' :=
  asmWrong_walk n m (wf_i64 hn).1 (wf_i64 hn).2 (wf_i64 hm).1 (wf_i64 hm).2 W (tab_of_laid hL) (maxL_of_shape hsh)
end Go.Proofs.YtaoacfkifcglfaaDoor
