/-
  Items as transactions: the program's Of, seven items.
  Bytes as transactions: the program's reader of a transaction.
  The reference's reader of items: the short ways.
  The reference's reader of items: facts about its head.
  A block that is one row: what is copied into it.
  The reference's Read, of what its part comes to.
  The reference's ReadTx, of what its part and its Of come to.
  The reference's Int: a word as a number, when it fits.
  The reference's IntOf, of what its WordOf comes to.
  The reference's IntOf, of what its WordOf comes to.
  The reference's WordOf: the ways that give none.
  The reference's WordOf: a word.
  The reference's WordOf: of no bytes.
  The reference's Of: the short ways.
  The reference's Of: seven items.
  The reference's reader of items: bytes.
  The reference's reader of items: lists.
  The reference's reader of items: whole.
  The reference's ReadTx.
  The reference's SameTx: of a transaction and itself.
-/
import Derived.Test.YtikiciojfhfagaaGreatQTx1
import Derived.Test.YtikiciojfhfagaaGreatQTx4
set_option linter.unusedVariables false
set_option linter.unusedSimpArgs false
namespace Go.Proofs.YtikiciojfhfagaaGreat
open Go.RowKit Go.Mun

theorem KidsAt.seven {w : World} {R : Nat → Prop} {css : List (List Value)} {k0 k1 k2 k3 k4 k5 k6 : Option Bts} (h : KidsAt w R css [k0, k1, k2, k3, k4, k5, k6]) :
    ∃ c0 c1 c2 c3 c4 c5 c6, css = [c0, c1, c2, c3, c4, c5, c6] ∧ KidsAt w R [c0, c1, c2] [k0, k1, k2] ∧ KidAt w R c3 k3 ∧ KidAt w R c4 k4 ∧ KidAt w R c5 k5 ∧ KidAt w R c6 k6 := by
  match css, h with
  | [c0, c1, c2, c3, c4, c5, c6], ⟨h0, h1, h2, h3, h4, h5, h6, _⟩ => exact ⟨_, _, _, _, _, _, _, rfl, ⟨h0, h1, h2, trivial⟩, h3, h4, h5, h6⟩
theorem ofSeven_no {k0 k1 k2 k3 k4 k5 k6 : Option Bts} (h : (numsK [k0, k1, k2]).isSome = false ∨ (addrK k3).isSome = false ∨ (wordK k5).isSome = false ∨ isL k4 = true ∨ isL k6 = true) : ofSeven k0 k1 k2 k3 k4 k5 k6 = none := by
  unfold ofSeven isL at *
  split
  · rename_i e1 e2 e3
    rw [e1, e2, e3] at h
    simp at h
  · rfl
theorem addrK_len {k : Option Bts} {f : Bts} (h : addrK k = some f) : k = some f ∧ f.length = 20 := by
  cases k with
  | none => cases h
  | some l => unfold addrK at h; simp only at h; split at h
              · cases h; exact ⟨rfl, by assumption⟩
              · cases h
theorem addrK_ok (k : Option Bts) : okL 20 (u8L ((addrK k).getD (List.replicate 20 0))) = true := by
  apply u8L_ok
  cases h : addrK k with
  | none => simp
  | some f => exact (addrK_len h).2

theorem txS_ok (t : TxP) (a : Option Addr) (k c : Nat) : okL 77 (cat (txS t (.slice a k c))) = true := by
  refine okL_cat (txS_len _ _) fun s hs => ?_
  simp only [txS, List.mem_cons, List.not_mem_nil, or_false] at hs
  rcases hs with rfl | rfl | rfl | rfl | rfl | rfl | rfl | rfl
  all_goals first | rfl | (rw [beC_len]; exact beC_ok _ _)
theorem lensTx : lens zsN44 = [1, 1, 1, 20, 20, 1, 32, 1] := by kernel_rfl
theorem buildTx (n p g : Int) (fr : Nat) (mk : Bool) (v : Nat) (D : Bts) (a : Option Addr) (k c : Nat) : fillL 77 (plOf zsN44) (cat zsN44) [(0, .int .i64 n), (1, .int .i64 p), (2, .int .i64 g), (3, .agg (beC 20 fr).toArray), (6, .agg (beC 32 v).toArray), (7, .slice a k c), (5, .bool mk)] = some (cat (txS ⟨n, p, g, fr, 0, mk, v, D⟩ (.slice a k c))) := by
  rw [fillL_cats _ _ _ zsN44_len]
  · rfl
  · rw [lensTx]
    refine fits_cons rfl (fits_cons rfl (fits_cons rfl (fits_cons ?_ (fits_cons ?_ (fits_cons rfl (fits_cons rfl (fits_nil _)))))))
    · show some 20 = some (beC 20 fr).length; rw [beC_len]
    · show some 32 = some (beC 32 v).length; rw [beC_len]
theorem txS_to (t : TxP) (dv : Value) (a : Nat) : (txS t dv).set 4 (beC 20 a) = txS { t with to := a } dv := rfl
theorem ints_only {w w' : World} {k : IntKind} {a : Option Addr} {c : Nat} {l : List Int} {S : Nat → Prop} (h : Ints w k a c l) (ho : Only S w w') (hs : ∀ p, p.block < w.heap.size → a = some p → ¬ S p.block) : Ints w' k a c l := by
  refine ⟨fun hl => ?_, h.nil, h.len, h.cap⟩
  obtain ⟨b, off, ha, hb, hc⟩ := h.at (i := 0) (List.length_pos_iff.2 hl)
  refine ⟨b, off, ha, fun i hi => ?_⟩
  rw [ho.cell? hb (hs _ hb ha)]; exact hc i hi
theorem ints_only2 {w w' : World} {k : IntKind} {a : Option Addr} {c : Nat} {l : List Int} {S : Nat → Prop} (h : Ints w k a c l) (ho : Only S w w') (hs : l ≠ [] → ∀ p, a = some p → ¬ S p.block) : Ints w' k a c l := by
  refine ⟨fun hl => ?_, h.nil, h.len, h.cap⟩
  obtain ⟨b, off, ha, hb, hc⟩ := h.at (i := 0) (List.length_pos_iff.2 hl)
  refine ⟨b, off, ha, fun i hi => ?_⟩
  rw [ho.cell? hb (hs hl _ ha)]; exact hc i hi
theorem u8L_be (l : Bts) (n : Nat) (h : Byt l) (hn : l.length = n) : u8L l = beC n (beN l) := by
  subst hn
  unfold beC
  rw [be_beN l h]
  rfl
theorem KidAt.some {w : World} {R : Nat → Prop} {cs : List Value} {l : Bts} (h : KidAt w R cs (some l)) : ∃ a c, cs = [.bool false, .slice a l.length c, .slice none 0 0] ∧ Ints w .u8 a c l ∧ Byt l := by
  obtain ⟨a, c, h1, h2, _, h3⟩ := h; exact ⟨a, c, h1, h2, h3⟩

set_option maxRecDepth 100000 in
set_option maxHeartbeats 8000000 in
theorem of_seven {R : Nat → Prop} {cs : List Value} {k0 k1 k2 k3 k4 k5 k6 : Option Bts} {w : World} (h : TopAt w R cs (.list [k0, k1, k2, k3, k4, k5, k6])) (hsz : ∀ l, k6 = some l → l.length ≤ 70000000000000) :
    Calls Tryz.prog 31 #[.agg cs.toArray] w fun e w' => OfIs w w' (ofSeven k0 k1 k2 k3 k4 k5 k6) e := by
  obtain ⟨a, c, rfl, h2⟩ := h
  obtain ⟨b, off, css, rfl, hc, hcm, _, hrow, hks⟩ := h2 (by simp)
  obtain ⟨c0, c1, c2, c3, c4, c5, c6, rfl, h012, h3, h4, h5, h6⟩ := hks.seven
  have hlt := World.row?_lt hrow
  have l0 := h012.1.len
  have l1 := h012.2.1.len
  have l2 := h012.2.2.1.len
  have l3 := h3.len
  have l4 := h4.len
  have l5 := h5.len
  have l6 := h6.len
  have hrow' : w.row? b off 21 = some (cat [c0, c1, c2, c3, c4, c5, c6]) := hrow
  have i012 : w.row? b off ([k0, k1, k2].length * 3) = some [c0, c1, c2].flatten := by
    show w.row? b off 9 = _
    rw [World.row?_sub hrow' (Nat.le_refl _) (by omega)]
    simp only [Nat.sub_self, List.drop_zero, cat, List.flatten_cons, List.flatten_nil, List.append_nil]
    congr 1
    rw [← List.append_assoc, ← List.append_assoc, List.append_assoc c0, List.take_left' (by simp; omega)]
  have i3 : w.row? b (off + 9) 3 = some c3 := row_cat hrow' (i := 3) rfl (by simp [offOf_succ, offOf_zero, l0, l1, l2]) l3.symm
  have i4 : w.row? b (off + 12) 3 = some c4 := row_cat hrow' (i := 4) rfl (by simp [offOf_succ, offOf_zero, l0, l1, l2, l3]) l4.symm
  have i5 : w.row? b (off + 15) 3 = some c5 := row_cat hrow' (i := 5) rfl (by simp [offOf_succ, offOf_zero, l0, l1, l2, l3, l4]) l5.symm
  have i6 : w.row? b (off + 18) 3 = some c6 := row_cat hrow' (i := 6) rfl (by simp [offOf_succ, offOf_zero, l0, l1, l2, l3, l4, l5]) l6.symm
  have hsl := slice63_3 b off c hc
  have hokz := okL_zs44
  obtain ⟨w0, e0⟩ : ∃ w0, w0 = (w.alloc (.cells #[.bool true, .slice none 0 0, .slice (some ⟨b, off, none⟩) 7 c] 65)).alloc (.cells (cat zsN44).toArray 44) := ⟨_, rfl⟩
  have hb0 : Below w.heap.size w w0 := by rw [e0]; exact ((Below.refl _ _).alloc (Nat.le_refl _) _).alloc (by simp) _
  have hs0 : w0.heap.size = w.heap.size + 2 := by rw [e0]; simp
  have hr : w0.row? w.heap.size 0 3 = some [.bool true, .slice none 0 0, .slice (some ⟨b, off, none⟩) 7 c] := by rw [e0, World.row?_alloc_lt _ (by simp)]; exact World.row?_alloc_at [.bool true, .slice none 0 0, .slice (some ⟨b, off, none⟩) 7 c] 65 _ rfl rfl
  have hf : w0.free? (w.heap.size + 1) 0 77 = true := by rw [e0]; exact World.free?_alloc_at _ _ (by simp) (by simp [zsN44_len])
  have hT : ∀ b : Nat, b < w.heap.size → (fun _ : Nat => True) b → ¬ (fun _ : Nat => False) b := fun _ _ _ h => h
  have HC1 := Lib.hid (tx_Numbers (c := c) (h012.only (R' := fun _ => True) (Only.of_below_size hb0) (fun _ _ _ h => h) (fun _ _ _ => trivial)) (by simp) (((brow hb0).1 _ _ _ hlt).trans i012))
  have HE0 := Lib.hid e0
  have HB0 := Lib.hid hb0
  have HS0 := Lib.hid hs0
  have HF0 := Lib.hid hf
  have HI3 := Lib.hid i3
  have HI4 := Lib.hid i4
  have HI5 := Lib.hid i5
  have HI6 := Lib.hid i6
  have H3 := Lib.hid h3
  have H4 := Lib.hid h4
  have H5 := Lib.hid h5
  have H6 := Lib.hid h6
  have HNO := Lib.hid (@ofSeven_no k0 k1 k2 k3 k4 k5 k6)
  have HLT := Lib.hid hlt
  have HSZ := Lib.hid hsz
  rw [e0] at hr
  obtain ⟨bn, hbn⟩ : ∃ bn, bn = (numsK [k0, k1, k2]).isSome := ⟨_, rfl⟩
  obtain ⟨ba, hba⟩ : ∃ ba, ba = (addrK k3).isSome := ⟨_, rfl⟩
  obtain ⟨bw, hbw⟩ : ∃ bw, bw = (wordK k5).isSome := ⟨_, rfl⟩
  obtain ⟨b4, hb4⟩ : ∃ b4, b4 = isL k4 := ⟨_, rfl⟩
  obtain ⟨b6, hb6⟩ : ∃ b6, b6 = isL k6 := ⟨_, rfl⟩
  obtain ⟨A, hA⟩ : ∃ A, A = u8L ((addrK k3).getD (List.replicate 20 0)) := ⟨_, rfl⟩
  obtain ⟨V, hV⟩ : ∃ V, V = beC 32 ((wordK k5).getD 0) := ⟨_, rfl⟩
  have okA : okL 20 A = true := by rw [hA]; exact addrK_ok k3
  have okV : okL 32 V = true := by rw [hV]; exact beC_ok 32 _
  have HBN := Lib.hid hbn
  have HBA := Lib.hid hba
  have HBW := Lib.hid hbw
  have HB4 := Lib.hid hb4
  have HB6 := Lib.hid hb6
  have HA := Lib.hid hA
  have HV := Lib.hid hV
  clear e0 hb0 hs0 hf h012 hrow hrow' hks h2 i012 i3 i4 i5 i6 h3 h4 h5 h6 hlt hsz hbn hba hbw hb4 hb6 hA hV hT l0 l1 l2
  go_enter Tryz.func31, Tryz.ntmps31
  go_wp2_with fail
  rw [← HE0.out]
  refine HC1.out.mono ?_
  rintro e w1 hN
  obtain ⟨v, rfl, hb1, hown⟩ := hN.one
  rw [← HBN.out]
  have hB1 : Below w.heap.size w w1 := HB0.out.trans (hb1.mono HB0.out.size)
  have r3 : w1.row? b (off + 9) 3 = some c3 := ((brow hB1).1 _ _ _ HLT.out).trans HI3.out
  have hf1 : w1.free? (w.heap.size + 1) 0 77 = true := by rw [(brow hb1).2 _ _ _ (free?_lt HF0.out)]; exact HF0.out
  have HC2 := Lib.hid (tx_Address (H3.out.only (R' := fun _ => True) (Only.of_below_size hB1) (fun _ _ _ h => h) (fun _ _ _ => trivial)))
  have HB1 := Lib.hid hB1
  have HF1 := Lib.hid hf1
  have HOWN := Lib.hid hown
  clear hN hb1 hown hB1 hf1 hr
  go_wp2_with fail
  refine HC2.out.mono ?_
  rintro e w2 ⟨rfl, hb2⟩
  rw [← HBA.out, ← HA.out]
  obtain ⟨W2, eW2⟩ : ∃ W2, W2 = (w2.alloc (.cells (zU8 20).toArray 23)).setCells w2.heap.size 0 A := ⟨_, rfl⟩
  have hb2' : Below w1.heap.size w1 W2 := by rw [eW2]; exact (hb2.alloc hb2.size _).setCells hb2.size _ _
  have hB2 : Below w.heap.size w W2 := HB1.out.trans (hb2'.mono HB1.out.size)
  have hA2 : Arr W2 w2.heap.size 20 A := by rw [eW2]; exact (Arr.new w2 20 (zU8 20) 23 (by simp [zU8])).setCells A okA
  have r5 : W2.row? b (off + 15) 3 = some c5 := ((brow hB2).1 _ _ _ HLT.out).trans HI5.out
  have f23 : (w2.alloc (.cells (zU8 20).toArray 23)).free? w2.heap.size 0 20 = true := World.free?_alloc_at _ _ rfl (by simp [zU8])
  have HC3 := Lib.hid (rlp_Word (H5.out.only (R' := fun _ => True) (Only.of_below_size hB2) (fun _ _ _ h => h) (fun _ _ _ => trivial)))
  have HW2 := Lib.hid eW2
  have HB2' := Lib.hid hb2'
  have HB2 := Lib.hid hB2
  have HA2 := Lib.hid hA2
  have HS2 := Lib.hid hb2.size
  rw [eW2] at r5
  clear eW2 hb2 hb2' hB2 hA2 r3
  go_wp2_with fail
  rw [← HW2.out]
  refine HC3.out.mono ?_
  rintro e w3 ⟨rfl, hb3⟩
  rw [← HBW.out, ← HV.out]
  obtain ⟨W3, eW3⟩ : ∃ W3, W3 = (w3.alloc (.cells (zU8 32).toArray 25)).setCells w3.heap.size 0 V := ⟨_, rfl⟩
  have hb3' : Below W2.heap.size W2 W3 := by rw [eW3]; exact (hb3.alloc hb3.size _).setCells hb3.size _ _
  have hB3 : Below w.heap.size w W3 := HB2.out.trans (hb3'.mono HB2.out.size)
  have hA3 : Arr W3 w3.heap.size 32 V := by rw [eW3]; exact (Arr.new w3 32 (zU8 32) 25 (by simp [zU8])).setCells V okV
  have r4 : W3.row? b (off + 12) 3 = some c4 := ((brow hB3).1 _ _ _ HLT.out).trans HI4.out
  have r6 : W3.row? b (off + 18) 3 = some c6 := ((brow hB3).1 _ _ _ HLT.out).trans HI6.out
  have d4 : W3.cell? ⟨b, off + 12, none⟩ = some (.bool b4) := by have := World.row?_cell r4 (show 0 < 3 by omega); rw [H4.out.flag, ← HB4.out] at this; exact this
  have d6 : W3.cell? ⟨b, off + 18, none⟩ = some (.bool b6) := by have := World.row?_cell r6 (show 0 < 3 by omega); rw [H6.out.flag, ← HB6.out] at this; exact this
  have f25 : (w3.alloc (.cells (zU8 32).toArray 25)).free? w3.heap.size 0 32 = true := World.free?_alloc_at _ _ rfl (by simp [zU8])
  have hf3 : W3.free? (w.heap.size + 1) 0 77 = true := by
    have h1 : W2.free? (w.heap.size + 1) 0 77 = true := by rw [(brow HB2'.out).2 _ _ _ (free?_lt HF1.out)]; exact HF1.out
    rw [(brow hb3').2 _ _ _ (free?_lt h1)]; exact h1
  have HW3 := Lib.hid eW3
  have HB3' := Lib.hid hb3'
  have HB3 := Lib.hid hB3
  have HA3 := Lib.hid hA3
  have HS3 := Lib.hid hb3.size
  have HF3 := Lib.hid hf3
  have HR4 := Lib.hid r4
  have HR6 := Lib.hid r6
  have hBS : Below w.heap.size w ((w3.alloc (.cells (zU8 32).toArray 25)).setCells w3.heap.size 0 V) := by rw [← eW3]; exact hB3
  have HBS := Lib.hid hBS
  rw [eW3] at d4 d6 hf3
  clear eW3 hb3 hb3' hB3 hA3 r4 r6 hBS r5
  by_cases hzbn : bn = false
  · subst hzbn
    go_wp2
    exact ret_row2 tyN44 rfl _ _ rfl rfl rfl (row?_setCells_whole _ hf3 hokz) (ofIs_none (HNO.out (.inl HBN.out.symm)) (HBS.out.setCells (by omega) _ _))
  obtain rfl : bn = true := by cases bn <;> first | rfl | exact absurd rfl hzbn
  clear hzbn
  by_cases hzba : ba = false
  · subst hzba
    go_wp2
    exact ret_row2 tyN44 rfl _ _ rfl rfl rfl (row?_setCells_whole _ hf3 hokz) (ofIs_none (HNO.out (.inr (.inl HBA.out.symm))) (HBS.out.setCells (by omega) _ _))
  obtain rfl : ba = true := by cases ba <;> first | rfl | exact absurd rfl hzba
  clear hzba
  by_cases hzbw : bw = false
  · subst hzbw
    go_wp2
    exact ret_row2 tyN44 rfl _ _ rfl rfl rfl (row?_setCells_whole _ hf3 hokz) (ofIs_none (HNO.out (.inr (.inr (.inl HBW.out.symm)))) (HBS.out.setCells (by omega) _ _))
  obtain rfl : bw = true := by cases bw <;> first | rfl | exact absurd rfl hzbw
  clear hzbw
  by_cases hzb4 : b4 = true
  · subst hzb4
    go_wp2
    exact ret_row2 tyN44 rfl _ _ rfl rfl rfl (row?_setCells_whole _ hf3 hokz) (ofIs_none (HNO.out (.inr (.inr (.inr (.inl HB4.out.symm))))) (HBS.out.setCells (by omega) _ _))
  obtain rfl : b4 = false := by cases b4 <;> first | rfl | exact absurd rfl hzb4
  clear hzb4
  by_cases hzb6 : b6 = true
  · subst hzb6
    go_wp2
    exact ret_row2 tyN44 rfl _ _ rfl rfl rfl (row?_setCells_whole _ hf3 hokz) (ofIs_none (HNO.out (.inr (.inr (.inr (.inr HB6.out.symm))))) (HBS.out.setCells (by omega) _ _))
  obtain rfl : b6 = false := by cases b6 <;> first | rfl | exact absurd rfl hzb6
  clear hzb6
  obtain ⟨ns, hns⟩ : ∃ l, numsK [k0, k1, k2] = some l := Option.isSome_iff_exists.1 HBN.out.symm
  obtain ⟨f, hfk⟩ : ∃ l, addrK k3 = some l := Option.isSome_iff_exists.1 HBA.out.symm
  obtain ⟨vv, hwk⟩ : ∃ l, wordK k5 = some l := Option.isSome_iff_exists.1 HBW.out.symm
  obtain ⟨to, rfl⟩ : ∃ l, k4 = some l := by cases k4 with
    | none => exact absurd HB4.out (by simp [isL])
    | some l => exact ⟨l, rfl⟩
  obtain ⟨d, rfl⟩ : ∃ l, k6 = some l := by cases k6 with
    | none => exact absurd HB6.out (by simp [isL])
    | some l => exact ⟨l, rfl⟩
  obtain ⟨n, p, g, rfl⟩ : ∃ n p g, ns = [n, p, g] := by
    have := numsK_len hns
    match ns, this with
    | [n, p, g], _ => exact ⟨n, p, g, rfl⟩
  obtain ⟨rfl, hfl⟩ := addrK_len hfk
  have HOF : Hid (ofSeven k0 k1 k2 (some f) (some to) k5 (some d) = if to = [] then some ⟨n, p, g, beN f, 0, true, vv, d⟩ else (addrK (some to)).map fun x => ⟨n, p, g, beN f, beN x, false, vv, d⟩) := by
    show _ = _
    unfold ofSeven
    rw [hns, hfk, hwk]
  obtain ⟨gb, gc, rfl, hgl, hgc, hgm, hgr, _⟩ := own_words (HOWN.out _ hns) (by simp)
  obtain ⟨a4, cc4, rfl, hi4, hby4⟩ := H4.out.some
  obtain ⟨a6, cc6, rfl, hi6, hby6⟩ := H6.out.some
  obtain ⟨_, _, _, _, hby3⟩ := H3.out.some
  have hA' : A = beC 20 (beN f) := by rw [HA.out, hfk]; exact u8L_be f 20 hby3 hfl
  have hV' : V = beC 32 vv := by rw [HV.out, hwk]; rfl
  subst hA' hV'
  have hgw : gb < w1.heap.size := World.row?_lt hgr
  have hgr3 : W3.row? gb 0 3 = some (natsV [n, p, g]) := by
    have h1 : W2.row? gb 0 3 = some (natsV [n, p, g]) := ((brow HB2'.out).1 _ _ _ hgw).trans hgr
    exact ((brow HB3'.out).1 _ _ _ (World.row?_lt h1)).trans h1
  have g0 : W3.cell? ⟨gb, 0, none⟩ = some (.int .i64 (n : Nat)) := World.row?_cell hgr3 (show 0 < 3 by omega)
  have g1 : W3.cell? ⟨gb, 1, none⟩ = some (.int .i64 (p : Nat)) := by have := World.row?_cell hgr3 (show 1 < 3 by omega); rwa [Nat.zero_add] at this
  have g2 : W3.cell? ⟨gb, 2, none⟩ = some (.int .i64 (g : Nat)) := by have := World.row?_cell hgr3 (show 2 < 3 by omega); rwa [Nat.zero_add] at this
  have hA3 : W3.row? w2.heap.size 0 20 = some (beC 20 (beN f)) := ((brow HB3'.out).1 _ _ _ HA2.out.lt).trans HA2.out.row
  have hV3 : W3.row? w3.heap.size 0 32 = some (beC 32 vv) := HA3.out.row
  have q6 : W3.cell? ⟨b, off + 19, none⟩ = some (.slice a6 d.length cc6) := World.row?_cell HR6.out (show 1 < 3 by omega)
  have q4 : W3.cell? ⟨b, off + 13, none⟩ = some (.slice a4 to.length cc4) := World.row?_cell HR4.out (show 1 < 3 by omega)
  have hid := hi6.below HB3.out
  obtain ⟨T, hT⟩ : ∃ T : World → Prop, T = fun W => W.cell? ⟨gb, 0, none⟩ = some (.int .i64 (n : Nat)) ∧ W.cell? ⟨gb, 1, none⟩ = some (.int .i64 (p : Nat)) ∧ W.cell? ⟨gb, 2, none⟩ = some (.int .i64 (g : Nat)) ∧ W.row? w2.heap.size 0 20 = some (beC 20 (beN f)) ∧ W.row? w3.heap.size 0 32 = some (beC 32 vv) ∧ W.cell? ⟨b, off + 19, none⟩ = some (.slice a6 d.length cc6) ∧ W.cell? ⟨b, off + 13, none⟩ = some (.slice a4 to.length cc4) := ⟨_, rfl⟩
  have HT := Lib.hid hT
  have HTB : Hid (∀ W, Below W3.heap.size W3 W → T W) := by
    show ∀ W, _ → _
    intro W hW
    rw [hT]
    have hbl : b < W3.heap.size := World.block_lt_of_cell? _ _ q4
    have hgl3 : gb < W3.heap.size := World.block_lt_of_cell? _ _ g0
    exact ⟨(hW.cell (p := ⟨gb, 0, none⟩) hgl3).trans g0, (hW.cell (p := ⟨gb, 1, none⟩) hgl3).trans g1, (hW.cell (p := ⟨gb, 2, none⟩) hgl3).trans g2, ((brow hW).1 _ _ _ (World.row?_lt hA3)).trans hA3, ((brow hW).1 _ _ _ (World.row?_lt hV3)).trans hV3, (hW.cell (p := ⟨b, off + 19, none⟩) hbl).trans q6, (hW.cell (p := ⟨b, off + 13, none⟩) hbl).trans q4⟩
  have HID := Lib.hid hid
  have HDL : Hid (d.length ≤ 70000000000000) := HSZ.out d rfl
  have HBYD := Lib.hid hby6
  have HBY4 := Lib.hid hby4
  obtain ⟨mk, hmk⟩ : ∃ mk, mk = ((to.length : Int) == 0) := ⟨_, rfl⟩
  have HMK := Lib.hid hmk
  have B3d : Hid (Below W3.heap.size W3 W3.drew) := (Below.refl _ _).drew
  have t0 : T W3.drew := HTB.out _ B3d.out
  have HKT := Lib.hid H4.out
  have hmk2 := hmk.symm
  clear hns hfk hwk hgr hgl hgc hgm hi4 hi6 hby4 hby6 hby3 hgw hgr3 g0 g1 g2 hA3 hV3 q6 q4 hid hT hfl hmk hf3 HNO HC1 HC2 HC3 okA okV f23 f25 hsl
  go_wp2_with fail
  rw [← HW3.out]
  clear HW3 HW2 d4 d6
  refine wp_region_tree T [] (.pure 0 (.pure 1 (.take 2 (.pure 3 (.pure 4 (.take 5 (.pure 6 (.pure 7 (.take 8 (.take 9 (.take 10 (.pure 11 (.pure 12 (.pure 13 (.take 14 (.pure 16 (.pure 17 (.pure 18 (.take 19 (.pure 20 (.pure 21 (.alt 15 (.pure 22 (.alt 23 (.alt 24 .fin .stop) .stop)) (.alt 23 (.alt 15 (.pure 22 (.alt 24 .fin .stop)) .stop) .stop))))))))))))))))))))))) (by kernel_rfl) (by kernel_rfl) ?_
  obtain ⟨v3, ev3⟩ : ∃ v3, v3 = W3.drew := ⟨_, rfl⟩
  rw [← ev3] at B3d t0 ⊢
  clear ev3
  refine tree_pure ?_ rfl (by rfl) (fun w' hs => ?_) (fun _ _ _ h => h) ?_
  rotate_left
  · clear hs
    go_simp
    try rfl
  simp only [Act.put, List.setIfInBounds_toArray, List.set_cons_zero, List.set_cons_succ]
  refine tree_pure ?_ rfl (by rfl) (fun w' hs => ?_) (fun _ _ _ h => h) ?_
  rotate_left
  · clear hs
    go_simp
    try rfl
  simp only [Act.put, List.setIfInBounds_toArray, List.set_cons_zero, List.set_cons_succ]
  refine tree_take ?_ t0 rfl (by rfl) (fun w' hs => ?_) (fun _ _ _ h => h) ?_
  rotate_left
  · rw [HT.out] at hs
    obtain ⟨g0, g1, g2, g3, g4, g6, g7⟩ := hs
    go_simp
    try rfl
  simp only [Act.put, List.setIfInBounds_toArray, List.set_cons_zero, List.set_cons_succ]
  refine tree_pure ?_ rfl (by rfl) (fun w' hs => ?_) (fun _ _ _ h => h) ?_
  rotate_left
  · clear hs
    go_simp
    try rfl
  simp only [Act.put, List.setIfInBounds_toArray, List.set_cons_zero, List.set_cons_succ]
  refine tree_pure ?_ rfl (by rfl) (fun w' hs => ?_) (fun _ _ _ h => h) ?_
  rotate_left
  · clear hs
    go_simp
    try rfl
  simp only [Act.put, List.setIfInBounds_toArray, List.set_cons_zero, List.set_cons_succ]
  refine tree_take ?_ t0 rfl (by rfl) (fun w' hs => ?_) (fun _ _ _ h => h) ?_
  rotate_left
  · rw [HT.out] at hs
    obtain ⟨g0, g1, g2, g3, g4, g6, g7⟩ := hs
    go_simp
    try rfl
  simp only [Act.put, List.setIfInBounds_toArray, List.set_cons_zero, List.set_cons_succ]
  refine tree_pure ?_ rfl (by rfl) (fun w' hs => ?_) (fun _ _ _ h => h) ?_
  rotate_left
  · clear hs
    go_simp
    try rfl
  simp only [Act.put, List.setIfInBounds_toArray, List.set_cons_zero, List.set_cons_succ]
  refine tree_pure ?_ rfl (by rfl) (fun w' hs => ?_) (fun _ _ _ h => h) ?_
  rotate_left
  · clear hs
    go_simp
    try rfl
  simp only [Act.put, List.setIfInBounds_toArray, List.set_cons_zero, List.set_cons_succ]
  refine tree_take ?_ t0 rfl (by rfl) (fun w' hs => ?_) (fun _ _ _ h => h) ?_
  rotate_left
  · rw [HT.out] at hs
    obtain ⟨g0, g1, g2, g3, g4, g6, g7⟩ := hs
    go_simp
    try rfl
  simp only [Act.put, List.setIfInBounds_toArray, List.set_cons_zero, List.set_cons_succ]
  refine tree_take ?_ t0 rfl (by rfl) (fun w' hs => ?_) (fun _ _ _ h => h) ?_
  rotate_left
  · rw [HT.out] at hs
    obtain ⟨g0, g1, g2, g3, g4, g6, g7⟩ := hs
    go_simp
    try rfl
  simp only [Act.put, List.setIfInBounds_toArray, List.set_cons_zero, List.set_cons_succ]
  refine tree_take ?_ t0 rfl (by rfl) (fun w' hs => ?_) (fun _ _ _ h => h) ?_
  rotate_left
  · rw [HT.out] at hs
    obtain ⟨g0, g1, g2, g3, g4, g6, g7⟩ := hs
    go_simp
    try rfl
  simp only [Act.put, List.setIfInBounds_toArray, List.set_cons_zero, List.set_cons_succ]
  refine tree_pure ?_ rfl (by rfl) (fun w' hs => ?_) (fun _ _ _ h => h) ?_
  rotate_left
  · clear hs
    go_simp
    try rfl
  simp only [Act.put, List.setIfInBounds_toArray, List.set_cons_zero, List.set_cons_succ]
  refine tree_pure ?_ rfl (by rfl) (fun w' hs => ?_) (fun _ _ _ h => h) ?_
  rotate_left
  · clear hs
    go_simp
    try rfl
  simp only [Act.put, List.setIfInBounds_toArray, List.set_cons_zero, List.set_cons_succ]
  refine tree_pure ?_ rfl (by rfl) (fun w' hs => ?_) (fun _ _ _ h => h) ?_
  rotate_left
  · clear hs
    go_simp
    try rfl
  simp only [Act.put, List.setIfInBounds_toArray, List.set_cons_zero, List.set_cons_succ]
  refine tree_take ?_ t0 rfl (by rfl) (fun w' hs => ?_) (fun _ _ _ h => h) ?_
  rotate_left
  · rw [HT.out] at hs
    obtain ⟨g0, g1, g2, g3, g4, g6, g7⟩ := hs
    go_simp
    try rfl
  simp only [Act.put, List.setIfInBounds_toArray, List.set_cons_zero, List.set_cons_succ]
  refine tree_pure ?_ rfl (by rfl) (fun w' hs => ?_) (fun _ _ _ h => h) ?_
  rotate_left
  · clear hs
    go_simp
    try rfl
  simp only [Act.put, List.setIfInBounds_toArray, List.set_cons_zero, List.set_cons_succ]
  refine tree_pure ?_ rfl (by rfl) (fun w' hs => ?_) (fun _ _ _ h => h) ?_
  rotate_left
  · clear hs
    go_simp
    try rfl
  simp only [Act.put, List.setIfInBounds_toArray, List.set_cons_zero, List.set_cons_succ]
  refine tree_pure ?_ rfl (by rfl) (fun w' hs => ?_) (fun _ _ _ h => h) ?_
  rotate_left
  · clear hs
    go_simp
    try rfl
  simp only [Act.put, List.setIfInBounds_toArray, List.set_cons_zero, List.set_cons_succ]
  refine tree_take ?_ t0 rfl (by rfl) (fun w' hs => ?_) (fun _ _ _ h => h) ?_
  rotate_left
  · rw [HT.out] at hs
    obtain ⟨g0, g1, g2, g3, g4, g6, g7⟩ := hs
    go_simp
    try rfl
  simp only [Act.put, List.setIfInBounds_toArray, List.set_cons_zero, List.set_cons_succ]
  refine tree_pure ?_ rfl (by rfl) (fun w' hs => ?_) (fun _ _ _ h => h) ?_
  rotate_left
  · clear hs
    go_simp
    try rfl
  simp only [Act.put, List.setIfInBounds_toArray, List.set_cons_zero, List.set_cons_succ]
  refine tree_pure ?_ rfl (by rfl) (fun w' hs => ?_) (fun _ _ _ h => h) ?_
  rotate_left
  · clear hs
    go_simp
    try rfl
  simp only [Act.put, List.setIfInBounds_toArray, List.set_cons_zero, List.set_cons_succ]
  refine tree_alt rfl (fun K hK => ?_) ?_
  · go_simp
    refine (slices_clone a6 d.length cc6 d rfl HDL.out v3 (HID.out.below B3d.out)).mono ?_
    rintro e w8 ⟨dv, rfl, hnb⟩
    obtain ⟨⟨da, dc, rfl, hdi, hdf⟩, hb8⟩ := hnb
    have B8 := Lib.hid (B3d.out.trans (hb8.mono B3d.out.size))
    have HDI := Lib.hid hdi
    have HDF := Lib.hid hdf
    have hbuild := buildTx n p g (beN f) mk vv d da d.length dc
    have t8 : T w8 := HTB.out _ B8.out
    clear hdi hdf hb8
    refine hK.out _ _ t8 ?_
    clear hK K
    refine tree_pure ?_ rfl (by rfl) (fun w' hs => ?_) (fun _ _ _ h => h) ?_
    rotate_left
    · clear hs
      go_simp
      try rfl
    simp only [Act.put, List.setIfInBounds_toArray, List.set_cons_zero, List.set_cons_succ]
    refine tree_run rfl (fun K hK => ?_)
    go_simp
    obtain ⟨gt, er⟩ : ∃ gt, gt = w8.heap.size := ⟨_, rfl⟩
    obtain ⟨wa, ea⟩ : ∃ wa, wa = w8.alloc (.cells (cat zsN44).toArray 44) := ⟨_, rfl⟩
    have hb : Below w8.heap.size w8 wa := by rw [ea]; exact (Below.refl _ _).alloc (Nat.le_refl _) _
    have hz : Arr wa gt 77 (cat zsN44) := by rw [ea, er]; exact Arr.new w8 77 (cat zsN44) 44 zsN44_len
    have Ba := Lib.hid (B8.out.trans (hb.mono B8.out.size))
    have HZ := Lib.hid hz
    have HGT : Hid (W3.heap.size ≤ gt) := by show _ ≤ _; rw [er]; exact B8.out.size
    have HDG : Hid (d ≠ [] → ∀ q : Addr, da = some q → ¬ q.block = gt) := fun hd q hq hx => by
      obtain ⟨b8, o8, h1, h2, _⟩ := HDI.out.at (i := 0) (List.length_pos_iff.2 hd)
      rw [hq] at h1; cases h1
      have h3 : b8 = gt := hx
      omega
    have HDIa := Lib.hid (HDI.out.below hb)
    have HDI9p : Hid (∀ w9 : World, Only (· = gt) wa w9 → Ints w9 .u8 da dc d) := fun w9 ho => ints_only HDI.out ((Only.of_below_size hb).trans ho (fun i h hl => h)) (fun q hq1 _ hx => by have : q.block = gt := hx; omega)
    have ta : T wa := HTB.out _ Ba.out
    rw [← ea, ← er]
    clear hb hz er ea
    refine hK.out _ _ ta ?_
    clear hK K
    refine tree_run rfl (fun K hK => ?_)
    have fz := HZ.out.free
    have hokr := txS_ok ⟨n, p, g, beN f, 0, mk, vv, d⟩ da d.length dc
    have hlr := txS_len ⟨n, p, g, beN f, 0, mk, vv, d⟩ (.slice da d.length dc)
    go_simp
    obtain ⟨w9, e9⟩ : ∃ w9, w9 = wa.setCells gt 0 (cat (txS ⟨n, p, g, beN f, 0, mk, vv, d⟩ (.slice da d.length dc))) := ⟨_, rfl⟩
    have HZ9 : Hid (Arr w9 gt 77 (cat (txS ⟨n, p, g, beN f, 0, mk, vv, d⟩ (.slice da d.length dc)))) := by show Arr _ _ _ _; rw [e9]; exact HZ.out.setCells _ hokr
    have ho9 : Only (· = gt) wa w9 := by rw [e9]; exact (Only.refl (· = gt) _).setCells (fun _ => rfl) _ _
    have B9 : Hid (Below W3.heap.size W3 w9) := by rw [e9]; exact Ba.out.setCells HGT.out _ _
    have HDI9 : Hid (Ints w9 .u8 da dc d) := HDI9p.out w9 ho9
    have HDF9 : Hid (∀ q : Addr, da = some q → w.heap.size ≤ q.block) := fun q hq => by have := HDF.out q hq; have := B3d.out.size; have := HB3.out.size; omega
    have HDW9 : Hid (∀ q : Addr, da = some q → W3.heap.size ≤ q.block) := fun q hq => by have := HDF.out q hq; have := Ba.out.size; have := B3d.out.size; omega
    have HDG9 : Hid (d ≠ [] → ∀ q : Addr, da = some q → ¬ q.block = gt) := HDG.out
    have t9 : T w9 := HTB.out _ B9.out
    rw [← e9]
    clear e9 fz hokr hlr ho9 hbuild
    refine hK.out _ _ t9 ?_
    clear hK K
    refine tree_fin ?_
    clear t0
    have hf9 : w9.free? (w.heap.size + 1) 0 77 = true := by rw [(brow B9.out).2 _ _ _ (free?_lt HF3.out)]; exact HF3.out
    have hB9 := HB3.out.trans (B9.out.mono HB3.out.size)
    have r9 := HZ9.out.row
    have m9 := tx_make r9
    rw [Nat.zero_add] at m9
    have HF9 := Lib.hid hf9
    have HDR9 : Hid (∀ q : Addr, da = some q → ¬ q.block = w.heap.size + 1) := fun q hq => by have h1 := HDW9.out q hq; have h2 := free?_lt HF3.out; omega
    have HB9 := Lib.hid hB9
    clear hB9
    cases mk with
    | true =>
      have hto : to = [] := by
        have h2 : (to.length : Int) = 0 := by simpa using HMK.out.symm
        exact List.eq_nil_of_length_eq_zero (by omega)
      have HO2 : Hid (ofSeven k0 k1 k2 (some f) (some to) k5 (some d) = some ⟨n, p, g, beN f, 0, true, vv, d⟩) := by show _ = _; rw [HOF.out, if_pos hto]
      have hokr := txS_ok ⟨n, p, g, beN f, 0, true, vv, d⟩ da d.length dc
      clear hto hmk2
      go_wp2
      have ho : Only (· = w.heap.size + 1) w9 (w9.setCells (w.heap.size + 1) 0 (cat (txS ⟨n, p, g, beN f, 0, true, vv, d⟩ (.slice da d.length dc)))) := (Only.refl (· = w.heap.size + 1) _).setCells (fun _ => rfl) _ _
      exact ret_row2 tyN44 rfl _ _ rfl rfl rfl (row?_setCells_whole _ hf9 hokr) (ofIs_some HO2.out ⟨⟨da, dc, rfl, ints_only HDI9.out ho (fun q _ hq hx => HDR9.out q hq hx), HDF9.out⟩, HB9.out.setCells (by omega) _ _⟩ HBYD.out)
    | false =>
      have hto : ¬ to = [] := fun h => by have := HMK.out; rw [h] at this; simp at this
      have HO2 : Hid (ofSeven k0 k1 k2 (some f) (some to) k5 (some d) = (addrK (some to)).map fun x => ⟨n, p, g, beN f, beN x, false, vv, d⟩) := by show _ = _; rw [HOF.out, if_neg hto]
      have c49 : w9.row? b (off + 12) 3 = some [.bool false, .slice a4 to.length cc4, .slice none 0 0] := ((brow B9.out).1 _ _ _ (World.row?_lt HR4.out)).trans HR4.out
      have HCA := Lib.hid (tx_Address (HKT.out.only (R' := fun _ => True) (Only.of_below_size HB9.out) (fun _ _ _ h => h) (fun _ _ _ => trivial)))
      have HOKX := Lib.hid (addrK_ok (some to))
      clear hto hmk2 r9
      go_wp2_with fail
      refine HCA.out.mono ?_
      rintro e w10 ⟨rfl, hb10⟩
      have HAK : Hid (∀ x, addrK (some to) = some x → u8L x = beC 20 (beN x) ∧ addrK (some to) = some x) := fun x hx => by
        obtain ⟨h1, h2⟩ := addrK_len hx
        cases h1
        exact ⟨u8L_be to 20 HBY4.out h2, hx⟩
      obtain ⟨X, hX⟩ : ∃ X, X = u8L ((addrK (some to)).getD (List.replicate 20 0)) := ⟨_, rfl⟩
      have okX := HOKX.out
      rw [← hX] at okX ⊢
      have HX := Lib.hid hX
      clear hX
      obtain ⟨wb, eb⟩ : ∃ wb, wb = (w10.alloc (.cells (zU8 20).toArray 23)).setCells w10.heap.size 0 X := ⟨_, rfl⟩
      have hbb : Below w9.heap.size w9 wb := by rw [eb]; exact (hb10.alloc hb10.size _).setCells hb10.size _ _
      have hAb : Arr wb w10.heap.size 20 X := by rw [eb]; exact (Arr.new w10 20 (zU8 20) 23 (by simp [zU8])).setCells X okX
      have f12 : (w10.alloc (.cells (zU8 20).toArray 23)).free? w10.heap.size 0 20 = true := World.free?_alloc_at _ _ rfl (by simp [zU8])
      have hfb : wb.free? (w.heap.size + 1) 0 77 = true := by rw [(brow hbb).2 _ _ _ (free?_lt HF9.out)]; exact HF9.out
      have hZb : Arr wb gt 77 (cat (txS ⟨n, p, g, beN f, 0, false, vv, d⟩ (.slice da d.length dc))) := HZ9.out.only (S := fun _ => False) (Only.of_below_size hbb) (fun h => h)
      have HEB := Lib.hid eb
      have HBB := Lib.hid hbb
      have HAB := Lib.hid hAb
      have HFB := Lib.hid hfb
      have HZB := Lib.hid hZb
      have HBA2 : Hid (Below w.heap.size w wb) := HB9.out.trans (hbb.mono HB9.out.size)
      clear eb hbb hAb hZb c49 hb10 m9 hf9
      cases hak : addrK (some to) with
      | none =>
        have HO3 : Hid (ofSeven k0 k1 k2 (some f) (some to) k5 (some d) = none) := by show _ = _; rw [HO2.out, hak]; rfl
        have HBX := HBA2.out
        rw [HEB.out] at hfb HBX
        have HBX2 := Lib.hid HBX
        clear hak HBX
        go_wp2
        exact ret_row2 tyN44 rfl _ _ rfl rfl rfl (row?_setCells_whole _ hfb hokz) (ofIs_none HO3.out (HBX2.out.setCells (by omega) _ _))
      | some x =>
        have HO3 : Hid (ofSeven k0 k1 k2 (some f) (some to) k5 (some d) = some ⟨n, p, g, beN f, beN x, false, vv, d⟩) := by show _ = _; rw [HO2.out, hak]; rfl
        have hXx : X = beC 20 (beN x) := by rw [HX.out, hak]; exact (HAK.out x hak).1
        subst hXx
        clear HX hak
        have rb := HAB.out.row
        have fz := World.free?_sub HZB.out.free (o' := 23) (n' := 20) (by omega)
        have hne : gt ≠ w.heap.size + 1 := by have := HGT.out; have h2 := free?_lt HF3.out; omega
        obtain ⟨wc, ec⟩ : ∃ wc, wc = wb.setCells gt 23 (beC 20 (beN x)) := ⟨_, rfl⟩
        have rc : wc.row? gt 0 77 = some (cat (txS ⟨n, p, g, beN f, beN x, false, vv, d⟩ (.slice da d.length dc))) := by
          have := row_cat_set HZB.out.row (i := 4) (s := beC 20 0) rfl (v := beC 20 (beN x)) (by simp) (p := 23) (by simp [txS, offOf_succ, offOf_zero])
          rw [txS_to] at this
          rw [ec]; exact this
        have oc : Only (· = gt) wb wc := by rw [ec]; exact (Only.refl (· = gt) _).setCells (fun _ => rfl) _ _
        have fc : wc.free? (w.heap.size + 1) 0 77 = true := by rw [oc.free? (free?_lt HFB.out) (fun h => hne h.symm)]; exact HFB.out
        have hbc : Below w.heap.size w wc := by rw [ec]; exact HBA2.out.setCells (by have := HGT.out; have := HB3.out.size; omega) _ _
        have hokx := beC_ok 20 (beN x)
        have hokr := txS_ok ⟨n, p, g, beN f, beN x, false, vv, d⟩ da d.length dc
        have HDIc : Hid (Ints wc .u8 da dc d) := ints_only2 (HDI9.out.below HBB.out) oc HDG9.out
        have HOC : Hid (wc = wb.setCells gt 23 (beC 20 (beN x))) := ec
        have HBC := Lib.hid hbc
        have HFC := Lib.hid fc
        rw [ec, HEB.out] at rc fc
        rw [HEB.out] at rb fz
        clear ec oc hbc hne hfb
        go_wp2
        rw [← HEB.out, ← HOC.out]
        have ho : Only (· = w.heap.size + 1) wc (wc.setCells (w.heap.size + 1) 0 (cat (txS ⟨n, p, g, beN f, beN x, false, vv, d⟩ (.slice da d.length dc)))) := (Only.refl (· = w.heap.size + 1) _).setCells (fun _ => rfl) _ _
        exact ret_row2 tyN44 rfl _ _ rfl rfl rfl (row?_setCells_whole _ HFC.out hokr) (ofIs_some HO3.out ⟨⟨da, dc, rfl, ints_only HDIc.out ho (fun q _ hq hx => HDR9.out q hq hx), HDF9.out⟩, HBC.out.setCells (by omega) _ _⟩ HBYD.out)
  refine tree_run rfl (fun K hK => ?_)
  go_simp
  obtain ⟨gt, er⟩ : ∃ gt, gt = v3.heap.size := ⟨_, rfl⟩
  obtain ⟨wa, ea⟩ : ∃ wa, wa = v3.alloc (.cells (cat zsN44).toArray 44) := ⟨_, rfl⟩
  have hb : Below v3.heap.size v3 wa := by rw [ea]; exact (Below.refl _ _).alloc (Nat.le_refl _) _
  have hz : Arr wa gt 77 (cat zsN44) := by rw [ea, er]; exact Arr.new v3 77 (cat zsN44) 44 zsN44_len
  have Ba := Lib.hid (B3d.out.trans (hb.mono B3d.out.size))
  have HZ := Lib.hid hz
  have HGT : Hid (W3.heap.size ≤ gt) := by show _ ≤ _; rw [er]; exact B3d.out.size
  have HGA : Hid (gt < wa.heap.size) := hz.lt
  have ta : T wa := HTB.out _ Ba.out
  rw [← ea, ← er]
  clear hb hz er ea
  refine hK.out _ _ ta ?_
  clear hK K
  refine tree_run rfl (fun K hK => ?_)
  go_simp
  refine (slices_clone a6 d.length cc6 d rfl HDL.out wa (HID.out.below Ba.out)).mono ?_
  rintro e w8 ⟨dv, rfl, hnb⟩
  obtain ⟨⟨da, dc, rfl, hdi, hdf⟩, hb8⟩ := hnb
  have B8 := Lib.hid (Ba.out.trans (hb8.mono Ba.out.size))
  have HDI := Lib.hid hdi
  have HDF := Lib.hid hdf
  have HZ8 := Lib.hid (HZ.out.only (S := fun _ => False) (Only.of_below_size hb8) (fun h => h))
  have hbuild := buildTx n p g (beN f) mk vv d da d.length dc
  have t8 : T w8 := HTB.out _ B8.out
  clear hdi hdf hb8
  refine hK.out _ _ t8 ?_
  clear hK K
  refine tree_pure ?_ rfl (by rfl) (fun w' hs => ?_) (fun _ _ _ h => h) ?_
  rotate_left
  · clear hs
    go_simp
    try rfl
  simp only [Act.put, List.setIfInBounds_toArray, List.set_cons_zero, List.set_cons_succ]
  refine tree_run rfl (fun K hK => ?_)
  have fz := HZ8.out.free
  have hokr := txS_ok ⟨n, p, g, beN f, 0, mk, vv, d⟩ da d.length dc
  have hlr := txS_len ⟨n, p, g, beN f, 0, mk, vv, d⟩ (.slice da d.length dc)
  go_simp
  obtain ⟨w9, e9⟩ : ∃ w9, w9 = w8.setCells gt 0 (cat (txS ⟨n, p, g, beN f, 0, mk, vv, d⟩ (.slice da d.length dc))) := ⟨_, rfl⟩
  have HZ9 : Hid (Arr w9 gt 77 (cat (txS ⟨n, p, g, beN f, 0, mk, vv, d⟩ (.slice da d.length dc)))) := by show Arr _ _ _ _; rw [e9]; exact HZ8.out.setCells _ hokr
  have ho9 : Only (· = gt) w8 w9 := by rw [e9]; exact (Only.refl (· = gt) _).setCells (fun _ => rfl) _ _
  have B9 : Hid (Below W3.heap.size W3 w9) := by rw [e9]; exact B8.out.setCells HGT.out _ _
  have HDI9 : Hid (Ints w9 .u8 da dc d) := ints_only HDI.out ho9 (fun q _ hq hx => by have := HDF.out q hq; have := HGA.out; omega)
  have HDF9 : Hid (∀ q : Addr, da = some q → w.heap.size ≤ q.block) := fun q hq => by have := HDF.out q hq; have := Ba.out.size; have := HB3.out.size; omega
  have HDW9 : Hid (∀ q : Addr, da = some q → W3.heap.size ≤ q.block) := fun q hq => by have := HDF.out q hq; have := B8.out.size; have := B3d.out.size; have := Ba.out.size; omega
  have HDG9 : Hid (d ≠ [] → ∀ q : Addr, da = some q → ¬ q.block = gt) := fun _ q hq hx => by have := HDF.out q hq; have := HGA.out; omega
  have t9 : T w9 := HTB.out _ B9.out
  rw [← e9]
  clear e9 fz hokr hlr ho9 hbuild
  refine hK.out _ _ t9 ?_
  clear hK K
  refine tree_fin ?_
  clear t0
  have hf9 : w9.free? (w.heap.size + 1) 0 77 = true := by rw [(brow B9.out).2 _ _ _ (free?_lt HF3.out)]; exact HF3.out
  have hB9 := HB3.out.trans (B9.out.mono HB3.out.size)
  have r9 := HZ9.out.row
  have m9 := tx_make r9
  rw [Nat.zero_add] at m9
  have HF9 := Lib.hid hf9
  have HDR9 : Hid (∀ q : Addr, da = some q → ¬ q.block = w.heap.size + 1) := fun q hq => by have h1 := HDW9.out q hq; have h2 := free?_lt HF3.out; omega
  have HB9 := Lib.hid hB9
  clear hB9
  cases mk with
  | true =>
    have hto : to = [] := by
      have h2 : (to.length : Int) = 0 := by simpa using HMK.out.symm
      exact List.eq_nil_of_length_eq_zero (by omega)
    have HO2 : Hid (ofSeven k0 k1 k2 (some f) (some to) k5 (some d) = some ⟨n, p, g, beN f, 0, true, vv, d⟩) := by show _ = _; rw [HOF.out, if_pos hto]
    have hokr := txS_ok ⟨n, p, g, beN f, 0, true, vv, d⟩ da d.length dc
    clear hto hmk2
    go_wp2
    have ho : Only (· = w.heap.size + 1) w9 (w9.setCells (w.heap.size + 1) 0 (cat (txS ⟨n, p, g, beN f, 0, true, vv, d⟩ (.slice da d.length dc)))) := (Only.refl (· = w.heap.size + 1) _).setCells (fun _ => rfl) _ _
    exact ret_row2 tyN44 rfl _ _ rfl rfl rfl (row?_setCells_whole _ hf9 hokr) (ofIs_some HO2.out ⟨⟨da, dc, rfl, ints_only HDI9.out ho (fun q _ hq hx => HDR9.out q hq hx), HDF9.out⟩, HB9.out.setCells (by omega) _ _⟩ HBYD.out)
  | false =>
    have hto : ¬ to = [] := fun h => by have := HMK.out; rw [h] at this; simp at this
    have HO2 : Hid (ofSeven k0 k1 k2 (some f) (some to) k5 (some d) = (addrK (some to)).map fun x => ⟨n, p, g, beN f, beN x, false, vv, d⟩) := by show _ = _; rw [HOF.out, if_neg hto]
    have c49 : w9.row? b (off + 12) 3 = some [.bool false, .slice a4 to.length cc4, .slice none 0 0] := ((brow B9.out).1 _ _ _ (World.row?_lt HR4.out)).trans HR4.out
    have HCA := Lib.hid (tx_Address (HKT.out.only (R' := fun _ => True) (Only.of_below_size HB9.out) (fun _ _ _ h => h) (fun _ _ _ => trivial)))
    have HOKX := Lib.hid (addrK_ok (some to))
    clear hto hmk2 r9
    go_wp2_with fail
    refine HCA.out.mono ?_
    rintro e w10 ⟨rfl, hb10⟩
    have HAK : Hid (∀ x, addrK (some to) = some x → u8L x = beC 20 (beN x) ∧ addrK (some to) = some x) := fun x hx => by
      obtain ⟨h1, h2⟩ := addrK_len hx
      cases h1
      exact ⟨u8L_be to 20 HBY4.out h2, hx⟩
    obtain ⟨X, hX⟩ : ∃ X, X = u8L ((addrK (some to)).getD (List.replicate 20 0)) := ⟨_, rfl⟩
    have okX := HOKX.out
    rw [← hX] at okX ⊢
    have HX := Lib.hid hX
    clear hX
    obtain ⟨wb, eb⟩ : ∃ wb, wb = (w10.alloc (.cells (zU8 20).toArray 23)).setCells w10.heap.size 0 X := ⟨_, rfl⟩
    have hbb : Below w9.heap.size w9 wb := by rw [eb]; exact (hb10.alloc hb10.size _).setCells hb10.size _ _
    have hAb : Arr wb w10.heap.size 20 X := by rw [eb]; exact (Arr.new w10 20 (zU8 20) 23 (by simp [zU8])).setCells X okX
    have f12 : (w10.alloc (.cells (zU8 20).toArray 23)).free? w10.heap.size 0 20 = true := World.free?_alloc_at _ _ rfl (by simp [zU8])
    have hfb : wb.free? (w.heap.size + 1) 0 77 = true := by rw [(brow hbb).2 _ _ _ (free?_lt HF9.out)]; exact HF9.out
    have hZb : Arr wb gt 77 (cat (txS ⟨n, p, g, beN f, 0, false, vv, d⟩ (.slice da d.length dc))) := HZ9.out.only (S := fun _ => False) (Only.of_below_size hbb) (fun h => h)
    have HEB := Lib.hid eb
    have HBB := Lib.hid hbb
    have HAB := Lib.hid hAb
    have HFB := Lib.hid hfb
    have HZB := Lib.hid hZb
    have HBA2 : Hid (Below w.heap.size w wb) := HB9.out.trans (hbb.mono HB9.out.size)
    clear eb hbb hAb hZb c49 hb10 m9 hf9
    cases hak : addrK (some to) with
    | none =>
      have HO3 : Hid (ofSeven k0 k1 k2 (some f) (some to) k5 (some d) = none) := by show _ = _; rw [HO2.out, hak]; rfl
      have HBX := HBA2.out
      rw [HEB.out] at hfb HBX
      have HBX2 := Lib.hid HBX
      clear hak HBX
      go_wp2
      exact ret_row2 tyN44 rfl _ _ rfl rfl rfl (row?_setCells_whole _ hfb hokz) (ofIs_none HO3.out (HBX2.out.setCells (by omega) _ _))
    | some x =>
      have HO3 : Hid (ofSeven k0 k1 k2 (some f) (some to) k5 (some d) = some ⟨n, p, g, beN f, beN x, false, vv, d⟩) := by show _ = _; rw [HO2.out, hak]; rfl
      have hXx : X = beC 20 (beN x) := by rw [HX.out, hak]; exact (HAK.out x hak).1
      subst hXx
      clear HX hak
      have rb := HAB.out.row
      have fz := World.free?_sub HZB.out.free (o' := 23) (n' := 20) (by omega)
      have hne : gt ≠ w.heap.size + 1 := by have := HGT.out; have h2 := free?_lt HF3.out; omega
      obtain ⟨wc, ec⟩ : ∃ wc, wc = wb.setCells gt 23 (beC 20 (beN x)) := ⟨_, rfl⟩
      have rc : wc.row? gt 0 77 = some (cat (txS ⟨n, p, g, beN f, beN x, false, vv, d⟩ (.slice da d.length dc))) := by
        have := row_cat_set HZB.out.row (i := 4) (s := beC 20 0) rfl (v := beC 20 (beN x)) (by simp) (p := 23) (by simp [txS, offOf_succ, offOf_zero])
        rw [txS_to] at this
        rw [ec]; exact this
      have oc : Only (· = gt) wb wc := by rw [ec]; exact (Only.refl (· = gt) _).setCells (fun _ => rfl) _ _
      have fc : wc.free? (w.heap.size + 1) 0 77 = true := by rw [oc.free? (free?_lt HFB.out) (fun h => hne h.symm)]; exact HFB.out
      have hbc : Below w.heap.size w wc := by rw [ec]; exact HBA2.out.setCells (by have := HGT.out; have := HB3.out.size; omega) _ _
      have hokx := beC_ok 20 (beN x)
      have hokr := txS_ok ⟨n, p, g, beN f, beN x, false, vv, d⟩ da d.length dc
      have HDIc : Hid (Ints wc .u8 da dc d) := ints_only2 (HDI9.out.below HBB.out) oc HDG9.out
      have HOC : Hid (wc = wb.setCells gt 23 (beC 20 (beN x))) := ec
      have HBC := Lib.hid hbc
      have HFC := Lib.hid fc
      rw [ec, HEB.out] at rc fc
      rw [HEB.out] at rb fz
      clear ec oc hbc hne hfb
      go_wp2
      rw [← HEB.out, ← HOC.out]
      have ho : Only (· = w.heap.size + 1) wc (wc.setCells (w.heap.size + 1) 0 (cat (txS ⟨n, p, g, beN f, beN x, false, vv, d⟩ (.slice da d.length dc)))) := (Only.refl (· = w.heap.size + 1) _).setCells (fun _ => rfl) _ _
      exact ret_row2 tyN44 rfl _ _ rfl rfl rfl (row?_setCells_whole _ HFC.out hokr) (ofIs_some HO3.out ⟨⟨da, dc, rfl, ints_only HDIc.out ho (fun q _ hq hx => HDR9.out q hq hx), HDF9.out⟩, HBC.out.setCells (by omega) _ _⟩ HBYD.out)
end Go.Proofs.YtikiciojfhfagaaGreat
namespace Go.Mun
open Go.RowKit
def Small (g : Bts → RdR) : Prop := ∀ x t n l, g x = .ok t n → t.kid = some l → l.length ≤ x.length
theorem rd1_small {lst : Bts → RdR} (h : Small lst) : Small (rd1 lst) := by
  intro x t k l e hl
  unfold rd1 at e
  split at e
  · cases e
  · rename_i hne
    have hp : 0 < x.length := List.length_pos_iff.2 hne
    split at e
    · cases e; cases hl; simp; omega
    · split at e
      · unfold rdB at e
        split at e
        · cases e
        · split at e
          · cases e
          · cases e; cases hl
            rw [List.length_take, List.length_drop]; omega
      · exact h x t k l e hl
theorem rdL_small (g : Bts → RdR) : Small (rdL g) := by
  intro x t k l e hl
  unfold rdL at e
  split at e
  · cases e
  · split at e
    · cases e
    · cases e; cases hl
theorem rdT_small : ∀ d, Small (rdT d)
  | 0 => rd1_small (fun x t k l e => by cases e)
  | d + 1 => rd1_small (rdL_small _)
theorem rdsF_small {g : Bts → RdR} (hg : Small g) : ∀ (m : Nat) (x : Bts) (ks : List (Option Bts)), rdsF g m x = .inr ks → ∀ l, some l ∈ ks → l.length ≤ x.length
  | 0, x, ks, h, _, _ => by cases h
  | m + 1, x, ks, h, l, hl => by
    unfold rdsF at h
    split at h
    · cases h; cases hl
    · cases eg : g x with
      | err e => rw [eg] at h; cases h
      | ok t k =>
        rw [eg] at h
        simp only at h
        cases er : rdsF g m (x.drop k) with
        | inl e => rw [er] at h; cases h
        | inr l2 =>
          rw [er] at h
          cases h
          rcases List.mem_cons.1 hl with h1 | h1
          · exact hg x t k l eg h1.symm
          · have := rdsF_small hg m _ l2 er l h1
            rw [List.length_drop] at this
            omega
theorem rdL_kids {g : Bts → RdR} (hg : Small g) {x : Bts} {ks : List (Option Bts)} {n : Nat} (h : rdL g x = .ok (.list ks) n) {l : Bts} (hl : some l ∈ ks) : l.length ≤ x.length := by
  unfold rdL at h
  split at h
  · cases h
  · split at h
    · cases h
    · rename_i er
      cases h
      have := rdsF_small hg _ _ _ er l hl
      rw [List.length_take, List.length_drop] at this
      omega
theorem rdT_kids (d : Nat) {x : Bts} {ks : List (Option Bts)} {n : Nat} (h : rdT d x = .ok (.list ks) n) {l : Bts} (hl : some l ∈ ks) : l.length ≤ x.length := by
  have key : ∀ lst : Bts → RdR, (∀ n, lst x = .ok (.list ks) n → l.length ≤ x.length) → rd1 lst x = .ok (.list ks) n → l.length ≤ x.length := by
    intro lst hlst h
    unfold rd1 at h
    split at h
    · cases h
    · split at h
      · cases h
      · split at h
        · unfold rdB at h
          split at h
          · cases h
          · split at h
            · cases h
            · cases h
        · exact hlst _ h
  cases d with
  | zero => exact key _ (fun n h => by cases h) h
  | succ d => exact key _ (fun n h => rdL_kids (rdT_small d) h hl) h
theorem rdAll_kids {x : Bts} {ks : List (Option Bts)} {n : Nat} (h : rdAll x = .ok (.list ks) n) {l : Bts} (hl : some l ∈ ks) : l.length ≤ x.length := by
  unfold rdAll at h
  split at h
  · cases h
  · rename_i e
    split at h
    · cases h; exact rdT_kids 32 e hl
    · cases h
theorem rdAll_errs {x : Bts} {e : Nat} (h : rdAll x = .err e) : e ≠ 0 := by
  unfold rdAll at h
  split at h
  · rename_i er; cases h; exact rdT_errs 32 _ _ er
  · split at h
    · cases h
    · cases h; decide
end Go.Mun
namespace Go.Proofs.YtikiciojfhfagaaGreat
open Go.RowKit Go.Mun

theorem tx_Of {R : Nat → Prop} {cs : List Value} {t : Top} {w : World} (h : TopAt w R cs t) (hsz : ∀ ks l, t = .list ks → some l ∈ ks → l.length ≤ 70000000000000) :
    Calls Tryz.prog 31 #[.agg cs.toArray] w fun e w' => OfIs w w' (ofK t) e := by
  cases t with
  | bytes l => exact of_bytes h
  | list ks =>
    by_cases h7 : ks.length = 7
    · match ks, h7 with
      | [k0, k1, k2, k3, k4, k5, k6], _ => exact of_seven h (fun l hl => hsz _ l rfl (by rw [hl]; simp))
    · exact of_short h h7
/-- What bytes say of a transaction: why not, or which. -/
def readK (L : Bts) : Nat ⊕ TxP := match rdAll L with
  | .err x => .inl x
  | .ok t _ => match ofK t with
    | none => .inl 4
    | some t => .inr t
/-- What a transaction's reader of bytes comes to. -/
def ReadTxIs (w w' : World) (r : Nat ⊕ TxP) (e : Ending) : Prop := Below w.heap.size w w' ∧ match r with
  | .inl x => e = .returned (.tuple #[.agg (cat zsN44).toArray, .int .i64 x])
  | .inr t => ∃ dv, e = .returned (.tuple #[.agg (cat (txS t dv)).toArray, .int .i64 0]) ∧ NewB w w' dv t.data ∧ Byt t.data
theorem readTx_err {w w' : World} {r : Nat ⊕ TxP} {x : Nat} (h : r = .inl x) (hb : Below w.heap.size w w') : ReadTxIs w w' r (.returned (.tuple #[.agg (cat zsN44).toArray, .int .i64 x])) := by
  subst h; exact ⟨hb, rfl⟩
theorem readTx_ok {w w' : World} {r : Nat ⊕ TxP} {t : TxP} {dv : Value} (h : r = .inr t) (hd : NewB w w' dv t.data) (hby : Byt t.data) : ReadTxIs w w' r (.returned (.tuple #[.agg (cat (txS t dv)).toArray, .int .i64 0])) := by
  subst h; exact ⟨hd.below, dv, rfl, hd, hby⟩

set_option maxRecDepth 100000 in
set_option maxHeartbeats 2000000 in
theorem tx_Read (a : Option Addr) (c : Nat) (L : Bts) (w : World) (hI : Ints w .u8 a c L) (hby : Byt L) (hlen : L.length ≤ 16777216) :
    Calls Tryz.prog 23 #[.slice a L.length c] w fun e w' => ReadTxIs w w' (readK L) e := by
  have hokz := okL_zs44
  obtain ⟨w0, e0⟩ : ∃ w0, w0 = w.alloc (.cells (cat zsN44).toArray 44) := ⟨_, rfl⟩
  have hb0 : Below w.heap.size w w0 := by rw [e0]; exact (Below.refl _ _).alloc (Nat.le_refl _) _
  have hf0 : w0.free? w.heap.size 0 77 = true := by rw [e0]; exact World.free?_alloc_at _ _ rfl (by simp [zsN44_len])
  have HRD := Lib.hid (rlp_Read a c L w0 (hI.below hb0) hby hlen)
  have HE := Lib.hid e0
  have HB := Lib.hid hb0
  have HF := Lib.hid hf0
  have HLN := Lib.hid hlen
  have HRK : Hid (readK L = match rdAll L with | .err x => .inl x | .ok t _ => match ofK t with | none => .inl 4 | some t => .inr t) := rfl
  clear hI hby hlen e0 hb0 hf0
  go_enter Tryz.func23, Tryz.ntmps23
  go_wp2_with fail
  rw [← HE.out]
  refine HRD.out.mono ?_
  rintro e w1 ⟨hb1, hr1⟩
  have hf1 : w1.free? w.heap.size 0 77 = true := by rw [(brow hb1).2 _ _ _ (free?_lt HF.out)]; exact HF.out
  have hB1 := HB.out.trans (hb1.mono HB.out.size)
  cases er : rdAll L with
  | err x =>
    rw [er] at hr1
    simp only at hr1
    subst hr1
    have hx := rdAll_errs er
    have dx : ((x : Int) == 0) = false := by simpa using hx
    have dx2 : ((x : Int) != 0) = true := by simpa using hx
    have HK : Hid (readK L = .inl x) := by show _ = _; rw [HRK.out, er]
    have hf2 : ((w1.alloc (.cells itemZ.toArray 65)).setCells w1.heap.size 0 itemZ).free? w.heap.size 0 77 = true := by
      rw [World.free?_setCells', World.free?_alloc_lt _ (free?_lt hf1)]; exact hf1
    have f4 : (w1.alloc (.cells itemZ.toArray 65)).free? w1.heap.size 0 3 = true := itemZ_row w1
    have HB1 := Lib.hid ((hB1.alloc hB1.size (.cells itemZ.toArray 65)).setCells (b := w1.heap.size) hB1.size 0 itemZ)
    have hoki : okL 3 itemZ = true := itemZ_ok
    clear er hx hb1 hB1
    go_wp2
    exact ret_row2 tyN44 rfl _ _ rfl rfl rfl (row?_setCells_whole _ hf2 hokz) (readTx_err HK.out (HB1.out.setCells (Nat.le_refl _) _ _))
  | ok t n =>
    rw [er] at hr1
    obtain ⟨cs, rfl, htop⟩ := hr1
    obtain ⟨hcl, hcok⟩ := htop.lenok
    obtain ⟨W1, eW1⟩ : ∃ W1, W1 = (w1.alloc (.cells itemZ.toArray 65)).setCells w1.heap.size 0 cs := ⟨_, rfl⟩
    have o1 : Only (fun _ => False) w1 W1 := by rw [eW1]; exact ((Only.refl (fun _ => False) w1).alloc _).setCells (fun hh => absurd hh (Nat.lt_irrefl _)) _ _
    have hB2 : Below w.heap.size w W1 := by rw [eW1]; exact (hB1.alloc hB1.size _).setCells hB1.size _ _
    have hA4 : Arr W1 w1.heap.size 3 cs := by rw [eW1]; exact (Arr.new w1 3 itemZ 65 rfl).setCells cs hcok
    have f4 : (w1.alloc (.cells itemZ.toArray 65)).free? w1.heap.size 0 3 = true := itemZ_row w1
    have hf2 : W1.free? w.heap.size 0 77 = true := by rw [o1.free? (free?_lt hf1) (fun h => h)]; exact hf1
    have r4 := hA4.row
    have HCO := Lib.hid (tx_Of (htop.only (R' := fun _ => True) o1 (fun _ _ _ h => h) (fun _ _ _ => trivial)) (fun ks l hk hl => by subst hk; have := rdAll_kids er hl; have := HLN.out; omega))
    have HK0 : Hid (readK L = match ofK t with | none => .inl 4 | some t => .inr t) := by show _ = _; rw [HRK.out, er]
    have HW := Lib.hid eW1
    have HB2 := Lib.hid hB2
    have HF2 := Lib.hid hf2
    rw [eW1] at r4
    clear er htop o1 hB2 hA4 hf2 eW1 hb1 hB1 hf1
    go_wp2_with fail
    rw [← HW.out]
    refine HCO.out.mono ?_
    rintro e w2 ⟨hb2, hr2⟩
    have hf3 : w2.free? w.heap.size 0 77 = true := by rw [(brow hb2).2 _ _ _ (free?_lt HF2.out)]; exact HF2.out
    have HB3 := Lib.hid (HB2.out.trans (hb2.mono HB2.out.size))
    have f6 : (w2.alloc (.cells (cat zsN44).toArray 44)).free? w2.heap.size 0 77 = true := World.free?_alloc_at _ _ rfl (by simp [zsN44_len])
    have HLT := Lib.hid (free?_lt hf3)
    cases eo : ofK t with
    | none =>
      rw [eo] at hr2
      simp only at hr2
      subst hr2
      have HK : Hid (readK L = .inl 4) := by show _ = _; rw [HK0.out, eo]
      have hf4 : ((w2.alloc (.cells (cat zsN44).toArray 44)).setCells w2.heap.size 0 (cat zsN44)).free? w.heap.size 0 77 = true := by
        rw [World.free?_setCells', World.free?_alloc_lt _ (free?_lt hf3)]; exact hf3
      have HB4 := Lib.hid ((HB3.out.alloc HB3.out.size (.cells (cat zsN44).toArray 44)).setCells (b := w2.heap.size) HB3.out.size 0 (cat zsN44))
      clear eo hb2 hf3 r4
      go_wp2
      exact ret_row2 tyN44 rfl _ _ rfl rfl rfl (row?_setCells_whole _ hf4 hokz) (readTx_err (x := 4) HK.out (HB4.out.setCells (Nat.le_refl _) _ _))
    | some t2 =>
      rw [eo] at hr2
      obtain ⟨dv, rfl, hnb, hbyd⟩ := hr2
      have HK : Hid (readK L = .inr t2) := by show _ = _; rw [HK0.out, eo]
      obtain ⟨⟨da, dc, rfl, hdi, hdf⟩, _⟩ := hnb
      have hokr := txS_ok t2 da t2.data.length dc
      have hlr := txS_len t2 (.slice da t2.data.length dc)
      obtain ⟨W2, eW2⟩ : ∃ W2, W2 = (w2.alloc (.cells (cat zsN44).toArray 44)).setCells w2.heap.size 0 (cat (txS t2 (.slice da t2.data.length dc))) := ⟨_, rfl⟩
      have hb5 : Below w2.heap.size w2 W2 := by rw [eW2]; exact ((Below.refl _ _).alloc (Nat.le_refl _) _).setCells (Nat.le_refl _) _ _
      have hA6 : Arr W2 w2.heap.size 77 (cat (txS t2 (.slice da t2.data.length dc))) := by rw [eW2]; exact (Arr.new w2 77 (cat zsN44) 44 zsN44_len).setCells _ hokr
      have r6 := hA6.row
      have hf4 : W2.free? w.heap.size 0 77 = true := by rw [(brow hb5).2 _ _ _ (free?_lt hf3)]; exact hf3
      have HD := Lib.hid (hdi.below hb5)
      have HDF := Lib.hid hdf
      have HBY := Lib.hid hbyd
      have HB5 := Lib.hid (HB3.out.trans (hb5.mono HB3.out.size))
      have HW2 := Lib.hid eW2
      have HF4 := Lib.hid hf4
      have HS1 := Lib.hid HB2.out.size
      have HL2 := Lib.hid (free?_lt HF2.out)
      rw [eW2] at r6 hf4
      clear eo hb2 hf3 r4 hdi hdf hbyd hb5 hA6 eW2
      go_wp2
      rw [← HW2.out]
      have ho : Only (· = w.heap.size) W2 (W2.setCells w.heap.size 0 (cat (txS t2 (.slice da t2.data.length dc)))) := (Only.refl (· = w.heap.size) _).setCells (fun _ => rfl) _ _
      exact ret_row2 tyN44 rfl _ _ rfl rfl rfl (row?_setCells_whole _ HF4.out hokr) (readTx_ok HK.out ⟨⟨da, dc, rfl, ints_only HD.out ho (fun q _ hq hx => by have h1 := HDF.out q hq; have h2 := HL2.out; have : q.block = w.heap.size := hx; omega), fun q hq => by have h1 := HDF.out q hq; have h2 := HL2.out; omega⟩, HB5.out.setCells (Nat.le_refl _) _ _⟩ HBY.out)
end Go.Proofs.YtikiciojfhfagaaGreat
namespace Go.Proofs.YtikiciojfhfagaaGreat
open Go.RowKit Go.Mun

def PartOk (d : Nat) : Prop := ∀ (a : Option Addr) (c : Nat) (L : Bts) (w : World), Ints w .u8 a c L → Byt L → L.length ≤ 16777216 → d ≤ 32 →
  Calls Tryz.prog 83 #[.slice a L.length c, .int .i64 (d : Int)] w fun e w' => ReadIs w w' (rdT d L) e
end Go.Proofs.YtikiciojfhfagaaGreat
namespace Go.Proofs.YtikiciojfhfagaaGreat
open Go.RowKit Go.Mun

/-- The head of an item, told by what is in its first byte. -/
structure Hd (L : Bts) (k : Nat) : Prop where
  k64 : k < 64
  sh : k ≤ 55 → hdR L = if k + 1 ≤ L.length then some (1, k) else none
  no : ∀ j, 55 < k → j = k - 55 → L.length < 1 + j ∨ L[1]?.getD 0 = 0 → hdR L = none
  lo : ∀ j, 55 < k → j = k - 55 → ¬ (L.length < 1 + j ∨ L[1]?.getD 0 = 0) → hdR L = if beN ((L.drop 1).take j) ≤ 55 ∨ L.length < 1 + j + beN ((L.drop 1).take j) then none else some (1 + j, beN ((L.drop 1).take j))
theorem Hd.mk' {L : Bts} {k : Nat} (hk : k < 64) (hm : (L[0]?.getD 0 % 64).toNat = k) : Hd L k := by
  have hH : hdR L = if k ≤ 55 then (if k + 1 ≤ L.length then some (1, k) else none) else if L.length < 1 + (k - 55) ∨ L[1]?.getD 0 = 0 then none
      else if beN ((L.drop 1).take (k - 55)) ≤ 55 ∨ L.length < 1 + (k - 55) + beN ((L.drop 1).take (k - 55)) then none else some (1 + (k - 55), beN ((L.drop 1).take (k - 55))) := by
    unfold hdR; rw [hm]
  refine ⟨hk, fun h => by rw [hH, if_pos h], fun j h hj h2 => ?_, fun j h hj h2 => ?_⟩
  · subst hj; rw [hH, if_neg (by omega), if_pos h2]
  · subst hj; rw [hH, if_neg (by omega), if_neg h2]
/-- What the head's loop wants of the bytes behind the first. -/
structure HdLp (w : World) (b off : Nat) (L : Bts) (j : Nat) (B : Nat → Nat) : Prop where
  cell : ∀ q : Nat, q < j → ∃ x : Nat, x < 256 ∧ w.cell? ⟨b, off + (1 + q), none⟩ = some (.int .u8 (x : Int)) ∧ B (q + 1) = B q * 256 + x
  mono : ∀ q : Nat, q ≤ j → B q ≤ B j
  nil : B 0 = 0
theorem HdLp.of {w : World} {b off : Nat} {L : Bts} {j : Nat} (hc : ∀ i, i < L.length → w.cell? ⟨b, off + i, none⟩ = some (.int .u8 (L[i]?.getD 0))) (hby : Byt L) (hl : 1 + j ≤ L.length) :
    HdLp w b off L j (fun q => beN ((L.drop 1).take q)) := by
  refine ⟨fun q hq => ?_, fun q hq => beN_take_le _ (fun x hx => hby x (List.mem_of_mem_drop hx)) q j hq, rfl⟩
  have h1 : 1 + q < L.length := by omega
  have h2 : (0 : Int) ≤ L[1 + q]?.getD 0 ∧ L[1 + q]?.getD 0 < 256 := by rw [List.getElem?_eq_getElem h1]; exact hby _ (List.getElem_mem _)
  refine ⟨(L[1 + q]?.getD 0).toNat, by omega, ?_, ?_⟩
  · rw [hc (1 + q) h1]
    congr 2
    omega
  · have := beN_take (L.drop 1) q (by rw [List.length_drop]; omega)
    rw [List.getElem?_drop] at this
    exact this
end Go.Proofs.YtikiciojfhfagaaGreat
namespace Go.Proofs.YtikiciojfhfagaaGreat
open Go.RowKit Go.Mun

def Whole (w : World) (b : Nat) (t : TypeId) (L : List Value) : Prop := w.heap[b]? = some (.cells L.toArray t (0, 0))
theorem Whole.new (w : World) (t : TypeId) (L : List Value) : Whole (w.alloc (.cells L.toArray t)) w.heap.size t L := heap_alloc_new w (.cells L.toArray t)
theorem Whole.lt {w : World} {b : Nat} {t : TypeId} {L : List Value} (h : Whole w b t L) : b < w.heap.size := (Array.getElem?_eq_some_iff.1 h).1
theorem Whole.set {w : World} {b : Nat} {t : TypeId} {L : List Value} (h : Whole w b t L) (i : Nat) (v : Value) : Whole (w.setCell ⟨b, i, none⟩ v) b t (L.set i v) := by
  have := setCell_heap (w := w) (b := b) (o := i) L.toArray t (0, 0) v h
  unfold Whole
  rw [this, List.setIfInBounds_toArray]
theorem Whole.only {w w' : World} {S : Nat → Prop} {b : Nat} {t : TypeId} {L : List Value} (h : Whole w b t L) (ho : Only S w w') (hs : ¬ S b) : Whole w' b t L := (ho.block b h.lt hs).trans h
theorem Whole.below {w w' : World} {b : Nat} {t : TypeId} {L : List Value} (h : Whole w b t L) (hb : Below w.heap.size w w') : Whole w' b t L := h.only (S := fun _ => False) (Only.of_below_size hb) (fun h => h)
theorem Whole.arr {w : World} {b n : Nat} {t : TypeId} {L : List Value} (h : Whole w b t L) (hn : L.length = n) : Arr w b n L := by
  subst hn
  refine ⟨?_, ?_⟩
  · unfold World.row?
    rw [show w.heap[b]? = _ from h]
    simp
  · unfold World.free?
    rw [show w.heap[b]? = _ from h]
    simp
/-- A copy over a segment. -/
theorem splice_cat {l : List (List Value)} {i : Nat} {s : List Value} (hs : l[i]? = some s) {v : List Value} (hv : v.length = s.length) {p : Nat} (hp : p = offOf l i) : splice (cat l) p v = cat (l.set i v) := by
  subst hp
  have hle := off_le hs
  rw [← lay_eq _ _ _ (by omega), lay_cat hs hv]
end Go.Proofs.YtikiciojfhfagaaGreat
namespace Go.Proofs.YtikiciojfhfagaaGreat
open Go.RowKit Go.Mun

end Go.Proofs.YtikiciojfhfagaaGreat
namespace Go.Proofs.YtikiciojfhfagaaGreat
open Go.RowKit Go.Mun

def RefOfOk : Prop := ∀ (R : Nat → Prop) (cs : List Value) (t : Top) (w : World), TopAt w R cs t → (∀ ks l, t = .list ks → some l ∈ ks → l.length ≤ 70000000000000) →
  Calls Tryz.prog 58 #[.agg cs.toArray] w fun e w' => OfIs w w' (ofK t) e
end Go.Proofs.YtikiciojfhfagaaGreat
namespace Go.Proofs.YtikiciojfhfagaaGreat
open Go.RowKit Go.Mun

/-- A word's number, when it fits. -/
def fitK (k : Nat) : Option Nat := if k < 9223372036854775808 then some k else none
end Go.Proofs.YtikiciojfhfagaaGreat
namespace Go.Proofs.YtikiciojfhfagaaGreat
open Go.RowKit Go.Mun

end Go.Proofs.YtikiciojfhfagaaGreat
namespace Go.Proofs.YtikiciojfhfagaaGreat
open Go.RowKit Go.Mun

def RefWordOk : Prop := ∀ (R : Nat → Prop) (cs : List Value) (k : Option Bts) (w : World), KidAt w R cs k →
  Calls Tryz.prog 85 #[.agg cs.toArray] w fun e w' => e = .returned (.tuple #[.agg (beC 32 ((wordK k).getD 0)).toArray, .bool (wordK k).isSome]) ∧ Below w.heap.size w w'
end Go.Proofs.YtikiciojfhfagaaGreat
namespace Go.Proofs.YtikiciojfhfagaaGreat
open Go.RowKit Go.Mun

end Go.Proofs.YtikiciojfhfagaaGreat
namespace Go.Proofs.YtikiciojfhfagaaGreat
open Go.RowKit Go.Mun

theorem zU8_be : zU8 32 = beC 32 0 := by kernel_rfl
end Go.Proofs.YtikiciojfhfagaaGreat
namespace Go.Proofs.YtikiciojfhfagaaGreat
open Go.RowKit Go.Mun

end Go.Proofs.YtikiciojfhfagaaGreat
namespace Go.Proofs.YtikiciojfhfagaaGreat
open Go.RowKit Go.Mun

theorem ofSeven_yes {k0 k1 k2 k5 : Option Bts} {f to d : Bts} {n p g v : Nat} (h0 : intK k0 = some n) (h1 : intK k1 = some p) (h2 : intK k2 = some g) (hf : f.length = 20) (h5 : wordK k5 = some v) :
    ofSeven k0 k1 k2 (some f) (some to) k5 (some d) = if to = [] then some ⟨n, p, g, beN f, 0, true, v, d⟩ else (addrK (some to)).map fun x => ⟨n, p, g, beN f, beN x, false, v, d⟩ := by
  have e1 : numsK [k0, k1, k2] = some [n, p, g] := by simp only [numsK, h0, h1, h2]; rfl
  have e2 : addrK (some f) = some f := if_pos hf
  unfold ofSeven
  rw [e1, e2, h5]
theorem Whole.seg {w : World} {b : Nat} {t : TypeId} {l : List (List Value)} (h : Whole w b t (cat l)) {i : Nat} {u : Value} (hs : l[i]? = some [u]) (v : Value) {p : Nat} (hp : p = offOf l i) : Whole (w.setCell ⟨b, p, none⟩ v) b t (cat (l.set i [v])) := by
  have h1 := h.set p v
  have hle := off_le hs
  rw [← splice_one _ _ _ (by subst hp; simp at hle; omega), splice_cat (v := [v]) hs rfl hp] at h1
  exact h1
theorem _root_.Go.Mun.Arr.seg {w : World} {b N : Nat} {l : List (List Value)} (h : Arr w b N (cat l)) {i : Nat} {u : Value} (hs : l[i]? = some [u]) (v : Value) {p : Nat} (hp : p = offOf l i) : Arr (w.setCell ⟨b, p, none⟩ v) b N (cat (l.set i [v])) := by
  have hle := off_le hs
  have hN := h.len
  exact ⟨cell_cat_set h.row hs v (by omega), by rw [free?_setCell _ (h.free1 (i := p) (by subst hp; simp at hle; omega))]; exact h.free⟩
theorem slice23_3 (b : Nat) (w : World) : (Instr.sliceAt 23 (.pointer (some ⟨b, 3, none⟩)) none none none).run Tryz.prog w = .ok (.slice (some ⟨b, 3, none⟩) 20 20) w := by kernel_rfl
theorem slice23_23 (b : Nat) (w : World) : (Instr.sliceAt 23 (.pointer (some ⟨b, 23, none⟩)) none none none).run Tryz.prog w = .ok (.slice (some ⟨b, 23, none⟩) 20 20) w := by kernel_rfl
theorem ints_src {w : World} {a : Option Addr} {c : Nat} {l : Bts} (hI : Ints w .u8 a c l) (hl : 0 < l.length) : ∃ ad, a = some ad ∧ ∀ j v, (u8L l)[j]? = some v → w.cell? (ad.add j) = some v := by
  obtain ⟨b, off, ha, hbl, hc⟩ := hI.at hl
  refine ⟨_, ha, fun j v hv => ?_⟩
  have hj : j < l.length := by have := (List.getElem?_eq_some_iff.1 hv).1; simpa using this
  have h2 : v = .int .u8 (l[j]?.getD 0) := by
    rw [List.getElem?_eq_getElem (by simpa using hj)] at hv
    rw [List.getElem?_eq_getElem hj]
    simp [u8L] at hv
    simpa using hv.symm
  rw [h2, show (⟨b, off, none⟩ : Addr).add j = ⟨b, off + j, none⟩ from add_off rfl]
  exact hc j hj
end Go.Proofs.YtikiciojfhfagaaGreat
namespace Go.Proofs.YtikiciojfhfagaaGreat
open Go.RowKit Go.Mun

end Go.Proofs.YtikiciojfhfagaaGreat
namespace Go.Proofs.YtikiciojfhfagaaGreat
open Go.RowKit Go.Mun

end Go.Proofs.YtikiciojfhfagaaGreat
namespace Go.Proofs.YtikiciojfhfagaaGreat
open Go.RowKit Go.Mun

end Go.Proofs.YtikiciojfhfagaaGreat
namespace Go.Proofs.YtikiciojfhfagaaGreat
open Go.RowKit Go.Mun

end Go.Proofs.YtikiciojfhfagaaGreat
namespace Go.Proofs.YtikiciojfhfagaaGreat
open Go.RowKit Go.Mun

end Go.Proofs.YtikiciojfhfagaaGreat
namespace Go.Proofs.YtikiciojfhfagaaGreat
open Go.RowKit Go.Mun

theorem eqA_refl (x : Nat) (w : World) : (binOp .eql 23 (.agg (beC 20 x).toArray) (.agg (beC 20 x).toArray)).run Tryz.prog w = .ok (.bool true) w := by
  have := eql_of (fun d => run_eq_beD (n := 20) Tryz.underlying23 Tryz.underlying5 (by kernel_rfl) (d + 1) x x w)
  simpa [beEq] using this
theorem eqW_refl (x : Nat) (w : World) : (binOp .eql 25 (.agg (beC 32 x).toArray) (.agg (beC 32 x).toArray)).run Tryz.prog w = .ok (.bool true) w := by
  have := eql_of (fun d => run_eq_beD (n := 32) Tryz.underlying25 Tryz.underlying5 (by kernel_rfl) (d + 1) x x w)
  simpa [beEq] using this
end Go.Proofs.YtikiciojfhfagaaGreat
