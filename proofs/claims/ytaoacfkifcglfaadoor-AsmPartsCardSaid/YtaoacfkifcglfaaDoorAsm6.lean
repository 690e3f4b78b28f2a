/-
  append of made noughts; the walk of AsmParts.
-/
import Derived.Test.YtaoacfkifcglfaaDoorAsm4
import Derived.Lib.AppendZerosOnto
namespace Go.Mun
open Go.RowKit
theorem zeroCells_one {z : Value} (h : z.cells = #[z]) (k : Nat) : Builtin.zeroCells z.cells k = (List.replicate k z).toArray := by
  rw [h]
  apply Array.ext'
  simp only [Builtin.zeroCells, Array.toList_map, Array.toList_range]
  apply List.ext_getElem
  · simp
  · intro i h1 h2
    simp [Nat.mod_one]
/-- append of k made noughts to a row of the call's own. -/
theorem run_append_zeros_own {P : Program} {t tn e : TypeId} {z : Value} {bytes : Nat} {kn : IntKind} (E : ElemOf P t e z 1 bytes) (hzc : z.cells = #[z]) (hz1 : z.oneCell' = true) (htn : P.underlying tn = some (.int kn)) (ty : TypeId) (w : World)
    {base : Nat} {v : Value} {n : Nat} {xs : List Value} (hown : w.ownsRow base e 1 v n xs) (k : Nat) (h0 : 0 < k) (h63 : n + k ≤ maxLen) (hbytes : (n + k) * bytes ≤ 140737488355328) (hbase : base ≤ w.heap.size) :
    ∃ v' w', (Builtin.append_ #[t, tn] ty #[v, .int .i64 k]).run P w = .ok v' w' ∧ w'.ownsRow base e 1 v' (n + k) (xs ++ List.replicate k z) ∧ w.grownBy w' v.ownBlock := by
  obtain ⟨i, hi, hz, hsz, hb⟩ := E.info
  have ht := E.slice
  have h63' : n + k ≤ 9223372036854775807 := by unfold maxLen at h63; omega
  have hkb : k * i.bytes ≤ 281474976710656 := by
    rw [hb]
    have : k * bytes ≤ (n + k) * bytes := Nat.mul_le_mul_right _ (by omega)
    omega
  have hlen : (xs ++ List.replicate k z).length = (n + k) * 1 := by rw [List.length_append, hown.1, List.length_replicate]; omega
  have grown : ∀ (old : Nat) (row : Option Nat), old < n + k →
      (w.drew.alloc (.cells (xs.toArray ++ Builtin.zeroCells z.cells k ++ Builtin.zeroCells z.cells (grownCap w (n + k) old e - (n + k))) e)).ownsRow base e 1
        (.slice (some ⟨w.heap.size, 0, none⟩) (n + k) (grownCap w (n + k) old e)) (n + k) (xs ++ List.replicate k z) ∧
      w.grownBy (w.drew.alloc (.cells (xs.toArray ++ Builtin.zeroCells z.cells k ++ Builtin.zeroCells z.cells (grownCap w (n + k) old e - (n + k))) e)) row := by
    intro old row ho
    have hge := grownCap_ge w (n + k) old e
    have hcm : grownCap w (n + k) old e ≤ maxLen := grownCap_le_maxLen w (n + k) old e h63
    refine ⟨⟨hlen, .inr ⟨w.heap.size, _, _, rfl, hbase, heap_alloc_new w.drew _, hge, hcm, ?_, ?_⟩⟩, ⟨rfl, rfl, rfl, by simp, fun k hk _ => Lib.alloc_old w.drew _ k hk⟩⟩
    · rw [zeroCells_one hzc, zeroCells_one hzc]
      simp only [Array.size_append, List.size_toArray, List.length_replicate, hown.1]
      omega
    · rw [zeroCells_one hzc, zeroCells_one hzc]
      simp only [Array.toList_append, List.append_assoc]
      rw [← List.append_assoc, ← hlen]
      exact List.take_left
  rcases hown.2 with ⟨rfl, rfl⟩ | ⟨g, cap, cur, rfl, hbg, hg, hnc, hcm, hcs, htake⟩
  · have hxs : xs = [] := List.eq_nil_of_length_eq_zero (by simpa using hown.1)
    have hr := Lib.run_append_grow_zeros (P := P) w t tn ty e i z .i64 kn ht htn hi hz none 0 0 xs (by rw [hxs]; simp [Builtin.firstCells]) k h0 (by omega) (by omega) (by omega) hkb (growslice_fits (by omega) (by rw [hb]; exact hbytes))
    have hgr := grown 0 (Value.ownBlock (.slice none 0 0)) (by omega)
    exact ⟨_, _, hr, hgr.1, hgr.2⟩
  · by_cases hroom : n + k ≤ cap
    · have hfit : n * 1 + (List.replicate k z).length ≤ cur.size := by rw [List.length_replicate, hcs]; omega
      have hst := run_storeCells_at P g (n * 1) e (List.replicate k z) 0 cur w hg (by simpa using hfit) (fun u hu => by rw [(List.mem_replicate.1 hu).2]; exact hz1)
      simp only [Nat.add_zero] at hst
      have hk : k ≠ 0 := by omega
      have hw : IntKind.i64.wrap (k : Int) = k := by rw [IntKind.wrap_i64]; omega
      have hneg : ¬ ((k : Int) < 0) := by omega
      have h48i : ¬ (281474976710656 < (k : Int) * (i.bytes : Int)) := by
        rw [← Int.natCast_mul]; omega
      have hr : (Builtin.append_ #[t, tn] ty #[.slice (some ⟨g, 0, none⟩) n cap, .int .i64 k]).run P w = .ok (.slice (some ⟨g, 0, none⟩) (n + k) cap) (w.setRow g (cur.toList.take (n * 1) ++ List.replicate k z ++ cur.toList.drop (n * 1 + (List.replicate k z).length)).toArray) := by
        have hzz := zeroCells_one hzc k
        simp only [Nat.mul_one] at hst ⊢
        simp [Builtin.append_, run_underlying ht, run_underlying htn, sizeOf, typeInfo, zeroValue, hi, hz, hsz, asInt, asIntOf, hw, hneg, hk, h48i, hroom, Addr.add_lit, hzz] at hst ⊢
        rw [hst]
        rfl
      refine ⟨_, _, hr, ⟨hlen, .inr ⟨g, cap, _, rfl, hbg, setRow_heap w g cur _ e _ hg, hroom, hcm, ?_, ?_⟩⟩, ⟨rfl, rfl, rfl, by simp, fun k _ hk => setRow_other w g k _ (fun e => hk (by simp [Value.ownBlock, e]))⟩⟩
      · simp only [List.size_toArray, List.length_append, List.length_take, List.length_drop, Array.length_toList, List.length_replicate] at hfit ⊢
        omega
      · rw [htake, ← hlen]
        exact List.take_left
    · have holds : ∀ j u, xs[j]? = some u → w.cell? ((⟨g, 0, none⟩ : Addr).add j) = some u := hown.cells (g := g) rfl
      have hf := run_firstCells_some (P := P) w.drew i.size n ⟨g, 0, none⟩ n cap xs (by rw [hsz]; exact hown.1) holds
      have hr := Lib.run_append_grow_zeros (P := P) w t tn ty e i z .i64 kn ht htn hi hz (some ⟨g, 0, none⟩) n cap xs (by rw [hf]) k h0 (by omega) (by omega) (by omega) hkb (growslice_fits (by omega) (by rw [hb]; exact hbytes))
      have hgr := grown cap (Value.ownBlock (.slice (some ⟨g, 0, none⟩) n cap)) (by omega)
      exact ⟨_, _, hr, hgr.1, hgr.2⟩
theorem wpList_append_zeros {P : Program} {ops : Array Oper} {rest : List Oper} {o : Oper} {a : Act} {Q : Exit → Act → World → Prop} {w : World}
    {t tn e : TypeId} {z : Value} {bytes : Nat} {kn : IntKind} (E : ElemOf P t e z 1 bytes) (hzc : z.cells = #[z]) (hz1 : z.oneCell' = true) (htn : P.underlying tn = some (.int kn)) (hgd : o.guard = none) (s x : Operand)
    (ho : o.op = .call { callee := .builtin .append, args := #[s, x], argTypes := #[t, tn] })
    {base : Nat} {v : Value} {n k : Nat} {xs : List Value} (hown : w.ownsRow base e 1 v n xs) (hs : a.eval s = v) (hx : a.eval x = .int .i64 (k : Int)) (h0 : 0 < k)
    (h63 : n + k ≤ maxLen) (hbytes : (n + k) * bytes ≤ 140737488355328) (hbase : base ≤ w.heap.size)
    (h : ∀ v' w', w'.ownsRow base e 1 v' (n + k) (xs ++ List.replicate k z) → w.grownBy w' v.ownBlock → wpList P ops Q rest (a.put o.dst v') w') :
    wpList P ops Q (o :: rest) a w := by
  refine wpList_plain hgd fun K hK => ?_
  obtain ⟨v', w', hr, h2, h3⟩ := run_append_zeros_own E hzc hz1 htn o.type w hown k h0 h63 hbytes hbase
  unfold Oper.wp execOp
  simp only [ho, resolve, invoke, builtin, Sem.run_bind, Sem.run_pure, Result.andThen_ok, List.map_toArray, List.map_cons, List.map_nil, hs, hx, hr]
  exact hK _ _ (h v' w' h2 h3)
end Go.Mun
namespace Go.Proofs.YtaoacfkifcglfaaDoor
open Go.RowKit Go.Mun
set_option maxRecDepth 100000 in
set_option maxHeartbeats 2000000 in
theorem asmParts_walk (a : Option Addr) (n cap : Nat) (l : List Int) (hn : n = l.length) (b : Option Addr) (m cap2 : Nat) (l2 : List Int) (hm : m = l2.length) (w : World) (hi : Ints w .u8 a cap l) (hj : Ints w .u8 b cap2 l2) (hb : Byt l) (hb2 : Byt l2)
    (hn63 : n ≤ 9223372036854775807) (hm63 : m ≤ 9223372036854775807) (hT : Tab w) (hM : MaxL w) :
    Calls Tryd.prog 12 #[.slice a n cap, .slice b m cap2] w fun e w' => e = .returned (.bool true) ∧ Below w.heap.size w w' := by
  by_cases hbig : 500 < n
  · go_enter Tryd.func12, Tryd.ntmps12
    go_wp2_with fail
    refine (alive12 _ hT).mono ?_
    rintro e w1 ⟨rfl, hb1⟩
    go_wp2
    go_ret
    exact ⟨rfl, hb1⟩
  by_cases hbig2 : 500 < m
  · go_enter Tryd.func12, Tryd.ntmps12
    go_wp2_with fail
    refine (alive12 _ hT).mono ?_
    rintro e w1 ⟨rfl, hb1⟩
    go_wp2
    go_ret
    exact ⟨rfl, hb1⟩
  have hn5 : n ≤ 500 := by omega
  have hm5 : m ≤ 500 := by omega
  have HA := Lib.hid (alive12 w hT)
  have HI := Lib.hid hi
  have HJ := Lib.hid hj
  have HN := Lib.hid hn
  have HM := Lib.hid hm
  have HPl := Lib.hid (Nat.le_refl w.heap.size)
  obtain ⟨hp1, hp2⟩ := readA_parts l l2 hb hb2 (by omega) (by omega)
  have hbx : Byt (l ++ List.replicate 33 0) := fun x hx => by
    simp only [List.mem_append, List.mem_replicate] at hx
    rcases hx with hx | hx
    · exact hb x hx
    · omega
  have HL1 : Hid ((l ++ List.replicate 33 0).length = n + 33) := Lib.hid (by rw [List.length_append, List.length_replicate, hn])
  have HPx : Hid (∀ wx ax nx cx, Below w.heap.size w wx → Ints wx .u8 ax cx (l ++ List.replicate 33 0) → nx = (l ++ List.replicate 33 0).length → Calls Tryd.prog 35 #[.slice ax nx cx] wx fun e w' => e = .returned (.string (str (asmP (l ++ List.replicate 33 0)))) ∧ Below wx.heap.size wx w') := Lib.hid fun wx ax nx cx h1 h2 h3 =>
    asm_print ax nx cx _ h3 wx h2 hbx (by rw [HL1.out]; omega) (hT.below h1)
  have HPy : Hid (∀ wx ax nx cx, Below w.heap.size w wx → Ints wx .u8 ax cx (l ++ List.replicate 33 0 ++ l2) → nx = (l ++ List.replicate 33 0 ++ l2).length → Calls Tryd.prog 35 #[.slice ax nx cx] wx fun e w' => e = .returned (.string (str (asmP (l ++ List.replicate 33 0)) ++ str (asmP l2))) ∧ Below wx.heap.size wx w') := Lib.hid fun wx ax nx cx h1 h2 h3 => by
    have := asm_print ax nx cx _ h3 wx h2 (fun x hx => by
      rw [List.mem_append] at hx
      rcases hx with hx | hx
      · exact hbx x hx
      · exact hb2 x hx) (by rw [List.length_append, HL1.out]; omega) (hT.below h1)
    rw [hp1, ← str_append] at this; exact this
  have HQ : Hid (∀ wx, Below w.heap.size w wx → Calls Tryd.prog 37 #[.slice b m cap2] wx fun e w' => e = .returned (.string (str (asmP l2))) ∧ Below wx.heap.size wx w') := Lib.hid fun wx h =>
    ref_print b m cap2 l2 hm wx (hj.below h) hb2 (by omega)
  have hs1 : (str (asmP (l ++ List.replicate 33 0))).size ≤ 101 * 533 := by rw [str_size]; have := asmP_len _ (l ++ List.replicate 33 0) (Nat.le_refl _); rw [HL1.out] at this; omega
  have hs2 : (str (asmP l2)).size ≤ 101 * 500 := by rw [str_size]; have := asmP_len _ l2 (Nat.le_refl _); omega
  have HR : Hid (∀ wx, Below w.heap.size w wx → Calls Tryd.prog 36 #[.string (str (asmP (l ++ List.replicate 33 0)) ++ str (asmP l2))] wx fun e w' => (∃ a n c, e = .returned (.tuple #[.slice a n c, .int .i64 0, .int .i64 0]) ∧ n = (l ++ List.replicate 33 0 ++ l2).length ∧ Ints w' .u8 a c (l ++ List.replicate 33 0 ++ l2)) ∧ Below wx.heap.size wx w') := Lib.hid fun wx h => by
    refine (asm_readAll _ (by rw [ByteArray.size_append]; omega) wx (hT.below h) (hM.below h)).mono ?_
    rintro e w' ⟨h1, h2⟩
    rw [str_append, str_data, hp2] at h1
    exact ⟨h1, h2⟩
  have HXE : Hid (strOf (l ++ List.replicate 33 0 ++ l2) = strOf (l ++ List.replicate 33 0) ++ strOf l2) := Lib.hid (strOf_append _ _).symm
  have HXM : Hid (l.map (Value.int .u8) ++ List.replicate 33 (Value.int .u8 0) = (l ++ List.replicate 33 0).map (Value.int .u8)) := Lib.hid (by rw [List.map_append, List.map_replicate])
  have hz1 : (strOf (l ++ List.replicate 33 0)).size ≤ 533 := by rw [strOf_size, HL1.out]; omega
  have hz2 : (strOf l2).size ≤ 500 := by rw [strOf_size]; omega
  generalize str (asmP (l ++ List.replicate 33 0)) = q at *
  generalize str (asmP l2) = r at *
  obtain ⟨X, hX⟩ : ∃ X, X = l ++ List.replicate 33 0 := ⟨_, rfl⟩
  rw [← hX] at HL1 HPx HPy HR HXE HXM hz1
  clear hX hp1 hp2 hbx hi hj hb hb2 hn hm hT hM
  go_enter Tryd.func12, Tryd.ntmps12
  go_wp2_with fail
  refine HA.out.mono ?_
  rintro e w1 ⟨rfl, hb1⟩
  have B1 := Lib.hid hb1
  have HI1 := Lib.hid (HI.out.below hb1)
  have HO0 := Lib.hid (World.ownsRow_nil w1 w.heap.size 5 1)
  have z1 := hb1.size
  clear hb1
  go_wp2_with (at_builtin; go_must (refine wpList_append_intsN (base := w.heap.size) (n := 0) (xs := []) elem33 rfl _ _ rfl HO0.out rfl rfl HN.out HI1.out ?c3 ?c4 ?c5 ?_))
  case c3 => unfold maxLen; omega
  case c4 => omega
  case c5 => exact z1
  intro v2 w2 ho hg
  have B2 := Lib.hid (show Below w.heap.size w w2 from B1.out.grown hg z1 (fun k hk => (HO0.out.lt k hk).1))
  have HO2 := Lib.hid (show w2.ownsRow w.heap.size 5 1 v2 n (l.map (Value.int .u8)) by simpa using ho)
  have z2 := B2.out.size
  clear ho hg z1
  go_wp2_with (at_builtin; go_must (refine wpList_append_zeros (base := w.heap.size) (n := n) (k := 33) (xs := l.map (Value.int .u8)) elem33 rfl rfl Tryd.underlying3 rfl _ _ rfl HO2.out rfl rfl ?d0 ?d3 ?d4 ?d5 ?_))
  case d0 => decide
  case d3 => unfold maxLen; omega
  case d4 => omega
  case d5 => exact z2
  intro v3 w3 ho hg
  have B3 := Lib.hid (show Below w.heap.size w w3 from B2.out.grown hg z2 (fun k hk => (HO2.out.lt k hk).1))
  have ho' : w3.ownsRow w.heap.size 5 1 v3 (n + 33) (X.map (Value.int .u8)) := by rw [← HXM.out]; exact ho
  obtain ⟨a3, c3, rfl, hn3, hI3⟩ := Ints.of_own' ho'
  have HN3 := Lib.hid hn3
  have HI3 := Lib.hid hI3
  clear ho ho' hg z2 hn3 hI3
  go_wp2_with fail
  refine (HPx.out _ _ _ _ B3.out HI3.out HN3.out).mono ?_
  rintro e w4 ⟨rfl, hb⟩
  have B4 := Lib.hid (below_next HPl.out B3.out hb)
  have HI4 := Lib.hid (HI3.out.below hb)
  have HO4 := Lib.hid (World.ownsRow_nil w4 w4.heap.size 5 1)
  have HP4 := Lib.hid (Below.refl w4.heap.size w4)
  have z4 := B4.out.size
  clear hb
  go_wp2_with (at_builtin; go_must (refine wpList_append_intsN (base := w4.heap.size) (n := 0) (xs := []) elem33 rfl _ _ rfl HO4.out rfl rfl HN3.out HI4.out ?e3 ?e4 ?e5 ?_))
  case e3 => unfold maxLen; omega
  case e4 => omega
  case e5 => exact Nat.le_refl _
  intro v5 w5 ho hg
  have B5 := Lib.hid (show Below w4.heap.size w4 w5 from HP4.out.grown hg (Nat.le_refl _) (fun k hk => (HO4.out.lt k hk).1))
  have HO5 := Lib.hid (show w5.ownsRow w4.heap.size 5 1 v5 (n + 33) (X.map (Value.int .u8)) by simpa using ho)
  have HJ5 := Lib.hid ((HJ.out.below B4.out).below B5.out)
  have z5 := B5.out.size
  clear ho hg
  go_wp2_with (at_builtin; go_must (refine wpList_append_intsN (base := w4.heap.size) (n := n + 33) (xs := X.map (Value.int .u8)) elem33 rfl _ _ rfl HO5.out rfl rfl HM.out HJ5.out ?f3 ?f4 ?f5 ?_))
  case f3 => unfold maxLen; omega
  case f4 => omega
  case f5 => exact z5
  intro v6 w6 ho hg
  have B6 := Lib.hid (show Below w4.heap.size w4 w6 from B5.out.grown hg z5 (fun k hk => (HO5.out.lt k hk).1))
  have BW6 := Lib.hid (below_next HPl.out B4.out B6.out)
  have ho' : w6.ownsRow w4.heap.size 5 1 v6 (n + 33 + m) ((X ++ l2).map (Value.int .u8)) := by rw [List.map_append]; exact ho
  obtain ⟨a6, c6, rfl, hn6, hI6⟩ := Ints.of_own' ho'
  have HN6 := Lib.hid hn6
  have HI6 := Lib.hid hI6
  have HX6 := Lib.hid (HI4.out.below B6.out)
  clear ho ho' hg hn6 hI6 z4 z5
  go_wp2_with fail
  refine (HPy.out _ _ _ _ BW6.out HI6.out HN6.out).mono ?_
  rintro e w7 ⟨rfl, hb⟩
  have B7 := Lib.hid (below_next HPl.out BW6.out hb)
  have HX7 := Lib.hid (HX6.out.below hb)
  clear hb
  go_wp2_with fail
  refine (HQ.out _ B7.out).mono ?_
  rintro e w8 ⟨rfl, hb⟩
  have B8 := Lib.hid (below_next HPl.out B7.out hb)
  have HX8 := Lib.hid (HX7.out.below hb)
  clear hb
  go_wp2_with fail
  refine (HR.out _ B8.out).mono ?_
  rintro e w9 ⟨⟨a9, n9, c9, rfl, hn9, hI9⟩, hb⟩
  have B9 := Lib.hid (below_next HPl.out B8.out hb)
  have HX9 := Lib.hid (HX8.out.below hb)
  have HN9 := Lib.hid hn9
  have HI9 := Lib.hid hI9
  clear hb hn9 hI9
  go_wp2_with fail
  refine (HQ.out _ B9.out).mono ?_
  rintro e w10 ⟨rfl, hb⟩
  have B10 := Lib.hid (below_next HPl.out B9.out hb)
  have c1 := run_bytes_string' (P := Tryd.prog) Tryd.underlying33 Tryd.underlying5 Tryd.underlying9 HN9.out (HI9.out.below hb)
  have c2 := run_bytes_string' (P := Tryd.prog) Tryd.underlying33 Tryd.underlying5 Tryd.underlying9 HN3.out (HX9.out.below hb)
  have c3' := run_bytes_string' (P := Tryd.prog) Tryd.underlying33 Tryd.underlying5 Tryd.underlying9 HM.out (HJ.out.below B10.out)
  rw [HXE.out] at c1
  clear hb
  generalize strOf X = sx at *
  generalize strOf l2 = sl at *
  go_wp2_with (go_at_call 38; refine (num12 _ _).mono ?_; rintro e w6 ⟨rfl, rfl⟩)
  go_ret
  exact ⟨rfl, B10.out⟩
theorem asmParts_law (a : Option Addr) (n cap : Nat) (l : List Int) (hn : n = l.length) {W : World} (hi : Ints W .u8 a cap l) (hw : ∀ i, i < l.length → (Lit.int .u8 (l[i]?.getD 0)).wf = true)
    (b : Option Addr) (m cap2 : Nat) (l2 : List Int) (hm : m = l2.length) (hj : Ints W .u8 b cap2 l2) (hw2 : ∀ i, i < l2.length → (Lit.int .u8 (l2[i]?.getD 0)).wf = true) (_W : World) (hL : laidMet Tryd.prog Rows.asmPartsRow.laid W) (hsh : W.ShapedOpen Tryd.prog) :
    Calls Tryd.prog 12 #[.slice a n cap, .slice b m cap2] W fun e w' => e = .returned (.bool true) ∧ Below W.heap.size W w' :=
  asmParts_walk a n cap l hn b m cap2 l2 hm W hi hj (byt_of_wf hw) (byt_of_wf hw2) (by have h1 := hi.len; have h2 := hi.cap; unfold maxLen at h2; omega) (by have h1 := hj.len; have h2 := hj.cap; unfold maxLen at h2; omega) (tab_of_laid hL) (maxL_of_shape hsh)
end Go.Proofs.YtaoacfkifcglfaaDoor
