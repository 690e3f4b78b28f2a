/-
  The walk of HexTexts: the texts of any bytes, words and addresses, and that they are read as these.
-/
import Derived.Test.YtaoacfkifcglfaaDoorLawR
namespace Go.Proofs.YtaoacfkifcglfaaDoor
open Go.RowKit Go.Mun
attribute [local irreducible] be beC zU8

theorem box_row {w0 w : World} {n ty : Nat} {L : List Int} (hl : L.length = n) (hb : Below w0.heap.size w0 w) :
    Below w0.heap.size w0 (w.alloc (.cells (u8L L).toArray ty)) ∧ Below w.heap.size w (w.alloc (.cells (u8L L).toArray ty)) ∧ (w.alloc (.cells (u8L L).toArray ty)).row? w.heap.size 0 n = some (u8L L) :=
  ⟨hb.alloc hb.size _, (Below.refl _ _).alloc (Nat.le_refl _) _, World.row?_alloc_at _ _ _ rfl (by rw [u8L_len]; exact hl)⟩

theorem ints_of_row {w : World} {g n : Nat} {L : List Int} (h : w.row? g 0 n = some (u8L L)) (hn : L.length = n) (hm : n ≤ maxLen) : Ints w .u8 (some ⟨g, 0, none⟩) n L := by
  refine ⟨fun _ => ⟨g, 0, rfl, fun i hi => ?_⟩, fun h => by simp at h, by omega, hm⟩
  rw [World.row?_cell h (by omega)]
  simp [u8L, hi]

theorem below_next {p : Nat} {w w1 w2 : World} (hp : p ≤ w.heap.size) (h : Below p w w1) (hb : Below w1.heap.size w1 w2) : Below p w w2 := h.trans (hb.mono (Nat.le_trans hp h.size))

set_option maxRecDepth 10000 in
set_option maxHeartbeats 800000 in
theorem hexTexts_walk (a : Option Addr) (n cap : Nat) (l L M : List Int) (hn : n = l.length) (w : World) (hI : Ints w .u8 a cap l) (hl : ∀ x ∈ l, 0 ≤ x ∧ x ≤ 255) (hL : L.length = 32) (hLb : ∀ x ∈ L, 0 ≤ x ∧ x ≤ 255) (hM : M.length = 20) (hMb : ∀ x ∈ M, 0 ≤ x ∧ x ≤ 255) :
    Calls Tryd.prog 5 #[.slice a n cap, .agg (u8L L).toArray, .agg (u8L M).toArray] w fun e w' => e = .returned (.bool true) ∧ Below w.heap.size w w' := by
  have bx := fun (ρ : Operand → Value) (dst : Option Tmp) (x : Operand) (t : TypeId) (pos : String) (after : Array Edge) (gd : Option (Nat × Bool)) (w : World) => ex_box (P := Tryd.prog) ρ dst x t pos after gd w 25
  have by_ := fun (ρ : Operand → Value) (dst : Option Tmp) (x : Operand) (t : TypeId) (pos : String) (after : Array Edge) (gd : Option (Nat × Bool)) (w : World) => ex_box (P := Tryd.prog) ρ dst x t pos after gd w 41
  have ca := fun (L : Array Value) => cells_agg L
  have hmx : n ≤ 9223372036854775807 := by have := Nat.le_trans hI.len hI.cap; unfold maxLen at this; omega
  have HN := Lib.hid hn
  have I0 := Lib.hid hI
  have HL := Lib.hid hL
  have HM := Lib.hid hM
  have Hl := Lib.hid hl
  have HLb := Lib.hid hLb
  have HMb := Lib.hid hMb
  clear hn hI hl hL hLb hM hMb
  by_cases hs : 3000 < n
  · go_enter Tryd.func5, Tryd.ntmps5
    go_wp2_with fail
    refine (alive3 _).mono ?_
    rintro e w1 ⟨rfl, hb1⟩
    go_wp2
    go_ret
    exact ⟨rfl, (((Below.refl _ _).alloc (Nat.le_refl _) _).alloc (by simp) _).trans (hb1.mono (by simp; omega))⟩
  · have ok32 : okL 32 (u8L L) = true := u8L_ok _ 32 HL.out
    have ok20 : okL 20 (u8L M) = true := u8L_ok _ 20 HM.out
    have q2 := fun wx => eq25 L L HL.out HL.out wx
    have q3 := fun wx => eq41 M M HM.out HM.out wx
    go_enter Tryd.func5, Tryd.ntmps5
    go_wp2_with fail
    obtain ⟨W1, hW1⟩ : ∃ W1, W1 = w.alloc (.cells (u8L L).toArray 25) := ⟨_, rfl⟩
    rw [← hW1]
    have hz : W1.heap.size = w.heap.size + 1 := by rw [hW1]; simp
    rw [← hz]
    obtain ⟨b1, d1, r1⟩ := box_row (ty := 25) HL.out (Below.refl w.heap.size w)
    rw [← hW1] at b1 d1 r1
    have J1 := Lib.hid (I0.out.below d1)
    have B1 := Lib.hid b1
    have R1 := Lib.hid r1
    clear hW1 hz b1 d1 r1
    obtain ⟨W2, hW2⟩ : ∃ W2, W2 = W1.alloc (.cells (u8L M).toArray 41) := ⟨_, rfl⟩
    rw [← hW2]
    obtain ⟨b1, d1, r1⟩ := box_row (ty := 41) HM.out B1.out
    rw [← hW2] at b1 d1 r1
    have J2 := Lib.hid (J1.out.below d1)
    have B2 := Lib.hid b1
    have R2 := Lib.hid (rangeAt_below d1 R1.out)
    have S2 := Lib.hid r1
    clear hW2 b1 d1 r1 bx by_ ca
    generalize hp0 : w.heap.size = p0 at *
    have HP0 := Lib.hid hp0
    have HPl := Lib.hid (Nat.le_of_eq hp0.symm)
    clear hp0
    generalize W1.heap.size = p1 at *
    have hn40 : n ≤ 1099511627776 := by omega
    refine (alive3 _).mono ?_
    rintro e w3 ⟨rfl, hb⟩
    have J3 := Lib.hid (J2.out.below hb)
    have B3 := Lib.hid (show Below p0 w w3 from below_next HPl.out B2.out hb)
    have R3 := Lib.hid (rangeAt_below hb R2.out)
    have S3 := Lib.hid (rangeAt_below hb S2.out)
    clear hb
    go_wp2_with fail
    refine (hex_text' a n cap l HN.out _ J3.out Hl.out (by rw [← HN.out]; exact hn40)).mono ?_
    rintro e w4 ⟨rfl, hb⟩
    have J4 := Lib.hid (J3.out.below hb)
    have B4 := Lib.hid (show Below p0 w w4 from below_next HPl.out B3.out hb)
    have R4 := Lib.hid (rangeAt_below hb R3.out)
    have S4 := Lib.hid (rangeAt_below hb S3.out)
    have HSr := Lib.hid (show hexRead (strOf (textL l)).data.toList = some l by rw [strOf_u8s]; exact hexRead_text l Hl.out)
    have hsz : (strOf (textL l)).size ≤ 10000 := by rw [strOf_size, textL, List.length_append, digT_len, ← HN.out]; show 2 + 2 * n ≤ _; omega
    generalize hS : strOf (textL l) = s at *
    have HS := Lib.hid hS
    clear hb hS
    have r := R4.out
    go_wp2_with fail
    refine (hex_short L HL.out HLb.out _).mono ?_
    rintro e w5 ⟨rfl, hb⟩
    have J5 := Lib.hid (J4.out.below hb)
    have B5 := Lib.hid (show Below p0 w w5 from below_next HPl.out B4.out hb)
    have R5 := Lib.hid (rangeAt_below hb R4.out)
    have S5 := Lib.hid (rangeAt_below hb S4.out)
    have HTr := Lib.hid (show hexWord (strOf (shortL L)).data.toList = some L by rw [strOf_u8s]; exact hexWord_short L HL.out HLb.out)
    have hsz2 : (strOf (shortL L)).size ≤ 10000 := by
      rw [strOf_size, shortL, List.length_append]
      have := coreL_len L
      have := HL.out
      split
      · simp
      · simp only [List.length_cons, List.length_nil]; omega
    generalize hT : strOf (shortL L) = t at *
    have HT := Lib.hid hT
    clear hb hT r
    go_wp2_with fail
    refine (hex_read s (by omega) _).mono ?_
    rintro e w6 ⟨hr, hb⟩
    obtain ⟨v, rfl, ho⟩ := hr.good l HSr.out
    obtain ⟨a2, c2, rfl, hn2, hI2⟩ := Ints.of_own' ho
    have K6 := Lib.hid hI2
    have J6 := Lib.hid (J5.out.below hb)
    have B6 := Lib.hid (show Below p0 w w6 from below_next HPl.out B5.out hb)
    have R6 := Lib.hid (rangeAt_below hb R5.out)
    have S6 := Lib.hid (rangeAt_below hb S5.out)
    clear hb hr ho hn2 hI2
    go_wp2_with fail
    refine (hex_word t (by omega) _).mono ?_
    rintro e w7 ⟨he, hb⟩
    rw [HTr.out] at he
    obtain rfl : e = .returned (.tuple #[.agg (u8L L).toArray, .int .i64 0]) := he
    have K7 := Lib.hid (K6.out.below hb)
    have J7 := Lib.hid (J6.out.below hb)
    have B7 := Lib.hid (show Below p0 w w7 from below_next HPl.out B6.out hb)
    have R7 := Lib.hid (rangeAt_below hb R6.out)
    have S7 := Lib.hid (rangeAt_below hb S6.out)
    clear hb
    go_wp2_with fail
    obtain ⟨w8, hw8⟩ : ∃ W, W = (w7.alloc (.cells (zU8 32).toArray 25)).setCells w7.heap.size 0 (u8L L) := ⟨_, rfl⟩
    rw [← hw8]
    obtain ⟨b5, d5, r5⟩ := laid_row hw8 (show Below w.heap.size w w7 by rw [HP0.out]; exact B7.out) ok32
    have K8 := Lib.hid (K7.out.below d5)
    have J8 := Lib.hid (J7.out.below d5)
    have B8 := Lib.hid (show Below p0 w w8 by rw [← HP0.out]; exact b5)
    have R8 := Lib.hid (rangeAt_below d5 R7.out)
    have S8 := Lib.hid (rangeAt_below d5 S7.out)
    have T8 := Lib.hid r5
    clear hw8 b5 d5 r5
    generalize w7.heap.size = p2 at *
    refine (hex_text' (some ⟨p1, 0, none⟩) 20 20 M HM.out.symm _ (ints_of_row S8.out HM.out (by decide)) HMb.out (by rw [HM.out]; decide)).mono ?_
    rintro e w9 ⟨rfl, hb⟩
    have K9 := Lib.hid (K8.out.below hb)
    have J9 := Lib.hid (J8.out.below hb)
    have B9 := Lib.hid (show Below p0 w w9 from below_next HPl.out B8.out hb)
    have R9 := Lib.hid (rangeAt_below hb R8.out)
    have S9 := Lib.hid (rangeAt_below hb S8.out)
    have T9 := Lib.hid (rangeAt_below hb T8.out)
    have HUr := Lib.hid (show hexAddr (strOf (textL M)).data.toList = some M by rw [strOf_u8s]; exact hexAddr_text M HMb.out HM.out)
    have hsz3 : (strOf (textL M)).size ≤ 10000 := by rw [strOf_size, textL, List.length_append, digT_len, HM.out]; decide
    generalize strOf (textL M) = u at *
    clear hb
    go_wp2_with fail
    refine (hex_addr u (by omega) _).mono ?_
    rintro e w10 ⟨he, hb⟩
    rw [HUr.out] at he
    obtain rfl : e = .returned (.tuple #[.agg (u8L M).toArray, .int .i64 0]) := he
    have K10 := Lib.hid (K9.out.below hb)
    have J10 := Lib.hid (J9.out.below hb)
    have B10 := Lib.hid (show Below p0 w w10 from below_next HPl.out B9.out hb)
    have R10 := Lib.hid (rangeAt_below hb R9.out)
    have S10 := Lib.hid (rangeAt_below hb S9.out)
    have T10 := Lib.hid (rangeAt_below hb T9.out)
    clear hb
    go_wp2_with fail
    obtain ⟨w11, hw11⟩ : ∃ W, W = (w10.alloc (.cells (zU8 20).toArray 41)).setCells w10.heap.size 0 (u8L M) := ⟨_, rfl⟩
    rw [← hw11]
    obtain ⟨b5, d5, r5⟩ := laid_row hw11 (show Below w.heap.size w w10 by rw [HP0.out]; exact B10.out) ok20
    have K11 := Lib.hid (K10.out.below d5)
    have J11 := Lib.hid (J10.out.below d5)
    have B11 := Lib.hid (show Below p0 w w11 by rw [← HP0.out]; exact b5)
    have R11 := Lib.hid (rangeAt_below d5 R10.out)
    have S11 := Lib.hid (rangeAt_below d5 S10.out)
    have T11 := Lib.hid (rangeAt_below d5 T10.out)
    have U11 := Lib.hid r5
    clear hw11 b5 d5 r5
    generalize w10.heap.size = p3 at *
    refine (ref_text' a n cap l HN.out _ J11.out Hl.out (by rw [← HN.out]; exact hn40)).mono ?_
    rintro e w12 ⟨rfl, hb⟩
    have K12 := Lib.hid (K11.out.below hb)
    have J12 := Lib.hid (J11.out.below hb)
    have B12 := Lib.hid (show Below p0 w w12 from below_next HPl.out B11.out hb)
    have R12 := Lib.hid (rangeAt_below hb R11.out)
    have S12 := Lib.hid (rangeAt_below hb S11.out)
    have T12 := Lib.hid (rangeAt_below hb T11.out)
    have U12 := Lib.hid (rangeAt_below hb U11.out)
    clear hb
    rw [HS.out]
    have r := R12.out
    go_wp2_with fail
    refine (ref_short L HL.out HLb.out _).mono ?_
    rintro e w13 ⟨rfl, hb⟩
    have k := K12.out.below hb
    have j := J12.out.below hb
    have B13 := Lib.hid (show Below p0 w w13 from below_next HPl.out B12.out hb)
    have r1 := rangeAt_below hb R12.out
    have r2 := rangeAt_below hb S12.out
    have r3 := rangeAt_below hb T12.out
    have r4 := rangeAt_below hb U12.out
    clear hb r
    rw [HT.out]
    have c1 := run_bytes_string' (P := Tryd.prog) Tryd.underlying33 Tryd.underlying5 Tryd.underlying9 (n := l.length) rfl k
    have c2 := run_bytes_string' (P := Tryd.prog) Tryd.underlying33 Tryd.underlying5 Tryd.underlying9 HN.out j
    clear k j
    generalize strOf l = q at *
    go_wp2_with (go_at_call 17; refine (num3 _ _).mono ?_; rintro e w6 ⟨rfl, rfl⟩)
    go_ret
    exact ⟨rfl, by rw [HP0.out]; exact B13.out⟩
theorem wf_bytes {l : List Int} (h : ∀ i, i < l.length → (Lit.int .u8 (l[i]?.getD 0)).wf = true) : ∀ x ∈ l, 0 ≤ x ∧ x ≤ 255 := by
  intro x hx
  obtain ⟨i, hi, rfl⟩ := List.getElem_of_mem hx
  have := h i hi
  rw [List.getElem?_eq_getElem hi] at this
  exact wf_u8 this
theorem hexTexts_law (a : Option Addr) (n cap : Nat) (l : List Int) (hn : n = l.length) {w : World} (hI : Ints w .u8 a cap l) (hl : ∀ i, i < l.length → (Lit.int .u8 (l[i]?.getD 0)).wf = true)
    (L : List Int) (hL : L.length = 32) (hLb : ∀ x ∈ L, 0 ≤ x ∧ x ≤ 255) (M : List Int) (hM : M.length = 20) (hMb : ∀ x ∈ M, 0 ≤ x ∧ x ≤ 255) (w' : World) (e : w' = w := by rfl) :
    Calls Tryd.prog 5 #[.slice a n cap, .agg (u8L L).toArray, .agg (u8L M).toArray] w' fun e w2 => e = .returned (.bool true) ∧ Below w'.heap.size w' w2 := by
  subst e; exact hexTexts_walk a n cap l L M hn w' hI (wf_bytes hl) hL hLb hM hMb
end Go.Proofs.YtaoacfkifcglfaaDoor
