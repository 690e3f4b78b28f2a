/-
  The walk of OpsTells: what every byte is as an instruction, and which names are some.
-/
import Derived.Test.YtaoacfkifcglfaaDoorOpN
namespace Go.Proofs.YtaoacfkifcglfaaDoor
open Go.RowKit Go.Mun

theorem opV_form (o : Option Nat) : ∃ (a : Int) (ok : Bool), opV o = .tuple #[.int .u8 a, .bool ok] := by
  cases o with
  | none => exact ⟨0, false, rfl⟩
  | some m => exact ⟨m, true, rfl⟩
theorem opOf_name (m : Nat) (hm : m < 256) : opOf (nameL m) = if nameL m = [] then none else some m := by
  by_cases h : nameL m = []
  · rw [if_pos h, h]; rfl
  · rw [if_neg h]
    exact opOf_some hm h rfl (fun j hj e => name_ne hm (by omega : j < 256) (by omega) h e.symm)

set_option maxRecDepth 100000 in
set_option maxHeartbeats 1000000 in
theorem opsTells_walk (m : Nat) (hm : m < 256) (s : ByteArray) (hs0 : s.size ≤ 9223372036854775807) (w : World) (hT : Tab w) : Calls Tryd.prog 8 #[.int .u8 (m : Int), .string s] w fun e w' => e = .returned (.bool true) ∧ Below w.heap.size w w' := by
  by_cases hs : 1000 < s.size
  · go_enter Tryd.func8, Tryd.ntmps8
    go_wp2_with fail
    refine (alive11 _).mono ?_
    rintro e w1 ⟨rfl, hb1⟩
    go_wp2
    go_ret
    exact ⟨rfl, hb1⟩
  have HT := Lib.hid hT
  have HPl := Lib.hid (Nat.le_refl w.heap.size)
  clear hT
  have HL : Hid (∀ w, Calls Tryd.prog 31 #[.int .u8 (m : Int)] w fun e w' => e = .returned (.tuple #[.string (str (nameL m)), .int .i64 (popsOf (costL m)), .int .i64 (pushesOf (costL m)), .int .i64 (gasOf (costL m))]) ∧ Below w.heap.size w w') := Lib.hid fun w => ref_line m hm w
  have HN : Hid (∀ w', Tab w' → Calls Tryd.prog 27 #[.int .u8 (m : Int)] w' fun e w2 => e = .returned (.string (str (nameL m))) ∧ Below w'.heap.size w' w2) := Lib.hid fun w' h => ops_name m hm w' h
  have H1 : Hid (∀ w', Calls Tryd.prog 28 #[.int .u8 (m : Int)] w' fun e w2 => e = .returned (.int .i64 (popsOf (costL m))) ∧ Below w'.heap.size w' w2) := Lib.hid fun w' => ops_pops m hm w'
  have H2 : Hid (∀ w', Calls Tryd.prog 29 #[.int .u8 (m : Int)] w' fun e w2 => e = .returned (.int .i64 (pushesOf (costL m))) ∧ Below w'.heap.size w' w2) := Lib.hid fun w' => ops_pushes m hm w'
  have H3 : Hid (∀ w', Calls Tryd.prog 30 #[.int .u8 (m : Int)] w' fun e w2 => e = .returned (.int .i64 (gasOf (costL m))) ∧ Below w'.heap.size w' w2) := Lib.hid fun w' => ops_gas m hm w'
  obtain ⟨a, ok, ho⟩ := opV_form (opOf s.data.toList)
  have HO1 : Hid (∀ w', Tab w' → Calls Tryd.prog 32 #[.string s] w' fun e w2 => e = .returned (.tuple #[.int .u8 a, .bool ok]) ∧ Below w'.heap.size w' w2) := Lib.hid fun w' h => by have := ops_op s w' h; rw [ho] at this; exact this
  have HO2 : Hid (∀ w', Calls Tryd.prog 33 #[.string s] w' fun e w2 => e = .returned (.tuple #[.int .u8 a, .bool ok]) ∧ Below w'.heap.size w' w2) := Lib.hid fun w' => by have := ref_op s w'; rw [ho] at this; exact this
  clear ho
  have HO3 : Hid (∀ w', Tab w' → Calls Tryd.prog 32 #[.string (str (nameL m))] w' fun e w2 => e = .returned (opV (if nameL m = [] then none else some m)) ∧ Below w'.heap.size w' w2) := Lib.hid fun w' h => by
    have := ops_op (str (nameL m)) w' h; rw [str_data, opOf_name m hm] at this; exact this
  generalize popsOf (costL m) = p1 at *
  generalize pushesOf (costL m) = p2 at *
  generalize gasOf (costL m) = p3 at *
  have hcase : (nameL m = [] ∧ (str (nameL m)).toList.isEmpty = true) ∨ (nameL m ≠ [] ∧ (str (nameL m)).toList.isEmpty = false) := by
    by_cases h : nameL m = []
    · exact .inl ⟨h, by rw [str_toList, h]; rfl⟩
    · exact .inr ⟨h, by rw [str_toList]; simpa using h⟩
  obtain ⟨q, hq⟩ : ∃ q, q = str (nameL m) := ⟨_, rfl⟩
  rw [← hq] at HL HN HO3 hcase
  clear hq
  have tail : ∀ (c : Int) (is : Bool), (is = true → c = m) → (q.toList.isEmpty = !is) → (∀ w', Tab w' → Calls Tryd.prog 32 #[.string q] w' fun e w2 => e = .returned (.tuple #[.int .u8 c, .bool is]) ∧ Below w'.heap.size w' w2) →
      Calls Tryd.prog 8 #[.int .u8 (m : Int), .string s] w fun e w' => e = .returned (.bool true) ∧ Below w.heap.size w w' := by
    intro c is hc he h3
    have HO4 := Lib.hid h3
    have HC := Lib.hid hc
    have HE := Lib.hid he
    clear h3 HO3 hcase hc he
    go_enter Tryd.func8, Tryd.ntmps8
    go_wp2_with fail
    refine (alive11 _).mono ?_
    rintro e w1 ⟨rfl, hb⟩
    have B1 := Lib.hid hb
    clear hb
    go_wp2_with fail
    refine (HL.out _).mono ?_
    rintro e w2 ⟨rfl, hb⟩
    have B2 := Lib.hid (below_next HPl.out B1.out hb)
    clear hb
    go_wp2_with fail
    refine (HO1.out _ (HT.out.below B2.out)).mono ?_
    rintro e w3 ⟨rfl, hb⟩
    have B3 := Lib.hid (below_next HPl.out B2.out hb)
    clear hb
    go_wp2_with fail
    refine (HO2.out _).mono ?_
    rintro e w4 ⟨rfl, hb⟩
    have B4 := Lib.hid (below_next HPl.out B3.out hb)
    clear hb
    go_wp2_with fail
    refine (HO4.out _ (HT.out.below B4.out)).mono ?_
    rintro e w5 ⟨rfl, hb⟩
    have B5 := Lib.hid (below_next HPl.out B4.out hb)
    clear hb
    go_wp2_with fail
    refine (HN.out _ (HT.out.below B5.out)).mono ?_
    rintro e w6 ⟨rfl, hb⟩
    have B6 := Lib.hid (below_next HPl.out B5.out hb)
    clear hb
    go_wp2_with fail
    refine (H1.out _).mono ?_
    rintro e w7 ⟨rfl, hb⟩
    have B7 := Lib.hid (below_next HPl.out B6.out hb)
    clear hb
    go_wp2_with fail
    refine (H2.out _).mono ?_
    rintro e w8 ⟨rfl, hb⟩
    have B8 := Lib.hid (below_next HPl.out B7.out hb)
    clear hb
    go_wp2_with fail
    refine (H3.out _).mono ?_
    rintro e w9 ⟨rfl, hb⟩
    have B9 := Lib.hid (below_next HPl.out B8.out hb)
    clear hb
    have he := HE.out
    cases is with
    | true =>
      have hcm : (c == (m : Int)) = true := by simpa using HC.out rfl
      have he2 : q.toList.isEmpty = false := he
      clear he
      go_wp2
      go_ret
      exact ⟨rfl, B9.out⟩
    | false =>
      have he2 : q.toList.isEmpty = true := he
      clear he
      go_wp2
      go_ret
      exact ⟨rfl, B9.out⟩
  rcases hcase with ⟨h1, h2⟩ | ⟨h1, h2⟩
  · refine tail 0 false (fun h => by cases h) (by rw [h2]; rfl) fun w' h => ?_
    have := HO3.out w' h
    rw [if_pos h1] at this; exact this
  · refine tail m true (fun _ => rfl) (by rw [h2]; rfl) fun w' h => ?_
    have := HO3.out w' h
    rw [if_neg h1] at this; exact this
theorem opsTells_law (x : Int) (hx : (Lit.int .u8 x).wf = true) (s : ByteArray) (hs : s.size ≤ maxLen) (w : World) (hL : laidMet Tryd.prog Rows.opsTellsRow.laid w) : Calls Tryd.prog 8 #[.int .u8 x, .string s] w fun e w' => e = .returned (.bool true) ∧ Below w.heap.size w w' := by
  obtain ⟨h0, h1⟩ := wf_u8 hx
  obtain ⟨m, rfl⟩ := Int.eq_ofNat_of_zero_le h0
  exact opsTells_walk m (by omega) s (by unfold maxLen at hs; exact hs) w (tab_of_laid hL)
end Go.Proofs.YtaoacfkifcglfaaDoor
