/-
  Contracts of hex.Short and its twin of the reference: a word's text without noughts ahead.
-/
import Derived.Test.YtaoacfkifcglfaaDoorHexR
import Derived.Test.YtaoacfkifcglfaaDoorShelf
namespace Go.Mun
open Go.RowKit

theorem run_newRow {P : Program} (w : World) (t : TypeId) (L : Array Value) : (newRow t L).run P w = .ok ⟨w.heap.size, 0, none⟩ (w.alloc (.cells L t)) := by
  rfl
theorem ex_box {P : Program} (ρ : Operand → Value) (dst : Option Tmp) (x : Operand) (t : TypeId) (pos : String) (after : Array Edge) (gd : Option (Nat × Bool)) (w : World) (ty : TypeId) :
    (execOp ρ ⟨dst, .box ty x, t, pos, after, gd⟩).run P w = .ok (.value (.pointer (some ⟨w.heap.size, 0, none⟩))) (w.alloc (.cells (ρ x).cells ty)) := by
  unfold execOp
  rfl
theorem cells_agg (L : Array Value) : (Value.agg L).cells = L := rfl

theorem strOf_size (l : List Int) : (strOf l).size = l.length := by simp [strOf, ByteArray.size]
theorem strOf_data (l : List Int) : (strOf l).data.toList = l.map fun n => UInt8.ofNat n.toNat := by simp [strOf]
theorem strOf_drop (l : List Int) (i : Nat) : (strOf l).extract i (strOf l).size = strOf (l.drop i) := by
  rw [strOf_size]
  apply ByteArray.ext
  simp [strOf, ByteArray.data_extract, List.map_drop]
  rw [List.take_of_length_le (by simp)]
theorem strOf_append (l m : List Int) : strOf l ++ strOf m = strOf (l ++ m) := by
  apply ByteArray.ext
  simp [strOf]
end Go.Mun

namespace Go.Proofs.YtaoacfkifcglfaaDoor
open Go.RowKit Go.Mun
attribute [local irreducible] be beC zU8

def coreL (L : List Int) : List Int := (digT L).dropWhile (· == 48)
def shortL (L : List Int) : List Int := [48, 120] ++ if coreL L = [] then [48] else coreL L
theorem dig_range {d : Int} (h0 : 0 ≤ d) (h1 : d ≤ 15) : 48 ≤ dig d ∧ dig d ≤ 102 := by
  unfold dig; split <;> omega
theorem digT_range (L : List Int) (h : ∀ x ∈ L, 0 ≤ x ∧ x ≤ 255) : ∀ y ∈ digT L, 48 ≤ y ∧ y ≤ 102 := by
  intro y hy
  unfold digT at hy
  rw [List.mem_flatMap] at hy
  obtain ⟨x, hx, hy⟩ := hy
  have := h x hx
  simp at hy
  rcases hy with rfl | rfl
  · exact dig_range (by omega) (by omega)
  · exact dig_range (by omega) (by omega)
theorem textL_drop (L : List Int) : (strOf (textL L)).extract 2 (strOf (textL L)).size = strOf (digT L) := strOf_drop _ 2
theorem trim_str (l : List Int) (h : ∀ y ∈ l, 48 ≤ y ∧ y ≤ 102) : Lib.trimLeftB (strOf l).data.toList 48 = (l.dropWhile (· == 48)).map fun n => UInt8.ofNat n.toNat := by
  rw [strOf_data]
  unfold Lib.trimLeftB
  induction l with
  | nil => rfl
  | cons y l ih =>
    have hy := h y (by simp)
    rw [List.map_cons, List.dropWhile_cons, List.dropWhile_cons]
    have e : (UInt8.ofNat y.toNat == 48) = (y == 48) := by
      obtain ⟨n, rfl⟩ := Int.eq_ofNat_of_zero_le (show 0 ≤ y by omega)
      rw [Bool.eq_iff_iff]
      simp only [beq_iff_eq, Int.toNat_natCast, ← UInt8.toNat_inj, UInt8.toNat_ofNat']
      simp
      omega
    rw [e]
    split
    · exact ih (fun z hz => h z (by simp [hz]))
    · rfl

theorem hex_text' (a : Option Addr) (n cap : Nat) (l : List Int) (hn : n = l.length) (w : World) (hi : Ints w .u8 a cap l) (hb : ∀ x ∈ l, 0 ≤ x ∧ x ≤ 255) (hlen : l.length ≤ 1099511627776) :
    Calls Tryd.prog 23 #[.slice a n cap] w fun e w' => e = .returned (.string (strOf (textL l))) ∧ Below w.heap.size w w' := by
  subst hn
  exact hex_text a cap l w hi (fun i h => by rw [List.getElem?_eq_getElem h]; exact hb _ (List.getElem_mem _)) hlen
theorem ref_text' (a : Option Addr) (n cap : Nat) (l : List Int) (hn : n = l.length) (w : World) (hi : Ints w .u8 a cap l) (hb : ∀ x ∈ l, 0 ≤ x ∧ x ≤ 255) (hlen : l.length ≤ 1099511627776) :
    Calls Tryd.prog 24 #[.slice a n cap] w fun e w' => e = .returned (.string (strOf (textL l))) ∧ Below w.heap.size w w' := by
  subst hn
  exact ref_text a cap l w hi (fun i h => by rw [List.getElem?_eq_getElem h]; exact hb _ (List.getElem_mem _)) hlen

theorem hex_trim (L : List Int) (h : ∀ x ∈ L, 0 ≤ x ∧ x ≤ 255) (w : World) :
    Calls Tryd.prog 40 #[.string ((strOf (textL L)).extract 2 (strOf (textL L)).size), .string ⟨#[48]⟩] w fun e w' => e = .returned (.string (strOf (coreL L))) ∧ w' = w := by
  rw [textL_drop]
  have := Tryd.strings_TrimLeft_one (strOf (digT L)) 48 (by decide) w
  rw [trim_str _ (digT_range L h)] at this
  exact this
theorem coreL_len (L : List Int) : (coreL L).length ≤ 2 * L.length := by
  rw [← digT_len]; exact (List.dropWhile_sublist _).length_le
theorem strOf_nil_iff (l : List Int) : (strOf l = ⟨#[]⟩) ↔ l = [] := by
  constructor
  · intro h
    have := congrArg ByteArray.size h
    rw [strOf_size] at this
    exact List.eq_nil_of_length_eq_zero this
  · rintro rfl; rfl

set_option maxRecDepth 10000 in
set_option maxHeartbeats 400000 in
theorem hex_short (L : List Int) (hl : L.length = 32) (hb : ∀ x ∈ L, 0 ≤ x ∧ x ≤ 255) (w : World) :
    Calls Tryd.prog 14 #[.agg (u8L L).toArray] w fun e w' => e = .returned (.string (strOf (shortL L))) ∧ Below w.heap.size w w' := by
  have HB := Lib.hid hb
  have HL := Lib.hid hl
  clear hb hl
  have bx := fun (ρ : Operand → Value) (dst : Option Tmp) (x : Operand) (t : TypeId) (pos : String) (after : Array Edge) (gd : Option (Nat × Bool)) (w : World) => ex_box (P := Tryd.prog) ρ dst x t pos after gd w 25
  have ca := fun (L : Array Value) => cells_agg L
  go_enter Tryd.func14, Tryd.ntmps14
  have HI := Lib.hid (Ints.new w .u8 L 25 (by rw [HL.out]; unfold maxLen; omega))
  have HT := Lib.hid (textL_drop L)
  go_wp2_with fail
  refine (hex_text' (some ⟨w.heap.size, 0, none⟩) 32 32 L HL.out.symm _ (by have := HI.out; rw [HL.out] at this; exact this) HB.out (by rw [HL.out]; decide)).mono ?_
  rintro e w1 ⟨rfl, hb⟩
  have hB := Lib.hid hb
  clear hb
  have sz : 2 ≤ (strOf (textL L)).size := by rw [strOf_size]; simp [textL]
  go_wp2_with fail
  refine (hex_trim L HB.out _).mono ?_
  rintro e w2 ⟨rfl, rfl⟩
  by_cases hc : coreL L = []
  · have hs := (strOf_nil_iff _).2 hc
    have hk := Lib.hid (show shortL L = [48, 120, 48] by unfold shortL; rw [if_pos hc]; rfl)
    clear hc
    go_wp2
    go_ret
    exact ⟨by rw [hk.out]; rfl, ((Below.refl _ _).alloc (Nat.le_refl _) _).trans (hB.out.mono (by simp))⟩
  · have hs : (strOf (coreL L)).toList.isEmpty = false := by
      rw [ByteArray.toList_eq, strOf_data]
      cases h : coreL L with
      | nil => exact absurd h hc
      | cons _ _ => rfl
    have hsz : (strOf (coreL L)).size ≤ 64 := by rw [strOf_size]; have := coreL_len L; rw [HL.out] at this; exact this
    have hk := Lib.hid (show strOf [48, 120] ++ strOf (coreL L) = strOf (shortL L) by rw [strOf_append]; unfold shortL; rw [if_neg hc])
    clear hc
    go_wp2
    go_ret
    exact ⟨by rw [← hk.out]; rfl, ((Below.refl _ _).alloc (Nat.le_refl _) _).trans (hB.out.mono (by simp))⟩
end Go.Proofs.YtaoacfkifcglfaaDoor
