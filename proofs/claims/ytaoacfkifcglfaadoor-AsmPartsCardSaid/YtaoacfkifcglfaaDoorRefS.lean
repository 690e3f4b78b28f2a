/-
  Contracts of the reference's Short and digit.
-/
import Derived.Test.YtaoacfkifcglfaaDoorHexA
import Derived.Outline
namespace Go.Mun
open Go.RowKit
theorem strOf_get (l : List Int) (i : Nat) (h : i < l.length) (h' : i < (strOf l).size) : ((strOf l)[i]'h') = UInt8.ofNat (l[i]).toNat := by
  show (strOf l).data[i] = _
  simp [strOf]
theorem run_index_strOf {P : Program} {t : TypeId} (hu : P.underlying t = some .string) (l : List Int) (k : IntKind) (i : Nat) (x : Int) (hi : l[i]? = some x) (h0 : 0 ≤ x) (h1 : x ≤ 255) (w : World) :
    (Instr.index t (.string (strOf l)) (.int k (i : Int))).run P w = .ok (.int .u8 x) w := by
  obtain ⟨h, hx⟩ := List.getElem?_eq_some_iff.1 hi
  rw [run_index_string w t _ _ _ hu, dif_pos ⟨by omega, by rw [strOf_size]; omega⟩]
  congr 2
  have e : (strOf l)[((i : Int)).toNat]'(by rw [strOf_size]; simpa using h) = UInt8.ofNat (l[i]).toNat := by
    simp only [Int.toNat_natCast]
    exact strOf_get l i h _
  rw [e, hx]
  simp
  omega
theorem run_slice_strOf {P : Program} {t : TypeId} (hu : P.underlying t = some .string) (l : List Int) (k : IntKind) (i : Nat) (h : i ≤ l.length) (w : World) :
    (Instr.slice t (.string (strOf l)) (some (.int k (i : Int))) none none).run P w = .ok (.string (strOf (l.drop i))) w := by
  rw [run_slice_string_l (ht := hu) (kl := k) (l := (i : Int)) (h0 := by omega) (h1 := by rw [strOf_size]; omega)]
  simp only [Int.toNat_natCast]
  rw [strOf_drop]
end Go.Mun
namespace Go.Proofs.YtaoacfkifcglfaaDoor
open Go.RowKit Go.Mun
attribute [local irreducible] be beC zU8
attribute [local go_sem] strOf_size

def shortC (l : List Int) : List Int := if l.dropWhile (· == 48) = [] then [48] else l.dropWhile (· == 48)
theorem shortL_C (L : List Int) : shortL L = [48, 120] ++ shortC (digT L) := rfl
theorem shortC_step (x : Int) (l : List Int) (h : x = 48) : shortC (x :: l) = shortC l := by
  subst h
  unfold shortC
  rw [List.dropWhile_cons]
  rfl
theorem shortC_end (l : List Int) (x : Int) (r : List Int) (h : l = x :: r) (hx : x ≠ 48 ∨ r = []) : shortC l = l := by
  subst h
  unfold shortC
  rw [List.dropWhile_cons]
  by_cases h48 : x = 48
  · subst h48
    rcases hx with hx | rfl
    · exact absurd rfl hx
    · rfl
  · have : (x == 48) = false := by simpa using h48
    rw [this]
    simp

set_option maxRecDepth 10000 in
set_option maxHeartbeats 400000 in
theorem ref_short (L : List Int) (hl : L.length = 32) (hb : ∀ x ∈ L, 0 ≤ x ∧ x ≤ 255) (w : World) :
    Calls Tryd.prog 25 #[.agg (u8L L).toArray] w fun e w' => e = .returned (.string (strOf (shortL L))) ∧ Below w.heap.size w w' := by
  have HB := Lib.hid hb
  have HL := Lib.hid hl
  clear hb hl
  have bx := fun (ρ : Operand → Value) (dst : Option Tmp) (x : Operand) (t : TypeId) (pos : String) (after : Array Edge) (gd : Option (Nat × Bool)) (w : World) => ex_box (P := Tryd.prog) ρ dst x t pos after gd w 25
  have ca := fun (L : Array Value) => cells_agg L
  go_enter Tryd.func25, Tryd.ntmps25
  have HI := Lib.hid (Ints.new w .u8 L 25 (by rw [HL.out]; unfold maxLen; omega))
  have HT := Lib.hid (textL_drop L)
  go_wp2_with fail
  refine (ref_text' (some ⟨w.heap.size, 0, none⟩) 32 32 L HL.out.symm _ (by have := HI.out; rw [HL.out] at this; exact this) HB.out (by rw [HL.out]; decide)).mono ?_
  rintro e w1 ⟨rfl, hb⟩
  have hB := Lib.hid (show Below w.heap.size w w1 from ((Below.refl _ _).alloc (Nat.le_refl _) _).trans (hb.mono (by simp)))
  clear hb bx ca
  have hs : ∀ wx, (Instr.slice 9 (.string (strOf (textL L))) (some (.int .i64 2)) none none).run Tryd.prog wx = .ok (.string (strOf (digT L))) wx := fun wx => run_slice_strOf (P := Tryd.prog) Tryd.underlying9 (textL L) .i64 2 (by simp [textL]) wx
  go_wp2
  clear hs
  go_loop [3] (fun s => ∃ l : List Int, s = .string (strOf l) ∧ 1 ≤ l.length ∧ l.length ≤ 64 ∧ Hid (shortC l = shortC (digT L)) ∧ Hid (∀ y ∈ l, 48 ≤ y ∧ y ≤ 102)) (fun s => match s with | .string b => b.size | _ => 0)
  case atStart =>
    refine ⟨digT L, rfl, ?_, ?_, Lib.hid rfl, Lib.hid (digT_range L HB.out)⟩
    · rw [digT_len, HL.out]; decide
    · rw [digT_len, HL.out]; decide
  case round =>
    obtain ⟨l, rfl, h1, h64, HC, HG⟩ := hrel
    match l, h1 with
    | x :: r, h1 =>
      have hx := HG.out x (by simp)
      have hx0 := hx.1
      have hx1 := hx.2
      have hix : ∀ wx, (Instr.index 9 (.string (strOf (x :: r))) (.int .i64 0)).run Tryd.prog wx = .ok (.int .u8 x) wx := fun wx => run_index_strOf (P := Tryd.prog) Tryd.underlying9 (x :: r) .i64 0 x rfl (by omega) (by omega) wx
      have hsl : ∀ wx, (Instr.slice 9 (.string (strOf (x :: r))) (some (.int .i64 1)) none none).run Tryd.prog wx = .ok (.string (strOf r)) wx := fun wx => run_slice_strOf (P := Tryd.prog) Tryd.underlying9 (x :: r) .i64 1 (by simp) wx
      obtain ⟨n, hn⟩ : ∃ n, n = (x :: r).length := ⟨_, rfl⟩
      obtain ⟨st, hst⟩ : ∃ st, st = strOf (x :: r) := ⟨_, rfl⟩
      have hsz : st.size = n := by rw [hst, hn, strOf_size]
      rw [← hst] at hix hsl ⊢
      rw [← hn] at h1 h64
      have HS := Lib.hid hst
      by_cases hgo : 1 < n ∧ x = 48
      · obtain ⟨hn1, rfl⟩ := hgo
        have c1 : decide (1 < (n : Int)) = true := by simp; omega
        have HN := Lib.hid hn
        clear hst hn hx
        go_wp2
        go_round
        case rel =>
          have := HN.out
          simp at this
          exact ⟨r, rfl, by omega, by omega, Lib.hid (by rw [← HC.out, shortC_step _ _ rfl]), Lib.hid fun y hy => HG.out y (by simp [hy])⟩
        case measure => simp [HS.out, strOf_size]
      · have HE := Lib.hid (shortC_end (x :: r) x r rfl (by
          by_cases h48 : x = 48
          · exact .inr (List.eq_nil_of_length_eq_zero (by simp at hn; omega))
          · exact .inl h48))
        have HX := Lib.hid hgo
        have HN := Lib.hid hn
        have hfin := Lib.hid (show strOf [48, 120] ++ st = strOf (shortL L) by rw [hst, strOf_append, shortL_C, ← HC.out, HE.out])
        clear hst hn hx
        by_cases h48 : x = 48
        · have c1 : decide (1 < (n : Int)) = false := by have := HX.out; simp; omega
          subst h48
          clear hgo
          go_wp2
          go_ret
          exact ⟨by rw [← hfin.out]; rfl, hB.out⟩
        · have cx : (x == 48) = false := by simpa using h48
          clear hgo h48
          by_cases hn1 : 1 < n
          · have c1 : decide (1 < (n : Int)) = true := by simp; omega
            go_wp2
            go_ret
            exact ⟨by rw [← hfin.out]; rfl, hB.out⟩
          · have c1 : decide (1 < (n : Int)) = false := by simp; omega
            go_wp2
            go_ret
            exact ⟨by rw [← hfin.out]; rfl, hB.out⟩
end Go.Proofs.YtaoacfkifcglfaaDoor
