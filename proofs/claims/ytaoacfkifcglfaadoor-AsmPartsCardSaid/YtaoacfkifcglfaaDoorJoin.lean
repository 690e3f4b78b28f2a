/-
  The contract of hex.join: the bytes of an even number of digits.
-/
import Derived.Test.YtaoacfkifcglfaaDoorHalf
namespace Go.Proofs.YtaoacfkifcglfaaDoor
open Go.RowKit Go.Mun
attribute [local irreducible] be beC zU8

def joinL : List Int → List Int
  | x :: y :: r => (16 * x + y) :: joinL r
  | _ => []
theorem joinL_len : ∀ (m : Nat) (h : List Int), h.length = 2 * m → (joinL h).length = m
  | 0, [], _ => rfl
  | m + 1, x :: y :: r, e => by simp [joinL]; exact joinL_len m r (by simp at e; omega)
  | 0, _ :: _, e => by simp at e
  | m + 1, [], e => by simp at e
  | m + 1, [_], e => by simp at e; omega
theorem joinL_at : ∀ (m : Nat) (h : List Int) (k : Nat), h.length = 2 * m → k < m → (joinL h)[k]?.getD 0 = 16 * (h[2 * k]?.getD 0) + h[2 * k + 1]?.getD 0
  | m + 1, x :: y :: r, 0, e, _ => by simp [joinL]
  | m + 1, x :: y :: r, k + 1, e, hk => by
    have := joinL_at m r k (by simp at e; omega) (by omega)
    simp only [joinL, List.getElem?_cons_succ, this]
    rw [show 2 * (k + 1) = 2 * k + 1 + 1 by omega]
    simp only [List.getElem?_cons_succ]
  | 0, _, _, _, hk => by omega
  | m + 1, [], _, e, _ => by simp at e
  | m + 1, [_], _, e, _ => by simp at e; omega
theorem joinL_take (m : Nat) (h : List Int) (k : Nat) (e : h.length = 2 * m) (hk : k < m) : (joinL h).take (k + 1) = (joinL h).take k ++ [16 * (h[2 * k]?.getD 0) + h[2 * k + 1]?.getD 0] := by
  have hl : k < (joinL h).length := by rw [joinL_len m h e]; exact hk
  rw [List.take_succ_eq_append_getElem hl, ← joinL_at m h k e hk, List.getElem?_eq_getElem hl]
  rfl
theorem or_nib (x y : Int) (h0 : 0 ≤ x) (h1 : x ≤ 15) (h2 : 0 ≤ y) (h3 : y ≤ 15) : bits .or .u8 (x * 16) y = 16 * x + y := by
  obtain ⟨n, rfl⟩ := Int.eq_ofNat_of_zero_le h0
  obtain ⟨m, rfl⟩ := Int.eq_ofNat_of_zero_le h2
  have : ∀ n : Fin 16, ∀ m : Fin 16, bits .or .u8 (((n.1 : Nat) : Int) * 16) ((m.1 : Nat) : Int) = 16 * ((n.1 : Nat) : Int) + ((m.1 : Nat) : Int) := by decide
  exact this ⟨n, by omega⟩ ⟨m, by omega⟩

set_option maxRecDepth 10000 in
set_option maxHeartbeats 400000 in
theorem join (a : Option Addr) (n cap m : Nat) (l : List Int) (hn : n = l.length) (hm : l.length = 2 * m) (w : World) (hi : Ints w .u8 a cap l) (hb : ∀ i, i < l.length → 0 ≤ l[i]?.getD 0 ∧ l[i]?.getD 0 ≤ 15) (hlen : l.length ≤ 1099511627776) :
    Calls Tryd.prog 42 #[.slice a n cap] w fun e w' => (∃ v, e = .returned v ∧ w'.ownsRow w.heap.size 5 1 v m ((joinL l).map (Value.int .u8))) ∧ Below w.heap.size w w' := by
  have HM := Lib.hid hm
  have HB := Lib.hid hb
  have HI := Lib.hid hi
  have HL := Lib.hid hlen
  have HN := Lib.hid hn
  obtain rfl : n = 2 * m := by omega
  clear hb hi hlen hn hm
  go_enter Tryd.func42, Tryd.ntmps42
  go_wp2
  go_loopw [3, 4] (fun v i wr => ∃ k j : Nat, j = 2 * k ∧ k ≤ m ∧ i = .int .i64 (j : Int) ∧ wr.ownsRow w.heap.size 5 1 v k (((joinL l).take k).map (Value.int .u8)) ∧ Below w.heap.size w wr) (fun _ i _ => 2 * m - (intOf i).toNat)
  case atStart => exact ⟨0, 0, rfl, by omega, rfl, ⟨by simp, .inl ⟨rfl, rfl⟩⟩, Below.refl _ _⟩
  case round =>
    obtain ⟨k, j, hj, hk, rfl, hr, hbl⟩ := hrel
    by_cases hlt : k < m
    · have hm2 := HM.out
      have hl2 := HL.out
      obtain ⟨b, off, rfl, hb, hc⟩ := (HI.out.below hbl).at (i := 2 * k) (by omega)
      have hck := hc j (by omega)
      have hck1 := hc (j + 1) (by omega)
      have h0 := (HB.out j (by omega)).1
      have h1 := (HB.out j (by omega)).2
      have h2 := (HB.out (j + 1) (by omega)).1
      have h3 := (HB.out (j + 1) (by omega)).2
      have HD := Lib.hid (joinL_take m l k hm2 hlt)
      rw [← hj] at HD
      have hb40 : j + 1 ≤ 1099511627776 := by omega
      have hkb : k ≤ 1099511627776 := by omega
      clear hc hm2
      generalize l[j]?.getD 0 = x at *
      generalize l[j + 1]?.getD 0 = y at *
      have HR := Lib.hid hr
      clear hr
      have e3 := or_nib x y h0 h1 h2 h3
      have sr := hbl.size
      have ew : IntKind.i64.wrap ((j : Int) + 1) = ((j + 1 : Nat) : Int) := by rw [IntKind.wrap_i64]; omega
      have hjA : (0 : Int) ≤ (j : Int) + 1 := by omega
      have hjB : (j : Int) + 1 < 2 * (m : Int) := by omega
      have eu : IntKind.u8.wrap (x * 16) = x * 16 := by rw [IntKind.wrap_u8]; omega
      have HJ := Lib.hid hj
      clear hj
      go_wp2
      go_region_law (refine step_append_any (base := w.heap.size) (n := k) (xs := ((joinL l).take k).map (Value.int .u8)) (cs := [16 * x + y].map (Value.int .u8)) elem33 rfl _ _ rfl rfl rfl (.inl (ownsRow_below HR.out ((Below.refl _ _).alloc (Nat.le_refl _) _).drew)) (newrow_cells wr _ 5 (0, 0)) (by decide) (okL_ints .u8 _) (by unfold maxLen; omega) (by omega) (by simp; omega) ?_; intro v' w' ho hg)
      all_goals
        have ho2 : w'.ownsRow w.heap.size 5 1 v' (k + 1) (((joinL l).take (k + 1)).map (Value.int .u8)) := by
          rw [HD.out, List.map_append]
          exact ho
        have hb2 : Below w.heap.size w w' := (((hbl.alloc sr _).drew).grown hg (by simp; omega) (fun k hk => (HR.out.lt k hk).1))
        have HO := Lib.hid ho2
        clear ho ho2 hg
        go_wp2
        go_roundw
        case rel => exact ⟨k + 1, j + 2, by have := HJ.out; omega, by omega, by go_num, HO.out, hb2⟩
        case measure => simp [intOf]; omega
    · obtain rfl : k = m := by omega
      have e : (joinL l).take k = joinL l := List.take_of_length_le (by rw [joinL_len k l HM.out]; omega)
      rw [e] at hr
      have HR := Lib.hid hr
      clear hr e
      go_wp2
      go_ret
      exact ⟨⟨_, rfl, HR.out⟩, hbl⟩
end Go.Proofs.YtaoacfkifcglfaaDoor
