/-
  The reference's text of any bytes.
-/
import Derived.Test.YtaoacfkifcglfaaDoorHexT
namespace Go.Proofs.YtaoacfkifcglfaaDoor
open Go.RowKit Go.Mun
attribute [local irreducible] be beC zU8

set_option maxRecDepth 10000 in
set_option maxHeartbeats 400000 in
theorem ref_text (a : Option Addr) (cap : Nat) (l : List Int) (w : World) (hi : Ints w .u8 a cap l) (hb : ∀ i, i < l.length → 0 ≤ l[i]?.getD 0 ∧ l[i]?.getD 0 ≤ 255) (hlen : l.length ≤ 1099511627776) :
    Calls Tryd.prog 24 #[.slice a l.length cap] w fun e w' => e = .returned (.string (strOf (textL l))) ∧ Below w.heap.size w w' := by
  have HB := Lib.hid hb
  have HI := Lib.hid hi
  clear hb hi
  have kc := fun (w : World) (C : Array Value) (n c : Nat) => Lib.run_convert_bytes_const (P := Tryd.prog) w 33 5 C n c Tryd.underlying33 Tryd.underlying5
  go_enter Tryd.func24, Tryd.ntmps24
  go_wp2
  clear kc
  go_loopw [3, 4] (fun v i wr => ∃ k : Nat, k ≤ l.length ∧ i = .int .i64 k ∧ RowOr wr w.heap.size 5 1 v (2 + 2 * k) (([48, 120] ++ digT (l.take k)).map (Value.int .u8)) ∧ Below w.heap.size w wr) (fun _ i _ => l.length - (intOf i).toNat)
  case atStart =>
    refine ⟨0, by omega, rfl, .inr ⟨w.heap.size, rfl, Nat.le_refl _, by simp, rfl, fun j u hj => ?_⟩, (Below.refl _ _).alloc (Nat.le_refl _) _⟩
    rw [cell_of_row _ w.heap.size j _ 5 _ (heap_alloc_new w _)]
    simpa [digT] using hj
  case round =>
    obtain ⟨k, hk, rfl, hr, hbl⟩ := hrel
    by_cases hlt : k < l.length
    · obtain ⟨b, off, rfl, hb, hc⟩ := (HI.out.below hbl).at hlt
      have hck := hc k hlt
      have h0 := (HB.out k hlt).1
      have h1 := (HB.out k hlt).2
      have HD := Lib.hid (digT_snoc l k hlt)
      clear hc
      generalize l[k]?.getD 0 = x at *
      have HR := Lib.hid hr
      clear hr
      have e1 := fun wx => index_dig (x / 16) (by omega) (by omega) wx
      have e2 := fun wx => index_dig (x % 16) (by omega) (by omega) wx
      have e3 := and_u8_15 x
      have sr := hbl.size
      go_wp2
      go_region_law (refine step_append_any (base := w.heap.size) (n := 2 + 2 * k) (xs := ([48, 120] ++ digT (l.take k)).map (Value.int .u8)) (cs := [dig (x / 16), dig (x % 16)].map (Value.int .u8)) elem33 rfl _ _ rfl rfl rfl (HR.out.below ((Below.refl _ _).alloc (Nat.le_refl _) _).drew) (newrow_cells wr _ 5 (0, 0)) (by decide) (okL_ints .u8 _) (by unfold maxLen; omega) (by omega) (by simp; omega) ?_; intro v' w' ho hg)
      all_goals
        have ho2 : w'.ownsRow w.heap.size 5 1 v' (2 + 2 * (k + 1)) (([48, 120] ++ digT (l.take (k + 1))).map (Value.int .u8)) := by
          rw [HD.out, ← List.append_assoc, List.map_append]
          exact ho
        have hb2 : Below w.heap.size w w' := (((hbl.alloc sr _).drew).grown hg (by simp; omega) HR.out.lt)
        have HO := Lib.hid ho2
        clear ho ho2 hg
        go_wp2
        go_roundw
        case rel => exact ⟨k + 1, by omega, by go_num, .inl HO.out, hb2⟩
        case measure => simp [intOf]; omega
    · obtain rfl : k = l.length := by omega
      obtain ⟨a1, c1, rfl, hn1, hI1⟩ := RowOr.ints (hr) (by unfold maxLen; omega)
      have hc := run_bytes_string' (P := Tryd.prog) Tryd.underlying33 Tryd.underlying5 Tryd.underlying9 hn1 hI1
      rw [List.take_length] at hc
      clear hn1 hI1 hr
      go_wp2
      go_ret
      exact ⟨rfl, hbl⟩
end Go.Proofs.YtaoacfkifcglfaaDoor
