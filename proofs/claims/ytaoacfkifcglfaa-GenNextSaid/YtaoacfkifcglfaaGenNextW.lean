/-
  The walk of the law GenNext: it returns true and leaves old memory alone, for every seed and every slice of numbers.
-/
import Derived.Test.YtaoacfkifcglfaaLot
import Derived.Lib.Hide
import Derived.Deep.RegionHeld3
import Derived.Deep.DeepCutAuto
namespace Go.Proofs.Ytaoacfkifcglfaa
open Go.RowKit

theorem bcell {W w1 : World} (hb : Below W.heap.size W w1) : (∀ b o, b < W.heap.size → w1.cell? ⟨b, o, none⟩ = W.cell? ⟨b, o, none⟩) ∧ (∀ b o, b < W.heap.size → w1.frozen? ⟨b, o, none⟩ = W.frozen? ⟨b, o, none⟩) :=
  ⟨fun b o h => hb.cell (p := ⟨b, o, none⟩) h, fun b o h => hb.frozen (p := ⟨b, o, none⟩) h⟩


structure GN (w1 w : World) (b off len : Nat) (f : Nat → Int) (sl so : Int) (wr : World) : Prop where
  cells : ∀ k, k < len → wr.cell? ⟨b, off + k, none⟩ = some (.int .i64 (f k))
  below : Below w.heap.size w wr
  l : wr.cell? ⟨w1.heap.size, 0, none⟩ = some (.int .i64 sl)
  o : wr.cell? ⟨w1.heap.size + 1, 0, none⟩ = some (.int .i64 so)
  r : wr.cell? ⟨w1.heap.size + 2, 0, none⟩ = some (.int .i64 sl)
  lf : wr.frozen? ⟨w1.heap.size, 0, none⟩ = false
  of : wr.frozen? ⟨w1.heap.size + 1, 0, none⟩ = false
  rf : wr.frozen? ⟨w1.heap.size + 2, 0, none⟩ = false

theorem GN.step {w1 w : World} {b off len : Nat} {f : Nat → Int} {sl so sl' so' : Int} {wr : World} (h : GN w1 w b off len f sl so wr) (hs : w.heap.size ≤ w1.heap.size)
    (n0 : ¬ b = w1.heap.size) (n1 : ¬ b = w1.heap.size + 1) (n2 : ¬ b = w1.heap.size + 2) :
    GN w1 w b off len f sl' so' (((wr.setCell ⟨w1.heap.size + 1, 0, none⟩ (.int .i64 so')).setCell ⟨w1.heap.size, 0, none⟩ (.int .i64 sl')).setCell ⟨w1.heap.size + 1 + 1, 0, none⟩ (.int .i64 sl')).drew := by
  obtain ⟨h1, h2, h3, h4, h5, h6, h7, h8⟩ := h
  refine ⟨fun k hk => ?_, ?_, ?_, ?_, ?_, ?_, ?_, ?_⟩
  · have := h1 k hk
    simp [go_sem, *]
  · exact (((h2.setCell (by simp; omega) _).setCell hs _).setCell (by simp; omega) _).drew
  all_goals simp [go_sem, *]

set_option maxHeartbeats 400000 in
theorem gennext_some (seed : Int) (b off len cap : Nat) (f : Nat → Int) (w : World) (hb : b < w.heap.size) (hl : len ≤ 300)
    (hc : ∀ k, k < len → w.cell? ⟨b, off + k, none⟩ = some (.int .i64 (f k))) :
    Calls Try.prog 3 #[.int .i64 seed, .slice (some ⟨b, off, none⟩) len cap] w fun e w' => e = .returned (.bool true) ∧ Below w.heap.size w w' := by
  have HC := Lib.hid hc
  clear hc
  go_enter Try.func3, Try.ntmps3
  go_wp2_with fail
  refine (alive_any _).mono ?_
  rintro e w1 ⟨rfl, hb1⟩
  go_wp2_with fail
  refine (lot_new _ _).mono ?_
  rintro e w' ⟨rfl, rfl⟩
  go_wp2_with fail
  refine (lot_new _ _).mono ?_
  rintro e w' ⟨rfl, rfl⟩
  go_wp2_with fail
  refine (ref_new _ _).mono ?_
  rintro e w' ⟨rfl, rfl⟩
  go_wp2_with fail
  go_loopw [9] (fun i wr => ∃ (k : Nat) (sl so : Int), k ≤ len ∧ i = .int .i64 k ∧ GN w1 w b off len f sl so wr) (fun i _ => len - (intOf i).toNat)
  case atStart =>
    have hs1 := hb1.size
    refine ⟨0, lotM seed, lotM (wrap64 (seed + 1)), Nat.zero_le _, rfl, ?_, ?_, ?_, ?_, ?_, ?_, ?_, ?_⟩
    · intro k hk
      rw [← HC.out k hk]
      exact (((hb1.alloc hs1 _).alloc (by simp; omega) _).alloc (by simp; omega) _).cell (p := ⟨b, off + k, none⟩) hb
    · exact (((hb1.alloc hs1 _).alloc (by simp; omega) _).alloc (by simp; omega) _)
    all_goals simp [go_sem]; done
  case round =>
    obtain ⟨k, sl, so, hk, rfl, hg⟩ := hrel
    by_cases hlt : k < len
    · have hck := hg.cells k hlt
      have hs1 := hb1.size
      have n0 : ¬ b = w1.heap.size := by omega
      have n1 : ¬ b = w1.heap.size + 1 := by omega
      have n2 : ¬ b = w1.heap.size + 2 := by omega
      have HG := Lib.hid hg
      obtain ⟨_, _, g1, g2, g3, g4, g5, g6⟩ := hg
      go_wp2_with (go_at_call 10; refine (lot_next _ so _ _ g2 g5).mono ?_; rintro e w' ⟨rfl, rfl⟩)
      go_region_held3 (fun w' => w'.cell? ⟨b, off + k, none⟩ = some (.int .i64 (f k))) (simp [go_sem, *])
        (first | (go_at_call 10; refine (lot_next _ sl _ _ ?_ ?_).mono ?_; simp [go_sem, *]; simp [go_sem, *]; rintro e w' ⟨rfl, rfl⟩) | (go_at_call 11; refine (ref_next _ sl _ _ ?_ ?_).mono ?_; simp [go_sem, *]; simp [go_sem, *]; rintro e w' ⟨rfl, rfl⟩))
      go_wp2
      go_roundw
      case rel =>
        exact ⟨k + 1, lotS sl, lotS so, by omega, by go_num, GN.step HG.out hb1.size n0 n1 n2⟩
      case measure => simp [intOf]; omega
    · go_wp2
      go_ret
      exact ⟨rfl, hg.below⟩

theorem gennext_nil (seed : Int) (sa : Option Addr) (cap : Nat) (w : World) :
    Calls Try.prog 3 #[.int .i64 seed, .slice sa 0 cap] w fun e w' => e = .returned (.bool true) ∧ Below w.heap.size w w' := by
  go_enter Try.func3, Try.ntmps3
  go_wp2_with fail
  refine (alive_any _).mono ?_
  rintro e w1 ⟨rfl, hb1⟩
  go_wp2_with fail
  refine (lot_new _ _).mono ?_
  rintro e w' ⟨rfl, rfl⟩
  go_wp2_with fail
  refine (lot_new _ _).mono ?_
  rintro e w' ⟨rfl, rfl⟩
  go_wp2_with fail
  refine (ref_new _ _).mono ?_
  rintro e w' ⟨rfl, rfl⟩
  go_wp2_with fail
  refine wp_loop_once ?_
  go_wp2
  go_ret
  exact ⟨rfl, ((hb1.alloc hb1.size _).alloc (by have := hb1.size; simp; omega) _).alloc (by have := hb1.size; simp; omega) _⟩

theorem gennext_long (seed : Int) (sa : Option Addr) (len cap : Nat) (w : World) (hl : 300 < len) (hm : len ≤ 9223372036854775807) :
    Calls Try.prog 3 #[.int .i64 seed, .slice sa len cap] w fun e w' => e = .returned (.bool true) ∧ Below w.heap.size w w' := by
  go_enter Try.func3, Try.ntmps3
  go_wp2_with fail
  refine (alive_any _).mono ?_
  rintro e w1 ⟨rfl, hb1⟩
  go_wp2_with fail
  go_ret
  exact ⟨rfl, hb1⟩
end Go.Proofs.Ytaoacfkifcglfaa
