/-
  Contracts of the walks that the law GenNext needs: gen.New, (*gen.Lot).Next, their twins of the reference, and the law's own example; for every input, without a condition.
-/
import Derived.Test.YtaoacfkifcglfaaRows
import Derived.WalkKit
import Derived.WalkSpells
import Derived.WalkLawsBesides
import Derived.Deep.RegionWith
namespace Go.Proofs.Ytaoacfkifcglfaa
open Go.RowKit

def lotS (s : Int) : Int := bits .and .i64 (wrap64 (wrap64 (s * 1664525) + 1013904223)) 4294967295
def lotM (s : Int) : Int := bits .and .i64 s 4294967295
def lotV (s n : Int) : Int := if n < 1 then 0 else (s / 256).tmod n

theorem ret_int {k : IntKind} {a b : Int} (h : a = b) : Ending.returned (.int k a) = .returned (.int k b) := by rw [h]
theorem lot_next (a : Addr) (s n : Int) (w : World) (hc : w.cell? a = some (.int .i64 s)) (hf : w.frozen? a = false) :
    Calls Try.prog 10 #[.pointer (some a), .int .i64 n] w fun e w' => e = .returned (.int .i64 (lotV (lotS s) n)) ∧ w.setCell a (.int .i64 (lotS s)) = w' := by
  have H : Hid (lotS s = bits .and .i64 (wrap64 (wrap64 (s * 1664525) + 1013904223)) 4294967295) := rfl
  go_enter Try.func10, Try.ntmps10
  go_wp2
  · go_ret
    exact ⟨ret_int (by unfold lotV; rw [if_pos (by assumption)]), by rw [H.out]⟩
  · go_ret
    exact ⟨ret_int (by unfold lotV; rw [if_neg (by omega)]; rfl), by rw [H.out]⟩
theorem ref_next (a : Addr) (s n : Int) (w : World) (hc : w.cell? a = some (.int .i64 s)) (hf : w.frozen? a = false) :
    Calls Try.prog 11 #[.pointer (some a), .int .i64 n] w fun e w' => e = .returned (.int .i64 (lotV (lotS s) n)) ∧ w.setCell a (.int .i64 (lotS s)) = w' := by
  have H : Hid (lotS s = bits .and .i64 (wrap64 (wrap64 (s * 1664525) + 1013904223)) 4294967295) := rfl
  go_enter Try.func11, Try.ntmps11
  go_wp2
  · go_ret
    exact ⟨ret_int (by unfold lotV; rw [if_pos (by assumption)]), by rw [H.out]⟩
  · go_ret
    exact ⟨ret_int (by unfold lotV; rw [if_neg (by omega)]; rfl), by rw [H.out]⟩
theorem lot_new (s : Int) (w : World) :
    Calls Try.prog 8 #[.int .i64 s] w fun e w' => e = .returned (.pointer (some ⟨w.heap.size, 0, none⟩)) ∧ w.alloc (.cells #[.int .i64 (lotM s)] 40) = w' := by
  have H : Hid (lotM s = bits .and .i64 s 4294967295) := rfl
  go_enter Try.func8, Try.ntmps8
  go_wp2
  go_ret
  exact ⟨rfl, by rw [H.out]⟩
theorem ref_new (s : Int) (w : World) :
    Calls Try.prog 9 #[.int .i64 s] w fun e w' => e = .returned (.pointer (some ⟨w.heap.size, 0, none⟩)) ∧ w.alloc (.cells #[.int .i64 (lotM s)] 42) = w' := by
  have H : Hid (lotM s = bits .and .i64 s 4294967295) := rfl
  go_enter Try.func9, Try.ntmps9
  go_wp2
  go_ret
  exact ⟨rfl, by rw [H.out]⟩
theorem alive_any (w : World) :
    Calls Try.prog 7 #[] w fun e w' => e = .returned (.bool true) ∧ Below w.heap.size w w' := by
  have H : Hid (lotV (lotS (lotM 0)) 256 = 243) := by unfold Hid; decide +kernel
  go_enter Try.func7, Try.ntmps7
  go_wp2_with fail
  refine (lot_new _ _).mono ?_
  rintro e w' ⟨rfl, rfl⟩
  go_wp2_with fail
  refine (lot_next _ (lotM 0) _ _ (by simp [go_sem]) (by simp [go_sem])).mono ?_
  rintro e w' ⟨rfl, rfl⟩
  rw [H.out]
  go_wp2_with fail
  go_ret
  exact ⟨rfl, (Below.refl _ _).alloc (Nat.le_refl _) _⟩
end Go.Proofs.Ytaoacfkifcglfaa
