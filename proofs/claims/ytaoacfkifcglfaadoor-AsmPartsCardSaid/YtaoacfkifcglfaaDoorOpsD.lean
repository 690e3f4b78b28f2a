/-
  Contract of ops.plain.
-/
import Derived.Test.YtaoacfkifcglfaaDoorOpsC
namespace Go.Proofs.YtaoacfkifcglfaaDoor
open Go.RowKit Go.Mun
set_option maxRecDepth 100000 in
set_option maxHeartbeats 8000000 in
theorem ops_plain (x : Int) (w : World) : Calls Tryd.prog 66 #[.int .u8 x] w fun e w' => e = .returned (costV (plainL x)) ∧ Below w.heap.size w w' := by
  obtain ⟨a, b, c, ok, hf⟩ := costV_form (highL x)
  have HH : Hid (∀ w, Calls Tryd.prog 76 #[.int .u8 x] w fun e w' => e = .returned (.tuple #[.agg #[.int .i64 a, .int .i64 b, .int .i64 c], .bool ok]) ∧ Below w.heap.size w w') := Lib.hid fun w => by
    have := ops_high x w
    rw [hf] at this; exact this
  have HF := Lib.hid hf
  obtain ⟨o, ho⟩ : ∃ o, o = costV (plainL x) := ⟨_, rfl⟩
  rw [← ho]
  have HO := Lib.hid ho
  clear ho hf
  go_enter Tryd.func66, Tryd.ntmps66
  go_wp2_with (go_at_call 76; refine (HH.out _).mono ?_; rintro e w1 ⟨rfl, hb⟩; obtain ⟨hc, hfz⟩ := bcell hb; have hz : w.heap.size < w1.heap.size := (by have := hb.size; simp at this; omega); have HB := Lib.hid (show Below w.heap.size w w1 from ((Below.refl _ _).alloc (Nat.le_refl _) _).trans (hb.mono (by simp))); clear hb)
  all_goals
    have hq := HO.out
    unfold plainL at hq
    simp only [*, Bool.false_eq_true, if_false, if_true, HF.out] at hq
    subst hq
    refine bodyPost_ret ?_ rfl ⟨rfl, ?_⟩
    · first | (simp [results, Tryd.results66, go_sem, costV]; done) | simp [results, Tryd.results66, go_sem, hc]
    · first | exact (Below.refl _ _).alloc (Nat.le_refl _) _ | exact ((HB.out.setCell (Nat.le_refl _) _).setCell (Nat.le_refl _) _).setCell (Nat.le_refl _) _
end Go.Proofs.YtaoacfkifcglfaaDoor
