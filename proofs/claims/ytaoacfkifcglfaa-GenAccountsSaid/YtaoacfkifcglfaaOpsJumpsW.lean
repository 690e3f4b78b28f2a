/-
  The walk of the law OpsJumps: it returns true and leaves old memory alone, for every slice of bytes.
-/
import Derived.Test.YtaoacfkifcglfaaJumps
namespace Go.Proofs.Ytaoacfkifcglfaa
open Go.RowKit Go.Mun

theorem alive11 (w : World) :
    Calls Try.prog 12 #[] w fun e w' => e = .returned (.bool true) ∧ Below w.heap.size w w' := by
  have hd : Hid (decide (jumps [96, 91, 91] 3 0 = [2]) = true) := by unfold Hid; decide +kernel
  go_enter Try.func12, Try.ntmps12
  go_wp2_with fail
  refine (ops_jumps _ 3 [96, 91, 91] _ (Ints.new w .u8 [96, 91, 91] 5 (by unfold maxLen; decide)) (by intro i hi; match i, hi with | 0, _ => decide | 1, _ => decide | 2, _ => decide) (by decide)).mono ?_
  rintro e w1 ⟨v, rfl, hown, hb⟩
  obtain ⟨a, c, rfl, _, hI⟩ := Ints.of_own hown
  have HI := Lib.hid hI
  clear hI hown
  go_wp2_with fail
  refine (same_any a _ c 1 (jumps [96, 91, 91] 3 0) [2] _ (HI.out.below ((Below.refl _ _).alloc (Nat.le_refl _) _)) (Ints.new w1 .i64 [2] 3 (by unfold maxLen; decide))).mono ?_
  rintro e w2 ⟨rfl, hb2⟩
  rw [hd.out]
  go_wp2_with fail
  go_ret
  have e1 : Below w.heap.size w (w.alloc (Obj.cells #[Value.int IntKind.u8 96, Value.int IntKind.u8 91, Value.int IntKind.u8 91] 5)) := (Below.refl _ _).alloc (Nat.le_refl _) _
  have e2 := e1.trans (hb.mono (by simp))
  have e3 := e2.size
  exact ⟨rfl, (e2.alloc e3 (Obj.cells #[Value.int IntKind.i64 2] 3)).trans (hb2.mono (by simp; omega))⟩

theorem opsjumps_any (a : Option Addr) (cap : Nat) (l : List Int) (w : World) (hi : Ints w .u8 a cap l) (hb : ∀ i, i < l.length → 0 ≤ l[i]?.getD 0 ∧ l[i]?.getD 0 ≤ 255) :
    Calls Try.prog 4 #[.slice a l.length cap] w fun e w' => e = .returned (.bool true) ∧ Below w.heap.size w w' := by
  have hm := Nat.le_trans hi.len hi.cap
  unfold maxLen at hm
  have HB := Lib.hid hb
  have HI := Lib.hid hi
  clear hb hi
  by_cases h3 : 3000 < l.length
  · go_enter Try.func4, Try.ntmps4
    go_wp2_with fail
    refine (alive11 _).mono ?_
    rintro e w1 ⟨rfl, hb1⟩
    go_wp2_with fail
    go_ret
    exact ⟨rfl, hb1⟩
  · go_enter Try.func4, Try.ntmps4
    go_wp2_with fail
    refine (alive11 _).mono ?_
    rintro e w1 ⟨rfl, hb1⟩
    go_wp2_with fail
    have I1 := HI.out.below hb1
    refine (ops_jumps a cap l _ I1 HB.out (by omega)).mono ?_
    rintro e w2 ⟨v, rfl, hown, hb2⟩
    have I2 := Lib.hid (I1.below hb2)
    obtain ⟨a1, c1, rfl, _, hI1⟩ := Ints.of_own hown
    have HI1 := Lib.hid hI1
    clear I1 hI1 hown
    go_wp2_with fail
    refine (ref_jumps a cap l _ I2.out HB.out (by omega)).mono ?_
    rintro e w3 ⟨v, rfl, hown, hb3⟩
    obtain ⟨a2, c2, rfl, _, hI2⟩ := Ints.of_own hown
    have HI2 := Lib.hid hI2
    clear hI2 hown
    have I3 := Lib.hid (HI1.out.below hb3)
    go_wp2_with fail
    refine (same_any a1 a2 c1 c2 _ _ _ I3.out HI2.out).mono ?_
    rintro e w4 ⟨rfl, hb4⟩
    go_wp2_with fail
    go_ret
    have s1 := hb1.size
    have s2 := hb2.size
    have s3 := hb3.size
    exact ⟨ret_bool (by simp), ((hb1.trans (hb2.mono s1)).trans (hb3.mono (by omega))).trans (hb4.mono (by omega))⟩
end Go.Proofs.Ytaoacfkifcglfaa
