/-
  The reference's RLP: contracts of head, Deep, pack, Pack.
-/
import Derived.Test.YtfflppedbopdpaaGreatQRlp2
set_option linter.unusedVariables false
set_option maxRecDepth 1000000
set_option maxHeartbeats 8000000
set_option linter.unusedSimpArgs false
namespace Go.Proofs.YtfflppedbopdpaaGreat
open Go.RowKit Go.Mun

theorem bigL_step (m : Nat) (h : 0 < m) : bigL m = bigL (m / 256) ++ [((m % 256 : Nat) : Int)] := by
 unfold bigL
 rw [digs_pos m h, List.reverse_cons]
theorem and255i (m : Int) : bits .and .i64 m 255 = m % 256 := and_255 m
theorem ref_head (n base : Nat) (hb : base ≤ 192) (hn : n ≤ 16777216) (w : World) :
  Calls Tryz.prog 167 #[.int .i64 n, .int .i64 base] w fun e w' => ∃ v, e = .returned v ∧ OwnB w w' v (headL base n) := by
 by_cases h : n ≤ 55
 ·have b1 : (n : Int) < 56 := by omega
  have b2 : IntKind.u8.wrap ((base : Int) + (n : Int)) = ((base + n : Nat) : Int) := by rw [IntKind.wrap_u8]; omega
  obtain ⟨y, ey⟩ : ∃ y, y = ((base + n : Nat) : Int) := ⟨_, rfl⟩
  have H : Hid (headL base n = [y]) := by unfold Hid headL; rw [if_pos h, ey]
  rw [← ey] at b2
  have HO := Lib.hid (World.ownsRow_lit (e := 5) (size := 1) w #[Value.int .u8 y] 1 (Nat.le_refl _) (by decide) rfl)
  clear h ey
  go_enter Tryz.func167, Tryz.ntmps167
  go_wp2
  go_ret
  exact ⟨_, rfl, by rw [H.out]; exact HO.out, (Below.refl _ _).alloc (Nat.le_refl _) _⟩
 ·have b1 : ¬ (n : Int) < 56 := by omega
  have hs := size_nat n hn
  have H : Hid (headL base n = ((base + 55 + (bigL n).length : Nat) : Int) :: bigL n) := by unfold Hid headL; rw [if_neg h]
  clear h
  go_enter Tryz.func167, Tryz.ntmps167
  go_wp2_with fail
  go_loopw [5, 6] (fun v i wr => ∃ (m : Nat) (acc : List Int), m ≤ n ∧ i = .int .i64 m ∧ bigL n = bigL m ++ acc ∧ OwnB w wr v acc) (fun _ i _ => (intOf i).toNat)
  case atStart => exact ⟨n, [], Nat.le_refl _, rfl, (List.append_nil _).symm, World.ownsRow_nil _ _ _ _, Below.refl _ _⟩
  case round =>
   obtain ⟨m, acc, hm, rfl, hd, ho⟩ := hrel
   by_cases h0 : 0 < m
   ·rw [bigL_step m h0] at hd
    have hacc : acc.length ≤ 4 := by rw [hd] at hs; simp at hs; omega
    obtain ⟨k, ek⟩ : ∃ k, k = acc.length := ⟨_, rfl⟩
    have hown := ho.own
    rw [← ek] at hown hacc
    obtain ⟨a2, c2, rfl, hl2, hI2⟩ := Ints.of_own' hown
    have b3 : 0 < (m : Int) := by omega
    have w1 : IntKind.u8.wrap (bits .and .i64 (m : Int) 255) = ((m % 256 : Nat) : Int) := by rw [and255i, IntKind.wrap_u8]; omega
    have w1' : bits .and .i64 (m : Int) 255 = (m : Int) % 256 := and255i _
    have w2 : IntKind.u8.wrap ((m : Int) % 256) = ((m % 256 : Nat) : Int) := by rw [IntKind.wrap_u8]; omega
    obtain ⟨y, ey⟩ : ∃ y, y = ((m % 256 : Nat) : Int) := ⟨_, rfl⟩
    rw [← ey] at w1 w2
    have HY := Lib.hid ey
    have HB := Lib.hid ho.below
    have HD := Lib.hid hd
    have HK := Lib.hid ek
    have HI := Lib.hid (hI2.below ((Below.refl _ _).alloc (Nat.le_refl _) (.cells #[Value.int .u8 y] 5)))
    have HO := Lib.hid (World.ownsRow_lit (e := 5) (size := 1) wr #[Value.int .u8 y] 1 ho.below.size (by decide) rfl)
    clear ho hd ek hown hI2 ey w1 hl2
    go_wp2_with (at_builtin; go_must (refine wpList_append_intsN (base := w.heap.size) (n := 1) (xs := [Value.int .u8 y]) elem26 rfl _ _ rfl HO.out rfl rfl HK.out HI.out ?c3 ?c4 ?c5 ?_))
    case c3 => unfold maxLen; omega
    case c4 => omega
    case c5 => have := HB.out.size; simp; omega
    intro v3 w3 ho3 hg3
    have H3 : Hid (OwnB w w3 v3 (y :: acc)) := by
     refine ⟨?_, (HB.out.alloc HB.out.size _).grown hg3 (by have := HB.out.size; simp; omega) (fun k hk => (HO.out.lt k hk).1)⟩
     rw [show (y :: acc).length = 1 + k by simp [HK.out]; omega]
     exact ho3
    clear ho3 hg3
    go_wp2_with fail
    go_roundw
    case rel => exact ⟨m / 256, y :: acc, by omega, by simp, by rw [HD.out, HY.out]; simp, H3.out⟩
    case measure => simp [intOf]; omega
   ·obtain rfl : m = 0 := by omega
    have hz : bigL 0 = [] := by unfold bigL; rw [digs_zero]; rfl
    rw [hz, List.nil_append] at hd
    rw [hd] at hs
    obtain ⟨k, ek⟩ : ∃ k, k = acc.length := ⟨_, rfl⟩
    have hown := ho.own
    rw [← ek] at hown hs
    obtain ⟨a2, c2, rfl, hl2, hI2⟩ := Ints.of_own' hown
    have b2 : IntKind.u8.wrap ((base : Int) + 55 + (k : Int)) = ((base + 55 + k : Nat) : Int) := by rw [IntKind.wrap_u8]; omega
    have b3 : IntKind.i64.wrap ((base : Int) + 55) = (base : Int) + 55 := wrI _ (by omega) (by omega)
    have b4 : IntKind.i64.wrap ((base : Int) + 55 + (k : Int)) = (base : Int) + 55 + (k : Int) := wrI _ (by omega) (by omega)
    obtain ⟨y, ey⟩ : ∃ y, y = ((base + 55 + k : Nat) : Int) := ⟨_, rfl⟩
    rw [← ey] at b2
    have HH : Hid (headL base n = y :: acc) := by unfold Hid; rw [H.out, hd, ← ek, ← ey]
    have HB := Lib.hid ho.below
    have HK := Lib.hid ek
    have HI := Lib.hid (hI2.below ((Below.refl _ _).alloc (Nat.le_refl _) (.cells #[Value.int .u8 y] 5)))
    have HO := Lib.hid (World.ownsRow_lit (e := 5) (size := 1) wr #[Value.int .u8 y] 1 ho.below.size (by decide) rfl)
    clear ho hd ek hown hI2 ey hl2 hz
    go_wp2_with (at_builtin; go_must (refine wpList_append_intsN (base := w.heap.size) (n := 1) (xs := [Value.int .u8 y]) elem26 rfl _ _ rfl HO.out rfl rfl HK.out HI.out ?d3 ?d4 ?d5 ?_))
    case d3 => unfold maxLen; omega
    case d4 => omega
    case d5 => have := HB.out.size; simp; omega
    intro v3 w3 ho3 hg3
    have H3 : Hid (OwnB w w3 v3 (headL base n)) := by
     unfold Hid
     rw [HH.out]
     refine ⟨?_, (HB.out.alloc HB.out.size _).grown hg3 (by have := HB.out.size; simp; omega) (fun k hk => (HO.out.lt k hk).1)⟩
     rw [show (y :: acc).length = 1 + k by simp [HK.out]; omega]
     exact ho3
    clear ho3 hg3
    go_wp2
    go_ret
    exact ⟨_, rfl, H3.out⟩

def DeepOk (k : Nat) : Prop := ∀ (cs : List Value) (t : RTree) (d : Nat) (w : World), depthT t ≤ k → depthT t ≤ d → d ≤ 32 → ItemAt w cs t →
 (∀ ts, t = .list ts → ts.length ≤ 16777216) →
 Calls Tryz.prog 55 #[.agg cs.toArray, .int .i64 d] w fun e w' => e = .returned (.int .i64 (depthT t : Nat)) ∧ Below w.heap.size w w'
end Go.Proofs.YtfflppedbopdpaaGreat
