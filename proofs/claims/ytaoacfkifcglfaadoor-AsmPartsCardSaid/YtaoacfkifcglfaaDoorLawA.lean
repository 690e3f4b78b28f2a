/-
  The walk of OpsAll: how many instructions there are, that each has a name of its own, and that none takes or puts more than the machine has.
-/
import Derived.Test.YtaoacfkifcglfaaDoorOpsE
import Derived.Test.YtaoacfkifcglfaaDoorOpsM
import Derived.Test.YtaoacfkifcglfaaDoorLawT
import Derived.Lib.LaidTab
import Derived.Stop.LaidErr
namespace Go.Proofs.YtaoacfkifcglfaaDoor
open Go.RowKit Go.Mun

def cntN (k : Nat) : Nat := ((List.range k).filter fun i => !(nameL i).isEmpty).length
theorem cntN_succ (k : Nat) : cntN (k + 1) = cntN k + if (nameL k).isEmpty = true then 0 else 1 := by
  unfold cntN
  rw [List.range_succ, List.filter_append, List.length_append]
  cases h : (nameL k).isEmpty <;> simp [h]
theorem cntN_le (k : Nat) : cntN k ≤ k := by
  unfold cntN
  have := List.length_filter_le (fun i => !(nameL i).isEmpty) (List.range k)
  simpa using this
theorem cntN_all : cntN 256 = 138 := by decide +kernel
theorem empty_cost : ∀ m : Fin 256, nameL m.1 = [] → costL m.1 = none := by decide +kernel
theorem cost_range : ∀ m : Fin 256, 0 ≤ popsOf (costL m.1) ∧ popsOf (costL m.1) ≤ 17 ∧ 0 ≤ pushesOf (costL m.1) ∧ pushesOf (costL m.1) ≤ 17 ∧ 0 ≤ gasOf (costL m.1) := by decide +kernel
theorem name_own : ((List.range 256).all fun a => (List.range 256).all fun b => decide (a = b) || (nameL a).isEmpty || !(nameL a == nameL b)) = true := by decide +kernel
theorem name_ne {a b : Nat} (ha : a < 256) (hb : b < 256) (h : a ≠ b) (hn : nameL a ≠ []) : nameL a ≠ nameL b := by
  have h1 := List.all_eq_true.1 (List.all_eq_true.1 name_own a (List.mem_range.2 ha)) b (List.mem_range.2 hb)
  simp [h, hn] at h1
  exact h1

set_option maxRecDepth 100000 in
set_option maxHeartbeats 1000000 in
theorem opsAll_walk (f : Int) (w : World) (hT : Tab w) : Calls Tryd.prog 7 #[.int .i64 f] w fun e w' => e = .returned (.bool true) ∧ Below w.heap.size w w' := by
  by_cases h0 : f < 0
  · go_enter Tryd.func7, Tryd.ntmps7
    go_wp2_with fail
    refine (alive11 _).mono ?_
    rintro e w1 ⟨rfl, hb1⟩
    go_wp2
    go_ret
    exact ⟨rfl, hb1⟩
  by_cases h255 : 255 < f
  · go_enter Tryd.func7, Tryd.ntmps7
    go_wp2_with fail
    refine (alive11 _).mono ?_
    rintro e w1 ⟨rfl, hb1⟩
    go_wp2
    go_ret
    exact ⟨rfl, hb1⟩
  obtain ⟨g, rfl⟩ := Int.eq_ofNat_of_zero_le (by omega : 0 ≤ f)
  have hg : g < 256 := by omega
  have HT := Lib.hid hT
  have HPl := Lib.hid (Nat.le_refl w.heap.size)
  have H138 := Lib.hid cntN_all
  clear hT h0 h255
  go_enter Tryd.func7, Tryd.ntmps7
  go_wp2_with fail
  refine (alive11 _).mono ?_
  rintro e w1 ⟨rfl, hb1⟩
  have B1 := Lib.hid hb1
  clear hb1
  go_wp2
  go_loopw [4, 5] (fun n i wr => ∃ k c : Nat, k ≤ 256 ∧ i = .int .i64 (k : Int) ∧ n = .int .i64 (c : Int) ∧ c ≤ k ∧ Hid (c = cntN k) ∧ Hid (Below w.heap.size w wr)) (fun _ i _ => 256 - (intOf i).toNat)
  case atStart => exact ⟨0, 0, by omega, rfl, rfl, by omega, Lib.hid rfl, B1⟩
  case round =>
    obtain ⟨k, c, hk, rfl, rfl, hck, HC, HB⟩ := hrel
    by_cases hlt : k < 256
    · have T0 := Lib.hid (HT.out.below HB.out)
      have HN : Hid (∀ w', Tab w' → Calls Tryd.prog 27 #[.int .u8 (k : Int)] w' fun e w2 => e = .returned (.string (str (nameL k))) ∧ Below w'.heap.size w' w2) := Lib.hid fun w' h => ops_name k hlt w' h
      have HG : Hid (∀ w', Tab w' → Calls Tryd.prog 27 #[.int .u8 (g : Int)] w' fun e w2 => e = .returned (.string (str (nameL g))) ∧ Below w'.heap.size w' w2) := Lib.hid fun w' h => ops_name g hg w' h
      have H1 : Hid (∀ w', Calls Tryd.prog 28 #[.int .u8 (k : Int)] w' fun e w2 => e = .returned (.int .i64 (popsOf (costL k))) ∧ Below w'.heap.size w' w2) := Lib.hid fun w' => ops_pops k hlt w'
      have H2 : Hid (∀ w', Calls Tryd.prog 29 #[.int .u8 (k : Int)] w' fun e w2 => e = .returned (.int .i64 (pushesOf (costL k))) ∧ Below w'.heap.size w' w2) := Lib.hid fun w' => ops_pushes k hlt w'
      have H3 : Hid (∀ w', Calls Tryd.prog 30 #[.int .u8 (k : Int)] w' fun e w2 => e = .returned (.int .i64 (gasOf (costL k))) ∧ Below w'.heap.size w' w2) := Lib.hid fun w' => ops_gas k hlt w'
      have hnx := Lib.hid (cntN_succ k)
      by_cases he : nameL k = []
      · have hcost := empty_cost ⟨k, hlt⟩ he
        simp only at hcost
        rw [hcost] at H1 H2 H3
        have hee : (str (nameL k)).toList.isEmpty = true := by rw [str_toList, he]; rfl
        have HX := Lib.hid (show c = cntN (k + 1) by rw [hnx.out, he, ← HC.out]; rfl)
        obtain ⟨q, hq⟩ : ∃ q, q = str (nameL k) := ⟨_, rfl⟩
        rw [← hq] at HN hee
        clear hcost he hq hnx
        go_wp2_with fail
        refine (HN.out _ T0.out).mono ?_
        rintro e w2 ⟨rfl, hb⟩
        have B2 := Lib.hid (below_next HPl.out HB.out hb)
        clear hb
        go_wp2_with fail
        refine (H1.out _).mono ?_
        rintro e w3 ⟨rfl, hb⟩
        have B3 := Lib.hid (below_next HPl.out B2.out hb)
        clear hb
        go_wp2_with fail
        refine (H2.out _).mono ?_
        rintro e w4 ⟨rfl, hb⟩
        have B4 := Lib.hid (below_next HPl.out B3.out hb)
        clear hb
        go_wp2_with fail
        refine (H3.out _).mono ?_
        rintro e w5 ⟨rfl, hb⟩
        have B5 := Lib.hid (below_next HPl.out B4.out hb)
        clear hb
        go_wp2
        go_roundw
        case rel => exact ⟨k + 1, c, by omega, by go_num, rfl, by omega, HX, B5⟩
        case measure => simp [intOf]; omega
      · have hee : (str (nameL k)).toList.isEmpty = false := by rw [str_toList]; simpa using he
        have HX := Lib.hid (show c + 1 = cntN (k + 1) by rw [hnx.out, if_neg (by simpa using he), ← HC.out])
        obtain ⟨p0, p1, s0, s1, g0⟩ := cost_range ⟨k, hlt⟩
        simp only at p0 p1 s0 s1 g0
        generalize popsOf (costL k) = p at *
        generalize pushesOf (costL k) = s at *
        generalize gasOf (costL k) = gg at *
        obtain ⟨q, hq⟩ : ∃ q, q = str (nameL k) := ⟨_, rfl⟩
        obtain ⟨r, hr⟩ : ∃ r, r = str (nameL g) := ⟨_, rfl⟩
        have hqr : k ≠ g → (q.toList == r.toList) = false := fun h => by
          rw [hq, hr, str_toList, str_toList, beq_eq_false_iff_ne]
          exact name_ne hlt hg h he
        have HQR := Lib.hid hqr
        rw [← hq] at HN hee
        rw [← hr] at HG
        clear he hq hr hnx hqr
        by_cases hkg : k = g
        · have hneq : ((k : Int) != (g : Int)) = false := by simp [hkg]
          clear hkg
          go_wp2_with fail
          refine (HN.out _ T0.out).mono ?_
          rintro e w2 ⟨rfl, hb⟩
          have B2 := Lib.hid (below_next HPl.out HB.out hb)
          clear hb
          go_wp2_with fail
          refine (H1.out _).mono ?_
          rintro e w3 ⟨rfl, hb⟩
          have B3 := Lib.hid (below_next HPl.out B2.out hb)
          clear hb
          go_wp2_with fail
          refine (H2.out _).mono ?_
          rintro e w4 ⟨rfl, hb⟩
          have B4 := Lib.hid (below_next HPl.out B3.out hb)
          clear hb
          go_wp2_with fail
          refine (H1.out _).mono ?_
          rintro e w5 ⟨rfl, hb⟩
          have B5 := Lib.hid (below_next HPl.out B4.out hb)
          clear hb
          go_wp2_with fail
          refine (H2.out _).mono ?_
          rintro e w6 ⟨rfl, hb⟩
          have B6 := Lib.hid (below_next HPl.out B5.out hb)
          clear hb
          go_wp2_with fail
          refine (H3.out _).mono ?_
          rintro e w7 ⟨rfl, hb⟩
          have B7 := Lib.hid (below_next HPl.out B6.out hb)
          clear hb
          go_wp2
          go_roundw
          case rel => exact ⟨k + 1, c + 1, by omega, by go_num, by go_num, by omega, HX, B7⟩
          case measure => simp [intOf]; omega
        · have hneq : ((k : Int) != (g : Int)) = true := by simp; omega
          have hqr2 := HQR.out hkg
          clear hkg
          go_wp2_with fail
          refine (HN.out _ T0.out).mono ?_
          rintro e w2 ⟨rfl, hb⟩
          have B2 := Lib.hid (below_next HPl.out HB.out hb)
          clear hb
          go_wp2_with fail
          refine (HG.out _ (HT.out.below B2.out)).mono ?_
          rintro e w8 ⟨rfl, hb⟩
          have B8 := Lib.hid (below_next HPl.out B2.out hb)
          clear hb
          go_wp2_with fail
          refine (H1.out _).mono ?_
          rintro e w3 ⟨rfl, hb⟩
          have B3 := Lib.hid (below_next HPl.out B8.out hb)
          clear hb
          go_wp2_with fail
          refine (H2.out _).mono ?_
          rintro e w4 ⟨rfl, hb⟩
          have B4 := Lib.hid (below_next HPl.out B3.out hb)
          clear hb
          go_wp2_with fail
          refine (H1.out _).mono ?_
          rintro e w5 ⟨rfl, hb⟩
          have B5 := Lib.hid (below_next HPl.out B4.out hb)
          clear hb
          go_wp2_with fail
          refine (H2.out _).mono ?_
          rintro e w6 ⟨rfl, hb⟩
          have B6 := Lib.hid (below_next HPl.out B5.out hb)
          clear hb
          go_wp2_with fail
          refine (H3.out _).mono ?_
          rintro e w7 ⟨rfl, hb⟩
          have B7 := Lib.hid (below_next HPl.out B6.out hb)
          clear hb
          go_wp2
          go_roundw
          case rel => exact ⟨k + 1, c + 1, by omega, by go_num, by go_num, by omega, HX, B7⟩
          case measure => simp [intOf]; omega
    · have hc138 : (c : Int) = 138 := by
        have := HC.out
        have hk2 : k = 256 := by omega
        rw [hk2, H138.out] at this
        omega
      have hce : ((c : Int) == 138) = true := by simpa using hc138
      clear hc138
      go_wp2
      go_ret
      exact ⟨rfl, HB.out⟩
theorem tab_of_laid {W : World} {a : String × DataW Unit} (h : laidMet Tryd.prog [a, ("strings.asciiSpace", Rows.laid_strings_asciiSpace)] W) : Tab W := by
  have h2 := h.tail
  have e : (Rows.laid_strings_asciiSpace : DataW Unit) = Lib.tabData .u8 Lib.asciiSpaceTab := by kernel_rfl
  rw [e] at h2
  exact Lib.tabIs_of_head (t := 104) (e := 5) (n := 256) (g := 0) (by kernel_rfl) (by kernel_rfl) Tryd.underlying104 Tryd.underlying5 (by kernel_rfl) (by kernel_rfl) h2
theorem opsAll_law (f : Int) (_h : (Lit.int .i64 f).wf = true) (w : World) (hL : laidMet Tryd.prog Rows.opsAllRow.laid w) : Calls Tryd.prog 7 #[.int .i64 f] w fun e w' => e = .returned (.bool true) ∧ Below w.heap.size w w' :=
  opsAll_walk f w (tab_of_laid hL)
end Go.Proofs.YtaoacfkifcglfaaDoor
