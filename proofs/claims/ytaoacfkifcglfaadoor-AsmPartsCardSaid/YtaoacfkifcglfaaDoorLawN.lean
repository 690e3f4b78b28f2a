/-
  The walk of HexNumbers: numbers' texts rise in length as they do.
-/
import Derived.Test.YtaoacfkifcglfaaDoorRefW
import Derived.Test.YtaoacfkifcglfaaDoorOf
import Derived.Deep.RegionHeld3
namespace Go.Proofs.YtaoacfkifcglfaaDoor
open Go.RowKit Go.Mun
attribute [local irreducible] be beC zU8

theorem num3 (n : Int) (w : World) : Calls Tryd.prog 17 #[.int .i64 n] w fun e w' => e = .returned (.int .i64 n) ∧ w = w' := by
  go_enter Tryd.func17, Tryd.ntmps17
  go_wp2
  go_ret
  exact ⟨rfl, rfl⟩

theorem u8L_be (n : Nat) : u8L (be 32 n) = beC 32 n := by unfold beC; rfl
theorem ref_of' (n : Int) (hn : -9223372036854775808 ≤ n) (hn' : n ≤ 9223372036854775807) (w : World) :
    Calls Tryd.prog 15 #[.int .i64 n] w fun e w' => e = .returned (.agg (u8L (be 32 (ofW n))).toArray) ∧ Below w.heap.size w w' := by
  have := ref_of n hn hn' w
  rw [← u8L_be] at this
  exact this
theorem eq25 (L M : List Int) (hl : L.length = 32) (hm : M.length = 32) (w : World) : (binOp .eql 25 (.agg (u8L L).toArray) (.agg (u8L M).toArray)).run Tryd.prog w = .ok (.bool (decide (L = M))) w :=
  eql_of fun d => run_eq_ints Tryd.underlying25 Tryd.underlying5 (by kernel_rfl) (d + 1) L M w hl hm
theorem eq41 (L M : List Int) (hl : L.length = 20) (hm : M.length = 20) (w : World) : (binOp .eql 41 (.agg (u8L L).toArray) (.agg (u8L M).toArray)).run Tryd.prog w = .ok (.bool (decide (L = M))) w :=
  eql_of fun d => run_eq_ints Tryd.underlying41 Tryd.underlying5 (by kernel_rfl) (d + 1) L M w hl hm

theorem short255 : (strOf (shortL (be 32 (ofW 255)))).toList = [48, 120, 102, 102] := by
  rw [ByteArray.toList_eq, strOf_u8s]
  decide +kernel

set_option maxRecDepth 10000 in
set_option maxHeartbeats 400000 in
theorem alive3 (w : World) : Calls Tryd.prog 13 #[] w fun e w' => e = .returned (.bool true) ∧ Below w.heap.size w w' := by
  go_enter Tryd.func13, Tryd.ntmps13
  go_wp2_with fail
  refine (ref_of' 255 (by decide) (by decide) _).mono ?_
  rintro e w1 ⟨rfl, hb1⟩
  go_wp2_with fail
  refine (hex_short _ (be_len 32 _) (be_range 32 _) _).mono ?_
  rintro e w2 ⟨rfl, hb2⟩
  have hq := short255
  generalize strOf (shortL (be 32 (ofW 255))) = q at *
  have hqe : (q.toList == [48, 120, 102, 102]) = true := by rw [hq]; rfl
  clear hq
  go_wp2
  go_ret
  exact ⟨rfl, hb1.trans (hb2.mono hb1.size)⟩

theorem ofW_nat (n : Nat) (h : n < 9223372036854775808) : ofW (n : Int) = n := by unfold ofW; omega

set_option maxRecDepth 10000 in
set_option maxHeartbeats 400000 in
theorem hexNumbers_walk (n : Int) (hn : -9223372036854775808 ≤ n) (hn' : n ≤ 9223372036854775807) (w : World) :
    Calls Tryd.prog 3 #[.int .i64 n] w fun e w' => e = .returned (.bool true) ∧ Below w.heap.size w w' := by
  by_cases hneg : n < 0
  · go_enter Tryd.func3, Tryd.ntmps3
    go_wp2_with fail
    refine (alive3 _).mono ?_
    rintro e w1 ⟨rfl, hb1⟩
    go_wp2
    go_ret
    exact ⟨rfl, hb1⟩
  · obtain ⟨N, rfl⟩ := Int.eq_ofNat_of_zero_le (by omega : 0 ≤ n)
    have hN : N < 9223372036854775808 := by omega
    have HO := Lib.hid (ofW_nat N hN)
    have HL := Lib.hid (short_len N hN)
    go_enter Tryd.func3, Tryd.ntmps3
    go_wp2_with fail
    refine (alive3 _).mono ?_
    rintro e w1 ⟨rfl, hb1⟩
    go_wp2_with fail
    refine (ref_of' _ hn hn' _).mono ?_
    rintro e w2 ⟨rfl, hb2⟩
    rw [HO.out]
    go_wp2_with fail
    refine (hex_short _ (be_len 32 _) (be_range 32 _) _).mono ?_
    rintro e w3 ⟨rfl, hb3⟩
    have H3 := Lib.hid (show Below w.heap.size w w3 from (hb1.trans (hb2.mono hb1.size)).trans (hb3.mono (Nat.le_trans hb1.size hb2.size)))
    clear hb1 hb2 hb3
    go_wp2
    go_loop [5, 6] (fun d k => ∃ j m : Nat, d = .int .i64 ((j : Int) + 1) ∧ k = .int .i64 (m : Int) ∧ j ≤ 15 ∧ m < 9223372036854775808 ∧ Hid (nhex 64 N = j + nhex (64 - j) m ∧ m * 16 ^ j ≤ N)) (fun _ k => (intOf k).toNat)
    case atStart => exact ⟨0, N, rfl, rfl, by omega, hN, Lib.hid ⟨by simp, by simp⟩⟩
    case round =>
      obtain ⟨j, m, rfl, rfl, hj, hm, HK⟩ := hrel
      by_cases hgt : 15 < m
      · go_wp2
        go_round
        case rel =>
          refine ⟨j + 1, m / 16, by go_num, by go_num, ?_, by omega, Lib.hid ?_⟩
          · have := HK.out.2
            have h16 : 16 * 16 ^ j ≤ m * 16 ^ j := Nat.mul_le_mul_right _ (by omega)
            rcases Nat.lt_or_ge j 15 with h | h
            · omega
            · obtain rfl : j = 15 := by omega
              have e15 : (16 : Nat) ^ 15 = 1152921504606846976 := by decide
              rw [e15] at h16 this
              omega
          · obtain ⟨k1, k2⟩ := HK.out
            refine ⟨?_, ?_⟩
            · rw [k1, show 64 - j = (64 - (j + 1)) + 1 by omega]
              conv => lhs; unfold nhex
              rw [if_neg (by omega)]; omega
            · have : m / 16 * 16 ^ (j + 1) ≤ m * 16 ^ j := by
                rw [Nat.pow_succ, Nat.mul_comm (16 ^ j) 16, ← Nat.mul_assoc]
                exact Nat.mul_le_mul_right _ (by omega)
              omega
        case measure => simp [intOf]; omega
      · have hsz : (strOf (shortL (be 32 N))).size = j + 3 := by
          rw [strOf_size, HL.out, HK.out.1, show 64 - j = (63 - j) + 1 by omega]
          unfold nhex
          rw [if_pos (by omega)]; omega
        have hwd : hexWord (strOf (shortL (be 32 N))).data.toList = some (be 32 N) := by
          rw [strOf_u8s]; exact hexWord_short _ (be_len 32 _) (be_range 32 _)
        have HW := Lib.hid hwd
        generalize strOf (shortL (be 32 N)) = q at *
        clear hwd HK
        go_wp2_with fail
        refine (hex_word q (by omega) _).mono ?_
        rintro e w4 ⟨he, hb4⟩
        rw [HW.out] at he
        obtain rfl : e = .returned (.tuple #[.agg (u8L (be 32 N)).toArray, .int .i64 0]) := he
        have H4 := Lib.hid (show Below w.heap.size w w4 from H3.out.trans (hb4.mono H3.out.size))
        have ok32 : okL 32 (u8L (be 32 N)) = true := u8L_ok _ 32 (be_len 32 N)
        have e25 := fun wx => eq25 (be 32 N) (be 32 N) (be_len 32 _) (be_len 32 _) wx
        clear hb4
        go_wp2
        obtain ⟨W5, hW5⟩ : ∃ W5, W5 = (w4.alloc (.cells (zU8 32).toArray 25)).setCells w4.heap.size 0 (u8L (be 32 N)) := ⟨_, rfl⟩
        rw [← hW5]
        have hrow : W5.row? w4.heap.size 0 32 = some (u8L (be 32 N)) := by
          rw [hW5]; exact row?_setCells_whole _ (World.free?_alloc_at _ _ rfl (by simp)) ok32
        have hlt := World.row?_lt hrow
        have H5 : Hid (Below w.heap.size w W5) := Lib.hid (by rw [hW5]; exact (H4.out.alloc H4.out.size _).setCells H4.out.size _ _)
        generalize w4.heap.size = B at *
        clear hW5
        have ea : IntKind.i64.wrap (2 + ((j : Int) + 1)) = (j : Int) + 3 := by rw [IntKind.wrap_i64]; omega
        have hu25 := Tryd.underlying25
        have hi25 : (Tryd.prog.info? 25).map (·.size) = some (u8L (be 32 N)).length := by rw [u8L_len, be_len]; exact ty25.size
        go_region_held3 (fun w' => w'.rangeAt B 0 (u8L (be 32 N))) (first | exact World.row?_rangeAt hrow | exact World.row?_rangeAt ((hk1 _ _ _ hlt).trans hrow))
          (first | (go_at_call 17; refine (num3 _ _).mono ?_; rintro e w6 ⟨rfl, rfl⟩) | (go_at_call 15; refine (ref_of' _ hn hn' _).mono ?_; rintro e w6 ⟨he6, hb6⟩; rw [HO.out] at he6; obtain rfl := he6; have hk1 := (brow hb6).1))
        all_goals
          go_wp2
          go_ret
          first | exact ⟨rfl, H5.out.trans (hb6.mono H5.out.size)⟩ | exact ⟨rfl, H5.out.drew.trans (hb6.mono H5.out.size)⟩
theorem hexNumbers_law (n : Int) (h : (Lit.int .i64 n).wf = true) (w : World) :
    Calls Tryd.prog 3 #[.int .i64 n] w fun e w' => e = .returned (.bool true) ∧ Below w.heap.size w w' := hexNumbers_walk n (wf_i64 h).1 (wf_i64 h).2 w
end Go.Proofs.YtaoacfkifcglfaaDoor
