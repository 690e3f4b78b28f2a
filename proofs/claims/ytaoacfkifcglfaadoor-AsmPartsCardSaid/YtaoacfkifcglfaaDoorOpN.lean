/-
  Contracts of ops.Op and its twin of the reference.
-/
import Derived.Test.YtaoacfkifcglfaaDoorLine
namespace Go.Proofs.YtaoacfkifcglfaaDoor
open Go.RowKit Go.Mun
attribute [local irreducible] Inf.c infZC infsC infs0

/-- The instruction of a name. -/
def opOf (s : List UInt8) : Option Nat := if s = [] then none else (List.range 256).find? fun m => nameL m == s
def opV (o : Option Nat) : Value := match o with | some m => .tuple #[.int .u8 (m : Int), .bool true] | none => .tuple #[.int .u8 0, .bool false]
theorem opOf_some {s : List UInt8} {k : Nat} (hk : k < 256) (hs : s ≠ []) (hn : nameL k = s) (hj : ∀ j, j < k → nameL j ≠ s) : opOf s = some k := by
  unfold opOf
  rw [if_neg hs, List.find?_eq_some_iff_getElem]
  refine ⟨by simpa using hn, k, by simpa using hk, by simp, fun j hj2 => ?_⟩
  simp only [List.getElem_range]
  simpa using hj j hj2
theorem opOf_none {s : List UInt8} (hj : ∀ j, j < 256 → nameL j ≠ s) : opOf s = none := by
  unfold opOf
  split
  · rfl
  · rw [List.find?_eq_none]
    intro m hm
    simpa using hj m (List.mem_range.1 hm)

set_option maxRecDepth 100000 in
set_option maxHeartbeats 1000000 in
theorem ops_op (s : ByteArray) (w : World) (hT : Tab w) : Calls Tryd.prog 32 #[.string s] w fun e w' => e = .returned (opV (opOf s.data.toList)) ∧ Below w.heap.size w w' := by
  have HT := Lib.hid hT
  have HPl := Lib.hid (Nat.le_refl w.heap.size)
  clear hT
  by_cases hs : s.data.toList = []
  · have hee : s.toList.isEmpty = true := by rw [ByteArray.toList_eq, hs]; rfl
    have HO := Lib.hid (show opOf s.data.toList = none by unfold opOf; rw [if_pos hs])
    clear hs
    go_enter Tryd.func32, Tryd.ntmps32
    go_wp2
    go_loop [6] (fun i => ∃ k : Nat, k ≤ 256 ∧ i = .int .i64 (k : Int)) (fun i => 256 - (intOf i).toNat)
    case atStart => exact ⟨0, by omega, rfl⟩
    case round =>
      obtain ⟨k, hk, rfl⟩ := hrel
      by_cases hlt : k < 256
      · go_wp2
        go_round
        case rel => exact ⟨k + 1, by omega, by go_num⟩
        case measure => simp [intOf]; omega
      · have hge : 256 ≤ k := by omega
        go_wp2
        go_ret2
        exact ⟨by rw [HO.out]; rfl, Below.refl _ _⟩
  · have hee : s.toList.isEmpty = false := by rw [ByteArray.toList_eq]; simpa using hs
    have HS := Lib.hid hs
    clear hs
    go_enter Tryd.func32, Tryd.ntmps32
    go_wp2
    go_loopw [6] (fun i wr => ∃ k : Nat, k ≤ 256 ∧ i = .int .i64 (k : Int) ∧ Hid (∀ j, j < k → nameL j ≠ s.data.toList) ∧ Hid (Below w.heap.size w wr)) (fun i _ => 256 - (intOf i).toNat)
    case atStart => exact ⟨0, by omega, rfl, Lib.hid (fun j hj => by omega), Lib.hid (Below.refl _ _)⟩
    case round =>
      obtain ⟨k, hk, rfl, HJ, HB⟩ := hrel
      by_cases hlt : k < 256
      · by_cases hn : nameL k = s.data.toList
        · have HO := Lib.hid (opOf_some hlt HS.out hn HJ.out)
          have hq : ((str (nameL k)).toList == s.toList) = true := by rw [str_toList, ByteArray.toList_eq, hn]; simp
          have HN : Hid (∀ w', Tab w' → Calls Tryd.prog 27 #[.int .u8 (k : Int)] w' fun e w2 => e = .returned (.string (str (nameL k))) ∧ Below w'.heap.size w' w2) := Lib.hid fun w' h => ops_name k hlt w' h
          generalize str (nameL k) = q at *
          clear hn
          go_wp2_with fail
          refine (HN.out _ (HT.out.below HB.out)).mono ?_
          rintro e w2 ⟨rfl, hb⟩
          have B2 := Lib.hid (below_next HPl.out HB.out hb)
          clear hb
          go_wp2
          go_ret2
          exact ⟨by rw [HO.out]; rfl, B2.out⟩
        · have hq : ((str (nameL k)).toList == s.toList) = false := by rw [str_toList, ByteArray.toList_eq]; simpa using hn
          have HX : Hid (∀ j, j < k + 1 → nameL j ≠ s.data.toList) := Lib.hid (fun j hj => by
            by_cases hjk : j = k
            · subst hjk; exact hn
            · exact HJ.out j (by omega))
          have HN : Hid (∀ w', Tab w' → Calls Tryd.prog 27 #[.int .u8 (k : Int)] w' fun e w2 => e = .returned (.string (str (nameL k))) ∧ Below w'.heap.size w' w2) := Lib.hid fun w' h => ops_name k hlt w' h
          generalize str (nameL k) = q at *
          clear hn
          go_wp2_with fail
          refine (HN.out _ (HT.out.below HB.out)).mono ?_
          rintro e w2 ⟨rfl, hb⟩
          have B2 := Lib.hid (below_next HPl.out HB.out hb)
          clear hb
          go_wp2
          go_roundw
          case rel => exact ⟨k + 1, by omega, by go_num, HX, B2⟩
          case measure => simp [intOf]; omega
      · have hge : 256 ≤ k := by omega
        have HO := Lib.hid (opOf_none (s := s.data.toList) (fun j hj => HJ.out j (by omega)))
        go_wp2
        go_ret2
        exact ⟨by rw [HO.out]; rfl, HB.out⟩

set_option maxRecDepth 100000 in
set_option maxHeartbeats 1000000 in
theorem ref_op (s : ByteArray) (w : World) : Calls Tryd.prog 33 #[.string s] w fun e w' => e = .returned (opV (opOf s.data.toList)) ∧ Below w.heap.size w w' := by
  have ok := infT_ok1280
  have h0 := infs0_len
  by_cases hs : s.data.toList = []
  · have hee : s.toList.isEmpty = true := by rw [ByteArray.toList_eq, hs]; rfl
    have HO := Lib.hid (show opOf s.data.toList = none by unfold opOf; rw [if_pos hs])
    clear hs
    go_enter Tryd.func33, Tryd.ntmps33
    go_wp2_with fail
    refine (ref_all _).mono ?_
    rintro e w1 ⟨rfl, hb⟩
    have B1 := Lib.hid hb
    clear hb
    go_wp2
    obtain ⟨W, hW⟩ : ∃ W, W = (w1.alloc (.cells infs0.toArray 82)).setCells w1.heap.size 0 (infsC infT) := ⟨_, rfl⟩
    rw [← hW]
    obtain ⟨b2, d2, r2⟩ := laid_rowG hW h0 (Nat.le_refl _) B1.out ok
    have B2 := Lib.hid b2
    clear hW b2 d2 r2 h0 ok
    go_loop [5] (fun i => ∃ k : Nat, k ≤ 256 ∧ i = .int .i64 (k : Int)) (fun i => 256 - (intOf i).toNat)
    case atStart => exact ⟨0, by omega, rfl⟩
    case round =>
      obtain ⟨k, hk, rfl⟩ := hrel
      by_cases hlt : k < 256
      · go_wp2
        go_ret2
        exact ⟨by rw [HO.out]; rfl, B2.out⟩
      · have hge : 256 ≤ k := by omega
        go_wp2
        go_ret2
        exact ⟨by rw [HO.out]; rfl, B2.out⟩
  · have hee : s.toList.isEmpty = false := by rw [ByteArray.toList_eq]; simpa using hs
    have HS := Lib.hid hs
    clear hs
    go_enter Tryd.func33, Tryd.ntmps33
    go_wp2_with fail
    refine (ref_all _).mono ?_
    rintro e w1 ⟨rfl, hb⟩
    have B1 := Lib.hid hb
    clear hb
    go_wp2
    obtain ⟨W, hW⟩ : ∃ W, W = (w1.alloc (.cells infs0.toArray 82)).setCells w1.heap.size 0 (infsC infT) := ⟨_, rfl⟩
    rw [← hW]
    obtain ⟨b2, d2, r2⟩ := laid_rowG hW h0 (Nat.le_refl _) B1.out ok
    have B2 := Lib.hid b2
    have R2 := Lib.hid r2
    clear hW b2 d2 r2 h0 ok
    generalize w1.heap.size = p at *
    go_loop [5] (fun i => ∃ k : Nat, k ≤ 256 ∧ i = .int .i64 (k : Int) ∧ Hid (∀ j, j < k → nameL j ≠ s.data.toList)) (fun i => 256 - (intOf i).toNat)
    case atStart => exact ⟨0, by omega, rfl, Lib.hid (fun j hj => by omega)⟩
    case round =>
      obtain ⟨k, hk, rfl, HJ⟩ := hrel
      by_cases hlt : k < 256
      · have hcell := inf_cell1 (inf_row R2.out k hlt)
        rw [(infAt_ok k hlt).1] at hcell
        by_cases hn : nameL k = s.data.toList
        · have HO := Lib.hid (opOf_some hlt HS.out hn HJ.out)
          have hq : ((str (nameL k)).toList == s.toList) = true := by rw [str_toList, ByteArray.toList_eq, hn]; simp
          generalize str (nameL k) = q at *
          clear hn
          go_wp2
          go_ret2
          exact ⟨by rw [HO.out]; rfl, B2.out⟩
        · have hq : ((str (nameL k)).toList == s.toList) = false := by rw [str_toList, ByteArray.toList_eq]; simpa using hn
          have HX : Hid (∀ j, j < k + 1 → nameL j ≠ s.data.toList) := Lib.hid (fun j hj => by
            by_cases hjk : j = k
            · subst hjk; exact hn
            · exact HJ.out j (by omega))
          generalize str (nameL k) = q at *
          clear hn
          go_wp2
          go_round
          case rel => exact ⟨k + 1, by omega, by go_num, HX⟩
          case measure => simp [intOf]; omega
      · have hge : 256 ≤ k := by omega
        have HO := Lib.hid (opOf_none (s := s.data.toList) (fun j hj => HJ.out j (by omega)))
        go_wp2
        go_ret2
        exact ⟨by rw [HO.out]; rfl, B2.out⟩
end Go.Proofs.YtaoacfkifcglfaaDoor
