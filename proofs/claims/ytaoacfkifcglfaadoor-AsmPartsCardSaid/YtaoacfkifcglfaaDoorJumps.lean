/-
  Contracts of ops.Own, ops.Jumps, their twins of the reference, and of the law's own comparison of two slices of numbers.
-/
import Derived.Test.YtaoacfkifcglfaaDoorTy
import Derived.BigQuiet
import Derived.Deep.QuietTactic
import Derived.Deep.RegionHeld3
namespace Go.Proofs.YtaoacfkifcglfaaDoor
open Go.RowKit Go.Mun

def ownOf (x : Int) : Int := if 96 ≤ x ∧ x ≤ 127 then x - 95 else 0

theorem ops_own (x : Int) (h0 : 0 ≤ x) (h1 : x ≤ 255) (w : World) :
    Calls Tryd.prog 63 #[.int .u8 x] w fun e w' => e = .returned (.int .i64 (ownOf x)) ∧ w = w' := by
  by_cases h : x < 96
  · go_enter Tryd.func63, Tryd.ntmps63
    go_wp2
    go_ret
    exact ⟨Mun.ret_int (by unfold ownOf; rw [if_neg (by omega)]), rfl⟩
  by_cases h' : 127 < x
  · go_enter Tryd.func63, Tryd.ntmps63
    go_wp2
    go_ret
    exact ⟨Mun.ret_int (by unfold ownOf; rw [if_neg (by omega)]), rfl⟩
  · go_enter Tryd.func63, Tryd.ntmps63
    go_wp2
    go_ret
    exact ⟨Mun.ret_int (by unfold ownOf; rw [if_pos (by omega)]), rfl⟩
theorem ref_own (x : Int) (h0 : 0 ≤ x) (h1 : x ≤ 255) (w : World) :
    Calls Tryd.prog 56 #[.int .u8 x] w fun e w' => e = .returned (.int .i64 (ownOf x)) ∧ w = w' := by
  by_cases h : x < 96
  · go_enter Tryd.func56, Tryd.ntmps56
    go_wp2
    go_ret
    exact ⟨Mun.ret_int (by unfold ownOf; rw [if_neg (by omega)]), rfl⟩
  by_cases h' : 127 < x
  · go_enter Tryd.func56, Tryd.ntmps56
    go_wp2
    go_ret
    exact ⟨Mun.ret_int (by unfold ownOf; rw [if_neg (by omega)]), rfl⟩
  · go_enter Tryd.func56, Tryd.ntmps56
    go_wp2
    go_ret
    exact ⟨Mun.ret_int (by unfold ownOf; rw [if_pos (by omega)]), rfl⟩


/-- The places that one may jump to, from place i on, with fuel. -/
def jumps (l : List Int) : Nat → Nat → List Int
  | 0, _ => []
  | n + 1, i => if i < l.length then (if l[i]?.getD 0 = 91 then [(i : Int)] else []) ++ jumps l n (i + 1 + (ownOf (l[i]?.getD 0)).toNat) else []

theorem jumps_nil (l : List Int) (n i : Nat) (h : l.length ≤ i) : jumps l n i = [] := by
  cases n with
  | zero => rfl
  | succ n => rw [jumps, if_neg (by omega)]

theorem jumps_len (l : List Int) : ∀ n i, (jumps l n i).length ≤ n
  | 0, _ => by simp [jumps]
  | n + 1, i => by
    have := jumps_len l n (i + 1 + (ownOf (l[i]?.getD 0)).toNat)
    rw [jumps]
    split <;> simp
    split <;> simp <;> omega

theorem own_bd (x : Int) (h1 : x ≤ 255) : 0 ≤ ownOf x ∧ ownOf x ≤ 32 := by
  unfold ownOf; split <;> omega

/-- What the loop of Jumps keeps. -/
structure JRel (l : List Int) (B : Nat) (w wr : World) (v : Value) (i : Nat) (done : List Int) (n : Nat) : Prop where
  tot : done ++ jumps l n i = jumps l l.length 0
  fuel : l.length ≤ i + n
  ile : i ≤ l.length + 32
  dlen : done.length + n ≤ l.length
  own : wr.ownsRow B 3 1 v done.length (done.map (Value.int .i64))
  below : Below B w wr

theorem elem3 : ElemOf Tryd.prog 70 3 (.int .i64 0) 1 8 := .mk' Tryd.underlying70 (by kernel_rfl) rfl (by decide)

theorem JRel.step_no {l : List Int} {B : Nat} {w wr : World} {v : Value} {i n : Nat} {done : List Int} (h : JRel l B w wr v i done n) (hlt : i < l.length) (hx : ¬ l[i]?.getD 0 = 91) (hb : l[i]?.getD 0 ≤ 255) :
    JRel l B w wr v (i + 1 + (ownOf (l[i]?.getD 0)).toNat) done (n - 1) := by
  obtain ⟨h1, h2, h3, h4, h5, h6⟩ := h
  have := own_bd _ hb
  obtain ⟨n, rfl⟩ : ∃ m, n = m + 1 := ⟨n - 1, by omega⟩
  rw [jumps, if_pos hlt, if_neg hx] at h1
  exact ⟨by simpa using h1, by simp; omega, by omega, by simp; omega, h5, h6⟩

theorem JRel.step_yes {l : List Int} {B : Nat} {w wr w1 : World} {v v' : Value} {i n : Nat} {done : List Int} (h : JRel l B w wr v i done n) (hlt : i < l.length) (hx : l[i]?.getD 0 = 91)
    (ho : w1.ownsRow B 3 1 v' (done.length + 1) (done.map (Value.int .i64) ++ [.int .i64 (i : Int)])) (hg : wr.grownBy w1 v.ownBlock) (hB : B ≤ wr.heap.size) :
    JRel l B w w1 v' (i + 1 + (ownOf (l[i]?.getD 0)).toNat) (done ++ [(i : Int)]) (n - 1) := by
  obtain ⟨h1, h2, h3, h4, h5, h6⟩ := h
  have := own_bd (l[i]?.getD 0) (by omega)
  obtain ⟨n, rfl⟩ : ∃ m, n = m + 1 := ⟨n - 1, by omega⟩
  rw [jumps, if_pos hlt, if_pos hx] at h1
  exact ⟨by simpa using h1, by simp; omega, by omega, by simp; omega, by simpa using ho, h6.grown hg hB (fun k hk => (h5.lt k hk).1)⟩

set_option maxHeartbeats 800000 in
theorem ops_jumps (a : Option Addr) (cap : Nat) (l : List Int) (w : World) (hi : Ints w .u8 a cap l) (hb : ∀ i, i < l.length → 0 ≤ l[i]?.getD 0 ∧ l[i]?.getD 0 ≤ 255) (hlen : l.length ≤ 1099511627776) :
    Calls Tryd.prog 45 #[.slice a l.length cap] w fun e w' => ∃ v, e = .returned v ∧ w'.ownsRow w.heap.size 3 1 v (jumps l l.length 0).length ((jumps l l.length 0).map (Value.int .i64)) ∧ Below w.heap.size w w' := by
  have HB := Lib.hid hb
  have HI := Lib.hid hi
  clear hb hi
  go_enter Tryd.func45, Tryd.ntmps45
  go_wp2
  go_loopw [3, 4] (fun v i wr => ∃ (k n : Nat) (done : List Int), k ≤ l.length + 32 ∧ i = .int .i64 k ∧ JRel l w.heap.size w wr v k done n) (fun _ i _ => l.length + 32 - (intOf i).toNat)
  case atStart => exact ⟨0, l.length, [], by omega, rfl, ⟨rfl, by omega, by omega, by simp, World.ownsRow_nil _ _ _ _, Below.refl _ _⟩⟩
  case round =>
    obtain ⟨k, n, done, hk, rfl, hr⟩ := hrel
    by_cases hlt : k < l.length
    · obtain ⟨b, off, rfl, hbl, hc⟩ := HI.out.at hlt
      have hck : wr.cell? ⟨b, off + k, none⟩ = some (.int .u8 (l[k]?.getD 0)) := (hr.below.cell (p := ⟨b, off + k, none⟩) hbl).trans (hc k hlt)
      clear hc
      have hr0 := (HB.out k hlt).1
      have hr1 := (HB.out k hlt).2
      have hob := own_bd _ hr1
      have hd := hr.dlen
      have hsz := hr.below.size
      have HR := Lib.hid hr
      clear hr
      generalize hx : l[k]?.getD 0 = x at *
      by_cases h91 : x = 91
      · have h91' : (x == 91) = true := by simpa using h91
        have HX := Lib.hid h91
        clear h91
        go_wp2_with (first | (go_at_call 63; refine (ops_own _ hr0 hr1 _).mono ?_; rintro e w' ⟨rfl, rfl⟩) | (at_builtin; refine wpList_append_new elem3 rfl _ _ rfl HR.out.own rfl 1 rfl rfl ?c1 ?c2 ?c3 ?c4 ?_))
        case c1 => simp [Value.oneCell']
        case c2 => unfold maxLen; omega
        case c3 => omega
        case c4 => exact hsz
        intro v' w1 ho hg _
        have hck1 : w1.cell? ⟨b, off + k, none⟩ = some (.int .u8 x) := hg.cell hck (fun e => by have := (HR.out.own.lt b e.symm).1; omega)
        go_wp2_with (go_at_call 63; refine (ops_own _ hr0 hr1 _).mono ?_; rintro e w' ⟨rfl, rfl⟩)
        go_roundw
        case rel => exact ⟨k + 1 + (ownOf x).toNat, n - 1, done ++ [(k : Int)], by omega, by go_num, by have := HR.out.step_yes hlt (by rw [hx]; exact HX.out) ho hg hsz; rw [hx] at this; exact this⟩
        case measure => simp [intOf]; omega
      · have h91' : (x == 91) = false := by simpa using h91
        go_wp2_with (go_at_call 63; refine (ops_own _ hr0 hr1 _).mono ?_; rintro e w' ⟨rfl, rfl⟩)
        go_roundw
        case rel => exact ⟨k + 1 + (ownOf x).toNat, n - 1, done, by omega, by go_num, by have := HR.out.step_no hlt (by rw [hx]; exact h91) (by rw [hx]; exact hr1); rw [hx] at this; exact this⟩
        case measure => simp [intOf]; omega
    · go_wp2
      go_ret
      have := hr.tot
      rw [jumps_nil _ _ _ (by omega), List.append_nil] at this
      rw [← this]
      exact ⟨_, rfl, hr.own, hr.below⟩
/-- Two lists of numbers, of one length, that agree at every place, are one. -/
theorem eq_of_getD (l m : List Int) (h : l.length = m.length) (hk : ∀ j, j < l.length → l[j]?.getD 0 = m[j]?.getD 0) : l = m := by
  apply List.ext_getElem h
  intro j h1 h2
  have := hk j h1
  simpa [h1, h2] using this

set_option maxHeartbeats 800000 in
theorem same_any (a b : Option Addr) (ca cb : Nat) (l m : List Int) (w : World) (ha : Ints w .i64 a ca l) (hb : Ints w .i64 b cb m) :
    Calls Tryd.prog 44 #[.slice a l.length ca, .slice b m.length cb] w fun e w' => e = .returned (.bool (decide (l = m))) ∧ Below w.heap.size w w' := by
  have hl := Nat.le_trans ha.len ha.cap
  have hm := Nat.le_trans hb.len hb.cap
  unfold maxLen at hl hm
  have HA := Lib.hid ha
  have HB := Lib.hid hb
  clear ha hb
  by_cases he : l.length = m.length
  · have he' : ((l.length : Int) != (m.length : Int)) = false := by simp [he]
    have HE := Lib.hid he
    clear he
    go_enter Tryd.func44, Tryd.ntmps44
    go_wp2
    go_loopw [5] (fun i wr => ∃ k : Nat, k ≤ l.length ∧ i = .int .i64 k ∧ (∀ j, j < k → l[j]?.getD 0 = m[j]?.getD 0) ∧ Below w.heap.size w wr) (fun i _ => l.length - (intOf i).toNat)
    case atStart => exact ⟨0, by omega, rfl, by intro j hj; omega, Below.refl _ _⟩
    case round =>
      obtain ⟨k, hk, rfl, hj, hbl⟩ := hrel
      have HJ := Lib.hid hj
      clear hj
      by_cases hlt : k < l.length
      · have hlt' : k < m.length := by have := HE.out; omega
        obtain ⟨b1, o1, rfl, hb1, hc1⟩ := HA.out.at hlt
        obtain ⟨b2, o2, rfl, hb2, hc2⟩ := HB.out.at hlt'
        have c1 : wr.cell? ⟨b1, o1 + k, none⟩ = some (.int .i64 (l[k]?.getD 0)) := (hbl.cell (p := ⟨b1, o1 + k, none⟩) hb1).trans (hc1 k hlt)
        have c2 : wr.cell? ⟨b2, o2 + k, none⟩ = some (.int .i64 (m[k]?.getD 0)) := (hbl.cell (p := ⟨b2, o2 + k, none⟩) hb2).trans (hc2 k hlt')
        clear hc1 hc2
        generalize hx : l[k]?.getD 0 = x at *
        generalize hy : m[k]?.getD 0 = y at *
        have HXY := Lib.hid (And.intro hx hy)
        clear hx hy
        by_cases hxy : x = y
        · have hxy' : (x != y) = false := by simp [hxy]
          have HQ := Lib.hid hxy
          clear hxy
          go_wp2
          go_quiet (fail)
          go_wp2
          go_roundw
          case rel =>
            refine ⟨k + 1, by omega, by go_num, ?_, by first | exact hbl | exact below_drewN hbl _⟩
            intro j hj
            rcases Nat.lt_succ_iff_lt_or_eq.1 hj with h | rfl
            · exact HJ.out j h
            · rw [HXY.out.1, HXY.out.2]; exact HQ.out
          case measure => simp [intOf]; omega
        · have hxy' : (x != y) = true := by simpa using hxy
          go_wp2
          go_quiet (fail)
          go_wp2
          go_ret
          refine ⟨ret_bool ?_, by first | exact hbl | exact below_drewN hbl _⟩
          symm
          refine decide_eq_false fun h => hxy ?_
          rw [← HXY.out.1, ← HXY.out.2, h]
      · go_wp2
        go_ret
        refine ⟨ret_bool ?_, hbl⟩
        symm
        refine decide_eq_true (eq_of_getD l m HE.out fun j hj => HJ.out j (by omega))
  · have he' : ((l.length : Int) != (m.length : Int)) = true := by simp; omega
    have hd : decide (l = m) = false := decide_eq_false fun h => he (by rw [h])
    go_enter Tryd.func44, Tryd.ntmps44
    go_wp2
    go_ret
    exact ⟨ret_bool hd.symm, Below.refl _ _⟩

theorem alive11 (w : World) :
    Calls Tryd.prog 26 #[] w fun e w' => e = .returned (.bool true) ∧ Below w.heap.size w w' := by
  have hd : Hid (decide (jumps [96, 91, 91] 3 0 = [2]) = true) := by unfold Hid; decide +kernel
  go_enter Tryd.func26, Tryd.ntmps26
  go_wp2_with fail
  refine (ops_jumps _ 3 [96, 91, 91] _ (Ints.new w .u8 [96, 91, 91] 5 (by unfold maxLen; decide)) (by intro i hi; match i, hi with | 0, _ => decide | 1, _ => decide | 2, _ => decide) (by decide)).mono ?_
  rintro e w1 ⟨v, rfl, hown, hb⟩
  obtain ⟨a, c, rfl, _, hI⟩ := Ints.of_own hown
  have HI := Lib.hid hI
  clear hI hown
  go_wp2_with fail
  refine (same_any a _ c 1 (jumps [96, 91, 91] 3 0) [2] _ (HI.out.below ((Below.refl _ _).alloc (Nat.le_refl _) _)) (Ints.new w1 .i64 [2] 3 (by unfold maxLen; decide))).mono ?_
  rintro e w2 ⟨rfl, hb2⟩
  rw [hd.out]
  go_wp2_with fail
  go_ret
  have e1 : Below w.heap.size w (w.alloc (Obj.cells #[Value.int IntKind.u8 96, Value.int IntKind.u8 91, Value.int IntKind.u8 91] 5)) := (Below.refl _ _).alloc (Nat.le_refl _) _
  have e2 := e1.trans (hb.mono (by simp))
  have e3 := e2.size
  exact ⟨rfl, (e2.alloc e3 (Obj.cells #[Value.int IntKind.i64 2] 3)).trans (hb2.mono (by simp; omega))⟩

end Go.Proofs.YtaoacfkifcglfaaDoor
