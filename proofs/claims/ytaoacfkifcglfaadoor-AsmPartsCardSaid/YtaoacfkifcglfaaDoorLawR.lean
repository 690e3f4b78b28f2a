/-
  The walk of HexReads: what every text is as bytes, as a word, as an address.
-/
import Derived.Test.YtaoacfkifcglfaaDoorLawN
namespace Go.Proofs.YtaoacfkifcglfaaDoor
open Go.RowKit Go.Mun
attribute [local irreducible] be beC zU8

def errK (o : Bool) : Int := if o then 0 else 2
def rdO (s : List UInt8) : Bool := (hexRead s).isSome
def rdL (s : List UInt8) : List Int := (hexRead s).getD []
def wdO (s : List UInt8) : Bool := (hexWord s).isSome
def wdL (s : List UInt8) : List Int := (hexWord s).getD (List.replicate 32 0)
def adO (s : List UInt8) : Bool := (hexAddr s).isSome
def adL (s : List UInt8) : List Int := (hexAddr s).getD (List.replicate 20 0)

theorem ints_nil (w : World) (k : IntKind) : Ints w k none 0 [] := ⟨fun h => absurd rfl h, fun _ => rfl, by simp, by simp⟩
theorem hex_read2 (s : ByteArray) (hs : s.size ≤ 1099511627776) (w : World) :
    Calls Tryd.prog 18 #[.string s] w fun e w' => (∃ a n c, e = .returned (.tuple #[.slice a n c, .int .i64 (errK (rdO s.data.toList))]) ∧ n = (rdL s.data.toList).length ∧ Ints w' .u8 a c (rdL s.data.toList)) ∧ Below w.heap.size w w' := by
  refine (hex_read s hs w).mono ?_
  rintro e w' ⟨h, hb⟩
  refine ⟨?_, hb⟩
  unfold rdO rdL
  cases hr : hexRead s.data.toList with
  | none => exact ⟨_, _, _, h.bad hr, rfl, ints_nil _ _⟩
  | some b =>
    obtain ⟨v, rfl, ho⟩ := h.good b hr
    obtain ⟨a, c, rfl, hn, hI⟩ := Ints.of_own' ho
    exact ⟨_, _, _, rfl, rfl, hI⟩
theorem ref_read2 (s : ByteArray) (hs : s.size ≤ 1099511627776) (w : World) :
    Calls Tryd.prog 19 #[.string s] w fun e w' => (∃ a n c, e = .returned (.tuple #[.slice a n c, .bool (rdO s.data.toList)]) ∧ n = (rdL s.data.toList).length ∧ Ints w' .u8 a c (rdL s.data.toList)) ∧ Below w.heap.size w w' := by
  refine (ref_read s hs w).mono ?_
  rintro e w' ⟨h, hb⟩
  refine ⟨?_, hb⟩
  unfold rdO rdL
  cases hr : hexRead s.data.toList with
  | none => exact ⟨_, _, _, h.bad hr, rfl, ints_nil _ _⟩
  | some b =>
    obtain ⟨v, rfl, ho⟩ := h.good b hr
    obtain ⟨a, c, rfl, hn, hI⟩ := Ints.of_own' ho
    exact ⟨_, _, _, rfl, rfl, hI⟩
theorem hexWord_len {s : List UInt8} {b : List Int} (h : hexWord s = some b) : b.length = 32 := by
  unfold hexWord at h
  cases hb : hexBody s with
  | none => rw [hb] at h; cases h
  | some r =>
    rw [hb] at h
    simp only [Option.bind_some] at h
    obtain ⟨rfl, hr⟩ := hexBody_inv hb
    split at h
    · rename_i hf
      cases h
      unfold wordFits at hf
      simp only [Bool.and_eq_true, Bool.or_eq_true, decide_eq_true_eq] at hf
      exact (padW_range r hr hf.2.1).1
    · cases h
theorem wdL_len (s : List UInt8) : (wdL s).length = 32 := by
  unfold wdL
  cases hr : hexWord s with
  | none => simp
  | some b => exact hexWord_len hr
theorem adL_len (s : List UInt8) : (adL s).length = 20 := by
  unfold adL
  cases hr : hexAddr s with
  | none => simp
  | some b =>
    unfold hexAddr at hr
    cases hx : hexRead s with
    | none => rw [hx] at hr; cases hr
    | some c =>
      rw [hx] at hr
      simp only [Option.bind_some] at hr
      split at hr
      · rename_i h20; cases hr; exact h20
      · cases hr
theorem hex_word2 (s : ByteArray) (hs : s.size ≤ 1099511627776) (w : World) :
    Calls Tryd.prog 16 #[.string s] w fun e w' => e = .returned (.tuple #[.agg (u8L (wdL s.data.toList)).toArray, .int .i64 (errK (wdO s.data.toList))]) ∧ Below w.heap.size w w' := by
  refine (hex_word s hs w).mono ?_
  rintro e w' ⟨rfl, hb⟩
  refine ⟨?_, hb⟩
  unfold wdO wdL wordV
  cases hr : hexWord s.data.toList with
  | none => simp only [Option.getD_none, u8L_replicate]; rfl
  | some b => rfl
theorem ref_word2 (s : ByteArray) (hs : s.size ≤ 1099511627776) (w : World) :
    Calls Tryd.prog 20 #[.string s] w fun e w' => e = .returned (.tuple #[.agg (u8L (wdL s.data.toList)).toArray, .bool (wdO s.data.toList)]) ∧ Below w.heap.size w w' := by
  refine (ref_word s hs w).mono ?_
  rintro e w' ⟨rfl, hb⟩
  refine ⟨?_, hb⟩
  rw [refWord_eq]
  unfold wdO wdL wordRV
  cases hr : hexWord s.data.toList with
  | none => simp only [Option.getD_none, u8L_replicate]; rfl
  | some b => rfl
theorem hex_addr2 (s : ByteArray) (hs : s.size ≤ 1099511627776) (w : World) :
    Calls Tryd.prog 21 #[.string s] w fun e w' => e = .returned (.tuple #[.agg (u8L (adL s.data.toList)).toArray, .int .i64 (errK (adO s.data.toList))]) ∧ Below w.heap.size w w' := by
  refine (hex_addr s hs w).mono ?_
  rintro e w' ⟨rfl, hb⟩
  refine ⟨?_, hb⟩
  unfold adO adL addrV
  cases hr : hexAddr s.data.toList with
  | none => simp only [Option.getD_none, u8L_replicate]; rfl
  | some b => rfl
theorem ref_addr2 (s : ByteArray) (hs : s.size ≤ 1099511627776) (w : World) :
    Calls Tryd.prog 22 #[.string s] w fun e w' => e = .returned (.tuple #[.agg (u8L (adL s.data.toList)).toArray, .bool (adO s.data.toList)]) ∧ Below w.heap.size w w' := by
  refine (ref_addr s hs w).mono ?_
  rintro e w' ⟨rfl, hb⟩
  refine ⟨?_, hb⟩
  unfold adO adL addrRV
  cases hr : hexAddr s.data.toList with
  | none => simp only [Option.getD_none, u8L_replicate]; rfl
  | some b => rfl

/-- A world behind a call, of which an array in an old block is as it was. -/
theorem rangeAt_below {w w' : World} (hb : Below w.heap.size w w') {b o n : Nat} {L : List Value} (h : w.row? b o n = some L) : w'.row? b o n = some L := by
  rw [(brow hb).1 _ _ _ (World.row?_lt h)]; exact h

/-- An array that was just laid and stored. -/
theorem laid_row {w0 w4 W : World} {n ty : Nat} {L : List Value} (hW : W = (w4.alloc (.cells (zU8 n).toArray ty)).setCells w4.heap.size 0 L) (hb : Below w0.heap.size w0 w4) (hok : okL n L = true) :
    Below w0.heap.size w0 W ∧ Below w4.heap.size w4 W ∧ W.row? w4.heap.size 0 n = some L := by
  subst hW
  exact ⟨(hb.alloc hb.size _).setCells hb.size _ _, ((Below.refl _ _).alloc (Nat.le_refl _) _).setCells (Nat.le_refl _) _ _, row?_setCells_whole _ (World.free?_alloc_at _ _ rfl (by simp)) hok⟩

set_option maxRecDepth 10000 in
set_option maxHeartbeats 800000 in
theorem hexReads_walk (s : ByteArray) (hs0 : s.size ≤ 9223372036854775807) (w : World) :
    Calls Tryd.prog 4 #[.string s] w fun e w' => e = .returned (.bool true) ∧ Below w.heap.size w w' := by
  by_cases hs : 10000 < s.size
  · go_enter Tryd.func4, Tryd.ntmps4
    go_wp2_with fail
    refine (alive3 _).mono ?_
    rintro e w1 ⟨rfl, hb1⟩
    go_wp2
    go_ret
    exact ⟨rfl, hb1⟩
  · have h40 : s.size ≤ 1099511627776 := by omega
    have HR := Lib.hid (fun w => hex_read2 s h40 w)
    have HR' := Lib.hid (fun w => ref_read2 s h40 w)
    have HW := Lib.hid (fun w => hex_word2 s h40 w)
    have HW' := Lib.hid (fun w => ref_word2 s h40 w)
    have HA := Lib.hid (fun w => hex_addr2 s h40 w)
    have HA' := Lib.hid (fun w => ref_addr2 s h40 w)
    have lw := wdL_len s.data.toList
    have la := adL_len s.data.toList
    generalize rdO s.data.toList = o1 at *
    generalize rdL s.data.toList = l1 at *
    generalize wdO s.data.toList = o2 at *
    generalize wdL s.data.toList = l2 at *
    generalize adO s.data.toList = o3 at *
    generalize adL s.data.toList = l3 at *
    have LW := Lib.hid lw
    have LA := Lib.hid la
    have ok2 : okL 32 (u8L l2) = true := u8L_ok _ 32 lw
    have ok3 : okL 20 (u8L l3) = true := u8L_ok _ 20 la
    have q2 := fun wx => eq25 l2 l2 lw lw wx
    have q3 := fun wx => eq41 l3 l3 la la wx
    clear lw la
    go_enter Tryd.func4, Tryd.ntmps4
    go_wp2_with fail
    refine (alive3 _).mono ?_
    rintro e w1 ⟨rfl, hb1⟩
    have B1 := Lib.hid hb1
    clear hb1
    go_wp2_with fail
    refine (HR.out _).mono ?_
    rintro e w2 ⟨⟨a, n, c, rfl, hn, hI⟩, hb⟩
    have I2 := Lib.hid hI
    have N2 := Lib.hid hn
    have B2 := Lib.hid (show Below w.heap.size w w2 from B1.out.trans (hb.mono B1.out.size))
    clear hI hb hn
    go_wp2_with fail
    refine (HR'.out _).mono ?_
    rintro e w3 ⟨⟨a', n', c', rfl, hn, hI⟩, hb⟩
    have I3 := Lib.hid hI
    have N3 := Lib.hid hn
    have J3 := Lib.hid (I2.out.below hb)
    have B3 := Lib.hid (show Below w.heap.size w w3 from B2.out.trans (hb.mono B2.out.size))
    clear hI hb hn
    go_wp2_with fail
    refine (HW.out _).mono ?_
    rintro e w4 ⟨rfl, hb⟩
    have I4 := Lib.hid (I3.out.below hb)
    have J4 := Lib.hid (J3.out.below hb)
    have B4 := Lib.hid (show Below w.heap.size w w4 from B3.out.trans (hb.mono B3.out.size))
    clear hb
    go_wp2_with fail
    obtain ⟨W5, hW5⟩ : ∃ W5, W5 = (w4.alloc (.cells (zU8 32).toArray 25)).setCells w4.heap.size 0 (u8L l2) := ⟨_, rfl⟩
    rw [← hW5]
    obtain ⟨b5, d5, r5⟩ := laid_row hW5 B4.out ok2
    have B5 := Lib.hid b5
    have I5 := Lib.hid (I4.out.below d5)
    have J5 := Lib.hid (J4.out.below d5)
    have R5 := Lib.hid r5
    clear hW5 b5 d5 r5
    generalize w4.heap.size = p1 at *
    refine (HW'.out _).mono ?_
    rintro e w6 ⟨rfl, hb⟩
    have I6 := Lib.hid (I5.out.below hb)
    have J6 := Lib.hid (J5.out.below hb)
    have R6 := Lib.hid (rangeAt_below hb R5.out)
    have B6 := Lib.hid (show Below w.heap.size w w6 from B5.out.trans (hb.mono B5.out.size))
    clear hb
    go_wp2_with fail
    obtain ⟨W7, hW7⟩ : ∃ W7, W7 = (w6.alloc (.cells (zU8 32).toArray 25)).setCells w6.heap.size 0 (u8L l2) := ⟨_, rfl⟩
    rw [← hW7]
    obtain ⟨b5, d5, r5⟩ := laid_row hW7 B6.out ok2
    have B7 := Lib.hid b5
    have I7 := Lib.hid (I6.out.below d5)
    have J7 := Lib.hid (J6.out.below d5)
    have R7 := Lib.hid (rangeAt_below d5 R6.out)
    have S7 := Lib.hid r5
    clear hW7 b5 d5 r5
    generalize w6.heap.size = p2 at *
    refine (HA.out _).mono ?_
    rintro e w8 ⟨rfl, hb⟩
    have I8 := Lib.hid (I7.out.below hb)
    have J8 := Lib.hid (J7.out.below hb)
    have R8 := Lib.hid (rangeAt_below hb R7.out)
    have S8 := Lib.hid (rangeAt_below hb S7.out)
    have B8 := Lib.hid (show Below w.heap.size w w8 from B7.out.trans (hb.mono B7.out.size))
    clear hb
    go_wp2_with fail
    obtain ⟨W9, hW9⟩ : ∃ W9, W9 = (w8.alloc (.cells (zU8 20).toArray 41)).setCells w8.heap.size 0 (u8L l3) := ⟨_, rfl⟩
    rw [← hW9]
    obtain ⟨b5, d5, r5⟩ := laid_row hW9 B8.out ok3
    have B9 := Lib.hid b5
    have I9 := Lib.hid (I8.out.below d5)
    have J9 := Lib.hid (J8.out.below d5)
    have R9 := Lib.hid (rangeAt_below d5 R8.out)
    have S9 := Lib.hid (rangeAt_below d5 S8.out)
    have T9 := Lib.hid r5
    clear hW9 b5 d5 r5
    generalize w8.heap.size = p3 at *
    refine (HA'.out _).mono ?_
    rintro e w10 ⟨rfl, hb⟩
    have I10 := Lib.hid (I9.out.below hb)
    have J10 := Lib.hid (J9.out.below hb)
    have R10 := Lib.hid (rangeAt_below hb R9.out)
    have S10 := Lib.hid (rangeAt_below hb S9.out)
    have T10 := Lib.hid (rangeAt_below hb T9.out)
    have B10 := Lib.hid (show Below w.heap.size w w10 from B9.out.trans (hb.mono B9.out.size))
    clear hb
    go_wp2_with fail
    obtain ⟨W, hW⟩ : ∃ W, W = (w10.alloc (.cells (zU8 20).toArray 41)).setCells w10.heap.size 0 (u8L l3) := ⟨_, rfl⟩
    rw [← hW]
    obtain ⟨b5, d5, r4⟩ := laid_row hW B10.out ok3
    have BW := Lib.hid b5
    have r1 := rangeAt_below d5 R10.out
    have r2 := rangeAt_below d5 S10.out
    have r3 := rangeAt_below d5 T10.out
    have c1 := run_bytes_string' (P := Tryd.prog) Tryd.underlying33 Tryd.underlying5 Tryd.underlying9 N2.out (J10.out.below d5)
    have c2 := run_bytes_string' (P := Tryd.prog) Tryd.underlying33 Tryd.underlying5 Tryd.underlying9 N3.out (I10.out.below d5)
    clear hW b5 d5
    generalize w10.heap.size = p4 at *
    generalize strOf l1 = q at *
    have et : errK true = 0 := rfl
    have ef : errK false = 2 := rfl
    clear HR HR' HW HW' HA HA' B1 B2 I2 N2 I3 J3 N3 B3 I4 J4 B4 B5 I5 J5 R5 B6 I6 J6 R6 B7 I7 J7 R7 S7 B8 I8 J8 R8 S8 B9 I9 J9 R9 S9 T9 B10 I10 J10 R10 S10 T10
    cases o1 <;> cases o2 <;> cases o3
    all_goals
      go_wp2_with (go_at_call 17; refine (num3 _ _).mono ?_; rintro e w6 ⟨rfl, rfl⟩)
      go_ret
      exact ⟨rfl, BW.out⟩
theorem hexReads_law (s : ByteArray) (h : s.size ≤ maxLen) (w : World) :
    Calls Tryd.prog 4 #[.string s] w fun e w' => e = .returned (.bool true) ∧ Below w.heap.size w w' := hexReads_walk s (by unfold maxLen at h; exact h) w
end Go.Proofs.YtaoacfkifcglfaaDoor
