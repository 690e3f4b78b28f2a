/-
  Reading items: the program's Read.
  Items as numbers: what the program reads of one.
  Items as numbers: the program's Int.
  Items as words: the program's Word.
  Items as addresses: the program's Address.
  Items as numbers in a row: the program's Numbers.
  The rules for this program's structs, as segments (written by a program of this seat).
  Words: contract of Of.
-/
import Derived.Test.YtikiciojfhfagaaGreatQRd1
import Derived.Test.YtikiciojfhfagaaGreatQOps3
import Derived.Test.YtikiciojfhfagaaGreatProg
import Derived.Test.YtikiciojfhfagaaGreatQTy4
import Derived.Test.YtikiciojfhfagaaGreatQWrd4
set_option linter.unusedVariables false
set_option linter.unusedSimpArgs false
namespace Go.Mun
/-- All of the bytes are one item. -/
def rdAll (L : Bts) : RdR := match rdT 32 L with
  | .err e => .err e
  | .ok t n => if n = L.length then .ok t n else .err 4
end Go.Mun
namespace Go.Proofs.YtikiciojfhfagaaGreat
open Go.RowKit Go.Mun

theorem read_all : ∀ d, ReadOk d := by
  intro d
  induction d with
  | zero =>
    intro a c L w hI hby hlen hd
    by_cases hs : L = [] ∨ L[0]?.getD 0 < 128
    · exact read_small 0 a c L w hI hby hs
    · have hne : L ≠ [] := fun h => hs (.inl h)
      have h1 : ¬ L[0]?.getD 0 < 128 := fun h => hs (.inr h)
      by_cases h2 : L[0]?.getD 0 < 192
      · exact read_bytes 0 a c L w hI hby hlen hne h1 h2
      · exact read_deep a c L w hI hne h2
  | succ d ih =>
    intro a c L w hI hby hlen hd
    by_cases hs : L = [] ∨ L[0]?.getD 0 < 128
    · exact read_small (d + 1) a c L w hI hby hs
    · have hne : L ≠ [] := fun h => hs (.inl h)
      have h1 : ¬ L[0]?.getD 0 < 128 := fun h => hs (.inr h)
      by_cases h2 : L[0]?.getD 0 < 192
      · exact read_bytes (d + 1) a c L w hI hby hlen hne h1 h2
      · exact read_list d ih hd a c L w hI hby hlen hne h2
/-- What a reader of all the bytes comes to. -/
def TopIs (w w' : World) (r : RdR) (e : Ending) : Prop := Below w.heap.size w w' ∧ match r with
  | .err x => e = .returned (.tuple #[.agg itemZ.toArray, .int .i64 x])
  | .ok t _ => ∃ cs, e = .returned (.tuple #[.agg cs.toArray, .int .i64 0]) ∧ TopAt w' (fun b => w.heap.size ≤ b) cs t
theorem topIs_err {w w' : World} {r : RdR} {x : Nat} (h : r = .err x) (hb : Below w.heap.size w w') : TopIs w w' r (.returned (.tuple #[.agg itemZ.toArray, .int .i64 x])) := by
  subst h; exact ⟨hb, rfl⟩
theorem topIs_ok {w w' : World} {r : RdR} {t : Top} {n : Nat} {cs : List Value} (h : r = .ok t n) (hb : Below w.heap.size w w') (ht : TopAt w' (fun b => w.heap.size ≤ b) cs t) : TopIs w w' r (.returned (.tuple #[.agg cs.toArray, .int .i64 0])) := by
  subst h; exact ⟨hb, cs, rfl, ht⟩
theorem TopAt.lenok {w : World} {R : Nat → Prop} {cs : List Value} {t : Top} (h : TopAt w R cs t) : cs.length = 3 ∧ okL 3 cs = true := ⟨h.kid.len, h.kid.ok⟩
set_option maxRecDepth 100000 in
set_option maxHeartbeats 1000000 in
theorem rlp_Read (a : Option Addr) (c : Nat) (L : Bts) (w : World) (hI : Ints w .u8 a c L) (hby : Byt L) (hlen : L.length ≤ 16777216) :
    Calls Tryz.prog 56 #[.slice a L.length c] w fun e w' => TopIs w w' (rdAll L) e := by
  have hok : okL 3 itemZ = true := itemZ_ok
  obtain ⟨w0, e0⟩ : ∃ w0, w0 = w.alloc (.cells itemZ.toArray 65) := ⟨_, rfl⟩
  have hb0 : Below w.heap.size w w0 := by rw [e0]; exact (Below.refl _ _).alloc (Nat.le_refl _) _
  have hf0 : w0.free? w.heap.size 0 3 = true := by rw [e0]; exact itemZ_row w
  have HRD := Lib.hid (read_all 32 a c L w0 (hI.below hb0) hby hlen (Nat.le_refl _))
  have HE := Lib.hid e0
  have HB := Lib.hid hb0
  have HF := Lib.hid hf0
  have dl : decide ((16777216 : Int) < L.length) = false := decide_eq_false (by omega)
  have HRA : Hid (rdAll L = match rdT 32 L with | .err e => .err e | .ok t n => if n = L.length then .ok t n else .err 4) := rfl
  have HRB := Lib.hid (rdT_reads 32 L)
  have HER := Lib.hid (rdT_errs 32 L)
  clear hI hby hlen e0 hb0 hf0
  go_enter Tryz.func56, Tryz.ntmps56
  go_wp2_with fail
  rw [← HE.out]
  refine HRD.out.mono ?_
  rintro e w1 ⟨hb1, hr⟩
  have f1 : w1.free? w.heap.size 0 3 = true := by rw [(brow hb1).2 _ _ _ (free?_lt HF.out)]; exact HF.out
  have f4 : (w1.alloc (.cells itemZ.toArray 65)).free? w1.heap.size 0 3 = true := itemZ_row w1
  have HB1 := Lib.hid (HB.out.trans (hb1.mono HB.out.size))
  have hsz0 : w.heap.size < w0.heap.size := free?_lt HF.out
  have HSZ := Lib.hid hsz0
  have HSZ1 := Lib.hid hb1.size
  cases er : rdT 32 L with
  | err x =>
    rw [er] at hr
    simp only at hr
    subst hr
    have hx := HER.out x er
    have dx : ((x : Int) == 0) = false := by simpa using hx
    have hR : rdAll L = .err x := by rw [HRA.out, er]
    have HR := Lib.hid hR
    have f5 : ((w1.alloc (.cells itemZ.toArray 65)).setCells w1.heap.size 0 itemZ).free? w.heap.size 0 3 = true := by
      rw [World.free?_setCells', World.free?_alloc_lt _ (free?_lt f1)]; exact f1
    clear hb1 er hR hx
    go_wp2
    refine ret_row2 ty61 rfl _ _ rfl rfl rfl (row?_setCells_whole _ f5 hok) (topIs_err HR.out (((HB1.out.alloc HB1.out.size _).setCells HB1.out.size _ _).setCells (Nat.le_refl _) _ _))
  | ok t n =>
    rw [er] at hr
    obtain ⟨cs, rfl, htop⟩ := hr
    obtain ⟨hcl, hcok⟩ := htop.lenok
    have f5 : ((w1.alloc (.cells itemZ.toArray 65)).setCells w1.heap.size 0 cs).free? w.heap.size 0 3 = true := by
      rw [World.free?_setCells', World.free?_alloc_lt _ (free?_lt f1)]; exact f1
    by_cases hn : n = L.length
    · have hR : rdAll L = .ok t n := by rw [HRA.out, er]; exact if_pos hn
      have HR := Lib.hid hR
      have dn : ((n : Int) == (L.length : Int)) = true := by simp [hn]
      have hz := (Arr.new w1 3 itemZ 65 rfl).setCells cs hcok
      have rz := hz.row
      have HT := Lib.hid htop
      clear hb1 er hR hn htop hz
      go_wp2
      have hO : Only (fun b => b = w.heap.size) w1 (((w1.alloc (.cells itemZ.toArray 65)).setCells w1.heap.size 0 cs).setCells w.heap.size 0 cs) := ((((Only.refl (fun b => b = w.heap.size) w1).alloc _).setCells (fun hh => absurd hh (Nat.lt_irrefl _)) _ _).setCells (fun _ => rfl) _ _)
      refine ret_row2 ty61 rfl _ _ rfl rfl rfl (row?_setCells_whole _ f5 hcok) (topIs_ok HR.out (((HB1.out.alloc HB1.out.size _).setCells HB1.out.size _ _).setCells (Nat.le_refl _) _ _) (HT.out.only hO (fun b _ hb => by have := HSZ.out; omega) (fun b _ hb => by have := HSZ.out; omega)))
    · have hR : rdAll L = .err 4 := by rw [HRA.out, er]; exact if_neg hn
      have HR := Lib.hid hR
      have dn : ((n : Int) == (L.length : Int)) = false := by simp; omega
      clear hb1 er hR hn htop
      go_wp2
      refine ret_row2 ty61 rfl _ _ rfl rfl rfl (row?_setCells_whole _ f5 hok) (topIs_err (x := 4) HR.out (((HB1.out.alloc HB1.out.size _).setCells HB1.out.size _ _).setCells (Nat.le_refl _) _ _))
end Go.Proofs.YtikiciojfhfagaaGreat
namespace Go.Mun
/-- Are an item's bytes a number's, without noughts ahead? -/
def numB : Option Bts → Bool
  | some l => l.isEmpty || !(l[0]?.getD 0 == 0)
  | none => false
end Go.Mun
namespace Go.Proofs.YtikiciojfhfagaaGreat
open Go.RowKit Go.Mun

attribute [local go_sem] ta26 ta59 ta59'
theorem of_some (a : Option Addr) (n c : Nat) (w : World) : Calls Tryz.prog 67 #[.agg #[.bool false, .slice a n c, .slice none 0 0]] w fun e w' => e = .returned (.iface 26 (.slice a n c)) ∧ Below w.heap.size w w' := by
  go_enter Tryz.func67, Tryz.ntmps67
  go_wp2
  go_ret
  exact ⟨rfl, (Below.refl _ _).alloc (Nat.le_refl _) _⟩
theorem kid_of {cs : List Value} {k : Option Bts} {R : Nat → Prop} {w0 : World} (h : KidAt w0 R cs k) (w : World) : Calls Tryz.prog 67 #[.agg cs.toArray] w fun e w' => e = .returned (ifaceOf cs) ∧ Below w.heap.size w w' := by
  cases k with
  | none =>
    obtain ⟨a, n, c, rfl⟩ := h
    go_enter Tryz.func67, Tryz.ntmps67
    go_wp2
    go_ret
    exact ⟨rfl, (Below.refl _ _).alloc (Nat.le_refl _) _⟩
  | some l =>
    obtain ⟨a, c, rfl, _⟩ := h
    go_enter Tryz.func67, Tryz.ntmps67
    go_wp2
    go_ret
    exact ⟨rfl, (Below.refl _ _).alloc (Nat.le_refl _) _⟩
set_option maxRecDepth 100000 in
theorem bytes_none (a : Option Addr) (n c : Nat) (w : World) : Calls Tryz.prog 87 #[.agg #[.bool true, .slice none 0 0, .slice a n c]] w fun e w' => e = .returned (.tuple #[.slice none 0 0, .bool false]) ∧ Below w.heap.size w w' := by
  have HK := Lib.hid (fun w => kid_of (cs := [.bool true, .slice none 0 0, .slice a n c]) (k := none) (R := fun _ => True) (w0 := w) ⟨a, n, c, rfl⟩ w)
  have hb0 : Below w.heap.size w (w.alloc (.cells #[.bool true, .slice none 0 0, .slice a n c] 65)) := (Below.refl _ _).alloc (Nat.le_refl _) _
  have HB := Lib.hid hb0
  have hr : (w.alloc (.cells #[.bool true, .slice none 0 0, .slice a n c] 65)).row? w.heap.size 0 3 = some [.bool true, .slice none 0 0, .slice a n c] := World.row?_alloc_at [.bool true, .slice none 0 0, .slice a n c] 65 _ rfl rfl
  clear hb0
  go_enter Tryz.func87, Tryz.ntmps87
  go_wp2_with fail
  refine (HK.out _).mono ?_
  rintro e w1 ⟨rfl, hb⟩
  have HB1 := Lib.hid (HB.out.trans (hb.mono HB.out.size))
  have hif : ifaceOf [.bool true, .slice none 0 0, .slice a n c] = .iface 63 (.slice a n c) := rfl
  rw [hif]
  obtain ⟨T, hT⟩ : ∃ T : World → Prop, T = fun _ => True := ⟨_, rfl⟩
  have HT := Lib.hid hT
  have t0 : T w1.drew := by rw [hT]; trivial
  clear hb hr hT
  go_wp2_with fail
  refine wp_region_tree T [] (.pure 0 (.pure 1 (.pure 2 (.take 3 (.take 4 (.take 5 (.take 6 (.take 7 (.take 8 (.take 9 (.take 10 (.take 11 (.pure 12 (.pure 13 (.pure 14 .fin))))))))))))))) (by kernel_rfl) (by kernel_rfl) ?_
  refine tree_pure ?_ rfl (by rfl) (fun w' hs => ?_) (fun _ _ _ h => h) ?_
  rotate_left
  · clear hs
    go_simp
    try rfl
  simp only [Act.put, List.setIfInBounds_toArray, List.set_cons_zero, List.set_cons_succ]
  refine tree_pure ?_ rfl (by rfl) (fun w' hs => ?_) (fun _ _ _ h => h) ?_
  rotate_left
  · clear hs
    go_simp
    try rfl
  simp only [Act.put, List.setIfInBounds_toArray, List.set_cons_zero, List.set_cons_succ]
  refine tree_pure ?_ rfl (by rfl) (fun w' hs => ?_) (fun _ _ _ h => h) ?_
  rotate_left
  · clear hs
    go_simp
    try rfl
  simp only [Act.put, List.setIfInBounds_toArray, List.set_cons_zero, List.set_cons_succ]
  refine tree_skip t0 rfl (by rfl) (fun _ _ _ h => h) ?_
  simp only [Act.put, List.setIfInBounds_toArray, List.set_cons_zero, List.set_cons_succ]
  refine tree_skip t0 rfl (by rfl) (fun _ _ _ h => h) ?_
  simp only [Act.put, List.setIfInBounds_toArray, List.set_cons_zero, List.set_cons_succ]
  refine tree_skip t0 rfl (by rfl) (fun _ _ _ h => h) ?_
  simp only [Act.put, List.setIfInBounds_toArray, List.set_cons_zero, List.set_cons_succ]
  refine tree_skip t0 rfl (by rfl) (fun _ _ _ h => h) ?_
  simp only [Act.put, List.setIfInBounds_toArray, List.set_cons_zero, List.set_cons_succ]
  refine tree_skip t0 rfl (by rfl) (fun _ _ _ h => h) ?_
  simp only [Act.put, List.setIfInBounds_toArray, List.set_cons_zero, List.set_cons_succ]
  refine tree_skip t0 rfl (by rfl) (fun _ _ _ h => h) ?_
  simp only [Act.put, List.setIfInBounds_toArray, List.set_cons_zero, List.set_cons_succ]
  refine tree_skip t0 rfl (by rfl) (fun _ _ _ h => h) ?_
  simp only [Act.put, List.setIfInBounds_toArray, List.set_cons_zero, List.set_cons_succ]
  refine tree_skip t0 rfl (by rfl) (fun _ _ _ h => h) ?_
  simp only [Act.put, List.setIfInBounds_toArray, List.set_cons_zero, List.set_cons_succ]
  refine tree_skip t0 rfl (by rfl) (fun _ _ _ h => h) ?_
  simp only [Act.put, List.setIfInBounds_toArray, List.set_cons_zero, List.set_cons_succ]
  refine tree_pure (.bool false) rfl (by rfl) (fun w' hs => ?_) (fun _ _ _ h => h) ?_
  · clear hs
    go_simp
  simp only [Act.put, List.setIfInBounds_toArray, List.set_cons_zero, List.set_cons_succ]
  refine tree_pure ?_ rfl (by rfl) (fun w' hs => ?_) (fun _ _ _ h => h) ?_
  rotate_left
  · clear hs
    go_simp
    try rfl
  simp only [Act.put, List.setIfInBounds_toArray, List.set_cons_zero, List.set_cons_succ]
  refine tree_pure ?_ rfl (by rfl) (fun w' hs => ?_) (fun _ _ _ h => h) ?_
  rotate_left
  · clear hs
    go_simp
    try rfl
  simp only [Act.put, List.setIfInBounds_toArray, List.set_cons_zero, List.set_cons_succ]
  refine tree_fin ?_
  go_wp2
  go_ret2
  exact ⟨rfl, HB1.out.drew⟩
set_option maxRecDepth 100000 in
set_option maxHeartbeats 1000000 in
theorem bytes_some (a : Option Addr) (c : Nat) (l : Bts) (w : World) (hI : Ints w .u8 a c l) : Calls Tryz.prog 87 #[.agg #[.bool false, .slice a l.length c, .slice none 0 0]] w fun e w' => e = .returned (.tuple #[.slice a l.length c, .bool (numB (some l))]) ∧ Below w.heap.size w w' := by
  have HK := Lib.hid (fun w => of_some a l.length c w)
  have hb0 : Below w.heap.size w (w.alloc (.cells #[.bool false, .slice a l.length c, .slice none 0 0] 65)) := (Below.refl _ _).alloc (Nat.le_refl _) _
  have HB := Lib.hid hb0
  have HI := Lib.hid hI
  have hr : (w.alloc (.cells #[.bool false, .slice a l.length c, .slice none 0 0] 65)).row? w.heap.size 0 3 = some [.bool false, .slice a l.length c, .slice none 0 0] := World.row?_alloc_at [.bool false, .slice a l.length c, .slice none 0 0] 65 _ rfl rfl
  clear hb0 hI
  go_enter Tryz.func87, Tryz.ntmps87
  go_wp2_with fail
  refine (HK.out _).mono ?_
  rintro e w1 ⟨rfl, hb⟩
  have HB1 := Lib.hid (HB.out.trans (hb.mono HB.out.size))
  clear hb hr
  by_cases hl : l = []
  · subst hl
    obtain ⟨T, hT⟩ : ∃ T : World → Prop, T = fun _ => True := ⟨_, rfl⟩
    have HT := Lib.hid hT
    have t0 : T w1.drew := by rw [hT]; trivial
    clear hT
    go_wp2_with fail
    refine wp_region_tree T [] (.pure 0 (.pure 1 (.pure 2 (.pure 3 (.pure 4 (.pure 5 (.pure 6 (.take 7 (.take 8 (.take 9 (.take 10 (.pure 11 (.pure 12 (.pure 13 (.pure 14 .fin))))))))))))))) (by kernel_rfl) (by kernel_rfl) ?_
    refine tree_pure ?_ rfl (by rfl) (fun w' hs => ?_) (fun _ _ _ h => h) ?_
    rotate_left
    · clear hs
      go_simp
      try rfl
    simp only [Act.put, List.setIfInBounds_toArray, List.set_cons_zero, List.set_cons_succ]
    refine tree_pure ?_ rfl (by rfl) (fun w' hs => ?_) (fun _ _ _ h => h) ?_
    rotate_left
    · clear hs
      go_simp
      try rfl
    simp only [Act.put, List.setIfInBounds_toArray, List.set_cons_zero, List.set_cons_succ]
    refine tree_pure ?_ rfl (by rfl) (fun w' hs => ?_) (fun _ _ _ h => h) ?_
    rotate_left
    · clear hs
      go_simp
      try rfl
    simp only [Act.put, List.setIfInBounds_toArray, List.set_cons_zero, List.set_cons_succ]
    refine tree_pure ?_ rfl (by rfl) (fun w' hs => ?_) (fun _ _ _ h => h) ?_
    rotate_left
    · clear hs
      go_simp
      try rfl
    simp only [Act.put, List.setIfInBounds_toArray, List.set_cons_zero, List.set_cons_succ]
    refine tree_pure ?_ rfl (by rfl) (fun w' hs => ?_) (fun _ _ _ h => h) ?_
    rotate_left
    · clear hs
      go_simp
      try rfl
    simp only [Act.put, List.setIfInBounds_toArray, List.set_cons_zero, List.set_cons_succ]
    refine tree_pure (.bool true) rfl (by rfl) (fun w' hs => ?_) (fun _ _ _ h => h) ?_
    · clear hs
      go_simp
    simp only [Act.put, List.setIfInBounds_toArray, List.set_cons_zero, List.set_cons_succ]
    refine tree_pure ?_ rfl (by rfl) (fun w' hs => ?_) (fun _ _ _ h => h) ?_
    rotate_left
    · clear hs
      go_simp
      try rfl
    simp only [Act.put, List.setIfInBounds_toArray, List.set_cons_zero, List.set_cons_succ]
    refine tree_skip t0 rfl (by rfl) (fun _ _ _ h => h) ?_
    simp only [Act.put, List.setIfInBounds_toArray, List.set_cons_zero, List.set_cons_succ]
    refine tree_skip t0 rfl (by rfl) (fun _ _ _ h => h) ?_
    simp only [Act.put, List.setIfInBounds_toArray, List.set_cons_zero, List.set_cons_succ]
    refine tree_skip t0 rfl (by rfl) (fun _ _ _ h => h) ?_
    simp only [Act.put, List.setIfInBounds_toArray, List.set_cons_zero, List.set_cons_succ]
    refine tree_skip t0 rfl (by rfl) (fun _ _ _ h => h) ?_
    simp only [Act.put, List.setIfInBounds_toArray, List.set_cons_zero, List.set_cons_succ]
    refine tree_pure (.bool true) rfl (by rfl) (fun w' hs => ?_) (fun _ _ _ h => h) ?_
    · clear hs
      go_simp
    simp only [Act.put, List.setIfInBounds_toArray, List.set_cons_zero, List.set_cons_succ]
    refine tree_pure (.bool true) rfl (by rfl) (fun w' hs => ?_) (fun _ _ _ h => h) ?_
    · clear hs
      go_simp
    simp only [Act.put, List.setIfInBounds_toArray, List.set_cons_zero, List.set_cons_succ]
    refine tree_pure ?_ rfl (by rfl) (fun w' hs => ?_) (fun _ _ _ h => h) ?_
    rotate_left
    · clear hs
      go_simp
      try rfl
    simp only [Act.put, List.setIfInBounds_toArray, List.set_cons_zero, List.set_cons_succ]
    refine tree_pure ?_ rfl (by rfl) (fun w' hs => ?_) (fun _ _ _ h => h) ?_
    rotate_left
    · clear hs
      go_simp
      try rfl
    simp only [Act.put, List.setIfInBounds_toArray, List.set_cons_zero, List.set_cons_succ]
    refine tree_fin ?_
    go_wp2
    go_ret2
    exact ⟨rfl, HB1.out.drew⟩
  · have hlen : 0 < l.length := List.length_pos_iff.2 hl
    obtain ⟨b, off, rfl, hbl, hc⟩ := HI.out.at hlen
    have hd : (l.length == 0) = false := by simp; omega
    have hdI : ((l.length : Int) == 0) = false := by simp; omega
    obtain ⟨x, hx⟩ : ∃ x, l[0]?.getD 0 = x := ⟨_, rfl⟩
    have hnb : numB (some l) = (x != 0) := by
      show (l.isEmpty || !(l[0]?.getD 0 == 0)) = _
      rw [hx]
      cases l with
      | nil => exact absurd rfl hl
      | cons _ _ => rfl
    have HNB := Lib.hid hnb
    obtain ⟨T, hT⟩ : ∃ T : World → Prop, T = fun w' => w'.cell? ⟨b, off, none⟩ = some (.int .u8 x) := ⟨_, rfl⟩
    have HT := Lib.hid hT
    have t0 : T w1.drew := by
      rw [hT]
      have h0 := hc 0 hlen
      rw [hx, Nat.add_zero] at h0
      exact ((HB1.out.drew).cell (p := ⟨b, off, none⟩) hbl).trans h0
    clear hT hc hnb hx hl
    go_wp2_with fail
    refine wp_region_tree T [] (.pure 0 (.pure 1 (.pure 2 (.pure 3 (.pure 4 (.pure 5 (.pure 6 (.pure 7 (.pure 8 (.take 9 (.pure 10 (.pure 11 (.pure 12 (.pure 13 (.pure 14 .fin))))))))))))))) (by kernel_rfl) (by kernel_rfl) ?_
    refine tree_pure ?_ rfl (by rfl) (fun w' hs => ?_) (fun _ _ _ h => h) ?_
    rotate_left
    · clear hs
      go_simp
      try rfl
    simp only [Act.put, List.setIfInBounds_toArray, List.set_cons_zero, List.set_cons_succ]
    refine tree_pure ?_ rfl (by rfl) (fun w' hs => ?_) (fun _ _ _ h => h) ?_
    rotate_left
    · clear hs
      go_simp
      try rfl
    simp only [Act.put, List.setIfInBounds_toArray, List.set_cons_zero, List.set_cons_succ]
    refine tree_pure ?_ rfl (by rfl) (fun w' hs => ?_) (fun _ _ _ h => h) ?_
    rotate_left
    · clear hs
      go_simp
      try rfl
    simp only [Act.put, List.setIfInBounds_toArray, List.set_cons_zero, List.set_cons_succ]
    refine tree_pure ?_ rfl (by rfl) (fun w' hs => ?_) (fun _ _ _ h => h) ?_
    rotate_left
    · clear hs
      go_simp
      try rfl
    simp only [Act.put, List.setIfInBounds_toArray, List.set_cons_zero, List.set_cons_succ]
    refine tree_pure ?_ rfl (by rfl) (fun w' hs => ?_) (fun _ _ _ h => h) ?_
    rotate_left
    · clear hs
      go_simp
      try rfl
    simp only [Act.put, List.setIfInBounds_toArray, List.set_cons_zero, List.set_cons_succ]
    refine tree_pure (.bool false) rfl (by rfl) (fun w' hs => ?_) (fun _ _ _ h => h) ?_
    · clear hs
      go_simp
    simp only [Act.put, List.setIfInBounds_toArray, List.set_cons_zero, List.set_cons_succ]
    refine tree_pure ?_ rfl (by rfl) (fun w' hs => ?_) (fun _ _ _ h => h) ?_
    rotate_left
    · clear hs
      go_simp
      try rfl
    simp only [Act.put, List.setIfInBounds_toArray, List.set_cons_zero, List.set_cons_succ]
    refine tree_pure ?_ rfl (by rfl) (fun w' hs => ?_) (fun _ _ _ h => h) ?_
    rotate_left
    · clear hs
      go_simp
      try rfl
    simp only [Act.put, List.setIfInBounds_toArray, List.set_cons_zero, List.set_cons_succ]
    refine tree_pure ?_ rfl (by rfl) (fun w' hs => ?_) (fun _ _ _ h => h) ?_
    rotate_left
    · clear hs
      go_simp
      try rfl
    simp only [Act.put, List.setIfInBounds_toArray, List.set_cons_zero, List.set_cons_succ]
    refine tree_take ?_ t0 rfl (by rfl) (fun w' hs => ?_) (fun _ _ _ h => h) ?_
    rotate_left
    · rw [HT.out] at hs
      go_simp
      try rfl
    simp only [Act.put, List.setIfInBounds_toArray, List.set_cons_zero, List.set_cons_succ]
    refine tree_pure (.bool (x != 0)) rfl (by rfl) (fun w' hs => ?_) (fun _ _ _ h => h) ?_
    · clear hs
      go_simp
    simp only [Act.put, List.setIfInBounds_toArray, List.set_cons_zero, List.set_cons_succ]
    refine tree_pure (.bool (x != 0)) rfl (by rfl) (fun w' hs => ?_) (fun _ _ _ h => h) ?_
    · clear hs
      go_simp
    simp only [Act.put, List.setIfInBounds_toArray, List.set_cons_zero, List.set_cons_succ]
    refine tree_pure (.bool (x != 0)) rfl (by rfl) (fun w' hs => ?_) (fun _ _ _ h => h) ?_
    · clear hs
      go_simp
    simp only [Act.put, List.setIfInBounds_toArray, List.set_cons_zero, List.set_cons_succ]
    refine tree_pure ?_ rfl (by rfl) (fun w' hs => ?_) (fun _ _ _ h => h) ?_
    rotate_left
    · clear hs
      go_simp
      try rfl
    simp only [Act.put, List.setIfInBounds_toArray, List.set_cons_zero, List.set_cons_succ]
    refine tree_pure ?_ rfl (by rfl) (fun w' hs => ?_) (fun _ _ _ h => h) ?_
    rotate_left
    · clear hs
      go_simp
      try rfl
    simp only [Act.put, List.setIfInBounds_toArray, List.set_cons_zero, List.set_cons_succ]
    refine tree_fin ?_
    go_wp2
    go_ret2
    rw [HNB.out]
    exact ⟨rfl, HB1.out.drew⟩
end Go.Proofs.YtikiciojfhfagaaGreat
namespace Go.Mun
/-- An item's number. -/
def intK : Option Bts → Option Nat
  | some l => if numB (some l) = true ∧ l.length ≤ 8 ∧ beN l ≤ 9223372036854775807 then some (beN l) else none
  | none => none
end Go.Mun
namespace Go.Proofs.YtikiciojfhfagaaGreat
open Go.RowKit Go.Mun

theorem u64_or_byte (n x : Nat) (hn : n < 72057594037927936) (hx : x < 256) : bits .or .u64 ((n : Int) * 256) (x : Int) = ((n * 256 + x : Nat) : Int) := by
  have := u64_or_nat (n * 256) x (by omega) (by omega)
  rw [or_byte n x hx] at this
  rw [← this]
  congr 1
theorem beN_pow : ∀ (l : Bts), Byt l → beN l < 256 ^ l.length := beN_lt
set_option maxRecDepth 100000 in
set_option maxHeartbeats 1000000 in
theorem rlp_Int {R : Nat → Prop} {cs : List Value} {k : Option Bts} {w : World} (h : KidAt w R cs k) :
    Calls Tryz.prog 86 #[.agg cs.toArray] w fun e w' => e = .returned (.tuple #[.int .i64 (((intK k).getD 0 : Nat) : Int), .bool (intK k).isSome]) ∧ Below w.heap.size w w' := by
  cases k with
  | none =>
    obtain ⟨a, n, c, rfl⟩ := h
    have hb0 : Below w.heap.size w (w.alloc (.cells #[.bool true, .slice none 0 0, .slice a n c] 65)) := (Below.refl _ _).alloc (Nat.le_refl _) _
    have HB := Lib.hid hb0
    have hr : (w.alloc (.cells #[.bool true, .slice none 0 0, .slice a n c] 65)).row? w.heap.size 0 3 = some [.bool true, .slice none 0 0, .slice a n c] := World.row?_alloc_at [.bool true, .slice none 0 0, .slice a n c] 65 _ rfl rfl
    have HK := Lib.hid (fun w => bytes_none a n c w)
    clear hb0
    go_enter Tryz.func86, Tryz.ntmps86
    go_wp2_with fail
    refine (HK.out _).mono ?_
    rintro e w1 ⟨rfl, hb⟩
    have HB1 := Lib.hid (HB.out.trans (hb.mono HB.out.size))
    clear hb hr
    go_wp2
    go_ret2
    exact ⟨rfl, HB1.out⟩
  | some l =>
    obtain ⟨a, c, rfl, hI, _, hby⟩ := h
    have hb0 : Below w.heap.size w (w.alloc (.cells #[.bool false, .slice a l.length c, .slice none 0 0] 65)) := (Below.refl _ _).alloc (Nat.le_refl _) _
    have HB := Lib.hid hb0
    have hr : (w.alloc (.cells #[.bool false, .slice a l.length c, .slice none 0 0] 65)).row? w.heap.size 0 3 = some [.bool false, .slice a l.length c, .slice none 0 0] := World.row?_alloc_at [.bool false, .slice a l.length c, .slice none 0 0] 65 _ rfl rfl
    have HK := Lib.hid (bytes_some a c l _ (hI.below hb0))
    have HI := Lib.hid hI
    have HBY := Lib.hid hby
    have HIK : Hid (intK (some l) = if numB (some l) = true ∧ l.length ≤ 8 ∧ beN l ≤ 9223372036854775807 then some (beN l) else none) := rfl
    generalize hnb : numB (some l) = nb at *
    clear hb0 hI hby hnb
    go_enter Tryz.func86, Tryz.ntmps86
    go_wp2_with fail
    refine HK.out.mono ?_
    rintro e w1 ⟨rfl, hb⟩
    have HB1 := Lib.hid (HB.out.trans (hb.mono HB.out.size))
    clear hb hr
    cases nb with
    | false =>
      have hk : intK (some l) = none := by rw [HIK.out, if_neg (by simp)]
      have HKK := Lib.hid hk
      clear hk
      go_wp2
      go_ret2
      rw [HKK.out]
      exact ⟨rfl, HB1.out⟩
    | true =>
      by_cases h8 : 8 < l.length
      · have hk : intK (some l) = none := by rw [HIK.out, if_neg (by omega)]
        have HKK := Lib.hid hk
        have d8 : decide ((8 : Int) < l.length) = true := decide_eq_true (by omega)
        clear hk h8
        go_wp2
        go_ret2
        rw [HKK.out]
        exact ⟨rfl, HB1.out⟩
      · have d8 : decide ((8 : Int) < l.length) = false := decide_eq_false (by omega)
        have hl8 : l.length ≤ 8 := by omega
        have hbd : ∀ q, q ≤ l.length → beN (l.take q) < 256 ^ q := fun q hq => by
          have := beN_pow (l.take q) (fun x hx => HBY.out x (List.mem_of_mem_take hx))
          rwa [List.length_take, Nat.min_eq_left hq] at this
        have HBD := Lib.hid hbd
        clear h8 hbd
        go_wp2
        go_loopw [6, 23] (fun v i wr => ∃ q : Nat, q ≤ l.length ∧ i = .int .i64 q ∧ v = .int .u64 (beN (l.take q) : Nat) ∧ wr = w1) (fun _ i _ => l.length - (intOf i).toNat)
        case atStart => exact ⟨0, by omega, rfl, rfl, rfl⟩
        case round =>
          obtain ⟨q, hq, rfl, rfl, rfl⟩ := hrel
          by_cases hlt : q < l.length
          · have hst := beN_take l q hlt
            obtain ⟨b, off, rfl, hbl, hc⟩ := HI.out.at hlt
            have ck : wr.cell? ⟨b, off + q, none⟩ = some (.int .u8 (l[q]?.getD 0)) := (HB1.out.cell (p := ⟨b, off + q, none⟩) hbl).trans (hc q hlt)
            have hxx : (0 : Int) ≤ l[q]?.getD 0 ∧ l[q]?.getD 0 < 256 := by rw [List.getElem?_eq_getElem hlt]; exact HBY.out _ (List.getElem_mem _)
            obtain ⟨x, hx⟩ : ∃ x : Nat, l[q]?.getD 0 = x := ⟨(l[q]?.getD 0).toNat, by omega⟩
            rw [hx] at ck hst hxx
            rw [Int.toNat_natCast] at hst
            have hpw : beN (l.take q) < 72057594037927936 := by
              have h1 := HBD.out q (by omega)
              have h2 : 256 ^ q ≤ 256 ^ 7 := Nat.pow_le_pow_right (by decide) (by omega)
              have h3 : (256 : Nat) ^ 7 = 72057594037927936 := by decide
              omega
            generalize beN (l.take q) = B at *
            have hor := u64_or_byte B x hpw (by omega)
            have hw : IntKind.u64.wrap ((B : Int) * 256) = (B : Int) * 256 := by rw [IntKind.wrap_u64]; omega
            have hxw : IntKind.u64.wrap (x : Int) = x := by rw [IntKind.wrap_u64]; omega
            rw [← hst] at hor
            have HST := Lib.hid hst
            clear hst hx hc hpw
            go_wp2
            go_roundw
            case rel => exact ⟨q + 1, by omega, by go_num, by first | trivial | rfl, by first | trivial | rfl⟩
            case measure => simp [intOf]; omega
          · have hql : q = l.length := by omega
            subst hql
            have hbn : beN (l.take l.length) = beN l := by rw [List.take_length]
            rw [hbn]
            have hlim : beN l < 18446744073709551616 := by
              have h1 := HBD.out l.length (Nat.le_refl _)
              rw [hbn] at h1
              have h2 : 256 ^ l.length ≤ 256 ^ 8 := Nat.pow_le_pow_right (by decide) hl8
              have h3 : (256 : Nat) ^ 8 = 18446744073709551616 := by decide
              omega
            by_cases hbig : 9223372036854775807 < beN l
            · have hk : intK (some l) = none := by rw [HIK.out, if_neg (by omega)]
              have HKK := Lib.hid hk
              have db : decide ((9223372036854775807 : Int) < (beN l : Nat)) = true := decide_eq_true (by omega)
              clear hk hbig hlim hbn
              go_wp2
              go_ret2
              rw [HKK.out]
              exact ⟨rfl, HB1.out⟩
            · have hk : intK (some l) = some (beN l) := by rw [HIK.out, if_pos ⟨by first | exact trivial | rfl, hl8, by omega⟩]
              have HKK := Lib.hid hk
              have db : decide ((9223372036854775807 : Int) < (beN l : Nat)) = false := decide_eq_false (by omega)
              have hcv : IntKind.i64.wrap ((beN l : Nat) : Int) = (beN l : Nat) := wrI _ (by omega) (by omega)
              clear hk hbig hlim hbn
              go_wp2
              go_ret2
              rw [HKK.out]
              exact ⟨rfl, HB1.out⟩
end Go.Proofs.YtikiciojfhfagaaGreat
namespace Go.Mun
/-- An item's word. -/
def wordK : Option Bts → Option Nat
  | some l => if numB (some l) = true ∧ l.length ≤ 32 then some (beN l) else none
  | none => none
end Go.Mun
namespace Go.Proofs.YtikiciojfhfagaaGreat
open Go.RowKit Go.Mun

theorem splice_be (n : Nat) (l : Bts) (hb : Byt l) (hl : l.length ≤ n) : splice (zU8 n) (n - l.length) (u8L l) = beC n (beN l) := by
  have hz : Byt (List.replicate (n - l.length) 0 ++ l) := byt_app (byt_zeros _) hb
  have h32 : (List.replicate (n - l.length) (0 : Int) ++ l).length = n := by rw [List.length_append, List.length_replicate]; omega
  have e := be_beN _ hz
  rw [h32, beN_zeros] at e
  unfold beC
  rw [e]
  unfold splice zU8 u8L
  rw [List.map_append, List.map_replicate]
  rw [List.take_replicate, List.length_map, show n - l.length + l.length = n by omega, List.drop_of_length_le (by simp), List.append_nil, Nat.min_eq_left (by omega)]
theorem slice25_endK (b : Nat) (w : World) : (Instr.sliceAt 25 (.pointer (some ⟨b, 0, none⟩)) (some (.int .i64 32)) none none).run Tryz.prog w = .ok (.slice (some ⟨b, 0, none⟩) 0 0) w := by
  have hl : Tryz.prog.arrayLen 25 = 32 := by kernel_rfl
  have he : Tryz.prog.elem 25 = 5 := by kernel_rfl
  have hs : (sizeOf 5).run Tryz.prog w = .ok 1 w := by kernel_rfl
  rw [run_sliceAt_array_l w 25 ⟨b, 0, none⟩ (by rw [hl, he]; exact Tryz.underlying25) .i64 32 (by omega) (by rw [hl]; omega), he, hs, hl]
  rfl
set_option maxRecDepth 100000 in
set_option maxHeartbeats 1000000 in
theorem rlp_Word {R : Nat → Prop} {cs : List Value} {k : Option Bts} {w : World} (h : KidAt w R cs k) :
    Calls Tryz.prog 64 #[.agg cs.toArray] w fun e w' => e = .returned (.tuple #[.agg (beC 32 ((wordK k).getD 0)).toArray, .bool (wordK k).isSome]) ∧ Below w.heap.size w w' := by
  have hokz := beC_ok 32 0
  cases k with
  | none =>
    obtain ⟨a, n, c, rfl⟩ := h
    obtain ⟨w0, e0⟩ : ∃ w0, w0 = (w.alloc (.cells #[.bool true, .slice none 0 0, .slice a n c] 65)).alloc (.cells (zU8 32).toArray 25) := ⟨_, rfl⟩
    have hb0 : Below w.heap.size w w0 := by rw [e0]; exact ((Below.refl _ _).alloc (Nat.le_refl _) _).alloc (by simp) _
    have hr : w0.row? w.heap.size 0 3 = some [.bool true, .slice none 0 0, .slice a n c] := by rw [e0, World.row?_alloc_lt _ (by simp)]; exact World.row?_alloc_at [.bool true, .slice none 0 0, .slice a n c] 65 _ rfl rfl
    have hf : w0.free? (w.heap.size + 1) 0 32 = true := by rw [e0]; exact World.free?_alloc_at _ _ (by simp) (by simp)
    have HE := Lib.hid e0
    have HB := Lib.hid hb0
    have HF := Lib.hid hf
    have HK := Lib.hid (fun w => bytes_none a n c w)
    rw [e0] at hr
    clear hb0 e0 hf
    go_enter Tryz.func64, Tryz.ntmps64
    go_wp2_with fail
    rw [← HE.out]
    refine (HK.out _).mono ?_
    rintro e w1 ⟨rfl, hb⟩
    have HB1 := Lib.hid (HB.out.trans (hb.mono HB.out.size))
    have hf1 : (w1.alloc (.cells (zU8 32).toArray 25)).free? (w.heap.size + 1) 0 32 = true := by
      have h1 : w1.free? (w.heap.size + 1) 0 32 = true := by rw [(brow hb).2 _ _ _ (free?_lt HF.out)]; exact HF.out
      rw [World.free?_alloc_lt _ (free?_lt h1)]; exact h1
    clear hb hr
    go_wp2
    exact ret_row2 ty25 rfl _ _ rfl rfl rfl (row?_setCells_whole _ hf1 hokz) ⟨rfl, (HB1.out.alloc HB1.out.size _).setCells (by omega) _ _⟩
  | some l =>
    obtain ⟨a, c, rfl, hI, _, hby⟩ := h
    obtain ⟨w0, e0⟩ : ∃ w0, w0 = (w.alloc (.cells #[.bool false, .slice a l.length c, .slice none 0 0] 65)).alloc (.cells (zU8 32).toArray 25) := ⟨_, rfl⟩
    have hb0 : Below w.heap.size w w0 := by rw [e0]; exact ((Below.refl _ _).alloc (Nat.le_refl _) _).alloc (by simp) _
    have hr : w0.row? w.heap.size 0 3 = some [.bool false, .slice a l.length c, .slice none 0 0] := by rw [e0, World.row?_alloc_lt _ (by simp)]; exact World.row?_alloc_at [.bool false, .slice a l.length c, .slice none 0 0] 65 _ rfl rfl
    have hf : w0.free? (w.heap.size + 1) 0 32 = true := by rw [e0]; exact World.free?_alloc_at _ _ (by simp) (by simp)
    have HE := Lib.hid e0
    have HB := Lib.hid hb0
    have HF := Lib.hid hf
    have HK := Lib.hid (bytes_some a c l w0 (hI.below hb0))
    have HI := Lib.hid hI
    have HBY := Lib.hid hby
    have HWK : Hid (wordK (some l) = if numB (some l) = true ∧ l.length ≤ 32 then some (beN l) else none) := rfl
    generalize hnb : numB (some l) = nb at *
    rw [e0] at hr
    clear hb0 e0 hf hI hby hnb
    go_enter Tryz.func64, Tryz.ntmps64
    go_wp2_with fail
    rw [← HE.out]
    refine HK.out.mono ?_
    rintro e w1 ⟨rfl, hb⟩
    have HB1 := Lib.hid (HB.out.trans (hb.mono HB.out.size))
    have hf1 : w1.free? (w.heap.size + 1) 0 32 = true := by rw [(brow hb).2 _ _ _ (free?_lt HF.out)]; exact HF.out
    have hf2 : (w1.alloc (.cells (zU8 32).toArray 25)).free? (w.heap.size + 1) 0 32 = true := by
      rw [World.free?_alloc_lt _ (free?_lt hf1)]; exact hf1
    clear hb hr
    cases nb with
    | false =>
      have hk : wordK (some l) = none := by rw [HWK.out, if_neg (by simp)]
      have HKK := Lib.hid hk
      clear hk hf1
      go_wp2
      refine ret_row2 ty25 rfl _ _ rfl rfl rfl (row?_setCells_whole _ hf2 hokz) ⟨?_, (HB1.out.alloc HB1.out.size _).setCells (by omega) _ _⟩
      rw [HKK.out]; rfl
    | true =>
      by_cases h32 : 32 < l.length
      · have hk : wordK (some l) = none := by rw [HWK.out, if_neg (by omega)]
        have HKK := Lib.hid hk
        have d32 : decide ((32 : Int) < l.length) = true := decide_eq_true (by omega)
        clear hk hf1 h32
        go_wp2
        refine ret_row2 ty25 rfl _ _ rfl rfl rfl (row?_setCells_whole _ hf2 hokz) ⟨?_, (HB1.out.alloc HB1.out.size _).setCells (by omega) _ _⟩
        rw [HKK.out]; rfl
      · have d32 : decide ((32 : Int) < l.length) = false := decide_eq_false (by omega)
        have hl32 : l.length ≤ 32 := by omega
        have hk : wordK (some l) = some (beN l) := by rw [HWK.out, if_pos ⟨by first | exact trivial | rfl, hl32⟩]
        have HKK := Lib.hid hk
        have hwr : IntKind.i64.wrap (32 - (l.length : Int)) = 32 - (l.length : Int) := wrI _ (by omega) (by omega)
        obtain ⟨W, eW⟩ : ∃ W, W = w1.alloc (.cells (zU8 32).toArray 25) := ⟨_, rfl⟩
        have hbW : Below w1.heap.size w1 W := by rw [eW]; exact (Below.refl _ _).alloc (Nat.le_refl _) _
        have hhp : W.heap[w1.heap.size]? = some (.cells (zU8 32).toArray 25 (0, 0)) := by rw [eW]; exact heap_alloc_new _ _
        have hsrc : ∀ p, a = some p → ∀ j v, (u8L l)[j]? = some v → W.cell? (p.add j) = some v := by
          intro p hp j v hv
          have hj : j < l.length := by have := (List.getElem?_eq_some_iff.1 hv).1; simpa using this
          obtain ⟨b, off, ha, hbl, hc⟩ := HI.out.at hj
          rw [ha] at hp; cases hp
          have h1 := hc j hj
          have h2 : v = .int .u8 (l[j]?.getD 0) := by
            rw [List.getElem?_eq_getElem (by simpa using hj)] at hv
            rw [List.getElem?_eq_getElem hj]
            simp [u8L] at hv
            simpa using hv.symm
          rw [h2]
          have ea : (⟨b, off, none⟩ : Addr).add j = ⟨b, off + j, none⟩ := add_off rfl
          rw [ea]
          exact ((HB1.out.trans (hbW.mono HB1.out.size)).cell (p := ⟨b, off + j, none⟩) hbl).trans h1
        have HSRC := Lib.hid hsrc
        have HHP := Lib.hid hhp
        have HW := Lib.hid eW
        have HBW := Lib.hid hbW
        have hsl : ∃ dp dl, (∀ w', (Instr.sliceAt 25 (.pointer (some ⟨w1.heap.size, 0, none⟩)) (some (.int .i64 (32 - (l.length : Int)))) none none).run Tryz.prog w' = .ok (.slice dp dl dl) w') ∧ dl = l.length ∧ (0 < l.length → dp = some ⟨w1.heap.size, 32 - l.length, none⟩) := by
          by_cases h0 : l.length = 0
          · refine ⟨some ⟨w1.heap.size, 0, none⟩, 0, fun w' => ?_, h0.symm, fun h => by omega⟩
            rw [show 32 - (l.length : Int) = 32 by omega]
            exact slice25_endK w1.heap.size w'
          · refine ⟨_, l.length, fun w' => ?_, rfl, fun _ => rfl⟩
            have := slice25 w1.heap.size (32 - l.length) (by omega) w'
            rw [show 32 - (32 - l.length) = l.length by omega, show ((32 - l.length : Nat) : Int) = 32 - (l.length : Int) by omega] at this
            exact this
        obtain ⟨dp, dl, hsl1, rfl, hdp⟩ := hsl
        have HDP := Lib.hid hdp
        have HL32 := Lib.hid hl32
        have HF1 := Lib.hid hf1
        clear hk h32 hbW hhp hsrc eW hdp hl32 hf2 hf1
        go_wp2_with (rw [← HW.out]; refine wpList_copy_splice rfl _ _ 26 26 rfl 5 Tryz.underlying26 (by kernel_rfl) dp a l.length l.length l.length c rfl rfl w1.heap.size (32 - l.length) (zU8 32) 25 HHP.out (u8L l) ?c1 ?c2 ?c3 ?c4 w1.heap.size W (Below.refl _ _) (Nat.le_refl _) ?c5)
        case c1 => simp
        case c2 =>
          intro hpos
          have hp : 0 < l.length := by simpa using hpos
          obtain ⟨b, off, ha, _, _⟩ := HI.out.at hp
          exact ⟨HDP.out hp, ⟨b, off, none⟩, ha, HSRC.out _ ha⟩
        case c3 => have := HL32.out; simp; omega
        case c4 => intro v hv; obtain ⟨x, _, rfl⟩ := List.mem_map.1 hv; rfl
        case c5 =>
          intro w5 hg5 hb5
          rw [splice_be 32 l HBY.out HL32.out] at hg5
          have hr5 : w5.row? w1.heap.size 0 32 = some (beC 32 (beN l)) := by
            unfold World.row?
            rw [hg5.out]
            simp
            exact List.take_of_length_le (by simp)
          have hf5 : w5.free? (w.heap.size + 1) 0 32 = true := by
            rw [(brow (HBW.out.trans hb5)).2 _ _ _ (free?_lt HF1.out)]; exact HF1.out
          have hok5 := beC_ok 32 (beN l)
          have HB5 := Lib.hid (HB1.out.trans ((HBW.out.trans hb5).mono HB1.out.size))
          clear hg5 hb5
          go_wp2
          refine ret_row2 ty25 rfl _ _ rfl rfl rfl (row?_setCells_whole _ hf5 hok5) ⟨?_, HB5.out.setCells (by omega) _ _⟩
          rw [HKK.out]; rfl
end Go.Proofs.YtikiciojfhfagaaGreat
namespace Go.Mun
/-- An item's address. -/
def addrK : Option Bts → Option Bts
  | some l => if l.length = 20 then some l else none
  | none => none
end Go.Mun
namespace Go.Proofs.YtikiciojfhfagaaGreat
open Go.RowKit Go.Mun

/-- Cells that can be read are a row. -/
theorem row_of_cells {w : World} {b off : Nat} {L : List Value} (hn : L ≠ []) (hc : ∀ i, i < L.length → w.cell? ⟨b, off + i, none⟩ = L[i]?) : w.row? b off L.length = some L := by
  have h0 := hc 0 (List.length_pos_iff.2 hn)
  have hl := hc (L.length - 1) (by have := List.length_pos_iff.2 hn; omega)
  unfold World.row?
  have hpos := List.length_pos_iff.2 hn
  cases hh : w.heap[b]? with
  | none => simp [World.cell?, hh, List.getElem?_eq_getElem hpos] at h0
  | some x =>
    cases x with
    | cells c t f =>
      have hc' : ∀ i, i < L.length → c[off + i]? = L[i]? := fun i hi => by have := hc i hi; simpa [World.cell?, hh] using this
      have hsz : off + L.length ≤ c.size := by
        have := hc' (L.length - 1) (by omega)
        rw [List.getElem?_eq_getElem (by omega)] at this
        have := (Array.getElem?_eq_some_iff.1 this).1
        omega
      simp only [hsz, if_true]
      congr 1
      apply List.ext_getElem?
      intro i
      rw [List.getElem?_take, List.getElem?_drop]
      by_cases hi : i < L.length
      · rw [if_pos hi, ← hc' i hi]; simp
      · rw [if_neg hi, List.getElem?_eq_none (by omega)]
    | _ => simp [World.cell?, hh, List.getElem?_eq_getElem hpos] at h0

theorem ints_row {w : World} {a : Option Addr} {c : Nat} {l : List Int} (h : Ints w .u8 a c l) (hn : l ≠ []) : ∃ b off, a = some ⟨b, off, none⟩ ∧ w.row? b off l.length = some (u8L l) := by
  obtain ⟨b, off, rfl, hc⟩ := h.cell hn
  refine ⟨b, off, rfl, ?_⟩
  have := row_of_cells (w := w) (b := b) (off := off) (L := u8L l) (by simpa [u8L] using hn) (fun i hi => by
    have hi' : i < l.length := by simpa [u8L] using hi
    rw [hc i hi']
    simp [u8L, List.getElem?_eq_getElem hi'])
  simpa [u8L] using this

set_option maxRecDepth 100000 in
set_option maxHeartbeats 1000000 in
theorem tx_Address {R : Nat → Prop} {cs : List Value} {k : Option Bts} {w : World} (h : KidAt w R cs k) :
    Calls Tryz.prog 63 #[.agg cs.toArray] w fun e w' => e = .returned (.tuple #[.agg (u8L ((addrK k).getD (List.replicate 20 0))).toArray, .bool (addrK k).isSome]) ∧ Below w.heap.size w w' := by
  have e20 : u8L (List.replicate 20 0) = zU8 20 := u8L_replicate 20
  have hokz : okL 20 (zU8 20) = true := by rw [← e20]; exact u8L_ok _ 20 (by simp)
  have HE20 := Lib.hid e20
  clear e20
  cases k with
  | none =>
    obtain ⟨a, n, c, rfl⟩ := h
    obtain ⟨w0, e0⟩ : ∃ w0, w0 = (w.alloc (.cells #[.bool true, .slice none 0 0, .slice a n c] 65)).alloc (.cells (zU8 20).toArray 23) := ⟨_, rfl⟩
    have hb0 : Below w.heap.size w w0 := by rw [e0]; exact ((Below.refl _ _).alloc (Nat.le_refl _) _).alloc (by simp) _
    have hr : w0.row? w.heap.size 0 3 = some [.bool true, .slice none 0 0, .slice a n c] := by rw [e0, World.row?_alloc_lt _ (by simp)]; exact World.row?_alloc_at [.bool true, .slice none 0 0, .slice a n c] 65 _ rfl rfl
    have hf : w0.free? (w.heap.size + 1) 0 20 = true := by rw [e0]; exact World.free?_alloc_at _ _ (by simp) (by simp)
    have HB := Lib.hid hb0
    rw [e0] at hr hf HB
    clear hb0 e0
    go_enter Tryz.func63, Tryz.ntmps63
    go_wp2
    refine ret_row2 ty23 rfl _ _ rfl rfl rfl (row?_setCells_whole _ hf hokz) ⟨?_, HB.out.setCells (by omega) _ _⟩
    rw [show addrK none = none from rfl]
    simp only [Option.getD_none, HE20.out]
    rfl
  | some l =>
    obtain ⟨a, c, rfl, hI, _, hby⟩ := h
    obtain ⟨w0, e0⟩ : ∃ w0, w0 = (w.alloc (.cells #[.bool false, .slice a l.length c, .slice none 0 0] 65)).alloc (.cells (zU8 20).toArray 23) := ⟨_, rfl⟩
    have hb0 : Below w.heap.size w w0 := by rw [e0]; exact ((Below.refl _ _).alloc (Nat.le_refl _) _).alloc (by simp) _
    have hr : w0.row? w.heap.size 0 3 = some [.bool false, .slice a l.length c, .slice none 0 0] := by rw [e0, World.row?_alloc_lt _ (by simp)]; exact World.row?_alloc_at [.bool false, .slice a l.length c, .slice none 0 0] 65 _ rfl rfl
    have hf : w0.free? (w.heap.size + 1) 0 20 = true := by rw [e0]; exact World.free?_alloc_at _ _ (by simp) (by simp)
    have HB := Lib.hid hb0
    by_cases h20 : l.length = 20
    · have hk : addrK (some l) = some l := if_pos h20
      obtain ⟨b, off, rfl, hrow⟩ := ints_row (hI.below hb0) (by rintro rfl; simp at h20)
      have hok : okL 20 (u8L l) = true := u8L_ok _ 20 h20
      rw [h20] at hrow hr e0
      have HKK := Lib.hid hk
      have ka : ∀ w, (Instr.arrayAt 23 (.slice (some ⟨b, off, none⟩) 20 c)).run Tryz.prog w = .ok (.pointer (some ⟨b, off, none⟩)) w := fun w => run_toArray Tryz.underlying23 _ _ _ (by decide) w
      rw [h20]
      rw [e0] at hr hf HB hrow
      clear hb0 e0 hI hby hk h20
      obtain ⟨V, hV⟩ : ∃ V, V = u8L l := ⟨_, rfl⟩
      rw [← hV] at hok hrow
      have HV := Lib.hid hV
      clear hV
      go_enter Tryz.func63, Tryz.ntmps63
      go_wp2
      refine ret_row2 ty23 rfl _ _ rfl rfl rfl (row?_setCells_whole _ hf hok) ⟨?_, HB.out.setCells (by omega) _ _⟩
      rw [HKK.out]
      simp only [Option.getD_some, ← HV.out]
      rfl
    · have hk : addrK (some l) = none := if_neg h20
      have HKK := Lib.hid hk
      have d20 : ((l.length : Int) != 20) = true := bne_iff_ne.2 (by omega)
      rw [e0] at hr hf HB
      clear hb0 e0 hI hby hk h20
      go_enter Tryz.func63, Tryz.ntmps63
      go_wp2
      refine ret_row2 ty23 rfl _ _ rfl rfl rfl (row?_setCells_whole _ hf hokz) ⟨?_, HB.out.setCells (by omega) _ _⟩
      rw [HKK.out]
      simp only [Option.getD_none, HE20.out]
      rfl
end Go.Proofs.YtikiciojfhfagaaGreat
namespace Go.Mun
/-- The numbers of items. -/
def numsK : List (Option Bts) → Option (List Nat)
  | [] => some []
  | k :: ks => match intK k with | none => none | some x => (numsK ks).map (x :: ·)
theorem numsK_step {ks : List (Option Bts)} {q : Nat} {k : Option Bts} {done : List Nat} (h : ks[q]? = some k) (ht : numsK ks = (numsK (ks.drop q)).map (done ++ ·)) :
    numsK ks = match intK k with | none => none | some x => (numsK (ks.drop (q + 1))).map ((done ++ [x]) ++ ·) := by
  obtain ⟨hq, rfl⟩ := List.getElem?_eq_some_iff.1 h
  rw [ht, List.drop_eq_getElem_cons hq, numsK]
  cases intK ks[q] with
  | none => rfl
  | some x =>
    simp only [Option.map_map]
    congr 1
    funext l
    simp
def natsV (l : List Nat) : List Value := l.map fun n => .int .i64 (n : Nat)
end Go.Mun
namespace Go.Proofs.YtikiciojfhfagaaGreat
open Go.RowKit Go.Mun

/-- What the numbers of items come to. -/
def NumsIs (w w' : World) (r : Option (List Nat)) (e : Ending) : Prop := Below w.heap.size w w' ∧ match r with
  | none => e = .returned (.tuple #[.slice none 0 0, .bool false])
  | some l => ∃ v, e = .returned (.tuple #[v, .bool true]) ∧ w'.ownsRow w.heap.size 3 1 v l.length (natsV l)
theorem numsIs_none {w w' : World} {r : Option (List Nat)} (h : r = none) (hb : Below w.heap.size w w') : NumsIs w w' r (.returned (.tuple #[.slice none 0 0, .bool false])) := by
  subst h; exact ⟨hb, rfl⟩
theorem numsIs_some {w w' : World} {r : Option (List Nat)} {l : List Nat} {v : Value} (h : r = some l) (hb : Below w.heap.size w w') (ho : w'.ownsRow w.heap.size 3 1 v l.length (natsV l)) : NumsIs w w' r (.returned (.tuple #[v, .bool true])) := by
  subst h; exact ⟨hb, v, rfl, ho⟩
/-- The numbers on their way. -/
structure NumLp (w : World) (ks : List (Option Bts)) (v : Value) (wr : World) (done : List Nat) (q : Nat) : Prop where
  below : Below w.heap.size w wr
  own : wr.ownsRow w.heap.size 3 1 v done.length (natsV done)
  len : done.length = q
  eq : numsK ks = (numsK (ks.drop q)).map (done ++ ·)

set_option maxRecDepth 100000 in
set_option maxHeartbeats 2000000 in
theorem tx_Numbers {R : Nat → Prop} {b off c : Nat} {css : List (List Value)} {ks : List (Option Bts)} {w : World} (hk : KidsAt w R css ks) (hn : ks.length ≤ 16) (hr : w.row? b off (ks.length * 3) = some css.flatten) :
    Calls Tryz.prog 62 #[.slice (some ⟨b, off, none⟩) ks.length c] w fun e w' => NumsIs w w' (numsK ks) e := by
  have hok : okL 3 itemZ = true := itemZ_ok
  have HKS := Lib.hid hk
  have HR := Lib.hid hr
  have H0 : Hid (NumLp w ks (.slice none 0 0) w [] 0) := ⟨Below.refl _ _, World.ownsRow_nil _ _ _ _, rfl, by simp⟩
  clear hk hr
  go_enter Tryz.func62, Tryz.ntmps62
  go_wp2
  go_loopw [4, 11] (fun v i wr => ∃ (q : Nat) (done : List Nat), q ≤ ks.length ∧ i = .int .i64 q ∧ NumLp w ks v wr done q) (fun _ i _ => ks.length - (intOf i).toNat)
  case atStart => exact ⟨0, [], by omega, rfl, H0.out⟩
  case round =>
    obtain ⟨q, done, hq, rfl, hL⟩ := hrel
    by_cases hlt : q < ks.length
    · obtain ⟨k, hkq⟩ : ∃ k, ks[q]? = some k := ⟨_, List.getElem?_eq_getElem hlt⟩
      obtain ⟨cs, hrow, hkid⟩ := HKS.out.at HR.out hkq
      have hcl := hkid.len
      have hcok := hkid.ok
      have hrw : wr.row? b (off + q * 3) 3 = some cs := by rw [(brow hL.below).1 _ _ _ (World.row?_lt hrow)]; exact hrow
      obtain ⟨W1, eW1⟩ : ∃ W1, W1 = (wr.alloc (.cells itemZ.toArray 65)).setCells wr.heap.size 0 cs := ⟨_, rfl⟩
      have o1 : Only (fun _ => False) wr W1 := by rw [eW1]; exact ((Only.refl (fun _ => False) wr).alloc _).setCells (fun hh => absurd hh (Nat.lt_irrefl _)) _ _
      have hb1 : Below wr.heap.size wr W1 := by rw [eW1]; exact ((Below.refl _ _).alloc (Nat.le_refl _) _).setCells (Nat.le_refl _) _ _
      have hkid1 : KidAt W1 (fun _ => True) cs k := (hkid.only (R' := fun _ => True) (Only.of_below_size hL.below) (fun _ _ _ h => h) (fun _ _ _ => trivial)).only o1 (fun _ _ _ h => h) (fun _ _ _ => trivial)
      have hA15 : Arr W1 wr.heap.size 3 cs := by rw [eW1]; exact (Arr.new wr 3 itemZ 65 rfl).setCells cs hcok
      have r15 := hA15.row
      have f15 : (wr.alloc (.cells itemZ.toArray 65)).free? wr.heap.size 0 3 = true := itemZ_row wr
      have HW := Lib.hid eW1
      have HCALL := Lib.hid (rlp_Int hkid1)
      have HST := Lib.hid (numsK_step hkq hL.eq)
      have HL := Lib.hid hL
      have HO1 := Lib.hid o1
      have HB1 := Lib.hid hb1
      rw [eW1] at r15
      clear hkq hkid hkid1 hA15 hL o1 hb1 eW1 hrow
      go_wp2_with fail
      rw [← HW.out]
      refine HCALL.out.mono ?_
      rintro e w2 ⟨rfl, hb2⟩
      have hbr2 : Below wr.heap.size wr w2 := HB1.out.trans (hb2.mono HB1.out.size)
      have hO2 : Only (fun _ => False) wr w2 := HO1.out.trans (Only.of_below_size hb2) (fun _ h _ => h)
      have hown2 := Only.own HL.out.own hO2 (fun _ _ h => h)
      have HOWN2 := Lib.hid hown2
      have HBR2 := Lib.hid hbr2
      clear hb2 hbr2 hO2 hown2 r15
      cases hik : intK k with
      | none =>
        have HN : Hid (numsK ks = none) := by show _ = _; rw [HST.out, hik]
        clear hik
        go_wp2
        go_ret2
        exact numsIs_none HN.out (HL.out.below.trans (HBR2.out.mono HL.out.below.size))
      | some x =>
        have HN : Hid (numsK ks = (numsK (ks.drop (q + 1))).map ((done ++ [x]) ++ ·)) := by show _ = _; rw [HST.out, hik]
        clear hik
        go_wp2_with (at_builtin; refine wpList_append_new elem157 rfl _ _ rfl HOWN2.out rfl 1 rfl rfl ?c1 ?c2 ?c3 ?c4 ?_)
        case c1 => simp [Value.oneCell']
        case c2 => have := HL.out.len; unfold maxLen; omega
        case c3 => have := HL.out.len; omega
        case c4 => have := HL.out.below.size; have := HBR2.out.size; omega
        intro v' w3 ho hg _
        have HNEW : Hid (NumLp w ks v' w3 (done ++ [x]) (q + 1)) := by
          refine ⟨(HL.out.below.trans (HBR2.out.mono HL.out.below.size)).grown hg (by have := HL.out.below.size; have := HBR2.out.size; omega) (fun k hk => (HOWN2.out.lt k hk).1), ?_, ?_, HN.out⟩
          · simpa [natsV] using ho
          · rw [List.length_append, HL.out.len]; rfl
        clear ho hg
        go_wp2
        go_roundw
        case rel => exact ⟨q + 1, done ++ [x], by omega, by go_num, HNEW.out⟩
        case measure => simp [intOf]; omega
    · have hql : q = ks.length := by omega
      subst hql
      have HN : Hid (numsK ks = some done) := by show _ = _; rw [hL.eq]; simp [numsK]
      have HL := Lib.hid hL
      clear hL
      go_wp2
      go_ret2
      exact numsIs_some HN.out HL.out.below HL.out.own
end Go.Proofs.YtikiciojfhfagaaGreat
namespace Go.Proofs.YtikiciojfhfagaaGreat
open Go.RowKit Go.Mun

def zsN44 : List (List Value) := [[.int .i64 0], [.int .i64 0], [.int .i64 0], beC 20 0, beC 20 0, [.bool false], beC 32 0, [.slice none 0 0]]
theorem zsN44_len : (cat zsN44).length = 77 := by kernel_rfl
set_option maxRecDepth 1000000 in
theorem styN44 : StructTy Tryz.prog 44 77 (cat zsN44) (plOf zsN44) := ⟨⟨_, _, rfl, Tryz.underlying44, by kernel_rfl, by kernel_rfl⟩, zsN44_len⟩
theorem blN44 (ρ : Operand → Value) (dst : Option Tmp) (parts : List (Nat × Operand)) (t : TypeId) (pos : String) (after : Array Edge) (gd : Option (Nat × Bool)) (w : World) : (execOp ρ ⟨dst, .build 44 parts.toArray, t, pos, after, gd⟩).run Tryz.prog w = asNext (blRow Tryz.prog 44 (parts.map fun p => (p.1, ρ p.2)) w (fillL 77 (plOf zsN44) (cat zsN44) (parts.map fun p => (p.1, ρ p.2)))) := ex_build ρ dst t pos after gd w styN44 parts
theorem tyN44 : RowTy Tryz.prog 44 77 := ⟨⟨_, Tryz.underlying44, rfl⟩, by kernel_rfl⟩
theorem ldN44 (ρ : Operand → Value) (dst : Option Tmp) (x : Operand) (t : TypeId) (pos : String) (after : Array Edge) (gd : Option (Nat × Bool)) (w : World) : (execOp ρ ⟨dst, .load 44 x, t, pos, after, gd⟩).run Tryz.prog w = asNext (ldRow Tryz.prog 44 77 (ρ x) w) := ex_load ρ dst x t pos after gd w tyN44
theorem stN44 (ρ : Operand → Value) (dst : Option Tmp) (x y : Operand) (t : TypeId) (pos : String) (after : Array Edge) (gd : Option (Nat × Bool)) (w : World) : (execOp ρ ⟨dst, .store 44 x y, t, pos, after, gd⟩).run Tryz.prog w = asSkip (stRow Tryz.prog 44 77 (ρ x) (ρ y) w) := ex_store ρ dst x y t pos after gd w tyN44
set_option maxRecDepth 1000000 in
theorem alN44 (ρ : Operand → Value) (dst : Option Tmp) (t : TypeId) (pos : String) (after : Array Edge) (gd : Option (Nat × Bool)) (w : World) : (execOp ρ ⟨dst, .alloc 44, t, pos, after, gd⟩).run Tryz.prog w = .ok (.value (.pointer (some ⟨w.heap.size, 0, none⟩))) (w.alloc (.cells (cat zsN44).toArray 44)) := ex_alloc ρ dst t pos after gd w (fun _ => by kernel_rfl)
def zsN39 : List (List Value) := [[.int .i64 0], [.int .i64 0], [.slice none 0 0], [.slice none 0 0], beC 20 0]
theorem zsN39_len : (cat zsN39).length = 24 := by kernel_rfl
set_option maxRecDepth 1000000 in
theorem styN39 : StructTy Tryz.prog 39 24 (cat zsN39) (plOf zsN39) := ⟨⟨_, _, rfl, Tryz.underlying39, by kernel_rfl, by kernel_rfl⟩, zsN39_len⟩
theorem blN39 (ρ : Operand → Value) (dst : Option Tmp) (parts : List (Nat × Operand)) (t : TypeId) (pos : String) (after : Array Edge) (gd : Option (Nat × Bool)) (w : World) : (execOp ρ ⟨dst, .build 39 parts.toArray, t, pos, after, gd⟩).run Tryz.prog w = asNext (blRow Tryz.prog 39 (parts.map fun p => (p.1, ρ p.2)) w (fillL 24 (plOf zsN39) (cat zsN39) (parts.map fun p => (p.1, ρ p.2)))) := ex_build ρ dst t pos after gd w styN39 parts
theorem tyN39 : RowTy Tryz.prog 39 24 := ⟨⟨_, Tryz.underlying39, rfl⟩, by kernel_rfl⟩
theorem ldN39 (ρ : Operand → Value) (dst : Option Tmp) (x : Operand) (t : TypeId) (pos : String) (after : Array Edge) (gd : Option (Nat × Bool)) (w : World) : (execOp ρ ⟨dst, .load 39 x, t, pos, after, gd⟩).run Tryz.prog w = asNext (ldRow Tryz.prog 39 24 (ρ x) w) := ex_load ρ dst x t pos after gd w tyN39
theorem stN39 (ρ : Operand → Value) (dst : Option Tmp) (x y : Operand) (t : TypeId) (pos : String) (after : Array Edge) (gd : Option (Nat × Bool)) (w : World) : (execOp ρ ⟨dst, .store 39 x y, t, pos, after, gd⟩).run Tryz.prog w = asSkip (stRow Tryz.prog 39 24 (ρ x) (ρ y) w) := ex_store ρ dst x y t pos after gd w tyN39
set_option maxRecDepth 1000000 in
theorem alN39 (ρ : Operand → Value) (dst : Option Tmp) (t : TypeId) (pos : String) (after : Array Edge) (gd : Option (Nat × Bool)) (w : World) : (execOp ρ ⟨dst, .alloc 39, t, pos, after, gd⟩).run Tryz.prog w = .ok (.value (.pointer (some ⟨w.heap.size, 0, none⟩))) (w.alloc (.cells (cat zsN39).toArray 39)) := ex_alloc ρ dst t pos after gd w (fun _ => by kernel_rfl)
attribute [go_sem ↓] blN44 ldN44 stN44 alN44 blN39 ldN39 stN39 alN39
end Go.Proofs.YtikiciojfhfagaaGreat
namespace Go.Proofs.YtikiciojfhfagaaGreat
open Go.RowKit Go.Mun

theorem nmC_lit (n a b c d : Nat) (h0 : lim n 0 = a) (h1 : lim n 1 = b) (h2 : lim n 2 = c) (h3 : lim n 3 = d) : nmC n = [.int .u64 (a : Int), .int .u64 (b : Int), .int .u64 (c : Int), .int .u64 (d : Int)] := by
  subst h0 h1 h2 h3; rfl
theorem nmC_small (m : Nat) (h : m < 18446744073709551616) : nmC m = [.int .u64 (m : Int), .int .u64 0, .int .u64 0, .int .u64 0] := by
  refine nmC_lit m m 0 0 0 ?_ ?_ ?_ ?_ <;> unfold lim <;> omega
theorem nmC_neg (m n : Nat) (h : n = m + 115792089237316195423570985008687907853269984665640564039439137263839420088320) (hm : m < 18446744073709551616) :
    nmC n = [.int .u64 (m : Int), .int .u64 18446744073709551615, .int .u64 18446744073709551615, .int .u64 18446744073709551615] := by
  refine nmC_lit n m 18446744073709551615 18446744073709551615 18446744073709551615 ?_ ?_ ?_ ?_ <;> unfold lim <;> omega
theorem ex_stuck {P : Program} {ty : TypeId} (ρ : Operand → Value) (dst : Option Tmp) (parts : List (Nat × Operand)) (t : TypeId) (pos : String) (after : Array Edge) (gd : Option (Nat × Bool)) (w : World) : (execOp ρ ⟨dst, .build ty parts.toArray, t, pos, after, gd⟩).run P w = asNext (stuckBuild P ty (parts.map fun p => (p.1, ρ p.2)) w) := by
  unfold execOp stuckBuild
  simp only [Sem.run_bind, List.map_toArray]
  cases (Instr.build ty (parts.map fun p => (p.1, ρ p.2)).toArray).run P w <;> rfl
theorem bn1_ex (ρ : Operand → Value) (dst : Option Tmp) (x : Operand) (t : TypeId) (pos : String) (after : Array Edge) (gd : Option (Nat × Bool)) (w : World) : (execOp ρ ⟨dst, .build 151 #[(0, x)], t, pos, after, gd⟩).run Tryz.prog w = asNext (stuckBuild Tryz.prog 151 [(0, ρ x)] w) := ex_stuck ρ dst [(0, x)] t pos after gd w
theorem bn4_ex (ρ : Operand → Value) (dst : Option Tmp) (x x1 x2 x3 : Operand) (t : TypeId) (pos : String) (after : Array Edge) (gd : Option (Nat × Bool)) (w : World) : (execOp ρ ⟨dst, .build 151 #[(0, x), (1, x1), (2, x2), (3, x3)], t, pos, after, gd⟩).run Tryz.prog w = asNext (stuckBuild Tryz.prog 151 [(0, ρ x), (1, ρ x1), (2, ρ x2), (3, ρ x3)] w) := ex_stuck ρ dst [(0, x), (1, x1), (2, x2), (3, x3)] t pos after gd w
attribute [local go_sem ↓] bn1_ex bn4_ex
set_option maxRecDepth 100000 in
theorem build151a (m : Nat) (h : m < 18446744073709551616) (w : World) : stuckBuild Tryz.prog 151 [(0, .int .u64 (m : Int))] w = .ok (.agg (nmC m).toArray) w := by
  rw [nmC_small m h]; kernel_rfl
set_option maxRecDepth 100000 in
theorem build151b (m n : Nat) (h : n = m + 115792089237316195423570985008687907853269984665640564039439137263839420088320) (hm : m < 18446744073709551616) (w : World) :
    stuckBuild Tryz.prog 151 [(0, .int .u64 (m : Int)), (1, .int .u64 18446744073709551615), (2, .int .u64 18446744073709551615), (3, .int .u64 18446744073709551615)] w = .ok (.agg (nmC n).toArray) w := by
  rw [nmC_neg m n h hm]; kernel_rfl
set_option maxRecDepth 100000 in
theorem word_of (n : Int) (hn : -9223372036854775808 ≤ n) (hn' : n ≤ 9223372036854775807) (w : World) :
    Calls Tryz.prog 51 #[.int .i64 n] w fun e w' => e = .returned (.agg (beC 32 (ofW n)).toArray) ∧ Below w.heap.size w w' := by
  obtain ⟨w0, e0⟩ : ∃ w0, w0 = (w.alloc (.cells (zU8 32).toArray 25)).alloc (.cells (zU64 4).toArray 151) := ⟨_, rfl⟩
  have hb0 : Below w.heap.size w w0 := by rw [e0]; exact ((Below.refl _ _).alloc (Nat.le_refl _) _).alloc (by simp) _
  have f0 : w0.free? w.heap.size 0 32 = true := by rw [e0]; simp [go_sem]
  have hz : Arr w0 (w.heap.size + 1) 4 (zU64 4) := by
    rw [e0]; have := Arr.new (w.alloc (.cells (zU8 32).toArray 25)) 4 (zU64 4) 151 rfl
    simpa using this
  have HE := Lib.hid e0
  have HB := Lib.hid hb0
  have HF := Lib.hid f0
  obtain ⟨m, hm⟩ : ∃ m : Nat, IntKind.u64.wrap n = (m : Int) := ⟨(IntKind.u64.wrap n).toNat, by rw [IntKind.wrap_u64]; omega⟩
  have hml : m < 18446744073709551616 := by rw [IntKind.wrap_u64] at hm; omega
  have kb := build151a m hml
  by_cases h : n < 0
  · obtain ⟨M, hM⟩ : ∃ M : Nat, M = ofW n := ⟨_, rfl⟩
    have hMm : M = m + 115792089237316195423570985008687907853269984665640564039439137263839420088320 := by
      rw [IntKind.wrap_u64] at hm; rw [hM]; unfold ofW; omega
    have kb2 := build151b m M hMm hml
    have hok := nmC_ok m
    have hz2 : Arr (w0.setCells (w.heap.size + 1) 0 (nmC m)) (w.heap.size + 1) 4 (nmC m) := hz.setCells _ (nmC_ok m)
    have f1 := hz.free
    have f2 := hz2.free
    have hz3 : Arr ((w0.setCells (w.heap.size + 1) 0 (nmC m)).setCells (w.heap.size + 1) 0 (nmC M)) (w.heap.size + 1) 4 (nmC M) := hz2.setCells _ (nmC_ok M)
    have r3 := hz3.row
    have hok2 := nmC_ok M
    rw [← hM]
    have HN := Lib.hid hMm
    clear hMm hM hb0 f0 hz hz2 hz3
    rw [e0] at f1 f2 r3
    clear e0
    go_enter Tryz.func51, Tryz.ntmps51
    go_wp2_with fail
    refine (num_word M _).mono ?_
    rintro e w1 ⟨rfl, hb⟩
    rw [← HE.out] at hb
    have hw : Below w.heap.size w ((w0.setCells (w.heap.size + 1) 0 (nmC m)).setCells (w.heap.size + 1) 0 (nmC M)) := (HB.out.setCells (by omega) _ _).setCells (by omega) _ _
    have f5 : ((w0.setCells (w.heap.size + 1) 0 (nmC m)).setCells (w.heap.size + 1) 0 (nmC M)).free? w.heap.size 0 32 = true := by
      have ho : Only (· = w.heap.size + 1) w0 ((w0.setCells (w.heap.size + 1) 0 (nmC m)).setCells (w.heap.size + 1) 0 (nmC M)) := ((Only.refl (· = w.heap.size + 1) _).setCells (fun _ => rfl) _ _).setCells (fun _ => rfl) _ _
      rw [ho.free? (free?_lt HF.out) (by omega)]; exact HF.out
    have f6 : w1.free? w.heap.size 0 32 = true := by rw [(brow hb).2 _ _ _ (free?_lt f5)]; exact f5
    have hbe := beC_ok 32 M
    have HBX := Lib.hid (hw.trans (hb.mono hw.size))
    clear hb hw f5 r3 f1 f2
    go_wp2
    exact ret_row ty25 rfl _ rfl rfl f6 hbe ⟨rfl, HBX.out.setCells (by omega) _ _⟩
  · have hMm : ofW n = m := by
      rw [IntKind.wrap_u64] at hm; unfold ofW; omega
    have hok := nmC_ok m
    have hz2 : Arr (w0.setCells (w.heap.size + 1) 0 (nmC m)) (w.heap.size + 1) 4 (nmC m) := hz.setCells _ (nmC_ok m)
    have f1 := hz.free
    have r3 := hz2.row
    rw [hMm]
    clear hMm hb0 f0 hz hz2
    rw [e0] at f1 r3
    clear e0
    go_enter Tryz.func51, Tryz.ntmps51
    go_wp2_with fail
    refine (num_word m _).mono ?_
    rintro e w1 ⟨rfl, hb⟩
    rw [← HE.out] at hb
    have hw : Below w.heap.size w (w0.setCells (w.heap.size + 1) 0 (nmC m)) := HB.out.setCells (by omega) _ _
    have f5 : (w0.setCells (w.heap.size + 1) 0 (nmC m)).free? w.heap.size 0 32 = true := by
      have ho : Only (· = w.heap.size + 1) w0 (w0.setCells (w.heap.size + 1) 0 (nmC m)) := (Only.refl (· = w.heap.size + 1) _).setCells (fun _ => rfl) _ _
      rw [ho.free? (free?_lt HF.out) (by omega)]; exact HF.out
    have f6 : w1.free? w.heap.size 0 32 = true := by rw [(brow hb).2 _ _ _ (free?_lt f5)]; exact f5
    have hbe := beC_ok 32 m
    have HBX := Lib.hid (hw.trans (hb.mono hw.size))
    clear hb hw f5 r3 f1
    go_wp2
    exact ret_row ty25 rfl _ rfl rfl f6 hbe ⟨rfl, HBX.out.setCells (by omega) _ _⟩
end Go.Proofs.YtikiciojfhfagaaGreat
