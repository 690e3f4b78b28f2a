/-
  The program's state, read: contracts of of, Nonce, Balance, Slot, bytes.Clone, Code, empty, Exists.
-/
import Derived.Test.YtiglinnjnobodaaGreatQTy3
import Derived.Test.YtiglinnjnobodaaGreatQPlain
import Derived.Test.YtiglinnjnobodaaGreatQSeq
set_option linter.unusedVariables false
set_option linter.unusedSimpArgs false
namespace Go.Proofs.YtiglinnjnobodaaGreat
open Go.RowKit Go.Mun

def TU : UTy := ⟨171, 164, 347, 320, 323, 227, 325⟩
theorem zero82 (w : World) : (zeroValue 94).run Tryz.prog w = .ok (.pointer none) w := by kernel_rfl
/-- One account by its address. -/
theorem sta_get {T : UTy} {w : World} {own : Own} {sb mb : Nat} {uv mv : Value} {last : Nat} {E : List (Nat × Nat)} {U : List Und} {mk : List (Nat × Nat)} {S : St} (h : StaAt T w own sb mb uv mv last E U mk S) (a : Nat) :
    (∃ p, getA a E = some p ∧ AccAt w own p (S a)) ∨ (getA a E = none ∧ S a = Acc.none) := by
  cases hg : getA a E with
  | none => exact .inr ⟨rfl, h.out a hg⟩
  | some p => exact .inl ⟨p, rfl, h.acc (a, p) (getA_mem hg)⟩

set_option maxRecDepth 100000 in
theorem st_of2 {w : World} {own : Own} {sb : Nat} {S : St} {M : List (Nat × St)} {n : Nat} (h : StateAt TU w own sb S M n) (a : Nat) (ha : a < wA) :
    Calls Tryz.prog 67 #[.pointer (some ⟨sb, 0, none⟩), .agg (beC 20 a).toArray] w fun e w' => ∃ p, e = .returned (.pointer (some ⟨p, 0, none⟩)) ∧ AccR w' p (S a) ∧ Below w.heap.size w w' ∧ ∃ cv qv, w'.row? p 0 35 = some (accC (S a).nonce (S a).bal cv qv) ∧ CodeAt w' own cv (S a).code := by
  obtain ⟨mb, uv, mv, last, E, U, mk, h1, _⟩ := h
  have HW : Hid (∃ w1, w1 = w.alloc (.cells (beC 20 a).toArray 23) ∧ Below w.heap.size w w1 ∧ StaAt TU w1 own sb mb uv mv last E U mk S ∧ w1.row? w.heap.size 0 20 = some (beC 20 a)) :=
    ⟨_, rfl, (Below.refl _ _).alloc (Nat.le_refl _) _, h1.only (R := fun _ => False) ((Only.refl _ _).alloc _) (fun _ h => h.elim), World.row?_alloc_at _ _ _ rfl (by simp)⟩
  obtain ⟨w1, e1, hb1, s1, r1⟩ := HW.out
  clear HW h1
  obtain ⟨c0, _⟩ := s1.cells
  have d0 : w1.drew.cell? ⟨sb, 0, none⟩ = some (.map (some mb)) := c0
  have d1 : w1.drew.row? w.heap.size 0 20 = some (beC 20 a) := r1
  have l1 := (s1.map.of_block (w' := w1.drew) rfl).look keyA Tryz.underlying89 (zero82 _) ha
  have HE := Lib.hid e1
  have HB := Lib.hid hb1
  rcases sta_get s1 a with ⟨p, hp, hacc⟩ | ⟨hp, hacc⟩
  · rw [hp] at l1
    have l2 : (Instr.lookup 89 (.map (some mb)) (.agg (beC 20 a).toArray) false).run Tryz.prog w1.drew = .ok (.pointer (some ⟨p, 0, none⟩)) w1.drew := l1
    have hacc2 := hacc.only_out (R := fun _ => False) (Only.refl _ w1).drew (fun _ h => h.elim)
    have HA := Lib.hid hacc2.r
    have HC : Hid (∃ cv qv, w1.drew.row? p 0 35 = some (accC (S a).nonce (S a).bal cv qv) ∧ CodeAt w1.drew own cv (S a).code) := by
      obtain ⟨cv, q, sl, h1, h2, _⟩ := hacc2.cells
      exact ⟨cv, _, h1, h2⟩
    clear hacc2
    clear hacc s1 hp l1 hb1 e1 c0 r1
    go_enter Tryz.func67, Tryz.ntmps67
    go_wp2_with fail
    rw [← HE.out]
    refine wp_region_still_lit (by kernel_rfl) (by kernel_rfl) ?_
    change wpStill _ _ (World.drew _) _ _ _
    repeat still_step
    refine wpStill_nil ?_
    go_wp2
    go_ret
    exact ⟨p, rfl, HA.out, HB.out.drew, HC.out⟩
  · rw [hp] at l1
    have l2 : (Instr.lookup 89 (.map (some mb)) (.agg (beC 20 a).toArray) false).run Tryz.prog w1.drew = .ok (.pointer none) w1.drew := l1
    have HA : Hid (S a = Acc.none) := hacc
    clear hacc s1 hp l1 hb1 e1 c0 r1
    go_enter Tryz.func67, Tryz.ntmps67
    go_wp2_with fail
    rw [← HE.out]
    refine wp_region_still_lit (by kernel_rfl) (by kernel_rfl) ?_
    change wpStill _ _ (World.drew _) _ _ _
    repeat still_step
    refine wpStill_nil ?_
    go_wp2
    go_ret
    exact ⟨w1.heap.size, rfl, by rw [HA.out]; exact (accZ_r w1 98).below (Below.refl _ _).drew, (HB.out.alloc HB.out.size _).drew, .slice none 0 0, .map none, by rw [HA.out]; exact World.row?_alloc_at accZ 98 _ rfl (accC_len _ _ _ _), by rw [HA.out]; exact codeAt_nil _ _⟩

theorem st_of {w : World} {own : Own} {sb : Nat} {S : St} {M : List (Nat × St)} {n : Nat} (h : StateAt TU w own sb S M n) (a : Nat) (ha : a < wA) :
    Calls Tryz.prog 67 #[.pointer (some ⟨sb, 0, none⟩), .agg (beC 20 a).toArray] w fun e w' => ∃ p, e = .returned (.pointer (some ⟨p, 0, none⟩)) ∧ AccR w' p (S a) ∧ Below w.heap.size w w' :=
  (st_of2 h a ha).mono fun _ _ ⟨p, h1, h2, h3, _⟩ => ⟨p, h1, h2, h3⟩

set_option maxRecDepth 100000 in
theorem st_nonce {w : World} {own : Own} {sb : Nat} {S : St} {M : List (Nat × St)} {n : Nat} (h : StateAt TU w own sb S M n) (a : Nat) (ha : a < wA) :
    Calls Tryz.prog 24 #[.pointer (some ⟨sb, 0, none⟩), .agg (beC 20 a).toArray] w fun e w' => e = .returned (.int .i64 (S a).nonce) ∧ Below w.heap.size w w' := by
  have H1 := Lib.hid (h.below ((Below.refl _ _).alloc (Nat.le_refl _) (.cells (beC 20 a).toArray 23)))
  have hk : (beC 20 a).length = 20 := by simp
  clear h
  go_enter Tryz.func24, Tryz.ntmps24
  go_wp2_with fail
  refine (st_of H1.out a ha).mono ?_
  rintro e w1 ⟨p, rfl, hr, hb⟩
  obtain ⟨cv, qv, h1, _, _⟩ := hr.cells
  obtain ⟨c0, _⟩ := accC_parts h1
  have HB := Lib.hid hb
  clear hb h1 hr
  go_wp2
  go_ret
  exact ⟨rfl, ((Below.refl _ _).alloc (Nat.le_refl _) _).trans (HB.out.mono (by simp))⟩
set_option maxRecDepth 100000 in
theorem st_balance {w : World} {own : Own} {sb : Nat} {S : St} {M : List (Nat × St)} {n : Nat} (h : StateAt TU w own sb S M n) (a : Nat) (ha : a < wA) :
    Calls Tryz.prog 23 #[.pointer (some ⟨sb, 0, none⟩), .agg (beC 20 a).toArray] w fun e w' => e = .returned (.agg (beC 32 (S a).bal).toArray) ∧ Below w.heap.size w w' := by
  have H1 := Lib.hid (h.below (((Below.refl _ _).alloc (Nat.le_refl _) (.cells (beC 20 a).toArray 23)).alloc (by simp) (.cells (zU8 32).toArray 25)))
  have hk : (beC 20 a).length = 20 := by simp
  have hok := beC_ok 32 (S a).bal
  have hf : ((w.alloc (.cells (beC 20 a).toArray 23)).alloc (.cells (zU8 32).toArray 25)).free? (w.heap.size + 1) 0 32 = true := by simp [go_sem]
  have hrk : ((w.alloc (.cells (beC 20 a).toArray 23)).alloc (.cells (zU8 32).toArray 25)).row? w.heap.size 0 20 = some (beC 20 a) := by
    rw [World.row?_alloc_lt _ (by simp)]; exact World.row?_alloc_at _ _ _ rfl hk
  clear h
  go_enter Tryz.func23, Tryz.ntmps23
  go_wp2_with fail
  refine (st_of H1.out a ha).mono ?_
  rintro e w1 ⟨p, rfl, hr, hb⟩
  obtain ⟨cv, qv, h1, _, _⟩ := hr.cells
  obtain ⟨_, c1, _⟩ := accC_parts h1
  have HB := Lib.hid hb
  have hf1 : w1.free? (w.heap.size + 1) 0 32 = true := by rw [(brow hb).2 _ _ _ (by simp)]; exact hf
  clear hb h1 hr hf hrk
  go_wp2
  exact ret_row ty25 rfl _ rfl rfl hf1 hok ⟨rfl, (((Below.refl _ _).alloc (Nat.le_refl _) _).alloc (by simp) _).trans (HB.out.mono (by simp; omega)) |>.setCells (by simp) _ _⟩
end Go.Proofs.YtiglinnjnobodaaGreat
