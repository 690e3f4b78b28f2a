/-
  Contracts of the reference's Digits and ranges.
-/
import Derived.Test.YtaoacfkifcglfaaDoorInf
namespace Go.Proofs.YtaoacfkifcglfaaDoor
open Go.RowKit Go.Mun

theorem ty79 : RowTy Tryd.prog 79 5 := ⟨⟨_, Tryd.underlying79, rfl⟩, by kernel_rfl⟩
def infZC : List Value := infZ.c
theorem ld79 (ρ : Operand → Value) (dst : Option Tmp) (x : Operand) (t : TypeId) (pos : String) (after : Array Edge) (gd : Option (Nat × Bool)) (w : World) : (execOp ρ ⟨dst, .load 79 x, t, pos, after, gd⟩).run Tryd.prog w = asNext (ldRow Tryd.prog 79 5 (ρ x) w) := ex_load ρ dst x t pos after gd w ty79
theorem st79 (ρ : Operand → Value) (dst : Option Tmp) (x y : Operand) (t : TypeId) (pos : String) (after : Array Edge) (gd : Option (Nat × Bool)) (w : World) : (execOp ρ ⟨dst, .store 79 x y, t, pos, after, gd⟩).run Tryd.prog w = asSkip (stRow Tryd.prog 79 5 (ρ x) (ρ y) w) := ex_store ρ dst x y t pos after gd w ty79
theorem al79 (ρ : Operand → Value) (dst : Option Tmp) (t : TypeId) (pos : String) (after : Array Edge) (gd : Option (Nat × Bool)) (w : World) : (execOp ρ ⟨dst, .alloc 79, t, pos, after, gd⟩).run Tryd.prog w = .ok (.value (.pointer (some ⟨w.heap.size, 0, none⟩))) (w.alloc (.cells infZC.toArray 79)) := ex_alloc ρ dst t pos after gd w (fun _ => by kernel_rfl)
theorem bz79 (ρ : Operand → Value) (dst : Option Tmp) (t : TypeId) (pos : String) (after : Array Edge) (gd : Option (Nat × Bool)) (w : World) : (execOp ρ ⟨dst, .build 79 #[], t, pos, after, gd⟩).run Tryd.prog w = .ok (.value (.agg infZC.toArray)) w := ex_build0 (fun _ => by kernel_rfl) ρ dst t pos after gd w
set_option maxRecDepth 100000 in
theorem sty79 : StructTy Tryd.prog 79 5 infZC [(0, 1), (1, 1), (2, 1), (3, 1), (4, 1)] := ⟨⟨_, _, rfl, Tryd.underlying79, by kernel_rfl, by kernel_rfl⟩, rfl⟩
attribute [go_sem ↓] ld79 st79 al79 bz79

def dU (n : Nat) : UInt8 := UInt8.ofNat (48 + n)
def digL (n : Nat) : List UInt8 := (if 9 < n then [dU (n / 10)] else []) ++ [dU (n % 10)]
theorem digL_size (n : Nat) : (str (digL n)).size ≤ 2 := by
  rw [str_size]; unfold digL; split <;> simp
theorem slice_dig (r : Int) (h0 : 0 ≤ r) (h1 : r < 10) (w : World) :
    (Instr.slice 9 (.string ⟨#[48, 49, 50, 51, 52, 53, 54, 55, 56, 57, 97, 98, 99, 100, 101, 102]⟩) (some (.int .i64 r)) (some (.int .i64 (r + 1))) none).run Tryd.prog w = .ok (.string (str [dU r.toNat])) w := by
  obtain ⟨n, rfl⟩ := Int.eq_ofNat_of_zero_le h0
  obtain rfl | rfl | rfl | rfl | rfl | rfl | rfl | rfl | rfl | rfl : n = 0 ∨ n = 1 ∨ n = 2 ∨ n = 3 ∨ n = 4 ∨ n = 5 ∨ n = 6 ∨ n = 7 ∨ n = 8 ∨ n = 9 := by omega
  all_goals (clear h0 h1; kernel_rfl)

set_option maxRecDepth 10000 in
set_option maxHeartbeats 400000 in
theorem digits_lo (n : Nat) (hn : n < 10) (x : Int) (hx : x = (n : Int)) (w : World) : Calls Tryd.prog 77 #[.int .i64 x] w fun e w' => e = .returned (.string (str (digL n))) ∧ w = w' := by
  have x0 : 0 ≤ x := by omega
  have x9 : x ≤ 9 := by omega
  have em : x % 10 = x := by omega
  have hs := fun wx => slice_dig x x0 (by omega) wx
  have HD : Hid (str [dU x.toNat] = str (digL n)) := Lib.hid (by
    unfold digL
    rw [if_neg (by omega), List.nil_append, hx, Int.toNat_natCast, Nat.mod_eq_of_lt hn])
  clear hx
  go_enter Tryd.func77, Tryd.ntmps77
  go_wp2
  go_ret
  exact ⟨by rw [← HD.out]; rfl, rfl⟩
set_option maxRecDepth 10000 in
set_option maxHeartbeats 400000 in
theorem ref_digits (n : Nat) (hn : n < 100) (x : Int) (hx : x = (n : Int)) (w : World) : Calls Tryd.prog 77 #[.int .i64 x] w fun e w' => e = .returned (.string (str (digL n))) ∧ w = w' := by
  by_cases h9 : n < 10
  · exact digits_lo n h9 x hx w
  · have x0 : 10 ≤ x := by omega
    have x9 : x ≤ 99 := by omega
    obtain ⟨r, hr⟩ : ∃ r, r = x % 10 := ⟨_, rfl⟩
    have r0 : 0 ≤ r := by omega
    have r1 : r ≤ 9 := by omega
    have em : x % 10 = r := hr.symm
    have hs := fun wx => slice_dig r r0 (by omega) wx
    have HD : Hid (str (digL (n / 10)) ++ str [dU r.toNat] = str (digL n)) := Lib.hid (by
      rw [str_append]
      unfold digL
      rw [if_neg (by omega), if_pos (by omega), List.nil_append]
      have e1 : n / 10 % 10 = n / 10 := by omega
      have e2 : r.toNat = n % 10 := by omega
      rw [e1, e2])
    have HX := Lib.hid hx
    clear hr hx
    go_enter Tryd.func77, Tryd.ntmps77
    go_wp2_with fail
    refine (digits_lo (n / 10) (by omega) _ (by have := HX.out; omega) _).mono ?_
    rintro e w1 ⟨rfl, rfl⟩
    have z1 := digL_size (n / 10)
    have z2 : (str [dU r.toNat]).size ≤ 2 := by rw [str_size]; simp
    go_wp2
    go_ret
    exact ⟨by rw [← HD.out]; rfl, rfl⟩
attribute [local irreducible] Inf.c infZC infsC
theorem infZC_ok : okL 5 infZC = true := by unfold infZC Inf.c; rfl
theorem Inf.ok (x : Inf) : okL 5 x.c = true := by unfold Inf.c; simp [okL, Value.oneCell']

theorem name_digits : ((List.range 256).all fun m =>
    (!(decide (96 ≤ m) && decide (m < 128)) || decide (nameL m = [80, 85, 83, 72] ++ digL (m - 95))) && (!(decide (128 ≤ m) && decide (m < 144)) || decide (nameL m = [68, 85, 80] ++ digL (m - 127))) &&
    (!(decide (144 ≤ m) && decide (m < 160)) || decide (nameL m = [83, 87, 65, 80] ++ digL (m - 143))) && (!(decide (160 ≤ m) && decide (m < 165)) || decide (nameL m = [76, 79, 71] ++ digL (m - 160)))) = true := by decide +kernel

def rngOk (m : Nat) : Bool := decide (96 ≤ m) && decide (m < 165)
set_option maxRecDepth 100000 in
set_option maxHeartbeats 1000000 in
theorem ref_ranges (m : Nat) (hm : m < 256) (w : World) : Calls Tryd.prog 67 #[.int .u8 (m : Int)] w fun e w' => e = .returned (.tuple #[.agg (rangesL m).c.toArray, .bool (rngOk m)]) ∧ Below w.heap.size w w' := by
  have hnd := List.all_eq_true.1 name_digits m (List.mem_range.2 hm)
  simp only [Bool.and_eq_true, Bool.or_eq_true, Bool.not_eq_true', Bool.and_eq_false_iff, decide_eq_true_eq, decide_eq_false_iff_not] at hnd
  obtain ⟨⟨⟨n1, n2⟩, n3⟩, n4⟩ := hnd
  have hf : Hid ((w.alloc (.cells infZC.toArray 79)).free? w.heap.size 0 5 = true) := Lib.hid (World.free?_alloc_at _ _ rfl (by rw [okL_len infZC_ok]; decide))
  obtain ⟨x, hx⟩ : ∃ x : Int, x = (m : Int) := ⟨_, rfl⟩
  rw [← hx]
  have x0 : 0 ≤ x := by omega
  have x1 : x ≤ 255 := by omega
  by_cases h1 : 96 ≤ m ∧ m < 128
  · have hr : rangesL m = ⟨x, nameL m, 0, 1, 3⟩ := by unfold rangesL; rw [if_pos h1, hx]
    have hk : rngOk m = true := by unfold rngOk; simp; omega
    have hn : nameL m = [80, 85, 83, 72] ++ digL (m - 95) := n1.resolve_left (by omega)
    have HN := Lib.hid (show ⟨#[80, 85, 83, 72]⟩ ++ str (digL (m - 95)) = str (nameL m) by rw [hn, show (⟨#[80, 85, 83, 72]⟩ : ByteArray) = str [80, 85, 83, 72] from rfl, str_append])
    have g0 : 96 ≤ x := by omega
    have g1 : x < 128 := by omega
    have HX := Lib.hid hx
    have H1 := Lib.hid h1
    rw [hr, hk]
    have z1 := digL_size (m - 95)
    generalize nameL m = nm at *
    have hok : okL 5 [.int .u8 x, .string (str nm), .int .i64 (0), .int .i64 (1), .int .i64 (3)] = true := by simp [okL, Value.oneCell']
    clear n1 n2 n3 n4 hr hk hn hx h1 hm
    have hff := hf.out
    go_enter Tryd.func67, Tryd.ntmps67
    go_wp2_with fail
    refine (ref_digits (m - 95) (by have := H1.out; omega) _ (by have := HX.out; have := H1.out; omega) _).mono ?_
    rintro e w1 ⟨rfl, rfl⟩
    have hnn := HN.out
    generalize str (digL (m - 95)) = ds at *
    go_wp2
    exact ret_row2 ty79 rfl [.int .u8 x, .string (str nm), .int .i64 (0), .int .i64 (1), .int .i64 (3)] _ rfl rfl rfl (row?_setCells_whole _ hf.out hok) ⟨by unfold Inf.c; rfl, ((Below.refl _ _).alloc (Nat.le_refl _) _).setCells (Nat.le_refl _) _ _⟩
  by_cases h2 : 128 ≤ m ∧ m < 144
  · have hr : rangesL m = ⟨x, nameL m, x - 127, x - 126, 3⟩ := by unfold rangesL; rw [if_neg h1]; rw [if_pos h2, hx]
    have hk : rngOk m = true := by unfold rngOk; simp; omega
    have hn : nameL m = [68, 85, 80] ++ digL (m - 127) := n2.resolve_left (by omega)
    have HN := Lib.hid (show ⟨#[68, 85, 80]⟩ ++ str (digL (m - 127)) = str (nameL m) by rw [hn, show (⟨#[68, 85, 80]⟩ : ByteArray) = str [68, 85, 80] from rfl, str_append])
    have g0 : 128 ≤ x := by omega
    have g1 : x < 144 := by omega
    have HX := Lib.hid hx
    have H1 := Lib.hid h2
    rw [hr, hk]
    have z1 := digL_size (m - 127)
    generalize nameL m = nm at *
    have hok : okL 5 [.int .u8 x, .string (str nm), .int .i64 (x - 127), .int .i64 (x - 126), .int .i64 (3)] = true := by simp [okL, Value.oneCell']
    clear n1 n2 n3 n4 hr hk hn hx h1 h2 hm
    have hff := hf.out
    go_enter Tryd.func67, Tryd.ntmps67
    go_wp2_with fail
    refine (ref_digits (m - 127) (by have := H1.out; omega) _ (by have := HX.out; have := H1.out; omega) _).mono ?_
    rintro e w1 ⟨rfl, rfl⟩
    have hnn := HN.out
    generalize str (digL (m - 127)) = ds at *
    go_wp2
    exact ret_row2 ty79 rfl [.int .u8 x, .string (str nm), .int .i64 (x - 127), .int .i64 (x - 126), .int .i64 (3)] _ rfl rfl rfl (row?_setCells_whole _ hf.out hok) ⟨by unfold Inf.c; rfl, ((Below.refl _ _).alloc (Nat.le_refl _) _).setCells (Nat.le_refl _) _ _⟩
  by_cases h3 : 144 ≤ m ∧ m < 160
  · have hr : rangesL m = ⟨x, nameL m, x - 142, x - 142, 3⟩ := by unfold rangesL; rw [if_neg h1]; rw [if_neg h2]; rw [if_pos h3, hx]
    have hk : rngOk m = true := by unfold rngOk; simp; omega
    have hn : nameL m = [83, 87, 65, 80] ++ digL (m - 143) := n3.resolve_left (by omega)
    have HN := Lib.hid (show ⟨#[83, 87, 65, 80]⟩ ++ str (digL (m - 143)) = str (nameL m) by rw [hn, show (⟨#[83, 87, 65, 80]⟩ : ByteArray) = str [83, 87, 65, 80] from rfl, str_append])
    have g0 : 144 ≤ x := by omega
    have g1 : x < 160 := by omega
    have HX := Lib.hid hx
    have H1 := Lib.hid h3
    rw [hr, hk]
    have z1 := digL_size (m - 143)
    generalize nameL m = nm at *
    have hok : okL 5 [.int .u8 x, .string (str nm), .int .i64 (x - 142), .int .i64 (x - 142), .int .i64 (3)] = true := by simp [okL, Value.oneCell']
    clear n1 n2 n3 n4 hr hk hn hx h1 h2 h3 hm
    have hff := hf.out
    go_enter Tryd.func67, Tryd.ntmps67
    go_wp2_with fail
    refine (ref_digits (m - 143) (by have := H1.out; omega) _ (by have := HX.out; have := H1.out; omega) _).mono ?_
    rintro e w1 ⟨rfl, rfl⟩
    have hnn := HN.out
    generalize str (digL (m - 143)) = ds at *
    go_wp2
    exact ret_row2 ty79 rfl [.int .u8 x, .string (str nm), .int .i64 (x - 142), .int .i64 (x - 142), .int .i64 (3)] _ rfl rfl rfl (row?_setCells_whole _ hf.out hok) ⟨by unfold Inf.c; rfl, ((Below.refl _ _).alloc (Nat.le_refl _) _).setCells (Nat.le_refl _) _ _⟩
  by_cases h4 : 160 ≤ m ∧ m < 165
  · have hr : rangesL m = ⟨x, nameL m, x - 158, 0, 375 * (x - 159)⟩ := by unfold rangesL; rw [if_neg h1]; rw [if_neg h2]; rw [if_neg h3]; rw [if_pos h4, hx]
    have hk : rngOk m = true := by unfold rngOk; simp; omega
    have hn : nameL m = [76, 79, 71] ++ digL (m - 160) := n4.resolve_left (by omega)
    have HN := Lib.hid (show ⟨#[76, 79, 71]⟩ ++ str (digL (m - 160)) = str (nameL m) by rw [hn, show (⟨#[76, 79, 71]⟩ : ByteArray) = str [76, 79, 71] from rfl, str_append])
    have g0 : 160 ≤ x := by omega
    have g1 : x < 165 := by omega
    have HX := Lib.hid hx
    have H1 := Lib.hid h4
    rw [hr, hk]
    have z1 := digL_size (m - 160)
    generalize nameL m = nm at *
    have hok : okL 5 [.int .u8 x, .string (str nm), .int .i64 (x - 158), .int .i64 (0), .int .i64 (375 * (x - 159))] = true := by simp [okL, Value.oneCell']
    clear n1 n2 n3 n4 hr hk hn hx h1 h2 h3 h4 hm
    have hff := hf.out
    go_enter Tryd.func67, Tryd.ntmps67
    go_wp2_with fail
    refine (ref_digits (m - 160) (by have := H1.out; omega) _ (by have := HX.out; have := H1.out; omega) _).mono ?_
    rintro e w1 ⟨rfl, rfl⟩
    have hnn := HN.out
    generalize str (digL (m - 160)) = ds at *
    go_wp2
    exact ret_row2 ty79 rfl [.int .u8 x, .string (str nm), .int .i64 (x - 158), .int .i64 (0), .int .i64 (375 * (x - 159))] _ rfl rfl rfl (row?_setCells_whole _ hf.out hok) ⟨by unfold Inf.c; rfl, ((Below.refl _ _).alloc (Nat.le_refl _) _).setCells (Nat.le_refl _) _ _⟩
  · have hr : rangesL m = infZ := by unfold rangesL; rw [if_neg h1, if_neg h2, if_neg h3, if_neg h4]
    have hk : rngOk m = false := by unfold rngOk; simp; omega
    rw [hr, hk]
    have hh : Hid (x < 96 ∨ 165 ≤ x) := Lib.hid (by omega)
    have hz : infZ.c = infZC := by unfold infZC; rfl
    rw [hz]
    have hff := hf.out
    have hok := infZC_ok
    clear n1 n2 n3 n4 hr hk hx h1 h2 h3 h4 hm hz
    by_cases hlo : x < 96
    · clear hh
      go_enter Tryd.func67, Tryd.ntmps67
      go_wp2
      exact ret_row2 ty79 rfl _ _ rfl rfl rfl (row?_setCells_whole _ hf.out hok) ⟨rfl, ((Below.refl _ _).alloc (Nat.le_refl _) _).setCells (Nat.le_refl _) _ _⟩
    · have hhi : 165 ≤ x := by have := hh.out; omega
      clear hh hlo
      go_enter Tryd.func67, Tryd.ntmps67
      go_wp2
      exact ret_row2 ty79 rfl _ _ rfl rfl rfl (row?_setCells_whole _ hf.out hok) ⟨rfl, ((Below.refl _ _).alloc (Nat.le_refl _) _).setCells (Nat.le_refl _) _ _⟩
end Go.Proofs.YtaoacfkifcglfaaDoor
