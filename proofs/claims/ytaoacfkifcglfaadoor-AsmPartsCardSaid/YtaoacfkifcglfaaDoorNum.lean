/-
  Plain facts on numbers of four limbs and their bytes.
-/
import Derived.Test.YtaoacfkifcglfaaDoorRowK
namespace Go.Mun

/-- The limbs. -/
def limb (x0 x1 x2 x3 : Nat) (q : Nat) : Nat := match q with | 0 => x0 | 1 => x1 | 2 => x2 | _ => x3
def limbN (x0 x1 x2 x3 : Nat) : Nat := x0 + 18446744073709551616 * (x1 + 18446744073709551616 * (x2 + 18446744073709551616 * x3))

theorem byte_low (x hi r : Nat) (hr : r < 8) : (x + 18446744073709551616 * hi) / 2 ^ (8 * r) % 256 = x / 2 ^ (8 * r) % 256 := by
  match r, hr with
  | 0, _ => simp; omega
  | 1, _ => simp; omega
  | 2, _ => simp; omega
  | 3, _ => simp; omega
  | 4, _ => simp; omega
  | 5, _ => simp; omega
  | 6, _ => simp; omega
  | 7, _ => simp; omega

theorem limb_div (x0 x1 x2 x3 q : Nat) (hq : q < 4) (h0 : x0 < 18446744073709551616) (h1 : x1 < 18446744073709551616) (h2 : x2 < 18446744073709551616) :
    ∃ hi, limbN x0 x1 x2 x3 / 18446744073709551616 ^ q = limb x0 x1 x2 x3 q + 18446744073709551616 * hi := by
  have e1 : limbN x0 x1 x2 x3 / 18446744073709551616 = x1 + 18446744073709551616 * (x2 + 18446744073709551616 * x3) := by unfold limbN; omega
  have e2 : (x1 + 18446744073709551616 * (x2 + 18446744073709551616 * x3)) / 18446744073709551616 = x2 + 18446744073709551616 * x3 := by omega
  have e3 : (x2 + 18446744073709551616 * x3) / 18446744073709551616 = x3 := by omega
  match q, hq with
  | 0, _ => exact ⟨_, by rw [Nat.pow_zero, Nat.div_one]; rfl⟩
  | 1, _ => exact ⟨_, by rw [Nat.pow_one, e1]; rfl⟩
  | 2, _ => exact ⟨_, by rw [Nat.pow_succ, Nat.pow_one, ← Nat.div_div_eq_div_mul, e1, e2]; rfl⟩
  | 3, _ => exact ⟨0, by rw [Nat.pow_succ, Nat.pow_succ, Nat.pow_one, ← Nat.div_div_eq_div_mul, ← Nat.div_div_eq_div_mul, e1, e2, e3]; rfl⟩

theorem limb_byte (x0 x1 x2 x3 j : Nat) (hj : j < 32) (h0 : x0 < 18446744073709551616) (h1 : x1 < 18446744073709551616) (h2 : x2 < 18446744073709551616) :
    limbN x0 x1 x2 x3 / 256 ^ j % 256 = limb x0 x1 x2 x3 (j / 8) / 2 ^ (8 * (j % 8)) % 256 := by
  obtain ⟨hi, h⟩ := limb_div x0 x1 x2 x3 (j / 8) (by omega) h0 h1 h2
  have hp : 256 ^ j = 18446744073709551616 ^ (j / 8) * 2 ^ (8 * (j % 8)) := by
    have e : (18446744073709551616 : Nat) = 256 ^ 8 := by decide
    rw [e, ← Nat.pow_mul, show (2 : Nat) ^ (8 * (j % 8)) = 256 ^ (j % 8) by rw [Nat.pow_mul], ← Nat.pow_add]
    congr 1; omega
  rw [hp, ← Nat.div_div_eq_div_mul, h, byte_low _ _ _ (by omega)]

theorem limb_lt (x0 x1 x2 x3 q : Nat) (h0 : x0 < 18446744073709551616) (h1 : x1 < 18446744073709551616) (h2 : x2 < 18446744073709551616) (h3 : x3 < 18446744073709551616) : limb x0 x1 x2 x3 q < 18446744073709551616 := by
  unfold limb; split <;> assumption

/-- The first k of n bytes, then noughts. -/
def beZ (n N k : Nat) : List Value := ((be n N).take k ++ List.replicate (n - k) 0).map (Value.int .u8)
theorem beZ_zero (n N : Nat) : beZ n N 0 = zU8 n := by simp [beZ, zU8]
theorem beZ_full (n N : Nat) : beZ n N n = beC n N := by
  have : (be n N).take n = be n N := List.take_of_length_le (by simp)
  simp [beZ, beC, this]
theorem beZ_len (n N k : Nat) (h : k ≤ n) : (beZ n N k).length = n := by simp [beZ]; omega
theorem beZ_ok (n N k : Nat) (h : k ≤ n) : okL n (beZ n N k) = true := by
  have := okL_ints .u8 ((be n N).take k ++ List.replicate (n - k) 0)
  have e : ((be n N).take k ++ List.replicate (n - k) 0).length = n := by simp; omega
  rw [e] at this
  exact this
theorem beZ_set (n N k : Nat) (h : k < n) (x : Int) (hx : x = (N / 256 ^ (n - 1 - k) % 256 : Nat)) : splice (beZ n N k) k [Value.int .u8 x] = beZ n N (k + 1) := by
  apply List.ext_getElem?
  intro i
  rw [getElem?_splice _ _ _ (by rw [beZ_len n N k (by omega)]; simp; omega)]
  have hb : ∀ j m, m ≤ n → (beZ n N m)[j]? = if j < m then some (.int .u8 (N / 256 ^ (n - 1 - j) % 256 : Nat)) else if j < n then some (.int .u8 0) else none := by
    intro j m hm
    simp only [beZ, List.getElem?_map, List.getElem?_append, List.length_take, List.length_map, List.length_range, be, List.getElem?_take, List.getElem?_replicate, Nat.min_eq_left hm]
    by_cases hj : j < m
    · rw [if_pos hj, if_pos hj, if_pos hj, List.getElem?_range (by omega)]; rfl
    · rw [if_neg hj, if_neg hj]
      by_cases h2 : j < n
      · rw [if_pos h2, if_pos (by omega)]; rfl
      · rw [if_neg h2, if_neg (by omega)]; rfl
  rw [hb _ _ (by omega), hb _ _ (by omega)]
  simp only [List.length_singleton]
  by_cases h1 : i < k
  · rw [if_pos h1, if_pos h1, if_pos (by omega)]
  · by_cases h2 : i < k + 1
    · obtain rfl : i = k := by omega
      rw [if_neg h1, if_pos h2, if_pos (by omega), hx]; simp
    · rw [if_neg h1, if_neg h2, if_neg h1, if_neg h2]

/-- Numbers as cells of bytes. -/
def u8L (L : List Int) : List Value := L.map (Value.int .u8)
@[go_sem, simp] theorem u8L_len (L : List Int) : (u8L L).length = L.length := by simp [u8L]
theorem u8L_ok (L : List Int) (n : Nat) (h : L.length = n) : okL n (u8L L) = true := by subst h; exact okL_ints .u8 L
theorem u8L_set (L : List Int) (i : Nat) (h : i < L.length) (x : Int) : splice (u8L L) i [Value.int .u8 x] = u8L (L.set i x) := by
  apply List.ext_getElem?
  intro j
  rw [getElem?_splice _ _ _ (by simp; omega)]
  simp only [u8L, List.getElem?_map, List.getElem?_set, List.length_singleton]
  by_cases h1 : j < i
  · rw [if_pos h1, if_neg (by omega)]
  · rw [if_neg h1]
    by_cases h2 : j < i + 1
    · obtain rfl : i = j := by omega
      rw [if_pos h2, if_pos rfl, if_pos h]; simp
    · rw [if_neg h2, if_neg (by omega)]

/-- A whole number as a word. -/
def ofW (n : Int) : Nat := (n % 115792089237316195423570985008687907853269984665640564039457584007913129639936).toNat

theorem ofW_byte (n : Int) (j : Nat) (hj : j < 32) : ((ofW n / 256 ^ j % 256 : Nat) : Int) = n / 256 ^ j % 256 := by
  have e0 : (115792089237316195423570985008687907853269984665640564039457584007913129639936 : Int) = 256 ^ j * 256 ^ (32 - j) := by
    rw [← Int.pow_add, show j + (32 - j) = 32 by omega]; decide
  have hr : ((ofW n : Nat) : Int) = n % (256 ^ j * 256 ^ (32 - j)) := by
    rw [← e0]; unfold ofW; omega
  have hn : n = n % (256 ^ j * 256 ^ (32 - j)) + 256 ^ j * (256 ^ (32 - j) * (n / (256 ^ j * 256 ^ (32 - j)))) := by
    have := Int.emod_add_mul_ediv n (256 ^ j * 256 ^ (32 - j))
    rw [Int.mul_assoc] at this; exact this.symm
  have e1 : (256 : Int) ^ (32 - j) = 256 * 256 ^ (31 - j) := by
    rw [show 32 - j = 31 - j + 1 by omega, Int.pow_succ, Int.mul_comm]
  have hp : (256 : Int) ^ j ≠ 0 := by
    have : (0 : Int) < 256 ^ j := Int.pow_pos (by decide)
    omega
  rw [← hr] at hn
  generalize (ofW n) = m at *
  have : n / 256 ^ j % 256 = ((m : Int) / 256 ^ j) % 256 := by
    rw [hn, Int.add_mul_ediv_left _ _ hp, e1, Int.mul_assoc, Int.add_mul_emod_self_left]
  rw [this]
  simp

theorem and_mask (m : Int) (j : Nat) (hj : j < 63) : bits .and .i64 m (2 ^ j - 1 : Nat) = m % (2 ^ j : Nat) := by
  have h63 : 2 ^ j ≤ 2 ^ 62 := Nat.pow_le_pow_right (by decide) (by omega)
  have hpos : 0 < 2 ^ j := Nat.pow_pos (by decide)
  have h1 : ((BitVec.ofInt 64 m) &&& (BitVec.ofInt 64 ((2 ^ j - 1 : Nat) : Int))).toNat = (m % (2 ^ j : Nat)).toNat := by
    have e2 : ((((2 ^ j - 1 : Nat) : Int)) % ((2 ^ 64 : Nat) : Int)).toNat = 2 ^ j - 1 := by
      generalize 2 ^ j = p at *
      omega
    rw [BitVec.toNat_and, BitVec.toNat_ofInt, BitVec.toNat_ofInt, e2, Nat.and_two_pow_sub_one_eq_mod]
    have e3 : ((2 ^ 64 : Nat) : Int) = ((2 ^ j : Nat) : Int) * ((2 ^ (64 - j) : Nat) : Int) := by
      rw [← Int.natCast_mul, ← Nat.pow_add]; congr 2; omega
    have h0 : 0 ≤ m % ((2 ^ 64 : Nat) : Int) := Int.emod_nonneg _ (by decide)
    have h2 : 0 ≤ m % ((2 ^ j : Nat) : Int) := Int.emod_nonneg _ (by omega)
    have e4 : (((m % ((2 ^ 64 : Nat) : Int)).toNat % 2 ^ j : Nat) : Int) = m % ((2 ^ j : Nat) : Int) := by
      rw [Int.natCast_emod, Int.toNat_of_nonneg h0, e3, Int.emod_emod_of_dvd _ ⟨_, rfl⟩]
    rw [← e4, Int.toNat_natCast]
  show IntKind.i64.wrap (((BitVec.ofInt 64 m) &&& (BitVec.ofInt 64 ((2 ^ j - 1 : Nat) : Int))).toNat : Int) = _
  rw [h1, IntKind.wrap_i64]
  have h2 : 0 ≤ m % ((2 ^ j : Nat) : Int) := Int.emod_nonneg _ (by omega)
  have h3 : m % ((2 ^ j : Nat) : Int) < (2 ^ j : Nat) := Int.emod_lt_of_pos _ (by omega)
  generalize 2 ^ j = p at *
  omega
theorem and_255 (m : Int) : bits .and .i64 m 255 = m % 256 := and_mask m 8 (by decide)

theorem and_u8 (m : Int) (j : Nat) (hj : j < 8) : bits .and .u8 m (2 ^ j - 1 : Nat) = m % (2 ^ j : Nat) := by
  have h63 : 2 ^ j ≤ 2 ^ 7 := Nat.pow_le_pow_right (by decide) (by omega)
  have hpos : 0 < 2 ^ j := Nat.pow_pos (by decide)
  have h1 : ((BitVec.ofInt 8 m) &&& (BitVec.ofInt 8 ((2 ^ j - 1 : Nat) : Int))).toNat = (m % (2 ^ j : Nat)).toNat := by
    have e2 : ((((2 ^ j - 1 : Nat) : Int)) % ((2 ^ 8 : Nat) : Int)).toNat = 2 ^ j - 1 := by
      generalize 2 ^ j = p at *
      omega
    rw [BitVec.toNat_and, BitVec.toNat_ofInt, BitVec.toNat_ofInt, e2, Nat.and_two_pow_sub_one_eq_mod]
    have e3 : ((2 ^ 8 : Nat) : Int) = ((2 ^ j : Nat) : Int) * ((2 ^ (8 - j) : Nat) : Int) := by
      rw [← Int.natCast_mul, ← Nat.pow_add]; congr 2; omega
    have h0 : 0 ≤ m % ((2 ^ 8 : Nat) : Int) := Int.emod_nonneg _ (by decide)
    have e4 : (((m % ((2 ^ 8 : Nat) : Int)).toNat % 2 ^ j : Nat) : Int) = m % ((2 ^ j : Nat) : Int) := by
      rw [Int.natCast_emod, Int.toNat_of_nonneg h0, e3, Int.emod_emod_of_dvd _ ⟨_, rfl⟩]
    rw [← e4, Int.toNat_natCast]
  show IntKind.u8.wrap (((BitVec.ofInt 8 m) &&& (BitVec.ofInt 8 ((2 ^ j - 1 : Nat) : Int))).toNat : Int) = _
  rw [h1, IntKind.wrap_u8]
  have h2 : 0 ≤ m % ((2 ^ j : Nat) : Int) := Int.emod_nonneg _ (by omega)
  have h3 : m % ((2 ^ j : Nat) : Int) < (2 ^ j : Nat) := Int.emod_lt_of_pos _ (by omega)
  generalize 2 ^ j = p at *
  omega
theorem and_u8_15 (m : Int) : bits .and .u8 m 15 = m % 16 := and_u8 m 4 (by decide)
end Go.Mun
