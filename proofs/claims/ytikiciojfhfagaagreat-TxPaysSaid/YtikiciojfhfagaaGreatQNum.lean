/-
  Plain facts on numbers of four limbs and their bytes.
  When two arrays of numbers are one: the rule for the walk.
  Slices of bytes turned to strings: laws over any program that the walks of this seat share.
  Slices turned to arrays, slices of noughts, results of which the first is an array: laws over any program.
-/
import Derived.Test.YtikiciojfhfagaaGreatQRow
import Derived.ChangeKeysEq
import Derived.Laws.BytesString
import Derived.ArgAppend
import Derived.Deep.RegionLawGrows
import Derived.Lib.SlBytesConst
import Derived.StillTailTactics
import Derived.BigQuiet
import Derived.Laws.OwnMore
set_option linter.unusedVariables false
set_option linter.unusedSimpArgs false
namespace Go.Mun

/-- The limbs. -/
def limb (x0 x1 x2 x3 : Nat) (q : Nat) : Nat := match q with | 0 => x0 | 1 => x1 | 2 => x2 | _ => x3
def limbN (x0 x1 x2 x3 : Nat) : Nat := x0 + 18446744073709551616 * (x1 + 18446744073709551616 * (x2 + 18446744073709551616 * x3))

theorem byte_low (x hi r : Nat) (hr : r < 8) : (x + 18446744073709551616 * hi) / 2 ^ (8 * r) % 256 = x / 2 ^ (8 * r) % 256 := by
  match r, hr with
  | 0, _ => simp; omega
  | 1, _ => simp; omega
  | 2, _ => simp; omega
  | 3, _ => simp; omega
  | 4, _ => simp; omega
  | 5, _ => simp; omega
  | 6, _ => simp; omega
  | 7, _ => simp; omega

theorem limb_div (x0 x1 x2 x3 q : Nat) (hq : q < 4) (h0 : x0 < 18446744073709551616) (h1 : x1 < 18446744073709551616) (h2 : x2 < 18446744073709551616) :
    ∃ hi, limbN x0 x1 x2 x3 / 18446744073709551616 ^ q = limb x0 x1 x2 x3 q + 18446744073709551616 * hi := by
  have e1 : limbN x0 x1 x2 x3 / 18446744073709551616 = x1 + 18446744073709551616 * (x2 + 18446744073709551616 * x3) := by unfold limbN; omega
  have e2 : (x1 + 18446744073709551616 * (x2 + 18446744073709551616 * x3)) / 18446744073709551616 = x2 + 18446744073709551616 * x3 := by omega
  have e3 : (x2 + 18446744073709551616 * x3) / 18446744073709551616 = x3 := by omega
  match q, hq with
  | 0, _ => exact ⟨_, by rw [Nat.pow_zero, Nat.div_one]; rfl⟩
  | 1, _ => exact ⟨_, by rw [Nat.pow_one, e1]; rfl⟩
  | 2, _ => exact ⟨_, by rw [Nat.pow_succ, Nat.pow_one, ← Nat.div_div_eq_div_mul, e1, e2]; rfl⟩
  | 3, _ => exact ⟨0, by rw [Nat.pow_succ, Nat.pow_succ, Nat.pow_one, ← Nat.div_div_eq_div_mul, ← Nat.div_div_eq_div_mul, e1, e2, e3]; rfl⟩

theorem limb_byte (x0 x1 x2 x3 j : Nat) (hj : j < 32) (h0 : x0 < 18446744073709551616) (h1 : x1 < 18446744073709551616) (h2 : x2 < 18446744073709551616) :
    limbN x0 x1 x2 x3 / 256 ^ j % 256 = limb x0 x1 x2 x3 (j / 8) / 2 ^ (8 * (j % 8)) % 256 := by
  obtain ⟨hi, h⟩ := limb_div x0 x1 x2 x3 (j / 8) (by omega) h0 h1 h2
  have hp : 256 ^ j = 18446744073709551616 ^ (j / 8) * 2 ^ (8 * (j % 8)) := by
    have e : (18446744073709551616 : Nat) = 256 ^ 8 := by decide
    rw [e, ← Nat.pow_mul, show (2 : Nat) ^ (8 * (j % 8)) = 256 ^ (j % 8) by rw [Nat.pow_mul], ← Nat.pow_add]
    congr 1; omega
  rw [hp, ← Nat.div_div_eq_div_mul, h, byte_low _ _ _ (by omega)]

theorem limb_lt (x0 x1 x2 x3 q : Nat) (h0 : x0 < 18446744073709551616) (h1 : x1 < 18446744073709551616) (h2 : x2 < 18446744073709551616) (h3 : x3 < 18446744073709551616) : limb x0 x1 x2 x3 q < 18446744073709551616 := by
  unfold limb; split <;> assumption

/-- The first k of n bytes, then noughts. -/
def beZ (n N k : Nat) : List Value := ((be n N).take k ++ List.replicate (n - k) 0).map (Value.int .u8)
theorem beZ_zero (n N : Nat) : beZ n N 0 = zU8 n := by simp [beZ, zU8]
theorem beZ_full (n N : Nat) : beZ n N n = beC n N := by
  have : (be n N).take n = be n N := List.take_of_length_le (by simp)
  simp [beZ, beC, this]
theorem beZ_len (n N k : Nat) (h : k ≤ n) : (beZ n N k).length = n := by simp [beZ]; omega
theorem beZ_ok (n N k : Nat) (h : k ≤ n) : okL n (beZ n N k) = true := by
  have := okL_ints .u8 ((be n N).take k ++ List.replicate (n - k) 0)
  have e : ((be n N).take k ++ List.replicate (n - k) 0).length = n := by simp; omega
  rw [e] at this
  exact this
theorem beZ_set (n N k : Nat) (h : k < n) (x : Int) (hx : x = (N / 256 ^ (n - 1 - k) % 256 : Nat)) : splice (beZ n N k) k [Value.int .u8 x] = beZ n N (k + 1) := by
  apply List.ext_getElem?
  intro i
  rw [getElem?_splice _ _ _ (by rw [beZ_len n N k (by omega)]; simp; omega)]
  have hb : ∀ j m, m ≤ n → (beZ n N m)[j]? = if j < m then some (.int .u8 (N / 256 ^ (n - 1 - j) % 256 : Nat)) else if j < n then some (.int .u8 0) else none := by
    intro j m hm
    simp only [beZ, List.getElem?_map, List.getElem?_append, List.length_take, List.length_map, List.length_range, be, List.getElem?_take, List.getElem?_replicate, Nat.min_eq_left hm]
    by_cases hj : j < m
    · rw [if_pos hj, if_pos hj, if_pos hj, List.getElem?_range (by omega)]; rfl
    · rw [if_neg hj, if_neg hj]
      by_cases h2 : j < n
      · rw [if_pos h2, if_pos (by omega)]; rfl
      · rw [if_neg h2, if_neg (by omega)]; rfl
  rw [hb _ _ (by omega), hb _ _ (by omega)]
  simp only [List.length_singleton]
  by_cases h1 : i < k
  · rw [if_pos h1, if_pos h1, if_pos (by omega)]
  · by_cases h2 : i < k + 1
    · obtain rfl : i = k := by omega
      rw [if_neg h1, if_pos h2, if_pos (by omega), hx]; simp
    · rw [if_neg h1, if_neg h2, if_neg h1, if_neg h2]

/-- Numbers as cells of bytes. -/
def u8L (L : List Int) : List Value := L.map (Value.int .u8)
@[go_sem, simp] theorem u8L_len (L : List Int) : (u8L L).length = L.length := by simp [u8L]
theorem u8L_ok (L : List Int) (n : Nat) (h : L.length = n) : okL n (u8L L) = true := by subst h; exact okL_ints .u8 L
theorem u8L_set (L : List Int) (i : Nat) (h : i < L.length) (x : Int) : splice (u8L L) i [Value.int .u8 x] = u8L (L.set i x) := by
  apply List.ext_getElem?
  intro j
  rw [getElem?_splice _ _ _ (by simp; omega)]
  simp only [u8L, List.getElem?_map, List.getElem?_set, List.length_singleton]
  by_cases h1 : j < i
  · rw [if_pos h1, if_neg (by omega)]
  · rw [if_neg h1]
    by_cases h2 : j < i + 1
    · obtain rfl : i = j := by omega
      rw [if_pos h2, if_pos rfl, if_pos h]; simp
    · rw [if_neg h2, if_neg (by omega)]

/-- A whole number as a word. -/
def ofW (n : Int) : Nat := (n % 115792089237316195423570985008687907853269984665640564039457584007913129639936).toNat

theorem ofW_byte (n : Int) (j : Nat) (hj : j < 32) : ((ofW n / 256 ^ j % 256 : Nat) : Int) = n / 256 ^ j % 256 := by
  have e0 : (115792089237316195423570985008687907853269984665640564039457584007913129639936 : Int) = 256 ^ j * 256 ^ (32 - j) := by
    rw [← Int.pow_add, show j + (32 - j) = 32 by omega]; decide
  have hr : ((ofW n : Nat) : Int) = n % (256 ^ j * 256 ^ (32 - j)) := by
    rw [← e0]; unfold ofW; omega
  have hn : n = n % (256 ^ j * 256 ^ (32 - j)) + 256 ^ j * (256 ^ (32 - j) * (n / (256 ^ j * 256 ^ (32 - j)))) := by
    have := Int.emod_add_mul_ediv n (256 ^ j * 256 ^ (32 - j))
    rw [Int.mul_assoc] at this; exact this.symm
  have e1 : (256 : Int) ^ (32 - j) = 256 * 256 ^ (31 - j) := by
    rw [show 32 - j = 31 - j + 1 by omega, Int.pow_succ, Int.mul_comm]
  have hp : (256 : Int) ^ j ≠ 0 := by
    have : (0 : Int) < 256 ^ j := Int.pow_pos (by decide)
    omega
  rw [← hr] at hn
  generalize (ofW n) = m at *
  have : n / 256 ^ j % 256 = ((m : Int) / 256 ^ j) % 256 := by
    rw [hn, Int.add_mul_ediv_left _ _ hp, e1, Int.mul_assoc, Int.add_mul_emod_self_left]
  rw [this]
  simp

theorem and_mask (m : Int) (j : Nat) (hj : j < 63) : bits .and .i64 m (2 ^ j - 1 : Nat) = m % (2 ^ j : Nat) := by
  have h63 : 2 ^ j ≤ 2 ^ 62 := Nat.pow_le_pow_right (by decide) (by omega)
  have hpos : 0 < 2 ^ j := Nat.pow_pos (by decide)
  have h1 : ((BitVec.ofInt 64 m) &&& (BitVec.ofInt 64 ((2 ^ j - 1 : Nat) : Int))).toNat = (m % (2 ^ j : Nat)).toNat := by
    have e2 : ((((2 ^ j - 1 : Nat) : Int)) % ((2 ^ 64 : Nat) : Int)).toNat = 2 ^ j - 1 := by
      generalize 2 ^ j = p at *
      omega
    rw [BitVec.toNat_and, BitVec.toNat_ofInt, BitVec.toNat_ofInt, e2, Nat.and_two_pow_sub_one_eq_mod]
    have e3 : ((2 ^ 64 : Nat) : Int) = ((2 ^ j : Nat) : Int) * ((2 ^ (64 - j) : Nat) : Int) := by
      rw [← Int.natCast_mul, ← Nat.pow_add]; congr 2; omega
    have h0 : 0 ≤ m % ((2 ^ 64 : Nat) : Int) := Int.emod_nonneg _ (by decide)
    have h2 : 0 ≤ m % ((2 ^ j : Nat) : Int) := Int.emod_nonneg _ (by omega)
    have e4 : (((m % ((2 ^ 64 : Nat) : Int)).toNat % 2 ^ j : Nat) : Int) = m % ((2 ^ j : Nat) : Int) := by
      rw [Int.natCast_emod, Int.toNat_of_nonneg h0, e3, Int.emod_emod_of_dvd _ ⟨_, rfl⟩]
    rw [← e4, Int.toNat_natCast]
  show IntKind.i64.wrap (((BitVec.ofInt 64 m) &&& (BitVec.ofInt 64 ((2 ^ j - 1 : Nat) : Int))).toNat : Int) = _
  rw [h1, IntKind.wrap_i64]
  have h2 : 0 ≤ m % ((2 ^ j : Nat) : Int) := Int.emod_nonneg _ (by omega)
  have h3 : m % ((2 ^ j : Nat) : Int) < (2 ^ j : Nat) := Int.emod_lt_of_pos _ (by omega)
  generalize 2 ^ j = p at *
  omega
theorem and_255 (m : Int) : bits .and .i64 m 255 = m % 256 := and_mask m 8 (by decide)

theorem and_u8 (m : Int) (j : Nat) (hj : j < 8) : bits .and .u8 m (2 ^ j - 1 : Nat) = m % (2 ^ j : Nat) := by
  have h63 : 2 ^ j ≤ 2 ^ 7 := Nat.pow_le_pow_right (by decide) (by omega)
  have hpos : 0 < 2 ^ j := Nat.pow_pos (by decide)
  have h1 : ((BitVec.ofInt 8 m) &&& (BitVec.ofInt 8 ((2 ^ j - 1 : Nat) : Int))).toNat = (m % (2 ^ j : Nat)).toNat := by
    have e2 : ((((2 ^ j - 1 : Nat) : Int)) % ((2 ^ 8 : Nat) : Int)).toNat = 2 ^ j - 1 := by
      generalize 2 ^ j = p at *
      omega
    rw [BitVec.toNat_and, BitVec.toNat_ofInt, BitVec.toNat_ofInt, e2, Nat.and_two_pow_sub_one_eq_mod]
    have e3 : ((2 ^ 8 : Nat) : Int) = ((2 ^ j : Nat) : Int) * ((2 ^ (8 - j) : Nat) : Int) := by
      rw [← Int.natCast_mul, ← Nat.pow_add]; congr 2; omega
    have h0 : 0 ≤ m % ((2 ^ 8 : Nat) : Int) := Int.emod_nonneg _ (by decide)
    have e4 : (((m % ((2 ^ 8 : Nat) : Int)).toNat % 2 ^ j : Nat) : Int) = m % ((2 ^ j : Nat) : Int) := by
      rw [Int.natCast_emod, Int.toNat_of_nonneg h0, e3, Int.emod_emod_of_dvd _ ⟨_, rfl⟩]
    rw [← e4, Int.toNat_natCast]
  show IntKind.u8.wrap (((BitVec.ofInt 8 m) &&& (BitVec.ofInt 8 ((2 ^ j - 1 : Nat) : Int))).toNat : Int) = _
  rw [h1, IntKind.wrap_u8]
  have h2 : 0 ≤ m % ((2 ^ j : Nat) : Int) := Int.emod_nonneg _ (by omega)
  have h3 : m % ((2 ^ j : Nat) : Int) < (2 ^ j : Nat) := Int.emod_lt_of_pos _ (by omega)
  generalize 2 ^ j = p at *
  omega
theorem and_u8_15 (m : Int) : bits .and .u8 m 15 = m % 16 := and_u8 m 4 (by decide)
end Go.Mun
namespace Go.Mun
open Go.RowKit

theorem flatten_chunk (n : Nat) : ∀ (css : List (List Value)) (i : Nat) (cs : List Value), (∀ c ∈ css, c.length = n) → css[i]? = some cs → (css.flatten.drop (i * n)).take n = cs
  | [], i, cs, _, h => by simp at h
  | c :: css, 0, cs, hc, h => by
    simp at h
    subst h
    simp [hc c (by simp)]
  | c :: css, i + 1, cs, hc, h => by
    simp at h
    have := flatten_chunk n css i cs (fun x hx => hc x (by simp [hx])) h
    rw [List.flatten_cons, show (i + 1) * n = c.length + i * n by rw [hc c (by simp), Nat.succ_mul, Nat.add_comm], ← List.drop_drop, List.drop_left]
    exact this

theorem own_rows {w : World} {base e size : Nat} {v : Value} {n : Nat} {css : List (List Value)} (h : w.ownsRow base e size v n css.flatten) (hl : css.length = n) (hc : ∀ c ∈ css, c.length = size) :
    ∃ a c, v = .slice a n c ∧ n ≤ c ∧ c ≤ maxLen ∧ (n ≠ 0 → ∃ g, a = some ⟨g, 0, none⟩ ∧ ∀ i cs, css[i]? = some cs → w.row? g (0 + i * size) size = some cs) := by
  rcases h.2 with ⟨rfl, h0⟩ | ⟨g, cap, cur, rfl, hbg, hg, hnc, hcm, hcs, htake⟩
  · subst h0
    exact ⟨none, 0, rfl, Nat.le_refl _, by simp, fun h => absurd rfl h⟩
  · refine ⟨_, cap, rfl, hnc, hcm, fun _ => ⟨g, rfl, fun i cs hi => ?_⟩⟩
    have hin : i < n := by
      rw [← hl]
      exact (List.getElem?_eq_some_iff.1 hi).1
    have hle : i * size + size ≤ n * size := by rw [← Nat.succ_mul]; exact Nat.mul_le_mul_right _ hin
    have hle2 : n * size ≤ cap * size := Nat.mul_le_mul_right _ hnc
    unfold World.row?
    rw [hg]
    simp only [Nat.zero_add]
    rw [if_pos (by omega)]
    congr 1
    rw [← flatten_chunk size css i cs hc hi, ← htake, List.drop_take, List.take_take]
    congr 1
    omega

theorem run_eqItems_ints {P : Program} {e : TypeId} {k : IntKind} (he : P.underlying e = some (.int k)) (hs : P.cellsOf e = 1) (d : Nat) (l m : List Int) (w : World) :
    ∀ (j i : Nat), i + j = l.length → i + j = m.length →
    (Op.eqItems (d + 1) e (P.cellsOf e) (l.map (Value.int k)).toArray (m.map (Value.int k)).toArray (List.range' i j)).run P w = .ok (decide (l.drop i = m.drop i)) w
  | 0, i, h1, h2 => by
    rw [List.drop_of_length_le (by omega), List.drop_of_length_le (by omega)]
    simp [Op.eqItems]
  | j + 1, i, h1, h2 => by
    have g1 : i < l.length := by omega
    have g2 : i < m.length := by omega
    have ih := run_eqItems_ints he hs d l m w j (i + 1) (by omega) (by omega)
    have hagg : (isAgg e).run P w = .ok false w := by
      unfold isAgg
      rw [Sem.run_bind, run_underlying he w]; rfl
    have p1 : (part e (l.map (Value.int k)).toArray (i * P.cellsOf e)).run P w = .ok (.int k l[i]) w := by
      rw [hs]; simp [part, Sem.run_bind, hagg, g1]
    have p2 : (part e (m.map (Value.int k)).toArray (i * P.cellsOf e)).run P w = .ok (.int k m[i]) w := by
      rw [hs]; simp [part, Sem.run_bind, hagg, g2]
    rw [List.range'_succ]
    simp only [Op.eqItems, Sem.run_bind, p1, p2, Result.andThen_ok, run_equalIn_int w d e k k l[i] m[i] he]
    have e : (l.drop i = m.drop i) ↔ (l[i] = m[i] ∧ l.drop (i + 1) = m.drop (i + 1)) := by
      rw [List.drop_eq_getElem_cons g1, List.drop_eq_getElem_cons g2]
      exact List.cons_eq_cons
    by_cases hx : l[i] = m[i]
    · have h0 : decide (l.drop i = m.drop i) = decide (l.drop (i + 1) = m.drop (i + 1)) := by rw [decide_eq_decide, e]; exact ⟨fun h => h.2, fun h => ⟨hx, h⟩⟩
      rw [h0, ← ih]; simp [hx]
    · have h0 : decide (l.drop i = m.drop i) = false := decide_eq_false fun h => hx (e.1 h).1
      rw [h0]; simp [hx]

theorem run_eq_ints {P : Program} {t e n : Nat} {k : IntKind} (hu : P.underlying t = some (.array n e)) (he : P.underlying e = some (.int k)) (hi : (P.info? e).map (·.size) = some 1) (d : Nat) (l m : List Int) (w : World) (hl : l.length = n) (hm : m.length = n) :
    (Op.equalIn (d + 2) t (.agg (l.map (Value.int k)).toArray) (.agg (m.map (Value.int k)).toArray)).run P w = .ok (decide (l = m)) w := by
  cases hq : P.info? e with
  | none => simp [hq] at hi
  | some i =>
    have hs : i.size = 1 := by simpa [hq] using hi
    have hs' : P.cellsOf e = 1 := by simp [Program.cellsOf, hq, hs]
    rw [run_equalIn_array w (d + 1) _ _ hu hq, List.range_eq_range', run_eqItems_ints he hs' d l m w n 0 (by omega) (by omega)]
    simp

theorem run_eqFields2 {P : Program} {w : World} {d : Nat} {xs ys : Array Value} {f g : Field} {a a' b b' : Value} (n1 : f.name ≠ "_") (n2 : g.name ≠ "_")
    (p1 : (part f.type xs f.offset).run P w = .ok a w) (p2 : (part f.type ys f.offset).run P w = .ok a' w) (q1 : (part g.type xs g.offset).run P w = .ok b w) (q2 : (part g.type ys g.offset).run P w = .ok b' w)
    {r s : Bool} (e1 : (Op.equalIn d f.type a a').run P w = .ok r w) (e2 : (Op.equalIn d g.type b b').run P w = .ok s w) : (Op.eqFields d xs ys [f, g]).run P w = .ok (r && s) w := by
  simp only [Op.eqFields, n1, n2, ne_eq, not_false_eq_true, if_true, Sem.run_bind, p1, p2, e1, Result.andThen_ok]
  cases r
  · simp
  · simp only [Bool.not_true, Bool.false_eq_true, if_false, Sem.run_bind, q1, q2, e2, Result.andThen_ok]
    cases s <;> simp

theorem run_eqFields2t {P : Program} {w : World} {d : Nat} {xs ys : Array Value} {f g : Field} {a a' b b' : Value} (t1 o1 t2 o2 : Nat) (hf : f.type = t1) (ho : f.offset = o1) (hg : g.type = t2) (hp : g.offset = o2) (n1 : f.name ≠ "_") (n2 : g.name ≠ "_")
    (p1 : (part t1 xs o1).run P w = .ok a w) (p2 : (part t1 ys o1).run P w = .ok a' w) (q1 : (part t2 xs o2).run P w = .ok b w) (q2 : (part t2 ys o2).run P w = .ok b' w)
    {r s : Bool} (e1 : (Op.equalIn d t1 a a').run P w = .ok r w) (e2 : (Op.equalIn d t2 b b').run P w = .ok s w) : (Op.eqFields d xs ys [f, g]).run P w = .ok (r && s) w := by
  subst hf ho hg hp; exact run_eqFields2 n1 n2 p1 p2 q1 q2 e1 e2
theorem at10000 {P : Program} {t : TypeId} {x y : Value} {w : World} {r : Bool} (h : ∀ d, (Op.equalIn (d + 3) t x y).run P w = .ok r w) : (Op.equalIn 10000 t x y).run P w = .ok r w := h 9997
theorem neq_of {P : Program} {t : TypeId} {xs ys : Array Value} {w : World} {r : Bool} (h : ∀ d, (Op.equalIn (d + 3) t (.agg xs) (.agg ys)).run P w = .ok r w) : (binOp .neq t (.agg xs) (.agg ys)).run P w = .ok (.bool (!r)) w := by
  rw [run_neq_struct, at10000 h]; rfl
theorem eql_of {P : Program} {t : TypeId} {xs ys : Array Value} {w : World} {r : Bool} (h : ∀ d, (Op.equalIn (d + 3) t (.agg xs) (.agg ys)).run P w = .ok r w) : (binOp .eql t (.agg xs) (.agg ys)).run P w = .ok (.bool r) w := by
  rw [run_eql_struct, at10000 h]; rfl

def beEq (k a b : Nat) : Bool := decide (be k a = be k b)
theorem be_succ (k a : Nat) : be (k + 1) a = ((a / 256 ^ k % 256 : Nat) : Int) :: be k a := by
  apply List.ext_getElem (by simp)
  intro i h1 h2
  cases i with
  | zero => simp [be]
  | succ i => simp only [be, List.getElem_cons_succ, List.getElem_map, List.getElem_range]; congr 4; omega
theorem be_mod (k a : Nat) : be k (a % 256 ^ k) = be k a := by
  apply List.ext_getElem (by simp)
  intro i h1 h2
  simp at h1
  simp only [be, List.getElem_map, List.getElem_range]
  congr 1
  obtain ⟨j, hj⟩ : ∃ j, j = k - 1 - i := ⟨_, rfl⟩
  rw [← hj]
  have e : 256 ^ k = 256 ^ j * 256 ^ (k - j) := by rw [← Nat.pow_add]; congr 1; omega
  rw [e, Nat.mod_mul_right_div_self, Nat.mod_mod_of_dvd]
  obtain ⟨t, ht⟩ : ∃ t, k - j = t + 1 := ⟨k - j - 1, by omega⟩
  exact ⟨256 ^ t, by rw [ht, Nat.pow_succ, Nat.mul_comm]⟩
theorem be_inj : ∀ (k a b : Nat), a < 256 ^ k → b < 256 ^ k → be k a = be k b → a = b
  | 0, a, b, ha, hb, _ => by simp at ha hb; omega
  | k + 1, a, b, ha, hb, h => by
    rw [be_succ, be_succ] at h
    injection h with h1 h2
    have hp : 0 < 256 ^ k := Nat.pow_pos (by decide)
    have ha' : a / 256 ^ k < 256 := by rw [Nat.div_lt_iff_lt_mul hp]; rw [Nat.pow_succ] at ha; omega
    have hb' : b / 256 ^ k < 256 := by rw [Nat.div_lt_iff_lt_mul hp]; rw [Nat.pow_succ] at hb; omega
    have e1 : a / 256 ^ k = b / 256 ^ k := by have := Int.natCast_inj.1 h1; rwa [Nat.mod_eq_of_lt ha', Nat.mod_eq_of_lt hb'] at this
    have e2 := be_inj k (a % 256 ^ k) (b % 256 ^ k) (Nat.mod_lt _ hp) (Nat.mod_lt _ hp) (by rw [be_mod, be_mod]; exact h2)
    rw [← Nat.div_add_mod a (256 ^ k), ← Nat.div_add_mod b (256 ^ k), e1, e2]
theorem beEq_eq (k a b : Nat) (ha : a < 256 ^ k) (hb : b < 256 ^ k) : beEq k a b = decide (a = b) := by
  unfold beEq
  by_cases h : a = b
  · simp [h]
  · have : ¬ be k a = be k b := fun e => h (be_inj k a b ha hb e)
    simp [h, this]
theorem run_eq_beD {P : Program} {t e n : Nat} (hu : P.underlying t = some (.array n e)) (he : P.underlying e = some (.int .u8)) (hi : (P.info? e).map (·.size) = some 1) (d a b : Nat) (w : World) :
    (Op.equalIn (d + 2) t (.agg (beC n a).toArray) (.agg (beC n b).toArray)).run P w = .ok (beEq n a b) w :=
  run_eq_ints hu he hi d (be n a) (be n b) w (be_len n a) (be_len n b)
theorem run_eq_be {P : Program} {t e n : Nat} (hu : P.underlying t = some (.array n e)) (he : P.underlying e = some (.int .u8)) (hi : (P.info? e).map (·.size) = some 1) (a b : Nat) (w : World) :
    (Op.equalIn 10000 t (.agg (beC n a).toArray) (.agg (beC n b).toArray)).run P w = .ok (beEq n a b) w :=
  run_eq_ints hu he hi 9998 (be n a) (be n b) w (be_len n a) (be_len n b)
end Go.Mun
namespace Go.Mun
open Go.RowKit

/-- A list of bytes as a string. -/
def strOf (l : List Int) : ByteArray := ⟨(l.map fun n => UInt8.ofNat n.toNat).toArray⟩
theorem foldl_push (l : List Int) : ∀ s : ByteArray, l.foldl (fun r n => r.push (UInt8.ofNat n.toNat)) s = ⟨s.data ++ (l.map fun n => UInt8.ofNat n.toNat).toArray⟩ := by
  induction l with
  | nil => intro s; simp
  | cons x l ih =>
    intro s
    rw [List.foldl_cons, ih]
    simp [ByteArray.push]

theorem run_bytes_string {P : Program} {src dst e : TypeId} (hs : P.underlying src = some (.slice e)) (he : P.underlying e = some (.int .u8)) (hd : P.underlying dst = some .string)
    {w : World} {a : Option Addr} {c : Nat} {l : List Int} (hI : Ints w .u8 a c l) : (convert src dst (.slice a l.length c)).run P w = .ok (.string (strOf l)) w := by
  rw [run_convert_bytes_string w src dst e a l.length c hs he hd]
  cases a with
  | none =>
    have h1 := hI.nil rfl
    have h2 := hI.len
    have : l = [] := List.eq_nil_of_length_eq_zero (by omega)
    subst this
    simp [Conv.bytesToString, strOf]
    rfl
  | some ad =>
    have hl : (loadCells ad l.length).run P w = .ok (l.map (Value.int .u8)).toArray w := by
      have := run_loadCells_list (P := P) w ad (l.map (Value.int .u8)) (fun j v hv => by
        have hj : j < l.length := by
          rcases Nat.lt_or_ge j l.length with h | h
          · exact h
          · rw [List.getElem?_eq_none (by simpa using h)] at hv; cases hv
        obtain ⟨b, off, ha, _, hc⟩ := hI.at hj
        have ha' : ad = ⟨b, off, none⟩ := by simpa using ha
        rw [add_off ha', hc j hj]
        simp [hj] at hv
        simp [hj, hv])
      simpa using this
    rw [run_bytesToString w ad l.length c l hl, foldl_push]
    simp [strOf]


/-- A row of the call's own, or one that is full and may not be written (the bytes of a constant). -/
def RowOr (w : World) (base e size : Nat) (v : Value) (n : Nat) (xs : List Value) : Prop :=
  w.ownsRow base e size v n xs ∨ ∃ g, v = .slice (some ⟨g, 0, none⟩) n n ∧ base ≤ g ∧ g < w.heap.size ∧ xs.length = n * size ∧ ∀ j u, xs[j]? = some u → w.cell? ⟨g, j, none⟩ = some u

theorem ownsRow_mono {w : World} {base base' e size : Nat} {v : Value} {n : Nat} {xs : List Value} (h : w.ownsRow base e size v n xs) (hb : base' ≤ base) : w.ownsRow base' e size v n xs := by
  refine ⟨h.1, ?_⟩
  rcases h.2 with h | ⟨g, cap, cur, h1, h2, h3⟩
  · exact .inl h
  · exact .inr ⟨g, cap, cur, h1, Nat.le_trans hb h2, h3⟩

theorem RowOr.below {w w' : World} {base e size : Nat} {v : Value} {n : Nat} {xs : List Value} (h : RowOr w base e size v n xs) (hb : Below w.heap.size w w') : RowOr w' base e size v n xs := by
  rcases h with h | ⟨g, h1, h2, h3, h4, h5⟩
  · exact .inl (ownsRow_below h hb)
  · exact .inr ⟨g, h1, h2, Nat.lt_of_lt_of_le h3 hb.size, h4, fun j u hj => by rw [← h5 j u hj]; exact hb.cell (p := ⟨g, j, none⟩) h3⟩

theorem RowOr.lt {w : World} {base e size : Nat} {v : Value} {n : Nat} {xs : List Value} (h : RowOr w base e size v n xs) : ∀ k, v.ownBlock = some k → base ≤ k := by
  rcases h with h | ⟨g, rfl, h2, _⟩
  · exact fun k hk => (h.lt k hk).1
  · intro k hk; simp [Value.ownBlock] at hk; omega

theorem RowOr.ints {w : World} {base e : Nat} {k : IntKind} {v : Value} {n : Nat} {l : List Int} (h : RowOr w base e 1 v n (l.map (Value.int k))) (hn : n ≤ maxLen) :
    ∃ a c, v = .slice a n c ∧ n = l.length ∧ Ints w k a c l := by
  rcases h with h | ⟨g, rfl, h2, h3, h4, h5⟩
  · exact Ints.of_own' h
  · have hl : n = l.length := by simpa using h4.symm
    refine ⟨_, n, rfl, hl, fun _ => ⟨g, 0, rfl, fun i hi => ?_⟩, fun hh => by simp at hh, by omega, hn⟩
    have := h5 i (.int k (l[i]?.getD 0)) (by simp [hi])
    simpa using this

theorem run_bytes_string' {P : Program} {src dst e : TypeId} (hs : P.underlying src = some (.slice e)) (he : P.underlying e = some (.int .u8)) (hd : P.underlying dst = some .string)
    {w : World} {a : Option Addr} {n c : Nat} {l : List Int} (hn : n = l.length) (hI : Ints w .u8 a c l) : (convert src dst (.slice a n c)).run P w = .ok (.string (strOf l)) w := by
  subst hn; exact run_bytes_string hs he hd hI

theorem newrow_cells (w : World) (cs : List Value) (e : TypeId) (fz : Nat × Nat) : ∀ j u, cs[j]? = some u → (w.alloc (.cells cs.toArray e fz)).cell? ((⟨w.heap.size, 0, none⟩ : Addr).add j) = some u := by
  intro j u hj
  have hadd : (⟨w.heap.size, 0, none⟩ : Addr).add j = ⟨w.heap.size, j, none⟩ := by unfold Addr.add; split <;> simp_all
  rw [hadd, cell_of_row _ w.heap.size j cs.toArray e fz (heap_alloc_new w _)]
  simpa using hj

theorem grown_of_new {w w' : World} {o : Obj} {r r' : Option Nat} (h : (w.alloc o).grownBy w' r) (hr : r = none ∨ r = r') : w.grownBy w' r' := by
  refine ⟨h.os, h.tape, h.output, ?_, ?_⟩
  · have := h.size; simp at this; omega
  · intro k hk hne
    rw [h.block k (by simp; omega) (by rcases hr with rfl | rfl; simp; exact hne)]
    exact Below.heap_alloc _ _ _ hk

/-- The operation 'append' itself, in whatever region and whatever world. -/
theorem step_append_any {P : Program} {ops : Array Oper} {o : Oper} {a : Act} {w : World} {K : Act → World → Prop} {Q : Exit → Act → World → Prop} {F : Prop}
    {t e : TypeId} {z : Value} {size bytes : Nat} (E : ElemOf P t e z size bytes) (hgd : o.guard = none) (s x : Operand)
    (ho : o.op = .call { callee := .builtin .append, args := #[s, x], argTypes := #[t, t] }) {v : Value} (hs : a.eval s = v) {p : Addr} {m c : Nat} (hx : a.eval x = .slice (some p) m c)
    {base : Nat} {n : Nat} {xs : List Value} (hown : RowOr w base e size v n xs) {cs : List Value} (hnew : ∀ j u, cs[j]? = some u → w.cell? (p.add j) = some u) (hm : 0 < m)
    (hok : okL (m * size) cs = true) (h63 : n + m ≤ maxLen) (hbytes : (n + m) * bytes ≤ 140737488355328) (hbase : base ≤ w.heap.size)
    (h : ∀ v' w', w'.ownsRow base e size v' (n + m) (xs ++ cs) → w.grownBy w' v.ownBlock → K (a.put o.dst v') w') :
    if Region.wanted o (yielded ops a.tmps) = true then Oper.wp P o a w K Q else F := by
  obtain ⟨i, hi, hz, hsz, hb⟩ := E.info
  rcases hown with hown | ⟨g, rfl, h2, h3, h4, h5⟩
  · rw [if_pos (by simp [Region.wanted, hgd])]
    exact wp_append_own _ s x t ho base e i z size bytes E.slice hi hz hsz hb E.zsize E.pos v n xs hs hown p m c cs hx (okL_len hok) hnew (okL_mem hok) h63 hbytes hbase fun v' w' h1 h2 _ => h v' w' h1 h2
  · refine step_append_grows hgd s x t ho e i z size bytes E.slice hi hz hsz hb E.zsize E.pos (some ⟨g, 0, none⟩) n n xs hs (fun hh => by simp at hh) h4 ?_ p m c cs hx (okL_len hok) hnew (okL_mem hok) (by omega) h63 hbytes ?_
    · intro b hb j u hj
      simp at hb
      subst hb
      have hadd : (⟨g, 0, none⟩ : Addr).add j = ⟨g, j, none⟩ := by unfold Addr.add; split <;> simp_all
      rw [hadd]
      exact h5 j u hj
    · intro v' w' ho' hg'
      exact h v' w' (ownsRow_mono ho' hbase) ⟨hg'.os, hg'.tape, hg'.output, hg'.size, fun k hk _ => hg'.block k hk (by simp)⟩

/-- The operation 'append' itself, in whatever region. -/
theorem step_append_or {P : Program} {ops : Array Oper} {o : Oper} {a : Act} {w : World} {K : Act → World → Prop} {Q : Exit → Act → World → Prop} {F : Prop}
    {t e : TypeId} {z : Value} {size bytes : Nat} (E : ElemOf P t e z size bytes) (hgd : o.guard = none) (s x : Operand)
    (ho : o.op = .call { callee := .builtin .append, args := #[s, x], argTypes := #[t, t] }) {v : Value} (hs : a.eval s = v) {p m c : Nat} (hx : a.eval x = .slice (some ⟨p, 0, none⟩) m c)
    {base : Nat} {n : Nat} {xs : List Value} (hown : RowOr w base e size v n xs) {cs : List Value} {fz : Nat × Nat} (hp : p = w.heap.size) (hm : 0 < m)
    (hok : okL (m * size) cs = true) (h63 : n + m ≤ maxLen) (hbytes : (n + m) * bytes ≤ 140737488355328) (hbase : base ≤ w.heap.size)
    (h : ∀ v' w', w'.ownsRow base e size v' (n + m) (xs ++ cs) → w.grownBy w' v.ownBlock → K (a.put o.dst v') w') :
    if Region.wanted o (yielded ops a.tmps) = true then Oper.wp P o a (w.alloc (.cells cs.toArray e fz)) K Q else F := by
  obtain ⟨i, hi, hz, hsz, hb⟩ := E.info
  subst hp
  rcases hown with hown | ⟨g, rfl, h2, h3, h4, h5⟩
  · rw [if_pos (by simp [Region.wanted, hgd])]
    exact wp_append_own _ s x t ho base e i z size bytes E.slice hi hz hsz hb E.zsize E.pos v n xs hs (hown.alloc _) ⟨w.heap.size, 0, none⟩ m c cs hx (okL_len hok) (newrow_cells w cs e fz) (okL_mem hok) h63 hbytes (by simp; omega)
      fun v' w' h1 h2 _ => h v' w' h1 (grown_of_new h2 (.inr rfl))
  · refine step_append_grows hgd s x t ho e i z size bytes E.slice hi hz hsz hb E.zsize E.pos (some ⟨g, 0, none⟩) n n xs hs (fun hh => by simp at hh) h4 ?_ ⟨w.heap.size, 0, none⟩ m c cs hx (okL_len hok) (newrow_cells w cs e fz) (okL_mem hok) (by omega) h63 hbytes ?_
    · intro b hb j u hj
      simp at hb
      subst hb
      have hadd : (⟨g, 0, none⟩ : Addr).add j = ⟨g, j, none⟩ := by unfold Addr.add; split <;> simp_all
      rw [hadd, World.cell?_alloc_lt _ _ _ h3]
      exact h5 j u hj
    · intro v' w' ho' hg'
      exact h v' w' (ownsRow_mono ho' (by simp; omega)) (grown_of_new hg' (.inl rfl))

theorem wpList_append_or {P : Program} {ops : Array Oper} {rest : List Oper} {o : Oper} {a : Act} {Q : Exit → Act → World → Prop} {w : World}
    {t e : TypeId} {z : Value} {size bytes : Nat} (E : ElemOf P t e z size bytes) (hgd : o.guard = none) (s x : Operand)
    (ho : o.op = .call { callee := .builtin .append, args := #[s, x], argTypes := #[t, t] }) {v : Value} (hs : a.eval s = v) {p m c : Nat} (hx : a.eval x = .slice (some ⟨p, 0, none⟩) m c)
    {base : Nat} {n : Nat} {xs : List Value} (hown : RowOr w base e size v n xs) {cs : List Value} {fz : Nat × Nat} (hp : p = w.heap.size) (hm : 0 < m)
    (hok : okL (m * size) cs = true) (h63 : n + m ≤ maxLen) (hbytes : (n + m) * bytes ≤ 140737488355328) (hbase : base ≤ w.heap.size)
    (h : ∀ v' w', w'.ownsRow base e size v' (n + m) (xs ++ cs) → w.grownBy w' v.ownBlock → wpList P ops Q rest (a.put o.dst v') w') :
    wpList P ops Q (o :: rest) a (w.alloc (.cells cs.toArray e fz)) :=
  wpList_step fun _ hK => step_append_or E hgd s x ho hs hx hown hp hm hok h63 hbytes hbase fun v' w' h1 h2 => hK _ _ (h v' w' h1 h2)
end Go.Mun
namespace Go.Mun
open Go.RowKit

theorem run_toArray {P : Program} {arr n e : Nat} (hu : P.underlying arr = some (.array n e)) (a : Option Addr) (len c : Nat) (h : n ≤ len) (w : World) :
    (Instr.arrayAt arr (.slice a len c)).run P w = .ok (.pointer a) w := by
  simp [Instr.arrayAt, run_underlying hu]
  omega
theorem ex_arrayAt {P : Program} {arr n e : Nat} (hu : P.underlying arr = some (.array n e)) (ρ : Operand → Value) (dst : Option Tmp) (x : Operand) (t : TypeId) (pos : String) (after : Array Edge) (gd : Option (Nat × Bool)) (w : World)
    (a : Option Addr) (len c : Nat) (hx : ρ x = .slice a len c) (h : n ≤ len) :
    (execOp ρ ⟨dst, .sliceToArrayPointer arr x, t, pos, after, gd⟩).run P w = .ok (.value (.pointer a)) w := by
  unfold execOp
  simp only [Sem.run_bind, hx, run_toArray hu a len c h]
  rfl

theorem run_makeU8 {P : Program} {t e : TypeId} (E : ElemOf P t e (.int .u8 0) 1 1) (x : Int) (n : Nat) (hx : x = n) (hn : n ≤ 16777216) (w : World) :
    (Instr.makeSlice t (.int .i64 x) (.int .i64 x)).run P w = .ok (.slice (some ⟨w.heap.size, 0, none⟩) n n) (w.alloc (.cells (zU8 n).toArray e)) := by
  subst hx
  obtain ⟨i, hi, hz, hsz, hb⟩ := E.info
  have := run_make (P := P) w t e i _ E.slice hi hz .i64 .i64 n n (by omega) (Int.le_refl _) (by rw [hb]; omega) (by omega)
  simp only [Int.toNat_natCast, hsz, Nat.mul_one] at this
  rw [this]
  have e0 : madeCells (Value.int .u8 0).cells n = (zU8 n).toArray := by
    apply Array.ext
    · simp [madeCells]
    · intro i h1 h2
      simp [madeCells, zU8, Value.cells]
      have : i % 1 = 0 := Nat.mod_one i
      simp [this]
  rw [e0]

theorem own_row {w : World} {base e : Nat} {v : Value} {n : Nat} {xs : List Value} (h : w.ownsRow base e 1 v n xs) (hn : 0 < n) :
    ∃ g c, v = .slice (some ⟨g, 0, none⟩) n c ∧ base ≤ g ∧ g < w.heap.size ∧ w.row? g 0 n = some xs := by
  rcases h.2 with ⟨rfl, h0⟩ | ⟨g, cap, cur, rfl, hbg, hg, hnc, hcm, hcs, htake⟩
  · omega
  · refine ⟨g, cap, rfl, hbg, (Array.getElem?_eq_some_iff.1 hg).1, ?_⟩
    unfold World.row?
    rw [hg]
    simp only [Nat.zero_add, List.drop_zero]
    rw [if_pos (by omega)]
    rw [Nat.mul_one] at htake
    rw [htake]

/-- A function that hands back an array or struct, which lies in a block of its own, and another value beside it. -/
theorem ret_row2 {P : Program} {fn : Func} {R : Ending → World → Prop} {a : Act} {w : World} {p q ty n b : Nat} (hT : RowTy P ty n) (hres : fn.results = #[.cell p ty, .tmp q]) (L : List Value) (x : Value)
    (hp : a.tmps.getD p undef = .pointer (some ⟨b, 0, none⟩)) (hq : a.tmps.getD q undef = x) (hd : a.defers = []) (hr : w.row? b 0 n = some L) (hR : R (.returned (.tuple #[.agg L.toArray, x])) w) :
    bodyPost P fn R .ret a w := by
  refine ⟨hd, _, ?_, hR⟩
  obtain ⟨d, hu, hd⟩ := hT.desc
  have hp' : a.tmps[p]?.getD undef = .pointer (some ⟨b, 0, none⟩) := by simpa using hp
  have hq' : a.tmps[q]?.getD undef = x := by simpa using hq
  simp [results, hres, hp', hq', asAddr, run_loadVar_mid w b 0 ty L d (World.row?_rangeAt hr) hu hd (by rw [World.row?_len hr]; exact hT.size)]

theorem u8L_replicate (n : Nat) : u8L (List.replicate n 0) = zU8 n := by simp [u8L, zU8]
end Go.Mun
