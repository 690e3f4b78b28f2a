/-
  When two arrays of numbers are one: the rule for the walk.
-/
import Derived.Test.YtaoacfkifcglfaaDoorNum
import Derived.ChangeKeysEq
namespace Go.Mun
open Go.RowKit

theorem flatten_chunk (n : Nat) : ∀ (css : List (List Value)) (i : Nat) (cs : List Value), (∀ c ∈ css, c.length = n) → css[i]? = some cs → (css.flatten.drop (i * n)).take n = cs
  | [], i, cs, _, h => by simp at h
  | c :: css, 0, cs, hc, h => by
    simp at h
    subst h
    simp [hc c (by simp)]
  | c :: css, i + 1, cs, hc, h => by
    simp at h
    have := flatten_chunk n css i cs (fun x hx => hc x (by simp [hx])) h
    rw [List.flatten_cons, show (i + 1) * n = c.length + i * n by rw [hc c (by simp), Nat.succ_mul, Nat.add_comm], ← List.drop_drop, List.drop_left]
    exact this

theorem own_rows {w : World} {base e size : Nat} {v : Value} {n : Nat} {css : List (List Value)} (h : w.ownsRow base e size v n css.flatten) (hl : css.length = n) (hc : ∀ c ∈ css, c.length = size) :
    ∃ a c, v = .slice a n c ∧ n ≤ c ∧ c ≤ maxLen ∧ (n ≠ 0 → ∃ g, a = some ⟨g, 0, none⟩ ∧ ∀ i cs, css[i]? = some cs → w.row? g (0 + i * size) size = some cs) := by
  rcases h.2 with ⟨rfl, h0⟩ | ⟨g, cap, cur, rfl, hbg, hg, hnc, hcm, hcs, htake⟩
  · subst h0
    exact ⟨none, 0, rfl, Nat.le_refl _, by simp, fun h => absurd rfl h⟩
  · refine ⟨_, cap, rfl, hnc, hcm, fun _ => ⟨g, rfl, fun i cs hi => ?_⟩⟩
    have hin : i < n := by
      rw [← hl]
      exact (List.getElem?_eq_some_iff.1 hi).1
    have hle : i * size + size ≤ n * size := by rw [← Nat.succ_mul]; exact Nat.mul_le_mul_right _ hin
    have hle2 : n * size ≤ cap * size := Nat.mul_le_mul_right _ hnc
    unfold World.row?
    rw [hg]
    simp only [Nat.zero_add]
    rw [if_pos (by omega)]
    congr 1
    rw [← flatten_chunk size css i cs hc hi, ← htake, List.drop_take, List.take_take]
    congr 1
    omega

theorem run_eqItems_ints {P : Program} {e : TypeId} {k : IntKind} (he : P.underlying e = some (.int k)) (hs : P.cellsOf e = 1) (d : Nat) (l m : List Int) (w : World) :
    ∀ (j i : Nat), i + j = l.length → i + j = m.length →
    (Op.eqItems (d + 1) e (P.cellsOf e) (l.map (Value.int k)).toArray (m.map (Value.int k)).toArray (List.range' i j)).run P w = .ok (decide (l.drop i = m.drop i)) w
  | 0, i, h1, h2 => by
    rw [List.drop_of_length_le (by omega), List.drop_of_length_le (by omega)]
    simp [Op.eqItems]
  | j + 1, i, h1, h2 => by
    have g1 : i < l.length := by omega
    have g2 : i < m.length := by omega
    have ih := run_eqItems_ints he hs d l m w j (i + 1) (by omega) (by omega)
    have hagg : (isAgg e).run P w = .ok false w := by
      unfold isAgg
      rw [Sem.run_bind, run_underlying he w]; rfl
    have p1 : (part e (l.map (Value.int k)).toArray (i * P.cellsOf e)).run P w = .ok (.int k l[i]) w := by
      rw [hs]; simp [part, Sem.run_bind, hagg, g1]
    have p2 : (part e (m.map (Value.int k)).toArray (i * P.cellsOf e)).run P w = .ok (.int k m[i]) w := by
      rw [hs]; simp [part, Sem.run_bind, hagg, g2]
    rw [List.range'_succ]
    simp only [Op.eqItems, Sem.run_bind, p1, p2, Result.andThen_ok, run_equalIn_int w d e k k l[i] m[i] he]
    have e : (l.drop i = m.drop i) ↔ (l[i] = m[i] ∧ l.drop (i + 1) = m.drop (i + 1)) := by
      rw [List.drop_eq_getElem_cons g1, List.drop_eq_getElem_cons g2]
      exact List.cons_eq_cons
    by_cases hx : l[i] = m[i]
    · have h0 : decide (l.drop i = m.drop i) = decide (l.drop (i + 1) = m.drop (i + 1)) := by rw [decide_eq_decide, e]; exact ⟨fun h => h.2, fun h => ⟨hx, h⟩⟩
      rw [h0, ← ih]; simp [hx]
    · have h0 : decide (l.drop i = m.drop i) = false := decide_eq_false fun h => hx (e.1 h).1
      rw [h0]; simp [hx]

theorem run_eq_ints {P : Program} {t e n : Nat} {k : IntKind} (hu : P.underlying t = some (.array n e)) (he : P.underlying e = some (.int k)) (hi : (P.info? e).map (·.size) = some 1) (d : Nat) (l m : List Int) (w : World) (hl : l.length = n) (hm : m.length = n) :
    (Op.equalIn (d + 2) t (.agg (l.map (Value.int k)).toArray) (.agg (m.map (Value.int k)).toArray)).run P w = .ok (decide (l = m)) w := by
  cases hq : P.info? e with
  | none => simp [hq] at hi
  | some i =>
    have hs : i.size = 1 := by simpa [hq] using hi
    have hs' : P.cellsOf e = 1 := by simp [Program.cellsOf, hq, hs]
    rw [run_equalIn_array w (d + 1) _ _ hu hq, List.range_eq_range', run_eqItems_ints he hs' d l m w n 0 (by omega) (by omega)]
    simp

theorem run_eqFields2 {P : Program} {w : World} {d : Nat} {xs ys : Array Value} {f g : Field} {a a' b b' : Value} (n1 : f.name ≠ "_") (n2 : g.name ≠ "_")
    (p1 : (part f.type xs f.offset).run P w = .ok a w) (p2 : (part f.type ys f.offset).run P w = .ok a' w) (q1 : (part g.type xs g.offset).run P w = .ok b w) (q2 : (part g.type ys g.offset).run P w = .ok b' w)
    {r s : Bool} (e1 : (Op.equalIn d f.type a a').run P w = .ok r w) (e2 : (Op.equalIn d g.type b b').run P w = .ok s w) : (Op.eqFields d xs ys [f, g]).run P w = .ok (r && s) w := by
  simp only [Op.eqFields, n1, n2, ne_eq, not_false_eq_true, if_true, Sem.run_bind, p1, p2, e1, Result.andThen_ok]
  cases r
  · simp
  · simp only [Bool.not_true, Bool.false_eq_true, if_false, Sem.run_bind, q1, q2, e2, Result.andThen_ok]
    cases s <;> simp

theorem run_eqFields2t {P : Program} {w : World} {d : Nat} {xs ys : Array Value} {f g : Field} {a a' b b' : Value} (t1 o1 t2 o2 : Nat) (hf : f.type = t1) (ho : f.offset = o1) (hg : g.type = t2) (hp : g.offset = o2) (n1 : f.name ≠ "_") (n2 : g.name ≠ "_")
    (p1 : (part t1 xs o1).run P w = .ok a w) (p2 : (part t1 ys o1).run P w = .ok a' w) (q1 : (part t2 xs o2).run P w = .ok b w) (q2 : (part t2 ys o2).run P w = .ok b' w)
    {r s : Bool} (e1 : (Op.equalIn d t1 a a').run P w = .ok r w) (e2 : (Op.equalIn d t2 b b').run P w = .ok s w) : (Op.eqFields d xs ys [f, g]).run P w = .ok (r && s) w := by
  subst hf ho hg hp; exact run_eqFields2 n1 n2 p1 p2 q1 q2 e1 e2
theorem at10000 {P : Program} {t : TypeId} {x y : Value} {w : World} {r : Bool} (h : ∀ d, (Op.equalIn (d + 3) t x y).run P w = .ok r w) : (Op.equalIn 10000 t x y).run P w = .ok r w := h 9997
theorem neq_of {P : Program} {t : TypeId} {xs ys : Array Value} {w : World} {r : Bool} (h : ∀ d, (Op.equalIn (d + 3) t (.agg xs) (.agg ys)).run P w = .ok r w) : (binOp .neq t (.agg xs) (.agg ys)).run P w = .ok (.bool (!r)) w := by
  rw [run_neq_struct, at10000 h]; rfl
theorem eql_of {P : Program} {t : TypeId} {xs ys : Array Value} {w : World} {r : Bool} (h : ∀ d, (Op.equalIn (d + 3) t (.agg xs) (.agg ys)).run P w = .ok r w) : (binOp .eql t (.agg xs) (.agg ys)).run P w = .ok (.bool r) w := by
  rw [run_eql_struct, at10000 h]; rfl

def beEq (k a b : Nat) : Bool := decide (be k a = be k b)
theorem be_succ (k a : Nat) : be (k + 1) a = ((a / 256 ^ k % 256 : Nat) : Int) :: be k a := by
  apply List.ext_getElem (by simp)
  intro i h1 h2
  cases i with
  | zero => simp [be]
  | succ i => simp only [be, List.getElem_cons_succ, List.getElem_map, List.getElem_range]; congr 4; omega
theorem be_mod (k a : Nat) : be k (a % 256 ^ k) = be k a := by
  apply List.ext_getElem (by simp)
  intro i h1 h2
  simp at h1
  simp only [be, List.getElem_map, List.getElem_range]
  congr 1
  obtain ⟨j, hj⟩ : ∃ j, j = k - 1 - i := ⟨_, rfl⟩
  rw [← hj]
  have e : 256 ^ k = 256 ^ j * 256 ^ (k - j) := by rw [← Nat.pow_add]; congr 1; omega
  rw [e, Nat.mod_mul_right_div_self, Nat.mod_mod_of_dvd]
  obtain ⟨t, ht⟩ : ∃ t, k - j = t + 1 := ⟨k - j - 1, by omega⟩
  exact ⟨256 ^ t, by rw [ht, Nat.pow_succ, Nat.mul_comm]⟩
theorem be_inj : ∀ (k a b : Nat), a < 256 ^ k → b < 256 ^ k → be k a = be k b → a = b
  | 0, a, b, ha, hb, _ => by simp at ha hb; omega
  | k + 1, a, b, ha, hb, h => by
    rw [be_succ, be_succ] at h
    injection h with h1 h2
    have hp : 0 < 256 ^ k := Nat.pow_pos (by decide)
    have ha' : a / 256 ^ k < 256 := by rw [Nat.div_lt_iff_lt_mul hp]; rw [Nat.pow_succ] at ha; omega
    have hb' : b / 256 ^ k < 256 := by rw [Nat.div_lt_iff_lt_mul hp]; rw [Nat.pow_succ] at hb; omega
    have e1 : a / 256 ^ k = b / 256 ^ k := by have := Int.natCast_inj.1 h1; rwa [Nat.mod_eq_of_lt ha', Nat.mod_eq_of_lt hb'] at this
    have e2 := be_inj k (a % 256 ^ k) (b % 256 ^ k) (Nat.mod_lt _ hp) (Nat.mod_lt _ hp) (by rw [be_mod, be_mod]; exact h2)
    rw [← Nat.div_add_mod a (256 ^ k), ← Nat.div_add_mod b (256 ^ k), e1, e2]
theorem beEq_eq (k a b : Nat) (ha : a < 256 ^ k) (hb : b < 256 ^ k) : beEq k a b = decide (a = b) := by
  unfold beEq
  by_cases h : a = b
  · simp [h]
  · have : ¬ be k a = be k b := fun e => h (be_inj k a b ha hb e)
    simp [h, this]
theorem run_eq_beD {P : Program} {t e n : Nat} (hu : P.underlying t = some (.array n e)) (he : P.underlying e = some (.int .u8)) (hi : (P.info? e).map (·.size) = some 1) (d a b : Nat) (w : World) :
    (Op.equalIn (d + 2) t (.agg (beC n a).toArray) (.agg (beC n b).toArray)).run P w = .ok (beEq n a b) w :=
  run_eq_ints hu he hi d (be n a) (be n b) w (be_len n a) (be_len n b)
theorem run_eq_be {P : Program} {t e n : Nat} (hu : P.underlying t = some (.array n e)) (he : P.underlying e = some (.int .u8)) (hi : (P.info? e).map (·.size) = some 1) (a b : Nat) (w : World) :
    (Op.equalIn 10000 t (.agg (beC n a).toArray) (.agg (beC n b).toArray)).run P w = .ok (beEq n a b) w :=
  run_eq_ints hu he hi 9998 (be n a) (be n b) w (be_len n a) (be_len n b)
end Go.Mun
