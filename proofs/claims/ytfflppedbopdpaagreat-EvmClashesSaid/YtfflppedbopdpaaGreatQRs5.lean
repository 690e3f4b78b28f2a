/-
  The reference's array of accounts where one account turns; the reference's state, what stands at each address alone.
  Looking up an account; its slots: plain laws of the reference's state.
  The reference's state while the place of an account is held; what comes of it where the account turns.
  The reference's SetNonce, SetBalance, SetCode, Kill.
  The reference's Get.
  The reference's rows of digits to the base 65536: plain laws.
  The reference's rows of digits: which of two is greater.
-/
import Derived.Test.YtfflppedbopdpaaGreatQRs3
import Derived.Test.YtfflppedbopdpaaGreatQWrd4
set_option linter.unusedVariables false
set_option maxRecDepth 1000000
set_option maxHeartbeats 8000000
set_option linter.unusedSimpArgs false
namespace Go.Mun
open Go.RowKit
open Go.Proofs.YtfflppedbopdpaaGreat (Ac acS acS_len AtR newOk)

theorem splice_take {α : Type} (L : List α) (o : Nat) (vs : List α) (k : Nat) (h : o + vs.length ≤ k) (hk : k ≤ L.length) : (splice L o vs).take k = splice (L.take k) o vs := by
 unfold splice
 rw [List.take_append, List.take_append, List.length_take, Nat.min_eq_left (by omega : o ≤ L.length), List.take_take, List.take_take, Nat.min_eq_right (by omega : o ≤ k), Nat.min_eq_left (by omega : o ≤ k), List.take_of_length_le (by omega : vs.length ≤ k - o), List.drop_take, Nat.sub_add_eq]
theorem own_setCells {w : World} {base e size g n c : Nat} {xs : List Value} (h : w.ownsRow base e size (.slice (some ⟨g, 0, none⟩) n c) n xs) (o : Nat) (vs : List Value) (ho : o + vs.length ≤ n * size) :
  (w.setCells g o vs).ownsRow base e size (.slice (some ⟨g, 0, none⟩) n c) n (splice xs o vs) := by
 have hl := h.1
 refine ⟨by unfold splice; simp; omega, ?_⟩
 rcases h.2 with ⟨h1, h2⟩ | ⟨g', cap, cur, h1, h2, h3, h4, h5, h6, h7⟩
 ·injection h1 with e1; cases e1
 ·injection h1 with e1 e2 e3
  cases e1
  subst e3
  have hm := Nat.mul_le_mul_right size h4
  refine .inr ⟨g, c, (splice cur.toList o vs).toArray, rfl, h2, ?_, h4, h5, ?_, ?_⟩
  ·exact heap_setCells_same e (0, 0) vs o cur.toList w (by simpa using h3) (by simp; omega)
  ·unfold splice; simp; omega
  ·rw [← h7]
   exact splice_take _ _ _ _ ho (by simp; omega)
theorem splice_left {α : Type} (A B : List α) (o : Nat) (vs : List α) (h : o + vs.length ≤ A.length) : splice (A ++ B) o vs = splice A o vs ++ B := by
 unfold splice
 rw [List.take_append_of_le_length (by omega), List.drop_append_of_le_length (by omega)]
 simp
theorem splice_right {α : Type} (A B : List α) (o : Nat) (vs : List α) : splice (A ++ B) (A.length + o) vs = A ++ splice B o vs := by
 unfold splice
 rw [List.take_length_add_append, show A.length + o + vs.length = A.length + (o + vs.length) by omega, ← List.drop_drop, List.drop_left]
 simp
theorem rowsR_set : ∀ (ps : List (RAc × Value × Value)) (k off : Nat) (vs : List Value) (p' : RAc × Value × Value) (hk : k < ps.length), off + vs.length ≤ 55 → racC p' = splice (racC ps[k]) off vs → splice (rowsR ps) (k * 55 + off) vs = rowsR (ps.set k p')
 | [], _, _, _, _, hk, _, _ => by simp at hk
 | p :: ps, 0, off, vs, p', _, h1, h2 => by
  rw [rowsR_cons, Nat.zero_mul, Nat.zero_add, splice_left _ _ _ _ (by rw [racC_len]; omega), List.set_cons_zero, rowsR_cons, h2]
  rfl
 | p :: ps, k + 1, off, vs, p', hk, h1, h2 => by
  have hk' : k < ps.length := by simpa using hk
  have ih := rowsR_set ps k off vs p' hk' h1 (by simpa using h2)
  rw [rowsR_cons, show (k + 1) * 55 + off = (racC p).length + (k * 55 + off) by rw [racC_len]; omega, splice_right, ih, List.set_cons_succ, rowsR_cons]
section
variable {w : World} {own : Own} {sb n : Nat} {lv mv : Value} {ps : List (RAc × Value × Value)} {ms : List (Nat × Value × List (RAc × Value × Value))}
theorem RStC.label (h : RStC w own sb lv mv ps ms n) {b0 : Nat} (l : Lab) (h0 : own b0 = none) (hl : b0 < w.heap.size) : RStC w (fun b => if b = b0 then some l else own b) sb lv mv ps ms n ∧ own.le (fun b => if b = b0 then some l else own b) := by
 have hle : own.le (fun b => if b = b0 then some l else own b) := by
  intro b l' hb
  show (if b = b0 then some l else own b) = some l'
  rw [if_neg (fun e => by rw [e, h0] at hb; cases hb)]; exact hb
 refine ⟨{ h with
  lab := hle _ _ h.lab
  arr := h.arr.le hle
  mlab := fun g hg => hle _ _ (h.mlab g hg)
  each := fun m hm => ⟨(h.each m hm).1.le hle, (h.each m hm).2⟩
  low := fun b hb => ?_ }, hle⟩
 by_cases e : b = b0
 ·rw [e]; exact hl
 ·have : (if b = b0 then some l else own b) ≠ none := hb
  rw [if_neg e] at this
  exact h.low b this
theorem RStC.putAt {g c k off : Nat} {vs : List Value} {p' : RAc × Value × Value} (h : RStC w own sb (.slice (some ⟨g, 0, none⟩) ps.length c) mv ps ms n) (hk : k < ps.length) (ho : off + vs.length ≤ 55) (hp : racC p' = splice (racC ps[k]) off vs) (ha : p'.1.ac.addr = ps[k].1.ac.addr) (hok : RAcOk w own p') :
  RStC (w.setCells g (k * 55 + off) vs) own sb (.slice (some ⟨g, 0, none⟩) ps.length c) mv (ps.set k p') ms n ∧ ChgR w (w.setCells g (k * 55 + off) vs) own own := by
 have hg : own g = some .acc := h.arr.lab g rfl
 have hO : Only (· = g) w (w.setCells g (k * 55 + off) vs) := Only.setCells (S := fun b => b = g) (Only.refl _ _) (fun _ => rfl) _ _
 have hS : ∀ b, b = g → own b ≠ some .code ∧ own b ≠ some (.smap 0) := fun b hb => by rw [hb, hg]; simp
 have hlt := World.row?_lt h.row
 have hsg : sb ≠ g := fun e => by have := h.lab; rw [e, hg] at this; cases this
 refine ⟨{
  lab := h.lab
  row := by rw [hO.row? hlt hsg]; exact h.row
  free := by rw [hO.free? hlt hsg]; exact h.free
  arr := ⟨?_, h.arr.lab, fun p hp2 => ?_⟩
  up := ?_
  marks := Only.own h.marks hO fun g2 hg2 e => by have := h.mlab g2 hg2; rw [e, hg] at this; cases this
  mlab := h.mlab
  each := fun m hm => ⟨(h.each m hm).1.only hO hS fun g2 hg2 e => ?_, (h.each m hm).2⟩
  apart := h.apart
  low := fun b hb => Nat.lt_of_lt_of_le (h.low b hb) hO.size
  count := h.count }, ⟨fun _ _ => rfl, hO.mono fun b hb => hot_lab (l := .acc) (by have e : b = g := hb; rw [e]; exact hg) (by simp) (by simp)⟩⟩
 ·have := own_setCells h.arr.cells (k * 55 + off) vs (by omega)
  rw [rowsR_set ps k off vs p' hk ho hp] at this
  rw [List.length_set]; exact this
 ·rcases List.mem_or_eq_of_mem_set hp2 with h2 | rfl
  ·exact (h.arr.ok p h2).only hO hS
  ·exact hok.only hO hS
 ·rw [List.map_set]
  exact rising_set h.up (i := k) (x := ps[k].1) (by rw [List.getElem?_map, List.getElem?_eq_getElem hk]; rfl) ha
 ·have := (List.pairwise_cons.1 h.apart).1 m.2.1 (List.mem_map.2 ⟨m, hm, rfl⟩)
  rcases this with h1 | h1
  ·simp [Value.ownBlock] at h1
  ·exact h1 (by rw [hg2, e]; rfl)
end
structure RWell (ps : List (RAc × Value × Value)) (n : Nat) : Prop where
 len : ps.length ≤ n
 slots : ∀ p ∈ ps, p.1.slots.length ≤ n ∧ (p.1.slots.map Prod.fst).Pairwise (· < ·) ∧ ∀ q ∈ p.1.slots, q.2 ≠ 0
theorem RWell.mono {ps : List (RAc × Value × Value)} {n n' : Nat} (h : RWell ps n) (hn : n ≤ n') : RWell ps n' :=
 ⟨Nat.le_trans h.len hn, fun p hp => ⟨Nat.le_trans (h.slots p hp).1 hn, (h.slots p hp).2⟩⟩
theorem RWell.set {ps : List (RAc × Value × Value)} {n k : Nat} {p' : RAc × Value × Value} (h : RWell ps n) (hp : p'.1.slots.length ≤ n ∧ (p'.1.slots.map Prod.fst).Pairwise (· < ·) ∧ ∀ q ∈ p'.1.slots, q.2 ≠ 0) : RWell (ps.set k p') n :=
 ⟨by rw [List.length_set]; exact h.len, fun p hp2 => by
  rcases List.mem_or_eq_of_mem_set hp2 with h2 | rfl
  ·exact h.slots p h2
  ·exact hp⟩
def fsts (ps : List (RAc × Value × Value)) : List RAc := ps.map fun p => p.1
def RState (w : World) (own : Own) (sb : Nat) (S : St) (M : List (Nat × St)) (n : Nat) : Prop :=
 ∃ lv mv ps ms k, RStC w own sb lv mv ps ms k ∧ S = rst (fsts ps) ∧ M = ms.map (fun m => (m.1, rst (fsts m.2.2))) ∧ RWell ps n ∧ (∀ m ∈ ms, RWell m.2.2 n) ∧ k ≤ n
section
variable {w w' : World} {own : Own} {sb n : Nat} {S : St} {M : List (Nat × St)}
theorem RState.only {R : Nat → Prop} (h : RState w own sb S M n) (ho : Only R w w') (hS : ∀ b, R b → own b = none) : RState w' own sb S M n := by
 obtain ⟨lv, mv, ps, ms, k, h1, h2⟩ := h
 exact ⟨lv, mv, ps, ms, k, h1.only ho hS, h2⟩
theorem RState.below (h : RState w own sb S M n) (hb : Below w.heap.size w w') : RState w' own sb S M n := h.only (R := fun _ => False) (Only.of_below_size hb) (fun _ h => h.elim)
theorem RState.lows (h : RState w own sb S M n) : ∀ b, own b ≠ none → b < w.heap.size := by
 obtain ⟨lv, mv, ps, ms, k, h1, _⟩ := h
 exact h1.low
theorem RState.mono {n' : Nat} (h : RState w own sb S M n) (hn : n ≤ n') : RState w own sb S M n' := by
 obtain ⟨lv, mv, ps, ms, k, h1, h2, h3, h4, h5, h6⟩ := h
 exact ⟨lv, mv, ps, ms, k, h1, h2, h3, h4.mono hn, fun m hm => (h5 m hm).mono hn, Nat.le_trans h6 hn⟩
end
theorem AtR.spec {a n : Nat} {ps ps' : List (RAc × Value × Value)} (h : AtR a ps ps') (hr : Rising (fsts ps)) (hw : RWell ps n) (hs : ∀ p ∈ ps, p.1.slots.length ≤ n) :
  (∃ hk : posR (fsts ps) a < ps'.length, (ps'[posR (fsts ps) a]'hk).1.ac.addr = a ∧ (ps'[posR (fsts ps) a]'hk).1.acc = rst (fsts ps) a) ∧ rst (fsts ps') = rst (fsts ps) ∧ RWell ps' (n + 1) := by
 have hm : fsts ps = ps.map fun p => p.1 := rfl
 rcases h with ⟨⟨x, h1, h2⟩, rfl⟩ | ⟨h1, h2⟩
 ·have hm : fsts ps' = ps'.map fun p => p.1 := rfl
  obtain ⟨hl, he⟩ := List.getElem?_eq_some_iff.1 h1
  have hl' : posR (fsts ps') a < ps'.length := by rw [hm]; simpa using hl
  have hx : (ps'[posR (fsts ps') a]'hl').1 = x := by simpa [fsts] using he
  refine ⟨⟨hl', by rw [hx]; exact h2, ?_⟩, rfl, hw.mono (Nat.le_succ _)⟩
  rw [hx]
  have := rst_some hr (i := posR (fsts ps') a) (x := x) (by rw [hm]; exact h1)
  rw [h2] at this; exact this.symm
 ·have hf : fsts ps' = atR (fsts ps) a := by
   unfold fsts atR
   rw [h2]
   simp [List.map_append, List.map_take, List.map_drop]
  have hle := posR_le (fsts ps) a
  have hlen : (fsts ps).length = ps.length := by simp [fsts]
  have hkl : posR (fsts ps) a < ps'.length := by
   rw [h2, List.length_append, List.length_take, List.length_cons, List.length_drop]
   have : posR (ps.map fun p => p.1) a = posR (fsts ps) a := rfl
   rw [this]; omega
  have hel : (ps'[posR (fsts ps) a]'hkl).1 = RAc.new a := by
   have h3 := hasR_atR (fsts ps) a
   rw [← hf] at h3
   have h4 : (fsts ps')[posR (fsts ps) a]? = some (ps'[posR (fsts ps) a]'hkl).1 := by
    show (ps'.map fun p => p.1)[posR (fsts ps) a]? = _
    rw [List.getElem?_map, List.getElem?_eq_getElem hkl]; rfl
   rw [h4] at h3
   exact Option.some.inj h3
  have hno : ∀ x ∈ fsts ps, x.ac.addr ≠ a := fun x hx e => h1 ((hasR_iff hr).2 ⟨x, hx, e⟩)
  refine ⟨⟨hkl, by rw [hel]; rfl, ?_⟩, by rw [hf]; exact rst_atR hr h1, ?_, ?_⟩
  ·rw [hel, rst_none hno]; rfl
  ·have := hw.len
   rw [h2, List.length_append, List.length_take, List.length_cons, List.length_drop]; omega
  ·intro p hp
   rw [h2] at hp
   rcases List.mem_append.1 hp with h3 | h3
   ·have := hw.slots p (List.mem_of_mem_take h3); exact ⟨Nat.le_succ_of_le this.1, this.2⟩
   ·rcases List.mem_cons.1 h3 with rfl | h3
    ·exact ⟨Nat.zero_le _, List.Pairwise.nil, fun q hq => by cases hq⟩
    ·have := hw.slots p (List.mem_of_mem_drop h3); exact ⟨Nat.le_succ_of_le this.1, this.2⟩
theorem rst_put {ps : List (RAc × Value × Value)} {k : Nat} (hr : Rising (fsts ps)) (hk : k < ps.length) (p' : RAc × Value × Value) (ha : p'.1.ac.addr = ps[k].1.ac.addr) : rst (fsts (ps.set k p')) = upd (rst (fsts ps)) ps[k].1.ac.addr p'.1.acc := by
 unfold fsts at hr ⊢
 rw [List.map_set]
 exact rst_set hr (i := k) (x := ps[k].1) (by rw [List.getElem?_map, List.getElem?_eq_getElem hk]; rfl) ha
end Go.Mun
namespace Go.Mun
open Go.RowKit
open Go.Proofs.YtfflppedbopdpaaGreat (Ac acS acS_len AtR newOk)

def newP (a : Nat) : RAc × Value × Value := (RAc.new a, .slice none 0 0, .slice none 0 0)
def getP : List (RAc × Value × Value) → Nat → RAc × Value × Value
 | [], a => newP a
 | p :: ps, a => if p.1.ac.addr = a then p else getP ps a
theorem getP_acc (ps : List (RAc × Value × Value)) (a : Nat) : (getP ps a).1.acc = rst (fsts ps) a := by
 induction ps with
 | nil => rfl
 | cons p ps ih =>
  simp only [getP, fsts, List.map_cons, rst]
  split
  ·rfl
  ·exact ih
theorem getP_addr (ps : List (RAc × Value × Value)) (a : Nat) : (getP ps a).1.ac.addr = a := by
 induction ps with
 | nil => rfl
 | cons p ps ih =>
  simp only [getP]
  split
  ·assumption
  ·exact ih
theorem getP_mem (ps : List (RAc × Value × Value)) (a : Nat) : getP ps a ∈ ps ∨ getP ps a = newP a := by
 induction ps with
 | nil => exact .inr rfl
 | cons p ps ih =>
  simp only [getP]
  split
  ·exact .inl (by simp)
  ·rcases ih with h | h
   ·exact .inl (by simp [h])
   ·exact .inr h
theorem getP_at : ∀ (ps : List (RAc × Value × Value)) (a i : Nat) (hi : i < ps.length), (∀ j (hj : j < ps.length), j < i → ps[j].1.ac.addr ≠ a) → ps[i].1.ac.addr = a → getP ps a = ps[i]
 | [], _, _, hi, _, _ => by simp at hi
 | p :: ps, a, 0, _, _, h => by
  have h' : p.1.ac.addr = a := h
  simp only [getP]; rw [if_pos h']; rfl
 | p :: ps, a, i + 1, hi, hl, h => by
  have h' : ¬ p.1.ac.addr = a := hl 0 (by simp) (by omega)
  simp only [getP]
  rw [if_neg h']
  exact getP_at ps a i (by simpa using hi) (fun j hj hji => hl (j + 1) (by simpa using hj) (by omega)) (by simpa using h)
theorem getP_no : ∀ (ps : List (RAc × Value × Value)) (a : Nat), (∀ j (hj : j < ps.length), ps[j].1.ac.addr ≠ a) → getP ps a = newP a
 | [], _, _ => rfl
 | p :: ps, a, hl => by
  have h' : ¬ p.1.ac.addr = a := hl 0 (by simp)
  simp only [getP]
  rw [if_neg h']
  exact getP_no ps a fun j hj => hl (j + 1) (by simpa using hj)
theorem getP_ok {w : World} {own : Own} {ps : List (RAc × Value × Value)} {a : Nat} (h : ∀ p ∈ ps, RAcOk w own p) (ha : a < wA) : RAcOk w own (getP ps a) := by
 rcases getP_mem ps a with h1 | h1
 ·exact h _ h1
 ·rw [h1]; exact newOk ha
def posS : List (Nat × Nat) → Nat → Nat
 | [], _ => 0
 | x :: l, k => if x.1 < k then posS l k + 1 else 0
def setSl : List (Nat × Nat) → Nat → Nat → List (Nat × Nat)
 | [], k, v => if v = 0 then [] else [(k, v)]
 | x :: l, k, v => if x.1 < k then x :: setSl l k v else (if v = 0 then [] else [(k, v)]) ++ (if x.1 = k then l else x :: l)
end Go.Mun
namespace Go.Mun
open Go.RowKit
open Go.Proofs.YtfflppedbopdpaaGreat (Ac acS acS_len AtR newOk ownsRow_lt)

theorem splice_catR {l : List (List Value)} {i : Nat} {s : List Value} (hs : l[i]? = some s) {v : List Value} (hv : v.length = s.length) {p : Nat} (hp : p = offOf l i) : splice (cat l) p v = cat (l.set i v) := by
 have h1 := off_le hs
 rw [hp, ← lay_eq _ _ _ (by omega), lay_cat hs hv]
def RHeld (w : World) (own : Own) (sb : Nat) (S : St) (M : List (Nat × St)) (n a g k : Nat) : Prop :=
 ∃ c mv ps ms x, RStC w own sb (.slice (some ⟨g, 0, none⟩) ps.length c) mv ps ms x ∧ (∃ hk : k < ps.length, (ps[k]'hk).1.ac.addr = a) ∧ S = rst (fsts ps) ∧ M = ms.map (fun m => (m.1, rst (fsts m.2.2))) ∧ RWell ps n ∧ (∀ m ∈ ms, RWell m.2.2 n) ∧ x ≤ n
section
variable {w w' : World} {own : Own} {sb n a g k : Nat} {S : St} {M : List (Nat × St)}
theorem RHeld.state (h : RHeld w own sb S M n a g k) : RState w own sb S M n := by
 obtain ⟨c, mv, ps, ms, x, h1, _, h3⟩ := h
 exact ⟨_, mv, ps, ms, x, h1, h3⟩
theorem RHeld.only {R : Nat → Prop} (h : RHeld w own sb S M n a g k) (ho : Only R w w') (hS : ∀ b, R b → own b = none) : RHeld w' own sb S M n a g k := by
 obtain ⟨c, mv, ps, ms, x, h1, h2⟩ := h
 exact ⟨c, mv, ps, ms, x, h1.only ho hS, h2⟩
theorem RHeld.below (h : RHeld w own sb S M n a g k) (hb : Below w.heap.size w w') : RHeld w' own sb S M n a g k := h.only (R := fun _ => False) (Only.of_below_size hb) (fun _ h => h.elim)
theorem RHeld.lt (h : RHeld w own sb S M n a g k) : g < w.heap.size := by
 obtain ⟨c, mv, ps, ms, x, h1, ⟨hk, _⟩, _⟩ := h
 obtain ⟨g', c', e, _, hr, _⟩ := h1.arr.row hk
 cases e
 exact World.row?_lt hr
theorem RHeld.free (h : RHeld w own sb S M n a g k) : w.free? g (k * 55) 55 = true := by
 obtain ⟨c, mv, ps, ms, x, h1, ⟨hk, _⟩, _⟩ := h
 obtain ⟨g', c', e, _, _, hf⟩ := h1.arr.row hk
 cases e
 exact hf
theorem RHeld.label (h : RHeld w own sb S M n a g k) {b0 : Nat} (l : Lab) (h0 : own b0 = none) (hl : b0 < w.heap.size) : RHeld w (fun b => if b = b0 then some l else own b) sb S M n a g k := by
 obtain ⟨c, mv, ps, ms, x, h1, h2⟩ := h
 exact ⟨c, mv, ps, ms, x, (h1.label l h0 hl).1, h2⟩
theorem RHeld.put {off : Nat} {vs : List Value} (X : Acc → Acc) (h : RHeld w own sb S M n a g k) (ho : off + vs.length ≤ 55)
  (hp : ∀ p : RAc × Value × Value, RAcOk w own p → p.1.ac.addr = a → p.1.slots.length ≤ n → (p.1.slots.map Prod.fst).Pairwise (· < ·) → (∀ q ∈ p.1.slots, q.2 ≠ 0) →
   ∃ p' : RAc × Value × Value, racC p' = splice (racC p) off vs ∧ p'.1.ac.addr = a ∧ RAcOk w own p' ∧ (p'.1.slots.length ≤ n + 1 ∧ (p'.1.slots.map Prod.fst).Pairwise (· < ·) ∧ ∀ q ∈ p'.1.slots, q.2 ≠ 0) ∧ p'.1.acc = X p.1.acc) :
  RState (w.setCells g (k * 55 + off) vs) own sb (upd S a (X (S a))) M (n + 1) ∧ ChgR w (w.setCells g (k * 55 + off) vs) own own := by
 obtain ⟨c, mv, ps, ms, x, h1, ⟨hk, ha⟩, h3, h4, h5, h6, h7⟩ := h
 have hmem : ps[k] ∈ ps := List.getElem_mem hk
 obtain ⟨p', e1, e2, e3, e4, e5⟩ := hp ps[k] (h1.arr.ok _ hmem) ha (h5.slots _ hmem).1 (h5.slots _ hmem).2.1 (h5.slots _ hmem).2.2
 obtain ⟨k1, k2⟩ := h1.putAt hk ho e1 (e2.trans ha.symm) e3
 have hS : rst (fsts ps) a = ps[k].1.acc := by
  have := rst_some h1.up (i := k) (x := ps[k].1) (by rw [List.getElem?_map, List.getElem?_eq_getElem hk]; rfl)
  rw [ha] at this; exact this
 have hlen : (ps.set k p').length = ps.length := List.length_set
 refine ⟨⟨.slice (some ⟨g, 0, none⟩) ps.length c, mv, ps.set k p', ms, x, k1, ?_, h4, (h5.mono (Nat.le_succ n)).set e4, fun m hm => (h6 m hm).mono (Nat.le_succ n), Nat.le_succ_of_le h7⟩, k2⟩
 have := rst_put h1.up hk p' (e2.trans ha.symm)
 rw [this, ha, e5, h3, hS]
theorem RHeld.bal (h : RHeld w own sb S M n a g k) (v : Nat) (hv : v < wW) : RState (w.setCells g (k * 55 + 21) (beC 32 v)) own sb (upd S a { S a with bal := v }) M (n + 1) ∧ ChgR w (w.setCells g (k * 55 + 21) (beC 32 v)) own own := by
 refine h.put (fun x => { x with bal := v }) (by rw [beC_len]; omega) ?_
 intro p hok ha hl h1 h2
 refine ⟨(⟨{ p.1.ac with bal := v }, p.1.slots⟩, p.2), ?_, ha, ⟨hok.code, hok.slots, hok.addr, hv, hok.nonce⟩, ⟨Nat.le_succ_of_le hl, h1, h2⟩, rfl⟩
 unfold racC
 rw [splice_catR (i := 2) (s := beC 32 p.1.ac.bal) rfl (by simp) (by simp [acS, offOf_succ, offOf_zero])]
 rfl
theorem RHeld.nonce (h : RHeld w own sb S M n a g k) (x : Int) (hx : 0 ≤ x ∧ x ≤ 9223372036854775807) : RState (w.setCells g (k * 55 + 20) [.int .i64 x]) own sb (upd S a { S a with nonce := x.toNat }) M (n + 1) ∧ ChgR w (w.setCells g (k * 55 + 20) [.int .i64 x]) own own := by
 refine h.put (fun y => { y with nonce := x.toNat }) (by simp) ?_
 intro p hok ha hl h1 h2
 refine ⟨(⟨{ p.1.ac with nonce := x }, p.1.slots⟩, p.2), ?_, ha, ⟨hok.code, hok.slots, hok.addr, hok.bal, hx⟩, ⟨Nat.le_succ_of_le hl, h1, h2⟩, rfl⟩
 unfold racC
 rw [splice_catR (i := 1) (s := [.int .i64 p.1.ac.nonce]) rfl (by simp) (by simp [acS, offOf_succ, offOf_zero])]
 rfl
theorem RHeld.code (h : RHeld w own sb S M n a g k) {cv : Value} {l : Bts} (hc : CodeAt w own cv l) : RState (w.setCells g (k * 55 + 53) [cv]) own sb (upd S a { S a with code := l }) M (n + 1) ∧ ChgR w (w.setCells g (k * 55 + 53) [cv]) own own := by
 refine h.put (fun y => { y with code := l }) (by simp) ?_
 intro p hok ha hl h1 h2
 refine ⟨(⟨{ p.1.ac with code := l }, p.1.slots⟩, cv, p.2.2), ?_, ha, ⟨hc, hok.slots, hok.addr, hok.bal, hok.nonce⟩, ⟨Nat.le_succ_of_le hl, h1, h2⟩, rfl⟩
 unfold racC
 rw [splice_catR (i := 3) (s := [p.2.1]) rfl (by simp) (by simp [acS, offOf_succ, offOf_zero])]
 rfl
theorem RHeld.kill (h : RHeld w own sb S M n a g k) (haw : a < wA) : RState (w.setCells g (k * 55 + 0) (racC (newP a))) own sb (upd S a Acc.none) M (n + 1) ∧ ChgR w (w.setCells g (k * 55 + 0) (racC (newP a))) own own := by
 refine h.put (fun _ => Acc.none) (by rw [racC_len]; omega) ?_
 intro p hok ha hl h1 h2
 refine ⟨newP a, ?_, rfl, newOk haw, ⟨Nat.zero_le _, List.Pairwise.nil, fun q hq => by cases hq⟩, rfl⟩
 unfold splice
 rw [List.take_zero, List.nil_append, List.drop_eq_nil_of_le (by rw [racC_len, racC_len]; omega), List.append_nil]
theorem RHeld.newCode {v : World} {cv : Value} {l : Bts} (h : RHeld v own sb S M n a g k) (hb : Below v.heap.size v w) (hv : w.ownsRow 0 5 1 cv l.length (l.map (Value.int .u8))) (hnew : ∀ g, cv.ownBlock = some g → v.heap.size ≤ g) (hby : Byt l) (hl : l.length ≤ 1099511627776) :
  ∃ own', RState (w.setCells g (k * 55 + 53) [cv]) own' sb (upd S a { S a with code := l }) M (n + 1) ∧ ChgR v (w.setCells g (k * 55 + 53) [cv]) own own' := by
 have hw := h.below hb
 obtain ⟨ad, c, e, _, hI⟩ := Ints.of_own' hv
 subst e
 cases ad with
 | none =>
  have hc : CodeAt w own (.slice none l.length c) l := ⟨⟨none, c, rfl, hI, fun _ p hp => by cases hp⟩, hby, hl⟩
  obtain ⟨k1, k2⟩ := hw.code hc
  exact ⟨own, k1, (ChgR.below own hb).trans k2⟩
 | some p =>
  have h1 := hnew p.block rfl
  have h2 := ownsRow_lt hv p.block rfl
  have h3 : own p.block = none := by
   cases e : own p.block with
   | none => rfl
   | some x => have := h.state.lows p.block (by rw [e]; simp); omega
  have hc : CodeAt w (fun b => if b = p.block then some .code else own b) (.slice (some p) l.length c) l := ⟨⟨some p, c, rfl, hI, fun _ q hq => by cases hq; simp⟩, hby, hl⟩
  obtain ⟨k1, k2⟩ := (hw.label .code h3 h2).code hc
  refine ⟨_, k1, ⟨fun b hbv => ?_, ?_⟩⟩
  ·show (if b = p.block then some Lab.code else own b) = own b
   rw [if_neg (by omega)]
  ·refine (Only.of_below_size (S := hot own) hb).trans k2.only fun i hx hi => ?_
   have hx2 : hot _ i := hx
   unfold hot at hx2 ⊢
   simp only [if_neg (show ¬ i = p.block by omega)] at hx2
   exact hx2
end
end Go.Mun
namespace Go.Proofs.YtfflppedbopdpaaGreat
open Go.RowKit Go.Mun

theorem r_hold {w : World} {own : Go.Mun.Own} {sb a n : Nat} {S : St} {M : List (Nat × St)} (h : RState w own sb S M n) (ha : a < wA) (hn : n ≤ 1000000) :
  Calls Tryz.prog 169 #[.pointer (some ⟨sb, 0, none⟩), .agg (beC 20 a).toArray] w fun e w' => ∃ own' g k, e = .returned (.pointer (some ⟨g, k * 55, none⟩)) ∧ RHeld w' own' sb S M (n + 1) a g k ∧ ChgR w w' own own' := by
 obtain ⟨lv, mv, ps, ms, x, h1, h2, h3, h4, h5, h6⟩ := h
 refine (r_at h1 ha (Nat.le_trans h4.len hn)).mono ?_
 rintro e w' ⟨own', g, c, ps', rfl, k1, k2, k3⟩
 obtain ⟨⟨i1, i2, i3⟩, i4, i5⟩ := AtR.spec k3 h1.up h4 (fun p hp => (h4.slots p hp).1)
 exact ⟨own', g, _, rfl, ⟨c, mv, ps', ms, x, k1, ⟨i1, i2⟩, h2.trans i4.symm, h3, i5, fun m hm => (h5 m hm).mono (Nat.le_succ n), Nat.le_succ_of_le h6⟩, k2⟩
theorem own_new {w : World} {own : Go.Mun.Own} {sb n : Nat} {S : St} {M : List (Nat × St)} (h : RState w own sb S M n) {b : Nat} (hb : w.heap.size ≤ b) : own b = none := free_own h.lows hb
def SetR (w : World) (own : Go.Mun.Own) (sb : Nat) (S : St) (M : List (Nat × St)) (n : Nat) (e : Ending) (w' : World) : Prop :=
 e = .returned (.tuple #[]) ∧ ∃ own', RState w' own' sb S M n ∧ ChgR w w' own own'
theorem r_setBalance {w : World} {own : Go.Mun.Own} {sb a v n : Nat} {S : St} {M : List (Nat × St)} (h : RState w own sb S M n) (ha : a < wA) (hv : v < wW) (hn : n ≤ 1000000) :
  Calls Tryz.prog 61 #[.pointer (some ⟨sb, 0, none⟩), .agg (beC 20 a).toArray, .agg (beC 32 v).toArray] w (SetR w own sb (upd S a { S a with bal := v }) M (n + 2)) := by
 obtain ⟨w0, e0⟩ : ∃ w0, w0 = (w.alloc (.cells (beC 20 a).toArray 23)).alloc (.cells (beC 32 v).toArray 25) := ⟨_, rfl⟩
 have hb0 : Below w.heap.size w w0 := by rw [e0]; exact ((Below.refl _ _).alloc (Nat.le_refl _) _).alloc (by simp) _
 have hx0 : w0.row? w.heap.size 0 20 = some (beC 20 a) := by rw [e0, World.row?_alloc_lt _ (by simp)]; exact World.row?_alloc_at _ _ _ rfl (by simp)
 have hx : w0.drew.row? w.heap.size 0 20 = some (beC 20 a) := hx0
 have hy : w0.drew.row? (w.heap.size + 1) 0 32 = some (beC 32 v) := by rw [e0]; exact World.row?_alloc_at _ _ _ (by simp) (by simp)
 have hl1 : (beC 20 a).length = 20 := by simp
 have hl2 : (beC 32 v).length = 32 := by simp
 have hok := beC_ok 32 v
 have ho1 := own_new h (Nat.le_refl _)
 have ho2 := own_new h (Nat.le_succ w.heap.size)
 have HST := Lib.hid (h.below hb0.drew)
 have HB := Lib.hid hb0.drew
 have HE := Lib.hid e0
 obtain ⟨T, hT⟩ : ∃ T : World → Prop, T = fun W => W.row? w.heap.size 0 20 = some (beC 20 a) ∧ W.row? (w.heap.size + 1) 0 32 = some (beC 32 v) := ⟨_, rfl⟩
 have HT := Lib.hid hT
 have t0 : T w0.drew := by rw [hT]; exact ⟨hx, hy⟩
 clear e0 hb0 hx hy hT h
 go_enter Tryz.func61, Tryz.ntmps61
 go_wp2_with fail
 rw [← HE.out]
 refine wp_region_tree T [6] (.pure 0 (.take 1 (.take 3 (.alt 2 (.pure 4 (.pure 5 (.alt 6 .fin .stop))) .stop)))) (by kernel_rfl) (by kernel_rfl) ?_
 refine tree_pure ?_ rfl (by rfl) (fun w' hs => ?_) (fun _ _ _ h => h) ?_
 rotate_left
 ·clear hs
  go_simp
  try rfl
 simp only [Act.put, tsa, tsb, tsc]
 iterate 2
  refine tree_take ?_ t0 rfl (by rfl) (fun w' hs => ?_) (fun _ _ _ h => h) ?_
  rotate_left
  ·rw [HT.out] at hs
   obtain ⟨q1, q2⟩ := hs
   go_simp
   try rfl
  simp only [Act.put, tsa, tsb, tsc]
 refine tree_run rfl (fun K hK => ?_)
 go_simp
 refine (r_hold HST.out ha hn).mono ?_
 rintro e w2 ⟨own', g, k, rfl, hh, hc⟩
 have t2 : T w2 := by rw [HT.out] at t0 ⊢; exact ⟨(hc.only.row? (World.row?_lt t0.1) (fun h2 => h2.1 ho1)).trans t0.1, (hc.only.row? (World.row?_lt t0.2) (fun h2 => h2.1 ho2)).trans t0.2⟩
 have hf := World.free?_sub hh.free (o' := k * 55 + 21) (n' := 32) (by omega)
 have HH := Lib.hid hh
 have HC := Lib.hid ((ChgR.below own HB.out).trans hc)
 clear hh hc
 refine hK.out _ _ t2 ?_
 clear hK K
 iterate 2
  refine tree_pure ?_ rfl (by rfl) (fun w' hs => ?_) (fun _ _ _ h => h) ?_
  rotate_left
  ·clear hs
   go_simp
   try rfl
  simp only [Act.put, tsa, tsb, tsc]
 refine tree_z rfl (by simp) (fun K hK => ?_)
 go_simp
 refine hK.out _ _ ?_
 clear hK K
 refine tree_fin ?_
 go_wp2
 go_end0
 obtain ⟨k1, k2⟩ := HH.out.bal v hv
 exact ⟨rfl, own', k1, HC.out.trans k2⟩
theorem r_setNonce {w : World} {own : Go.Mun.Own} {sb a n : Nat} {S : St} {M : List (Nat × St)} (x : Nat) (h : RState w own sb S M n) (ha : a < wA) (hx : x ≤ 9223372036854775807) (hn : n ≤ 1000000) :
  Calls Tryz.prog 60 #[.pointer (some ⟨sb, 0, none⟩), .agg (beC 20 a).toArray, .int .i64 (x : Int)] w (SetR w own sb (upd S a { S a with nonce := x }) M (n + 2)) := by
 obtain ⟨w0, e0⟩ : ∃ w0, w0 = w.alloc (.cells (beC 20 a).toArray 23) := ⟨_, rfl⟩
 have hb0 : Below w.heap.size w w0 := by rw [e0]; exact (Below.refl _ _).alloc (Nat.le_refl _) _
 have hl1 : (beC 20 a).length = 20 := by simp
 have hx1 : ¬ (x : Int) < 0 := by omega
 have hxd : decide ((x : Int) < 0) = false := decide_eq_false hx1
 have q1 : w0.row? w.heap.size 0 20 = some (beC 20 a) := by rw [e0]; exact World.row?_alloc_at _ _ _ rfl (by simp)
 have HST := Lib.hid (h.below hb0)
 have HB := Lib.hid hb0
 have HE := Lib.hid e0
 have HX := Lib.hid hx
 clear e0 hb0 h hx hx1
 go_enter Tryz.func60, Tryz.ntmps60
 go_wp2_with fail
 rw [← HE.out]
 refine (r_hold HST.out ha hn).mono ?_
 rintro e w2 ⟨own', g, k, rfl, hh, hc⟩
 have hf := World.free?_sub hh.free (o' := k * 55 + 20) (n' := 1) (by omega)
 have HH := Lib.hid hh
 have HC := Lib.hid ((ChgR.below own HB.out).trans hc)
 clear hh hc q1
 go_wp2
 go_end0
 obtain ⟨k1, k2⟩ := HH.out.nonce (x : Int) ⟨by omega, by have := HX.out; omega⟩
 exact ⟨rfl, own', k1, HC.out.trans k2⟩
theorem r_setCode {w : World} {own : Go.Mun.Own} {sb a n : Nat} {S : St} {M : List (Nat × St)} {dv : Value} {l : Bts} (h : RState w own sb S M n) (ha : a < wA) (hd : RoAt w (fun b => own b ≠ none) dv l) (hn : n ≤ 1000000) :
  Calls Tryz.prog 62 #[.pointer (some ⟨sb, 0, none⟩), .agg (beC 20 a).toArray, dv] w (SetR w own sb (upd S a { S a with code := l }) M (n + 2)) := by
 obtain ⟨w0, e0⟩ : ∃ w0, w0 = w.alloc (.cells (beC 20 a).toArray 23) := ⟨_, rfl⟩
 have hb0 : Below w.heap.size w w0 := by rw [e0]; exact (Below.refl _ _).alloc (Nat.le_refl _) _
 have hl1 : (beC 20 a).length = 20 := by simp
 have q1 : w0.row? w.heap.size 0 20 = some (beC 20 a) := by rw [e0]; exact World.row?_alloc_at _ _ _ rfl (by simp)
 have hd0 := hd
 obtain ⟨⟨da, dc, rfl, _, _⟩, hby, hln⟩ := hd0
 have HD := Lib.hid (RoAt.below hd hb0)
 have HST := Lib.hid (h.below hb0)
 have HB := Lib.hid hb0
 have HE := Lib.hid e0
 have hln2 : l.length ≤ maxLen := by unfold maxLen; omega
 have HBY := Lib.hid hby
 clear e0 hb0 h hd hby
 go_enter Tryz.func62, Tryz.ntmps62
 go_wp2_with fail
 rw [← HE.out]
 refine (r_hold HST.out ha hn).mono ?_
 rintro e w2 ⟨own', g, k, rfl, hh, hc⟩
 have hd2 := RoAt.chg HD.out hc.chg
 obtain ⟨⟨da2, dc2, ed, hI, _⟩, _, _⟩ := hd2
 cases ed
 have HI := Lib.hid hI
 have HH := Lib.hid hh
 have HC := Lib.hid ((ChgR.below own HB.out).trans hc)
 clear hh hc q1 hI
 go_wp2_with (at_builtin; go_must (refine wpList_app elem26 rfl _ _ rfl (World.ownsRow_nil _ _ _ _) rfl (SrcAt.ints HI.out) rfl ?c1 ?c2 ?_))
 case c1 => omega
 case c2 => omega
 intro v3 w3 hv3 ho3 hn3
 have hb3 : Below w2.heap.size w2 w3 := ho3.below (Nat.le_refl _) (fun i hi => by simp [Value.ownBlock] at hi)
 have hv3' : w3.ownsRow 0 5 1 v3 l.length (l.map (Value.int .u8)) := by simpa using hv3
 have hone : v3.oneCell' = true := by obtain ⟨_, _, rfl⟩ := own_shape hv3'; rfl
 have hf := World.free?_sub (HH.out.below hb3).free (o' := k * 55 + 53) (n' := 1) (by omega)
 have HB3 := Lib.hid hb3
 have HV3 := Lib.hid hv3'
 have HN3 : Hid (∀ g, v3.ownBlock = some g → w2.heap.size ≤ g) := fun g hg => (hn3 g hg).resolve_left (by simp [Value.ownBlock])
 clear hv3 ho3 hn3 hb3 hv3'
 go_wp2
 go_end0
 obtain ⟨own2, k1, k2⟩ := HH.out.newCode HB3.out HV3.out HN3.out HBY.out hln
 exact ⟨rfl, own2, k1, HC.out.trans k2⟩
theorem r_kill {w : World} {own : Go.Mun.Own} {sb a n : Nat} {S : St} {M : List (Nat × St)} (h : RState w own sb S M n) (ha : a < wA) (hn : n ≤ 1000000) :
  Calls Tryz.prog 59 #[.pointer (some ⟨sb, 0, none⟩), .agg (beC 20 a).toArray] w (SetR w own sb (upd S a Acc.none) M (n + 2)) := by
 obtain ⟨w0, e0⟩ : ∃ w0, w0 = w.alloc (.cells (beC 20 a).toArray 23) := ⟨_, rfl⟩
 have hb0 : Below w.heap.size w w0 := by rw [e0]; exact (Below.refl _ _).alloc (Nat.le_refl _) _
 have hl1 : (beC 20 a).length = 20 := by simp
 have hx : w0.drew.row? w.heap.size 0 20 = some (beC 20 a) := by rw [e0]; exact World.row?_alloc_at _ _ _ rfl (by simp)
 have ho1 := own_new h (Nat.le_refl _)
 have HST := Lib.hid (h.below hb0.drew)
 have HB := Lib.hid hb0.drew
 have HE := Lib.hid e0
 have hbuild := build35n a
 have hz : racC (newP a) = racC (RAc.new a, .slice none 0 0, .slice none 0 0) := rfl
 rw [← hz] at hbuild
 have hok : okL 55 (racC (newP a)) = true := racC_ok (newOk (w := w) (own := own) ha)
 obtain ⟨C, hC⟩ : ∃ C, C = racC (newP a) := ⟨_, rfl⟩
 rw [← hC] at hbuild hok
 have HC0 := Lib.hid hC
 obtain ⟨T, hT⟩ : ∃ T : World → Prop, T = fun W => W.row? w.heap.size 0 20 = some (beC 20 a) := ⟨_, rfl⟩
 have HT := Lib.hid hT
 have t0 : T w0.drew := by rw [hT]; exact hx
 clear e0 hb0 hx hT h hz hC
 go_enter Tryz.func59, Tryz.ntmps59
 go_wp2_with fail
 rw [← HE.out]
 refine wp_region_tree T [6] (.pure 0 (.take 1 (.take 3 (.pure 4 (.alt 2 (.pure 5 (.alt 6 .fin .stop)) .stop))))) (by kernel_rfl) (by kernel_rfl) ?_
 refine tree_pure ?_ rfl (by rfl) (fun w' hs => ?_) (fun _ _ _ h => h) ?_
 rotate_left
 ·clear hs
  go_simp
  try rfl
 simp only [Act.put, tsa, tsb, tsc]
 iterate 2
  refine tree_take ?_ t0 rfl (by rfl) (fun w' hs => ?_) (fun _ _ _ h => h) ?_
  rotate_left
  ·rw [HT.out] at hs
   have q1 := hs
   go_simp
   try rfl
  simp only [Act.put, tsa, tsb, tsc]
 refine tree_pure ?_ rfl (by rfl) (fun w' hs => ?_) (fun _ _ _ h => h) ?_
 rotate_left
 ·clear hs
  refine (bl81 _ _ _ _ _ _ _ _).trans ?_
  refine (congrArg (fun r => asNext (blRow Tryz.prog 35 _ _ r)) hbuild).trans ?_
  rfl
 simp only [Act.put, tsa, tsb, tsc]
 refine tree_run rfl (fun K hK => ?_)
 go_simp
 refine (r_hold HST.out ha hn).mono ?_
 rintro e w2 ⟨own', g, k, rfl, hh, hc⟩
 have t2 : T w2 := by rw [HT.out] at t0 ⊢; exact (hc.only.row? (World.row?_lt t0) (fun h2 => h2.1 ho1)).trans t0
 have hf := hh.free
 have HH := Lib.hid hh
 have HC := Lib.hid ((ChgR.below own HB.out).trans hc)
 clear hh hc
 refine hK.out _ _ t2 ?_
 clear hK K
 refine tree_pure ?_ rfl (by rfl) (fun w' hs => ?_) (fun _ _ _ h => h) ?_
 rotate_left
 ·clear hs
  go_simp
  try rfl
 simp only [Act.put, tsa, tsb, tsc]
 refine tree_z rfl (by simp) (fun K hK => ?_)
 go_simp
 refine hK.out _ _ ?_
 clear hK K
 refine tree_fin ?_
 go_wp2
 go_end0
 obtain ⟨k1, k2⟩ := HH.out.kill ha
 rw [← HC0.out, Nat.add_zero] at k1 k2
 exact ⟨rfl, own', k1, HC.out.trans k2⟩
end Go.Proofs.YtfflppedbopdpaaGreat
namespace Go.Proofs.YtfflppedbopdpaaGreat
open Go.RowKit Go.Mun
structure GotR (w : World) (own : Go.Mun.Own) (S : St) (n a : Nat) (p : RAc × Value × Value) : Prop where
 ok : RAcOk w own p
 addr : p.1.ac.addr = a
 acc : p.1.acc = S a
 slots : p.1.slots.length ≤ n ∧ (p.1.slots.map Prod.fst).Pairwise (· < ·) ∧ ∀ q ∈ p.1.slots, q.2 ≠ 0
theorem getP_got {w : World} {own : Go.Mun.Own} {a n : Nat} {ps : List (RAc × Value × Value)} (h : ∀ p ∈ ps, RAcOk w own p) (ha : a < wA) (hw : RWell ps n) : GotR w own (rst (fsts ps)) n a (getP ps a) := by
 refine ⟨getP_ok h ha, getP_addr ps a, getP_acc ps a, ?_⟩
 rcases getP_mem ps a with h1 | h1
 ·exact hw.slots _ h1
 ·rw [h1]; exact ⟨Nat.zero_le _, List.Pairwise.nil, fun q hq => by cases hq⟩
theorem free35 (w : World) (t : List Value) (ty : TypeId) : ((w.alloc (.cells t.toArray ty)).alloc (.cells (cat zs81).toArray 35)).free? (w.heap.size + 1) 0 55 = true := World.free?_alloc_at _ _ (by simp) (by rw [zs81_len]; omega)
attribute [local irreducible] wpStill
theorem r_get {w : World} {own : Go.Mun.Own} {sb a n : Nat} {S : St} {M : List (Nat × St)} (h : RState w own sb S M n) (ha : a < wA) (hn : n ≤ 1000000) :
  Calls Tryz.prog 66 #[.pointer (some ⟨sb, 0, none⟩), .agg (beC 20 a).toArray] w fun e w' => ∃ p, e = .returned (.agg (racC p).toArray) ∧ Below w.heap.size w w' ∧ GotR w own S n a p := by
 obtain ⟨lv, mv, ps, ms, x0, h1, rfl, _, hw, _, _⟩ := h
 have hpl : ps.length ≤ 1000000 := Nat.le_trans hw.len hn
 obtain ⟨la, lc, rfl⟩ := h1.arr.form
 have hgot := getP_got h1.arr.ok ha hw
 obtain ⟨w1, e1⟩ : ∃ w1, w1 = (w.alloc (.cells (beC 20 a).toArray 23)).alloc (.cells (cat zs81).toArray 35) := ⟨_, rfl⟩
 have hb1 : Below w.heap.size w w1 := by rw [e1]; exact ((Below.refl _ _).alloc (Nat.le_refl _) _).alloc (by simp) _
 have r1 : w1.row? w.heap.size 0 20 = some (beC 20 a) := by rw [e1, World.row?_alloc_lt _ (by simp)]; exact World.row?_alloc_at _ _ _ rfl (beC_len _ _)
 have f1 : w1.free? (w.heap.size + 1) 0 55 = true := by rw [e1]; exact free35 w _ _
 have h2 : RStC w1 own sb (.slice la ps.length lc) mv ps ms x0 := h1.only (S := fun _ => False) (Only.of_below_size hb1) (fun _ h => h.elim)
 obtain ⟨m, hm⟩ : ∃ m, m = ps.length := ⟨_, rfl⟩
 have H1 := Lib.hid h2
 have HE := Lib.hid e1
 have HB1 := Lib.hid hb1
 have HR1 := Lib.hid r1
 have HF1 := Lib.hid f1
 have HM := Lib.hid hm
 have HG := Lib.hid hgot
 have hla := beC_len 20 a
 rw [← hm] at hpl
 clear h1 h2 e1 hb1 r1 f1 hm hgot
 go_enter Tryz.func66, Tryz.ntmps66
 go_wp2_with fail
 rw [← HE.out]
 go_loopw [5] (fun ix wr => ∃ k : Nat, k ≤ m ∧ ix = .int .i64 (k : Int) ∧ Below w1.heap.size w1 wr ∧ Hid (∀ j (hj : j < ps.length), j < k → ps[j].1.ac.addr ≠ a)) (fun ix _ => m - (intOf ix).toNat)
 case atStart => exact ⟨0, by omega, rfl, Below.refl _ _, fun j _ hj => by omega⟩
 case round =>
  obtain ⟨k, hk, rfl, hbw, HNO⟩ := hrel
  have hw2 : RStC wr own sb (.slice la ps.length lc) mv ps ms x0 := H1.out.only (S := fun _ => False) (Only.of_below_size hbw) (fun _ h => h.elim)
  have c0 := World.row?_cell hw2.row (i := 0) (by omega)
  simp only [Nat.zero_add, List.getElem?_cons_zero] at c0
  rw [← HM.out] at c0
  have r2 : wr.row? w.heap.size 0 20 = some (beC 20 a) := ((brow hbw).1 _ _ _ (World.row?_lt HR1.out)).trans HR1.out
  have f2 : wr.free? (w.heap.size + 1) 0 55 = true := ((brow hbw).2 _ _ _ (free?_lt HF1.out)).trans HF1.out
  have HBW := Lib.hid hbw
  have HW2 := Lib.hid hw2
  clear hbw hw2
  by_cases hkm : k < m
  ·have hkp : k < ps.length := by have := HM.out; omega
   obtain ⟨g, c', hlv, hgo, hrow, hfr⟩ := HW2.out.arr.row hkp
   cases hlv
   have hxa := (HW2.out.arr.ok _ (List.getElem_mem hkp)).addr
   obtain ⟨x, hx⟩ : ∃ x, x = ps[k].1.ac.addr := ⟨_, rfl⟩
   have r3 : wr.drew.row? g (k * 55) 20 = some (beC 20 x) := by rw [hx]; exact row_cat hrow (i := 0) rfl (by simp [acS, offOf_zero]) (by simp)
   have r2' : wr.drew.row? w.heap.size 0 20 = some (beC 20 a) := r2
   have c0' : wr.drew.cell? ⟨sb, 0, none⟩ = some (.slice (some ⟨g, 0, none⟩) m lc) := c0
   have f2' : wr.drew.free? (w.heap.size + 1) 0 55 = true := f2
   have hlx := beC_len 20 x
   have heq := eqA (a := x) (b := a) (by rw [hx]; exact hxa) ha wr.drew
   have hkI : (k : Int) < m := by omega
   have dk : decide ((k : Int) < (m : Int)) = true := decide_eq_true hkI
   have dn : (k < m) = True := eq_true hkm
   have HXX : Hid (ps[k].1.ac.addr = x) := hx.symm
   obtain ⟨C, hC⟩ : ∃ C, C = racC (ps[k]'hkp) := ⟨_, rfl⟩
   have r4 : wr.drew.row? g (k * 55) 55 = some C := by rw [hC]; exact hrow
   have hpo : okL 55 C = true := by rw [hC]; exact racC_ok (HW2.out.arr.ok _ (List.getElem_mem hkp))
   have HC := Lib.hid hC
   have hcl := okL_len hpo
   clear hx hrow hfr r3 hxa hC
   have r3 : wr.drew.row? g (k * 55) 20 = some (beC 20 x) := by rw [← HXX.out]; exact row_cat ((show wr.drew.row? g (k * 55) 55 = some (racC ps[k]) from by rw [← HC.out]; exact r4)) (i := 0) rfl (by simp [acS, offOf_zero]) (by simp)
   by_cases hxa : x = a
   ·have deq : decide (x = a) = true := decide_eq_true hxa
    rw [deq] at heq
    have HP : Hid (getP ps a = ps[k]) := getP_at ps a k hkp HNO.out (HXX.out.trans hxa)
    clear hxa deq
    go_wp2_with fail
    refine wp_reads (by kernel_rfl) (by kernel_rfl) ?_
    repeat still_step
    refine wpStill_nil ?_
    go_wp2_with fail
    refine ret_row ty81 rfl _ rfl rfl f2' hpo ?_
    refine ⟨getP ps a, by rw [HP.out, HC.out], ?_, HG.out⟩
    exact (HB1.out.trans (HBW.out.drew.mono HB1.out.size)).setCells (Nat.le_succ _) _ _
   ·have deq : decide (x = a) = false := decide_eq_false hxa
    rw [deq] at heq
    have HN2 : Hid (∀ j (hj : j < ps.length), j < k + 1 → ps[j].1.ac.addr ≠ a) := by
     intro j hj hjk
     by_cases e : j = k
     ·subst e; rw [HXX.out]; exact hxa
     ·exact HNO.out j hj (by omega)
    have hk1 : IntKind.i64.wrap ((k : Int) + 1) = ((k + 1 : Nat) : Int) := by rw [wrI _ (by omega) (by omega)]; omega
    clear hxa deq
    go_wp2_with fail
    refine wp_reads (by kernel_rfl) (by kernel_rfl) ?_
    repeat still_step
    refine wpStill_nil ?_
    go_wp2_with fail
    go_roundw
    case rel => exact ⟨k + 1, by omega, by go_num, HBW.out.drew, HN2⟩
    case measure => simp [intOf]; omega
  ·have hkd : decide ((k : Int) < (m : Int)) = false := decide_eq_false (by omega)
   have hkn : (k < m) = False := eq_false hkm
   have HP : Hid (getP ps a = newP a) := getP_no ps a (fun j hj => HNO.out j hj (by have := HM.out; omega))
   have hbuild := build35n a
   have hok : okL 55 (racC (newP a)) = true := racC_ok (newOk (w := w) (own := own) ha)
   have hz : racC (newP a) = racC (RAc.new a, .slice none 0 0, .slice none 0 0) := rfl
   rw [← hz] at hbuild
   obtain ⟨C, hC⟩ : ∃ C, C = racC (newP a) := ⟨_, rfl⟩
   rw [← hC] at hbuild hok
   have HC := Lib.hid hC
   have hcl := okL_len hok
   clear hkm hz hC
   go_wp2
   refine ret_row ty81 rfl _ rfl rfl f2 hok ?_
   refine ⟨getP ps a, by rw [HP.out, HC.out], ?_, HG.out⟩
   exact (HB1.out.trans (HBW.out.mono HB1.out.size)).setCells (Nat.le_succ _) _ _
end Go.Proofs.YtfflppedbopdpaaGreat
namespace Go.Mun
open Go.RowKit

def Dig (l : List Int) : Prop := ∀ x ∈ l, 0 ≤ x ∧ x < 65536
def dval : List Int → Nat
 | [] => 0
 | x :: l => x.toNat + 65536 * dval l
def dg : Nat → Nat → List Int
 | 0, _ => []
 | k + 1, v => ((v % 65536 : Nat) : Int) :: dg k (v / 65536)
def dat (l : List Int) (i : Nat) : Int := l[i]?.getD 0
@[simp] theorem dg_len (k v : Nat) : (dg k v).length = k := by
 induction k generalizing v with
 | zero => rfl
 | succ k ih => simp [dg, ih]
theorem dg_dig (k v : Nat) : Dig (dg k v) := by
 induction k generalizing v with
 | zero => intro x hx; cases hx
 | succ k ih =>
  intro x hx
  rcases List.mem_cons.1 hx with rfl | hx
  ·omega
  ·exact ih _ x hx
theorem dg_at (k v i : Nat) (h : i < k) : (dg k v)[i]? = some ((v / 65536 ^ i % 65536 : Nat) : Int) := by
 induction k generalizing v i with
 | zero => omega
 | succ k ih =>
  cases i with
  | zero => simp [dg]
  | succ i =>
   simp only [dg, List.getElem?_cons_succ]
   rw [ih _ _ (by omega), Nat.div_div_eq_div_mul, Nat.pow_succ, Nat.mul_comm]
theorem dval_dg (k v : Nat) : dval (dg k v) = v % 65536 ^ k := by
 induction k generalizing v with
 | zero => simp [dg, dval, Nat.mod_one]
 | succ k ih =>
  simp only [dg, dval, ih, Int.toNat_natCast]
  rw [Nat.pow_succ, Nat.mul_comm (65536 ^ k), Nat.mod_mul]
theorem dig_cons {x : Int} {l : List Int} (h : Dig (x :: l)) : (0 ≤ x ∧ x < 65536) ∧ Dig l := ⟨h x (by simp), fun y hy => h y (by simp [hy])⟩
theorem dval_append : ∀ (l m : List Int), dval (l ++ m) = dval l + 65536 ^ l.length * dval m
 | [], m => by simp [dval]
 | x :: l, m => by
  simp only [List.cons_append, dval, dval_append l m, List.length_cons, Nat.pow_succ]
  rw [Nat.mul_add, Nat.mul_comm (65536 ^ l.length) 65536, Nat.mul_assoc]; omega
theorem dig_append {l m : List Int} (h : Dig l) (k : Dig m) : Dig (l ++ m) := fun x hx => by
 rcases List.mem_append.1 hx with hx | hx
 ·exact h x hx
 ·exact k x hx
theorem dat_dig {l : List Int} (h : Dig l) (i : Nat) : 0 ≤ dat l i ∧ dat l i < 65536 := by
 unfold dat
 cases e : l[i]? with
 | none => simp
 | some x => exact h x (List.mem_of_getElem? e)
theorem dat_ge {l : List Int} {i : Nat} (h : l.length ≤ i) : dat l i = 0 := by unfold dat; rw [List.getElem?_eq_none h]; rfl
theorem dat_zero (x : Int) (l : List Int) : dat (x :: l) 0 = x := rfl
theorem dat_succ (x : Int) (l : List Int) (i : Nat) : dat (x :: l) (i + 1) = dat l i := by simp [dat]
theorem dval_take : ∀ (l : List Int) (i : Nat), dval (l.take (i + 1)) = dval (l.take i) + 65536 ^ i * (dat l i).toNat
 | [], i => by simp [dval, dat]
 | x :: l, 0 => by simp [dval, dat]
 | x :: l, i + 1 => by
  rw [List.take_succ_cons, List.take_succ_cons, dat_succ]
  simp only [dval, dval_take l i]
  rw [Nat.mul_add, Nat.pow_succ, Nat.mul_comm (65536 ^ i) 65536, Nat.mul_assoc]; omega
theorem dval_ext : ∀ {a b : List Int}, (∀ i, dat a i = dat b i) → dval a = dval b
 | [], [], _ => rfl
 | [], y :: b, h => by
  have h0 := h 0
  have := dval_ext (a := []) (b := b) (fun i => by have := h (i + 1); rw [dat_succ] at this; rw [← this]; simp [dat])
  rw [dat_zero] at h0
  simp only [dval] at this ⊢
  rw [← this, ← h0]; simp [dat]
 | x :: a, [], h => by
  have h0 := h 0
  have := dval_ext (a := a) (b := []) (fun i => by have := h (i + 1); rw [dat_succ] at this; rw [this]; simp [dat])
  rw [dat_zero] at h0
  simp only [dval] at this ⊢
  rw [this, h0]; simp [dat]
 | x :: a, y :: b, h => by
  have h0 := h 0
  have := dval_ext (a := a) (b := b) (fun i => by have := h (i + 1); rw [dat_succ, dat_succ] at this; exact this)
  rw [dat_zero, dat_zero] at h0
  simp only [dval]
  rw [this, h0]
theorem dval_less : ∀ {a b : List Int} {j : Nat}, Dig a → Dig b → (∀ i, j < i → dat a i = dat b i) → dat a j < dat b j → dval a < dval b
 | [], [], j, _, _, _, h => by simp [dat] at h
 | x :: a, [], j, ha, _, _, h => by
  have := (dat_dig ha j).1
  rw [dat_ge (l := []) (by simp)] at h; omega
 | [], y :: b, 0, _, hb, _, h => by
  rw [dat_zero, dat_ge (by simp)] at h
  simp only [dval]; omega
 | [], y :: b, j + 1, _, hb, he, h => by
  rw [dat_succ, dat_ge (by simp)] at h
  have := dval_less (a := []) (b := b) (j := j) (fun x hx => by cases hx) (dig_cons hb).2 (fun i hi => by have := he (i + 1) (by omega); rw [dat_succ] at this; rw [← this]; simp [dat]) (by rw [dat_ge (by simp)]; exact h)
  simp only [dval] at this ⊢; omega
 | x :: a, y :: b, 0, ha, hb, he, h => by
  rw [dat_zero, dat_zero] at h
  have := dval_ext (a := a) (b := b) (fun i => by have := he (i + 1) (by omega); rw [dat_succ, dat_succ] at this; exact this)
  have h1 := (dig_cons ha).1
  simp only [dval, this]; omega
 | x :: a, y :: b, j + 1, ha, hb, he, h => by
  rw [dat_succ, dat_succ] at h
  have := dval_less (a := a) (b := b) (j := j) (dig_cons ha).2 (dig_cons hb).2 (fun i hi => by have := he (i + 1) (by omega); rw [dat_succ, dat_succ] at this; exact this) h
  have h1 := (dig_cons ha).1
  have h2 := (dig_cons hb).1
  simp only [dval]; omega
theorem add_round (A B P o c x y : Nat) (h : o + P * c = A + B) : (o + P * ((c + x + y) % 65536)) + (P * 65536) * ((c + x + y) / 65536) = (A + P * x) + (B + P * y) := by
 have e := Nat.mod_add_div (c + x + y) 65536
 have h1 : P * ((c + x + y) % 65536) + (P * 65536) * ((c + x + y) / 65536) = P * (c + x + y) := by
  rw [Nat.mul_assoc, ← Nat.mul_add, e]
 rw [Nat.add_assoc, h1, Nat.mul_add, Nat.mul_add]; omega
theorem sub_round (A B P o c x y z d : Nat) (h : o + B = A + P * c) (hz : z + y + c = x + 65536 * d) : (o + P * z) + (B + P * y) + P * 65536 * 0 = (A + P * x) + (P * 65536) * d + (P * c - P * c) := by
 have h1 : P * (z + y + c) = P * (x + 65536 * d) := by rw [hz]
 rw [Nat.mul_add, Nat.mul_add, Nat.mul_add, ← Nat.mul_assoc] at h1
 omega
theorem sub_round' (A B P o c x y z d : Nat) (h : o + B = A + P * c) (hz : z + y + c = x + 65536 * d) : (o + P * z) + (B + P * y) = (A + P * x) + (P * 65536) * d := by
 have := sub_round A B P o c x y z d h hz
 omega
theorem dig_bytes (v i : Nat) : v / 256 ^ (2 * i) % 256 + 256 * (v / 256 ^ (2 * i + 1) % 256) = v / 65536 ^ i % 65536 := by
 have e : (256 : Nat) ^ (2 * i) = 65536 ^ i := by rw [Nat.pow_mul]
 rw [Nat.pow_succ, ← Nat.div_div_eq_div_mul, e]
 omega
theorem i64_or_natR (a b : Nat) (ha : a < 9223372036854775808) (hb : b < 9223372036854775808) : bits .or .i64 (a : Int) (b : Int) = ((a ||| b : Nat) : Int) := by
 have h1 : ((BitVec.ofInt 64 (a : Int)) ||| (BitVec.ofInt 64 (b : Int))).toNat = a ||| b := by
  rw [BitVec.toNat_or, BitVec.toNat_ofInt, BitVec.toNat_ofInt]
  congr 1 <;> omega
 have h2 : a ||| b < 2 ^ 63 := Nat.or_lt_two_pow (by omega) (by omega)
 show IntKind.i64.wrap (((BitVec.ofInt 64 (a : Int)) ||| (BitVec.ofInt 64 (b : Int))).toNat : Int) = _
 rw [h1, wrI _ (by omega) (by omega)]
theorem i64_or_dig (x y : Nat) (hx : x < 256) (hy : y < 256) : bits .or .i64 (x : Int) ((y : Int) * 256) = ((x + 256 * y : Nat) : Int) := by
 have h1 : x ||| (y * 256) = x + 256 * y := by
  have := Nat.two_pow_add_eq_or_of_lt (i := 8) (b := x) hx y
  rw [show y * 256 = 2 ^ 8 * y by omega, Nat.or_comm, ← this]; omega
 have h2 := i64_or_natR x (y * 256) (by omega) (by omega)
 rw [Int.natCast_mul] at h2
 rw [show ((256 : Nat) : Int) = 256 from rfl] at h2
 rw [h2, h1]
end Go.Mun
namespace Go.Proofs.YtfflppedbopdpaaGreat
open Go.RowKit Go.Mun

structure DigAt (w : World) (ad : Option Addr) (c : Nat) (l : List Int) : Prop where
 ints : Ints w .i64 ad c l
 dig : Dig l
 len : l.length ≤ 100000
theorem DigAt.below {w w' : World} {ad : Option Addr} {c : Nat} {l : List Int} (h : DigAt w ad c l) (hb : Below w.heap.size w w') : DigAt w' ad c l := ⟨h.ints.below hb, h.dig, h.len⟩
theorem cmpN_ext {a b : List Int} (h : ∀ i, dat a i = dat b i) : cmpN (dval a) (dval b) = 0 := by rw [dval_ext h]; simp [cmpN]
theorem cmpN_ltR {n m : Nat} (h : n < m) : cmpN n m = -1 := by unfold cmpN; simp [h]
theorem cmpN_gt {n m : Nat} (h : m < n) : cmpN n m = 1 := by unfold cmpN; rw [if_neg (by omega)]; simp; omega
theorem ref_cmp0 {w : World} {aa ab : Option Addr} {ca cb : Nat} {a b : List Int} (ha : DigAt w aa ca a) (hb : DigAt w ab cb b) :
  Calls Tryz.prog 171 #[.slice aa a.length ca, .slice ab b.length cb] w fun e w' => e = .returned (.int .i64 (cmpN (dval a) (dval b))) ∧ Below w.heap.size w w' := by
 obtain ⟨na, hna⟩ : ∃ n, n = a.length := ⟨_, rfl⟩
 obtain ⟨nb, hnb⟩ : ∃ n, n = b.length := ⟨_, rfl⟩
 obtain ⟨N, hN⟩ : ∃ N, N = max na nb := ⟨_, rfl⟩
 have HA := Lib.hid ha
 have HB := Lib.hid hb
 have hla : na ≤ 100000 := by rw [hna]; exact ha.len
 have hlb : nb ≤ 100000 := by rw [hnb]; exact hb.len
 have HNA := Lib.hid hna
 have HNB := Lib.hid hnb
 have hN1 : na ≤ N := by omega
 have hN2 : nb ≤ N := by omega
 have hN3 : N ≤ 100000 := by omega
 rw [← hna, ← hnb]
 have HI : Hid (∀ i, N ≤ i → dat a i = dat b i) := fun i hi => by rw [dat_ge (by omega), dat_ge (by omega)]
 by_cases hnn : na < nb
 ·have eN : nb = N := by omega
  have hgt : (na : Int) < nb := by omega
  subst eN
  clear hna hnb hN1 hN2 hN ha hb hnn
  go_enter Tryz.func171, Tryz.ntmps171
  go_wp2
  go_loopw [6] (fun ix wr => ∃ k : Nat, k ≤ nb ∧ ix = .int .i64 ((k : Int) - 1) ∧ wr = w ∧ Hid (∀ i, k ≤ i → dat a i = dat b i)) (fun ix _ => (intOf ix + 1).toNat)
  case atStart => exact ⟨nb, Nat.le_refl _, by go_num, rfl, HI⟩
  case round =>
   obtain ⟨k, hk, rfl, rfl, HK⟩ := hrel
   by_cases hk0 : k = 0
   ·have hd : decide ((k : Int) - 1 ≥ 0) = false := decide_eq_false (by omega)
    have hd2 : decide ((0 : Int) ≤ (k : Int) - 1) = false := decide_eq_false (by omega)
    have HR : Hid (cmpN (dval a) (dval b) = 0) := cmpN_ext fun i => HK.out i (by omega)
    go_wp2
    go_ret
    exact ⟨by rw [HR.out]; rfl, Below.refl _ _⟩
   ·obtain ⟨j, rfl⟩ : ∃ j, k = j + 1 := ⟨k - 1, by omega⟩
    have ej : ((j + 1 : Nat) : Int) - 1 = (j : Int) := by omega
    rw [ej]
    obtain ⟨x, hx⟩ : ∃ x, x = dat a j := ⟨_, rfl⟩
    obtain ⟨y, hy⟩ : ∃ y, y = dat b j := ⟨_, rfl⟩
    have HX := Lib.hid hx
    have HY := Lib.hid hy
    have HC : Hid (if x < y then cmpN (dval a) (dval b) = -1 else if y < x then cmpN (dval a) (dval b) = 1 else ∀ i, j ≤ i → dat a i = dat b i) := by
     show ite _ _ _
     split
     ·rename_i h
      exact cmpN_ltR (dval_less (j := j) HA.out.dig HB.out.dig (fun i hi => HK.out i (by omega)) (by rw [← hx, ← hy]; exact h))
     ·rename_i h1
      split
      ·rename_i h
       exact cmpN_gt (dval_less (j := j) HB.out.dig HA.out.dig (fun i hi => (HK.out i (by omega)).symm) (by rw [← hx, ← hy]; exact h))
      ·rename_i h2
       intro i hi
       by_cases e : i = j
       ·subst e; rw [← hx, ← hy]; omega
       ·exact HK.out i (by omega)
    clear hk0 hx hy ej
    by_cases hja : j < na
    ·by_cases hjb : j < nb
     ·have hj0 : (0 : Int) ≤ j := by omega
      obtain ⟨ba, oa, rfl, hla2, hca⟩ := HA.out.ints.at (i := j) (by have := HNA.out; omega)
      have hcella := hca j (by have := HNA.out; omega)
      have halt : (j : Int) < na := by omega
      have ea : a[j]?.getD 0 = x := HX.out.symm
      rw [ea] at hcella
      clear hca ea hla2 hja
      obtain ⟨bb, ob, rfl, hlb2, hcb⟩ := HB.out.ints.at (i := j) (by have := HNB.out; omega)
      have hcellb := hcb j (by have := HNB.out; omega)
      have hblt : (j : Int) < nb := by omega
      have eb : b[j]?.getD 0 = y := HY.out.symm
      rw [eb] at hcellb
      clear hcb eb hlb2 hjb
      by_cases hlt : (x : Int) < y
      ·have hres := HC.out
       rw [if_pos hlt] at hres
       have HR := Lib.hid hres
       clear hres
       go_wp2
       go_ret
       exact ⟨by rw [HR.out]; rfl, Below.refl _ _⟩
      ·by_cases hgt : (y : Int) < x
       ·have hres := HC.out
        rw [if_neg hlt, if_pos hgt] at hres
        have HR := Lib.hid hres
        clear hres
        go_wp2
        go_ret
        exact ⟨by rw [HR.out]; rfl, Below.refl _ _⟩
       ·have hres := HC.out
        rw [if_neg hlt, if_neg hgt] at hres
        have HR := Lib.hid hres
        clear hres
        go_wp2
        go_roundw
        case rel => exact ⟨j, by omega, by go_num, by simp, HR.out⟩
        case measure => first | (simp [intOf]; done) | (simp [intOf]; omega)
     ·have hj0 : (0 : Int) ≤ j := by omega
      obtain ⟨ba, oa, rfl, hla2, hca⟩ := HA.out.ints.at (i := j) (by have := HNA.out; omega)
      have hcella := hca j (by have := HNA.out; omega)
      have halt : (j : Int) < na := by omega
      have ea : a[j]?.getD 0 = x := HX.out.symm
      rw [ea] at hcella
      clear hca ea hla2 hja
      have hblt : ¬ (j : Int) < nb := by omega
      obtain rfl : y = 0 := by rw [HY.out]; exact dat_ge (by have := HNB.out; omega)
      clear hjb
      by_cases hlt : (x : Int) < 0
      ·have hres := HC.out
       rw [if_pos hlt] at hres
       have HR := Lib.hid hres
       clear hres
       go_wp2
       go_ret
       exact ⟨by rw [HR.out]; rfl, Below.refl _ _⟩
      ·by_cases hgt : (0 : Int) < x
       ·have hres := HC.out
        rw [if_neg hlt, if_pos hgt] at hres
        have HR := Lib.hid hres
        clear hres
        go_wp2
        go_ret
        exact ⟨by rw [HR.out]; rfl, Below.refl _ _⟩
       ·have hres := HC.out
        rw [if_neg hlt, if_neg hgt] at hres
        have HR := Lib.hid hres
        clear hres
        go_wp2
        go_roundw
        case rel => exact ⟨j, by omega, by go_num, by simp, HR.out⟩
        case measure => first | (simp [intOf]; done) | (simp [intOf]; omega)
    ·by_cases hjb : j < nb
     ·have hj0 : (0 : Int) ≤ j := by omega
      have halt : ¬ (j : Int) < na := by omega
      obtain rfl : x = 0 := by rw [HX.out]; exact dat_ge (by have := HNA.out; omega)
      clear hja
      obtain ⟨bb, ob, rfl, hlb2, hcb⟩ := HB.out.ints.at (i := j) (by have := HNB.out; omega)
      have hcellb := hcb j (by have := HNB.out; omega)
      have hblt : (j : Int) < nb := by omega
      have eb : b[j]?.getD 0 = y := HY.out.symm
      rw [eb] at hcellb
      clear hcb eb hlb2 hjb
      by_cases hlt : (0 : Int) < y
      ·have hres := HC.out
       rw [if_pos hlt] at hres
       have HR := Lib.hid hres
       clear hres
       go_wp2
       go_ret
       exact ⟨by rw [HR.out]; rfl, Below.refl _ _⟩
      ·by_cases hgt : (y : Int) < 0
       ·have hres := HC.out
        rw [if_neg hlt, if_pos hgt] at hres
        have HR := Lib.hid hres
        clear hres
        go_wp2
        go_ret
        exact ⟨by rw [HR.out]; rfl, Below.refl _ _⟩
       ·have hres := HC.out
        rw [if_neg hlt, if_neg hgt] at hres
        have HR := Lib.hid hres
        clear hres
        go_wp2
        go_roundw
        case rel => exact ⟨j, by omega, by go_num, by simp, HR.out⟩
        case measure => first | (simp [intOf]; done) | (simp [intOf]; omega)
     ·exfalso; omega
 ·have eN : na = N := by omega
  have hgt : ¬ (na : Int) < nb := by omega
  subst eN
  clear hna hnb hN1 hN ha hb hnn
  go_enter Tryz.func171, Tryz.ntmps171
  go_wp2
  go_loopw [6] (fun ix wr => ∃ k : Nat, k ≤ na ∧ ix = .int .i64 ((k : Int) - 1) ∧ wr = w ∧ Hid (∀ i, k ≤ i → dat a i = dat b i)) (fun ix _ => (intOf ix + 1).toNat)
  case atStart => exact ⟨na, Nat.le_refl _, by go_num, rfl, HI⟩
  case round =>
   obtain ⟨k, hk, rfl, rfl, HK⟩ := hrel
   by_cases hk0 : k = 0
   ·have hd : decide ((k : Int) - 1 ≥ 0) = false := decide_eq_false (by omega)
    have hd2 : decide ((0 : Int) ≤ (k : Int) - 1) = false := decide_eq_false (by omega)
    have HR : Hid (cmpN (dval a) (dval b) = 0) := cmpN_ext fun i => HK.out i (by omega)
    go_wp2
    go_ret
    exact ⟨by rw [HR.out]; rfl, Below.refl _ _⟩
   ·obtain ⟨j, rfl⟩ : ∃ j, k = j + 1 := ⟨k - 1, by omega⟩
    have ej : ((j + 1 : Nat) : Int) - 1 = (j : Int) := by omega
    rw [ej]
    obtain ⟨x, hx⟩ : ∃ x, x = dat a j := ⟨_, rfl⟩
    obtain ⟨y, hy⟩ : ∃ y, y = dat b j := ⟨_, rfl⟩
    have HX := Lib.hid hx
    have HY := Lib.hid hy
    have HC : Hid (if x < y then cmpN (dval a) (dval b) = -1 else if y < x then cmpN (dval a) (dval b) = 1 else ∀ i, j ≤ i → dat a i = dat b i) := by
     show ite _ _ _
     split
     ·rename_i h
      exact cmpN_ltR (dval_less (j := j) HA.out.dig HB.out.dig (fun i hi => HK.out i (by omega)) (by rw [← hx, ← hy]; exact h))
     ·rename_i h1
      split
      ·rename_i h
       exact cmpN_gt (dval_less (j := j) HB.out.dig HA.out.dig (fun i hi => (HK.out i (by omega)).symm) (by rw [← hx, ← hy]; exact h))
      ·rename_i h2
       intro i hi
       by_cases e : i = j
       ·subst e; rw [← hx, ← hy]; omega
       ·exact HK.out i (by omega)
    clear hk0 hx hy ej
    by_cases hja : j < na
    ·by_cases hjb : j < nb
     ·have hj0 : (0 : Int) ≤ j := by omega
      obtain ⟨ba, oa, rfl, hla2, hca⟩ := HA.out.ints.at (i := j) (by have := HNA.out; omega)
      have hcella := hca j (by have := HNA.out; omega)
      have halt : (j : Int) < na := by omega
      have ea : a[j]?.getD 0 = x := HX.out.symm
      rw [ea] at hcella
      clear hca ea hla2 hja
      obtain ⟨bb, ob, rfl, hlb2, hcb⟩ := HB.out.ints.at (i := j) (by have := HNB.out; omega)
      have hcellb := hcb j (by have := HNB.out; omega)
      have hblt : (j : Int) < nb := by omega
      have eb : b[j]?.getD 0 = y := HY.out.symm
      rw [eb] at hcellb
      clear hcb eb hlb2 hjb
      by_cases hlt : (x : Int) < y
      ·have hres := HC.out
       rw [if_pos hlt] at hres
       have HR := Lib.hid hres
       clear hres
       go_wp2
       go_ret
       exact ⟨by rw [HR.out]; rfl, Below.refl _ _⟩
      ·by_cases hgt : (y : Int) < x
       ·have hres := HC.out
        rw [if_neg hlt, if_pos hgt] at hres
        have HR := Lib.hid hres
        clear hres
        go_wp2
        go_ret
        exact ⟨by rw [HR.out]; rfl, Below.refl _ _⟩
       ·have hres := HC.out
        rw [if_neg hlt, if_neg hgt] at hres
        have HR := Lib.hid hres
        clear hres
        go_wp2
        go_roundw
        case rel => exact ⟨j, by omega, by go_num, by simp, HR.out⟩
        case measure => first | (simp [intOf]; done) | (simp [intOf]; omega)
     ·have hj0 : (0 : Int) ≤ j := by omega
      obtain ⟨ba, oa, rfl, hla2, hca⟩ := HA.out.ints.at (i := j) (by have := HNA.out; omega)
      have hcella := hca j (by have := HNA.out; omega)
      have halt : (j : Int) < na := by omega
      have ea : a[j]?.getD 0 = x := HX.out.symm
      rw [ea] at hcella
      clear hca ea hla2 hja
      have hblt : ¬ (j : Int) < nb := by omega
      obtain rfl : y = 0 := by rw [HY.out]; exact dat_ge (by have := HNB.out; omega)
      clear hjb
      by_cases hlt : (x : Int) < 0
      ·have hres := HC.out
       rw [if_pos hlt] at hres
       have HR := Lib.hid hres
       clear hres
       go_wp2
       go_ret
       exact ⟨by rw [HR.out]; rfl, Below.refl _ _⟩
      ·by_cases hgt : (0 : Int) < x
       ·have hres := HC.out
        rw [if_neg hlt, if_pos hgt] at hres
        have HR := Lib.hid hres
        clear hres
        go_wp2
        go_ret
        exact ⟨by rw [HR.out]; rfl, Below.refl _ _⟩
       ·have hres := HC.out
        rw [if_neg hlt, if_neg hgt] at hres
        have HR := Lib.hid hres
        clear hres
        go_wp2
        go_roundw
        case rel => exact ⟨j, by omega, by go_num, by simp, HR.out⟩
        case measure => first | (simp [intOf]; done) | (simp [intOf]; omega)
    ·by_cases hjb : j < nb
     ·have hj0 : (0 : Int) ≤ j := by omega
      have halt : ¬ (j : Int) < na := by omega
      obtain rfl : x = 0 := by rw [HX.out]; exact dat_ge (by have := HNA.out; omega)
      clear hja
      obtain ⟨bb, ob, rfl, hlb2, hcb⟩ := HB.out.ints.at (i := j) (by have := HNB.out; omega)
      have hcellb := hcb j (by have := HNB.out; omega)
      have hblt : (j : Int) < nb := by omega
      have eb : b[j]?.getD 0 = y := HY.out.symm
      rw [eb] at hcellb
      clear hcb eb hlb2 hjb
      by_cases hlt : (0 : Int) < y
      ·have hres := HC.out
       rw [if_pos hlt] at hres
       have HR := Lib.hid hres
       clear hres
       go_wp2
       go_ret
       exact ⟨by rw [HR.out]; rfl, Below.refl _ _⟩
      ·by_cases hgt : (y : Int) < 0
       ·have hres := HC.out
        rw [if_neg hlt, if_pos hgt] at hres
        have HR := Lib.hid hres
        clear hres
        go_wp2
        go_ret
        exact ⟨by rw [HR.out]; rfl, Below.refl _ _⟩
       ·have hres := HC.out
        rw [if_neg hlt, if_neg hgt] at hres
        have HR := Lib.hid hres
        clear hres
        go_wp2
        go_roundw
        case rel => exact ⟨j, by omega, by go_num, by simp, HR.out⟩
        case measure => first | (simp [intOf]; done) | (simp [intOf]; omega)
     ·exfalso; omega
end Go.Proofs.YtfflppedbopdpaaGreat
