/-
  Arrays and structs in memory as lists of cells whose content stays closed: laws over any program that the walks of this seat share.
-/
import Derived.Test.YtaoacfkifcglfaaDoorLib
import Derived.Deep.MidRow
import Derived.Laws.CopyOwn
namespace Go
open Go.RowKit

/-- The cells of a range. -/
def World.row? (w : World) (b o n : Nat) : Option (List Value) :=
  match w.heap[b]? with
  | some (.cells c _ _) => if o + n ≤ c.size then some ((c.toList.drop o).take n) else none
  | _ => none

/-- The range is there and may be written. -/
def World.free? (w : World) (b o n : Nat) : Bool :=
  match w.heap[b]? with
  | some (.cells c _ fz) => decide (o + n ≤ c.size) && decide (fz.2 ≤ fz.1)
  | _ => false

theorem getElem?_splice {α : Type} (L : List α) (off : Nat) (cs : List α) (h : off + cs.length ≤ L.length) (i : Nat) :
    (splice L off cs)[i]? = if i < off then L[i]? else if i < off + cs.length then cs[i - off]? else L[i]? := by
  unfold splice
  by_cases h1 : i < off
  · rw [if_pos h1, List.getElem?_append_left (by simp; omega), List.getElem?_take, if_pos h1]
  · rw [if_neg h1, List.getElem?_append_right (by simp; omega)]
    have e : (List.take off L).length = off := by simp; omega
    rw [e]
    by_cases h2 : i < off + cs.length
    · rw [if_pos h2, List.getElem?_append_left (by omega)]
    · rw [if_neg h2, List.getElem?_append_right (by omega), List.getElem?_drop]
      congr 1; omega

/-- Cells laid over others: as 'splice', but of the one length whatever the numbers are. -/
def lay (L : List Value) (off : Nat) (cs : List Value) : List Value := L.mapIdx fun i x => if off ≤ i ∧ i < off + cs.length then (cs[i - off]?).getD x else x
theorem lay_len (L : List Value) (off : Nat) (cs : List Value) : (lay L off cs).length = L.length := by simp [lay]
theorem lay_eq (L : List Value) (off : Nat) (cs : List Value) (h : off + cs.length ≤ L.length) : lay L off cs = splice L off cs := by
  apply List.ext_getElem?
  intro i
  rw [getElem?_splice L off cs h]
  simp only [lay, List.getElem?_mapIdx]
  by_cases hi : i < L.length
  · rw [List.getElem?_eq_getElem hi]
    by_cases h1 : i < off
    · rw [if_pos h1]; simp; intro h2; omega
    · rw [if_neg h1]
      by_cases h2 : i < off + cs.length
      · rw [if_pos h2, List.getElem?_eq_getElem (by omega : i - off < cs.length)]
        simp; intro h3; have := h3 (by omega); omega
      · rw [if_neg h2]; simp; intro h3 h4; omega
  · rw [List.getElem?_eq_none (by omega : L.length ≤ i), if_neg (by omega), if_neg (by omega)]; rfl
theorem lay_all (L cs : List Value) (h : cs.length = L.length) : lay L 0 cs = cs := by
  rw [lay_eq L 0 cs (by omega)]; simp [splice, h]

section
variable {w : World} {b o n : Nat}

theorem World.row?_inv {L : List Value} (h : w.row? b o n = some L) :
    ∃ c e f, w.heap[b]? = some (.cells c e f) ∧ o + n ≤ c.size ∧ L = (c.toList.drop o).take n := by
  unfold World.row? at h
  split at h
  · rename_i c e f hb
    split at h
    · rename_i hs
      exact ⟨c, e, f, hb, hs, by simpa using h.symm⟩
    · simp at h
  · simp at h

theorem World.row?_len {L : List Value} (h : w.row? b o n = some L) : L.length = n := by
  obtain ⟨c, e, f, hb, hs, rfl⟩ := World.row?_inv h
  simp; omega

theorem World.row?_lt {L : List Value} (h : w.row? b o n = some L) : b < w.heap.size := by
  obtain ⟨c, e, f, hb, hs, rfl⟩ := World.row?_inv h
  exact (Array.getElem?_eq_some_iff.1 hb).1

theorem World.row?_rangeAt {L : List Value} (h : w.row? b o n = some L) : w.rangeAt b o L := by
  obtain ⟨c, e, f, hb, hs, rfl⟩ := World.row?_inv h
  intro j v hv
  rw [cell_of_row w b (o + j) c e f hb]
  rw [List.getElem?_take] at hv
  split at hv
  · simpa using hv
  · simp at hv

theorem World.row?_cell {L : List Value} (h : w.row? b o n = some L) {i : Nat} (hi : i < n) : w.cell? ⟨b, o + i, none⟩ = L[i]? := by
  have hl := World.row?_len h
  have : L[i]? = some L[i] := List.getElem?_eq_getElem (by omega)
  rw [this]
  exact World.row?_rangeAt h i _ this

theorem World.row?_sub {L : List Value} (h : w.row? b o n = some L) {o' n' : Nat} (ho : o ≤ o') (hn : o' + n' ≤ o + n) : w.row? b o' n' = some ((L.drop (o' - o)).take n') := by
  obtain ⟨c, e, f, hb, hs, rfl⟩ := World.row?_inv h
  unfold World.row?
  rw [hb]
  simp only
  rw [if_pos (by omega), List.drop_take, List.take_take, List.drop_drop]
  congr 2
  · omega
  · congr 1; omega

theorem World.free?_there (h : w.free? b o n = true) : w.there b o n := by
  unfold World.free? at h
  split at h
  · rename_i c e fz hb
    simp at h
    intro j hj
    refine ⟨by rw [cell_of_row w b (o + j) c e fz hb]; simp; omega, ?_⟩
    unfold World.frozen?
    simp only [hb]
    simp; omega
  · simp at h

theorem World.free?_sub (h : w.free? b o n = true) {o' n' : Nat} (hn : o' + n' ≤ o + n) : w.free? b o' n' = true := by
  unfold World.free? at h ⊢
  split at h
  · rename_i c e fz hb
    simp at h
    simp [h]; omega
  · simp at h

@[simp] theorem World.row?_drew : w.drew.row? b o n = w.row? b o n := rfl
@[simp] theorem World.row?_drewN (k : Nat) : (w.drewN k).row? b o n = w.row? b o n := rfl
@[simp] theorem World.free?_drew : w.drew.free? b o n = w.free? b o n := rfl
@[simp] theorem World.free?_drewN (k : Nat) : (w.drewN k).free? b o n = w.free? b o n := rfl

theorem World.row?_of_block {w' : World} (h : w'.heap[b]? = w.heap[b]?) : w'.row? b o n = w.row? b o n := by unfold World.row?; rw [h]
theorem World.free?_of_block {w' : World} (h : w'.heap[b]? = w.heap[b]?) : w'.free? b o n = w.free? b o n := by unfold World.free?; rw [h]

theorem World.row?_alloc_lt (ob : Obj) (h : b < w.heap.size) : (w.alloc ob).row? b o n = w.row? b o n := World.row?_of_block (by exact Below.heap_alloc w ob b h)
theorem World.free?_alloc_lt (ob : Obj) (h : b < w.heap.size) : (w.alloc ob).free? b o n = w.free? b o n := World.free?_of_block (by exact Below.heap_alloc w ob b h)

theorem World.row?_alloc_at (L : List Value) (t : TypeId) (f : Nat × Nat) (h : b = w.heap.size) (hn : L.length = n) : (w.alloc (.cells L.toArray t f)).row? b 0 n = some L := by
  subst h; subst hn
  unfold World.row?
  rw [heap_alloc_new]
  simp
theorem World.row?_alloc_sub (L : List Value) (t : TypeId) (f : Nat × Nat) (h : b = w.heap.size) (hn : o + n ≤ L.length) : (w.alloc (.cells L.toArray t f)).row? b o n = some ((L.drop o).take n) := by
  subst h
  unfold World.row?
  rw [heap_alloc_new]
  simp [hn]
theorem World.free?_alloc_at (L : List Value) (t : TypeId) (h : b = w.heap.size) (hn : o + n ≤ L.length) : (w.alloc (.cells L.toArray t)).free? b o n = true := by
  subst h
  unfold World.free?
  rw [heap_alloc_new]
  simp [hn]

theorem heap_setCells_other (k : Nat) (h : k ≠ b) : ∀ (vs : List Value) (o : Nat) (w : World), (w.setCells b o vs).heap[k]? = w.heap[k]?
  | [], o, w => rfl
  | v :: vs, o, w => by
    rw [World.setCells, heap_setCells_other k h vs, heap_setCell_other _ _ _ _ h]

theorem setCell_heap (c : Array Value) (e : TypeId) (f : Nat × Nat) (v : Value) (hb : w.heap[b]? = some (.cells c e f)) : (w.setCell ⟨b, o, none⟩ v).heap[b]? = some (.cells (c.setIfInBounds o v) e f) := by
  simp [World.setCell, Array.getElem?_modify, hb]

theorem heap_setCells_same (e : TypeId) (f : Nat × Nat) : ∀ (vs : List Value) (o : Nat) (c : List Value) (w : World), w.heap[b]? = some (.cells c.toArray e f) → o + vs.length ≤ c.length →
    (w.setCells b o vs).heap[b]? = some (.cells (splice c o vs).toArray e f)
  | [], o, c, w, h, _ => by simp [World.setCells, splice, h]
  | v :: vs, o, c, w, h, hl => by
    simp at hl
    rw [World.setCells]
    have h1 := setCell_heap (o := o) _ _ _ v h
    have h2 : (c.toArray.setIfInBounds o v) = (c.set o v).toArray := by simp
    rw [h2] at h1
    rw [heap_setCells_same e f vs (o + 1) (c.set o v) _ h1 (by simp; omega)]
    congr 2
    congr 1
    unfold splice
    rw [List.take_set, List.drop_set_of_lt (by omega), List.take_add_one]
    have : o < c.length := by omega
    simp only [List.getElem?_eq_getElem this, Option.toList_some, List.length_cons]
    rw [List.set_append_right _ _ (by simp; omega)]
    have h0 : o - (List.take o c).length = 0 := by simp; omega
    rw [h0]
    simp [show o + 1 + vs.length = o + (vs.length + 1) by omega]

@[simp] theorem World.size_setCells (b : Nat) : ∀ (vs : List Value) (o : Nat) (w : World), (w.setCells b o vs).heap.size = w.heap.size
  | [], o, w => rfl
  | v :: vs, o, w => by rw [World.setCells, World.size_setCells b vs]; simp

theorem World.free?_inv (h : w.free? b o n = true) : ∃ c e f, w.heap[b]? = some (.cells c e f) ∧ o + n ≤ c.size ∧ f.2 ≤ f.1 := by
  unfold World.free? at h
  split at h
  · rename_i c e f hb
    simp at h
    exact ⟨c, e, f, hb, h.1, h.2⟩
  · simp at h

theorem World.free?_setCells (b' o' : Nat) (vs : List Value) (hl : w.free? b' o' vs.length = true) : (w.setCells b' o' vs).free? b o n = w.free? b o n := by
  by_cases hb : b = b'
  · subst hb
    obtain ⟨c, e, f, hb, h1, h2⟩ := World.free?_inv hl
    have := heap_setCells_same (b := b) e f vs o' c.toList w (by simpa using hb) (by simpa using h1)
    unfold World.free?
    rw [this, hb]
    simp [length_splice c.toList o' vs (by simpa using h1)]
  · exact World.free?_of_block (heap_setCells_other b hb vs o' w)

theorem World.row?_setCells_other (b' o' : Nat) (vs : List Value) (h : b ≠ b') : (w.setCells b' o' vs).row? b o n = w.row? b o n := World.row?_of_block (heap_setCells_other b h vs o' w)

/-- What was stored lies within a range that is known. -/
theorem World.row?_setCells_in {L : List Value} (o' : Nat) (vs : List Value) (hr : w.row? b o n = some L) (h1 : o ≤ o') (h2 : o' + vs.length ≤ o + n) :
    (w.setCells b o' vs).row? b o n = some (splice L (o' - o) vs) := by
  obtain ⟨c, e, f, hb, hs, rfl⟩ := World.row?_inv hr
  have := heap_setCells_same (b := b) e f vs o' c.toList w (by simpa using hb) (by simp; omega)
  unfold World.row?
  rw [this]
  simp only [List.size_toArray]
  rw [if_pos (by rw [length_splice _ _ _ (by simp; omega)]; simpa using hs)]
  congr 1
  apply List.ext_getElem?
  intro i
  rw [getElem?_splice _ _ _ (by simp; omega)]
  simp only [List.getElem?_take, List.getElem?_drop]
  rw [getElem?_splice _ _ _ (by simp; omega)]
  by_cases hi : i < n
  · rw [if_pos hi]
    by_cases hio : o + i < o'
    · rw [if_pos hio, if_pos (by omega), if_pos hi]
    · rw [if_neg hio, if_neg (show ¬ i < o' - o by omega)]
      by_cases hiv : o + i < o' + vs.length
      · rw [if_pos hiv, if_pos (by omega)]; congr 1; omega
      · rw [if_neg hiv, if_neg (by omega), if_pos hi]
  · rw [if_neg hi, if_neg (show ¬ i < o' - o by omega), if_neg (show ¬ i < o' - o + vs.length by omega), if_neg hi]

theorem heap_setCells_shape (e : TypeId) (f : Nat × Nat) : ∀ (vs : List Value) (o : Nat) (c : Array Value) (w : World), w.heap[b]? = some (.cells c e f) →
    ∃ c', (w.setCells b o vs).heap[b]? = some (.cells c' e f) ∧ c'.size = c.size
  | [], o, c, w, h => ⟨c, h, rfl⟩
  | v :: vs, o, c, w, h => by
    rw [World.setCells]
    obtain ⟨c', h1, h2⟩ := heap_setCells_shape e f vs (o + 1) _ _ (setCell_heap (o := o) _ _ _ v h)
    exact ⟨c', h1, by simpa using h2⟩

theorem heap_setCells_none (r : Option Obj) (hr : ∀ c e f, r ≠ some (.cells c e f)) : ∀ (vs : List Value) (o : Nat) (w : World), w.heap[b]? = r → (w.setCells b o vs).heap[b]? = r
  | [], o, w, h => h
  | v :: vs, o, w, h => by
    rw [World.setCells]
    refine heap_setCells_none r hr vs (o + 1) _ ?_
    subst h
    simp only [World.setCell, Array.getElem?_modify, if_true]
    cases hx : w.heap[b]? with
    | none => rfl
    | some x =>
      cases x with
      | cells c e f => exact absurd hx (hr c e f)
      | _ => rfl

theorem World.shape_setCells (b' o' : Nat) (vs : List Value) :
    (∃ c c' e f, w.heap[b]? = some (.cells c e f) ∧ (w.setCells b' o' vs).heap[b]? = some (.cells c' e f) ∧ c'.size = c.size) ∨
    ((∀ c e f, w.heap[b]? ≠ some (.cells c e f)) ∧ (w.setCells b' o' vs).heap[b]? = w.heap[b]?) := by
  by_cases hb : b = b'
  · subst hb
    cases hx : w.heap[b]? with
    | none => exact .inr ⟨by simp, heap_setCells_none none (by simp) vs o' w hx⟩
    | some x =>
      cases x with
      | cells c e f =>
        obtain ⟨c', h1, h2⟩ := heap_setCells_shape e f vs o' c w hx
        exact .inl ⟨c, c', e, f, rfl, h1, h2⟩
      | _ => exact .inr ⟨by simp, heap_setCells_none _ (by simp) vs o' w hx⟩
  · cases hx : w.heap[b]? with
    | none => exact .inr ⟨by simp, by rw [heap_setCells_other b hb vs o' w, hx]⟩
    | some x =>
      cases x with
      | cells c e f => exact .inl ⟨c, c, e, f, rfl, by rw [heap_setCells_other b hb vs o' w, hx], rfl⟩
      | _ => exact .inr ⟨by simp, by rw [heap_setCells_other b hb vs o' w, hx]⟩

/-- A store moves no bounds. -/
theorem World.free?_setCells' (b' o' : Nat) (vs : List Value) : (w.setCells b' o' vs).free? b o n = w.free? b o n := by
  rcases World.shape_setCells (w := w) (b := b) b' o' vs with ⟨c, c', e, f, h1, h2, h3⟩ | ⟨_, h2⟩
  · unfold World.free?; rw [h1, h2]; simp [h3]
  · exact World.free?_of_block h2

theorem World.row?_setCells_map (o' : Nat) (vs : List Value) (h1 : o ≤ o') (h2 : o' + vs.length ≤ o + n) :
    (w.setCells b o' vs).row? b o n = (w.row? b o n).map fun L => splice L (o' - o) vs := by
  cases hr : w.row? b o n with
  | some L => exact World.row?_setCells_in o' vs hr h1 h2
  | none =>
    rcases World.shape_setCells (w := w) (b := b) b o' vs with ⟨c, c', e, f, h3, h4, h5⟩ | ⟨_, h4⟩
    · unfold World.row? at hr ⊢
      rw [h3] at hr
      rw [h4]
      simp only [h5]
      simp only at hr
      split at hr
      · simp at hr
      · rename_i hx; rw [if_neg hx]; rfl
    · rw [World.row?_of_block h4, hr]; rfl

theorem World.row?_setCells_lay (o' : Nat) (vs : List Value) (h1 : o ≤ o') (h2 : o' + vs.length ≤ o + n) :
    (w.setCells b o' vs).row? b o n = (w.row? b o n).map fun L => lay L (o' - o) vs := by
  rw [World.row?_setCells_map o' vs h1 h2]
  cases hr : w.row? b o n with
  | none => rfl
  | some L =>
    have := World.row?_len hr
    simp only [Option.map_some]
    rw [lay_eq _ _ _ (by omega)]

theorem World.row?_setCells_apart (o' : Nat) (vs : List Value) (h : o + n ≤ o' ∨ o' + vs.length ≤ o) : (w.setCells b o' vs).row? b o n = w.row? b o n := by
  induction vs generalizing o' w with
  | nil => rfl
  | cons v vs ih =>
    simp at h
    rw [World.setCells, ih _ (by omega)]
    unfold World.row?
    cases hx : w.heap[b]? with
    | none => simp [World.setCell, Array.getElem?_modify, hx]
    | some x =>
      cases x with
      | cells c e f =>
        rw [setCell_heap (o := o') c e f v hx]
        simp only [Array.size_setIfInBounds]
        split
        · congr 1
          apply List.ext_getElem?
          intro i
          simp only [List.getElem?_take, List.getElem?_drop]
          split
          · rw [Array.toList_setIfInBounds, List.getElem?_set, if_neg (by omega)]
          · rfl
        · rfl
      | _ => simp [World.setCell, Array.getElem?_modify, hx]

theorem World.cell?_setCells_apart (o' i : Nat) (vs : List Value) (h : i < o' ∨ o' + vs.length ≤ i) : (w.setCells b o' vs).cell? ⟨b, i, none⟩ = w.cell? ⟨b, i, none⟩ := by
  induction vs generalizing o' w with
  | nil => rfl
  | cons v vs ih =>
    simp at h
    rw [World.setCells, ih _ (by omega)]
    exact World.cell?_setCell_other w _ _ _ (by intro e; cases e; omega)
theorem World.cell?_setCells_block (b' o' : Nat) (a : Addr) (vs : List Value) (h : a.block ≠ b') : (w.setCells b' o' vs).cell? a = w.cell? a :=
  World.cell?_of_block (heap_setCells_other a.block h vs o' w)
theorem World.frozen?_setCells' (b' o' : Nat) (a : Addr) (vs : List Value) : (w.setCells b' o' vs).frozen? a = w.frozen? a := by
  induction vs generalizing o' w with
  | nil => rfl
  | cons v vs ih => rw [World.setCells, ih]; simp
end

end Go
