/-
  Structs as segments: a row of cells that is one part behind the other, a part for each field.
  Structs as segments: a struct built of some of its fields.
-/
import Derived.Test.YtfflppedbopdpaaGreatXRow
import Derived.Test.YtfflppedbopdpaaGreatXFrm
set_option linter.unusedVariables false
set_option linter.unusedSimpArgs false
namespace Go.Mun
open Go.RowKit

def cat (l : List (List Value)) : List Value := l.flatten
def offOf (l : List (List Value)) (i : Nat) : Nat := (cat (l.take i)).length
def plFrom : Nat → List (List Value) → List (Nat × Nat)
 | _, [] => []
 | o, s :: r => (o, s.length) :: plFrom (o + s.length) r
def plOf (l : List (List Value)) : List (Nat × Nat) := plFrom 0 l

theorem cat_cons (s : List Value) (l : List (List Value)) : cat (s :: l) = s ++ cat l := rfl
theorem cat_append (l m : List (List Value)) : cat (l ++ m) = cat l ++ cat m := by simp [cat]
theorem cat_len_nil : (cat []).length = 0 := rfl
theorem cat_len_cons (s : List Value) (l : List (List Value)) : (cat (s :: l)).length = s.length + (cat l).length := by rw [cat_cons, List.length_append]
theorem offOf_zero (l : List (List Value)) : offOf l 0 = 0 := rfl
theorem offOf_succ (s : List Value) (l : List (List Value)) (i : Nat) : offOf (s :: l) (i + 1) = s.length + offOf l i := by
 unfold offOf; rw [List.take_succ_cons, cat_len_cons]
theorem cat_split {l : List (List Value)} {i : Nat} {s : List Value} (h : l[i]? = some s) : cat l = cat (l.take i) ++ (s ++ cat (l.drop (i + 1))) := by
 obtain ⟨hi, rfl⟩ := List.getElem?_eq_some_iff.1 h
 conv => lhs; rw [← List.take_append_drop i l, cat_append, List.drop_eq_getElem_cons hi, cat_cons]
theorem cat_set {l : List (List Value)} {i : Nat} {s : List Value} (h : l[i]? = some s) (v : List Value) : cat (l.set i v) = cat (l.take i) ++ (v ++ cat (l.drop (i + 1))) := by
 obtain ⟨hi, _⟩ := List.getElem?_eq_some_iff.1 h
 have h2 : (l.set i v)[i]? = some v := by simp [hi]
 rw [cat_split h2, List.take_set_of_le (Nat.le_refl i), List.drop_set_of_lt (Nat.lt_succ_self i)]
theorem plFrom_get : ∀ (l : List (List Value)) (o i : Nat) (s : List Value), l[i]? = some s → (plFrom o l)[i]? = some (o + offOf l i, s.length)
 | [], _, _, _, h => by simp at h
 | s :: l, o, 0, t, h => by
  simp only [List.getElem?_cons_zero, Option.some.injEq] at h
  subst h
  simp [plFrom, offOf_zero]
 | s :: l, o, i + 1, t, h => by
  rw [plFrom, List.getElem?_cons_succ, plFrom_get l (o + s.length) i t (by simpa using h), offOf_succ, Nat.add_assoc]
theorem plOf_get {l : List (List Value)} {i : Nat} {s : List Value} (h : l[i]? = some s) : (plOf l)[i]? = some (offOf l i, s.length) := by
 unfold plOf; rw [plFrom_get l 0 i s h, Nat.zero_add]
theorem plFrom_set : ∀ (l : List (List Value)) (o i : Nat) (s v : List Value), l[i]? = some s → v.length = s.length → plFrom o (l.set i v) = plFrom o l
 | [], _, _, _, _, h, _ => by simp at h
 | s :: l, o, 0, t, v, h, hv => by
  simp only [List.getElem?_cons_zero, Option.some.injEq] at h
  subst h
  simp [plFrom, hv]
 | s :: l, o, i + 1, t, v, h, hv => by
  rw [List.set_cons_succ, plFrom, plFrom, plFrom_set l _ i t v (by simpa using h) hv]
theorem off_le {l : List (List Value)} {i : Nat} {s : List Value} (h : l[i]? = some s) : offOf l i + s.length ≤ (cat l).length := by
 rw [cat_split h]; simp [offOf]
theorem lay_cat {l : List (List Value)} {i : Nat} {s v : List Value} (h : l[i]? = some s) (hv : v.length = s.length) : lay (cat l) (offOf l i) v = cat (l.set i v) := by
 have hle := off_le h
 rw [lay_eq _ _ _ (by omega), cat_set h]
 apply List.ext_getElem?
 intro j
 rw [getElem?_splice _ _ _ (by omega)]
 unfold offOf at *
 by_cases h1 : j < (cat (l.take i)).length
 ·rw [if_pos h1, cat_split h, List.getElem?_append_left h1, List.getElem?_append_left h1]
 ·rw [if_neg h1]
  by_cases h2 : j < (cat (l.take i)).length + v.length
  ·rw [if_pos h2, List.getElem?_append_right (by omega), List.getElem?_append_left (by omega)]
  ·rw [if_neg h2, cat_split h, List.getElem?_append_right (by omega), List.getElem?_append_right (by omega), List.getElem?_append_right (by omega), List.getElem?_append_right (by omega)]
   congr 1; omega
theorem fillL_cat {l : List (List Value)} {N i : Nat} {v : Value} {rest : List (Nat × Value)} {s : List Value} (hN : (cat l).length = N) (hs : l[i]? = some s) (hv : v.cells.toList.length = s.length) :
  fillL N (plOf l) (cat l) ((i, v) :: rest) = fillL N (plOf (l.set i v.cells.toList)) (cat (l.set i v.cells.toList)) rest := by
 have hp : plOf (l.set i v.cells.toList) = plOf l := plFrom_set l 0 i s _ hs hv
 have hle := off_le hs
 rw [hp, fillL, plOf_get hs]
 simp only
 rw [if_pos ⟨by simpa using hv, by omega⟩, lay_cat hs hv]

section
variable {w : World} {b o N i : Nat} {l : List (List Value)} {s : List Value}
theorem row_cat (h : w.row? b o N = some (cat l)) (hs : l[i]? = some s) {p n : Nat} (hp : p = o + offOf l i) (hn : n = s.length) : w.row? b p n = some s := by
 have hle := off_le hs
 have hl := World.row?_len h
 subst hp hn
 rw [World.row?_sub h (by omega) (by omega), Nat.add_sub_cancel_left]
 congr 1
 rw [cat_split hs]
 unfold offOf
 rw [List.drop_left, List.take_left]
theorem cell_cat {v : Value} (h : w.row? b o N = some (cat l)) (hs : l[i]? = some [v]) {p : Nat} (hp : p = o + offOf l i) : w.cell? ⟨b, p, none⟩ = some v := by
 have := World.row?_cell (row_cat h hs hp rfl) (i := 0) (by simp)
 simpa using this
theorem row_cat_set (h : w.row? b o N = some (cat l)) (hs : l[i]? = some s) {v : List Value} (hv : v.length = s.length) {p : Nat} (hp : p = o + offOf l i) : (w.setCells b p v).row? b o N = some (cat (l.set i v)) := by
 have hle := off_le hs
 have hl := World.row?_len h
 subst hp
 rw [World.row?_setCells_lay _ _ (by omega) (by omega), h, Option.map_some, Nat.add_sub_cancel_left, lay_cat hs hv]
theorem cell_cat_set {u : Value} (h : w.row? b o N = some (cat l)) (hs : l[i]? = some [u]) (v : Value) {p : Nat} (hp : p = o + offOf l i) : (w.setCell ⟨b, p, none⟩ v).row? b o N = some (cat (l.set i [v])) :=
 row_cat_set (v := [v]) h hs rfl hp
end
theorem okL_cat : ∀ {l : List (List Value)} {N : Nat}, (cat l).length = N → (∀ s ∈ l, okL s.length s = true) → okL N (cat l) = true := by
 intro l N hN h
 refine okL_mk hN fun v hv => ?_
 obtain ⟨s, hs, hv⟩ := List.mem_flatten.1 hv
 exact okL_mem (h s hs) v hv
end Go.Mun
namespace Go.Mun
open Go.RowKit

def lens (l : List (List Value)) : List Nat := l.map List.length
theorem lens_at {l : List (List Value)} {i k : Nat} (h : (lens l)[i]? = some k) : ∃ s, l[i]? = some s ∧ s.length = k := by
 unfold lens at h
 rw [List.getElem?_map] at h
 cases e : l[i]? with
 | none => rw [e] at h; cases h
 | some s => rw [e] at h; exact ⟨s, rfl, by simpa using h⟩
theorem lens_set {l : List (List Value)} {i : Nat} {s v : List Value} (h : l[i]? = some s) (hv : v.length = s.length) : lens (l.set i v) = lens l := by
 unfold lens
 apply List.ext_getElem?
 intro j
 rw [List.getElem?_map, List.getElem?_map, List.getElem?_set]
 by_cases hj : i = j
 ·subst hj
  obtain ⟨hi, e⟩ := List.getElem?_eq_some_iff.1 h
  rw [if_pos rfl, if_pos hi, h]; simp [hv]
 ·rw [if_neg hj]
theorem cat_len (l : List (List Value)) : (cat l).length = (lens l).sum := by unfold cat lens; rw [List.length_flatten]
def setAll (l : List (List Value)) : List (Nat × Value) → List (List Value)
 | [] => l
 | (i, v) :: r => setAll (l.set i v.cells.toList) r
def fits (k : List Nat) (parts : List (Nat × Value)) : Prop := ∀ p ∈ parts, k[p.1]? = some p.2.cells.toList.length
theorem fillL_cats : ∀ (parts : List (Nat × Value)) (l : List (List Value)) (N : Nat), (cat l).length = N → fits (lens l) parts → fillL N (plOf l) (cat l) parts = some (cat (setAll l parts))
 | [], l, N, _, _ => rfl
 | (i, v) :: r, l, N, hN, hf => by
  obtain ⟨s, hs, hl⟩ := lens_at (hf (i, v) (by simp))
  rw [fillL_cat hN hs hl.symm, setAll]
  refine fillL_cats r _ N ?_ ?_
  ·rw [cat_len, lens_set hs hl.symm, ← cat_len]; exact hN
  ·rw [lens_set hs hl.symm]; exact fun p hp => hf p (by simp [hp])
theorem fits_nil (k : List Nat) : fits k [] := fun p hp => by cases hp
theorem fits_cons {k : List Nat} {i : Nat} {v : Value} {r : List (Nat × Value)} (h : k[i]? = some v.cells.toList.length) (hr : fits k r) : fits k ((i, v) :: r) := fun p hp => by
 rcases List.mem_cons.1 hp with rfl | hp
 ·exact h
 ·exact hr p hp
end Go.Mun
