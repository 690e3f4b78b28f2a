/-
  The reference's hash: the contract of Keccak.
  The two hashes are one: plain law on lists of bytes.
-/
import Derived.Test.YtfflppedbopdpaaGreatXKec2
import Derived.Test.YtfflppedbopdpaaGreatXKecS
import Derived.Test.YtfflppedbopdpaaGreatXFrm
import Derived.OpenShut
import Derived.Test.YtfflppedbopdpaaGreatXKecP
set_option linter.unusedVariables false
set_option linter.unusedSimpArgs false
namespace Go.Proofs.YtfflppedbopdpaaGreat
open Go.RowKit Go.Mun

def absR (L M : List Int) (fr : Nat) : Nat → List Int
 | 0 => L
 | i + 1 => takeP (absR L M fr i) i (M.getD (fr + i) 0)
def rndR (L : List Int) : Nat → List Int × Nat
 | 0 => (L, 1)
 | k + 1 => roundR (rndR L k).1 (rndR L k).2
def spR (M : List Int) : Nat → List Int
 | 0 => List.replicate 25 0
 | q + 1 => (rndR (absR (spR M q) M (136 * q) 136) 24).1
def padK (n : Nat) : Nat := 135 - n % 136
def padL (l : List Int) : List Int := l ++ [1] ++ List.replicate (padK l.length) 0
def padM (l : List Int) : List Int := (padL l).set (l.length + padK l.length) (bits .or .u8 ((padL l).getD (l.length + padK l.length) 0) 128)
def lenOf : Value → Nat | .slice _ n _ => n | _ => 0

structure KT (w wr : World) (g N : Nat) (M : List Int) (ab : Nat) (L : List Int) : Prop where
 below : Below w.heap.size w wr
 free : wr.free? w.heap.size 0 32 = true
 m : Arr wr g N (u8L M)
 a : Arr wr ab 25 (l64 L)
 gl : w.heap.size < g
 al : w.heap.size < ab
 ne : g ≠ ab

theorem KT.drew {w wr : World} {g N ab : Nat} {M L : List Int} (h : KT w wr g N M ab L) : KT w wr.drew g N M ab L := ⟨h.below.drew, h.free, h.m.drew, h.a.drew, h.gl, h.al, h.ne⟩
theorem KT.setA {w wr : World} {g N ab : Nat} {M L : List Int} (h : KT w wr g N M ab L) {i : Nat} (hi : i < 25) (x : Int) {L' : List Int} (hL : L.set i x = L') :
  KT w (wr.setCell ⟨ab, i, none⟩ (.int .u64 x)) g N M ab L' := by
 subst hL
 have := h.al; have := h.ne
 exact ⟨h.below.setCell (by simp; omega) _, by rw [free?_setCell _ (h.a.free1 hi)]; exact h.free, h.m.setCell_other (by omega) _, by rw [← l64_set]; exact h.a.set hi _, h.gl, h.al, h.ne⟩
theorem KT.alloc {w wr : World} {g N ab : Nat} {M L : List Int} (h : KT w wr g N M ab L) (o : Obj) : KT w (wr.alloc o) g N M ab L := by
 have hl := h.a.lt; have := h.al
 exact ⟨h.below.alloc (by omega) o, by rw [World.free?_alloc_lt _ (by omega)]; exact h.free, h.m.alloc o, h.a.alloc o, h.gl, h.al, h.ne⟩
theorem KT.setO {w wr : World} {g N ab : Nat} {M L : List Int} (h : KT w wr g N M ab L) {b : Nat} (h1 : w.heap.size < b) (h2 : b ≠ g) (h3 : b ≠ ab) (i : Nat) (hf : wr.free? b i 1 = true) (x : Value) :
  KT w (wr.setCell ⟨b, i, none⟩ x) g N M ab L :=
 ⟨h.below.setCell (by simp; omega) _, by rw [free?_setCell _ hf]; exact h.free, h.m.setCell_other (by omega) _, h.a.setCell_other (by omega) _, h.gl, h.al, h.ne⟩
theorem KT.only {w wr w' : World} {g N ab lb : Nat} {M L L' : List Int} (h : KT w wr g N M ab L) (ho : Only (fun k => k = ab ∨ k = lb) wr w') (ha : Arr w' ab 25 (l64 L')) (h1 : w.heap.size < lb) (h2 : lb ≠ g) :
  KT w w' g N M ab L' := by
 have hl := h.a.lt; have := h.al; have := h.gl; have := h.ne
 refine ⟨h.below.trans (ho.below (by omega) (by omega)), by rw [ho.free? (by omega) (by omega)]; exact h.free, h.m.only ho (by omega), ha, h.gl, h.al, h.ne⟩
theorem u8_at {w : World} {b n : Nat} {L : List Int} (h : Arr w b n (u8L L)) {i : Nat} (hi : i < n) : w.cell? ⟨b, i, none⟩ = some (.int .u8 (L.getD i 0)) := by
 refine h.cell hi ?_
 have := h.len
 rw [u8L_len] at this
 simp [u8L, List.getElem?_map, List.getElem?_eq_getElem (show i < L.length by omega)]
def InR (L : List Int) : Prop := ∀ i, 0 ≤ at64 L i ∧ at64 L i < 18446744073709551616
theorem at64_set (L : List Int) (i j : Nat) (v : Int) : at64 (L.set i v) j = if i = j ∧ j < L.length then v else at64 L j := by
 show (L.set i v).getD j 0 = _
 rw [List.getD_eq_getElem?_getD, List.getElem?_set]
 by_cases h : i = j
 ·subst h
  by_cases h2 : i < L.length
  ·simp [h2]
  ·simp [h2, at64]
 ·simp [h, at64]
theorem InR.set {L : List Int} (h : InR L) (i : Nat) (op : BinOp) (a b : Int) : InR (L.set i (bits op .u64 a b)) := by
 intro j
 rw [at64_set]
 split
 ·exact bits_lt op a b
 ·exact h j
theorem InR.takeP {L : List Int} (h : InR L) (p : Nat) (x : Int) : InR (takeP L p x) := h.set _ _ _ _
theorem InR.roundP (L : List Int) (rc : Int) : InR (roundP L rc) := by
 unfold Go.Mun.roundP
 refine InR.set ?_ _ _ _ _
 generalize rhoPi L ((List.range 5).map (thD ((List.range 5).map (thC L)))) 25 = b
 intro j
 by_cases hj : j < 25
 ·rw [map_at _ 25 j hj]; exact bits_lt _ _ _
 ·have : at64 ((List.range 25).map (chiAt b)) j = 0 := by
   show ((List.range 25).map (chiAt b)).getD j 0 = 0
   rw [List.getD_eq_getElem?_getD, List.getElem?_eq_none (by simp; omega)]; rfl
  rw [this]; decide
theorem InR.permP (L : List Int) : InR (permP L 24) := by rw [permP_succ]; exact InR.roundP _ _
def takes (L : List Int) (p : Nat) : List Int → List Int
 | [] => L
 | x :: xs => takes (takeP L p x) (p + 1) xs
def tailM : Nat → List Int
 | 0 => [129]
 | k + 1 => [1] ++ List.replicate k 0 ++ [128]
end Go.Proofs.YtfflppedbopdpaaGreat
