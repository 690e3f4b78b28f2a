/-
  The reference's permutation: contracts of rol and round.
-/
import Derived.Test.YtfflppedbopdpaaGreatXKec1
import Derived.Test.YtfflppedbopdpaaGreatXKecP
set_option linter.unusedVariables false
set_option linter.unusedSimpArgs false
namespace Go.Proofs.YtfflppedbopdpaaGreat
open Go.RowKit Go.Mun

structure QR (w wr : World) (ab lb : Nat) (s : Nat) (A C : List Int) : Prop where
 only : Only (fun k => k = ab ∨ k = lb) w wr
 a : Arr wr ab 25 (l64 A)
 c : Arr wr w.heap.size 5 (l64 C)
 l : Arr wr lb 1 [.int .u8 s]
 al : ab < w.heap.size
 ll : lb < w.heap.size
 ne : ab ≠ lb
section
variable {w wr : World} {ab lb : Nat} {s : Nat} {A C : List Int}
theorem QR.drew (h : QR w wr ab lb s A C) : QR w wr.drew ab lb s A C := ⟨h.only.drew, h.a.drew, h.c.drew, h.l.drew, h.al, h.ll, h.ne⟩
theorem QR.drewN (h : QR w wr ab lb s A C) (n : Nat) : QR w (wr.drewN n) ab lb s A C := ⟨h.only.drewN n, h.a.drewN n, h.c.drewN n, h.l.drewN n, h.al, h.ll, h.ne⟩
theorem QR.alloc (h : QR w wr ab lb s A C) (o : Obj) : QR w (wr.alloc o) ab lb s A C := ⟨h.only.alloc o, h.a.alloc o, h.c.alloc o, h.l.alloc o, h.al, h.ll, h.ne⟩
theorem QR.setC (h : QR w wr ab lb s A C) {i : Nat} (hi : i < 5) (x : Int) {C' : List Int} (hC : C.set i x = C') : QR w (wr.setCell ⟨w.heap.size, i, none⟩ (.int .u64 x)) ab lb s A C' := by
 subst hC
 have := h.al; have := h.ll
 exact ⟨h.only.setCell (by simp) _, h.a.setCell_other (by omega) _, by rw [← l64_set]; exact h.c.set hi _, h.l.setCell_other (by omega) _, h.al, h.ll, h.ne⟩
theorem QR.setA (h : QR w wr ab lb s A C) {i : Nat} (hi : i < 25) (x : Int) {A' : List Int} (hA : A.set i x = A') : QR w (wr.setCell ⟨ab, i, none⟩ (.int .u64 x)) ab lb s A' C := by
 subst hA
 have := h.al; have := h.ll; have := h.ne
 exact ⟨h.only.setCell (by simp) _, by rw [← l64_set]; exact h.a.set hi _, h.c.setCell_other (by omega) _, h.l.setCell_other (by omega) _, h.al, h.ll, h.ne⟩
theorem QR.setO (h : QR w wr ab lb s A C) {b : Nat} (hb : w.heap.size < b) (i : Nat) (x : Value) : QR w (wr.setCell ⟨b, i, none⟩ x) ab lb s A C := by
 have := h.al; have := h.ll
 exact ⟨h.only.setCell (by simp; omega) _, h.a.setCell_other (by omega) _, h.c.setCell_other (by omega) _, h.l.setCell_other (by omega) _, h.al, h.ll, h.ne⟩
end

end Go.Proofs.YtfflppedbopdpaaGreat
