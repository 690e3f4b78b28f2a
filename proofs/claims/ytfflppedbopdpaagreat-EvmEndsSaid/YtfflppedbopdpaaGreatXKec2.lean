/-
  The program's hash: contracts of permute, take, Sum.
  The program's hash of lists of bytes: the contract of Sum.
-/
import Derived.Test.YtfflppedbopdpaaGreatXKec1
import Derived.Test.YtfflppedbopdpaaGreatXFrm2
import Derived.Test.YtfflppedbopdpaaGreatXNum
set_option linter.unusedVariables false
set_option linter.unusedSimpArgs false
namespace Go.Proofs.YtfflppedbopdpaaGreat
open Go.RowKit Go.Mun

def permP (L : List Int) (k : Nat) : List Int := (List.range k).foldl (fun L i => roundP L (at64 rcL i)) L
theorem permP_succ (L : List Int) (k : Nat) : permP L (k + 1) = roundP (permP L k) (at64 rcL k) := by
 simp [permP, List.range_succ]

def takeP (L : List Int) (p : Nat) (x : Int) : List Int := L.set (p / 8) (bits .xor .u64 (at64 L (p / 8)) (IntKind.u64.wrap (x * 2 ^ (8 * (p % 8)))))

def feed1 (S : List Int × Nat) (x : Int) : List Int × Nat := if S.2 + 1 = 136 then (permP (takeP S.1 S.2 x) 24, 0) else (takeP S.1 S.2 x, S.2 + 1)
def feed (S : List Int × Nat) (l : List Int) : List Int × Nat := l.foldl feed1 S
def fed0 : List Int × Nat := (List.replicate 25 0, 0)
def endP (S : List Int × Nat) : List Int := permP (takeP (takeP S.1 S.2 1) 135 128) 24
def outB (L : List Int) (i : Nat) : Int := at64 L (i / 8) / 2 ^ (8 * (i % 8)) % 256
def kecL (bs : List Int) : List Int := (List.range 32).map (outB (endP (feed fed0 bs)))
structure Parts (w : World) (b off : Nat) (bs : List (List Int)) : Prop where
 lt : b < w.heap.size
 cell : ∀ i (h : i < bs.length), ∃ a c, w.cell? ⟨b, off + i, none⟩ = some (.slice a bs[i].length c) ∧ Ints w .u8 a c bs[i]
 byte : ∀ l ∈ bs, ∀ x ∈ l, 0 ≤ x ∧ x < 256

structure SR (w wr : World) (S : List Int × Nat) : Prop where
 below : Below w.heap.size w wr
 s : Arr wr (w.heap.size + 1) 25 (l64 S.1)
 free : wr.free? w.heap.size 0 32 = true
 at_ : S.2 < 136
theorem SR.size {w wr : World} {S : List Int × Nat} (h : SR w wr S) : w.heap.size + 1 < wr.heap.size := h.s.lt
theorem SR.step {w wr w' : World} {S S' : List Int × Nat} (h : SR w wr S) (hs : Arr w' (w.heap.size + 1) 25 (l64 S'.1)) (ho : Only (· = w.heap.size + 1) wr w') (ha : S'.2 < 136) : SR w w' S' :=
 ⟨h.below.trans (ho.below (by have := h.size; omega) (by omega)), hs, by rw [ho.free? (by have := h.size; omega) (by omega)]; exact h.free, ha⟩

structure OR (w wr : World) (ob : Nat) (E : List Int) (k : Nat) : Prop where
 sr : SR w wr (E, 0)
 o : Arr wr ob 32 (u8L (partL 32 (outB E) k))
 lt : w.heap.size + 2 ≤ ob
theorem u8L_set' (L : List Int) (i : Nat) (x : Int) : (u8L L).set i (.int .u8 x) = u8L (L.set i x) := by simp [u8L, List.map_set]
theorem OR.step {w wr : World} {ob : Nat} {E : List Int} {k : Nat} (h : OR w wr ob E k) (hk : k < 32) (x : Int) (hx : x = outB E k) : OR w (wr.setCell ⟨ob, k, none⟩ (.int .u8 x)) ob E (k + 1) := by
 have := h.lt
 refine ⟨⟨h.sr.below.setCell (by simp; omega) _, h.sr.s.setCell_other (by omega) _, by rw [free?_setCell _ (h.o.free1 hk)]; exact h.sr.free, h.sr.at_⟩, ?_, h.lt⟩
 rw [← partL_set 32 (outB E) k x hx, ← u8L_set']
 exact h.o.set hk _

end Go.Proofs.YtfflppedbopdpaaGreat
