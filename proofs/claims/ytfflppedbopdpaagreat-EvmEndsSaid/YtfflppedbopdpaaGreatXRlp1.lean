/-
  RLP: contracts of the library's Reverse at bytes, of rlp.big, size, headed.
-/
import Derived.Test.YtfflppedbopdpaaGreatXKecT
import Derived.Test.YtfflppedbopdpaaGreatXRlpP
set_option linter.unusedVariables false
set_option linter.unusedSimpArgs false
namespace Go.Proofs.YtfflppedbopdpaaGreat
open Go.RowKit Go.Mun

structure NewB (w w' : World) (v : Value) (l : List Int) : Prop where
 read : ∃ a c, v = .slice a l.length c ∧ Ints w' .u8 a c l ∧ ∀ p, a = some p → w.heap.size ≤ p.block
 below : Below w.heap.size w w'
theorem NewB.up {w w1 w2 : World} {v : Value} {l : List Int} (h : NewB w1 w2 v l) (hb : Below w.heap.size w w1) : NewB w w2 v l := by
 obtain ⟨⟨a, c, rfl, hi, hf⟩, h2⟩ := h
 exact ⟨⟨a, c, rfl, hi, fun p hp => Nat.le_trans hb.size (hf p hp)⟩, hb.trans (h2.mono hb.size)⟩
structure OwnB (w w' : World) (v : Value) (l : List Int) : Prop where
 own : w'.ownsRow w.heap.size 5 1 v l.length (l.map (Value.int .u8))
 below : Below w.heap.size w w'
theorem OwnB.new {w w' : World} {v : Value} {l : List Int} (h : OwnB w w' v l) : NewB w w' v l := by
 obtain ⟨a, c, rfl, _, hi⟩ := Ints.of_own' h.own
 refine ⟨⟨a, c, rfl, hi, fun p hp => ?_⟩, h.below⟩
 subst hp
 obtain ⟨b, o, s⟩ := p
 rcases h.own.2 with ⟨he, _⟩ | ⟨g, cap, cur, he, hg, _⟩
 ·cases he
 ·cases he; exact hg
theorem Ints.of_arr {w : World} {g n c : Nat} {L : List Int} (h : Arr w g n (u8L L)) (hn : n = L.length) (hc : n ≤ c) (hm : c ≤ maxLen) : Ints w .u8 (some ⟨g, 0, none⟩) c L := by
 refine ⟨fun _ => ⟨g, 0, rfl, fun i hi => ?_⟩, fun h => by simp at h, by omega, hm⟩
 have := u8_at h (show i < n by omega)
 rw [Nat.zero_add, this]; rfl

def sizeN (n : Nat) : Nat := if n ≤ 55 then 1 + n else 1 + (bigL n).length + n
end Go.Proofs.YtfflppedbopdpaaGreat
