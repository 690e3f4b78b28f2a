/-
  The machine's step: told of what an instruction does.
-/
import Derived.Test.YtiglinnjnobodaaGreatQVm2
import Derived.Test.YtiglinnjnobodaaGreatQEv1
import Derived.Test.YtiglinnjnobodaaGreatQOps2
import Derived.Test.YtiglinnjnobodaaGreatQTy4
set_option linter.unusedVariables false
set_option linter.unusedSimpArgs false
namespace Go.Proofs.YtiglinnjnobodaaGreat
open Go.RowKit Go.Mun

/-- What comes of an instruction: it goes on; it gives up; it is not told. -/
inductive Res
  | ok (f : Fr) (S : St)
  | stop (x : Nat) (f : Fr) (S : St)
  | none
def Post (E : Env) : Res → Ending → World → Prop
  | .ok f S, e, w => e = .returned (.tuple #[]) ∧ ∃ own c n, FrOk E w own c f S n
  | .stop x f _, e, w => e = .panicked [{ v := stopV x, recovered := false }] ∧ ∃ own c n f' S', FrOk E w own c f' S' n ∧ (x = 15 → f'.gas = f.gas ∧ f'.out = f.out)
  | .none, _, _ => True
theorem Post.split {E : Env} {r : Res} {e : Ending} {w : World} (hr : r ≠ .none) (h : Post E r e w) :
    (e = .returned (.tuple #[]) ∧ Post E r (.returned (.tuple #[])) w) ∨ ∃ x : Int, e = .panicked [{ v := stopV x, recovered := false }] ∧ Post E r (.panicked [{ v := stopV x, recovered := false }]) w := by
  cases r with
  | ok f S => obtain ⟨rfl, h⟩ := h; exact .inl ⟨rfl, rfl, h⟩
  | stop x f S => obtain ⟨rfl, h⟩ := h; exact .inr ⟨x, rfl, rfl, h⟩
  | none => exact absurd rfl hr
theorem box_new {w : World} {t n : Nat} {z L : List Value} (hz : z.length = n) (hL : okL n L = true) :
    Below w.heap.size w ((w.alloc (.cells z.toArray t)).setCells w.heap.size 0 L) ∧ ((w.alloc (.cells z.toArray t)).setCells w.heap.size 0 L).row? w.heap.size 0 n = some L :=
  ⟨((Below.refl _ _).alloc (Nat.le_refl _) _).setCells (Nat.le_refl _) _ _, ((Arr.new w n z t hz).setCells L hL).row⟩
/-- An instruction's number, and the frame behind its being read. -/
def opAt (f : Fr) : Int := f.code[f.next]?.getD 0
def enter (f : Fr) : Fr := { f with pc := f.next, next := f.next + 1 + (ownOf (opAt f)).toNat }
def popped (f : Fr) (k : Nat) : Fr := { f with stack := f.stack.take (f.stack.length - k) }
def tops (f : Fr) (k : Nat) : List Nat := f.stack.reverse.take k
theorem _root_.Go.Mun.Wds.mono {b b' : Nat} {w : World} {v : Value} {l : List Nat} (h : Wds b w v l) (hb : b' ≤ b) : Wds b' w v l := by
  obtain ⟨ad, c, h1, h2, h3, h4⟩ := h
  exact ⟨ad, c, h1, h2, h3, fun hn => by obtain ⟨g, e1, e2, e3, e4⟩ := h4 hn; exact ⟨g, e1, Nat.le_trans hb e2, e3, e4⟩⟩
theorem _root_.Go.Mun.Wds.only {b : Nat} {w w' : World} {R : Nat → Prop} {v : Value} {l : List Nat} (h : Wds b w v l) (ho : Only R w w') (hR : ∀ g, b ≤ g → g < w.heap.size → ¬ R g) : Wds b w' v l := by
  obtain ⟨ad, c, h1, h2, h3, h4⟩ := h
  exact ⟨ad, c, h1, h2, h3, fun hn => by obtain ⟨g, e1, e2, e3, e4⟩ := h4 hn; exact ⟨g, e1, e2, Nat.lt_of_lt_of_le e3 ho.size, by rw [ho.row? e3 (hR g e2 e3)]; exact e4⟩⟩
/-- A step, told of what the instruction does by its values (act) or without them (turn). -/
def stepR (act : Fr → St → Int → List Nat → Res) (turn : Fr → St → Int → Res) (f : Fr) (S : St) : Res :=
  match ofL (opAt f) with
  | Option.none => .stop 12 (enter f) S
  | some (p, q, g) =>
    if ¬ (p.toNat ≤ f.stack.length ∧ f.stack.length - p.toNat + q.toNat ≤ 1024) then .stop 10 (enter f) S
    else if 128 ≤ opAt f ∧ opAt f < 160 then (if g.toNat ≤ f.gas then turn { enter f with gas := f.gas - g.toNat } S (opAt f) else .stop 11 (enter f) S)
    else if f.m.static ∧ changes (opAt f) (tops f p.toNat) then .stop 14 (popped (enter f) p.toNat) S
    else if g.toNat ≤ f.gas then act { popped (enter f) p.toNat with gas := f.gas - g.toNat } S (opAt f) (tops f p.toNat) else .stop 11 (popped (enter f) p.toNat) S
end Go.Proofs.YtiglinnjnobodaaGreat
