/-
  The machine: the word of an instruction's own bytes.
  A frame where the state turns.
  The machine: SSTORE.
  The machine: what PUSH and SSTORE do; a step of such codes.
-/
import Derived.Test.YtiglinnjnobodaaGreatQEv12
import Derived.Laws.CopyOwn
import Derived.Test.YtiglinnjnobodaaGreatQSt7
set_option linter.unusedVariables false
set_option linter.unusedSimpArgs false
namespace Go.Mun
open Go.RowKit
/-- The number of bytes, the highest first. -/
def beN : List Int → Nat
  | [] => 0
  | x :: l => x.toNat * 256 ^ l.length + beN l
theorem beN_lt : ∀ l : List Int, Byt l → beN l < 256 ^ l.length
  | [], _ => by simp [beN]
  | x :: l, h => by
    have h1 := h x (by simp)
    have h2 := beN_lt l (fun y hy => h y (List.mem_cons_of_mem _ hy))
    have h3 : x.toNat ≤ 255 := by omega
    have h4 : x.toNat * 256 ^ l.length ≤ 255 * 256 ^ l.length := Nat.mul_le_mul_right _ h3
    simp only [beN, List.length_cons, Nat.pow_succ]
    omega
theorem be_beN : ∀ l : List Int, Byt l → be l.length (beN l) = l
  | [], _ => by simp [beN, be]
  | x :: l, h => by
    have h1 := h x (by simp)
    have hl : Byt l := fun y hy => h y (List.mem_cons_of_mem _ hy)
    have h2 := beN_lt l hl
    rw [List.length_cons, be_succ]
    have e1 : beN (x :: l) / 256 ^ l.length = x.toNat := by
      simp only [beN]
      rw [Nat.mul_comm, Nat.mul_add_div (by exact Nat.pow_pos (by decide)), Nat.div_eq_of_lt h2, Nat.add_zero]
    have e2 : beN (x :: l) % 256 ^ l.length = beN l := by
      simp only [beN]
      rw [Nat.mul_comm, Nat.mul_add_mod, Nat.mod_eq_of_lt h2]
    rw [e1, ← be_mod l.length (beN (x :: l)), e2, be_beN l hl]
    congr 1
    have : x.toNat < 256 := by omega
    omega
theorem byt_app {a b : List Int} (ha : Byt a) (hb : Byt b) : Byt (a ++ b) := fun x hx => (List.mem_append.1 hx).elim (ha x) (hb x)
theorem byt_zeros (k : Nat) : Byt (List.replicate k 0) := fun x hx => by rw [List.eq_of_mem_replicate hx]; decide
theorem beN_zeros (k : Nat) (l : List Int) : beN (List.replicate k 0 ++ l) = beN l := by
  induction k with
  | zero => simp
  | succ k ih => rw [List.replicate_succ, List.cons_append, beN]; simp [ih]
end Go.Mun
namespace Go.Proofs.YtiglinnjnobodaaGreat
open Go.RowKit Go.Mun
/-- The word of so many bytes behind the instruction, where they are there. -/
def ownN (f : Fr) (k : Nat) : Nat := beN ((f.code.drop (f.pc + 1)).take k)
end Go.Proofs.YtiglinnjnobodaaGreat
namespace Go.Proofs.YtiglinnjnobodaaGreat
open Go.RowKit Go.Mun

theorem FrOk.state {E : Env} {w w' : World} {own own' : Own} {c : FV} {f : Fr} {S S' : St} {n n' : Nat} (h : FrOk E w own c f S n) (g : Chg w w' own own') (hs : StateAt TU w' own' E.sb S' E.M n') (hn : n' + f.gas ≤ E.N) (hnn : n ≤ n') : FrOk E w' own' c f S' n' := by
  have hx : ∀ b, b < w.heap.size → own' b = own b := g.ext
  have hR : ∀ b, own b ≠ none → mu own E.fb E.kp c b := fun _ h => .inl (.inl h)
  have hmu : ∀ b, b < w.heap.size → mu own' E.fb E.kp c b → mu own E.fb E.kp c b := fun b hb hm => hm.imp (fun h => h.imp (fun h => by rw [← hx b hb]; exact h) id) id
  have hmn : ∀ b, b < w.heap.size → mn E own' c b → mn E own c b := fun b hb hm => hm.imp (hmu b hb) id
  have hRn : ∀ b, own b ≠ none → mn E own c b := fun b h => .inl (hR b h)
  obtain ⟨cs, hl1, hl2⟩ := h.logs
  obtain ⟨ja, jc, hj1, hj2, hj3⟩ := h.jmp
  have hkeepb : ∀ b, b < w.heap.size → own b = none → own' b = none := fun b hb ho => by rw [hx b hb]; exact ho
  refine { row := ?_, free := ?_, base := h.base, fown := hkeepb _ h.lt h.fown, chg := h.chg.trans g, run := h.run, mok := h.mok, stk := Only.own h.stk g.only (fun b hb hh => hh (h.sown b hb).1), sown := fun b hb => ⟨hkeepb _ (ownsRow_lt h.stk b hb) (h.sown b hb).1, (h.sown b hb).2⟩, sval := h.sval, slen := h.slen,
           mem := Only.own h.mem g.only (fun b hb hh => hh (h.mown b hb).1), mown := fun b hb => ⟨hkeepb _ (ownsRow_lt h.mem b hb) (h.mown b hb).1, (h.mown b hb).2⟩, mbyte := h.mbyte, mlen := h.mlen,
           logs := ⟨cs, Only.own hl1 g.only (fun b hb hh => hh (h.lown b hb).1), hl2.only g.only hRn hmn⟩, lown := fun b hb => ⟨hkeepb _ (ownsRow_lt hl1 b hb) (h.lown b hb).1, (h.lown b hb).2⟩, llen := Nat.le_trans h.llen hnn,
           code := h.code.only g.only hR hmu, jmp := ?_, data := h.data.only g.only hR hmu, ret := h.ret.only g.only hRn hmn, out := h.out.only g.only hRn hmn, st := hs, cnt := hn, nxt := h.nxt,
           keep := fun b hk => ⟨Nat.lt_of_lt_of_le (h.keep b hk).1 g.only.size, by rw [g.only.block _ (h.keep b hk).1 (fun hh => hh (h.keep b hk).2.2.1)]; exact (h.keep b hk).2.1, hkeepb _ (h.keep b hk).1 (h.keep b hk).2.2.1, (h.keep b hk).2.2.2⟩ }
  · rw [g.only.row? h.lt (fun hh => hh h.fown)]; exact h.row
  · rw [g.only.free? h.lt (fun hh => hh h.fown)]; exact h.free
  · refine ⟨ja, jc, hj1, ⟨fun hn => ?_, hj2.nil, hj2.len, hj2.cap⟩, fun hn p hp hx' => ?_⟩
    · obtain ⟨b, off, ha, hlt, hcl⟩ := hj2.at (i := 0) (List.length_pos_iff.2 hn)
      exact ⟨b, off, ha, fun i hi => by rw [g.only.cell? hlt (fun hr => hj3 hn _ ha (hR _ hr))]; exact hcl i hi⟩
    · obtain ⟨b, off, ha, hlt, hcl⟩ := hj2.at (i := 0) (List.length_pos_iff.2 hn)
      rw [ha] at hp; cases hp
      exact hj3 hn _ ha (hmu _ hlt hx')
end Go.Proofs.YtiglinnjnobodaaGreat
namespace Go.Proofs.YtiglinnjnobodaaGreat
open Go.RowKit Go.Mun

def setSlotR (f : Fr) (S : St) (k x : Nat) : Res := if storeCost ((S f.m.to).slots k) x ≤ f.gas then .ok { f with gas := f.gas - storeCost ((S f.m.to).slots k) x } (S.setSlot f.m.to k x) else .stop 11 f S
/-- What is read of a frame, and two words beside it. -/
def SlotT (E : Env) (a g k x : Nat) (w : World) : Prop :=
  w.cell? ⟨E.fb, 0, none⟩ = some (.pointer (some ⟨E.rb, 0, none⟩)) ∧ w.cell? ⟨E.rb, 0, none⟩ = some (.pointer (some ⟨E.sb, 0, none⟩)) ∧ w.row? E.fb 22 20 = some (beC 20 a) ∧ w.row? g 0 32 = some (beC 32 k) ∧ w.row? g 32 32 = some (beC 32 x)
theorem SlotT.next {E : Env} {a g k x : Nat} {w w' : World} (h : SlotT E a g k x w) (hb : Below w.heap.size w w') : SlotT E a g k x w' := by
  obtain ⟨h1, h2, h3, h4, h5⟩ := h
  exact ⟨(hb.cell (World.block_lt_of_cell? w _ h1)).trans h1, (hb.cell (World.block_lt_of_cell? w _ h2)).trans h2, ((brow hb).1 _ _ _ (World.row?_lt h3)).trans h3, ((brow hb).1 _ _ _ (World.row?_lt h4)).trans h4, ((brow hb).1 _ _ _ (World.row?_lt h5)).trans h5⟩
theorem StateAt.slot {w : World} {own : Own} {sb : Nat} {S : St} {M : List (Nat × St)} {n : Nat} (h : StateAt TU w own sb S M n) (a k : Nat) : (S a).slots k < wW := by
  obtain ⟨mb, uv, mv, last, E, U, mk, h, _⟩ := h
  cases e : getA a E with
  | none => rw [h.out a e]; show (0 : Nat) < wW; decide
  | some p =>
    obtain ⟨cv, q, sl, _, _, _, _, h5⟩ := (h.acc (a, p) (getA_mem e)).cells
    show (S a).slots k < wW
    rw [h5.get k]
    cases e2 : getA k sl with
    | none => show (0 : Nat) < wW; decide
    | some y => exact (h5.val (k, y) (getA_mem e2)).2
end Go.Proofs.YtiglinnjnobodaaGreat
namespace Go.Proofs.YtiglinnjnobodaaGreat
open Go.RowKit Go.Mun

/-- The instructions that are told here. -/
def actP (f : Fr) (S : St) (op : Int) (v : List Nat) : Res :=
  if 96 ≤ op ∧ op ≤ 127 then (if f.pc + 1 + (op - 95).toNat ≤ f.code.length ∧ f.stack.length < 1024 then .ok { f with stack := f.stack ++ [ownN f (op - 95).toNat] } S else .none)
  else if op = 85 then (match v with | [k, x] => setSlotR f S k x | _ => .none)
  else .none
def turnP (_ : Fr) (_ : St) (_ : Int) : Res := .none
def stepP : Fr → St → Res := stepR actP turnP
end Go.Proofs.YtiglinnjnobodaaGreat
