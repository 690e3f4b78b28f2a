/-
  The reference's machine: how a frame lies in memory.
  The reference's own and Jumps.
  The reference's Push.
  The reference's Pop.
  A block that is one row, and what is copied into it (out of another seat's texts).
  The reference's Cut.
  The reference's machine: what PUSH does.
  The reference's machine: values are taken; what STOP does.
  The reference's machine: what instructions without memory of their own cost besides.
  The reference's machine: a code is run, told of what each instruction costs and does.
  The reference's machine: what a run of PUSH and STOP is told.
  Which accounts the two texts tell of one state; the law's accounts, and what its codes come to.
  The law's accounts and its message.
  The walk of EvmNames: which accounts are made.
  The law's helpers: there; two without codes.
  The machine: a message that can't be: too deep, or more than its sender has.
  The machine: Run of a message that can't be.
  The machine: an account that is there already is not made.
-/
import Derived.Test.YtfflppedbopdpaaGreatQRs16
import Derived.Test.YtfflppedbopdpaaGreatQSrw
import Derived.Test.YtfflppedbopdpaaGreatQEv16
import Derived.Test.YtfflppedbopdpaaGreatQRef5
import Derived.Test.YtfflppedbopdpaaGreatQCx0
import Derived.Test.YtfflppedbopdpaaGreatQEv12
import Derived.Test.YtfflppedbopdpaaGreatQRlp2
set_option linter.unusedVariables false
set_option maxRecDepth 1000000
set_option maxHeartbeats 8000000
set_option linter.unusedSimpArgs false
namespace Go.Proofs.YtfflppedbopdpaaGreat
open Go.RowKit Go.Mun

structure REnv where
 (w0 : World) (own0 : Go.Mun.Own) (sb fb : Nat) (m0 : Msg) (dv : Value) (cx : Ctx) (M0 : List (Nat × St)) (N : Nat)
structure RFV where
 (code data sv mv told out lv jv : Value) (tl : List Value)
def rfS (E : REnv) (c : RFV) (f : Fr) : List (List Value) :=
 [[.pointer (some ⟨E.sb, 0, none⟩)], cat (msgS E.m0 E.dv), cat (ctxS E.cx), beC 20 f.m.to, [c.code], [c.data], beC 32 f.m.value, [.bool f.m.static], [.int .i64 f.gas], [.int .i64 f.next], [c.sv], [c.mv], [c.told], [c.out], [c.lv], [.bool f.ended], c.tl]
def rmu (own : Go.Mun.Own) (fb : Nat) (c : RFV) (b : Nat) : Prop := hot own b ∨ b = fb ∨ c.sv.ownBlock = some b ∨ c.mv.ownBlock = some b
structure RFrOk (E : REnv) (w : World) (own : Go.Mun.Own) (c : RFV) (f : Fr) (S : St) (M : List (Nat × St)) (n : Nat) : Prop where
 row : w.row? E.fb 0 1516 = some (cat (rfS E c f))
 free : w.free? E.fb 0 1516 = true
 tlen : c.tl.length = 1280
 base : E.w0.heap.size ≤ E.fb
 fown : own E.fb = none
 chg : ChgR E.w0 w E.own0 own
 mok : MsgOk f.m
 stk : w.ownsRow E.w0.heap.size 25 32 c.sv f.stack.length (stkC f.stack)
 sown : ∀ g, c.sv.ownBlock = some g → own g = none ∧ g ≠ E.fb
 sval : ∀ x ∈ f.stack, x < wW
 slen : f.stack.length ≤ 1024
 mem : w.ownsRow E.w0.heap.size 5 1 c.mv f.mem.length (f.mem.map (Value.int .u8))
 mown : ∀ g, c.mv.ownBlock = some g → own g = none ∧ g ≠ E.fb ∧ c.sv.ownBlock ≠ some g
 mbyte : Byt f.mem
 mlen : f.mem.length ≤ 1048576 ∧ f.mem.length % 32 = 0
 logs : f.logs = [] ∧ c.lv = .slice none 0 0
 code : RoAt w (rmu own E.fb c) c.code f.code
 data : RoAt w (rmu own E.fb c) c.data f.m.data
 out : RoAt w (rmu own E.fb c) c.out f.out
 told : RoAt w (rmu own E.fb c) c.told f.ret
 jmp : c.jv ≠ .nilFunc → ∃ ja jc, c.jv = .slice ja (jumps f.code f.code.length 0).length jc ∧ Ints w .i64 ja jc (jumps f.code f.code.length 0) ∧ (jumps f.code f.code.length 0 ≠ [] → ∀ p, ja = some p → ¬ rmu own E.fb c p.block)
 st : RState w own E.sb S M n
 ms : ∃ T, M = E.M0 ++ T
 cnt : n + f.gas ≤ E.N
 lim : E.N ≤ 999000
 nxt : f.next ≤ 2199023255552
section
variable {w : World} {E : REnv} {c : RFV} {f : Fr}
theorem rfset_code (x : Value) (h : w.row? E.fb 0 1516 = some (cat (rfS E c f))) : (w.setCell ⟨E.fb, 193, none⟩ (x)).row? E.fb 0 1516 = some (cat (rfS E ({ c with code := x }) (f))) := cell_cat_set h (i := 4) rfl _ (by simp [rfS, offOf_succ, offOf_zero])
theorem rfset_gas (x : Nat) (h : w.row? E.fb 0 1516 = some (cat (rfS E c f))) : (w.setCell ⟨E.fb, 228, none⟩ (.int .i64 (x : Int))).row? E.fb 0 1516 = some (cat (rfS E (c) ({ f with gas := x }))) := cell_cat_set h (i := 8) rfl _ (by simp [rfS, offOf_succ, offOf_zero])
theorem rfset_pc (x : Nat) (h : w.row? E.fb 0 1516 = some (cat (rfS E c f))) : (w.setCell ⟨E.fb, 229, none⟩ (.int .i64 (x : Int))).row? E.fb 0 1516 = some (cat (rfS E (c) ({ f with next := x }))) := cell_cat_set h (i := 9) rfl _ (by simp [rfS, offOf_succ, offOf_zero])
theorem rfset_sv (x : Value) (h : w.row? E.fb 0 1516 = some (cat (rfS E c f))) : (w.setCell ⟨E.fb, 230, none⟩ (x)).row? E.fb 0 1516 = some (cat (rfS E ({ c with sv := x }) (f))) := cell_cat_set h (i := 10) rfl _ (by simp [rfS, offOf_succ, offOf_zero])
theorem rfset_ended (x : Bool) (h : w.row? E.fb 0 1516 = some (cat (rfS E c f))) : (w.setCell ⟨E.fb, 235, none⟩ (.bool x)).row? E.fb 0 1516 = some (cat (rfS E (c) ({ f with ended := x }))) := cell_cat_set h (i := 15) rfl _ (by simp [rfS, offOf_succ, offOf_zero])
theorem rfset_t (L : List Value) (hL : L.length = c.tl.length) (h : w.row? E.fb 0 1516 = some (cat (rfS E c f))) : (w.setCells E.fb 236 L).row? E.fb 0 1516 = some (cat (rfS E ({ c with tl := L }) f)) := row_cat_set h (i := 16) rfl hL (by simp [rfS, offOf_succ, offOf_zero])
end
section
variable {E : REnv} {w w' : World} {own : Go.Mun.Own} {c : RFV} {f : Fr} {S : St} {M : List (Nat × St)} {n : Nat}
theorem jmp_only {R : Nat → Prop} {own' : Go.Mun.Own} {c' : RFV} {l : List Int} {jv : Value} {fb : Nat} (h : jv ≠ .nilFunc → ∃ ja jc, jv = .slice ja l.length jc ∧ Ints w .i64 ja jc l ∧ (l ≠ [] → ∀ p, ja = some p → ¬ rmu own fb c p.block)) (ho : Only R w w') (hR : ∀ b, R b → rmu own fb c b) (hX : ∀ b, b < w.heap.size → rmu own' fb c' b → rmu own fb c b) :
  jv ≠ .nilFunc → ∃ ja jc, jv = .slice ja l.length jc ∧ Ints w' .i64 ja jc l ∧ (l ≠ [] → ∀ p, ja = some p → ¬ rmu own' fb c' p.block) := by
 intro hj
 obtain ⟨ja, jc, hj1, hj2, hj3⟩ := h hj
 refine ⟨ja, jc, hj1, ⟨fun hn => ?_, hj2.nil, hj2.len, hj2.cap⟩, fun hn p hp hx => ?_⟩
 ·obtain ⟨b, off, ha, hlt, hcl⟩ := hj2.at (i := 0) (List.length_pos_iff.2 hn)
  exact ⟨b, off, ha, fun i hi => by rw [ho.cell? hlt (fun hr => hj3 hn _ ha (hR _ hr))]; exact hcl i hi⟩
 ·obtain ⟨b, off, ha, hlt, hcl⟩ := hj2.at (i := 0) (List.length_pos_iff.2 hn)
  rw [ha] at hp; cases hp
  exact hj3 hn _ ha (hX _ hlt hx)
theorem RFrOk.lt (h : RFrOk E w own c f S M n) : E.fb < w.heap.size := World.row?_lt h.row
theorem RFrOk.one (h : RFrOk E w own c f S M n) {i : Nat} (hi : i < 1516) : w.free? E.fb i 1 = true := World.free?_sub h.free (by omega)
theorem RFrOk.below (h : RFrOk E w own c f S M n) (hb : Below w.heap.size w w') : RFrOk E w' own c f S M n := by
 have ho : Only (fun _ => False) w w' := Only.of_below_size hb
 exact { h with
  row := by rw [ho.row? h.lt (fun h => h)]; exact h.row
  free := by rw [ho.free? h.lt (fun h => h)]; exact h.free
  chg := h.chg.trans (ChgR.below own hb)
  stk := Only.own h.stk ho (fun _ _ h => h)
  mem := Only.own h.mem ho (fun _ _ h => h)
  code := h.code.below hb
  data := h.data.below hb
  out := h.out.below hb
  told := h.told.below hb
  jmp := jmp_only h.jmp ho (fun _ h => h.elim) (fun _ _ h => h)
  st := h.st.below hb }
theorem RFrOk.cells {c' : RFV} {f' : Fr} (h : RFrOk E w own c f S M n) (ho : Only (fun b => b = E.fb) w w') (hr : w'.row? E.fb 0 1516 = some (cat (rfS E c' f'))) (hfr : w'.free? E.fb 0 1516 = true) (hcs : c'.sv = c.sv ∧ c'.mv = c.mv ∧ c'.code = c.code ∧ c'.data = c.data ∧ c'.lv = c.lv ∧ c'.told = c.told ∧ c'.jv = c.jv) (htl : c'.tl.length = 1280)
  (h1 : f'.m = f.m) (h2 : f'.code = f.code) (h3 : f'.stack = f.stack) (h4 : f'.mem = f.mem) (h5 : f'.ret = f.ret) (h7 : f'.logs = f.logs) (hg : f'.gas ≤ f.gas) (hx : f'.next ≤ 2199023255552) (hout : RoAt w' (rmu own E.fb c') c'.out f'.out) : RFrOk E w' own c' f' S M n := by
 obtain ⟨e1, e2, e3, e4, e5, e6, e7⟩ := hcs
 have hrm : rmu own E.fb c' = rmu own E.fb c := by unfold rmu; rw [e1, e2]
 have hF : ∀ b, b = E.fb → rmu own E.fb c b := fun _ h => .inr (.inl h)
 have hI : ∀ b, b < w.heap.size → rmu own E.fb c b → rmu own E.fb c b := fun _ _ h => h
 have hO : Only (hot E.own0) E.w0 w' := h.chg.only.trans ho (fun i hi he => by have : i = E.fb := hi; have := h.base; omega)
 refine { row := hr, free := hfr, tlen := htl, base := h.base, fown := h.fown, chg := ⟨h.chg.ext, hO⟩, mok := by rw [h1]; exact h.mok, stk := ?_, sown := by rw [e1]; exact h.sown, sval := by rw [h3]; exact h.sval, slen := by rw [h3]; exact h.slen, mem := ?_, mown := by rw [e1, e2]; exact h.mown,
          mbyte := by rw [h4]; exact h.mbyte, mlen := by rw [h4]; exact h.mlen, logs := by rw [h7, e5]; exact h.logs, code := ?_, data := ?_, out := hout, told := ?_, jmp := ?_, st := h.st.only ho (fun b hb => by have e : b = E.fb := hb; rw [e]; exact h.fown), ms := h.ms, cnt := by have := h.cnt; omega, lim := h.lim, nxt := hx }
 ·rw [e1, h3]; exact Only.own h.stk ho (fun g hg => (h.sown g hg).2)
 ·rw [e2, h4]; exact Only.own h.mem ho (fun g hg => (h.mown g hg).2.1)
 ·rw [hrm, e3, h2]; exact h.code.only ho hF hI
 ·rw [hrm, e4, h1]; exact h.data.only ho hF hI
 ·rw [hrm, e6, h5]; exact h.told.only ho hF hI
 ·rw [e7, h2]; exact jmp_only h.jmp ho hF (fun b _ hx => by rw [← hrm]; exact hx)
theorem RFrOk.outKept (h : RFrOk E w own c f S M n) (ho : Only (fun b => b = E.fb) w w') : RoAt w' (rmu own E.fb c) c.out f.out := h.out.only ho (fun _ h => .inr (.inl h)) (fun _ _ h => h)
theorem RFrOk.gas (h : RFrOk E w own c f S M n) (x : Nat) (hx : x ≤ f.gas) : RFrOk E (w.setCell ⟨E.fb, 228, none⟩ (.int .i64 x)) own c { f with gas := x } S M n :=
 h.cells (only_cell _ _ _ _) (rfset_gas x h.row) (by rw [free?_setCell _ (h.one (by omega))]; exact h.free) ⟨rfl, rfl, rfl, rfl, rfl, rfl, rfl⟩ h.tlen rfl rfl rfl rfl rfl rfl hx h.nxt (h.outKept (only_cell _ _ _ _))
theorem RFrOk.pc (h : RFrOk E w own c f S M n) (x : Nat) (hx : x ≤ 2199023255552) : RFrOk E (w.setCell ⟨E.fb, 229, none⟩ (.int .i64 x)) own c { f with next := x } S M n :=
 h.cells (only_cell _ _ _ _) (rfset_pc x h.row) (by rw [free?_setCell _ (h.one (by omega))]; exact h.free) ⟨rfl, rfl, rfl, rfl, rfl, rfl, rfl⟩ h.tlen rfl rfl rfl rfl rfl rfl (Nat.le_refl _) hx (h.outKept (only_cell _ _ _ _))
theorem RFrOk.ended (h : RFrOk E w own c f S M n) (x : Bool) : RFrOk E (w.setCell ⟨E.fb, 235, none⟩ (.bool x)) own c { f with ended := x } S M n :=
 h.cells (only_cell _ _ _ _) (rfset_ended x h.row) (by rw [free?_setCell _ (h.one (by omega))]; exact h.free) ⟨rfl, rfl, rfl, rfl, rfl, rfl, rfl⟩ h.tlen rfl rfl rfl rfl rfl rfl (Nat.le_refl _) h.nxt (h.outKept (only_cell _ _ _ _))
theorem RFrOk.table (h : RFrOk E w own c f S M n) (L : List Value) (hL : L.length = 1280) : RFrOk E (w.setCells E.fb 236 L) own { c with tl := L } f S M n := by
 have ho : Only (fun b => b = E.fb) w (w.setCells E.fb 236 L) := Only.setCells (S := fun b => b = E.fb) (Only.refl _ _) (fun _ => rfl) _ _
 exact h.cells ho (rfset_t L (hL.trans h.tlen.symm) h.row) (by rw [World.free?_setCells']; exact h.free) ⟨rfl, rfl, rfl, rfl, rfl, rfl, rfl⟩ hL rfl rfl rfl rfl rfl rfl (Nat.le_refl _) h.nxt (h.outKept ho)
theorem RFrOk.place (h : RFrOk E w own c f S M n) (x : Nat) : RFrOk E w own c { f with pc := x } S M n :=
 { row := h.row, free := h.free, tlen := h.tlen, base := h.base, fown := h.fown, chg := h.chg, mok := h.mok, stk := h.stk, sown := h.sown, sval := h.sval, slen := h.slen, mem := h.mem, mown := h.mown, mbyte := h.mbyte, mlen := h.mlen, logs := h.logs, code := h.code, data := h.data, out := h.out, told := h.told, jmp := h.jmp, st := h.st, ms := h.ms, cnt := h.cnt, lim := h.lim, nxt := h.nxt }
theorem RFrOk.stack {w1 : World} {sv' : Value} {st' : List Nat} (h : RFrOk E w own c f S M n) (ho : Only (fun g => c.sv.ownBlock = some g) w w1) (hr : w1.ownsRow 0 25 32 sv' st'.length (stkC st'))
  (hl : ∀ g, sv'.ownBlock = some g → c.sv.ownBlock = some g ∨ w.heap.size ≤ g) (hv : ∀ x ∈ st', x < wW) (hn : st'.length ≤ 1024) :
  RFrOk E (w1.setCell ⟨E.fb, 230, none⟩ sv') own { c with sv := sv' } { f with stack := st' } S M n := by
 have hfl := h.lt
 have hsf : ¬ c.sv.ownBlock = some E.fb := fun e => (h.sown _ e).2 rfl
 have hrow1 : w1.row? E.fb 0 1516 = some (cat (rfS E c f)) := by rw [ho.row? hfl hsf]; exact h.row
 have hfree1 : w1.free? E.fb 0 1516 = true := by rw [ho.free? hfl hsf]; exact h.free
 have ho2 : Only (fun b => b = E.fb ∨ c.sv.ownBlock = some b) w (w1.setCell ⟨E.fb, 230, none⟩ sv') :=
  (ho.mono fun b hb => .inr hb).trans (only_cell w1 E.fb 230 sv') (fun i hi _ => .inl hi)
 have hR : ∀ b, (b = E.fb ∨ c.sv.ownBlock = some b) → rmu own E.fb c b := fun b hb => hb.elim (fun e => .inr (.inl e)) (fun e => .inr (.inr (.inl e)))
 have hmu : ∀ b, b < w.heap.size → rmu own E.fb { c with sv := sv' } b → rmu own E.fb c b := by
  rintro b hb (h1 | h1 | h1 | h1)
  ·exact .inl h1
  ·exact .inr (.inl h1)
  ·rcases hl b h1 with h2 | h2
   ·exact .inr (.inr (.inl h2))
   ·omega
  ·exact .inr (.inr (.inr h1))
 have hown : ∀ g, sv'.ownBlock = some g → own g = none ∧ g ≠ E.fb := fun g hg => by
  rcases hl g hg with h1 | h1
  ·exact h.sown g h1
  ·exact ⟨free_own h.st.lows h1, by omega⟩
 have hbase : ∀ g, sv'.ownBlock = some g → E.w0.heap.size ≤ g := fun g hg => by
  rcases hl g hg with h1 | h1
  ·exact ownsRow_ge h.stk g h1
  ·have := h.chg.only.size; omega
 have hnone : ∀ b, (b = E.fb ∨ c.sv.ownBlock = some b) → own b = none := fun b hb => hb.elim (fun e => by rw [e]; exact h.fown) (fun e => (h.sown b e).1)
 have hge : ∀ b, (b = E.fb ∨ c.sv.ownBlock = some b) → E.w0.heap.size ≤ b := fun b hb => hb.elim (fun e => by rw [e]; exact h.base) (fun e => ownsRow_ge h.stk b e)
 have hmem : ∀ g, c.mv.ownBlock = some g → ¬ (g = E.fb ∨ c.sv.ownBlock = some g) := fun g hg he => by
  rcases he with he | he
  ·exact (h.mown g hg).2.1 he
  ·exact (h.mown g hg).2.2 he
 exact { row := rfset_sv sv' hrow1, free := by rw [free?_setCell _ (World.free?_sub hfree1 (by omega))]; exact hfree1, tlen := h.tlen, base := h.base, fown := h.fown, chg := ⟨h.chg.ext, h.chg.only.trans ho2 (fun i hi he => by have := hge i hi; omega)⟩, mok := h.mok,
         stk := Only.own (ownsRow_base hr hbase) (only_cell w1 E.fb 230 sv') (fun g hg => (hown g hg).2), sown := hown, sval := hv, slen := hn, mem := Only.own h.mem ho2 hmem,
         mown := fun g hg => ⟨(h.mown g hg).1, (h.mown g hg).2.1, fun e => by
          rcases hl g e with h1 | h1
          ·exact (h.mown g hg).2.2 h1
          ·have := ownsRow_lt h.mem g hg; omega⟩
         mbyte := h.mbyte, mlen := h.mlen, logs := h.logs, code := h.code.only ho2 hR hmu, data := h.data.only ho2 hR hmu, out := h.out.only ho2 hR hmu, told := h.told.only ho2 hR hmu, jmp := jmp_only h.jmp ho2 hR hmu, st := h.st.only ho2 hnone, ms := h.ms, cnt := h.cnt, lim := h.lim, nxt := h.nxt }
end
theorem RFrOk.jumps {E : REnv} {w w' : World} {own : Go.Mun.Own} {c : RFV} {f : Fr} {S : St} {M : List (Nat × St)} {n : Nat} {v : Value} (h : RFrOk E w own c f S M n) (hb : Below w.heap.size w w') (hv : w'.ownsRow w.heap.size 3 1 v (jumps f.code f.code.length 0).length ((jumps f.code f.code.length 0).map (Value.int .i64))) : RFrOk E w' own { c with jv := v } f S M n := by
 have h1 := h.below hb
 obtain ⟨ja, jc, e, _, hI⟩ := Ints.of_own' hv
 have hrm : ∀ b, rmu own E.fb { c with jv := v } b → rmu own E.fb c b := fun b hb => hb
 refine { h1 with jmp := fun _ => ⟨ja, jc, e, hI, fun hn p hp hx => ?_⟩ }
 have h2 := ownsRow_ge hv p.block (by rw [e, hp]; rfl)
 rcases hx with hx | hx | hx | hx
 ·have := h.st.lows _ hx.1; omega
 ·have := h.lt; omega
 ·have := ownsRow_lt h.stk _ hx; omega
 ·have := ownsRow_lt h.mem _ hx; omega
end Go.Proofs.YtfflppedbopdpaaGreat
namespace Go.Proofs.YtfflppedbopdpaaGreat
open Go.RowKit Go.Mun
end Go.Proofs.YtfflppedbopdpaaGreat
namespace Go.Proofs.YtfflppedbopdpaaGreat
open Go.RowKit Go.Mun
end Go.Proofs.YtfflppedbopdpaaGreat
namespace Go.Proofs.YtfflppedbopdpaaGreat
open Go.RowKit Go.Mun
end Go.Proofs.YtfflppedbopdpaaGreat
namespace Go.Mun
def getK (l : Bts) (p n : Nat) : Bts := (l.drop p ++ List.replicate n 0).take n
end Go.Mun
namespace Go.Proofs.YtfflppedbopdpaaGreat
open Go.RowKit Go.Mun

def Whole (w : World) (b : Nat) (t : TypeId) (L : List Value) : Prop := w.heap[b]? = some (.cells L.toArray t (0, 0))
theorem Whole.new (w : World) (t : TypeId) (L : List Value) : Whole (w.alloc (.cells L.toArray t)) w.heap.size t L := heap_alloc_new w (.cells L.toArray t)
theorem Whole.lt {w : World} {b : Nat} {t : TypeId} {L : List Value} (h : Whole w b t L) : b < w.heap.size := (Array.getElem?_eq_some_iff.1 h).1
theorem Whole.set {w : World} {b : Nat} {t : TypeId} {L : List Value} (h : Whole w b t L) (i : Nat) (v : Value) : Whole (w.setCell ⟨b, i, none⟩ v) b t (L.set i v) := by
 have := setCell_heap (w := w) (b := b) (o := i) L.toArray t (0, 0) v h
 unfold Whole
 rw [this, List.setIfInBounds_toArray]
theorem Whole.only {w w' : World} {S : Nat → Prop} {b : Nat} {t : TypeId} {L : List Value} (h : Whole w b t L) (ho : Only S w w') (hs : ¬ S b) : Whole w' b t L := (ho.block b h.lt hs).trans h
theorem Whole.below {w w' : World} {b : Nat} {t : TypeId} {L : List Value} (h : Whole w b t L) (hb : Below w.heap.size w w') : Whole w' b t L := h.only (S := fun _ => False) (Only.of_below_size hb) (fun h => h)
theorem Whole.arr {w : World} {b n : Nat} {t : TypeId} {L : List Value} (h : Whole w b t L) (hn : L.length = n) : Arr w b n L := by
 subst hn
 refine ⟨?_, ?_⟩
 ·unfold World.row?
  rw [show w.heap[b]? = _ from h]
  simp
 ·unfold World.free?
  rw [show w.heap[b]? = _ from h]
  simp
theorem splice_cat {l : List (List Value)} {i : Nat} {s : List Value} (hs : l[i]? = some s) {v : List Value} (hv : v.length = s.length) {p : Nat} (hp : p = offOf l i) : splice (cat l) p v = cat (l.set i v) := by
 subst hp
 have hle := off_le hs
 rw [← lay_eq _ _ _ (by omega), lay_cat hs hv]
theorem Whole.seg {w : World} {b : Nat} {t : TypeId} {l : List (List Value)} (h : Whole w b t (cat l)) {i : Nat} {u : Value} (hs : l[i]? = some [u]) (v : Value) {p : Nat} (hp : p = offOf l i) : Whole (w.setCell ⟨b, p, none⟩ v) b t (cat (l.set i [v])) := by
 have h1 := h.set p v
 have hle := off_le hs
 rw [← splice_one _ _ _ (by subst hp; simp at hle; omega), splice_cat (v := [v]) hs rfl hp] at h1
 exact h1
theorem _root_.Go.Mun.Arr.seg {w : World} {b N : Nat} {l : List (List Value)} (h : Arr w b N (cat l)) {i : Nat} {u : Value} (hs : l[i]? = some [u]) (v : Value) {p : Nat} (hp : p = offOf l i) : Arr (w.setCell ⟨b, p, none⟩ v) b N (cat (l.set i [v])) := by
 have hle := off_le hs
 have hN := h.len
 exact ⟨cell_cat_set h.row hs v (by omega), by rw [free?_setCell _ (h.free1 (i := p) (by subst hp; simp at hle; omega))]; exact h.free⟩
end Go.Proofs.YtfflppedbopdpaaGreat
namespace Go.Proofs.YtfflppedbopdpaaGreat
open Go.RowKit Go.Mun
end Go.Proofs.YtfflppedbopdpaaGreat
namespace Go.Proofs.YtfflppedbopdpaaGreat
open Go.RowKit Go.Mun
def ownR (f : Fr) (k : Nat) : Nat := beN (getK f.code (f.next + 1) k)
def RDo (E : REnv) (jv : Value) (r : Res) (e : Ending) (w : World) : Prop :=
 match r with
 | .ok f S => e = .returned (.int .i64 0) ∧ ∃ own c M n, RFrOk E w own c f S M n ∧ c.tl = infsC infT ∧ c.jv = jv
 | .stop x f _ => e = .returned (.int .i64 (x : Int)) ∧ x ≠ 0 ∧ ∃ own c M n f' S', RFrOk E w own c f' S' M n ∧ (x = 15 → f'.gas = f.gas ∧ f'.out = f.out)
 | .none => True
end Go.Proofs.YtfflppedbopdpaaGreat
namespace Go.Proofs.YtfflppedbopdpaaGreat
open Go.RowKit Go.Mun
end Go.Proofs.YtfflppedbopdpaaGreat
namespace Go.Proofs.YtfflppedbopdpaaGreat
open Go.RowKit Go.Mun
def Easy (x : Int) : Prop := x = 0 ∨ 96 ≤ x ∧ x ≤ 159
end Go.Proofs.YtfflppedbopdpaaGreat
namespace Go.Proofs.YtfflppedbopdpaaGreat
open Go.RowKit Go.Mun
def opR (f : Fr) : Int := if f.next < f.code.length then f.code[f.next]?.getD 0 else 0
inductive Pri
 | none
 | no
 | more (k : Nat) (f : Fr)
def rstepR (pr : Fr → St → Int → Pri) (dor : Fr → St → Int → Res) (f : Fr) (S : St) : Res :=
 match ofL (opR f) with
 | Option.none => .stop 12 f S
 | some (p, q, g) =>
  if (f.stack.length : Int) < p ∨ 1024 < (f.stack.length : Int) - p + q then .stop 10 f S
  else if f.m.static = true then .none
  else match pr f S (opR f) with
   | .none => .none
   | .no => .stop 11 f S
   | .more k f1 => if g.toNat + k ≤ f1.gas ∧ f1.next = f.next ∧ f1.code = f.code ∧ f1.stack = f.stack then
     (match dor { f1 with gas := f1.gas - g.toNat - k } S (opR f) with
      | .ok f2 S2 => if f2.next = f.next then (if f.next + 1 + (ownOf (opR f)).toNat ≤ 2199023255552 then .ok { f2 with next := f.next + 1 + (ownOf (opR f)).toNat } S2 else .none) else .ok f2 S2
      | r => r)
    else if f1.next = f.next ∧ f1.code = f.code ∧ f1.stack = f.stack then .stop 11 f1 S else .none
def loopX (step : Fr → St → Res) : Nat → Fr → St → Option (Nat × Fr × St)
 | 0, _, _ => none
 | k + 1, f, S => if f.ended = true then some (0, f, S) else match step f S with
  | .ok f' S' => loopX step k f' S'
  | .stop x f' S' => if x = 0 then none else some (x, f', S')
  | .none => none
def RPri (E : REnv) (w0 : World) (own0 : Go.Mun.Own) (c0 : RFV) (S : St) (r : Pri) (e : Ending) (w : World) : Prop :=
 match r with
 | .none => True
 | .no => (∃ x : Int, e = .returned (.tuple #[.int .i64 x, .bool false])) ∧ ∃ own c f M n S', RFrOk E w own c f S' M n
 | .more k f => e = .returned (.tuple #[.int .i64 (k : Int), .bool true]) ∧ k ≤ 1099511627776 ∧ (∃ own c M n, RFrOk E w own c f S M n ∧ c.tl = infsC infT ∧ c.jv = c0.jv) ∧ Only (rmu own0 E.fb c0) w0 w
structure RTold (E : REnv) (pr : Fr → St → Int → Pri) (dor : Fr → St → Int → Res) : Prop where
 price : ∀ {w : World} {own : Go.Mun.Own} {c : RFV} {f : Fr} {S : St} {M : List (Nat × St)} {n : Nat}, RFrOk E w own c f S M n → c.tl = infsC infT → pr f S (opR f) ≠ .none → Calls Tryz.prog 178 #[.pointer (some ⟨E.fb, 0, none⟩), .int .u8 (opR f)] w (RPri E w own c S (pr f S (opR f)))
 act : ∀ {w : World} {own : Go.Mun.Own} {c : RFV} {f : Fr} {S : St} {M : List (Nat × St)} {n : Nat} {p q g : Int}, RFrOk E w own c f S M n → c.tl = infsC infT → c.jv ≠ .nilFunc → ofL (opR f) = some (p, q, g) → p ≤ f.stack.length → (f.stack.length : Int) - p + q ≤ 1024 → dor f S (opR f) ≠ .none → (∃ f0 f1 k, pr f0 S (opR f) = .more k f1 ∧ n + f.gas + (g.toNat + k) ≤ E.N) →
  Calls Tryz.prog 179 #[.pointer (some ⟨E.fb, 0, none⟩), .int .u8 (opR f), c.jv] w (RDo E c.jv (dor f S (opR f)))
attribute [local irreducible] wpStill Inf.c infZC infsC
def RRun (E : REnv) (x : Nat) (f : Fr) (S : St) (e : Ending) (w : World) : Prop :=
 e = .returned (.int .i64 (x : Int)) ∧ ∃ own c M n f' S', RFrOk E w own c f' S' M n ∧ (x = 0 → f' = f ∧ S' = S) ∧ (x = 15 → f'.gas = f.gas ∧ f'.out = f.out)
end Go.Proofs.YtfflppedbopdpaaGreat
namespace Go.Proofs.YtfflppedbopdpaaGreat
open Go.RowKit Go.Mun
def prE (f : Fr) (_ : St) (x : Int) : Pri := if x = 0 ∨ 96 ≤ x ∧ x ≤ 159 then .more 0 f else .none
def doE (f : Fr) (S : St) (x : Int) : Res :=
 if x = 0 then .ok { f with ended := true } S
 else if 96 ≤ x ∧ x ≤ 127 then .ok { f with stack := f.stack ++ [ownR f (x.toNat - 95)] } S
 else .none
end Go.Proofs.YtfflppedbopdpaaGreat
namespace Go.Proofs.YtfflppedbopdpaaGreat
open Go.RowKit Go.Mun
theorem newS_slotsD (l : List Ac) (a k : Nat) : (newS l a).slots k = 0 := by
 have h : ∀ (l : List Ac) (S : St), (∀ a k, (S a).slots k = 0) → ∀ a k, (l.foldl (fun S x => upd S x.addr (accOf x)) S a).slots k = 0 := by
  intro l
  induction l with
  | nil => intro S hS; exact hS
  | cons x l ih =>
   intro S hS
   refine ih _ fun a k => ?_
   show (upd S x.addr (accOf x) a).slots k = 0
   unfold upd
   split
   ·rfl
   ·exact hS a k
 exact h l _ (fun _ _ => rfl) a k
theorem msgS_okD (m : Msg) (a : Option Addr) (n k : Nat) : okL 129 (cat (msgS m (.slice a n k))) = true := by
 refine okL_cat (msgS_len _ _) fun s hs => ?_
 simp only [msgS, List.mem_cons, List.not_mem_nil, or_false] at hs
 rcases hs with rfl | rfl | rfl | rfl | rfl | rfl | rfl | rfl | rfl | rfl
 all_goals first | rfl | (rw [beC_len]; exact beC_ok _ _)
theorem getA_mem_some {l : List (Nat × Nat)} (hp : (l.map Prod.fst).Pairwise (· < ·)) {q : Nat × Nat} (hq : q ∈ l) : (getA q.1 l) = some q.2 := by
 induction l with
 | nil => cases hq
 | cons x l ih =>
  rw [List.map_cons, List.pairwise_cons] at hp
  rcases List.mem_cons.1 hq with rfl | h
  ·simp [getA]
  ·have h1 := hp.1 q.1 (List.mem_map.2 ⟨q, h, rfl⟩)
   have h2 := ih hp.2 h
   have hne : ¬ x.1 = q.1 := by omega
   simp [getA, hne, h2]
theorem accsX_eq {S : St} {n : Nat} {L : List RAc} {l : List Nat} (h : AccsX S n L) (hl : AccsL S l) (hz : ∀ a k, (S a).slots k = 0) : L = l.map fun a => ⟨acOf a (S a), []⟩ := by
 have h1 : L.map (fun x => x.ac.addr) = l := by
  have hu : (L.map (fun x => x.ac.addr)).Pairwise (· < ·) := h.up
  have n1 : (L.map (fun x => x.ac.addr)).Nodup := hu.imp fun {a b} hlt => by omega
  have n2 : l.Nodup := hl.1.imp fun {a b} hlt => by omega
  refine List.Perm.eq_of_pairwise (le := (· < ·)) ?_ hu hl.1 ((List.perm_ext_iff_of_nodup n1 n2).2 fun a => ?_)
  ·intro a b _ _ h1 h2; omega
  ·rw [hl.2 a]
   constructor
   ·intro ha
    obtain ⟨x, hx, rfl⟩ := List.mem_map.1 ha
    exact ⟨(h.well x hx).1.addr, (h.acc x hx).2⟩
   ·rintro ⟨_, h2⟩
    obtain ⟨x, hx, e⟩ := h.all a h2
    exact List.mem_map.2 ⟨x, hx, e⟩
 have h2 : ∀ x ∈ L, x = ⟨acOf x.ac.addr (S x.ac.addr), []⟩ := by
  intro x hx
  have e1 := (h.acc x hx).1
  have hw := h.well x hx
  have hs : x.slots = [] := by
   cases hsl : x.slots with
   | nil => rfl
   | cons q r =>
    exfalso
    have hm : q ∈ x.slots := by rw [hsl]; exact List.mem_cons_self
    have e2 := getA_mem_some hw.2.2.1 hm
    have e3 : x.acc.slots q.1 = q.2 := by unfold RAc.acc; simp [e2]
    rw [e1, hz] at e3
    exact hw.2.2.2 q hm e3.symm
  obtain ⟨⟨a, nn, b, cd⟩, sl⟩ := x
  simp only at hs
  subst hs
  have hn := hw.1.nonce.1
  simp only at e1 hn
  show (⟨⟨a, nn, b, cd⟩, []⟩ : RAc) = ⟨acOf a (S a), []⟩
  rw [← e1]
  unfold acOf RAc.acc
  simp only [RAc.mk.injEq, Ac.mk.injEq, and_true, true_and]
  omega
 rw [← h1, List.map_map]
 conv => lhs; rw [← List.map_id L]
 exact List.map_congr_left h2
theorem accsX_fsts {S : St} {cs : List (Nat × Value)} : fsts (cs.map (accP S)) = (cs.map Prod.fst).map fun a => ⟨acOf a (S a), []⟩ := by
 unfold fsts
 rw [List.map_map, List.map_map]
 rfl
def twoL (a b : Bts) : List Ac := [⟨1, 0, 1000, a⟩, ⟨2, 1, 1000, b⟩, ⟨3, 0, 1000, []⟩]
def askM (v : Nat) (d : Int) : Msg := ⟨0, 3, 1, 0, v, 0, [], 20000, d, false⟩
def movQ (a b : Bts) (v : Nat) : St := ((newS (twoL a b)).setBal 3 (1000 - v)).setBal 1 (1000 + v)
end Go.Proofs.YtfflppedbopdpaaGreat
namespace Go.Proofs.YtfflppedbopdpaaGreat
open Go.RowKit Go.Mun
theorem build81n (a b : Nat) (p : Option Addr) (k c : Nat) (x : Int) : fillL 55 (plOf zs81) (cat zs81) [(0, .agg (beC 20 a).toArray), (2, .agg (beC 32 b).toArray), (3, .slice p k c), (1, .int .i64 x)] = some (cat (acS ⟨a, x, b, []⟩ (.slice p k c) (.slice none 0 0))) := by
 rw [fillL_cats _ _ _ zs81_len]
 ·rfl
 ·rw [lens81]
  refine fits_cons ?_ (fits_cons ?_ (fits_cons rfl (fits_cons rfl (fits_nil _))))
  ·show some 20 = some (beC 20 a).length; rw [beC_len]
  ·show some 32 = some (beC 32 b).length; rw [beC_len]
theorem sl31_3 : SliceLit Tryz.prog 45 35 55 3 (cat [cat zs81, cat zs81, cat zs81]) := ⟨Tryz.underlying45, ⟨_, .agg (cat zs81).toArray, rfl, by kernel_rfl, by kernel_rfl, by kernel_rfl⟩, by decide, by kernel_rfl, by decide⟩
def fill31_3 (p : List (Nat × Value)) : Option (List Value) := fillL (3 * 55) ((List.range 3).map fun i => (i * 55, 55)) (cat [cat zs81, cat zs81, cat zs81]) p
theorem bs31_3 (ρ : Operand → Value) (dst : Option Tmp) (x y z : Operand) (t : TypeId) (pos : String) (after : Array Edge) (gd : Option (Nat × Bool)) (w : World) :
  (execOp ρ ⟨dst, .buildSlice 45 3 #[(0, x), (1, y), (2, z)], t, pos, after, gd⟩).run Tryz.prog w = asNext (bsRow Tryz.prog 45 35 3 [(0, ρ x), (1, ρ y), (2, ρ z)] w (fill31_3 [(0, ρ x), (1, ρ y), (2, ρ z)])) :=
 ex_bslice ρ dst t pos after gd w sl31_3 [(0, x), (1, y), (2, z)]
theorem fill31_three (a b c : List Value) (ha : a.length = 55) (hb : b.length = 55) (hc : c.length = 55) : fill31_3 [(0, .agg a.toArray), (1, .agg b.toArray), (2, .agg c.toArray)] = some (cat [a, b, c]) := by
 unfold fill31_3
 have h1 : lens [cat zs81, cat zs81, cat zs81] = [55, 55, 55] := by kernel_rfl
 have h3 : plOf [cat zs81, cat zs81, cat zs81] = (List.range 3).map fun i => (i * 55, 55) := by kernel_rfl
 rw [← h3, fillL_cats _ _ _ (by kernel_rfl)]
 ·rfl
 ·rw [h1]
  refine fits_cons ?_ (fits_cons ?_ (fits_cons ?_ (fits_nil _)))
  ·show some 55 = some a.length; rw [ha]
  ·show some 55 = some b.length; rw [hb]
  ·show some 55 = some c.length; rw [hc]
attribute [go_sem ↓] bs31_3
end Go.Proofs.YtfflppedbopdpaaGreat
namespace Go.Proofs.YtfflppedbopdpaaGreat
open Go.RowKit Go.Mun
theorem ex_eql {P : Program} (ρ : Operand → Value) (dst : Option Tmp) (x y : Operand) (t t2 ty : TypeId) (pos : String) (after : Array Edge) (gd : Option (Nat × Bool)) (w : World) {xs ys : Array Value} {r : Bool} (hm : P.eqGuardType P.depth t = false) (hx : ρ x = .agg xs) (hy : ρ y = .agg ys)
  (h : (binOp .eql t (.agg xs) (.agg ys)).run P w = .ok (.bool r) w) : (execOp ρ ⟨dst, .binOp .eql t x y t2, ty, pos, after, gd⟩).run P w = .ok (.value (.bool r)) w := by
 simp [execOp, hx, hy, Sem.run_bind, run_eqGuard_agg (hm := hm), h]
theorem eg23n : Tryz.prog.eqGuardType Tryz.prog.depth 23 = false := by kernel_rfl
end Go.Proofs.YtfflppedbopdpaaGreat
namespace Go.Proofs.YtfflppedbopdpaaGreat
open Go.RowKit Go.Mun
theorem law_there (a : Nat) (ha : a < wA) (w : World) : Calls Tryz.prog 14 #[.agg (beC 20 a).toArray] w fun e w' => e = .returned (.bool (decide (a = 1 ∨ a = 2 ∨ a = 3))) ∧ Below w.heap.size w w' := by
 have hl0 : (beC 20 a).length = 20 := by simp
 have N1 := Lib.hid (fun w => ref_name 1 (by decide) w)
 have N2 := Lib.hid (fun w => ref_name 2 (by decide) w)
 have N3 := Lib.hid (fun w => ref_name 3 (by decide) w)
 have HQ : Hid (∀ b, b < wA → ∀ w, (binOp .eql 23 (.agg (beC 20 a).toArray) (.agg (beC 20 b).toArray)).run Tryz.prog w = .ok (.bool (decide (a = b))) w) := by
  show ∀ b, b < wA → ∀ w, _
  intro b hb w
  have := eql_of (fun d => eqD23 (a := a) (b := b) ha hb w d)
  simpa using this
 have Q1 := Lib.hid (HQ.out 1 (by decide))
 have Q2 := Lib.hid (HQ.out 2 (by decide))
 have Q3 := Lib.hid (HQ.out 3 (by decide))
 obtain ⟨w0, e0⟩ : ∃ w0, w0 = w.alloc (.cells (beC 20 a).toArray 23) := ⟨_, rfl⟩
 have b0 : Below w.heap.size w w0 := by rw [e0]; exact (Below.refl _ _).alloc (Nat.le_refl _) _
 have r0 : w0.row? w.heap.size 0 20 = some (beC 20 a) := by rw [e0]; exact World.row?_alloc_at _ _ _ rfl hl0
 obtain ⟨T, hT⟩ : ∃ T : World → Prop, T = fun W => Below w.heap.size w W ∧ W.row? w.heap.size 0 20 = some (beC 20 a) := ⟨_, rfl⟩
 have HT := Lib.hid hT
 have HTN : Hid (∀ w2 w3, T w2 → Below w2.heap.size w2 w3 → T w3) := by show ∀ w2 w3, T w2 → Below w2.heap.size w2 w3 → T w3; rw [hT]; intro w2 w3 h hb; exact ⟨h.1.trans (hb.mono h.1.size), ((brow hb).1 _ _ _ (World.row?_lt h.2)).trans h.2⟩
 have HTG : Hid (∀ w2, T w2 → Below w.heap.size w w2) := by show ∀ w2, T w2 → _; rw [hT]; intro w2 h; exact h.1
 have t0 : T w0.drew := HTN.out w0 _ (by rw [hT]; exact ⟨b0, r0⟩) (Below.refl _ _).drew
 have HE0 := Lib.hid e0
 clear e0 b0 r0 hT ha
 by_cases k1 : a = 1
 ·rw [show decide (a = 1) = true from decide_eq_true k1] at Q1
  have HD : Hid (decide (a = 1 ∨ a = 2 ∨ a = 3) = true) := decide_eq_true (.inl k1)
  clear k1
  go_enter Tryz.func14, Tryz.ntmps14
  go_wp2_with fail
  rw [← HE0.out]
  refine wp_region_tree T [] (.take 0 (.alt 1 (.pure 2 (.pure 3 (.take 4 (.take 5 (.take 6 (.pure 7 (.pure 8 (.take 9 (.take 10 (.take 11 (.pure 12 (.pure 13 .fin)))))))))))) .stop)) (by kernel_rfl) (by kernel_rfl) ?_
  refine tree_take ?_ t0 rfl (by rfl) (fun w' hs => ?_) (fun _ _ _ h => h) ?_
  rotate_left
  ·rw [HT.out] at hs
   obtain ⟨_, g1⟩ := hs
   go_simp
   try rfl
  simp only [Act.put, tsa, tsb, tsc]
  refine tree_run rfl (fun K hK => ?_)
  go_simp
  refine (N1.out _).mono ?_
  rintro e y1 ⟨rfl, hby⟩
  have t1 : T y1 := HTN.out _ _ t0 hby
  clear hby
  refine hK.out _ _ t1 ?_
  clear hK K
  refine tree_pure (.bool true) rfl (by rfl) (fun w' hs => ?_) (fun _ _ _ h => h) ?_
  ·clear hs
   exact ex_eql _ _ _ _ _ _ _ _ _ _ _ eg23n rfl rfl (Q1.out _)
  simp only [Act.put, tsa, tsb, tsc]
  refine tree_pure ?_ rfl (by rfl) (fun w' hs => ?_) (fun _ _ _ h => h) ?_
  rotate_left
  ·clear hs
   go_simp
   try rfl
  simp only [Act.put, tsa, tsb, tsc]
  iterate 3
   refine tree_skip t1 rfl (by rfl) (fun _ _ _ h => h) ?_
   simp only [Act.put, tsa, tsb, tsc]
  iterate 2
   refine tree_pure ?_ rfl (by rfl) (fun w' hs => ?_) (fun _ _ _ h => h) ?_
   rotate_left
   ·clear hs
    go_simp
    try rfl
   simp only [Act.put, tsa, tsb, tsc]
  iterate 3
   refine tree_skip t1 rfl (by rfl) (fun _ _ _ h => h) ?_
   simp only [Act.put, tsa, tsb, tsc]
  iterate 2
   refine tree_pure ?_ rfl (by rfl) (fun w' hs => ?_) (fun _ _ _ h => h) ?_
   rotate_left
   ·clear hs
    go_simp
    try rfl
   simp only [Act.put, tsa, tsb, tsc]
  refine tree_fin ?_
  have HB := HTG.out _ t1
  go_wp2
  go_ret
  rw [HD.out]
  exact ⟨rfl, HB⟩
 by_cases k2 : a = 2
 ·rw [show decide (a = 1) = false from decide_eq_false k1] at Q1
  rw [show decide (a = 2) = true from decide_eq_true k2] at Q2
  have HD : Hid (decide (a = 1 ∨ a = 2 ∨ a = 3) = true) := decide_eq_true (.inr (.inl k2))
  clear k1 k2
  go_enter Tryz.func14, Tryz.ntmps14
  go_wp2_with fail
  rw [← HE0.out]
  refine wp_region_tree T [] (.take 0 (.alt 1 (.pure 2 (.pure 3 (.take 4 (.alt 5 (.pure 6 (.pure 7 (.pure 8 (.take 9 (.take 10 (.take 11 (.pure 12 (.pure 13 .fin)))))))) .stop)))) .stop)) (by kernel_rfl) (by kernel_rfl) ?_
  refine tree_take ?_ t0 rfl (by rfl) (fun w' hs => ?_) (fun _ _ _ h => h) ?_
  rotate_left
  ·rw [HT.out] at hs
   obtain ⟨_, g1⟩ := hs
   go_simp
   try rfl
  simp only [Act.put, tsa, tsb, tsc]
  refine tree_run rfl (fun K hK => ?_)
  go_simp
  refine (N1.out _).mono ?_
  rintro e y1 ⟨rfl, hby⟩
  have t1 : T y1 := HTN.out _ _ t0 hby
  clear hby
  refine hK.out _ _ t1 ?_
  clear hK K
  refine tree_pure (.bool false) rfl (by rfl) (fun w' hs => ?_) (fun _ _ _ h => h) ?_
  ·clear hs
   exact ex_eql _ _ _ _ _ _ _ _ _ _ _ eg23n rfl rfl (Q1.out _)
  simp only [Act.put, tsa, tsb, tsc]
  refine tree_pure ?_ rfl (by rfl) (fun w' hs => ?_) (fun _ _ _ h => h) ?_
  rotate_left
  ·clear hs
   go_simp
   try rfl
  simp only [Act.put, tsa, tsb, tsc]
  refine tree_take ?_ t1 rfl (by rfl) (fun w' hs => ?_) (fun _ _ _ h => h) ?_
  rotate_left
  ·rw [HT.out] at hs
   obtain ⟨_, g1⟩ := hs
   go_simp
   try rfl
  simp only [Act.put, tsa, tsb, tsc]
  refine tree_run rfl (fun K hK => ?_)
  go_simp
  refine (N2.out _).mono ?_
  rintro e y2 ⟨rfl, hby⟩
  have t2 : T y2 := HTN.out _ _ t1 hby
  clear hby
  refine hK.out _ _ t2 ?_
  clear hK K
  refine tree_pure (.bool true) rfl (by rfl) (fun w' hs => ?_) (fun _ _ _ h => h) ?_
  ·clear hs
   exact ex_eql _ _ _ _ _ _ _ _ _ _ _ eg23n rfl rfl (Q2.out _)
  simp only [Act.put, tsa, tsb, tsc]
  iterate 2
   refine tree_pure ?_ rfl (by rfl) (fun w' hs => ?_) (fun _ _ _ h => h) ?_
   rotate_left
   ·clear hs
    go_simp
    try rfl
   simp only [Act.put, tsa, tsb, tsc]
  iterate 3
   refine tree_skip t2 rfl (by rfl) (fun _ _ _ h => h) ?_
   simp only [Act.put, tsa, tsb, tsc]
  iterate 2
   refine tree_pure ?_ rfl (by rfl) (fun w' hs => ?_) (fun _ _ _ h => h) ?_
   rotate_left
   ·clear hs
    go_simp
    try rfl
   simp only [Act.put, tsa, tsb, tsc]
  refine tree_fin ?_
  have HB := HTG.out _ t2
  go_wp2
  go_ret
  rw [HD.out]
  exact ⟨rfl, HB⟩
 by_cases k3 : a = 3
 ·rw [show decide (a = 1) = false from decide_eq_false k1] at Q1
  rw [show decide (a = 2) = false from decide_eq_false k2] at Q2
  rw [show decide (a = 3) = true from decide_eq_true k3] at Q3
  have HD : Hid (decide (a = 1 ∨ a = 2 ∨ a = 3) = true) := decide_eq_true (.inr (.inr k3))
  clear k1 k2 k3
  go_enter Tryz.func14, Tryz.ntmps14
  go_wp2_with fail
  rw [← HE0.out]
  refine wp_region_tree T [] (.take 0 (.alt 1 (.pure 2 (.pure 3 (.take 4 (.alt 5 (.pure 6 (.pure 7 (.pure 8 (.take 9 (.alt 10 (.pure 11 (.pure 12 (.pure 13 .fin))) .stop))))) .stop)))) .stop)) (by kernel_rfl) (by kernel_rfl) ?_
  refine tree_take ?_ t0 rfl (by rfl) (fun w' hs => ?_) (fun _ _ _ h => h) ?_
  rotate_left
  ·rw [HT.out] at hs
   obtain ⟨_, g1⟩ := hs
   go_simp
   try rfl
  simp only [Act.put, tsa, tsb, tsc]
  refine tree_run rfl (fun K hK => ?_)
  go_simp
  refine (N1.out _).mono ?_
  rintro e y1 ⟨rfl, hby⟩
  have t1 : T y1 := HTN.out _ _ t0 hby
  clear hby
  refine hK.out _ _ t1 ?_
  clear hK K
  refine tree_pure (.bool false) rfl (by rfl) (fun w' hs => ?_) (fun _ _ _ h => h) ?_
  ·clear hs
   exact ex_eql _ _ _ _ _ _ _ _ _ _ _ eg23n rfl rfl (Q1.out _)
  simp only [Act.put, tsa, tsb, tsc]
  refine tree_pure ?_ rfl (by rfl) (fun w' hs => ?_) (fun _ _ _ h => h) ?_
  rotate_left
  ·clear hs
   go_simp
   try rfl
  simp only [Act.put, tsa, tsb, tsc]
  refine tree_take ?_ t1 rfl (by rfl) (fun w' hs => ?_) (fun _ _ _ h => h) ?_
  rotate_left
  ·rw [HT.out] at hs
   obtain ⟨_, g1⟩ := hs
   go_simp
   try rfl
  simp only [Act.put, tsa, tsb, tsc]
  refine tree_run rfl (fun K hK => ?_)
  go_simp
  refine (N2.out _).mono ?_
  rintro e y2 ⟨rfl, hby⟩
  have t2 : T y2 := HTN.out _ _ t1 hby
  clear hby
  refine hK.out _ _ t2 ?_
  clear hK K
  refine tree_pure (.bool false) rfl (by rfl) (fun w' hs => ?_) (fun _ _ _ h => h) ?_
  ·clear hs
   exact ex_eql _ _ _ _ _ _ _ _ _ _ _ eg23n rfl rfl (Q2.out _)
  simp only [Act.put, tsa, tsb, tsc]
  iterate 2
   refine tree_pure ?_ rfl (by rfl) (fun w' hs => ?_) (fun _ _ _ h => h) ?_
   rotate_left
   ·clear hs
    go_simp
    try rfl
   simp only [Act.put, tsa, tsb, tsc]
  refine tree_take ?_ t2 rfl (by rfl) (fun w' hs => ?_) (fun _ _ _ h => h) ?_
  rotate_left
  ·rw [HT.out] at hs
   obtain ⟨_, g1⟩ := hs
   go_simp
   try rfl
  simp only [Act.put, tsa, tsb, tsc]
  refine tree_run rfl (fun K hK => ?_)
  go_simp
  refine (N3.out _).mono ?_
  rintro e y3 ⟨rfl, hby⟩
  have t3 : T y3 := HTN.out _ _ t2 hby
  clear hby
  refine hK.out _ _ t3 ?_
  clear hK K
  refine tree_pure (.bool true) rfl (by rfl) (fun w' hs => ?_) (fun _ _ _ h => h) ?_
  ·clear hs
   exact ex_eql _ _ _ _ _ _ _ _ _ _ _ eg23n rfl rfl (Q3.out _)
  simp only [Act.put, tsa, tsb, tsc]
  iterate 2
   refine tree_pure ?_ rfl (by rfl) (fun w' hs => ?_) (fun _ _ _ h => h) ?_
   rotate_left
   ·clear hs
    go_simp
    try rfl
   simp only [Act.put, tsa, tsb, tsc]
  refine tree_fin ?_
  have HB := HTG.out _ t3
  go_wp2
  go_ret
  rw [HD.out]
  exact ⟨rfl, HB⟩
 rw [show decide (a = 1) = false from decide_eq_false k1] at Q1
 rw [show decide (a = 2) = false from decide_eq_false k2] at Q2
 rw [show decide (a = 3) = false from decide_eq_false k3] at Q3
 have HD : Hid (decide (a = 1 ∨ a = 2 ∨ a = 3) = false) := decide_eq_false (by omega)
 clear k1 k2 k3
 go_enter Tryz.func14, Tryz.ntmps14
 go_wp2_with fail
 rw [← HE0.out]
 refine wp_region_tree T [] (.take 0 (.alt 1 (.pure 2 (.pure 3 (.take 4 (.alt 5 (.pure 6 (.pure 7 (.pure 8 (.take 9 (.alt 10 (.pure 11 (.pure 12 (.pure 13 .fin))) .stop))))) .stop)))) .stop)) (by kernel_rfl) (by kernel_rfl) ?_
 refine tree_take ?_ t0 rfl (by rfl) (fun w' hs => ?_) (fun _ _ _ h => h) ?_
 rotate_left
 ·rw [HT.out] at hs
  obtain ⟨_, g1⟩ := hs
  go_simp
  try rfl
 simp only [Act.put, tsa, tsb, tsc]
 refine tree_run rfl (fun K hK => ?_)
 go_simp
 refine (N1.out _).mono ?_
 rintro e y1 ⟨rfl, hby⟩
 have t1 : T y1 := HTN.out _ _ t0 hby
 clear hby
 refine hK.out _ _ t1 ?_
 clear hK K
 refine tree_pure (.bool false) rfl (by rfl) (fun w' hs => ?_) (fun _ _ _ h => h) ?_
 ·clear hs
  exact ex_eql _ _ _ _ _ _ _ _ _ _ _ eg23n rfl rfl (Q1.out _)
 simp only [Act.put, tsa, tsb, tsc]
 refine tree_pure ?_ rfl (by rfl) (fun w' hs => ?_) (fun _ _ _ h => h) ?_
 rotate_left
 ·clear hs
  go_simp
  try rfl
 simp only [Act.put, tsa, tsb, tsc]
 refine tree_take ?_ t1 rfl (by rfl) (fun w' hs => ?_) (fun _ _ _ h => h) ?_
 rotate_left
 ·rw [HT.out] at hs
  obtain ⟨_, g1⟩ := hs
  go_simp
  try rfl
 simp only [Act.put, tsa, tsb, tsc]
 refine tree_run rfl (fun K hK => ?_)
 go_simp
 refine (N2.out _).mono ?_
 rintro e y2 ⟨rfl, hby⟩
 have t2 : T y2 := HTN.out _ _ t1 hby
 clear hby
 refine hK.out _ _ t2 ?_
 clear hK K
 refine tree_pure (.bool false) rfl (by rfl) (fun w' hs => ?_) (fun _ _ _ h => h) ?_
 ·clear hs
  exact ex_eql _ _ _ _ _ _ _ _ _ _ _ eg23n rfl rfl (Q2.out _)
 simp only [Act.put, tsa, tsb, tsc]
 iterate 2
  refine tree_pure ?_ rfl (by rfl) (fun w' hs => ?_) (fun _ _ _ h => h) ?_
  rotate_left
  ·clear hs
   go_simp
   try rfl
  simp only [Act.put, tsa, tsb, tsc]
 refine tree_take ?_ t2 rfl (by rfl) (fun w' hs => ?_) (fun _ _ _ h => h) ?_
 rotate_left
 ·rw [HT.out] at hs
  obtain ⟨_, g1⟩ := hs
  go_simp
  try rfl
 simp only [Act.put, tsa, tsb, tsc]
 refine tree_run rfl (fun K hK => ?_)
 go_simp
 refine (N3.out _).mono ?_
 rintro e y3 ⟨rfl, hby⟩
 have t3 : T y3 := HTN.out _ _ t2 hby
 clear hby
 refine hK.out _ _ t3 ?_
 clear hK K
 refine tree_pure (.bool false) rfl (by rfl) (fun w' hs => ?_) (fun _ _ _ h => h) ?_
 ·clear hs
  exact ex_eql _ _ _ _ _ _ _ _ _ _ _ eg23n rfl rfl (Q3.out _)
 simp only [Act.put, tsa, tsb, tsc]
 iterate 2
  refine tree_pure ?_ rfl (by rfl) (fun w' hs => ?_) (fun _ _ _ h => h) ?_
  rotate_left
  ·clear hs
   go_simp
   try rfl
  simp only [Act.put, tsa, tsb, tsc]
 refine tree_fin ?_
 have HB := HTG.out _ t3
 go_wp2
 go_ret
 rw [HD.out]
 exact ⟨rfl, HB⟩
def two3 : List Value := cat [cat (acS ⟨1, 0, 1000, []⟩ (.slice none 0 0) (.slice none 0 0)), cat (acS ⟨2, 1, 1000, []⟩ (.slice none 0 0) (.slice none 0 0)), cat (acS ⟨3, 0, 1000, []⟩ (.slice none 0 0) (.slice none 0 0))]
theorem law_two3 (w : World) : Calls Tryz.prog 16 #[.slice none 0 0, .slice none 0 0] w fun e w' => ∃ g, e = .returned (.slice (some ⟨g, 0, none⟩) 3 3) ∧ Below w.heap.size w w' ∧ w.heap.size ≤ g ∧ w'.ownsRow 0 35 55 (.slice (some ⟨g, 0, none⟩) 3 3) 3 two3 := by
 have o1 : ofW 1000 = 1000 := by kernel_rfl
 have N1 := Lib.hid (fun w => ref_name 1 (by decide) w)
 have N2 := Lib.hid (fun w => ref_name 2 (by decide) w)
 have N3 := Lib.hid (fun w => ref_name 3 (by decide) w)
 have O1 := Lib.hid (fun w => ref_of 1000 (by decide) (by decide) w)
 rw [o1] at O1
 have b1 := build81a 1 1000 none 0 0
 have b2 := build81n 2 1000 none 0 0 1
 have b3 := build81b 3 1000
 obtain ⟨X, hX⟩ : ∃ X, X = cat (acS ⟨1, 0, 1000, []⟩ (.slice none 0 0) (.slice none 0 0)) := ⟨_, rfl⟩
 obtain ⟨Y, hY⟩ : ∃ Y, Y = cat (acS ⟨2, 1, 1000, []⟩ (.slice none 0 0) (.slice none 0 0)) := ⟨_, rfl⟩
 obtain ⟨Z, hZ⟩ : ∃ Z, Z = cat (acS ⟨3, 0, 1000, []⟩ (.slice none 0 0) (.slice none 0 0)) := ⟨_, rfl⟩
 have lX : X.length = 55 := by rw [hX]; exact acS_len _ _ _
 have lY : Y.length = 55 := by rw [hY]; exact acS_len _ _ _
 have lZ : Z.length = 55 := by rw [hZ]; exact acS_len _ _ _
 have bf := fill31_three X Y Z lX lY lZ
 rw [← hX] at b1
 rw [← hY] at b2
 rw [← hZ] at b3
 have HX := Lib.hid hX
 have HY := Lib.hid hY
 have HZ := Lib.hid hZ
 clear o1 hX hY hZ
 go_enter Tryz.func16, Tryz.ntmps16
 go_wp2_with fail
 refine (N1.out _).mono ?_
 rintro e w1 ⟨rfl, h1⟩
 have B1 := Lib.hid h1
 clear h1
 go_wp2_with fail
 refine (O1.out _).mono ?_
 rintro e w2 ⟨rfl, h2⟩
 have B2 : Hid (Below w.heap.size w w2) := B1.out.trans (h2.mono B1.out.size)
 clear h2
 go_wp2_with fail
 refine (N2.out _).mono ?_
 rintro e w3 ⟨rfl, h3⟩
 have B3 : Hid (Below w.heap.size w w3) := B2.out.trans (h3.mono B2.out.size)
 clear h3
 go_wp2_with fail
 refine (O1.out _).mono ?_
 rintro e w4 ⟨rfl, h4⟩
 have B4 : Hid (Below w.heap.size w w4) := B3.out.trans (h4.mono B3.out.size)
 clear h4
 go_wp2_with fail
 refine (N3.out _).mono ?_
 rintro e w5 ⟨rfl, h5⟩
 have B5 : Hid (Below w.heap.size w w5) := B4.out.trans (h5.mono B4.out.size)
 clear h5
 go_wp2_with fail
 refine (O1.out _).mono ?_
 rintro e w6 ⟨rfl, h6⟩
 have B6 : Hid (Below w.heap.size w w6) := B5.out.trans (h6.mono B5.out.size)
 clear h6
 go_wp2
 go_ret
 refine ⟨_, rfl, B6.out.alloc B6.out.size _, B6.out.size, ?_⟩
 have e3 : two3 = cat [X, Y, Z] := by rw [HX.out, HY.out, HZ.out]; rfl
 have l3 : (cat [X, Y, Z]).length = 165 := by rw [cat_len_cons, cat_len_cons, cat_len_cons, lX, lY, lZ]; rfl
 rw [e3]
 exact own_newR _ _ _ _ _ l3 (by decide)
end Go.Proofs.YtfflppedbopdpaaGreat
namespace Go.Proofs.YtfflppedbopdpaaGreat
open Go.RowKit Go.Mun
end Go.Proofs.YtfflppedbopdpaaGreat
namespace Go.Proofs.YtfflppedbopdpaaGreat
open Go.RowKit Go.Mun
theorem noB (g e : Int) : fillL 24 (plOf zs46) (cat zs46) [(0, .int .i64 g), (1, .int .i64 e)] = some (cat (outS ⟨g, e, [], [], 0⟩ (.slice none 0 0) (.slice none 0 0))) := by
 rw [fillL_cats _ _ _ zs46_len]
 ·rfl
 ·rw [lens46]
  exact fits_cons rfl (fits_cons rfl (fits_nil _))
theorem noBox (w : World) : (w.alloc (.cells (cat zs46).toArray 41)).free? w.heap.size 0 24 = true := World.free?_alloc_at _ _ rfl (by rw [zs46_len]; omega)
def NoOut (w : World) (g x : Int) (e : Ending) (w' : World) : Prop := e = .returned (.agg (cat (outS ⟨g, x, [], [], 0⟩ (.slice none 0 0) (.slice none 0 0))).toArray) ∧ Below w.heap.size w w'
theorem evm_failed (g x : Int) (w : World) : Calls Tryz.prog 157 #[.int .i64 g, .int .i64 x] w (NoOut w g x) := by
 have hf := noBox w
 have hbld := noB g x
 have hok := outS_ok ⟨g, x, [], [], 0⟩ none none 0 0 0 0
 go_enter Tryz.func157, Tryz.ntmps157
 go_wp2
 exact ret_row ty46 rfl _ rfl rfl hf hok ⟨rfl, ((Below.refl _ _).alloc (Nat.le_refl _) _).setCells (Nat.le_refl _) _ _⟩
def mayN (S : St) (m : Msg) (x : Int) : Prop := (x = 17 ∧ 64 < m.depth) ∨ (x = 16 ∧ m.depth ≤ 64 ∧ (S m.frm).bal < m.value)
attribute [local irreducible] TabRel
end Go.Proofs.YtfflppedbopdpaaGreat
namespace Go.Proofs.YtfflppedbopdpaaGreat
open Go.RowKit Go.Mun
theorem u8L_beN (l : Bts) (n : Nat) (h : Byt l) (hn : l.length = n) : u8L l = beC n (beN l) := by
 subst hn
 unfold beC
 rw [be_beN l h]
 rfl
def RunP4 (w : World) (own : Go.Mun.Own) (sb : Nat) (S' : St) (M : List (Nat × St)) (N : Nat) (o : Outc) (e : Ending) (w' : World) : Prop :=
 ∃ ov lv own' n', e = .returned (.agg (cat (outS o ov lv)).toArray) ∧ StateAt TU w' own' sb S' M n' ∧ Chg w w' own own' ∧ OutAt w' own' w.heap.size ov lv o ∧ n' ≤ N
def adrQ (a : Nat) (n : Int) : Nat := beN (lowL (kecL (adrB (be 20 a) n)))
theorem beQ_byt (k a : Nat) : Byt (be k a) := by
 intro x hx
 unfold be at hx
 obtain ⟨i, _, rfl⟩ := List.mem_map.1 hx
 have := Nat.mod_lt (a / 256 ^ (k - 1 - i)) (show 0 < 256 by decide)
 omega
theorem u8L_beQ (k a : Nat) : u8L (be k a) = beC k a := rfl
theorem adrQ_low (a : Nat) (n : Int) : u8L (lowL (kecL (adrB (be 20 a) n))) = beC 20 (adrQ a n) := by
 unfold adrQ
 have h1 := kecL_byte (adrB (be 20 a) n)
 have h2 := kecL_len (adrB (be 20 a) n)
 generalize kecL (adrB (be 20 a) n) = K at *
 exact u8L_beN _ 20 (fun x hx => by unfold lowL at hx; have := h1 x (List.mem_of_mem_drop (List.mem_of_mem_take hx)); omega) (lowL_len K h2)
def adr2Q (a s : Nat) (d : Bts) : Nat := beN (lowL (kecL (adr2B (be 20 a) (be 32 s) d)))
theorem adr2Q_low (a s : Nat) (d : Bts) : u8L (lowL (kecL (adr2B (be 20 a) (be 32 s) d))) = beC 20 (adr2Q a s d) := by
 unfold adr2Q
 have h1 := kecL_byte (adr2B (be 20 a) (be 32 s) d)
 have h2 := kecL_len (adr2B (be 20 a) (be 32 s) d)
 generalize kecL (adr2B (be 20 a) (be 32 s) d) = K at *
 exact u8L_beN _ 20 (fun x hx => by unfold lowL at hx; have := h1 x (List.mem_of_mem_drop (List.mem_of_mem_take hx)); omega) (lowL_len K h2)
theorem adr2Q_lt (a s : Nat) (d : Bts) : adr2Q a s d < wA := by
 unfold adr2Q
 have h1 := kecL_byte (adr2B (be 20 a) (be 32 s) d)
 have h2 := kecL_len (adr2B (be 20 a) (be 32 s) d)
 generalize kecL (adr2B (be 20 a) (be 32 s) d) = K at *
 have h3 := beN_lt (lowL K) (fun x hx => by unfold lowL at hx; have := h1 x (List.mem_of_mem_drop (List.mem_of_mem_take hx)); omega)
 rw [lowL_len K h2] at h3
 exact h3
theorem byt_rng {l : Bts} (h : Byt l) : ∀ x ∈ l, 0 ≤ x ∧ x < 256 := fun x hx => by have := h x hx; omega
theorem address2_nat (a s : Nat) (d : Bts) (p : Option Addr) (n c : Nat) (hn : n = d.length) (w : World) (hI : Ints w .u8 p c d) (hd : Byt d) :
  Calls Tryz.prog 11 #[.agg (beC 20 a).toArray, .agg (beC 32 s).toArray, .slice p n c] w fun e w' => e = .returned (.agg (beC 20 (adr2Q a s d)).toArray) ∧ Below w.heap.size w w' := by
 have h := evm_address2 (be 20 a) (be 32 s) d (be_len _ _) (be_len _ _) (byt_rng (beQ_byt 20 a)) (byt_rng (beQ_byt 32 s)) p n c hn w hI (byt_rng hd)
 rw [u8L_beQ, u8L_beQ] at h
 generalize beC 20 a = C at h ⊢
 generalize beC 32 s = C2 at h ⊢
 refine h.mono ?_
 intro e w' hh
 rw [adr2Q_low] at hh
 exact hh
theorem ref_address_nat (a : Nat) (n : Int) (hn0 : -9223372036854775808 ≤ n) (hn : n ≤ 9223372036854775807) (w : World) :
  Calls Tryz.prog 10 #[.agg (beC 20 a).toArray, .int .i64 n] w fun e w' => e = .returned (.agg (beC 20 (adrQ a n)).toArray) ∧ Below w.heap.size w w' := by
 have h := ref_address (be 20 a) (be_len _ _) (byt_rng (beQ_byt 20 a)) n hn0 hn w
 rw [u8L_beQ] at h
 generalize beC 20 a = C at h ⊢
 refine h.mono ?_
 intro e w' hh
 rw [adrQ_low] at hh
 exact hh
theorem ref_address2_nat (a s : Nat) (d : Bts) (p : Option Addr) (n c : Nat) (hn : n = d.length) (hn2 : n ≤ 70000000000000) (w : World) (hI : Ints w .u8 p c d) (hd : Byt d) :
  Calls Tryz.prog 12 #[.agg (beC 20 a).toArray, .agg (beC 32 s).toArray, .slice p n c] w fun e w' => e = .returned (.agg (beC 20 (adr2Q a s d)).toArray) ∧ Below w.heap.size w w' := by
 have h := ref_address2 (be 20 a) (be 32 s) d (be_len _ _) (be_len _ _) (byt_rng (beQ_byt 20 a)) (byt_rng (beQ_byt 32 s)) p n c hn hn2 w hI (byt_rng hd)
 rw [u8L_beQ, u8L_beQ] at h
 generalize beC 20 a = C at h ⊢
 generalize beC 32 s = C2 at h ⊢
 refine h.mono ?_
 intro e w' hh
 rw [adr2Q_low] at hh
 exact hh
structure CrQ (w0 : World) (own0 : Go.Mun.Own) (sb rb tb : Nat) (cx : Ctx) (tab : Tabl) (m : Msg) (dv : Value) (d0 : Value) (l0 : Bts) (w : World) (own : Go.Mun.Own) (S : St) (M : List (Nat × St)) (n : Nat) : Prop where
 msg : Arr w w0.heap.size 129 (cat (msgS m dv))
 res : w.free? (w0.heap.size + 1) 0 24 = true
 o1 : own w0.heap.size = none
 o2 : own (w0.heap.size + 1) = none
 run0 : RunAt w0 own0 sb rb tb cx tab
 st : StateAt TU w own sb S M n
 chg : Chg w0 w own0 own
 data0 : RoAt w0 (fun b => own0 b ≠ none) d0 l0
section
variable {w0 : World} {own0 : Go.Mun.Own} {sb rb tb : Nat} {cx : Ctx} {tab : Tabl} {m : Msg} {dv d0 : Value} {l0 : Bts} {w : World} {own : Go.Mun.Own} {S : St} {M : List (Nat × St)} {n : Nat}
theorem CrQ.run (h : CrQ w0 own0 sb rb tb cx tab m dv d0 l0 w own S M n) : RunAt w own sb rb tb cx tab := h.run0.chg h.chg
theorem CrQ.data (h : CrQ w0 own0 sb rb tb cx tab m dv d0 l0 w own S M n) : RoAt w (fun b => own b ≠ none) d0 l0 := h.data0.chg h.chg
theorem CrQ.size (h : CrQ w0 own0 sb rb tb cx tab m dv d0 l0 w own S M n) : w0.heap.size + 1 < w.heap.size := free?_lt h.res
theorem CrQ.go (h : CrQ w0 own0 sb rb tb cx tab m dv d0 l0 w own S M n) {w' : World} {own' : Go.Mun.Own} {S' : St} {M' : List (Nat × St)} {n' : Nat} (hs : StateAt TU w' own' sb S' M' n') (g : Chg w w' own own') : CrQ w0 own0 sb rb tb cx tab m dv d0 l0 w' own' S' M' n' := by
 have h1 := h.msg.lt
 have h2 := free?_lt h.res
 exact ⟨h.msg.only g.only (fun hh => hh h.o1), by rw [g.only.free? h2 (fun hh => hh h.o2)]; exact h.res, by rw [g.ext _ h1]; exact h.o1, by rw [g.ext _ h2]; exact h.o2, h.run0, hs, h.chg.trans g, h.data0⟩
theorem CrQ.below (h : CrQ w0 own0 sb rb tb cx tab m dv d0 l0 w own S M n) {w' : World} (hb : Below w.heap.size w w') : CrQ w0 own0 sb rb tb cx tab m dv d0 l0 w' own S M n := h.go (h.st.below hb) (Chg.below own hb)
theorem CrQ.turn (h : CrQ w0 own0 sb rb tb cx tab m dv d0 l0 w own S M n) {w' : World} {m' : Msg} {dv' : Value} (ho : Only (· = w0.heap.size) w w') (hr : Arr w' w0.heap.size 129 (cat (msgS m' dv'))) : CrQ w0 own0 sb rb tb cx tab m' dv' d0 l0 w' own S M n :=
 ⟨hr, by rw [ho.free? (free?_lt h.res) (by omega)]; exact h.res, h.o1, h.o2, h.run0, h.st.only ho (fun c hc => by rw [hc]; exact h.o1), ⟨h.chg.ext, h.chg.only.trans ho (fun i hi he => by have : i = w0.heap.size := hi; omega)⟩, h.data0⟩
theorem CrQ.box (h : CrQ w0 own0 sb rb tb cx tab m dv d0 l0 w own S M n) {w' : World} {b : Nat} (hb : w0.heap.size + 1 < b) (ho : own b = none) (h1 : Only (· = b) w w') : CrQ w0 own0 sb rb tb cx tab m dv d0 l0 w' own S M n :=
 ⟨h.msg.only h1 (by omega), by rw [h1.free? (free?_lt h.res) (by omega)]; exact h.res, h.o1, h.o2, h.run0, h.st.only h1 (fun c hc => by rw [hc]; exact ho), ⟨h.chg.ext, h.chg.only.trans h1 (fun i hi he => by have : i = b := hi; omega)⟩, h.data0⟩
end
theorem crQ_new {w : World} {own : Go.Mun.Own} {sb rb tb : Nat} {cx : Ctx} {tab : Tabl} {m : Msg} {dv : Value} {S : St} {M : List (Nat × St)} {n : Nat} (hst : StateAt TU w own sb S M n) (hr : RunAt w own sb rb tb cx tab) (hd : RoAt w (fun b => own b ≠ none) dv m.data) :
  CrQ w own sb rb tb cx tab m dv dv m.data ((w.alloc (.cells (cat (msgS m dv)).toArray 37)).alloc (.cells (cat zs46).toArray 41)) own S M n := by
 have hb : Below w.heap.size w ((w.alloc (.cells (cat (msgS m dv)).toArray 37)).alloc (.cells (cat zs46).toArray 41)) := ((Below.refl _ _).alloc (Nat.le_refl _) _).alloc (by simp) _
 refine ⟨(Arr.new w 129 _ 37 (msgS_len m dv)).alloc _, ?_, free_own hst.lows (Nat.le_refl _), free_own hst.lows (Nat.le_succ _), hr, hst.below hb, Chg.below own hb, hd⟩
 exact World.free?_alloc_at _ _ (by simp) (by rw [zs46_len]; omega)
theorem msgS_toQ (m : Msg) (dv : Value) (a : Nat) : (msgS m dv).set 2 (beC 20 a) = msgS { m with to := a } dv := rfl
end Go.Proofs.YtfflppedbopdpaaGreat
