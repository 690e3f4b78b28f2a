/-
  The reference's machine: how a frame lies in memory.
  The reference's own and Jumps.
  The reference's Push.
  The reference's Pop.
  A block that is one row, and what is copied into it (out of another seat's texts).
  The reference's Cut.
  The reference's machine: what PUSH does.
-/
import Derived.Test.YtiglinnjnobodaaGreatQRs18
set_option linter.unusedVariables false
set_option linter.unusedSimpArgs false
namespace Go.Proofs.YtiglinnjnobodaaGreat
open Go.RowKit Go.Mun

structure REnv where
 (w0 : World) (own0 : Go.Mun.Own) (sb fb : Nat) (m0 : Msg) (dv : Value) (cx : Ctx) (M0 : List (Nat × St)) (N : Nat)
structure RFV where
 (code data sv mv told out lv jv : Value) (tl : List Value)
def rfS (E : REnv) (c : RFV) (f : Fr) : List (List Value) :=
 [[.pointer (some ⟨E.sb, 0, none⟩)], cat (msgS E.m0 E.dv), cat (ctxS E.cx), beC 20 f.m.to, [c.code], [c.data], beC 32 f.m.value, [.bool f.m.static], [.int .i64 f.gas], [.int .i64 f.next], [c.sv], [c.mv], [c.told], [c.out], [c.lv], [.bool f.ended], c.tl]
theorem rfS_len (E : REnv) (c : RFV) (f : Fr) (h : c.tl.length = 1280) : (cat (rfS E c f)).length = 1516 := by simp only [rfS, cat_len_cons, cat_len_nil]; simp [h]
def rmu (own : Go.Mun.Own) (fb : Nat) (c : RFV) (b : Nat) : Prop := hot own b ∨ b = fb ∨ c.sv.ownBlock = some b ∨ c.mv.ownBlock = some b
structure RFrOk (E : REnv) (w : World) (own : Go.Mun.Own) (c : RFV) (f : Fr) (S : St) (M : List (Nat × St)) (n : Nat) : Prop where
 row : w.row? E.fb 0 1516 = some (cat (rfS E c f))
 free : w.free? E.fb 0 1516 = true
 tlen : c.tl.length = 1280
 base : E.w0.heap.size ≤ E.fb
 fown : own E.fb = none
 chg : ChgR E.w0 w E.own0 own
 mok : MsgOk f.m
 stk : w.ownsRow E.w0.heap.size 25 32 c.sv f.stack.length (stkC f.stack)
 sown : ∀ g, c.sv.ownBlock = some g → own g = none ∧ g ≠ E.fb
 sval : ∀ x ∈ f.stack, x < wW
 slen : f.stack.length ≤ 1024
 mem : w.ownsRow E.w0.heap.size 5 1 c.mv f.mem.length (f.mem.map (Value.int .u8))
 mown : ∀ g, c.mv.ownBlock = some g → own g = none ∧ g ≠ E.fb ∧ c.sv.ownBlock ≠ some g
 mbyte : Byt f.mem
 mlen : f.mem.length ≤ 1048576 ∧ f.mem.length % 32 = 0
 logs : f.logs = [] ∧ c.lv = .slice none 0 0
 code : RoAt w (rmu own E.fb c) c.code f.code
 data : RoAt w (rmu own E.fb c) c.data f.m.data
 out : RoAt w (rmu own E.fb c) c.out f.out
 told : RoAt w (rmu own E.fb c) c.told f.ret
 jmp : c.jv ≠ .nilFunc → ∃ ja jc, c.jv = .slice ja (jumps f.code f.code.length 0).length jc ∧ Ints w .i64 ja jc (jumps f.code f.code.length 0) ∧ (jumps f.code f.code.length 0 ≠ [] → ∀ p, ja = some p → ¬ rmu own E.fb c p.block)
 st : RState w own E.sb S M n
 ms : ∃ T, M = E.M0 ++ T
 cnt : n + f.gas ≤ E.N
 lim : E.N ≤ 999000
 nxt : f.next ≤ 2199023255552
section
variable {w : World} {E : REnv} {c : RFV} {f : Fr}
theorem rf_code (h : w.row? E.fb 0 1516 = some (cat (rfS E c f))) : w.cell? ⟨E.fb, 193, none⟩ = some (c.code) := cell_cat h (i := 4) rfl (by simp [rfS, offOf_succ, offOf_zero])
theorem rf_static (h : w.row? E.fb 0 1516 = some (cat (rfS E c f))) : w.cell? ⟨E.fb, 227, none⟩ = some (.bool f.m.static) := cell_cat h (i := 7) rfl (by simp [rfS, offOf_succ, offOf_zero])
theorem rf_gas (h : w.row? E.fb 0 1516 = some (cat (rfS E c f))) : w.cell? ⟨E.fb, 228, none⟩ = some (.int .i64 f.gas) := cell_cat h (i := 8) rfl (by simp [rfS, offOf_succ, offOf_zero])
theorem rf_pc (h : w.row? E.fb 0 1516 = some (cat (rfS E c f))) : w.cell? ⟨E.fb, 229, none⟩ = some (.int .i64 f.next) := cell_cat h (i := 9) rfl (by simp [rfS, offOf_succ, offOf_zero])
theorem rf_sv (h : w.row? E.fb 0 1516 = some (cat (rfS E c f))) : w.cell? ⟨E.fb, 230, none⟩ = some (c.sv) := cell_cat h (i := 10) rfl (by simp [rfS, offOf_succ, offOf_zero])
theorem rf_out (h : w.row? E.fb 0 1516 = some (cat (rfS E c f))) : w.cell? ⟨E.fb, 233, none⟩ = some (c.out) := cell_cat h (i := 13) rfl (by simp [rfS, offOf_succ, offOf_zero])
theorem rf_lv (h : w.row? E.fb 0 1516 = some (cat (rfS E c f))) : w.cell? ⟨E.fb, 234, none⟩ = some (c.lv) := cell_cat h (i := 14) rfl (by simp [rfS, offOf_succ, offOf_zero])
theorem rf_ended (h : w.row? E.fb 0 1516 = some (cat (rfS E c f))) : w.cell? ⟨E.fb, 235, none⟩ = some (.bool f.ended) := cell_cat h (i := 15) rfl (by simp [rfS, offOf_succ, offOf_zero])
theorem rf_t (h : w.row? E.fb 0 1516 = some (cat (rfS E c f))) (hl : c.tl.length = 1280) : w.row? E.fb 236 1280 = some c.tl := row_cat h (i := 16) rfl (by simp [rfS, offOf_succ, offOf_zero]) hl.symm
theorem rfset_code (x : Value) (h : w.row? E.fb 0 1516 = some (cat (rfS E c f))) : (w.setCell ⟨E.fb, 193, none⟩ (x)).row? E.fb 0 1516 = some (cat (rfS E ({ c with code := x }) (f))) := cell_cat_set h (i := 4) rfl _ (by simp [rfS, offOf_succ, offOf_zero])
theorem rfset_gas (x : Nat) (h : w.row? E.fb 0 1516 = some (cat (rfS E c f))) : (w.setCell ⟨E.fb, 228, none⟩ (.int .i64 (x : Int))).row? E.fb 0 1516 = some (cat (rfS E (c) ({ f with gas := x }))) := cell_cat_set h (i := 8) rfl _ (by simp [rfS, offOf_succ, offOf_zero])
theorem rfset_pc (x : Nat) (h : w.row? E.fb 0 1516 = some (cat (rfS E c f))) : (w.setCell ⟨E.fb, 229, none⟩ (.int .i64 (x : Int))).row? E.fb 0 1516 = some (cat (rfS E (c) ({ f with next := x }))) := cell_cat_set h (i := 9) rfl _ (by simp [rfS, offOf_succ, offOf_zero])
theorem rfset_sv (x : Value) (h : w.row? E.fb 0 1516 = some (cat (rfS E c f))) : (w.setCell ⟨E.fb, 230, none⟩ (x)).row? E.fb 0 1516 = some (cat (rfS E ({ c with sv := x }) (f))) := cell_cat_set h (i := 10) rfl _ (by simp [rfS, offOf_succ, offOf_zero])
theorem rfset_ended (x : Bool) (h : w.row? E.fb 0 1516 = some (cat (rfS E c f))) : (w.setCell ⟨E.fb, 235, none⟩ (.bool x)).row? E.fb 0 1516 = some (cat (rfS E (c) ({ f with ended := x }))) := cell_cat_set h (i := 15) rfl _ (by simp [rfS, offOf_succ, offOf_zero])
theorem rfset_t (L : List Value) (hL : L.length = c.tl.length) (h : w.row? E.fb 0 1516 = some (cat (rfS E c f))) : (w.setCells E.fb 236 L).row? E.fb 0 1516 = some (cat (rfS E ({ c with tl := L }) f)) := row_cat_set h (i := 16) rfl hL (by simp [rfS, offOf_succ, offOf_zero])
end
section
variable {E : REnv} {w w' : World} {own : Go.Mun.Own} {c : RFV} {f : Fr} {S : St} {M : List (Nat × St)} {n : Nat}
theorem jmp_only {R : Nat → Prop} {own' : Go.Mun.Own} {c' : RFV} {l : List Int} {jv : Value} {fb : Nat} (h : jv ≠ .nilFunc → ∃ ja jc, jv = .slice ja l.length jc ∧ Ints w .i64 ja jc l ∧ (l ≠ [] → ∀ p, ja = some p → ¬ rmu own fb c p.block)) (ho : Only R w w') (hR : ∀ b, R b → rmu own fb c b) (hX : ∀ b, b < w.heap.size → rmu own' fb c' b → rmu own fb c b) :
  jv ≠ .nilFunc → ∃ ja jc, jv = .slice ja l.length jc ∧ Ints w' .i64 ja jc l ∧ (l ≠ [] → ∀ p, ja = some p → ¬ rmu own' fb c' p.block) := by
 intro hj
 obtain ⟨ja, jc, hj1, hj2, hj3⟩ := h hj
 refine ⟨ja, jc, hj1, ⟨fun hn => ?_, hj2.nil, hj2.len, hj2.cap⟩, fun hn p hp hx => ?_⟩
 ·obtain ⟨b, off, ha, hlt, hcl⟩ := hj2.at (i := 0) (List.length_pos_iff.2 hn)
  exact ⟨b, off, ha, fun i hi => by rw [ho.cell? hlt (fun hr => hj3 hn _ ha (hR _ hr))]; exact hcl i hi⟩
 ·obtain ⟨b, off, ha, hlt, hcl⟩ := hj2.at (i := 0) (List.length_pos_iff.2 hn)
  rw [ha] at hp; cases hp
  exact hj3 hn _ ha (hX _ hlt hx)
theorem RFrOk.lt (h : RFrOk E w own c f S M n) : E.fb < w.heap.size := World.row?_lt h.row
theorem RFrOk.one (h : RFrOk E w own c f S M n) {i : Nat} (hi : i < 1516) : w.free? E.fb i 1 = true := World.free?_sub h.free (by omega)
theorem RFrOk.below (h : RFrOk E w own c f S M n) (hb : Below w.heap.size w w') : RFrOk E w' own c f S M n := by
 have ho : Only (fun _ => False) w w' := Only.of_below_size hb
 exact { h with
  row := by rw [ho.row? h.lt (fun h => h)]; exact h.row
  free := by rw [ho.free? h.lt (fun h => h)]; exact h.free
  chg := h.chg.trans (ChgR.below own hb)
  stk := Only.own h.stk ho (fun _ _ h => h)
  mem := Only.own h.mem ho (fun _ _ h => h)
  code := h.code.below hb
  data := h.data.below hb
  out := h.out.below hb
  told := h.told.below hb
  jmp := jmp_only h.jmp ho (fun _ h => h.elim) (fun _ _ h => h)
  st := h.st.below hb }
theorem RFrOk.cells {c' : RFV} {f' : Fr} (h : RFrOk E w own c f S M n) (ho : Only (fun b => b = E.fb) w w') (hr : w'.row? E.fb 0 1516 = some (cat (rfS E c' f'))) (hfr : w'.free? E.fb 0 1516 = true) (hcs : c'.sv = c.sv ∧ c'.mv = c.mv ∧ c'.code = c.code ∧ c'.data = c.data ∧ c'.lv = c.lv ∧ c'.told = c.told ∧ c'.jv = c.jv) (htl : c'.tl.length = 1280)
  (h1 : f'.m = f.m) (h2 : f'.code = f.code) (h3 : f'.stack = f.stack) (h4 : f'.mem = f.mem) (h5 : f'.ret = f.ret) (h7 : f'.logs = f.logs) (hg : f'.gas ≤ f.gas) (hx : f'.next ≤ 2199023255552) (hout : RoAt w' (rmu own E.fb c') c'.out f'.out) : RFrOk E w' own c' f' S M n := by
 obtain ⟨e1, e2, e3, e4, e5, e6, e7⟩ := hcs
 have hrm : rmu own E.fb c' = rmu own E.fb c := by unfold rmu; rw [e1, e2]
 have hF : ∀ b, b = E.fb → rmu own E.fb c b := fun _ h => .inr (.inl h)
 have hI : ∀ b, b < w.heap.size → rmu own E.fb c b → rmu own E.fb c b := fun _ _ h => h
 have hO : Only (hot E.own0) E.w0 w' := h.chg.only.trans ho (fun i hi he => by have : i = E.fb := hi; have := h.base; omega)
 refine { row := hr, free := hfr, tlen := htl, base := h.base, fown := h.fown, chg := ⟨h.chg.ext, hO⟩, mok := by rw [h1]; exact h.mok, stk := ?_, sown := by rw [e1]; exact h.sown, sval := by rw [h3]; exact h.sval, slen := by rw [h3]; exact h.slen, mem := ?_, mown := by rw [e1, e2]; exact h.mown,
          mbyte := by rw [h4]; exact h.mbyte, mlen := by rw [h4]; exact h.mlen, logs := by rw [h7, e5]; exact h.logs, code := ?_, data := ?_, out := hout, told := ?_, jmp := ?_, st := h.st.only ho (fun b hb => by have e : b = E.fb := hb; rw [e]; exact h.fown), ms := h.ms, cnt := by have := h.cnt; omega, lim := h.lim, nxt := hx }
 ·rw [e1, h3]; exact Only.own h.stk ho (fun g hg => (h.sown g hg).2)
 ·rw [e2, h4]; exact Only.own h.mem ho (fun g hg => (h.mown g hg).2.1)
 ·rw [hrm, e3, h2]; exact h.code.only ho hF hI
 ·rw [hrm, e4, h1]; exact h.data.only ho hF hI
 ·rw [hrm, e6, h5]; exact h.told.only ho hF hI
 ·rw [e7, h2]; exact jmp_only h.jmp ho hF (fun b _ hx => by rw [← hrm]; exact hx)
theorem RFrOk.outKept (h : RFrOk E w own c f S M n) (ho : Only (fun b => b = E.fb) w w') : RoAt w' (rmu own E.fb c) c.out f.out := h.out.only ho (fun _ h => .inr (.inl h)) (fun _ _ h => h)
theorem RFrOk.gas (h : RFrOk E w own c f S M n) (x : Nat) (hx : x ≤ f.gas) : RFrOk E (w.setCell ⟨E.fb, 228, none⟩ (.int .i64 x)) own c { f with gas := x } S M n :=
 h.cells (only_cell _ _ _ _) (rfset_gas x h.row) (by rw [free?_setCell _ (h.one (by omega))]; exact h.free) ⟨rfl, rfl, rfl, rfl, rfl, rfl, rfl⟩ h.tlen rfl rfl rfl rfl rfl rfl hx h.nxt (h.outKept (only_cell _ _ _ _))
theorem RFrOk.pc (h : RFrOk E w own c f S M n) (x : Nat) (hx : x ≤ 2199023255552) : RFrOk E (w.setCell ⟨E.fb, 229, none⟩ (.int .i64 x)) own c { f with next := x } S M n :=
 h.cells (only_cell _ _ _ _) (rfset_pc x h.row) (by rw [free?_setCell _ (h.one (by omega))]; exact h.free) ⟨rfl, rfl, rfl, rfl, rfl, rfl, rfl⟩ h.tlen rfl rfl rfl rfl rfl rfl (Nat.le_refl _) hx (h.outKept (only_cell _ _ _ _))
theorem RFrOk.ended (h : RFrOk E w own c f S M n) (x : Bool) : RFrOk E (w.setCell ⟨E.fb, 235, none⟩ (.bool x)) own c { f with ended := x } S M n :=
 h.cells (only_cell _ _ _ _) (rfset_ended x h.row) (by rw [free?_setCell _ (h.one (by omega))]; exact h.free) ⟨rfl, rfl, rfl, rfl, rfl, rfl, rfl⟩ h.tlen rfl rfl rfl rfl rfl rfl (Nat.le_refl _) h.nxt (h.outKept (only_cell _ _ _ _))
theorem RFrOk.table (h : RFrOk E w own c f S M n) (L : List Value) (hL : L.length = 1280) : RFrOk E (w.setCells E.fb 236 L) own { c with tl := L } f S M n := by
 have ho : Only (fun b => b = E.fb) w (w.setCells E.fb 236 L) := Only.setCells (S := fun b => b = E.fb) (Only.refl _ _) (fun _ => rfl) _ _
 exact h.cells ho (rfset_t L (hL.trans h.tlen.symm) h.row) (by rw [World.free?_setCells']; exact h.free) ⟨rfl, rfl, rfl, rfl, rfl, rfl, rfl⟩ hL rfl rfl rfl rfl rfl rfl (Nat.le_refl _) h.nxt (h.outKept ho)
theorem RFrOk.place (h : RFrOk E w own c f S M n) (x : Nat) : RFrOk E w own c { f with pc := x } S M n :=
 { row := h.row, free := h.free, tlen := h.tlen, base := h.base, fown := h.fown, chg := h.chg, mok := h.mok, stk := h.stk, sown := h.sown, sval := h.sval, slen := h.slen, mem := h.mem, mown := h.mown, mbyte := h.mbyte, mlen := h.mlen, logs := h.logs, code := h.code, data := h.data, out := h.out, told := h.told, jmp := h.jmp, st := h.st, ms := h.ms, cnt := h.cnt, lim := h.lim, nxt := h.nxt }
theorem RFrOk.stack {w1 : World} {sv' : Value} {st' : List Nat} (h : RFrOk E w own c f S M n) (ho : Only (fun g => c.sv.ownBlock = some g) w w1) (hr : w1.ownsRow 0 25 32 sv' st'.length (stkC st'))
  (hl : ∀ g, sv'.ownBlock = some g → c.sv.ownBlock = some g ∨ w.heap.size ≤ g) (hv : ∀ x ∈ st', x < wW) (hn : st'.length ≤ 1024) :
  RFrOk E (w1.setCell ⟨E.fb, 230, none⟩ sv') own { c with sv := sv' } { f with stack := st' } S M n := by
 have hfl := h.lt
 have hsf : ¬ c.sv.ownBlock = some E.fb := fun e => (h.sown _ e).2 rfl
 have hrow1 : w1.row? E.fb 0 1516 = some (cat (rfS E c f)) := by rw [ho.row? hfl hsf]; exact h.row
 have hfree1 : w1.free? E.fb 0 1516 = true := by rw [ho.free? hfl hsf]; exact h.free
 have ho2 : Only (fun b => b = E.fb ∨ c.sv.ownBlock = some b) w (w1.setCell ⟨E.fb, 230, none⟩ sv') :=
  (ho.mono fun b hb => .inr hb).trans (only_cell w1 E.fb 230 sv') (fun i hi _ => .inl hi)
 have hR : ∀ b, (b = E.fb ∨ c.sv.ownBlock = some b) → rmu own E.fb c b := fun b hb => hb.elim (fun e => .inr (.inl e)) (fun e => .inr (.inr (.inl e)))
 have hmu : ∀ b, b < w.heap.size → rmu own E.fb { c with sv := sv' } b → rmu own E.fb c b := by
  rintro b hb (h1 | h1 | h1 | h1)
  ·exact .inl h1
  ·exact .inr (.inl h1)
  ·rcases hl b h1 with h2 | h2
   ·exact .inr (.inr (.inl h2))
   ·omega
  ·exact .inr (.inr (.inr h1))
 have hown : ∀ g, sv'.ownBlock = some g → own g = none ∧ g ≠ E.fb := fun g hg => by
  rcases hl g hg with h1 | h1
  ·exact h.sown g h1
  ·exact ⟨free_own h.st.lows h1, by omega⟩
 have hbase : ∀ g, sv'.ownBlock = some g → E.w0.heap.size ≤ g := fun g hg => by
  rcases hl g hg with h1 | h1
  ·exact ownsRow_ge h.stk g h1
  ·have := h.chg.only.size; omega
 have hnone : ∀ b, (b = E.fb ∨ c.sv.ownBlock = some b) → own b = none := fun b hb => hb.elim (fun e => by rw [e]; exact h.fown) (fun e => (h.sown b e).1)
 have hge : ∀ b, (b = E.fb ∨ c.sv.ownBlock = some b) → E.w0.heap.size ≤ b := fun b hb => hb.elim (fun e => by rw [e]; exact h.base) (fun e => ownsRow_ge h.stk b e)
 have hmem : ∀ g, c.mv.ownBlock = some g → ¬ (g = E.fb ∨ c.sv.ownBlock = some g) := fun g hg he => by
  rcases he with he | he
  ·exact (h.mown g hg).2.1 he
  ·exact (h.mown g hg).2.2 he
 exact { row := rfset_sv sv' hrow1, free := by rw [free?_setCell _ (World.free?_sub hfree1 (by omega))]; exact hfree1, tlen := h.tlen, base := h.base, fown := h.fown, chg := ⟨h.chg.ext, h.chg.only.trans ho2 (fun i hi he => by have := hge i hi; omega)⟩, mok := h.mok,
         stk := Only.own (ownsRow_base hr hbase) (only_cell w1 E.fb 230 sv') (fun g hg => (hown g hg).2), sown := hown, sval := hv, slen := hn, mem := Only.own h.mem ho2 hmem,
         mown := fun g hg => ⟨(h.mown g hg).1, (h.mown g hg).2.1, fun e => by
          rcases hl g e with h1 | h1
          ·exact (h.mown g hg).2.2 h1
          ·have := ownsRow_lt h.mem g hg; omega⟩
         mbyte := h.mbyte, mlen := h.mlen, logs := h.logs, code := h.code.only ho2 hR hmu, data := h.data.only ho2 hR hmu, out := h.out.only ho2 hR hmu, told := h.told.only ho2 hR hmu, jmp := jmp_only h.jmp ho2 hR hmu, st := h.st.only ho2 hnone, ms := h.ms, cnt := h.cnt, lim := h.lim, nxt := h.nxt }
end
theorem RFrOk.jumps {E : REnv} {w w' : World} {own : Go.Mun.Own} {c : RFV} {f : Fr} {S : St} {M : List (Nat × St)} {n : Nat} {v : Value} (h : RFrOk E w own c f S M n) (hb : Below w.heap.size w w') (hv : w'.ownsRow w.heap.size 3 1 v (jumps f.code f.code.length 0).length ((jumps f.code f.code.length 0).map (Value.int .i64))) : RFrOk E w' own { c with jv := v } f S M n := by
 have h1 := h.below hb
 obtain ⟨ja, jc, e, _, hI⟩ := Ints.of_own' hv
 have hrm : ∀ b, rmu own E.fb { c with jv := v } b → rmu own E.fb c b := fun b hb => hb
 refine { h1 with jmp := fun _ => ⟨ja, jc, e, hI, fun hn p hp hx => ?_⟩ }
 have h2 := ownsRow_ge hv p.block (by rw [e, hp]; rfl)
 rcases hx with hx | hx | hx | hx
 ·have := h.st.lows _ hx.1; omega
 ·have := h.lt; omega
 ·have := ownsRow_lt h.stk _ hx; omega
 ·have := ownsRow_lt h.mem _ hx; omega
end Go.Proofs.YtiglinnjnobodaaGreat
namespace Go.Proofs.YtiglinnjnobodaaGreat
open Go.RowKit Go.Mun
theorem ref_own (x : Int) (h0 : 0 ≤ x) (h1 : x ≤ 255) (w : World) :
  Calls Tryz.prog 211 #[.int .u8 x] w fun e w' => e = .returned (.int .i64 (ownOf x)) ∧ w = w' := by
 by_cases h : x < 96
 ·go_enter Tryz.func211, Tryz.ntmps211
  go_wp2
  go_ret
  exact ⟨Mun.ret_int (by unfold ownOf; rw [if_neg (by omega)]), rfl⟩
 by_cases h' : 127 < x
 ·go_enter Tryz.func211, Tryz.ntmps211
  go_wp2
  go_ret
  exact ⟨Mun.ret_int (by unfold ownOf; rw [if_neg (by omega)]), rfl⟩
 ·go_enter Tryz.func211, Tryz.ntmps211
  go_wp2
  go_ret
  exact ⟨Mun.ret_int (by unfold ownOf; rw [if_pos (by omega)]), rfl⟩
set_option maxHeartbeats 800000 in
theorem ref_jumps (a : Option Addr) (cap : Nat) (l : List Int) (w : World) (hi : Ints w .u8 a cap l) (hb : ∀ i, i < l.length → 0 ≤ l[i]?.getD 0 ∧ l[i]?.getD 0 ≤ 255) (hlen : l.length ≤ 1099511627776) :
  Calls Tryz.prog 206 #[.slice a l.length cap] w fun e w' => ∃ v, e = .returned v ∧ w'.ownsRow w.heap.size 3 1 v (jumps l l.length 0).length ((jumps l l.length 0).map (Value.int .i64)) ∧ Below w.heap.size w w' := by
 have HB := Lib.hid hb
 have HI := Lib.hid hi
 clear hb hi
 go_enter Tryz.func206, Tryz.ntmps206
 go_wp2
 go_loopw [3, 4] (fun v i wr => ∃ (k n : Nat) (done : List Int), k ≤ l.length + 32 ∧ i = .int .i64 k ∧ JRel l w.heap.size w wr v k done n) (fun _ i _ => l.length + 32 - (intOf i).toNat)
 case atStart => exact ⟨0, l.length, [], by omega, rfl, ⟨rfl, by omega, by omega, by simp, World.ownsRow_nil _ _ _ _, Below.refl _ _⟩⟩
 case round =>
  obtain ⟨k, n, done, hk, rfl, hr⟩ := hrel
  by_cases hlt : k < l.length
  ·obtain ⟨b, off, rfl, hbl, hc⟩ := HI.out.at hlt
   have hck : wr.cell? ⟨b, off + k, none⟩ = some (.int .u8 (l[k]?.getD 0)) := (hr.below.cell (p := ⟨b, off + k, none⟩) hbl).trans (hc k hlt)
   clear hc
   have hr0 := (HB.out k hlt).1
   have hr1 := (HB.out k hlt).2
   have hob := own_bd _ hr1
   have hd := hr.dlen
   have hsz := hr.below.size
   have HR := Lib.hid hr
   clear hr
   generalize hx : l[k]?.getD 0 = x at *
   by_cases h91 : x = 91
   ·have h91' : (x == 91) = true := by simpa using h91
    have HX := Lib.hid h91
    clear h91
    go_wp2_with (first | (go_at_call 211; refine (ref_own _ hr0 hr1 _).mono ?_; rintro e w' ⟨rfl, rfl⟩) | (at_builtin; refine wpList_append_new elem157 rfl _ _ rfl HR.out.own rfl 1 rfl rfl ?c1 ?c2 ?c3 ?c4 ?_))
    case c1 => simp [Value.oneCell']
    case c2 => unfold maxLen; omega
    case c3 => omega
    case c4 => exact hsz
    intro v' w1 ho hg _
    have hck1 : w1.cell? ⟨b, off + k, none⟩ = some (.int .u8 x) := hg.cell hck (fun e => by have := (HR.out.own.lt b e.symm).1; omega)
    go_wp2_with (go_at_call 211; refine (ref_own _ hr0 hr1 _).mono ?_; rintro e w' ⟨rfl, rfl⟩)
    go_roundw
    case rel => exact ⟨k + 1 + (ownOf x).toNat, n - 1, done ++ [(k : Int)], by omega, by go_num, by have := HR.out.step_yes hlt (by rw [hx]; exact HX.out) ho hg hsz; rw [hx] at this; exact this⟩
    case measure => simp [intOf]; omega
   ·have h91' : (x == 91) = false := by simpa using h91
    go_wp2_with (go_at_call 211; refine (ref_own _ hr0 hr1 _).mono ?_; rintro e w' ⟨rfl, rfl⟩)
    go_roundw
    case rel => exact ⟨k + 1 + (ownOf x).toNat, n - 1, done, by omega, by go_num, by have := HR.out.step_no hlt (by rw [hx]; exact h91) (by rw [hx]; exact hr1); rw [hx] at this; exact this⟩
    case measure => simp [intOf]; omega
  ·go_wp2
   go_ret
   have := hr.tot
   rw [jumps_nil _ _ _ (by omega), List.append_nil] at this
   rw [← this]
   exact ⟨_, rfl, hr.own, hr.below⟩
end Go.Proofs.YtiglinnjnobodaaGreat
namespace Go.Proofs.YtiglinnjnobodaaGreat
open Go.RowKit Go.Mun
set_option maxRecDepth 100000 in
set_option maxHeartbeats 1000000 in
theorem r_push0 {w : World} {b o : Nat} {sv : Value} {l : List Nat} (x : Nat) (h : w.cell? ⟨b, o, none⟩ = some sv) (hf : w.free? b o 1 = true) (hr : w.ownsRow 0 25 32 sv l.length (stkC l))
  (hb : ∀ g, sv.ownBlock = some g → ¬ g = b) (hl : l.length < 1024) :
  Calls Tryz.prog 280 #[.pointer (some ⟨b, o, none⟩), .agg (beC 32 x).toArray] w fun e w' => e = .returned (.bool true) ∧
   ∃ w1 sv', Only (fun g => sv.ownBlock = some g) w w1 ∧ w' = w1.setCell ⟨b, o, none⟩ sv' ∧ w1.ownsRow 0 25 32 sv' (l ++ [x]).length (stkC (l ++ [x])) ∧ ∀ g, sv'.ownBlock = some g → sv.ownBlock = some g ∨ w.heap.size ≤ g := by
 obtain ⟨a, c, rfl⟩ := own_sl hr
 have hbl : b < w.heap.size := free?_lt hf
 have hxl : (beC 32 x).length = 32 := by simp
 have HLW : Hid (∀ g, (Value.slice a l.length c).ownBlock = some g → g < w.heap.size) := fun g hg => ownsRow_lt hr g hg
 obtain ⟨w0, e0⟩ : ∃ w0, w0 = w.alloc (.cells (beC 32 x).toArray 25) := ⟨_, rfl⟩
 have o0 : Only (fun _ => False) w w0 := by rw [e0]; exact (Only.refl _ _).alloc _
 have hq : w0.cell? ⟨b, o, none⟩ = some (.slice a l.length c) := by rw [o0.cell? hbl (fun h => h)]; exact h
 have hx : w0.row? w.heap.size 0 32 = some (beC 32 x) := by rw [e0]; exact World.row?_alloc_at _ _ _ rfl (by simp)
 have hr0 : w0.ownsRow 0 25 32 (.slice a l.length c) l.length (stkC l) := Only.own hr o0 (fun _ _ h => h)
 have hf0 : w0.free? b o 1 = true := by rw [o0.free? hbl (fun h => h)]; exact hf
 have hsz : b < w0.heap.size ∧ w.heap.size < w0.heap.size := ⟨Nat.lt_of_lt_of_le hbl o0.size, World.row?_lt hx⟩
 have HR0 := Lib.hid hr0
 have HO0 := Lib.hid o0
 have HF0 := Lib.hid hf0
 have HSZ := Lib.hid hsz
 have HE := Lib.hid e0
 have hq' : (w.alloc (.cells (beC 32 x).toArray 25)).cell? ⟨b, o, none⟩ = some (.slice a l.length c) := by rw [← e0]; exact hq
 clear e0 o0 hr0 hr h hf hf0 hsz
 generalize hn : l.length = n at *
 have HN := Lib.hid hn
 clear hn
 obtain ⟨T, hT⟩ : ∃ T : World → Prop, T = fun w' => w'.cell? ⟨b, o, none⟩ = some (.slice a n c) ∧ w'.row? w.heap.size 0 32 = some (beC 32 x) := ⟨_, rfl⟩
 have HT := Lib.hid hT
 have t0 : T w0.drew := by rw [hT]; exact ⟨hq, hx⟩
 clear hT
 have hge : ¬ (1024 : Int) ≤ n := by omega
 have hge2 : ¬ 1024 ≤ n := by omega
 go_enter Tryz.func280, Tryz.ntmps280
 go_wp2_with fail
 rw [← HE.out]
 clear hq'
 refine wp_region_z T [10] [0, 1, 2, 3, 4, 5] [6, 7, 8, 9, 10] (by kernel_rfl) (by kernel_rfl) t0 ?_
 refine wpHoist_cons (.pointer (some ⟨b, o, none⟩)) rfl (by rfl) (fun w' hs => ?_) (fun _ _ _ h => h) ?_
 ·go_simp
 refine wpHoist_cons (.pointer (some ⟨b, o, none⟩)) rfl (by rfl) (fun w' hs => ?_) (fun _ _ _ h => h) ?_
 ·go_simp
 refine wpHoist_cons (.pointer (some ⟨b, o, none⟩)) rfl (by rfl) (fun w' hs => ?_) (fun _ _ _ h => h) ?_
 ·go_simp
 refine wpHoist_cons (.pointer (some ⟨b, o, none⟩)) rfl (by rfl) (fun w' hs => ?_) (fun _ _ _ h => h) ?_
 ·go_simp
 refine wpHoist_cons (.slice a n c) rfl (by rfl) (fun w' hs => ?_) (fun _ _ _ h => h) ?_
 ·rw [HT.out] at hs
  obtain ⟨s1, s2⟩ := hs
  go_simp
 refine wpHoist_cons (.agg (beC 32 x).toArray) rfl (by rfl) (fun w' hs => ?_) (fun _ _ _ h => h) ?_
 ·rw [HT.out] at hs
  obtain ⟨s1, s2⟩ := hs
  go_simp
 refine wpHoist_nil ?_
 simp only [Act.put, tsa, tsb, tsc]
 have t1 : T (w0.drew.alloc (.cells (beC 32 x).toArray 25)) := by
  rw [HT.out]
  exact ⟨(World.cell?_alloc_lt _ _ _ HSZ.out.1).trans hq, (World.row?_alloc_lt _ HSZ.out.2).trans hx⟩
 refine wpSeq_cons rfl (fun K hK => ?_)
 go_simp
 refine hK.out _ _ t1 ?_
 clear hK K
 have hr1 : (w0.drew.alloc (.cells (beC 32 x).toArray 25)).ownsRow 0 25 32 (.slice a n c) n (stkC l) := Only.own (S := fun _ => False) HR0.out ((Only.refl _ _).drew.alloc _) (fun _ _ h => h)
 refine wpSeq_cons rfl (fun K hK => ?_)
 refine step_app elem33 rfl _ _ rfl hr1 rfl (SrcAt.new w0.drew (m := 1) (size := 32) (cs := beC 32 x) 25 (0, 0) (beC_ok 32 x) 1) rfl (by unfold maxLen; omega) (by omega) ?_
 intro sv' w3 hr3 ho3 hl3
 have o13 : Only (fun g => (Value.slice a n c).ownBlock = some g) w w3 := (((HO0.out.mono (fun _ h => h.elim)).drew.alloc _).trans ho3 (fun i hi _ => hi))
 have hbn : ¬ (Value.slice a n c).ownBlock = some b := fun e => hb b e rfl
 have o03 : Only (fun g => (Value.slice a n c).ownBlock = some g) w0 w3 := ((Only.refl _ _).drew.alloc _).trans ho3 (fun i hi _ => hi)
 have hxn : ¬ (Value.slice a n c).ownBlock = some w.heap.size := fun e => by have := HLW.out _ e; omega
 have t3 : T w3 := by
  rw [HT.out]
  exact ⟨(o03.cell? HSZ.out.1 hbn).trans hq, (o03.row? HSZ.out.2 hxn).trans hx⟩
 have hv3 : sv'.oneCell' = true := by obtain ⟨_, _, rfl⟩ := own_sl hr3; rfl
 have hf3 : w3.free? b o 1 = true := by rw [o03.free? HSZ.out.1 hbn]; exact HF0.out
 have HA : Hid (∃ w1 sv'', Only (fun g => (Value.slice a n c).ownBlock = some g) w w1 ∧ w3.setCell ⟨b, o, none⟩ sv' = w1.setCell ⟨b, o, none⟩ sv'' ∧ w1.ownsRow 0 25 32 sv'' (l ++ [x]).length (stkC (l ++ [x])) ∧ ∀ g, sv''.ownBlock = some g → (Value.slice a n c).ownBlock = some g ∨ w.heap.size ≤ g) := by
  refine ⟨w3, sv', o13, rfl, ?_, fun g hg => ?_⟩
  ·rw [List.length_append, HN.out, stkC_append, stkC_one]; exact hr3
  ·rcases hl3 g hg with h | h
   ·exact .inl h
   ·have h1 := HSZ.out.2
    have h' : w0.heap.size + 1 ≤ g := by first | exact h | simpa using h
    exact .inr (by omega)
 clear hr3 ho3 hl3 o13 o03
 refine hK.out _ _ t3 ?_
 clear hK K
 refine wpSeq_cons rfl (fun K hK => ?_)
 go_simp
 refine hK.out _ _ t3 ?_
 clear hK K
 refine wpSeq_cons rfl (fun K hK => ?_)
 go_simp
 refine hK.out _ _ t3 ?_
 clear hK K
 refine wpSeq_z rfl (by decide) (fun K hK => ?_)
 go_simp
 refine hK.out _ _ (wpSeq_nil ?_)
 clear hK K
 generalize w3.setCell ⟨b, o, none⟩ sv' = w4 at *
 go_wp2
 go_ret
 exact ⟨rfl, HA.out⟩
theorem r_push {E : REnv} {w : World} {own : Go.Mun.Own} {c : RFV} {f : Fr} {S : St} {M : List (Nat × St)} {n : Nat} (x : Nat) (hx : x < wW) (hl : f.stack.length < 1024) (h : RFrOk E w own c f S M n) :
  Calls Tryz.prog 280 #[.pointer (some ⟨E.fb, 230, none⟩), .agg (beC 32 x).toArray] w fun e w' => e = .returned (.bool true) ∧ ∃ c', RFrOk E w' own c' { f with stack := f.stack ++ [x] } S M n ∧ c'.tl = c.tl ∧ c'.jv = c.jv := by
 refine (r_push0 x (rf_sv h.row) (h.one (by omega)) (ownsRow_mono h.stk (Nat.zero_le _)) (fun g hg => (h.sown g hg).2) hl).mono ?_
 rintro e w' ⟨rfl, w1, sv', ho, rfl, hr, hb⟩
 refine ⟨rfl, _, h.stack ho hr hb (fun y hy => ?_) (by simp; omega), rfl, rfl⟩
 rcases List.mem_append.1 hy with hy | hy
 ·exact h.sval y hy
 ·obtain rfl := List.mem_singleton.1 hy; exact hx
end Go.Proofs.YtiglinnjnobodaaGreat
namespace Go.Proofs.YtiglinnjnobodaaGreat
open Go.RowKit Go.Mun
theorem slice129_head (a : Option Addr) (n c k : Nat) (hk : k ≤ c) (w : World) : (Instr.slice 129 (.slice a n c) none (some (.int .i64 (k : Int))) none).run Tryz.prog w = .ok (.slice a k c) w := by
 have he : Tryz.prog.elem 129 = 25 := by kernel_rfl
 have hs : (sizeOf 25).run Tryz.prog w = .ok 32 w := by kernel_rfl
 rw [run_slice_h w 129 a n c (by rw [he]; exact Tryz.underlying129) .i64 (k : Int) (by omega) (by omega), he, hs]
 have ha : (if c = 0 then a else a.map (·.add (0 * 32))) = a := by
  split
  ·rfl
  ·cases a with
   | none => rfl
   | some a => simp [Addr.add]
 simp only [Result.andThen, sliced, Int.toNat_natCast, Nat.sub_zero, ha]
theorem stkC_oneR (l : List Nat) (i : Nat) (hi : i < l.length) : ((stkC l).drop (i * 32)).take 32 = beC 32 l[i] := by
 rw [stkC_drop, List.drop_eq_getElem_cons hi]
 have : stkC (l[i] :: l.drop (i + 1)) = beC 32 l[i] ++ stkC (l.drop (i + 1)) := by unfold stkC; rw [List.flatMap_cons]
 rw [this, List.take_left' (by simp)]
set_option maxRecDepth 100000 in
set_option maxHeartbeats 2000000 in
theorem r_pop0 {w : World} {b o : Nat} {sv : Value} {l : List Nat} (k : Nat) (h : w.cell? ⟨b, o, none⟩ = some sv) (hf : w.free? b o 1 = true) (hr : w.ownsRow 0 25 32 sv l.length (stkC l))
  (hk : k ≤ l.length) (hl : l.length ≤ 1024) :
  Calls Tryz.prog 283 #[.pointer (some ⟨b, o, none⟩), .int .i64 (k : Int)] w fun e w' => ∃ v sv' w1, e = .returned (.tuple #[v, .bool true]) ∧ w' = w1.setCell ⟨b, o, none⟩ sv' ∧ Below w.heap.size w w1 ∧
   w1.ownsRow w.heap.size 25 32 v k (stkC (l.reverse.take k)) ∧ w1.ownsRow 0 25 32 sv' (l.take (l.length - k)).length (stkC (l.take (l.length - k))) ∧ ∀ g, sv'.ownBlock = some g → sv.ownBlock = some g := by
 have hbl : b < w.heap.size := free?_lt hf
 obtain ⟨a, c, rfl⟩ := own_shape hr
 have hcap : l.length ≤ c := by
  rcases hr.2 with ⟨e, h0⟩ | ⟨g, c', cur, e, _, _, h3, _⟩
  ·omega
  ·injection e with e1 e2 e3; omega
 obtain ⟨n, hn⟩ : ∃ n, n = l.length := ⟨_, rfl⟩
 have HTK : Hid (w.ownsRow 0 25 32 (.slice a (n - k) c) (l.take (n - k)).length (stkC (l.take (n - k)))) := by
  rw [hn]
  have hlen : (l.take (l.length - k)).length = l.length - k := by rw [List.length_take, Nat.min_eq_left (Nat.sub_le _ _)]
  rcases hr.2 with ⟨e, h0⟩ | ⟨g, c', cur, e, _, _, _, _⟩
  ·have : l = [] := List.eq_nil_of_length_eq_zero h0
   subst this
   injection e with e1 e2 e3
   subst e1 e3
   show World.ownsRow _ _ _ _ _ _ _
   rw [show ([] : List Nat).length - k = 0 by simp]
   exact World.ownsRow_nil _ _ _ _
  ·injection e with e1 e2 e3
   subst e1 e3
   have := own_take hr (Nat.sub_le l.length k)
   rw [stkC_take] at this
   rw [hlen]
   exact this
 have HAT : Hid (∀ j, j < n → ∃ g, a = some ⟨g, 0, none⟩ ∧ g < w.heap.size ∧ w.row? g ((n - 1 - j) * 32) 32 = some (beC 32 (l.reverse[j]?.getD 0))) := by
  intro j hj
  obtain ⟨g, c', e, _, _, _, hrow, _⟩ := own_words hr (by omega)
  cases e
  refine ⟨g, rfl, World.row?_lt hrow, ?_⟩
  have h1 := World.row?_sub hrow (o' := (n - 1 - j) * 32) (n' := 32) (Nat.zero_le _) (by omega)
  rw [h1, Nat.sub_zero, stkC_oneR l (n - 1 - j) (by omega), List.getElem?_reverse (by omega), List.getElem?_eq_getElem (by omega)]
  simp only [Option.getD_some]
  congr 2
  ·congr 1; omega
 have hsl := slice129_head a n c (n - k) (by omega)
 have hnk : IntKind.i64.wrap ((n : Int) - (k : Int)) = ((n - k : Nat) : Int) := by rw [wrI _ (by omega) (by omega)]; omega
 have hlt : ¬ (k : Int) < 0 := by omega
 have hgt : ¬ (n : Int) < (k : Int) := by omega
 rw [← hn] at h hcap hk hl ⊢
 have HF := Lib.hid hf
 have HN := Lib.hid hn
 have HH := Lib.hid h
 clear hr hn hf
 go_enter Tryz.func283, Tryz.ntmps283
 go_wp2_with fail
 go_loopw [6, 7] (fun u ix wr => ∃ j : Nat, j ≤ k ∧ ix = .int .i64 (j : Int) ∧ Hid (Below w.heap.size w wr ∧ wr.ownsRow w.heap.size 25 32 u j (stkC (l.reverse.take j)))) (fun _ ix _ => k - (intOf ix).toNat)
 case atStart => exact ⟨0, by omega, rfl, Below.refl _ _, World.ownsRow_nil _ _ _ _⟩
 case round =>
  obtain ⟨j, hj, rfl, HR⟩ := hrel
  have c1 : wr.cell? ⟨b, o, none⟩ = some (.slice a n c) := (HR.out.1.cell (p := ⟨b, o, none⟩) hbl).trans HH.out
  have hsz := HR.out.1.size
  by_cases hjk : j < k
  ·have hI : (j : Int) < k := by omega
   obtain ⟨g, rfl, hg, hr0⟩ := HAT.out j (by omega)
   obtain ⟨y, hy⟩ : ∃ y, y = l.reverse[j]?.getD 0 := ⟨_, rfl⟩
   rw [← hy] at hr0
   obtain ⟨i1, hi1⟩ : ∃ i1, i1 = n - 1 - j := ⟨_, rfl⟩
   rw [← hi1] at hr0
   have e1 : IntKind.i64.wrap ((n : Int) - 1) = (n : Int) - 1 := wrI _ (by omega) (by omega)
   have e2 : IntKind.i64.wrap ((n : Int) - 1 - (j : Int)) = (i1 : Int) := by rw [wrI _ (by omega) (by omega)]; omega
   have hi2 : i1 < n := by omega
   have hi2I : (i1 : Int) < n := by omega
   have hly := beC_len 32 y
   have hrw : wr.row? g (i1 * 32) 32 = some (beC 32 y) := ((brow HR.out.1).1 _ _ _ hg).trans hr0
   obtain ⟨T, hT⟩ : ∃ T : World → Prop, T = fun W => W.cell? ⟨b, o, none⟩ = some (.slice (some ⟨g, 0, none⟩) n c) ∧ W.row? g (i1 * 32) 32 = some (beC 32 y) := ⟨_, rfl⟩
   have HT := Lib.hid hT
   have t0 : T wr.drew := by rw [hT]; exact ⟨c1, hrw⟩
   have HTKE : Hid (l.reverse.take (j + 1) = l.reverse.take j ++ [y]) := by
    show _ = _
    rw [List.take_add_one, hy]
    have : j < l.reverse.length := by rw [List.length_reverse, ← HN.out]; omega
    rw [List.getElem?_eq_getElem this]; rfl
   have hbw : b < wr.heap.size := by omega
   have hgw : g < wr.heap.size := by omega
   have hok := beC_ok 32 y
   have hww : w.heap.size ≤ wr.heap.size := hsz
   have HRW : Hid (w.row? g (i1 * 32) 32 = some (beC 32 y)) := hr0
   clear hT hy hi1 hr0 hrw c1 hlt hgt hsl
   go_wp2_with fail
   refine wp_region_tree T [] (.pure 0 (.pure 1 (.pure 2 (.pure 3 (.take 4 (.pure 5 (.pure 6 (.pure 7 (.take 8 (.pure 9 (.pure 10 (.pure 11 (.pure 12 (.pure 13 (.take 14 (.alt 15 (.alt 16 (.pure 17 .fin) .stop) .stop)))))))))))))))) (by kernel_rfl) (by kernel_rfl) ?_
   refine tree_pure ?_ rfl (by rfl) (fun w' hs => ?_) (fun _ _ _ h => h) ?_
   rotate_left
   ·clear hs
    go_simp
    try rfl
   simp only [Act.put, tsa, tsb, tsc]
   refine tree_pure ?_ rfl (by rfl) (fun w' hs => ?_) (fun _ _ _ h => h) ?_
   rotate_left
   ·clear hs
    go_simp
    try rfl
   simp only [Act.put, tsa, tsb, tsc]
   refine tree_pure ?_ rfl (by rfl) (fun w' hs => ?_) (fun _ _ _ h => h) ?_
   rotate_left
   ·clear hs
    go_simp
    try rfl
   simp only [Act.put, tsa, tsb, tsc]
   refine tree_pure ?_ rfl (by rfl) (fun w' hs => ?_) (fun _ _ _ h => h) ?_
   rotate_left
   ·clear hs
    go_simp
    try rfl
   simp only [Act.put, tsa, tsb, tsc]
   refine tree_take ?_ t0 rfl (by rfl) (fun w' hs => ?_) (fun _ _ _ h => h) ?_
   rotate_left
   ·rw [HT.out] at hs
    obtain ⟨s1, s2⟩ := hs
    go_simp
    try rfl
   simp only [Act.put, tsa, tsb, tsc]
   refine tree_pure ?_ rfl (by rfl) (fun w' hs => ?_) (fun _ _ _ h => h) ?_
   rotate_left
   ·clear hs
    go_simp
    try rfl
   simp only [Act.put, tsa, tsb, tsc]
   refine tree_pure ?_ rfl (by rfl) (fun w' hs => ?_) (fun _ _ _ h => h) ?_
   rotate_left
   ·clear hs
    go_simp
    try rfl
   simp only [Act.put, tsa, tsb, tsc]
   refine tree_pure ?_ rfl (by rfl) (fun w' hs => ?_) (fun _ _ _ h => h) ?_
   rotate_left
   ·clear hs
    go_simp
    try rfl
   simp only [Act.put, tsa, tsb, tsc]
   refine tree_take ?_ t0 rfl (by rfl) (fun w' hs => ?_) (fun _ _ _ h => h) ?_
   rotate_left
   ·rw [HT.out] at hs
    obtain ⟨s1, s2⟩ := hs
    go_simp
    try rfl
   simp only [Act.put, tsa, tsb, tsc]
   refine tree_pure ?_ rfl (by rfl) (fun w' hs => ?_) (fun _ _ _ h => h) ?_
   rotate_left
   ·clear hs
    go_simp
    try rfl
   simp only [Act.put, tsa, tsb, tsc]
   refine tree_pure ?_ rfl (by rfl) (fun w' hs => ?_) (fun _ _ _ h => h) ?_
   rotate_left
   ·clear hs
    go_simp
    try rfl
   simp only [Act.put, tsa, tsb, tsc]
   refine tree_pure ?_ rfl (by rfl) (fun w' hs => ?_) (fun _ _ _ h => h) ?_
   rotate_left
   ·clear hs
    go_simp
    try rfl
   simp only [Act.put, tsa, tsb, tsc]
   refine tree_pure ?_ rfl (by rfl) (fun w' hs => ?_) (fun _ _ _ h => h) ?_
   rotate_left
   ·clear hs
    go_simp
    try rfl
   simp only [Act.put, tsa, tsb, tsc]
   refine tree_pure ?_ rfl (by rfl) (fun w' hs => ?_) (fun _ _ _ h => h) ?_
   rotate_left
   ·clear hs
    go_simp
    try rfl
   simp only [Act.put, tsa, tsb, tsc]
   refine tree_take ?_ t0 rfl (by rfl) (fun w' hs => ?_) (fun _ _ _ h => h) ?_
   rotate_left
   ·rw [HT.out] at hs
    obtain ⟨s1, s2⟩ := hs
    go_simp
    try rfl
   simp only [Act.put, tsa, tsb, tsc]
   refine tree_run rfl (fun K hK => ?_)
   go_simp
   have t1 : T (wr.drew.alloc (.cells (beC 32 y).toArray 25)) := by
    rw [HT.out] at t0 ⊢
    exact ⟨(World.cell?_alloc_lt _ _ _ hbw).trans t0.1, (World.row?_alloc_lt _ hgw).trans t0.2⟩
   refine hK.out _ _ t1 ?_
   clear hK K
   refine tree_run rfl (fun K hK => ?_)
   have hown : (wr.drew.alloc (.cells (beC 32 y).toArray 25)).ownsRow w.heap.size 25 32 _ j (stkC (l.reverse.take j)) := Only.own (S := fun _ => False) HR.out.2 ((Only.refl _ _).drew.alloc _) (fun _ _ h => h)
   have hge := ownsRow_ge hown
   refine step_app elem33 rfl _ _ rfl (ownsRow_mono hown (Nat.zero_le _)) rfl (SrcAt.new wr.drew (m := 1) (size := 32) (cs := beC 32 y) 25 (0, 0) hok 1) rfl (by unfold maxLen; omega) (by omega) ?_
   intro u' w3 hr3 ho3 hl3
   have hB3 : Below w.heap.size w w3 := (HR.out.1.trans (((Below.refl _ _).drew.alloc (Nat.le_refl _) _).mono hsz)).trans (ho3.below (by simp; omega) (fun i hi => hge i hi))
   have hr3' : w3.ownsRow w.heap.size 25 32 u' (j + 1) (stkC (l.reverse.take (j + 1))) := by
    rw [HTKE.out]
    have e : stkC (l.reverse.take j ++ [y]) = stkC (l.reverse.take j) ++ beC 32 y := by simp [stkC]
    rw [e]
    exact ownsRow_base hr3 (fun g2 hg2 => by
     rcases hl3 g2 hg2 with h | h
     ·exact hge g2 h
     ·simp at h; omega)
   have t3 : T w3 := by
    rw [HT.out]
    exact ⟨(hB3.cell (p := ⟨b, o, none⟩) hbl).trans HH.out, ((brow hB3).1 _ _ _ hg).trans HRW.out⟩
   have HN3 : Hid (Below w.heap.size w w3 ∧ w3.ownsRow w.heap.size 25 32 u' (j + 1) (stkC (l.reverse.take (j + 1)))) := ⟨hB3, hr3'⟩
   clear hr3 ho3 hl3 hown hge hB3 hr3'
   refine hK.out _ _ t3 ?_
   clear hK K
   refine tree_pure ?_ rfl (by rfl) (fun w' hs => ?_) (fun _ _ _ h => h) ?_
   rotate_left
   ·clear hs
    go_simp
    try rfl
   simp only [Act.put, tsa, tsb, tsc]
   refine tree_fin ?_
   clear t0 t1 t3
   go_wp2_with fail
   go_roundw
   case rel => exact ⟨j + 1, by omega, by go_num, HN3⟩
   case measure => simp [intOf]; omega
  ·obtain rfl : j = k := by omega
   have hI : ¬ (j : Int) < j := by omega
   have hfw : wr.free? b o 1 = true := ((brow HR.out.1).2 _ _ _ hbl).trans HF.out
   have hfd : wr.drew.free? b o 1 = true := hfw
   have cd : wr.drew.cell? ⟨b, o, none⟩ = some (.slice a n c) := c1
   clear hjk
   go_wp2_with fail
   go_still_tail 13, (by kernel_rfl)
   go_wp2
   go_ret2
   refine ⟨_, _, wr.drew, rfl, rfl, HR.out.1.drew, HR.out.2, ?_, fun g hg => by cases a <;> exact hg⟩
   have := ownsRow_below HTK.out (HR.out.1.drew)
   exact this
end Go.Proofs.YtiglinnjnobodaaGreat
namespace Go.Mun
def getK (l : Bts) (p n : Nat) : Bts := (l.drop p ++ List.replicate n 0).take n
theorem getK_len (l : Bts) (p n : Nat) : (getK l p n).length = n := by
 unfold getK
 rw [List.length_take, List.length_append, List.length_replicate]
 omega
end Go.Mun
namespace Go.Proofs.YtiglinnjnobodaaGreat
open Go.RowKit Go.Mun

def Whole (w : World) (b : Nat) (t : TypeId) (L : List Value) : Prop := w.heap[b]? = some (.cells L.toArray t (0, 0))
theorem Whole.new (w : World) (t : TypeId) (L : List Value) : Whole (w.alloc (.cells L.toArray t)) w.heap.size t L := heap_alloc_new w (.cells L.toArray t)
theorem Whole.lt {w : World} {b : Nat} {t : TypeId} {L : List Value} (h : Whole w b t L) : b < w.heap.size := (Array.getElem?_eq_some_iff.1 h).1
theorem Whole.set {w : World} {b : Nat} {t : TypeId} {L : List Value} (h : Whole w b t L) (i : Nat) (v : Value) : Whole (w.setCell ⟨b, i, none⟩ v) b t (L.set i v) := by
 have := setCell_heap (w := w) (b := b) (o := i) L.toArray t (0, 0) v h
 unfold Whole
 rw [this, List.setIfInBounds_toArray]
theorem Whole.only {w w' : World} {S : Nat → Prop} {b : Nat} {t : TypeId} {L : List Value} (h : Whole w b t L) (ho : Only S w w') (hs : ¬ S b) : Whole w' b t L := (ho.block b h.lt hs).trans h
theorem Whole.below {w w' : World} {b : Nat} {t : TypeId} {L : List Value} (h : Whole w b t L) (hb : Below w.heap.size w w') : Whole w' b t L := h.only (S := fun _ => False) (Only.of_below_size hb) (fun h => h)
theorem Whole.arr {w : World} {b n : Nat} {t : TypeId} {L : List Value} (h : Whole w b t L) (hn : L.length = n) : Arr w b n L := by
 subst hn
 refine ⟨?_, ?_⟩
 ·unfold World.row?
  rw [show w.heap[b]? = _ from h]
  simp
 ·unfold World.free?
  rw [show w.heap[b]? = _ from h]
  simp
theorem only_setRow (w : World) (g : Nat) (cs : Array Value) : Only (· = g) w (w.setRow g cs) :=
 ⟨rfl, rfl, rfl, by simp [World.setRow], fun k _ hs => setRow_other w g k cs hs⟩
theorem step_copy_only {P : Program} {ops : Array Oper} {o : Oper} {a : Act} {w : World} {K : Act → World → Prop} {Q : Exit → Act → World → Prop} {E : Prop} (hgd : o.guard = none) (d s : Operand) (dT sT : TypeId)
  (ho : o.op = .call { callee := .builtin .copy, args := #[d, s], argTypes := #[dT, sT] }) (elem : TypeId) (hu : P.underlying dT = some (.slice elem)) (hsz : (P.info? elem).map (·.size) = some 1)
  (dp sp : Option Addr) (dLen dCap sLen sCap : Nat) (hd : a.eval d = .slice dp dLen dCap) (hs : a.eval s = .slice sp sLen sCap)
  (g off : Nat) (cur : List Value) (t : TypeId) (hg : Whole w g t cur) (cs : List Value) (hn : cs.length = Nat.min sLen dLen)
  (hpos : 0 < cs.length → dp = some ⟨g, off, none⟩ ∧ ∃ ad, sp = some ad ∧ ∀ j v, cs[j]? = some v → w.cell? (ad.add j) = some v)
  (hfit : off + cs.length ≤ cur.length) (h1 : ∀ v ∈ cs, v.oneCell' = true)
  (h : ∀ w', Hid (Whole w' g t (splice cur off cs)) → Only (· = g) w w' → K (a.put o.dst (goInt cs.length)) w') :
  if Region.wanted o (yielded ops a.tmps) = true then Oper.wp P o a w K Q else E := by
 have hw : Region.wanted o (yielded ops a.tmps) = true := by simp [Region.wanted, hgd]
 rw [if_pos hw]
 by_cases h0 : cs.length = 0
 ·obtain rfl : cs = [] := List.eq_nil_of_length_eq_zero h0
  have hrun := run_copy_none (P := P) w dT sT o.type elem dp sp dLen dCap sLen sCap hu hsz (by simpa using hn.symm)
  unfold Oper.wp
  simp [execOp, ho, resolve, invoke, builtin, hd, hs, hrun, Result.andThen]
  exact h w (show Whole _ _ _ _ by simpa [splice] using hg) (Only.refl _ _)
 ·obtain ⟨rfl, ad, rfl, hsrc⟩ := hpos (by omega)
  have hrun := run_copy_row (P := P) w dT sT o.type elem g off dLen dCap ad sLen sCap cur.toArray t cs hu hsz hg hn hsrc (by simpa using hfit) h1
  unfold Oper.wp
  simp [execOp, ho, resolve, invoke, builtin, hd, hs, hrun, Result.andThen]
  exact h _ (show _ = _ by simpa [splice] using setRow_heap w g _ _ t _ hg) (only_setRow _ _ _)
theorem splice_cat {l : List (List Value)} {i : Nat} {s : List Value} (hs : l[i]? = some s) {v : List Value} (hv : v.length = s.length) {p : Nat} (hp : p = offOf l i) : splice (cat l) p v = cat (l.set i v) := by
 subst hp
 have hle := off_le hs
 rw [← lay_eq _ _ _ (by omega), lay_cat hs hv]
theorem Whole.seg {w : World} {b : Nat} {t : TypeId} {l : List (List Value)} (h : Whole w b t (cat l)) {i : Nat} {u : Value} (hs : l[i]? = some [u]) (v : Value) {p : Nat} (hp : p = offOf l i) : Whole (w.setCell ⟨b, p, none⟩ v) b t (cat (l.set i [v])) := by
 have h1 := h.set p v
 have hle := off_le hs
 rw [← splice_one _ _ _ (by subst hp; simp at hle; omega), splice_cat (v := [v]) hs rfl hp] at h1
 exact h1
theorem _root_.Go.Mun.Arr.seg {w : World} {b N : Nat} {l : List (List Value)} (h : Arr w b N (cat l)) {i : Nat} {u : Value} (hs : l[i]? = some [u]) (v : Value) {p : Nat} (hp : p = offOf l i) : Arr (w.setCell ⟨b, p, none⟩ v) b N (cat (l.set i [v])) := by
 have hle := off_le hs
 have hN := h.len
 exact ⟨cell_cat_set h.row hs v (by omega), by rw [free?_setCell _ (h.free1 (i := p) (by subst hp; simp at hle; omega))]; exact h.free⟩
theorem ints_src {w : World} {a : Option Addr} {c : Nat} {l : Bts} (hI : Ints w .u8 a c l) (hl : 0 < l.length) : ∃ ad, a = some ad ∧ ∀ j v, (u8L l)[j]? = some v → w.cell? (ad.add j) = some v := by
 obtain ⟨b, off, ha, hbl, hc⟩ := hI.at hl
 refine ⟨_, ha, fun j v hv => ?_⟩
 have hj : j < l.length := by have := (List.getElem?_eq_some_iff.1 hv).1; simpa using this
 have h2 : v = .int .u8 (l[j]?.getD 0) := by
  rw [List.getElem?_eq_getElem (by simpa using hj)] at hv
  rw [List.getElem?_eq_getElem hj]
  simp [u8L] at hv
  simpa using hv.symm
 rw [h2, show (⟨b, off, none⟩ : Addr).add j = ⟨b, off + j, none⟩ from add_off rfl]
 exact hc j hj
theorem ints_part {w : World} {b off c : Nat} {L : Bts} (h : Ints w .u8 (some ⟨b, off, none⟩) c L) (p q : Nat) (hpq : p + q ≤ L.length) (hp : p < c) : Ints w .u8 (some ⟨b, off + p, none⟩) (c - p) ((L.drop p).take q) := by
 have hl := h.len
 have hll : ((L.drop p).take q).length = q := by rw [List.length_take, List.length_drop]; omega
 refine ⟨fun hn => ?_, fun e => (by cases e), (by rw [hll]; omega), Nat.le_trans (Nat.sub_le _ _) h.cap⟩
 have hq : 0 < q := by rw [← hll]; exact List.length_pos_iff.2 hn
 obtain ⟨b', o', ha, _, hc⟩ := h.at (i := 0) (by omega)
 cases ha
 refine ⟨b, off + p, rfl, fun i hi => ?_⟩
 rw [hll] at hi
 have := hc (p + i) (by omega)
 rw [Nat.add_assoc, this, List.getElem?_take, if_pos hi, List.getElem?_drop]
theorem slice_rest {w : World} {b off c : Nat} {L : Bts} (h : Ints w .u8 (some ⟨b, off, none⟩) c L) (p : Nat) (hp0 : p ≤ L.length) :
  ∃ o' c', (∀ w', (Instr.slice 26 (.slice (some ⟨b, off, none⟩) L.length c) (some (.int .i64 (p : Int))) none none).run Tryz.prog w' = .ok (.slice (some ⟨b, o', none⟩) (L.length - p) c') w') ∧ Ints w .u8 (some ⟨b, o', none⟩) c' (L.drop p) := by
 have hl := h.len
 have he : Tryz.prog.elem 26 = 5 := by kernel_rfl
 have hs : ∀ w', (sizeOf 5).run Tryz.prog w' = .ok 1 w' := fun w' => by kernel_rfl
 by_cases hp : p < c
 ·refine ⟨off + p, c - p, fun w' => ?_, ?_⟩
  ·rw [run_slice_l w' 26 (some ⟨b, off, none⟩) L.length c (by rw [he]; exact Tryz.underlying26) .i64 (p : Int) (by omega) (by omega), he, hs]
   simp only [Result.andThen, sliced, Int.toNat_natCast, Nat.mul_one]
   rw [if_neg (by omega), Option.map_some, add_off rfl]
  ·have := ints_part h p (L.length - p) (by omega) hp
   rw [List.take_of_length_le (by rw [List.length_drop]; omega)] at this
   exact this
 ·have hpc : c = p := by omega
  have hlp : L.length = p := by omega
  refine ⟨off, 0, fun w' => ?_, ⟨fun hn => absurd (List.drop_of_length_le (by omega)) hn, fun e => (by cases e), by simp [hlp], Nat.zero_le _⟩⟩
  rw [run_slice_l w' 26 (some ⟨b, off, none⟩) L.length c (by rw [he]; exact Tryz.underlying26) .i64 (p : Int) (by omega) (by omega), he, hs]
  simp only [Result.andThen, sliced, Int.toNat_natCast, Nat.mul_one]
  rw [if_pos hpc, hpc, Nat.sub_self]
theorem getK_out (l : Bts) (p n : Nat) (h : l.length ≤ p) : u8L (getK l p n) = zU8 n := by
 unfold getK
 rw [List.drop_of_length_le h, List.nil_append, List.take_of_length_le (by simp)]
 simp [u8L, zU8]
theorem getK_splice (l : Bts) (p n : Nat) : splice (zU8 n) 0 (u8L ((l.drop p).take n)) = u8L (getK l p n) := by
 unfold splice getK
 rw [List.take_zero, List.nil_append, Nat.zero_add, List.take_append]
 simp only [u8L, List.map_append, List.length_map]
 congr 1
 rw [List.length_take]
 simp [zU8, List.drop_replicate, List.take_replicate]
 omega
end Go.Proofs.YtiglinnjnobodaaGreat
namespace Go.Proofs.YtiglinnjnobodaaGreat
open Go.RowKit Go.Mun
set_option maxRecDepth 100000 in
set_option maxHeartbeats 1000000 in
theorem ref_Cut {w : World} {sa : Option Addr} {sc : Nat} {l : Bts} (p n : Nat) (hp : p ≤ 4398046511104) (hn : n ≤ 1048576) (hI : Ints w .u8 sa sc l) (hl : l.length ≤ 1099511627776) :
  Calls Tryz.prog 279 #[.slice sa l.length sc, .int .i64 p, .int .i64 n] w fun e w' => ∃ v, e = .returned v ∧ NewB w w' v (getK l p n) := by
 obtain ⟨w0, e0⟩ : ∃ w0, w0 = w.alloc (.cells (zU8 n).toArray 5) := ⟨_, rfl⟩
 have hb0 : Below w.heap.size w w0 := by rw [e0]; exact (Below.refl _ _).alloc (Nat.le_refl _) _
 have hw0 : Whole w0 w.heap.size 5 (zU8 n) := by rw [e0]; exact Whole.new w 5 (zU8 n)
 have hmk : ∀ w', (Instr.makeSlice 26 (.int .i64 (n : Int)) (.int .i64 (n : Int))).run Tryz.prog w' = .ok (.slice (some ⟨w'.heap.size, 0, none⟩) n n) (w'.alloc (.cells (zU8 n).toArray 5)) := fun w' => run_makeU8 elem26 (n : Int) n rfl (by omega) w'
 have HE := Lib.hid e0
 have HB := Lib.hid hb0
 have HW0 := Lib.hid hw0
 have HI := Lib.hid (hI.below hb0)
 have HN := Lib.hid hn
 have HL := Lib.hid hl
 clear e0 hb0 hw0 hI
 by_cases hlt : p < l.length
 ·have d4 : decide ((p : Int) < (l.length : Int)) = true := decide_eq_true (by omega)
  have d5 : (p < l.length) = True := eq_true hlt
  obtain ⟨gb, off, ha, _, _⟩ := HI.out.at (i := 0) (by omega)
  subst ha
  obtain ⟨o', c', hsl, hI2⟩ := slice_rest HI.out p (by omega)
  have HI2 := Lib.hid hI2
  have hcl : (u8L ((l.drop p).take n)).length = Nat.min (l.length - p) n := by
   simp only [u8L, List.length_map, List.length_take, List.length_drop]
   exact Nat.min_comm _ _
  have HCL := Lib.hid hcl
  have HSRC : Hid (0 < (u8L ((l.drop p).take n)).length → ∃ ad, (some ⟨gb, o', none⟩ : Option Addr) = some ad ∧ ∀ j v, (u8L ((l.drop p).take n))[j]? = some v → w0.cell? (ad.add j) = some v) := fun hpos => by
   have h1 : 0 < (l.drop p).length := by rw [List.length_drop]; omega
   obtain ⟨ad, e, hs⟩ := ints_src HI2.out h1
   refine ⟨ad, e, fun j v hv => hs j v ?_⟩
   have hj : j < ((l.drop p).take n).length := by have := (List.getElem?_eq_some_iff.1 hv).1; simpa using this
   have hjn : j < n := by rw [List.length_take] at hj; omega
   simp only [u8L, List.getElem?_map, List.getElem?_take, if_pos hjn] at hv ⊢
   exact hv
  clear hI2 hcl hlt
  go_enter Tryz.func279, Tryz.ntmps279
  go_wp2_with (rw [← HE.out]; refine wpList_copy_splice rfl _ _ 26 26 rfl 5 Tryz.underlying26 (by kernel_rfl) (some ⟨w.heap.size, 0, none⟩) (some ⟨gb, o', none⟩) n n (l.length - p) c' rfl rfl w.heap.size 0 (zU8 n) 5 HW0.out (u8L ((l.drop p).take n)) HCL.out (fun hpos => ⟨rfl, HSRC.out hpos⟩) (by rw [HCL.out]; simp [zU8]; exact Nat.min_le_right _ _) (fun v hv => by obtain ⟨x, _, rfl⟩ := List.mem_map.1 hv; rfl) w.heap.size w HB.out (Nat.le_refl _) ?_)
  intro w2 hg2 hb2
  have hW2 : Whole w2 w.heap.size 5 (u8L (getK l p n)) := by rw [← getK_splice]; exact hg2.out
  have hA := hW2.arr (n := n) (by simp [u8L, getK_len])
  have HA := Lib.hid hA
  have HB2 := Lib.hid hb2
  clear hg2 hb2 hW2 hA hsl
  go_wp2
  go_ret
  exact ⟨_, rfl, ⟨⟨some ⟨w.heap.size, 0, none⟩, n, by rw [getK_len]; rfl, Ints.of_arr HA.out (getK_len _ _ _).symm (Nat.le_refl _) (by have := HN.out; unfold maxLen; omega), fun q hq => by cases hq; exact Nat.le_refl _⟩, HB2.out⟩⟩
 ·have d4 : decide ((p : Int) < (l.length : Int)) = false := decide_eq_false (by omega)
  have d5 : (p < l.length) = False := eq_false hlt
  have d6 : (l.length ≤ p) = True := eq_true (by omega)
  have hW2 : Whole w0 w.heap.size 5 (u8L (getK l p n)) := by rw [getK_out l p n (by omega)]; exact HW0.out
  have HA := Lib.hid (hW2.arr (n := n) (by simp [u8L, getK_len]))
  clear hW2 hlt
  go_enter Tryz.func279, Tryz.ntmps279
  go_wp2
  rw [← HE.out]
  go_ret
  exact ⟨_, rfl, ⟨⟨some ⟨w.heap.size, 0, none⟩, n, by rw [getK_len]; rfl, Ints.of_arr HA.out (getK_len _ _ _).symm (Nat.le_refl _) (by have := HN.out; unfold maxLen; omega), fun q hq => by cases hq; exact Nat.le_refl _⟩, HB.out⟩⟩
end Go.Proofs.YtiglinnjnobodaaGreat
namespace Go.Proofs.YtiglinnjnobodaaGreat
open Go.RowKit Go.Mun
theorem getK_byt {l : Bts} (h : Byt l) (p n : Nat) : Byt (getK l p n) := fun x hx => by
 unfold getK at hx
 rcases List.mem_append.1 (List.mem_of_mem_take hx) with h1 | h1
 ·exact h x (List.mem_of_mem_drop h1)
 ·rw [List.eq_of_mem_replicate h1]; decide
theorem word_tail {L : Bts} {k : Nat} (hb : Byt L) (hl : L.length = k) (hk : k ≤ 32) : splice (zU8 32) (32 - k) (u8L L) = beC 32 (beN L) := by
 have h1 := be_beN (List.replicate (32 - k) 0 ++ L) (byt_app (byt_zeros _) hb)
 have h2 : (List.replicate (32 - k) (0 : Int) ++ L).length = 32 := by simp [hl]; omega
 rw [h2, beN_zeros] at h1
 unfold beC
 rw [h1]
 unfold splice zU8 u8L
 rw [List.take_replicate, List.drop_replicate, List.length_map, hl, List.map_append, List.map_replicate, Nat.min_eq_left (by omega), show 32 - (32 - k + k) = 0 by omega]
 simp
def ownR (f : Fr) (k : Nat) : Nat := beN (getK f.code (f.next + 1) k)
theorem ownR_lt {E : REnv} {w : World} {own : Go.Mun.Own} {c : RFV} {f : Fr} {S : St} {M : List (Nat × St)} {n : Nat} (h : RFrOk E w own c f S M n) (k : Nat) (hk : k ≤ 32) : ownR f k < wW := by
 have h1 := beN_lt (getK f.code (f.next + 1) k) (getK_byt h.code.byte _ _)
 rw [getK_len] at h1
 have h3 : 256 ^ k ≤ 256 ^ 32 := Nat.pow_le_pow_right (by decide) hk
 unfold ownR
 rw [← wW_eq]; omega
def RDo (E : REnv) (jv : Value) (r : Res) (e : Ending) (w : World) : Prop :=
 match r with
 | .ok f S => e = .returned (.int .i64 0) ∧ ∃ own c M n, RFrOk E w own c f S M n ∧ c.tl = infsC infT ∧ c.jv = jv
 | .stop x f _ => e = .returned (.int .i64 (x : Int)) ∧ x ≠ 0 ∧ ∃ own c M n f' S', RFrOk E w own c f' S' M n ∧ (x = 15 → f'.gas = f.gas ∧ f'.out = f.out)
 | .none => True
set_option maxRecDepth 100000 in
set_option maxHeartbeats 2000000 in
theorem rdo_push {E : REnv} {w : World} {own : Go.Mun.Own} {c : RFV} {f : Fr} {S : St} {M : List (Nat × St)} {n : Nat} (m : Nat) (hm : 96 ≤ m ∧ m ≤ 127) (h : RFrOk E w own c f S M n) (htl : c.tl = infsC infT) (hl : f.stack.length < 1024) :
  Calls Tryz.prog 210 #[.pointer (some ⟨E.fb, 0, none⟩), .int .u8 (m : Int), c.jv] w (RDo E c.jv (.ok { f with stack := f.stack ++ [ownR f (m - 95)] } S)) := by
 obtain ⟨k, hk⟩ : ∃ k, k = m - 95 := ⟨_, rfl⟩
 have hk32 : k ≤ 32 := by omega
 have hk1 : 1 ≤ k := by omega
 rw [← hk]
 obtain ⟨x, hx⟩ : ∃ x, x = ownR f k := ⟨_, rfl⟩
 have hxW : x < wW := by rw [hx]; exact ownR_lt h k hk32
 obtain ⟨w1, e1⟩ : ∃ w1, w1 = w.alloc (.cells (zU8 32).toArray 25) := ⟨_, rfl⟩
 have hb1 : Below w.heap.size w w1 := by rw [e1]; exact (Below.refl _ _).alloc (Nat.le_refl _) _
 have hwh : Whole w1 w.heap.size 25 (zU8 32) := by rw [e1]; exact Whole.new w 25 (zU8 32)
 obtain ⟨⟨ca, cc, hcv, hci, _⟩, hcb, hcl⟩ := h.code
 have c193 := rf_code h.row
 have c229 := rf_pc h.row
 rw [hcv] at c193
 obtain ⟨cl, hcln⟩ : ∃ cl, cl = f.code.length := ⟨_, rfl⟩
 rw [← hcln] at c193 hcl
 obtain ⟨pc, hpc⟩ : ∃ pc, pc = f.next := ⟨_, rfl⟩
 rw [← hpc] at c229
 have hpcl : pc ≤ 2199023255552 := by rw [hpc]; exact h.nxt
 have hlt := h.lt
 have hown := ref_own (m : Int) (by omega) (by omega)
 have hom : ownOf (m : Int) = (k : Int) := by unfold ownOf; rw [if_pos (by omega)]; omega
 rw [hom] at hown
 have hm1 : (96 : Int) ≤ m := by omega
 have hm2 : (m : Int) < 128 := by omega
 have hd1 : decide ((96 : Int) ≤ m) = true := decide_eq_true hm1
 have hd2 : decide ((m : Int) < 128) = true := decide_eq_true hm2
 obtain ⟨j, hj⟩ : ∃ j, j = 32 - k := ⟨_, rfl⟩
 have hi1 : IntKind.i64.wrap (32 - (k : Int)) = (j : Int) := by rw [wrI _ (by omega) (by omega)]; omega
 have hi2 : IntKind.i64.wrap ((pc : Int) + 1) = ((pc + 1 : Nat) : Int) := by rw [wrI _ (by omega) (by omega)]; omega
 obtain ⟨p1, hp1⟩ : ∃ p1, p1 = pc + 1 := ⟨_, rfl⟩
 rw [← hp1] at hi2
 have hs25 := fun b => slice25 b j (by omega)
 have HCUT : Hid (∀ W, Below w.heap.size w W → Calls Tryz.prog 279 #[.slice ca cl cc, .int .i64 (p1 : Int), .int .i64 (k : Int)] W fun e w' => ∃ v, e = .returned v ∧ NewB W w' v (getK f.code p1 k)) := by
  intro W hW
  rw [hcln]
  exact ref_Cut p1 k (by omega) (by omega) (hci.below hW) (by rw [← hcln]; exact hcl)
 have HXO : Hid (ownR f k = x) := hx.symm
 have HX : Hid (x = beN (getK f.code p1 k)) := by show _ = _; rw [hx, hp1, hpc]; rfl
 obtain ⟨L, hL⟩ : ∃ L, L = getK f.code p1 k := ⟨_, rfl⟩
 have hLb : Byt L := by rw [hL]; exact getK_byt hcb _ _
 have hLl : L.length = k := by rw [hL]; exact getK_len _ _ _
 rw [← hL] at HCUT HX
 have HWT : Hid (splice (zU8 32) j (u8L L) = beC 32 x) := by show _ = _; rw [hj, HX.out]; exact word_tail hLb hLl hk32
 have HLB := Lib.hid hLb
 have HLL := Lib.hid hLl
 obtain ⟨T, hT⟩ : ∃ T : World → Prop, T = fun W => W.cell? ⟨E.fb, 193, none⟩ = some (.slice ca cl cc) ∧ W.cell? ⟨E.fb, 229, none⟩ = some (.int .i64 (pc : Int)) := ⟨_, rfl⟩
 have HT := Lib.hid hT
 have HTB : Hid (∀ W, Below w.heap.size w W → T W) := by
  rw [hT]; intro W hb
  exact ⟨(hb.cell (p := ⟨E.fb, 193, none⟩) hlt).trans c193, (hb.cell (p := ⟨E.fb, 229, none⟩) hlt).trans c229⟩
 have t0 : T w1.drew := HTB.out _ hb1.drew
 have H := Lib.hid h
 have HTL := Lib.hid htl
 have HE := Lib.hid e1
 have HB1 := Lib.hid hb1
 have HWH := Lib.hid hwh
 have HL := Lib.hid hl
 have HJ : Hid (32 - j = k) := by show _ = _; omega
 have hjl : j < 32 := by omega
 have hjk : j + k = 32 := by omega
 clear htl hT hx e1 hb1 hwh hcv hci hcb h c193 c229 hcln hpc hom hp1 hL hLb hLl hl hk hj hm
 go_enter Tryz.func210, Tryz.ntmps210
 go_wp2_with fail
 rw [← HE.out]
 refine (hown _).mono ?_
 rintro e w2 ⟨rfl, rfl⟩
 go_wp2_with fail
 refine wp_region_tree T [] (.pure 0 (.pure 1 (.pure 2 (.pure 3 (.pure 4 (.pure 5 (.take 6 (.pure 7 (.pure 8 (.pure 9 (.take 10 (.pure 11 (.pure 12 (.alt 13 (.alt 14 .fin .stop) .stop)))))))))))))) (by kernel_rfl) (by kernel_rfl) ?_
 refine tree_pure ?_ rfl (by rfl) (fun w' hs => ?_) (fun _ _ _ h => h) ?_
 rotate_left
 ·clear hs
  go_simp
  try rfl
 simp only [Act.put, tsa, tsb, tsc]
 refine tree_pure ?_ rfl (by rfl) (fun w' hs => ?_) (fun _ _ _ h => h) ?_
 rotate_left
 ·clear hs
  go_simp
  try rfl
 simp only [Act.put, tsa, tsb, tsc]
 refine tree_pure ?_ rfl (by rfl) (fun w' hs => ?_) (fun _ _ _ h => h) ?_
 rotate_left
 ·clear hs
  go_simp
  try rfl
 simp only [Act.put, tsa, tsb, tsc]
 refine tree_pure ?_ rfl (by rfl) (fun w' hs => ?_) (fun _ _ _ h => h) ?_
 rotate_left
 ·clear hs
  go_simp
  try rfl
 simp only [Act.put, tsa, tsb, tsc]
 refine tree_pure ?_ rfl (by rfl) (fun w' hs => ?_) (fun _ _ _ h => h) ?_
 rotate_left
 ·clear hs
  go_simp
  try rfl
 simp only [Act.put, tsa, tsb, tsc]
 refine tree_pure ?_ rfl (by rfl) (fun w' hs => ?_) (fun _ _ _ h => h) ?_
 rotate_left
 ·clear hs
  go_simp
  try rfl
 simp only [Act.put, tsa, tsb, tsc]
 refine tree_take ?_ t0 rfl (by rfl) (fun w' hs => ?_) (fun _ _ _ h => h) ?_
 rotate_left
 ·rw [HT.out] at hs
  obtain ⟨s1, s2⟩ := hs
  go_simp
  try rfl
 simp only [Act.put, tsa, tsb, tsc]
 refine tree_pure ?_ rfl (by rfl) (fun w' hs => ?_) (fun _ _ _ h => h) ?_
 rotate_left
 ·clear hs
  go_simp
  try rfl
 simp only [Act.put, tsa, tsb, tsc]
 refine tree_pure ?_ rfl (by rfl) (fun w' hs => ?_) (fun _ _ _ h => h) ?_
 rotate_left
 ·clear hs
  go_simp
  try rfl
 simp only [Act.put, tsa, tsb, tsc]
 refine tree_pure ?_ rfl (by rfl) (fun w' hs => ?_) (fun _ _ _ h => h) ?_
 rotate_left
 ·clear hs
  go_simp
  try rfl
 simp only [Act.put, tsa, tsb, tsc]
 refine tree_take ?_ t0 rfl (by rfl) (fun w' hs => ?_) (fun _ _ _ h => h) ?_
 rotate_left
 ·rw [HT.out] at hs
  obtain ⟨s1, s2⟩ := hs
  go_simp
  try rfl
 simp only [Act.put, tsa, tsb, tsc]
 refine tree_pure ?_ rfl (by rfl) (fun w' hs => ?_) (fun _ _ _ h => h) ?_
 rotate_left
 ·clear hs
  go_simp
  try rfl
 simp only [Act.put, tsa, tsb, tsc]
 refine tree_pure ?_ rfl (by rfl) (fun w' hs => ?_) (fun _ _ _ h => h) ?_
 rotate_left
 ·clear hs
  go_simp
  try rfl
 simp only [Act.put, tsa, tsb, tsc]
 refine tree_run rfl (fun K hK => ?_)
 go_simp
 refine (HCUT.out _ HB1.out.drew).mono ?_
 rintro e w3 ⟨v, rfl, hnb⟩
 obtain ⟨⟨va, vc, ev, hvi, hva⟩, hb3⟩ := hnb
 subst ev
 have HB3 : Hid (Below w.heap.size w w3) := HB1.out.drew.trans (hb3.mono HB1.out.drew.size)
 have t3 := HTB.out _ HB3.out
 have HWH3 : Hid (Whole w3 w.heap.size 25 (zU8 32)) := Whole.below (w := w1.drew) HWH.out hb3
 have HVI := Lib.hid hvi
 have hvl : L.length = k := HLL.out
 rw [hvl]
 clear hb3 hvi hva
 refine hK.out _ _ t3 ?_
 clear hK K
 refine tree_run rfl (fun K hK => ?_)
 refine step_copy_only rfl _ _ 26 26 rfl 5 Tryz.underlying26 (by kernel_rfl) (some ⟨w.heap.size, j, none⟩) va (32 - j) (32 - j) k vc rfl rfl w.heap.size j (zU8 32) 25 HWH3.out (u8L L) (by rw [HJ.out, u8L_len, hvl]; simp) (fun hpos => ⟨rfl, ints_src HVI.out (by simpa using hpos)⟩) (by rw [u8L_len, hvl, zU8_len]; omega) (okL_mem (u8L_ok L _ rfl)) ?_
 intro w4 hw4 ho4
 rw [HWT.out] at hw4
 have HB4 : Hid (Below w.heap.size w w4) := HB3.out.trans (ho4.below HB3.out.size (fun i hi => by have : i = w.heap.size := hi; omega))
 have t4 := HTB.out _ HB4.out
 have HA4 := Lib.hid (hw4.out.arr (n := 32) (by simp))
 clear hw4 ho4
 refine hK.out _ _ t4 ?_
 clear hK K
 refine tree_fin ?_
 clear t0 t3 t4
 have hr4 : w4.drew.row? w.heap.size 0 32 = some (beC 32 x) := HA4.out.row
 obtain ⟨T2, hT2⟩ : ∃ T2 : World → Prop, T2 = fun W => W.row? w.heap.size 0 32 = some (beC 32 x) := ⟨_, rfl⟩
 have HT := Lib.hid hT2
 have t5 : T2 w4.drew := by rw [hT2]; exact hr4
 have HP := Lib.hid (r_push x hxW HL.out (H.out.below HB4.out.drew))
 have hl32 := beC_len 32 x
 clear hT2 hr4
 go_wp2_with fail
 refine wp_region_tree T2 [4] (.pure 0 (.pure 1 (.pure 2 (.take 3 (.alt 4 .fin .stop))))) (by kernel_rfl) (by kernel_rfl) ?_
 refine tree_pure ?_ rfl (by rfl) (fun w' hs => ?_) (fun _ _ _ h => h) ?_
 rotate_left
 ·clear hs
  go_simp
  try rfl
 simp only [Act.put, tsa, tsb, tsc]
 refine tree_pure ?_ rfl (by rfl) (fun w' hs => ?_) (fun _ _ _ h => h) ?_
 rotate_left
 ·clear hs
  go_simp
  try rfl
 simp only [Act.put, tsa, tsb, tsc]
 refine tree_pure ?_ rfl (by rfl) (fun w' hs => ?_) (fun _ _ _ h => h) ?_
 rotate_left
 ·clear hs
  go_simp
  try rfl
 simp only [Act.put, tsa, tsb, tsc]
 refine tree_take ?_ t5 rfl (by rfl) (fun w' hs => ?_) (fun _ _ _ h => h) ?_
 rotate_left
 ·rw [HT.out] at hs
  have s1 := hs
  go_simp
  try rfl
 simp only [Act.put, tsa, tsb, tsc]
 refine tree_z rfl (by simp) (fun K hK => ?_)
 go_simp
 refine HP.out.mono ?_
 rintro e w5 ⟨rfl, c', h5, ht5, hj5⟩
 have H5 := Lib.hid h5
 have HT5 := Lib.hid (ht5.trans HTL.out)
 have HJ5 := Lib.hid hj5
 clear h5 ht5 hj5
 refine hK.out _ _ ?_
 clear hK K
 refine tree_fin ?_
 clear t5
 go_wp2
 go_ret
 exact ⟨rfl, own, c', M, n, by rw [HXO.out]; exact H5.out, HT5.out, HJ5.out⟩
end Go.Proofs.YtiglinnjnobodaaGreat
