/-
  The reference's machine: values are taken; what STOP does.
  The reference's machine: what instructions without memory of their own cost besides.
  The reference's machine: a code is run, told of what each instruction costs and does.
  The reference's machine: what a run of PUSH and STOP is told.
-/
import Derived.Test.YtiglinnjnobodaaGreatQRf1
set_option linter.unusedVariables false
set_option linter.unusedSimpArgs false
namespace Go.Proofs.YtiglinnjnobodaaGreat
open Go.RowKit Go.Mun

theorem r_pop {E : REnv} {w : World} {own : Go.Mun.Own} {c : RFV} {f : Fr} {S : St} {M : List (Nat × St)} {n : Nat} (k : Nat) (hk : k ≤ f.stack.length) (h : RFrOk E w own c f S M n) :
  Calls Tryz.prog 283 #[.pointer (some ⟨E.fb, 230, none⟩), .int .i64 (k : Int)] w fun e w' => ∃ v c', e = .returned (.tuple #[v, .bool true]) ∧ RFrOk E w' own c' { f with stack := f.stack.take (f.stack.length - k) } S M n ∧ (c'.tl = c.tl ∧ c'.jv = c.jv) ∧
   w'.ownsRow w.heap.size 25 32 v k (stkC (f.stack.reverse.take k)) ∧ (∀ g, v.ownBlock = some g → own g = none ∧ c'.sv.ownBlock ≠ some g ∧ c'.mv.ownBlock ≠ some g) := by
 refine (r_pop0 k (rf_sv h.row) (h.one (by omega)) (ownsRow_mono h.stk (Nat.zero_le _)) hk h.slen).mono ?_
 rintro e w' ⟨v, sv', w1, rfl, rfl, hb, hv, hs, hg⟩
 have hvg := ownsRow_ge hv
 refine ⟨v, _, rfl, h.stack (Only.of_below_size hb) hs (fun g hg2 => .inl (hg g hg2)) (fun y hy => h.sval y (List.mem_of_mem_take hy)) (Nat.le_trans (by rw [List.length_take]; exact Nat.min_le_right _ _) h.slen), ⟨rfl, rfl⟩, ?_, fun g hg2 => ⟨free_own h.st.lows (hvg g hg2), fun e => ?_, fun e => ?_⟩⟩
 ·exact Only.own hv (only_cell w1 E.fb 230 sv') (fun g hg2 e => by have e2 : g = E.fb := e; have := hvg g hg2; have := h.lt; omega)
 ·have h1 := hg g e
  have := ownsRow_lt h.stk g h1
  have := hvg g hg2
  omega
 ·have := ownsRow_lt h.mem g e
  have := hvg g hg2
  omega
theorem inf0 : infT[0]? = some ⟨0, [83, 84, 79, 80], 0, 0, 0⟩ := by kernel_rfl
theorem rf_inf {E : REnv} {w : World} {own : Go.Mun.Own} {c : RFV} {f : Fr} {S : St} {M : List (Nat × St)} {n : Nat} (h : RFrOk E w own c f S M n) (htl : c.tl = infsC infT) (m : Nat) (x : Inf) (hx : infT[m]? = some x) : w.row? E.fb (236 + m * 5) 5 = some x.c := by
 have hm : m < 256 := by have := (List.getElem?_eq_some_iff.1 hx).1; rw [infT_len] at this; exact this
 have h1 := rf_t h.row h.tlen
 have h2 := World.row?_sub h1 (o' := 236 + m * 5) (n' := 5) (by omega) (by omega)
 rw [h2, htl, show 236 + m * 5 - 236 = 5 * m by omega, infsC_at infT m x hx]
set_option maxRecDepth 100000 in
set_option maxHeartbeats 2000000 in
theorem rplain_stop {E : REnv} {w : World} {own : Go.Mun.Own} {c : RFV} {f : Fr} {S : St} {M : List (Nat × St)} {n : Nat} {v jv : Value} (h : RFrOk E w own c f S M n) :
  Calls Tryz.prog 289 #[.pointer (some ⟨E.fb, 0, none⟩), .int .u8 0, v, jv] w fun e w' => e = .returned (.int .i64 0) ∧ RFrOk E w' own c { f with ended := true } S M n := by
 have hf := h.one (i := 235) (by omega)
 have H := Lib.hid (h.ended true)
 clear h
 go_enter Tryz.func289, Tryz.ntmps289
 go_wp2
 go_ret
 exact ⟨rfl, H.out⟩
set_option maxRecDepth 100000 in
set_option maxHeartbeats 2000000 in
theorem rdo_stop {E : REnv} {w : World} {own : Go.Mun.Own} {c : RFV} {f : Fr} {S : St} {M : List (Nat × St)} {n : Nat} (h : RFrOk E w own c f S M n) (htl : c.tl = infsC infT) :
  Calls Tryz.prog 210 #[.pointer (some ⟨E.fb, 0, none⟩), .int .u8 0, c.jv] w (RDo E c.jv (.ok { f with ended := true } S)) := by
 have hr := rf_inf h htl 0 _ inf0
 have hc : w.cell? ⟨E.fb, 238, none⟩ = some (.int .i64 0) := by
  have := World.row?_cell hr (i := 2) (by omega)
  rw [this]; unfold Inf.c; rfl
 obtain ⟨T, hT⟩ : ∃ T : World → Prop, T = fun W => W.cell? ⟨E.fb, 238, none⟩ = some (.int .i64 0) := ⟨_, rfl⟩
 have HT := Lib.hid hT
 have t0 : T w.drew := by rw [hT]; exact hc
 have HP := Lib.hid (r_pop 0 (Nat.zero_le _) (h.below (Below.refl _ _).drew))
 have HTL := Lib.hid htl
 clear h htl hr hc hT
 go_enter Tryz.func210, Tryz.ntmps210
 go_wp2_with fail
 refine wp_region_tree T [10] (.pure 0 (.pure 1 (.pure 2 (.pure 3 (.pure 4 (.pure 5 (.pure 6 (.pure 7 (.pure 8 (.take 9 (.alt 10 (.pure 11 (.pure 12 (.pure 13 (.pure 14 (.pure 15 .fin))))) .stop))))))))))) (by kernel_rfl) (by kernel_rfl) ?_
 refine tree_pure ?_ rfl (by rfl) (fun w' hs => ?_) (fun _ _ _ h => h) ?_
 rotate_left
 ·clear hs
  go_simp
  try rfl
 simp only [Act.put, tsa, tsb, tsc]
 refine tree_pure ?_ rfl (by rfl) (fun w' hs => ?_) (fun _ _ _ h => h) ?_
 rotate_left
 ·clear hs
  go_simp
  try rfl
 simp only [Act.put, tsa, tsb, tsc]
 refine tree_pure ?_ rfl (by rfl) (fun w' hs => ?_) (fun _ _ _ h => h) ?_
 rotate_left
 ·clear hs
  go_simp
  try rfl
 simp only [Act.put, tsa, tsb, tsc]
 refine tree_pure ?_ rfl (by rfl) (fun w' hs => ?_) (fun _ _ _ h => h) ?_
 rotate_left
 ·clear hs
  go_simp
  try rfl
 simp only [Act.put, tsa, tsb, tsc]
 refine tree_pure ?_ rfl (by rfl) (fun w' hs => ?_) (fun _ _ _ h => h) ?_
 rotate_left
 ·clear hs
  go_simp
  try rfl
 simp only [Act.put, tsa, tsb, tsc]
 refine tree_pure ?_ rfl (by rfl) (fun w' hs => ?_) (fun _ _ _ h => h) ?_
 rotate_left
 ·clear hs
  go_simp
  try rfl
 simp only [Act.put, tsa, tsb, tsc]
 refine tree_pure ?_ rfl (by rfl) (fun w' hs => ?_) (fun _ _ _ h => h) ?_
 rotate_left
 ·clear hs
  go_simp
  try rfl
 simp only [Act.put, tsa, tsb, tsc]
 refine tree_pure ?_ rfl (by rfl) (fun w' hs => ?_) (fun _ _ _ h => h) ?_
 rotate_left
 ·clear hs
  go_simp
  try rfl
 simp only [Act.put, tsa, tsb, tsc]
 refine tree_pure ?_ rfl (by rfl) (fun w' hs => ?_) (fun _ _ _ h => h) ?_
 rotate_left
 ·clear hs
  go_simp
  try rfl
 simp only [Act.put, tsa, tsb, tsc]
 refine tree_take ?_ t0 rfl (by rfl) (fun w' hs => ?_) (fun _ _ _ h => h) ?_
 rotate_left
 ·rw [HT.out] at hs
  have s1 := hs
  go_simp
  try rfl
 simp only [Act.put, tsa, tsb, tsc]
 refine tree_z rfl (by simp) (fun K hK => ?_)
 go_simp
 refine HP.out.mono ?_
 rintro e w1 ⟨v, c1, rfl, h1, ⟨ht1, hj1⟩, _, _⟩
 have H1 := Lib.hid h1
 have HT1 := Lib.hid (ht1.trans HTL.out)
 have HJ1 := Lib.hid hj1
 clear h1 ht1 hj1
 refine hK.out _ _ ?_
 clear hK K
 refine tree_pure ?_ rfl (by rfl) (fun w' hs => ?_) (fun _ _ _ h => h) ?_
 rotate_left
 ·clear hs
  go_simp
  try rfl
 simp only [Act.put, tsa, tsb, tsc]
 refine tree_pure ?_ rfl (by rfl) (fun w' hs => ?_) (fun _ _ _ h => h) ?_
 rotate_left
 ·clear hs
  go_simp
  try rfl
 simp only [Act.put, tsa, tsb, tsc]
 refine tree_pure ?_ rfl (by rfl) (fun w' hs => ?_) (fun _ _ _ h => h) ?_
 rotate_left
 ·clear hs
  go_simp
  try rfl
 simp only [Act.put, tsa, tsb, tsc]
 refine tree_pure ?_ rfl (by rfl) (fun w' hs => ?_) (fun _ _ _ h => h) ?_
 rotate_left
 ·clear hs
  go_simp
  try rfl
 simp only [Act.put, tsa, tsb, tsc]
 refine tree_pure ?_ rfl (by rfl) (fun w' hs => ?_) (fun _ _ _ h => h) ?_
 rotate_left
 ·clear hs
  go_simp
  try rfl
 simp only [Act.put, tsa, tsb, tsc]
 refine tree_fin ?_
 have HST : Hid (RFrOk E w1 own c1 f S M n) := by
  have := H1.out
  rw [show f.stack.take (f.stack.length - 0) = f.stack by simp] at this
  exact this
 clear t0
 go_wp2_with fail
 refine (rplain_stop HST.out).mono ?_
 rintro e w2 ⟨rfl, h2⟩
 have H2 := Lib.hid h2
 clear h2
 go_wp2
 go_ret
 exact ⟨rfl, own, c1, M, n, H2.out, HT1.out, HJ1.out⟩
def Easy (x : Int) : Prop := x = 0 ∨ 96 ≤ x ∧ x ≤ 159
set_option maxRecDepth 100000 in
set_option maxHeartbeats 2000000 in
theorem ref_area_no (x : Int) (hx : Easy x) (w : World) : Calls Tryz.prog 270 #[.int .u8 x] w fun e w' => e = .returned (.tuple #[.int .i64 (-1), .int .i64 (-1), .int .i64 0]) ∧ w' = w := by
 unfold Easy at hx
 have n32 : (x == 32) = false := by simp; omega
 have n55 : (x == 55) = false := by simp; omega
 have n57 : (x == 57) = false := by simp; omega
 have n60 : (x == 60) = false := by simp; omega
 have n62 : (x == 62) = false := by simp; omega
 have n81 : (x == 81) = false := by simp; omega
 have n82 : (x == 82) = false := by simp; omega
 have n83 : (x == 83) = false := by simp; omega
 have n160 : (x == 160) = false := by simp; omega
 have n161 : (x == 161) = false := by simp; omega
 have n162 : (x == 162) = false := by simp; omega
 have n163 : (x == 163) = false := by simp; omega
 have n164 : (x == 164) = false := by simp; omega
 have n240 : (x == 240) = false := by simp; omega
 have n241 : (x == 241) = false := by simp; omega
 have n243 : (x == 243) = false := by simp; omega
 have n244 : (x == 244) = false := by simp; omega
 have n245 : (x == 245) = false := by simp; omega
 have n250 : (x == 250) = false := by simp; omega
 have n253 : (x == 253) = false := by simp; omega
 clear hx
 go_enter Tryz.func270, Tryz.ntmps270
 go_wp2
 go_ret3
 exact ⟨rfl, rfl⟩
set_option maxRecDepth 100000 in
set_option maxHeartbeats 2000000 in
theorem r_price_no (x : Int) (hx : Easy x) (fb : Nat) (w : World) : Calls Tryz.prog 209 #[.pointer (some ⟨fb, 0, none⟩), .int .u8 x] w fun e w' => e = .returned (.tuple #[.int .i64 0, .bool true]) ∧ w' = w := by
 have HA := Lib.hid (fun w => ref_area_no x hx w)
 unfold Easy at hx
 have n10 : (x == 10) = false := by simp; omega
 have n85 : (x == 85) = false := by simp; omega
 clear hx
 go_enter Tryz.func209, Tryz.ntmps209
 go_wp2_with fail
 refine (HA.out _).mono ?_
 rintro e w1 ⟨rfl, rfl⟩
 go_wp2
 go_ret2
 exact ⟨rfl, rfl⟩
def opR (f : Fr) : Int := if f.next < f.code.length then f.code[f.next]?.getD 0 else 0
inductive Pri
 | none
 | no
 | more (k : Nat) (f : Fr)
def rstepR (pr : Fr → St → Int → Pri) (dor : Fr → St → Int → Res) (f : Fr) (S : St) : Res :=
 match ofL (opR f) with
 | Option.none => .stop 12 f S
 | some (p, q, g) =>
  if (f.stack.length : Int) < p ∨ 1024 < (f.stack.length : Int) - p + q then .stop 10 f S
  else if f.m.static = true then .none
  else match pr f S (opR f) with
   | .none => .none
   | .no => .stop 11 f S
   | .more k f1 => if g.toNat + k ≤ f1.gas ∧ f1.next = f.next ∧ f1.code = f.code ∧ f1.stack = f.stack then
     (match dor { f1 with gas := f1.gas - g.toNat - k } S (opR f) with
      | .ok f2 S2 => if f2.next = f.next then (if f.next + 1 + (ownOf (opR f)).toNat ≤ 2199023255552 then .ok { f2 with next := f.next + 1 + (ownOf (opR f)).toNat } S2 else .none) else .ok f2 S2
      | r => r)
    else if f1.next = f.next ∧ f1.code = f.code ∧ f1.stack = f.stack then .stop 11 f1 S else .none
def loopX (step : Fr → St → Res) : Nat → Fr → St → Option (Nat × Fr × St)
 | 0, _, _ => none
 | k + 1, f, S => if f.ended = true then some (0, f, S) else match step f S with
  | .ok f' S' => loopX step k f' S'
  | .stop x f' S' => if x = 0 then none else some (x, f', S')
  | .none => none
def RPri (E : REnv) (w0 : World) (own0 : Go.Mun.Own) (c0 : RFV) (S : St) (r : Pri) (e : Ending) (w : World) : Prop :=
 match r with
 | .none => True
 | .no => (∃ x : Int, e = .returned (.tuple #[.int .i64 x, .bool false])) ∧ ∃ own c f M n S', RFrOk E w own c f S' M n
 | .more k f => e = .returned (.tuple #[.int .i64 (k : Int), .bool true]) ∧ k ≤ 1099511627776 ∧ (∃ own c M n, RFrOk E w own c f S M n ∧ c.tl = infsC infT ∧ c.jv = c0.jv) ∧ Only (rmu own0 E.fb c0) w0 w
structure RTold (E : REnv) (pr : Fr → St → Int → Pri) (dor : Fr → St → Int → Res) : Prop where
 price : ∀ {w : World} {own : Go.Mun.Own} {c : RFV} {f : Fr} {S : St} {M : List (Nat × St)} {n : Nat}, RFrOk E w own c f S M n → c.tl = infsC infT → pr f S (opR f) ≠ .none → Calls Tryz.prog 209 #[.pointer (some ⟨E.fb, 0, none⟩), .int .u8 (opR f)] w (RPri E w own c S (pr f S (opR f)))
 act : ∀ {w : World} {own : Go.Mun.Own} {c : RFV} {f : Fr} {S : St} {M : List (Nat × St)} {n : Nat} {p q g : Int}, RFrOk E w own c f S M n → c.tl = infsC infT → c.jv ≠ .nilFunc → ofL (opR f) = some (p, q, g) → p ≤ f.stack.length → (f.stack.length : Int) - p + q ≤ 1024 → dor f S (opR f) ≠ .none →
  Calls Tryz.prog 210 #[.pointer (some ⟨E.fb, 0, none⟩), .int .u8 (opR f), c.jv] w (RDo E c.jv (dor f S (opR f)))
theorem opR_same {f f1 : Fr} {x : Nat} (h1 : f1.next = f.next) (h2 : f1.code = f.code) : opR { f1 with gas := x } = opR f := by
 show opR ⟨f1.m, f1.code, f1.stack, f1.mem, f1.pc, f1.next, x, f1.ret, f1.out, f1.logs, f1.ended⟩ = opR f
 rw [h1, h2]
 rfl
theorem rf_pc_gas {E : REnv} {w : World} {own : Go.Mun.Own} {c : RFV} {f : Fr} {S : St} {M : List (Nat × St)} {n x : Nat} (h : RFrOk E w own c { f with gas := x } S M n) : w.cell? ⟨E.fb, 229, none⟩ = some (.int .i64 (f.next : Int)) := by
 have h1 := rf_pc h.row
 exact h1
theorem opR_bd {E : REnv} {w : World} {own : Go.Mun.Own} {c : RFV} {f : Fr} {S : St} {M : List (Nat × St)} {n : Nat} (h : RFrOk E w own c f S M n) : ∃ m : Nat, m < 256 ∧ opR f = (m : Int) := by
 unfold opR
 split
 ·rename_i hlt
  have := h.code.byte (f.code[f.next]) (List.getElem_mem hlt)
  rw [List.getElem?_eq_getElem hlt, Option.getD_some]
  exact ⟨(f.code[f.next]).toNat, by omega, by omega⟩
 ·exact ⟨0, by decide, rfl⟩
theorem inf_at (m : Nat) (hm : m < 256) : ∃ x, infT[m]? = some x ∧ match ofL (m : Int) with
  | Option.none => x.name = []
  | some (p, q, g) => x.name ≠ [] ∧ x.pops = p ∧ x.pushes = q ∧ x.gas = g := by
 have h := List.all_eq_true.1 infT_ok m (List.mem_range.2 hm)
 have hl : m < infT.length := by rw [infT_len]; exact hm
 rw [List.getElem?_eq_getElem hl] at h ⊢
 refine ⟨_, rfl, ?_⟩
 simp only [Option.getD_some] at h
 cases e : ofL (m : Int) with
 | none => rw [e] at h; exact of_decide_eq_true h
 | some t =>
  obtain ⟨p, q, g⟩ := t
  rw [e] at h
  simp only [Bool.and_eq_true, decide_eq_true_eq] at h
  exact ⟨h.1.1.1, h.1.1.2, h.1.2, h.2⟩
theorem box5 (W : World) (C : List Value) (h : okL 5 C = true) : Below W.heap.size W ((W.alloc (.cells infZC.toArray 186)).setCells W.heap.size 0 C) ∧ ((W.alloc (.cells infZC.toArray 186)).setCells W.heap.size 0 C).row? W.heap.size 0 5 = some C ∧ (W.alloc (.cells infZC.toArray 186)).free? W.heap.size 0 5 = true := by
 have hf : (W.alloc (.cells infZC.toArray 186)).free? W.heap.size 0 5 = true := World.free?_alloc_at _ _ rfl (by rw [okL_len infZC_ok]; decide)
 exact ⟨((Below.refl _ _).alloc (Nat.le_refl _) _).setCells (Nat.le_refl _) _ _, row?_setCells_whole C hf h, hf⟩
theorem str_none : (str []).toList.isEmpty = true := by rw [ByteArray.toList_eq]; rfl
theorem str_some {l : List UInt8} (h : l ≠ []) : (str l).toList.isEmpty = false := by
 rw [ByteArray.toList_eq]
 cases l with
 | nil => exact absurd rfl h
 | cons a l => rfl
theorem inf_cell1' {w : World} {b : Nat} {x : Inf} (h : w.row? b 0 5 = some x.c) : w.cell? ⟨b, 1, none⟩ = some (.string (str x.name)) := by
 rw [show (1 : Nat) = 0 + 1 from rfl, World.row?_cell h (i := 1) (by decide)]; unfold Inf.c; rfl
theorem inf_cell2 {w : World} {b : Nat} {x : Inf} (h : w.row? b 0 5 = some x.c) : w.cell? ⟨b, 2, none⟩ = some (.int .i64 x.pops) := by
 rw [show (2 : Nat) = 0 + 2 from rfl, World.row?_cell h (i := 2) (by decide)]; unfold Inf.c; rfl
theorem inf_cell3 {w : World} {b : Nat} {x : Inf} (h : w.row? b 0 5 = some x.c) : w.cell? ⟨b, 3, none⟩ = some (.int .i64 x.pushes) := by
 rw [show (3 : Nat) = 0 + 3 from rfl, World.row?_cell h (i := 3) (by decide)]; unfold Inf.c; rfl
theorem inf_cell4 {w : World} {b : Nat} {x : Inf} (h : w.row? b 0 5 = some x.c) : w.cell? ⟨b, 4, none⟩ = some (.int .i64 x.gas) := by
 rw [show (4 : Nat) = 0 + 4 from rfl, World.row?_cell h (i := 4) (by decide)]; unfold Inf.c; rfl
attribute [local irreducible] wpStill Inf.c infZC infsC
def RRun (E : REnv) (x : Nat) (f : Fr) (S : St) (e : Ending) (w : World) : Prop :=
 e = .returned (.int .i64 (x : Int)) ∧ ∃ own c M n f' S', RFrOk E w own c f' S' M n ∧ (x = 0 → f' = f ∧ S' = S) ∧ (x = 15 → f'.gas = f.gas ∧ f'.out = f.out)
set_option maxRecDepth 100000 in
set_option maxHeartbeats 8000000 in
theorem rf_run {E : REnv} {w : World} {own : Go.Mun.Own} {c : RFV} {f f' : Fr} {S S' : St} {M : List (Nat × St)} {n K x : Nat} {pr : Fr → St → Int → Pri} {dor : Fr → St → Int → Res} (hT : RTold E pr dor) (h : RFrOk E w own c f S M n) (hl : loopX (rstepR pr dor) K f S = some (x, f', S')) :
  Calls Tryz.prog 109 #[.pointer (some ⟨E.fb, 0, none⟩)] w (RRun E x f' S') := by
 obtain ⟨⟨ca, cc, hcv, hci, _⟩, hcb, hcl⟩ := h.code
 have c193 := rf_code h.row
 rw [hcv] at c193
 have HJ := Lib.hid (ref_jumps ca cc f.code w hci (fun i hi => by have := hcb (f.code[i]) (List.getElem_mem hi); rw [List.getElem?_eq_getElem hi, Option.getD_some]; omega) hcl)
 have H := Lib.hid h
 have HT := Lib.hid hT
 have HL := Lib.hid hl
 clear h hT hl hcv hci hcb hcl
 go_enter Tryz.func109, Tryz.ntmps109
 go_wp2_with fail
 refine HJ.out.mono ?_
 rintro e w1 ⟨jv, rfl, hj, hb1⟩
 have h1 := H.out.jumps hb1 hj
 have HJN : Hid (jv ≠ .nilFunc) := by
  obtain ⟨ja, jc, e⟩ := own_shape hj
  show _ ≠ _
  rw [e]; simp
 have H1 := Lib.hid h1
 clear hj hb1 h1 c193
 go_wp2_with fail
 refine (ref_all _).mono ?_
 rintro e w2 ⟨rfl, hb2⟩
 have h2 := H1.out.below hb2
 have hf2 := World.free?_sub h2.free (o' := 236) (n' := 1280) (by omega)
 have hok2 : okL 1280 (infsC infT) = true := by
  have := infsC_ok infT
  rw [infT_len] at this
  exact this
 have h3 := h2.table (infsC infT) (by rw [infsC_len, infT_len])
 have H3 := Lib.hid h3
 clear hb2 h2 h3
 obtain ⟨I, hI⟩ : ∃ I, I = infsC infT := ⟨_, rfl⟩
 have HI := Lib.hid hI
 rw [← hI] at H3 hok2 ⊢
 clear hI
 go_wp2_with fail
 go_loopg [] K (fun k wr => ∃ own c f S M n, RFrOk E wr own c f S M n ∧ c.tl = infsC infT ∧ c.jv = jv ∧ loopX (rstepR pr dor) k f S = some (x, f', S'))
 case atStart => exact ⟨_, _, f, S, M, n, H3.out, HI.out, rfl, HL.out⟩
 case round =>
  obtain ⟨own, c, f, S, M, n, h, htl, hjv, hl⟩ := hrel
  have c235 := rf_ended h.row
  have HTL := Lib.hid htl
  have HJV := Lib.hid hjv
  have HL := Lib.hid hl
  have H := Lib.hid h
  clear h htl hjv hl
  cases hen : f.ended with
  | true =>
   rw [hen] at c235
   have HE : Hid (x = 0 ∧ f' = f ∧ S' = S) := by
    have h := HL.out
    cases gk with
    | zero => simp [loopX] at h
    | succ k =>
     rw [loopX, if_pos hen] at h
     simp only [Option.some.injEq, Prod.mk.injEq] at h
     exact ⟨h.1.symm, h.2.1.symm, h.2.2.symm⟩
   go_wp2
   go_ret
   obtain ⟨rfl, rfl, rfl⟩ := HE.out
   exact ⟨rfl, own, c, M, n, f', S', H.out, fun _ => ⟨rfl, rfl⟩, fun e => by cases e⟩
  | false =>
   rw [hen] at c235
   obtain ⟨⟨ca, cc, hcv, hci, _⟩, _, _⟩ := H.out.code
   have q193 : wr.drew.cell? ⟨E.fb, 193, none⟩ = some (.slice ca f.code.length cc) := by rw [← hcv]; exact rf_code H.out.row
   have q229 : wr.drew.cell? ⟨E.fb, 229, none⟩ = some (.int .i64 (f.next : Int)) := rf_pc H.out.row
   have HCI := Lib.hid hci
   obtain ⟨cl, hcln⟩ : ∃ cl, cl = f.code.length := ⟨_, rfl⟩
   obtain ⟨pc, hpc⟩ : ∃ pc, pc = f.next := ⟨_, rfl⟩
   rw [← hcln] at q193
   rw [← hpc] at q229
   have HCL := Lib.hid hcln
   have HPC := Lib.hid hpc
   obtain ⟨m, hm, hop⟩ := opR_bd H.out
   obtain ⟨X, hX, hXX⟩ := inf_at m hm
   have HX := Lib.hid hX
   have HOP := Lib.hid hop
   obtain ⟨k1, hk1⟩ : ∃ k1, gk = k1 + 1 := by
    cases gk with
    | zero => have := HL.out; simp [loopX] at this
    | succ k => exact ⟨k, rfl⟩
   have HST : Hid (match rstepR pr dor f S with
     | .ok f1 S1 => loopX (rstepR pr dor) k1 f1 S1 = some (x, f', S')
     | .stop y f1 S1 => y ≠ 0 ∧ x = y ∧ f' = f1 ∧ S' = S1
     | .none => False) := by
    have h := HL.out
    rw [hk1, loopX, if_neg (by rw [hen]; simp)] at h
    show match rstepR pr dor f S with
     | .ok f1 S1 => loopX (rstepR pr dor) k1 f1 S1 = some (x, f', S')
     | .stop y f1 S1 => y ≠ 0 ∧ x = y ∧ f' = f1 ∧ S' = S1
     | .none => False
    cases hr : rstepR pr dor f S with
    | ok f1 S1 => rw [hr] at h; exact h
    | stop y f1 S1 =>
     rw [hr] at h
     by_cases hy : y = 0
     ·simp [hy] at h
     ·simp only [if_neg hy, Option.some.injEq, Prod.mk.injEq] at h
      exact ⟨hy, h.1.symm, h.2.1.symm, h.2.2.symm⟩
    | none => rw [hr] at h; cases h
   have HK1 := Lib.hid hk1
   have HXX := Lib.hid hXX
   clear hcv hci hcln hpc hop hX hXX hen hk1
   by_cases hlt : pc < cl
   ·have hI : (pc : Int) < cl := by omega
    have dI : decide ((pc : Int) < (cl : Int)) = true := decide_eq_true hI
    have dN : (pc < cl) = True := eq_true hlt
    obtain ⟨cb, off, rfl, hcbl, hcell⟩ := HCI.out.at (i := pc) (by have := HCL.out; omega)
    have qop : wr.drew.drew.cell? ⟨cb, off + pc, none⟩ = some (.int .u8 (m : Int)) := by
     have h1 := hcell pc (by have := HCL.out; omega)
     have h2 := HOP.out
     unfold opR at h2
     rw [if_pos (by rw [← HPC.out, ← HCL.out]; exact hlt), ← HPC.out] at h2
     rw [h2] at h1
     exact h1
    have q193' : wr.drew.drew.cell? ⟨E.fb, 193, none⟩ = some (.slice (some ⟨cb, off, none⟩) cl cc) := q193
    have q229' : wr.drew.drew.cell? ⟨E.fb, 229, none⟩ = some (.int .i64 (pc : Int)) := q229
    clear hcell hcbl
    go_wp2_with fail
    refine wp_reads (by kernel_rfl) (by kernel_rfl) ?_
    repeat still_step
    refine wpStill_nil ?_
    go_wp2_with fail
    refine wp_reads (by kernel_rfl) (by kernel_rfl) ?_
    repeat still_step
    refine wpStill_nil ?_
    obtain ⟨W, hW⟩ : ∃ W, W = wr.drew.drew := ⟨_, rfl⟩
    have hHW : RFrOk E W own c f S M n := by rw [hW]; exact H.out.below ((Below.refl _ _).drew.drew)
    rw [← hW]
    clear hW q193 q229 q193' q229' qop hI dI dN c235 hlt
    obtain ⟨B, hB⟩ : ∃ B, B = (W.alloc (.cells infZC.toArray 186)).setCells W.heap.size 0 X.c := ⟨_, rfl⟩
    have HHW := Lib.hid hHW
    clear hHW
    have r7 := rf_inf HHW.out HTL.out m X HX.out
    have b5 := box5 W X.c (Inf.ok X)
    have free5 := b5.2.2
    have ok5 := Inf.ok X
    have row5 := b5.2.1
    have q1 := inf_cell1' row5
    have HB5 := Lib.hid b5.1
    have H2 := Lib.hid (HHW.out.below b5.1)
    have HROW := Lib.hid row5
    have HE := Lib.hid hB
    clear b5 row5
    cases eo : ofL (m : Int) with
    | none =>
     have hx := HXX.out
     rw [eo] at hx
     have hnm : X.name = [] := hx
     have HSN : Hid (x = 12) := by
      have h := HST.out
      rw [show rstepR pr dor f S = .stop 12 f S by unfold rstepR; rw [HOP.out, eo]] at h
      exact h.2.1
     have hem : (str X.name).toList.isEmpty = true := by rw [hnm]; exact str_none
     clear hx hnm hB eo
     go_wp2
     go_ret
     rw [HSN.out]
     exact ⟨rfl, own, c, M, n, f, S, H2.out, fun h => absurd h (by decide), fun h => absurd h (by decide)⟩
    | some t =>
     obtain ⟨p, q, g⟩ := t
     have hx := HXX.out
     rw [eo] at hx
     obtain ⟨hnm, hxp, hxq, hxg⟩ : X.name ≠ [] ∧ X.pops = p ∧ X.pushes = q ∧ X.gas = g := hx
     have hem : (str X.name).toList.isEmpty = false := str_some hnm
     have HBD := Lib.hid (ofL_bd hm eo)
     have HM := Lib.hid hm
     have HEO := Lib.hid eo
     have HXP := Lib.hid (And.intro hxp (And.intro hxq hxg))
     clear hnm hB eo hxp hxq hxg
     go_wp2_with fail
     rw [← HE.out]
     obtain ⟨b, hb⟩ : ∃ b, b = W.heap.size := ⟨_, rfl⟩
     rw [← hb]
     have h2 : RFrOk E B own c f S M n := by rw [HE.out]; exact H2.out
     have hrow : B.row? b 0 5 = some X.c := by rw [HE.out, hb]; exact HROW.out
     have q2 := inf_cell2 hrow
     have q3 := inf_cell3 hrow
     have q4 := inf_cell4 hrow
     rw [HXP.out.1] at q2
     rw [HXP.out.2.1] at q3
     rw [HXP.out.2.2] at q4
     have hbB : b < B.heap.size := World.row?_lt hrow
     have hnb : ¬ rmu own E.fb c b := by
      have hg := HHW.out
      intro hr
      rcases hr with hr | hr | hr | hr
      ·exact hr.1 (free_own hg.st.lows (by omega))
      ·have := hg.lt; omega
      ·have := ownsRow_lt hg.stk b hr; omega
      ·have := ownsRow_lt hg.mem b hr; omega
     have HNB := Lib.hid hnb
     have H3 := Lib.hid h2
     obtain ⟨sa, sc, hsv⟩ := own_shape h2.stk
     obtain ⟨sl, hsl⟩ : ∃ sl, sl = f.stack.length := ⟨_, rfl⟩
     have q230 : B.drew.cell? ⟨E.fb, 230, none⟩ = some (.slice sa sl sc) := by rw [hsl, ← hsv]; exact rf_sv h2.row
     have q227 : B.drew.cell? ⟨E.fb, 227, none⟩ = some (.bool f.m.static) := rf_static h2.row
     have qd2 : B.drew.cell? ⟨b, 2, none⟩ = some (.int .i64 p) := q2
     have qd3 : B.drew.cell? ⟨b, 3, none⟩ = some (.int .i64 q) := q3
     have HQ4 : Hid (B.drew.cell? ⟨b, 4, none⟩ = some (.int .i64 g)) := q4
     have HSL := Lib.hid hsl
     have HLB : Hid (sl ≤ 1024) := by rw [hsl]; exact h2.slen
     have hbB3 : b < B.drew.heap.size := hbB
     clear hb hnb h2 hrow q1 q2 q3 q4 hbB hsv hsl r7 free5 ok5 hem hm
     obtain ⟨w3, hw3⟩ : ∃ w3, w3 = B.drew := ⟨_, rfl⟩
     have HW3 := Lib.hid hw3
     have h3 : RFrOk E w3 own c f S M n := by rw [hw3]; exact H3.out.below (Below.refl _ _).drew
     rw [← hw3] at q230 q227 qd2 qd3 hbB3
     by_cases hlp : (sl : Int) < p
     ·have d1 : decide ((sl : Int) < p) = true := decide_eq_true hlp
      have HSN : Hid (x = 10) := by
       have h := HST.out
       rw [show rstepR pr dor f S = .stop 10 f S by unfold rstepR; rw [HOP.out, HEO.out]; exact if_pos (.inl (by rw [← HSL.out]; exact hlp))] at h
       exact h.2.1
      have H4 := Lib.hid h3
      rw [hw3] at q230 qd2 qd3
      clear h3 hw3 hlp q227
      refine wp_reads (by kernel_rfl) (by kernel_rfl) ?_
      repeat still_step
      refine wpStill_nil ?_
      go_wp2
      go_ret
      rw [HSN.out, ← HW3.out]
      exact ⟨rfl, own, c, M, n, f, S, H4.out, fun h => absurd h (by decide), fun h => absurd h (by decide)⟩
     ·have hlp2 : p ≤ (sl : Int) := by omega
      have d1 : decide ((sl : Int) < p) = false := decide_eq_false hlp
      obtain ⟨bp0, bp1, bq0, bq1, bg0, bg1⟩ := HBD.out
      have hsl2 := HLB.out
      obtain ⟨dd, hdd⟩ : ∃ dd : Int, dd = (sl : Int) - p := ⟨_, rfl⟩
      have wd : IntKind.i64.wrap ((sl : Int) - p) = dd := by rw [hdd, IntKind.wrap_i64]; omega
      have we : IntKind.i64.wrap (dd + q) = dd + q := by rw [IntKind.wrap_i64]; omega
      have HDD := Lib.hid hdd
      have HLP := Lib.hid hlp2
      by_cases hq : 1024 < dd + q
      ·have d2 : decide (1024 < dd + q) = true := decide_eq_true hq
       have HSN : Hid (x = 10) := by
        have h := HST.out
        rw [show rstepR pr dor f S = .stop 10 f S by unfold rstepR; rw [HOP.out, HEO.out]; exact if_pos (.inr (by rw [← HSL.out, ← HDD.out]; exact hq))] at h
        exact h.2.1
       have H4 := Lib.hid h3
       rw [hw3] at q230 qd2 qd3
       clear h3 hw3 hlp hlp2 q227 hdd hq bp0 bp1 bq0 bq1 bg0 bg1 hsl2
       refine wp_reads (by kernel_rfl) (by kernel_rfl) ?_
       repeat still_step
       refine wpStill_nil ?_
       go_wp2
       go_ret
       rw [HSN.out, ← HW3.out]
       exact ⟨rfl, own, c, M, n, f, S, H4.out, fun h => absurd h (by decide), fun h => absurd h (by decide)⟩
      ·have d2 : decide (1024 < dd + q) = false := decide_eq_false hq
       have HQ := Lib.hid (show dd + q ≤ 1024 by omega)
       have hr1 : rstepR pr dor f S = (if f.m.static = true then .none
         else match pr f S (opR f) with
         | .none => .none
         | .no => .stop 11 f S
         | .more k f1 => if g.toNat + k ≤ f1.gas ∧ f1.next = f.next ∧ f1.code = f.code ∧ f1.stack = f.stack then
           (match dor { f1 with gas := f1.gas - g.toNat - k } S (opR f) with
            | .ok f2 S2 => if f2.next = f.next then (if f.next + 1 + (ownOf (opR f)).toNat ≤ 2199023255552 then .ok { f2 with next := f.next + 1 + (ownOf (opR f)).toNat } S2 else .none) else .ok f2 S2
            | r => r)
          else if f1.next = f.next ∧ f1.code = f.code ∧ f1.stack = f.stack then .stop 11 f1 S else .none) := by
        conv => lhs; unfold rstepR
        rw [HOP.out, HEO.out]
        exact if_neg (by rw [← HSL.out]; omega)
       cases hst : f.m.static with
       | true =>
        have h := HST.out
        rw [hr1, if_pos hst] at h
        exact h.elim
       | false =>
        rw [if_neg (by rw [hst]; simp)] at hr1
        have HR1 := Lib.hid hr1
        rw [hst] at q227
        have H4 := Lib.hid h3
        have hpn : pr f S (opR f) ≠ .none := by
         intro e
         have h := HST.out
         rw [hr1, e] at h
         exact h
        have HPN := Lib.hid hpn
        rw [hw3] at q230 qd2 qd3
        clear h3 hw3 hlp hlp2 hdd hq bp0 bp1 bq0 bq1 bg0 bg1 hsl2 hr1 hpn
        refine wp_reads (by kernel_rfl) (by kernel_rfl) ?_
        repeat still_step
        refine wpStill_nil ?_
        rw [← HW3.out]
        clear q230 qd2 qd3
        go_wp2_with fail
        have hcp := HT.out.price H4.out HTL.out HPN.out
        rw [HOP.out] at hcp
        refine hcp.mono ?_
        intro e w4 hpost
        have HHB := Lib.hid hbB3
        cases ep : pr f S (opR f) with
        | none => exact absurd ep HPN.out
        | no =>
         rw [HOP.out] at ep
         rw [ep] at hpost
         obtain ⟨⟨x1, rfl⟩, own4, c4, f4, M4, n4, S4, h4⟩ := hpost
         have HSN : Hid (x = 11) := by
          have h := HST.out
          rw [HR1.out, HOP.out, ep] at h
          exact h.2.1
         have H5 := Lib.hid h4
         clear ep h4
         go_wp2_with fail
         refine wp_reads (by kernel_rfl) (by kernel_rfl) ?_
         repeat still_step
         refine wpStill_nil ?_
         go_wp2
         go_ret
         rw [HSN.out]
         exact ⟨rfl, own4, c4, M4, n4, f4, S4, H5.out.below (Below.refl _ _).drew, fun h => absurd h (by decide), fun h => absurd h (by decide)⟩
        | more k f1 =>
         rw [HOP.out] at ep
         rw [ep] at hpost
         obtain ⟨rfl, hk, ⟨own4, c4, M4, n4, h4, htl4, hjv4⟩, ho4⟩ := hpost
         obtain ⟨bp0, bp1, bq0, bq1, bg0, bg1⟩ := HBD.out
         have q4 : w4.drew.cell? ⟨b, 4, none⟩ = some (.int .i64 g) := by
          show w4.cell? ⟨b, 4, none⟩ = _
          rw [ho4.cell? HHB.out HNB.out, HW3.out]
          exact HQ4.out
         obtain ⟨G, hG⟩ : ∃ G, G = f1.gas := ⟨_, rfl⟩
         have hGb : G ≤ 999000 := by have := h4.cnt; have := h4.lim; omega
         have q228 : w4.drew.cell? ⟨E.fb, 228, none⟩ = some (.int .i64 (G : Int)) := by rw [hG]; exact rf_gas h4.row
         obtain ⟨gk2, hgk2⟩ : ∃ z : Int, z = g + (k : Int) := ⟨_, rfl⟩
         have we : IntKind.i64.wrap (g + (k : Int)) = gk2 := by rw [hgk2, IntKind.wrap_i64]; omega
         have HTL4 := Lib.hid htl4
         have HJV4 := Lib.hid hjv4
         have HGG := Lib.hid hG
         have H5 := Lib.hid h4
         have HGK := Lib.hid hgk2
         have HEP := Lib.hid ep
         clear ep h4 htl4 hjv4 hG ho4 hcp
         by_cases hgt : (G : Int) < gk2
         ·have d1 : decide ((G : Int) < gk2) = true := decide_eq_true hgt
          have HSN : Hid (x = 11) := by
           have h := HST.out
           rw [show rstepR pr dor f S = (if f1.next = f.next ∧ f1.code = f.code ∧ f1.stack = f.stack then .stop 11 f1 S else .none) by rw [HR1.out, HOP.out, HEP.out]; exact if_neg (by rw [← HGG.out]; omega)] at h
           split at h
           ·rename_i heq
            split at heq
            ·cases heq
            ·cases heq
           ·rename_i heq
            split at heq
            ·cases heq; exact h.2.1
            ·cases heq
           ·exact h.elim
          clear hgt hgk2 bp0 bp1 bq0 bq1 bg0 bg1 hGb hk
          go_wp2_with fail
          refine wp_reads (by kernel_rfl) (by kernel_rfl) ?_
          repeat still_step
          refine wpStill_nil ?_
          go_wp2
          go_ret
          rw [HSN.out]
          exact ⟨rfl, own4, c4, M4, n4, f1, S, H5.out.below (Below.refl _ _).drew, fun h => absurd h (by decide), fun h => absurd h (by decide)⟩
         ·have d1 : decide ((G : Int) < gk2) = false := decide_eq_false hgt
          obtain ⟨e1, he1⟩ : ∃ e1 : Int, e1 = (G : Int) - g := ⟨_, rfl⟩
          obtain ⟨e2, he2⟩ : ∃ e2 : Nat, e2 = G - g.toNat - k := ⟨_, rfl⟩
          have we1 : IntKind.i64.wrap ((G : Int) - g) = e1 := by rw [he1, IntKind.wrap_i64]; omega
          have we2 : IntKind.i64.wrap (e1 - (k : Int)) = (e2 : Int) := by rw [he1, IntKind.wrap_i64]; omega
          have hle : e2 ≤ f1.gas := by rw [← HGG.out]; omega
          have hcc : f1.next = f.next ∧ f1.code = f.code ∧ f1.stack = f.stack := by
           refine Classical.byContradiction fun hne => ?_
           have h := HST.out
           rw [show rstepR pr dor f S = .none by rw [HR1.out, HOP.out, HEP.out]; exact (if_neg (fun hh => hne hh.2)).trans (if_neg hne)] at h
           exact h
          have hr2 : rstepR pr dor f S = (match dor { f1 with gas := e2 } S (m : Int) with
            | .ok f2 S2 => if f2.next = f.next then (if f.next + 1 + (ownOf (m : Int)).toNat ≤ 2199023255552 then .ok { f2 with next := f.next + 1 + (ownOf (m : Int)).toNat } S2 else .none) else .ok f2 S2
            | r => r) := by
           rw [HR1.out, HOP.out, HEP.out, he2, HGG.out]
           exact if_pos ⟨by rw [← HGG.out]; omega, hcc⟩
          have hop6 : opR { f1 with gas := e2 } = (m : Int) := by
           rw [← HOP.out]
           exact opR_same hcc.1 hcc.2.1
          have hdn : dor { f1 with gas := e2 } S (m : Int) ≠ .none := by
           intro hd
           have h := HST.out
           rw [hr2, hd] at h
           exact h
          have HR2 := Lib.hid hr2
          have HDN := Lib.hid hdn
          have HCC := Lib.hid hcc
          have HOP6 := Lib.hid hop6
          have HLE := Lib.hid hle
          have HE12 := Lib.hid (And.intro he1 he2)
          clear hgt hgk2 bp0 bp1 bq0 bq1 bg0 bg1 hGb hk he1 he2 hle hcc hr2 hop6 hdn
          go_wp2_with fail
          refine wp_reads (by kernel_rfl) (by kernel_rfl) ?_
          repeat still_step
          refine wpStill_nil ?_
          obtain ⟨w5, hw5⟩ : ∃ w5, w5 = w4.drew := ⟨_, rfl⟩
          have h5 : RFrOk E w5 own4 c4 f1 S M4 n4 := by rw [hw5]; exact H5.out.below (Below.refl _ _).drew
          rw [← hw5] at q4 q228 ⊢
          have h6 := (h5.below (Below.refl _ _).drew).gas e2 HLE.out
          have f228 : w5.drew.free? E.fb 228 1 = true := (h5.below (Below.refl _ _).drew).one (by omega)
          have q229 : (w5.drew.setCell ⟨E.fb, 228, none⟩ (.int .i64 (e2 : Int))).cell? ⟨E.fb, 229, none⟩ = some (.int .i64 (pc : Int)) := by
           rw [HPC.out, ← HCC.out.1]
           exact rf_pc_gas h6
          have q229w : w5.cell? ⟨E.fb, 229, none⟩ = some (.int .i64 (pc : Int)) := by
           rw [HPC.out, ← HCC.out.1]
           exact rf_pc h5.row
          have hact := HT.out.act (p := p) (q := q) (g := g) h6 HTL4.out (by rw [HJV4.out, HJV.out]; exact HJN.out) (by rw [HOP6.out]; exact HEO.out) (by show p ≤ (f1.stack.length : Int); rw [HCC.out.2.2, ← HSL.out]; exact HLP.out) (by show (f1.stack.length : Int) - p + q ≤ 1024; rw [HCC.out.2.2, ← HSL.out, ← HDD.out]; exact HQ.out) (by rw [HOP6.out]; exact HDN.out)
          rw [HOP6.out, show c4.jv = jv by rw [HJV4.out, HJV.out]] at hact
          have HACT := Lib.hid hact
          have q4' : w5.drew.cell? ⟨b, 4, none⟩ = some (.int .i64 g) := q4
          have q228' : w5.drew.cell? ⟨E.fb, 228, none⟩ = some (.int .i64 (G : Int)) := q228
          clear hw5 h5 h6 hact q4 q228
          go_wp2_with fail
          go_still_tail 12, (by kernel_rfl)
          go_wp2_with fail
          refine HACT.out.mono ?_
          intro e w6 hpost
          cases ed : dor { f1 with gas := e2 } S (m : Int) with
          | none => exact absurd ed HDN.out
          | stop y f3 S3 =>
           rw [ed] at hpost
           obtain ⟨rfl, hy, own6, c6, M6, n6, f6, S6, h6, h15⟩ := hpost
           have hst2 := HST.out
           rw [HR2.out, ed] at hst2
           obtain ⟨_, hxy, hf, hS⟩ : y ≠ 0 ∧ x = y ∧ f' = f3 ∧ S' = S3 := hst2
           have hyI : ((y : Int) == 0) = false := by simp; omega
           have HH6 := Lib.hid h6
           have H15 := Lib.hid h15
           have HXY := Lib.hid (And.intro hxy (And.intro hf hS))
           have HY := Lib.hid hy
           clear ed h6 h15 hxy hf hS hy
           go_wp2
           go_ret
           obtain ⟨rfl, rfl, rfl⟩ := HXY.out
           exact ⟨rfl, own6, c6, M6, n6, f6, S6, HH6.out, fun h => absurd h HY.out, fun h => H15.out h⟩
          | ok f2 S2 =>
           rw [ed] at hpost
           obtain ⟨rfl, own6, c6, M6, n6, h6, htl6, hjv6⟩ := hpost
           have q229 := rf_pc h6.row
           have f229 : w6.free? E.fb 229 1 = true := h6.one (by omega)
           have hst2 := HST.out
           rw [HR2.out, ed] at hst2
           dsimp only at hst2
           have HTL6 := Lib.hid htl6
           have HJV6 := Lib.hid hjv6
           by_cases hn : f2.next = pc
           ·rw [hn] at q229
            have hst3 : f.next + 1 + (ownOf (m : Int)).toNat ≤ 2199023255552 ∧ loopX (rstepR pr dor) k1 { f2 with next := f.next + 1 + (ownOf (m : Int)).toNat } S2 = some (x, f', S') := by
             rw [if_pos (hn.trans HPC.out)] at hst2
             by_cases hbd : f.next + 1 + (ownOf (m : Int)).toNat ≤ 2199023255552
             ·rw [if_pos hbd] at hst2
              exact ⟨hbd, hst2⟩
             ·rw [if_neg hbd] at hst2
              exact hst2.elim
            obtain ⟨Z, hZ⟩ : ∃ Z, Z = f.next + 1 + (ownOf (m : Int)).toNat := ⟨_, rfl⟩
            rw [← hZ] at hst3
            have hown := ref_own (m : Int) (by omega) (by have := HM.out; omega) w6
            have how0 : 0 ≤ ownOf (m : Int) ∧ ownOf (m : Int) ≤ 256 := by
             have := HM.out
             unfold ownOf
             split <;> omega
            obtain ⟨ow, how⟩ : ∃ ow, ow = ownOf (m : Int) := ⟨_, rfl⟩
            rw [← how] at hown hZ how0
            obtain ⟨A, hA⟩ : ∃ A : Int, A = (pc : Int) + 1 := ⟨_, rfl⟩
            have hpcb : pc < 2199023255552 := by have := hst3.1; have := HPC.out; omega
            have a1 : IntKind.i64.wrap ((pc : Int) + 1) = A := by rw [hA, IntKind.wrap_i64]; omega
            have a2 : IntKind.i64.wrap (A + ow) = (Z : Int) := by have := HPC.out; rw [hA, IntKind.wrap_i64]; omega
            have HH6 := Lib.hid h6
            have HST3 := Lib.hid hst3
            have HOWN := Lib.hid hown
            clear hst2 hst3 h6 htl6 hjv6 ed hn hZ how how0 hA hpcb hown
            go_wp2_with fail
            refine HOWN.out.mono ?_
            rintro e w7 ⟨rfl, rfl⟩
            go_wp2_with fail
            go_roundg k1
            case rel => exact ⟨own6, c6, { f2 with next := Z }, S2, M6, n6, HH6.out.pc Z HST3.out.1, HTL6.out, HJV6.out, HST3.out.2⟩
            case measure => have := HK1.out; omega
           ·rw [if_neg (show ¬ f2.next = f.next from fun e => hn (e.trans HPC.out.symm))] at hst2
            have HH6 := Lib.hid h6
            have HST3 := Lib.hid hst2
            clear hst2 h6 htl6 hjv6 ed
            obtain ⟨nx, hnx⟩ : ∃ nx, nx = f2.next := ⟨_, rfl⟩
            rw [← hnx] at q229 hn
            have hnI : ((nx : Int) == (pc : Int)) = false := by simp; omega
            clear hnx hn
            go_wp2_with fail
            go_roundg k1
            case rel => exact ⟨own6, c6, f2, S2, M6, n6, HH6.out, HTL6.out, HJV6.out, HST3.out⟩
            case measure => have := HK1.out; omega
   ·have dI : decide ((pc : Int) < (cl : Int)) = false := decide_eq_false (by omega)
    have dN : (pc < cl) = False := eq_false hlt
    have hz : Value.int IntKind.u8 0 = Value.int IntKind.u8 (m : Int) := by
     have h2 := HOP.out
     unfold opR at h2
     rw [if_neg (by rw [← HPC.out, ← HCL.out]; exact hlt)] at h2
     rw [← h2]
    have HZ := Lib.hid hz
    clear hlt hz
    go_wp2_with fail
    refine wp_reads (by kernel_rfl) (by kernel_rfl) ?_
    repeat still_step
    refine wpStill_nil ?_
    rw [HZ.out]
    obtain ⟨W, hW⟩ : ∃ W, W = wr.drew := ⟨_, rfl⟩
    have hHW : RFrOk E W own c f S M n := by rw [hW]; exact H.out.below (Below.refl _ _).drew
    rw [← hW]
    clear hW q193 q229 dI dN c235
    obtain ⟨B, hB⟩ : ∃ B, B = (W.alloc (.cells infZC.toArray 186)).setCells W.heap.size 0 X.c := ⟨_, rfl⟩
    have HHW := Lib.hid hHW
    clear hHW
    have r7 := rf_inf HHW.out HTL.out m X HX.out
    have b5 := box5 W X.c (Inf.ok X)
    have free5 := b5.2.2
    have ok5 := Inf.ok X
    have row5 := b5.2.1
    have q1 := inf_cell1' row5
    have HB5 := Lib.hid b5.1
    have H2 := Lib.hid (HHW.out.below b5.1)
    have HROW := Lib.hid row5
    have HE := Lib.hid hB
    clear b5 row5
    cases eo : ofL (m : Int) with
    | none =>
     have hx := HXX.out
     rw [eo] at hx
     have hnm : X.name = [] := hx
     have HSN : Hid (x = 12) := by
      have h := HST.out
      rw [show rstepR pr dor f S = .stop 12 f S by unfold rstepR; rw [HOP.out, eo]] at h
      exact h.2.1
     have hem : (str X.name).toList.isEmpty = true := by rw [hnm]; exact str_none
     clear hx hnm hB eo
     go_wp2
     go_ret
     rw [HSN.out]
     exact ⟨rfl, own, c, M, n, f, S, H2.out, fun h => absurd h (by decide), fun h => absurd h (by decide)⟩
    | some t =>
     obtain ⟨p, q, g⟩ := t
     have hx := HXX.out
     rw [eo] at hx
     obtain ⟨hnm, hxp, hxq, hxg⟩ : X.name ≠ [] ∧ X.pops = p ∧ X.pushes = q ∧ X.gas = g := hx
     have hem : (str X.name).toList.isEmpty = false := str_some hnm
     have HBD := Lib.hid (ofL_bd hm eo)
     have HM := Lib.hid hm
     have HEO := Lib.hid eo
     have HXP := Lib.hid (And.intro hxp (And.intro hxq hxg))
     clear hnm hB eo hxp hxq hxg
     go_wp2_with fail
     rw [← HE.out]
     obtain ⟨b, hb⟩ : ∃ b, b = W.heap.size := ⟨_, rfl⟩
     rw [← hb]
     have h2 : RFrOk E B own c f S M n := by rw [HE.out]; exact H2.out
     have hrow : B.row? b 0 5 = some X.c := by rw [HE.out, hb]; exact HROW.out
     have q2 := inf_cell2 hrow
     have q3 := inf_cell3 hrow
     have q4 := inf_cell4 hrow
     rw [HXP.out.1] at q2
     rw [HXP.out.2.1] at q3
     rw [HXP.out.2.2] at q4
     have hbB : b < B.heap.size := World.row?_lt hrow
     have hnb : ¬ rmu own E.fb c b := by
      have hg := HHW.out
      intro hr
      rcases hr with hr | hr | hr | hr
      ·exact hr.1 (free_own hg.st.lows (by omega))
      ·have := hg.lt; omega
      ·have := ownsRow_lt hg.stk b hr; omega
      ·have := ownsRow_lt hg.mem b hr; omega
     have HNB := Lib.hid hnb
     have H3 := Lib.hid h2
     obtain ⟨sa, sc, hsv⟩ := own_shape h2.stk
     obtain ⟨sl, hsl⟩ : ∃ sl, sl = f.stack.length := ⟨_, rfl⟩
     have q230 : B.drew.cell? ⟨E.fb, 230, none⟩ = some (.slice sa sl sc) := by rw [hsl, ← hsv]; exact rf_sv h2.row
     have q227 : B.drew.cell? ⟨E.fb, 227, none⟩ = some (.bool f.m.static) := rf_static h2.row
     have qd2 : B.drew.cell? ⟨b, 2, none⟩ = some (.int .i64 p) := q2
     have qd3 : B.drew.cell? ⟨b, 3, none⟩ = some (.int .i64 q) := q3
     have HQ4 : Hid (B.drew.cell? ⟨b, 4, none⟩ = some (.int .i64 g)) := q4
     have HSL := Lib.hid hsl
     have HLB : Hid (sl ≤ 1024) := by rw [hsl]; exact h2.slen
     have hbB3 : b < B.drew.heap.size := hbB
     clear hb hnb h2 hrow q1 q2 q3 q4 hbB hsv hsl r7 free5 ok5 hem hm
     obtain ⟨w3, hw3⟩ : ∃ w3, w3 = B.drew := ⟨_, rfl⟩
     have HW3 := Lib.hid hw3
     have h3 : RFrOk E w3 own c f S M n := by rw [hw3]; exact H3.out.below (Below.refl _ _).drew
     rw [← hw3] at q230 q227 qd2 qd3 hbB3
     by_cases hlp : (sl : Int) < p
     ·have d1 : decide ((sl : Int) < p) = true := decide_eq_true hlp
      have HSN : Hid (x = 10) := by
       have h := HST.out
       rw [show rstepR pr dor f S = .stop 10 f S by unfold rstepR; rw [HOP.out, HEO.out]; exact if_pos (.inl (by rw [← HSL.out]; exact hlp))] at h
       exact h.2.1
      have H4 := Lib.hid h3
      rw [hw3] at q230 qd2 qd3
      clear h3 hw3 hlp q227
      refine wp_reads (by kernel_rfl) (by kernel_rfl) ?_
      repeat still_step
      refine wpStill_nil ?_
      go_wp2
      go_ret
      rw [HSN.out, ← HW3.out]
      exact ⟨rfl, own, c, M, n, f, S, H4.out, fun h => absurd h (by decide), fun h => absurd h (by decide)⟩
     ·have hlp2 : p ≤ (sl : Int) := by omega
      have d1 : decide ((sl : Int) < p) = false := decide_eq_false hlp
      obtain ⟨bp0, bp1, bq0, bq1, bg0, bg1⟩ := HBD.out
      have hsl2 := HLB.out
      obtain ⟨dd, hdd⟩ : ∃ dd : Int, dd = (sl : Int) - p := ⟨_, rfl⟩
      have wd : IntKind.i64.wrap ((sl : Int) - p) = dd := by rw [hdd, IntKind.wrap_i64]; omega
      have we : IntKind.i64.wrap (dd + q) = dd + q := by rw [IntKind.wrap_i64]; omega
      have HDD := Lib.hid hdd
      have HLP := Lib.hid hlp2
      by_cases hq : 1024 < dd + q
      ·have d2 : decide (1024 < dd + q) = true := decide_eq_true hq
       have HSN : Hid (x = 10) := by
        have h := HST.out
        rw [show rstepR pr dor f S = .stop 10 f S by unfold rstepR; rw [HOP.out, HEO.out]; exact if_pos (.inr (by rw [← HSL.out, ← HDD.out]; exact hq))] at h
        exact h.2.1
       have H4 := Lib.hid h3
       rw [hw3] at q230 qd2 qd3
       clear h3 hw3 hlp hlp2 q227 hdd hq bp0 bp1 bq0 bq1 bg0 bg1 hsl2
       refine wp_reads (by kernel_rfl) (by kernel_rfl) ?_
       repeat still_step
       refine wpStill_nil ?_
       go_wp2
       go_ret
       rw [HSN.out, ← HW3.out]
       exact ⟨rfl, own, c, M, n, f, S, H4.out, fun h => absurd h (by decide), fun h => absurd h (by decide)⟩
      ·have d2 : decide (1024 < dd + q) = false := decide_eq_false hq
       have HQ := Lib.hid (show dd + q ≤ 1024 by omega)
       have hr1 : rstepR pr dor f S = (if f.m.static = true then .none
         else match pr f S (opR f) with
         | .none => .none
         | .no => .stop 11 f S
         | .more k f1 => if g.toNat + k ≤ f1.gas ∧ f1.next = f.next ∧ f1.code = f.code ∧ f1.stack = f.stack then
           (match dor { f1 with gas := f1.gas - g.toNat - k } S (opR f) with
            | .ok f2 S2 => if f2.next = f.next then (if f.next + 1 + (ownOf (opR f)).toNat ≤ 2199023255552 then .ok { f2 with next := f.next + 1 + (ownOf (opR f)).toNat } S2 else .none) else .ok f2 S2
            | r => r)
          else if f1.next = f.next ∧ f1.code = f.code ∧ f1.stack = f.stack then .stop 11 f1 S else .none) := by
        conv => lhs; unfold rstepR
        rw [HOP.out, HEO.out]
        exact if_neg (by rw [← HSL.out]; omega)
       cases hst : f.m.static with
       | true =>
        have h := HST.out
        rw [hr1, if_pos hst] at h
        exact h.elim
       | false =>
        rw [if_neg (by rw [hst]; simp)] at hr1
        have HR1 := Lib.hid hr1
        rw [hst] at q227
        have H4 := Lib.hid h3
        have hpn : pr f S (opR f) ≠ .none := by
         intro e
         have h := HST.out
         rw [hr1, e] at h
         exact h
        have HPN := Lib.hid hpn
        rw [hw3] at q230 qd2 qd3
        clear h3 hw3 hlp hlp2 hdd hq bp0 bp1 bq0 bq1 bg0 bg1 hsl2 hr1 hpn
        refine wp_reads (by kernel_rfl) (by kernel_rfl) ?_
        repeat still_step
        refine wpStill_nil ?_
        rw [← HW3.out]
        clear q230 qd2 qd3
        go_wp2_with fail
        have hcp := HT.out.price H4.out HTL.out HPN.out
        rw [HOP.out] at hcp
        refine hcp.mono ?_
        intro e w4 hpost
        have HHB := Lib.hid hbB3
        cases ep : pr f S (opR f) with
        | none => exact absurd ep HPN.out
        | no =>
         rw [HOP.out] at ep
         rw [ep] at hpost
         obtain ⟨⟨x1, rfl⟩, own4, c4, f4, M4, n4, S4, h4⟩ := hpost
         have HSN : Hid (x = 11) := by
          have h := HST.out
          rw [HR1.out, HOP.out, ep] at h
          exact h.2.1
         have H5 := Lib.hid h4
         clear ep h4
         go_wp2_with fail
         refine wp_reads (by kernel_rfl) (by kernel_rfl) ?_
         repeat still_step
         refine wpStill_nil ?_
         go_wp2
         go_ret
         rw [HSN.out]
         exact ⟨rfl, own4, c4, M4, n4, f4, S4, H5.out.below (Below.refl _ _).drew, fun h => absurd h (by decide), fun h => absurd h (by decide)⟩
        | more k f1 =>
         rw [HOP.out] at ep
         rw [ep] at hpost
         obtain ⟨rfl, hk, ⟨own4, c4, M4, n4, h4, htl4, hjv4⟩, ho4⟩ := hpost
         obtain ⟨bp0, bp1, bq0, bq1, bg0, bg1⟩ := HBD.out
         have q4 : w4.drew.cell? ⟨b, 4, none⟩ = some (.int .i64 g) := by
          show w4.cell? ⟨b, 4, none⟩ = _
          rw [ho4.cell? HHB.out HNB.out, HW3.out]
          exact HQ4.out
         obtain ⟨G, hG⟩ : ∃ G, G = f1.gas := ⟨_, rfl⟩
         have hGb : G ≤ 999000 := by have := h4.cnt; have := h4.lim; omega
         have q228 : w4.drew.cell? ⟨E.fb, 228, none⟩ = some (.int .i64 (G : Int)) := by rw [hG]; exact rf_gas h4.row
         obtain ⟨gk2, hgk2⟩ : ∃ z : Int, z = g + (k : Int) := ⟨_, rfl⟩
         have we : IntKind.i64.wrap (g + (k : Int)) = gk2 := by rw [hgk2, IntKind.wrap_i64]; omega
         have HTL4 := Lib.hid htl4
         have HJV4 := Lib.hid hjv4
         have HGG := Lib.hid hG
         have H5 := Lib.hid h4
         have HGK := Lib.hid hgk2
         have HEP := Lib.hid ep
         clear ep h4 htl4 hjv4 hG ho4 hcp
         by_cases hgt : (G : Int) < gk2
         ·have d1 : decide ((G : Int) < gk2) = true := decide_eq_true hgt
          have HSN : Hid (x = 11) := by
           have h := HST.out
           rw [show rstepR pr dor f S = (if f1.next = f.next ∧ f1.code = f.code ∧ f1.stack = f.stack then .stop 11 f1 S else .none) by rw [HR1.out, HOP.out, HEP.out]; exact if_neg (by rw [← HGG.out]; omega)] at h
           split at h
           ·rename_i heq
            split at heq
            ·cases heq
            ·cases heq
           ·rename_i heq
            split at heq
            ·cases heq; exact h.2.1
            ·cases heq
           ·exact h.elim
          clear hgt hgk2 bp0 bp1 bq0 bq1 bg0 bg1 hGb hk
          go_wp2_with fail
          refine wp_reads (by kernel_rfl) (by kernel_rfl) ?_
          repeat still_step
          refine wpStill_nil ?_
          go_wp2
          go_ret
          rw [HSN.out]
          exact ⟨rfl, own4, c4, M4, n4, f1, S, H5.out.below (Below.refl _ _).drew, fun h => absurd h (by decide), fun h => absurd h (by decide)⟩
         ·have d1 : decide ((G : Int) < gk2) = false := decide_eq_false hgt
          obtain ⟨e1, he1⟩ : ∃ e1 : Int, e1 = (G : Int) - g := ⟨_, rfl⟩
          obtain ⟨e2, he2⟩ : ∃ e2 : Nat, e2 = G - g.toNat - k := ⟨_, rfl⟩
          have we1 : IntKind.i64.wrap ((G : Int) - g) = e1 := by rw [he1, IntKind.wrap_i64]; omega
          have we2 : IntKind.i64.wrap (e1 - (k : Int)) = (e2 : Int) := by rw [he1, IntKind.wrap_i64]; omega
          have hle : e2 ≤ f1.gas := by rw [← HGG.out]; omega
          have hcc : f1.next = f.next ∧ f1.code = f.code ∧ f1.stack = f.stack := by
           refine Classical.byContradiction fun hne => ?_
           have h := HST.out
           rw [show rstepR pr dor f S = .none by rw [HR1.out, HOP.out, HEP.out]; exact (if_neg (fun hh => hne hh.2)).trans (if_neg hne)] at h
           exact h
          have hr2 : rstepR pr dor f S = (match dor { f1 with gas := e2 } S (m : Int) with
            | .ok f2 S2 => if f2.next = f.next then (if f.next + 1 + (ownOf (m : Int)).toNat ≤ 2199023255552 then .ok { f2 with next := f.next + 1 + (ownOf (m : Int)).toNat } S2 else .none) else .ok f2 S2
            | r => r) := by
           rw [HR1.out, HOP.out, HEP.out, he2, HGG.out]
           exact if_pos ⟨by rw [← HGG.out]; omega, hcc⟩
          have hop6 : opR { f1 with gas := e2 } = (m : Int) := by
           rw [← HOP.out]
           exact opR_same hcc.1 hcc.2.1
          have hdn : dor { f1 with gas := e2 } S (m : Int) ≠ .none := by
           intro hd
           have h := HST.out
           rw [hr2, hd] at h
           exact h
          have HR2 := Lib.hid hr2
          have HDN := Lib.hid hdn
          have HCC := Lib.hid hcc
          have HOP6 := Lib.hid hop6
          have HLE := Lib.hid hle
          have HE12 := Lib.hid (And.intro he1 he2)
          clear hgt hgk2 bp0 bp1 bq0 bq1 bg0 bg1 hGb hk he1 he2 hle hcc hr2 hop6 hdn
          go_wp2_with fail
          refine wp_reads (by kernel_rfl) (by kernel_rfl) ?_
          repeat still_step
          refine wpStill_nil ?_
          obtain ⟨w5, hw5⟩ : ∃ w5, w5 = w4.drew := ⟨_, rfl⟩
          have h5 : RFrOk E w5 own4 c4 f1 S M4 n4 := by rw [hw5]; exact H5.out.below (Below.refl _ _).drew
          rw [← hw5] at q4 q228 ⊢
          have h6 := (h5.below (Below.refl _ _).drew).gas e2 HLE.out
          have f228 : w5.drew.free? E.fb 228 1 = true := (h5.below (Below.refl _ _).drew).one (by omega)
          have q229 : (w5.drew.setCell ⟨E.fb, 228, none⟩ (.int .i64 (e2 : Int))).cell? ⟨E.fb, 229, none⟩ = some (.int .i64 (pc : Int)) := by
           rw [HPC.out, ← HCC.out.1]
           exact rf_pc_gas h6
          have q229w : w5.cell? ⟨E.fb, 229, none⟩ = some (.int .i64 (pc : Int)) := by
           rw [HPC.out, ← HCC.out.1]
           exact rf_pc h5.row
          have hact := HT.out.act (p := p) (q := q) (g := g) h6 HTL4.out (by rw [HJV4.out, HJV.out]; exact HJN.out) (by rw [HOP6.out]; exact HEO.out) (by show p ≤ (f1.stack.length : Int); rw [HCC.out.2.2, ← HSL.out]; exact HLP.out) (by show (f1.stack.length : Int) - p + q ≤ 1024; rw [HCC.out.2.2, ← HSL.out, ← HDD.out]; exact HQ.out) (by rw [HOP6.out]; exact HDN.out)
          rw [HOP6.out, show c4.jv = jv by rw [HJV4.out, HJV.out]] at hact
          have HACT := Lib.hid hact
          have q4' : w5.drew.cell? ⟨b, 4, none⟩ = some (.int .i64 g) := q4
          have q228' : w5.drew.cell? ⟨E.fb, 228, none⟩ = some (.int .i64 (G : Int)) := q228
          clear hw5 h5 h6 hact q4 q228
          go_wp2_with fail
          go_still_tail 12, (by kernel_rfl)
          go_wp2_with fail
          refine HACT.out.mono ?_
          intro e w6 hpost
          cases ed : dor { f1 with gas := e2 } S (m : Int) with
          | none => exact absurd ed HDN.out
          | stop y f3 S3 =>
           rw [ed] at hpost
           obtain ⟨rfl, hy, own6, c6, M6, n6, f6, S6, h6, h15⟩ := hpost
           have hst2 := HST.out
           rw [HR2.out, ed] at hst2
           obtain ⟨_, hxy, hf, hS⟩ : y ≠ 0 ∧ x = y ∧ f' = f3 ∧ S' = S3 := hst2
           have hyI : ((y : Int) == 0) = false := by simp; omega
           have HH6 := Lib.hid h6
           have H15 := Lib.hid h15
           have HXY := Lib.hid (And.intro hxy (And.intro hf hS))
           have HY := Lib.hid hy
           clear ed h6 h15 hxy hf hS hy
           go_wp2
           go_ret
           obtain ⟨rfl, rfl, rfl⟩ := HXY.out
           exact ⟨rfl, own6, c6, M6, n6, f6, S6, HH6.out, fun h => absurd h HY.out, fun h => H15.out h⟩
          | ok f2 S2 =>
           rw [ed] at hpost
           obtain ⟨rfl, own6, c6, M6, n6, h6, htl6, hjv6⟩ := hpost
           have q229 := rf_pc h6.row
           have f229 : w6.free? E.fb 229 1 = true := h6.one (by omega)
           have hst2 := HST.out
           rw [HR2.out, ed] at hst2
           dsimp only at hst2
           have HTL6 := Lib.hid htl6
           have HJV6 := Lib.hid hjv6
           by_cases hn : f2.next = pc
           ·rw [hn] at q229
            have hst3 : f.next + 1 + (ownOf (m : Int)).toNat ≤ 2199023255552 ∧ loopX (rstepR pr dor) k1 { f2 with next := f.next + 1 + (ownOf (m : Int)).toNat } S2 = some (x, f', S') := by
             rw [if_pos (hn.trans HPC.out)] at hst2
             by_cases hbd : f.next + 1 + (ownOf (m : Int)).toNat ≤ 2199023255552
             ·rw [if_pos hbd] at hst2
              exact ⟨hbd, hst2⟩
             ·rw [if_neg hbd] at hst2
              exact hst2.elim
            obtain ⟨Z, hZ⟩ : ∃ Z, Z = f.next + 1 + (ownOf (m : Int)).toNat := ⟨_, rfl⟩
            rw [← hZ] at hst3
            have hown := ref_own (m : Int) (by omega) (by have := HM.out; omega) w6
            have how0 : 0 ≤ ownOf (m : Int) ∧ ownOf (m : Int) ≤ 256 := by
             have := HM.out
             unfold ownOf
             split <;> omega
            obtain ⟨ow, how⟩ : ∃ ow, ow = ownOf (m : Int) := ⟨_, rfl⟩
            rw [← how] at hown hZ how0
            obtain ⟨A, hA⟩ : ∃ A : Int, A = (pc : Int) + 1 := ⟨_, rfl⟩
            have hpcb : pc < 2199023255552 := by have := hst3.1; have := HPC.out; omega
            have a1 : IntKind.i64.wrap ((pc : Int) + 1) = A := by rw [hA, IntKind.wrap_i64]; omega
            have a2 : IntKind.i64.wrap (A + ow) = (Z : Int) := by have := HPC.out; rw [hA, IntKind.wrap_i64]; omega
            have HH6 := Lib.hid h6
            have HST3 := Lib.hid hst3
            have HOWN := Lib.hid hown
            clear hst2 hst3 h6 htl6 hjv6 ed hn hZ how how0 hA hpcb hown
            go_wp2_with fail
            refine HOWN.out.mono ?_
            rintro e w7 ⟨rfl, rfl⟩
            go_wp2_with fail
            go_roundg k1
            case rel => exact ⟨own6, c6, { f2 with next := Z }, S2, M6, n6, HH6.out.pc Z HST3.out.1, HTL6.out, HJV6.out, HST3.out.2⟩
            case measure => have := HK1.out; omega
           ·rw [if_neg (show ¬ f2.next = f.next from fun e => hn (e.trans HPC.out.symm))] at hst2
            have HH6 := Lib.hid h6
            have HST3 := Lib.hid hst2
            clear hst2 h6 htl6 hjv6 ed
            obtain ⟨nx, hnx⟩ : ∃ nx, nx = f2.next := ⟨_, rfl⟩
            rw [← hnx] at q229 hn
            have hnI : ((nx : Int) == (pc : Int)) = false := by simp; omega
            clear hnx hn
            go_wp2_with fail
            go_roundg k1
            case rel => exact ⟨own6, c6, f2, S2, M6, n6, HH6.out, HTL6.out, HJV6.out, HST3.out⟩
            case measure => have := HK1.out; omega
end Go.Proofs.YtiglinnjnobodaaGreat
namespace Go.Proofs.YtiglinnjnobodaaGreat
open Go.RowKit Go.Mun
def prE (f : Fr) (_ : St) (x : Int) : Pri := if x = 0 ∨ 96 ≤ x ∧ x ≤ 159 then .more 0 f else .none
def doE (f : Fr) (S : St) (x : Int) : Res :=
 if x = 0 then .ok { f with ended := true } S
 else if 96 ≤ x ∧ x ≤ 127 then .ok { f with stack := f.stack ++ [ownR f (x.toNat - 95)] } S
 else .none
theorem told_easy (E : REnv) : RTold E prE doE where
 price := by
  intro w own c f S M n h htl hn
  unfold prE at hn ⊢
  by_cases hx : opR f = 0 ∨ 96 ≤ opR f ∧ opR f ≤ 159
  ·rw [if_pos hx]
   refine (r_price_no (opR f) hx E.fb w).mono ?_
   rintro e w' ⟨rfl, rfl⟩
   exact ⟨rfl, by decide, ⟨own, c, M, n, h, htl, rfl⟩, Only.refl _ _⟩
  ·rw [if_neg hx] at hn
   exact absurd rfl hn
 act := by
  intro w own c f S M n p q g h htl _ ho hp hq hd
  unfold doE at hd ⊢
  by_cases h0 : opR f = 0
  ·rw [if_pos h0, h0]
   exact rdo_stop h htl
  ·rw [if_neg h0] at hd ⊢
   by_cases h1 : 96 ≤ opR f ∧ opR f ≤ 127
   ·rw [if_pos h1]
    obtain ⟨m, hm, hop⟩ := opR_bd h
    rw [hop] at h1 ho ⊢
    have hpq : p = 0 ∧ q = 1 := by
     unfold ofL at ho
     rw [if_pos h1] at ho
     cases ho
     exact ⟨rfl, rfl⟩
    rw [show ((m : Int)).toNat - 95 = m - 95 by omega]
    exact rdo_push m (by omega) h htl (by omega)
   ·rw [if_neg h1] at hd
    exact absurd rfl hd
end Go.Proofs.YtiglinnjnobodaaGreat
