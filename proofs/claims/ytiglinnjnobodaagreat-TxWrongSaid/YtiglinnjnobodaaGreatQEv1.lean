/-
  The machine's stack: contracts of Len, Push.
  The machine's stack: contracts of Clone and Reverse of words.
  The machine's stack: contract of Reverse of words.
  The machine's stack: contract of Pop.
  The machine's frame: contracts of need, pay, push.
  The machine's frame: its run, told of the steps, be it that one of them gives up.
-/
import Derived.Test.YtiglinnjnobodaaGreatQWrd4
import Derived.Test.YtiglinnjnobodaaGreatQSt8
import Derived.Test.YtiglinnjnobodaaGreatQSeq
import Derived.Recover
import Derived.Deep.LoopGhost
set_option linter.unusedVariables false
set_option linter.unusedSimpArgs false
namespace Go.Mun
open Go.RowKit
/-- The cells of a stack, the lowest word first. -/
def stkC (l : List Nat) : List Value := l.flatMap (beC 32)
@[go_sem, simp] theorem stkC_len (l : List Nat) : (stkC l).length = l.length * 32 := by
  induction l with
  | nil => rfl
  | cons a l ih => simp [stkC] at ih ⊢; omega
theorem stkC_append (l m : List Nat) : stkC (l ++ m) = stkC l ++ stkC m := by simp [stkC]
end Go.Mun
namespace Go.Proofs.YtiglinnjnobodaaGreat
open Go.RowKit Go.Mun

set_option maxRecDepth 1000000 in
theorem sl33_1 : SliceLit Tryz.prog 129 25 32 1 (zU8 32) := ⟨Tryz.underlying129, ⟨_, .agg (zU8 32).toArray, rfl, by kernel_rfl, by kernel_rfl, by kernel_rfl⟩, by decide, by simp, by decide⟩
def fill33 (p : List (Nat × Value)) : Option (List Value) := fillL (1 * 32) ((List.range 1).map fun i => (i * 32, 32)) (zU8 32) p
theorem bs33_1 (ρ : Operand → Value) (dst : Option Tmp) (x : Operand) (t : TypeId) (pos : String) (after : Array Edge) (gd : Option (Nat × Bool)) (w : World) :
    (execOp ρ ⟨dst, .buildSlice 129 1 #[(0, x)], t, pos, after, gd⟩).run Tryz.prog w = asNext (bsRow Tryz.prog 129 25 1 [(0, ρ x)] w (fill33 [(0, ρ x)])) :=
  ex_bslice ρ dst t pos after gd w sl33_1 [(0, x)]
@[go_sem] theorem fill33_one (c : List Value) (h : c.length = 32) : fill33 [(0, .agg c.toArray)] = some c := by
  unfold fill33
  have : lay (zU8 32) 0 c = c := by
    have := lay_left (zU8 32) c [] (by simp [h])
    simpa using this
  simp [fillL, h, Value.cells, this]
attribute [go_sem ↓] bs33_1
theorem s1_33 (ρ : Operand → Value) (dst : Option Tmp) (x y : Operand) (t : TypeId) (pos : String) (after : Array Edge) (gd : Option (Nat × Bool)) (w : World) : (execOp ρ ⟨dst, .store 129 x y, t, pos, after, gd⟩).run Tryz.prog w = asSkip (stOne Tryz.prog 129 (ρ x) (ρ y) w) := ex_store1 ρ dst x y t pos after gd w (by kernel_rfl)
attribute [go_sem ↓] s1_33
theorem ownsRow_lt {w : World} {base e size n : Nat} {v : Value} {xs : List Value} (h : w.ownsRow base e size v n xs) : ∀ g, v.ownBlock = some g → g < w.heap.size := by
  intro g hg
  rcases h.2 with hn | ⟨g', cap, cur, rfl, h1, h2, h3⟩
  · obtain ⟨rfl, _⟩ := hn; cases hg
  · cases hg; exact (Array.getElem?_eq_some_iff.1 h2).1
end Go.Proofs.YtiglinnjnobodaaGreat
namespace Go.Mun
open Go.RowKit
theorem SrcAt.below {w w' : World} {ad : Option Addr} {c m size : Nat} {cs : List Value} (h : SrcAt w ad c m size cs) (hb : Below w.heap.size w w') : SrcAt w' ad c m size cs := by
  refine ⟨h.ok, fun hm => ?_, h.nil⟩
  obtain ⟨b, off, ha, hc⟩ := h.cell hm
  exact ⟨b, off, ha, fun j u hj => (hb.cell (p := ⟨b, off + j, none⟩) (World.block_lt_of_cell? w _ (hc j u hj))).trans (hc j u hj)⟩
/-- The word of a place, in the cells. -/
theorem stkC_at : ∀ (l : List Nat) (p : Nat) (x : Nat), l[p]? = some x → ((stkC l).drop (p * 32)).take 32 = beC 32 x
  | y :: l, 0, x, h => by
    simp at h; subst h
    simp [stkC]
  | y :: l, p + 1, x, h => by
    have := stkC_at l p x (by simpa using h)
    rw [show (p + 1) * 32 = 32 + p * 32 by omega, show stkC (y :: l) = beC 32 y ++ stkC l by simp [stkC], ← List.drop_drop, List.drop_left' (by simp)]
    exact this
  | [], p, x, h => by simp at h
/-- Where the k first and the k last have changed places. -/
def revK (l : List Nat) (k : Nat) : List Nat := (List.range l.length).map fun p => if p < k ∨ l.length - 1 - k < p then l.getD (l.length - 1 - p) 0 else l.getD p 0
@[simp] theorem revK_len (l : List Nat) (k : Nat) : (revK l k).length = l.length := by simp [revK]
theorem revK_at (l : List Nat) (k p : Nat) (h : p < l.length) : (revK l k)[p]? = some (if p < k ∨ l.length - 1 - k < p then l.getD (l.length - 1 - p) 0 else l.getD p 0) := by
  simp [revK, h]
end Go.Mun
namespace Go.Proofs.YtiglinnjnobodaaGreat
open Go.RowKit Go.Mun
end Go.Proofs.YtiglinnjnobodaaGreat
namespace Go.Proofs.YtiglinnjnobodaaGreat
open Go.RowKit Go.Mun

structure RevR (w wr : World) (g : Nat) (l : List Nat) (k : Nat) : Prop where
  row : wr.row? g 0 (l.length * 32) = some (stkC (revK l k))
  free : wr.free? g 0 (l.length * 32) = true
  only : Only (· = g) w wr
end Go.Proofs.YtiglinnjnobodaaGreat
namespace Go.Mun
open Go.RowKit
/-- Words that were popped: in a block of their own. -/
def Wds (base : Nat) (w : World) (v : Value) (l : List Nat) : Prop :=
  ∃ ad c, v = .slice ad l.length c ∧ l.length ≤ c ∧ c ≤ maxLen ∧ (l ≠ [] → ∃ g, ad = some ⟨g, 0, none⟩ ∧ base ≤ g ∧ g < w.heap.size ∧ w.row? g 0 (l.length * 32) = some (stkC l))
theorem own_words {w : World} {base e n size : Nat} {v : Value} {xs : List Value} (h : w.ownsRow base e size v n xs) (hn : 0 < n) :
    ∃ g c, v = .slice (some ⟨g, 0, none⟩) n c ∧ base ≤ g ∧ n ≤ c ∧ c ≤ maxLen ∧ w.row? g 0 (n * size) = some xs ∧ w.free? g 0 (n * size) = true := by
  rcases h.2 with ⟨rfl, h0⟩ | ⟨g, cap, cur, rfl, hbg, hg, hnc, hcm, hcs, htake⟩
  · omega
  · have hle : n * size ≤ cap * size := Nat.mul_le_mul_right _ hnc
    refine ⟨g, cap, rfl, hbg, hnc, hcm, ?_, ?_⟩
    · unfold World.row?
      rw [hg]
      simp only [Nat.zero_add, List.drop_zero]
      rw [if_pos (by omega)]
      rw [htake]
    · unfold World.free?
      rw [hg]
      simp; omega
theorem stkC_drop : ∀ (l : List Nat) (k : Nat), (stkC l).drop (k * 32) = stkC (l.drop k)
  | l, 0 => by simp
  | [], k + 1 => by simp [stkC]
  | y :: l, k + 1 => by
    rw [show (k + 1) * 32 = 32 + k * 32 by omega, show stkC (y :: l) = beC 32 y ++ stkC l by simp [stkC], ← List.drop_drop, List.drop_left' (by simp), stkC_drop l k, List.drop_succ_cons]
end Go.Mun
namespace Go.Proofs.YtiglinnjnobodaaGreat
open Go.RowKit Go.Mun

end Go.Proofs.YtiglinnjnobodaaGreat
namespace Go.Proofs.YtiglinnjnobodaaGreat
open Go.RowKit Go.Mun

end Go.Proofs.YtiglinnjnobodaaGreat
namespace Go.Proofs.YtiglinnjnobodaaGreat
open Go.RowKit Go.Mun

/-- The deferred closure, where nothing panicked. -/
theorem run_idle (p : Addr) (w : World) :
    CallsD Tryz.prog 369 #[.pointer (some p)] .returning w fun e u' w' => e = .returned (.tuple #[]) ∧ u' = .returning ∧ w' = w := by
  refine callsD_of_wpS Tryz.func369 rfl fun c₀ cs hu => ?_
  apply wpS_seq
  apply wpS_region
  simp [wpOpsS, go_sem, recoverD, hu, Tryz.ntmps369, Exit.thenS]
  apply wpS_seq
  apply wpS_region
  simp [wpOpsS, go_sem, Exit.thenS]
  refine wpS_cond (t := false) (by simp [Act.eval, Array.replicate]) ?_
  simp only [Bool.false_eq_true, if_false]
  refine wpS_of_wp (wp_skip ?_)
  cases c₀
  simp_all [bodyPostS, results, Tryz.results369]
theorem ta_stop (v : Value) (w : World) : (Instr.typeAssert (.iface 317 v) 20 317 true).run Tryz.prog w = .ok (.tuple #[v, .bool true]) w := by
  simp [Instr.typeAssert, run_underlying Tryz.underlying317, go_sem, Result.andThen]
def stopV (x : Int) : Value := .iface 317 (.agg #[.int .i64 x])
set_option maxRecDepth 100000 in
set_option maxHeartbeats 2000000 in
theorem run_caught (b : Nat) (x y : Int) (older : List PanicEntry) (w : World) (hc : w.cell? ⟨b, 0, none⟩ = some (.int .i64 y)) (hf : w.free? b 0 1 = true) :
    CallsD Tryz.prog 369 #[.pointer (some ⟨b, 0, none⟩)] (.panicking ({ v := stopV x, recovered := false } :: older)) w fun e u' w' => e = .returned (.tuple #[]) ∧
      u' = .panicking ({ v := stopV x, recovered := true } :: older) ∧ w' = (w.alloc (.cells #[.int .i64 x] 317)).setCell ⟨b, 0, none⟩ (.int .i64 x) := by
  have hbl := World.block_lt_of_cell? w _ hc
  have hta := ta_stop (.agg #[.int .i64 x])
  unfold stopV
  refine callsD_of_wpS Tryz.func369 rfl fun c₀ cs hu => ?_
  apply wpS_seq
  apply wpS_region
  simp [wpOpsS, go_sem, recoverD, hu, Tryz.ntmps369, Exit.thenS]
  refine wpS_of_wp ?_
  have ht : #[Value.pointer (some ⟨b, 0, none⟩)] ++ ((Array.replicate 16 undef).setIfInBounds 3 (.iface 317 (.agg #[.int .i64 x]))).setIfInBounds 0 (.iface 317 (.agg #[.int .i64 x])) =
    #[Value.pointer (some ⟨b, 0, none⟩), .iface 317 (.agg #[.int .i64 x]), undef, undef, .iface 317 (.agg #[.int .i64 x]), undef, undef, undef, undef, undef, undef, undef, undef, undef, undef, undef, undef] := rfl
  rw [ht]
  clear ht
  go_wp2
  cases c₀
  simp [bodyPostS, results, Tryz.results369]
attribute [local irreducible] wpStill
/-- What the run asks of a world: its own variable for the error, whether it has ended, the next place, the code. -/
structure RunR (w : World) (fb eb : Nat) : Prop where
  ec : w.cell? ⟨eb, 0, none⟩ = some (.int .i64 0)
  ef : w.free? eb 0 1 = true
  cells : ∃ (en : Bool) (nx n c : Nat) (a : Option Addr), w.cell? ⟨fb, 140, none⟩ = some (.bool en) ∧ w.cell? ⟨fb, 135, none⟩ = some (.int .i64 nx) ∧ w.cell? ⟨fb, 130, none⟩ = some (.slice a n c)
/-- The run is at its end. -/
def RunEnd (w : World) (fb : Nat) : Prop := ∃ (en : Bool) (nx n c : Nat) (a : Option Addr), w.cell? ⟨fb, 140, none⟩ = some (.bool en) ∧ w.cell? ⟨fb, 135, none⟩ = some (.int .i64 nx) ∧ w.cell? ⟨fb, 130, none⟩ = some (.slice a n c) ∧ (en = true ∨ n ≤ nx)
set_option maxRecDepth 100000 in
set_option maxHeartbeats 1000000 in
theorem frame_run (fb K : Nat) (w : World) (R : Nat → World → Prop) (G : Int → World → Prop) (h0 : R K (w.alloc (.cells #[.int .i64 0] 44)))
    (hd : ∀ k w1, R k w1 → R k w1.drew) (hR : ∀ k w1, R k w1 → RunR w1 fb w.heap.size)
    (hG : ∀ x w1, G x w1 → w1.cell? ⟨w.heap.size, 0, none⟩ = some (.int .i64 0) ∧ w1.free? w.heap.size 0 1 = true)
    (hs : ∀ k w1 nx a n c, R k w1 → w1.cell? ⟨fb, 140, none⟩ = some (.bool false) → w1.cell? ⟨fb, 135, none⟩ = some (.int .i64 (nx : Nat)) → w1.cell? ⟨fb, 130, none⟩ = some (.slice a n c) → nx < n →
      Calls Tryz.prog 370 #[.pointer (some ⟨fb, 0, none⟩)] w1 fun e w2 => (e = .returned (.tuple #[]) ∧ ∃ k', k' < k ∧ R k' w2) ∨ ∃ x, e = .panicked [{ v := stopV x, recovered := false }] ∧ G x w2) :
    Calls Tryz.prog 326 #[.pointer (some ⟨fb, 0, none⟩)] w fun e w' => (e = .returned (.int .i64 0) ∧ ∃ k w1, R k w1 ∧ RunEnd w1 fb ∧ w' = w1.setCell ⟨w.heap.size, 0, none⟩ (.int .i64 0)) ∨
      ∃ x w1, e = .returned (.int .i64 x) ∧ G x w1 ∧ w' = (w1.alloc (.cells #[.int .i64 x] 317)).setCell ⟨w.heap.size, 0, none⟩ (.int .i64 x) := by
  have hmf : ∀ (fn : Fn) (first cap : Array Value) (w : World), (Instr.makeFunc fn first cap).run Tryz.prog w = .ok (.func fn first cap) w := fun _ _ _ _ => rfl
  have H0 := Lib.hid h0
  have HD := Lib.hid hd
  have HR := Lib.hid hR
  have HS := Lib.hid hs
  have HG := Lib.hid hG
  clear h0 hd hR hs hG
  go_enter_defers Tryz.func326, Tryz.ntmps326
  go_wp2_with fail
  go_loopg [] K (fun k wr => R k wr)
  case atStart => exact H0.out
  case round =>
    have HR1 := Lib.hid hrel
    have hd' := HD.out _ _ hrel
    have hrr := HR.out _ _ hd'
    have HR2 := Lib.hid hd'
    obtain ⟨en, nx, n, c, a, c0, c1, c2⟩ := hrr.cells
    have hec := hrr.ec
    have hef := hrr.ef
    clear hrel hd' hrr
    cases en with
    | true =>
      go_wp2_with fail
      refine wp_reads (by kernel_rfl) (by kernel_rfl) ?_
      repeat still_step
      refine wpStill_nil ?_
      have HEC := Lib.hid hec
      clear hec
      go_wp2
      refine leaves_cons (f := 369) (args := #[.pointer (some ⟨w.heap.size, 0, none⟩)]) (by simp) (by simp [go_sem]) ?_
      refine (run_idle ⟨w.heap.size, 0, none⟩ _).mono ?_
      rintro e u' w'' ⟨rfl, rfl, rfl⟩
      have hcs : (wr.setCell ⟨w.heap.size, 0, none⟩ (.int .i64 0)).cell? ⟨w.heap.size, 0, none⟩ = some (.int .i64 0) := World.cell?_setCell_same _ _ _ HEC.out
      simp [Leaves, settle, results, Tryz.results326, go_sem, hcs]
      exact .inl ⟨_, _, HR2.out, ⟨_, _, _, _, _, c0, c1, c2, .inl rfl⟩, rfl⟩
    | false =>
      by_cases hlt : nx < n
      · have hnI : (nx : Int) < n := by omega
        have hdI : decide ((nx : Int) < n) = true := decide_eq_true hnI
        go_wp2_with fail
        refine wp_reads (by kernel_rfl) (by kernel_rfl) ?_
        repeat still_step
        refine wpStill_nil ?_
        go_wp2_with fail
        refine (HS.out _ _ nx a n c HR2.out c0 c1 c2 hlt).mono ?_
        rintro e w2 (⟨rfl, k', hk', hr2⟩ | ⟨x, rfl, hg⟩)
        · go_wp2_with fail
          go_roundg k'
          case rel => exact hr2
          case measure => exact hk'
        · have hg2 := HG.out _ _ hg
          have HGx := Lib.hid hg
          clear hg
          go_wp2_with fail
          refine leaves_cons (f := 369) (args := #[.pointer (some ⟨w.heap.size, 0, none⟩)]) (by simp) (by simp [go_sem]) ?_
          refine (run_caught w.heap.size x 0 [] _ hg2.1 hg2.2).mono ?_
          rintro e u' w'' ⟨rfl, rfl, rfl⟩
          have hbl : w.heap.size < w2.heap.size := World.block_lt_of_cell? w2 _ hg2.1
          have hcs : ((w2.alloc (.cells #[.int .i64 x] 317)).setCell ⟨w.heap.size, 0, none⟩ (.int .i64 x)).cell? ⟨w.heap.size, 0, none⟩ = some (.int .i64 x) := World.cell?_setCell_same _ _ _ (by rw [World.cell?_alloc_past _ _ _ hbl]; exact hg2.1)
          simp [Leaves, settle, results, Tryz.results326, go_sem, hcs]
          exact .inr ⟨w2, HGx.out, rfl⟩
      · have hnI : ¬ (nx : Int) < n := by omega
        have hdI : decide ((nx : Int) < n) = false := decide_eq_false hnI
        go_wp2_with fail
        refine wp_reads (by kernel_rfl) (by kernel_rfl) ?_
        repeat still_step
        refine wpStill_nil ?_
        have HEC := Lib.hid hec
        clear hec
        go_wp2
        refine leaves_cons (f := 369) (args := #[.pointer (some ⟨w.heap.size, 0, none⟩)]) (by simp) (by simp [go_sem]) ?_
        refine (run_idle ⟨w.heap.size, 0, none⟩ _).mono ?_
        rintro e u' w'' ⟨rfl, rfl, rfl⟩
        have hcs : (wr.setCell ⟨w.heap.size, 0, none⟩ (.int .i64 0)).cell? ⟨w.heap.size, 0, none⟩ = some (.int .i64 0) := World.cell?_setCell_same _ _ _ HEC.out
        simp [Leaves, settle, results, Tryz.results326, go_sem, hcs]
        exact .inl ⟨_, _, HR2.out, ⟨_, _, _, _, _, c0, c1, c2, .inr (by omega)⟩, rfl⟩
end Go.Proofs.YtiglinnjnobodaaGreat
