/-
  The reference's table of instructions: contracts of table, Digits, ranges.
-/
import Derived.Test.YtaoacfkifcglfaaDoorOpsE
import Derived.Test.YtaoacfkifcglfaaDoorLawW
namespace Go.Mun
structure Inf where
  op : Int
  name : List UInt8
  pops : Int
  pushes : Int
  gas : Int

def Inf.c (x : Inf) : List Value := [.int .u8 x.op, .string (str x.name), .int .i64 x.pops, .int .i64 x.pushes, .int .i64 x.gas]
def infZ : Inf := ⟨0, [], 0, 0, 0⟩
def infsC (l : List Inf) : List Value := l.flatMap Inf.c
theorem infsC_len (l : List Inf) : (infsC l).length = 5 * l.length := by
  induction l with
  | nil => rfl
  | cons x l ih => simp [infsC, Inf.c] at ih ⊢; omega
theorem infsC_ok (l : List Inf) : okL (5 * l.length) (infsC l) = true := by
  refine okL_mk (infsC_len l) fun v hv => ?_
  unfold infsC at hv
  rw [List.mem_flatMap] at hv
  obtain ⟨x, _, hx⟩ := hv
  simp only [Inf.c, List.mem_cons, List.mem_nil_iff, or_false] at hx
  rcases hx with rfl | rfl | rfl | rfl | rfl <;> simp [Value.oneCell']
theorem infsC_at : ∀ (l : List Inf) (i : Nat) (x : Inf), l[i]? = some x → ((infsC l).drop (5 * i)).take 5 = x.c
  | y :: l, 0, x, h => by simp at h; subst h; rfl
  | y :: l, i + 1, x, h => by
    have := infsC_at l i x (by simpa using h)
    rw [← this]
    show ((y.c ++ infsC l).drop (5 * (i + 1))).take 5 = _
    rw [show 5 * (i + 1) = y.c.length + 5 * i by simp [Inf.c]; omega, ← List.drop_drop, List.drop_left]
theorem infsC_set : ∀ (l : List Inf) (i : Nat) (x : Inf), i < l.length → splice (infsC l) (5 * i) x.c = infsC (l.set i x)
  | y :: l, 0, x, _ => by
    show splice (y.c ++ infsC l) 0 x.c = x.c ++ infsC l
    unfold splice
    rw [List.take_zero, List.nil_append, Nat.zero_add, show x.c.length = y.c.length from rfl, List.drop_left]
  | y :: l, i + 1, x, h => by
    have ih := infsC_set l i x (by simpa using h)
    show splice (y.c ++ infsC l) (5 * (i + 1)) x.c = y.c ++ infsC (l.set i x)
    rw [← ih]
    unfold splice
    rw [show 5 * (i + 1) = y.c.length + 5 * i by simp [Inf.c]; omega, List.take_length_add_append, show y.c.length + 5 * i + x.c.length = y.c.length + (5 * i + x.c.length) by omega, ← List.drop_drop, List.drop_left]
    simp
/-- The lines of the table. -/
def tableT : List Inf := [
  ⟨0, [83, 84, 79, 80], 0, 0, 0⟩,
  ⟨1, [65, 68, 68], 2, 1, 3⟩,
  ⟨2, [77, 85, 76], 2, 1, 5⟩,
  ⟨3, [83, 85, 66], 2, 1, 3⟩,
  ⟨4, [68, 73, 86], 2, 1, 5⟩,
  ⟨5, [83, 68, 73, 86], 2, 1, 5⟩,
  ⟨6, [77, 79, 68], 2, 1, 5⟩,
  ⟨7, [83, 77, 79, 68], 2, 1, 5⟩,
  ⟨8, [65, 68, 68, 77, 79, 68], 3, 1, 8⟩,
  ⟨9, [77, 85, 76, 77, 79, 68], 3, 1, 8⟩,
  ⟨10, [69, 88, 80], 2, 1, 10⟩,
  ⟨11, [83, 73, 71, 78, 69, 88, 84, 69, 78, 68], 2, 1, 5⟩,
  ⟨16, [76, 84], 2, 1, 3⟩,
  ⟨17, [71, 84], 2, 1, 3⟩,
  ⟨18, [83, 76, 84], 2, 1, 3⟩,
  ⟨19, [83, 71, 84], 2, 1, 3⟩,
  ⟨20, [69, 81], 2, 1, 3⟩,
  ⟨21, [73, 83, 90, 69, 82, 79], 1, 1, 3⟩,
  ⟨22, [65, 78, 68], 2, 1, 3⟩,
  ⟨23, [79, 82], 2, 1, 3⟩,
  ⟨24, [88, 79, 82], 2, 1, 3⟩,
  ⟨25, [78, 79, 84], 1, 1, 3⟩,
  ⟨26, [66, 89, 84, 69], 2, 1, 3⟩,
  ⟨27, [83, 72, 76], 2, 1, 3⟩,
  ⟨28, [83, 72, 82], 2, 1, 3⟩,
  ⟨29, [83, 65, 82], 2, 1, 3⟩,
  ⟨32, [75, 69, 67, 67, 65, 75, 50, 53, 54], 2, 1, 30⟩,
  ⟨48, [65, 68, 68, 82, 69, 83, 83], 0, 1, 2⟩,
  ⟨49, [66, 65, 76, 65, 78, 67, 69], 1, 1, 700⟩,
  ⟨50, [79, 82, 73, 71, 73, 78], 0, 1, 2⟩,
  ⟨51, [67, 65, 76, 76, 69, 82], 0, 1, 2⟩,
  ⟨52, [67, 65, 76, 76, 86, 65, 76, 85, 69], 0, 1, 2⟩,
  ⟨53, [67, 65, 76, 76, 68, 65, 84, 65, 76, 79, 65, 68], 1, 1, 3⟩,
  ⟨54, [67, 65, 76, 76, 68, 65, 84, 65, 83, 73, 90, 69], 0, 1, 2⟩,
  ⟨55, [67, 65, 76, 76, 68, 65, 84, 65, 67, 79, 80, 89], 3, 0, 3⟩,
  ⟨56, [67, 79, 68, 69, 83, 73, 90, 69], 0, 1, 2⟩,
  ⟨57, [67, 79, 68, 69, 67, 79, 80, 89], 3, 0, 3⟩,
  ⟨59, [69, 88, 84, 67, 79, 68, 69, 83, 73, 90, 69], 1, 1, 700⟩,
  ⟨60, [69, 88, 84, 67, 79, 68, 69, 67, 79, 80, 89], 4, 0, 700⟩,
  ⟨61, [82, 69, 84, 85, 82, 78, 68, 65, 84, 65, 83, 73, 90, 69], 0, 1, 2⟩,
  ⟨62, [82, 69, 84, 85, 82, 78, 68, 65, 84, 65, 67, 79, 80, 89], 3, 0, 3⟩,
  ⟨63, [69, 88, 84, 67, 79, 68, 69, 72, 65, 83, 72], 1, 1, 700⟩,
  ⟨65, [67, 79, 73, 78, 66, 65, 83, 69], 0, 1, 2⟩,
  ⟨66, [84, 73, 77, 69, 83, 84, 65, 77, 80], 0, 1, 2⟩,
  ⟨67, [78, 85, 77, 66, 69, 82], 0, 1, 2⟩,
  ⟨69, [71, 65, 83, 76, 73, 77, 73, 84], 0, 1, 2⟩,
  ⟨70, [67, 72, 65, 73, 78, 73, 68], 0, 1, 2⟩,
  ⟨71, [83, 69, 76, 70, 66, 65, 76, 65, 78, 67, 69], 0, 1, 5⟩,
  ⟨80, [80, 79, 80], 1, 0, 2⟩,
  ⟨81, [77, 76, 79, 65, 68], 1, 1, 3⟩,
  ⟨82, [77, 83, 84, 79, 82, 69], 2, 0, 3⟩,
  ⟨83, [77, 83, 84, 79, 82, 69, 56], 2, 0, 3⟩,
  ⟨84, [83, 76, 79, 65, 68], 1, 1, 800⟩,
  ⟨85, [83, 83, 84, 79, 82, 69], 2, 0, 0⟩,
  ⟨86, [74, 85, 77, 80], 1, 0, 8⟩,
  ⟨87, [74, 85, 77, 80, 73], 2, 0, 10⟩,
  ⟨88, [80, 67], 0, 1, 2⟩,
  ⟨89, [77, 83, 73, 90, 69], 0, 1, 2⟩,
  ⟨90, [71, 65, 83], 0, 1, 2⟩,
  ⟨91, [74, 85, 77, 80, 68, 69, 83, 84], 0, 0, 1⟩,
  ⟨95, [80, 85, 83, 72, 48], 0, 1, 2⟩,
  ⟨240, [67, 82, 69, 65, 84, 69], 3, 1, 32000⟩,
  ⟨241, [67, 65, 76, 76], 7, 1, 700⟩,
  ⟨243, [82, 69, 84, 85, 82, 78], 2, 0, 0⟩,
  ⟨244, [68, 69, 76, 69, 71, 65, 84, 69, 67, 65, 76, 76], 6, 1, 700⟩,
  ⟨245, [67, 82, 69, 65, 84, 69, 50], 4, 1, 32000⟩,
  ⟨250, [83, 84, 65, 84, 73, 67, 67, 65, 76, 76], 6, 1, 700⟩,
  ⟨253, [82, 69, 86, 69, 82, 84], 2, 0, 0⟩,
  ⟨255, [83, 69, 76, 70, 68, 69, 83, 84, 82, 85, 67, 84], 1, 0, 5000⟩]
/-- What PUSH, DUP, SWAP, LOG are. -/
def rangesL (m : Nat) : Inf :=
  if 96 ≤ m ∧ m < 128 then ⟨m, nameL m, 0, 1, 3⟩ else
  if 128 ≤ m ∧ m < 144 then ⟨m, nameL m, m - 127, m - 126, 3⟩ else
  if 144 ≤ m ∧ m < 160 then ⟨m, nameL m, m - 142, m - 142, 3⟩ else
  if 160 ≤ m ∧ m < 165 then ⟨m, nameL m, m - 158, 0, 375 * (m - 159)⟩ else infZ
def rangesT (k : Nat) : List Inf := (List.range 256).map fun i => if i < k then rangesL i else infZ
def laidT (k : Nat) : List Inf := (tableT.take k).foldl (fun l x => l.set x.op.toNat x) (rangesT 256)
def infT : List Inf := laidT 69
theorem infT_len : infT.length = 256 := by decide +kernel
theorem infT_ok : ((List.range 256).all fun m => let x := infT[m]?.getD infZ; decide (x.name = nameL m) && decide (x.pops = Go.Proofs.YtaoacfkifcglfaaDoor.popsOf (costL m)) && decide (x.pushes = Go.Proofs.YtaoacfkifcglfaaDoor.pushesOf (costL m)) && decide (x.gas = Go.Proofs.YtaoacfkifcglfaaDoor.gasOf (costL m))) = true := by decide +kernel
end Go.Mun
namespace Go.Proofs.YtaoacfkifcglfaaDoor
open Go.RowKit Go.Mun
set_option maxRecDepth 100000 in
set_option maxHeartbeats 4000000 in
theorem ref_table (w : World) : Calls Tryd.prog 68 #[] w fun e w' => e = .returned (.slice (some ⟨w.heap.size, 0, none⟩) 69 69) ∧ w.alloc (.cells (infsC tableT).toArray 79) = w' := by
  obtain ⟨cs, hcs⟩ : ∃ cs, cs = infsC tableT := ⟨_, rfl⟩
  go_enter Tryd.func68, Tryd.ntmps68
  go_wp2_with (with_reducible refine wpList_bslice (o := ⟨some 70, _, _, _, _, _⟩) (e := 79) rfl rfl (infsC tableT) ?h1 ?_)
  case h1 => intro wx; kernel_rfl
  go_ret
  exact ⟨rfl, rfl⟩
end Go.Proofs.YtaoacfkifcglfaaDoor
