/-
  No cell of these rows narrows 'for every input' (looked for: loops, veiled, ifaces, maps, wideKeys, modest, calm, conditions, laid).
  DERIVED. THE GIVEN ROWS OF THIS SEAT. 5 by the template 'for every input the law returns true; each argument reads behind the call as it read before'; 0 by the template 'total and deterministic' (their statements: YtiglinnjnobodaaGreatTotals.lean).
  GIVEN WITH THE SEED: the statements are not yours to turn. If you find one false, say at which input.
  Laid BY PROGRAM, IN A SANDBOX (cutbox-rows.mjs): the forced cells as the released guide's own fill.sh prints them over the translation a1f4c862d18cee4e… (all of the seat's roots in one cut). By AI agents, Wed Nov 11 2026. No macro, syntax, notation, axiom, sorry.
-/
import Derived.Test.YtiglinnjnobodaaGreatChecked
import GoSem.Claim
import GoSem.ClaimJoined
import GoSem.ClaimMapViews
import Derived.JoinedTies
import Derived.KernelRfl
namespace Go.Proofs.YtiglinnjnobodaaGreat
/- THE CELL 'sum', in the pinned program and in every row, IS THE sha256 OF THE DUMP (.gsa) THAT YtiglinnjnobodaaGreatProg.lean LOADS. Nothing in Lean hashes anything: it is a label: what it is worth is what the hold of that sum in a sandbox is worth. -/
noncomputable def Tryz.pinned : Pinned := { name := "ytiglinnjnobodaagreat", sum := "a1f4c862d18cee4e2feb7ffccc1890b47bafca0e8544025e4b68a0a4fd1e86cc", checked := Tryz.checked }
namespace Rows
def none {H : Type} : Left H := { results := [], args := [] }

/-- 'munimentslaw15.EvmNames': WHATEVER THE INPUT: true; the input reads as it did. -/
def evmNamesSpec : ChangeSpec := { name := "evmNames", fn := fun _ => fun
  | [d1, d2, d3, d4] => { results := [.lit (.bool true)], args := [d1, d2, d3, d4] }
  | _ => none }
def evmNamesRow : OpenClaim := { program := "ytiglinnjnobodaagreat", sum := "a1f4c862d18cee4e2feb7ffccc1890b47bafca0e8544025e4b68a0a4fd1e86cc", func := "muniments/munimentslaw15.EvmNames", spec := "evmNames", inPlace := ["math/bits.Add64", "math/bits.Sub64"], unfollowed := true, recurses := true, plainKeys := false, apart := false }
def EvmNamesSaid : Prop := evmNamesRow.holds Tryz.pinned (OpenSpec.ofChange evmNamesSpec)

/-- ITS FALSE NEIGHBOUR: 'it returns false'. Refute it at one input. -/
def evmNamesWrong : ChangeSpec := { name := "evmNames", fn := fun _ => fun
  | [d1, d2, d3, d4] => { results := [.lit (.bool false)], args := [d1, d2, d3, d4] }
  | _ => none }
def EvmNamesWrongFalsely : Prop := evmNamesRow.holds Tryz.pinned (OpenSpec.ofChange evmNamesWrong)

/-- 'munimentslaw16.TxFails': WHATEVER THE INPUT: true; the input reads as it did. -/
def txFailsSpec : ChangeSpec := { name := "txFails", fn := fun _ => fun
  | [d1, d2, d3] => { results := [.lit (.bool true)], args := [d1, d2, d3] }
  | _ => none }
def txFailsRow : OpenClaim := { program := "ytiglinnjnobodaagreat", sum := "a1f4c862d18cee4e2feb7ffccc1890b47bafca0e8544025e4b68a0a4fd1e86cc", func := "muniments/munimentslaw16.TxFails", spec := "txFails", inPlace := ["math/bits.Sub64", "math/bits.Add64"], unfollowed := true, recurses := true, plainKeys := false, apart := false }
def TxFailsSaid : Prop := txFailsRow.holds Tryz.pinned (OpenSpec.ofChange txFailsSpec)

/-- ITS FALSE NEIGHBOUR: 'it returns false'. Refute it at one input. -/
def txFailsWrong : ChangeSpec := { name := "txFails", fn := fun _ => fun
  | [d1, d2, d3] => { results := [.lit (.bool false)], args := [d1, d2, d3] }
  | _ => none }
def TxFailsWrongFalsely : Prop := txFailsRow.holds Tryz.pinned (OpenSpec.ofChange txFailsWrong)

/-- 'munimentslaw15.EvmDeep': WHATEVER THE INPUT: true; the input reads as it did. -/
def evmDeepSpec : ChangeSpec := { name := "evmDeep", fn := fun _ => fun
  | [d] => { results := [.lit (.bool true)], args := [d] }
  | _ => none }
def evmDeepRow : OpenClaim := { program := "ytiglinnjnobodaagreat", sum := "a1f4c862d18cee4e2feb7ffccc1890b47bafca0e8544025e4b68a0a4fd1e86cc", func := "muniments/munimentslaw15.EvmDeep", spec := "evmDeep", inPlace := ["math/bits.Add64", "math/bits.Sub64", "internal/bytealg.Compare"], unfollowed := true, recurses := true, plainKeys := false, apart := false }
def EvmDeepSaid : Prop := evmDeepRow.holds Tryz.pinned (OpenSpec.ofChange evmDeepSpec)

/-- ITS FALSE NEIGHBOUR: 'it returns false'. Refute it at one input. -/
def evmDeepWrong : ChangeSpec := { name := "evmDeep", fn := fun _ => fun
  | [d] => { results := [.lit (.bool false)], args := [d] }
  | _ => none }
def EvmDeepWrongFalsely : Prop := evmDeepRow.holds Tryz.pinned (OpenSpec.ofChange evmDeepWrong)

/-- 'munimentslaw15.EvmFunds': WHATEVER THE INPUT: true; the input reads as it did. -/
def evmFundsSpec : ChangeSpec := { name := "evmFunds", fn := fun _ => fun
  | [d] => { results := [.lit (.bool true)], args := [d] }
  | _ => none }
def evmFundsRow : OpenClaim := { program := "ytiglinnjnobodaagreat", sum := "a1f4c862d18cee4e2feb7ffccc1890b47bafca0e8544025e4b68a0a4fd1e86cc", func := "muniments/munimentslaw15.EvmFunds", spec := "evmFunds", inPlace := ["math/bits.Add64", "math/bits.Sub64", "internal/bytealg.Compare"], unfollowed := true, recurses := true, plainKeys := false, apart := false }
def EvmFundsSaid : Prop := evmFundsRow.holds Tryz.pinned (OpenSpec.ofChange evmFundsSpec)

/-- ITS FALSE NEIGHBOUR: 'it returns false'. Refute it at one input. -/
def evmFundsWrong : ChangeSpec := { name := "evmFunds", fn := fun _ => fun
  | [d] => { results := [.lit (.bool false)], args := [d] }
  | _ => none }
def EvmFundsWrongFalsely : Prop := evmFundsRow.holds Tryz.pinned (OpenSpec.ofChange evmFundsWrong)

/-- 'munimentslaw16.TxWrong': WHATEVER THE INPUT: true; the input reads as it did. -/
def txWrongSpec : ChangeSpec := { name := "txWrong", fn := fun _ => fun
  | [d1, d2] => { results := [.lit (.bool true)], args := [d1, d2] }
  | _ => none }
def txWrongRow : OpenClaim := { program := "ytiglinnjnobodaagreat", sum := "a1f4c862d18cee4e2feb7ffccc1890b47bafca0e8544025e4b68a0a4fd1e86cc", func := "muniments/munimentslaw16.TxWrong", spec := "txWrong", inPlace := ["math/bits.Sub64", "math/bits.Add64", "internal/bytealg.Compare"], unfollowed := true, recurses := true, plainKeys := false, apart := false }
def TxWrongSaid : Prop := txWrongRow.holds Tryz.pinned (OpenSpec.ofChange txWrongSpec)

/-- ITS FALSE NEIGHBOUR: 'it returns false'. Refute it at one input. -/
def txWrongWrong : ChangeSpec := { name := "txWrong", fn := fun _ => fun
  | [d1, d2] => { results := [.lit (.bool false)], args := [d1, d2] }
  | _ => none }
def TxWrongWrongFalsely : Prop := txWrongRow.holds Tryz.pinned (OpenSpec.ofChange txWrongWrong)

/- THE SECOND FORM. 'bulk': how many values and letters a reading holds, each counted each time it is reached (what is shared counts as often as it is met; a slice's spare places count too). A statement '..UptoSaid' is the law's where the arguments, and the package variables that the reading takes, are together of bulk at most 1048576: NARROWER than '..Said'. Prove '..Said' where nothing that the law and all that it calls make is longer than what came in: it says more and counts as full. Else prove '..UptoSaid'. A law counts once. -/
mutual
def uptoBulk {H : Type} : DataW H → Nat
  | .lit (.string bytes) => bytes.length + 1
  | .lit _ => 1
  | .nil => 1
  | .ptr d => uptoBulk d + 1
  | .slice elems spare => uptoBulkAll elems + uptoBulkAll spare + 1
  | .agg parts => uptoBulkAll parts + 1
  | .iface _ d => uptoBulk d + 1
  | .map entries => uptoBulkEntries entries + 1
  | .held _ => 1
def uptoBulkAll {H : Type} : List (DataW H) → Nat
  | [] => 0
  | d :: r => uptoBulk d + uptoBulkAll r
def uptoBulkEntries {H : Type} : List (Lit × DataW H) → Nat
  | [] => 0
  | x :: r => uptoBulkEntry x + uptoBulkEntries r
def uptoBulkEntry {H : Type} : Lit × DataW H → Nat
  | (.string bytes, d) => bytes.length + uptoBulk d + 1
  | (_, d) => uptoBulk d + 1
 end
def uptoSmall : (H : Type) → List (DataW H) → Bool := fun _ ds => decide (uptoBulkAll ds ≤ 1048576)
def OpenSpec.upto (s : _root_.Go.ChangeSpec) : _root_.Go.OpenSpec := { _root_.Go.OpenSpec.ofChange s with cond := some uptoSmall }

/-- 'munimentslaw15.EvmNames', WHERE WHAT IT READS IS OF BULK AT MOST 1048576: true; the input reads as it did. -/
def evmNamesUptoRow : OpenClaim := { program := "ytiglinnjnobodaagreat", sum := "a1f4c862d18cee4e2feb7ffccc1890b47bafca0e8544025e4b68a0a4fd1e86cc", func := "muniments/munimentslaw15.EvmNames", spec := "evmNames", inPlace := ["math/bits.Add64", "math/bits.Sub64"], unfollowed := true, recurses := true, plainKeys := false, apart := false, narrowed := true }
def EvmNamesUptoSaid : Prop := evmNamesUptoRow.holds Tryz.pinned (OpenSpec.upto evmNamesSpec)

/-- 'munimentslaw16.TxFails', WHERE WHAT IT READS IS OF BULK AT MOST 1048576: true; the input reads as it did. -/
def txFailsUptoRow : OpenClaim := { program := "ytiglinnjnobodaagreat", sum := "a1f4c862d18cee4e2feb7ffccc1890b47bafca0e8544025e4b68a0a4fd1e86cc", func := "muniments/munimentslaw16.TxFails", spec := "txFails", inPlace := ["math/bits.Sub64", "math/bits.Add64"], unfollowed := true, recurses := true, plainKeys := false, apart := false, narrowed := true }
def TxFailsUptoSaid : Prop := txFailsUptoRow.holds Tryz.pinned (OpenSpec.upto txFailsSpec)

/-- 'munimentslaw15.EvmDeep', WHERE WHAT IT READS IS OF BULK AT MOST 1048576: true; the input reads as it did. -/
def evmDeepUptoRow : OpenClaim := { program := "ytiglinnjnobodaagreat", sum := "a1f4c862d18cee4e2feb7ffccc1890b47bafca0e8544025e4b68a0a4fd1e86cc", func := "muniments/munimentslaw15.EvmDeep", spec := "evmDeep", inPlace := ["math/bits.Add64", "math/bits.Sub64", "internal/bytealg.Compare"], unfollowed := true, recurses := true, plainKeys := false, apart := false, narrowed := true }
def EvmDeepUptoSaid : Prop := evmDeepUptoRow.holds Tryz.pinned (OpenSpec.upto evmDeepSpec)

/-- 'munimentslaw15.EvmFunds', WHERE WHAT IT READS IS OF BULK AT MOST 1048576: true; the input reads as it did. -/
def evmFundsUptoRow : OpenClaim := { program := "ytiglinnjnobodaagreat", sum := "a1f4c862d18cee4e2feb7ffccc1890b47bafca0e8544025e4b68a0a4fd1e86cc", func := "muniments/munimentslaw15.EvmFunds", spec := "evmFunds", inPlace := ["math/bits.Add64", "math/bits.Sub64", "internal/bytealg.Compare"], unfollowed := true, recurses := true, plainKeys := false, apart := false, narrowed := true }
def EvmFundsUptoSaid : Prop := evmFundsUptoRow.holds Tryz.pinned (OpenSpec.upto evmFundsSpec)

/-- 'munimentslaw16.TxWrong', WHERE WHAT IT READS IS OF BULK AT MOST 1048576: true; the input reads as it did. -/
def txWrongUptoRow : OpenClaim := { program := "ytiglinnjnobodaagreat", sum := "a1f4c862d18cee4e2feb7ffccc1890b47bafca0e8544025e4b68a0a4fd1e86cc", func := "muniments/munimentslaw16.TxWrong", spec := "txWrong", inPlace := ["math/bits.Sub64", "math/bits.Add64", "internal/bytealg.Compare"], unfollowed := true, recurses := true, plainKeys := false, apart := false, narrowed := true }
def TxWrongUptoSaid : Prop := txWrongUptoRow.holds Tryz.pinned (OpenSpec.upto txWrongSpec)

end Rows
end Go.Proofs.YtiglinnjnobodaaGreat
