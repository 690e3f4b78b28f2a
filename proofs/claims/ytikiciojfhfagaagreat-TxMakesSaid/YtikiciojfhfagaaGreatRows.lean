/-
  No cell of these rows narrows 'for every input' (looked for: loops, veiled, ifaces, maps, wideKeys, modest, calm, conditions, laid).
  DERIVED. THE GIVEN ROWS OF THIS SEAT. 5 by the template 'for every input the law returns true; each argument reads behind the call as it read before'; 0 by the template 'total and deterministic' (their statements: YtikiciojfhfagaaGreatTotals.lean).
  GIVEN WITH THE SEED: the statements are not yours to turn. If you find one false, say at which input.
  Laid BY PROGRAM, IN A SANDBOX (cutbox-rows.mjs): the forced cells as the released guide's own fill.sh prints them over the translation 63aceec3da0ce96d… (all of the seat's roots in one cut). By AI agents, Wed Nov 11 2026. No macro, syntax, notation, axiom, sorry.
-/
import Derived.Test.YtikiciojfhfagaaGreatChecked
import GoSem.Claim
import GoSem.ClaimJoined
import GoSem.ClaimMapViews
import Derived.JoinedTies
import Derived.KernelRfl
namespace Go.Proofs.YtikiciojfhfagaaGreat
/- THE CELL 'sum', in the pinned program and in every row, IS THE sha256 OF THE DUMP (.gsa) THAT YtikiciojfhfagaaGreatProg.lean LOADS. Nothing in Lean hashes anything: it is a label: what it is worth is what the hold of that sum in a sandbox is worth. -/
noncomputable def Tryz.pinned : Pinned := { name := "ytikiciojfhfagaagreat", sum := "63aceec3da0ce96db195f03cc17329aa9e35da605c04553e1238b785d7fd5f21", checked := Tryz.checked }
namespace Rows
def none {H : Type} : Left H := { results := [], args := [] }

/-- 'munimentslaw15.EvmNames': WHATEVER THE INPUT: true; the input reads as it did. -/
def evmNamesSpec : ChangeSpec := { name := "evmNames", fn := fun _ => fun
  | [d1, d2, d3, d4] => { results := [.lit (.bool true)], args := [d1, d2, d3, d4] }
  | _ => none }
def evmNamesRow : OpenClaim := { program := "ytikiciojfhfagaagreat", sum := "63aceec3da0ce96db195f03cc17329aa9e35da605c04553e1238b785d7fd5f21", func := "muniments/munimentslaw15.EvmNames", spec := "evmNames", inPlace := ["math/bits.Add64", "math/bits.Sub64"], unfollowed := true, recurses := true, plainKeys := false, apart := false }
def EvmNamesSaid : Prop := evmNamesRow.holds Tryz.pinned (OpenSpec.ofChange evmNamesSpec)

/-- ITS FALSE NEIGHBOUR: 'it returns false'. Refute it at one input. -/
def evmNamesWrong : ChangeSpec := { name := "evmNames", fn := fun _ => fun
  | [d1, d2, d3, d4] => { results := [.lit (.bool false)], args := [d1, d2, d3, d4] }
  | _ => none }
def EvmNamesWrongFalsely : Prop := evmNamesRow.holds Tryz.pinned (OpenSpec.ofChange evmNamesWrong)

/-- 'munimentslaw16.TxPays': WHATEVER THE INPUT: true; the input reads as it did. -/
def txPaysSpec : ChangeSpec := { name := "txPays", fn := fun _ => fun
  | [d1, d2, d3] => { results := [.lit (.bool true)], args := [d1, d2, d3] }
  | _ => none }
def txPaysRow : OpenClaim := { program := "ytikiciojfhfagaagreat", sum := "63aceec3da0ce96db195f03cc17329aa9e35da605c04553e1238b785d7fd5f21", func := "muniments/munimentslaw16.TxPays", spec := "txPays", inPlace := ["math/bits.Sub64", "math/bits.Add64"], unfollowed := true, recurses := true, plainKeys := false, apart := false }
def TxPaysSaid : Prop := txPaysRow.holds Tryz.pinned (OpenSpec.ofChange txPaysSpec)

/-- ITS FALSE NEIGHBOUR: 'it returns false'. Refute it at one input. -/
def txPaysWrong : ChangeSpec := { name := "txPays", fn := fun _ => fun
  | [d1, d2, d3] => { results := [.lit (.bool false)], args := [d1, d2, d3] }
  | _ => none }
def TxPaysWrongFalsely : Prop := txPaysRow.holds Tryz.pinned (OpenSpec.ofChange txPaysWrong)

/-- 'munimentslaw16.TxMakes': WHATEVER THE INPUT: true; the input reads as it did. -/
def txMakesSpec : ChangeSpec := { name := "txMakes", fn := fun _ => fun
  | [d1, d2] => { results := [.lit (.bool true)], args := [d1, d2] }
  | _ => none }
def txMakesRow : OpenClaim := { program := "ytikiciojfhfagaagreat", sum := "63aceec3da0ce96db195f03cc17329aa9e35da605c04553e1238b785d7fd5f21", func := "muniments/munimentslaw16.TxMakes", spec := "txMakes", inPlace := ["math/bits.Sub64", "math/bits.Add64"], unfollowed := true, recurses := true, plainKeys := false, apart := false }
def TxMakesSaid : Prop := txMakesRow.holds Tryz.pinned (OpenSpec.ofChange txMakesSpec)

/-- ITS FALSE NEIGHBOUR: 'it returns false'. Refute it at one input. -/
def txMakesWrong : ChangeSpec := { name := "txMakes", fn := fun _ => fun
  | [d1, d2] => { results := [.lit (.bool false)], args := [d1, d2] }
  | _ => none }
def TxMakesWrongFalsely : Prop := txMakesRow.holds Tryz.pinned (OpenSpec.ofChange txMakesWrong)

/-- 'munimentslaw16.TxReads': WHATEVER THE INPUT: true; the input reads as it did. -/
def txReadsSpec : ChangeSpec := { name := "txReads", fn := fun _ => fun
  | [d] => { results := [.lit (.bool true)], args := [d] }
  | _ => none }
def txReadsRow : OpenClaim := { program := "ytikiciojfhfagaagreat", sum := "63aceec3da0ce96db195f03cc17329aa9e35da605c04553e1238b785d7fd5f21", func := "muniments/munimentslaw16.TxReads", spec := "txReads", inPlace := ["math/bits.Sub64", "math/bits.Add64"], unfollowed := true, recurses := true, plainKeys := false, apart := false }
def TxReadsSaid : Prop := txReadsRow.holds Tryz.pinned (OpenSpec.ofChange txReadsSpec)

/-- ITS FALSE NEIGHBOUR: 'it returns false'. Refute it at one input. -/
def txReadsWrong : ChangeSpec := { name := "txReads", fn := fun _ => fun
  | [d] => { results := [.lit (.bool false)], args := [d] }
  | _ => none }
def TxReadsWrongFalsely : Prop := txReadsRow.holds Tryz.pinned (OpenSpec.ofChange txReadsWrong)

/-- 'munimentslaw16.TxPacks': WHATEVER THE INPUT: true; the input reads as it did. -/
def txPacksSpec : ChangeSpec := { name := "txPacks", fn := fun _ => fun
  | [d] => { results := [.lit (.bool true)], args := [d] }
  | _ => none }
def txPacksRow : OpenClaim := { program := "ytikiciojfhfagaagreat", sum := "63aceec3da0ce96db195f03cc17329aa9e35da605c04553e1238b785d7fd5f21", func := "muniments/munimentslaw16.TxPacks", spec := "txPacks", inPlace := ["math/bits.Sub64", "math/bits.Add64"], unfollowed := true, recurses := true, plainKeys := false, apart := false }
def TxPacksSaid : Prop := txPacksRow.holds Tryz.pinned (OpenSpec.ofChange txPacksSpec)

/-- ITS FALSE NEIGHBOUR: 'it returns false'. Refute it at one input. -/
def txPacksWrong : ChangeSpec := { name := "txPacks", fn := fun _ => fun
  | [d] => { results := [.lit (.bool false)], args := [d] }
  | _ => none }
def TxPacksWrongFalsely : Prop := txPacksRow.holds Tryz.pinned (OpenSpec.ofChange txPacksWrong)

/- THE SECOND FORM. 'bulk': how many values and letters a reading holds, each counted each time it is reached (what is shared counts as often as it is met; a slice's spare places count too). A statement '..UptoSaid' is the law's where the arguments, and the package variables that the reading takes, are together of bulk at most 1048576: NARROWER than '..Said'. Prove '..Said' where nothing that the law and all that it calls make is longer than what came in: it says more and counts as full. Else prove '..UptoSaid'. A law counts once. -/
mutual
def uptoBulk {H : Type} : DataW H → Nat
  | .lit (.string bytes) => bytes.length + 1
  | .lit _ => 1
  | .nil => 1
  | .ptr d => uptoBulk d + 1
  | .slice elems spare => uptoBulkAll elems + uptoBulkAll spare + 1
  | .agg parts => uptoBulkAll parts + 1
  | .iface _ d => uptoBulk d + 1
  | .map entries => uptoBulkEntries entries + 1
  | .held _ => 1
def uptoBulkAll {H : Type} : List (DataW H) → Nat
  | [] => 0
  | d :: r => uptoBulk d + uptoBulkAll r
def uptoBulkEntries {H : Type} : List (Lit × DataW H) → Nat
  | [] => 0
  | x :: r => uptoBulkEntry x + uptoBulkEntries r
def uptoBulkEntry {H : Type} : Lit × DataW H → Nat
  | (.string bytes, d) => bytes.length + uptoBulk d + 1
  | (_, d) => uptoBulk d + 1
 end
def uptoSmall : (H : Type) → List (DataW H) → Bool := fun _ ds => decide (uptoBulkAll ds ≤ 1048576)
def OpenSpec.upto (s : _root_.Go.ChangeSpec) : _root_.Go.OpenSpec := { _root_.Go.OpenSpec.ofChange s with cond := some uptoSmall }

/-- 'munimentslaw15.EvmNames', WHERE WHAT IT READS IS OF BULK AT MOST 1048576: true; the input reads as it did. -/
def evmNamesUptoRow : OpenClaim := { program := "ytikiciojfhfagaagreat", sum := "63aceec3da0ce96db195f03cc17329aa9e35da605c04553e1238b785d7fd5f21", func := "muniments/munimentslaw15.EvmNames", spec := "evmNames", inPlace := ["math/bits.Add64", "math/bits.Sub64"], unfollowed := true, recurses := true, plainKeys := false, apart := false, narrowed := true }
def EvmNamesUptoSaid : Prop := evmNamesUptoRow.holds Tryz.pinned (OpenSpec.upto evmNamesSpec)

/-- 'munimentslaw16.TxPays', WHERE WHAT IT READS IS OF BULK AT MOST 1048576: true; the input reads as it did. -/
def txPaysUptoRow : OpenClaim := { program := "ytikiciojfhfagaagreat", sum := "63aceec3da0ce96db195f03cc17329aa9e35da605c04553e1238b785d7fd5f21", func := "muniments/munimentslaw16.TxPays", spec := "txPays", inPlace := ["math/bits.Sub64", "math/bits.Add64"], unfollowed := true, recurses := true, plainKeys := false, apart := false, narrowed := true }
def TxPaysUptoSaid : Prop := txPaysUptoRow.holds Tryz.pinned (OpenSpec.upto txPaysSpec)

/-- 'munimentslaw16.TxMakes', WHERE WHAT IT READS IS OF BULK AT MOST 1048576: true; the input reads as it did. -/
def txMakesUptoRow : OpenClaim := { program := "ytikiciojfhfagaagreat", sum := "63aceec3da0ce96db195f03cc17329aa9e35da605c04553e1238b785d7fd5f21", func := "muniments/munimentslaw16.TxMakes", spec := "txMakes", inPlace := ["math/bits.Sub64", "math/bits.Add64"], unfollowed := true, recurses := true, plainKeys := false, apart := false, narrowed := true }
def TxMakesUptoSaid : Prop := txMakesUptoRow.holds Tryz.pinned (OpenSpec.upto txMakesSpec)

/-- 'munimentslaw16.TxReads', WHERE WHAT IT READS IS OF BULK AT MOST 1048576: true; the input reads as it did. -/
def txReadsUptoRow : OpenClaim := { program := "ytikiciojfhfagaagreat", sum := "63aceec3da0ce96db195f03cc17329aa9e35da605c04553e1238b785d7fd5f21", func := "muniments/munimentslaw16.TxReads", spec := "txReads", inPlace := ["math/bits.Sub64", "math/bits.Add64"], unfollowed := true, recurses := true, plainKeys := false, apart := false, narrowed := true }
def TxReadsUptoSaid : Prop := txReadsUptoRow.holds Tryz.pinned (OpenSpec.upto txReadsSpec)

/-- 'munimentslaw16.TxPacks', WHERE WHAT IT READS IS OF BULK AT MOST 1048576: true; the input reads as it did. -/
def txPacksUptoRow : OpenClaim := { program := "ytikiciojfhfagaagreat", sum := "63aceec3da0ce96db195f03cc17329aa9e35da605c04553e1238b785d7fd5f21", func := "muniments/munimentslaw16.TxPacks", spec := "txPacks", inPlace := ["math/bits.Sub64", "math/bits.Add64"], unfollowed := true, recurses := true, plainKeys := false, apart := false, narrowed := true }
def TxPacksUptoSaid : Prop := txPacksUptoRow.holds Tryz.pinned (OpenSpec.upto txPacksSpec)

end Rows
end Go.Proofs.YtikiciojfhfagaaGreat
