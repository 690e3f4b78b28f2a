/-
  No cell of these rows narrows 'for every input' (looked for: loops, veiled, ifaces, maps, wideKeys, modest, calm, conditions, laid).
  DERIVED. THE GIVEN ROWS OF THIS SEAT. 5 by the template 'for every input the law returns true; each argument reads behind the call as it read before'; 0 by the template 'total and deterministic' (their statements: YtfflppedbopdpaaGreatTotals.lean).
  GIVEN WITH THE SEED: the statements are not yours to turn. If you find one false, say at which input.
  Laid BY PROGRAM, IN A SANDBOX (cutbox-rows.mjs): the forced cells as the released guide's own fill.sh prints them over the translation 16959408266eb48b… (all of the seat's roots in one cut). By AI agents, Wed Nov 11 2026. No macro, syntax, notation, axiom, sorry.
-/
import Derived.Test.YtfflppedbopdpaaGreatChecked
import GoSem.Claim
import GoSem.ClaimJoined
import GoSem.ClaimMapViews
import Derived.JoinedTies
import Derived.KernelRfl
namespace Go.Proofs.YtfflppedbopdpaaGreat
/- THE CELL 'sum', in the pinned program and in every row, IS THE sha256 OF THE DUMP (.gsa) THAT YtfflppedbopdpaaGreatProg.lean LOADS. Nothing in Lean hashes anything: it is a label: what it is worth is what the hold of that sum in a sandbox is worth. -/
noncomputable def Tryz.pinned : Pinned := { name := "ytfflppedbopdpaagreat", sum := "16959408266eb48b495717dca8da131c7c6f7de9e21df807ea71ed300437c575", checked := Tryz.checked }
namespace Rows
def none {H : Type} : Left H := { results := [], args := [] }

/-- 'munimentslaw15.EvmNames': WHATEVER THE INPUT: true; the input reads as it did. -/
def evmNamesSpec : ChangeSpec := { name := "evmNames", fn := fun _ => fun
  | [d1, d2, d3, d4] => { results := [.lit (.bool true)], args := [d1, d2, d3, d4] }
  | _ => none }
def evmNamesRow : OpenClaim := { program := "ytfflppedbopdpaagreat", sum := "16959408266eb48b495717dca8da131c7c6f7de9e21df807ea71ed300437c575", func := "muniments/munimentslaw15.EvmNames", spec := "evmNames", inPlace := ["math/bits.Add64", "math/bits.Sub64"], unfollowed := true, recurses := true, plainKeys := false, apart := false }
def EvmNamesSaid : Prop := evmNamesRow.holds Tryz.pinned (OpenSpec.ofChange evmNamesSpec)

/-- ITS FALSE NEIGHBOUR: 'it returns false'. Refute it at one input. -/
def evmNamesWrong : ChangeSpec := { name := "evmNames", fn := fun _ => fun
  | [d1, d2, d3, d4] => { results := [.lit (.bool false)], args := [d1, d2, d3, d4] }
  | _ => none }
def EvmNamesWrongFalsely : Prop := evmNamesRow.holds Tryz.pinned (OpenSpec.ofChange evmNamesWrong)

/-- 'munimentslaw15.EvmClashes': WHATEVER THE INPUT: true; the input reads as it did. -/
def evmClashesSpec : ChangeSpec := { name := "evmClashes", fn := fun _ => fun
  | [d1, d2] => { results := [.lit (.bool true)], args := [d1, d2] }
  | _ => none }
def evmClashesRow : OpenClaim := { program := "ytfflppedbopdpaagreat", sum := "16959408266eb48b495717dca8da131c7c6f7de9e21df807ea71ed300437c575", func := "muniments/munimentslaw15.EvmClashes", spec := "evmClashes", inPlace := ["math/bits.Add64", "math/bits.Sub64", "internal/bytealg.Compare"], unfollowed := true, recurses := true, plainKeys := false, apart := false }
def EvmClashesSaid : Prop := evmClashesRow.holds Tryz.pinned (OpenSpec.ofChange evmClashesSpec)

/-- ITS FALSE NEIGHBOUR: 'it returns false'. Refute it at one input. -/
def evmClashesWrong : ChangeSpec := { name := "evmClashes", fn := fun _ => fun
  | [d1, d2] => { results := [.lit (.bool false)], args := [d1, d2] }
  | _ => none }
def EvmClashesWrongFalsely : Prop := evmClashesRow.holds Tryz.pinned (OpenSpec.ofChange evmClashesWrong)

/-- 'munimentslaw15.EvmLoops': WHATEVER THE INPUT: true; the input reads as it did. -/
def evmLoopsSpec : ChangeSpec := { name := "evmLoops", fn := fun _ => fun
  | [d1, d2] => { results := [.lit (.bool true)], args := [d1, d2] }
  | _ => none }
def evmLoopsRow : OpenClaim := { program := "ytfflppedbopdpaagreat", sum := "16959408266eb48b495717dca8da131c7c6f7de9e21df807ea71ed300437c575", func := "muniments/munimentslaw15.EvmLoops", spec := "evmLoops", inPlace := ["math/bits.Add64", "math/bits.Sub64", "internal/bytealg.Compare"], unfollowed := true, recurses := true, plainKeys := false, apart := false }
def EvmLoopsSaid : Prop := evmLoopsRow.holds Tryz.pinned (OpenSpec.ofChange evmLoopsSpec)

/-- ITS FALSE NEIGHBOUR: 'it returns false'. Refute it at one input. -/
def evmLoopsWrong : ChangeSpec := { name := "evmLoops", fn := fun _ => fun
  | [d1, d2] => { results := [.lit (.bool false)], args := [d1, d2] }
  | _ => none }
def EvmLoopsWrongFalsely : Prop := evmLoopsRow.holds Tryz.pinned (OpenSpec.ofChange evmLoopsWrong)

/-- 'munimentslaw15.EvmEnds': WHATEVER THE INPUT: true; the input reads as it did. -/
def evmEndsSpec : ChangeSpec := { name := "evmEnds", fn := fun _ => fun
  | [d] => { results := [.lit (.bool true)], args := [d] }
  | _ => none }
def evmEndsRow : OpenClaim := { program := "ytfflppedbopdpaagreat", sum := "16959408266eb48b495717dca8da131c7c6f7de9e21df807ea71ed300437c575", func := "muniments/munimentslaw15.EvmEnds", spec := "evmEnds", inPlace := ["math/bits.Add64", "math/bits.Sub64", "internal/bytealg.Compare"], unfollowed := true, recurses := true, plainKeys := false, apart := false }
def EvmEndsSaid : Prop := evmEndsRow.holds Tryz.pinned (OpenSpec.ofChange evmEndsSpec)

/-- ITS FALSE NEIGHBOUR: 'it returns false'. Refute it at one input. -/
def evmEndsWrong : ChangeSpec := { name := "evmEnds", fn := fun _ => fun
  | [d] => { results := [.lit (.bool false)], args := [d] }
  | _ => none }
def EvmEndsWrongFalsely : Prop := evmEndsRow.holds Tryz.pinned (OpenSpec.ofChange evmEndsWrong)

/-- 'munimentslaw15.EvmLogs': WHATEVER THE INPUT: true; the input reads as it did. -/
def evmLogsSpec : ChangeSpec := { name := "evmLogs", fn := fun _ => fun
  | [d1, d2, d3, d4] => { results := [.lit (.bool true)], args := [d1, d2, d3, d4] }
  | _ => none }
def evmLogsRow : OpenClaim := { program := "ytfflppedbopdpaagreat", sum := "16959408266eb48b495717dca8da131c7c6f7de9e21df807ea71ed300437c575", func := "muniments/munimentslaw15.EvmLogs", spec := "evmLogs", inPlace := ["math/bits.Add64", "math/bits.Sub64", "internal/bytealg.Compare"], unfollowed := true, recurses := true, plainKeys := false, apart := false }
def EvmLogsSaid : Prop := evmLogsRow.holds Tryz.pinned (OpenSpec.ofChange evmLogsSpec)

/-- ITS FALSE NEIGHBOUR: 'it returns false'. Refute it at one input. -/
def evmLogsWrong : ChangeSpec := { name := "evmLogs", fn := fun _ => fun
  | [d1, d2, d3, d4] => { results := [.lit (.bool false)], args := [d1, d2, d3, d4] }
  | _ => none }
def EvmLogsWrongFalsely : Prop := evmLogsRow.holds Tryz.pinned (OpenSpec.ofChange evmLogsWrong)

/- THE SECOND FORM. 'bulk': how many values and letters a reading holds, each counted each time it is reached (what is shared counts as often as it is met; a slice's spare places count too). A statement '..UptoSaid' is the law's where the arguments, and the package variables that the reading takes, are together of bulk at most 1048576: NARROWER than '..Said'. Prove '..Said' where nothing that the law and all that it calls make is longer than what came in: it says more and counts as full. Else prove '..UptoSaid'. A law counts once. -/
mutual
def uptoBulk {H : Type} : DataW H → Nat
  | .lit (.string bytes) => bytes.length + 1
  | .lit _ => 1
  | .nil => 1
  | .ptr d => uptoBulk d + 1
  | .slice elems spare => uptoBulkAll elems + uptoBulkAll spare + 1
  | .agg parts => uptoBulkAll parts + 1
  | .iface _ d => uptoBulk d + 1
  | .map entries => uptoBulkEntries entries + 1
  | .held _ => 1
def uptoBulkAll {H : Type} : List (DataW H) → Nat
  | [] => 0
  | d :: r => uptoBulk d + uptoBulkAll r
def uptoBulkEntries {H : Type} : List (Lit × DataW H) → Nat
  | [] => 0
  | x :: r => uptoBulkEntry x + uptoBulkEntries r
def uptoBulkEntry {H : Type} : Lit × DataW H → Nat
  | (.string bytes, d) => bytes.length + uptoBulk d + 1
  | (_, d) => uptoBulk d + 1
 end
def uptoSmall : (H : Type) → List (DataW H) → Bool := fun _ ds => decide (uptoBulkAll ds ≤ 1048576)
def OpenSpec.upto (s : _root_.Go.ChangeSpec) : _root_.Go.OpenSpec := { _root_.Go.OpenSpec.ofChange s with cond := some uptoSmall }

/-- 'munimentslaw15.EvmNames', WHERE WHAT IT READS IS OF BULK AT MOST 1048576: true; the input reads as it did. -/
def evmNamesUptoRow : OpenClaim := { program := "ytfflppedbopdpaagreat", sum := "16959408266eb48b495717dca8da131c7c6f7de9e21df807ea71ed300437c575", func := "muniments/munimentslaw15.EvmNames", spec := "evmNames", inPlace := ["math/bits.Add64", "math/bits.Sub64"], unfollowed := true, recurses := true, plainKeys := false, apart := false, narrowed := true }
def EvmNamesUptoSaid : Prop := evmNamesUptoRow.holds Tryz.pinned (OpenSpec.upto evmNamesSpec)

/-- 'munimentslaw15.EvmClashes', WHERE WHAT IT READS IS OF BULK AT MOST 1048576: true; the input reads as it did. -/
def evmClashesUptoRow : OpenClaim := { program := "ytfflppedbopdpaagreat", sum := "16959408266eb48b495717dca8da131c7c6f7de9e21df807ea71ed300437c575", func := "muniments/munimentslaw15.EvmClashes", spec := "evmClashes", inPlace := ["math/bits.Add64", "math/bits.Sub64", "internal/bytealg.Compare"], unfollowed := true, recurses := true, plainKeys := false, apart := false, narrowed := true }
def EvmClashesUptoSaid : Prop := evmClashesUptoRow.holds Tryz.pinned (OpenSpec.upto evmClashesSpec)

/-- 'munimentslaw15.EvmLoops', WHERE WHAT IT READS IS OF BULK AT MOST 1048576: true; the input reads as it did. -/
def evmLoopsUptoRow : OpenClaim := { program := "ytfflppedbopdpaagreat", sum := "16959408266eb48b495717dca8da131c7c6f7de9e21df807ea71ed300437c575", func := "muniments/munimentslaw15.EvmLoops", spec := "evmLoops", inPlace := ["math/bits.Add64", "math/bits.Sub64", "internal/bytealg.Compare"], unfollowed := true, recurses := true, plainKeys := false, apart := false, narrowed := true }
def EvmLoopsUptoSaid : Prop := evmLoopsUptoRow.holds Tryz.pinned (OpenSpec.upto evmLoopsSpec)

/-- 'munimentslaw15.EvmEnds', WHERE WHAT IT READS IS OF BULK AT MOST 1048576: true; the input reads as it did. -/
def evmEndsUptoRow : OpenClaim := { program := "ytfflppedbopdpaagreat", sum := "16959408266eb48b495717dca8da131c7c6f7de9e21df807ea71ed300437c575", func := "muniments/munimentslaw15.EvmEnds", spec := "evmEnds", inPlace := ["math/bits.Add64", "math/bits.Sub64", "internal/bytealg.Compare"], unfollowed := true, recurses := true, plainKeys := false, apart := false, narrowed := true }
def EvmEndsUptoSaid : Prop := evmEndsUptoRow.holds Tryz.pinned (OpenSpec.upto evmEndsSpec)

/-- 'munimentslaw15.EvmLogs', WHERE WHAT IT READS IS OF BULK AT MOST 1048576: true; the input reads as it did. -/
def evmLogsUptoRow : OpenClaim := { program := "ytfflppedbopdpaagreat", sum := "16959408266eb48b495717dca8da131c7c6f7de9e21df807ea71ed300437c575", func := "muniments/munimentslaw15.EvmLogs", spec := "evmLogs", inPlace := ["math/bits.Add64", "math/bits.Sub64", "internal/bytealg.Compare"], unfollowed := true, recurses := true, plainKeys := false, apart := false, narrowed := true }
def EvmLogsUptoSaid : Prop := evmLogsUptoRow.holds Tryz.pinned (OpenSpec.upto evmLogsSpec)

end Rows
end Go.Proofs.YtfflppedbopdpaaGreat
