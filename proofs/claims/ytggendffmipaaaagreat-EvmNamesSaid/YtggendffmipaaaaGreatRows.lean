/-
  No cell of these rows narrows 'for every input' (looked for: loops, veiled, ifaces, maps, wideKeys, modest, calm, conditions, laid).
  DERIVED. THE GIVEN ROWS OF THIS SEAT. 2 by the template 'for every input the law returns true; each argument reads behind the call as it read before'; 0 by the template 'total and deterministic' (their statements: YtggendffmipaaaaGreatTotals.lean).
  GIVEN WITH THE SEED: the statements are not yours to turn. If you find one false, say at which input.
  Laid BY PROGRAM, IN A SANDBOX (cutbox-rows.mjs): the forced cells as the released guide's own fill.sh prints them over the translation 94458b56c6b76aad… (all of the seat's roots in one cut). By AI agents, Wed Nov 11 2026. No macro, syntax, notation, axiom, sorry.
-/
import Derived.Test.YtggendffmipaaaaGreatChecked
import GoSem.Claim
import GoSem.ClaimJoined
import GoSem.ClaimMapViews
import Derived.JoinedTies
import Derived.KernelRfl
namespace Go.Proofs.YtggendffmipaaaaGreat
/- THE CELL 'sum', in the pinned program and in every row, IS THE sha256 OF THE DUMP (.gsa) THAT YtggendffmipaaaaGreatProg.lean LOADS. Nothing in Lean hashes anything: it is a label: what it is worth is what the hold of that sum in a sandbox is worth. -/
noncomputable def Tryz.pinned : Pinned := { name := "ytggendffmipaaaagreat", sum := "94458b56c6b76aad9cfd664758fe0316eceb59cd33764d6a0f18b09576f54ddd", checked := Tryz.checked }
namespace Rows
def none {H : Type} : Left H := { results := [], args := [] }

/-- 'munimentslaw15.EvmNames': WHATEVER THE INPUT: true; the input reads as it did. -/
def evmNamesSpec : ChangeSpec := { name := "evmNames", fn := fun _ => fun
  | [d1, d2, d3, d4] => { results := [.lit (.bool true)], args := [d1, d2, d3, d4] }
  | _ => none }
def evmNamesRow : OpenClaim := { program := "ytggendffmipaaaagreat", sum := "94458b56c6b76aad9cfd664758fe0316eceb59cd33764d6a0f18b09576f54ddd", func := "muniments/munimentslaw15.EvmNames", spec := "evmNames", inPlace := ["math/bits.Add64", "math/bits.Sub64"], unfollowed := true, recurses := true, plainKeys := false, apart := false }
def EvmNamesSaid : Prop := evmNamesRow.holds Tryz.pinned (OpenSpec.ofChange evmNamesSpec)

/-- ITS FALSE NEIGHBOUR: 'it returns false'. Refute it at one input. -/
def evmNamesWrong : ChangeSpec := { name := "evmNames", fn := fun _ => fun
  | [d1, d2, d3, d4] => { results := [.lit (.bool false)], args := [d1, d2, d3, d4] }
  | _ => none }
def EvmNamesWrongFalsely : Prop := evmNamesRow.holds Tryz.pinned (OpenSpec.ofChange evmNamesWrong)

/-- 'munimentslaw15.EvmReckons': WHATEVER THE INPUT: true; the input reads as it did. -/
def evmReckonsSpec : ChangeSpec := { name := "evmReckons", fn := fun _ => fun
  | [d1, d2, d3, d4] => { results := [.lit (.bool true)], args := [d1, d2, d3, d4] }
  | _ => none }
def evmReckonsRow : OpenClaim := { program := "ytggendffmipaaaagreat", sum := "94458b56c6b76aad9cfd664758fe0316eceb59cd33764d6a0f18b09576f54ddd", func := "muniments/munimentslaw15.EvmReckons", spec := "evmReckons", inPlace := ["math/bits.Add64", "math/bits.Sub64"], unfollowed := true, recurses := true, plainKeys := false, apart := false }
def EvmReckonsSaid : Prop := evmReckonsRow.holds Tryz.pinned (OpenSpec.ofChange evmReckonsSpec)

/-- ITS FALSE NEIGHBOUR: 'it returns false'. Refute it at one input. -/
def evmReckonsWrong : ChangeSpec := { name := "evmReckons", fn := fun _ => fun
  | [d1, d2, d3, d4] => { results := [.lit (.bool false)], args := [d1, d2, d3, d4] }
  | _ => none }
def EvmReckonsWrongFalsely : Prop := evmReckonsRow.holds Tryz.pinned (OpenSpec.ofChange evmReckonsWrong)

/- THE SECOND FORM. 'bulk': how many values and letters a reading holds, each counted each time it is reached (what is shared counts as often as it is met; a slice's spare places count too). A statement '..UptoSaid' is the law's where the arguments, and the package variables that the reading takes, are together of bulk at most 1048576: NARROWER than '..Said'. Prove '..Said' where nothing that the law and all that it calls make is longer than what came in: it says more and counts as full. Else prove '..UptoSaid'. A law counts once. -/
mutual
def uptoBulk {H : Type} : DataW H → Nat
  | .lit (.string bytes) => bytes.length + 1
  | .lit _ => 1
  | .nil => 1
  | .ptr d => uptoBulk d + 1
  | .slice elems spare => uptoBulkAll elems + uptoBulkAll spare + 1
  | .agg parts => uptoBulkAll parts + 1
  | .iface _ d => uptoBulk d + 1
  | .map entries => uptoBulkEntries entries + 1
  | .held _ => 1
def uptoBulkAll {H : Type} : List (DataW H) → Nat
  | [] => 0
  | d :: r => uptoBulk d + uptoBulkAll r
def uptoBulkEntries {H : Type} : List (Lit × DataW H) → Nat
  | [] => 0
  | x :: r => uptoBulkEntry x + uptoBulkEntries r
def uptoBulkEntry {H : Type} : Lit × DataW H → Nat
  | (.string bytes, d) => bytes.length + uptoBulk d + 1
  | (_, d) => uptoBulk d + 1
 end
def uptoSmall : (H : Type) → List (DataW H) → Bool := fun _ ds => decide (uptoBulkAll ds ≤ 1048576)
def OpenSpec.upto (s : _root_.Go.ChangeSpec) : _root_.Go.OpenSpec := { _root_.Go.OpenSpec.ofChange s with cond := some uptoSmall }

/-- 'munimentslaw15.EvmNames', WHERE WHAT IT READS IS OF BULK AT MOST 1048576: true; the input reads as it did. -/
def evmNamesUptoRow : OpenClaim := { program := "ytggendffmipaaaagreat", sum := "94458b56c6b76aad9cfd664758fe0316eceb59cd33764d6a0f18b09576f54ddd", func := "muniments/munimentslaw15.EvmNames", spec := "evmNames", inPlace := ["math/bits.Add64", "math/bits.Sub64"], unfollowed := true, recurses := true, plainKeys := false, apart := false, narrowed := true }
def EvmNamesUptoSaid : Prop := evmNamesUptoRow.holds Tryz.pinned (OpenSpec.upto evmNamesSpec)

/-- 'munimentslaw15.EvmReckons', WHERE WHAT IT READS IS OF BULK AT MOST 1048576: true; the input reads as it did. -/
def evmReckonsUptoRow : OpenClaim := { program := "ytggendffmipaaaagreat", sum := "94458b56c6b76aad9cfd664758fe0316eceb59cd33764d6a0f18b09576f54ddd", func := "muniments/munimentslaw15.EvmReckons", spec := "evmReckons", inPlace := ["math/bits.Add64", "math/bits.Sub64"], unfollowed := true, recurses := true, plainKeys := false, apart := false, narrowed := true }
def EvmReckonsUptoSaid : Prop := evmReckonsUptoRow.holds Tryz.pinned (OpenSpec.upto evmReckonsSpec)

end Rows
end Go.Proofs.YtggendffmipaaaaGreat
