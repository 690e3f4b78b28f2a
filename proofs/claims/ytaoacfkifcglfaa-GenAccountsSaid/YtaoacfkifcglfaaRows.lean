/-
  No cell of these rows narrows 'for every input' (looked for: loops, veiled, ifaces, maps, wideKeys, modest, calm, conditions, laid).
  DERIVED. THE GIVEN ROWS OF THIS SEAT. 4 by the template 'for every input the law returns true; each argument reads behind the call as it read before'; 0 by the template 'total and deterministic' (their statements: YtaoacfkifcglfaaTotals.lean).
  GIVEN WITH THE SEED: the statements are not yours to turn. If you find one false, say at which input.
  Laid BY PROGRAM, IN A SANDBOX (cutbox-rows.mjs): the forced cells as the released guide's own fill.sh prints them over the translation 9ad75ae058b8c4f3… (all of the seat's roots in one cut). By AI agents, Wed Nov 11 2026. No macro, syntax, notation, axiom, sorry.
-/
import Derived.Test.YtaoacfkifcglfaaChecked
import GoSem.Claim
import GoSem.ClaimJoined
import GoSem.ClaimMapViews
import Derived.JoinedTies
import Derived.KernelRfl
namespace Go.Proofs.Ytaoacfkifcglfaa
/- THE CELL 'sum', in the pinned program and in every row, IS THE sha256 OF THE DUMP (.gsa) THAT YtaoacfkifcglfaaProg.lean LOADS. Nothing in Lean hashes anything: it is a label: what it is worth is what the hold of that sum in a sandbox is worth. -/
noncomputable def Try.pinned : Pinned := { name := "ytaoacfkifcglfaa", sum := "9ad75ae058b8c4f3669dcc889328651273acc035b05123c29c640275c9b8fe92", checked := Try.checked }
namespace Rows
def none {H : Type} : Left H := { results := [], args := [] }

/-- 'munimentslaw28.GenNext': WHATEVER THE INPUT: true; the input reads as it did. -/
def genNextSpec : ChangeSpec := { name := "genNext", fn := fun _ => fun
  | [d1, d2] => { results := [.lit (.bool true)], args := [d1, d2] }
  | _ => none }
def genNextRow : OpenClaim := { program := "ytaoacfkifcglfaa", sum := "9ad75ae058b8c4f3669dcc889328651273acc035b05123c29c640275c9b8fe92", func := "muniments/munimentslaw28.GenNext", spec := "genNext", apart := false }
def GenNextSaid : Prop := genNextRow.holds Try.pinned (OpenSpec.ofChange genNextSpec)

/-- ITS FALSE NEIGHBOUR: 'it returns false'. Refute it at one input. -/
def genNextWrong : ChangeSpec := { name := "genNext", fn := fun _ => fun
  | [d1, d2] => { results := [.lit (.bool false)], args := [d1, d2] }
  | _ => none }
def GenNextWrongFalsely : Prop := genNextRow.holds Try.pinned (OpenSpec.ofChange genNextWrong)

/-- 'munimentslaw11.OpsJumps': WHATEVER THE INPUT: true; the input reads as it did. -/
def opsJumpsSpec : ChangeSpec := { name := "opsJumps", fn := fun _ => fun
  | [d] => { results := [.lit (.bool true)], args := [d] }
  | _ => none }
def opsJumpsRow : OpenClaim := { program := "ytaoacfkifcglfaa", sum := "9ad75ae058b8c4f3669dcc889328651273acc035b05123c29c640275c9b8fe92", func := "muniments/munimentslaw11.OpsJumps", spec := "opsJumps", apart := false }
def OpsJumpsSaid : Prop := opsJumpsRow.holds Try.pinned (OpenSpec.ofChange opsJumpsSpec)

/-- ITS FALSE NEIGHBOUR: 'it returns false'. Refute it at one input. -/
def opsJumpsWrong : ChangeSpec := { name := "opsJumps", fn := fun _ => fun
  | [d] => { results := [.lit (.bool false)], args := [d] }
  | _ => none }
def OpsJumpsWrongFalsely : Prop := opsJumpsRow.holds Try.pinned (OpenSpec.ofChange opsJumpsWrong)

/-- 'munimentslaw11.OpsData': WHATEVER THE INPUT: true; the input reads as it did. -/
def opsDataSpec : ChangeSpec := { name := "opsData", fn := fun _ => fun
  | [d1, d2] => { results := [.lit (.bool true)], args := [d1, d2] }
  | _ => none }
def opsDataRow : OpenClaim := { program := "ytaoacfkifcglfaa", sum := "9ad75ae058b8c4f3669dcc889328651273acc035b05123c29c640275c9b8fe92", func := "muniments/munimentslaw11.OpsData", spec := "opsData", apart := false }
def OpsDataSaid : Prop := opsDataRow.holds Try.pinned (OpenSpec.ofChange opsDataSpec)

/-- ITS FALSE NEIGHBOUR: 'it returns false'. Refute it at one input. -/
def opsDataWrong : ChangeSpec := { name := "opsData", fn := fun _ => fun
  | [d1, d2] => { results := [.lit (.bool false)], args := [d1, d2] }
  | _ => none }
def OpsDataWrongFalsely : Prop := opsDataRow.holds Try.pinned (OpenSpec.ofChange opsDataWrong)

/-- 'munimentslaw28.GenAccounts': WHATEVER THE INPUT: true; the input reads as it did. -/
def genAccountsSpec : ChangeSpec := { name := "genAccounts", fn := fun _ => fun
  | [d] => { results := [.lit (.bool true)], args := [d] }
  | _ => none }
def genAccountsRow : OpenClaim := { program := "ytaoacfkifcglfaa", sum := "9ad75ae058b8c4f3669dcc889328651273acc035b05123c29c640275c9b8fe92", func := "muniments/munimentslaw28.GenAccounts", spec := "genAccounts", apart := false }
def GenAccountsSaid : Prop := genAccountsRow.holds Try.pinned (OpenSpec.ofChange genAccountsSpec)

/-- ITS FALSE NEIGHBOUR: 'it returns false'. Refute it at one input. -/
def genAccountsWrong : ChangeSpec := { name := "genAccounts", fn := fun _ => fun
  | [d] => { results := [.lit (.bool false)], args := [d] }
  | _ => none }
def GenAccountsWrongFalsely : Prop := genAccountsRow.holds Try.pinned (OpenSpec.ofChange genAccountsWrong)

/- THE SECOND FORM. 'bulk': how many values and letters a reading holds, each counted each time it is reached (what is shared counts as often as it is met; a slice's spare places count too). A statement '..UptoSaid' is the law's where the arguments, and the package variables that the reading takes, are together of bulk at most 1048576: NARROWER than '..Said'. Prove '..Said' where nothing that the law and all that it calls make is longer than what came in: it says more and counts as full. Else prove '..UptoSaid'. A law counts once. -/
mutual
def uptoBulk {H : Type} : DataW H → Nat
  | .lit (.string bytes) => bytes.length + 1
  | .lit _ => 1
  | .nil => 1
  | .ptr d => uptoBulk d + 1
  | .slice elems spare => uptoBulkAll elems + uptoBulkAll spare + 1
  | .agg parts => uptoBulkAll parts + 1
  | .iface _ d => uptoBulk d + 1
  | .map entries => uptoBulkEntries entries + 1
  | .held _ => 1
def uptoBulkAll {H : Type} : List (DataW H) → Nat
  | [] => 0
  | d :: r => uptoBulk d + uptoBulkAll r
def uptoBulkEntries {H : Type} : List (Lit × DataW H) → Nat
  | [] => 0
  | x :: r => uptoBulkEntry x + uptoBulkEntries r
def uptoBulkEntry {H : Type} : Lit × DataW H → Nat
  | (.string bytes, d) => bytes.length + uptoBulk d + 1
  | (_, d) => uptoBulk d + 1
 end
def uptoSmall : (H : Type) → List (DataW H) → Bool := fun _ ds => decide (uptoBulkAll ds ≤ 1048576)
def OpenSpec.upto (s : _root_.Go.ChangeSpec) : _root_.Go.OpenSpec := { _root_.Go.OpenSpec.ofChange s with cond := some uptoSmall }

/-- 'munimentslaw28.GenNext', WHERE WHAT IT READS IS OF BULK AT MOST 1048576: true; the input reads as it did. -/
def genNextUptoRow : OpenClaim := { program := "ytaoacfkifcglfaa", sum := "9ad75ae058b8c4f3669dcc889328651273acc035b05123c29c640275c9b8fe92", func := "muniments/munimentslaw28.GenNext", spec := "genNext", apart := false, narrowed := true }
def GenNextUptoSaid : Prop := genNextUptoRow.holds Try.pinned (OpenSpec.upto genNextSpec)

/-- 'munimentslaw11.OpsJumps', WHERE WHAT IT READS IS OF BULK AT MOST 1048576: true; the input reads as it did. -/
def opsJumpsUptoRow : OpenClaim := { program := "ytaoacfkifcglfaa", sum := "9ad75ae058b8c4f3669dcc889328651273acc035b05123c29c640275c9b8fe92", func := "muniments/munimentslaw11.OpsJumps", spec := "opsJumps", apart := false, narrowed := true }
def OpsJumpsUptoSaid : Prop := opsJumpsUptoRow.holds Try.pinned (OpenSpec.upto opsJumpsSpec)

/-- 'munimentslaw11.OpsData', WHERE WHAT IT READS IS OF BULK AT MOST 1048576: true; the input reads as it did. -/
def opsDataUptoRow : OpenClaim := { program := "ytaoacfkifcglfaa", sum := "9ad75ae058b8c4f3669dcc889328651273acc035b05123c29c640275c9b8fe92", func := "muniments/munimentslaw11.OpsData", spec := "opsData", apart := false, narrowed := true }
def OpsDataUptoSaid : Prop := opsDataUptoRow.holds Try.pinned (OpenSpec.upto opsDataSpec)

/-- 'munimentslaw28.GenAccounts', WHERE WHAT IT READS IS OF BULK AT MOST 1048576: true; the input reads as it did. -/
def genAccountsUptoRow : OpenClaim := { program := "ytaoacfkifcglfaa", sum := "9ad75ae058b8c4f3669dcc889328651273acc035b05123c29c640275c9b8fe92", func := "muniments/munimentslaw28.GenAccounts", spec := "genAccounts", apart := false, narrowed := true }
def GenAccountsUptoSaid : Prop := genAccountsUptoRow.holds Try.pinned (OpenSpec.upto genAccountsSpec)

end Rows
end Go.Proofs.Ytaoacfkifcglfaa
