/-
  No cell of these rows narrows 'for every input' (looked for: loops, veiled, ifaces, maps, wideKeys, modest, calm, conditions, laid).
  DERIVED. THE GIVEN ROWS OF THIS SEAT. 4 by the template 'for every input the law returns true; each argument reads behind the call as it read before'; 0 by the template 'total and deterministic' (their statements: YtjbipghbhhkgcaaTotals.lean).
  GIVEN WITH THE SEED: the statements are not yours to turn. If you find one false, say at which input.
  Laid BY PROGRAM, IN A SANDBOX (cutbox-rows.mjs): the forced cells as the released guide's own fill.sh prints them over the translation e0d2fd17c81dd6f2… (all of the seat's roots in one cut). By AI agents, Wed Nov 11 2026. No macro, syntax, notation, axiom, sorry.
-/
import Derived.Test.YtjbipghbhhkgcaaChecked
import GoSem.Claim
import GoSem.ClaimJoined
import GoSem.ClaimMapViews
import Derived.JoinedTies
import Derived.KernelRfl
namespace Go.Proofs.Ytjbipghbhhkgcaa
/- THE CELL 'sum', in the pinned program and in every row, IS THE sha256 OF THE DUMP (.gsa) THAT YtjbipghbhhkgcaaProg.lean LOADS. Nothing in Lean hashes anything: it is a label: what it is worth is what the hold of that sum in a sandbox is worth. -/
noncomputable def Try.pinned : Pinned := { name := "ytjbipghbhhkgcaa", sum := "e0d2fd17c81dd6f29c16f5791e05142b6dc1dabd474f2dd22f4320985b5bc5b6", checked := Try.checked }
namespace Rows
def none {H : Type} : Left H := { results := [], args := [] }

/-- 'catenarylaw07.BallotNext': WHATEVER THE INPUT: true; the input reads as it did. -/
def ballotNextSpec : ChangeSpec := { name := "ballotNext", fn := fun _ => fun
  | [d1, d2, d3] => { results := [.lit (.bool true)], args := [d1, d2, d3] }
  | _ => none }
def ballotNextRow : OpenClaim := { program := "ytjbipghbhhkgcaa", sum := "e0d2fd17c81dd6f29c16f5791e05142b6dc1dabd474f2dd22f4320985b5bc5b6", func := "catenary/catenarylaw07.BallotNext", spec := "ballotNext", apart := false }
def BallotNextSaid : Prop := ballotNextRow.holds Try.pinned (OpenSpec.ofChange ballotNextSpec)

/-- ITS FALSE NEIGHBOUR: 'it returns false'. Refute it at one input. -/
def ballotNextWrong : ChangeSpec := { name := "ballotNext", fn := fun _ => fun
  | [d1, d2, d3] => { results := [.lit (.bool false)], args := [d1, d2, d3] }
  | _ => none }
def BallotNextWrongFalsely : Prop := ballotNextRow.holds Try.pinned (OpenSpec.ofChange ballotNextWrong)

/-- 'catenarylaw07.BallotOf': WHATEVER THE INPUT: true; the input reads as it did. -/
def ballotOfSpec : ChangeSpec := { name := "ballotOf", fn := fun _ => fun
  | [d1, d2, d3] => { results := [.lit (.bool true)], args := [d1, d2, d3] }
  | _ => none }
def ballotOfRow : OpenClaim := { program := "ytjbipghbhhkgcaa", sum := "e0d2fd17c81dd6f29c16f5791e05142b6dc1dabd474f2dd22f4320985b5bc5b6", func := "catenary/catenarylaw07.BallotOf", spec := "ballotOf", apart := false }
def BallotOfSaid : Prop := ballotOfRow.holds Try.pinned (OpenSpec.ofChange ballotOfSpec)

/-- ITS FALSE NEIGHBOUR: 'it returns false'. Refute it at one input. -/
def ballotOfWrong : ChangeSpec := { name := "ballotOf", fn := fun _ => fun
  | [d1, d2, d3] => { results := [.lit (.bool false)], args := [d1, d2, d3] }
  | _ => none }
def BallotOfWrongFalsely : Prop := ballotOfRow.holds Try.pinned (OpenSpec.ofChange ballotOfWrong)

/-- 'catenarylaw07.BallotMeet': WHATEVER THE INPUT: true; the input reads as it did. -/
def ballotMeetSpec : ChangeSpec := { name := "ballotMeet", fn := fun _ => fun
  | [d1, d2, d3] => { results := [.lit (.bool true)], args := [d1, d2, d3] }
  | _ => none }
def ballotMeetRow : OpenClaim := { program := "ytjbipghbhhkgcaa", sum := "e0d2fd17c81dd6f29c16f5791e05142b6dc1dabd474f2dd22f4320985b5bc5b6", func := "catenary/catenarylaw07.BallotMeet", spec := "ballotMeet", apart := false }
def BallotMeetSaid : Prop := ballotMeetRow.holds Try.pinned (OpenSpec.ofChange ballotMeetSpec)

/-- ITS FALSE NEIGHBOUR: 'it returns false'. Refute it at one input. -/
def ballotMeetWrong : ChangeSpec := { name := "ballotMeet", fn := fun _ => fun
  | [d1, d2, d3] => { results := [.lit (.bool false)], args := [d1, d2, d3] }
  | _ => none }
def BallotMeetWrongFalsely : Prop := ballotMeetRow.holds Try.pinned (OpenSpec.ofChange ballotMeetWrong)

/-- 'catenarylaw07.BallotSets': WHATEVER THE INPUT: true; the input reads as it did. -/
def ballotSetsSpec : ChangeSpec := { name := "ballotSets", fn := fun _ => fun
  | [d1, d2, d3] => { results := [.lit (.bool true)], args := [d1, d2, d3] }
  | _ => none }
def ballotSetsRow : OpenClaim := { program := "ytjbipghbhhkgcaa", sum := "e0d2fd17c81dd6f29c16f5791e05142b6dc1dabd474f2dd22f4320985b5bc5b6", func := "catenary/catenarylaw07.BallotSets", spec := "ballotSets", apart := false }
def BallotSetsSaid : Prop := ballotSetsRow.holds Try.pinned (OpenSpec.ofChange ballotSetsSpec)

/-- ITS FALSE NEIGHBOUR: 'it returns false'. Refute it at one input. -/
def ballotSetsWrong : ChangeSpec := { name := "ballotSets", fn := fun _ => fun
  | [d1, d2, d3] => { results := [.lit (.bool false)], args := [d1, d2, d3] }
  | _ => none }
def BallotSetsWrongFalsely : Prop := ballotSetsRow.holds Try.pinned (OpenSpec.ofChange ballotSetsWrong)

/- THE SECOND FORM. 'bulk': how many values and letters a reading holds, each counted each time it is reached (what is shared counts as often as it is met; a slice's spare places count too). A statement '..UptoSaid' is the law's where the arguments, and the package variables that the reading takes, are together of bulk at most 1048576: NARROWER than '..Said'. Prove '..Said' where nothing that the law and all that it calls make is longer than what came in: it says more and counts as full. Else prove '..UptoSaid'. A law counts once. -/
mutual
def uptoBulk {H : Type} : DataW H → Nat
  | .lit (.string bytes) => bytes.length + 1
  | .lit _ => 1
  | .nil => 1
  | .ptr d => uptoBulk d + 1
  | .slice elems spare => uptoBulkAll elems + uptoBulkAll spare + 1
  | .agg parts => uptoBulkAll parts + 1
  | .iface _ d => uptoBulk d + 1
  | .map entries => uptoBulkEntries entries + 1
  | .held _ => 1
def uptoBulkAll {H : Type} : List (DataW H) → Nat
  | [] => 0
  | d :: r => uptoBulk d + uptoBulkAll r
def uptoBulkEntries {H : Type} : List (Lit × DataW H) → Nat
  | [] => 0
  | x :: r => uptoBulkEntry x + uptoBulkEntries r
def uptoBulkEntry {H : Type} : Lit × DataW H → Nat
  | (.string bytes, d) => bytes.length + uptoBulk d + 1
  | (_, d) => uptoBulk d + 1
 end
def uptoSmall : (H : Type) → List (DataW H) → Bool := fun _ ds => decide (uptoBulkAll ds ≤ 1048576)
def OpenSpec.upto (s : _root_.Go.ChangeSpec) : _root_.Go.OpenSpec := { _root_.Go.OpenSpec.ofChange s with cond := some uptoSmall }

/-- 'catenarylaw07.BallotNext', WHERE WHAT IT READS IS OF BULK AT MOST 1048576: true; the input reads as it did. -/
def ballotNextUptoRow : OpenClaim := { program := "ytjbipghbhhkgcaa", sum := "e0d2fd17c81dd6f29c16f5791e05142b6dc1dabd474f2dd22f4320985b5bc5b6", func := "catenary/catenarylaw07.BallotNext", spec := "ballotNext", apart := false, narrowed := true }
def BallotNextUptoSaid : Prop := ballotNextUptoRow.holds Try.pinned (OpenSpec.upto ballotNextSpec)

/-- 'catenarylaw07.BallotOf', WHERE WHAT IT READS IS OF BULK AT MOST 1048576: true; the input reads as it did. -/
def ballotOfUptoRow : OpenClaim := { program := "ytjbipghbhhkgcaa", sum := "e0d2fd17c81dd6f29c16f5791e05142b6dc1dabd474f2dd22f4320985b5bc5b6", func := "catenary/catenarylaw07.BallotOf", spec := "ballotOf", apart := false, narrowed := true }
def BallotOfUptoSaid : Prop := ballotOfUptoRow.holds Try.pinned (OpenSpec.upto ballotOfSpec)

/-- 'catenarylaw07.BallotMeet', WHERE WHAT IT READS IS OF BULK AT MOST 1048576: true; the input reads as it did. -/
def ballotMeetUptoRow : OpenClaim := { program := "ytjbipghbhhkgcaa", sum := "e0d2fd17c81dd6f29c16f5791e05142b6dc1dabd474f2dd22f4320985b5bc5b6", func := "catenary/catenarylaw07.BallotMeet", spec := "ballotMeet", apart := false, narrowed := true }
def BallotMeetUptoSaid : Prop := ballotMeetUptoRow.holds Try.pinned (OpenSpec.upto ballotMeetSpec)

/-- 'catenarylaw07.BallotSets', WHERE WHAT IT READS IS OF BULK AT MOST 1048576: true; the input reads as it did. -/
def ballotSetsUptoRow : OpenClaim := { program := "ytjbipghbhhkgcaa", sum := "e0d2fd17c81dd6f29c16f5791e05142b6dc1dabd474f2dd22f4320985b5bc5b6", func := "catenary/catenarylaw07.BallotSets", spec := "ballotSets", apart := false, narrowed := true }
def BallotSetsUptoSaid : Prop := ballotSetsUptoRow.holds Try.pinned (OpenSpec.upto ballotSetsSpec)

end Rows
end Go.Proofs.Ytjbipghbhhkgcaa
