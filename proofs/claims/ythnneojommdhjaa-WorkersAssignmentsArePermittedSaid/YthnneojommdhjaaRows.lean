/-
  No cell of these rows narrows 'for every input' (looked for: loops, veiled, ifaces, maps, wideKeys, modest, calm, conditions, laid).
  DERIVED. THE GIVEN ROWS OF THIS SEAT. 6 by the template 'for every input the law returns true; each argument reads behind the call as it read before'; 0 by the template 'total and deterministic' (their statements: YthnneojommdhjaaTotals.lean).
  GIVEN WITH THE SEED: the statements are not yours to turn. If you find one false, say at which input.
  Laid BY PROGRAM, IN A SANDBOX (cutbox-rows.mjs): the forced cells as the released guide's own fill.sh prints them over the translation ad31ab22fc967ae0… (all of the seat's roots in one cut). By AI agents, Wed Nov 11 2026. No macro, syntax, notation, axiom, sorry.
-/
import Derived.Test.YthnneojommdhjaaChecked
import GoSem.Claim
import GoSem.ClaimJoined
import GoSem.ClaimMapViews
import Derived.JoinedTies
import Derived.KernelRfl
namespace Go.Proofs.Ythnneojommdhjaa
/- THE CELL 'sum', in the pinned program and in every row, IS THE sha256 OF THE DUMP (.gsa) THAT YthnneojommdhjaaProg.lean LOADS. Nothing in Lean hashes anything: it is a label: what it is worth is what the hold of that sum in a sandbox is worth. -/
noncomputable def Try.pinned : Pinned := { name := "ythnneojommdhjaa", sum := "ad31ab22fc967ae0224e6ef50b22ccf8bd8766108744d964dee026e2ab147e24", checked := Try.checked }
namespace Rows
def none {H : Type} : Left H := { results := [], args := [] }

/-- 'changeforgelaw6.WorkersMatchSpec': WHATEVER THE INPUT: true; the input reads as it did. -/
def workersMatchSpecSpec : ChangeSpec := { name := "workersMatchSpec", fn := fun _ => fun
  | [d1, d2, d3, d4, d5] => { results := [.lit (.bool true)], args := [d1, d2, d3, d4, d5] }
  | _ => none }
def workersMatchSpecRow : OpenClaim := { program := "ythnneojommdhjaa", sum := "ad31ab22fc967ae0224e6ef50b22ccf8bd8766108744d964dee026e2ab147e24", func := "changeforge/changeforgelaw6.WorkersMatchSpec", spec := "workersMatchSpec", apart := false }
def WorkersMatchSpecSaid : Prop := workersMatchSpecRow.holds Try.pinned (OpenSpec.ofChange workersMatchSpecSpec)

/-- ITS FALSE NEIGHBOUR: 'it returns false'. Refute it at one input. -/
def workersMatchSpecWrong : ChangeSpec := { name := "workersMatchSpec", fn := fun _ => fun
  | [d1, d2, d3, d4, d5] => { results := [.lit (.bool false)], args := [d1, d2, d3, d4, d5] }
  | _ => none }
def WorkersMatchSpecWrongFalsely : Prop := workersMatchSpecRow.holds Try.pinned (OpenSpec.ofChange workersMatchSpecWrong)

/-- 'changeforgelaw6.WorkersNextMatchesSpec': WHATEVER THE INPUT: true; the input reads as it did. -/
def workersNextMatchesSpecSpec : ChangeSpec := { name := "workersNextMatchesSpec", fn := fun _ => fun
  | [d1, d2, d3, d4] => { results := [.lit (.bool true)], args := [d1, d2, d3, d4] }
  | _ => none }
def workersNextMatchesSpecRow : OpenClaim := { program := "ythnneojommdhjaa", sum := "ad31ab22fc967ae0224e6ef50b22ccf8bd8766108744d964dee026e2ab147e24", func := "changeforge/changeforgelaw6.WorkersNextMatchesSpec", spec := "workersNextMatchesSpec", apart := false }
def WorkersNextMatchesSpecSaid : Prop := workersNextMatchesSpecRow.holds Try.pinned (OpenSpec.ofChange workersNextMatchesSpecSpec)

/-- ITS FALSE NEIGHBOUR: 'it returns false'. Refute it at one input. -/
def workersNextMatchesSpecWrong : ChangeSpec := { name := "workersNextMatchesSpec", fn := fun _ => fun
  | [d1, d2, d3, d4] => { results := [.lit (.bool false)], args := [d1, d2, d3, d4] }
  | _ => none }
def WorkersNextMatchesSpecWrongFalsely : Prop := workersNextMatchesSpecRow.holds Try.pinned (OpenSpec.ofChange workersNextMatchesSpecWrong)

/-- 'changeforgelaw6.WorkersLiarsAreOutvoted': WHATEVER THE INPUT: true; the input reads as it did. -/
def workersLiarsAreOutvotedSpec : ChangeSpec := { name := "workersLiarsAreOutvoted", fn := fun _ => fun
  | [d1, d2, d3, d4, d5, d6] => { results := [.lit (.bool true)], args := [d1, d2, d3, d4, d5, d6] }
  | _ => none }
def workersLiarsAreOutvotedRow : OpenClaim := { program := "ythnneojommdhjaa", sum := "ad31ab22fc967ae0224e6ef50b22ccf8bd8766108744d964dee026e2ab147e24", func := "changeforge/changeforgelaw6.WorkersLiarsAreOutvoted", spec := "workersLiarsAreOutvoted", apart := false }
def WorkersLiarsAreOutvotedSaid : Prop := workersLiarsAreOutvotedRow.holds Try.pinned (OpenSpec.ofChange workersLiarsAreOutvotedSpec)

/-- ITS FALSE NEIGHBOUR: 'it returns false'. Refute it at one input. -/
def workersLiarsAreOutvotedWrong : ChangeSpec := { name := "workersLiarsAreOutvoted", fn := fun _ => fun
  | [d1, d2, d3, d4, d5, d6] => { results := [.lit (.bool false)], args := [d1, d2, d3, d4, d5, d6] }
  | _ => none }
def WorkersLiarsAreOutvotedWrongFalsely : Prop := workersLiarsAreOutvotedRow.holds Try.pinned (OpenSpec.ofChange workersLiarsAreOutvotedWrong)

/-- 'changeforgelaw6.WorkersResultsHaveAQuorum': WHATEVER THE INPUT: true; the input reads as it did. -/
def workersResultsHaveAQuorumSpec : ChangeSpec := { name := "workersResultsHaveAQuorum", fn := fun _ => fun
  | [d1, d2, d3, d4, d5] => { results := [.lit (.bool true)], args := [d1, d2, d3, d4, d5] }
  | _ => none }
def workersResultsHaveAQuorumRow : OpenClaim := { program := "ythnneojommdhjaa", sum := "ad31ab22fc967ae0224e6ef50b22ccf8bd8766108744d964dee026e2ab147e24", func := "changeforge/changeforgelaw6.WorkersResultsHaveAQuorum", spec := "workersResultsHaveAQuorum", apart := false }
def WorkersResultsHaveAQuorumSaid : Prop := workersResultsHaveAQuorumRow.holds Try.pinned (OpenSpec.ofChange workersResultsHaveAQuorumSpec)

/-- ITS FALSE NEIGHBOUR: 'it returns false'. Refute it at one input. -/
def workersResultsHaveAQuorumWrong : ChangeSpec := { name := "workersResultsHaveAQuorum", fn := fun _ => fun
  | [d1, d2, d3, d4, d5] => { results := [.lit (.bool false)], args := [d1, d2, d3, d4, d5] }
  | _ => none }
def WorkersResultsHaveAQuorumWrongFalsely : Prop := workersResultsHaveAQuorumRow.holds Try.pinned (OpenSpec.ofChange workersResultsHaveAQuorumWrong)

/-- 'changeforgelaw6.WorkersResultsAreFinal': WHATEVER THE INPUT: true; the input reads as it did. -/
def workersResultsAreFinalSpec : ChangeSpec := { name := "workersResultsAreFinal", fn := fun _ => fun
  | [d1, d2, d3, d4, d5, d6] => { results := [.lit (.bool true)], args := [d1, d2, d3, d4, d5, d6] }
  | _ => none }
def workersResultsAreFinalRow : OpenClaim := { program := "ythnneojommdhjaa", sum := "ad31ab22fc967ae0224e6ef50b22ccf8bd8766108744d964dee026e2ab147e24", func := "changeforge/changeforgelaw6.WorkersResultsAreFinal", spec := "workersResultsAreFinal", apart := false }
def WorkersResultsAreFinalSaid : Prop := workersResultsAreFinalRow.holds Try.pinned (OpenSpec.ofChange workersResultsAreFinalSpec)

/-- ITS FALSE NEIGHBOUR: 'it returns false'. Refute it at one input. -/
def workersResultsAreFinalWrong : ChangeSpec := { name := "workersResultsAreFinal", fn := fun _ => fun
  | [d1, d2, d3, d4, d5, d6] => { results := [.lit (.bool false)], args := [d1, d2, d3, d4, d5, d6] }
  | _ => none }
def WorkersResultsAreFinalWrongFalsely : Prop := workersResultsAreFinalRow.holds Try.pinned (OpenSpec.ofChange workersResultsAreFinalWrong)

/-- 'changeforgelaw6.WorkersAssignmentsArePermitted': WHATEVER THE INPUT: true; the input reads as it did. -/
def workersAssignmentsArePermittedSpec : ChangeSpec := { name := "workersAssignmentsArePermitted", fn := fun _ => fun
  | [d1, d2, d3, d4] => { results := [.lit (.bool true)], args := [d1, d2, d3, d4] }
  | _ => none }
def workersAssignmentsArePermittedRow : OpenClaim := { program := "ythnneojommdhjaa", sum := "ad31ab22fc967ae0224e6ef50b22ccf8bd8766108744d964dee026e2ab147e24", func := "changeforge/changeforgelaw6.WorkersAssignmentsArePermitted", spec := "workersAssignmentsArePermitted", apart := false }
def WorkersAssignmentsArePermittedSaid : Prop := workersAssignmentsArePermittedRow.holds Try.pinned (OpenSpec.ofChange workersAssignmentsArePermittedSpec)

/-- ITS FALSE NEIGHBOUR: 'it returns false'. Refute it at one input. -/
def workersAssignmentsArePermittedWrong : ChangeSpec := { name := "workersAssignmentsArePermitted", fn := fun _ => fun
  | [d1, d2, d3, d4] => { results := [.lit (.bool false)], args := [d1, d2, d3, d4] }
  | _ => none }
def WorkersAssignmentsArePermittedWrongFalsely : Prop := workersAssignmentsArePermittedRow.holds Try.pinned (OpenSpec.ofChange workersAssignmentsArePermittedWrong)

/- THE SECOND FORM. 'bulk': how many values and letters a reading holds, each counted each time it is reached (what is shared counts as often as it is met; a slice's spare places count too). A statement '..UptoSaid' is the law's where the arguments, and the package variables that the reading takes, are together of bulk at most 1048576: NARROWER than '..Said'. Prove '..Said' where nothing that the law and all that it calls make is longer than what came in: it says more and counts as full. Else prove '..UptoSaid'. A law counts once. -/
mutual
def uptoBulk {H : Type} : DataW H → Nat
  | .lit (.string bytes) => bytes.length + 1
  | .lit _ => 1
  | .nil => 1
  | .ptr d => uptoBulk d + 1
  | .slice elems spare => uptoBulkAll elems + uptoBulkAll spare + 1
  | .agg parts => uptoBulkAll parts + 1
  | .iface _ d => uptoBulk d + 1
  | .map entries => uptoBulkEntries entries + 1
  | .held _ => 1
def uptoBulkAll {H : Type} : List (DataW H) → Nat
  | [] => 0
  | d :: r => uptoBulk d + uptoBulkAll r
def uptoBulkEntries {H : Type} : List (Lit × DataW H) → Nat
  | [] => 0
  | x :: r => uptoBulkEntry x + uptoBulkEntries r
def uptoBulkEntry {H : Type} : Lit × DataW H → Nat
  | (.string bytes, d) => bytes.length + uptoBulk d + 1
  | (_, d) => uptoBulk d + 1
 end
def uptoSmall : (H : Type) → List (DataW H) → Bool := fun _ ds => decide (uptoBulkAll ds ≤ 1048576)
def OpenSpec.upto (s : _root_.Go.ChangeSpec) : _root_.Go.OpenSpec := { _root_.Go.OpenSpec.ofChange s with cond := some uptoSmall }

/-- 'changeforgelaw6.WorkersMatchSpec', WHERE WHAT IT READS IS OF BULK AT MOST 1048576: true; the input reads as it did. -/
def workersMatchSpecUptoRow : OpenClaim := { program := "ythnneojommdhjaa", sum := "ad31ab22fc967ae0224e6ef50b22ccf8bd8766108744d964dee026e2ab147e24", func := "changeforge/changeforgelaw6.WorkersMatchSpec", spec := "workersMatchSpec", apart := false, narrowed := true }
def WorkersMatchSpecUptoSaid : Prop := workersMatchSpecUptoRow.holds Try.pinned (OpenSpec.upto workersMatchSpecSpec)

/-- 'changeforgelaw6.WorkersNextMatchesSpec', WHERE WHAT IT READS IS OF BULK AT MOST 1048576: true; the input reads as it did. -/
def workersNextMatchesSpecUptoRow : OpenClaim := { program := "ythnneojommdhjaa", sum := "ad31ab22fc967ae0224e6ef50b22ccf8bd8766108744d964dee026e2ab147e24", func := "changeforge/changeforgelaw6.WorkersNextMatchesSpec", spec := "workersNextMatchesSpec", apart := false, narrowed := true }
def WorkersNextMatchesSpecUptoSaid : Prop := workersNextMatchesSpecUptoRow.holds Try.pinned (OpenSpec.upto workersNextMatchesSpecSpec)

/-- 'changeforgelaw6.WorkersLiarsAreOutvoted', WHERE WHAT IT READS IS OF BULK AT MOST 1048576: true; the input reads as it did. -/
def workersLiarsAreOutvotedUptoRow : OpenClaim := { program := "ythnneojommdhjaa", sum := "ad31ab22fc967ae0224e6ef50b22ccf8bd8766108744d964dee026e2ab147e24", func := "changeforge/changeforgelaw6.WorkersLiarsAreOutvoted", spec := "workersLiarsAreOutvoted", apart := false, narrowed := true }
def WorkersLiarsAreOutvotedUptoSaid : Prop := workersLiarsAreOutvotedUptoRow.holds Try.pinned (OpenSpec.upto workersLiarsAreOutvotedSpec)

/-- 'changeforgelaw6.WorkersResultsHaveAQuorum', WHERE WHAT IT READS IS OF BULK AT MOST 1048576: true; the input reads as it did. -/
def workersResultsHaveAQuorumUptoRow : OpenClaim := { program := "ythnneojommdhjaa", sum := "ad31ab22fc967ae0224e6ef50b22ccf8bd8766108744d964dee026e2ab147e24", func := "changeforge/changeforgelaw6.WorkersResultsHaveAQuorum", spec := "workersResultsHaveAQuorum", apart := false, narrowed := true }
def WorkersResultsHaveAQuorumUptoSaid : Prop := workersResultsHaveAQuorumUptoRow.holds Try.pinned (OpenSpec.upto workersResultsHaveAQuorumSpec)

/-- 'changeforgelaw6.WorkersResultsAreFinal', WHERE WHAT IT READS IS OF BULK AT MOST 1048576: true; the input reads as it did. -/
def workersResultsAreFinalUptoRow : OpenClaim := { program := "ythnneojommdhjaa", sum := "ad31ab22fc967ae0224e6ef50b22ccf8bd8766108744d964dee026e2ab147e24", func := "changeforge/changeforgelaw6.WorkersResultsAreFinal", spec := "workersResultsAreFinal", apart := false, narrowed := true }
def WorkersResultsAreFinalUptoSaid : Prop := workersResultsAreFinalUptoRow.holds Try.pinned (OpenSpec.upto workersResultsAreFinalSpec)

/-- 'changeforgelaw6.WorkersAssignmentsArePermitted', WHERE WHAT IT READS IS OF BULK AT MOST 1048576: true; the input reads as it did. -/
def workersAssignmentsArePermittedUptoRow : OpenClaim := { program := "ythnneojommdhjaa", sum := "ad31ab22fc967ae0224e6ef50b22ccf8bd8766108744d964dee026e2ab147e24", func := "changeforge/changeforgelaw6.WorkersAssignmentsArePermitted", spec := "workersAssignmentsArePermitted", apart := false, narrowed := true }
def WorkersAssignmentsArePermittedUptoSaid : Prop := workersAssignmentsArePermittedUptoRow.holds Try.pinned (OpenSpec.upto workersAssignmentsArePermittedSpec)

end Rows
end Go.Proofs.Ythnneojommdhjaa
