/-
  No cell of these rows narrows 'for every input' (looked for: loops, veiled, ifaces, maps, wideKeys, modest, calm, conditions, laid).
  DERIVED. THE GIVEN ROWS OF THIS SEAT. 6 by the template 'for every input the law returns true; each argument reads behind the call as it read before'; 0 by the template 'total and deterministic' (their statements: YtfdennmaeoahgaaTotals.lean).
  GIVEN WITH THE SEED: the statements are not yours to turn. If you find one false, say at which input.
  Laid BY PROGRAM, IN A SANDBOX (cutbox-rows.mjs): the forced cells as the released guide's own fill.sh prints them over the translation fd29ce3419b488ae… (all of the seat's roots in one cut). By AI agents, Wed Nov 11 2026. No macro, syntax, notation, axiom, sorry.
-/
import Derived.Test.YtfdennmaeoahgaaChecked
import GoSem.Claim
import GoSem.ClaimJoined
import GoSem.ClaimMapViews
import Derived.JoinedTies
import Derived.KernelRfl
namespace Go.Proofs.Ytfdennmaeoahgaa
/- THE CELL 'sum', in the pinned program and in every row, IS THE sha256 OF THE DUMP (.gsa) THAT YtfdennmaeoahgaaProg.lean LOADS. Nothing in Lean hashes anything: it is a label: what it is worth is what the hold of that sum in a sandbox is worth. -/
noncomputable def Try.pinned : Pinned := { name := "ytfdennmaeoahgaa", sum := "fd29ce3419b488aed56d561bc83d36c473b985003fb63a8d834164eb107d47cc", checked := Try.checked }
namespace Rows
def none {H : Type} : Left H := { results := [], args := [] }

/-- 'changeforgelaw6.ExplainMatchesSpec': WHATEVER THE INPUT: true; the input reads as it did. -/
def explainMatchesSpecSpec : ChangeSpec := { name := "explainMatchesSpec", fn := fun _ => fun
  | [d1, d2, d3] => { results := [.lit (.bool true)], args := [d1, d2, d3] }
  | _ => none }
def explainMatchesSpecRow : OpenClaim := { program := "ytfdennmaeoahgaa", sum := "fd29ce3419b488aed56d561bc83d36c473b985003fb63a8d834164eb107d47cc", func := "changeforge/changeforgelaw6.ExplainMatchesSpec", spec := "explainMatchesSpec", inPlace := ["internal/bytealg.abigen_runtime_cmpstring"], unfollowed := true, recurses := true, apart := false }
def ExplainMatchesSpecSaid : Prop := explainMatchesSpecRow.holds Try.pinned (OpenSpec.ofChange explainMatchesSpecSpec)

/-- ITS FALSE NEIGHBOUR: 'it returns false'. Refute it at one input. -/
def explainMatchesSpecWrong : ChangeSpec := { name := "explainMatchesSpec", fn := fun _ => fun
  | [d1, d2, d3] => { results := [.lit (.bool false)], args := [d1, d2, d3] }
  | _ => none }
def ExplainMatchesSpecWrongFalsely : Prop := explainMatchesSpecRow.holds Try.pinned (OpenSpec.ofChange explainMatchesSpecWrong)

/-- 'changeforgelaw6.ExplainReasonMatchesSpec': WHATEVER THE INPUT: true; the input reads as it did. -/
def explainReasonMatchesSpecSpec : ChangeSpec := { name := "explainReasonMatchesSpec", fn := fun _ => fun
  | [d1, d2] => { results := [.lit (.bool true)], args := [d1, d2] }
  | _ => none }
def explainReasonMatchesSpecRow : OpenClaim := { program := "ytfdennmaeoahgaa", sum := "fd29ce3419b488aed56d561bc83d36c473b985003fb63a8d834164eb107d47cc", func := "changeforge/changeforgelaw6.ExplainReasonMatchesSpec", spec := "explainReasonMatchesSpec", inPlace := ["internal/bytealg.abigen_runtime_cmpstring"], unfollowed := true, recurses := true, apart := false }
def ExplainReasonMatchesSpecSaid : Prop := explainReasonMatchesSpecRow.holds Try.pinned (OpenSpec.ofChange explainReasonMatchesSpecSpec)

/-- ITS FALSE NEIGHBOUR: 'it returns false'. Refute it at one input. -/
def explainReasonMatchesSpecWrong : ChangeSpec := { name := "explainReasonMatchesSpec", fn := fun _ => fun
  | [d1, d2] => { results := [.lit (.bool false)], args := [d1, d2] }
  | _ => none }
def ExplainReasonMatchesSpecWrongFalsely : Prop := explainReasonMatchesSpecRow.holds Try.pinned (OpenSpec.ofChange explainReasonMatchesSpecWrong)

/-- 'changeforgelaw6.ExplainReasonsAreMinimal': WHATEVER THE INPUT: true; the input reads as it did. -/
def explainReasonsAreMinimalSpec : ChangeSpec := { name := "explainReasonsAreMinimal", fn := fun _ => fun
  | [d1, d2] => { results := [.lit (.bool true)], args := [d1, d2] }
  | _ => none }
def explainReasonsAreMinimalRow : OpenClaim := { program := "ytfdennmaeoahgaa", sum := "fd29ce3419b488aed56d561bc83d36c473b985003fb63a8d834164eb107d47cc", func := "changeforge/changeforgelaw6.ExplainReasonsAreMinimal", spec := "explainReasonsAreMinimal", inPlace := ["internal/bytealg.abigen_runtime_cmpstring"], unfollowed := true, recurses := true, apart := false }
def ExplainReasonsAreMinimalSaid : Prop := explainReasonsAreMinimalRow.holds Try.pinned (OpenSpec.ofChange explainReasonsAreMinimalSpec)

/-- ITS FALSE NEIGHBOUR: 'it returns false'. Refute it at one input. -/
def explainReasonsAreMinimalWrong : ChangeSpec := { name := "explainReasonsAreMinimal", fn := fun _ => fun
  | [d1, d2] => { results := [.lit (.bool false)], args := [d1, d2] }
  | _ => none }
def ExplainReasonsAreMinimalWrongFalsely : Prop := explainReasonsAreMinimalRow.holds Try.pinned (OpenSpec.ofChange explainReasonsAreMinimalWrong)

/-- 'changeforgelaw6.ExplainReasonsExist': WHATEVER THE INPUT: true; the input reads as it did. -/
def explainReasonsExistSpec : ChangeSpec := { name := "explainReasonsExist", fn := fun _ => fun
  | [d1, d2] => { results := [.lit (.bool true)], args := [d1, d2] }
  | _ => none }
def explainReasonsExistRow : OpenClaim := { program := "ytfdennmaeoahgaa", sum := "fd29ce3419b488aed56d561bc83d36c473b985003fb63a8d834164eb107d47cc", func := "changeforge/changeforgelaw6.ExplainReasonsExist", spec := "explainReasonsExist", inPlace := ["internal/bytealg.abigen_runtime_cmpstring"], unfollowed := true, recurses := true, apart := false }
def ExplainReasonsExistSaid : Prop := explainReasonsExistRow.holds Try.pinned (OpenSpec.ofChange explainReasonsExistSpec)

/-- ITS FALSE NEIGHBOUR: 'it returns false'. Refute it at one input. -/
def explainReasonsExistWrong : ChangeSpec := { name := "explainReasonsExist", fn := fun _ => fun
  | [d1, d2] => { results := [.lit (.bool false)], args := [d1, d2] }
  | _ => none }
def ExplainReasonsExistWrongFalsely : Prop := explainReasonsExistRow.holds Try.pinned (OpenSpec.ofChange explainReasonsExistWrong)

/-- 'changeforgelaw6.ExplainKeepingAllChangesNothing': WHATEVER THE INPUT: true; the input reads as it did. -/
def explainKeepingAllChangesNothingSpec : ChangeSpec := { name := "explainKeepingAllChangesNothing", fn := fun _ => fun
  | [d1, d2] => { results := [.lit (.bool true)], args := [d1, d2] }
  | _ => none }
def explainKeepingAllChangesNothingRow : OpenClaim := { program := "ytfdennmaeoahgaa", sum := "fd29ce3419b488aed56d561bc83d36c473b985003fb63a8d834164eb107d47cc", func := "changeforge/changeforgelaw6.ExplainKeepingAllChangesNothing", spec := "explainKeepingAllChangesNothing", inPlace := ["internal/bytealg.abigen_runtime_cmpstring"], unfollowed := true, recurses := true, apart := false }
def ExplainKeepingAllChangesNothingSaid : Prop := explainKeepingAllChangesNothingRow.holds Try.pinned (OpenSpec.ofChange explainKeepingAllChangesNothingSpec)

/-- ITS FALSE NEIGHBOUR: 'it returns false'. Refute it at one input. -/
def explainKeepingAllChangesNothingWrong : ChangeSpec := { name := "explainKeepingAllChangesNothing", fn := fun _ => fun
  | [d1, d2] => { results := [.lit (.bool false)], args := [d1, d2] }
  | _ => none }
def ExplainKeepingAllChangesNothingWrongFalsely : Prop := explainKeepingAllChangesNothingRow.holds Try.pinned (OpenSpec.ofChange explainKeepingAllChangesNothingWrong)

/-- 'changeforgelaw6.ExplainFewerConstraintsAreEasier': WHATEVER THE INPUT: true; the input reads as it did. -/
def explainFewerConstraintsAreEasierSpec : ChangeSpec := { name := "explainFewerConstraintsAreEasier", fn := fun _ => fun
  | [d1, d2, d3, d4] => { results := [.lit (.bool true)], args := [d1, d2, d3, d4] }
  | _ => none }
def explainFewerConstraintsAreEasierRow : OpenClaim := { program := "ytfdennmaeoahgaa", sum := "fd29ce3419b488aed56d561bc83d36c473b985003fb63a8d834164eb107d47cc", func := "changeforge/changeforgelaw6.ExplainFewerConstraintsAreEasier", spec := "explainFewerConstraintsAreEasier", inPlace := ["internal/bytealg.abigen_runtime_cmpstring"], unfollowed := true, recurses := true, apart := false }
def ExplainFewerConstraintsAreEasierSaid : Prop := explainFewerConstraintsAreEasierRow.holds Try.pinned (OpenSpec.ofChange explainFewerConstraintsAreEasierSpec)

/-- ITS FALSE NEIGHBOUR: 'it returns false'. Refute it at one input. -/
def explainFewerConstraintsAreEasierWrong : ChangeSpec := { name := "explainFewerConstraintsAreEasier", fn := fun _ => fun
  | [d1, d2, d3, d4] => { results := [.lit (.bool false)], args := [d1, d2, d3, d4] }
  | _ => none }
def ExplainFewerConstraintsAreEasierWrongFalsely : Prop := explainFewerConstraintsAreEasierRow.holds Try.pinned (OpenSpec.ofChange explainFewerConstraintsAreEasierWrong)

/- THE SECOND FORM. 'bulk': how many values and letters a reading holds, each counted each time it is reached (what is shared counts as often as it is met; a slice's spare places count too). A statement '..UptoSaid' is the law's where the arguments, and the package variables that the reading takes, are together of bulk at most 1048576: NARROWER than '..Said'. Prove '..Said' where nothing that the law and all that it calls make is longer than what came in: it says more and counts as full. Else prove '..UptoSaid'. A law counts once. -/
mutual
def uptoBulk {H : Type} : DataW H → Nat
  | .lit (.string bytes) => bytes.length + 1
  | .lit _ => 1
  | .nil => 1
  | .ptr d => uptoBulk d + 1
  | .slice elems spare => uptoBulkAll elems + uptoBulkAll spare + 1
  | .agg parts => uptoBulkAll parts + 1
  | .iface _ d => uptoBulk d + 1
  | .map entries => uptoBulkEntries entries + 1
  | .held _ => 1
def uptoBulkAll {H : Type} : List (DataW H) → Nat
  | [] => 0
  | d :: r => uptoBulk d + uptoBulkAll r
def uptoBulkEntries {H : Type} : List (Lit × DataW H) → Nat
  | [] => 0
  | x :: r => uptoBulkEntry x + uptoBulkEntries r
def uptoBulkEntry {H : Type} : Lit × DataW H → Nat
  | (.string bytes, d) => bytes.length + uptoBulk d + 1
  | (_, d) => uptoBulk d + 1
 end
def uptoSmall : (H : Type) → List (DataW H) → Bool := fun _ ds => decide (uptoBulkAll ds ≤ 1048576)
def OpenSpec.upto (s : _root_.Go.ChangeSpec) : _root_.Go.OpenSpec := { _root_.Go.OpenSpec.ofChange s with cond := some uptoSmall }

/-- 'changeforgelaw6.ExplainMatchesSpec', WHERE WHAT IT READS IS OF BULK AT MOST 1048576: true; the input reads as it did. -/
def explainMatchesSpecUptoRow : OpenClaim := { program := "ytfdennmaeoahgaa", sum := "fd29ce3419b488aed56d561bc83d36c473b985003fb63a8d834164eb107d47cc", func := "changeforge/changeforgelaw6.ExplainMatchesSpec", spec := "explainMatchesSpec", inPlace := ["internal/bytealg.abigen_runtime_cmpstring"], unfollowed := true, recurses := true, apart := false, narrowed := true }
def ExplainMatchesSpecUptoSaid : Prop := explainMatchesSpecUptoRow.holds Try.pinned (OpenSpec.upto explainMatchesSpecSpec)

/-- 'changeforgelaw6.ExplainReasonMatchesSpec', WHERE WHAT IT READS IS OF BULK AT MOST 1048576: true; the input reads as it did. -/
def explainReasonMatchesSpecUptoRow : OpenClaim := { program := "ytfdennmaeoahgaa", sum := "fd29ce3419b488aed56d561bc83d36c473b985003fb63a8d834164eb107d47cc", func := "changeforge/changeforgelaw6.ExplainReasonMatchesSpec", spec := "explainReasonMatchesSpec", inPlace := ["internal/bytealg.abigen_runtime_cmpstring"], unfollowed := true, recurses := true, apart := false, narrowed := true }
def ExplainReasonMatchesSpecUptoSaid : Prop := explainReasonMatchesSpecUptoRow.holds Try.pinned (OpenSpec.upto explainReasonMatchesSpecSpec)

/-- 'changeforgelaw6.ExplainReasonsAreMinimal', WHERE WHAT IT READS IS OF BULK AT MOST 1048576: true; the input reads as it did. -/
def explainReasonsAreMinimalUptoRow : OpenClaim := { program := "ytfdennmaeoahgaa", sum := "fd29ce3419b488aed56d561bc83d36c473b985003fb63a8d834164eb107d47cc", func := "changeforge/changeforgelaw6.ExplainReasonsAreMinimal", spec := "explainReasonsAreMinimal", inPlace := ["internal/bytealg.abigen_runtime_cmpstring"], unfollowed := true, recurses := true, apart := false, narrowed := true }
def ExplainReasonsAreMinimalUptoSaid : Prop := explainReasonsAreMinimalUptoRow.holds Try.pinned (OpenSpec.upto explainReasonsAreMinimalSpec)

/-- 'changeforgelaw6.ExplainReasonsExist', WHERE WHAT IT READS IS OF BULK AT MOST 1048576: true; the input reads as it did. -/
def explainReasonsExistUptoRow : OpenClaim := { program := "ytfdennmaeoahgaa", sum := "fd29ce3419b488aed56d561bc83d36c473b985003fb63a8d834164eb107d47cc", func := "changeforge/changeforgelaw6.ExplainReasonsExist", spec := "explainReasonsExist", inPlace := ["internal/bytealg.abigen_runtime_cmpstring"], unfollowed := true, recurses := true, apart := false, narrowed := true }
def ExplainReasonsExistUptoSaid : Prop := explainReasonsExistUptoRow.holds Try.pinned (OpenSpec.upto explainReasonsExistSpec)

/-- 'changeforgelaw6.ExplainKeepingAllChangesNothing', WHERE WHAT IT READS IS OF BULK AT MOST 1048576: true; the input reads as it did. -/
def explainKeepingAllChangesNothingUptoRow : OpenClaim := { program := "ytfdennmaeoahgaa", sum := "fd29ce3419b488aed56d561bc83d36c473b985003fb63a8d834164eb107d47cc", func := "changeforge/changeforgelaw6.ExplainKeepingAllChangesNothing", spec := "explainKeepingAllChangesNothing", inPlace := ["internal/bytealg.abigen_runtime_cmpstring"], unfollowed := true, recurses := true, apart := false, narrowed := true }
def ExplainKeepingAllChangesNothingUptoSaid : Prop := explainKeepingAllChangesNothingUptoRow.holds Try.pinned (OpenSpec.upto explainKeepingAllChangesNothingSpec)

/-- 'changeforgelaw6.ExplainFewerConstraintsAreEasier', WHERE WHAT IT READS IS OF BULK AT MOST 1048576: true; the input reads as it did. -/
def explainFewerConstraintsAreEasierUptoRow : OpenClaim := { program := "ytfdennmaeoahgaa", sum := "fd29ce3419b488aed56d561bc83d36c473b985003fb63a8d834164eb107d47cc", func := "changeforge/changeforgelaw6.ExplainFewerConstraintsAreEasier", spec := "explainFewerConstraintsAreEasier", inPlace := ["internal/bytealg.abigen_runtime_cmpstring"], unfollowed := true, recurses := true, apart := false, narrowed := true }
def ExplainFewerConstraintsAreEasierUptoSaid : Prop := explainFewerConstraintsAreEasierUptoRow.holds Try.pinned (OpenSpec.upto explainFewerConstraintsAreEasierSpec)

end Rows
end Go.Proofs.Ytfdennmaeoahgaa
