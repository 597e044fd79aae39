/-
  NARROWER THAN 'FOR EVERY INPUT', by the rows' own cells (each row's printed sentence says how): SandboxMatchesSpec: laid · SandboxRunMatchesSpec: laid · SandboxRunsAreHermetic: laid · SandboxUndeclaredReadsAreDenied: laid · SandboxFinalOperations: laid · SandboxExecutionsStopAtTheFirstError: laid.
  DERIVED. THE GIVEN ROWS OF THIS SEAT. 6 by the template 'for every input the law returns true; each argument reads behind the call as it read before'; 0 by the template 'total and deterministic' (their statements: YtadeoaglhaaimaaDoorTotals.lean).
  GIVEN WITH THE SEED: the statements are not yours to turn. If you find one false, say at which input.
  Laid BY PROGRAM, IN A SANDBOX (cutbox-rows.mjs): the forced cells as the released guide's own fill.sh prints them over the translation f511a65cef3c7946… (all of the seat's roots in one cut). By AI agents, Wed Nov 11 2026. No macro, syntax, notation, axiom, sorry.
-/
import Derived.Test.YtadeoaglhaaimaaDoorChecked
import GoSem.PinnedTables
import GoSem.Claim
import GoSem.ClaimJoined
import GoSem.ClaimMapViews
import Derived.JoinedTies
import Derived.KernelRfl
namespace Go.Proofs.YtadeoaglhaaimaaDoor
/- THE CELL 'sum', in the pinned program and in every row, IS THE sha256 OF THE DUMP (.gsa) THAT YtadeoaglhaaimaaDoorProg.lean LOADS. Nothing in Lean hashes anything: it is a label: what it is worth is what the hold of that sum in a sandbox is worth. -/
noncomputable def Tryd.pinned : Pinned := { name := "ytadeoaglhaaimaadoor", sum := "f511a65cef3c7946304a01fbbffe280f09e4cb0e3d2e02b8218a9e1f5e8aa350", checked := Tryd.checked }
namespace Rows
def none {H : Type} : Left H := { results := [], args := [] }

/- WHAT THE LISTED PACKAGE-LEVEL VARIABLES READ AS WHEN THE CALL BEGINS. Each datum BY PROGRAM (the guide's laid-datum.mjs) off the statement by which the dump's own 'gosem.cut.vars' lays the variable. In a bare row this is a premise. The card (YtadeoaglhaaimaaDoorCards.lean) ties it to the program's text. -/
def laid_unicode_utf8_acceptRanges {H : Type} : DataW H := .agg [.agg [.lit (.int .u8 128), .lit (.int .u8 191)], .agg [.lit (.int .u8 160), .lit (.int .u8 191)], .agg [.lit (.int .u8 128), .lit (.int .u8 159)], .agg [.lit (.int .u8 144), .lit (.int .u8 191)], .agg [.lit (.int .u8 128), .lit (.int .u8 143)], .agg [.lit (.int .u8 0), .lit (.int .u8 0)], .agg [.lit (.int .u8 0), .lit (.int .u8 0)], .agg [.lit (.int .u8 0), .lit (.int .u8 0)], .agg [.lit (.int .u8 0), .lit (.int .u8 0)], .agg [.lit (.int .u8 0), .lit (.int .u8 0)], .agg [.lit (.int .u8 0), .lit (.int .u8 0)], .agg [.lit (.int .u8 0), .lit (.int .u8 0)], .agg [.lit (.int .u8 0), .lit (.int .u8 0)], .agg [.lit (.int .u8 0), .lit (.int .u8 0)], .agg [.lit (.int .u8 0), .lit (.int .u8 0)], .agg [.lit (.int .u8 0), .lit (.int .u8 0)]]
/-- One of Go's own tables, pinned by name: the form's constant. -/
def laid_unicode_utf8_first : DataW Unit := Go.Pinned.utf8First

/-- 'changeforgelaw6.SandboxMatchesSpec': WHATEVER THE INPUT: true; the input reads as it did. -/
def sandboxMatchesSpecSpec : ChangeSpec := { name := "sandboxMatchesSpec", fn := fun _ => fun
  | [d1, d2] => { results := [.lit (.bool true)], args := [d1, d2] }
  | _ => none }
def sandboxMatchesSpecRow : OpenClaim := { program := "ytadeoaglhaaimaadoor", sum := "f511a65cef3c7946304a01fbbffe280f09e4cb0e3d2e02b8218a9e1f5e8aa350", func := "changeforge/changeforgelaw6.SandboxMatchesSpec", spec := "sandboxMatchesSpec", inPlace := ["internal/bytealg.IndexByteString", "internal/bytealg.IndexString", "internal/bytealg.abigen_runtime_cmpstring"], unfollowed := true, recurses := true, named := ["unicode/utf8.first", "unicode/utf8.acceptRanges", "internal/bytealg.MaxLen"], apart := false, laid := [("unicode/utf8.acceptRanges", laid_unicode_utf8_acceptRanges), ("unicode/utf8.first", laid_unicode_utf8_first)] }
def SandboxMatchesSpecSaid : Prop := sandboxMatchesSpecRow.holds Tryd.pinned (OpenSpec.ofChange sandboxMatchesSpecSpec)

/-- ITS FALSE NEIGHBOUR: 'it returns false'. Refute it at one input. -/
def sandboxMatchesSpecWrong : ChangeSpec := { name := "sandboxMatchesSpec", fn := fun _ => fun
  | [d1, d2] => { results := [.lit (.bool false)], args := [d1, d2] }
  | _ => none }
def SandboxMatchesSpecWrongFalsely : Prop := sandboxMatchesSpecRow.holds Tryd.pinned (OpenSpec.ofChange sandboxMatchesSpecWrong)

/-- 'changeforgelaw6.SandboxRunMatchesSpec': WHATEVER THE INPUT: true; the input reads as it did. -/
def sandboxRunMatchesSpecSpec : ChangeSpec := { name := "sandboxRunMatchesSpec", fn := fun _ => fun
  | [d1, d2] => { results := [.lit (.bool true)], args := [d1, d2] }
  | _ => none }
def sandboxRunMatchesSpecRow : OpenClaim := { program := "ytadeoaglhaaimaadoor", sum := "f511a65cef3c7946304a01fbbffe280f09e4cb0e3d2e02b8218a9e1f5e8aa350", func := "changeforge/changeforgelaw6.SandboxRunMatchesSpec", spec := "sandboxRunMatchesSpec", inPlace := ["internal/bytealg.IndexByteString", "internal/bytealg.IndexString", "internal/bytealg.abigen_runtime_cmpstring"], unfollowed := true, recurses := true, named := ["unicode/utf8.first", "unicode/utf8.acceptRanges", "internal/bytealg.MaxLen"], apart := false, laid := [("unicode/utf8.acceptRanges", laid_unicode_utf8_acceptRanges), ("unicode/utf8.first", laid_unicode_utf8_first)] }
def SandboxRunMatchesSpecSaid : Prop := sandboxRunMatchesSpecRow.holds Tryd.pinned (OpenSpec.ofChange sandboxRunMatchesSpecSpec)

/-- ITS FALSE NEIGHBOUR: 'it returns false'. Refute it at one input. -/
def sandboxRunMatchesSpecWrong : ChangeSpec := { name := "sandboxRunMatchesSpec", fn := fun _ => fun
  | [d1, d2] => { results := [.lit (.bool false)], args := [d1, d2] }
  | _ => none }
def SandboxRunMatchesSpecWrongFalsely : Prop := sandboxRunMatchesSpecRow.holds Tryd.pinned (OpenSpec.ofChange sandboxRunMatchesSpecWrong)

/-- 'changeforgelaw6.SandboxRunsAreHermetic': WHATEVER THE INPUT: true; the input reads as it did. -/
def sandboxRunsAreHermeticSpec : ChangeSpec := { name := "sandboxRunsAreHermetic", fn := fun _ => fun
  | [d1, d2] => { results := [.lit (.bool true)], args := [d1, d2] }
  | _ => none }
def sandboxRunsAreHermeticRow : OpenClaim := { program := "ytadeoaglhaaimaadoor", sum := "f511a65cef3c7946304a01fbbffe280f09e4cb0e3d2e02b8218a9e1f5e8aa350", func := "changeforge/changeforgelaw6.SandboxRunsAreHermetic", spec := "sandboxRunsAreHermetic", inPlace := ["internal/bytealg.IndexByteString", "internal/bytealg.IndexString", "internal/bytealg.abigen_runtime_cmpstring"], unfollowed := true, recurses := true, named := ["unicode/utf8.first", "unicode/utf8.acceptRanges", "internal/bytealg.MaxLen"], apart := false, laid := [("unicode/utf8.acceptRanges", laid_unicode_utf8_acceptRanges), ("unicode/utf8.first", laid_unicode_utf8_first)] }
def SandboxRunsAreHermeticSaid : Prop := sandboxRunsAreHermeticRow.holds Tryd.pinned (OpenSpec.ofChange sandboxRunsAreHermeticSpec)

/-- ITS FALSE NEIGHBOUR: 'it returns false'. Refute it at one input. -/
def sandboxRunsAreHermeticWrong : ChangeSpec := { name := "sandboxRunsAreHermetic", fn := fun _ => fun
  | [d1, d2] => { results := [.lit (.bool false)], args := [d1, d2] }
  | _ => none }
def SandboxRunsAreHermeticWrongFalsely : Prop := sandboxRunsAreHermeticRow.holds Tryd.pinned (OpenSpec.ofChange sandboxRunsAreHermeticWrong)

/-- 'changeforgelaw6.SandboxUndeclaredReadsAreDenied': WHATEVER THE INPUT: true; the input reads as it did. -/
def sandboxUndeclaredReadsAreDeniedSpec : ChangeSpec := { name := "sandboxUndeclaredReadsAreDenied", fn := fun _ => fun
  | [d1, d2] => { results := [.lit (.bool true)], args := [d1, d2] }
  | _ => none }
def sandboxUndeclaredReadsAreDeniedRow : OpenClaim := { program := "ytadeoaglhaaimaadoor", sum := "f511a65cef3c7946304a01fbbffe280f09e4cb0e3d2e02b8218a9e1f5e8aa350", func := "changeforge/changeforgelaw6.SandboxUndeclaredReadsAreDenied", spec := "sandboxUndeclaredReadsAreDenied", inPlace := ["internal/bytealg.IndexByteString", "internal/bytealg.IndexString", "internal/bytealg.abigen_runtime_cmpstring"], unfollowed := true, recurses := true, named := ["unicode/utf8.first", "unicode/utf8.acceptRanges", "internal/bytealg.MaxLen"], apart := false, laid := [("unicode/utf8.acceptRanges", laid_unicode_utf8_acceptRanges), ("unicode/utf8.first", laid_unicode_utf8_first)] }
def SandboxUndeclaredReadsAreDeniedSaid : Prop := sandboxUndeclaredReadsAreDeniedRow.holds Tryd.pinned (OpenSpec.ofChange sandboxUndeclaredReadsAreDeniedSpec)

/-- ITS FALSE NEIGHBOUR: 'it returns false'. Refute it at one input. -/
def sandboxUndeclaredReadsAreDeniedWrong : ChangeSpec := { name := "sandboxUndeclaredReadsAreDenied", fn := fun _ => fun
  | [d1, d2] => { results := [.lit (.bool false)], args := [d1, d2] }
  | _ => none }
def SandboxUndeclaredReadsAreDeniedWrongFalsely : Prop := sandboxUndeclaredReadsAreDeniedRow.holds Tryd.pinned (OpenSpec.ofChange sandboxUndeclaredReadsAreDeniedWrong)

/-- 'changeforgelaw6.SandboxFinalOperations': WHATEVER THE INPUT: true; the input reads as it did. -/
def sandboxFinalOperationsSpec : ChangeSpec := { name := "sandboxFinalOperations", fn := fun _ => fun
  | [d1, d2] => { results := [.lit (.bool true)], args := [d1, d2] }
  | _ => none }
def sandboxFinalOperationsRow : OpenClaim := { program := "ytadeoaglhaaimaadoor", sum := "f511a65cef3c7946304a01fbbffe280f09e4cb0e3d2e02b8218a9e1f5e8aa350", func := "changeforge/changeforgelaw6.SandboxFinalOperations", spec := "sandboxFinalOperations", inPlace := ["internal/bytealg.IndexByteString", "internal/bytealg.IndexString", "internal/bytealg.abigen_runtime_cmpstring"], unfollowed := true, recurses := true, named := ["unicode/utf8.first", "unicode/utf8.acceptRanges", "internal/bytealg.MaxLen"], apart := false, laid := [("unicode/utf8.acceptRanges", laid_unicode_utf8_acceptRanges), ("unicode/utf8.first", laid_unicode_utf8_first)] }
def SandboxFinalOperationsSaid : Prop := sandboxFinalOperationsRow.holds Tryd.pinned (OpenSpec.ofChange sandboxFinalOperationsSpec)

/-- ITS FALSE NEIGHBOUR: 'it returns false'. Refute it at one input. -/
def sandboxFinalOperationsWrong : ChangeSpec := { name := "sandboxFinalOperations", fn := fun _ => fun
  | [d1, d2] => { results := [.lit (.bool false)], args := [d1, d2] }
  | _ => none }
def SandboxFinalOperationsWrongFalsely : Prop := sandboxFinalOperationsRow.holds Tryd.pinned (OpenSpec.ofChange sandboxFinalOperationsWrong)

/-- 'changeforgelaw6.SandboxExecutionsStopAtTheFirstError': WHATEVER THE INPUT: true; the input reads as it did. -/
def sandboxExecutionsStopAtTheFirstErrorSpec : ChangeSpec := { name := "sandboxExecutionsStopAtTheFirstError", fn := fun _ => fun
  | [d1, d2, d3] => { results := [.lit (.bool true)], args := [d1, d2, d3] }
  | _ => none }
def sandboxExecutionsStopAtTheFirstErrorRow : OpenClaim := { program := "ytadeoaglhaaimaadoor", sum := "f511a65cef3c7946304a01fbbffe280f09e4cb0e3d2e02b8218a9e1f5e8aa350", func := "changeforge/changeforgelaw6.SandboxExecutionsStopAtTheFirstError", spec := "sandboxExecutionsStopAtTheFirstError", inPlace := ["internal/bytealg.IndexByteString", "internal/bytealg.IndexString", "internal/bytealg.abigen_runtime_cmpstring"], unfollowed := true, recurses := true, named := ["unicode/utf8.first", "unicode/utf8.acceptRanges", "internal/bytealg.MaxLen"], apart := false, laid := [("unicode/utf8.acceptRanges", laid_unicode_utf8_acceptRanges), ("unicode/utf8.first", laid_unicode_utf8_first)] }
def SandboxExecutionsStopAtTheFirstErrorSaid : Prop := sandboxExecutionsStopAtTheFirstErrorRow.holds Tryd.pinned (OpenSpec.ofChange sandboxExecutionsStopAtTheFirstErrorSpec)

/-- ITS FALSE NEIGHBOUR: 'it returns false'. Refute it at one input. -/
def sandboxExecutionsStopAtTheFirstErrorWrong : ChangeSpec := { name := "sandboxExecutionsStopAtTheFirstError", fn := fun _ => fun
  | [d1, d2, d3] => { results := [.lit (.bool false)], args := [d1, d2, d3] }
  | _ => none }
def SandboxExecutionsStopAtTheFirstErrorWrongFalsely : Prop := sandboxExecutionsStopAtTheFirstErrorRow.holds Tryd.pinned (OpenSpec.ofChange sandboxExecutionsStopAtTheFirstErrorWrong)

/- THE SECOND FORM. 'bulk': how many values and letters a reading holds, each counted each time it is reached (what is shared counts as often as it is met; a slice's spare places count too). A statement '..UptoSaid' is the law's where the arguments, and the package variables that the reading takes, are together of bulk at most 1048576: NARROWER than '..Said'. Prove '..Said' where nothing that the law and all that it calls make is longer than what came in: it says more and counts as full. Else prove '..UptoSaid'. A law counts once. -/
mutual
def uptoBulk {H : Type} : DataW H → Nat
  | .lit (.string bytes) => bytes.length + 1
  | .lit _ => 1
  | .nil => 1
  | .ptr d => uptoBulk d + 1
  | .slice elems spare => uptoBulkAll elems + uptoBulkAll spare + 1
  | .agg parts => uptoBulkAll parts + 1
  | .iface _ d => uptoBulk d + 1
  | .map entries => uptoBulkEntries entries + 1
  | .held _ => 1
def uptoBulkAll {H : Type} : List (DataW H) → Nat
  | [] => 0
  | d :: r => uptoBulk d + uptoBulkAll r
def uptoBulkEntries {H : Type} : List (Lit × DataW H) → Nat
  | [] => 0
  | x :: r => uptoBulkEntry x + uptoBulkEntries r
def uptoBulkEntry {H : Type} : Lit × DataW H → Nat
  | (.string bytes, d) => bytes.length + uptoBulk d + 1
  | (_, d) => uptoBulk d + 1
 end
def uptoSmall : (H : Type) → List (DataW H) → Bool := fun _ ds => decide (uptoBulkAll ds ≤ 1048576)
def OpenSpec.upto (s : _root_.Go.ChangeSpec) : _root_.Go.OpenSpec := { _root_.Go.OpenSpec.ofChange s with cond := some uptoSmall }

/-- 'changeforgelaw6.SandboxMatchesSpec', WHERE WHAT IT READS IS OF BULK AT MOST 1048576: true; the input reads as it did. -/
def sandboxMatchesSpecUptoRow : OpenClaim := { program := "ytadeoaglhaaimaadoor", sum := "f511a65cef3c7946304a01fbbffe280f09e4cb0e3d2e02b8218a9e1f5e8aa350", func := "changeforge/changeforgelaw6.SandboxMatchesSpec", spec := "sandboxMatchesSpec", inPlace := ["internal/bytealg.IndexByteString", "internal/bytealg.IndexString", "internal/bytealg.abigen_runtime_cmpstring"], unfollowed := true, recurses := true, named := ["unicode/utf8.first", "unicode/utf8.acceptRanges", "internal/bytealg.MaxLen"], apart := false, laid := [("unicode/utf8.acceptRanges", laid_unicode_utf8_acceptRanges), ("unicode/utf8.first", laid_unicode_utf8_first)], narrowed := true }
def SandboxMatchesSpecUptoSaid : Prop := sandboxMatchesSpecUptoRow.holds Tryd.pinned (OpenSpec.upto sandboxMatchesSpecSpec)

/-- 'changeforgelaw6.SandboxRunMatchesSpec', WHERE WHAT IT READS IS OF BULK AT MOST 1048576: true; the input reads as it did. -/
def sandboxRunMatchesSpecUptoRow : OpenClaim := { program := "ytadeoaglhaaimaadoor", sum := "f511a65cef3c7946304a01fbbffe280f09e4cb0e3d2e02b8218a9e1f5e8aa350", func := "changeforge/changeforgelaw6.SandboxRunMatchesSpec", spec := "sandboxRunMatchesSpec", inPlace := ["internal/bytealg.IndexByteString", "internal/bytealg.IndexString", "internal/bytealg.abigen_runtime_cmpstring"], unfollowed := true, recurses := true, named := ["unicode/utf8.first", "unicode/utf8.acceptRanges", "internal/bytealg.MaxLen"], apart := false, laid := [("unicode/utf8.acceptRanges", laid_unicode_utf8_acceptRanges), ("unicode/utf8.first", laid_unicode_utf8_first)], narrowed := true }
def SandboxRunMatchesSpecUptoSaid : Prop := sandboxRunMatchesSpecUptoRow.holds Tryd.pinned (OpenSpec.upto sandboxRunMatchesSpecSpec)

/-- 'changeforgelaw6.SandboxRunsAreHermetic', WHERE WHAT IT READS IS OF BULK AT MOST 1048576: true; the input reads as it did. -/
def sandboxRunsAreHermeticUptoRow : OpenClaim := { program := "ytadeoaglhaaimaadoor", sum := "f511a65cef3c7946304a01fbbffe280f09e4cb0e3d2e02b8218a9e1f5e8aa350", func := "changeforge/changeforgelaw6.SandboxRunsAreHermetic", spec := "sandboxRunsAreHermetic", inPlace := ["internal/bytealg.IndexByteString", "internal/bytealg.IndexString", "internal/bytealg.abigen_runtime_cmpstring"], unfollowed := true, recurses := true, named := ["unicode/utf8.first", "unicode/utf8.acceptRanges", "internal/bytealg.MaxLen"], apart := false, laid := [("unicode/utf8.acceptRanges", laid_unicode_utf8_acceptRanges), ("unicode/utf8.first", laid_unicode_utf8_first)], narrowed := true }
def SandboxRunsAreHermeticUptoSaid : Prop := sandboxRunsAreHermeticUptoRow.holds Tryd.pinned (OpenSpec.upto sandboxRunsAreHermeticSpec)

/-- 'changeforgelaw6.SandboxUndeclaredReadsAreDenied', WHERE WHAT IT READS IS OF BULK AT MOST 1048576: true; the input reads as it did. -/
def sandboxUndeclaredReadsAreDeniedUptoRow : OpenClaim := { program := "ytadeoaglhaaimaadoor", sum := "f511a65cef3c7946304a01fbbffe280f09e4cb0e3d2e02b8218a9e1f5e8aa350", func := "changeforge/changeforgelaw6.SandboxUndeclaredReadsAreDenied", spec := "sandboxUndeclaredReadsAreDenied", inPlace := ["internal/bytealg.IndexByteString", "internal/bytealg.IndexString", "internal/bytealg.abigen_runtime_cmpstring"], unfollowed := true, recurses := true, named := ["unicode/utf8.first", "unicode/utf8.acceptRanges", "internal/bytealg.MaxLen"], apart := false, laid := [("unicode/utf8.acceptRanges", laid_unicode_utf8_acceptRanges), ("unicode/utf8.first", laid_unicode_utf8_first)], narrowed := true }
def SandboxUndeclaredReadsAreDeniedUptoSaid : Prop := sandboxUndeclaredReadsAreDeniedUptoRow.holds Tryd.pinned (OpenSpec.upto sandboxUndeclaredReadsAreDeniedSpec)

/-- 'changeforgelaw6.SandboxFinalOperations', WHERE WHAT IT READS IS OF BULK AT MOST 1048576: true; the input reads as it did. -/
def sandboxFinalOperationsUptoRow : OpenClaim := { program := "ytadeoaglhaaimaadoor", sum := "f511a65cef3c7946304a01fbbffe280f09e4cb0e3d2e02b8218a9e1f5e8aa350", func := "changeforge/changeforgelaw6.SandboxFinalOperations", spec := "sandboxFinalOperations", inPlace := ["internal/bytealg.IndexByteString", "internal/bytealg.IndexString", "internal/bytealg.abigen_runtime_cmpstring"], unfollowed := true, recurses := true, named := ["unicode/utf8.first", "unicode/utf8.acceptRanges", "internal/bytealg.MaxLen"], apart := false, laid := [("unicode/utf8.acceptRanges", laid_unicode_utf8_acceptRanges), ("unicode/utf8.first", laid_unicode_utf8_first)], narrowed := true }
def SandboxFinalOperationsUptoSaid : Prop := sandboxFinalOperationsUptoRow.holds Tryd.pinned (OpenSpec.upto sandboxFinalOperationsSpec)

/-- 'changeforgelaw6.SandboxExecutionsStopAtTheFirstError', WHERE WHAT IT READS IS OF BULK AT MOST 1048576: true; the input reads as it did. -/
def sandboxExecutionsStopAtTheFirstErrorUptoRow : OpenClaim := { program := "ytadeoaglhaaimaadoor", sum := "f511a65cef3c7946304a01fbbffe280f09e4cb0e3d2e02b8218a9e1f5e8aa350", func := "changeforge/changeforgelaw6.SandboxExecutionsStopAtTheFirstError", spec := "sandboxExecutionsStopAtTheFirstError", inPlace := ["internal/bytealg.IndexByteString", "internal/bytealg.IndexString", "internal/bytealg.abigen_runtime_cmpstring"], unfollowed := true, recurses := true, named := ["unicode/utf8.first", "unicode/utf8.acceptRanges", "internal/bytealg.MaxLen"], apart := false, laid := [("unicode/utf8.acceptRanges", laid_unicode_utf8_acceptRanges), ("unicode/utf8.first", laid_unicode_utf8_first)], narrowed := true }
def SandboxExecutionsStopAtTheFirstErrorUptoSaid : Prop := sandboxExecutionsStopAtTheFirstErrorUptoRow.holds Tryd.pinned (OpenSpec.upto sandboxExecutionsStopAtTheFirstErrorSpec)

end Rows
end Go.Proofs.YtadeoaglhaaimaaDoor
