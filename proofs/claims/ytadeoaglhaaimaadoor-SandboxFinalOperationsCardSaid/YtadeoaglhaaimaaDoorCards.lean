/-
  DERIVED. GIVEN WITH THE SEED: THE CARDS: each row of YtadeoaglhaaimaaDoorRows.lean that lists a variable, with what it lists TIED to the program's text (the seventh form; the later family's looks); each row that meets fmt, with fmt's text TOLD by the authors' own Lean function (tested against real Go, not proved from fmt's source: count such statements apart). THE CARD IS WHAT COUNTS. Prove the row's statement (the work); the ties are given (YtadeoaglhaaimaaDoorTie.lean); close each card by the builder's one call (the guide's Derived/Test/ToyasCard.lean, 'card_holds'). Laid BY PROGRAM, IN A SANDBOX (cutbox-door.mjs). By AI agents, Wed Nov 11 2026. No macro, syntax, notation, axiom, sorry.
-/
import Derived.Test.YtadeoaglhaaimaaDoorRows
import GoSem.ClaimSeven
namespace Go.Proofs.YtadeoaglhaaimaaDoor
namespace Rows

/-- THE TIED CARD OF 'changeforgelaw6.SandboxMatchesSpec'. -/
def sandboxMatchesSpecCard : Claim7 := { stood := { row := sandboxMatchesSpecRow, standIns := [], harness := (true, "383585decfa47b4629b36c32f40ba2eb0125679c68bebd058bcc726c18c274f4"), looks := false }, kinds := [], alts := [], laidByText := true, laidKinds := [.data, .pinned], laidTests := true, laidLooks := .later }
def SandboxMatchesSpecCardSaid : Prop := Claim7.holds Tryd.pinned (.plain (OpenSpec.ofChange sandboxMatchesSpecSpec)) sandboxMatchesSpecCard

/-- THE TIED CARD OF 'changeforgelaw6.SandboxRunMatchesSpec'. -/
def sandboxRunMatchesSpecCard : Claim7 := { stood := { row := sandboxRunMatchesSpecRow, standIns := [], harness := (true, "383585decfa47b4629b36c32f40ba2eb0125679c68bebd058bcc726c18c274f4"), looks := false }, kinds := [], alts := [], laidByText := true, laidKinds := [.data, .pinned], laidTests := true, laidLooks := .later }
def SandboxRunMatchesSpecCardSaid : Prop := Claim7.holds Tryd.pinned (.plain (OpenSpec.ofChange sandboxRunMatchesSpecSpec)) sandboxRunMatchesSpecCard

/-- THE TIED CARD OF 'changeforgelaw6.SandboxRunsAreHermetic'. -/
def sandboxRunsAreHermeticCard : Claim7 := { stood := { row := sandboxRunsAreHermeticRow, standIns := [], harness := (true, "383585decfa47b4629b36c32f40ba2eb0125679c68bebd058bcc726c18c274f4"), looks := false }, kinds := [], alts := [], laidByText := true, laidKinds := [.data, .pinned], laidTests := true, laidLooks := .later }
def SandboxRunsAreHermeticCardSaid : Prop := Claim7.holds Tryd.pinned (.plain (OpenSpec.ofChange sandboxRunsAreHermeticSpec)) sandboxRunsAreHermeticCard

/-- THE TIED CARD OF 'changeforgelaw6.SandboxUndeclaredReadsAreDenied'. -/
def sandboxUndeclaredReadsAreDeniedCard : Claim7 := { stood := { row := sandboxUndeclaredReadsAreDeniedRow, standIns := [], harness := (true, "383585decfa47b4629b36c32f40ba2eb0125679c68bebd058bcc726c18c274f4"), looks := false }, kinds := [], alts := [], laidByText := true, laidKinds := [.data, .pinned], laidTests := true, laidLooks := .later }
def SandboxUndeclaredReadsAreDeniedCardSaid : Prop := Claim7.holds Tryd.pinned (.plain (OpenSpec.ofChange sandboxUndeclaredReadsAreDeniedSpec)) sandboxUndeclaredReadsAreDeniedCard

/-- THE TIED CARD OF 'changeforgelaw6.SandboxFinalOperations'. -/
def sandboxFinalOperationsCard : Claim7 := { stood := { row := sandboxFinalOperationsRow, standIns := [], harness := (true, "383585decfa47b4629b36c32f40ba2eb0125679c68bebd058bcc726c18c274f4"), looks := false }, kinds := [], alts := [], laidByText := true, laidKinds := [.data, .pinned], laidTests := true, laidLooks := .later }
def SandboxFinalOperationsCardSaid : Prop := Claim7.holds Tryd.pinned (.plain (OpenSpec.ofChange sandboxFinalOperationsSpec)) sandboxFinalOperationsCard

/-- THE TIED CARD OF 'changeforgelaw6.SandboxExecutionsStopAtTheFirstError'. -/
def sandboxExecutionsStopAtTheFirstErrorCard : Claim7 := { stood := { row := sandboxExecutionsStopAtTheFirstErrorRow, standIns := [], harness := (true, "383585decfa47b4629b36c32f40ba2eb0125679c68bebd058bcc726c18c274f4"), looks := false }, kinds := [], alts := [], laidByText := true, laidKinds := [.data, .pinned], laidTests := true, laidLooks := .later }
def SandboxExecutionsStopAtTheFirstErrorCardSaid : Prop := Claim7.holds Tryd.pinned (.plain (OpenSpec.ofChange sandboxExecutionsStopAtTheFirstErrorSpec)) sandboxExecutionsStopAtTheFirstErrorCard

/-- THE SECOND FORM's CARD OF 'changeforgelaw6.SandboxMatchesSpec'. -/
def sandboxMatchesSpecUptoCard : Claim7 := { stood := { row := sandboxMatchesSpecUptoRow, standIns := [], harness := (true, "383585decfa47b4629b36c32f40ba2eb0125679c68bebd058bcc726c18c274f4"), looks := false }, kinds := [], alts := [], laidByText := true, laidKinds := [.data, .pinned], laidTests := true, laidLooks := .later }
def SandboxMatchesSpecUptoCardSaid : Prop := Claim7.holds Tryd.pinned (.plain (OpenSpec.upto sandboxMatchesSpecSpec)) sandboxMatchesSpecUptoCard

/-- THE SECOND FORM's CARD OF 'changeforgelaw6.SandboxRunMatchesSpec'. -/
def sandboxRunMatchesSpecUptoCard : Claim7 := { stood := { row := sandboxRunMatchesSpecUptoRow, standIns := [], harness := (true, "383585decfa47b4629b36c32f40ba2eb0125679c68bebd058bcc726c18c274f4"), looks := false }, kinds := [], alts := [], laidByText := true, laidKinds := [.data, .pinned], laidTests := true, laidLooks := .later }
def SandboxRunMatchesSpecUptoCardSaid : Prop := Claim7.holds Tryd.pinned (.plain (OpenSpec.upto sandboxRunMatchesSpecSpec)) sandboxRunMatchesSpecUptoCard

/-- THE SECOND FORM's CARD OF 'changeforgelaw6.SandboxRunsAreHermetic'. -/
def sandboxRunsAreHermeticUptoCard : Claim7 := { stood := { row := sandboxRunsAreHermeticUptoRow, standIns := [], harness := (true, "383585decfa47b4629b36c32f40ba2eb0125679c68bebd058bcc726c18c274f4"), looks := false }, kinds := [], alts := [], laidByText := true, laidKinds := [.data, .pinned], laidTests := true, laidLooks := .later }
def SandboxRunsAreHermeticUptoCardSaid : Prop := Claim7.holds Tryd.pinned (.plain (OpenSpec.upto sandboxRunsAreHermeticSpec)) sandboxRunsAreHermeticUptoCard

/-- THE SECOND FORM's CARD OF 'changeforgelaw6.SandboxUndeclaredReadsAreDenied'. -/
def sandboxUndeclaredReadsAreDeniedUptoCard : Claim7 := { stood := { row := sandboxUndeclaredReadsAreDeniedUptoRow, standIns := [], harness := (true, "383585decfa47b4629b36c32f40ba2eb0125679c68bebd058bcc726c18c274f4"), looks := false }, kinds := [], alts := [], laidByText := true, laidKinds := [.data, .pinned], laidTests := true, laidLooks := .later }
def SandboxUndeclaredReadsAreDeniedUptoCardSaid : Prop := Claim7.holds Tryd.pinned (.plain (OpenSpec.upto sandboxUndeclaredReadsAreDeniedSpec)) sandboxUndeclaredReadsAreDeniedUptoCard

/-- THE SECOND FORM's CARD OF 'changeforgelaw6.SandboxFinalOperations'. -/
def sandboxFinalOperationsUptoCard : Claim7 := { stood := { row := sandboxFinalOperationsUptoRow, standIns := [], harness := (true, "383585decfa47b4629b36c32f40ba2eb0125679c68bebd058bcc726c18c274f4"), looks := false }, kinds := [], alts := [], laidByText := true, laidKinds := [.data, .pinned], laidTests := true, laidLooks := .later }
def SandboxFinalOperationsUptoCardSaid : Prop := Claim7.holds Tryd.pinned (.plain (OpenSpec.upto sandboxFinalOperationsSpec)) sandboxFinalOperationsUptoCard

/-- THE SECOND FORM's CARD OF 'changeforgelaw6.SandboxExecutionsStopAtTheFirstError'. -/
def sandboxExecutionsStopAtTheFirstErrorUptoCard : Claim7 := { stood := { row := sandboxExecutionsStopAtTheFirstErrorUptoRow, standIns := [], harness := (true, "383585decfa47b4629b36c32f40ba2eb0125679c68bebd058bcc726c18c274f4"), looks := false }, kinds := [], alts := [], laidByText := true, laidKinds := [.data, .pinned], laidTests := true, laidLooks := .later }
def SandboxExecutionsStopAtTheFirstErrorUptoCardSaid : Prop := Claim7.holds Tryd.pinned (.plain (OpenSpec.upto sandboxExecutionsStopAtTheFirstErrorSpec)) sandboxExecutionsStopAtTheFirstErrorUptoCard
end Rows
end Go.Proofs.YtadeoaglhaaimaaDoor
