/-
  DERIVED. GIVEN WITH THE SEED: THE CARDS: each row of YtjmmlddioeehbaaGreatDoorRows.lean that lists a variable, with what it lists TIED to the program's text (the seventh form; the later family's looks); each row that meets fmt, with fmt's text TOLD by the authors' own Lean function (tested against real Go, not proved from fmt's source: count such statements apart). THE CARD IS WHAT COUNTS. Prove the row's statement (the work); the ties are given (YtjmmlddioeehbaaGreatDoorTie.lean); close each card by the builder's one call (the guide's Derived/Test/ToyasCard.lean, 'card_holds'). Laid BY PROGRAM, IN A SANDBOX (cutbox-door.mjs). By AI agents, Wed Nov 11 2026. No macro, syntax, notation, axiom, sorry.
-/
import Derived.Test.YtjmmlddioeehbaaGreatDoorRows
import GoSem.ClaimSeven
namespace Go.Proofs.YtjmmlddioeehbaaGreatDoor
namespace Rows

/-- THE TIED CARD OF 'changeforgetop.TopStacksSurviveTransport'. -/
def topStacksSurviveTransportCard : Claim7 := { stood := { row := topStacksSurviveTransportRow, standIns := [], harness := (true, "c6a22df27b8d3f3abdaab499b33662b898e0514b434b8bac1159bb451f6ebd27"), looks := true }, kinds := [], alts := [], laidByText := true, laidKinds := [.data, .data, .data, .data, .sentinel, .sentinel, .pinned], laidTests := true, laidLooks := .later }
def TopStacksSurviveTransportCardSaid : Prop := Claim7.holds Tryz.pinned (.plain (OpenSpec.ofChange topStacksSurviveTransportSpec)) topStacksSurviveTransportCard

/-- THE SECOND FORM's CARD OF 'changeforgetop.TopStacksSurviveTransport'. -/
def topStacksSurviveTransportUptoCard : Claim7 := { stood := { row := topStacksSurviveTransportUptoRow, standIns := [], harness := (true, "c6a22df27b8d3f3abdaab499b33662b898e0514b434b8bac1159bb451f6ebd27"), looks := true }, kinds := [], alts := [], laidByText := true, laidKinds := [.data, .data, .data, .data, .sentinel, .sentinel, .pinned], laidTests := true, laidLooks := .later }
def TopStacksSurviveTransportUptoCardSaid : Prop := Claim7.holds Tryz.pinned (.plain (OpenSpec.upto topStacksSurviveTransportSpec)) topStacksSurviveTransportUptoCard
end Rows
end Go.Proofs.YtjmmlddioeehbaaGreatDoor
