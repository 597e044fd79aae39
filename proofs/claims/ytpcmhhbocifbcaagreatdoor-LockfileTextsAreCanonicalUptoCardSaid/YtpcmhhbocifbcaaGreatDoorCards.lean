/-
  DERIVED. GIVEN WITH THE SEED: THE CARDS: each row of YtpcmhhbocifbcaaGreatDoorRows.lean that lists a variable, with what it lists TIED to the program's text (the seventh form; the later family's looks); each row that meets fmt, with fmt's text TOLD by the authors' own Lean function (tested against real Go, not proved from fmt's source: count such statements apart). THE CARD IS WHAT COUNTS. Prove the row's statement (the work); the ties are given (YtpcmhhbocifbcaaGreatDoorTie.lean); close each card by the builder's one call (the guide's Derived/Test/ToyasCard.lean, 'card_holds'). Laid BY PROGRAM, IN A SANDBOX (cutbox-door.mjs). By AI agents, Wed Nov 11 2026. No macro, syntax, notation, axiom, sorry.
-/
import Derived.Test.YtpcmhhbocifbcaaGreatDoorRows
import GoSem.ClaimSeven
namespace Go.Proofs.YtpcmhhbocifbcaaGreatDoor
namespace Rows

/-- THE TIED CARD OF 'changeforgelaw6.LockfileMatchesSpec'. -/
def lockfileMatchesSpecCard : Claim7 := { stood := { row := lockfileMatchesSpecRow, standIns := [], harness := (true, "cc0c90b5fdc23d121c5431adac35ddd7de37a0056b3d5c13b3b37820f47944f3"), looks := true }, kinds := [], alts := [], laidByText := true, laidKinds := [.data, .data, .data, .data, .sentinel, .sentinel, .pinned], laidTests := true, laidLooks := .later }
def LockfileMatchesSpecCardSaid : Prop := Claim7.holds Tryz.pinned (.plain (OpenSpec.ofChange lockfileMatchesSpecSpec)) lockfileMatchesSpecCard

/-- THE TIED CARD OF 'changeforgelaw6.LockfileMakeMatchesSpec'. -/
def lockfileMakeMatchesSpecCard : Claim7 := { stood := { row := lockfileMakeMatchesSpecRow, standIns := [], harness := (true, "cc0c90b5fdc23d121c5431adac35ddd7de37a0056b3d5c13b3b37820f47944f3"), looks := true }, kinds := [], alts := [], laidByText := true, laidKinds := [.data, .data, .data, .data, .sentinel, .sentinel, .pinned], laidTests := true, laidLooks := .later }
def LockfileMakeMatchesSpecCardSaid : Prop := Claim7.holds Tryz.pinned (.plain (OpenSpec.ofChange lockfileMakeMatchesSpecSpec)) lockfileMakeMatchesSpecCard

/-- THE TIED CARD OF 'changeforgelaw6.LockfileTextMatchesSpec'. -/
def lockfileTextMatchesSpecCard : Claim7 := { stood := { row := lockfileTextMatchesSpecRow, standIns := [], harness := (true, "cc0c90b5fdc23d121c5431adac35ddd7de37a0056b3d5c13b3b37820f47944f3"), looks := true }, kinds := [], alts := [], laidByText := true, laidKinds := [.data, .data, .data, .data, .sentinel, .sentinel, .pinned], laidTests := true, laidLooks := .later }
def LockfileTextMatchesSpecCardSaid : Prop := Claim7.holds Tryz.pinned (.plain (OpenSpec.ofChange lockfileTextMatchesSpecSpec)) lockfileTextMatchesSpecCard

/-- THE TIED CARD OF 'changeforgelaw6.LockfileTextsAreCanonical'. -/
def lockfileTextsAreCanonicalCard : Claim7 := { stood := { row := lockfileTextsAreCanonicalRow, standIns := [], harness := (true, "cc0c90b5fdc23d121c5431adac35ddd7de37a0056b3d5c13b3b37820f47944f3"), looks := true }, kinds := [], alts := [], laidByText := true, laidKinds := [.data, .data, .data, .data, .sentinel, .sentinel, .pinned], laidTests := true, laidLooks := .later }
def LockfileTextsAreCanonicalCardSaid : Prop := Claim7.holds Tryz.pinned (.plain (OpenSpec.ofChange lockfileTextsAreCanonicalSpec)) lockfileTextsAreCanonicalCard

/-- THE TIED CARD OF 'changeforgelaw6.LockfileDriftIsADistance'. -/
def lockfileDriftIsADistanceCard : Claim7 := { stood := { row := lockfileDriftIsADistanceRow, standIns := [], harness := (true, "cc0c90b5fdc23d121c5431adac35ddd7de37a0056b3d5c13b3b37820f47944f3"), looks := true }, kinds := [], alts := [], laidByText := true, laidKinds := [.data, .data, .data, .data, .sentinel, .sentinel, .pinned], laidTests := true, laidLooks := .later }
def LockfileDriftIsADistanceCardSaid : Prop := Claim7.holds Tryz.pinned (.plain (OpenSpec.ofChange lockfileDriftIsADistanceSpec)) lockfileDriftIsADistanceCard

/-- THE TIED CARD OF 'changeforgelaw6.LockfileDriftOfSelections'. -/
def lockfileDriftOfSelectionsCard : Claim7 := { stood := { row := lockfileDriftOfSelectionsRow, standIns := [], harness := (true, "cc0c90b5fdc23d121c5431adac35ddd7de37a0056b3d5c13b3b37820f47944f3"), looks := true }, kinds := [], alts := [], laidByText := true, laidKinds := [.data, .data, .data, .data, .sentinel, .sentinel, .pinned], laidTests := true, laidLooks := .later }
def LockfileDriftOfSelectionsCardSaid : Prop := Claim7.holds Tryz.pinned (.plain (OpenSpec.ofChange lockfileDriftOfSelectionsSpec)) lockfileDriftOfSelectionsCard

/-- THE SECOND FORM's CARD OF 'changeforgelaw6.LockfileMatchesSpec'. -/
def lockfileMatchesSpecUptoCard : Claim7 := { stood := { row := lockfileMatchesSpecUptoRow, standIns := [], harness := (true, "cc0c90b5fdc23d121c5431adac35ddd7de37a0056b3d5c13b3b37820f47944f3"), looks := true }, kinds := [], alts := [], laidByText := true, laidKinds := [.data, .data, .data, .data, .sentinel, .sentinel, .pinned], laidTests := true, laidLooks := .later }
def LockfileMatchesSpecUptoCardSaid : Prop := Claim7.holds Tryz.pinned (.plain (OpenSpec.upto lockfileMatchesSpecSpec)) lockfileMatchesSpecUptoCard

/-- THE SECOND FORM's CARD OF 'changeforgelaw6.LockfileMakeMatchesSpec'. -/
def lockfileMakeMatchesSpecUptoCard : Claim7 := { stood := { row := lockfileMakeMatchesSpecUptoRow, standIns := [], harness := (true, "cc0c90b5fdc23d121c5431adac35ddd7de37a0056b3d5c13b3b37820f47944f3"), looks := true }, kinds := [], alts := [], laidByText := true, laidKinds := [.data, .data, .data, .data, .sentinel, .sentinel, .pinned], laidTests := true, laidLooks := .later }
def LockfileMakeMatchesSpecUptoCardSaid : Prop := Claim7.holds Tryz.pinned (.plain (OpenSpec.upto lockfileMakeMatchesSpecSpec)) lockfileMakeMatchesSpecUptoCard

/-- THE SECOND FORM's CARD OF 'changeforgelaw6.LockfileTextMatchesSpec'. -/
def lockfileTextMatchesSpecUptoCard : Claim7 := { stood := { row := lockfileTextMatchesSpecUptoRow, standIns := [], harness := (true, "cc0c90b5fdc23d121c5431adac35ddd7de37a0056b3d5c13b3b37820f47944f3"), looks := true }, kinds := [], alts := [], laidByText := true, laidKinds := [.data, .data, .data, .data, .sentinel, .sentinel, .pinned], laidTests := true, laidLooks := .later }
def LockfileTextMatchesSpecUptoCardSaid : Prop := Claim7.holds Tryz.pinned (.plain (OpenSpec.upto lockfileTextMatchesSpecSpec)) lockfileTextMatchesSpecUptoCard

/-- THE SECOND FORM's CARD OF 'changeforgelaw6.LockfileTextsAreCanonical'. -/
def lockfileTextsAreCanonicalUptoCard : Claim7 := { stood := { row := lockfileTextsAreCanonicalUptoRow, standIns := [], harness := (true, "cc0c90b5fdc23d121c5431adac35ddd7de37a0056b3d5c13b3b37820f47944f3"), looks := true }, kinds := [], alts := [], laidByText := true, laidKinds := [.data, .data, .data, .data, .sentinel, .sentinel, .pinned], laidTests := true, laidLooks := .later }
def LockfileTextsAreCanonicalUptoCardSaid : Prop := Claim7.holds Tryz.pinned (.plain (OpenSpec.upto lockfileTextsAreCanonicalSpec)) lockfileTextsAreCanonicalUptoCard

/-- THE SECOND FORM's CARD OF 'changeforgelaw6.LockfileDriftIsADistance'. -/
def lockfileDriftIsADistanceUptoCard : Claim7 := { stood := { row := lockfileDriftIsADistanceUptoRow, standIns := [], harness := (true, "cc0c90b5fdc23d121c5431adac35ddd7de37a0056b3d5c13b3b37820f47944f3"), looks := true }, kinds := [], alts := [], laidByText := true, laidKinds := [.data, .data, .data, .data, .sentinel, .sentinel, .pinned], laidTests := true, laidLooks := .later }
def LockfileDriftIsADistanceUptoCardSaid : Prop := Claim7.holds Tryz.pinned (.plain (OpenSpec.upto lockfileDriftIsADistanceSpec)) lockfileDriftIsADistanceUptoCard

/-- THE SECOND FORM's CARD OF 'changeforgelaw6.LockfileDriftOfSelections'. -/
def lockfileDriftOfSelectionsUptoCard : Claim7 := { stood := { row := lockfileDriftOfSelectionsUptoRow, standIns := [], harness := (true, "cc0c90b5fdc23d121c5431adac35ddd7de37a0056b3d5c13b3b37820f47944f3"), looks := true }, kinds := [], alts := [], laidByText := true, laidKinds := [.data, .data, .data, .data, .sentinel, .sentinel, .pinned], laidTests := true, laidLooks := .later }
def LockfileDriftOfSelectionsUptoCardSaid : Prop := Claim7.holds Tryz.pinned (.plain (OpenSpec.upto lockfileDriftOfSelectionsSpec)) lockfileDriftOfSelectionsUptoCard
end Rows
end Go.Proofs.YtpcmhhbocifbcaaGreatDoor
