/-
  DERIVED. GIVEN WITH THE SEED: THE CARDS: each row of YtlkknmhhefjmjaaGreatDoorRows.lean that lists a variable, with what it lists TIED to the program's text (the seventh form; the later family's looks); each row that meets fmt, with fmt's text TOLD by the authors' own Lean function (tested against real Go, not proved from fmt's source: count such statements apart). THE CARD IS WHAT COUNTS. Prove the row's statement (the work); the ties are given (YtlkknmhhefjmjaaGreatDoorTie.lean); close each card by the builder's one call (the guide's Derived/Test/ToyasCard.lean, 'card_holds'). Laid BY PROGRAM, IN A SANDBOX (cutbox-door.mjs). By AI agents, Wed Nov 11 2026. No macro, syntax, notation, axiom, sorry.
-/
import Derived.Test.YtlkknmhhefjmjaaGreatDoorRows
import GoSem.ClaimSeven
namespace Go.Proofs.YtlkknmhhefjmjaaGreatDoor
namespace Rows

/-- THE TIED CARD OF 'changeforgetop.TopReleasesMatchTheirBills'. -/
def topReleasesMatchTheirBillsCard : Claim7 := { stood := { row := topReleasesMatchTheirBillsRow, standIns := [], harness := (true, "e00f3b78e43f3b62d51efc46742f5d6362e6d1ed6f74802d23cea43cb2c3fa67"), looks := false }, kinds := [], alts := [], laidByText := true, laidKinds := [.data, .pinned], laidTests := true, laidLooks := .later }
def TopReleasesMatchTheirBillsCardSaid : Prop := Claim7.holds Tryz.pinned (.plain (OpenSpec.ofChange topReleasesMatchTheirBillsSpec)) topReleasesMatchTheirBillsCard

/-- THE TIED CARD OF 'changeforgetop.TopCachedBuildsAreReleases'. -/
def topCachedBuildsAreReleasesCard : Claim7 := { stood := { row := topCachedBuildsAreReleasesRow, standIns := [], harness := (true, "e00f3b78e43f3b62d51efc46742f5d6362e6d1ed6f74802d23cea43cb2c3fa67"), looks := false }, kinds := [], alts := [], laidByText := true, laidKinds := [.data, .pinned], laidTests := true, laidLooks := .later }
def TopCachedBuildsAreReleasesCardSaid : Prop := Claim7.holds Tryz.pinned (.plain (OpenSpec.ofChange topCachedBuildsAreReleasesSpec)) topCachedBuildsAreReleasesCard

/-- THE TIED CARD OF 'changeforgetop.TopHonestReplaysDecide'. -/
def topHonestReplaysDecideCard : Claim7 := { stood := { row := topHonestReplaysDecideRow, standIns := [], harness := (true, "e00f3b78e43f3b62d51efc46742f5d6362e6d1ed6f74802d23cea43cb2c3fa67"), looks := false }, kinds := [], alts := [], laidByText := true, laidKinds := [.data, .pinned], laidTests := true, laidLooks := .later }
def TopHonestReplaysDecideCardSaid : Prop := Claim7.holds Tryz.pinned (.plain (OpenSpec.ofChange topHonestReplaysDecideSpec)) topHonestReplaysDecideCard

/-- THE TIED CARD OF 'changeforgelaw6.ActioncacheRunMatchesSpec'. -/
def actioncacheRunMatchesSpecCard : Claim7 := { stood := { row := actioncacheRunMatchesSpecRow, standIns := [], harness := (true, "e00f3b78e43f3b62d51efc46742f5d6362e6d1ed6f74802d23cea43cb2c3fa67"), looks := false }, kinds := [], alts := [], laidByText := true, laidKinds := [.data, .pinned], laidTests := true, laidLooks := .later }
def ActioncacheRunMatchesSpecCardSaid : Prop := Claim7.holds Tryz.pinned (.plain (OpenSpec.ofChange actioncacheRunMatchesSpecSpec)) actioncacheRunMatchesSpecCard

/-- THE TIED CARD OF 'changeforgelaw6.ReleaseMatchesSpec'. -/
def releaseMatchesSpecCard : Claim7 := { stood := { row := releaseMatchesSpecRow, standIns := [], harness := (true, "e00f3b78e43f3b62d51efc46742f5d6362e6d1ed6f74802d23cea43cb2c3fa67"), looks := false }, kinds := [], alts := [], laidByText := true, laidKinds := [.data, .pinned], laidTests := true, laidLooks := .later }
def ReleaseMatchesSpecCardSaid : Prop := Claim7.holds Tryz.pinned (.plain (OpenSpec.ofChange releaseMatchesSpecSpec)) releaseMatchesSpecCard

/-- THE TIED CARD OF 'changeforgelaw6.ReleaseRebuildMatchesSpec'. -/
def releaseRebuildMatchesSpecCard : Claim7 := { stood := { row := releaseRebuildMatchesSpecRow, standIns := [], harness := (true, "e00f3b78e43f3b62d51efc46742f5d6362e6d1ed6f74802d23cea43cb2c3fa67"), looks := false }, kinds := [], alts := [], laidByText := true, laidKinds := [.data, .pinned], laidTests := true, laidLooks := .later }
def ReleaseRebuildMatchesSpecCardSaid : Prop := Claim7.holds Tryz.pinned (.plain (OpenSpec.ofChange releaseRebuildMatchesSpecSpec)) releaseRebuildMatchesSpecCard

/-- THE TIED CARD OF 'changeforgelaw6.ReleaseMadeIsVerified'. -/
def releaseMadeIsVerifiedCard : Claim7 := { stood := { row := releaseMadeIsVerifiedRow, standIns := [], harness := (true, "e00f3b78e43f3b62d51efc46742f5d6362e6d1ed6f74802d23cea43cb2c3fa67"), looks := false }, kinds := [], alts := [], laidByText := true, laidKinds := [.data, .pinned], laidTests := true, laidLooks := .later }
def ReleaseMadeIsVerifiedCardSaid : Prop := Claim7.holds Tryz.pinned (.plain (OpenSpec.ofChange releaseMadeIsVerifiedSpec)) releaseMadeIsVerifiedCard

/-- THE TIED CARD OF 'changeforgelaw6.ReleaseOtherFilesDoNotMatter'. -/
def releaseOtherFilesDoNotMatterCard : Claim7 := { stood := { row := releaseOtherFilesDoNotMatterRow, standIns := [], harness := (true, "e00f3b78e43f3b62d51efc46742f5d6362e6d1ed6f74802d23cea43cb2c3fa67"), looks := false }, kinds := [], alts := [], laidByText := true, laidKinds := [.data, .pinned], laidTests := true, laidLooks := .later }
def ReleaseOtherFilesDoNotMatterCardSaid : Prop := Claim7.holds Tryz.pinned (.plain (OpenSpec.ofChange releaseOtherFilesDoNotMatterSpec)) releaseOtherFilesDoNotMatterCard

/-- THE TIED CARD OF 'changeforgelaw6.ReleaseChangesAreNoticed'. -/
def releaseChangesAreNoticedCard : Claim7 := { stood := { row := releaseChangesAreNoticedRow, standIns := [], harness := (true, "e00f3b78e43f3b62d51efc46742f5d6362e6d1ed6f74802d23cea43cb2c3fa67"), looks := false }, kinds := [], alts := [], laidByText := true, laidKinds := [.data, .pinned], laidTests := true, laidLooks := .later }
def ReleaseChangesAreNoticedCardSaid : Prop := Claim7.holds Tryz.pinned (.plain (OpenSpec.ofChange releaseChangesAreNoticedSpec)) releaseChangesAreNoticedCard

/-- THE TIED CARD OF 'changeforgelaw6.ReleaseBeginningsAreReleases'. -/
def releaseBeginningsAreReleasesCard : Claim7 := { stood := { row := releaseBeginningsAreReleasesRow, standIns := [], harness := (true, "e00f3b78e43f3b62d51efc46742f5d6362e6d1ed6f74802d23cea43cb2c3fa67"), looks := false }, kinds := [], alts := [], laidByText := true, laidKinds := [.data, .pinned], laidTests := true, laidLooks := .later }
def ReleaseBeginningsAreReleasesCardSaid : Prop := Claim7.holds Tryz.pinned (.plain (OpenSpec.ofChange releaseBeginningsAreReleasesSpec)) releaseBeginningsAreReleasesCard

/-- THE SECOND FORM's CARD OF 'changeforgetop.TopReleasesMatchTheirBills'. -/
def topReleasesMatchTheirBillsUptoCard : Claim7 := { stood := { row := topReleasesMatchTheirBillsUptoRow, standIns := [], harness := (true, "e00f3b78e43f3b62d51efc46742f5d6362e6d1ed6f74802d23cea43cb2c3fa67"), looks := false }, kinds := [], alts := [], laidByText := true, laidKinds := [.data, .pinned], laidTests := true, laidLooks := .later }
def TopReleasesMatchTheirBillsUptoCardSaid : Prop := Claim7.holds Tryz.pinned (.plain (OpenSpec.upto topReleasesMatchTheirBillsSpec)) topReleasesMatchTheirBillsUptoCard

/-- THE SECOND FORM's CARD OF 'changeforgetop.TopCachedBuildsAreReleases'. -/
def topCachedBuildsAreReleasesUptoCard : Claim7 := { stood := { row := topCachedBuildsAreReleasesUptoRow, standIns := [], harness := (true, "e00f3b78e43f3b62d51efc46742f5d6362e6d1ed6f74802d23cea43cb2c3fa67"), looks := false }, kinds := [], alts := [], laidByText := true, laidKinds := [.data, .pinned], laidTests := true, laidLooks := .later }
def TopCachedBuildsAreReleasesUptoCardSaid : Prop := Claim7.holds Tryz.pinned (.plain (OpenSpec.upto topCachedBuildsAreReleasesSpec)) topCachedBuildsAreReleasesUptoCard

/-- THE SECOND FORM's CARD OF 'changeforgetop.TopHonestReplaysDecide'. -/
def topHonestReplaysDecideUptoCard : Claim7 := { stood := { row := topHonestReplaysDecideUptoRow, standIns := [], harness := (true, "e00f3b78e43f3b62d51efc46742f5d6362e6d1ed6f74802d23cea43cb2c3fa67"), looks := false }, kinds := [], alts := [], laidByText := true, laidKinds := [.data, .pinned], laidTests := true, laidLooks := .later }
def TopHonestReplaysDecideUptoCardSaid : Prop := Claim7.holds Tryz.pinned (.plain (OpenSpec.upto topHonestReplaysDecideSpec)) topHonestReplaysDecideUptoCard

/-- THE SECOND FORM's CARD OF 'changeforgelaw6.ActioncacheRunMatchesSpec'. -/
def actioncacheRunMatchesSpecUptoCard : Claim7 := { stood := { row := actioncacheRunMatchesSpecUptoRow, standIns := [], harness := (true, "e00f3b78e43f3b62d51efc46742f5d6362e6d1ed6f74802d23cea43cb2c3fa67"), looks := false }, kinds := [], alts := [], laidByText := true, laidKinds := [.data, .pinned], laidTests := true, laidLooks := .later }
def ActioncacheRunMatchesSpecUptoCardSaid : Prop := Claim7.holds Tryz.pinned (.plain (OpenSpec.upto actioncacheRunMatchesSpecSpec)) actioncacheRunMatchesSpecUptoCard

/-- THE SECOND FORM's CARD OF 'changeforgelaw6.ReleaseMatchesSpec'. -/
def releaseMatchesSpecUptoCard : Claim7 := { stood := { row := releaseMatchesSpecUptoRow, standIns := [], harness := (true, "e00f3b78e43f3b62d51efc46742f5d6362e6d1ed6f74802d23cea43cb2c3fa67"), looks := false }, kinds := [], alts := [], laidByText := true, laidKinds := [.data, .pinned], laidTests := true, laidLooks := .later }
def ReleaseMatchesSpecUptoCardSaid : Prop := Claim7.holds Tryz.pinned (.plain (OpenSpec.upto releaseMatchesSpecSpec)) releaseMatchesSpecUptoCard

/-- THE SECOND FORM's CARD OF 'changeforgelaw6.ReleaseRebuildMatchesSpec'. -/
def releaseRebuildMatchesSpecUptoCard : Claim7 := { stood := { row := releaseRebuildMatchesSpecUptoRow, standIns := [], harness := (true, "e00f3b78e43f3b62d51efc46742f5d6362e6d1ed6f74802d23cea43cb2c3fa67"), looks := false }, kinds := [], alts := [], laidByText := true, laidKinds := [.data, .pinned], laidTests := true, laidLooks := .later }
def ReleaseRebuildMatchesSpecUptoCardSaid : Prop := Claim7.holds Tryz.pinned (.plain (OpenSpec.upto releaseRebuildMatchesSpecSpec)) releaseRebuildMatchesSpecUptoCard

/-- THE SECOND FORM's CARD OF 'changeforgelaw6.ReleaseMadeIsVerified'. -/
def releaseMadeIsVerifiedUptoCard : Claim7 := { stood := { row := releaseMadeIsVerifiedUptoRow, standIns := [], harness := (true, "e00f3b78e43f3b62d51efc46742f5d6362e6d1ed6f74802d23cea43cb2c3fa67"), looks := false }, kinds := [], alts := [], laidByText := true, laidKinds := [.data, .pinned], laidTests := true, laidLooks := .later }
def ReleaseMadeIsVerifiedUptoCardSaid : Prop := Claim7.holds Tryz.pinned (.plain (OpenSpec.upto releaseMadeIsVerifiedSpec)) releaseMadeIsVerifiedUptoCard

/-- THE SECOND FORM's CARD OF 'changeforgelaw6.ReleaseOtherFilesDoNotMatter'. -/
def releaseOtherFilesDoNotMatterUptoCard : Claim7 := { stood := { row := releaseOtherFilesDoNotMatterUptoRow, standIns := [], harness := (true, "e00f3b78e43f3b62d51efc46742f5d6362e6d1ed6f74802d23cea43cb2c3fa67"), looks := false }, kinds := [], alts := [], laidByText := true, laidKinds := [.data, .pinned], laidTests := true, laidLooks := .later }
def ReleaseOtherFilesDoNotMatterUptoCardSaid : Prop := Claim7.holds Tryz.pinned (.plain (OpenSpec.upto releaseOtherFilesDoNotMatterSpec)) releaseOtherFilesDoNotMatterUptoCard

/-- THE SECOND FORM's CARD OF 'changeforgelaw6.ReleaseChangesAreNoticed'. -/
def releaseChangesAreNoticedUptoCard : Claim7 := { stood := { row := releaseChangesAreNoticedUptoRow, standIns := [], harness := (true, "e00f3b78e43f3b62d51efc46742f5d6362e6d1ed6f74802d23cea43cb2c3fa67"), looks := false }, kinds := [], alts := [], laidByText := true, laidKinds := [.data, .pinned], laidTests := true, laidLooks := .later }
def ReleaseChangesAreNoticedUptoCardSaid : Prop := Claim7.holds Tryz.pinned (.plain (OpenSpec.upto releaseChangesAreNoticedSpec)) releaseChangesAreNoticedUptoCard

/-- THE SECOND FORM's CARD OF 'changeforgelaw6.ReleaseBeginningsAreReleases'. -/
def releaseBeginningsAreReleasesUptoCard : Claim7 := { stood := { row := releaseBeginningsAreReleasesUptoRow, standIns := [], harness := (true, "e00f3b78e43f3b62d51efc46742f5d6362e6d1ed6f74802d23cea43cb2c3fa67"), looks := false }, kinds := [], alts := [], laidByText := true, laidKinds := [.data, .pinned], laidTests := true, laidLooks := .later }
def ReleaseBeginningsAreReleasesUptoCardSaid : Prop := Claim7.holds Tryz.pinned (.plain (OpenSpec.upto releaseBeginningsAreReleasesSpec)) releaseBeginningsAreReleasesUptoCard
end Rows
end Go.Proofs.YtlkknmhhefjmjaaGreatDoor
