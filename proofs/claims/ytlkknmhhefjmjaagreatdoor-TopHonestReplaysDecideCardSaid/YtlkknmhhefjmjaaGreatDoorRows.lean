/-
  NARROWER THAN 'FOR EVERY INPUT', by the rows' own cells (each row's printed sentence says how): TopReleasesMatchTheirBills: laid · TopCachedBuildsAreReleases: laid · TopHonestReplaysDecide: laid · ActioncacheRunMatchesSpec: laid · ReleaseMatchesSpec: laid · ReleaseRebuildMatchesSpec: laid · ReleaseMadeIsVerified: laid · ReleaseOtherFilesDoNotMatter: laid · ReleaseChangesAreNoticed: laid · ReleaseBeginningsAreReleases: laid.
  DERIVED. THE GIVEN ROWS OF THIS SEAT. 10 by the template 'for every input the law returns true; each argument reads behind the call as it read before'; 0 by the template 'total and deterministic' (their statements: YtlkknmhhefjmjaaGreatDoorTotals.lean).
  GIVEN WITH THE SEED: the statements are not yours to turn. If you find one false, say at which input.
  Laid BY PROGRAM, IN A SANDBOX (cutbox-rows.mjs): the forced cells as the released guide's own fill.sh prints them over the translation ad411be9ad12e8f0… (all of the seat's roots in one cut). By AI agents, Wed Nov 11 2026. No macro, syntax, notation, axiom, sorry.
-/
import Derived.Test.YtlkknmhhefjmjaaGreatDoorChecked
import GoSem.PinnedTables
import GoSem.Claim
import GoSem.ClaimJoined
import GoSem.ClaimMapViews
import Derived.JoinedTies
import Derived.KernelRfl
namespace Go.Proofs.YtlkknmhhefjmjaaGreatDoor
/- THE CELL 'sum', in the pinned program and in every row, IS THE sha256 OF THE DUMP (.gsa) THAT YtlkknmhhefjmjaaGreatDoorProg.lean LOADS. Nothing in Lean hashes anything: it is a label: what it is worth is what the hold of that sum in a sandbox is worth. -/
noncomputable def Tryz.pinned : Pinned := { name := "ytlkknmhhefjmjaagreatdoor", sum := "ad411be9ad12e8f089e474cd342102aa9579669343ac670bed8516fe1cf8d759", checked := Tryz.checked }
namespace Rows
def none {H : Type} : Left H := { results := [], args := [] }

/- WHAT THE LISTED PACKAGE-LEVEL VARIABLES READ AS WHEN THE CALL BEGINS. Each datum BY PROGRAM (the guide's laid-datum.mjs) off the statement by which the dump's own 'gosem.cut.vars' lays the variable. In a bare row this is a premise. The card (YtlkknmhhefjmjaaGreatDoorCards.lean) ties it to the program's text. -/
def laid_unicode_utf8_acceptRanges {H : Type} : DataW H := .agg [.agg [.lit (.int .u8 128), .lit (.int .u8 191)], .agg [.lit (.int .u8 160), .lit (.int .u8 191)], .agg [.lit (.int .u8 128), .lit (.int .u8 159)], .agg [.lit (.int .u8 144), .lit (.int .u8 191)], .agg [.lit (.int .u8 128), .lit (.int .u8 143)], .agg [.lit (.int .u8 0), .lit (.int .u8 0)], .agg [.lit (.int .u8 0), .lit (.int .u8 0)], .agg [.lit (.int .u8 0), .lit (.int .u8 0)], .agg [.lit (.int .u8 0), .lit (.int .u8 0)], .agg [.lit (.int .u8 0), .lit (.int .u8 0)], .agg [.lit (.int .u8 0), .lit (.int .u8 0)], .agg [.lit (.int .u8 0), .lit (.int .u8 0)], .agg [.lit (.int .u8 0), .lit (.int .u8 0)], .agg [.lit (.int .u8 0), .lit (.int .u8 0)], .agg [.lit (.int .u8 0), .lit (.int .u8 0)], .agg [.lit (.int .u8 0), .lit (.int .u8 0)]]
/-- One of Go's own tables, pinned by name: the form's constant. -/
def laid_unicode_utf8_first : DataW Unit := Go.Pinned.utf8First

/-- 'changeforgetop.TopReleasesMatchTheirBills': WHATEVER THE INPUT: true; the input reads as it did. -/
def topReleasesMatchTheirBillsSpec : ChangeSpec := { name := "topReleasesMatchTheirBills", fn := fun _ => fun
  | [d1, d2] => { results := [.lit (.bool true)], args := [d1, d2] }
  | _ => none }
def topReleasesMatchTheirBillsRow : OpenClaim := { program := "ytlkknmhhefjmjaagreatdoor", sum := "ad411be9ad12e8f089e474cd342102aa9579669343ac670bed8516fe1cf8d759", func := "changeforge/changeforgetop.TopReleasesMatchTheirBills", spec := "topReleasesMatchTheirBills", inPlace := ["internal/bytealg.IndexByteString", "internal/bytealg.IndexString", "internal/bytealg.abigen_runtime_cmpstring", "slices.overlaps[changeforge/api.File]"], unfollowed := true, recurses := true, named := ["unicode/utf8.first", "unicode/utf8.acceptRanges", "internal/bytealg.MaxLen"], apart := false, laid := [("unicode/utf8.acceptRanges", laid_unicode_utf8_acceptRanges), ("unicode/utf8.first", laid_unicode_utf8_first)] }
def TopReleasesMatchTheirBillsSaid : Prop := topReleasesMatchTheirBillsRow.holds Tryz.pinned (OpenSpec.ofChange topReleasesMatchTheirBillsSpec)

/-- ITS FALSE NEIGHBOUR: 'it returns false'. Refute it at one input. -/
def topReleasesMatchTheirBillsWrong : ChangeSpec := { name := "topReleasesMatchTheirBills", fn := fun _ => fun
  | [d1, d2] => { results := [.lit (.bool false)], args := [d1, d2] }
  | _ => none }
def TopReleasesMatchTheirBillsWrongFalsely : Prop := topReleasesMatchTheirBillsRow.holds Tryz.pinned (OpenSpec.ofChange topReleasesMatchTheirBillsWrong)

/-- 'changeforgetop.TopCachedBuildsAreReleases': WHATEVER THE INPUT: true; the input reads as it did. -/
def topCachedBuildsAreReleasesSpec : ChangeSpec := { name := "topCachedBuildsAreReleases", fn := fun _ => fun
  | [d1, d2] => { results := [.lit (.bool true)], args := [d1, d2] }
  | _ => none }
def topCachedBuildsAreReleasesRow : OpenClaim := { program := "ytlkknmhhefjmjaagreatdoor", sum := "ad411be9ad12e8f089e474cd342102aa9579669343ac670bed8516fe1cf8d759", func := "changeforge/changeforgetop.TopCachedBuildsAreReleases", spec := "topCachedBuildsAreReleases", inPlace := ["internal/bytealg.IndexByteString", "internal/bytealg.IndexString", "internal/bytealg.abigen_runtime_cmpstring", "slices.overlaps[changeforge/api.File]", "slices.overlaps[changeforge/api.CacheEntry]"], unfollowed := true, recurses := true, named := ["unicode/utf8.first", "unicode/utf8.acceptRanges", "internal/bytealg.MaxLen"], apart := false, laid := [("unicode/utf8.acceptRanges", laid_unicode_utf8_acceptRanges), ("unicode/utf8.first", laid_unicode_utf8_first)] }
def TopCachedBuildsAreReleasesSaid : Prop := topCachedBuildsAreReleasesRow.holds Tryz.pinned (OpenSpec.ofChange topCachedBuildsAreReleasesSpec)

/-- ITS FALSE NEIGHBOUR: 'it returns false'. Refute it at one input. -/
def topCachedBuildsAreReleasesWrong : ChangeSpec := { name := "topCachedBuildsAreReleases", fn := fun _ => fun
  | [d1, d2] => { results := [.lit (.bool false)], args := [d1, d2] }
  | _ => none }
def TopCachedBuildsAreReleasesWrongFalsely : Prop := topCachedBuildsAreReleasesRow.holds Tryz.pinned (OpenSpec.ofChange topCachedBuildsAreReleasesWrong)

/-- 'changeforgetop.TopHonestReplaysDecide': WHATEVER THE INPUT: true; the input reads as it did. -/
def topHonestReplaysDecideSpec : ChangeSpec := { name := "topHonestReplaysDecide", fn := fun _ => fun
  | [d1, d2, d3, d4] => { results := [.lit (.bool true)], args := [d1, d2, d3, d4] }
  | _ => none }
def topHonestReplaysDecideRow : OpenClaim := { program := "ytlkknmhhefjmjaagreatdoor", sum := "ad411be9ad12e8f089e474cd342102aa9579669343ac670bed8516fe1cf8d759", func := "changeforge/changeforgetop.TopHonestReplaysDecide", spec := "topHonestReplaysDecide", inPlace := ["internal/bytealg.IndexByteString", "internal/bytealg.IndexString", "internal/bytealg.abigen_runtime_cmpstring", "slices.overlaps[changeforge/api.File]"], unfollowed := true, recurses := true, named := ["unicode/utf8.first", "unicode/utf8.acceptRanges", "internal/bytealg.MaxLen"], apart := false, laid := [("unicode/utf8.acceptRanges", laid_unicode_utf8_acceptRanges), ("unicode/utf8.first", laid_unicode_utf8_first)] }
def TopHonestReplaysDecideSaid : Prop := topHonestReplaysDecideRow.holds Tryz.pinned (OpenSpec.ofChange topHonestReplaysDecideSpec)

/-- ITS FALSE NEIGHBOUR: 'it returns false'. Refute it at one input. -/
def topHonestReplaysDecideWrong : ChangeSpec := { name := "topHonestReplaysDecide", fn := fun _ => fun
  | [d1, d2, d3, d4] => { results := [.lit (.bool false)], args := [d1, d2, d3, d4] }
  | _ => none }
def TopHonestReplaysDecideWrongFalsely : Prop := topHonestReplaysDecideRow.holds Tryz.pinned (OpenSpec.ofChange topHonestReplaysDecideWrong)

/-- 'changeforgelaw6.ActioncacheRunMatchesSpec': WHATEVER THE INPUT: true; the input reads as it did. -/
def actioncacheRunMatchesSpecSpec : ChangeSpec := { name := "actioncacheRunMatchesSpec", fn := fun _ => fun
  | [d1, d2, d3] => { results := [.lit (.bool true)], args := [d1, d2, d3] }
  | _ => none }
def actioncacheRunMatchesSpecRow : OpenClaim := { program := "ytlkknmhhefjmjaagreatdoor", sum := "ad411be9ad12e8f089e474cd342102aa9579669343ac670bed8516fe1cf8d759", func := "changeforge/changeforgelaw6.ActioncacheRunMatchesSpec", spec := "actioncacheRunMatchesSpec", inPlace := ["internal/bytealg.IndexByteString", "internal/bytealg.IndexString", "internal/bytealg.abigen_runtime_cmpstring", "slices.overlaps[changeforge/api.CacheEntry]"], unfollowed := true, recurses := true, named := ["unicode/utf8.first", "unicode/utf8.acceptRanges", "internal/bytealg.MaxLen"], apart := false, laid := [("unicode/utf8.acceptRanges", laid_unicode_utf8_acceptRanges), ("unicode/utf8.first", laid_unicode_utf8_first)] }
def ActioncacheRunMatchesSpecSaid : Prop := actioncacheRunMatchesSpecRow.holds Tryz.pinned (OpenSpec.ofChange actioncacheRunMatchesSpecSpec)

/-- ITS FALSE NEIGHBOUR: 'it returns false'. Refute it at one input. -/
def actioncacheRunMatchesSpecWrong : ChangeSpec := { name := "actioncacheRunMatchesSpec", fn := fun _ => fun
  | [d1, d2, d3] => { results := [.lit (.bool false)], args := [d1, d2, d3] }
  | _ => none }
def ActioncacheRunMatchesSpecWrongFalsely : Prop := actioncacheRunMatchesSpecRow.holds Tryz.pinned (OpenSpec.ofChange actioncacheRunMatchesSpecWrong)

/-- 'changeforgelaw6.ReleaseMatchesSpec': WHATEVER THE INPUT: true; the input reads as it did. -/
def releaseMatchesSpecSpec : ChangeSpec := { name := "releaseMatchesSpec", fn := fun _ => fun
  | [d1, d2] => { results := [.lit (.bool true)], args := [d1, d2] }
  | _ => none }
def releaseMatchesSpecRow : OpenClaim := { program := "ytlkknmhhefjmjaagreatdoor", sum := "ad411be9ad12e8f089e474cd342102aa9579669343ac670bed8516fe1cf8d759", func := "changeforge/changeforgelaw6.ReleaseMatchesSpec", spec := "releaseMatchesSpec", inPlace := ["internal/bytealg.IndexByteString", "internal/bytealg.IndexString", "internal/bytealg.abigen_runtime_cmpstring", "slices.overlaps[changeforge/api.File]"], unfollowed := true, recurses := true, named := ["unicode/utf8.first", "unicode/utf8.acceptRanges", "internal/bytealg.MaxLen"], apart := false, laid := [("unicode/utf8.acceptRanges", laid_unicode_utf8_acceptRanges), ("unicode/utf8.first", laid_unicode_utf8_first)] }
def ReleaseMatchesSpecSaid : Prop := releaseMatchesSpecRow.holds Tryz.pinned (OpenSpec.ofChange releaseMatchesSpecSpec)

/-- ITS FALSE NEIGHBOUR: 'it returns false'. Refute it at one input. -/
def releaseMatchesSpecWrong : ChangeSpec := { name := "releaseMatchesSpec", fn := fun _ => fun
  | [d1, d2] => { results := [.lit (.bool false)], args := [d1, d2] }
  | _ => none }
def ReleaseMatchesSpecWrongFalsely : Prop := releaseMatchesSpecRow.holds Tryz.pinned (OpenSpec.ofChange releaseMatchesSpecWrong)

/-- 'changeforgelaw6.ReleaseRebuildMatchesSpec': WHATEVER THE INPUT: true; the input reads as it did. -/
def releaseRebuildMatchesSpecSpec : ChangeSpec := { name := "releaseRebuildMatchesSpec", fn := fun _ => fun
  | [d1, d2] => { results := [.lit (.bool true)], args := [d1, d2] }
  | _ => none }
def releaseRebuildMatchesSpecRow : OpenClaim := { program := "ytlkknmhhefjmjaagreatdoor", sum := "ad411be9ad12e8f089e474cd342102aa9579669343ac670bed8516fe1cf8d759", func := "changeforge/changeforgelaw6.ReleaseRebuildMatchesSpec", spec := "releaseRebuildMatchesSpec", inPlace := ["internal/bytealg.IndexByteString", "internal/bytealg.IndexString", "internal/bytealg.abigen_runtime_cmpstring", "slices.overlaps[changeforge/api.File]"], unfollowed := true, recurses := true, named := ["unicode/utf8.first", "unicode/utf8.acceptRanges", "internal/bytealg.MaxLen"], apart := false, laid := [("unicode/utf8.acceptRanges", laid_unicode_utf8_acceptRanges), ("unicode/utf8.first", laid_unicode_utf8_first)] }
def ReleaseRebuildMatchesSpecSaid : Prop := releaseRebuildMatchesSpecRow.holds Tryz.pinned (OpenSpec.ofChange releaseRebuildMatchesSpecSpec)

/-- ITS FALSE NEIGHBOUR: 'it returns false'. Refute it at one input. -/
def releaseRebuildMatchesSpecWrong : ChangeSpec := { name := "releaseRebuildMatchesSpec", fn := fun _ => fun
  | [d1, d2] => { results := [.lit (.bool false)], args := [d1, d2] }
  | _ => none }
def ReleaseRebuildMatchesSpecWrongFalsely : Prop := releaseRebuildMatchesSpecRow.holds Tryz.pinned (OpenSpec.ofChange releaseRebuildMatchesSpecWrong)

/-- 'changeforgelaw6.ReleaseMadeIsVerified': WHATEVER THE INPUT: true; the input reads as it did. -/
def releaseMadeIsVerifiedSpec : ChangeSpec := { name := "releaseMadeIsVerified", fn := fun _ => fun
  | [d1, d2] => { results := [.lit (.bool true)], args := [d1, d2] }
  | _ => none }
def releaseMadeIsVerifiedRow : OpenClaim := { program := "ytlkknmhhefjmjaagreatdoor", sum := "ad411be9ad12e8f089e474cd342102aa9579669343ac670bed8516fe1cf8d759", func := "changeforge/changeforgelaw6.ReleaseMadeIsVerified", spec := "releaseMadeIsVerified", inPlace := ["internal/bytealg.IndexByteString", "internal/bytealg.IndexString", "internal/bytealg.abigen_runtime_cmpstring", "slices.overlaps[changeforge/api.File]"], unfollowed := true, recurses := true, named := ["unicode/utf8.first", "unicode/utf8.acceptRanges", "internal/bytealg.MaxLen"], apart := false, laid := [("unicode/utf8.acceptRanges", laid_unicode_utf8_acceptRanges), ("unicode/utf8.first", laid_unicode_utf8_first)] }
def ReleaseMadeIsVerifiedSaid : Prop := releaseMadeIsVerifiedRow.holds Tryz.pinned (OpenSpec.ofChange releaseMadeIsVerifiedSpec)

/-- ITS FALSE NEIGHBOUR: 'it returns false'. Refute it at one input. -/
def releaseMadeIsVerifiedWrong : ChangeSpec := { name := "releaseMadeIsVerified", fn := fun _ => fun
  | [d1, d2] => { results := [.lit (.bool false)], args := [d1, d2] }
  | _ => none }
def ReleaseMadeIsVerifiedWrongFalsely : Prop := releaseMadeIsVerifiedRow.holds Tryz.pinned (OpenSpec.ofChange releaseMadeIsVerifiedWrong)

/-- 'changeforgelaw6.ReleaseOtherFilesDoNotMatter': WHATEVER THE INPUT: true; the input reads as it did. -/
def releaseOtherFilesDoNotMatterSpec : ChangeSpec := { name := "releaseOtherFilesDoNotMatter", fn := fun _ => fun
  | [d1, d2] => { results := [.lit (.bool true)], args := [d1, d2] }
  | _ => none }
def releaseOtherFilesDoNotMatterRow : OpenClaim := { program := "ytlkknmhhefjmjaagreatdoor", sum := "ad411be9ad12e8f089e474cd342102aa9579669343ac670bed8516fe1cf8d759", func := "changeforge/changeforgelaw6.ReleaseOtherFilesDoNotMatter", spec := "releaseOtherFilesDoNotMatter", inPlace := ["internal/bytealg.IndexByteString", "internal/bytealg.IndexString", "internal/bytealg.abigen_runtime_cmpstring", "slices.overlaps[changeforge/api.File]"], unfollowed := true, recurses := true, named := ["unicode/utf8.first", "unicode/utf8.acceptRanges", "internal/bytealg.MaxLen"], apart := false, laid := [("unicode/utf8.acceptRanges", laid_unicode_utf8_acceptRanges), ("unicode/utf8.first", laid_unicode_utf8_first)] }
def ReleaseOtherFilesDoNotMatterSaid : Prop := releaseOtherFilesDoNotMatterRow.holds Tryz.pinned (OpenSpec.ofChange releaseOtherFilesDoNotMatterSpec)

/-- ITS FALSE NEIGHBOUR: 'it returns false'. Refute it at one input. -/
def releaseOtherFilesDoNotMatterWrong : ChangeSpec := { name := "releaseOtherFilesDoNotMatter", fn := fun _ => fun
  | [d1, d2] => { results := [.lit (.bool false)], args := [d1, d2] }
  | _ => none }
def ReleaseOtherFilesDoNotMatterWrongFalsely : Prop := releaseOtherFilesDoNotMatterRow.holds Tryz.pinned (OpenSpec.ofChange releaseOtherFilesDoNotMatterWrong)

/-- 'changeforgelaw6.ReleaseChangesAreNoticed': WHATEVER THE INPUT: true; the input reads as it did. -/
def releaseChangesAreNoticedSpec : ChangeSpec := { name := "releaseChangesAreNoticed", fn := fun _ => fun
  | [d1, d2, d3] => { results := [.lit (.bool true)], args := [d1, d2, d3] }
  | _ => none }
def releaseChangesAreNoticedRow : OpenClaim := { program := "ytlkknmhhefjmjaagreatdoor", sum := "ad411be9ad12e8f089e474cd342102aa9579669343ac670bed8516fe1cf8d759", func := "changeforge/changeforgelaw6.ReleaseChangesAreNoticed", spec := "releaseChangesAreNoticed", inPlace := ["internal/bytealg.IndexByteString", "internal/bytealg.IndexString", "internal/bytealg.abigen_runtime_cmpstring", "slices.overlaps[changeforge/api.File]"], unfollowed := true, recurses := true, named := ["unicode/utf8.first", "unicode/utf8.acceptRanges", "internal/bytealg.MaxLen"], apart := false, laid := [("unicode/utf8.acceptRanges", laid_unicode_utf8_acceptRanges), ("unicode/utf8.first", laid_unicode_utf8_first)] }
def ReleaseChangesAreNoticedSaid : Prop := releaseChangesAreNoticedRow.holds Tryz.pinned (OpenSpec.ofChange releaseChangesAreNoticedSpec)

/-- ITS FALSE NEIGHBOUR: 'it returns false'. Refute it at one input. -/
def releaseChangesAreNoticedWrong : ChangeSpec := { name := "releaseChangesAreNoticed", fn := fun _ => fun
  | [d1, d2, d3] => { results := [.lit (.bool false)], args := [d1, d2, d3] }
  | _ => none }
def ReleaseChangesAreNoticedWrongFalsely : Prop := releaseChangesAreNoticedRow.holds Tryz.pinned (OpenSpec.ofChange releaseChangesAreNoticedWrong)

/-- 'changeforgelaw6.ReleaseBeginningsAreReleases': WHATEVER THE INPUT: true; the input reads as it did. -/
def releaseBeginningsAreReleasesSpec : ChangeSpec := { name := "releaseBeginningsAreReleases", fn := fun _ => fun
  | [d1, d2, d3] => { results := [.lit (.bool true)], args := [d1, d2, d3] }
  | _ => none }
def releaseBeginningsAreReleasesRow : OpenClaim := { program := "ytlkknmhhefjmjaagreatdoor", sum := "ad411be9ad12e8f089e474cd342102aa9579669343ac670bed8516fe1cf8d759", func := "changeforge/changeforgelaw6.ReleaseBeginningsAreReleases", spec := "releaseBeginningsAreReleases", inPlace := ["internal/bytealg.IndexByteString", "internal/bytealg.IndexString", "internal/bytealg.abigen_runtime_cmpstring", "slices.overlaps[changeforge/api.File]"], unfollowed := true, recurses := true, named := ["unicode/utf8.first", "unicode/utf8.acceptRanges", "internal/bytealg.MaxLen"], apart := false, laid := [("unicode/utf8.acceptRanges", laid_unicode_utf8_acceptRanges), ("unicode/utf8.first", laid_unicode_utf8_first)] }
def ReleaseBeginningsAreReleasesSaid : Prop := releaseBeginningsAreReleasesRow.holds Tryz.pinned (OpenSpec.ofChange releaseBeginningsAreReleasesSpec)

/-- ITS FALSE NEIGHBOUR: 'it returns false'. Refute it at one input. -/
def releaseBeginningsAreReleasesWrong : ChangeSpec := { name := "releaseBeginningsAreReleases", fn := fun _ => fun
  | [d1, d2, d3] => { results := [.lit (.bool false)], args := [d1, d2, d3] }
  | _ => none }
def ReleaseBeginningsAreReleasesWrongFalsely : Prop := releaseBeginningsAreReleasesRow.holds Tryz.pinned (OpenSpec.ofChange releaseBeginningsAreReleasesWrong)

/- THE SECOND FORM. 'bulk': how many values and letters a reading holds, each counted each time it is reached (what is shared counts as often as it is met; a slice's spare places count too). A statement '..UptoSaid' is the law's where the arguments, and the package variables that the reading takes, are together of bulk at most 1048576: NARROWER than '..Said'. Prove '..Said' where nothing that the law and all that it calls make is longer than what came in: it says more and counts as full. Else prove '..UptoSaid'. A law counts once. -/
mutual
def uptoBulk {H : Type} : DataW H → Nat
  | .lit (.string bytes) => bytes.length + 1
  | .lit _ => 1
  | .nil => 1
  | .ptr d => uptoBulk d + 1
  | .slice elems spare => uptoBulkAll elems + uptoBulkAll spare + 1
  | .agg parts => uptoBulkAll parts + 1
  | .iface _ d => uptoBulk d + 1
  | .map entries => uptoBulkEntries entries + 1
  | .held _ => 1
def uptoBulkAll {H : Type} : List (DataW H) → Nat
  | [] => 0
  | d :: r => uptoBulk d + uptoBulkAll r
def uptoBulkEntries {H : Type} : List (Lit × DataW H) → Nat
  | [] => 0
  | x :: r => uptoBulkEntry x + uptoBulkEntries r
def uptoBulkEntry {H : Type} : Lit × DataW H → Nat
  | (.string bytes, d) => bytes.length + uptoBulk d + 1
  | (_, d) => uptoBulk d + 1
 end
def uptoSmall : (H : Type) → List (DataW H) → Bool := fun _ ds => decide (uptoBulkAll ds ≤ 1048576)
def OpenSpec.upto (s : _root_.Go.ChangeSpec) : _root_.Go.OpenSpec := { _root_.Go.OpenSpec.ofChange s with cond := some uptoSmall }

/-- 'changeforgetop.TopReleasesMatchTheirBills', WHERE WHAT IT READS IS OF BULK AT MOST 1048576: true; the input reads as it did. -/
def topReleasesMatchTheirBillsUptoRow : OpenClaim := { program := "ytlkknmhhefjmjaagreatdoor", sum := "ad411be9ad12e8f089e474cd342102aa9579669343ac670bed8516fe1cf8d759", func := "changeforge/changeforgetop.TopReleasesMatchTheirBills", spec := "topReleasesMatchTheirBills", inPlace := ["internal/bytealg.IndexByteString", "internal/bytealg.IndexString", "internal/bytealg.abigen_runtime_cmpstring", "slices.overlaps[changeforge/api.File]"], unfollowed := true, recurses := true, named := ["unicode/utf8.first", "unicode/utf8.acceptRanges", "internal/bytealg.MaxLen"], apart := false, laid := [("unicode/utf8.acceptRanges", laid_unicode_utf8_acceptRanges), ("unicode/utf8.first", laid_unicode_utf8_first)], narrowed := true }
def TopReleasesMatchTheirBillsUptoSaid : Prop := topReleasesMatchTheirBillsUptoRow.holds Tryz.pinned (OpenSpec.upto topReleasesMatchTheirBillsSpec)

/-- 'changeforgetop.TopCachedBuildsAreReleases', WHERE WHAT IT READS IS OF BULK AT MOST 1048576: true; the input reads as it did. -/
def topCachedBuildsAreReleasesUptoRow : OpenClaim := { program := "ytlkknmhhefjmjaagreatdoor", sum := "ad411be9ad12e8f089e474cd342102aa9579669343ac670bed8516fe1cf8d759", func := "changeforge/changeforgetop.TopCachedBuildsAreReleases", spec := "topCachedBuildsAreReleases", inPlace := ["internal/bytealg.IndexByteString", "internal/bytealg.IndexString", "internal/bytealg.abigen_runtime_cmpstring", "slices.overlaps[changeforge/api.File]", "slices.overlaps[changeforge/api.CacheEntry]"], unfollowed := true, recurses := true, named := ["unicode/utf8.first", "unicode/utf8.acceptRanges", "internal/bytealg.MaxLen"], apart := false, laid := [("unicode/utf8.acceptRanges", laid_unicode_utf8_acceptRanges), ("unicode/utf8.first", laid_unicode_utf8_first)], narrowed := true }
def TopCachedBuildsAreReleasesUptoSaid : Prop := topCachedBuildsAreReleasesUptoRow.holds Tryz.pinned (OpenSpec.upto topCachedBuildsAreReleasesSpec)

/-- 'changeforgetop.TopHonestReplaysDecide', WHERE WHAT IT READS IS OF BULK AT MOST 1048576: true; the input reads as it did. -/
def topHonestReplaysDecideUptoRow : OpenClaim := { program := "ytlkknmhhefjmjaagreatdoor", sum := "ad411be9ad12e8f089e474cd342102aa9579669343ac670bed8516fe1cf8d759", func := "changeforge/changeforgetop.TopHonestReplaysDecide", spec := "topHonestReplaysDecide", inPlace := ["internal/bytealg.IndexByteString", "internal/bytealg.IndexString", "internal/bytealg.abigen_runtime_cmpstring", "slices.overlaps[changeforge/api.File]"], unfollowed := true, recurses := true, named := ["unicode/utf8.first", "unicode/utf8.acceptRanges", "internal/bytealg.MaxLen"], apart := false, laid := [("unicode/utf8.acceptRanges", laid_unicode_utf8_acceptRanges), ("unicode/utf8.first", laid_unicode_utf8_first)], narrowed := true }
def TopHonestReplaysDecideUptoSaid : Prop := topHonestReplaysDecideUptoRow.holds Tryz.pinned (OpenSpec.upto topHonestReplaysDecideSpec)

/-- 'changeforgelaw6.ActioncacheRunMatchesSpec', WHERE WHAT IT READS IS OF BULK AT MOST 1048576: true; the input reads as it did. -/
def actioncacheRunMatchesSpecUptoRow : OpenClaim := { program := "ytlkknmhhefjmjaagreatdoor", sum := "ad411be9ad12e8f089e474cd342102aa9579669343ac670bed8516fe1cf8d759", func := "changeforge/changeforgelaw6.ActioncacheRunMatchesSpec", spec := "actioncacheRunMatchesSpec", inPlace := ["internal/bytealg.IndexByteString", "internal/bytealg.IndexString", "internal/bytealg.abigen_runtime_cmpstring", "slices.overlaps[changeforge/api.CacheEntry]"], unfollowed := true, recurses := true, named := ["unicode/utf8.first", "unicode/utf8.acceptRanges", "internal/bytealg.MaxLen"], apart := false, laid := [("unicode/utf8.acceptRanges", laid_unicode_utf8_acceptRanges), ("unicode/utf8.first", laid_unicode_utf8_first)], narrowed := true }
def ActioncacheRunMatchesSpecUptoSaid : Prop := actioncacheRunMatchesSpecUptoRow.holds Tryz.pinned (OpenSpec.upto actioncacheRunMatchesSpecSpec)

/-- 'changeforgelaw6.ReleaseMatchesSpec', WHERE WHAT IT READS IS OF BULK AT MOST 1048576: true; the input reads as it did. -/
def releaseMatchesSpecUptoRow : OpenClaim := { program := "ytlkknmhhefjmjaagreatdoor", sum := "ad411be9ad12e8f089e474cd342102aa9579669343ac670bed8516fe1cf8d759", func := "changeforge/changeforgelaw6.ReleaseMatchesSpec", spec := "releaseMatchesSpec", inPlace := ["internal/bytealg.IndexByteString", "internal/bytealg.IndexString", "internal/bytealg.abigen_runtime_cmpstring", "slices.overlaps[changeforge/api.File]"], unfollowed := true, recurses := true, named := ["unicode/utf8.first", "unicode/utf8.acceptRanges", "internal/bytealg.MaxLen"], apart := false, laid := [("unicode/utf8.acceptRanges", laid_unicode_utf8_acceptRanges), ("unicode/utf8.first", laid_unicode_utf8_first)], narrowed := true }
def ReleaseMatchesSpecUptoSaid : Prop := releaseMatchesSpecUptoRow.holds Tryz.pinned (OpenSpec.upto releaseMatchesSpecSpec)

/-- 'changeforgelaw6.ReleaseRebuildMatchesSpec', WHERE WHAT IT READS IS OF BULK AT MOST 1048576: true; the input reads as it did. -/
def releaseRebuildMatchesSpecUptoRow : OpenClaim := { program := "ytlkknmhhefjmjaagreatdoor", sum := "ad411be9ad12e8f089e474cd342102aa9579669343ac670bed8516fe1cf8d759", func := "changeforge/changeforgelaw6.ReleaseRebuildMatchesSpec", spec := "releaseRebuildMatchesSpec", inPlace := ["internal/bytealg.IndexByteString", "internal/bytealg.IndexString", "internal/bytealg.abigen_runtime_cmpstring", "slices.overlaps[changeforge/api.File]"], unfollowed := true, recurses := true, named := ["unicode/utf8.first", "unicode/utf8.acceptRanges", "internal/bytealg.MaxLen"], apart := false, laid := [("unicode/utf8.acceptRanges", laid_unicode_utf8_acceptRanges), ("unicode/utf8.first", laid_unicode_utf8_first)], narrowed := true }
def ReleaseRebuildMatchesSpecUptoSaid : Prop := releaseRebuildMatchesSpecUptoRow.holds Tryz.pinned (OpenSpec.upto releaseRebuildMatchesSpecSpec)

/-- 'changeforgelaw6.ReleaseMadeIsVerified', WHERE WHAT IT READS IS OF BULK AT MOST 1048576: true; the input reads as it did. -/
def releaseMadeIsVerifiedUptoRow : OpenClaim := { program := "ytlkknmhhefjmjaagreatdoor", sum := "ad411be9ad12e8f089e474cd342102aa9579669343ac670bed8516fe1cf8d759", func := "changeforge/changeforgelaw6.ReleaseMadeIsVerified", spec := "releaseMadeIsVerified", inPlace := ["internal/bytealg.IndexByteString", "internal/bytealg.IndexString", "internal/bytealg.abigen_runtime_cmpstring", "slices.overlaps[changeforge/api.File]"], unfollowed := true, recurses := true, named := ["unicode/utf8.first", "unicode/utf8.acceptRanges", "internal/bytealg.MaxLen"], apart := false, laid := [("unicode/utf8.acceptRanges", laid_unicode_utf8_acceptRanges), ("unicode/utf8.first", laid_unicode_utf8_first)], narrowed := true }
def ReleaseMadeIsVerifiedUptoSaid : Prop := releaseMadeIsVerifiedUptoRow.holds Tryz.pinned (OpenSpec.upto releaseMadeIsVerifiedSpec)

/-- 'changeforgelaw6.ReleaseOtherFilesDoNotMatter', WHERE WHAT IT READS IS OF BULK AT MOST 1048576: true; the input reads as it did. -/
def releaseOtherFilesDoNotMatterUptoRow : OpenClaim := { program := "ytlkknmhhefjmjaagreatdoor", sum := "ad411be9ad12e8f089e474cd342102aa9579669343ac670bed8516fe1cf8d759", func := "changeforge/changeforgelaw6.ReleaseOtherFilesDoNotMatter", spec := "releaseOtherFilesDoNotMatter", inPlace := ["internal/bytealg.IndexByteString", "internal/bytealg.IndexString", "internal/bytealg.abigen_runtime_cmpstring", "slices.overlaps[changeforge/api.File]"], unfollowed := true, recurses := true, named := ["unicode/utf8.first", "unicode/utf8.acceptRanges", "internal/bytealg.MaxLen"], apart := false, laid := [("unicode/utf8.acceptRanges", laid_unicode_utf8_acceptRanges), ("unicode/utf8.first", laid_unicode_utf8_first)], narrowed := true }
def ReleaseOtherFilesDoNotMatterUptoSaid : Prop := releaseOtherFilesDoNotMatterUptoRow.holds Tryz.pinned (OpenSpec.upto releaseOtherFilesDoNotMatterSpec)

/-- 'changeforgelaw6.ReleaseChangesAreNoticed', WHERE WHAT IT READS IS OF BULK AT MOST 1048576: true; the input reads as it did. -/
def releaseChangesAreNoticedUptoRow : OpenClaim := { program := "ytlkknmhhefjmjaagreatdoor", sum := "ad411be9ad12e8f089e474cd342102aa9579669343ac670bed8516fe1cf8d759", func := "changeforge/changeforgelaw6.ReleaseChangesAreNoticed", spec := "releaseChangesAreNoticed", inPlace := ["internal/bytealg.IndexByteString", "internal/bytealg.IndexString", "internal/bytealg.abigen_runtime_cmpstring", "slices.overlaps[changeforge/api.File]"], unfollowed := true, recurses := true, named := ["unicode/utf8.first", "unicode/utf8.acceptRanges", "internal/bytealg.MaxLen"], apart := false, laid := [("unicode/utf8.acceptRanges", laid_unicode_utf8_acceptRanges), ("unicode/utf8.first", laid_unicode_utf8_first)], narrowed := true }
def ReleaseChangesAreNoticedUptoSaid : Prop := releaseChangesAreNoticedUptoRow.holds Tryz.pinned (OpenSpec.upto releaseChangesAreNoticedSpec)

/-- 'changeforgelaw6.ReleaseBeginningsAreReleases', WHERE WHAT IT READS IS OF BULK AT MOST 1048576: true; the input reads as it did. -/
def releaseBeginningsAreReleasesUptoRow : OpenClaim := { program := "ytlkknmhhefjmjaagreatdoor", sum := "ad411be9ad12e8f089e474cd342102aa9579669343ac670bed8516fe1cf8d759", func := "changeforge/changeforgelaw6.ReleaseBeginningsAreReleases", spec := "releaseBeginningsAreReleases", inPlace := ["internal/bytealg.IndexByteString", "internal/bytealg.IndexString", "internal/bytealg.abigen_runtime_cmpstring", "slices.overlaps[changeforge/api.File]"], unfollowed := true, recurses := true, named := ["unicode/utf8.first", "unicode/utf8.acceptRanges", "internal/bytealg.MaxLen"], apart := false, laid := [("unicode/utf8.acceptRanges", laid_unicode_utf8_acceptRanges), ("unicode/utf8.first", laid_unicode_utf8_first)], narrowed := true }
def ReleaseBeginningsAreReleasesUptoSaid : Prop := releaseBeginningsAreReleasesUptoRow.holds Tryz.pinned (OpenSpec.upto releaseBeginningsAreReleasesSpec)

end Rows
end Go.Proofs.YtlkknmhhefjmjaaGreatDoor
