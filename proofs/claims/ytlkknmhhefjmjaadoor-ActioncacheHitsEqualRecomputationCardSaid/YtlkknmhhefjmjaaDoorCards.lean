/-
  DERIVED. GIVEN WITH THE SEED: THE CARDS: each row of YtlkknmhhefjmjaaDoorRows.lean that lists a variable, with what it lists TIED to the program's text (the seventh form; the later family's looks); each row that meets fmt, with fmt's text TOLD by the authors' own Lean function (tested against real Go, not proved from fmt's source: count such statements apart). THE CARD IS WHAT COUNTS. Prove the row's statement (the work); the ties are given (YtlkknmhhefjmjaaDoorTie.lean); close each card by the builder's one call (the guide's Derived/Test/ToyasCard.lean, 'card_holds'). Laid BY PROGRAM, IN A SANDBOX (cutbox-door.mjs). By AI agents, Wed Nov 11 2026. No macro, syntax, notation, axiom, sorry.
-/
import Derived.Test.YtlkknmhhefjmjaaDoorRows
import GoSem.ClaimSeven
namespace Go.Proofs.YtlkknmhhefjmjaaDoor
namespace Rows

/-- THE TIED CARD OF 'changeforgelaw6.ActioncacheMatchesSpec'. -/
def actioncacheMatchesSpecCard : Claim7 := { stood := { row := actioncacheMatchesSpecRow, standIns := [], harness := (true, "27a51ec012144873418275e0e4e6cec471bb16b3db4d9af00704d91acf900886"), looks := false }, kinds := [], alts := [], laidByText := true, laidKinds := [.data, .pinned], laidTests := true, laidLooks := .later }
def ActioncacheMatchesSpecCardSaid : Prop := Claim7.holds Tryd.pinned (.plain (OpenSpec.ofChange actioncacheMatchesSpecSpec)) actioncacheMatchesSpecCard

/-- THE TIED CARD OF 'changeforgelaw6.ActioncacheKeyMatchesSpec'. -/
def actioncacheKeyMatchesSpecCard : Claim7 := { stood := { row := actioncacheKeyMatchesSpecRow, standIns := [], harness := (true, "27a51ec012144873418275e0e4e6cec471bb16b3db4d9af00704d91acf900886"), looks := false }, kinds := [], alts := [], laidByText := true, laidKinds := [.data, .pinned], laidTests := true, laidLooks := .later }
def ActioncacheKeyMatchesSpecCardSaid : Prop := Claim7.holds Tryd.pinned (.plain (OpenSpec.ofChange actioncacheKeyMatchesSpecSpec)) actioncacheKeyMatchesSpecCard

/-- THE TIED CARD OF 'changeforgelaw6.ActioncacheStoredIsFound'. -/
def actioncacheStoredIsFoundCard : Claim7 := { stood := { row := actioncacheStoredIsFoundRow, standIns := [], harness := (true, "27a51ec012144873418275e0e4e6cec471bb16b3db4d9af00704d91acf900886"), looks := false }, kinds := [], alts := [], laidByText := true, laidKinds := [.data, .pinned], laidTests := true, laidLooks := .later }
def ActioncacheStoredIsFoundCardSaid : Prop := Claim7.holds Tryd.pinned (.plain (OpenSpec.ofChange actioncacheStoredIsFoundSpec)) actioncacheStoredIsFoundCard

/-- THE TIED CARD OF 'changeforgelaw6.ActioncacheHitsEqualRecomputation'. -/
def actioncacheHitsEqualRecomputationCard : Claim7 := { stood := { row := actioncacheHitsEqualRecomputationRow, standIns := [], harness := (true, "27a51ec012144873418275e0e4e6cec471bb16b3db4d9af00704d91acf900886"), looks := false }, kinds := [], alts := [], laidByText := true, laidKinds := [.data, .pinned], laidTests := true, laidLooks := .later }
def ActioncacheHitsEqualRecomputationCardSaid : Prop := Claim7.holds Tryd.pinned (.plain (OpenSpec.ofChange actioncacheHitsEqualRecomputationSpec)) actioncacheHitsEqualRecomputationCard

/-- THE TIED CARD OF 'changeforgelaw6.ActioncacheStoresCommute'. -/
def actioncacheStoresCommuteCard : Claim7 := { stood := { row := actioncacheStoresCommuteRow, standIns := [], harness := (true, "27a51ec012144873418275e0e4e6cec471bb16b3db4d9af00704d91acf900886"), looks := false }, kinds := [], alts := [], laidByText := true, laidKinds := [.data, .pinned], laidTests := true, laidLooks := .later }
def ActioncacheStoresCommuteCardSaid : Prop := Claim7.holds Tryd.pinned (.plain (OpenSpec.ofChange actioncacheStoresCommuteSpec)) actioncacheStoresCommuteCard

/-- THE TIED CARD OF 'changeforgelaw6.ActioncacheKeysIgnoreOtherFiles'. -/
def actioncacheKeysIgnoreOtherFilesCard : Claim7 := { stood := { row := actioncacheKeysIgnoreOtherFilesRow, standIns := [], harness := (true, "27a51ec012144873418275e0e4e6cec471bb16b3db4d9af00704d91acf900886"), looks := false }, kinds := [], alts := [], laidByText := true, laidKinds := [.data, .pinned], laidTests := true, laidLooks := .later }
def ActioncacheKeysIgnoreOtherFilesCardSaid : Prop := Claim7.holds Tryd.pinned (.plain (OpenSpec.ofChange actioncacheKeysIgnoreOtherFilesSpec)) actioncacheKeysIgnoreOtherFilesCard

/-- THE TIED CARD OF 'changeforgelaw6.BomMatchesSpec'. -/
def bomMatchesSpecCard : Claim7 := { stood := { row := bomMatchesSpecRow, standIns := [], harness := (true, "27a51ec012144873418275e0e4e6cec471bb16b3db4d9af00704d91acf900886"), looks := false }, kinds := [], alts := [], laidByText := true, laidKinds := [.data, .pinned], laidTests := true, laidLooks := .later }
def BomMatchesSpecCardSaid : Prop := Claim7.holds Tryd.pinned (.plain (OpenSpec.ofChange bomMatchesSpecSpec)) bomMatchesSpecCard

/-- THE TIED CARD OF 'changeforgelaw6.BomMakeMatchesSpec'. -/
def bomMakeMatchesSpecCard : Claim7 := { stood := { row := bomMakeMatchesSpecRow, standIns := [], harness := (true, "27a51ec012144873418275e0e4e6cec471bb16b3db4d9af00704d91acf900886"), looks := false }, kinds := [], alts := [], laidByText := true, laidKinds := [.data, .pinned], laidTests := true, laidLooks := .later }
def BomMakeMatchesSpecCardSaid : Prop := Claim7.holds Tryd.pinned (.plain (OpenSpec.ofChange bomMakeMatchesSpecSpec)) bomMakeMatchesSpecCard

/-- THE TIED CARD OF 'changeforgelaw6.BomMergeMatchesSpec'. -/
def bomMergeMatchesSpecCard : Claim7 := { stood := { row := bomMergeMatchesSpecRow, standIns := [], harness := (true, "27a51ec012144873418275e0e4e6cec471bb16b3db4d9af00704d91acf900886"), looks := false }, kinds := [], alts := [], laidByText := true, laidKinds := [.data, .pinned], laidTests := true, laidLooks := .later }
def BomMergeMatchesSpecCardSaid : Prop := Claim7.holds Tryd.pinned (.plain (OpenSpec.ofChange bomMergeMatchesSpecSpec)) bomMergeMatchesSpecCard

/-- THE TIED CARD OF 'changeforgelaw6.BomMadeDescribesItsTree'. -/
def bomMadeDescribesItsTreeCard : Claim7 := { stood := { row := bomMadeDescribesItsTreeRow, standIns := [], harness := (true, "27a51ec012144873418275e0e4e6cec471bb16b3db4d9af00704d91acf900886"), looks := false }, kinds := [], alts := [], laidByText := true, laidKinds := [.data, .pinned], laidTests := true, laidLooks := .later }
def BomMadeDescribesItsTreeCardSaid : Prop := Claim7.holds Tryd.pinned (.plain (OpenSpec.ofChange bomMadeDescribesItsTreeSpec)) bomMadeDescribesItsTreeCard

/-- THE TIED CARD OF 'changeforgelaw6.BomMergedDescribesBoth'. -/
def bomMergedDescribesBothCard : Claim7 := { stood := { row := bomMergedDescribesBothRow, standIns := [], harness := (true, "27a51ec012144873418275e0e4e6cec471bb16b3db4d9af00704d91acf900886"), looks := false }, kinds := [], alts := [], laidByText := true, laidKinds := [.data, .pinned], laidTests := true, laidLooks := .later }
def BomMergedDescribesBothCardSaid : Prop := Claim7.holds Tryd.pinned (.plain (OpenSpec.ofChange bomMergedDescribesBothSpec)) bomMergedDescribesBothCard

/-- THE TIED CARD OF 'changeforgelaw6.BomOtherFilesDoNotMatter'. -/
def bomOtherFilesDoNotMatterCard : Claim7 := { stood := { row := bomOtherFilesDoNotMatterRow, standIns := [], harness := (true, "27a51ec012144873418275e0e4e6cec471bb16b3db4d9af00704d91acf900886"), looks := false }, kinds := [], alts := [], laidByText := true, laidKinds := [.data, .pinned], laidTests := true, laidLooks := .later }
def BomOtherFilesDoNotMatterCardSaid : Prop := Claim7.holds Tryd.pinned (.plain (OpenSpec.ofChange bomOtherFilesDoNotMatterSpec)) bomOtherFilesDoNotMatterCard

/-- THE SECOND FORM's CARD OF 'changeforgelaw6.ActioncacheMatchesSpec'. -/
def actioncacheMatchesSpecUptoCard : Claim7 := { stood := { row := actioncacheMatchesSpecUptoRow, standIns := [], harness := (true, "27a51ec012144873418275e0e4e6cec471bb16b3db4d9af00704d91acf900886"), looks := false }, kinds := [], alts := [], laidByText := true, laidKinds := [.data, .pinned], laidTests := true, laidLooks := .later }
def ActioncacheMatchesSpecUptoCardSaid : Prop := Claim7.holds Tryd.pinned (.plain (OpenSpec.upto actioncacheMatchesSpecSpec)) actioncacheMatchesSpecUptoCard

/-- THE SECOND FORM's CARD OF 'changeforgelaw6.ActioncacheKeyMatchesSpec'. -/
def actioncacheKeyMatchesSpecUptoCard : Claim7 := { stood := { row := actioncacheKeyMatchesSpecUptoRow, standIns := [], harness := (true, "27a51ec012144873418275e0e4e6cec471bb16b3db4d9af00704d91acf900886"), looks := false }, kinds := [], alts := [], laidByText := true, laidKinds := [.data, .pinned], laidTests := true, laidLooks := .later }
def ActioncacheKeyMatchesSpecUptoCardSaid : Prop := Claim7.holds Tryd.pinned (.plain (OpenSpec.upto actioncacheKeyMatchesSpecSpec)) actioncacheKeyMatchesSpecUptoCard

/-- THE SECOND FORM's CARD OF 'changeforgelaw6.ActioncacheStoredIsFound'. -/
def actioncacheStoredIsFoundUptoCard : Claim7 := { stood := { row := actioncacheStoredIsFoundUptoRow, standIns := [], harness := (true, "27a51ec012144873418275e0e4e6cec471bb16b3db4d9af00704d91acf900886"), looks := false }, kinds := [], alts := [], laidByText := true, laidKinds := [.data, .pinned], laidTests := true, laidLooks := .later }
def ActioncacheStoredIsFoundUptoCardSaid : Prop := Claim7.holds Tryd.pinned (.plain (OpenSpec.upto actioncacheStoredIsFoundSpec)) actioncacheStoredIsFoundUptoCard

/-- THE SECOND FORM's CARD OF 'changeforgelaw6.ActioncacheHitsEqualRecomputation'. -/
def actioncacheHitsEqualRecomputationUptoCard : Claim7 := { stood := { row := actioncacheHitsEqualRecomputationUptoRow, standIns := [], harness := (true, "27a51ec012144873418275e0e4e6cec471bb16b3db4d9af00704d91acf900886"), looks := false }, kinds := [], alts := [], laidByText := true, laidKinds := [.data, .pinned], laidTests := true, laidLooks := .later }
def ActioncacheHitsEqualRecomputationUptoCardSaid : Prop := Claim7.holds Tryd.pinned (.plain (OpenSpec.upto actioncacheHitsEqualRecomputationSpec)) actioncacheHitsEqualRecomputationUptoCard

/-- THE SECOND FORM's CARD OF 'changeforgelaw6.ActioncacheStoresCommute'. -/
def actioncacheStoresCommuteUptoCard : Claim7 := { stood := { row := actioncacheStoresCommuteUptoRow, standIns := [], harness := (true, "27a51ec012144873418275e0e4e6cec471bb16b3db4d9af00704d91acf900886"), looks := false }, kinds := [], alts := [], laidByText := true, laidKinds := [.data, .pinned], laidTests := true, laidLooks := .later }
def ActioncacheStoresCommuteUptoCardSaid : Prop := Claim7.holds Tryd.pinned (.plain (OpenSpec.upto actioncacheStoresCommuteSpec)) actioncacheStoresCommuteUptoCard

/-- THE SECOND FORM's CARD OF 'changeforgelaw6.ActioncacheKeysIgnoreOtherFiles'. -/
def actioncacheKeysIgnoreOtherFilesUptoCard : Claim7 := { stood := { row := actioncacheKeysIgnoreOtherFilesUptoRow, standIns := [], harness := (true, "27a51ec012144873418275e0e4e6cec471bb16b3db4d9af00704d91acf900886"), looks := false }, kinds := [], alts := [], laidByText := true, laidKinds := [.data, .pinned], laidTests := true, laidLooks := .later }
def ActioncacheKeysIgnoreOtherFilesUptoCardSaid : Prop := Claim7.holds Tryd.pinned (.plain (OpenSpec.upto actioncacheKeysIgnoreOtherFilesSpec)) actioncacheKeysIgnoreOtherFilesUptoCard

/-- THE SECOND FORM's CARD OF 'changeforgelaw6.BomMatchesSpec'. -/
def bomMatchesSpecUptoCard : Claim7 := { stood := { row := bomMatchesSpecUptoRow, standIns := [], harness := (true, "27a51ec012144873418275e0e4e6cec471bb16b3db4d9af00704d91acf900886"), looks := false }, kinds := [], alts := [], laidByText := true, laidKinds := [.data, .pinned], laidTests := true, laidLooks := .later }
def BomMatchesSpecUptoCardSaid : Prop := Claim7.holds Tryd.pinned (.plain (OpenSpec.upto bomMatchesSpecSpec)) bomMatchesSpecUptoCard

/-- THE SECOND FORM's CARD OF 'changeforgelaw6.BomMakeMatchesSpec'. -/
def bomMakeMatchesSpecUptoCard : Claim7 := { stood := { row := bomMakeMatchesSpecUptoRow, standIns := [], harness := (true, "27a51ec012144873418275e0e4e6cec471bb16b3db4d9af00704d91acf900886"), looks := false }, kinds := [], alts := [], laidByText := true, laidKinds := [.data, .pinned], laidTests := true, laidLooks := .later }
def BomMakeMatchesSpecUptoCardSaid : Prop := Claim7.holds Tryd.pinned (.plain (OpenSpec.upto bomMakeMatchesSpecSpec)) bomMakeMatchesSpecUptoCard

/-- THE SECOND FORM's CARD OF 'changeforgelaw6.BomMergeMatchesSpec'. -/
def bomMergeMatchesSpecUptoCard : Claim7 := { stood := { row := bomMergeMatchesSpecUptoRow, standIns := [], harness := (true, "27a51ec012144873418275e0e4e6cec471bb16b3db4d9af00704d91acf900886"), looks := false }, kinds := [], alts := [], laidByText := true, laidKinds := [.data, .pinned], laidTests := true, laidLooks := .later }
def BomMergeMatchesSpecUptoCardSaid : Prop := Claim7.holds Tryd.pinned (.plain (OpenSpec.upto bomMergeMatchesSpecSpec)) bomMergeMatchesSpecUptoCard

/-- THE SECOND FORM's CARD OF 'changeforgelaw6.BomMadeDescribesItsTree'. -/
def bomMadeDescribesItsTreeUptoCard : Claim7 := { stood := { row := bomMadeDescribesItsTreeUptoRow, standIns := [], harness := (true, "27a51ec012144873418275e0e4e6cec471bb16b3db4d9af00704d91acf900886"), looks := false }, kinds := [], alts := [], laidByText := true, laidKinds := [.data, .pinned], laidTests := true, laidLooks := .later }
def BomMadeDescribesItsTreeUptoCardSaid : Prop := Claim7.holds Tryd.pinned (.plain (OpenSpec.upto bomMadeDescribesItsTreeSpec)) bomMadeDescribesItsTreeUptoCard

/-- THE SECOND FORM's CARD OF 'changeforgelaw6.BomMergedDescribesBoth'. -/
def bomMergedDescribesBothUptoCard : Claim7 := { stood := { row := bomMergedDescribesBothUptoRow, standIns := [], harness := (true, "27a51ec012144873418275e0e4e6cec471bb16b3db4d9af00704d91acf900886"), looks := false }, kinds := [], alts := [], laidByText := true, laidKinds := [.data, .pinned], laidTests := true, laidLooks := .later }
def BomMergedDescribesBothUptoCardSaid : Prop := Claim7.holds Tryd.pinned (.plain (OpenSpec.upto bomMergedDescribesBothSpec)) bomMergedDescribesBothUptoCard

/-- THE SECOND FORM's CARD OF 'changeforgelaw6.BomOtherFilesDoNotMatter'. -/
def bomOtherFilesDoNotMatterUptoCard : Claim7 := { stood := { row := bomOtherFilesDoNotMatterUptoRow, standIns := [], harness := (true, "27a51ec012144873418275e0e4e6cec471bb16b3db4d9af00704d91acf900886"), looks := false }, kinds := [], alts := [], laidByText := true, laidKinds := [.data, .pinned], laidTests := true, laidLooks := .later }
def BomOtherFilesDoNotMatterUptoCardSaid : Prop := Claim7.holds Tryd.pinned (.plain (OpenSpec.upto bomOtherFilesDoNotMatterSpec)) bomOtherFilesDoNotMatterUptoCard
end Rows
end Go.Proofs.YtlkknmhhefjmjaaDoor
