/-
  NARROWER THAN 'FOR EVERY INPUT', by the rows' own cells (each row's printed sentence says how): ActioncacheMatchesSpec: laid · ActioncacheKeyMatchesSpec: laid · ActioncacheStoredIsFound: laid · ActioncacheHitsEqualRecomputation: laid · ActioncacheStoresCommute: laid · ActioncacheKeysIgnoreOtherFiles: laid · BomMatchesSpec: laid · BomMakeMatchesSpec: laid · BomMergeMatchesSpec: laid · BomMadeDescribesItsTree: laid · BomMergedDescribesBoth: laid · BomOtherFilesDoNotMatter: laid.
  DERIVED. THE GIVEN ROWS OF THIS SEAT. 12 by the template 'for every input the law returns true; each argument reads behind the call as it read before'; 0 by the template 'total and deterministic' (their statements: YtlkknmhhefjmjaaDoorTotals.lean).
  GIVEN WITH THE SEED: the statements are not yours to turn. If you find one false, say at which input.
  Laid BY PROGRAM, IN A SANDBOX (cutbox-rows.mjs): the forced cells as the released guide's own fill.sh prints them over the translation d84aeba2cfa118b4… (all of the seat's roots in one cut). By AI agents, Wed Nov 11 2026. No macro, syntax, notation, axiom, sorry.
-/
import Derived.Test.YtlkknmhhefjmjaaDoorChecked
import GoSem.PinnedTables
import GoSem.Claim
import GoSem.ClaimJoined
import GoSem.ClaimMapViews
import Derived.JoinedTies
import Derived.KernelRfl
namespace Go.Proofs.YtlkknmhhefjmjaaDoor
/- THE CELL 'sum', in the pinned program and in every row, IS THE sha256 OF THE DUMP (.gsa) THAT YtlkknmhhefjmjaaDoorProg.lean LOADS. Nothing in Lean hashes anything: it is a label: what it is worth is what the hold of that sum in a sandbox is worth. -/
noncomputable def Tryd.pinned : Pinned := { name := "ytlkknmhhefjmjaadoor", sum := "d84aeba2cfa118b40b40bcdbde808452c28c06b0acb2bd2b64aca9cf688f15c2", checked := Tryd.checked }
namespace Rows
def none {H : Type} : Left H := { results := [], args := [] }

/- WHAT THE LISTED PACKAGE-LEVEL VARIABLES READ AS WHEN THE CALL BEGINS. Each datum BY PROGRAM (the guide's laid-datum.mjs) off the statement by which the dump's own 'gosem.cut.vars' lays the variable. In a bare row this is a premise. The card (YtlkknmhhefjmjaaDoorCards.lean) ties it to the program's text. -/
def laid_unicode_utf8_acceptRanges {H : Type} : DataW H := .agg [.agg [.lit (.int .u8 128), .lit (.int .u8 191)], .agg [.lit (.int .u8 160), .lit (.int .u8 191)], .agg [.lit (.int .u8 128), .lit (.int .u8 159)], .agg [.lit (.int .u8 144), .lit (.int .u8 191)], .agg [.lit (.int .u8 128), .lit (.int .u8 143)], .agg [.lit (.int .u8 0), .lit (.int .u8 0)], .agg [.lit (.int .u8 0), .lit (.int .u8 0)], .agg [.lit (.int .u8 0), .lit (.int .u8 0)], .agg [.lit (.int .u8 0), .lit (.int .u8 0)], .agg [.lit (.int .u8 0), .lit (.int .u8 0)], .agg [.lit (.int .u8 0), .lit (.int .u8 0)], .agg [.lit (.int .u8 0), .lit (.int .u8 0)], .agg [.lit (.int .u8 0), .lit (.int .u8 0)], .agg [.lit (.int .u8 0), .lit (.int .u8 0)], .agg [.lit (.int .u8 0), .lit (.int .u8 0)], .agg [.lit (.int .u8 0), .lit (.int .u8 0)]]
/-- One of Go's own tables, pinned by name: the form's constant. -/
def laid_unicode_utf8_first : DataW Unit := Go.Pinned.utf8First

/-- 'changeforgelaw6.ActioncacheMatchesSpec': WHATEVER THE INPUT: true; the input reads as it did. -/
def actioncacheMatchesSpecSpec : ChangeSpec := { name := "actioncacheMatchesSpec", fn := fun _ => fun
  | [d1, d2, d3] => { results := [.lit (.bool true)], args := [d1, d2, d3] }
  | _ => none }
def actioncacheMatchesSpecRow : OpenClaim := { program := "ytlkknmhhefjmjaadoor", sum := "d84aeba2cfa118b40b40bcdbde808452c28c06b0acb2bd2b64aca9cf688f15c2", func := "changeforge/changeforgelaw6.ActioncacheMatchesSpec", spec := "actioncacheMatchesSpec", inPlace := ["internal/bytealg.IndexByteString", "internal/bytealg.IndexString", "internal/bytealg.abigen_runtime_cmpstring", "slices.overlaps[changeforge/api.CacheEntry]"], unfollowed := true, recurses := true, named := ["unicode/utf8.first", "unicode/utf8.acceptRanges", "internal/bytealg.MaxLen"], apart := false, laid := [("unicode/utf8.acceptRanges", laid_unicode_utf8_acceptRanges), ("unicode/utf8.first", laid_unicode_utf8_first)] }
def ActioncacheMatchesSpecSaid : Prop := actioncacheMatchesSpecRow.holds Tryd.pinned (OpenSpec.ofChange actioncacheMatchesSpecSpec)

/-- ITS FALSE NEIGHBOUR: 'it returns false'. Refute it at one input. -/
def actioncacheMatchesSpecWrong : ChangeSpec := { name := "actioncacheMatchesSpec", fn := fun _ => fun
  | [d1, d2, d3] => { results := [.lit (.bool false)], args := [d1, d2, d3] }
  | _ => none }
def ActioncacheMatchesSpecWrongFalsely : Prop := actioncacheMatchesSpecRow.holds Tryd.pinned (OpenSpec.ofChange actioncacheMatchesSpecWrong)

/-- 'changeforgelaw6.ActioncacheKeyMatchesSpec': WHATEVER THE INPUT: true; the input reads as it did. -/
def actioncacheKeyMatchesSpecSpec : ChangeSpec := { name := "actioncacheKeyMatchesSpec", fn := fun _ => fun
  | [d1, d2] => { results := [.lit (.bool true)], args := [d1, d2] }
  | _ => none }
def actioncacheKeyMatchesSpecRow : OpenClaim := { program := "ytlkknmhhefjmjaadoor", sum := "d84aeba2cfa118b40b40bcdbde808452c28c06b0acb2bd2b64aca9cf688f15c2", func := "changeforge/changeforgelaw6.ActioncacheKeyMatchesSpec", spec := "actioncacheKeyMatchesSpec", inPlace := ["internal/bytealg.IndexByteString", "internal/bytealg.IndexString", "internal/bytealg.abigen_runtime_cmpstring", "slices.overlaps[changeforge/api.CacheEntry]"], unfollowed := true, recurses := true, named := ["unicode/utf8.first", "unicode/utf8.acceptRanges", "internal/bytealg.MaxLen"], apart := false, laid := [("unicode/utf8.acceptRanges", laid_unicode_utf8_acceptRanges), ("unicode/utf8.first", laid_unicode_utf8_first)] }
def ActioncacheKeyMatchesSpecSaid : Prop := actioncacheKeyMatchesSpecRow.holds Tryd.pinned (OpenSpec.ofChange actioncacheKeyMatchesSpecSpec)

/-- ITS FALSE NEIGHBOUR: 'it returns false'. Refute it at one input. -/
def actioncacheKeyMatchesSpecWrong : ChangeSpec := { name := "actioncacheKeyMatchesSpec", fn := fun _ => fun
  | [d1, d2] => { results := [.lit (.bool false)], args := [d1, d2] }
  | _ => none }
def ActioncacheKeyMatchesSpecWrongFalsely : Prop := actioncacheKeyMatchesSpecRow.holds Tryd.pinned (OpenSpec.ofChange actioncacheKeyMatchesSpecWrong)

/-- 'changeforgelaw6.ActioncacheStoredIsFound': WHATEVER THE INPUT: true; the input reads as it did. -/
def actioncacheStoredIsFoundSpec : ChangeSpec := { name := "actioncacheStoredIsFound", fn := fun _ => fun
  | [d1, d2, d3, d4] => { results := [.lit (.bool true)], args := [d1, d2, d3, d4] }
  | _ => none }
def actioncacheStoredIsFoundRow : OpenClaim := { program := "ytlkknmhhefjmjaadoor", sum := "d84aeba2cfa118b40b40bcdbde808452c28c06b0acb2bd2b64aca9cf688f15c2", func := "changeforge/changeforgelaw6.ActioncacheStoredIsFound", spec := "actioncacheStoredIsFound", inPlace := ["internal/bytealg.IndexByteString", "slices.overlaps[changeforge/api.CacheEntry]", "internal/bytealg.IndexString", "internal/bytealg.abigen_runtime_cmpstring"], unfollowed := true, recurses := true, named := ["unicode/utf8.first", "unicode/utf8.acceptRanges", "internal/bytealg.MaxLen"], apart := false, laid := [("unicode/utf8.acceptRanges", laid_unicode_utf8_acceptRanges), ("unicode/utf8.first", laid_unicode_utf8_first)] }
def ActioncacheStoredIsFoundSaid : Prop := actioncacheStoredIsFoundRow.holds Tryd.pinned (OpenSpec.ofChange actioncacheStoredIsFoundSpec)

/-- ITS FALSE NEIGHBOUR: 'it returns false'. Refute it at one input. -/
def actioncacheStoredIsFoundWrong : ChangeSpec := { name := "actioncacheStoredIsFound", fn := fun _ => fun
  | [d1, d2, d3, d4] => { results := [.lit (.bool false)], args := [d1, d2, d3, d4] }
  | _ => none }
def ActioncacheStoredIsFoundWrongFalsely : Prop := actioncacheStoredIsFoundRow.holds Tryd.pinned (OpenSpec.ofChange actioncacheStoredIsFoundWrong)

/-- 'changeforgelaw6.ActioncacheHitsEqualRecomputation': WHATEVER THE INPUT: true; the input reads as it did. -/
def actioncacheHitsEqualRecomputationSpec : ChangeSpec := { name := "actioncacheHitsEqualRecomputation", fn := fun _ => fun
  | [d1, d2, d3] => { results := [.lit (.bool true)], args := [d1, d2, d3] }
  | _ => none }
def actioncacheHitsEqualRecomputationRow : OpenClaim := { program := "ytlkknmhhefjmjaadoor", sum := "d84aeba2cfa118b40b40bcdbde808452c28c06b0acb2bd2b64aca9cf688f15c2", func := "changeforge/changeforgelaw6.ActioncacheHitsEqualRecomputation", spec := "actioncacheHitsEqualRecomputation", inPlace := ["internal/bytealg.IndexByteString", "internal/bytealg.IndexString", "internal/bytealg.abigen_runtime_cmpstring", "slices.overlaps[changeforge/api.CacheEntry]"], unfollowed := true, recurses := true, named := ["unicode/utf8.first", "unicode/utf8.acceptRanges", "internal/bytealg.MaxLen"], apart := false, laid := [("unicode/utf8.acceptRanges", laid_unicode_utf8_acceptRanges), ("unicode/utf8.first", laid_unicode_utf8_first)] }
def ActioncacheHitsEqualRecomputationSaid : Prop := actioncacheHitsEqualRecomputationRow.holds Tryd.pinned (OpenSpec.ofChange actioncacheHitsEqualRecomputationSpec)

/-- ITS FALSE NEIGHBOUR: 'it returns false'. Refute it at one input. -/
def actioncacheHitsEqualRecomputationWrong : ChangeSpec := { name := "actioncacheHitsEqualRecomputation", fn := fun _ => fun
  | [d1, d2, d3] => { results := [.lit (.bool false)], args := [d1, d2, d3] }
  | _ => none }
def ActioncacheHitsEqualRecomputationWrongFalsely : Prop := actioncacheHitsEqualRecomputationRow.holds Tryd.pinned (OpenSpec.ofChange actioncacheHitsEqualRecomputationWrong)

/-- 'changeforgelaw6.ActioncacheStoresCommute': WHATEVER THE INPUT: true; the input reads as it did. -/
def actioncacheStoresCommuteSpec : ChangeSpec := { name := "actioncacheStoresCommute", fn := fun _ => fun
  | [d1, d2, d3, d4, d5] => { results := [.lit (.bool true)], args := [d1, d2, d3, d4, d5] }
  | _ => none }
def actioncacheStoresCommuteRow : OpenClaim := { program := "ytlkknmhhefjmjaadoor", sum := "d84aeba2cfa118b40b40bcdbde808452c28c06b0acb2bd2b64aca9cf688f15c2", func := "changeforge/changeforgelaw6.ActioncacheStoresCommute", spec := "actioncacheStoresCommute", inPlace := ["internal/bytealg.IndexByteString", "internal/bytealg.IndexString", "internal/bytealg.abigen_runtime_cmpstring", "slices.overlaps[changeforge/api.CacheEntry]"], unfollowed := true, recurses := true, named := ["unicode/utf8.first", "unicode/utf8.acceptRanges", "internal/bytealg.MaxLen"], apart := false, laid := [("unicode/utf8.acceptRanges", laid_unicode_utf8_acceptRanges), ("unicode/utf8.first", laid_unicode_utf8_first)] }
def ActioncacheStoresCommuteSaid : Prop := actioncacheStoresCommuteRow.holds Tryd.pinned (OpenSpec.ofChange actioncacheStoresCommuteSpec)

/-- ITS FALSE NEIGHBOUR: 'it returns false'. Refute it at one input. -/
def actioncacheStoresCommuteWrong : ChangeSpec := { name := "actioncacheStoresCommute", fn := fun _ => fun
  | [d1, d2, d3, d4, d5] => { results := [.lit (.bool false)], args := [d1, d2, d3, d4, d5] }
  | _ => none }
def ActioncacheStoresCommuteWrongFalsely : Prop := actioncacheStoresCommuteRow.holds Tryd.pinned (OpenSpec.ofChange actioncacheStoresCommuteWrong)

/-- 'changeforgelaw6.ActioncacheKeysIgnoreOtherFiles': WHATEVER THE INPUT: true; the input reads as it did. -/
def actioncacheKeysIgnoreOtherFilesSpec : ChangeSpec := { name := "actioncacheKeysIgnoreOtherFiles", fn := fun _ => fun
  | [d1, d2] => { results := [.lit (.bool true)], args := [d1, d2] }
  | _ => none }
def actioncacheKeysIgnoreOtherFilesRow : OpenClaim := { program := "ytlkknmhhefjmjaadoor", sum := "d84aeba2cfa118b40b40bcdbde808452c28c06b0acb2bd2b64aca9cf688f15c2", func := "changeforge/changeforgelaw6.ActioncacheKeysIgnoreOtherFiles", spec := "actioncacheKeysIgnoreOtherFiles", inPlace := ["internal/bytealg.IndexByteString", "internal/bytealg.IndexString", "internal/bytealg.abigen_runtime_cmpstring", "slices.overlaps[changeforge/api.CacheEntry]"], unfollowed := true, recurses := true, named := ["unicode/utf8.first", "unicode/utf8.acceptRanges", "internal/bytealg.MaxLen"], apart := false, laid := [("unicode/utf8.acceptRanges", laid_unicode_utf8_acceptRanges), ("unicode/utf8.first", laid_unicode_utf8_first)] }
def ActioncacheKeysIgnoreOtherFilesSaid : Prop := actioncacheKeysIgnoreOtherFilesRow.holds Tryd.pinned (OpenSpec.ofChange actioncacheKeysIgnoreOtherFilesSpec)

/-- ITS FALSE NEIGHBOUR: 'it returns false'. Refute it at one input. -/
def actioncacheKeysIgnoreOtherFilesWrong : ChangeSpec := { name := "actioncacheKeysIgnoreOtherFiles", fn := fun _ => fun
  | [d1, d2] => { results := [.lit (.bool false)], args := [d1, d2] }
  | _ => none }
def ActioncacheKeysIgnoreOtherFilesWrongFalsely : Prop := actioncacheKeysIgnoreOtherFilesRow.holds Tryd.pinned (OpenSpec.ofChange actioncacheKeysIgnoreOtherFilesWrong)

/-- 'changeforgelaw6.BomMatchesSpec': WHATEVER THE INPUT: true; the input reads as it did. -/
def bomMatchesSpecSpec : ChangeSpec := { name := "bomMatchesSpec", fn := fun _ => fun
  | [d1, d2] => { results := [.lit (.bool true)], args := [d1, d2] }
  | _ => none }
def bomMatchesSpecRow : OpenClaim := { program := "ytlkknmhhefjmjaadoor", sum := "d84aeba2cfa118b40b40bcdbde808452c28c06b0acb2bd2b64aca9cf688f15c2", func := "changeforge/changeforgelaw6.BomMatchesSpec", spec := "bomMatchesSpec", inPlace := ["internal/bytealg.IndexByteString", "internal/bytealg.IndexString", "internal/bytealg.abigen_runtime_cmpstring"], unfollowed := true, recurses := true, named := ["unicode/utf8.first", "unicode/utf8.acceptRanges", "internal/bytealg.MaxLen"], apart := false, laid := [("unicode/utf8.acceptRanges", laid_unicode_utf8_acceptRanges), ("unicode/utf8.first", laid_unicode_utf8_first)] }
def BomMatchesSpecSaid : Prop := bomMatchesSpecRow.holds Tryd.pinned (OpenSpec.ofChange bomMatchesSpecSpec)

/-- ITS FALSE NEIGHBOUR: 'it returns false'. Refute it at one input. -/
def bomMatchesSpecWrong : ChangeSpec := { name := "bomMatchesSpec", fn := fun _ => fun
  | [d1, d2] => { results := [.lit (.bool false)], args := [d1, d2] }
  | _ => none }
def BomMatchesSpecWrongFalsely : Prop := bomMatchesSpecRow.holds Tryd.pinned (OpenSpec.ofChange bomMatchesSpecWrong)

/-- 'changeforgelaw6.BomMakeMatchesSpec': WHATEVER THE INPUT: true; the input reads as it did. -/
def bomMakeMatchesSpecSpec : ChangeSpec := { name := "bomMakeMatchesSpec", fn := fun _ => fun
  | [d1, d2] => { results := [.lit (.bool true)], args := [d1, d2] }
  | _ => none }
def bomMakeMatchesSpecRow : OpenClaim := { program := "ytlkknmhhefjmjaadoor", sum := "d84aeba2cfa118b40b40bcdbde808452c28c06b0acb2bd2b64aca9cf688f15c2", func := "changeforge/changeforgelaw6.BomMakeMatchesSpec", spec := "bomMakeMatchesSpec", inPlace := ["internal/bytealg.IndexByteString", "internal/bytealg.IndexString", "internal/bytealg.abigen_runtime_cmpstring"], unfollowed := true, recurses := true, named := ["unicode/utf8.first", "unicode/utf8.acceptRanges", "internal/bytealg.MaxLen"], apart := false, laid := [("unicode/utf8.acceptRanges", laid_unicode_utf8_acceptRanges), ("unicode/utf8.first", laid_unicode_utf8_first)] }
def BomMakeMatchesSpecSaid : Prop := bomMakeMatchesSpecRow.holds Tryd.pinned (OpenSpec.ofChange bomMakeMatchesSpecSpec)

/-- ITS FALSE NEIGHBOUR: 'it returns false'. Refute it at one input. -/
def bomMakeMatchesSpecWrong : ChangeSpec := { name := "bomMakeMatchesSpec", fn := fun _ => fun
  | [d1, d2] => { results := [.lit (.bool false)], args := [d1, d2] }
  | _ => none }
def BomMakeMatchesSpecWrongFalsely : Prop := bomMakeMatchesSpecRow.holds Tryd.pinned (OpenSpec.ofChange bomMakeMatchesSpecWrong)

/-- 'changeforgelaw6.BomMergeMatchesSpec': WHATEVER THE INPUT: true; the input reads as it did. -/
def bomMergeMatchesSpecSpec : ChangeSpec := { name := "bomMergeMatchesSpec", fn := fun _ => fun
  | [d1, d2] => { results := [.lit (.bool true)], args := [d1, d2] }
  | _ => none }
def bomMergeMatchesSpecRow : OpenClaim := { program := "ytlkknmhhefjmjaadoor", sum := "d84aeba2cfa118b40b40bcdbde808452c28c06b0acb2bd2b64aca9cf688f15c2", func := "changeforge/changeforgelaw6.BomMergeMatchesSpec", spec := "bomMergeMatchesSpec", inPlace := ["internal/bytealg.IndexByteString", "internal/bytealg.IndexString", "internal/bytealg.abigen_runtime_cmpstring"], unfollowed := true, recurses := true, named := ["unicode/utf8.first", "unicode/utf8.acceptRanges", "internal/bytealg.MaxLen"], apart := false, laid := [("unicode/utf8.acceptRanges", laid_unicode_utf8_acceptRanges), ("unicode/utf8.first", laid_unicode_utf8_first)] }
def BomMergeMatchesSpecSaid : Prop := bomMergeMatchesSpecRow.holds Tryd.pinned (OpenSpec.ofChange bomMergeMatchesSpecSpec)

/-- ITS FALSE NEIGHBOUR: 'it returns false'. Refute it at one input. -/
def bomMergeMatchesSpecWrong : ChangeSpec := { name := "bomMergeMatchesSpec", fn := fun _ => fun
  | [d1, d2] => { results := [.lit (.bool false)], args := [d1, d2] }
  | _ => none }
def BomMergeMatchesSpecWrongFalsely : Prop := bomMergeMatchesSpecRow.holds Tryd.pinned (OpenSpec.ofChange bomMergeMatchesSpecWrong)

/-- 'changeforgelaw6.BomMadeDescribesItsTree': WHATEVER THE INPUT: true; the input reads as it did. -/
def bomMadeDescribesItsTreeSpec : ChangeSpec := { name := "bomMadeDescribesItsTree", fn := fun _ => fun
  | [d1, d2, d3] => { results := [.lit (.bool true)], args := [d1, d2, d3] }
  | _ => none }
def bomMadeDescribesItsTreeRow : OpenClaim := { program := "ytlkknmhhefjmjaadoor", sum := "d84aeba2cfa118b40b40bcdbde808452c28c06b0acb2bd2b64aca9cf688f15c2", func := "changeforge/changeforgelaw6.BomMadeDescribesItsTree", spec := "bomMadeDescribesItsTree", inPlace := ["internal/bytealg.IndexByteString", "internal/bytealg.IndexString", "internal/bytealg.abigen_runtime_cmpstring"], unfollowed := true, recurses := true, named := ["unicode/utf8.first", "unicode/utf8.acceptRanges", "internal/bytealg.MaxLen"], apart := false, laid := [("unicode/utf8.acceptRanges", laid_unicode_utf8_acceptRanges), ("unicode/utf8.first", laid_unicode_utf8_first)] }
def BomMadeDescribesItsTreeSaid : Prop := bomMadeDescribesItsTreeRow.holds Tryd.pinned (OpenSpec.ofChange bomMadeDescribesItsTreeSpec)

/-- ITS FALSE NEIGHBOUR: 'it returns false'. Refute it at one input. -/
def bomMadeDescribesItsTreeWrong : ChangeSpec := { name := "bomMadeDescribesItsTree", fn := fun _ => fun
  | [d1, d2, d3] => { results := [.lit (.bool false)], args := [d1, d2, d3] }
  | _ => none }
def BomMadeDescribesItsTreeWrongFalsely : Prop := bomMadeDescribesItsTreeRow.holds Tryd.pinned (OpenSpec.ofChange bomMadeDescribesItsTreeWrong)

/-- 'changeforgelaw6.BomMergedDescribesBoth': WHATEVER THE INPUT: true; the input reads as it did. -/
def bomMergedDescribesBothSpec : ChangeSpec := { name := "bomMergedDescribesBoth", fn := fun _ => fun
  | [d1, d2, d3] => { results := [.lit (.bool true)], args := [d1, d2, d3] }
  | _ => none }
def bomMergedDescribesBothRow : OpenClaim := { program := "ytlkknmhhefjmjaadoor", sum := "d84aeba2cfa118b40b40bcdbde808452c28c06b0acb2bd2b64aca9cf688f15c2", func := "changeforge/changeforgelaw6.BomMergedDescribesBoth", spec := "bomMergedDescribesBoth", inPlace := ["internal/bytealg.IndexByteString", "internal/bytealg.IndexString", "internal/bytealg.abigen_runtime_cmpstring"], unfollowed := true, recurses := true, named := ["unicode/utf8.first", "unicode/utf8.acceptRanges", "internal/bytealg.MaxLen"], apart := false, laid := [("unicode/utf8.acceptRanges", laid_unicode_utf8_acceptRanges), ("unicode/utf8.first", laid_unicode_utf8_first)] }
def BomMergedDescribesBothSaid : Prop := bomMergedDescribesBothRow.holds Tryd.pinned (OpenSpec.ofChange bomMergedDescribesBothSpec)

/-- ITS FALSE NEIGHBOUR: 'it returns false'. Refute it at one input. -/
def bomMergedDescribesBothWrong : ChangeSpec := { name := "bomMergedDescribesBoth", fn := fun _ => fun
  | [d1, d2, d3] => { results := [.lit (.bool false)], args := [d1, d2, d3] }
  | _ => none }
def BomMergedDescribesBothWrongFalsely : Prop := bomMergedDescribesBothRow.holds Tryd.pinned (OpenSpec.ofChange bomMergedDescribesBothWrong)

/-- 'changeforgelaw6.BomOtherFilesDoNotMatter': WHATEVER THE INPUT: true; the input reads as it did. -/
def bomOtherFilesDoNotMatterSpec : ChangeSpec := { name := "bomOtherFilesDoNotMatter", fn := fun _ => fun
  | [d1, d2] => { results := [.lit (.bool true)], args := [d1, d2] }
  | _ => none }
def bomOtherFilesDoNotMatterRow : OpenClaim := { program := "ytlkknmhhefjmjaadoor", sum := "d84aeba2cfa118b40b40bcdbde808452c28c06b0acb2bd2b64aca9cf688f15c2", func := "changeforge/changeforgelaw6.BomOtherFilesDoNotMatter", spec := "bomOtherFilesDoNotMatter", inPlace := ["internal/bytealg.IndexByteString", "internal/bytealg.IndexString", "internal/bytealg.abigen_runtime_cmpstring"], unfollowed := true, recurses := true, named := ["unicode/utf8.first", "unicode/utf8.acceptRanges", "internal/bytealg.MaxLen"], apart := false, laid := [("unicode/utf8.acceptRanges", laid_unicode_utf8_acceptRanges), ("unicode/utf8.first", laid_unicode_utf8_first)] }
def BomOtherFilesDoNotMatterSaid : Prop := bomOtherFilesDoNotMatterRow.holds Tryd.pinned (OpenSpec.ofChange bomOtherFilesDoNotMatterSpec)

/-- ITS FALSE NEIGHBOUR: 'it returns false'. Refute it at one input. -/
def bomOtherFilesDoNotMatterWrong : ChangeSpec := { name := "bomOtherFilesDoNotMatter", fn := fun _ => fun
  | [d1, d2] => { results := [.lit (.bool false)], args := [d1, d2] }
  | _ => none }
def BomOtherFilesDoNotMatterWrongFalsely : Prop := bomOtherFilesDoNotMatterRow.holds Tryd.pinned (OpenSpec.ofChange bomOtherFilesDoNotMatterWrong)

/- THE SECOND FORM. 'bulk': how many values and letters a reading holds, each counted each time it is reached (what is shared counts as often as it is met; a slice's spare places count too). A statement '..UptoSaid' is the law's where the arguments, and the package variables that the reading takes, are together of bulk at most 1048576: NARROWER than '..Said'. Prove '..Said' where nothing that the law and all that it calls make is longer than what came in: it says more and counts as full. Else prove '..UptoSaid'. A law counts once. -/
mutual
def uptoBulk {H : Type} : DataW H → Nat
  | .lit (.string bytes) => bytes.length + 1
  | .lit _ => 1
  | .nil => 1
  | .ptr d => uptoBulk d + 1
  | .slice elems spare => uptoBulkAll elems + uptoBulkAll spare + 1
  | .agg parts => uptoBulkAll parts + 1
  | .iface _ d => uptoBulk d + 1
  | .map entries => uptoBulkEntries entries + 1
  | .held _ => 1
def uptoBulkAll {H : Type} : List (DataW H) → Nat
  | [] => 0
  | d :: r => uptoBulk d + uptoBulkAll r
def uptoBulkEntries {H : Type} : List (Lit × DataW H) → Nat
  | [] => 0
  | x :: r => uptoBulkEntry x + uptoBulkEntries r
def uptoBulkEntry {H : Type} : Lit × DataW H → Nat
  | (.string bytes, d) => bytes.length + uptoBulk d + 1
  | (_, d) => uptoBulk d + 1
 end
def uptoSmall : (H : Type) → List (DataW H) → Bool := fun _ ds => decide (uptoBulkAll ds ≤ 1048576)
def OpenSpec.upto (s : _root_.Go.ChangeSpec) : _root_.Go.OpenSpec := { _root_.Go.OpenSpec.ofChange s with cond := some uptoSmall }

/-- 'changeforgelaw6.ActioncacheMatchesSpec', WHERE WHAT IT READS IS OF BULK AT MOST 1048576: true; the input reads as it did. -/
def actioncacheMatchesSpecUptoRow : OpenClaim := { program := "ytlkknmhhefjmjaadoor", sum := "d84aeba2cfa118b40b40bcdbde808452c28c06b0acb2bd2b64aca9cf688f15c2", func := "changeforge/changeforgelaw6.ActioncacheMatchesSpec", spec := "actioncacheMatchesSpec", inPlace := ["internal/bytealg.IndexByteString", "internal/bytealg.IndexString", "internal/bytealg.abigen_runtime_cmpstring", "slices.overlaps[changeforge/api.CacheEntry]"], unfollowed := true, recurses := true, named := ["unicode/utf8.first", "unicode/utf8.acceptRanges", "internal/bytealg.MaxLen"], apart := false, laid := [("unicode/utf8.acceptRanges", laid_unicode_utf8_acceptRanges), ("unicode/utf8.first", laid_unicode_utf8_first)], narrowed := true }
def ActioncacheMatchesSpecUptoSaid : Prop := actioncacheMatchesSpecUptoRow.holds Tryd.pinned (OpenSpec.upto actioncacheMatchesSpecSpec)

/-- 'changeforgelaw6.ActioncacheKeyMatchesSpec', WHERE WHAT IT READS IS OF BULK AT MOST 1048576: true; the input reads as it did. -/
def actioncacheKeyMatchesSpecUptoRow : OpenClaim := { program := "ytlkknmhhefjmjaadoor", sum := "d84aeba2cfa118b40b40bcdbde808452c28c06b0acb2bd2b64aca9cf688f15c2", func := "changeforge/changeforgelaw6.ActioncacheKeyMatchesSpec", spec := "actioncacheKeyMatchesSpec", inPlace := ["internal/bytealg.IndexByteString", "internal/bytealg.IndexString", "internal/bytealg.abigen_runtime_cmpstring", "slices.overlaps[changeforge/api.CacheEntry]"], unfollowed := true, recurses := true, named := ["unicode/utf8.first", "unicode/utf8.acceptRanges", "internal/bytealg.MaxLen"], apart := false, laid := [("unicode/utf8.acceptRanges", laid_unicode_utf8_acceptRanges), ("unicode/utf8.first", laid_unicode_utf8_first)], narrowed := true }
def ActioncacheKeyMatchesSpecUptoSaid : Prop := actioncacheKeyMatchesSpecUptoRow.holds Tryd.pinned (OpenSpec.upto actioncacheKeyMatchesSpecSpec)

/-- 'changeforgelaw6.ActioncacheStoredIsFound', WHERE WHAT IT READS IS OF BULK AT MOST 1048576: true; the input reads as it did. -/
def actioncacheStoredIsFoundUptoRow : OpenClaim := { program := "ytlkknmhhefjmjaadoor", sum := "d84aeba2cfa118b40b40bcdbde808452c28c06b0acb2bd2b64aca9cf688f15c2", func := "changeforge/changeforgelaw6.ActioncacheStoredIsFound", spec := "actioncacheStoredIsFound", inPlace := ["internal/bytealg.IndexByteString", "slices.overlaps[changeforge/api.CacheEntry]", "internal/bytealg.IndexString", "internal/bytealg.abigen_runtime_cmpstring"], unfollowed := true, recurses := true, named := ["unicode/utf8.first", "unicode/utf8.acceptRanges", "internal/bytealg.MaxLen"], apart := false, laid := [("unicode/utf8.acceptRanges", laid_unicode_utf8_acceptRanges), ("unicode/utf8.first", laid_unicode_utf8_first)], narrowed := true }
def ActioncacheStoredIsFoundUptoSaid : Prop := actioncacheStoredIsFoundUptoRow.holds Tryd.pinned (OpenSpec.upto actioncacheStoredIsFoundSpec)

/-- 'changeforgelaw6.ActioncacheHitsEqualRecomputation', WHERE WHAT IT READS IS OF BULK AT MOST 1048576: true; the input reads as it did. -/
def actioncacheHitsEqualRecomputationUptoRow : OpenClaim := { program := "ytlkknmhhefjmjaadoor", sum := "d84aeba2cfa118b40b40bcdbde808452c28c06b0acb2bd2b64aca9cf688f15c2", func := "changeforge/changeforgelaw6.ActioncacheHitsEqualRecomputation", spec := "actioncacheHitsEqualRecomputation", inPlace := ["internal/bytealg.IndexByteString", "internal/bytealg.IndexString", "internal/bytealg.abigen_runtime_cmpstring", "slices.overlaps[changeforge/api.CacheEntry]"], unfollowed := true, recurses := true, named := ["unicode/utf8.first", "unicode/utf8.acceptRanges", "internal/bytealg.MaxLen"], apart := false, laid := [("unicode/utf8.acceptRanges", laid_unicode_utf8_acceptRanges), ("unicode/utf8.first", laid_unicode_utf8_first)], narrowed := true }
def ActioncacheHitsEqualRecomputationUptoSaid : Prop := actioncacheHitsEqualRecomputationUptoRow.holds Tryd.pinned (OpenSpec.upto actioncacheHitsEqualRecomputationSpec)

/-- 'changeforgelaw6.ActioncacheStoresCommute', WHERE WHAT IT READS IS OF BULK AT MOST 1048576: true; the input reads as it did. -/
def actioncacheStoresCommuteUptoRow : OpenClaim := { program := "ytlkknmhhefjmjaadoor", sum := "d84aeba2cfa118b40b40bcdbde808452c28c06b0acb2bd2b64aca9cf688f15c2", func := "changeforge/changeforgelaw6.ActioncacheStoresCommute", spec := "actioncacheStoresCommute", inPlace := ["internal/bytealg.IndexByteString", "internal/bytealg.IndexString", "internal/bytealg.abigen_runtime_cmpstring", "slices.overlaps[changeforge/api.CacheEntry]"], unfollowed := true, recurses := true, named := ["unicode/utf8.first", "unicode/utf8.acceptRanges", "internal/bytealg.MaxLen"], apart := false, laid := [("unicode/utf8.acceptRanges", laid_unicode_utf8_acceptRanges), ("unicode/utf8.first", laid_unicode_utf8_first)], narrowed := true }
def ActioncacheStoresCommuteUptoSaid : Prop := actioncacheStoresCommuteUptoRow.holds Tryd.pinned (OpenSpec.upto actioncacheStoresCommuteSpec)

/-- 'changeforgelaw6.ActioncacheKeysIgnoreOtherFiles', WHERE WHAT IT READS IS OF BULK AT MOST 1048576: true; the input reads as it did. -/
def actioncacheKeysIgnoreOtherFilesUptoRow : OpenClaim := { program := "ytlkknmhhefjmjaadoor", sum := "d84aeba2cfa118b40b40bcdbde808452c28c06b0acb2bd2b64aca9cf688f15c2", func := "changeforge/changeforgelaw6.ActioncacheKeysIgnoreOtherFiles", spec := "actioncacheKeysIgnoreOtherFiles", inPlace := ["internal/bytealg.IndexByteString", "internal/bytealg.IndexString", "internal/bytealg.abigen_runtime_cmpstring", "slices.overlaps[changeforge/api.CacheEntry]"], unfollowed := true, recurses := true, named := ["unicode/utf8.first", "unicode/utf8.acceptRanges", "internal/bytealg.MaxLen"], apart := false, laid := [("unicode/utf8.acceptRanges", laid_unicode_utf8_acceptRanges), ("unicode/utf8.first", laid_unicode_utf8_first)], narrowed := true }
def ActioncacheKeysIgnoreOtherFilesUptoSaid : Prop := actioncacheKeysIgnoreOtherFilesUptoRow.holds Tryd.pinned (OpenSpec.upto actioncacheKeysIgnoreOtherFilesSpec)

/-- 'changeforgelaw6.BomMatchesSpec', WHERE WHAT IT READS IS OF BULK AT MOST 1048576: true; the input reads as it did. -/
def bomMatchesSpecUptoRow : OpenClaim := { program := "ytlkknmhhefjmjaadoor", sum := "d84aeba2cfa118b40b40bcdbde808452c28c06b0acb2bd2b64aca9cf688f15c2", func := "changeforge/changeforgelaw6.BomMatchesSpec", spec := "bomMatchesSpec", inPlace := ["internal/bytealg.IndexByteString", "internal/bytealg.IndexString", "internal/bytealg.abigen_runtime_cmpstring"], unfollowed := true, recurses := true, named := ["unicode/utf8.first", "unicode/utf8.acceptRanges", "internal/bytealg.MaxLen"], apart := false, laid := [("unicode/utf8.acceptRanges", laid_unicode_utf8_acceptRanges), ("unicode/utf8.first", laid_unicode_utf8_first)], narrowed := true }
def BomMatchesSpecUptoSaid : Prop := bomMatchesSpecUptoRow.holds Tryd.pinned (OpenSpec.upto bomMatchesSpecSpec)

/-- 'changeforgelaw6.BomMakeMatchesSpec', WHERE WHAT IT READS IS OF BULK AT MOST 1048576: true; the input reads as it did. -/
def bomMakeMatchesSpecUptoRow : OpenClaim := { program := "ytlkknmhhefjmjaadoor", sum := "d84aeba2cfa118b40b40bcdbde808452c28c06b0acb2bd2b64aca9cf688f15c2", func := "changeforge/changeforgelaw6.BomMakeMatchesSpec", spec := "bomMakeMatchesSpec", inPlace := ["internal/bytealg.IndexByteString", "internal/bytealg.IndexString", "internal/bytealg.abigen_runtime_cmpstring"], unfollowed := true, recurses := true, named := ["unicode/utf8.first", "unicode/utf8.acceptRanges", "internal/bytealg.MaxLen"], apart := false, laid := [("unicode/utf8.acceptRanges", laid_unicode_utf8_acceptRanges), ("unicode/utf8.first", laid_unicode_utf8_first)], narrowed := true }
def BomMakeMatchesSpecUptoSaid : Prop := bomMakeMatchesSpecUptoRow.holds Tryd.pinned (OpenSpec.upto bomMakeMatchesSpecSpec)

/-- 'changeforgelaw6.BomMergeMatchesSpec', WHERE WHAT IT READS IS OF BULK AT MOST 1048576: true; the input reads as it did. -/
def bomMergeMatchesSpecUptoRow : OpenClaim := { program := "ytlkknmhhefjmjaadoor", sum := "d84aeba2cfa118b40b40bcdbde808452c28c06b0acb2bd2b64aca9cf688f15c2", func := "changeforge/changeforgelaw6.BomMergeMatchesSpec", spec := "bomMergeMatchesSpec", inPlace := ["internal/bytealg.IndexByteString", "internal/bytealg.IndexString", "internal/bytealg.abigen_runtime_cmpstring"], unfollowed := true, recurses := true, named := ["unicode/utf8.first", "unicode/utf8.acceptRanges", "internal/bytealg.MaxLen"], apart := false, laid := [("unicode/utf8.acceptRanges", laid_unicode_utf8_acceptRanges), ("unicode/utf8.first", laid_unicode_utf8_first)], narrowed := true }
def BomMergeMatchesSpecUptoSaid : Prop := bomMergeMatchesSpecUptoRow.holds Tryd.pinned (OpenSpec.upto bomMergeMatchesSpecSpec)

/-- 'changeforgelaw6.BomMadeDescribesItsTree', WHERE WHAT IT READS IS OF BULK AT MOST 1048576: true; the input reads as it did. -/
def bomMadeDescribesItsTreeUptoRow : OpenClaim := { program := "ytlkknmhhefjmjaadoor", sum := "d84aeba2cfa118b40b40bcdbde808452c28c06b0acb2bd2b64aca9cf688f15c2", func := "changeforge/changeforgelaw6.BomMadeDescribesItsTree", spec := "bomMadeDescribesItsTree", inPlace := ["internal/bytealg.IndexByteString", "internal/bytealg.IndexString", "internal/bytealg.abigen_runtime_cmpstring"], unfollowed := true, recurses := true, named := ["unicode/utf8.first", "unicode/utf8.acceptRanges", "internal/bytealg.MaxLen"], apart := false, laid := [("unicode/utf8.acceptRanges", laid_unicode_utf8_acceptRanges), ("unicode/utf8.first", laid_unicode_utf8_first)], narrowed := true }
def BomMadeDescribesItsTreeUptoSaid : Prop := bomMadeDescribesItsTreeUptoRow.holds Tryd.pinned (OpenSpec.upto bomMadeDescribesItsTreeSpec)

/-- 'changeforgelaw6.BomMergedDescribesBoth', WHERE WHAT IT READS IS OF BULK AT MOST 1048576: true; the input reads as it did. -/
def bomMergedDescribesBothUptoRow : OpenClaim := { program := "ytlkknmhhefjmjaadoor", sum := "d84aeba2cfa118b40b40bcdbde808452c28c06b0acb2bd2b64aca9cf688f15c2", func := "changeforge/changeforgelaw6.BomMergedDescribesBoth", spec := "bomMergedDescribesBoth", inPlace := ["internal/bytealg.IndexByteString", "internal/bytealg.IndexString", "internal/bytealg.abigen_runtime_cmpstring"], unfollowed := true, recurses := true, named := ["unicode/utf8.first", "unicode/utf8.acceptRanges", "internal/bytealg.MaxLen"], apart := false, laid := [("unicode/utf8.acceptRanges", laid_unicode_utf8_acceptRanges), ("unicode/utf8.first", laid_unicode_utf8_first)], narrowed := true }
def BomMergedDescribesBothUptoSaid : Prop := bomMergedDescribesBothUptoRow.holds Tryd.pinned (OpenSpec.upto bomMergedDescribesBothSpec)

/-- 'changeforgelaw6.BomOtherFilesDoNotMatter', WHERE WHAT IT READS IS OF BULK AT MOST 1048576: true; the input reads as it did. -/
def bomOtherFilesDoNotMatterUptoRow : OpenClaim := { program := "ytlkknmhhefjmjaadoor", sum := "d84aeba2cfa118b40b40bcdbde808452c28c06b0acb2bd2b64aca9cf688f15c2", func := "changeforge/changeforgelaw6.BomOtherFilesDoNotMatter", spec := "bomOtherFilesDoNotMatter", inPlace := ["internal/bytealg.IndexByteString", "internal/bytealg.IndexString", "internal/bytealg.abigen_runtime_cmpstring"], unfollowed := true, recurses := true, named := ["unicode/utf8.first", "unicode/utf8.acceptRanges", "internal/bytealg.MaxLen"], apart := false, laid := [("unicode/utf8.acceptRanges", laid_unicode_utf8_acceptRanges), ("unicode/utf8.first", laid_unicode_utf8_first)], narrowed := true }
def BomOtherFilesDoNotMatterUptoSaid : Prop := bomOtherFilesDoNotMatterUptoRow.holds Tryd.pinned (OpenSpec.upto bomOtherFilesDoNotMatterSpec)

end Rows
end Go.Proofs.YtlkknmhhefjmjaaDoor
