/-
  NARROWER THAN 'FOR EVERY INPUT', by the rows' own cells (each row's printed sentence says how): RulesMatchSpec: laid · RulesExpandMatchesSpec: laid · RulesStepsAreTyped: laid · RulesGroupsAreTransparent: laid · RulesLaterRulesDoNotMatter: laid · RulesExpansionIsIdempotent: laid.
  DERIVED. THE GIVEN ROWS OF THIS SEAT. 6 by the template 'for every input the law returns true; each argument reads behind the call as it read before'; 0 by the template 'total and deterministic' (their statements: YtfdfhpembpjglaaDoorTotals.lean).
  GIVEN WITH THE SEED: the statements are not yours to turn. If you find one false, say at which input.
  Laid BY PROGRAM, IN A SANDBOX (cutbox-rows.mjs): the forced cells as the released guide's own fill.sh prints them over the translation ada4c6f22f29ecb7… (all of the seat's roots in one cut). By AI agents, Wed Nov 11 2026. No macro, syntax, notation, axiom, sorry.
-/
import Derived.Test.YtfdfhpembpjglaaDoorChecked
import GoSem.Claim
import GoSem.ClaimJoined
import GoSem.ClaimMapViews
import Derived.JoinedTies
import Derived.KernelRfl
namespace Go.Proofs.YtfdfhpembpjglaaDoor
/- THE CELL 'sum', in the pinned program and in every row, IS THE sha256 OF THE DUMP (.gsa) THAT YtfdfhpembpjglaaDoorProg.lean LOADS. Nothing in Lean hashes anything: it is a label: what it is worth is what the hold of that sum in a sandbox is worth. -/
noncomputable def Tryd.pinned : Pinned := { name := "ytfdfhpembpjglaadoor", sum := "ada4c6f22f29ecb7e368faf3daad3f94e1640a4ef51827b67e3305abfb9dced3", checked := Tryd.checked }
namespace Rows
def none {H : Type} : Left H := { results := [], args := [] }

/- WHAT THE LISTED PACKAGE-LEVEL VARIABLES READ AS WHEN THE CALL BEGINS. Each datum BY PROGRAM (the guide's laid-datum.mjs) off the statement by which the dump's own 'gosem.cut.vars' lays the variable. In a bare row this is a premise. The card (YtfdfhpembpjglaaDoorCards.lean) ties it to the program's text. -/
def laid_changeforge_rules_permitted {H : Type} : DataW H := .agg [.nil, .nil, .slice [.lit (.int .i64 1), .lit (.int .i64 3)] [], .slice [.lit (.int .i64 2)] [], .slice [.lit (.int .i64 2), .lit (.int .i64 3)] [], .slice [.lit (.int .i64 4)] [], .slice [.lit (.int .i64 1), .lit (.int .i64 2), .lit (.int .i64 3), .lit (.int .i64 4), .lit (.int .i64 5)] []]
def laid_changeforge_rules_required {H : Type} : DataW H := .agg [.lit (.int .i64 0), .lit (.int .i64 0), .lit (.int .i64 1), .lit (.int .i64 2), .lit (.int .i64 2), .lit (.int .i64 4), .lit (.int .i64 0)]

/-- 'changeforgelaw6.RulesMatchSpec': WHATEVER THE INPUT: true; the input reads as it did. -/
def rulesMatchSpecSpec : ChangeSpec := { name := "rulesMatchSpec", fn := fun _ => fun
  | [d1, d2] => { results := [.lit (.bool true)], args := [d1, d2] }
  | _ => none }
def rulesMatchSpecRow : OpenClaim := { program := "ytfdfhpembpjglaadoor", sum := "ada4c6f22f29ecb7e368faf3daad3f94e1640a4ef51827b67e3305abfb9dced3", func := "changeforge/changeforgelaw6.RulesMatchSpec", spec := "rulesMatchSpec", recurses := true, named := ["changeforge/rules.permitted", "changeforge/rules.required"], apart := false, laid := [("changeforge/rules.permitted", laid_changeforge_rules_permitted), ("changeforge/rules.required", laid_changeforge_rules_required)] }
def RulesMatchSpecSaid : Prop := rulesMatchSpecRow.holds Tryd.pinned (OpenSpec.ofChange rulesMatchSpecSpec)

/-- ITS FALSE NEIGHBOUR: 'it returns false'. Refute it at one input. -/
def rulesMatchSpecWrong : ChangeSpec := { name := "rulesMatchSpec", fn := fun _ => fun
  | [d1, d2] => { results := [.lit (.bool false)], args := [d1, d2] }
  | _ => none }
def RulesMatchSpecWrongFalsely : Prop := rulesMatchSpecRow.holds Tryd.pinned (OpenSpec.ofChange rulesMatchSpecWrong)

/-- 'changeforgelaw6.RulesExpandMatchesSpec': WHATEVER THE INPUT: true; the input reads as it did. -/
def rulesExpandMatchesSpecSpec : ChangeSpec := { name := "rulesExpandMatchesSpec", fn := fun _ => fun
  | [d] => { results := [.lit (.bool true)], args := [d] }
  | _ => none }
def rulesExpandMatchesSpecRow : OpenClaim := { program := "ytfdfhpembpjglaadoor", sum := "ada4c6f22f29ecb7e368faf3daad3f94e1640a4ef51827b67e3305abfb9dced3", func := "changeforge/changeforgelaw6.RulesExpandMatchesSpec", spec := "rulesExpandMatchesSpec", recurses := true, named := ["changeforge/rules.permitted", "changeforge/rules.required"], apart := false, laid := [("changeforge/rules.permitted", laid_changeforge_rules_permitted), ("changeforge/rules.required", laid_changeforge_rules_required)] }
def RulesExpandMatchesSpecSaid : Prop := rulesExpandMatchesSpecRow.holds Tryd.pinned (OpenSpec.ofChange rulesExpandMatchesSpecSpec)

/-- ITS FALSE NEIGHBOUR: 'it returns false'. Refute it at one input. -/
def rulesExpandMatchesSpecWrong : ChangeSpec := { name := "rulesExpandMatchesSpec", fn := fun _ => fun
  | [d] => { results := [.lit (.bool false)], args := [d] }
  | _ => none }
def RulesExpandMatchesSpecWrongFalsely : Prop := rulesExpandMatchesSpecRow.holds Tryd.pinned (OpenSpec.ofChange rulesExpandMatchesSpecWrong)

/-- 'changeforgelaw6.RulesStepsAreTyped': WHATEVER THE INPUT: true; the input reads as it did. -/
def rulesStepsAreTypedSpec : ChangeSpec := { name := "rulesStepsAreTyped", fn := fun _ => fun
  | [d] => { results := [.lit (.bool true)], args := [d] }
  | _ => none }
def rulesStepsAreTypedRow : OpenClaim := { program := "ytfdfhpembpjglaadoor", sum := "ada4c6f22f29ecb7e368faf3daad3f94e1640a4ef51827b67e3305abfb9dced3", func := "changeforge/changeforgelaw6.RulesStepsAreTyped", spec := "rulesStepsAreTyped", recurses := true, named := ["changeforge/rules.permitted", "changeforge/rules.required"], apart := false, laid := [("changeforge/rules.permitted", laid_changeforge_rules_permitted), ("changeforge/rules.required", laid_changeforge_rules_required)] }
def RulesStepsAreTypedSaid : Prop := rulesStepsAreTypedRow.holds Tryd.pinned (OpenSpec.ofChange rulesStepsAreTypedSpec)

/-- ITS FALSE NEIGHBOUR: 'it returns false'. Refute it at one input. -/
def rulesStepsAreTypedWrong : ChangeSpec := { name := "rulesStepsAreTyped", fn := fun _ => fun
  | [d] => { results := [.lit (.bool false)], args := [d] }
  | _ => none }
def RulesStepsAreTypedWrongFalsely : Prop := rulesStepsAreTypedRow.holds Tryd.pinned (OpenSpec.ofChange rulesStepsAreTypedWrong)

/-- 'changeforgelaw6.RulesGroupsAreTransparent': WHATEVER THE INPUT: true; the input reads as it did. -/
def rulesGroupsAreTransparentSpec : ChangeSpec := { name := "rulesGroupsAreTransparent", fn := fun _ => fun
  | [d1, d2] => { results := [.lit (.bool true)], args := [d1, d2] }
  | _ => none }
def rulesGroupsAreTransparentRow : OpenClaim := { program := "ytfdfhpembpjglaadoor", sum := "ada4c6f22f29ecb7e368faf3daad3f94e1640a4ef51827b67e3305abfb9dced3", func := "changeforge/changeforgelaw6.RulesGroupsAreTransparent", spec := "rulesGroupsAreTransparent", recurses := true, named := ["changeforge/rules.permitted", "changeforge/rules.required"], apart := false, laid := [("changeforge/rules.permitted", laid_changeforge_rules_permitted), ("changeforge/rules.required", laid_changeforge_rules_required)] }
def RulesGroupsAreTransparentSaid : Prop := rulesGroupsAreTransparentRow.holds Tryd.pinned (OpenSpec.ofChange rulesGroupsAreTransparentSpec)

/-- ITS FALSE NEIGHBOUR: 'it returns false'. Refute it at one input. -/
def rulesGroupsAreTransparentWrong : ChangeSpec := { name := "rulesGroupsAreTransparent", fn := fun _ => fun
  | [d1, d2] => { results := [.lit (.bool false)], args := [d1, d2] }
  | _ => none }
def RulesGroupsAreTransparentWrongFalsely : Prop := rulesGroupsAreTransparentRow.holds Tryd.pinned (OpenSpec.ofChange rulesGroupsAreTransparentWrong)

/-- 'changeforgelaw6.RulesLaterRulesDoNotMatter': WHATEVER THE INPUT: true; the input reads as it did. -/
def rulesLaterRulesDoNotMatterSpec : ChangeSpec := { name := "rulesLaterRulesDoNotMatter", fn := fun _ => fun
  | [d1, d2] => { results := [.lit (.bool true)], args := [d1, d2] }
  | _ => none }
def rulesLaterRulesDoNotMatterRow : OpenClaim := { program := "ytfdfhpembpjglaadoor", sum := "ada4c6f22f29ecb7e368faf3daad3f94e1640a4ef51827b67e3305abfb9dced3", func := "changeforge/changeforgelaw6.RulesLaterRulesDoNotMatter", spec := "rulesLaterRulesDoNotMatter", recurses := true, named := ["changeforge/rules.permitted", "changeforge/rules.required"], apart := false, laid := [("changeforge/rules.permitted", laid_changeforge_rules_permitted), ("changeforge/rules.required", laid_changeforge_rules_required)] }
def RulesLaterRulesDoNotMatterSaid : Prop := rulesLaterRulesDoNotMatterRow.holds Tryd.pinned (OpenSpec.ofChange rulesLaterRulesDoNotMatterSpec)

/-- ITS FALSE NEIGHBOUR: 'it returns false'. Refute it at one input. -/
def rulesLaterRulesDoNotMatterWrong : ChangeSpec := { name := "rulesLaterRulesDoNotMatter", fn := fun _ => fun
  | [d1, d2] => { results := [.lit (.bool false)], args := [d1, d2] }
  | _ => none }
def RulesLaterRulesDoNotMatterWrongFalsely : Prop := rulesLaterRulesDoNotMatterRow.holds Tryd.pinned (OpenSpec.ofChange rulesLaterRulesDoNotMatterWrong)

/-- 'changeforgelaw6.RulesExpansionIsIdempotent': WHATEVER THE INPUT: true; the input reads as it did. -/
def rulesExpansionIsIdempotentSpec : ChangeSpec := { name := "rulesExpansionIsIdempotent", fn := fun _ => fun
  | [d] => { results := [.lit (.bool true)], args := [d] }
  | _ => none }
def rulesExpansionIsIdempotentRow : OpenClaim := { program := "ytfdfhpembpjglaadoor", sum := "ada4c6f22f29ecb7e368faf3daad3f94e1640a4ef51827b67e3305abfb9dced3", func := "changeforge/changeforgelaw6.RulesExpansionIsIdempotent", spec := "rulesExpansionIsIdempotent", recurses := true, named := ["changeforge/rules.permitted", "changeforge/rules.required"], apart := false, laid := [("changeforge/rules.permitted", laid_changeforge_rules_permitted), ("changeforge/rules.required", laid_changeforge_rules_required)] }
def RulesExpansionIsIdempotentSaid : Prop := rulesExpansionIsIdempotentRow.holds Tryd.pinned (OpenSpec.ofChange rulesExpansionIsIdempotentSpec)

/-- ITS FALSE NEIGHBOUR: 'it returns false'. Refute it at one input. -/
def rulesExpansionIsIdempotentWrong : ChangeSpec := { name := "rulesExpansionIsIdempotent", fn := fun _ => fun
  | [d] => { results := [.lit (.bool false)], args := [d] }
  | _ => none }
def RulesExpansionIsIdempotentWrongFalsely : Prop := rulesExpansionIsIdempotentRow.holds Tryd.pinned (OpenSpec.ofChange rulesExpansionIsIdempotentWrong)

/- THE SECOND FORM. 'bulk': how many values and letters a reading holds, each counted each time it is reached (what is shared counts as often as it is met; a slice's spare places count too). A statement '..UptoSaid' is the law's where the arguments, and the package variables that the reading takes, are together of bulk at most 1048576: NARROWER than '..Said'. Prove '..Said' where nothing that the law and all that it calls make is longer than what came in: it says more and counts as full. Else prove '..UptoSaid'. A law counts once. -/
mutual
def uptoBulk {H : Type} : DataW H → Nat
  | .lit (.string bytes) => bytes.length + 1
  | .lit _ => 1
  | .nil => 1
  | .ptr d => uptoBulk d + 1
  | .slice elems spare => uptoBulkAll elems + uptoBulkAll spare + 1
  | .agg parts => uptoBulkAll parts + 1
  | .iface _ d => uptoBulk d + 1
  | .map entries => uptoBulkEntries entries + 1
  | .held _ => 1
def uptoBulkAll {H : Type} : List (DataW H) → Nat
  | [] => 0
  | d :: r => uptoBulk d + uptoBulkAll r
def uptoBulkEntries {H : Type} : List (Lit × DataW H) → Nat
  | [] => 0
  | x :: r => uptoBulkEntry x + uptoBulkEntries r
def uptoBulkEntry {H : Type} : Lit × DataW H → Nat
  | (.string bytes, d) => bytes.length + uptoBulk d + 1
  | (_, d) => uptoBulk d + 1
 end
def uptoSmall : (H : Type) → List (DataW H) → Bool := fun _ ds => decide (uptoBulkAll ds ≤ 1048576)
def OpenSpec.upto (s : _root_.Go.ChangeSpec) : _root_.Go.OpenSpec := { _root_.Go.OpenSpec.ofChange s with cond := some uptoSmall }

/-- 'changeforgelaw6.RulesMatchSpec', WHERE WHAT IT READS IS OF BULK AT MOST 1048576: true; the input reads as it did. -/
def rulesMatchSpecUptoRow : OpenClaim := { program := "ytfdfhpembpjglaadoor", sum := "ada4c6f22f29ecb7e368faf3daad3f94e1640a4ef51827b67e3305abfb9dced3", func := "changeforge/changeforgelaw6.RulesMatchSpec", spec := "rulesMatchSpec", recurses := true, named := ["changeforge/rules.permitted", "changeforge/rules.required"], apart := false, laid := [("changeforge/rules.permitted", laid_changeforge_rules_permitted), ("changeforge/rules.required", laid_changeforge_rules_required)], narrowed := true }
def RulesMatchSpecUptoSaid : Prop := rulesMatchSpecUptoRow.holds Tryd.pinned (OpenSpec.upto rulesMatchSpecSpec)

/-- 'changeforgelaw6.RulesExpandMatchesSpec', WHERE WHAT IT READS IS OF BULK AT MOST 1048576: true; the input reads as it did. -/
def rulesExpandMatchesSpecUptoRow : OpenClaim := { program := "ytfdfhpembpjglaadoor", sum := "ada4c6f22f29ecb7e368faf3daad3f94e1640a4ef51827b67e3305abfb9dced3", func := "changeforge/changeforgelaw6.RulesExpandMatchesSpec", spec := "rulesExpandMatchesSpec", recurses := true, named := ["changeforge/rules.permitted", "changeforge/rules.required"], apart := false, laid := [("changeforge/rules.permitted", laid_changeforge_rules_permitted), ("changeforge/rules.required", laid_changeforge_rules_required)], narrowed := true }
def RulesExpandMatchesSpecUptoSaid : Prop := rulesExpandMatchesSpecUptoRow.holds Tryd.pinned (OpenSpec.upto rulesExpandMatchesSpecSpec)

/-- 'changeforgelaw6.RulesStepsAreTyped', WHERE WHAT IT READS IS OF BULK AT MOST 1048576: true; the input reads as it did. -/
def rulesStepsAreTypedUptoRow : OpenClaim := { program := "ytfdfhpembpjglaadoor", sum := "ada4c6f22f29ecb7e368faf3daad3f94e1640a4ef51827b67e3305abfb9dced3", func := "changeforge/changeforgelaw6.RulesStepsAreTyped", spec := "rulesStepsAreTyped", recurses := true, named := ["changeforge/rules.permitted", "changeforge/rules.required"], apart := false, laid := [("changeforge/rules.permitted", laid_changeforge_rules_permitted), ("changeforge/rules.required", laid_changeforge_rules_required)], narrowed := true }
def RulesStepsAreTypedUptoSaid : Prop := rulesStepsAreTypedUptoRow.holds Tryd.pinned (OpenSpec.upto rulesStepsAreTypedSpec)

/-- 'changeforgelaw6.RulesGroupsAreTransparent', WHERE WHAT IT READS IS OF BULK AT MOST 1048576: true; the input reads as it did. -/
def rulesGroupsAreTransparentUptoRow : OpenClaim := { program := "ytfdfhpembpjglaadoor", sum := "ada4c6f22f29ecb7e368faf3daad3f94e1640a4ef51827b67e3305abfb9dced3", func := "changeforge/changeforgelaw6.RulesGroupsAreTransparent", spec := "rulesGroupsAreTransparent", recurses := true, named := ["changeforge/rules.permitted", "changeforge/rules.required"], apart := false, laid := [("changeforge/rules.permitted", laid_changeforge_rules_permitted), ("changeforge/rules.required", laid_changeforge_rules_required)], narrowed := true }
def RulesGroupsAreTransparentUptoSaid : Prop := rulesGroupsAreTransparentUptoRow.holds Tryd.pinned (OpenSpec.upto rulesGroupsAreTransparentSpec)

/-- 'changeforgelaw6.RulesLaterRulesDoNotMatter', WHERE WHAT IT READS IS OF BULK AT MOST 1048576: true; the input reads as it did. -/
def rulesLaterRulesDoNotMatterUptoRow : OpenClaim := { program := "ytfdfhpembpjglaadoor", sum := "ada4c6f22f29ecb7e368faf3daad3f94e1640a4ef51827b67e3305abfb9dced3", func := "changeforge/changeforgelaw6.RulesLaterRulesDoNotMatter", spec := "rulesLaterRulesDoNotMatter", recurses := true, named := ["changeforge/rules.permitted", "changeforge/rules.required"], apart := false, laid := [("changeforge/rules.permitted", laid_changeforge_rules_permitted), ("changeforge/rules.required", laid_changeforge_rules_required)], narrowed := true }
def RulesLaterRulesDoNotMatterUptoSaid : Prop := rulesLaterRulesDoNotMatterUptoRow.holds Tryd.pinned (OpenSpec.upto rulesLaterRulesDoNotMatterSpec)

/-- 'changeforgelaw6.RulesExpansionIsIdempotent', WHERE WHAT IT READS IS OF BULK AT MOST 1048576: true; the input reads as it did. -/
def rulesExpansionIsIdempotentUptoRow : OpenClaim := { program := "ytfdfhpembpjglaadoor", sum := "ada4c6f22f29ecb7e368faf3daad3f94e1640a4ef51827b67e3305abfb9dced3", func := "changeforge/changeforgelaw6.RulesExpansionIsIdempotent", spec := "rulesExpansionIsIdempotent", recurses := true, named := ["changeforge/rules.permitted", "changeforge/rules.required"], apart := false, laid := [("changeforge/rules.permitted", laid_changeforge_rules_permitted), ("changeforge/rules.required", laid_changeforge_rules_required)], narrowed := true }
def RulesExpansionIsIdempotentUptoSaid : Prop := rulesExpansionIsIdempotentUptoRow.holds Tryd.pinned (OpenSpec.upto rulesExpansionIsIdempotentSpec)

end Rows
end Go.Proofs.YtfdfhpembpjglaaDoor
