/- The types of the functions, and what the functions compute: partial operations as options; n is the fuel of each loop. Laid by a program (wip/gen/dec.py). -/
import Derived.Test.YtlkknmhhefjmjaaGreatDoorPwDec
import Derived.Test.YtlkknmhhefjmjaaGreatDoorPwSplit
import Derived.Test.YtlkknmhhefjmjaaGreatDoorPwEat
import Derived.Test.YtlkknmhhefjmjaaGreatDoorPwInsert
import Derived.Test.YtlkknmhhefjmjaaGreatDoorPwSortFn
namespace Go.Proofs.YtlkknmhhefjmjaaGreatDoor
open Go.PW Go
set_option linter.unusedVariables false
structure SPathLines where
 Path : List UInt8
 Lines : List (List UInt8)
 deriving DecidableEq
def SPathLines.cells (x : SPathLines) : List PV := [.str x.Path, .list 1 (List.map cS x.Lines)]
structure SCodeIndex where
 Code : Int
 Index : Int
 deriving DecidableEq
def SCodeIndex.cells (x : SCodeIndex) : List PV := [.int .i64 x.Code, .int .i64 x.Index]
structure SFiles where
 Files : List SPathLines
 deriving DecidableEq
def SFiles.cells (x : SFiles) : List PV := [.list 2 (List.map SPathLines.cells x.Files)]
structure SA0A1 where
 A0 : Int
 A1 : Int
 deriving DecidableEq
def SA0A1.cells (x : SA0A1) : List PV := [.int .i64 x.A0, .int .i64 x.A1]
structure SPathDigest where
 Path : List UInt8
 Digest : Int
 deriving DecidableEq
def SPathDigest.cells (x : SPathDigest) : List PV := [.str x.Path, .int .i64 x.Digest]
structure SKindText where
 Kind : Int
 Text : List UInt8
 deriving DecidableEq
def SKindText.cells (x : SKindText) : List PV := [.int .i64 x.Kind, .str x.Text]
structure SInputsOpsOutput where
 Inputs : List (List UInt8)
 Ops : List SKindText
 Output : List UInt8
 deriving DecidableEq
def SInputsOpsOutput.cells (x : SInputsOpsOutput) : List PV := [.list 1 (List.map cS x.Inputs), .list 2 (List.map SKindText.cells x.Ops), .str x.Output]
structure SActionsMaterialsOutput where
 Actions : List SInputsOpsOutput
 Materials : List SPathDigest
 Output : SFiles
 deriving DecidableEq
def SActionsMaterialsOutput.cells (x : SActionsMaterialsOutput) : List PV := [.list 3 (List.map SInputsOpsOutput.cells x.Actions), .list 2 (List.map SPathDigest.cells x.Materials), .list 2 (List.map SPathLines.cells x.Output.Files)]
structure SKeyLines where
 Key : Int
 Lines : List (List UInt8)
 deriving DecidableEq
def SKeyLines.cells (x : SKeyLines) : List PV := [.int .i64 x.Key, .list 1 (List.map cS x.Lines)]
structure SNeedStateReportsValues where
 f_need : Int
 f_state : List Int
 f_reports : List (List Int)
 f_values : List Int
 deriving DecidableEq
def SNeedStateReportsValues.cells (x : SNeedStateReportsValues) : List PV := [.int .i64 x.f_need, .list 1 (List.map cI x.f_state), .list 1 (List.map (cL 1 cI) x.f_reports), .list 1 (List.map cI x.f_values)]
structure SKindWorkerJobValue where
 Kind : Int
 Worker : Int
 Job : Int
 Value : Int
 deriving DecidableEq
def SKindWorkerJobValue.cells (x : SKindWorkerJobValue) : List PV := [.int .i64 x.Kind, .int .i64 x.Worker, .int .i64 x.Job, .int .i64 x.Value]
instance : Inhabited SPathDigest := ⟨⟨[], 0⟩⟩
def internal_stringslite_HasPrefix_j1 (n : Nat) (x1 : Bool) : Option Bool :=
 some x1
def internal_stringslite_HasPrefix (n : Nat) (a0 : List UInt8) (a1 : List UInt8) : Option Bool :=
 if (decide ((a1.length : Int) ≤ (a0.length : Int))) = true then
  (gcut a0 0 (a1.length : Int)).bind fun s2 =>
  internal_stringslite_HasPrefix_j1 n (decide (s2 = a1))
 else
  internal_stringslite_HasPrefix_j1 n false
def strings_HasPrefix (n : Nat) (a0 : List UInt8) (a1 : List UInt8) : Option Bool :=
 (internal_stringslite_HasPrefix n a0 a1).bind fun r1 =>
 some r1
def treepatch_Related_j1 (n : Nat) (x1 : Bool) : Option Bool :=
 some x1
def treepatch_Related (n : Nat) (a0 : List UInt8) (a1 : List UInt8) : Option Bool :=
 if (decide (a0 = a1)) = true then
  treepatch_Related_j1 n true
 else
  (gcat a1 ([47] : List UInt8)).bind fun s2 =>
  (strings_HasPrefix n a0 s2).bind fun r3 =>
  if r3 = true then
   treepatch_Related_j1 n true
  else
   (gcat a0 ([47] : List UInt8)).bind fun s4 =>
   (strings_HasPrefix n a1 s4).bind fun r5 =>
   treepatch_Related_j1 n r5
def treepatch_Clash_j1 (n : Nat) (x1 : Int) (lp1 : Int → Option Bool) (x3 : Bool) : Option Bool :=
 if x3 = true then
  some true
 else
  (gadd x1 1).bind fun x4 =>
  lp1 x4
def treepatch_Clash_l1 (n : Nat) (a0 : List SPathLines) (a1 : List UInt8) (a2 : Int) : Nat → Int → Option Bool
 | 0, _ => none
 | m1 + 1, x1 =>
  if (decide (x1 < (a0.length : Int))) = true then
   (gidx a0 x1).bind fun e2 =>
   if (decide (x1 ≠ a2)) = true then
    (treepatch_Related n e2.Path a1).bind fun r5 =>
    treepatch_Clash_j1 n x1 (treepatch_Clash_l1 n a0 a1 a2 m1) r5
   else
    treepatch_Clash_j1 n x1 (treepatch_Clash_l1 n a0 a1 a2 m1) false
  else
   some false
def treepatch_Clash (n : Nat) (a0 : List SPathLines) (a1 : List UInt8) (a2 : Int) : Option Bool :=
 treepatch_Clash_l1 n a0 a1 a2 n 0
def treepatch_ValidPath (n : Nat) (a0 : List UInt8) : Option Bool :=
 some (libValidPath a0)
def strings_IndexByte (n : Nat) (a0 : List UInt8) (a1 : Int) : Option Int :=
 some (libIndexByte a0 a1)
def lines_Validate_l1 (n : Nat) (a0 : List (List UInt8)) : Nat → Int → Option SCodeIndex
 | 0, _ => none
 | m1 + 1, x1 =>
  if (decide (x1 < (a0.length : Int))) = true then
   (gidx a0 x1).bind fun e2 =>
   if (decide (80 < (e2.length : Int))) = true then
    some (⟨2, x1⟩ : SCodeIndex)
   else
    (strings_IndexByte n e2 10).bind fun r3 =>
    if (decide (0 ≤ r3)) = true then
     some (⟨5, x1⟩ : SCodeIndex)
    else
     (gadd x1 1).bind fun x4 =>
     (lines_Validate_l1 n a0 m1) x4
  else
   some (⟨0, 0⟩ : SCodeIndex)
def lines_Validate (n : Nat) (a0 : List (List UInt8)) : Option SCodeIndex :=
 if (decide (120 < (a0.length : Int))) = true then
  some (⟨2, (-1)⟩ : SCodeIndex)
 else
  lines_Validate_l1 n a0 n 0
def lines_Second (n : Nat) (a0 : List (List UInt8)) (a1 : Int) : Option SCodeIndex :=
 (lines_Validate n a0).bind fun r1 =>
 if ((r1.Code == 0 && (r1.Index == 0 && true)) != true) = true then
  some (⟨r1.Code, a1⟩ : SCodeIndex)
 else
  some (⟨0, 0⟩ : SCodeIndex)
def treepatch_Validate_j1 (n : Nat) (a0 : SFiles) (x1 : Int) (lp1 : Int → Option SCodeIndex) (e2 : SPathLines) (x4 : Bool) : Option SCodeIndex :=
 if x4 = true then
  some (⟨5, x1⟩ : SCodeIndex)
 else
  (gcut a0.Files 0 x1).bind fun s5 =>
  (treepatch_Clash n s5 e2.Path (-1)).bind fun r6 =>
  if r6 = true then
   some (⟨7, x1⟩ : SCodeIndex)
  else
   (lines_Second n e2.Lines x1).bind fun r7 =>
   if ((r7.Code == 0 && (r7.Index == 0 && true)) != true) = true then
    some r7
   else
    (gadd x1 1).bind fun x8 =>
    lp1 x8
def treepatch_Validate_l1 (n : Nat) (a0 : SFiles) : Nat → Int → Option SCodeIndex
 | 0, _ => none
 | m1 + 1, x1 =>
  if (decide (x1 < (a0.Files.length : Int))) = true then
   (gidx a0.Files x1).bind fun e2 =>
   (treepatch_ValidPath n e2.Path).bind fun r3 =>
   if (!r3) = true then
    some (⟨12, x1⟩ : SCodeIndex)
   else
    if (decide (0 < x1)) = true then
     (gsub x1 1).bind fun x9 =>
     (gidx a0.Files x9).bind fun e10 =>
     treepatch_Validate_j1 n a0 x1 (treepatch_Validate_l1 n a0 m1) e2 (Op.bytesLess e2.Path e10.Path || e2.Path == e10.Path)
    else
     treepatch_Validate_j1 n a0 x1 (treepatch_Validate_l1 n a0 m1) e2 false
  else
   some (⟨0, 0⟩ : SCodeIndex)
def treepatch_Validate (n : Nat) (a0 : SFiles) : Option SCodeIndex :=
 if (decide (24 < (a0.Files.length : Int))) = true then
  some (⟨2, (-1)⟩ : SCodeIndex)
 else
  treepatch_Validate_l1 n a0 n 0
def treepatch_Second (n : Nat) (a0 : SFiles) (a1 : Int) : Option SCodeIndex :=
 (treepatch_Validate n a0).bind fun r1 =>
 if ((r1.Code == 0 && (r1.Index == 0 && true)) != true) = true then
  some (⟨r1.Code, a1⟩ : SCodeIndex)
 else
  some (⟨0, 0⟩ : SCodeIndex)
def digest_mul_j1 (n : Nat) (x1 : Int) : Option Int :=
 some x1
def digest_mul_j2 (n : Nat) (x2 : Int) (x3 : Int) (lp1 : Int → Int → Int → Option Int) (x5 : Int) : Option Int :=
 (gmul 2 x2).bind fun x6 =>
 (grem x6 2305843009213693951).bind fun x7 =>
 lp1 x7 (kshr .i64 x3 1) x5
def digest_mul_l1 (n : Nat) : Nat → Int → Int → Int → Option Int
 | 0, _, _, _ => none
 | m1 + 1, x2, x3, x4 =>
  if (decide (0 < x3)) = true then
   if (decide ((kand .i64 x3 1) = 1)) = true then
    (gadd x4 x2).bind fun x8 =>
    (grem x8 2305843009213693951).bind fun x9 =>
    digest_mul_j2 n x2 x3 (digest_mul_l1 n m1) x9
   else
    digest_mul_j2 n x2 x3 (digest_mul_l1 n m1) x4
  else
   digest_mul_j1 n x4
def digest_mul (n : Nat) (a0 : Int) (a1 : Int) : Option Int :=
 digest_mul_l1 n n a0 a1 0
def digest_next (n : Nat) (a0 : SA0A1) (a1 : Int) : Option Int :=
 (digest_mul n a0.A0 a1).bind fun r1 =>
 (gadd r1 a0.A1).bind fun x2 =>
 (grem x2 2305843009213693951).bind fun x3 =>
 some x3
def digest_Of_l1 (n : Nat) (a0 : List Int) : Nat → Int → Int → Option (Int × SCodeIndex)
 | 0, _, _ => none
 | m1 + 1, x1, x2 =>
  if (decide (x2 < (a0.length : Int))) = true then
   (gidx a0 x2).bind fun e3 =>
   (gadd (IntKind.wrap .i64 e3) 1).bind fun x4 =>
   (digest_next n (⟨x1, x4⟩ : SA0A1) 257).bind fun r5 =>
   (gadd x2 1).bind fun x6 =>
   (digest_Of_l1 n a0 m1) r5 x6
  else
   some (x1, (⟨0, 0⟩ : SCodeIndex))
def digest_Of (n : Nat) (a0 : List Int) : Option (Int × SCodeIndex) :=
 if (decide (4096 < (a0.length : Int))) = true then
  some (0, (⟨2, 0⟩ : SCodeIndex))
 else
  digest_Of_l1 n a0 n 1 0
def digest_pair (n : Nat) (a0 : Int) (a1 : Int) : Option Int :=
 (digest_next n (⟨a1, 7⟩ : SA0A1) 31).bind fun r1 =>
 (digest_next n (⟨a0, r1⟩ : SA0A1) 1000003).bind fun r2 =>
 some r2
def digest_Strings_l1 (n : Nat) (a0 : List (List UInt8)) : Nat → Int → Int → Option (Int × SCodeIndex)
 | 0, _, _ => none
 | m1 + 1, x1, x2 =>
  if (decide (x2 < (a0.length : Int))) = true then
   (gidx a0 x2).bind fun e3 =>
   (digest_Of n (bts e3)).bind fun r4 =>
   if ((r4.2.Code == 0 && (r4.2.Index == 0 && true)) != true) = true then
    some (0, (⟨r4.2.Code, x2⟩ : SCodeIndex))
   else
    (digest_pair n x1 r4.1).bind fun r5 =>
    (gadd x2 1).bind fun x6 =>
    (digest_Strings_l1 n a0 m1) r5 x6
  else
   some (x1, (⟨0, 0⟩ : SCodeIndex))
def digest_Strings (n : Nat) (a0 : List (List UInt8)) : Option (Int × SCodeIndex) :=
 if (decide (120 < (a0.length : Int))) = true then
  some (0, (⟨2, (-1)⟩ : SCodeIndex))
 else
  digest_Strings_l1 n a0 n 2 0
def strings_Compare (n : Nat) (a0 : List UInt8) (a1 : List UInt8) : Option Int :=
 some (libCompare a0 a1)
def treepatch_Find_j1 (n : Nat) (x1 : Int) (x2 : Bool) : Option (Int × Bool) :=
 some (x1, x2)
def treepatch_Find_j3 (n : Nat) (x3 : Int) (x4 : Bool) : Option (Int × Bool) :=
 treepatch_Find_j1 n x3 x4
def treepatch_Find_j4 (n : Nat) (x3 : Int) (x6 : Int) : Option (Int × Bool) :=
 treepatch_Find_j3 n x3 (decide (x6 = 0))
def treepatch_Find_j2 (n : Nat) (a0 : List SPathLines) (a1 : List UInt8) (x3 : Int) : Option (Int × Bool) :=
 if (decide (x3 < (a0.length : Int))) = true then
  (gidx a0 x3).bind fun e5 =>
  (strings_Compare n e5.Path a1).bind fun r7 =>
  treepatch_Find_j4 n x3 r7
 else
  treepatch_Find_j3 n x3 false
def treepatch_Find_j5 (n : Nat) (x8 : Int) (x9 : Int) (lp1 : Int → Int → Option (Int × Bool)) (x10 : Int) (x12 : Int) : Option (Int × Bool) :=
 if (decide (x12 < 0)) = true then
  (gadd (IntKind.wrap .i64 (kshr .u64 (IntKind.wrap .u64 x10) 1)) 1).bind fun x13 =>
  lp1 x13 x9
 else
  lp1 x8 (IntKind.wrap .i64 (kshr .u64 (IntKind.wrap .u64 x10) 1))
def treepatch_Find_l1 (n : Nat) (a0 : List SPathLines) (a1 : List UInt8) : Nat → Int → Int → Option (Int × Bool)
 | 0, _, _ => none
 | m1 + 1, x8, x9 =>
  if (decide (x8 < x9)) = true then
   (gadd x8 x9).bind fun x10 =>
   (gidx a0 (IntKind.wrap .i64 (kshr .u64 (IntKind.wrap .u64 x10) 1))).bind fun e11 =>
   (strings_Compare n e11.Path a1).bind fun r14 =>
   treepatch_Find_j5 n x8 x9 (treepatch_Find_l1 n a0 a1 m1) x10 r14
  else
   treepatch_Find_j2 n a0 a1 x8
def treepatch_Find (n : Nat) (a0 : List SPathLines) (a1 : List UInt8) : Option (Int × Bool) :=
 treepatch_Find_l1 n a0 a1 n 0 (a0.length : Int)
def bom_describe (n : Nat) (a0 : SFiles) (a1 : List UInt8) : Option Int :=
 (treepatch_Find n a0.Files a1).bind fun r1 =>
 if (!r1.2) = true then
  some (-1)
 else
  (gidx a0.Files r1.1).bind fun e2 =>
  (digest_Strings n e2.Lines).bind fun r3 =>
  some r3.1
def bom_Make_l1 (n : Nat) (a0 : List (List UInt8)) (a1 : SFiles) : Nat → List SPathDigest → Int → Option ((List SPathDigest) × SCodeIndex)
 | 0, _, _ => none
 | m1 + 1, w4, x5 =>
  if (decide (x5 < (a0.length : Int))) = true then
   (gidx a0 x5).bind fun e6 =>
   (bom_describe n a1 e6).bind fun r7 =>
   (gapp 24 w4 ([(⟨e6, r7⟩ : SPathDigest)] : List SPathDigest)).bind fun w8 =>
   (gadd x5 1).bind fun x9 =>
   (bom_Make_l1 n a0 a1 m1) w8 x9
  else
   some (w4, (⟨0, 0⟩ : SCodeIndex))
def bom_Make_j1 (n : Nat) (a0 : List (List UInt8)) (a1 : SFiles) (b1 : Int) (b2 : Int) : Option ((List SPathDigest) × SCodeIndex) :=
 if ((b1 == 0 && (b2 == 0 && true)) != true) = true then
  some (([] : List SPathDigest), (⟨b1, b2⟩ : SCodeIndex))
 else
  (treepatch_Second n a1 (-2)).bind fun r3 =>
  if ((r3.Code == 0 && (r3.Index == 0 && true)) != true) = true then
   some (([] : List SPathDigest), r3)
  else
   bom_Make_l1 n a0 a1 n ([] : List SPathDigest) 0
def bom_Make_j3 (n : Nat) (a0 : List (List UInt8)) (a1 : SFiles) (x10 : Int) (lp2 : Int → Option ((List SPathDigest) × SCodeIndex)) (x13 : Bool) : Option ((List SPathDigest) × SCodeIndex) :=
 if x13 = true then
  bom_Make_j1 n a0 a1 5 x10
 else
  (gadd x10 1).bind fun x14 =>
  lp2 x14
def bom_Make_j5 (n : Nat) (a0 : List (List UInt8)) (a1 : SFiles) (x10 : Int) (lp2 : Int → Option ((List SPathDigest) × SCodeIndex)) (x15 : List UInt8) (x17 : List UInt8) : Option ((List SPathDigest) × SCodeIndex) :=
 bom_Make_j3 n a0 a1 x10 lp2 (Op.bytesLess x15 x17 || x15 == x17)
def bom_Make_j4 (n : Nat) (a0 : List (List UInt8)) (a1 : SFiles) (x10 : Int) (lp2 : Int → Option ((List SPathDigest) × SCodeIndex)) (x15 : List UInt8) : Option ((List SPathDigest) × SCodeIndex) :=
 (gsub x10 1).bind fun x16 =>
 (gidx a0 x16).bind fun e18 =>
 bom_Make_j5 n a0 a1 x10 lp2 x15 e18
def bom_Make_j2 (n : Nat) (a0 : List (List UInt8)) (a1 : SFiles) (x10 : Int) (lp2 : Int → Option ((List SPathDigest) × SCodeIndex)) (x11 : List UInt8) : Option ((List SPathDigest) × SCodeIndex) :=
 (treepatch_ValidPath n x11).bind fun r12 =>
 if (!r12) = true then
  bom_Make_j1 n a0 a1 12 x10
 else
  if (decide (0 < x10)) = true then
   (gidx a0 x10).bind fun e19 =>
   bom_Make_j4 n a0 a1 x10 lp2 e19
  else
   bom_Make_j3 n a0 a1 x10 lp2 false
def bom_Make_l2 (n : Nat) (a0 : List (List UInt8)) (a1 : SFiles) : Nat → Int → Option ((List SPathDigest) × SCodeIndex)
 | 0, _ => none
 | m2 + 1, x10 =>
  if (decide (x10 < (a0.length : Int))) = true then
   (gidx a0 x10).bind fun e20 =>
   bom_Make_j2 n a0 a1 x10 (bom_Make_l2 n a0 a1 m2) e20
  else
   bom_Make_j1 n a0 a1 0 0
def bom_Make (n : Nat) (a0 : List (List UInt8)) (a1 : SFiles) : Option ((List SPathDigest) × SCodeIndex) :=
 if (decide (24 < (a0.length : Int))) = true then
  bom_Make_j1 n a0 a1 2 (-1)
 else
  bom_Make_l2 n a0 a1 n 0
def sandbox_checkOp_j1 (n : Nat) : Option Int :=
 some 0
def sandbox_checkOp_j3 (n : Nat) (a0 : SKindText) (x4 : Bool) : Option Int :=
 if x4 = true then
  if (decide (a0.Text ≠ ([] : List UInt8))) = true then
   some 5
  else
   sandbox_checkOp_j1 n
 else
  some 4
def sandbox_checkOp_j2 (n : Nat) (a0 : SKindText) (x1 : Bool) : Option Int :=
 if x1 = true then
  (treepatch_ValidPath n a0.Text).bind fun r2 =>
  if (!r2) = true then
   some 12
  else
   sandbox_checkOp_j1 n
 else
  if (decide (a0.Kind = 3)) = true then
   (lines_Validate n ([a0.Text] : List (List UInt8))).bind fun r3 =>
   some r3.Code
  else
   if (decide (a0.Kind = 4)) = true then
    sandbox_checkOp_j3 n a0 (decide (a0.Kind = 4))
   else
    sandbox_checkOp_j3 n a0 (decide (a0.Kind = 5))
def sandbox_checkOp (n : Nat) (a0 : SKindText) : Option Int :=
 if (decide (a0.Kind = 1)) = true then
  sandbox_checkOp_j2 n a0 (decide (a0.Kind = 1))
 else
  sandbox_checkOp_j2 n a0 (decide (a0.Kind = 2))
def sandbox_Validate_j2 (n : Nat) (x2 : Int) (lp1 : Int → Option SCodeIndex) (x5 : Bool) : Option SCodeIndex :=
 if x5 = true then
  some (⟨5, x2⟩ : SCodeIndex)
 else
  (gadd x2 1).bind fun x6 =>
  lp1 x6
def sandbox_Validate_l2 (n : Nat) (a0 : SInputsOpsOutput) : Nat → Int → Option SCodeIndex
 | 0, _ => none
 | m2 + 1, x10 =>
  if (decide (x10 < (a0.Ops.length : Int))) = true then
   (gidx a0.Ops x10).bind fun e11 =>
   (sandbox_checkOp n e11).bind fun r12 =>
   if (decide (r12 ≠ 0)) = true then
    (gsub (-3) x10).bind fun x13 =>
    some (⟨r12, x13⟩ : SCodeIndex)
   else
    (gadd x10 1).bind fun x14 =>
    (sandbox_Validate_l2 n a0 m2) x14
  else
   some (⟨0, 0⟩ : SCodeIndex)
def sandbox_Validate_l1 (n : Nat) (a0 : SInputsOpsOutput) : Nat → Int → Option SCodeIndex
 | 0, _ => none
 | m1 + 1, x2 =>
  if (decide (x2 < (a0.Inputs.length : Int))) = true then
   (gidx a0.Inputs x2).bind fun e3 =>
   (treepatch_ValidPath n e3).bind fun r4 =>
   if (!r4) = true then
    some (⟨12, x2⟩ : SCodeIndex)
   else
    if (decide (0 < x2)) = true then
     (gsub x2 1).bind fun x7 =>
     (gidx a0.Inputs x7).bind fun e8 =>
     sandbox_Validate_j2 n x2 (sandbox_Validate_l1 n a0 m1) (Op.bytesLess e3 e8 || e3 == e8)
    else
     sandbox_Validate_j2 n x2 (sandbox_Validate_l1 n a0 m1) false
  else
   (treepatch_ValidPath n a0.Output).bind fun r9 =>
   if (!r9) = true then
    some (⟨12, (-2)⟩ : SCodeIndex)
   else
    sandbox_Validate_l2 n a0 n 0
def sandbox_Validate_j1 (n : Nat) (a0 : SInputsOpsOutput) (x1 : Bool) : Option SCodeIndex :=
 if x1 = true then
  some (⟨2, (-1)⟩ : SCodeIndex)
 else
  sandbox_Validate_l1 n a0 n 0
def sandbox_Validate (n : Nat) (a0 : SInputsOpsOutput) : Option SCodeIndex :=
 if (decide (8 < (a0.Inputs.length : Int))) = true then
  sandbox_Validate_j1 n a0 true
 else
  sandbox_Validate_j1 n a0 (decide (16 < (a0.Ops.length : Int)))
def release_checkActions_l1 (n : Nat) (a0 : List SInputsOpsOutput) : Nat → Int → Option SCodeIndex
 | 0, _ => none
 | m1 + 1, x1 =>
  if (decide (x1 < (a0.length : Int))) = true then
   (gidx a0 x1).bind fun e2 =>
   (sandbox_Validate n e2).bind fun r3 =>
   if ((r3.Code == 0 && (r3.Index == 0 && true)) != true) = true then
    some (⟨r3.Code, x1⟩ : SCodeIndex)
   else
    (gadd x1 1).bind fun x4 =>
    (release_checkActions_l1 n a0 m1) x4
  else
   some (⟨0, 0⟩ : SCodeIndex)
def release_checkActions (n : Nat) (a0 : List SInputsOpsOutput) : Option SCodeIndex :=
 if (decide (8 < (a0.length : Int))) = true then
  some (⟨2, (-1)⟩ : SCodeIndex)
 else
  release_checkActions_l1 n a0 n 0
def slices_Index_string_l1 (n : Nat) (a0 : List (List UInt8)) (a1 : List UInt8) : Nat → Int → Option Int
 | 0, _ => none
 | m1 + 1, x1 =>
  if (decide (x1 < (a0.length : Int))) = true then
   (gidx a0 x1).bind fun e2 =>
   if (decide (a1 = e2)) = true then
    some x1
   else
    (gadd x1 1).bind fun x3 =>
    (slices_Index_string_l1 n a0 a1 m1) x3
  else
   some (-1)
def slices_Index_string (n : Nat) (a0 : List (List UInt8)) (a1 : List UInt8) : Option Int :=
 slices_Index_string_l1 n a0 a1 n 0
def slices_Contains_string (n : Nat) (a0 : List (List UInt8)) (a1 : List UInt8) : Option Bool :=
 (slices_Index_string n a0 a1).bind fun r1 =>
 some (decide (0 ≤ r1))
def release_sources_j1 (n : Nat) (x6 : Int) (lp2 : (List (List UInt8)) → Int → Option (List (List UInt8))) (w7 : List (List UInt8)) : Option (List (List UInt8)) :=
 (gadd x6 1).bind fun x8 =>
 lp2 w7 x8
def release_sources_l2 (n : Nat) (w2 : List (List UInt8)) (x3 : Int) (lp1 : (List (List UInt8)) → (List (List UInt8)) → Int → Option (List (List UInt8))) (e4 : SInputsOpsOutput) : Nat → List (List UInt8) → Int → Option (List (List UInt8))
 | 0, _, _ => none
 | m2 + 1, w5, x6 =>
  if (decide (x6 < (e4.Inputs.length : Int))) = true then
   (gidx e4.Inputs x6).bind fun e9 =>
   (slices_Contains_string n w2 e9).bind fun r10 =>
   if (!r10) = true then
    (gapp 16 w5 ([e9] : List (List UInt8))).bind fun w11 =>
    release_sources_j1 n x6 (release_sources_l2 n w2 x3 lp1 e4 m2) w11
   else
    release_sources_j1 n x6 (release_sources_l2 n w2 x3 lp1 e4 m2) w5
  else
   (gapp 16 w2 ([e4.Output] : List (List UInt8))).bind fun w12 =>
   (gadd x3 1).bind fun x13 =>
   lp1 w5 w12 x13
def release_sources_j2 (n : Nat) (x14 : List (List UInt8)) : Option (List (List UInt8)) :=
 some x14
def release_sources_j3 (n : Nat) (x22 : Int) (lp4 : (List (List UInt8)) → Int → Int → Option (List (List UInt8))) (w24 : List (List UInt8)) (x25 : Int) : Option (List (List UInt8)) :=
 (gadd x22 1).bind fun x26 =>
 lp4 w24 x25 x26
def release_sources_l4 (n : Nat) (w1 : List (List UInt8)) (x15 : Int) : Nat → List (List UInt8) → Int → Int → Option (List (List UInt8))
 | 0, _, _, _ => none
 | m4 + 1, w20, x21, x22 =>
  (gcut w20 x15 ((sortedS w1).length : Int)).bind fun s23 =>
  if (decide (x22 < (s23.length : Int))) = true then
   (gidx s23 x22).bind fun e27 =>
   (gidx w20 (x15 + x22)).bind fun e28 =>
   (gsub x22 1).bind fun x29 =>
   (gidx s23 x29).bind fun e30 =>
   (gidx w20 (x15 + x29)).bind fun e31 =>
   if (decide (e28 ≠ e31)) = true then
    (gidx w20 x21).bind fun e32 =>
    (gadd x21 1).bind fun x33 =>
    release_sources_j3 n x22 (release_sources_l4 n w1 x15 m4) (gset w20 x21 e28) x33
   else
    release_sources_j3 n x22 (release_sources_l4 n w1 x15 m4) w20 x21
  else
   (gcut w20 x21 (w20.length : Int)).bind fun s34 =>
   (gcut (gclear w20 x21.toNat (w20.length : Int).toNat ([] : List UInt8)) 0 x21).bind fun s35 =>
   release_sources_j2 n s35
def release_sources_l3 (n : Nat) (w1 : List (List UInt8)) : Nat → Int → Option (List (List UInt8))
 | 0, _ => none
 | m3 + 1, x15 =>
  if (decide (x15 < ((sortedS w1).length : Int))) = true then
   (gidx (sortedS w1) x15).bind fun e16 =>
   (gsub x15 1).bind fun x17 =>
   (gidx (sortedS w1) x17).bind fun e18 =>
   if (decide (e16 = e18)) = true then
    (gcut (sortedS w1) x15 ((sortedS w1).length : Int)).bind fun s19 =>
    release_sources_l4 n w1 x15 n (sortedS w1) x15 1
   else
    (gadd x15 1).bind fun x36 =>
    (release_sources_l3 n w1 m3) x36
  else
   release_sources_j2 n (sortedS w1)
def release_sources_l1 (n : Nat) (a0 : List SInputsOpsOutput) : Nat → List (List UInt8) → List (List UInt8) → Int → Option (List (List UInt8))
 | 0, _, _, _ => none
 | m1 + 1, w1, w2, x3 =>
  if (decide (x3 < (a0.length : Int))) = true then
   (gidx a0 x3).bind fun e4 =>
   release_sources_l2 n w2 x3 (release_sources_l1 n a0 m1) e4 n w1 0
  else
   if (decide (((sortedS w1).length : Int) < 2)) = true then
    release_sources_j2 n (sortedS w1)
   else
    release_sources_l3 n w1 n 1
def release_sources (n : Nat) (a0 : List SInputsOpsOutput) : Option (List (List UInt8)) :=
 release_sources_l1 n a0 n ([] : List (List UInt8)) ([] : List (List UInt8)) 0
def sandbox_Arguments (n : Nat) (a0 : SInputsOpsOutput) (a1 : SFiles) : Option SCodeIndex :=
 (sandbox_Validate n a0).bind fun r1 =>
 if ((r1.Code == 0 && (r1.Index == 0 && true)) != true) = true then
  some r1
 else
  (treepatch_Second n a1 (-20)).bind fun r2 =>
  some r2
def sandbox_unique_j1 (n : Nat) (x2 : Int) (lp1 : (List (List UInt8)) → Int → Option (List (List UInt8))) (w3 : List (List UInt8)) : Option (List (List UInt8)) :=
 (gadd x2 1).bind fun x4 =>
 lp1 w3 x4
def sandbox_unique_l1 (n : Nat) (a0 : List (List UInt8)) : Nat → List (List UInt8) → Int → Option (List (List UInt8))
 | 0, _, _ => none
 | m1 + 1, w1, x2 =>
  if (decide (x2 < (a0.length : Int))) = true then
   (gidx a0 x2).bind fun e5 =>
   (slices_Contains_string n w1 e5).bind fun r6 =>
   if (!r6) = true then
    (gapp 16 w1 ([e5] : List (List UInt8))).bind fun w7 =>
    sandbox_unique_j1 n x2 (sandbox_unique_l1 n a0 m1) w7
   else
    sandbox_unique_j1 n x2 (sandbox_unique_l1 n a0 m1) w1
  else
   some w1
def sandbox_unique (n : Nat) (a0 : List (List UInt8)) : Option (List (List UInt8)) :=
 sandbox_unique_l1 n a0 n ([] : List (List UInt8)) 0
def sandbox_Run_j1 (n : Nat) (x3 : Int) (lp1 : (List (List UInt8)) → Int → Option ((List (List UInt8)) × SCodeIndex)) (w5 : List (List UInt8)) (x6 : Int) : Option ((List (List UInt8)) × SCodeIndex) :=
 if (decide (x6 ≠ 0)) = true then
  (gsub (-3) x3).bind fun x7 =>
  some (([] : List (List UInt8)), (⟨x6, x7⟩ : SCodeIndex))
 else
  (gadd x3 1).bind fun x8 =>
  lp1 w5 x8
def sandbox_Run_j3 (n : Nat) (x3 : Int) (lp1 : (List (List UInt8)) → Int → Option ((List (List UInt8)) × SCodeIndex)) (w12 : List (List UInt8)) (x13 : Int) : Option ((List (List UInt8)) × SCodeIndex) :=
 sandbox_Run_j1 n x3 lp1 w12 x13
def sandbox_Run_j4 (n : Nat) (x3 : Int) (lp1 : (List (List UInt8)) → Int → Option ((List (List UInt8)) × SCodeIndex)) (w16 : List (List UInt8)) (x17 : Int) : Option ((List (List UInt8)) × SCodeIndex) :=
 sandbox_Run_j1 n x3 lp1 w16 x17
def sandbox_Run_j5 (n : Nat) (x3 : Int) (lp1 : (List (List UInt8)) → Int → Option ((List (List UInt8)) × SCodeIndex)) (w20 : List (List UInt8)) (x21 : Int) : Option ((List (List UInt8)) × SCodeIndex) :=
 sandbox_Run_j1 n x3 lp1 w20 x21
def sandbox_Run_j6 (n : Nat) (x3 : Int) (lp1 : (List (List UInt8)) → Int → Option ((List (List UInt8)) × SCodeIndex)) (w24 : List (List UInt8)) (x25 : Int) : Option ((List (List UInt8)) × SCodeIndex) :=
 sandbox_Run_j1 n x3 lp1 w24 x25
def sandbox_Run_j7 (n : Nat) (x3 : Int) (lp1 : (List (List UInt8)) → Int → Option ((List (List UInt8)) × SCodeIndex)) (w28 : List (List UInt8)) : Option ((List (List UInt8)) × SCodeIndex) :=
 sandbox_Run_j1 n x3 lp1 w28 0
def sandbox_Run_l2 (n : Nat) (x3 : Int) (lp1 : (List (List UInt8)) → Int → Option ((List (List UInt8)) × SCodeIndex)) : Nat → List (List UInt8) → Int → Int → Option ((List (List UInt8)) × SCodeIndex)
 | 0, _, _, _ => none
 | m2 + 1, w30, x31, x32 =>
  if (decide (x31 < x32)) = true then
   (gidx w30 x32).bind fun e33 =>
   (gidx w30 x31).bind fun e34 =>
   (gidx (gset w30 x31 e33) x32).bind fun e35 =>
   (gadd x31 1).bind fun x36 =>
   (gsub x32 1).bind fun x37 =>
   (sandbox_Run_l2 n x3 lp1 m2) (gset (gset w30 x31 e33) x32 e34) x36 x37
  else
   sandbox_Run_j7 n x3 lp1 w30
def sandbox_Run_j2 (n : Nat) (a1 : SFiles) (w2 : List (List UInt8)) (x3 : Int) (lp1 : (List (List UInt8)) → Int → Option ((List (List UInt8)) × SCodeIndex)) (e4 : SKindText) (r9 : (Int × Bool)) (x10 : Bool) : Option ((List (List UInt8)) × SCodeIndex) :=
 if x10 = true then
  sandbox_Run_j1 n x3 lp1 ([] : List (List UInt8)) 13
 else
  if (decide (e4.Kind = 1)) = true then
   if (!r9.2) = true then
    sandbox_Run_j1 n x3 lp1 ([] : List (List UInt8)) 6
   else
    (gidx a1.Files r9.1).bind fun e11 =>
    (gadd (w2.length : Int) (e11.Lines.length : Int)).bind fun x14 =>
    if (decide (120 < x14)) = true then
     sandbox_Run_j3 n x3 lp1 ([] : List (List UInt8)) 10
    else
     (gapp 16 w2 e11.Lines).bind fun w15 =>
     sandbox_Run_j3 n x3 lp1 w15 0
  else
   if (decide (e4.Kind = 2)) = true then
    if r9.2 = true then
     (gadd (w2.length : Int) (([([121, 101, 115] : List UInt8)] : List (List UInt8)).length : Int)).bind fun x18 =>
     if (decide (120 < x18)) = true then
      sandbox_Run_j4 n x3 lp1 ([] : List (List UInt8)) 10
     else
      (gapp 16 w2 ([([121, 101, 115] : List UInt8)] : List (List UInt8))).bind fun w19 =>
      sandbox_Run_j4 n x3 lp1 w19 0
    else
     (gadd (w2.length : Int) (([([110, 111] : List UInt8)] : List (List UInt8)).length : Int)).bind fun x22 =>
     if (decide (120 < x22)) = true then
      sandbox_Run_j5 n x3 lp1 ([] : List (List UInt8)) 10
     else
      (gapp 16 w2 ([([110, 111] : List UInt8)] : List (List UInt8))).bind fun w23 =>
      sandbox_Run_j5 n x3 lp1 w23 0
   else
    if (decide (e4.Kind = 3)) = true then
     (gadd (w2.length : Int) (([e4.Text] : List (List UInt8)).length : Int)).bind fun x26 =>
     if (decide (120 < x26)) = true then
      sandbox_Run_j6 n x3 lp1 ([] : List (List UInt8)) 10
     else
      (gapp 16 w2 ([e4.Text] : List (List UInt8))).bind fun w27 =>
      sandbox_Run_j6 n x3 lp1 w27 0
    else
     if (decide (e4.Kind = 4)) = true then
      (gsub (w2.length : Int) 1).bind fun x29 =>
      sandbox_Run_l2 n x3 lp1 n w2 0 x29
     else
      (sandbox_unique n w2).bind fun r38 =>
      sandbox_Run_j1 n x3 lp1 r38 0
def sandbox_Run_l1 (n : Nat) (a0 : SInputsOpsOutput) (a1 : SFiles) : Nat → List (List UInt8) → Int → Option ((List (List UInt8)) × SCodeIndex)
 | 0, _, _ => none
 | m1 + 1, w2, x3 =>
  if (decide (x3 < (a0.Ops.length : Int))) = true then
   (gidx a0.Ops x3).bind fun e4 =>
   (treepatch_Find n a1.Files e4.Text).bind fun r9 =>
   if (decide (e4.Kind = 1)) = true then
    (slices_Contains_string n a0.Inputs e4.Text).bind fun r39 =>
    sandbox_Run_j2 n a1 w2 x3 (sandbox_Run_l1 n a0 a1 m1) e4 r9 (!r39)
   else
    if (decide (e4.Kind = 2)) = true then
     (slices_Contains_string n a0.Inputs e4.Text).bind fun r40 =>
     sandbox_Run_j2 n a1 w2 x3 (sandbox_Run_l1 n a0 a1 m1) e4 r9 (!r40)
    else
     sandbox_Run_j2 n a1 w2 x3 (sandbox_Run_l1 n a0 a1 m1) e4 r9 false
  else
   some (w2, (⟨0, 0⟩ : SCodeIndex))
def sandbox_Run (n : Nat) (a0 : SInputsOpsOutput) (a1 : SFiles) : Option ((List (List UInt8)) × SCodeIndex) :=
 (sandbox_Arguments n a0 a1).bind fun r1 =>
 if ((r1.Code == 0 && (r1.Index == 0 && true)) != true) = true then
  some (([] : List (List UInt8)), r1)
 else
  sandbox_Run_l1 n a0 a1 n ([] : List (List UInt8)) 0
def slices_Clone_string (n : Nat) (a0 : List (List UInt8)) : Option (List (List UInt8)) :=
 (gapp 16 [] a0).bind fun w => some w
def release_execute_j3 (n : Nat) (x4 : Int) (lp1 : (List SPathLines) → (List SPathLines) → Int → Option (SFiles × SCodeIndex)) (w8 : List SPathLines) (w9 : List SPathLines) : Option (SFiles × SCodeIndex) :=
 (gadd x4 1).bind fun x10 =>
 lp1 w8 w9 x10
def release_execute_j4 (n : Nat) (x4 : Int) (lp1 : (List SPathLines) → (List SPathLines) → Int → Option (SFiles × SCodeIndex)) (r7 : ((List (List UInt8)) × SCodeIndex)) (w8 : List SPathLines) (r11 : (Int × Bool)) (w12 : List SPathLines) : Option (SFiles × SCodeIndex) :=
 (slices_Clone_string n r7.1).bind fun r13 =>
 (gidx w12 r11.1).bind fun e14 =>
 release_execute_j3 n x4 lp1 w8 (gset w12 r11.1 (⟨e14.Path, r13⟩ : SPathLines))
def release_execute_j2 (n : Nat) (w3 : List SPathLines) (x4 : Int) (lp1 : (List SPathLines) → (List SPathLines) → Int → Option (SFiles × SCodeIndex)) (e5 : SInputsOpsOutput) (r7 : ((List (List UInt8)) × SCodeIndex)) (w8 : List SPathLines) : Option (SFiles × SCodeIndex) :=
 (treepatch_Find n w3 e5.Output).bind fun r11 =>
 if (!r11.2) = true then
  (gins 40 w3 r11.1 (⟨e5.Output, ([] : List (List UInt8))⟩ : SPathLines)).bind fun w15 =>
  release_execute_j4 n x4 lp1 r7 w8 r11 w15
 else
  release_execute_j4 n x4 lp1 r7 w8 r11 w3
def release_execute_j5 (n : Nat) (w3 : List SPathLines) (x4 : Int) (lp1 : (List SPathLines) → (List SPathLines) → Int → Option (SFiles × SCodeIndex)) (e5 : SInputsOpsOutput) (r7 : ((List (List UInt8)) × SCodeIndex)) (r16 : (Int × Bool)) (w17 : List SPathLines) : Option (SFiles × SCodeIndex) :=
 (slices_Clone_string n r7.1).bind fun r18 =>
 (gidx w17 r16.1).bind fun e19 =>
 release_execute_j2 n w3 x4 lp1 e5 r7 (gset w17 r16.1 (⟨e19.Path, r18⟩ : SPathLines))
def release_execute_l1 (n : Nat) (a0 : List SInputsOpsOutput) : Nat → List SPathLines → List SPathLines → Int → Option (SFiles × SCodeIndex)
 | 0, _, _, _ => none
 | m1 + 1, w2, w3, x4 =>
  if (decide (x4 < (a0.length : Int))) = true then
   (gidx a0 x4).bind fun e5 =>
   (treepatch_Clash n w2 e5.Output (-1)).bind fun r6 =>
   if r6 = true then
    some ((⟨([] : List SPathLines)⟩ : SFiles), (⟨7, x4⟩ : SCodeIndex))
   else
    if (decide (24 ≤ (w2.length : Int))) = true then
     some ((⟨([] : List SPathLines)⟩ : SFiles), (⟨10, x4⟩ : SCodeIndex))
    else
     (sandbox_Run n e5 (⟨w2⟩ : SFiles)).bind fun r7 =>
     if ((r7.2.Code == 0 && (r7.2.Index == 0 && true)) != true) = true then
      some ((⟨([] : List SPathLines)⟩ : SFiles), (⟨r7.2.Code, x4⟩ : SCodeIndex))
     else
      (treepatch_Find n w2 e5.Output).bind fun r16 =>
      if (!r16.2) = true then
       (gins 40 w2 r16.1 (⟨e5.Output, ([] : List (List UInt8))⟩ : SPathLines)).bind fun w20 =>
       release_execute_j5 n w3 x4 (release_execute_l1 n a0 m1) e5 r7 r16 w20
      else
       release_execute_j5 n w3 x4 (release_execute_l1 n a0 m1) e5 r7 r16 w2
  else
   some ((⟨w3⟩ : SFiles), (⟨0, 0⟩ : SCodeIndex))
def release_execute_j1 (n : Nat) (a0 : List SInputsOpsOutput) (w1 : List SPathLines) : Option (SFiles × SCodeIndex) :=
 release_execute_l1 n a0 n w1 ([] : List SPathLines) 0
def release_execute_l2 (n : Nat) (a0 : List SInputsOpsOutput) (a1 : SFiles) : Nat → List SPathLines → Int → Option (SFiles × SCodeIndex)
 | 0, _, _ => none
 | m2 + 1, w21, x22 =>
  if (decide (x22 < (a1.Files.length : Int))) = true then
   (gidx a1.Files x22).bind fun e23 =>
   (slices_Clone_string n e23.Lines).bind fun r24 =>
   (gapp 40 w21 ([(⟨e23.Path, r24⟩ : SPathLines)] : List SPathLines)).bind fun w25 =>
   (gadd x22 1).bind fun x26 =>
   (release_execute_l2 n a0 a1 m2) w25 x26
  else
   release_execute_j1 n a0 w21
def release_execute (n : Nat) (a0 : List SInputsOpsOutput) (a1 : SFiles) : Option (SFiles × SCodeIndex) :=
 release_execute_l2 n a0 a1 n ([] : List SPathLines) 0
def slices_Clone_api_SandboxOp_api_SandboxOp (n : Nat) (a0 : List SKindText) : Option (List SKindText) :=
 (gapp 24 [] a0).bind fun w => some w
def release_clone_l1 (n : Nat) (a0 : List SInputsOpsOutput) : Nat → List SInputsOpsOutput → Int → Option (List SInputsOpsOutput)
 | 0, _, _ => none
 | m1 + 1, w1, x2 =>
  if (decide (x2 < (a0.length : Int))) = true then
   (gidx a0 x2).bind fun e3 =>
   (slices_Clone_string n e3.Inputs).bind fun r4 =>
   (slices_Clone_api_SandboxOp_api_SandboxOp n e3.Ops).bind fun r5 =>
   (gapp 64 w1 ([(⟨r4, r5, e3.Output⟩ : SInputsOpsOutput)] : List SInputsOpsOutput)).bind fun w6 =>
   (gadd x2 1).bind fun x7 =>
   (release_clone_l1 n a0 m1) w6 x7
  else
   some w1
def release_clone (n : Nat) (a0 : List SInputsOpsOutput) : Option (List SInputsOpsOutput) :=
 release_clone_l1 n a0 n ([] : List SInputsOpsOutput) 0
def release_Make (n : Nat) (a0 : List SInputsOpsOutput) (a1 : SFiles) : Option (SActionsMaterialsOutput × SCodeIndex) :=
 (release_checkActions n a0).bind fun r1 =>
 if ((r1.Code == 0 && (r1.Index == 0 && true)) != true) = true then
  some ((⟨([] : List SInputsOpsOutput), ([] : List SPathDigest), (⟨([] : List SPathLines)⟩ : SFiles)⟩ : SActionsMaterialsOutput), r1)
 else
  (treepatch_Second n a1 (-2)).bind fun r2 =>
  if ((r2.Code == 0 && (r2.Index == 0 && true)) != true) = true then
   some ((⟨([] : List SInputsOpsOutput), ([] : List SPathDigest), (⟨([] : List SPathLines)⟩ : SFiles)⟩ : SActionsMaterialsOutput), r2)
  else
   (release_sources n a0).bind fun r3 =>
   if (decide (24 < (r3.length : Int))) = true then
    some ((⟨([] : List SInputsOpsOutput), ([] : List SPathDigest), (⟨([] : List SPathLines)⟩ : SFiles)⟩ : SActionsMaterialsOutput), (⟨10, (-3)⟩ : SCodeIndex))
   else
    (release_execute n a0 a1).bind fun r4 =>
    if ((r4.2.Code == 0 && (r4.2.Index == 0 && true)) != true) = true then
     some ((⟨([] : List SInputsOpsOutput), ([] : List SPathDigest), (⟨([] : List SPathLines)⟩ : SFiles)⟩ : SActionsMaterialsOutput), (⟨r4.2.Code, r4.2.Index⟩ : SCodeIndex))
    else
     (bom_Make n r3 a1).bind fun r5 =>
     (release_clone n a0).bind fun r6 =>
     some ((⟨r6, r5.1, (⟨r4.1.Files⟩ : SFiles)⟩ : SActionsMaterialsOutput), (⟨0, 0⟩ : SCodeIndex))
def actioncache_Key_1 (n : Nat) (a0 : List UInt8) : Option Int :=
 (digest_Of n (bts a0)).bind fun r1 =>
 some r1.1
def digest_is_j1 (n : Nat) (x1 : Bool) : Option Bool :=
 some x1
def digest_is (n : Nat) (a0 : Int) : Option Bool :=
 if (decide (0 ≤ a0)) = true then
  digest_is_j1 n (decide (a0 < 2305843009213693951))
 else
  digest_is_j1 n false
def digest_Pair_l1 (n : Nat) (a0 : Int) (a1 : Int) : Nat → Int → Option (Int × SCodeIndex)
 | 0, _ => none
 | m1 + 1, x1 =>
  if (decide (x1 < 2)) = true then
   (garr 2 x1).bind fun i2 =>
   (digest_is n (if i2 = 0 then a0 else a1)).bind fun r3 =>
   if (!r3) = true then
    some (0, (⟨3, x1⟩ : SCodeIndex))
   else
    (gadd x1 1).bind fun x4 =>
    (digest_Pair_l1 n a0 a1 m1) x4
  else
   (digest_pair n a0 a1).bind fun r5 =>
   some (r5, (⟨0, 0⟩ : SCodeIndex))
def digest_Pair (n : Nat) (a0 : Int) (a1 : Int) : Option (Int × SCodeIndex) :=
 digest_Pair_l1 n a0 a1 n 0
def actioncache_combine_l1 (n : Nat) (a1 : List Int) : Nat → Int → Int → Option Int
 | 0, _, _ => none
 | m1 + 1, x1, x2 =>
  if (decide (x2 < (a1.length : Int))) = true then
   (gidx a1 x2).bind fun e3 =>
   (digest_Pair n x1 e3).bind fun r4 =>
   (gadd x2 1).bind fun x5 =>
   (actioncache_combine_l1 n a1 m1) r4.1 x5
  else
   some x1
def actioncache_combine (n : Nat) (a0 : Int) (a1 : List Int) : Option Int :=
 actioncache_combine_l1 n a1 n a0 0
def actioncache_Key_j1 (n : Nat) (x3 : Int) (x4 : Int) (lp1 : Int → Int → Option (Int × SCodeIndex)) (x6 : Int) : Option (Int × SCodeIndex) :=
 (actioncache_combine n x3 ([x6] : List Int)).bind fun r7 =>
 (gadd x4 1).bind fun x8 =>
 lp1 r7 x8
def actioncache_Key_j2 (n : Nat) (x12 : Int) (x19 : Int) : Option (Int × SCodeIndex) :=
 (actioncache_combine n x12 ([x19] : List Int)).bind fun r20 =>
 some (r20, (⟨0, 0⟩ : SCodeIndex))
def actioncache_Key_l2 (n : Nat) (a0 : SInputsOpsOutput) : Nat → Int → Int → Option (Int × SCodeIndex)
 | 0, _, _ => none
 | m2 + 1, x12, x13 =>
  if (decide (x13 < (a0.Ops.length : Int))) = true then
   (gidx a0.Ops x13).bind fun e14 =>
   (actioncache_Key_1 n e14.Text).bind fun r15 =>
   (actioncache_combine n e14.Kind ([r15] : List Int)).bind fun r16 =>
   (actioncache_combine n x12 ([r16] : List Int)).bind fun r17 =>
   (gadd x13 1).bind fun x18 =>
   (actioncache_Key_l2 n a0 m2) r17 x18
  else
   (digest_Of n (bts a0.Output)).bind fun r21 =>
   actioncache_Key_j2 n x12 r21.1
def actioncache_Key_l1 (n : Nat) (a0 : SInputsOpsOutput) (a1 : SFiles) : Nat → Int → Int → Option (Int × SCodeIndex)
 | 0, _, _ => none
 | m1 + 1, x3, x4 =>
  if (decide (x4 < (a0.Inputs.length : Int))) = true then
   (gidx a0.Inputs x4).bind fun e5 =>
   (treepatch_Find n a1.Files e5).bind fun r9 =>
   if r9.2 = true then
    (gidx a1.Files r9.1).bind fun e10 =>
    (digest_Strings n e10.Lines).bind fun r11 =>
    actioncache_Key_j1 n x3 x4 (actioncache_Key_l1 n a0 a1 m1) r11.1
   else
    actioncache_Key_j1 n x3 x4 (actioncache_Key_l1 n a0 a1 m1) 0
  else
   actioncache_Key_l2 n a0 n x3 0
def actioncache_Key (n : Nat) (a0 : SInputsOpsOutput) (a1 : SFiles) : Option (Int × SCodeIndex) :=
 (sandbox_Arguments n a0 a1).bind fun r1 =>
 if ((r1.Code == 0 && (r1.Index == 0 && true)) != true) = true then
  some (0, r1)
 else
  (digest_Strings n a0.Inputs).bind fun r2 =>
  actioncache_Key_l1 n a0 a1 n r2.1 0
def ref6_Strings_l1 (n : Nat) (a0 : List (List UInt8)) (a1 : List (List UInt8)) : Nat → Int → Option Bool
 | 0, _ => none
 | m1 + 1, x1 =>
  if (decide (x1 < (a0.length : Int))) = true then
   (gidx a0 x1).bind fun e2 =>
   (gidx a1 x1).bind fun e3 =>
   if (decide (e2 ≠ e3)) = true then
    some false
   else
    (gadd x1 1).bind fun x4 =>
    (ref6_Strings_l1 n a0 a1 m1) x4
  else
   some true
def ref6_Strings (n : Nat) (a0 : List (List UInt8)) (a1 : List (List UInt8)) : Option Bool :=
 if (decide ((a0.length : Int) ≠ (a1.length : Int))) = true then
  some false
 else
  ref6_Strings_l1 n a0 a1 n 0
def top_kernAction (n : Nat) : Option SInputsOpsOutput :=
 some (⟨([([97] : List UInt8)] : List (List UInt8)), ([(⟨1, ([97] : List UInt8)⟩ : SKindText)] : List SKindText), ([98] : List UInt8)⟩ : SInputsOpsOutput)
def top_kernFiles (n : Nat) : Option SFiles :=
 some (⟨([(⟨([97] : List UInt8), ([([120] : List UInt8)] : List (List UInt8))⟩ : SPathLines)] : List SPathLines)⟩ : SFiles)
def top_kernBuilds_j1 (n : Nat) (x12 : Bool) : Option Bool :=
 some x12
def top_kernBuilds (n : Nat) : Option Bool :=
 (top_kernAction n).bind fun r1 =>
 (top_kernFiles n).bind fun r2 =>
 (sandbox_Run n r1 r2).bind fun r3 =>
 (top_kernAction n).bind fun r4 =>
 (top_kernFiles n).bind fun r5 =>
 (release_Make n ([r4] : List SInputsOpsOutput) r5).bind fun r6 =>
 (top_kernFiles n).bind fun r7 =>
 (bom_Make n ([([97] : List UInt8)] : List (List UInt8)) r7).bind fun r8 =>
 (top_kernAction n).bind fun r9 =>
 (top_kernFiles n).bind fun r10 =>
 (actioncache_Key n r9 r10).bind fun r11 =>
 if (decide (r3.2.Code = 0)) = true then
  if (decide (r6.2.Code = 0)) = true then
   if (decide (r8.2.Code = 0)) = true then
    if (decide (r11.2.Code = 0)) = true then
     (ref6_Strings n r3.1 ([([120] : List UInt8)] : List (List UInt8))).bind fun r13 =>
     if r13 = true then
      if (decide ((r6.1.Output.Files.length : Int) = 1)) = true then
       if (decide ((r8.1.length : Int) = 1)) = true then
        top_kernBuilds_j1 n (decide (r11.1 ≠ 0))
       else
        top_kernBuilds_j1 n false
      else
       top_kernBuilds_j1 n false
     else
      top_kernBuilds_j1 n false
    else
     top_kernBuilds_j1 n false
   else
    top_kernBuilds_j1 n false
  else
   top_kernBuilds_j1 n false
 else
  top_kernBuilds_j1 n false
def top_kernIn_j1 (n : Nat) (x1 : Bool) : Option Bool :=
 some x1
def top_kernIn (n : Nat) (a0 : Int) (a1 : Int) (a2 : Int) : Option Bool :=
 if (decide (a1 ≤ a0)) = true then
  top_kernIn_j1 n (decide (a0 ≤ a2))
 else
  top_kernIn_j1 n false
def workers_fill_l1 (n : Nat) (a1 : Int) (w1 : List Int) : Nat → List Int → Int → Option (List Int)
 | 0, _, _ => none
 | m1 + 1, w2, x3 =>
  if (decide (x3 < (w1.length : Int))) = true then
   (gidx w2 x3).bind fun e4 =>
   (gadd x3 1).bind fun x5 =>
   (workers_fill_l1 n a1 w1 m1) (gset w2 x3 a1) x5
  else
   some w2
def workers_fill (n : Nat) (a0 : Int) (a1 : Int) : Option (List Int) :=
 (gmake 8 0 a0).bind fun w1 =>
 workers_fill_l1 n a1 w1 n w1 0
def workers_play_j2 (n : Nat) (x12 : Int) (lp2 : (List Int) → (List (List Int)) → (List Int) → Int → Option ((Option SNeedStateReportsValues) × SCodeIndex)) (x14 : Int) (w15 : List Int) (z16 : List (List Int)) (w17 : List Int) : Option ((Option SNeedStateReportsValues) × SCodeIndex) :=
 if (decide (x14 ≠ 0)) = true then
  some (none, (⟨x14, x12⟩ : SCodeIndex))
 else
  (gadd x12 1).bind fun x18 =>
  lp2 w15 z16 w17 x18
def workers_play_j4 (n : Nat) (x12 : Int) (lp2 : (List Int) → (List (List Int)) → (List Int) → Int → Option ((Option SNeedStateReportsValues) × SCodeIndex)) (w21 : List Int) (z22 : List (List Int)) (w23 : List Int) : Option ((Option SNeedStateReportsValues) × SCodeIndex) :=
 workers_play_j2 n x12 lp2 0 w21 z22 w23
def workers_play_j5 (n : Nat) (w9 : List Int) (z10 : List (List Int)) (x12 : Int) (lp2 : (List Int) → (List (List Int)) → (List Int) → Int → Option ((Option SNeedStateReportsValues) × SCodeIndex)) (e13 : SKindWorkerJobValue) (e20 : Int) (q26 : List Int) (w28 : List Int) : Option ((Option SNeedStateReportsValues) × SCodeIndex) :=
 workers_play_j4 n x12 lp2 (gset w9 e13.Worker (-1)) (gset z10 e20 (gset q26 e13.Worker e13.Value)) w28
def workers_play_j6 (n : Nat) (x31 : Int) (lp3 : Int → Int → Option ((Option SNeedStateReportsValues) × SCodeIndex)) (x32 : Int) : Option ((Option SNeedStateReportsValues) × SCodeIndex) :=
 (gadd x31 1).bind fun x33 =>
 lp3 x32 x33
def workers_play_j7 (n : Nat) (w9 : List Int) (z10 : List (List Int)) (w11 : List Int) (x12 : Int) (lp2 : (List Int) → (List (List Int)) → (List Int) → Int → Option ((Option SNeedStateReportsValues) × SCodeIndex)) (e13 : SKindWorkerJobValue) (e20 : Int) (q26 : List Int) (x36 : Bool) : Option ((Option SNeedStateReportsValues) × SCodeIndex) :=
 if x36 = true then
  (gidx w11 e20).bind fun e37 =>
  workers_play_j5 n w9 z10 x12 lp2 e13 e20 q26 (gset w11 e20 e13.Value)
 else
  workers_play_j5 n w9 z10 x12 lp2 e13 e20 q26 w11
def workers_play_l3 (n : Nat) (a2 : Int) (w9 : List Int) (z10 : List (List Int)) (w11 : List Int) (x12 : Int) (lp2 : (List Int) → (List (List Int)) → (List Int) → Int → Option ((Option SNeedStateReportsValues) × SCodeIndex)) (e13 : SKindWorkerJobValue) (e20 : Int) (q26 : List Int) (q29 : List Int) : Nat → Int → Int → Option ((Option SNeedStateReportsValues) × SCodeIndex)
 | 0, _, _ => none
 | m3 + 1, x30, x31 =>
  if (decide (x31 < (q29.length : Int))) = true then
   (gidx q29 x31).bind fun e34 =>
   if (decide (e34 = e13.Value)) = true then
    (gadd x30 1).bind fun x35 =>
    workers_play_j6 n x31 (workers_play_l3 n a2 w9 z10 w11 x12 lp2 e13 e20 q26 q29 m3) x35
   else
    workers_play_j6 n x31 (workers_play_l3 n a2 w9 z10 w11 x12 lp2 e13 e20 q26 q29 m3) x30
  else
   if (decide (a2 ≤ x30)) = true then
    (gidx w11 e20).bind fun e38 =>
    workers_play_j7 n w9 z10 w11 x12 lp2 e13 e20 q26 (decide (e38 < 0))
   else
    workers_play_j7 n w9 z10 w11 x12 lp2 e13 e20 q26 false
def workers_play_j3 (n : Nat) (a2 : Int) (w9 : List Int) (z10 : List (List Int)) (w11 : List Int) (x12 : Int) (lp2 : (List Int) → (List (List Int)) → (List Int) → Int → Option ((Option SNeedStateReportsValues) × SCodeIndex)) (e13 : SKindWorkerJobValue) (x19 : Int) : Option ((Option SNeedStateReportsValues) × SCodeIndex) :=
 if (decide (x19 ≠ 0)) = true then
  workers_play_j2 n x12 lp2 x19 w9 z10 w11
 else
  (gidx w9 e13.Worker).bind fun e20 =>
  if (decide (e13.Kind = 1)) = true then
   if (decide (e20 ≠ (-1))) = true then
    workers_play_j2 n x12 lp2 11 w9 z10 w11
   else
    (gidx z10 e13.Job).bind fun q24 =>
    (gidx q24 e13.Worker).bind fun e25 =>
    if (decide (0 ≤ e25)) = true then
     workers_play_j2 n x12 lp2 7 w9 z10 w11
    else
     workers_play_j4 n x12 lp2 (gset w9 e13.Worker e13.Job) z10 w11
  else
   if (decide (e13.Kind = 2)) = true then
    if (decide (e20 < 0)) = true then
     workers_play_j2 n x12 lp2 11 w9 z10 w11
    else
     (gidx z10 e20).bind fun q26 =>
     (gidx q26 e13.Worker).bind fun e27 =>
     (gidx (gset z10 e20 (gset q26 e13.Worker e13.Value)) e20).bind fun q29 =>
     workers_play_l3 n a2 w9 z10 w11 x12 lp2 e13 e20 q26 q29 n 0 0
   else
    if (decide (e13.Kind = 3)) = true then
     if (decide (e20 = (-2))) = true then
      workers_play_j2 n x12 lp2 11 w9 z10 w11
     else
      workers_play_j4 n x12 lp2 (gset w9 e13.Worker (-2)) z10 w11
    else
     if (decide (e20 ≠ (-2))) = true then
      workers_play_j2 n x12 lp2 11 w9 z10 w11
     else
      workers_play_j4 n x12 lp2 (gset w9 e13.Worker (-1)) z10 w11
def workers_play_j11 (n : Nat) (a2 : Int) (w9 : List Int) (z10 : List (List Int)) (w11 : List Int) (x12 : Int) (lp2 : (List Int) → (List (List Int)) → (List Int) → Int → Option ((Option SNeedStateReportsValues) × SCodeIndex)) (e13 : SKindWorkerJobValue) (x42 : Bool) : Option ((Option SNeedStateReportsValues) × SCodeIndex) :=
 if x42 = true then
  workers_play_j3 n a2 w9 z10 w11 x12 lp2 e13 3
 else
  workers_play_j3 n a2 w9 z10 w11 x12 lp2 e13 0
def workers_play_j10 (n : Nat) (a2 : Int) (w9 : List Int) (z10 : List (List Int)) (w11 : List Int) (x12 : Int) (lp2 : (List Int) → (List (List Int)) → (List Int) → Int → Option ((Option SNeedStateReportsValues) × SCodeIndex)) (e13 : SKindWorkerJobValue) (x41 : Bool) : Option ((Option SNeedStateReportsValues) × SCodeIndex) :=
 if x41 = true then
  workers_play_j3 n a2 w9 z10 w11 x12 lp2 e13 5
 else
  if (decide (e13.Kind = 1)) = true then
   if (decide (e13.Job < 0)) = true then
    workers_play_j11 n a2 w9 z10 w11 x12 lp2 e13 true
   else
    if (decide ((w11.length : Int) ≤ e13.Job)) = true then
     workers_play_j11 n a2 w9 z10 w11 x12 lp2 e13 true
    else
     if (decide (e13.Kind = 2)) = true then
      if (decide (e13.Value < 0)) = true then
       workers_play_j11 n a2 w9 z10 w11 x12 lp2 e13 true
      else
       workers_play_j11 n a2 w9 z10 w11 x12 lp2 e13 (decide (1000000000 < e13.Value))
     else
      workers_play_j11 n a2 w9 z10 w11 x12 lp2 e13 false
  else
   if (decide (e13.Kind = 2)) = true then
    if (decide (e13.Value < 0)) = true then
     workers_play_j11 n a2 w9 z10 w11 x12 lp2 e13 true
    else
     workers_play_j11 n a2 w9 z10 w11 x12 lp2 e13 (decide (1000000000 < e13.Value))
   else
    workers_play_j11 n a2 w9 z10 w11 x12 lp2 e13 false
def workers_play_j9 (n : Nat) (a2 : Int) (w9 : List Int) (z10 : List (List Int)) (w11 : List Int) (x12 : Int) (lp2 : (List Int) → (List (List Int)) → (List Int) → Int → Option ((Option SNeedStateReportsValues) × SCodeIndex)) (e13 : SKindWorkerJobValue) (x40 : Bool) : Option ((Option SNeedStateReportsValues) × SCodeIndex) :=
 if x40 = true then
  workers_play_j3 n a2 w9 z10 w11 x12 lp2 e13 3
 else
  if (!(decide (e13.Kind = 1))) = true then
   if (decide (e13.Job ≠ 0)) = true then
    workers_play_j10 n a2 w9 z10 w11 x12 lp2 e13 true
   else
    if (!(decide (e13.Kind = 2))) = true then
     workers_play_j10 n a2 w9 z10 w11 x12 lp2 e13 (decide (e13.Value ≠ 0))
    else
     workers_play_j10 n a2 w9 z10 w11 x12 lp2 e13 false
  else
   if (!(decide (e13.Kind = 2))) = true then
    workers_play_j10 n a2 w9 z10 w11 x12 lp2 e13 (decide (e13.Value ≠ 0))
   else
    workers_play_j10 n a2 w9 z10 w11 x12 lp2 e13 false
def workers_play_j8 (n : Nat) (a2 : Int) (w9 : List Int) (z10 : List (List Int)) (w11 : List Int) (x12 : Int) (lp2 : (List Int) → (List (List Int)) → (List Int) → Int → Option ((Option SNeedStateReportsValues) × SCodeIndex)) (e13 : SKindWorkerJobValue) (x39 : Bool) : Option ((Option SNeedStateReportsValues) × SCodeIndex) :=
 if x39 = true then
  workers_play_j3 n a2 w9 z10 w11 x12 lp2 e13 4
 else
  if (decide (e13.Worker < 0)) = true then
   workers_play_j9 n a2 w9 z10 w11 x12 lp2 e13 true
  else
   workers_play_j9 n a2 w9 z10 w11 x12 lp2 e13 (decide ((w9.length : Int) ≤ e13.Worker))
def workers_play_l2 (n : Nat) (a2 : Int) (a3 : List SKindWorkerJobValue) : Nat → List Int → List (List Int) → List Int → Int → Option ((Option SNeedStateReportsValues) × SCodeIndex)
 | 0, _, _, _, _ => none
 | m2 + 1, w9, z10, w11, x12 =>
  if (decide (x12 < (a3.length : Int))) = true then
   (gidx a3 x12).bind fun e13 =>
   if (decide (e13.Kind < 1)) = true then
    workers_play_j8 n a2 w9 z10 w11 x12 (workers_play_l2 n a2 a3 m2) e13 true
   else
    workers_play_j8 n a2 w9 z10 w11 x12 (workers_play_l2 n a2 a3 m2) e13 (decide (4 < e13.Kind))
  else
   some ((some (⟨a2, w9, z10, w11⟩ : SNeedStateReportsValues)), (⟨0, 0⟩ : SCodeIndex))
def workers_play_l1 (n : Nat) (a0 : Int) (a1 : Int) (a2 : Int) (a3 : List SKindWorkerJobValue) (r2 : (List Int)) (r3 : (List Int)) : Nat → List (List Int) → Int → Option ((Option SNeedStateReportsValues) × SCodeIndex)
 | 0, _, _ => none
 | m1 + 1, z4, x5 =>
  if (decide (x5 < a0)) = true then
   (workers_fill n a1 (-1)).bind fun r6 =>
   (gapp 24 z4 [r6]).bind fun w7 =>
   (gadd x5 1).bind fun x8 =>
   (workers_play_l1 n a0 a1 a2 a3 r2 r3 m1) (z4 ++ [r6]) x8
  else
   workers_play_l2 n a2 a3 n r2 z4 r3 0
def workers_play_j1 (n : Nat) (a0 : Int) (a1 : Int) (a2 : Int) (a3 : List SKindWorkerJobValue) (x1 : Bool) : Option ((Option SNeedStateReportsValues) × SCodeIndex) :=
 if x1 = true then
  some (none, (⟨3, (-1)⟩ : SCodeIndex))
 else
  if (decide (40 < (a3.length : Int))) = true then
   some (none, (⟨2, (-1)⟩ : SCodeIndex))
  else
   (workers_fill n a1 (-1)).bind fun r2 =>
   (workers_fill n a0 (-1)).bind fun r3 =>
   workers_play_l1 n a0 a1 a2 a3 r2 r3 n ([] : List (List Int)) 0
def workers_play (n : Nat) (a0 : Int) (a1 : Int) (a2 : Int) (a3 : List SKindWorkerJobValue) : Option ((Option SNeedStateReportsValues) × SCodeIndex) :=
 if (decide (a0 < 0)) = true then
  workers_play_j1 n a0 a1 a2 a3 true
 else
  if (decide (12 < a0)) = true then
   workers_play_j1 n a0 a1 a2 a3 true
  else
   if (decide (a1 < 1)) = true then
    workers_play_j1 n a0 a1 a2 a3 true
   else
    if (decide (8 < a1)) = true then
     workers_play_j1 n a0 a1 a2 a3 true
    else
     if (decide (a2 < 1)) = true then
      workers_play_j1 n a0 a1 a2 a3 true
     else
      workers_play_j1 n a0 a1 a2 a3 (decide (a1 < a2))
def workers_Play (n : Nat) (a0 : Int) (a1 : Int) (a2 : Int) (a3 : List SKindWorkerJobValue) : Option ((List Int) × SCodeIndex) :=
 (workers_play n a0 a1 a2 a3).bind fun r1 =>
 if ((r1.2.Code == 0 && (r1.2.Index == 0 && true)) != true) = true then
  some (([] : List Int), (⟨r1.2.Code, r1.2.Index⟩ : SCodeIndex))
 else
  (r1.1).bind fun p2 =>
  some (p2.f_values, (⟨0, 0⟩ : SCodeIndex))
def ref5_Ints_l1 (n : Nat) (a0 : List Int) (a1 : List Int) : Nat → Int → Option Bool
 | 0, _ => none
 | m1 + 1, x1 =>
  if (decide (x1 < (a0.length : Int))) = true then
   (gidx a0 x1).bind fun e2 =>
   (gidx a1 x1).bind fun e3 =>
   if (decide (e2 ≠ e3)) = true then
    some false
   else
    (gadd x1 1).bind fun x4 =>
    (ref5_Ints_l1 n a0 a1 m1) x4
  else
   some true
def ref5_Ints (n : Nat) (a0 : List Int) (a1 : List Int) : Option Bool :=
 if (decide ((a0.length : Int) ≠ (a1.length : Int))) = true then
  some false
 else
  ref5_Ints_l1 n a0 a1 n 0
def top_TopHonestReplaysDecide_j2 (n : Nat) (x4 : Bool) : Option Bool :=
 some x4
def top_TopHonestReplaysDecide_j3 (n : Nat) (x21 : Bool) : Option Bool :=
 some x21
def top_TopHonestReplaysDecide_l2 (n : Nat) (a2 : Int) (r5 : (Int × SCodeIndex)) (x6 : Int) (x14 : Int) : Nat → List SKindWorkerJobValue → Int → Option Bool
 | 0, _, _ => none
 | m2 + 1, w15, x16 =>
  if (decide (x16 < x14)) = true then
   (gapp 32 w15 ([(⟨1, x16, 0, 0⟩ : SKindWorkerJobValue)] : List SKindWorkerJobValue)).bind fun w17 =>
   (gapp 32 w17 ([(⟨2, x16, 0, x6⟩ : SKindWorkerJobValue)] : List SKindWorkerJobValue)).bind fun w18 =>
   (gadd x16 1).bind fun x19 =>
   (top_TopHonestReplaysDecide_l2 n a2 r5 x6 x14 m2) w18 x19
  else
   (workers_Play n 1 x14 a2 w15).bind fun r20 =>
   if (decide (r5.2.Code = 0)) = true then
    if (decide (r20.2.Code = 0)) = true then
     (ref5_Ints n r20.1 ([x6] : List Int)).bind fun r22 =>
     top_TopHonestReplaysDecide_j3 n r22
    else
     top_TopHonestReplaysDecide_j3 n false
   else
    top_TopHonestReplaysDecide_j3 n false
def top_TopHonestReplaysDecide_l1 (n : Nat) (a2 : Int) (a3 : List Int) (r5 : (Int × SCodeIndex)) (x6 : Int) : Nat → List SKindWorkerJobValue → Int → Option Bool
 | 0, _, _ => none
 | m1 + 1, w7, x8 =>
  if (decide (x8 < (a3.length : Int))) = true then
   (gidx a3 x8).bind fun e9 =>
   (top_kernIn n e9 0 1000000000).bind fun r10 =>
   if (!r10) = true then
    some true
   else
    (gapp 32 w7 ([(⟨1, x8, 0, 0⟩ : SKindWorkerJobValue)] : List SKindWorkerJobValue)).bind fun w11 =>
    (gapp 32 w11 ([(⟨2, x8, 0, e9⟩ : SKindWorkerJobValue)] : List SKindWorkerJobValue)).bind fun w12 =>
    (gadd x8 1).bind fun x13 =>
    (top_TopHonestReplaysDecide_l1 n a2 a3 r5 x6 m1) w12 x13
  else
   (gadd (a3.length : Int) a2).bind fun x14 =>
   top_TopHonestReplaysDecide_l2 n a2 r5 x6 x14 n w7 (a3.length : Int)
def top_TopHonestReplaysDecide_j1 (n : Nat) (a2 : Int) (a3 : List Int) (r2 : ((List (List UInt8)) × SCodeIndex)) (x3 : Bool) : Option Bool :=
 if x3 = true then
  if (decide (r2.2.Code = 0)) = true then
   top_TopHonestReplaysDecide_j2 n true
  else
   top_TopHonestReplaysDecide_j2 n (decide ((r2.1.length : Int) = 0))
 else
  (digest_Strings n r2.1).bind fun r5 =>
  (grem r5.1 1000000000).bind fun x6 =>
  top_TopHonestReplaysDecide_l1 n a2 a3 r5 x6 n ([] : List SKindWorkerJobValue) 0
def top_TopHonestReplaysDecide (n : Nat) (a0 : SInputsOpsOutput) (a1 : SFiles) (a2 : Int) (a3 : List Int) : Option Bool :=
 (top_kernBuilds n).bind fun r1 =>
 if (!r1) = true then
  some false
 else
  (sandbox_Run n a0 a1).bind fun r2 =>
  if (decide (r2.2.Code ≠ 0)) = true then
   top_TopHonestReplaysDecide_j1 n a2 a3 r2 true
  else
   (top_kernIn n a2 1 4).bind fun r23 =>
   if (!r23) = true then
    top_TopHonestReplaysDecide_j1 n a2 a3 r2 true
   else
    top_TopHonestReplaysDecide_j1 n a2 a3 r2 (decide (a2 ≤ (a3.length : Int)))
def ref6_fault (n : Nat) (a0 : Int) (a1 : Int) : Option SCodeIndex :=
 some (⟨a0, a1⟩ : SCodeIndex)
def ref6_lineCode_l2 (n : Nat) (x1 : Int) (lp1 : Int → Option Int) (e2 : List UInt8) : Nat → Int → Option Int
 | 0, _ => none
 | m2 + 1, x3 =>
  if (decide (x3 < (e2.length : Int))) = true then
   (gidx e2 x3).bind fun y4 =>
   if (decide ((y4.toNat : Int) = 10)) = true then
    some 5
   else
    (gadd x3 1).bind fun x5 =>
    (ref6_lineCode_l2 n x1 lp1 e2 m2) x5
  else
   (gadd x1 1).bind fun x6 =>
   lp1 x6
def ref6_lineCode_l1 (n : Nat) (a0 : List (List UInt8)) : Nat → Int → Option Int
 | 0, _ => none
 | m1 + 1, x1 =>
  if (decide (x1 < (a0.length : Int))) = true then
   (gidx a0 x1).bind fun e2 =>
   if (decide (80 < (e2.length : Int))) = true then
    some 2
   else
    ref6_lineCode_l2 n x1 (ref6_lineCode_l1 n a0 m1) e2 n 0
  else
   some 0
def ref6_lineCode (n : Nat) (a0 : List (List UInt8)) : Option Int :=
 if (decide (120 < (a0.length : Int))) = true then
  some 2
 else
  ref6_lineCode_l1 n a0 n 0
def ref2_pathByte_j1 (n : Nat) (x1 : Bool) : Option Bool :=
 some x1
def ref2_pathByte (n : Nat) (a0 : Int) : Option Bool :=
 if (decide (97 ≤ a0)) = true then
  if (decide (a0 ≤ 122)) = true then
   ref2_pathByte_j1 n true
  else
   if (decide (65 ≤ a0)) = true then
    if (decide (a0 ≤ 90)) = true then
     ref2_pathByte_j1 n true
    else
     if (decide (48 ≤ a0)) = true then
      if (decide (a0 ≤ 57)) = true then
       ref2_pathByte_j1 n true
      else
       if (decide (a0 = 46)) = true then
        ref2_pathByte_j1 n true
       else
        if (decide (a0 = 95)) = true then
         ref2_pathByte_j1 n true
        else
         ref2_pathByte_j1 n (decide (a0 = 45))
     else
      if (decide (a0 = 46)) = true then
       ref2_pathByte_j1 n true
      else
       if (decide (a0 = 95)) = true then
        ref2_pathByte_j1 n true
       else
        ref2_pathByte_j1 n (decide (a0 = 45))
   else
    if (decide (48 ≤ a0)) = true then
     if (decide (a0 ≤ 57)) = true then
      ref2_pathByte_j1 n true
     else
      if (decide (a0 = 46)) = true then
       ref2_pathByte_j1 n true
      else
       if (decide (a0 = 95)) = true then
        ref2_pathByte_j1 n true
       else
        ref2_pathByte_j1 n (decide (a0 = 45))
    else
     if (decide (a0 = 46)) = true then
      ref2_pathByte_j1 n true
     else
      if (decide (a0 = 95)) = true then
       ref2_pathByte_j1 n true
      else
       ref2_pathByte_j1 n (decide (a0 = 45))
 else
  if (decide (65 ≤ a0)) = true then
   if (decide (a0 ≤ 90)) = true then
    ref2_pathByte_j1 n true
   else
    if (decide (48 ≤ a0)) = true then
     if (decide (a0 ≤ 57)) = true then
      ref2_pathByte_j1 n true
     else
      if (decide (a0 = 46)) = true then
       ref2_pathByte_j1 n true
      else
       if (decide (a0 = 95)) = true then
        ref2_pathByte_j1 n true
       else
        ref2_pathByte_j1 n (decide (a0 = 45))
    else
     if (decide (a0 = 46)) = true then
      ref2_pathByte_j1 n true
     else
      if (decide (a0 = 95)) = true then
       ref2_pathByte_j1 n true
      else
       ref2_pathByte_j1 n (decide (a0 = 45))
  else
   if (decide (48 ≤ a0)) = true then
    if (decide (a0 ≤ 57)) = true then
     ref2_pathByte_j1 n true
    else
     if (decide (a0 = 46)) = true then
      ref2_pathByte_j1 n true
     else
      if (decide (a0 = 95)) = true then
       ref2_pathByte_j1 n true
      else
       ref2_pathByte_j1 n (decide (a0 = 45))
   else
    if (decide (a0 = 46)) = true then
     ref2_pathByte_j1 n true
    else
     if (decide (a0 = 95)) = true then
      ref2_pathByte_j1 n true
     else
      ref2_pathByte_j1 n (decide (a0 = 45))
def ref2_PathValid_j1 (n : Nat) (x3 : Int) (lp1 : Int → Int → Option Bool) (x4 : Int) : Option Bool :=
 (gsub x3 1).bind fun x5 =>
 lp1 x4 x5
def ref2_PathValid_j3 (n : Nat) (x3 : Int) (lp1 : Int → Int → Option Bool) (x11 : Bool) : Option Bool :=
 if x11 = true then
  some false
 else
  ref2_PathValid_j1 n x3 lp1 x3
def ref2_PathValid_j2 (n : Nat) (a0 : List UInt8) (x2 : Int) (x3 : Int) (lp1 : Int → Int → Option Bool) (x6 : Bool) : Option Bool :=
 if x6 = true then
  (gidx a0 x3).bind fun y7 =>
  (ref2_pathByte n (y7.toNat : Int)).bind fun r8 =>
  if (!r8) = true then
   some false
  else
   ref2_PathValid_j1 n x3 lp1 x2
 else
  (gadd x3 1).bind fun x9 =>
  (gcut a0 x9 x2).bind fun s10 =>
  if (decide (s10 = ([] : List UInt8))) = true then
   ref2_PathValid_j3 n x3 lp1 true
  else
   if (decide (s10 = ([46] : List UInt8))) = true then
    ref2_PathValid_j3 n x3 lp1 true
   else
    ref2_PathValid_j3 n x3 lp1 (decide (s10 = ([46, 46] : List UInt8)))
def ref2_PathValid_l1 (n : Nat) (a0 : List UInt8) : Nat → Int → Int → Option Bool
 | 0, _, _ => none
 | m1 + 1, x2, x3 =>
  if (decide ((-1) ≤ x3)) = true then
   if (decide (0 ≤ x3)) = true then
    (gidx a0 x3).bind fun y12 =>
    ref2_PathValid_j2 n a0 x2 x3 (ref2_PathValid_l1 n a0 m1) (decide ((y12.toNat : Int) ≠ 47))
   else
    ref2_PathValid_j2 n a0 x2 x3 (ref2_PathValid_l1 n a0 m1) false
  else
   some true
def ref2_PathValid (n : Nat) (a0 : List UInt8) : Option Bool :=
 if (decide (60 < (a0.length : Int))) = true then
  some false
 else
  (gsub (a0.length : Int) 1).bind fun x1 =>
  ref2_PathValid_l1 n a0 n (a0.length : Int) x1
def ref6_opCode_j2 (n : Nat) (a0 : SKindText) (x4 : Bool) : Option Int :=
 if x4 = true then
  if (decide (a0.Text ≠ ([] : List UInt8))) = true then
   some 5
  else
   some 0
 else
  some 4
def ref6_opCode_j1 (n : Nat) (a0 : SKindText) (x1 : Bool) : Option Int :=
 if x1 = true then
  (ref2_PathValid n a0.Text).bind fun r2 =>
  if (!r2) = true then
   some 12
  else
   some 0
 else
  if (decide (a0.Kind = 3)) = true then
   (ref6_lineCode n ([a0.Text] : List (List UInt8))).bind fun r3 =>
   some r3
  else
   if (decide (a0.Kind = 4)) = true then
    ref6_opCode_j2 n a0 true
   else
    ref6_opCode_j2 n a0 (decide (a0.Kind = 5))
def ref6_opCode (n : Nat) (a0 : SKindText) : Option Int :=
 if (decide (a0.Kind = 1)) = true then
  ref6_opCode_j1 n a0 true
 else
  ref6_opCode_j1 n a0 (decide (a0.Kind = 2))
def ref6_ActionFault_j2 (n : Nat) (x3 : Int) (lp1 : Int → Option SCodeIndex) (x7 : Bool) : Option SCodeIndex :=
 if x7 = true then
  (ref6_fault n 5 x3).bind fun r8 =>
  some r8
 else
  (gadd x3 1).bind fun x9 =>
  lp1 x9
def ref6_ActionFault_l2 (n : Nat) (a0 : SInputsOpsOutput) : Nat → Int → Option SCodeIndex
 | 0, _ => none
 | m2 + 1, x14 =>
  if (decide (x14 < (a0.Ops.length : Int))) = true then
   (gidx a0.Ops x14).bind fun e15 =>
   (ref6_opCode n e15).bind fun r16 =>
   if (decide (r16 ≠ 0)) = true then
    (gsub (-3) x14).bind fun x17 =>
    (ref6_fault n r16 x17).bind fun r18 =>
    some r18
   else
    (gadd x14 1).bind fun x19 =>
    (ref6_ActionFault_l2 n a0 m2) x19
  else
   some (⟨0, 0⟩ : SCodeIndex)
def ref6_ActionFault_l1 (n : Nat) (a0 : SInputsOpsOutput) : Nat → Int → Option SCodeIndex
 | 0, _ => none
 | m1 + 1, x3 =>
  if (decide (x3 < (a0.Inputs.length : Int))) = true then
   (gidx a0.Inputs x3).bind fun e4 =>
   (ref2_PathValid n e4).bind fun r5 =>
   if (!r5) = true then
    (ref6_fault n 12 x3).bind fun r6 =>
    some r6
   else
    if (decide (0 < x3)) = true then
     (gsub x3 1).bind fun x10 =>
     (gidx a0.Inputs x10).bind fun e11 =>
     ref6_ActionFault_j2 n x3 (ref6_ActionFault_l1 n a0 m1) (Op.bytesLess e4 e11 || e4 == e11)
    else
     ref6_ActionFault_j2 n x3 (ref6_ActionFault_l1 n a0 m1) false
  else
   (ref2_PathValid n a0.Output).bind fun r12 =>
   if (!r12) = true then
    (ref6_fault n 12 (-2)).bind fun r13 =>
    some r13
   else
    ref6_ActionFault_l2 n a0 n 0
def ref6_ActionFault_j1 (n : Nat) (a0 : SInputsOpsOutput) (x1 : Bool) : Option SCodeIndex :=
 if x1 = true then
  (ref6_fault n 2 (-1)).bind fun r2 =>
  some r2
 else
  ref6_ActionFault_l1 n a0 n 0
def ref6_ActionFault (n : Nat) (a0 : SInputsOpsOutput) : Option SCodeIndex :=
 if (decide (8 < (a0.Inputs.length : Int))) = true then
  ref6_ActionFault_j1 n a0 true
 else
  ref6_ActionFault_j1 n a0 (decide (16 < (a0.Ops.length : Int)))
def ref1_At (n : Nat) (a0 : Int) (a1 : Int) : Option SCodeIndex :=
 some (⟨a0, a1⟩ : SCodeIndex)
def ref2_Related_j1 (n : Nat) (x2 : Bool) : Option Bool :=
 some x2
def ref2_Related : Nat → (List UInt8) → (List UInt8) → Option Bool
 | 0, _, _ => none
 | n + 1, a0, a1 =>
  if (decide ((a1.length : Int) < (a0.length : Int))) = true then
   ((ref2_Related n) a1 a0).bind fun r1 =>
   some r1
  else
   (gcut a1 0 (a0.length : Int)).bind fun s3 =>
   if (decide (s3 = a0)) = true then
    if (decide ((a0.length : Int) = (a1.length : Int))) = true then
     ref2_Related_j1 n true
    else
     (gidx a1 (a0.length : Int)).bind fun y4 =>
     ref2_Related_j1 n (decide ((y4.toNat : Int) = 47))
   else
    ref2_Related_j1 n false
def ref1_LinesFault_l2 (n : Nat) (x2 : Int) (lp1 : Int → Option SCodeIndex) (e3 : List UInt8) : Nat → Int → Option SCodeIndex
 | 0, _ => none
 | m2 + 1, x5 =>
  if (decide (x5 < (e3.length : Int))) = true then
   (gidx e3 x5).bind fun y6 =>
   if (decide ((y6.toNat : Int) = 10)) = true then
    (ref1_At n 5 x2).bind fun r7 =>
    some r7
   else
    (gadd x5 1).bind fun x8 =>
    (ref1_LinesFault_l2 n x2 lp1 e3 m2) x8
  else
   (gadd x2 1).bind fun x9 =>
   lp1 x9
def ref1_LinesFault_l1 (n : Nat) (a0 : List (List UInt8)) : Nat → Int → Option SCodeIndex
 | 0, _ => none
 | m1 + 1, x2 =>
  if (decide (x2 < (a0.length : Int))) = true then
   (gidx a0 x2).bind fun e3 =>
   if (decide (80 < (e3.length : Int))) = true then
    (ref1_At n 2 x2).bind fun r4 =>
    some r4
   else
    ref1_LinesFault_l2 n x2 (ref1_LinesFault_l1 n a0 m1) e3 n 0
  else
   some (⟨0, 0⟩ : SCodeIndex)
def ref1_LinesFault (n : Nat) (a0 : List (List UInt8)) : Option SCodeIndex :=
 if (decide (120 < (a0.length : Int))) = true then
  (ref1_At n 2 (-1)).bind fun r1 =>
  some r1
 else
  ref1_LinesFault_l1 n a0 n 0
def ref1_LinesCode (n : Nat) (a0 : List (List UInt8)) : Option Int :=
 (ref1_LinesFault n a0).bind fun r1 =>
 some r1.Code
def ref2_TreeFault_l2 (n : Nat) (a0 : SFiles) (x2 : Int) (lp1 : Int → Option SCodeIndex) (e3 : SPathLines) : Nat → Int → Option SCodeIndex
 | 0, _ => none
 | m2 + 1, x8 =>
  if (decide (x8 < x2)) = true then
   (gidx a0.Files x8).bind fun e9 =>
   (ref2_Related n e9.Path e3.Path).bind fun r10 =>
   if r10 = true then
    (ref1_At n 7 x2).bind fun r11 =>
    some r11
   else
    (gadd x8 1).bind fun x12 =>
    (ref2_TreeFault_l2 n a0 x2 lp1 e3 m2) x12
  else
   (ref1_LinesCode n e3.Lines).bind fun r13 =>
   if (decide (r13 ≠ 0)) = true then
    (ref1_At n r13 x2).bind fun r14 =>
    some r14
   else
    (gadd x2 1).bind fun x15 =>
    lp1 x15
def ref2_TreeFault_j1 (n : Nat) (a0 : SFiles) (x2 : Int) (lp1 : Int → Option SCodeIndex) (e3 : SPathLines) (x6 : Bool) : Option SCodeIndex :=
 if x6 = true then
  (ref1_At n 5 x2).bind fun r7 =>
  some r7
 else
  ref2_TreeFault_l2 n a0 x2 lp1 e3 n 0
def ref2_TreeFault_l1 (n : Nat) (a0 : SFiles) : Nat → Int → Option SCodeIndex
 | 0, _ => none
 | m1 + 1, x2 =>
  if (decide (x2 < (a0.Files.length : Int))) = true then
   (gidx a0.Files x2).bind fun e3 =>
   (ref2_PathValid n e3.Path).bind fun r4 =>
   if (!r4) = true then
    (ref1_At n 12 x2).bind fun r5 =>
    some r5
   else
    if (decide (0 < x2)) = true then
     (gsub x2 1).bind fun x16 =>
     (gidx a0.Files x16).bind fun e17 =>
     ref2_TreeFault_j1 n a0 x2 (ref2_TreeFault_l1 n a0 m1) e3 (Op.bytesLess e3.Path e17.Path || e3.Path == e17.Path)
    else
     ref2_TreeFault_j1 n a0 x2 (ref2_TreeFault_l1 n a0 m1) e3 false
  else
   some (⟨0, 0⟩ : SCodeIndex)
def ref2_TreeFault (n : Nat) (a0 : SFiles) : Option SCodeIndex :=
 if (decide (24 < (a0.Files.length : Int))) = true then
  (ref1_At n 2 (-1)).bind fun r1 =>
  some r1
 else
  ref2_TreeFault_l1 n a0 n 0
def ref6_TreeAt_j1 (n : Nat) (r1 : SCodeIndex) (b2 : Int) : Option SCodeIndex :=
 some (⟨r1.Code, b2⟩ : SCodeIndex)
def ref6_TreeAt (n : Nat) (a0 : SFiles) (a1 : Int) : Option SCodeIndex :=
 (ref2_TreeFault n a0).bind fun r1 =>
 if (decide (r1.Code ≠ 0)) = true then
  ref6_TreeAt_j1 n r1 a1
 else
  ref6_TreeAt_j1 n r1 r1.Index
def ref6_Sorted_j1 (n : Nat) (x2 : Int) (lp1 : (List (List UInt8)) → Int → Option (List (List UInt8))) (w3 : List (List UInt8)) : Option (List (List UInt8)) :=
 (gadd x2 1).bind fun x4 =>
 lp1 w3 x4
def ref6_Sorted_j3 (n : Nat) (a0 : List (List UInt8)) (w1 : List (List UInt8)) (x2 : Int) (lp1 : (List (List UInt8)) → Int → Option (List (List UInt8))) (x5 : Int) (x6 : Bool) : Option (List (List UInt8)) :=
 if x6 = true then
  ref6_Sorted_j1 n x2 lp1 w1
 else
  (gcut w1 0 x5).bind fun s7 =>
  (gapp 16 [] s7).bind fun w8 =>
  (gidx a0 x2).bind fun e9 =>
  (gapp 16 w8 ([e9] : List (List UInt8))).bind fun w10 =>
  (gcut w1 x5 (w1.length : Int)).bind fun s11 =>
  (gapp 16 w10 s11).bind fun w12 =>
  ref6_Sorted_j1 n x2 lp1 w12
def ref6_Sorted_j2 (n : Nat) (a0 : List (List UInt8)) (w1 : List (List UInt8)) (x2 : Int) (lp1 : (List (List UInt8)) → Int → Option (List (List UInt8))) (x5 : Int) : Option (List (List UInt8)) :=
 if (decide (x5 < (w1.length : Int))) = true then
  (gidx w1 x5).bind fun e13 =>
  (gidx a0 x2).bind fun e14 =>
  ref6_Sorted_j3 n a0 w1 x2 lp1 x5 (decide (e13 = e14))
 else
  ref6_Sorted_j3 n a0 w1 x2 lp1 x5 false
def ref6_Sorted_j4 (n : Nat) (a0 : List (List UInt8)) (w1 : List (List UInt8)) (x2 : Int) (lp1 : (List (List UInt8)) → Int → Option (List (List UInt8))) (x15 : Int) (lp2 : Int → Option (List (List UInt8))) (x16 : Bool) : Option (List (List UInt8)) :=
 if x16 = true then
  (gadd x15 1).bind fun x17 =>
  lp2 x17
 else
  ref6_Sorted_j2 n a0 w1 x2 lp1 x15
def ref6_Sorted_l2 (n : Nat) (a0 : List (List UInt8)) (w1 : List (List UInt8)) (x2 : Int) (lp1 : (List (List UInt8)) → Int → Option (List (List UInt8))) : Nat → Int → Option (List (List UInt8))
 | 0, _ => none
 | m2 + 1, x15 =>
  if (decide (x15 < (w1.length : Int))) = true then
   (gidx w1 x15).bind fun e18 =>
   (gidx a0 x2).bind fun e19 =>
   ref6_Sorted_j4 n a0 w1 x2 lp1 x15 (ref6_Sorted_l2 n a0 w1 x2 lp1 m2) (Op.bytesLess e18 e19)
  else
   ref6_Sorted_j4 n a0 w1 x2 lp1 x15 (ref6_Sorted_l2 n a0 w1 x2 lp1 m2) false
def ref6_Sorted_l1 (n : Nat) (a0 : List (List UInt8)) : Nat → List (List UInt8) → Int → Option (List (List UInt8))
 | 0, _, _ => none
 | m1 + 1, w1, x2 =>
  if (decide (x2 < (a0.length : Int))) = true then
   ref6_Sorted_l2 n a0 w1 x2 (ref6_Sorted_l1 n a0 m1) n 0
  else
   some w1
def ref6_Sorted (n : Nat) (a0 : List (List UInt8)) : Option (List (List UInt8)) :=
 ref6_Sorted_l1 n a0 n ([] : List (List UInt8)) 0
def ref6_Sources_j1 (n : Nat) (x4 : Int) (lp2 : (List (List UInt8)) → Int → Option (List (List UInt8))) (w6 : List (List UInt8)) : Option (List (List UInt8)) :=
 (gadd x4 1).bind fun x7 =>
 lp2 w6 x7
def ref6_Sources_j2 (n : Nat) (x9 : Int) (lp3 : Bool → Int → Option (List (List UInt8))) (x10 : Bool) : Option (List (List UInt8)) :=
 (gadd x9 1).bind fun x11 =>
 lp3 x10 x11
def ref6_Sources_l3 (n : Nat) (a0 : List SInputsOpsOutput) (x2 : Int) (w3 : List (List UInt8)) (x4 : Int) (lp2 : (List (List UInt8)) → Int → Option (List (List UInt8))) (e5 : SInputsOpsOutput) : Nat → Bool → Int → Option (List (List UInt8))
 | 0, _, _ => none
 | m3 + 1, x8, x9 =>
  if (decide (x9 < x2)) = true then
   if x8 = true then
    ref6_Sources_j2 n x9 (ref6_Sources_l3 n a0 x2 w3 x4 lp2 e5 m3) true
   else
    (gidx a0 x9).bind fun e12 =>
    (gidx e5.Inputs x4).bind fun e13 =>
    ref6_Sources_j2 n x9 (ref6_Sources_l3 n a0 x2 w3 x4 lp2 e5 m3) (decide (e12.Output = e13))
  else
   if (!x8) = true then
    (gidx e5.Inputs x4).bind fun e14 =>
    (gapp 16 w3 ([e14] : List (List UInt8))).bind fun w15 =>
    ref6_Sources_j1 n x4 lp2 w15
   else
    ref6_Sources_j1 n x4 lp2 w3
def ref6_Sources_l2 (n : Nat) (a0 : List SInputsOpsOutput) (x2 : Int) (lp1 : (List (List UInt8)) → Int → Option (List (List UInt8))) : Nat → List (List UInt8) → Int → Option (List (List UInt8))
 | 0, _, _ => none
 | m2 + 1, w3, x4 =>
  (gidx a0 x2).bind fun e5 =>
  if (decide (x4 < (e5.Inputs.length : Int))) = true then
   ref6_Sources_l3 n a0 x2 w3 x4 (ref6_Sources_l2 n a0 x2 lp1 m2) e5 n false 0
  else
   (gadd x2 1).bind fun x16 =>
   lp1 w3 x16
def ref6_Sources_l1 (n : Nat) (a0 : List SInputsOpsOutput) : Nat → List (List UInt8) → Int → Option (List (List UInt8))
 | 0, _, _ => none
 | m1 + 1, w1, x2 =>
  if (decide (x2 < (a0.length : Int))) = true then
   ref6_Sources_l2 n a0 x2 (ref6_Sources_l1 n a0 m1) n w1 0
  else
   (ref6_Sorted n w1).bind fun r17 =>
   some r17
def ref6_Sources (n : Nat) (a0 : List SInputsOpsOutput) : Option (List (List UInt8)) :=
 ref6_Sources_l1 n a0 n ([] : List (List UInt8)) 0
def ref6_ActionsFault_l1 (n : Nat) (a0 : List SInputsOpsOutput) : Nat → Int → Option SCodeIndex
 | 0, _ => none
 | m1 + 1, x2 =>
  if (decide (x2 < (a0.length : Int))) = true then
   (gidx a0 x2).bind fun e3 =>
   (ref6_ActionFault n e3).bind fun r4 =>
   if (decide (r4.Code ≠ 0)) = true then
    (ref6_fault n r4.Code x2).bind fun r5 =>
    some r5
   else
    (gadd x2 1).bind fun x6 =>
    (ref6_ActionsFault_l1 n a0 m1) x6
  else
   some (⟨0, 0⟩ : SCodeIndex)
def ref6_ActionsFault (n : Nat) (a0 : List SInputsOpsOutput) : Option SCodeIndex :=
 if (decide (8 < (a0.length : Int))) = true then
  (ref6_fault n 2 (-1)).bind fun r1 =>
  some r1
 else
  ref6_ActionsFault_l1 n a0 n 0
def ref6_MakeFault_j2 (n : Nat) (b4 : Int) (b5 : Int) : Option SCodeIndex :=
 some (⟨b4, b5⟩ : SCodeIndex)
def ref6_MakeFault_j3 (n : Nat) (b2 : Int) (b3 : Int) (x6 : Bool) : Option SCodeIndex :=
 if x6 = true then
  (ref6_fault n 10 (-3)).bind fun r7 =>
  ref6_MakeFault_j2 n r7.Code r7.Index
 else
  ref6_MakeFault_j2 n b2 b3
def ref6_MakeFault_j1 (n : Nat) (a0 : List SInputsOpsOutput) (b2 : Int) (b3 : Int) : Option SCodeIndex :=
 if (decide (b2 = 0)) = true then
  (ref6_Sources n a0).bind fun r8 =>
  ref6_MakeFault_j3 n b2 b3 (decide (24 < (r8.length : Int)))
 else
  ref6_MakeFault_j3 n b2 b3 false
def ref6_MakeFault (n : Nat) (a0 : List SInputsOpsOutput) (a1 : SFiles) : Option SCodeIndex :=
 (ref6_ActionsFault n a0).bind fun r1 =>
 if (decide (r1.Code = 0)) = true then
  (ref6_TreeAt n a1 (-2)).bind fun r9 =>
  ref6_MakeFault_j1 n a0 r9.Code r9.Index
 else
  ref6_MakeFault_j1 n a0 r1.Code r1.Index
def ref6_PathsFault_j1 (n : Nat) (x2 : Int) (lp1 : Int → Option SCodeIndex) (x6 : Bool) : Option SCodeIndex :=
 if x6 = true then
  (ref6_fault n 5 x2).bind fun r7 =>
  some r7
 else
  (gadd x2 1).bind fun x8 =>
  lp1 x8
def ref6_PathsFault_l1 (n : Nat) (a0 : List (List UInt8)) : Nat → Int → Option SCodeIndex
 | 0, _ => none
 | m1 + 1, x2 =>
  if (decide (x2 < (a0.length : Int))) = true then
   (gidx a0 x2).bind fun e3 =>
   (ref2_PathValid n e3).bind fun r4 =>
   if (!r4) = true then
    (ref6_fault n 12 x2).bind fun r5 =>
    some r5
   else
    if (decide (0 < x2)) = true then
     (gsub x2 1).bind fun x9 =>
     (gidx a0 x9).bind fun e10 =>
     ref6_PathsFault_j1 n x2 (ref6_PathsFault_l1 n a0 m1) (Op.bytesLess e3 e10 || e3 == e10)
    else
     ref6_PathsFault_j1 n x2 (ref6_PathsFault_l1 n a0 m1) false
  else
   some (⟨0, 0⟩ : SCodeIndex)
def ref6_PathsFault (n : Nat) (a0 : List (List UInt8)) : Option SCodeIndex :=
 if (decide (24 < (a0.length : Int))) = true then
  (ref6_fault n 2 (-1)).bind fun r1 =>
  some r1
 else
  ref6_PathsFault_l1 n a0 n 0
end Go.Proofs.YtlkknmhhefjmjaaGreatDoor
