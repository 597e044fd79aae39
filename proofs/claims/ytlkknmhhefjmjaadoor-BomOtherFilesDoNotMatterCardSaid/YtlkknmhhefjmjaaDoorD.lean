/- The types of the functions, and what the functions compute: partial operations as options; n is the fuel of each loop. Laid by a program (wip/gen/dec.py). -/
import Derived.Test.YtlkknmhhefjmjaaDoorPwDec
import Derived.Test.YtlkknmhhefjmjaaDoorPwSplit
import Derived.Test.YtlkknmhhefjmjaaDoorPwEat
import Derived.Test.YtlkknmhhefjmjaaDoorPwInsert
import Derived.Test.YtlkknmhhefjmjaaDoorPwSortFn
set_option linter.unusedVariables false
namespace Go.Proofs.YtlkknmhhefjmjaaDoor
open Go.PW Go
structure SCodeIndex where
  Code : Int
  Index : Int
  deriving DecidableEq
def SCodeIndex.cells (x : SCodeIndex) : List PV := [.int .i64 x.Code, .int .i64 x.Index]
structure SKeyLines where
  Key : Int
  Lines : List (List UInt8)
  deriving DecidableEq
def SKeyLines.cells (x : SKeyLines) : List PV := [.int .i64 x.Key, .list 1 (List.map cS x.Lines)]
structure SPathLines where
  Path : List UInt8
  Lines : List (List UInt8)
  deriving DecidableEq
def SPathLines.cells (x : SPathLines) : List PV := [.str x.Path, .list 1 (List.map cS x.Lines)]
structure SFiles where
  Files : List SPathLines
  deriving DecidableEq
def SFiles.cells (x : SFiles) : List PV := [.list 2 (List.map SPathLines.cells x.Files)]
structure SKindText where
  Kind : Int
  Text : List UInt8
  deriving DecidableEq
def SKindText.cells (x : SKindText) : List PV := [.int .i64 x.Kind, .str x.Text]
structure SInputsOpsOutput where
  Inputs : List (List UInt8)
  Ops : List SKindText
  Output : List UInt8
  deriving DecidableEq
def SInputsOpsOutput.cells (x : SInputsOpsOutput) : List PV := [.list 1 (List.map cS x.Inputs), .list 2 (List.map SKindText.cells x.Ops), .str x.Output]
structure SA0A1 where
  A0 : Int
  A1 : Int
  deriving DecidableEq
def SA0A1.cells (x : SA0A1) : List PV := [.int .i64 x.A0, .int .i64 x.A1]
structure SPathDigest where
  Path : List UInt8
  Digest : Int
  deriving DecidableEq
def SPathDigest.cells (x : SPathDigest) : List PV := [.str x.Path, .int .i64 x.Digest]
instance : Inhabited SPathDigest := ⟨⟨[], 0⟩⟩
theorem cmpPath_ok : CmpOk (fun x y : SPathDigest => libCompare x.Path y.Path) := cmpOk_bytes _
def sortPath (l : List SPathDigest) : List SPathDigest := sortTie (fun x y => libCompare x.Path y.Path) l
theorem sortPath_length (l : List SPathDigest) : (sortPath l).length = l.length := sortTie_length cmpPath_ok l
def ref5_in_j1 (n : Nat) (x1 : Bool) : Option Bool :=
  some x1
def ref5_in (n : Nat) (a0 : Int) (a1 : Int) (a2 : Int) : Option Bool :=
  if (decide (a1 ≤ a0)) = true then
    ref5_in_j1 n (decide (a0 ≤ a2))
  else
    ref5_in_j1 n false
def ref5_IsDigest (n : Nat) (a0 : Int) : Option Bool :=
  (ref5_in n a0 0 2305843009213693950).bind fun r1 =>
  some r1
def ref6_fault (n : Nat) (a0 : Int) (a1 : Int) : Option SCodeIndex :=
  some (⟨a0, a1⟩ : SCodeIndex)
def law6_fault (n : Nat) (a0 : Int) (a1 : Int) : Option SCodeIndex :=
  some (⟨a0, a1⟩ : SCodeIndex)
def signing_IsDigest_j1 (n : Nat) (x1 : Bool) : Option Bool :=
  some x1
def signing_IsDigest (n : Nat) (a0 : Int) : Option Bool :=
  if (decide (0 ≤ a0)) = true then
    signing_IsDigest_j1 n (decide (a0 < 2305843009213693951))
  else
    signing_IsDigest_j1 n false
def strings_IndexByte (n : Nat) (a0 : List UInt8) (a1 : Int) : Option Int :=
  some (libIndexByte a0 a1)
def lines_Validate_l1 (n : Nat) (a0 : List (List UInt8)) : Nat → Int → Option SCodeIndex
  | 0, _ => none
  | m1 + 1, x1 =>
    if (decide (x1 < (a0.length : Int))) = true then
      (gidx a0 x1).bind fun e2 =>
      if (decide (80 < (e2.length : Int))) = true then
        some (⟨2, x1⟩ : SCodeIndex)
      else
        (strings_IndexByte n e2 10).bind fun r3 =>
        if (decide (0 ≤ r3)) = true then
          some (⟨5, x1⟩ : SCodeIndex)
        else
          (gadd x1 1).bind fun x4 =>
          (lines_Validate_l1 n a0 m1) x4
    else
      some (⟨0, 0⟩ : SCodeIndex)
def lines_Validate (n : Nat) (a0 : List (List UInt8)) : Option SCodeIndex :=
  if (decide (120 < (a0.length : Int))) = true then
    some (⟨2, (-1)⟩ : SCodeIndex)
  else
    lines_Validate_l1 n a0 n 0
def lines_Second (n : Nat) (a0 : List (List UInt8)) (a1 : Int) : Option SCodeIndex :=
  (lines_Validate n a0).bind fun r1 =>
  if ((r1.Code == 0 && (r1.Index == 0 && true)) != true) = true then
    some (⟨r1.Code, a1⟩ : SCodeIndex)
  else
    some (⟨0, 0⟩ : SCodeIndex)
def treepatch_ValidPath (n : Nat) (a0 : List UInt8) : Option Bool :=
  some (libValidPath a0)
def internal_stringslite_HasPrefix_j1 (n : Nat) (x1 : Bool) : Option Bool :=
  some x1
def internal_stringslite_HasPrefix (n : Nat) (a0 : List UInt8) (a1 : List UInt8) : Option Bool :=
  if (decide ((a1.length : Int) ≤ (a0.length : Int))) = true then
    (gcut a0 0 (a1.length : Int)).bind fun s2 =>
    internal_stringslite_HasPrefix_j1 n (decide (s2 = a1))
  else
    internal_stringslite_HasPrefix_j1 n false
def strings_HasPrefix (n : Nat) (a0 : List UInt8) (a1 : List UInt8) : Option Bool :=
  (internal_stringslite_HasPrefix n a0 a1).bind fun r1 =>
  some r1
def treepatch_Related_j1 (n : Nat) (x1 : Bool) : Option Bool :=
  some x1
def treepatch_Related (n : Nat) (a0 : List UInt8) (a1 : List UInt8) : Option Bool :=
  if (decide (a0 = a1)) = true then
    treepatch_Related_j1 n true
  else
    (gcat a1 ([47] : List UInt8)).bind fun s2 =>
    (strings_HasPrefix n a0 s2).bind fun r3 =>
    if r3 = true then
      treepatch_Related_j1 n true
    else
      (gcat a0 ([47] : List UInt8)).bind fun s4 =>
      (strings_HasPrefix n a1 s4).bind fun r5 =>
      treepatch_Related_j1 n r5
def treepatch_Clash_j1 (n : Nat) (x1 : Int) (lp1 : Int → Option Bool) (x3 : Bool) : Option Bool :=
  if x3 = true then
    some true
  else
    (gadd x1 1).bind fun x4 =>
    lp1 x4
def treepatch_Clash_l1 (n : Nat) (a0 : List SPathLines) (a1 : List UInt8) (a2 : Int) : Nat → Int → Option Bool
  | 0, _ => none
  | m1 + 1, x1 =>
    if (decide (x1 < (a0.length : Int))) = true then
      (gidx a0 x1).bind fun e2 =>
      if (decide (x1 ≠ a2)) = true then
        (treepatch_Related n e2.Path a1).bind fun r5 =>
        treepatch_Clash_j1 n x1 (treepatch_Clash_l1 n a0 a1 a2 m1) r5
      else
        treepatch_Clash_j1 n x1 (treepatch_Clash_l1 n a0 a1 a2 m1) false
    else
      some false
def treepatch_Clash (n : Nat) (a0 : List SPathLines) (a1 : List UInt8) (a2 : Int) : Option Bool :=
  treepatch_Clash_l1 n a0 a1 a2 n 0
def treepatch_Validate_j1 (n : Nat) (a0 : SFiles) (x1 : Int) (lp1 : Int → Option SCodeIndex) (e2 : SPathLines) (x4 : Bool) : Option SCodeIndex :=
  if x4 = true then
    some (⟨5, x1⟩ : SCodeIndex)
  else
    (gcut a0.Files 0 x1).bind fun s5 =>
    (treepatch_Clash n s5 e2.Path (-1)).bind fun r6 =>
    if r6 = true then
      some (⟨7, x1⟩ : SCodeIndex)
    else
      (lines_Second n e2.Lines x1).bind fun r7 =>
      if ((r7.Code == 0 && (r7.Index == 0 && true)) != true) = true then
        some r7
      else
        (gadd x1 1).bind fun x8 =>
        lp1 x8
def treepatch_Validate_l1 (n : Nat) (a0 : SFiles) : Nat → Int → Option SCodeIndex
  | 0, _ => none
  | m1 + 1, x1 =>
    if (decide (x1 < (a0.Files.length : Int))) = true then
      (gidx a0.Files x1).bind fun e2 =>
      (treepatch_ValidPath n e2.Path).bind fun r3 =>
      if (!r3) = true then
        some (⟨12, x1⟩ : SCodeIndex)
      else
        if (decide (0 < x1)) = true then
          (gsub x1 1).bind fun x9 =>
          (gidx a0.Files x9).bind fun e10 =>
          treepatch_Validate_j1 n a0 x1 (treepatch_Validate_l1 n a0 m1) e2 (Op.bytesLess e2.Path e10.Path || e2.Path == e10.Path)
        else
          treepatch_Validate_j1 n a0 x1 (treepatch_Validate_l1 n a0 m1) e2 false
    else
      some (⟨0, 0⟩ : SCodeIndex)
def treepatch_Validate (n : Nat) (a0 : SFiles) : Option SCodeIndex :=
  if (decide (24 < (a0.Files.length : Int))) = true then
    some (⟨2, (-1)⟩ : SCodeIndex)
  else
    treepatch_Validate_l1 n a0 n 0
def treepatch_Second (n : Nat) (a0 : SFiles) (a1 : Int) : Option SCodeIndex :=
  (treepatch_Validate n a0).bind fun r1 =>
  if ((r1.Code == 0 && (r1.Index == 0 && true)) != true) = true then
    some (⟨r1.Code, a1⟩ : SCodeIndex)
  else
    some (⟨0, 0⟩ : SCodeIndex)
def digest_mul_j1 (n : Nat) (x1 : Int) : Option Int :=
  some x1
def digest_mul_j2 (n : Nat) (x2 : Int) (x3 : Int) (lp1 : Int → Int → Int → Option Int) (x5 : Int) : Option Int :=
  (gmul 2 x2).bind fun x6 =>
  (grem x6 2305843009213693951).bind fun x7 =>
  lp1 x7 (kshr .i64 x3 1) x5
def digest_mul_l1 (n : Nat) : Nat → Int → Int → Int → Option Int
  | 0, _, _, _ => none
  | m1 + 1, x2, x3, x4 =>
    if (decide (0 < x3)) = true then
      if (decide ((kand .i64 x3 1) = 1)) = true then
        (gadd x4 x2).bind fun x8 =>
        (grem x8 2305843009213693951).bind fun x9 =>
        digest_mul_j2 n x2 x3 (digest_mul_l1 n m1) x9
      else
        digest_mul_j2 n x2 x3 (digest_mul_l1 n m1) x4
    else
      digest_mul_j1 n x4
def digest_mul (n : Nat) (a0 : Int) (a1 : Int) : Option Int :=
  digest_mul_l1 n n a0 a1 0
def digest_next (n : Nat) (a0 : SA0A1) (a1 : Int) : Option Int :=
  (digest_mul n a0.A0 a1).bind fun r1 =>
  (gadd r1 a0.A1).bind fun x2 =>
  (grem x2 2305843009213693951).bind fun x3 =>
  some x3
def digest_Of_l1 (n : Nat) (a0 : List Int) : Nat → Int → Int → Option (Int × SCodeIndex)
  | 0, _, _ => none
  | m1 + 1, x1, x2 =>
    if (decide (x2 < (a0.length : Int))) = true then
      (gidx a0 x2).bind fun e3 =>
      (gadd (IntKind.wrap .i64 e3) 1).bind fun x4 =>
      (digest_next n (⟨x1, x4⟩ : SA0A1) 257).bind fun r5 =>
      (gadd x2 1).bind fun x6 =>
      (digest_Of_l1 n a0 m1) r5 x6
    else
      some (x1, (⟨0, 0⟩ : SCodeIndex))
def digest_Of (n : Nat) (a0 : List Int) : Option (Int × SCodeIndex) :=
  if (decide (4096 < (a0.length : Int))) = true then
    some (0, (⟨2, 0⟩ : SCodeIndex))
  else
    digest_Of_l1 n a0 n 1 0
def digest_pair (n : Nat) (a0 : Int) (a1 : Int) : Option Int :=
  (digest_next n (⟨a1, 7⟩ : SA0A1) 31).bind fun r1 =>
  (digest_next n (⟨a0, r1⟩ : SA0A1) 1000003).bind fun r2 =>
  some r2
def digest_Strings_l1 (n : Nat) (a0 : List (List UInt8)) : Nat → Int → Int → Option (Int × SCodeIndex)
  | 0, _, _ => none
  | m1 + 1, x1, x2 =>
    if (decide (x2 < (a0.length : Int))) = true then
      (gidx a0 x2).bind fun e3 =>
      (digest_Of n (bts e3)).bind fun r4 =>
      if ((r4.2.Code == 0 && (r4.2.Index == 0 && true)) != true) = true then
        some (0, (⟨r4.2.Code, x2⟩ : SCodeIndex))
      else
        (digest_pair n x1 r4.1).bind fun r5 =>
        (gadd x2 1).bind fun x6 =>
        (digest_Strings_l1 n a0 m1) r5 x6
    else
      some (x1, (⟨0, 0⟩ : SCodeIndex))
def digest_Strings (n : Nat) (a0 : List (List UInt8)) : Option (Int × SCodeIndex) :=
  if (decide (120 < (a0.length : Int))) = true then
    some (0, (⟨2, (-1)⟩ : SCodeIndex))
  else
    digest_Strings_l1 n a0 n 2 0
def strings_Compare (n : Nat) (a0 : List UInt8) (a1 : List UInt8) : Option Int :=
  some (libCompare a0 a1)
def treepatch_Find_j1 (n : Nat) (x1 : Int) (x2 : Bool) : Option (Int × Bool) :=
  some (x1, x2)
def treepatch_Find_j3 (n : Nat) (x3 : Int) (x4 : Bool) : Option (Int × Bool) :=
  treepatch_Find_j1 n x3 x4
def treepatch_Find_j4 (n : Nat) (x3 : Int) (x6 : Int) : Option (Int × Bool) :=
  treepatch_Find_j3 n x3 (decide (x6 = 0))
def treepatch_Find_j2 (n : Nat) (a0 : List SPathLines) (a1 : List UInt8) (x3 : Int) : Option (Int × Bool) :=
  if (decide (x3 < (a0.length : Int))) = true then
    (gidx a0 x3).bind fun e5 =>
    (strings_Compare n e5.Path a1).bind fun r7 =>
    treepatch_Find_j4 n x3 r7
  else
    treepatch_Find_j3 n x3 false
def treepatch_Find_j5 (n : Nat) (x8 : Int) (x9 : Int) (lp1 : Int → Int → Option (Int × Bool)) (x10 : Int) (x12 : Int) : Option (Int × Bool) :=
  if (decide (x12 < 0)) = true then
    (gadd (IntKind.wrap .i64 (kshr .u64 (IntKind.wrap .u64 x10) 1)) 1).bind fun x13 =>
    lp1 x13 x9
  else
    lp1 x8 (IntKind.wrap .i64 (kshr .u64 (IntKind.wrap .u64 x10) 1))
def treepatch_Find_l1 (n : Nat) (a0 : List SPathLines) (a1 : List UInt8) : Nat → Int → Int → Option (Int × Bool)
  | 0, _, _ => none
  | m1 + 1, x8, x9 =>
    if (decide (x8 < x9)) = true then
      (gadd x8 x9).bind fun x10 =>
      (gidx a0 (IntKind.wrap .i64 (kshr .u64 (IntKind.wrap .u64 x10) 1))).bind fun e11 =>
      (strings_Compare n e11.Path a1).bind fun r14 =>
      treepatch_Find_j5 n x8 x9 (treepatch_Find_l1 n a0 a1 m1) x10 r14
    else
      treepatch_Find_j2 n a0 a1 x8
def treepatch_Find (n : Nat) (a0 : List SPathLines) (a1 : List UInt8) : Option (Int × Bool) :=
  treepatch_Find_l1 n a0 a1 n 0 (a0.length : Int)
def law6_files (n : Nat) : Option SFiles :=
  some (⟨([(⟨([97] : List UInt8), ([([120] : List UInt8), ([121] : List UInt8)] : List (List UInt8))⟩ : SPathLines)] : List SPathLines)⟩ : SFiles)
def ref1_At (n : Nat) (a0 : Int) (a1 : Int) : Option SCodeIndex :=
  some (⟨a0, a1⟩ : SCodeIndex)
def ref1_LinesFault_l2 (n : Nat) (x2 : Int) (lp1 : Int → Option SCodeIndex) (e3 : List UInt8) : Nat → Int → Option SCodeIndex
  | 0, _ => none
  | m2 + 1, x5 =>
    if (decide (x5 < (e3.length : Int))) = true then
      (gidx e3 x5).bind fun y6 =>
      if (decide ((y6.toNat : Int) = 10)) = true then
        (ref1_At n 5 x2).bind fun r7 =>
        some r7
      else
        (gadd x5 1).bind fun x8 =>
        (ref1_LinesFault_l2 n x2 lp1 e3 m2) x8
    else
      (gadd x2 1).bind fun x9 =>
      lp1 x9
def ref1_LinesFault_l1 (n : Nat) (a0 : List (List UInt8)) : Nat → Int → Option SCodeIndex
  | 0, _ => none
  | m1 + 1, x2 =>
    if (decide (x2 < (a0.length : Int))) = true then
      (gidx a0 x2).bind fun e3 =>
      if (decide (80 < (e3.length : Int))) = true then
        (ref1_At n 2 x2).bind fun r4 =>
        some r4
      else
        ref1_LinesFault_l2 n x2 (ref1_LinesFault_l1 n a0 m1) e3 n 0
    else
      some (⟨0, 0⟩ : SCodeIndex)
def ref1_LinesFault (n : Nat) (a0 : List (List UInt8)) : Option SCodeIndex :=
  if (decide (120 < (a0.length : Int))) = true then
    (ref1_At n 2 (-1)).bind fun r1 =>
    some r1
  else
    ref1_LinesFault_l1 n a0 n 0
def ref1_LinesCode (n : Nat) (a0 : List (List UInt8)) : Option Int :=
  (ref1_LinesFault n a0).bind fun r1 =>
  some r1.Code
def ref2_pathByte_j1 (n : Nat) (x1 : Bool) : Option Bool :=
  some x1
def ref2_pathByte (n : Nat) (a0 : Int) : Option Bool :=
  if (decide (97 ≤ a0)) = true then
    if (decide (a0 ≤ 122)) = true then
      ref2_pathByte_j1 n true
    else
      if (decide (65 ≤ a0)) = true then
        if (decide (a0 ≤ 90)) = true then
          ref2_pathByte_j1 n true
        else
          if (decide (48 ≤ a0)) = true then
            if (decide (a0 ≤ 57)) = true then
              ref2_pathByte_j1 n true
            else
              if (decide (a0 = 46)) = true then
                ref2_pathByte_j1 n true
              else
                if (decide (a0 = 95)) = true then
                  ref2_pathByte_j1 n true
                else
                  ref2_pathByte_j1 n (decide (a0 = 45))
          else
            if (decide (a0 = 46)) = true then
              ref2_pathByte_j1 n true
            else
              if (decide (a0 = 95)) = true then
                ref2_pathByte_j1 n true
              else
                ref2_pathByte_j1 n (decide (a0 = 45))
      else
        if (decide (48 ≤ a0)) = true then
          if (decide (a0 ≤ 57)) = true then
            ref2_pathByte_j1 n true
          else
            if (decide (a0 = 46)) = true then
              ref2_pathByte_j1 n true
            else
              if (decide (a0 = 95)) = true then
                ref2_pathByte_j1 n true
              else
                ref2_pathByte_j1 n (decide (a0 = 45))
        else
          if (decide (a0 = 46)) = true then
            ref2_pathByte_j1 n true
          else
            if (decide (a0 = 95)) = true then
              ref2_pathByte_j1 n true
            else
              ref2_pathByte_j1 n (decide (a0 = 45))
  else
    if (decide (65 ≤ a0)) = true then
      if (decide (a0 ≤ 90)) = true then
        ref2_pathByte_j1 n true
      else
        if (decide (48 ≤ a0)) = true then
          if (decide (a0 ≤ 57)) = true then
            ref2_pathByte_j1 n true
          else
            if (decide (a0 = 46)) = true then
              ref2_pathByte_j1 n true
            else
              if (decide (a0 = 95)) = true then
                ref2_pathByte_j1 n true
              else
                ref2_pathByte_j1 n (decide (a0 = 45))
        else
          if (decide (a0 = 46)) = true then
            ref2_pathByte_j1 n true
          else
            if (decide (a0 = 95)) = true then
              ref2_pathByte_j1 n true
            else
              ref2_pathByte_j1 n (decide (a0 = 45))
    else
      if (decide (48 ≤ a0)) = true then
        if (decide (a0 ≤ 57)) = true then
          ref2_pathByte_j1 n true
        else
          if (decide (a0 = 46)) = true then
            ref2_pathByte_j1 n true
          else
            if (decide (a0 = 95)) = true then
              ref2_pathByte_j1 n true
            else
              ref2_pathByte_j1 n (decide (a0 = 45))
      else
        if (decide (a0 = 46)) = true then
          ref2_pathByte_j1 n true
        else
          if (decide (a0 = 95)) = true then
            ref2_pathByte_j1 n true
          else
            ref2_pathByte_j1 n (decide (a0 = 45))
def ref2_PathValid_j1 (n : Nat) (x3 : Int) (lp1 : Int → Int → Option Bool) (x4 : Int) : Option Bool :=
  (gsub x3 1).bind fun x5 =>
  lp1 x4 x5
def ref2_PathValid_j3 (n : Nat) (x3 : Int) (lp1 : Int → Int → Option Bool) (x11 : Bool) : Option Bool :=
  if x11 = true then
    some false
  else
    ref2_PathValid_j1 n x3 lp1 x3
def ref2_PathValid_j2 (n : Nat) (a0 : List UInt8) (x2 : Int) (x3 : Int) (lp1 : Int → Int → Option Bool) (x6 : Bool) : Option Bool :=
  if x6 = true then
    (gidx a0 x3).bind fun y7 =>
    (ref2_pathByte n (y7.toNat : Int)).bind fun r8 =>
    if (!r8) = true then
      some false
    else
      ref2_PathValid_j1 n x3 lp1 x2
  else
    (gadd x3 1).bind fun x9 =>
    (gcut a0 x9 x2).bind fun s10 =>
    if (decide (s10 = ([] : List UInt8))) = true then
      ref2_PathValid_j3 n x3 lp1 true
    else
      if (decide (s10 = ([46] : List UInt8))) = true then
        ref2_PathValid_j3 n x3 lp1 true
      else
        ref2_PathValid_j3 n x3 lp1 (decide (s10 = ([46, 46] : List UInt8)))
def ref2_PathValid_l1 (n : Nat) (a0 : List UInt8) : Nat → Int → Int → Option Bool
  | 0, _, _ => none
  | m1 + 1, x2, x3 =>
    if (decide ((-1) ≤ x3)) = true then
      if (decide (0 ≤ x3)) = true then
        (gidx a0 x3).bind fun y12 =>
        ref2_PathValid_j2 n a0 x2 x3 (ref2_PathValid_l1 n a0 m1) (decide ((y12.toNat : Int) ≠ 47))
      else
        ref2_PathValid_j2 n a0 x2 x3 (ref2_PathValid_l1 n a0 m1) false
    else
      some true
def ref2_PathValid (n : Nat) (a0 : List UInt8) : Option Bool :=
  if (decide (60 < (a0.length : Int))) = true then
    some false
  else
    (gsub (a0.length : Int) 1).bind fun x1 =>
    ref2_PathValid_l1 n a0 n (a0.length : Int) x1
def ref2_Related_j1 (n : Nat) (x2 : Bool) : Option Bool :=
  some x2
def ref2_Related : Nat → (List UInt8) → (List UInt8) → Option Bool
  | 0, _, _ => none
  | n + 1, a0, a1 =>
    if (decide ((a1.length : Int) < (a0.length : Int))) = true then
      ((ref2_Related n) a1 a0).bind fun r1 =>
      some r1
    else
      (gcut a1 0 (a0.length : Int)).bind fun s3 =>
      if (decide (s3 = a0)) = true then
        if (decide ((a0.length : Int) = (a1.length : Int))) = true then
          ref2_Related_j1 n true
        else
          (gidx a1 (a0.length : Int)).bind fun y4 =>
          ref2_Related_j1 n (decide ((y4.toNat : Int) = 47))
      else
        ref2_Related_j1 n false
def ref2_TreeFault_l2 (n : Nat) (a0 : SFiles) (x2 : Int) (lp1 : Int → Option SCodeIndex) (e3 : SPathLines) : Nat → Int → Option SCodeIndex
  | 0, _ => none
  | m2 + 1, x8 =>
    if (decide (x8 < x2)) = true then
      (gidx a0.Files x8).bind fun e9 =>
      (ref2_Related n e9.Path e3.Path).bind fun r10 =>
      if r10 = true then
        (ref1_At n 7 x2).bind fun r11 =>
        some r11
      else
        (gadd x8 1).bind fun x12 =>
        (ref2_TreeFault_l2 n a0 x2 lp1 e3 m2) x12
    else
      (ref1_LinesCode n e3.Lines).bind fun r13 =>
      if (decide (r13 ≠ 0)) = true then
        (ref1_At n r13 x2).bind fun r14 =>
        some r14
      else
        (gadd x2 1).bind fun x15 =>
        lp1 x15
def ref2_TreeFault_j1 (n : Nat) (a0 : SFiles) (x2 : Int) (lp1 : Int → Option SCodeIndex) (e3 : SPathLines) (x6 : Bool) : Option SCodeIndex :=
  if x6 = true then
    (ref1_At n 5 x2).bind fun r7 =>
    some r7
  else
    ref2_TreeFault_l2 n a0 x2 lp1 e3 n 0
def ref2_TreeFault_l1 (n : Nat) (a0 : SFiles) : Nat → Int → Option SCodeIndex
  | 0, _ => none
  | m1 + 1, x2 =>
    if (decide (x2 < (a0.Files.length : Int))) = true then
      (gidx a0.Files x2).bind fun e3 =>
      (ref2_PathValid n e3.Path).bind fun r4 =>
      if (!r4) = true then
        (ref1_At n 12 x2).bind fun r5 =>
        some r5
      else
        if (decide (0 < x2)) = true then
          (gsub x2 1).bind fun x16 =>
          (gidx a0.Files x16).bind fun e17 =>
          ref2_TreeFault_j1 n a0 x2 (ref2_TreeFault_l1 n a0 m1) e3 (Op.bytesLess e3.Path e17.Path || e3.Path == e17.Path)
        else
          ref2_TreeFault_j1 n a0 x2 (ref2_TreeFault_l1 n a0 m1) e3 false
    else
      some (⟨0, 0⟩ : SCodeIndex)
def ref2_TreeFault (n : Nat) (a0 : SFiles) : Option SCodeIndex :=
  if (decide (24 < (a0.Files.length : Int))) = true then
    (ref1_At n 2 (-1)).bind fun r1 =>
    some r1
  else
    ref2_TreeFault_l1 n a0 n 0
def ref6_TreeAt_j1 (n : Nat) (r1 : SCodeIndex) (b2 : Int) : Option SCodeIndex :=
  some (⟨r1.Code, b2⟩ : SCodeIndex)
def ref6_TreeAt (n : Nat) (a0 : SFiles) (a1 : Int) : Option SCodeIndex :=
  (ref2_TreeFault n a0).bind fun r1 =>
  if (decide (r1.Code ≠ 0)) = true then
    ref6_TreeAt_j1 n r1 a1
  else
    ref6_TreeAt_j1 n r1 r1.Index
def ref1_times_j1 (n : Nat) (x1 : Int) : Option Int :=
  some x1
def ref1_times_j2 (n : Nat) (x2 : Int) (x3 : Int) (lp1 : Int → Int → Int → Option Int) (x5 : Int) : Option Int :=
  (gadd x2 x2).bind fun x6 =>
  (grem x6 2305843009213693951).bind fun x7 =>
  (gquo x3 2).bind fun x8 =>
  lp1 x7 x8 x5
def ref1_times_l1 (n : Nat) : Nat → Int → Int → Int → Option Int
  | 0, _, _, _ => none
  | m1 + 1, x2, x3, x4 =>
    if (decide (0 < x3)) = true then
      (grem x3 2).bind fun x9 =>
      if (decide (x9 = 1)) = true then
        (gadd x4 x2).bind fun x10 =>
        (grem x10 2305843009213693951).bind fun x11 =>
        ref1_times_j2 n x2 x3 (ref1_times_l1 n m1) x11
      else
        ref1_times_j2 n x2 x3 (ref1_times_l1 n m1) x4
    else
      ref1_times_j1 n x4
def ref1_times (n : Nat) (a0 : Int) (a1 : Int) : Option Int :=
  ref1_times_l1 n n a0 a1 0
def ref1_DigestPair (n : Nat) (a0 : Int) (a1 : Int) : Option Int :=
  (ref1_times n a0 1000003).bind fun r1 =>
  (ref1_times n a1 31).bind fun r2 =>
  (gadd r1 r2).bind fun x3 =>
  (gadd x3 7).bind fun x4 =>
  (grem x4 2305843009213693951).bind fun x5 =>
  some x5
def ref1_DigestOf_l1 (n : Nat) (a0 : List Int) : Nat → Int → Int → Option Int
  | 0, _, _ => none
  | m1 + 1, x1, x2 =>
    if (decide (x2 < (a0.length : Int))) = true then
      (ref1_times n x1 257).bind fun r3 =>
      (gidx a0 x2).bind fun e4 =>
      (gadd r3 (IntKind.wrap .i64 e4)).bind fun x5 =>
      (gadd x5 1).bind fun x6 =>
      (grem x6 2305843009213693951).bind fun x7 =>
      (gadd x2 1).bind fun x8 =>
      (ref1_DigestOf_l1 n a0 m1) x7 x8
    else
      some x1
def ref1_DigestOf (n : Nat) (a0 : List Int) : Option Int :=
  ref1_DigestOf_l1 n a0 n 1 0
def ref1_DigestStrings_l1 (n : Nat) (a0 : List (List UInt8)) : Nat → Int → Int → Option (Int × SCodeIndex)
  | 0, _, _ => none
  | m1 + 1, x2, x3 =>
    if (decide (x3 < (a0.length : Int))) = true then
      (gidx a0 x3).bind fun e4 =>
      if (decide (4096 < (e4.length : Int))) = true then
        (ref1_At n 2 x3).bind fun r5 =>
        some (0, r5)
      else
        (ref1_DigestOf n (bts e4)).bind fun r6 =>
        (ref1_DigestPair n x2 r6).bind fun r7 =>
        (gadd x3 1).bind fun x8 =>
        (ref1_DigestStrings_l1 n a0 m1) r7 x8
    else
      some (x2, (⟨0, 0⟩ : SCodeIndex))
def ref1_DigestStrings (n : Nat) (a0 : List (List UInt8)) : Option (Int × SCodeIndex) :=
  if (decide (120 < (a0.length : Int))) = true then
    (ref1_At n 2 (-1)).bind fun r1 =>
    some (0, r1)
  else
    ref1_DigestStrings_l1 n a0 n 2 0
def ref6_stringsSum (n : Nat) (a0 : List (List UInt8)) : Option Int :=
  (ref1_DigestStrings n a0).bind fun r1 =>
  some r1.1
def ref6_FileIn_l1 (n : Nat) (a0 : SFiles) (a1 : List UInt8) : Nat → Int → Option ((List (List UInt8)) × Bool)
  | 0, _ => none
  | m1 + 1, x1 =>
    if (decide (x1 < (a0.Files.length : Int))) = true then
      (gidx a0.Files x1).bind fun e2 =>
      if (decide (e2.Path = a1)) = true then
        some (e2.Lines, true)
      else
        (gadd x1 1).bind fun x3 =>
        (ref6_FileIn_l1 n a0 a1 m1) x3
    else
      some (([] : List (List UInt8)), false)
def ref6_FileIn (n : Nat) (a0 : SFiles) (a1 : List UInt8) : Option ((List (List UInt8)) × Bool) :=
  ref6_FileIn_l1 n a0 a1 n 0
def ref6_PathsFault_j1 (n : Nat) (x2 : Int) (lp1 : Int → Option SCodeIndex) (x6 : Bool) : Option SCodeIndex :=
  if x6 = true then
    (ref6_fault n 5 x2).bind fun r7 =>
    some r7
  else
    (gadd x2 1).bind fun x8 =>
    lp1 x8
def ref6_PathsFault_l1 (n : Nat) (a0 : List (List UInt8)) : Nat → Int → Option SCodeIndex
  | 0, _ => none
  | m1 + 1, x2 =>
    if (decide (x2 < (a0.length : Int))) = true then
      (gidx a0 x2).bind fun e3 =>
      (ref2_PathValid n e3).bind fun r4 =>
      if (!r4) = true then
        (ref6_fault n 12 x2).bind fun r5 =>
        some r5
      else
        if (decide (0 < x2)) = true then
          (gsub x2 1).bind fun x9 =>
          (gidx a0 x9).bind fun e10 =>
          ref6_PathsFault_j1 n x2 (ref6_PathsFault_l1 n a0 m1) (Op.bytesLess e3 e10 || e3 == e10)
        else
          ref6_PathsFault_j1 n x2 (ref6_PathsFault_l1 n a0 m1) false
    else
      some (⟨0, 0⟩ : SCodeIndex)
def ref6_PathsFault (n : Nat) (a0 : List (List UInt8)) : Option SCodeIndex :=
  if (decide (24 < (a0.length : Int))) = true then
    (ref6_fault n 2 (-1)).bind fun r1 =>
    some r1
  else
    ref6_PathsFault_l1 n a0 n 0
def ref6_BomFault_j2 (n : Nat) (x9 : Int) (lp2 : Int → Int → Int → Option SCodeIndex) (b11 : Int) (b12 : Int) : Option SCodeIndex :=
  (gadd x9 1).bind fun x13 =>
  lp2 b11 b12 x13
def ref6_BomFault_j3 (n : Nat) (b7 : Int) (b8 : Int) (x9 : Int) (lp2 : Int → Int → Int → Option SCodeIndex) (x14 : Bool) : Option SCodeIndex :=
  if x14 = true then
    (ref6_fault n 3 x9).bind fun r15 =>
    ref6_BomFault_j2 n x9 lp2 r15.Code r15.Index
  else
    ref6_BomFault_j2 n x9 lp2 b7 b8
def ref6_BomFault_j1 (n : Nat) (a0 : List SPathDigest) (b7 : Int) (b8 : Int) (x9 : Int) (lp2 : Int → Int → Int → Option SCodeIndex) (x10 : Bool) : Option SCodeIndex :=
  if x10 = true then
    (gidx a0 x9).bind fun e16 =>
    if (decide (e16.Digest ≠ (-1))) = true then
      (ref5_IsDigest n e16.Digest).bind fun r17 =>
      ref6_BomFault_j3 n b7 b8 x9 lp2 (!r17)
    else
      ref6_BomFault_j3 n b7 b8 x9 lp2 false
  else
    some (⟨b7, b8⟩ : SCodeIndex)
def ref6_BomFault_l2 (n : Nat) (a0 : List SPathDigest) : Nat → Int → Int → Int → Option SCodeIndex
  | 0, _, _, _ => none
  | m2 + 1, b7, b8, x9 =>
    if (decide (x9 < (a0.length : Int))) = true then
      ref6_BomFault_j1 n a0 b7 b8 x9 (ref6_BomFault_l2 n a0 m2) (decide (b7 = 0))
    else
      ref6_BomFault_j1 n a0 b7 b8 x9 (ref6_BomFault_l2 n a0 m2) false
def ref6_BomFault_l1 (n : Nat) (a0 : List SPathDigest) : Nat → List (List UInt8) → Int → Option SCodeIndex
  | 0, _, _ => none
  | m1 + 1, w1, x2 =>
    if (decide (x2 < (a0.length : Int))) = true then
      (gidx a0 x2).bind fun e3 =>
      (gapp 16 w1 ([e3.Path] : List (List UInt8))).bind fun w4 =>
      (gadd x2 1).bind fun x5 =>
      (ref6_BomFault_l1 n a0 m1) w4 x5
    else
      (ref6_PathsFault n w1).bind fun r6 =>
      ref6_BomFault_l2 n a0 n r6.Code r6.Index 0
def ref6_BomFault (n : Nat) (a0 : List SPathDigest) : Option SCodeIndex :=
  ref6_BomFault_l1 n a0 (n + a0.length) ([] : List (List UInt8)) 0
def bom_Validate_j2 (n : Nat) (x3 : Int) (lp1 : Int → Option SCodeIndex) (x5 : Bool) : Option SCodeIndex :=
  if x5 = true then
    some (⟨3, x3⟩ : SCodeIndex)
  else
    (gadd x3 1).bind fun x6 =>
    lp1 x6
def bom_Validate_l1 (n : Nat) (a0 : List SPathDigest) : Nat → Int → Option SCodeIndex
  | 0, _ => none
  | m1 + 1, x3 =>
    if (decide (x3 < (a0.length : Int))) = true then
      (gidx a0 x3).bind fun e4 =>
      if (decide (e4.Digest ≠ (-1))) = true then
        (signing_IsDigest n e4.Digest).bind fun r7 =>
        bom_Validate_j2 n x3 (bom_Validate_l1 n a0 m1) (!r7)
      else
        bom_Validate_j2 n x3 (bom_Validate_l1 n a0 m1) false
    else
      some (⟨0, 0⟩ : SCodeIndex)
def bom_Validate_j1 (n : Nat) (a0 : List SPathDigest) (b1 : Int) (b2 : Int) : Option SCodeIndex :=
  if ((b1 == 0 && (b2 == 0 && true)) != true) = true then
    some (⟨b1, b2⟩ : SCodeIndex)
  else
    bom_Validate_l1 n a0 n 0
def bom_Validate_j4 (n : Nat) (a0 : List SPathDigest) (x8 : Int) (lp2 : Int → Option SCodeIndex) (x11 : Bool) : Option SCodeIndex :=
  if x11 = true then
    bom_Validate_j1 n a0 5 x8
  else
    (gadd x8 1).bind fun x12 =>
    lp2 x12
def bom_Validate_j6 (n : Nat) (a0 : List SPathDigest) (x8 : Int) (lp2 : Int → Option SCodeIndex) (x13 : List UInt8) (x15 : List UInt8) : Option SCodeIndex :=
  bom_Validate_j4 n a0 x8 lp2 (Op.bytesLess x13 x15 || x13 == x15)
def bom_Validate_j5 (n : Nat) (a0 : List SPathDigest) (x8 : Int) (lp2 : Int → Option SCodeIndex) (x13 : List UInt8) : Option SCodeIndex :=
  (gsub x8 1).bind fun x14 =>
  (gidx a0 x14).bind fun e16 =>
  bom_Validate_j6 n a0 x8 lp2 x13 e16.Path
def bom_Validate_j3 (n : Nat) (a0 : List SPathDigest) (x8 : Int) (lp2 : Int → Option SCodeIndex) (x9 : List UInt8) : Option SCodeIndex :=
  (treepatch_ValidPath n x9).bind fun r10 =>
  if (!r10) = true then
    bom_Validate_j1 n a0 12 x8
  else
    if (decide (0 < x8)) = true then
      (gidx a0 x8).bind fun e17 =>
      bom_Validate_j5 n a0 x8 lp2 e17.Path
    else
      bom_Validate_j4 n a0 x8 lp2 false
def bom_Validate_l2 (n : Nat) (a0 : List SPathDigest) : Nat → Int → Option SCodeIndex
  | 0, _ => none
  | m2 + 1, x8 =>
    if (decide (x8 < (a0.length : Int))) = true then
      (gidx a0 x8).bind fun e18 =>
      bom_Validate_j3 n a0 x8 (bom_Validate_l2 n a0 m2) e18.Path
    else
      bom_Validate_j1 n a0 0 0
def bom_Validate (n : Nat) (a0 : List SPathDigest) : Option SCodeIndex :=
  if (decide (24 < (a0.length : Int))) = true then
    bom_Validate_j1 n a0 2 (-1)
  else
    bom_Validate_l2 n a0 n 0
def bom_describe (n : Nat) (a0 : SFiles) (a1 : List UInt8) : Option Int :=
  (treepatch_Find n a0.Files a1).bind fun r1 =>
  if (!r1.2) = true then
    some (-1)
  else
    (gidx a0.Files r1.1).bind fun e2 =>
    (digest_Strings n e2.Lines).bind fun r3 =>
    some r3.1
def bom_Check_j1 (n : Nat) (x4 : Int) (lp1 : (List Int) → Int → Option ((List Int) × SCodeIndex)) (w5 : List Int) : Option ((List Int) × SCodeIndex) :=
  (gadd x4 1).bind fun x6 =>
  lp1 w5 x6
def bom_Check_l1 (n : Nat) (a0 : List SPathDigest) (a1 : SFiles) : Nat → List Int → Int → Option ((List Int) × SCodeIndex)
  | 0, _, _ => none
  | m1 + 1, w3, x4 =>
    if (decide (x4 < (a0.length : Int))) = true then
      (gidx a0 x4).bind fun e7 =>
      (bom_describe n a1 e7.Path).bind fun r8 =>
      if (decide (e7.Digest ≠ r8)) = true then
        (gapp 8 w3 ([x4] : List Int)).bind fun w9 =>
        bom_Check_j1 n x4 (bom_Check_l1 n a0 a1 m1) w9
      else
        bom_Check_j1 n x4 (bom_Check_l1 n a0 a1 m1) w3
    else
      some (w3, (⟨0, 0⟩ : SCodeIndex))
def bom_Check (n : Nat) (a0 : List SPathDigest) (a1 : SFiles) : Option ((List Int) × SCodeIndex) :=
  (bom_Validate n a0).bind fun r1 =>
  if ((r1.Code == 0 && (r1.Index == 0 && true)) != true) = true then
    some (([] : List Int), r1)
  else
    (treepatch_Second n a1 (-2)).bind fun r2 =>
    if ((r2.Code == 0 && (r2.Index == 0 && true)) != true) = true then
      some (([] : List Int), r2)
    else
      bom_Check_l1 n a0 a1 n ([] : List Int) 0
def ref5_Ints_l1 (n : Nat) (a0 : List Int) (a1 : List Int) : Nat → Int → Option Bool
  | 0, _ => none
  | m1 + 1, x1 =>
    if (decide (x1 < (a0.length : Int))) = true then
      (gidx a0 x1).bind fun e2 =>
      (gidx a1 x1).bind fun e3 =>
      if (decide (e2 ≠ e3)) = true then
        some false
      else
        (gadd x1 1).bind fun x4 =>
        (ref5_Ints_l1 n a0 a1 m1) x4
    else
      some true
def ref5_Ints (n : Nat) (a0 : List Int) (a1 : List Int) : Option Bool :=
  if (decide ((a0.length : Int) ≠ (a1.length : Int))) = true then
    some false
  else
    ref5_Ints_l1 n a0 a1 n 0
def bom_Make_l1 (n : Nat) (a0 : List (List UInt8)) (a1 : SFiles) : Nat → List SPathDigest → Int → Option ((List SPathDigest) × SCodeIndex)
  | 0, _, _ => none
  | m1 + 1, w4, x5 =>
    if (decide (x5 < (a0.length : Int))) = true then
      (gidx a0 x5).bind fun e6 =>
      (bom_describe n a1 e6).bind fun r7 =>
      (gapp 24 w4 ([(⟨e6, r7⟩ : SPathDigest)] : List SPathDigest)).bind fun w8 =>
      (gadd x5 1).bind fun x9 =>
      (bom_Make_l1 n a0 a1 m1) w8 x9
    else
      some (w4, (⟨0, 0⟩ : SCodeIndex))
def bom_Make_j1 (n : Nat) (a0 : List (List UInt8)) (a1 : SFiles) (b1 : Int) (b2 : Int) : Option ((List SPathDigest) × SCodeIndex) :=
  if ((b1 == 0 && (b2 == 0 && true)) != true) = true then
    some (([] : List SPathDigest), (⟨b1, b2⟩ : SCodeIndex))
  else
    (treepatch_Second n a1 (-2)).bind fun r3 =>
    if ((r3.Code == 0 && (r3.Index == 0 && true)) != true) = true then
      some (([] : List SPathDigest), r3)
    else
      bom_Make_l1 n a0 a1 n ([] : List SPathDigest) 0
def bom_Make_j3 (n : Nat) (a0 : List (List UInt8)) (a1 : SFiles) (x10 : Int) (lp2 : Int → Option ((List SPathDigest) × SCodeIndex)) (x13 : Bool) : Option ((List SPathDigest) × SCodeIndex) :=
  if x13 = true then
    bom_Make_j1 n a0 a1 5 x10
  else
    (gadd x10 1).bind fun x14 =>
    lp2 x14
def bom_Make_j5 (n : Nat) (a0 : List (List UInt8)) (a1 : SFiles) (x10 : Int) (lp2 : Int → Option ((List SPathDigest) × SCodeIndex)) (x15 : List UInt8) (x17 : List UInt8) : Option ((List SPathDigest) × SCodeIndex) :=
  bom_Make_j3 n a0 a1 x10 lp2 (Op.bytesLess x15 x17 || x15 == x17)
def bom_Make_j4 (n : Nat) (a0 : List (List UInt8)) (a1 : SFiles) (x10 : Int) (lp2 : Int → Option ((List SPathDigest) × SCodeIndex)) (x15 : List UInt8) : Option ((List SPathDigest) × SCodeIndex) :=
  (gsub x10 1).bind fun x16 =>
  (gidx a0 x16).bind fun e18 =>
  bom_Make_j5 n a0 a1 x10 lp2 x15 e18
def bom_Make_j2 (n : Nat) (a0 : List (List UInt8)) (a1 : SFiles) (x10 : Int) (lp2 : Int → Option ((List SPathDigest) × SCodeIndex)) (x11 : List UInt8) : Option ((List SPathDigest) × SCodeIndex) :=
  (treepatch_ValidPath n x11).bind fun r12 =>
  if (!r12) = true then
    bom_Make_j1 n a0 a1 12 x10
  else
    if (decide (0 < x10)) = true then
      (gidx a0 x10).bind fun e19 =>
      bom_Make_j4 n a0 a1 x10 lp2 e19
    else
      bom_Make_j3 n a0 a1 x10 lp2 false
def bom_Make_l2 (n : Nat) (a0 : List (List UInt8)) (a1 : SFiles) : Nat → Int → Option ((List SPathDigest) × SCodeIndex)
  | 0, _ => none
  | m2 + 1, x10 =>
    if (decide (x10 < (a0.length : Int))) = true then
      (gidx a0 x10).bind fun e20 =>
      bom_Make_j2 n a0 a1 x10 (bom_Make_l2 n a0 a1 m2) e20
    else
      bom_Make_j1 n a0 a1 0 0
def bom_Make (n : Nat) (a0 : List (List UInt8)) (a1 : SFiles) : Option ((List SPathDigest) × SCodeIndex) :=
  if (decide (24 < (a0.length : Int))) = true then
    bom_Make_j1 n a0 a1 2 (-1)
  else
    bom_Make_l2 n a0 a1 n 0
def ref6_SameBom_l1 (n : Nat) (a0 : List SPathDigest) (a1 : List SPathDigest) : Nat → Int → Option Bool
  | 0, _ => none
  | m1 + 1, x1 =>
    if (decide (x1 < (a0.length : Int))) = true then
      (gidx a0 x1).bind fun e2 =>
      (gidx a1 x1).bind fun e3 =>
      if ((e2.Path == e3.Path && (e2.Digest == e3.Digest && true)) != true) = true then
        some false
      else
        (gadd x1 1).bind fun x4 =>
        (ref6_SameBom_l1 n a0 a1 m1) x4
    else
      some true
def ref6_SameBom (n : Nat) (a0 : List SPathDigest) (a1 : List SPathDigest) : Option Bool :=
  if (decide ((a0.length : Int) ≠ (a1.length : Int))) = true then
    some false
  else
    ref6_SameBom_l1 n a0 a1 n 0
def bom_Merge_j3 (n : Nat) (x6 : Int) (lp1 : Int → Option ((List SPathDigest) × Bool × SCodeIndex)) (x7 : Bool) : Option ((List SPathDigest) × Bool × SCodeIndex) :=
  if x7 = true then
    some (([] : List SPathDigest), false, (⟨0, 0⟩ : SCodeIndex))
  else
    (gadd x6 1).bind fun x8 =>
    lp1 x8
def bom_Merge_l1 (n : Nat) (x4 : List SPathDigest) : Nat → Int → Option ((List SPathDigest) × Bool × SCodeIndex)
  | 0, _ => none
  | m1 + 1, x6 =>
    if (decide (x6 < (x4.length : Int))) = true then
      if (decide (0 < x6)) = true then
        (gidx x4 x6).bind fun e9 =>
        (gsub x6 1).bind fun x10 =>
        (gidx x4 x10).bind fun e11 =>
        bom_Merge_j3 n x6 (bom_Merge_l1 n x4 m1) (decide (e9.Path = e11.Path))
      else
        bom_Merge_j3 n x6 (bom_Merge_l1 n x4 m1) false
    else
      if (decide (24 < (x4.length : Int))) = true then
        some (([] : List SPathDigest), false, (⟨10, (-3)⟩ : SCodeIndex))
      else
        some (x4, true, (⟨0, 0⟩ : SCodeIndex))
def bom_Merge_j2 (n : Nat) (x4 : List SPathDigest) (x5 : List SPathDigest) : Option ((List SPathDigest) × Bool × SCodeIndex) :=
  bom_Merge_l1 n x4 n 0
def bom_Merge_j4 (n : Nat) (x19 : Int) (lp3 : (List SPathDigest) → Int → Int → Option ((List SPathDigest) × Bool × SCodeIndex)) (w21 : List SPathDigest) (x22 : Int) : Option ((List SPathDigest) × Bool × SCodeIndex) :=
  (gadd x19 1).bind fun x23 =>
  lp3 w21 x22 x23
def bom_Merge_l3 (n : Nat) (w3 : List SPathDigest) (x12 : Int) : Nat → List SPathDigest → Int → Int → Option ((List SPathDigest) × Bool × SCodeIndex)
  | 0, _, _, _ => none
  | m3 + 1, w17, x18, x19 =>
    (gcut w17 x12 ((sortPath w3).length : Int)).bind fun s20 =>
    if (decide (x19 < (s20.length : Int))) = true then
      (gidx s20 x19).bind fun e24 =>
      (gidx w17 (x12 + x19)).bind fun e25 =>
      (gsub x19 1).bind fun x26 =>
      (gidx s20 x26).bind fun e27 =>
      (gidx w17 (x12 + x26)).bind fun e28 =>
      if ((e25.Path == e28.Path && (e25.Digest == e28.Digest && true)) != true) = true then
        (gidx w17 x18).bind fun e29 =>
        (gadd x18 1).bind fun x30 =>
        bom_Merge_j4 n x19 (bom_Merge_l3 n w3 x12 m3) (gset w17 x18 e25) x30
      else
        bom_Merge_j4 n x19 (bom_Merge_l3 n w3 x12 m3) w17 x18
    else
      (gcut w17 x18 (w17.length : Int)).bind fun s31 =>
      (gcut (gclear w17 x18.toNat (w17.length : Int).toNat (⟨([] : List UInt8), 0⟩ : SPathDigest)) 0 x18).bind fun s32 =>
      bom_Merge_j2 n s32 (gclear w17 x18.toNat (w17.length : Int).toNat (⟨([] : List UInt8), 0⟩ : SPathDigest))
def bom_Merge_l2 (n : Nat) (w3 : List SPathDigest) : Nat → Int → Option ((List SPathDigest) × Bool × SCodeIndex)
  | 0, _ => none
  | m2 + 1, x12 =>
    if (decide (x12 < ((sortPath w3).length : Int))) = true then
      (gidx (sortPath w3) x12).bind fun e13 =>
      (gsub x12 1).bind fun x14 =>
      (gidx (sortPath w3) x14).bind fun e15 =>
      if ((e13.Path == e15.Path && (e13.Digest == e15.Digest && true)) != false) = true then
        (gcut (sortPath w3) x12 ((sortPath w3).length : Int)).bind fun s16 =>
        bom_Merge_l3 n w3 x12 n (sortPath w3) x12 1
      else
        (gadd x12 1).bind fun x33 =>
        (bom_Merge_l2 n w3 m2) x33
    else
      bom_Merge_j2 n (sortPath w3) (sortPath w3)
def bom_Merge_j1 (n : Nat) (w3 : List SPathDigest) : Option ((List SPathDigest) × Bool × SCodeIndex) :=
  if (decide (((sortPath w3).length : Int) < 2)) = true then
    bom_Merge_j2 n (sortPath w3) (sortPath w3)
  else
    bom_Merge_l2 n w3 n 1
def bom_Merge_l5 (n : Nat) (a0 : List SPathDigest) (a1 : List SPathDigest) : Nat → List SPathDigest → Int → Option ((List SPathDigest) × Bool × SCodeIndex)
  | 0, _, _ => none
  | m5 + 1, w40, x41 =>
    if (decide (x41 < (([a0, a1] : List (List SPathDigest)).length : Int))) = true then
      (gidx ([a0, a1] : List (List SPathDigest)) x41).bind fun e42 =>
      (gapp 24 w40 e42).bind fun w43 =>
      (gadd x41 1).bind fun x44 =>
      (bom_Merge_l5 n a0 a1 m5) w43 x44
    else
      bom_Merge_j1 n w40
def bom_Merge_l4 (n : Nat) (a0 : List SPathDigest) (a1 : List SPathDigest) : Nat → Int → Int → Option ((List SPathDigest) × Bool × SCodeIndex)
  | 0, _, _ => none
  | m4 + 1, x34, x35 =>
    if (decide (x35 < (([a0, a1] : List (List SPathDigest)).length : Int))) = true then
      (gidx ([a0, a1] : List (List SPathDigest)) x35).bind fun e36 =>
      (gadd x34 (e36.length : Int)).bind fun x37 =>
      if (decide (x37 < 0)) = true then
        none
      else
        (gadd x35 1).bind fun x38 =>
        (bom_Merge_l4 n a0 a1 m4) x37 x38
    else
      (ggrow 24 x34).bind fun u39 =>
      bom_Merge_l5 n a0 a1 n ([] : List SPathDigest) 0
def bom_Merge (n : Nat) (a0 : List SPathDigest) (a1 : List SPathDigest) : Option ((List SPathDigest) × Bool × SCodeIndex) :=
  (bom_Validate n a0).bind fun r1 =>
  if ((r1.Code == 0 && (r1.Index == 0 && true)) != true) = true then
    some (([] : List SPathDigest), false, r1)
  else
    (bom_Validate n a1).bind fun r2 =>
    if ((r2.Code == 0 && (r2.Index == 0 && true)) != true) = true then
      some (([] : List SPathDigest), false, (⟨r2.Code, (-2)⟩ : SCodeIndex))
    else
      bom_Merge_l4 n a0 a1 n 0 0
def law6_bills_j2 (n : Nat) (x8 : Bool) : Option Bool :=
  some x8
def law6_bills_j1 (n : Nat) (r2 : ((List SPathDigest) × SCodeIndex)) (r4 : ((List Int) × SCodeIndex)) (r5 : ((List Int) × SCodeIndex)) (r6 : ((List SPathDigest) × Bool × SCodeIndex)) (x7 : Bool) : Option Bool :=
  if x7 = true then
    if (decide ((r2.1.length : Int) = 2)) = true then
      (gidx r2.1 0).bind fun e9 =>
      (gidx r2.1 1).bind fun e10 =>
      if ((e9.Path == e10.Path && (e9.Digest == e10.Digest && true)) != true) = true then
        if (decide (e10.Digest = (-1))) = true then
          if (decide ((r4.1.length : Int) = 0)) = true then
            (ref5_Ints n r5.1 ([0] : List Int)).bind fun r11 =>
            if r11 = true then
              (ref6_SameBom n r6.1 r2.1).bind fun r12 =>
              if r12 = true then
                (bom_Validate n ([(⟨([97] : List UInt8), (-2)⟩ : SPathDigest)] : List SPathDigest)).bind fun r13 =>
                (law6_fault n 3 0).bind fun r14 =>
                law6_bills_j2 n ((r13.Code == r14.Code && (r13.Index == r14.Index && true)) != false)
              else
                law6_bills_j2 n false
            else
              law6_bills_j2 n false
          else
            law6_bills_j2 n false
        else
          law6_bills_j2 n false
      else
        law6_bills_j2 n false
    else
      law6_bills_j2 n false
  else
    law6_bills_j2 n false
def law6_bills (n : Nat) : Option Bool :=
  (law6_files n).bind fun r1 =>
  (bom_Make n ([([97] : List UInt8), ([98] : List UInt8)] : List (List UInt8)) r1).bind fun r2 =>
  (law6_files n).bind fun r3 =>
  (bom_Check n r2.1 r3).bind fun r4 =>
  (bom_Check n r2.1 (⟨([] : List SPathLines)⟩ : SFiles)).bind fun r5 =>
  (bom_Merge n r2.1 r2.1).bind fun r6 =>
  if (decide (r2.2.Code = 0)) = true then
    if (decide (r4.2.Code = 0)) = true then
      if (decide (r5.2.Code = 0)) = true then
        if (decide (r6.2.2.Code = 0)) = true then
          law6_bills_j1 n r2 r4 r5 r6 r6.2.1
        else
          law6_bills_j1 n r2 r4 r5 r6 false
      else
        law6_bills_j1 n r2 r4 r5 r6 false
    else
      law6_bills_j1 n r2 r4 r5 r6 false
  else
    law6_bills_j1 n r2 r4 r5 r6 false
def ref6_FileSum (n : Nat) (a0 : SFiles) (a1 : List UInt8) : Option Int :=
  (ref6_FileIn n a0 a1).bind fun r1 =>
  if (!r1.2) = true then
    some (-1)
  else
    (ref6_stringsSum n r1.1).bind fun r2 =>
    some r2
def ref6_Wrong_j1 (n : Nat) (x2 : Int) (lp1 : (List Int) → Int → Option (List Int)) (w3 : List Int) : Option (List Int) :=
  (gadd x2 1).bind fun x4 =>
  lp1 w3 x4
def ref6_Wrong_l1 (n : Nat) (a0 : List SPathDigest) (a1 : SFiles) : Nat → List Int → Int → Option (List Int)
  | 0, _, _ => none
  | m1 + 1, w1, x2 =>
    if (decide (x2 < (a0.length : Int))) = true then
      (gidx a0 x2).bind fun e5 =>
      (ref6_FileSum n a1 e5.Path).bind fun r6 =>
      if (decide (r6 ≠ e5.Digest)) = true then
        (gapp 8 w1 ([x2] : List Int)).bind fun w7 =>
        ref6_Wrong_j1 n x2 (ref6_Wrong_l1 n a0 a1 m1) w7
      else
        ref6_Wrong_j1 n x2 (ref6_Wrong_l1 n a0 a1 m1) w1
    else
      some w1
def ref6_Wrong (n : Nat) (a0 : List SPathDigest) (a1 : SFiles) : Option (List Int) :=
  ref6_Wrong_l1 n a0 a1 n ([] : List Int) 0
def law6_BomMatchesSpec_j3 (n : Nat) (x6 : Bool) : Option Bool :=
  some x6
def law6_BomMatchesSpec_j2 (n : Nat) (a0 : List SPathDigest) (a1 : SFiles) (b3 : Int) (b4 : Int) : Option Bool :=
  (bom_Check n a0 a1).bind fun r5 =>
  if ((r5.2.Code == b3 && (r5.2.Index == b4 && true)) != false) = true then
    if (decide (b3 ≠ 0)) = true then
      if (decide ((r5.1.length : Int) = 0)) = true then
        law6_BomMatchesSpec_j3 n true
      else
        if (decide (b3 = 0)) = true then
          (ref6_Wrong n a0 a1).bind fun r7 =>
          (ref5_Ints n r5.1 r7).bind fun r8 =>
          law6_BomMatchesSpec_j3 n r8
        else
          law6_BomMatchesSpec_j3 n false
    else
      if (decide (b3 = 0)) = true then
        (ref6_Wrong n a0 a1).bind fun r9 =>
        (ref5_Ints n r5.1 r9).bind fun r10 =>
        law6_BomMatchesSpec_j3 n r10
      else
        law6_BomMatchesSpec_j3 n false
  else
    law6_BomMatchesSpec_j3 n false
def law6_BomMatchesSpec_j1 (n : Nat) (a0 : List SPathDigest) (a1 : SFiles) (r1 : SCodeIndex) (x2 : Bool) : Option Bool :=
  if x2 = true then
    some false
  else
    if (decide (r1.Code = 0)) = true then
      (ref6_TreeAt n a1 (-2)).bind fun r11 =>
      law6_BomMatchesSpec_j2 n a0 a1 r11.Code r11.Index
    else
      law6_BomMatchesSpec_j2 n a0 a1 r1.Code r1.Index
def law6_BomMatchesSpec (n : Nat) (a0 : List SPathDigest) (a1 : SFiles) : Option Bool :=
  (ref6_BomFault n a0).bind fun r1 =>
  (law6_bills n).bind fun r12 =>
  if (!r12) = true then
    law6_BomMatchesSpec_j1 n a0 a1 r1 true
  else
    (bom_Validate n a0).bind fun r13 =>
    law6_BomMatchesSpec_j1 n a0 a1 r1 ((r13.Code == r1.Code && (r13.Index == r1.Index && true)) != true)
def ref6_Billed_l1 (n : Nat) (a0 : List (List UInt8)) (a1 : SFiles) : Nat → List SPathDigest → Int → Option (List SPathDigest)
  | 0, _, _ => none
  | m1 + 1, w1, x2 =>
    if (decide (x2 < (a0.length : Int))) = true then
      (gidx a0 x2).bind fun e3 =>
      (ref6_FileSum n a1 e3).bind fun r4 =>
      (gapp 24 w1 ([(⟨e3, r4⟩ : SPathDigest)] : List SPathDigest)).bind fun w5 =>
      (gadd x2 1).bind fun x6 =>
      (ref6_Billed_l1 n a0 a1 m1) w5 x6
    else
      some w1
def ref6_Billed (n : Nat) (a0 : List (List UInt8)) (a1 : SFiles) : Option (List SPathDigest) :=
  ref6_Billed_l1 n a0 a1 n ([] : List SPathDigest) 0
def law6_BomMakeMatchesSpec_j2 (n : Nat) (x5 : Bool) : Option Bool :=
  some x5
def law6_BomMakeMatchesSpec_j1 (n : Nat) (a0 : List (List UInt8)) (a1 : SFiles) (b2 : Int) (b3 : Int) : Option Bool :=
  (bom_Make n a0 a1).bind fun r4 =>
  (law6_bills n).bind fun r6 =>
  if r6 = true then
    if ((r4.2.Code == b2 && (r4.2.Index == b3 && true)) != false) = true then
      if (decide (b2 ≠ 0)) = true then
        if (decide ((r4.1.length : Int) = 0)) = true then
          law6_BomMakeMatchesSpec_j2 n true
        else
          if (decide (b2 = 0)) = true then
            (ref6_Billed n a0 a1).bind fun r7 =>
            (ref6_SameBom n r4.1 r7).bind fun r8 =>
            law6_BomMakeMatchesSpec_j2 n r8
          else
            law6_BomMakeMatchesSpec_j2 n false
      else
        if (decide (b2 = 0)) = true then
          (ref6_Billed n a0 a1).bind fun r9 =>
          (ref6_SameBom n r4.1 r9).bind fun r10 =>
          law6_BomMakeMatchesSpec_j2 n r10
        else
          law6_BomMakeMatchesSpec_j2 n false
    else
      law6_BomMakeMatchesSpec_j2 n false
  else
    law6_BomMakeMatchesSpec_j2 n false
def law6_BomMakeMatchesSpec (n : Nat) (a0 : List (List UInt8)) (a1 : SFiles) : Option Bool :=
  (ref6_PathsFault n a0).bind fun r1 =>
  if (decide (r1.Code = 0)) = true then
    (ref6_TreeAt n a1 (-2)).bind fun r11 =>
    law6_BomMakeMatchesSpec_j1 n a0 a1 r11.Code r11.Index
  else
    law6_BomMakeMatchesSpec_j1 n a0 a1 r1.Code r1.Index
def ref6_Merged_j1 (n : Nat) (w1 : List SPathDigest) : Option ((List SPathDigest) × Bool) :=
  some (w1, true)
def ref6_Merged_j4 (n : Nat) (a0 : List SPathDigest) (a1 : List SPathDigest) (w2 : List SPathDigest) (x3 : Int) (x4 : Int) (lp1 : (List SPathDigest) → Int → Int → Option ((List SPathDigest) × Bool)) (x10 : Bool) : Option ((List SPathDigest) × Bool) :=
  if x10 = true then
    (gidx a0 x3).bind fun e11 =>
    (gapp 24 w2 ([e11] : List SPathDigest)).bind fun w12 =>
    (gadd x3 1).bind fun x13 =>
    lp1 w12 x13 x4
  else
    (gidx a0 x3).bind fun e14 =>
    (gidx a1 x4).bind fun e15 =>
    if (decide (e14.Digest ≠ e15.Digest)) = true then
      some (([] : List SPathDigest), false)
    else
      (gapp 24 w2 ([e14] : List SPathDigest)).bind fun w16 =>
      (gadd x3 1).bind fun x17 =>
      (gadd x4 1).bind fun x18 =>
      lp1 w16 x17 x18
def ref6_Merged_j3 (n : Nat) (a0 : List SPathDigest) (a1 : List SPathDigest) (w2 : List SPathDigest) (x3 : Int) (x4 : Int) (lp1 : (List SPathDigest) → Int → Int → Option ((List SPathDigest) × Bool)) (x6 : Bool) : Option ((List SPathDigest) × Bool) :=
  if x6 = true then
    (gidx a1 x4).bind fun e7 =>
    (gapp 24 w2 ([e7] : List SPathDigest)).bind fun w8 =>
    (gadd x4 1).bind fun x9 =>
    lp1 w8 x3 x9
  else
    if (decide (x4 = (a1.length : Int))) = true then
      ref6_Merged_j4 n a0 a1 w2 x3 x4 lp1 true
    else
      (gidx a0 x3).bind fun e19 =>
      (gidx a1 x4).bind fun e20 =>
      ref6_Merged_j4 n a0 a1 w2 x3 x4 lp1 (Op.bytesLess e19.Path e20.Path)
def ref6_Merged_j2 (n : Nat) (a0 : List SPathDigest) (a1 : List SPathDigest) (w2 : List SPathDigest) (x3 : Int) (x4 : Int) (lp1 : (List SPathDigest) → Int → Int → Option ((List SPathDigest) × Bool)) (x5 : Bool) : Option ((List SPathDigest) × Bool) :=
  if x5 = true then
    if (decide (x3 = (a0.length : Int))) = true then
      ref6_Merged_j3 n a0 a1 w2 x3 x4 lp1 true
    else
      if (decide (x4 < (a1.length : Int))) = true then
        (gidx a1 x4).bind fun e21 =>
        (gidx a0 x3).bind fun e22 =>
        ref6_Merged_j3 n a0 a1 w2 x3 x4 lp1 (Op.bytesLess e21.Path e22.Path)
      else
        ref6_Merged_j3 n a0 a1 w2 x3 x4 lp1 false
  else
    ref6_Merged_j1 n w2
def ref6_Merged_l1 (n : Nat) (a0 : List SPathDigest) (a1 : List SPathDigest) : Nat → List SPathDigest → Int → Int → Option ((List SPathDigest) × Bool)
  | 0, _, _, _ => none
  | m1 + 1, w2, x3, x4 =>
    if (decide (x3 < (a0.length : Int))) = true then
      ref6_Merged_j2 n a0 a1 w2 x3 x4 (ref6_Merged_l1 n a0 a1 m1) true
    else
      ref6_Merged_j2 n a0 a1 w2 x3 x4 (ref6_Merged_l1 n a0 a1 m1) (decide (x4 < (a1.length : Int)))
def ref6_Merged (n : Nat) (a0 : List SPathDigest) (a1 : List SPathDigest) : Option ((List SPathDigest) × Bool) :=
  ref6_Merged_l1 n a0 a1 n ([] : List SPathDigest) 0 0
def law6_BomMergeMatchesSpec_j4 (n : Nat) (x10 : Bool) : Option Bool :=
  some x10
def law6_BomMergeMatchesSpec_j3 (n : Nat) (a0 : List SPathDigest) (a1 : List SPathDigest) (x4 : List SPathDigest) (b6 : Int) (b7 : Int) (x8 : Bool) : Option Bool :=
  (bom_Merge n a0 a1).bind fun r9 =>
  (law6_bills n).bind fun r11 =>
  if r11 = true then
    if ((r9.2.2.Code == b6 && (r9.2.2.Index == b7 && true)) != false) = true then
      if (r9.2.1 == x8) = true then
        if (!x8) = true then
          if (decide ((r9.1.length : Int) = 0)) = true then
            law6_BomMergeMatchesSpec_j4 n true
          else
            if x8 = true then
              (ref6_SameBom n r9.1 x4).bind fun r12 =>
              law6_BomMergeMatchesSpec_j4 n r12
            else
              law6_BomMergeMatchesSpec_j4 n false
        else
          if x8 = true then
            (ref6_SameBom n r9.1 x4).bind fun r13 =>
            law6_BomMergeMatchesSpec_j4 n r13
          else
            law6_BomMergeMatchesSpec_j4 n false
      else
        law6_BomMergeMatchesSpec_j4 n false
    else
      law6_BomMergeMatchesSpec_j4 n false
  else
    law6_BomMergeMatchesSpec_j4 n false
def law6_BomMergeMatchesSpec_j5 (n : Nat) (a0 : List SPathDigest) (a1 : List SPathDigest) (b2 : Int) (b3 : Int) (x4 : List SPathDigest) (x5 : Bool) (x14 : Bool) : Option Bool :=
  if x14 = true then
    (law6_fault n 10 (-3)).bind fun r15 =>
    law6_BomMergeMatchesSpec_j3 n a0 a1 x4 r15.Code r15.Index false
  else
    law6_BomMergeMatchesSpec_j3 n a0 a1 x4 b2 b3 x5
def law6_BomMergeMatchesSpec_j2 (n : Nat) (a0 : List SPathDigest) (a1 : List SPathDigest) (b2 : Int) (b3 : Int) (x4 : List SPathDigest) (x5 : Bool) : Option Bool :=
  if x5 = true then
    law6_BomMergeMatchesSpec_j5 n a0 a1 b2 b3 x4 x5 (decide (24 < (x4.length : Int)))
  else
    law6_BomMergeMatchesSpec_j5 n a0 a1 b2 b3 x4 x5 false
def law6_BomMergeMatchesSpec_j1 (n : Nat) (a0 : List SPathDigest) (a1 : List SPathDigest) (b2 : Int) (b3 : Int) : Option Bool :=
  if (decide (b2 = 0)) = true then
    (ref6_Merged n a0 a1).bind fun r16 =>
    law6_BomMergeMatchesSpec_j2 n a0 a1 b2 b3 r16.1 r16.2
  else
    law6_BomMergeMatchesSpec_j2 n a0 a1 b2 b3 ([] : List SPathDigest) false
def law6_BomMergeMatchesSpec_j6 (n : Nat) (a0 : List SPathDigest) (a1 : List SPathDigest) (r1 : SCodeIndex) (x17 : Bool) : Option Bool :=
  if x17 = true then
    (ref6_BomFault n a1).bind fun r18 =>
    (law6_fault n r18.Code (-2)).bind fun r19 =>
    law6_BomMergeMatchesSpec_j1 n a0 a1 r19.Code r19.Index
  else
    law6_BomMergeMatchesSpec_j1 n a0 a1 r1.Code r1.Index
def law6_BomMergeMatchesSpec (n : Nat) (a0 : List SPathDigest) (a1 : List SPathDigest) : Option Bool :=
  (ref6_BomFault n a0).bind fun r1 =>
  if (decide (r1.Code = 0)) = true then
    (ref6_BomFault n a1).bind fun r20 =>
    law6_BomMergeMatchesSpec_j6 n a0 a1 r1 (decide (r20.Code ≠ 0))
  else
    law6_BomMergeMatchesSpec_j6 n a0 a1 r1 false
def law6_BomMadeDescribesItsTree_j2 (n : Nat) (x3 : Bool) : Option Bool :=
  some x3
def law6_BomMadeDescribesItsTree_j4 (n : Nat) (x9 : Bool) : Option Bool :=
  some x9
def law6_BomMadeDescribesItsTree_j3 (n : Nat) (r1 : ((List SPathDigest) × SCodeIndex)) (r6 : ((List SPathDigest) × SCodeIndex)) (r7 : ((List Int) × SCodeIndex)) (x8 : Bool) : Option Bool :=
  if x8 = true then
    some false
  else
    if (decide (r6.2.Code ≠ 0)) = true then
      law6_BomMadeDescribesItsTree_j4 n true
    else
      (ref6_SameBom n r1.1 r6.1).bind fun r10 =>
      law6_BomMadeDescribesItsTree_j4 n ((decide ((r7.1.length : Int) = 0)) == r10)
def law6_BomMadeDescribesItsTree_j1 (n : Nat) (a0 : List (List UInt8)) (a1 : SFiles) (a2 : SFiles) (r1 : ((List SPathDigest) × SCodeIndex)) (x2 : Bool) : Option Bool :=
  if x2 = true then
    (law6_bills n).bind fun r4 =>
    if r4 = true then
      law6_BomMadeDescribesItsTree_j2 n (decide ((r1.1.length : Int) = 0))
    else
      law6_BomMadeDescribesItsTree_j2 n false
  else
    (bom_Check n r1.1 a1).bind fun r5 =>
    (bom_Make n a0 a2).bind fun r6 =>
    (bom_Check n r1.1 a2).bind fun r7 =>
    if (decide (r5.2.Code ≠ 0)) = true then
      law6_BomMadeDescribesItsTree_j3 n r1 r6 r7 true
    else
      if (decide (0 < (r5.1.length : Int))) = true then
        law6_BomMadeDescribesItsTree_j3 n r1 r6 r7 true
      else
        law6_BomMadeDescribesItsTree_j3 n r1 r6 r7 ((r6.2.Code == r7.2.Code && (r6.2.Index == r7.2.Index && true)) != true)
def law6_BomMadeDescribesItsTree (n : Nat) (a0 : List (List UInt8)) (a1 : SFiles) (a2 : SFiles) : Option Bool :=
  (bom_Make n a0 a1).bind fun r1 =>
  (law6_bills n).bind fun r11 =>
  if (!r11) = true then
    law6_BomMadeDescribesItsTree_j1 n a0 a1 a2 r1 true
  else
    law6_BomMadeDescribesItsTree_j1 n a0 a1 a2 r1 (decide (r1.2.Code ≠ 0))
def law6_BomMergedDescribesBoth_j3 (n : Nat) (x8 : Bool) : Option Bool :=
  some x8
def law6_BomMergedDescribesBoth_j4 (n : Nat) (x9 : Bool) : Option Bool :=
  some x9
def law6_BomMergedDescribesBoth_j5 (n : Nat) (x10 : Bool) : Option Bool :=
  some x10
def law6_BomMergedDescribesBoth_j2 (n : Nat) (r1 : ((List SPathDigest) × Bool × SCodeIndex)) (r4 : ((List Int) × SCodeIndex)) (r5 : ((List Int) × SCodeIndex)) (r6 : ((List Int) × SCodeIndex)) (x7 : Bool) : Option Bool :=
  if x7 = true then
    if (decide (r1.2.2.Code = 0)) = true then
      law6_BomMergedDescribesBoth_j3 n true
    else
      if (!r1.2.1) = true then
        law6_BomMergedDescribesBoth_j3 n (decide ((r1.1.length : Int) = 0))
      else
        law6_BomMergedDescribesBoth_j3 n false
  else
    if (!r1.2.1) = true then
      if (decide ((r1.1.length : Int) = 0)) = true then
        if (decide (0 < (r4.1.length : Int))) = true then
          law6_BomMergedDescribesBoth_j4 n true
        else
          law6_BomMergedDescribesBoth_j4 n (decide (0 < (r5.1.length : Int)))
      else
        law6_BomMergedDescribesBoth_j4 n false
    else
      if (decide (r6.2.Code = 0)) = true then
        if (decide ((r4.1.length : Int) = 0)) = true then
          law6_BomMergedDescribesBoth_j5 n ((decide ((r6.1.length : Int) = 0)) == (decide ((r5.1.length : Int) = 0)))
        else
          law6_BomMergedDescribesBoth_j5 n ((decide ((r6.1.length : Int) = 0)) == false)
      else
        law6_BomMergedDescribesBoth_j5 n false
def law6_BomMergedDescribesBoth_j1 (n : Nat) (a0 : List SPathDigest) (a1 : List SPathDigest) (a2 : SFiles) (r1 : ((List SPathDigest) × Bool × SCodeIndex)) (x3 : Bool) : Option Bool :=
  if x3 = true then
    some false
  else
    (bom_Check n a0 a2).bind fun r4 =>
    (bom_Check n a1 a2).bind fun r5 =>
    (bom_Check n r1.1 a2).bind fun r6 =>
    if (decide (r1.2.2.Code ≠ 0)) = true then
      law6_BomMergedDescribesBoth_j2 n r1 r4 r5 r6 true
    else
      if (decide (r4.2.Code ≠ 0)) = true then
        law6_BomMergedDescribesBoth_j2 n r1 r4 r5 r6 true
      else
        law6_BomMergedDescribesBoth_j2 n r1 r4 r5 r6 (decide (r5.2.Code ≠ 0))
def law6_BomMergedDescribesBoth (n : Nat) (a0 : List SPathDigest) (a1 : List SPathDigest) (a2 : SFiles) : Option Bool :=
  (bom_Merge n a0 a1).bind fun r1 =>
  (bom_Merge n a1 a0).bind fun r2 =>
  (law6_bills n).bind fun r11 =>
  if (!r11) = true then
    law6_BomMergedDescribesBoth_j1 n a0 a1 a2 r1 true
  else
    if ((decide (r1.2.2.Code = 0)) != (decide (r2.2.2.Code = 0))) = true then
      law6_BomMergedDescribesBoth_j1 n a0 a1 a2 r1 true
    else
      if (r1.2.1 != r2.2.1) = true then
        law6_BomMergedDescribesBoth_j1 n a0 a1 a2 r1 true
      else
        (ref6_SameBom n r1.1 r2.1).bind fun r12 =>
        law6_BomMergedDescribesBoth_j1 n a0 a1 a2 r1 (!r12)
def ref6_HasString_l1 (n : Nat) (a0 : List (List UInt8)) (a1 : List UInt8) : Nat → Int → Option Bool
  | 0, _ => none
  | m1 + 1, x1 =>
    if (decide (x1 < (a0.length : Int))) = true then
      (gidx a0 x1).bind fun e2 =>
      if (decide (e2 = a1)) = true then
        some true
      else
        (gadd x1 1).bind fun x3 =>
        (ref6_HasString_l1 n a0 a1 m1) x3
    else
      some false
def ref6_HasString (n : Nat) (a0 : List (List UInt8)) (a1 : List UInt8) : Option Bool :=
  ref6_HasString_l1 n a0 a1 n 0
def ref6_Restricted_j1 (n : Nat) (x2 : Int) (lp1 : (List SPathLines) → Int → Option SFiles) (w3 : List SPathLines) : Option SFiles :=
  (gadd x2 1).bind fun x4 =>
  lp1 w3 x4
def ref6_Restricted_l1 (n : Nat) (a0 : SFiles) (a1 : List (List UInt8)) : Nat → List SPathLines → Int → Option SFiles
  | 0, _, _ => none
  | m1 + 1, w1, x2 =>
    if (decide (x2 < (a0.Files.length : Int))) = true then
      (gidx a0.Files x2).bind fun e5 =>
      (ref6_HasString n a1 e5.Path).bind fun r6 =>
      if r6 = true then
        (gapp 40 w1 ([e5] : List SPathLines)).bind fun w7 =>
        ref6_Restricted_j1 n x2 (ref6_Restricted_l1 n a0 a1 m1) w7
      else
        ref6_Restricted_j1 n x2 (ref6_Restricted_l1 n a0 a1 m1) w1
    else
      some (⟨w1⟩ : SFiles)
def ref6_Restricted (n : Nat) (a0 : SFiles) (a1 : List (List UInt8)) : Option SFiles :=
  ref6_Restricted_l1 n a0 a1 n ([] : List SPathLines) 0
def law6_BomOtherFilesDoNotMatter_j2 (n : Nat) (x3 : Bool) : Option Bool :=
  some x3
def law6_BomOtherFilesDoNotMatter_j3 (n : Nat) (x7 : Bool) : Option Bool :=
  some x7
def law6_BomOtherFilesDoNotMatter_j1 (n : Nat) (a0 : List (List UInt8)) (a1 : SFiles) (r1 : ((List SPathDigest) × SCodeIndex)) (x2 : Bool) : Option Bool :=
  if x2 = true then
    (law6_bills n).bind fun r4 =>
    if r4 = true then
      law6_BomOtherFilesDoNotMatter_j2 n (decide ((r1.1.length : Int) = 0))
    else
      law6_BomOtherFilesDoNotMatter_j2 n false
  else
    (ref6_Restricted n a1 a0).bind fun r5 =>
    (bom_Make n a0 r5).bind fun r6 =>
    if (decide (r6.2.Code = 0)) = true then
      (ref6_SameBom n r1.1 r6.1).bind fun r8 =>
      law6_BomOtherFilesDoNotMatter_j3 n r8
    else
      law6_BomOtherFilesDoNotMatter_j3 n false
def law6_BomOtherFilesDoNotMatter (n : Nat) (a0 : List (List UInt8)) (a1 : SFiles) : Option Bool :=
  (bom_Make n a0 a1).bind fun r1 =>
  (law6_bills n).bind fun r9 =>
  if (!r9) = true then
    law6_BomOtherFilesDoNotMatter_j1 n a0 a1 r1 true
  else
    law6_BomOtherFilesDoNotMatter_j1 n a0 a1 r1 (decide (r1.2.Code ≠ 0))
end Go.Proofs.YtlkknmhhefjmjaaDoor
