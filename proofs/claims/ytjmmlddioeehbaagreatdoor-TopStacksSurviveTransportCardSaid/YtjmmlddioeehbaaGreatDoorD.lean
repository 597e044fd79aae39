/- The types of the functions, and what the functions compute: partial operations as options; n is the fuel of each loop. Laid by a program (wip/gen/dec.py). -/
import Derived.Test.YtjmmlddioeehbaaGreatDoorPwDec
import Derived.Test.YtjmmlddioeehbaaGreatDoorPwSplit
import Derived.Test.YtjmmlddioeehbaaGreatDoorPwEa
import Derived.Test.YtjmmlddioeehbaaGreatDoorPwStrconv
import Derived.Test.YtjmmlddioeehbaaGreatDoorPwShelf
import Derived.Test.YtjmmlddioeehbaaGreatDoorPwXa
namespace Go.Proofs.YtjmmlddioeehbaaGreatDoor
open Go.PW Go
set_option linter.unusedVariables false
structure SAtOldNew where
  At : Int
  Old : List (List UInt8)
  New : List (List UInt8)
  deriving DecidableEq
def SAtOldNew.cells (x : SAtOldNew) : List PV := [.int .i64 x.At, .list 1 (List.map cS x.Old), .list 1 (List.map cS x.New)]
structure SCodeIndex where
  Code : Int
  Index : Int
  deriving DecidableEq
def SCodeIndex.cells (x : SCodeIndex) : List PV := [.int .i64 x.Code, .int .i64 x.Index]
structure SHunks where
  Hunks : List SAtOldNew
  deriving DecidableEq
def SHunks.cells (x : SHunks) : List PV := [.list 3 (List.map SAtOldNew.cells x.Hunks)]
structure SKindPathToLinesPatch where
  Kind : Int
  Path : List UInt8
  To : List UInt8
  Lines : List (List UInt8)
  Patch : SHunks
  deriving DecidableEq
def SKindPathToLinesPatch.cells (x : SKindPathToLinesPatch) : List PV := [.int .i64 x.Kind, .str x.Path, .str x.To, .list 1 (List.map cS x.Lines), .list 3 (List.map SAtOldNew.cells x.Patch.Hunks)]
structure SChanges where
  Changes : List SKindPathToLinesPatch
  deriving DecidableEq
def SChanges.cells (x : SChanges) : List PV := [.list 5 (List.map SKindPathToLinesPatch.cells x.Changes)]
structure SPathLines where
  Path : List UInt8
  Lines : List (List UInt8)
  deriving DecidableEq
def SPathLines.cells (x : SPathLines) : List PV := [.str x.Path, .list 1 (List.map cS x.Lines)]
structure SFiles where
  Files : List SPathLines
  deriving DecidableEq
def SFiles.cells (x : SFiles) : List PV := [.list 2 (List.map SPathLines.cells x.Files)]
def textpatch_End (n : Nat) (a0 : SAtOldNew) : Option Int :=
  (gadd a0.At (a0.Old.length : Int)).bind fun x1 =>
  some x1
def strings_IndexByte (n : Nat) (a0 : List UInt8) (a1 : Int) : Option Int :=
  some (libIndexByte a0 a1)
def lines_Validate_l1 (n : Nat) (a0 : List (List UInt8)) : Nat → Int → Option SCodeIndex
  | 0, _ => none
  | m1 + 1, x1 =>
    if (decide (x1 < (a0.length : Int))) = true then
      (gidx a0 x1).bind fun e2 =>
      if (decide (80 < (e2.length : Int))) = true then
        some (⟨2, x1⟩ : SCodeIndex)
      else
        (strings_IndexByte n e2 10).bind fun r3 =>
        if (decide (0 ≤ r3)) = true then
          some (⟨5, x1⟩ : SCodeIndex)
        else
          (gadd x1 1).bind fun x4 =>
          (lines_Validate_l1 n a0 m1) x4
    else
      some (⟨0, 0⟩ : SCodeIndex)
def lines_Validate (n : Nat) (a0 : List (List UInt8)) : Option SCodeIndex :=
  if (decide (120 < (a0.length : Int))) = true then
    some (⟨2, (-1)⟩ : SCodeIndex)
  else
    lines_Validate_l1 n a0 n 0
def textpatch_hunk_j2 (n : Nat) (a0 : SAtOldNew) (x6 : Bool) : Option Int :=
  if x6 = true then
    some 5
  else
    (textpatch_End n a0).bind fun r7 =>
    if (decide (120 < r7)) = true then
      some 3
    else
      some 0
def textpatch_hunk_l1 (n : Nat) (a0 : SAtOldNew) (a1 : Int) : Nat → Int → Option Int
  | 0, _ => none
  | m1 + 1, x2 =>
    if (decide (x2 < 2)) = true then
      (garr 2 x2).bind fun i3 =>
      (lines_Validate n (if i3 = 0 then a0.Old else a0.New)).bind fun r4 =>
      if ((r4.Code == 0 && (r4.Index == 0 && true)) != true) = true then
        some r4.Code
      else
        (gadd x2 1).bind fun x5 =>
        (textpatch_hunk_l1 n a0 a1 m1) x5
    else
      (gadd (a0.Old.length : Int) (a0.New.length : Int)).bind fun x8 =>
      if (decide (x8 = 0)) = true then
        textpatch_hunk_j2 n a0 true
      else
        textpatch_hunk_j2 n a0 (decide (a0.At ≤ a1))
def textpatch_hunk_j1 (n : Nat) (a0 : SAtOldNew) (a1 : Int) (x1 : Bool) : Option Int :=
  if x1 = true then
    some 3
  else
    textpatch_hunk_l1 n a0 a1 n 0
def textpatch_hunk (n : Nat) (a0 : SAtOldNew) (a1 : Int) : Option Int :=
  if (decide (a0.At < 0)) = true then
    textpatch_hunk_j1 n a0 a1 true
  else
    textpatch_hunk_j1 n a0 a1 (decide (120 < a0.At))
def textpatch_Validate_l1 (n : Nat) (a0 : SHunks) : Nat → Int → Int → Option SCodeIndex
  | 0, _, _ => none
  | m1 + 1, x1, x2 =>
    if (decide (x2 < (a0.Hunks.length : Int))) = true then
      (gidx a0.Hunks x2).bind fun e3 =>
      (textpatch_hunk n e3 x1).bind fun r4 =>
      if (decide (r4 ≠ 0)) = true then
        some (⟨r4, x2⟩ : SCodeIndex)
      else
        (textpatch_End n e3).bind fun r5 =>
        (gadd x2 1).bind fun x6 =>
        (textpatch_Validate_l1 n a0 m1) r5 x6
    else
      some (⟨0, 0⟩ : SCodeIndex)
def textpatch_Validate (n : Nat) (a0 : SHunks) : Option SCodeIndex :=
  if (decide (130 < (a0.Hunks.length : Int))) = true then
    some (⟨2, (-1)⟩ : SCodeIndex)
  else
    textpatch_Validate_l1 n a0 n (-1) 0
def lines_Second (n : Nat) (a0 : List (List UInt8)) (a1 : Int) : Option SCodeIndex :=
  (lines_Validate n a0).bind fun r1 =>
  if ((r1.Code == 0 && (r1.Index == 0 && true)) != true) = true then
    some (⟨r1.Code, a1⟩ : SCodeIndex)
  else
    some (⟨0, 0⟩ : SCodeIndex)
def slices_Equal_string_l1 (n : Nat) (a0 : List (List UInt8)) (a1 : List (List UInt8)) : Nat → Int → Option Bool
  | 0, _ => none
  | m1 + 1, x1 =>
    if (decide (x1 < (a0.length : Int))) = true then
      (gidx a0 x1).bind fun e2 =>
      (gidx a1 x1).bind fun e3 =>
      if (decide (e2 ≠ e3)) = true then
        some false
      else
        (gadd x1 1).bind fun x4 =>
        (slices_Equal_string_l1 n a0 a1 m1) x4
    else
      some true
def slices_Equal_string (n : Nat) (a0 : List (List UInt8)) (a1 : List (List UInt8)) : Option Bool :=
  if (decide ((a0.length : Int) ≠ (a1.length : Int))) = true then
    some false
  else
    slices_Equal_string_l1 n a0 a1 n 0
def lines_Occurs_j1 (n : Nat) (x1 : Bool) : Option Bool :=
  some x1
def lines_Occurs (n : Nat) (a0 : List (List UInt8)) (a1 : List (List UInt8)) (a2 : Int) : Option Bool :=
  if (decide (0 ≤ a2)) = true then
    if (decide (a2 ≤ (a0.length : Int))) = true then
      (gsub (a0.length : Int) a2).bind fun x2 =>
      if (decide ((a1.length : Int) ≤ x2)) = true then
        (gadd a2 (a1.length : Int)).bind fun x3 =>
        (gcut a0 a2 x3).bind fun s4 =>
        (slices_Equal_string n s4 a1).bind fun r5 =>
        lines_Occurs_j1 n r5
      else
        lines_Occurs_j1 n false
    else
      lines_Occurs_j1 n false
  else
    lines_Occurs_j1 n false
def textpatch_Raw_l1 (n : Nat) (a0 : List SAtOldNew) (a1 : List (List UInt8)) (a3 : Int) : Nat → Int → List (List UInt8) → Int → Option (List (List UInt8))
  | 0, _, _, _ => none
  | m1 + 1, x1, w2, x3 =>
    if (decide (x3 < (a0.length : Int))) = true then
      (gidx a0 x3).bind fun e4 =>
      (gcut a1 x1 e4.At).bind fun s5 =>
      (gapp 16 w2 s5).bind fun w6 =>
      (gapp 16 w6 e4.New).bind fun w7 =>
      (textpatch_End n e4).bind fun r8 =>
      (gadd x3 1).bind fun x9 =>
      (textpatch_Raw_l1 n a0 a1 a3 m1) r8 w7 x9
    else
      (gcut a1 x1 a3).bind fun s10 =>
      (gapp 16 w2 s10).bind fun w11 =>
      some w11
def textpatch_Raw (n : Nat) (a0 : List SAtOldNew) (a1 : List (List UInt8)) (a2 : Int) (a3 : Int) : Option (List (List UInt8)) :=
  textpatch_Raw_l1 n a0 a1 a3 n a2 ([] : List (List UInt8)) 0
def textpatch_Apply_l1 (n : Nat) (a0 : SHunks) (a1 : List (List UInt8)) : Nat → Int → Option ((List (List UInt8)) × SCodeIndex)
  | 0, _ => none
  | m1 + 1, x3 =>
    if (decide (x3 < (a0.Hunks.length : Int))) = true then
      (gidx a0.Hunks x3).bind fun e4 =>
      (lines_Occurs n a1 e4.Old e4.At).bind fun r5 =>
      if (!r5) = true then
        some (([] : List (List UInt8)), (⟨19, x3⟩ : SCodeIndex))
      else
        (gadd x3 1).bind fun x6 =>
        (textpatch_Apply_l1 n a0 a1 m1) x6
    else
      (textpatch_Raw n a0.Hunks a1 0 (a1.length : Int)).bind fun r7 =>
      if (decide (120 < (r7.length : Int))) = true then
        some (([] : List (List UInt8)), (⟨10, (-1)⟩ : SCodeIndex))
      else
        some (r7, (⟨0, 0⟩ : SCodeIndex))
def textpatch_Apply (n : Nat) (a0 : SHunks) (a1 : List (List UInt8)) : Option ((List (List UInt8)) × SCodeIndex) :=
  (textpatch_Validate n a0).bind fun r1 =>
  if ((r1.Code == 0 && (r1.Index == 0 && true)) != true) = true then
    some (([] : List (List UInt8)), r1)
  else
    (lines_Second n a1 (-2)).bind fun r2 =>
    if ((r2.Code == 0 && (r2.Index == 0 && true)) != true) = true then
      some (([] : List (List UInt8)), r2)
    else
      textpatch_Apply_l1 n a0 a1 n 0
def textpatch_Growth (n : Nat) (a0 : SAtOldNew) : Option Int :=
  (gsub (a0.New.length : Int) (a0.Old.length : Int)).bind fun x1 =>
  some x1
def strconv_Itoa (n : Nat) (a0 : Int) : Option (List UInt8) :=
  libItoa a0
def unified_Format_j3 (n : Nat) (lp1 : (List Int) → Int → Int → Option ((List UInt8) × SCodeIndex)) (x7 : Int) (x9 : Int) (w10 : List Int) : Option ((List UInt8) × SCodeIndex) :=
  lp1 w10 x9 x7
def unified_Format_j8 (n : Nat) (x34 : Int) (lp3 : (List Int) → Int → Int → Option ((List UInt8) × SCodeIndex)) (e35 : SAtOldNew) (w39 : List Int) : Option ((List UInt8) × SCodeIndex) :=
  (textpatch_End n e35).bind fun r40 =>
  (gadd x34 1).bind fun x41 =>
  lp3 w39 r40 x41
def unified_Format_l4 (n : Nat) (x34 : Int) (lp3 : (List Int) → Int → Int → Option ((List UInt8) × SCodeIndex)) (e35 : SAtOldNew) : Nat → List Int → Int → Option ((List UInt8) × SCodeIndex)
  | 0, _, _ => none
  | m4 + 1, w42, x43 =>
    if (decide (x43 < (e35.New.length : Int))) = true then
      (gidx e35.New x43).bind fun e44 =>
      (gapp 1 w42 [43]).bind fun w45 =>
      (gapp 1 w45 (bts e44)).bind fun w46 =>
      (gapp 1 w46 [10]).bind fun w47 =>
      (gadd x43 1).bind fun x48 =>
      (unified_Format_l4 n x34 lp3 e35 m4) w47 x48
    else
      unified_Format_j8 n x34 lp3 e35 w42
def unified_Format_j7 (n : Nat) (x34 : Int) (lp3 : (List Int) → Int → Int → Option ((List UInt8) × SCodeIndex)) (e35 : SAtOldNew) (w38 : List Int) : Option ((List UInt8) × SCodeIndex) :=
  unified_Format_l4 n x34 lp3 e35 n w38 0
def unified_Format_l5 (n : Nat) (x34 : Int) (lp3 : (List Int) → Int → Int → Option ((List UInt8) × SCodeIndex)) (e35 : SAtOldNew) : Nat → List Int → Int → Option ((List UInt8) × SCodeIndex)
  | 0, _, _ => none
  | m5 + 1, w49, x50 =>
    if (decide (x50 < (e35.Old.length : Int))) = true then
      (gidx e35.Old x50).bind fun e51 =>
      (gapp 1 w49 [45]).bind fun w52 =>
      (gapp 1 w52 (bts e51)).bind fun w53 =>
      (gapp 1 w53 [10]).bind fun w54 =>
      (gadd x50 1).bind fun x55 =>
      (unified_Format_l5 n x34 lp3 e35 m5) w54 x55
    else
      unified_Format_j7 n x34 lp3 e35 w49
def unified_Format_j6 (n : Nat) (x34 : Int) (lp3 : (List Int) → Int → Int → Option ((List UInt8) × SCodeIndex)) (e35 : SAtOldNew) (w37 : List Int) : Option ((List UInt8) × SCodeIndex) :=
  unified_Format_l5 n x34 lp3 e35 n w37 0
def unified_Format_l6 (n : Nat) (x34 : Int) (lp3 : (List Int) → Int → Int → Option ((List UInt8) × SCodeIndex)) (e35 : SAtOldNew) (s36 : List (List UInt8)) : Nat → List Int → Int → Option ((List UInt8) × SCodeIndex)
  | 0, _, _ => none
  | m6 + 1, w56, x57 =>
    if (decide (x57 < (s36.length : Int))) = true then
      (gidx s36 x57).bind fun e58 =>
      (gapp 1 w56 [32]).bind fun w59 =>
      (gapp 1 w59 (bts e58)).bind fun w60 =>
      (gapp 1 w60 [10]).bind fun w61 =>
      (gadd x57 1).bind fun x62 =>
      (unified_Format_l6 n x34 lp3 e35 s36 m6) w61 x62
    else
      unified_Format_j6 n x34 lp3 e35 w56
def unified_Format_j9 (n : Nat) (x4 : Int) (lp1 : (List Int) → Int → Int → Option ((List UInt8) × SCodeIndex)) (x7 : Int) (x17 : Int) (w64 : List Int) : Option ((List UInt8) × SCodeIndex) :=
  (gadd x4 x17).bind fun x65 =>
  unified_Format_j3 n lp1 x7 x65 w64
def unified_Format_l7 (n : Nat) (x4 : Int) (lp1 : (List Int) → Int → Int → Option ((List UInt8) × SCodeIndex)) (x7 : Int) (x17 : Int) (s63 : List (List UInt8)) : Nat → List Int → Int → Option ((List UInt8) × SCodeIndex)
  | 0, _, _ => none
  | m7 + 1, w66, x67 =>
    if (decide (x67 < (s63.length : Int))) = true then
      (gidx s63 x67).bind fun e68 =>
      (gapp 1 w66 [32]).bind fun w69 =>
      (gapp 1 w69 (bts e68)).bind fun w70 =>
      (gapp 1 w70 [10]).bind fun w71 =>
      (gadd x67 1).bind fun x72 =>
      (unified_Format_l7 n x4 lp1 x7 x17 s63 m7) w71 x72
    else
      unified_Format_j9 n x4 lp1 x7 x17 w66
def unified_Format_l3 (n : Nat) (a0 : List (List UInt8)) (x4 : Int) (lp1 : (List Int) → Int → Int → Option ((List UInt8) × SCodeIndex)) (x7 : Int) (s8 : List SAtOldNew) (x16 : Int) (x17 : Int) : Nat → List Int → Int → Int → Option ((List UInt8) × SCodeIndex)
  | 0, _, _, _ => none
  | m3 + 1, w32, x33, x34 =>
    if (decide (x34 < (s8.length : Int))) = true then
      (gidx s8 x34).bind fun e35 =>
      (gcut a0 x33 e35.At).bind fun s36 =>
      unified_Format_l6 n x34 (unified_Format_l3 n a0 x4 lp1 x7 s8 x16 x17 m3) e35 s36 n w32 0
    else
      (gcut a0 x33 (min x16 (a0.length : Int))).bind fun s63 =>
      unified_Format_l7 n x4 lp1 x7 x17 s63 n w32 0
def unified_Format_j5 (n : Nat) (a0 : List (List UInt8)) (x4 : Int) (lp1 : (List Int) → Int → Int → Option ((List UInt8) × SCodeIndex)) (x7 : Int) (s8 : List SAtOldNew) (x12 : Int) (x16 : Int) (x17 : Int) (w30 : List Int) : Option ((List UInt8) × SCodeIndex) :=
  (gapp 1 w30 (bts ([32, 64, 64, 10] : List UInt8))).bind fun w31 =>
  unified_Format_l3 n a0 x4 lp1 x7 s8 x16 x17 n w31 (max x12 0) 0
def unified_Format_j10 (n : Nat) (a0 : List (List UInt8)) (x4 : Int) (lp1 : (List Int) → Int → Int → Option ((List UInt8) × SCodeIndex)) (x7 : Int) (s8 : List SAtOldNew) (x12 : Int) (x16 : Int) (x17 : Int) (w26 : List Int) (x29 : Int) (x73 : Int) : Option ((List UInt8) × SCodeIndex) :=
  (strconv_Itoa n x73).bind fun r74 =>
  (gcat r74 ([44] : List UInt8)).bind fun s75 =>
  (strconv_Itoa n x29).bind fun r76 =>
  (gcat s75 r76).bind fun s77 =>
  (gapp 1 w26 (bts s77)).bind fun w78 =>
  unified_Format_j5 n a0 x4 lp1 x7 s8 x12 x16 x17 w78
def unified_Format_j4 (n : Nat) (a0 : List (List UInt8)) (x4 : Int) (lp1 : (List Int) → Int → Int → Option ((List UInt8) × SCodeIndex)) (x7 : Int) (s8 : List SAtOldNew) (x12 : Int) (x16 : Int) (x17 : Int) (w25 : List Int) : Option ((List UInt8) × SCodeIndex) :=
  (gapp 1 w25 (bts ([32, 43] : List UInt8))).bind fun w26 =>
  (gadd (max x12 0) x4).bind fun x27 =>
  (gsub (min x16 (a0.length : Int)) (max x12 0)).bind fun x28 =>
  (gadd x28 x17).bind fun x29 =>
  if (decide (0 < x29)) = true then
    (gadd x27 1).bind fun x79 =>
    unified_Format_j10 n a0 x4 lp1 x7 s8 x12 x16 x17 w26 x29 x79
  else
    unified_Format_j10 n a0 x4 lp1 x7 s8 x12 x16 x17 w26 x29 x27
def unified_Format_j11 (n : Nat) (a0 : List (List UInt8)) (x4 : Int) (lp1 : (List Int) → Int → Int → Option ((List UInt8) × SCodeIndex)) (x7 : Int) (s8 : List SAtOldNew) (x12 : Int) (x16 : Int) (x17 : Int) (w23 : List Int) (x24 : Int) (x80 : Int) : Option ((List UInt8) × SCodeIndex) :=
  (strconv_Itoa n x80).bind fun r81 =>
  (gcat r81 ([44] : List UInt8)).bind fun s82 =>
  (strconv_Itoa n x24).bind fun r83 =>
  (gcat s82 r83).bind fun s84 =>
  (gapp 1 w23 (bts s84)).bind fun w85 =>
  unified_Format_j4 n a0 x4 lp1 x7 s8 x12 x16 x17 w85
def unified_Format_l2 (n : Nat) (a0 : List (List UInt8)) (w3 : List Int) (x4 : Int) (lp1 : (List Int) → Int → Int → Option ((List UInt8) × SCodeIndex)) (x7 : Int) (s8 : List SAtOldNew) (x12 : Int) (x16 : Int) : Nat → Int → Int → Option ((List UInt8) × SCodeIndex)
  | 0, _, _ => none
  | m2 + 1, x17, x18 =>
    if (decide (x18 < (s8.length : Int))) = true then
      (gidx s8 x18).bind fun e19 =>
      (textpatch_Growth n e19).bind fun r20 =>
      (gadd x17 r20).bind fun x21 =>
      (gadd x18 1).bind fun x22 =>
      (unified_Format_l2 n a0 w3 x4 lp1 x7 s8 x12 x16 m2) x21 x22
    else
      (gapp 1 w3 (bts ([64, 64, 32, 45] : List UInt8))).bind fun w23 =>
      (gsub (min x16 (a0.length : Int)) (max x12 0)).bind fun x24 =>
      if (decide (0 < x24)) = true then
        (gadd (max x12 0) 1).bind fun x86 =>
        unified_Format_j11 n a0 x4 lp1 x7 s8 x12 x16 x17 w23 x24 x86
      else
        unified_Format_j11 n a0 x4 lp1 x7 s8 x12 x16 x17 w23 x24 (max x12 0)
def unified_Format_j2 (n : Nat) (a0 : List (List UInt8)) (a1 : SHunks) (a2 : Int) (w3 : List Int) (x4 : Int) (x5 : Int) (lp1 : (List Int) → Int → Int → Option ((List UInt8) × SCodeIndex)) (x7 : Int) : Option ((List UInt8) × SCodeIndex) :=
  (gcut a1.Hunks x5 x7).bind fun s8 =>
  (gidx s8 0).bind fun e11 =>
  (gsub e11.At a2).bind fun x12 =>
  (gsub (s8.length : Int) 1).bind fun x13 =>
  (gidx s8 x13).bind fun e14 =>
  (textpatch_End n e14).bind fun r15 =>
  (gadd r15 a2).bind fun x16 =>
  unified_Format_l2 n a0 w3 x4 lp1 x7 s8 x12 x16 n 0 0
def unified_Format_j12 (n : Nat) (a0 : List (List UInt8)) (a1 : SHunks) (a2 : Int) (w3 : List Int) (x4 : Int) (x5 : Int) (lp1 : (List Int) → Int → Int → Option ((List UInt8) × SCodeIndex)) (x87 : Int) (lp8 : Int → Option ((List UInt8) × SCodeIndex)) (x88 : Bool) : Option ((List UInt8) × SCodeIndex) :=
  if x88 = true then
    (gadd x87 1).bind fun x89 =>
    lp8 x89
  else
    unified_Format_j2 n a0 a1 a2 w3 x4 x5 lp1 x87
def unified_Format_l8 (n : Nat) (a0 : List (List UInt8)) (a1 : SHunks) (a2 : Int) (w3 : List Int) (x4 : Int) (x5 : Int) (lp1 : (List Int) → Int → Int → Option ((List UInt8) × SCodeIndex)) : Nat → Int → Option ((List UInt8) × SCodeIndex)
  | 0, _ => none
  | m8 + 1, x87 =>
    if (decide (x87 < (a1.Hunks.length : Int))) = true then
      (gidx a1.Hunks x87).bind fun e90 =>
      (gsub x87 1).bind fun x91 =>
      (gidx a1.Hunks x91).bind fun e92 =>
      (textpatch_End n e92).bind fun r93 =>
      (gsub e90.At r93).bind fun x94 =>
      (gmul 2 a2).bind fun x95 =>
      unified_Format_j12 n a0 a1 a2 w3 x4 x5 lp1 x87 (unified_Format_l8 n a0 a1 a2 w3 x4 x5 lp1 m8) (decide (x94 ≤ x95))
    else
      unified_Format_j12 n a0 a1 a2 w3 x4 x5 lp1 x87 (unified_Format_l8 n a0 a1 a2 w3 x4 x5 lp1 m8) false
def unified_Format_l1 (n : Nat) (a0 : List (List UInt8)) (a1 : SHunks) (a2 : Int) : Nat → List Int → Int → Int → Option ((List UInt8) × SCodeIndex)
  | 0, _, _, _ => none
  | m1 + 1, w3, x4, x5 =>
    if (decide (x5 < (a1.Hunks.length : Int))) = true then
      (gadd x5 1).bind fun x6 =>
      unified_Format_l8 n a0 a1 a2 w3 x4 x5 (unified_Format_l1 n a0 a1 a2 m1) n x6
    else
      if (decide (4096 < (w3.length : Int))) = true then
        some (([] : List UInt8), (⟨10, (-1)⟩ : SCodeIndex))
      else
        (libBString w3).bind fun s96 =>
        some (s96, (⟨0, 0⟩ : SCodeIndex))
def unified_Format_j1 (n : Nat) (a0 : List (List UInt8)) (a1 : SHunks) (a2 : Int) (x2 : Bool) : Option ((List UInt8) × SCodeIndex) :=
  if x2 = true then
    some (([] : List UInt8), (⟨3, (-3)⟩ : SCodeIndex))
  else
    unified_Format_l1 n a0 a1 a2 n ([] : List Int) 0 0
def unified_Format (n : Nat) (a0 : List (List UInt8)) (a1 : SHunks) (a2 : Int) : Option ((List UInt8) × SCodeIndex) :=
  (textpatch_Apply n a1 a0).bind fun r1 =>
  if ((r1.2.Code == 0 && (r1.2.Index == 0 && true)) != true) = true then
    some (([] : List UInt8), (⟨r1.2.Code, r1.2.Index⟩ : SCodeIndex))
  else
    if (decide (a2 < 0)) = true then
      unified_Format_j1 n a0 a1 a2 true
    else
      unified_Format_j1 n a0 a1 a2 (decide (120 < a2))
def equal_Strings_l1 (n : Nat) (a0 : List (List UInt8)) (a1 : List (List UInt8)) : Nat → Int → Option Bool
  | 0, _ => none
  | m1 + 1, x1 =>
    if (decide (x1 < (a0.length : Int))) = true then
      (gidx a0 x1).bind fun e2 =>
      (gidx a1 x1).bind fun e3 =>
      if (decide (e2 ≠ e3)) = true then
        some false
      else
        (gadd x1 1).bind fun x4 =>
        (equal_Strings_l1 n a0 a1 m1) x4
    else
      some true
def equal_Strings (n : Nat) (a0 : List (List UInt8)) (a1 : List (List UInt8)) : Option Bool :=
  if (decide ((a0.length : Int) ≠ (a1.length : Int))) = true then
    some false
  else
    equal_Strings_l1 n a0 a1 n 0
def treepatch_ValidPath (n : Nat) (a0 : List UInt8) : Option Bool :=
  some (libValidPath a0)
def internal_stringslite_HasPrefix_j1 (n : Nat) (x1 : Bool) : Option Bool :=
  some x1
def internal_stringslite_HasPrefix (n : Nat) (a0 : List UInt8) (a1 : List UInt8) : Option Bool :=
  if (decide ((a1.length : Int) ≤ (a0.length : Int))) = true then
    (gcut a0 0 (a1.length : Int)).bind fun s2 =>
    internal_stringslite_HasPrefix_j1 n (decide (s2 = a1))
  else
    internal_stringslite_HasPrefix_j1 n false
def strings_HasPrefix (n : Nat) (a0 : List UInt8) (a1 : List UInt8) : Option Bool :=
  (internal_stringslite_HasPrefix n a0 a1).bind fun r1 =>
  some r1
def treepatch_Related_j1 (n : Nat) (x1 : Bool) : Option Bool :=
  some x1
def treepatch_Related (n : Nat) (a0 : List UInt8) (a1 : List UInt8) : Option Bool :=
  if (decide (a0 = a1)) = true then
    treepatch_Related_j1 n true
  else
    (gcat a1 ([47] : List UInt8)).bind fun s2 =>
    (strings_HasPrefix n a0 s2).bind fun r3 =>
    if r3 = true then
      treepatch_Related_j1 n true
    else
      (gcat a0 ([47] : List UInt8)).bind fun s4 =>
      (strings_HasPrefix n a1 s4).bind fun r5 =>
      treepatch_Related_j1 n r5
def treepatch_check_j4 (n : Nat) (a0 : SKindPathToLinesPatch) (x4 : Bool) : Option Int :=
  if x4 = true then
    some 5
  else
    if ((decide (a0.Kind = 4)) != (decide (0 < (a0.Patch.Hunks.length : Int)))) = true then
      some 5
    else
      (lines_Validate n a0.Lines).bind fun r5 =>
      if ((r5.Code == 0 && (r5.Index == 0 && true)) != true) = true then
        some r5.Code
      else
        (textpatch_Validate n (⟨a0.Patch.Hunks⟩ : SHunks)).bind fun r6 =>
        some r6.Code
def treepatch_check_j3 (n : Nat) (a0 : SKindPathToLinesPatch) (x3 : Bool) : Option Int :=
  if x3 = true then
    some 5
  else
    if (decide (0 < (a0.Lines.length : Int))) = true then
      if (decide (a0.Kind = 4)) = true then
        treepatch_check_j4 n a0 true
      else
        treepatch_check_j4 n a0 (decide (a0.Kind = 3))
    else
      treepatch_check_j4 n a0 false
def treepatch_check_j2 (n : Nat) (a0 : SKindPathToLinesPatch) (x2 : Bool) : Option Int :=
  if x2 = true then
    some 12
  else
    if (!(decide (a0.Kind = 3))) = true then
      if (decide (a0.To ≠ ([] : List UInt8))) = true then
        treepatch_check_j3 n a0 true
      else
        if (decide (a0.Kind = 3)) = true then
          (treepatch_Related n a0.Path a0.To).bind fun r7 =>
          treepatch_check_j3 n a0 r7
        else
          treepatch_check_j3 n a0 false
    else
      if (decide (a0.Kind = 3)) = true then
        (treepatch_Related n a0.Path a0.To).bind fun r8 =>
        treepatch_check_j3 n a0 r8
      else
        treepatch_check_j3 n a0 false
def treepatch_check_j1 (n : Nat) (a0 : SKindPathToLinesPatch) (x1 : Bool) : Option Int :=
  if x1 = true then
    some 4
  else
    (treepatch_ValidPath n a0.Path).bind fun r9 =>
    if (!r9) = true then
      treepatch_check_j2 n a0 true
    else
      if (decide (a0.Kind = 3)) = true then
        (treepatch_ValidPath n a0.To).bind fun r10 =>
        treepatch_check_j2 n a0 (!r10)
      else
        treepatch_check_j2 n a0 false
def treepatch_check (n : Nat) (a0 : SKindPathToLinesPatch) : Option Int :=
  if (decide (a0.Kind < 1)) = true then
    treepatch_check_j1 n a0 true
  else
    treepatch_check_j1 n a0 (decide (4 < a0.Kind))
def treepatch_ValidatePatch_l1 (n : Nat) (a0 : SChanges) : Nat → Int → Option SCodeIndex
  | 0, _ => none
  | m1 + 1, x1 =>
    if (decide (x1 < (a0.Changes.length : Int))) = true then
      (gidx a0.Changes x1).bind fun e2 =>
      (treepatch_check n (⟨e2.Kind, e2.Path, e2.To, e2.Lines, (⟨e2.Patch.Hunks⟩ : SHunks)⟩ : SKindPathToLinesPatch)).bind fun r3 =>
      if (decide (r3 ≠ 0)) = true then
        some (⟨r3, x1⟩ : SCodeIndex)
      else
        (gadd x1 1).bind fun x4 =>
        (treepatch_ValidatePatch_l1 n a0 m1) x4
    else
      some (⟨0, 0⟩ : SCodeIndex)
def treepatch_ValidatePatch (n : Nat) (a0 : SChanges) : Option SCodeIndex :=
  if (decide (30 < (a0.Changes.length : Int))) = true then
    some (⟨2, (-1)⟩ : SCodeIndex)
  else
    treepatch_ValidatePatch_l1 n a0 n 0
def treepatch_Clash_j1 (n : Nat) (x1 : Int) (lp1 : Int → Option Bool) (x3 : Bool) : Option Bool :=
  if x3 = true then
    some true
  else
    (gadd x1 1).bind fun x4 =>
    lp1 x4
def treepatch_Clash_l1 (n : Nat) (a0 : List SPathLines) (a1 : List UInt8) (a2 : Int) : Nat → Int → Option Bool
  | 0, _ => none
  | m1 + 1, x1 =>
    if (decide (x1 < (a0.length : Int))) = true then
      (gidx a0 x1).bind fun e2 =>
      if (decide (x1 ≠ a2)) = true then
        (treepatch_Related n e2.Path a1).bind fun r5 =>
        treepatch_Clash_j1 n x1 (treepatch_Clash_l1 n a0 a1 a2 m1) r5
      else
        treepatch_Clash_j1 n x1 (treepatch_Clash_l1 n a0 a1 a2 m1) false
    else
      some false
def treepatch_Clash (n : Nat) (a0 : List SPathLines) (a1 : List UInt8) (a2 : Int) : Option Bool :=
  treepatch_Clash_l1 n a0 a1 a2 n 0
def treepatch_Validate_j1 (n : Nat) (a0 : SFiles) (x1 : Int) (lp1 : Int → Option SCodeIndex) (e2 : SPathLines) (x4 : Bool) : Option SCodeIndex :=
  if x4 = true then
    some (⟨5, x1⟩ : SCodeIndex)
  else
    (gcut a0.Files 0 x1).bind fun s5 =>
    (treepatch_Clash n s5 e2.Path (-1)).bind fun r6 =>
    if r6 = true then
      some (⟨7, x1⟩ : SCodeIndex)
    else
      (lines_Second n e2.Lines x1).bind fun r7 =>
      if ((r7.Code == 0 && (r7.Index == 0 && true)) != true) = true then
        some r7
      else
        (gadd x1 1).bind fun x8 =>
        lp1 x8
def treepatch_Validate_l1 (n : Nat) (a0 : SFiles) : Nat → Int → Option SCodeIndex
  | 0, _ => none
  | m1 + 1, x1 =>
    if (decide (x1 < (a0.Files.length : Int))) = true then
      (gidx a0.Files x1).bind fun e2 =>
      (treepatch_ValidPath n e2.Path).bind fun r3 =>
      if (!r3) = true then
        some (⟨12, x1⟩ : SCodeIndex)
      else
        if (decide (0 < x1)) = true then
          (gsub x1 1).bind fun x9 =>
          (gidx a0.Files x9).bind fun e10 =>
          treepatch_Validate_j1 n a0 x1 (treepatch_Validate_l1 n a0 m1) e2 (Op.bytesLess e2.Path e10.Path || e2.Path == e10.Path)
        else
          treepatch_Validate_j1 n a0 x1 (treepatch_Validate_l1 n a0 m1) e2 false
    else
      some (⟨0, 0⟩ : SCodeIndex)
def treepatch_Validate (n : Nat) (a0 : SFiles) : Option SCodeIndex :=
  if (decide (24 < (a0.Files.length : Int))) = true then
    some (⟨2, (-1)⟩ : SCodeIndex)
  else
    treepatch_Validate_l1 n a0 n 0
def treepatch_Second (n : Nat) (a0 : SFiles) (a1 : Int) : Option SCodeIndex :=
  (treepatch_Validate n a0).bind fun r1 =>
  if ((r1.Code == 0 && (r1.Index == 0 && true)) != true) = true then
    some (⟨r1.Code, a1⟩ : SCodeIndex)
  else
    some (⟨0, 0⟩ : SCodeIndex)
def slices_Clone_string (n : Nat) (a0 : List (List UInt8)) : Option (List (List UInt8)) :=
  (gapp 16 [] a0).bind fun w => some w
def strings_Compare (n : Nat) (a0 : List UInt8) (a1 : List UInt8) : Option Int :=
  some (libCompare a0 a1)
def treepatch_Find_j1 (n : Nat) (x1 : Int) (x2 : Bool) : Option (Int × Bool) :=
  some (x1, x2)
def treepatch_Find_j3 (n : Nat) (x3 : Int) (x4 : Bool) : Option (Int × Bool) :=
  treepatch_Find_j1 n x3 x4
def treepatch_Find_j4 (n : Nat) (x3 : Int) (x6 : Int) : Option (Int × Bool) :=
  treepatch_Find_j3 n x3 (decide (x6 = 0))
def treepatch_Find_j2 (n : Nat) (a0 : List SPathLines) (a1 : List UInt8) (x3 : Int) : Option (Int × Bool) :=
  if (decide (x3 < (a0.length : Int))) = true then
    (gidx a0 x3).bind fun e5 =>
    (strings_Compare n e5.Path a1).bind fun r7 =>
    treepatch_Find_j4 n x3 r7
  else
    treepatch_Find_j3 n x3 false
def treepatch_Find_j5 (n : Nat) (x8 : Int) (x9 : Int) (lp1 : Int → Int → Option (Int × Bool)) (x10 : Int) (x12 : Int) : Option (Int × Bool) :=
  if (decide (x12 < 0)) = true then
    (gadd (IntKind.wrap .i64 (kshr .u64 (IntKind.wrap .u64 x10) 1)) 1).bind fun x13 =>
    lp1 x13 x9
  else
    lp1 x8 (IntKind.wrap .i64 (kshr .u64 (IntKind.wrap .u64 x10) 1))
def treepatch_Find_l1 (n : Nat) (a0 : List SPathLines) (a1 : List UInt8) : Nat → Int → Int → Option (Int × Bool)
  | 0, _, _ => none
  | m1 + 1, x8, x9 =>
    if (decide (x8 < x9)) = true then
      (gadd x8 x9).bind fun x10 =>
      (gidx a0 (IntKind.wrap .i64 (kshr .u64 (IntKind.wrap .u64 x10) 1))).bind fun e11 =>
      (strings_Compare n e11.Path a1).bind fun r14 =>
      treepatch_Find_j5 n x8 x9 (treepatch_Find_l1 n a0 a1 m1) x10 r14
    else
      treepatch_Find_j2 n a0 a1 x8
def treepatch_Find (n : Nat) (a0 : List SPathLines) (a1 : List UInt8) : Option (Int × Bool) :=
  treepatch_Find_l1 n a0 a1 n 0 (a0.length : Int)
def treepatch_Apply_j2 (n : Nat) (x5 : Int) (lp1 : (List SPathLines) → Int → Option (SFiles × SCodeIndex)) (x7 : Int) (w8 : List SPathLines) : Option (SFiles × SCodeIndex) :=
  if (decide (x7 ≠ 0)) = true then
    some ((⟨([] : List SPathLines)⟩ : SFiles), (⟨x7, x5⟩ : SCodeIndex))
  else
    (gadd x5 1).bind fun x9 =>
    lp1 w8 x9
def treepatch_Apply_l1 (n : Nat) (a0 : SChanges) : Nat → List SPathLines → Int → Option (SFiles × SCodeIndex)
  | 0, _, _ => none
  | m1 + 1, w4, x5 =>
    if (decide (x5 < (a0.Changes.length : Int))) = true then
      (gidx a0.Changes x5).bind fun e6 =>
      (treepatch_Find n w4 e6.Path).bind fun r10 =>
      if (decide (e6.Kind = 1)) = true then
        (treepatch_Clash n w4 e6.Path (-1)).bind fun r11 =>
        if r11 = true then
          treepatch_Apply_j2 n x5 (treepatch_Apply_l1 n a0 m1) 7 w4
        else
          if (decide (24 ≤ (w4.length : Int))) = true then
            treepatch_Apply_j2 n x5 (treepatch_Apply_l1 n a0 m1) 14 w4
          else
            none
      else
        if (!r10.2) = true then
          treepatch_Apply_j2 n x5 (treepatch_Apply_l1 n a0 m1) 6 w4
        else
          (gidx w4 r10.1).bind fun e12 =>
          if (decide (e6.Kind = 2)) = true then
            (slices_Equal_string n e12.Lines e6.Lines).bind fun r13 =>
            if (!r13) = true then
              treepatch_Apply_j2 n x5 (treepatch_Apply_l1 n a0 m1) 19 w4
            else
              (gadd r10.1 1).bind fun x14 =>
              none
          else
            if (decide (e6.Kind = 3)) = true then
              (treepatch_Clash n w4 e6.To r10.1).bind fun r15 =>
              if r15 = true then
                treepatch_Apply_j2 n x5 (treepatch_Apply_l1 n a0 m1) 7 w4
              else
                (gadd r10.1 1).bind fun x16 =>
                none
            else
              (textpatch_Apply n (⟨e6.Patch.Hunks⟩ : SHunks) e12.Lines).bind fun r17 =>
              if ((r17.2.Code == 0 && (r17.2.Index == 0 && true)) != true) = true then
                treepatch_Apply_j2 n x5 (treepatch_Apply_l1 n a0 m1) r17.2.Code w4
              else
                treepatch_Apply_j2 n x5 (treepatch_Apply_l1 n a0 m1) 0 (gset w4 r10.1 (⟨e12.Path, r17.1⟩ : SPathLines))
    else
      some ((⟨w4⟩ : SFiles), (⟨0, 0⟩ : SCodeIndex))
def treepatch_Apply_j1 (n : Nat) (a0 : SChanges) (w3 : List SPathLines) : Option (SFiles × SCodeIndex) :=
  treepatch_Apply_l1 n a0 n w3 0
def treepatch_Apply_l2 (n : Nat) (a0 : SChanges) (a1 : SFiles) : Nat → List SPathLines → Int → Option (SFiles × SCodeIndex)
  | 0, _, _ => none
  | m2 + 1, w18, x19 =>
    if (decide (x19 < (a1.Files.length : Int))) = true then
      (gidx a1.Files x19).bind fun e20 =>
      (slices_Clone_string n e20.Lines).bind fun r21 =>
      (gapp 40 w18 ([(⟨e20.Path, r21⟩ : SPathLines)] : List SPathLines)).bind fun w22 =>
      (gadd x19 1).bind fun x23 =>
      (treepatch_Apply_l2 n a0 a1 m2) w22 x23
    else
      treepatch_Apply_j1 n a0 w18
def treepatch_Apply (n : Nat) (a0 : SChanges) (a1 : SFiles) : Option (SFiles × SCodeIndex) :=
  (treepatch_ValidatePatch n a0).bind fun r1 =>
  if ((r1.Code == 0 && (r1.Index == 0 && true)) != true) = true then
    some ((⟨([] : List SPathLines)⟩ : SFiles), r1)
  else
    (treepatch_Second n a1 (-2)).bind fun r2 =>
    if ((r2.Code == 0 && (r2.Index == 0 && true)) != true) = true then
      some ((⟨([] : List SPathLines)⟩ : SFiles), r2)
    else
      treepatch_Apply_l2 n a0 a1 n ([] : List SPathLines) 0
def top_h11Edit (n : Nat) (a0 : List UInt8) (a1 : SHunks) : Option SChanges :=
  some (⟨([(⟨4, a0, ([] : List UInt8), ([] : List (List UInt8)), a1⟩ : SKindPathToLinesPatch)] : List SKindPathToLinesPatch)⟩ : SChanges)
def equal_Tree_j1 (n : Nat) (x1 : Int) (lp1 : Int → Option Bool) (x2 : Bool) : Option Bool :=
  if x2 = true then
    some false
  else
    (gadd x1 1).bind fun x3 =>
    lp1 x3
def equal_Tree_l1 (n : Nat) (a0 : SFiles) (a1 : SFiles) : Nat → Int → Option Bool
  | 0, _ => none
  | m1 + 1, x1 =>
    if (decide (x1 < (a0.Files.length : Int))) = true then
      (gidx a0.Files x1).bind fun e4 =>
      (gidx a1.Files x1).bind fun e5 =>
      if (decide (e4.Path ≠ e5.Path)) = true then
        equal_Tree_j1 n x1 (equal_Tree_l1 n a0 a1 m1) true
      else
        (equal_Strings n e4.Lines e5.Lines).bind fun r6 =>
        equal_Tree_j1 n x1 (equal_Tree_l1 n a0 a1 m1) (!r6)
    else
      some true
def equal_Tree (n : Nat) (a0 : SFiles) (a1 : SFiles) : Option Bool :=
  if (decide ((a0.Files.length : Int) ≠ (a1.Files.length : Int))) = true then
    some false
  else
    equal_Tree_l1 n a0 a1 n 0
def top_h11Works_j1 (n : Nat) (x4 : Bool) : Option Bool :=
  some x4
def top_h11Works (n : Nat) : Option Bool :=
  (textpatch_Apply n (⟨([(⟨0, ([([97] : List UInt8)] : List (List UInt8)), ([([98] : List UInt8)] : List (List UInt8))⟩ : SAtOldNew)] : List SAtOldNew)⟩ : SHunks) ([([97] : List UInt8)] : List (List UInt8))).bind fun r1 =>
  (top_h11Edit n ([120] : List UInt8) (⟨([(⟨0, ([([97] : List UInt8)] : List (List UInt8)), ([([98] : List UInt8)] : List (List UInt8))⟩ : SAtOldNew)] : List SAtOldNew)⟩ : SHunks)).bind fun r2 =>
  (treepatch_Apply n r2 (⟨([(⟨([120] : List UInt8), ([([97] : List UInt8)] : List (List UInt8))⟩ : SPathLines)] : List SPathLines)⟩ : SFiles)).bind fun r3 =>
  if (decide (r1.2.Code = 0)) = true then
    if (decide (r3.2.Code = 0)) = true then
      (equal_Strings n r1.1 ([([98] : List UInt8)] : List (List UInt8))).bind fun r5 =>
      if r5 = true then
        (equal_Tree n (⟨r3.1.Files⟩ : SFiles) (⟨([(⟨([120] : List UInt8), ([([98] : List UInt8)] : List (List UInt8))⟩ : SPathLines)] : List SPathLines)⟩ : SFiles)).bind fun r6 =>
        top_h11Works_j1 n r6
      else
        top_h11Works_j1 n false
    else
      top_h11Works_j1 n false
  else
    top_h11Works_j1 n false
def strings_Cut (n : Nat) (a0 : List UInt8) (a1 : List UInt8) : Option ((List UInt8) × (List UInt8) × Bool) :=
  libCut a0 a1
def internal_stringslite_CutPrefix (n : Nat) (a0 : List UInt8) (a1 : List UInt8) : Option ((List UInt8) × Bool) :=
  (internal_stringslite_HasPrefix n a0 a1).bind fun r1 =>
  if (!r1) = true then
    some (a0, false)
  else
    (gcut a0 (a1.length : Int) (a0.length : Int)).bind fun s2 =>
    some (s2, true)
def strings_CutPrefix (n : Nat) (a0 : List UInt8) (a1 : List UInt8) : Option ((List UInt8) × Bool) :=
  (internal_stringslite_CutPrefix n a0 a1).bind fun r1 =>
  some (r1.1, r1.2)
def strconv_Atoi (n : Nat) (a0 : List UInt8) : Option (Int × Bool) :=
  libAtoi a0
def unified_number_j1 (n : Nat) (r1 : ((List UInt8) × (List UInt8) × Bool)) (r2 : (Int × Bool)) (x3 : Bool) : Option (Int × (List UInt8) × Bool) :=
  some (r2.1, r1.2.1, x3)
def unified_number (n : Nat) (a0 : List UInt8) (a1 : List UInt8) : Option (Int × (List UInt8) × Bool) :=
  (strings_Cut n a0 a1).bind fun r1 =>
  (strconv_Atoi n r1.1).bind fun r2 =>
  if r1.2.2 = true then
    if ((!r2.2) != false) = true then
      (strconv_Itoa n r2.1).bind fun r4 =>
      if (decide (r4 = r1.1)) = true then
        if (decide (0 ≤ r2.1)) = true then
          unified_number_j1 n r1 r2 (decide (r2.1 ≤ 121))
        else
          unified_number_j1 n r1 r2 false
      else
        unified_number_j1 n r1 r2 false
    else
      unified_number_j1 n r1 r2 false
  else
    unified_number_j1 n r1 r2 false
def unified_place (n : Nat) (a0 : Int) (a1 : Int) : Option Int :=
  if (decide (0 < a1)) = true then
    (gsub a0 1).bind fun x1 =>
    some x1
  else
    some a0
def textpatch_Second (n : Nat) (a0 : SHunks) (a1 : Int) : Option SCodeIndex :=
  (textpatch_Validate n a0).bind fun r1 =>
  if ((r1.Code == 0 && (r1.Index == 0 && true)) != true) = true then
    some (⟨r1.Code, a1⟩ : SCodeIndex)
  else
    some (⟨0, 0⟩ : SCodeIndex)
def unified_Parse_l1 (n : Nat) : Nat → Option (Int × List (List UInt8) × List (List UInt8)) → List SAtOldNew → Int → Int → Int → Int → Int → Bool → Int → List UInt8 → Option (SHunks × SCodeIndex)
  | 0, _, _, _, _, _, _, _, _, _, _ => none
  | m1 + 1, none, w1, b2, b3, b4, b5, b6, b7, x8, x9 =>
    if (decide (x9 ≠ ([] : List UInt8))) = true then
      (strings_Cut n x9 ([10] : List UInt8)).bind fun r10 =>
      if (!r10.2.2) = true then
        some ((⟨([] : List SAtOldNew)⟩ : SHunks), (⟨1, x8⟩ : SCodeIndex))
      else
        (gadd b3 b4).bind fun x11 =>
        if (decide (x11 = 0)) = true then
          (strings_CutPrefix n r10.1 ([64, 64, 32, 45] : List UInt8)).bind fun r12 =>
          if (!r12.2) = true then
            some ((⟨([] : List SAtOldNew)⟩ : SHunks), (⟨1, x8⟩ : SCodeIndex))
          else
            (unified_number n r12.1 ([44] : List UInt8)).bind fun r13 =>
            if (!r13.2.2) = true then
              some ((⟨([] : List SAtOldNew)⟩ : SHunks), (⟨1, x8⟩ : SCodeIndex))
            else
              (unified_number n r13.2.1 ([32, 43] : List UInt8)).bind fun r14 =>
              if (!r14.2.2) = true then
                some ((⟨([] : List SAtOldNew)⟩ : SHunks), (⟨1, x8⟩ : SCodeIndex))
              else
                (unified_number n r14.2.1 ([44] : List UInt8)).bind fun r15 =>
                if (!r15.2.2) = true then
                  some ((⟨([] : List SAtOldNew)⟩ : SHunks), (⟨1, x8⟩ : SCodeIndex))
                else
                  (unified_number n r15.2.1 ([32, 64, 64] : List UInt8)).bind fun r16 =>
                  if (!r16.2.2) = true then
                    some ((⟨([] : List SAtOldNew)⟩ : SHunks), (⟨1, x8⟩ : SCodeIndex))
                  else
                    (unified_place n r13.1 r14.1).bind fun r17 =>
                    (unified_place n r15.1 r16.1).bind fun r18 =>
                    if (decide (r16.2.1 ≠ ([] : List UInt8))) = true then
                      some ((⟨([] : List SAtOldNew)⟩ : SHunks), (⟨1, x8⟩ : SCodeIndex))
                    else
                      (gadd r14.1 r16.1).bind fun x19 =>
                      if (decide (x19 = 0)) = true then
                        some ((⟨([] : List SAtOldNew)⟩ : SHunks), (⟨1, x8⟩ : SCodeIndex))
                      else
                        if (decide (r17 < b5)) = true then
                          some ((⟨([] : List SAtOldNew)⟩ : SHunks), (⟨1, x8⟩ : SCodeIndex))
                        else
                          (gsub r18 r17).bind fun x20 =>
                          if (decide (x20 ≠ b6)) = true then
                            some ((⟨([] : List SAtOldNew)⟩ : SHunks), (⟨1, x8⟩ : SCodeIndex))
                          else
                            (gsub r17 b5).bind fun x21 =>
                            if (decide (0 < x21)) = true then
                              (gadd b2 x21).bind fun x22 =>
                              (gadd b5 x21).bind fun x23 =>
                              (gadd x8 1).bind fun x24 =>
                              (unified_Parse_l1 n m1) none w1 x22 r14.1 r16.1 x23 b6 false x24 r10.2.1
                            else
                              (gadd x8 1).bind fun x25 =>
                              (unified_Parse_l1 n m1) none w1 b2 r14.1 r16.1 b5 b6 b7 x25 r10.2.1
        else
          if (decide (r10.1 = ([] : List UInt8))) = true then
            some ((⟨([] : List SAtOldNew)⟩ : SHunks), (⟨1, x8⟩ : SCodeIndex))
          else
            (gidx r10.1 0).bind fun y26 =>
            if (decide ((y26.toNat : Int) = 32)) = true then
              (gsub b3 1).bind fun x27 =>
              (gsub b4 1).bind fun x28 =>
              (gadd b2 1).bind fun x29 =>
              (gadd b5 1).bind fun x30 =>
              if (decide (0 ≤ x27)) = true then
                if (!(decide (0 ≤ x28))) = true then
                  some ((⟨([] : List SAtOldNew)⟩ : SHunks), (⟨1, x8⟩ : SCodeIndex))
                else
                  (gadd x8 1).bind fun x31 =>
                  (unified_Parse_l1 n m1) none w1 x29 x27 x28 x30 b6 false x31 r10.2.1
              else
                some ((⟨([] : List SAtOldNew)⟩ : SHunks), (⟨1, x8⟩ : SCodeIndex))
            else
              if (decide ((y26.toNat : Int) = 45)) = true then
                if b7 = true then
                  some ((⟨([] : List SAtOldNew)⟩ : SHunks), (⟨1, x8⟩ : SCodeIndex))
                else
                  (gsub b3 1).bind fun x32 =>
                  (gadd b5 1).bind fun x33 =>
                  (gsub b6 1).bind fun x34 =>
                  (gcut r10.1 1 (r10.1.length : Int)).bind fun s35 =>
                  (gapp 56 w1 [(⟨b2, ([] : List (List UInt8)), ([] : List (List UInt8))⟩ : SAtOldNew)]).bind fun w36 =>
                  (gsub ((w1.length + 1 : Nat) : Int) 1).bind fun x37 =>
                  (gapp 16 [] ([s35] : List (List UInt8))).bind fun w38 =>
                  (gadd b2 1).bind fun x39 =>
                  if (decide (0 ≤ x32)) = true then
                    if (!(decide (0 ≤ b4))) = true then
                      some ((⟨([] : List SAtOldNew)⟩ : SHunks), (⟨1, x8⟩ : SCodeIndex))
                    else
                      (gadd x8 1).bind fun x40 =>
                      (unified_Parse_l1 n m1) (some (b2, w38, ([] : List (List UInt8)))) w1 x39 x32 b4 x33 x34 b7 x40 r10.2.1
                  else
                    some ((⟨([] : List SAtOldNew)⟩ : SHunks), (⟨1, x8⟩ : SCodeIndex))
              else
                if (decide ((y26.toNat : Int) = 43)) = true then
                  (gsub b4 1).bind fun x41 =>
                  (gadd b6 1).bind fun x42 =>
                  (gcut r10.1 1 (r10.1.length : Int)).bind fun s43 =>
                  (gapp 56 w1 [(⟨b2, ([] : List (List UInt8)), ([] : List (List UInt8))⟩ : SAtOldNew)]).bind fun w44 =>
                  (gsub ((w1.length + 1 : Nat) : Int) 1).bind fun x45 =>
                  (gapp 16 [] ([s43] : List (List UInt8))).bind fun w46 =>
                  if (decide (0 ≤ b3)) = true then
                    if (!(decide (0 ≤ x41))) = true then
                      some ((⟨([] : List SAtOldNew)⟩ : SHunks), (⟨1, x8⟩ : SCodeIndex))
                    else
                      (gadd x8 1).bind fun x47 =>
                      (unified_Parse_l1 n m1) (some (b2, ([] : List (List UInt8)), w46)) w1 b2 b3 x41 b5 x42 true x47 r10.2.1
                  else
                    some ((⟨([] : List SAtOldNew)⟩ : SHunks), (⟨1, x8⟩ : SCodeIndex))
                else
                  some ((⟨([] : List SAtOldNew)⟩ : SHunks), (⟨1, x8⟩ : SCodeIndex))
    else
      (gadd b3 b4).bind fun x48 =>
      if (decide (0 < x48)) = true then
        some ((⟨([] : List SAtOldNew)⟩ : SHunks), (⟨1, x8⟩ : SCodeIndex))
      else
        (textpatch_Second n (⟨w1⟩ : SHunks) (-2)).bind fun r49 =>
        if ((r49.Code == 0 && (r49.Index == 0 && true)) != true) = true then
          some ((⟨([] : List SAtOldNew)⟩ : SHunks), r49)
        else
          some ((⟨w1⟩ : SHunks), (⟨0, 0⟩ : SCodeIndex))
  | m1 + 1, some (xa, xo, xn), w1, b2, b3, b4, b5, b6, b7, x8, x9 =>
    if (decide (x9 ≠ ([] : List UInt8))) = true then
      (strings_Cut n x9 ([10] : List UInt8)).bind fun r50 =>
      if (!r50.2.2) = true then
        some ((⟨([] : List SAtOldNew)⟩ : SHunks), (⟨1, x8⟩ : SCodeIndex))
      else
        (gadd b3 b4).bind fun x51 =>
        if (decide (x51 = 0)) = true then
          (strings_CutPrefix n r50.1 ([64, 64, 32, 45] : List UInt8)).bind fun r52 =>
          if (!r52.2) = true then
            some ((⟨([] : List SAtOldNew)⟩ : SHunks), (⟨1, x8⟩ : SCodeIndex))
          else
            (unified_number n r52.1 ([44] : List UInt8)).bind fun r53 =>
            if (!r53.2.2) = true then
              some ((⟨([] : List SAtOldNew)⟩ : SHunks), (⟨1, x8⟩ : SCodeIndex))
            else
              (unified_number n r53.2.1 ([32, 43] : List UInt8)).bind fun r54 =>
              if (!r54.2.2) = true then
                some ((⟨([] : List SAtOldNew)⟩ : SHunks), (⟨1, x8⟩ : SCodeIndex))
              else
                (unified_number n r54.2.1 ([44] : List UInt8)).bind fun r55 =>
                if (!r55.2.2) = true then
                  some ((⟨([] : List SAtOldNew)⟩ : SHunks), (⟨1, x8⟩ : SCodeIndex))
                else
                  (unified_number n r55.2.1 ([32, 64, 64] : List UInt8)).bind fun r56 =>
                  if (!r56.2.2) = true then
                    some ((⟨([] : List SAtOldNew)⟩ : SHunks), (⟨1, x8⟩ : SCodeIndex))
                  else
                    (unified_place n r53.1 r54.1).bind fun r57 =>
                    (unified_place n r55.1 r56.1).bind fun r58 =>
                    if (decide (r56.2.1 ≠ ([] : List UInt8))) = true then
                      some ((⟨([] : List SAtOldNew)⟩ : SHunks), (⟨1, x8⟩ : SCodeIndex))
                    else
                      (gadd r54.1 r56.1).bind fun x59 =>
                      if (decide (x59 = 0)) = true then
                        some ((⟨([] : List SAtOldNew)⟩ : SHunks), (⟨1, x8⟩ : SCodeIndex))
                      else
                        if (decide (r57 < b5)) = true then
                          some ((⟨([] : List SAtOldNew)⟩ : SHunks), (⟨1, x8⟩ : SCodeIndex))
                        else
                          (gsub r58 r57).bind fun x60 =>
                          if (decide (x60 ≠ b6)) = true then
                            some ((⟨([] : List SAtOldNew)⟩ : SHunks), (⟨1, x8⟩ : SCodeIndex))
                          else
                            (gsub r57 b5).bind fun x61 =>
                            if (decide (0 < x61)) = true then
                              (gadd b2 x61).bind fun x62 =>
                              (gadd b5 x61).bind fun x63 =>
                              (gadd x8 1).bind fun x64 =>
                              (unified_Parse_l1 n m1) none (w1 ++ [(⟨xa, xo, xn⟩ : SAtOldNew)]) x62 r54.1 r56.1 x63 b6 false x64 r50.2.1
                            else
                              (gadd x8 1).bind fun x65 =>
                              (unified_Parse_l1 n m1) (some (xa, xo, xn)) w1 b2 r54.1 r56.1 b5 b6 b7 x65 r50.2.1
        else
          if (decide (r50.1 = ([] : List UInt8))) = true then
            some ((⟨([] : List SAtOldNew)⟩ : SHunks), (⟨1, x8⟩ : SCodeIndex))
          else
            (gidx r50.1 0).bind fun y66 =>
            if (decide ((y66.toNat : Int) = 32)) = true then
              (gsub b3 1).bind fun x67 =>
              (gsub b4 1).bind fun x68 =>
              (gadd b2 1).bind fun x69 =>
              (gadd b5 1).bind fun x70 =>
              if (decide (0 ≤ x67)) = true then
                if (!(decide (0 ≤ x68))) = true then
                  some ((⟨([] : List SAtOldNew)⟩ : SHunks), (⟨1, x8⟩ : SCodeIndex))
                else
                  (gadd x8 1).bind fun x71 =>
                  (unified_Parse_l1 n m1) none (w1 ++ [(⟨xa, xo, xn⟩ : SAtOldNew)]) x69 x67 x68 x70 b6 false x71 r50.2.1
              else
                some ((⟨([] : List SAtOldNew)⟩ : SHunks), (⟨1, x8⟩ : SCodeIndex))
            else
              if (decide ((y66.toNat : Int) = 45)) = true then
                if b7 = true then
                  some ((⟨([] : List SAtOldNew)⟩ : SHunks), (⟨1, x8⟩ : SCodeIndex))
                else
                  (gsub b3 1).bind fun x72 =>
                  (gadd b5 1).bind fun x73 =>
                  (gsub b6 1).bind fun x74 =>
                  (gcut r50.1 1 (r50.1.length : Int)).bind fun s75 =>
                  (gsub ((w1.length + 1 : Nat) : Int) 1).bind fun x76 =>
                  (gapp 16 xo ([s75] : List (List UInt8))).bind fun w77 =>
                  (gadd b2 1).bind fun x78 =>
                  if (decide (0 ≤ x72)) = true then
                    if (!(decide (0 ≤ b4))) = true then
                      some ((⟨([] : List SAtOldNew)⟩ : SHunks), (⟨1, x8⟩ : SCodeIndex))
                    else
                      (gadd x8 1).bind fun x79 =>
                      (unified_Parse_l1 n m1) (some (xa, w77, xn)) w1 x78 x72 b4 x73 x74 b7 x79 r50.2.1
                  else
                    some ((⟨([] : List SAtOldNew)⟩ : SHunks), (⟨1, x8⟩ : SCodeIndex))
              else
                if (decide ((y66.toNat : Int) = 43)) = true then
                  (gsub b4 1).bind fun x80 =>
                  (gadd b6 1).bind fun x81 =>
                  (gcut r50.1 1 (r50.1.length : Int)).bind fun s82 =>
                  (gsub ((w1.length + 1 : Nat) : Int) 1).bind fun x83 =>
                  (gapp 16 xn ([s82] : List (List UInt8))).bind fun w84 =>
                  if (decide (0 ≤ b3)) = true then
                    if (!(decide (0 ≤ x80))) = true then
                      some ((⟨([] : List SAtOldNew)⟩ : SHunks), (⟨1, x8⟩ : SCodeIndex))
                    else
                      (gadd x8 1).bind fun x85 =>
                      (unified_Parse_l1 n m1) (some (xa, xo, w84)) w1 b2 b3 x80 b5 x81 true x85 r50.2.1
                  else
                    some ((⟨([] : List SAtOldNew)⟩ : SHunks), (⟨1, x8⟩ : SCodeIndex))
                else
                  some ((⟨([] : List SAtOldNew)⟩ : SHunks), (⟨1, x8⟩ : SCodeIndex))
    else
      (gadd b3 b4).bind fun x86 =>
      if (decide (0 < x86)) = true then
        some ((⟨([] : List SAtOldNew)⟩ : SHunks), (⟨1, x8⟩ : SCodeIndex))
      else
        (textpatch_Second n (⟨(w1 ++ [(⟨xa, xo, xn⟩ : SAtOldNew)])⟩ : SHunks) (-2)).bind fun r87 =>
        if ((r87.Code == 0 && (r87.Index == 0 && true)) != true) = true then
          some ((⟨([] : List SAtOldNew)⟩ : SHunks), r87)
        else
          some ((⟨(w1 ++ [(⟨xa, xo, xn⟩ : SAtOldNew)])⟩ : SHunks), (⟨0, 0⟩ : SCodeIndex))
def unified_Parse (n : Nat) (a0 : List UInt8) : Option (SHunks × SCodeIndex) :=
  if (decide (4096 < (a0.length : Int))) = true then
    some ((⟨([] : List SAtOldNew)⟩ : SHunks), (⟨2, 0⟩ : SCodeIndex))
  else
    unified_Parse_l1 n n none ([] : List SAtOldNew) 0 0 0 0 0 false 0 a0
def stack_check_l1 (n : Nat) (a0 : List SHunks) : Nat → Int → Option SCodeIndex
  | 0, _ => none
  | m1 + 1, x1 =>
    if (decide (x1 < (a0.length : Int))) = true then
      (gidx a0 x1).bind fun e2 =>
      (textpatch_Second n e2 x1).bind fun r3 =>
      if ((r3.Code == 0 && (r3.Index == 0 && true)) != true) = true then
        some r3
      else
        (gadd x1 1).bind fun x4 =>
        (stack_check_l1 n a0 m1) x4
    else
      some (⟨0, 0⟩ : SCodeIndex)
def stack_check (n : Nat) (a0 : List SHunks) : Option SCodeIndex :=
  if (decide (12 < (a0.length : Int))) = true then
    some (⟨2, (-1)⟩ : SCodeIndex)
  else
    stack_check_l1 n a0 n 0
def stack_Apply_l1 (n : Nat) (a1 : List SHunks) : Nat → List (List UInt8) → Int → Option ((List (List UInt8)) × SCodeIndex)
  | 0, _, _ => none
  | m1 + 1, x4, x5 =>
    if (decide (x5 < (a1.length : Int))) = true then
      (gidx a1 x5).bind fun e6 =>
      (textpatch_Apply n e6 x4).bind fun r7 =>
      if ((r7.2.Code == 0 && (r7.2.Index == 0 && true)) != true) = true then
        some (([] : List (List UInt8)), (⟨r7.2.Code, x5⟩ : SCodeIndex))
      else
        (gadd x5 1).bind fun x8 =>
        (stack_Apply_l1 n a1 m1) r7.1 x8
    else
      some (x4, (⟨0, 0⟩ : SCodeIndex))
def stack_Apply (n : Nat) (a0 : List (List UInt8)) (a1 : List SHunks) : Option ((List (List UInt8)) × SCodeIndex) :=
  (stack_check n a1).bind fun r1 =>
  if ((r1.Code == 0 && (r1.Index == 0 && true)) != true) = true then
    some (([] : List (List UInt8)), r1)
  else
    (lines_Second n a0 (-2)).bind fun r2 =>
    if ((r2.Code == 0 && (r2.Index == 0 && true)) != true) = true then
      some (([] : List (List UInt8)), r2)
    else
      (gapp 16 [] a0).bind fun w3 =>
      stack_Apply_l1 n a1 n w3 0
def equal_Patch_j1 (n : Nat) (x1 : Int) (lp1 : Int → Option Bool) (x2 : Bool) : Option Bool :=
  if x2 = true then
    some false
  else
    (gadd x1 1).bind fun x3 =>
    lp1 x3
def equal_Patch_l1 (n : Nat) (a0 : SHunks) (a1 : SHunks) : Nat → Int → Option Bool
  | 0, _ => none
  | m1 + 1, x1 =>
    if (decide (x1 < (a0.Hunks.length : Int))) = true then
      (gidx a0.Hunks x1).bind fun e4 =>
      (gidx a1.Hunks x1).bind fun e5 =>
      if (decide (e4.At ≠ e5.At)) = true then
        equal_Patch_j1 n x1 (equal_Patch_l1 n a0 a1 m1) true
      else
        (equal_Strings n e4.Old e5.Old).bind fun r6 =>
        if (!r6) = true then
          equal_Patch_j1 n x1 (equal_Patch_l1 n a0 a1 m1) true
        else
          (equal_Strings n e4.New e5.New).bind fun r7 =>
          equal_Patch_j1 n x1 (equal_Patch_l1 n a0 a1 m1) (!r7)
    else
      some true
def equal_Patch (n : Nat) (a0 : SHunks) (a1 : SHunks) : Option Bool :=
  if (decide ((a0.Hunks.length : Int) ≠ (a1.Hunks.length : Int))) = true then
    some false
  else
    equal_Patch_l1 n a0 a1 n 0
def equal_Patches_l1 (n : Nat) (a0 : List SHunks) (a1 : List SHunks) : Nat → Int → Option Bool
  | 0, _ => none
  | m1 + 1, x1 =>
    if (decide (x1 < (a0.length : Int))) = true then
      (gidx a0 x1).bind fun e2 =>
      (gidx a1 x1).bind fun e3 =>
      (equal_Patch n e2 e3).bind fun r4 =>
      if (!r4) = true then
        some false
      else
        (gadd x1 1).bind fun x5 =>
        (equal_Patches_l1 n a0 a1 m1) x5
    else
      some true
def equal_Patches (n : Nat) (a0 : List SHunks) (a1 : List SHunks) : Option Bool :=
  if (decide ((a0.length : Int) ≠ (a1.length : Int))) = true then
    some false
  else
    equal_Patches_l1 n a0 a1 (n + a0.length) 0
def top_TopStacksSurviveTransport_j1 (n : Nat) (x13 : Bool) : Option Bool :=
  some x13
def top_TopStacksSurviveTransport_l1 (n : Nat) (a0 : List (List UInt8)) (a1 : List SHunks) (a2 : Int) : Nat → List (List UInt8) → List SHunks → Int → Option Bool
  | 0, _, _, _ => none
  | m1 + 1, x1, w2, x3 =>
    if (decide (x3 < (a1.length : Int))) = true then
      (gidx a1 x3).bind fun e4 =>
      (unified_Format n x1 e4 a2).bind fun r5 =>
      if (decide (r5.2.Code ≠ 0)) = true then
        (top_h11Works n).bind fun r6 =>
        some r6
      else
        (unified_Parse n r5.1).bind fun r7 =>
        if (decide (r7.2.Code ≠ 0)) = true then
          some false
        else
          (gapp 24 w2 ([(⟨r7.1.Hunks⟩ : SHunks)] : List SHunks)).bind fun w8 =>
          (textpatch_Apply n (⟨r7.1.Hunks⟩ : SHunks) x1).bind fun r9 =>
          if (decide (r9.2.Code ≠ 0)) = true then
            some false
          else
            (gadd x3 1).bind fun x10 =>
            (top_TopStacksSurviveTransport_l1 n a0 a1 a2 m1) r9.1 w8 x10
    else
      (stack_Apply n a0 a1).bind fun r11 =>
      (stack_Apply n a0 w2).bind fun r12 =>
      (equal_Patches n w2 a1).bind fun r14 =>
      if r14 = true then
        if ((r11.2.Code == r12.2.Code && (r11.2.Index == r12.2.Index && true)) != false) = true then
          (equal_Strings n r11.1 r12.1).bind fun r15 =>
          if r15 = true then
            if (decide (r11.2.Code ≠ 0)) = true then
              (top_h11Works n).bind fun r16 =>
              top_TopStacksSurviveTransport_j1 n r16
            else
              (equal_Strings n r11.1 x1).bind fun r17 =>
              if r17 = true then
                (top_h11Works n).bind fun r18 =>
                top_TopStacksSurviveTransport_j1 n r18
              else
                top_TopStacksSurviveTransport_j1 n false
          else
            top_TopStacksSurviveTransport_j1 n false
        else
          top_TopStacksSurviveTransport_j1 n false
      else
        top_TopStacksSurviveTransport_j1 n false
def top_TopStacksSurviveTransport (n : Nat) (a0 : List (List UInt8)) (a1 : List SHunks) (a2 : Int) : Option Bool :=
  top_TopStacksSurviveTransport_l1 n a0 a1 a2 (n + a1.length) a0 ([] : List SHunks) 0
end Go.Proofs.YtjmmlddioeehbaaGreatDoor
