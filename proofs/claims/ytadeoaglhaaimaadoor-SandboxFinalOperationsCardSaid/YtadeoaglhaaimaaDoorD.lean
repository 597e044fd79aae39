/- The types of the functions, and what the functions compute: partial operations as options; n is the fuel of each loop. Laid by a program (wip/gen/dec.py). -/
import Derived.Test.YtadeoaglhaaimaaDoorPwDec
import Derived.Test.YtadeoaglhaaimaaDoorPwSplit
import Derived.Test.YtadeoaglhaaimaaDoorPwEat
set_option linter.unusedVariables false
namespace Go.Proofs.YtadeoaglhaaimaaDoor
open Go.PW Go
structure SCodeIndex where
  Code : Int
  Index : Int
  deriving DecidableEq
def SCodeIndex.cells (x : SCodeIndex) : List PV := [.int .i64 x.Code, .int .i64 x.Index]
structure SKindText where
  Kind : Int
  Text : List UInt8
  deriving DecidableEq
def SKindText.cells (x : SKindText) : List PV := [.int .i64 x.Kind, .str x.Text]
structure SInputsOpsOutput where
  Inputs : List (List UInt8)
  Ops : List SKindText
  Output : List UInt8
  deriving DecidableEq
def SInputsOpsOutput.cells (x : SInputsOpsOutput) : List PV := [.list 1 (List.map cS x.Inputs), .list 2 (List.map SKindText.cells x.Ops), .str x.Output]
structure SPathLines where
  Path : List UInt8
  Lines : List (List UInt8)
  deriving DecidableEq
def SPathLines.cells (x : SPathLines) : List PV := [.str x.Path, .list 1 (List.map cS x.Lines)]
structure SFiles where
  Files : List SPathLines
  deriving DecidableEq
def SFiles.cells (x : SFiles) : List PV := [.list 2 (List.map SPathLines.cells x.Files)]
/- changeforge/changeforgeref6.fault -/
def ref6_fault (n : Nat) (a0 : Int) (a1 : Int) : Option SCodeIndex :=
  some (⟨a0, a1⟩ : SCodeIndex)

/- changeforge/changeforgeref2.pathByte -/
def ref2_pathByte_j1 (n : Nat) (x1 : Bool) : Option Bool :=
  some x1
def ref2_pathByte (n : Nat) (a0 : Int) : Option Bool :=
  if (decide (97 ≤ a0)) = true then
    if (decide (a0 ≤ 122)) = true then
      ref2_pathByte_j1 n true
    else
      if (decide (65 ≤ a0)) = true then
        if (decide (a0 ≤ 90)) = true then
          ref2_pathByte_j1 n true
        else
          if (decide (48 ≤ a0)) = true then
            if (decide (a0 ≤ 57)) = true then
              ref2_pathByte_j1 n true
            else
              if (decide (a0 = 46)) = true then
                ref2_pathByte_j1 n true
              else
                if (decide (a0 = 95)) = true then
                  ref2_pathByte_j1 n true
                else
                  ref2_pathByte_j1 n (decide (a0 = 45))
          else
            if (decide (a0 = 46)) = true then
              ref2_pathByte_j1 n true
            else
              if (decide (a0 = 95)) = true then
                ref2_pathByte_j1 n true
              else
                ref2_pathByte_j1 n (decide (a0 = 45))
      else
        if (decide (48 ≤ a0)) = true then
          if (decide (a0 ≤ 57)) = true then
            ref2_pathByte_j1 n true
          else
            if (decide (a0 = 46)) = true then
              ref2_pathByte_j1 n true
            else
              if (decide (a0 = 95)) = true then
                ref2_pathByte_j1 n true
              else
                ref2_pathByte_j1 n (decide (a0 = 45))
        else
          if (decide (a0 = 46)) = true then
            ref2_pathByte_j1 n true
          else
            if (decide (a0 = 95)) = true then
              ref2_pathByte_j1 n true
            else
              ref2_pathByte_j1 n (decide (a0 = 45))
  else
    if (decide (65 ≤ a0)) = true then
      if (decide (a0 ≤ 90)) = true then
        ref2_pathByte_j1 n true
      else
        if (decide (48 ≤ a0)) = true then
          if (decide (a0 ≤ 57)) = true then
            ref2_pathByte_j1 n true
          else
            if (decide (a0 = 46)) = true then
              ref2_pathByte_j1 n true
            else
              if (decide (a0 = 95)) = true then
                ref2_pathByte_j1 n true
              else
                ref2_pathByte_j1 n (decide (a0 = 45))
        else
          if (decide (a0 = 46)) = true then
            ref2_pathByte_j1 n true
          else
            if (decide (a0 = 95)) = true then
              ref2_pathByte_j1 n true
            else
              ref2_pathByte_j1 n (decide (a0 = 45))
    else
      if (decide (48 ≤ a0)) = true then
        if (decide (a0 ≤ 57)) = true then
          ref2_pathByte_j1 n true
        else
          if (decide (a0 = 46)) = true then
            ref2_pathByte_j1 n true
          else
            if (decide (a0 = 95)) = true then
              ref2_pathByte_j1 n true
            else
              ref2_pathByte_j1 n (decide (a0 = 45))
      else
        if (decide (a0 = 46)) = true then
          ref2_pathByte_j1 n true
        else
          if (decide (a0 = 95)) = true then
            ref2_pathByte_j1 n true
          else
            ref2_pathByte_j1 n (decide (a0 = 45))

/- changeforge/changeforgeref2.PathValid -/
def ref2_PathValid_j1 (n : Nat) (x3 : Int) (lp1 : Int → Int → Option Bool) (x4 : Int) : Option Bool :=
  (gsub x3 1).bind fun x5 =>
  lp1 x4 x5
def ref2_PathValid_j3 (n : Nat) (x3 : Int) (lp1 : Int → Int → Option Bool) (x11 : Bool) : Option Bool :=
  if x11 = true then
    some false
  else
    ref2_PathValid_j1 n x3 lp1 x3
def ref2_PathValid_j2 (n : Nat) (a0 : List UInt8) (x2 : Int) (x3 : Int) (lp1 : Int → Int → Option Bool) (x6 : Bool) : Option Bool :=
  if x6 = true then
    (gidx a0 x3).bind fun y7 =>
    (ref2_pathByte n (y7.toNat : Int)).bind fun r8 =>
    if (!r8) = true then
      some false
    else
      ref2_PathValid_j1 n x3 lp1 x2
  else
    (gadd x3 1).bind fun x9 =>
    (gcut a0 x9 x2).bind fun s10 =>
    if (decide (s10 = ([] : List UInt8))) = true then
      ref2_PathValid_j3 n x3 lp1 true
    else
      if (decide (s10 = ([46] : List UInt8))) = true then
        ref2_PathValid_j3 n x3 lp1 true
      else
        ref2_PathValid_j3 n x3 lp1 (decide (s10 = ([46, 46] : List UInt8)))
def ref2_PathValid_l1 (n : Nat) (a0 : List UInt8) : Nat → Int → Int → Option Bool
  | 0, _, _ => none
  | m1 + 1, x2, x3 =>
    if (decide ((-1) ≤ x3)) = true then
      if (decide (0 ≤ x3)) = true then
        (gidx a0 x3).bind fun y12 =>
        ref2_PathValid_j2 n a0 x2 x3 (ref2_PathValid_l1 n a0 m1) (decide ((y12.toNat : Int) ≠ 47))
      else
        ref2_PathValid_j2 n a0 x2 x3 (ref2_PathValid_l1 n a0 m1) false
    else
      some true
def ref2_PathValid (n : Nat) (a0 : List UInt8) : Option Bool :=
  if (decide (60 < (a0.length : Int))) = true then
    some false
  else
    (gsub (a0.length : Int) 1).bind fun x1 =>
    ref2_PathValid_l1 n a0 n (a0.length : Int) x1

/- changeforge/changeforgeref6.lineCode -/
def ref6_lineCode_l2 (n : Nat) (x1 : Int) (lp1 : Int → Option Int) (e2 : List UInt8) : Nat → Int → Option Int
  | 0, _ => none
  | m2 + 1, x3 =>
    if (decide (x3 < (e2.length : Int))) = true then
      (gidx e2 x3).bind fun y4 =>
      if (decide ((y4.toNat : Int) = 10)) = true then
        some 5
      else
        (gadd x3 1).bind fun x5 =>
        (ref6_lineCode_l2 n x1 lp1 e2 m2) x5
    else
      (gadd x1 1).bind fun x6 =>
      lp1 x6
def ref6_lineCode_l1 (n : Nat) (a0 : List (List UInt8)) : Nat → Int → Option Int
  | 0, _ => none
  | m1 + 1, x1 =>
    if (decide (x1 < (a0.length : Int))) = true then
      (gidx a0 x1).bind fun e2 =>
      if (decide (80 < (e2.length : Int))) = true then
        some 2
      else
        ref6_lineCode_l2 n x1 (ref6_lineCode_l1 n a0 m1) e2 n 0
    else
      some 0
def ref6_lineCode (n : Nat) (a0 : List (List UInt8)) : Option Int :=
  if (decide (120 < (a0.length : Int))) = true then
    some 2
  else
    ref6_lineCode_l1 n a0 n 0

/- changeforge/changeforgeref6.opCode -/
def ref6_opCode_j2 (n : Nat) (a0 : SKindText) (x4 : Bool) : Option Int :=
  if x4 = true then
    if (decide (a0.Text ≠ ([] : List UInt8))) = true then
      some 5
    else
      some 0
  else
    some 4
def ref6_opCode_j1 (n : Nat) (a0 : SKindText) (x1 : Bool) : Option Int :=
  if x1 = true then
    (ref2_PathValid n a0.Text).bind fun r2 =>
    if (!r2) = true then
      some 12
    else
      some 0
  else
    if (decide (a0.Kind = 3)) = true then
      (ref6_lineCode n ([a0.Text] : List (List UInt8))).bind fun r3 =>
      some r3
    else
      if (decide (a0.Kind = 4)) = true then
        ref6_opCode_j2 n a0 true
      else
        ref6_opCode_j2 n a0 (decide (a0.Kind = 5))
def ref6_opCode (n : Nat) (a0 : SKindText) : Option Int :=
  if (decide (a0.Kind = 1)) = true then
    ref6_opCode_j1 n a0 true
  else
    ref6_opCode_j1 n a0 (decide (a0.Kind = 2))

/- changeforge/changeforgeref6.ActionFault -/
def ref6_ActionFault_j2 (n : Nat) (x3 : Int) (lp1 : Int → Option SCodeIndex) (x7 : Bool) : Option SCodeIndex :=
  if x7 = true then
    (ref6_fault n 5 x3).bind fun r8 =>
    some r8
  else
    (gadd x3 1).bind fun x9 =>
    lp1 x9
def ref6_ActionFault_l2 (n : Nat) (a0 : SInputsOpsOutput) : Nat → Int → Option SCodeIndex
  | 0, _ => none
  | m2 + 1, x14 =>
    if (decide (x14 < (a0.Ops.length : Int))) = true then
      (gidx a0.Ops x14).bind fun e15 =>
      (ref6_opCode n e15).bind fun r16 =>
      if (decide (r16 ≠ 0)) = true then
        (gsub (-3) x14).bind fun x17 =>
        (ref6_fault n r16 x17).bind fun r18 =>
        some r18
      else
        (gadd x14 1).bind fun x19 =>
        (ref6_ActionFault_l2 n a0 m2) x19
    else
      some (⟨0, 0⟩ : SCodeIndex)
def ref6_ActionFault_l1 (n : Nat) (a0 : SInputsOpsOutput) : Nat → Int → Option SCodeIndex
  | 0, _ => none
  | m1 + 1, x3 =>
    if (decide (x3 < (a0.Inputs.length : Int))) = true then
      (gidx a0.Inputs x3).bind fun e4 =>
      (ref2_PathValid n e4).bind fun r5 =>
      if (!r5) = true then
        (ref6_fault n 12 x3).bind fun r6 =>
        some r6
      else
        if (decide (0 < x3)) = true then
          (gsub x3 1).bind fun x10 =>
          (gidx a0.Inputs x10).bind fun e11 =>
          ref6_ActionFault_j2 n x3 (ref6_ActionFault_l1 n a0 m1) (Op.bytesLess e4 e11 || e4 == e11)
        else
          ref6_ActionFault_j2 n x3 (ref6_ActionFault_l1 n a0 m1) false
    else
      (ref2_PathValid n a0.Output).bind fun r12 =>
      if (!r12) = true then
        (ref6_fault n 12 (-2)).bind fun r13 =>
        some r13
      else
        ref6_ActionFault_l2 n a0 n 0
def ref6_ActionFault_j1 (n : Nat) (a0 : SInputsOpsOutput) (x1 : Bool) : Option SCodeIndex :=
  if x1 = true then
    (ref6_fault n 2 (-1)).bind fun r2 =>
    some r2
  else
    ref6_ActionFault_l1 n a0 n 0
def ref6_ActionFault (n : Nat) (a0 : SInputsOpsOutput) : Option SCodeIndex :=
  if (decide (8 < (a0.Inputs.length : Int))) = true then
    ref6_ActionFault_j1 n a0 true
  else
    ref6_ActionFault_j1 n a0 (decide (16 < (a0.Ops.length : Int)))

/- changeforge/treepatch.ValidPath -/
def treepatch_ValidPath (n : Nat) (a0 : List UInt8) : Option Bool :=
  some (libValidPath a0)

/- strings.IndexByte -/
def strings_IndexByte (n : Nat) (a0 : List UInt8) (a1 : Int) : Option Int :=
  some (libIndexByte a0 a1)

/- changeforge/lines.Validate -/
def lines_Validate_l1 (n : Nat) (a0 : List (List UInt8)) : Nat → Int → Option SCodeIndex
  | 0, _ => none
  | m1 + 1, x1 =>
    if (decide (x1 < (a0.length : Int))) = true then
      (gidx a0 x1).bind fun e2 =>
      if (decide (80 < (e2.length : Int))) = true then
        some (⟨2, x1⟩ : SCodeIndex)
      else
        (strings_IndexByte n e2 10).bind fun r3 =>
        if (decide (0 ≤ r3)) = true then
          some (⟨5, x1⟩ : SCodeIndex)
        else
          (gadd x1 1).bind fun x4 =>
          (lines_Validate_l1 n a0 m1) x4
    else
      some (⟨0, 0⟩ : SCodeIndex)
def lines_Validate (n : Nat) (a0 : List (List UInt8)) : Option SCodeIndex :=
  if (decide (120 < (a0.length : Int))) = true then
    some (⟨2, (-1)⟩ : SCodeIndex)
  else
    lines_Validate_l1 n a0 n 0

/- changeforge/sandbox.checkOp -/
def sandbox_checkOp_j1 (n : Nat) : Option Int :=
  some 0
def sandbox_checkOp_j3 (n : Nat) (a0 : SKindText) (x4 : Bool) : Option Int :=
  if x4 = true then
    if (decide (a0.Text ≠ ([] : List UInt8))) = true then
      some 5
    else
      sandbox_checkOp_j1 n
  else
    some 4
def sandbox_checkOp_j2 (n : Nat) (a0 : SKindText) (x1 : Bool) : Option Int :=
  if x1 = true then
    (treepatch_ValidPath n a0.Text).bind fun r2 =>
    if (!r2) = true then
      some 12
    else
      sandbox_checkOp_j1 n
  else
    if (decide (a0.Kind = 3)) = true then
      (lines_Validate n ([a0.Text] : List (List UInt8))).bind fun r3 =>
      some r3.Code
    else
      if (decide (a0.Kind = 4)) = true then
        sandbox_checkOp_j3 n a0 (decide (a0.Kind = 4))
      else
        sandbox_checkOp_j3 n a0 (decide (a0.Kind = 5))
def sandbox_checkOp (n : Nat) (a0 : SKindText) : Option Int :=
  if (decide (a0.Kind = 1)) = true then
    sandbox_checkOp_j2 n a0 (decide (a0.Kind = 1))
  else
    sandbox_checkOp_j2 n a0 (decide (a0.Kind = 2))

/- changeforge/sandbox.Validate -/
def sandbox_Validate_j2 (n : Nat) (x2 : Int) (lp1 : Int → Option SCodeIndex) (x5 : Bool) : Option SCodeIndex :=
  if x5 = true then
    some (⟨5, x2⟩ : SCodeIndex)
  else
    (gadd x2 1).bind fun x6 =>
    lp1 x6
def sandbox_Validate_l2 (n : Nat) (a0 : SInputsOpsOutput) : Nat → Int → Option SCodeIndex
  | 0, _ => none
  | m2 + 1, x10 =>
    if (decide (x10 < (a0.Ops.length : Int))) = true then
      (gidx a0.Ops x10).bind fun e11 =>
      (sandbox_checkOp n e11).bind fun r12 =>
      if (decide (r12 ≠ 0)) = true then
        (gsub (-3) x10).bind fun x13 =>
        some (⟨r12, x13⟩ : SCodeIndex)
      else
        (gadd x10 1).bind fun x14 =>
        (sandbox_Validate_l2 n a0 m2) x14
    else
      some (⟨0, 0⟩ : SCodeIndex)
def sandbox_Validate_l1 (n : Nat) (a0 : SInputsOpsOutput) : Nat → Int → Option SCodeIndex
  | 0, _ => none
  | m1 + 1, x2 =>
    if (decide (x2 < (a0.Inputs.length : Int))) = true then
      (gidx a0.Inputs x2).bind fun e3 =>
      (treepatch_ValidPath n e3).bind fun r4 =>
      if (!r4) = true then
        some (⟨12, x2⟩ : SCodeIndex)
      else
        if (decide (0 < x2)) = true then
          (gsub x2 1).bind fun x7 =>
          (gidx a0.Inputs x7).bind fun e8 =>
          sandbox_Validate_j2 n x2 (sandbox_Validate_l1 n a0 m1) (Op.bytesLess e3 e8 || e3 == e8)
        else
          sandbox_Validate_j2 n x2 (sandbox_Validate_l1 n a0 m1) false
    else
      (treepatch_ValidPath n a0.Output).bind fun r9 =>
      if (!r9) = true then
        some (⟨12, (-2)⟩ : SCodeIndex)
      else
        sandbox_Validate_l2 n a0 n 0
def sandbox_Validate_j1 (n : Nat) (a0 : SInputsOpsOutput) (x1 : Bool) : Option SCodeIndex :=
  if x1 = true then
    some (⟨2, (-1)⟩ : SCodeIndex)
  else
    sandbox_Validate_l1 n a0 n 0
def sandbox_Validate (n : Nat) (a0 : SInputsOpsOutput) : Option SCodeIndex :=
  if (decide (8 < (a0.Inputs.length : Int))) = true then
    sandbox_Validate_j1 n a0 true
  else
    sandbox_Validate_j1 n a0 (decide (16 < (a0.Ops.length : Int)))

/- changeforge/sandbox.Reads -/
def sandbox_Reads_j1 (n : Nat) (x3 : Int) (lp1 : (List (List UInt8)) → Int → Option ((List (List UInt8)) × SCodeIndex)) (w4 : List (List UInt8)) : Option ((List (List UInt8)) × SCodeIndex) :=
  (gadd x3 1).bind fun x5 =>
  lp1 w4 x5
def sandbox_Reads_j2 (n : Nat) (w2 : List (List UInt8)) (x3 : Int) (lp1 : (List (List UInt8)) → Int → Option ((List (List UInt8)) × SCodeIndex)) (e6 : SKindText) (x7 : Bool) : Option ((List (List UInt8)) × SCodeIndex) :=
  if x7 = true then
    (gapp 16 w2 ([e6.Text] : List (List UInt8))).bind fun w8 =>
    sandbox_Reads_j1 n x3 lp1 w8
  else
    sandbox_Reads_j1 n x3 lp1 w2
def sandbox_Reads_j3 (n : Nat) (x9 : List (List UInt8)) : Option ((List (List UInt8)) × SCodeIndex) :=
  some (x9, (⟨0, 0⟩ : SCodeIndex))
def sandbox_Reads_j4 (n : Nat) (x17 : Int) (lp3 : (List (List UInt8)) → Int → Int → Option ((List (List UInt8)) × SCodeIndex)) (w19 : List (List UInt8)) (x20 : Int) : Option ((List (List UInt8)) × SCodeIndex) :=
  (gadd x17 1).bind fun x21 =>
  lp3 w19 x20 x21
def sandbox_Reads_l3 (n : Nat) (w2 : List (List UInt8)) (x10 : Int) : Nat → List (List UInt8) → Int → Int → Option ((List (List UInt8)) × SCodeIndex)
  | 0, _, _, _ => none
  | m3 + 1, w15, x16, x17 =>
    (gcut w15 x10 ((sortedS w2).length : Int)).bind fun s18 =>
    if (decide (x17 < (s18.length : Int))) = true then
      (gidx s18 x17).bind fun e22 =>
      (gidx w15 (x10 + x17)).bind fun e23 =>
      (gsub x17 1).bind fun x24 =>
      (gidx s18 x24).bind fun e25 =>
      (gidx w15 (x10 + x24)).bind fun e26 =>
      if (decide (e23 ≠ e26)) = true then
        (gidx w15 x16).bind fun e27 =>
        (gadd x16 1).bind fun x28 =>
        sandbox_Reads_j4 n x17 (sandbox_Reads_l3 n w2 x10 m3) (gset w15 x16 e23) x28
      else
        sandbox_Reads_j4 n x17 (sandbox_Reads_l3 n w2 x10 m3) w15 x16
    else
      (gcut w15 x16 (w15.length : Int)).bind fun s29 =>
      (gcut (gclear w15 x16.toNat (w15.length : Int).toNat ([] : List UInt8)) 0 x16).bind fun s30 =>
      sandbox_Reads_j3 n s30
def sandbox_Reads_l2 (n : Nat) (w2 : List (List UInt8)) : Nat → Int → Option ((List (List UInt8)) × SCodeIndex)
  | 0, _ => none
  | m2 + 1, x10 =>
    if (decide (x10 < ((sortedS w2).length : Int))) = true then
      (gidx (sortedS w2) x10).bind fun e11 =>
      (gsub x10 1).bind fun x12 =>
      (gidx (sortedS w2) x12).bind fun e13 =>
      if (decide (e11 = e13)) = true then
        (gcut (sortedS w2) x10 ((sortedS w2).length : Int)).bind fun s14 =>
        sandbox_Reads_l3 n w2 x10 n (sortedS w2) x10 1
      else
        (gadd x10 1).bind fun x31 =>
        (sandbox_Reads_l2 n w2 m2) x31
    else
      sandbox_Reads_j3 n (sortedS w2)
def sandbox_Reads_l1 (n : Nat) (a0 : SInputsOpsOutput) : Nat → List (List UInt8) → Int → Option ((List (List UInt8)) × SCodeIndex)
  | 0, _, _ => none
  | m1 + 1, w2, x3 =>
    if (decide (x3 < (a0.Ops.length : Int))) = true then
      (gidx a0.Ops x3).bind fun e6 =>
      if (decide (e6.Kind = 1)) = true then
        sandbox_Reads_j2 n w2 x3 (sandbox_Reads_l1 n a0 m1) e6 true
      else
        sandbox_Reads_j2 n w2 x3 (sandbox_Reads_l1 n a0 m1) e6 (decide (e6.Kind = 2))
    else
      if (decide (((sortedS w2).length : Int) < 2)) = true then
        sandbox_Reads_j3 n (sortedS w2)
      else
        sandbox_Reads_l2 n w2 n 1
def sandbox_Reads (n : Nat) (a0 : SInputsOpsOutput) : Option ((List (List UInt8)) × SCodeIndex) :=
  (sandbox_Validate n a0).bind fun r1 =>
  if ((r1.Code == 0 && (r1.Index == 0 && true)) != true) = true then
    some (([] : List (List UInt8)), r1)
  else
    sandbox_Reads_l1 n a0 n ([] : List (List UInt8)) 0

/- changeforge/changeforgeref6.Strings -/
def ref6_Strings_l1 (n : Nat) (a0 : List (List UInt8)) (a1 : List (List UInt8)) : Nat → Int → Option Bool
  | 0, _ => none
  | m1 + 1, x1 =>
    if (decide (x1 < (a0.length : Int))) = true then
      (gidx a0 x1).bind fun e2 =>
      (gidx a1 x1).bind fun e3 =>
      if (decide (e2 ≠ e3)) = true then
        some false
      else
        (gadd x1 1).bind fun x4 =>
        (ref6_Strings_l1 n a0 a1 m1) x4
    else
      some true
def ref6_Strings (n : Nat) (a0 : List (List UInt8)) (a1 : List (List UInt8)) : Option Bool :=
  if (decide ((a0.length : Int) ≠ (a1.length : Int))) = true then
    some false
  else
    ref6_Strings_l1 n a0 a1 n 0

/- internal/stringslite.HasPrefix -/
def internal_stringslite_HasPrefix_j1 (n : Nat) (x1 : Bool) : Option Bool :=
  some x1
def internal_stringslite_HasPrefix (n : Nat) (a0 : List UInt8) (a1 : List UInt8) : Option Bool :=
  if (decide ((a1.length : Int) ≤ (a0.length : Int))) = true then
    (gcut a0 0 (a1.length : Int)).bind fun s2 =>
    internal_stringslite_HasPrefix_j1 n (decide (s2 = a1))
  else
    internal_stringslite_HasPrefix_j1 n false

/- strings.HasPrefix -/
def strings_HasPrefix (n : Nat) (a0 : List UInt8) (a1 : List UInt8) : Option Bool :=
  (internal_stringslite_HasPrefix n a0 a1).bind fun r1 =>
  some r1

/- changeforge/treepatch.Related -/
def treepatch_Related_j1 (n : Nat) (x1 : Bool) : Option Bool :=
  some x1
def treepatch_Related (n : Nat) (a0 : List UInt8) (a1 : List UInt8) : Option Bool :=
  if (decide (a0 = a1)) = true then
    treepatch_Related_j1 n true
  else
    (gcat a1 ([47] : List UInt8)).bind fun s2 =>
    (strings_HasPrefix n a0 s2).bind fun r3 =>
    if r3 = true then
      treepatch_Related_j1 n true
    else
      (gcat a0 ([47] : List UInt8)).bind fun s4 =>
      (strings_HasPrefix n a1 s4).bind fun r5 =>
      treepatch_Related_j1 n r5

/- changeforge/treepatch.Clash -/
def treepatch_Clash_j1 (n : Nat) (x1 : Int) (lp1 : Int → Option Bool) (x3 : Bool) : Option Bool :=
  if x3 = true then
    some true
  else
    (gadd x1 1).bind fun x4 =>
    lp1 x4
def treepatch_Clash_l1 (n : Nat) (a0 : List SPathLines) (a1 : List UInt8) (a2 : Int) : Nat → Int → Option Bool
  | 0, _ => none
  | m1 + 1, x1 =>
    if (decide (x1 < (a0.length : Int))) = true then
      (gidx a0 x1).bind fun e2 =>
      if (decide (x1 ≠ a2)) = true then
        (treepatch_Related n e2.Path a1).bind fun r5 =>
        treepatch_Clash_j1 n x1 (treepatch_Clash_l1 n a0 a1 a2 m1) r5
      else
        treepatch_Clash_j1 n x1 (treepatch_Clash_l1 n a0 a1 a2 m1) false
    else
      some false
def treepatch_Clash (n : Nat) (a0 : List SPathLines) (a1 : List UInt8) (a2 : Int) : Option Bool :=
  treepatch_Clash_l1 n a0 a1 a2 n 0

/- changeforge/lines.Second -/
def lines_Second (n : Nat) (a0 : List (List UInt8)) (a1 : Int) : Option SCodeIndex :=
  (lines_Validate n a0).bind fun r1 =>
  if ((r1.Code == 0 && (r1.Index == 0 && true)) != true) = true then
    some (⟨r1.Code, a1⟩ : SCodeIndex)
  else
    some (⟨0, 0⟩ : SCodeIndex)

/- changeforge/treepatch.Validate -/
def treepatch_Validate_j1 (n : Nat) (a0 : SFiles) (x1 : Int) (lp1 : Int → Option SCodeIndex) (e2 : SPathLines) (x4 : Bool) : Option SCodeIndex :=
  if x4 = true then
    some (⟨5, x1⟩ : SCodeIndex)
  else
    (gcut a0.Files 0 x1).bind fun s5 =>
    (treepatch_Clash n s5 e2.Path (-1)).bind fun r6 =>
    if r6 = true then
      some (⟨7, x1⟩ : SCodeIndex)
    else
      (lines_Second n e2.Lines x1).bind fun r7 =>
      if ((r7.Code == 0 && (r7.Index == 0 && true)) != true) = true then
        some r7
      else
        (gadd x1 1).bind fun x8 =>
        lp1 x8
def treepatch_Validate_l1 (n : Nat) (a0 : SFiles) : Nat → Int → Option SCodeIndex
  | 0, _ => none
  | m1 + 1, x1 =>
    if (decide (x1 < (a0.Files.length : Int))) = true then
      (gidx a0.Files x1).bind fun e2 =>
      (treepatch_ValidPath n e2.Path).bind fun r3 =>
      if (!r3) = true then
        some (⟨12, x1⟩ : SCodeIndex)
      else
        if (decide (0 < x1)) = true then
          (gsub x1 1).bind fun x9 =>
          (gidx a0.Files x9).bind fun e10 =>
          treepatch_Validate_j1 n a0 x1 (treepatch_Validate_l1 n a0 m1) e2 (Op.bytesLess e2.Path e10.Path || e2.Path == e10.Path)
        else
          treepatch_Validate_j1 n a0 x1 (treepatch_Validate_l1 n a0 m1) e2 false
    else
      some (⟨0, 0⟩ : SCodeIndex)
def treepatch_Validate (n : Nat) (a0 : SFiles) : Option SCodeIndex :=
  if (decide (24 < (a0.Files.length : Int))) = true then
    some (⟨2, (-1)⟩ : SCodeIndex)
  else
    treepatch_Validate_l1 n a0 n 0

/- changeforge/treepatch.Second -/
def treepatch_Second (n : Nat) (a0 : SFiles) (a1 : Int) : Option SCodeIndex :=
  (treepatch_Validate n a0).bind fun r1 =>
  if ((r1.Code == 0 && (r1.Index == 0 && true)) != true) = true then
    some (⟨r1.Code, a1⟩ : SCodeIndex)
  else
    some (⟨0, 0⟩ : SCodeIndex)

/- changeforge/sandbox.Arguments -/
def sandbox_Arguments (n : Nat) (a0 : SInputsOpsOutput) (a1 : SFiles) : Option SCodeIndex :=
  (sandbox_Validate n a0).bind fun r1 =>
  if ((r1.Code == 0 && (r1.Index == 0 && true)) != true) = true then
    some r1
  else
    (treepatch_Second n a1 (-20)).bind fun r2 =>
    some r2

/- slices.Clone[[]string,string] -/
def slices_Clone_string (n : Nat) (a0 : List (List UInt8)) : Option (List (List UInt8)) :=
  (gapp 16 [] a0).bind fun w => some w

/- slices.Index[[]string,string] -/
def slices_Index_string_l1 (n : Nat) (a0 : List (List UInt8)) (a1 : List UInt8) : Nat → Int → Option Int
  | 0, _ => none
  | m1 + 1, x1 =>
    if (decide (x1 < (a0.length : Int))) = true then
      (gidx a0 x1).bind fun e2 =>
      if (decide (a1 = e2)) = true then
        some x1
      else
        (gadd x1 1).bind fun x3 =>
        (slices_Index_string_l1 n a0 a1 m1) x3
    else
      some (-1)
def slices_Index_string (n : Nat) (a0 : List (List UInt8)) (a1 : List UInt8) : Option Int :=
  slices_Index_string_l1 n a0 a1 n 0

/- slices.Contains[[]string,string] -/
def slices_Contains_string (n : Nat) (a0 : List (List UInt8)) (a1 : List UInt8) : Option Bool :=
  (slices_Index_string n a0 a1).bind fun r1 =>
  some (decide (0 ≤ r1))

/- changeforge/sandbox.Restrict -/
def sandbox_Restrict_j2 (n : Nat) (x3 : List SPathLines) (b4 : List SPathLines) : Option (SFiles × SCodeIndex) :=
  some ((⟨x3⟩ : SFiles), (⟨0, 0⟩ : SCodeIndex))
def sandbox_Restrict_j4 (n : Nat) (x9 : Int) (lp1 : (List SPathLines) → Int → Int → Option (SFiles × SCodeIndex)) (w10 : List SPathLines) (x11 : Int) : Option (SFiles × SCodeIndex) :=
  (gadd x9 1).bind fun x12 =>
  lp1 w10 x11 x12
def sandbox_Restrict_j5 (n : Nat) (w7 : List SPathLines) (x8 : Int) (x9 : Int) (lp1 : (List SPathLines) → Int → Int → Option (SFiles × SCodeIndex)) (e13 : SPathLines) (x14 : Bool) : Option (SFiles × SCodeIndex) :=
  if (!x14) = true then
    (gidx w7 x8).bind fun e15 =>
    (gadd x8 1).bind fun x16 =>
    sandbox_Restrict_j4 n x9 lp1 (gset w7 x8 e13) x16
  else
    sandbox_Restrict_j4 n x9 lp1 w7 x8
def sandbox_Restrict_l1 (n : Nat) (a0 : SInputsOpsOutput) : Nat → List SPathLines → Int → Int → Option (SFiles × SCodeIndex)
  | 0, _, _, _ => none
  | m1 + 1, w7, x8, x9 =>
    if (decide (x9 < (w7.length : Int))) = true then
      (gidx w7 x9).bind fun e13 =>
      (slices_Contains_string n a0.Inputs e13.Path).bind fun r17 =>
      sandbox_Restrict_j5 n w7 x8 x9 (sandbox_Restrict_l1 n a0 m1) e13 (!r17)
    else
      (gcut w7 x8 (w7.length : Int)).bind fun s18 =>
      (gcut (gclear w7 x8.toNat (w7.length : Int).toNat (⟨([] : List UInt8), ([] : List (List UInt8))⟩ : SPathLines)) 0 x8).bind fun s19 =>
      sandbox_Restrict_j2 n s19 (gclear w7 x8.toNat (w7.length : Int).toNat (⟨([] : List UInt8), ([] : List (List UInt8))⟩ : SPathLines))
def sandbox_Restrict_j3 (n : Nat) (a0 : SInputsOpsOutput) (w2 : List SPathLines) (x5 : Int) : Option (SFiles × SCodeIndex) :=
  if (decide (x5 = (-1))) = true then
    sandbox_Restrict_j2 n w2 w2
  else
    (gadd x5 1).bind fun x6 =>
    sandbox_Restrict_l1 n a0 n w2 x5 x6
def sandbox_Restrict_j6 (n : Nat) (a0 : SInputsOpsOutput) (w2 : List SPathLines) (x20 : Int) (lp2 : Int → Option (SFiles × SCodeIndex)) (x22 : Bool) : Option (SFiles × SCodeIndex) :=
  if x22 = true then
    sandbox_Restrict_j3 n a0 w2 x20
  else
    (gadd x20 1).bind fun x23 =>
    lp2 x23
def sandbox_Restrict_l2 (n : Nat) (a0 : SInputsOpsOutput) (w2 : List SPathLines) : Nat → Int → Option (SFiles × SCodeIndex)
  | 0, _ => none
  | m2 + 1, x20 =>
    if (decide (x20 < (w2.length : Int))) = true then
      (gidx w2 x20).bind fun e21 =>
      (slices_Contains_string n a0.Inputs e21.Path).bind fun r24 =>
      sandbox_Restrict_j6 n a0 w2 x20 (sandbox_Restrict_l2 n a0 w2 m2) (!r24)
    else
      sandbox_Restrict_j3 n a0 w2 (-1)
def sandbox_Restrict_j1 (n : Nat) (a0 : SInputsOpsOutput) (w2 : List SPathLines) : Option (SFiles × SCodeIndex) :=
  sandbox_Restrict_l2 n a0 w2 n 0
def sandbox_Restrict_l3 (n : Nat) (a0 : SInputsOpsOutput) (a1 : SFiles) : Nat → List SPathLines → Int → Option (SFiles × SCodeIndex)
  | 0, _, _ => none
  | m3 + 1, w25, x26 =>
    if (decide (x26 < (a1.Files.length : Int))) = true then
      (gidx a1.Files x26).bind fun e27 =>
      (slices_Clone_string n e27.Lines).bind fun r28 =>
      (gapp 40 w25 ([(⟨e27.Path, r28⟩ : SPathLines)] : List SPathLines)).bind fun w29 =>
      (gadd x26 1).bind fun x30 =>
      (sandbox_Restrict_l3 n a0 a1 m3) w29 x30
    else
      sandbox_Restrict_j1 n a0 w25
def sandbox_Restrict (n : Nat) (a0 : SInputsOpsOutput) (a1 : SFiles) : Option (SFiles × SCodeIndex) :=
  (sandbox_Arguments n a0 a1).bind fun r1 =>
  if ((r1.Code == 0 && (r1.Index == 0 && true)) != true) = true then
    some ((⟨([] : List SPathLines)⟩ : SFiles), r1)
  else
    sandbox_Restrict_l3 n a0 a1 n ([] : List SPathLines) 0

/- changeforge/changeforgeref6.Trees -/
def ref6_Trees_j1 (n : Nat) (x1 : Int) (lp1 : Int → Option Bool) (x2 : Bool) : Option Bool :=
  if x2 = true then
    some false
  else
    (gadd x1 1).bind fun x3 =>
    lp1 x3
def ref6_Trees_l1 (n : Nat) (a0 : SFiles) (a1 : SFiles) : Nat → Int → Option Bool
  | 0, _ => none
  | m1 + 1, x1 =>
    if (decide (x1 < (a0.Files.length : Int))) = true then
      (gidx a0.Files x1).bind fun e4 =>
      (gidx a1.Files x1).bind fun e5 =>
      if (decide (e4.Path ≠ e5.Path)) = true then
        ref6_Trees_j1 n x1 (ref6_Trees_l1 n a0 a1 m1) true
      else
        (ref6_Strings n e4.Lines e5.Lines).bind fun r6 =>
        ref6_Trees_j1 n x1 (ref6_Trees_l1 n a0 a1 m1) (!r6)
    else
      some true
def ref6_Trees (n : Nat) (a0 : SFiles) (a1 : SFiles) : Option Bool :=
  if (decide ((a0.Files.length : Int) ≠ (a1.Files.length : Int))) = true then
    some false
  else
    ref6_Trees_l1 n a0 a1 n 0

/- strings.Compare -/
def strings_Compare (n : Nat) (a0 : List UInt8) (a1 : List UInt8) : Option Int :=
  some (libCompare a0 a1)

/- changeforge/treepatch.Find -/
def treepatch_Find_j1 (n : Nat) (x1 : Int) (x2 : Bool) : Option (Int × Bool) :=
  some (x1, x2)
def treepatch_Find_j3 (n : Nat) (x3 : Int) (x4 : Bool) : Option (Int × Bool) :=
  treepatch_Find_j1 n x3 x4
def treepatch_Find_j4 (n : Nat) (x3 : Int) (x6 : Int) : Option (Int × Bool) :=
  treepatch_Find_j3 n x3 (decide (x6 = 0))
def treepatch_Find_j2 (n : Nat) (a0 : List SPathLines) (a1 : List UInt8) (x3 : Int) : Option (Int × Bool) :=
  if (decide (x3 < (a0.length : Int))) = true then
    (gidx a0 x3).bind fun e5 =>
    (strings_Compare n e5.Path a1).bind fun r7 =>
    treepatch_Find_j4 n x3 r7
  else
    treepatch_Find_j3 n x3 false
def treepatch_Find_j5 (n : Nat) (x8 : Int) (x9 : Int) (lp1 : Int → Int → Option (Int × Bool)) (x10 : Int) (x12 : Int) : Option (Int × Bool) :=
  if (decide (x12 < 0)) = true then
    (gadd (IntKind.wrap .i64 (kshr .u64 (IntKind.wrap .u64 x10) 1)) 1).bind fun x13 =>
    lp1 x13 x9
  else
    lp1 x8 (IntKind.wrap .i64 (kshr .u64 (IntKind.wrap .u64 x10) 1))
def treepatch_Find_l1 (n : Nat) (a0 : List SPathLines) (a1 : List UInt8) : Nat → Int → Int → Option (Int × Bool)
  | 0, _, _ => none
  | m1 + 1, x8, x9 =>
    if (decide (x8 < x9)) = true then
      (gadd x8 x9).bind fun x10 =>
      (gidx a0 (IntKind.wrap .i64 (kshr .u64 (IntKind.wrap .u64 x10) 1))).bind fun e11 =>
      (strings_Compare n e11.Path a1).bind fun r14 =>
      treepatch_Find_j5 n x8 x9 (treepatch_Find_l1 n a0 a1 m1) x10 r14
    else
      treepatch_Find_j2 n a0 a1 x8
def treepatch_Find (n : Nat) (a0 : List SPathLines) (a1 : List UInt8) : Option (Int × Bool) :=
  treepatch_Find_l1 n a0 a1 n 0 (a0.length : Int)

/- changeforge/sandbox.unique -/
def sandbox_unique_j1 (n : Nat) (x2 : Int) (lp1 : (List (List UInt8)) → Int → Option (List (List UInt8))) (w3 : List (List UInt8)) : Option (List (List UInt8)) :=
  (gadd x2 1).bind fun x4 =>
  lp1 w3 x4
def sandbox_unique_l1 (n : Nat) (a0 : List (List UInt8)) : Nat → List (List UInt8) → Int → Option (List (List UInt8))
  | 0, _, _ => none
  | m1 + 1, w1, x2 =>
    if (decide (x2 < (a0.length : Int))) = true then
      (gidx a0 x2).bind fun e5 =>
      (slices_Contains_string n w1 e5).bind fun r6 =>
      if (!r6) = true then
        (gapp 16 w1 ([e5] : List (List UInt8))).bind fun w7 =>
        sandbox_unique_j1 n x2 (sandbox_unique_l1 n a0 m1) w7
      else
        sandbox_unique_j1 n x2 (sandbox_unique_l1 n a0 m1) w1
    else
      some w1
def sandbox_unique (n : Nat) (a0 : List (List UInt8)) : Option (List (List UInt8)) :=
  sandbox_unique_l1 n a0 n ([] : List (List UInt8)) 0

/- changeforge/sandbox.Run -/
def sandbox_Run_j1 (n : Nat) (x3 : Int) (lp1 : (List (List UInt8)) → Int → Option ((List (List UInt8)) × SCodeIndex)) (w5 : List (List UInt8)) (x6 : Int) : Option ((List (List UInt8)) × SCodeIndex) :=
  if (decide (x6 ≠ 0)) = true then
    (gsub (-3) x3).bind fun x7 =>
    some (([] : List (List UInt8)), (⟨x6, x7⟩ : SCodeIndex))
  else
    (gadd x3 1).bind fun x8 =>
    lp1 w5 x8
def sandbox_Run_j3 (n : Nat) (x3 : Int) (lp1 : (List (List UInt8)) → Int → Option ((List (List UInt8)) × SCodeIndex)) (w12 : List (List UInt8)) (x13 : Int) : Option ((List (List UInt8)) × SCodeIndex) :=
  sandbox_Run_j1 n x3 lp1 w12 x13
def sandbox_Run_j4 (n : Nat) (x3 : Int) (lp1 : (List (List UInt8)) → Int → Option ((List (List UInt8)) × SCodeIndex)) (w16 : List (List UInt8)) (x17 : Int) : Option ((List (List UInt8)) × SCodeIndex) :=
  sandbox_Run_j1 n x3 lp1 w16 x17
def sandbox_Run_j5 (n : Nat) (x3 : Int) (lp1 : (List (List UInt8)) → Int → Option ((List (List UInt8)) × SCodeIndex)) (w20 : List (List UInt8)) (x21 : Int) : Option ((List (List UInt8)) × SCodeIndex) :=
  sandbox_Run_j1 n x3 lp1 w20 x21
def sandbox_Run_j6 (n : Nat) (x3 : Int) (lp1 : (List (List UInt8)) → Int → Option ((List (List UInt8)) × SCodeIndex)) (w24 : List (List UInt8)) (x25 : Int) : Option ((List (List UInt8)) × SCodeIndex) :=
  sandbox_Run_j1 n x3 lp1 w24 x25
def sandbox_Run_j7 (n : Nat) (x3 : Int) (lp1 : (List (List UInt8)) → Int → Option ((List (List UInt8)) × SCodeIndex)) (w28 : List (List UInt8)) : Option ((List (List UInt8)) × SCodeIndex) :=
  sandbox_Run_j1 n x3 lp1 w28 0
def sandbox_Run_l2 (n : Nat) (x3 : Int) (lp1 : (List (List UInt8)) → Int → Option ((List (List UInt8)) × SCodeIndex)) : Nat → List (List UInt8) → Int → Int → Option ((List (List UInt8)) × SCodeIndex)
  | 0, _, _, _ => none
  | m2 + 1, w30, x31, x32 =>
    if (decide (x31 < x32)) = true then
      (gidx w30 x32).bind fun e33 =>
      (gidx w30 x31).bind fun e34 =>
      (gidx (gset w30 x31 e33) x32).bind fun e35 =>
      (gadd x31 1).bind fun x36 =>
      (gsub x32 1).bind fun x37 =>
      (sandbox_Run_l2 n x3 lp1 m2) (gset (gset w30 x31 e33) x32 e34) x36 x37
    else
      sandbox_Run_j7 n x3 lp1 w30
def sandbox_Run_j2 (n : Nat) (a1 : SFiles) (w2 : List (List UInt8)) (x3 : Int) (lp1 : (List (List UInt8)) → Int → Option ((List (List UInt8)) × SCodeIndex)) (e4 : SKindText) (r9 : (Int × Bool)) (x10 : Bool) : Option ((List (List UInt8)) × SCodeIndex) :=
  if x10 = true then
    sandbox_Run_j1 n x3 lp1 ([] : List (List UInt8)) 13
  else
    if (decide (e4.Kind = 1)) = true then
      if (!r9.2) = true then
        sandbox_Run_j1 n x3 lp1 ([] : List (List UInt8)) 6
      else
        (gidx a1.Files r9.1).bind fun e11 =>
        (gadd (w2.length : Int) (e11.Lines.length : Int)).bind fun x14 =>
        if (decide (120 < x14)) = true then
          sandbox_Run_j3 n x3 lp1 ([] : List (List UInt8)) 10
        else
          (gapp 16 w2 e11.Lines).bind fun w15 =>
          sandbox_Run_j3 n x3 lp1 w15 0
    else
      if (decide (e4.Kind = 2)) = true then
        if r9.2 = true then
          (gadd (w2.length : Int) (([([121, 101, 115] : List UInt8)] : List (List UInt8)).length : Int)).bind fun x18 =>
          if (decide (120 < x18)) = true then
            sandbox_Run_j4 n x3 lp1 ([] : List (List UInt8)) 10
          else
            (gapp 16 w2 ([([121, 101, 115] : List UInt8)] : List (List UInt8))).bind fun w19 =>
            sandbox_Run_j4 n x3 lp1 w19 0
        else
          (gadd (w2.length : Int) (([([110, 111] : List UInt8)] : List (List UInt8)).length : Int)).bind fun x22 =>
          if (decide (120 < x22)) = true then
            sandbox_Run_j5 n x3 lp1 ([] : List (List UInt8)) 10
          else
            (gapp 16 w2 ([([110, 111] : List UInt8)] : List (List UInt8))).bind fun w23 =>
            sandbox_Run_j5 n x3 lp1 w23 0
      else
        if (decide (e4.Kind = 3)) = true then
          (gadd (w2.length : Int) (([e4.Text] : List (List UInt8)).length : Int)).bind fun x26 =>
          if (decide (120 < x26)) = true then
            sandbox_Run_j6 n x3 lp1 ([] : List (List UInt8)) 10
          else
            (gapp 16 w2 ([e4.Text] : List (List UInt8))).bind fun w27 =>
            sandbox_Run_j6 n x3 lp1 w27 0
        else
          if (decide (e4.Kind = 4)) = true then
            (gsub (w2.length : Int) 1).bind fun x29 =>
            sandbox_Run_l2 n x3 lp1 n w2 0 x29
          else
            (sandbox_unique n w2).bind fun r38 =>
            sandbox_Run_j1 n x3 lp1 r38 0
def sandbox_Run_l1 (n : Nat) (a0 : SInputsOpsOutput) (a1 : SFiles) : Nat → List (List UInt8) → Int → Option ((List (List UInt8)) × SCodeIndex)
  | 0, _, _ => none
  | m1 + 1, w2, x3 =>
    if (decide (x3 < (a0.Ops.length : Int))) = true then
      (gidx a0.Ops x3).bind fun e4 =>
      (treepatch_Find n a1.Files e4.Text).bind fun r9 =>
      if (decide (e4.Kind = 1)) = true then
        (slices_Contains_string n a0.Inputs e4.Text).bind fun r39 =>
        sandbox_Run_j2 n a1 w2 x3 (sandbox_Run_l1 n a0 a1 m1) e4 r9 (!r39)
      else
        if (decide (e4.Kind = 2)) = true then
          (slices_Contains_string n a0.Inputs e4.Text).bind fun r40 =>
          sandbox_Run_j2 n a1 w2 x3 (sandbox_Run_l1 n a0 a1 m1) e4 r9 (!r40)
        else
          sandbox_Run_j2 n a1 w2 x3 (sandbox_Run_l1 n a0 a1 m1) e4 r9 false
    else
      some (w2, (⟨0, 0⟩ : SCodeIndex))
def sandbox_Run (n : Nat) (a0 : SInputsOpsOutput) (a1 : SFiles) : Option ((List (List UInt8)) × SCodeIndex) :=
  (sandbox_Arguments n a0 a1).bind fun r1 =>
  if ((r1.Code == 0 && (r1.Index == 0 && true)) != true) = true then
    some (([] : List (List UInt8)), r1)
  else
    sandbox_Run_l1 n a0 a1 n ([] : List (List UInt8)) 0

/- changeforge/changeforgelaw6.action -/
def law6_action (n : Nat) : Option SInputsOpsOutput :=
  some (⟨([([97] : List UInt8)] : List (List UInt8)), ([(⟨1, ([97] : List UInt8)⟩ : SKindText), (⟨3, ([122] : List UInt8)⟩ : SKindText), (⟨4, ([] : List UInt8)⟩ : SKindText)] : List SKindText), ([98] : List UInt8)⟩ : SInputsOpsOutput)

/- changeforge/changeforgelaw6.files -/
def law6_files (n : Nat) : Option SFiles :=
  some (⟨([(⟨([97] : List UInt8), ([([120] : List UInt8), ([121] : List UInt8)] : List (List UInt8))⟩ : SPathLines)] : List SPathLines)⟩ : SFiles)

/- changeforge/changeforgelaw6.fault -/
def law6_fault (n : Nat) (a0 : Int) (a1 : Int) : Option SCodeIndex :=
  some (⟨a0, a1⟩ : SCodeIndex)

/- changeforge/changeforgelaw6.runs -/
def law6_runs_j1 (n : Nat) (x12 : Bool) : Option Bool :=
  some x12
def law6_runs (n : Nat) : Option Bool :=
  (law6_action n).bind fun r1 =>
  (law6_files n).bind fun r2 =>
  (sandbox_Run n r1 r2).bind fun r3 =>
  (law6_action n).bind fun r4 =>
  (sandbox_Reads n r4).bind fun r5 =>
  (law6_action n).bind fun r6 =>
  (law6_files n).bind fun r7 =>
  (sandbox_Restrict n r6 r7).bind fun r8 =>
  (law6_action n).bind fun r9 =>
  (law6_files n).bind fun r10 =>
  (sandbox_Run n (⟨([] : List (List UInt8)), r9.Ops, r9.Output⟩ : SInputsOpsOutput) r10).bind fun r11 =>
  if (decide (r3.2.Code = 0)) = true then
    if (decide (r5.2.Code = 0)) = true then
      if (decide (r8.2.Code = 0)) = true then
        (law6_fault n 13 (-3)).bind fun r13 =>
        if ((r11.2.Code == r13.Code && (r11.2.Index == r13.Index && true)) != false) = true then
          (ref6_Strings n r3.1 ([([122] : List UInt8), ([121] : List UInt8), ([120] : List UInt8)] : List (List UInt8))).bind fun r14 =>
          if r14 = true then
            (ref6_Strings n r5.1 ([([97] : List UInt8)] : List (List UInt8))).bind fun r15 =>
            if r15 = true then
              (law6_files n).bind fun r16 =>
              (ref6_Trees n (⟨r8.1.Files⟩ : SFiles) r16).bind fun r17 =>
              if r17 = true then
                (sandbox_Validate n (⟨([] : List (List UInt8)), ([] : List SKindText), ([] : List UInt8)⟩ : SInputsOpsOutput)).bind fun r18 =>
                (law6_fault n 12 (-2)).bind fun r19 =>
                law6_runs_j1 n ((r18.Code == r19.Code && (r18.Index == r19.Index && true)) != false)
              else
                law6_runs_j1 n false
            else
              law6_runs_j1 n false
          else
            law6_runs_j1 n false
        else
          law6_runs_j1 n false
      else
        law6_runs_j1 n false
    else
      law6_runs_j1 n false
  else
    law6_runs_j1 n false

/- changeforge/changeforgeref6.Sorted -/
def ref6_Sorted_j1 (n : Nat) (x2 : Int) (lp1 : (List (List UInt8)) → Int → Option (List (List UInt8))) (w3 : List (List UInt8)) : Option (List (List UInt8)) :=
  (gadd x2 1).bind fun x4 =>
  lp1 w3 x4
def ref6_Sorted_j3 (n : Nat) (a0 : List (List UInt8)) (w1 : List (List UInt8)) (x2 : Int) (lp1 : (List (List UInt8)) → Int → Option (List (List UInt8))) (x5 : Int) (x6 : Bool) : Option (List (List UInt8)) :=
  if x6 = true then
    ref6_Sorted_j1 n x2 lp1 w1
  else
    (gcut w1 0 x5).bind fun s7 =>
    (gapp 16 [] s7).bind fun w8 =>
    (gidx a0 x2).bind fun e9 =>
    (gapp 16 w8 ([e9] : List (List UInt8))).bind fun w10 =>
    (gcut w1 x5 (w1.length : Int)).bind fun s11 =>
    (gapp 16 w10 s11).bind fun w12 =>
    ref6_Sorted_j1 n x2 lp1 w12
def ref6_Sorted_j2 (n : Nat) (a0 : List (List UInt8)) (w1 : List (List UInt8)) (x2 : Int) (lp1 : (List (List UInt8)) → Int → Option (List (List UInt8))) (x5 : Int) : Option (List (List UInt8)) :=
  if (decide (x5 < (w1.length : Int))) = true then
    (gidx w1 x5).bind fun e13 =>
    (gidx a0 x2).bind fun e14 =>
    ref6_Sorted_j3 n a0 w1 x2 lp1 x5 (decide (e13 = e14))
  else
    ref6_Sorted_j3 n a0 w1 x2 lp1 x5 false
def ref6_Sorted_j4 (n : Nat) (a0 : List (List UInt8)) (w1 : List (List UInt8)) (x2 : Int) (lp1 : (List (List UInt8)) → Int → Option (List (List UInt8))) (x15 : Int) (lp2 : Int → Option (List (List UInt8))) (x16 : Bool) : Option (List (List UInt8)) :=
  if x16 = true then
    (gadd x15 1).bind fun x17 =>
    lp2 x17
  else
    ref6_Sorted_j2 n a0 w1 x2 lp1 x15
def ref6_Sorted_l2 (n : Nat) (a0 : List (List UInt8)) (w1 : List (List UInt8)) (x2 : Int) (lp1 : (List (List UInt8)) → Int → Option (List (List UInt8))) : Nat → Int → Option (List (List UInt8))
  | 0, _ => none
  | m2 + 1, x15 =>
    if (decide (x15 < (w1.length : Int))) = true then
      (gidx w1 x15).bind fun e18 =>
      (gidx a0 x2).bind fun e19 =>
      ref6_Sorted_j4 n a0 w1 x2 lp1 x15 (ref6_Sorted_l2 n a0 w1 x2 lp1 m2) (Op.bytesLess e18 e19)
    else
      ref6_Sorted_j4 n a0 w1 x2 lp1 x15 (ref6_Sorted_l2 n a0 w1 x2 lp1 m2) false
def ref6_Sorted_l1 (n : Nat) (a0 : List (List UInt8)) : Nat → List (List UInt8) → Int → Option (List (List UInt8))
  | 0, _, _ => none
  | m1 + 1, w1, x2 =>
    if (decide (x2 < (a0.length : Int))) = true then
      ref6_Sorted_l2 n a0 w1 x2 (ref6_Sorted_l1 n a0 m1) n 0
    else
      some w1
def ref6_Sorted (n : Nat) (a0 : List (List UInt8)) : Option (List (List UInt8)) :=
  ref6_Sorted_l1 n a0 n ([] : List (List UInt8)) 0

/- changeforge/changeforgeref6.ReadPaths -/
def ref6_ReadPaths_j1 (n : Nat) (x2 : Int) (lp1 : (List (List UInt8)) → Int → Option (List (List UInt8))) (w3 : List (List UInt8)) : Option (List (List UInt8)) :=
  (gadd x2 1).bind fun x4 =>
  lp1 w3 x4
def ref6_ReadPaths_j2 (n : Nat) (a0 : SInputsOpsOutput) (w1 : List (List UInt8)) (x2 : Int) (lp1 : (List (List UInt8)) → Int → Option (List (List UInt8))) (x5 : Bool) : Option (List (List UInt8)) :=
  if x5 = true then
    (gidx a0.Ops x2).bind fun e6 =>
    (gapp 16 w1 ([e6.Text] : List (List UInt8))).bind fun w7 =>
    ref6_ReadPaths_j1 n x2 lp1 w7
  else
    ref6_ReadPaths_j1 n x2 lp1 w1
def ref6_ReadPaths_l1 (n : Nat) (a0 : SInputsOpsOutput) : Nat → List (List UInt8) → Int → Option (List (List UInt8))
  | 0, _, _ => none
  | m1 + 1, w1, x2 =>
    if (decide (x2 < (a0.Ops.length : Int))) = true then
      (gidx a0.Ops x2).bind fun e8 =>
      if (decide (e8.Kind = 1)) = true then
        ref6_ReadPaths_j2 n a0 w1 x2 (ref6_ReadPaths_l1 n a0 m1) true
      else
        ref6_ReadPaths_j2 n a0 w1 x2 (ref6_ReadPaths_l1 n a0 m1) (decide (e8.Kind = 2))
    else
      (ref6_Sorted n w1).bind fun r9 =>
      some r9
def ref6_ReadPaths (n : Nat) (a0 : SInputsOpsOutput) : Option (List (List UInt8)) :=
  ref6_ReadPaths_l1 n a0 n ([] : List (List UInt8)) 0

/- changeforge/changeforgeref1.At -/
def ref1_At (n : Nat) (a0 : Int) (a1 : Int) : Option SCodeIndex :=
  some (⟨a0, a1⟩ : SCodeIndex)

/- changeforge/changeforgeref2.Related -/
def ref2_Related_j1 (n : Nat) (x2 : Bool) : Option Bool :=
  some x2
def ref2_Related : Nat → (List UInt8) → (List UInt8) → Option Bool
  | 0, _, _ => none
  | n + 1, a0, a1 =>
    if (decide ((a1.length : Int) < (a0.length : Int))) = true then
      ((ref2_Related n) a1 a0).bind fun r1 =>
      some r1
    else
      (gcut a1 0 (a0.length : Int)).bind fun s3 =>
      if (decide (s3 = a0)) = true then
        if (decide ((a0.length : Int) = (a1.length : Int))) = true then
          ref2_Related_j1 n true
        else
          (gidx a1 (a0.length : Int)).bind fun y4 =>
          ref2_Related_j1 n (decide ((y4.toNat : Int) = 47))
      else
        ref2_Related_j1 n false

/- changeforge/changeforgeref1.LinesFault -/
def ref1_LinesFault_l2 (n : Nat) (x2 : Int) (lp1 : Int → Option SCodeIndex) (e3 : List UInt8) : Nat → Int → Option SCodeIndex
  | 0, _ => none
  | m2 + 1, x5 =>
    if (decide (x5 < (e3.length : Int))) = true then
      (gidx e3 x5).bind fun y6 =>
      if (decide ((y6.toNat : Int) = 10)) = true then
        (ref1_At n 5 x2).bind fun r7 =>
        some r7
      else
        (gadd x5 1).bind fun x8 =>
        (ref1_LinesFault_l2 n x2 lp1 e3 m2) x8
    else
      (gadd x2 1).bind fun x9 =>
      lp1 x9
def ref1_LinesFault_l1 (n : Nat) (a0 : List (List UInt8)) : Nat → Int → Option SCodeIndex
  | 0, _ => none
  | m1 + 1, x2 =>
    if (decide (x2 < (a0.length : Int))) = true then
      (gidx a0 x2).bind fun e3 =>
      if (decide (80 < (e3.length : Int))) = true then
        (ref1_At n 2 x2).bind fun r4 =>
        some r4
      else
        ref1_LinesFault_l2 n x2 (ref1_LinesFault_l1 n a0 m1) e3 n 0
    else
      some (⟨0, 0⟩ : SCodeIndex)
def ref1_LinesFault (n : Nat) (a0 : List (List UInt8)) : Option SCodeIndex :=
  if (decide (120 < (a0.length : Int))) = true then
    (ref1_At n 2 (-1)).bind fun r1 =>
    some r1
  else
    ref1_LinesFault_l1 n a0 n 0

/- changeforge/changeforgeref1.LinesCode -/
def ref1_LinesCode (n : Nat) (a0 : List (List UInt8)) : Option Int :=
  (ref1_LinesFault n a0).bind fun r1 =>
  some r1.Code

/- changeforge/changeforgeref2.TreeFault -/
def ref2_TreeFault_l2 (n : Nat) (a0 : SFiles) (x2 : Int) (lp1 : Int → Option SCodeIndex) (e3 : SPathLines) : Nat → Int → Option SCodeIndex
  | 0, _ => none
  | m2 + 1, x8 =>
    if (decide (x8 < x2)) = true then
      (gidx a0.Files x8).bind fun e9 =>
      (ref2_Related n e9.Path e3.Path).bind fun r10 =>
      if r10 = true then
        (ref1_At n 7 x2).bind fun r11 =>
        some r11
      else
        (gadd x8 1).bind fun x12 =>
        (ref2_TreeFault_l2 n a0 x2 lp1 e3 m2) x12
    else
      (ref1_LinesCode n e3.Lines).bind fun r13 =>
      if (decide (r13 ≠ 0)) = true then
        (ref1_At n r13 x2).bind fun r14 =>
        some r14
      else
        (gadd x2 1).bind fun x15 =>
        lp1 x15
def ref2_TreeFault_j1 (n : Nat) (a0 : SFiles) (x2 : Int) (lp1 : Int → Option SCodeIndex) (e3 : SPathLines) (x6 : Bool) : Option SCodeIndex :=
  if x6 = true then
    (ref1_At n 5 x2).bind fun r7 =>
    some r7
  else
    ref2_TreeFault_l2 n a0 x2 lp1 e3 n 0
def ref2_TreeFault_l1 (n : Nat) (a0 : SFiles) : Nat → Int → Option SCodeIndex
  | 0, _ => none
  | m1 + 1, x2 =>
    if (decide (x2 < (a0.Files.length : Int))) = true then
      (gidx a0.Files x2).bind fun e3 =>
      (ref2_PathValid n e3.Path).bind fun r4 =>
      if (!r4) = true then
        (ref1_At n 12 x2).bind fun r5 =>
        some r5
      else
        if (decide (0 < x2)) = true then
          (gsub x2 1).bind fun x16 =>
          (gidx a0.Files x16).bind fun e17 =>
          ref2_TreeFault_j1 n a0 x2 (ref2_TreeFault_l1 n a0 m1) e3 (Op.bytesLess e3.Path e17.Path || e3.Path == e17.Path)
        else
          ref2_TreeFault_j1 n a0 x2 (ref2_TreeFault_l1 n a0 m1) e3 false
    else
      some (⟨0, 0⟩ : SCodeIndex)
def ref2_TreeFault (n : Nat) (a0 : SFiles) : Option SCodeIndex :=
  if (decide (24 < (a0.Files.length : Int))) = true then
    (ref1_At n 2 (-1)).bind fun r1 =>
    some r1
  else
    ref2_TreeFault_l1 n a0 n 0

/- changeforge/changeforgeref6.TreeAt -/
def ref6_TreeAt_j1 (n : Nat) (r1 : SCodeIndex) (b2 : Int) : Option SCodeIndex :=
  some (⟨r1.Code, b2⟩ : SCodeIndex)
def ref6_TreeAt (n : Nat) (a0 : SFiles) (a1 : Int) : Option SCodeIndex :=
  (ref2_TreeFault n a0).bind fun r1 =>
  if (decide (r1.Code ≠ 0)) = true then
    ref6_TreeAt_j1 n r1 a1
  else
    ref6_TreeAt_j1 n r1 r1.Index

/- changeforge/changeforgeref6.RunFault -/
def ref6_RunFault_j1 (n : Nat) (b2 : Int) (b3 : Int) : Option SCodeIndex :=
  some (⟨b2, b3⟩ : SCodeIndex)
def ref6_RunFault (n : Nat) (a0 : SInputsOpsOutput) (a1 : SFiles) : Option SCodeIndex :=
  (ref6_ActionFault n a0).bind fun r1 =>
  if (decide (r1.Code = 0)) = true then
    (ref6_TreeAt n a1 (-20)).bind fun r4 =>
    ref6_RunFault_j1 n r4.Code r4.Index
  else
    ref6_RunFault_j1 n r1.Code r1.Index

/- changeforge/changeforgeref6.HasString -/
def ref6_HasString_l1 (n : Nat) (a0 : List (List UInt8)) (a1 : List UInt8) : Nat → Int → Option Bool
  | 0, _ => none
  | m1 + 1, x1 =>
    if (decide (x1 < (a0.length : Int))) = true then
      (gidx a0 x1).bind fun e2 =>
      if (decide (e2 = a1)) = true then
        some true
      else
        (gadd x1 1).bind fun x3 =>
        (ref6_HasString_l1 n a0 a1 m1) x3
    else
      some false
def ref6_HasString (n : Nat) (a0 : List (List UInt8)) (a1 : List UInt8) : Option Bool :=
  ref6_HasString_l1 n a0 a1 n 0

/- changeforge/changeforgeref6.Restricted -/
def ref6_Restricted_j1 (n : Nat) (x2 : Int) (lp1 : (List SPathLines) → Int → Option SFiles) (w3 : List SPathLines) : Option SFiles :=
  (gadd x2 1).bind fun x4 =>
  lp1 w3 x4
def ref6_Restricted_l1 (n : Nat) (a0 : SFiles) (a1 : List (List UInt8)) : Nat → List SPathLines → Int → Option SFiles
  | 0, _, _ => none
  | m1 + 1, w1, x2 =>
    if (decide (x2 < (a0.Files.length : Int))) = true then
      (gidx a0.Files x2).bind fun e5 =>
      (ref6_HasString n a1 e5.Path).bind fun r6 =>
      if r6 = true then
        (gapp 40 w1 ([e5] : List SPathLines)).bind fun w7 =>
        ref6_Restricted_j1 n x2 (ref6_Restricted_l1 n a0 a1 m1) w7
      else
        ref6_Restricted_j1 n x2 (ref6_Restricted_l1 n a0 a1 m1) w1
    else
      some (⟨w1⟩ : SFiles)
def ref6_Restricted (n : Nat) (a0 : SFiles) (a1 : List (List UInt8)) : Option SFiles :=
  ref6_Restricted_l1 n a0 a1 n ([] : List SPathLines) 0

/- changeforge/changeforgelaw6.SandboxMatchesSpec -/
def law6_SandboxMatchesSpec_j3 (n : Nat) (x7 : Bool) : Option Bool :=
  some x7
def law6_SandboxMatchesSpec_j2 (n : Nat) (a0 : SInputsOpsOutput) (a1 : SFiles) (x4 : Bool) : Option Bool :=
  if x4 = true then
    some false
  else
    (ref6_RunFault n a0 a1).bind fun r5 =>
    (sandbox_Restrict n a0 a1).bind fun r6 =>
    if ((r6.2.Code == r5.Code && (r6.2.Index == r5.Index && true)) != false) = true then
      if (decide (r5.Code ≠ 0)) = true then
        if (decide ((r6.1.Files.length : Int) = 0)) = true then
          law6_SandboxMatchesSpec_j3 n true
        else
          if (decide (r5.Code = 0)) = true then
            (ref6_Restricted n a1 a0.Inputs).bind fun r8 =>
            (ref6_Trees n (⟨r6.1.Files⟩ : SFiles) r8).bind fun r9 =>
            law6_SandboxMatchesSpec_j3 n r9
          else
            law6_SandboxMatchesSpec_j3 n false
      else
        if (decide (r5.Code = 0)) = true then
          (ref6_Restricted n a1 a0.Inputs).bind fun r10 =>
          (ref6_Trees n (⟨r6.1.Files⟩ : SFiles) r10).bind fun r11 =>
          law6_SandboxMatchesSpec_j3 n r11
        else
          law6_SandboxMatchesSpec_j3 n false
    else
      law6_SandboxMatchesSpec_j3 n false
def law6_SandboxMatchesSpec_j1 (n : Nat) (a0 : SInputsOpsOutput) (a1 : SFiles) (r1 : SCodeIndex) (x2 : Bool) : Option Bool :=
  if x2 = true then
    some false
  else
    (sandbox_Reads n a0).bind fun r3 =>
    if ((r3.2.Code == r1.Code && (r3.2.Index == r1.Index && true)) != true) = true then
      law6_SandboxMatchesSpec_j2 n a0 a1 true
    else
      if (decide (r1.Code ≠ 0)) = true then
        if (decide (0 < (r3.1.length : Int))) = true then
          law6_SandboxMatchesSpec_j2 n a0 a1 true
        else
          if (decide (r1.Code = 0)) = true then
            (ref6_ReadPaths n a0).bind fun r12 =>
            (ref6_Strings n r3.1 r12).bind fun r13 =>
            law6_SandboxMatchesSpec_j2 n a0 a1 (!r13)
          else
            law6_SandboxMatchesSpec_j2 n a0 a1 false
      else
        if (decide (r1.Code = 0)) = true then
          (ref6_ReadPaths n a0).bind fun r14 =>
          (ref6_Strings n r3.1 r14).bind fun r15 =>
          law6_SandboxMatchesSpec_j2 n a0 a1 (!r15)
        else
          law6_SandboxMatchesSpec_j2 n a0 a1 false
def law6_SandboxMatchesSpec (n : Nat) (a0 : SInputsOpsOutput) (a1 : SFiles) : Option Bool :=
  (ref6_ActionFault n a0).bind fun r1 =>
  (law6_runs n).bind fun r16 =>
  if (!r16) = true then
    law6_SandboxMatchesSpec_j1 n a0 a1 r1 true
  else
    (sandbox_Validate n a0).bind fun r17 =>
    law6_SandboxMatchesSpec_j1 n a0 a1 r1 ((r17.Code == r1.Code && (r17.Index == r1.Index && true)) != true)

/- changeforge/changeforgeref6.firsts -/
def ref6_firsts_j1 (n : Nat) (x2 : Int) (lp1 : (List (List UInt8)) → Int → Option (List (List UInt8))) (w3 : List (List UInt8)) : Option (List (List UInt8)) :=
  (gadd x2 1).bind fun x4 =>
  lp1 w3 x4
def ref6_firsts_l1 (n : Nat) (a0 : List (List UInt8)) : Nat → List (List UInt8) → Int → Option (List (List UInt8))
  | 0, _, _ => none
  | m1 + 1, w1, x2 =>
    if (decide (x2 < (a0.length : Int))) = true then
      (gcut a0 0 x2).bind fun s5 =>
      (gidx a0 x2).bind fun e6 =>
      (ref6_HasString n s5 e6).bind fun r7 =>
      if (!r7) = true then
        (gapp 16 w1 ([e6] : List (List UInt8))).bind fun w8 =>
        ref6_firsts_j1 n x2 (ref6_firsts_l1 n a0 m1) w8
      else
        ref6_firsts_j1 n x2 (ref6_firsts_l1 n a0 m1) w1
    else
      some w1
def ref6_firsts (n : Nat) (a0 : List (List UInt8)) : Option (List (List UInt8)) :=
  ref6_firsts_l1 n a0 n ([] : List (List UInt8)) 0

/- changeforge/changeforgeref6.FileIn -/
def ref6_FileIn_l1 (n : Nat) (a0 : SFiles) (a1 : List UInt8) : Nat → Int → Option ((List (List UInt8)) × Bool)
  | 0, _ => none
  | m1 + 1, x1 =>
    if (decide (x1 < (a0.Files.length : Int))) = true then
      (gidx a0.Files x1).bind fun e2 =>
      if (decide (e2.Path = a1)) = true then
        some (e2.Lines, true)
      else
        (gadd x1 1).bind fun x3 =>
        (ref6_FileIn_l1 n a0 a1 m1) x3
    else
      some (([] : List (List UInt8)), false)
def ref6_FileIn (n : Nat) (a0 : SFiles) (a1 : List UInt8) : Option ((List (List UInt8)) × Bool) :=
  ref6_FileIn_l1 n a0 a1 n 0

/- changeforge/changeforgeref6.opResult -/
def ref6_opResult_l1 (n : Nat) (a3 : List (List UInt8)) : Nat → List (List UInt8) → Int → Option ((List (List UInt8)) × Int)
  | 0, _, _ => none
  | m1 + 1, w3, x4 =>
    if (decide (0 ≤ x4)) = true then
      (gidx a3 x4).bind fun e5 =>
      (gapp 16 w3 ([e5] : List (List UInt8))).bind fun w6 =>
      (gsub x4 1).bind fun x7 =>
      (ref6_opResult_l1 n a3 m1) w6 x7
    else
      some (w3, 0)
def ref6_opResult_j1 (n : Nat) (a3 : List (List UInt8)) (x8 : List (List UInt8)) : Option ((List (List UInt8)) × Int) :=
  (gadd (a3.length : Int) (x8.length : Int)).bind fun x9 =>
  if (decide (120 < x9)) = true then
    some (([] : List (List UInt8)), 10)
  else
    (gapp 16 [] a3).bind fun w10 =>
    (gapp 16 w10 x8).bind fun w11 =>
    some (w11, 0)
def ref6_opResult_j4 (n : Nat) (a3 : List (List UInt8)) (x15 : List (List UInt8)) (x16 : Bool) : Option ((List (List UInt8)) × Int) :=
  if x16 = true then
    ref6_opResult_j1 n a3 ([([110, 111] : List UInt8)] : List (List UInt8))
  else
    ref6_opResult_j1 n a3 x15
def ref6_opResult_j3 (n : Nat) (a2 : SKindText) (a3 : List (List UInt8)) (r13 : ((List (List UInt8)) × Bool)) (x15 : List (List UInt8)) : Option ((List (List UInt8)) × Int) :=
  if (decide (a2.Kind = 2)) = true then
    ref6_opResult_j4 n a3 x15 (!r13.2)
  else
    ref6_opResult_j4 n a3 x15 false
def ref6_opResult_j5 (n : Nat) (a2 : SKindText) (a3 : List (List UInt8)) (r13 : ((List (List UInt8)) × Bool)) (x17 : Bool) : Option ((List (List UInt8)) × Int) :=
  if x17 = true then
    ref6_opResult_j3 n a2 a3 r13 ([([121, 101, 115] : List UInt8)] : List (List UInt8))
  else
    ref6_opResult_j3 n a2 a3 r13 r13.1
def ref6_opResult_j2 (n : Nat) (a2 : SKindText) (a3 : List (List UInt8)) (r13 : ((List (List UInt8)) × Bool)) (x14 : Bool) : Option ((List (List UInt8)) × Int) :=
  if x14 = true then
    some (([] : List (List UInt8)), 6)
  else
    if (decide (a2.Kind = 2)) = true then
      ref6_opResult_j5 n a2 a3 r13 r13.2
    else
      ref6_opResult_j5 n a2 a3 r13 false
def ref6_opResult (n : Nat) (a0 : SInputsOpsOutput) (a1 : SFiles) (a2 : SKindText) (a3 : List (List UInt8)) : Option ((List (List UInt8)) × Int) :=
  if (decide (a2.Kind = 5)) = true then
    (ref6_firsts n a3).bind fun r1 =>
    some (r1, 0)
  else
    if (decide (a2.Kind = 4)) = true then
      (gsub (a3.length : Int) 1).bind fun x2 =>
      ref6_opResult_l1 n a3 n ([] : List (List UInt8)) x2
    else
      if (decide (a2.Kind ≠ 3)) = true then
        (ref6_HasString n a0.Inputs a2.Text).bind fun r12 =>
        if (!r12) = true then
          some (([] : List (List UInt8)), 13)
        else
          (ref6_FileIn n a1 a2.Text).bind fun r13 =>
          if (decide (a2.Kind = 1)) = true then
            ref6_opResult_j2 n a2 a3 r13 (!r13.2)
          else
            ref6_opResult_j2 n a2 a3 r13 false
      else
        ref6_opResult_j1 n a3 ([a2.Text] : List (List UInt8))

/- changeforge/changeforgeref6.Ran -/
def ref6_Ran_l1 (n : Nat) (a0 : SInputsOpsOutput) (a1 : SFiles) : Nat → List (List UInt8) → Int → Option ((List (List UInt8)) × SCodeIndex)
  | 0, _, _ => none
  | m1 + 1, x1, x2 =>
    if (decide (x2 < (a0.Ops.length : Int))) = true then
      (gidx a0.Ops x2).bind fun e3 =>
      (ref6_opResult n a0 a1 e3 x1).bind fun r4 =>
      if (decide (r4.2 ≠ 0)) = true then
        (gsub (-3) x2).bind fun x5 =>
        (ref6_fault n r4.2 x5).bind fun r6 =>
        some (([] : List (List UInt8)), r6)
      else
        (gadd x2 1).bind fun x7 =>
        (ref6_Ran_l1 n a0 a1 m1) r4.1 x7
    else
      some (x1, (⟨0, 0⟩ : SCodeIndex))
def ref6_Ran (n : Nat) (a0 : SInputsOpsOutput) (a1 : SFiles) : Option ((List (List UInt8)) × SCodeIndex) :=
  ref6_Ran_l1 n a0 a1 n ([] : List (List UInt8)) 0

/- changeforge/changeforgelaw6.SandboxRunMatchesSpec -/
def law6_SandboxRunMatchesSpec_j2 (n : Nat) (x7 : Bool) : Option Bool :=
  some x7
def law6_SandboxRunMatchesSpec_j1 (n : Nat) (a0 : SInputsOpsOutput) (a1 : SFiles) (x3 : List (List UInt8)) (b4 : Int) (b5 : Int) : Option Bool :=
  (sandbox_Run n a0 a1).bind fun r6 =>
  if ((r6.2.Code == b4 && (r6.2.Index == b5 && true)) != false) = true then
    (ref6_Strings n r6.1 x3).bind fun r8 =>
    law6_SandboxRunMatchesSpec_j2 n r8
  else
    law6_SandboxRunMatchesSpec_j2 n false
def law6_SandboxRunMatchesSpec (n : Nat) (a0 : SInputsOpsOutput) (a1 : SFiles) : Option Bool :=
  (law6_runs n).bind fun r1 =>
  if (!r1) = true then
    some false
  else
    (ref6_RunFault n a0 a1).bind fun r2 =>
    if (decide (r2.Code = 0)) = true then
      (ref6_Ran n a0 a1).bind fun r9 =>
      law6_SandboxRunMatchesSpec_j1 n a0 a1 r9.1 r9.2.Code r9.2.Index
    else
      law6_SandboxRunMatchesSpec_j1 n a0 a1 ([] : List (List UInt8)) r2.Code r2.Index

/- changeforge/changeforgelaw6.SandboxRunsAreHermetic -/
def law6_SandboxRunsAreHermetic_j2 (n : Nat) (x3 : Bool) : Option Bool :=
  some x3
def law6_SandboxRunsAreHermetic_j3 (n : Nat) (x8 : Bool) : Option Bool :=
  some x8
def law6_SandboxRunsAreHermetic_j1 (n : Nat) (a0 : SInputsOpsOutput) (a1 : SFiles) (r1 : (SFiles × SCodeIndex)) (x2 : Bool) : Option Bool :=
  if x2 = true then
    (law6_runs n).bind fun r4 =>
    if r4 = true then
      law6_SandboxRunsAreHermetic_j2 n (decide ((r1.1.Files.length : Int) = 0))
    else
      law6_SandboxRunsAreHermetic_j2 n false
  else
    (sandbox_Run n a0 a1).bind fun r5 =>
    (sandbox_Run n a0 (⟨r1.1.Files⟩ : SFiles)).bind fun r6 =>
    (sandbox_Restrict n a0 (⟨r1.1.Files⟩ : SFiles)).bind fun r7 =>
    if ((r5.2.Code == r6.2.Code && (r5.2.Index == r6.2.Index && true)) != false) = true then
      (ref6_Strings n r5.1 r6.1).bind fun r9 =>
      if r9 = true then
        if (decide (r7.2.Code = 0)) = true then
          (ref6_Trees n (⟨r7.1.Files⟩ : SFiles) (⟨r1.1.Files⟩ : SFiles)).bind fun r10 =>
          law6_SandboxRunsAreHermetic_j3 n r10
        else
          law6_SandboxRunsAreHermetic_j3 n false
      else
        law6_SandboxRunsAreHermetic_j3 n false
    else
      law6_SandboxRunsAreHermetic_j3 n false
def law6_SandboxRunsAreHermetic (n : Nat) (a0 : SInputsOpsOutput) (a1 : SFiles) : Option Bool :=
  (sandbox_Restrict n a0 a1).bind fun r1 =>
  (law6_runs n).bind fun r11 =>
  if (!r11) = true then
    law6_SandboxRunsAreHermetic_j1 n a0 a1 r1 true
  else
    law6_SandboxRunsAreHermetic_j1 n a0 a1 r1 (decide (r1.2.Code ≠ 0))

/- changeforge/changeforgelaw6.SandboxUndeclaredReadsAreDenied -/
def law6_SandboxUndeclaredReadsAreDenied_j2 (n : Nat) (x4 : Bool) : Option Bool :=
  some x4
def law6_SandboxUndeclaredReadsAreDenied_l1 (n : Nat) (a0 : SInputsOpsOutput) (r2 : ((List (List UInt8)) × SCodeIndex)) : Nat → Int → Option Bool
  | 0, _ => none
  | m1 + 1, x6 =>
    if (decide (x6 < (r2.1.length : Int))) = true then
      (gidx r2.1 x6).bind fun e7 =>
      (ref6_HasString n a0.Inputs e7).bind fun r8 =>
      if (!r8) = true then
        some false
      else
        (gadd x6 1).bind fun x9 =>
        (law6_SandboxUndeclaredReadsAreDenied_l1 n a0 r2 m1) x9
    else
      some (decide (r2.2.Code = 0))
def law6_SandboxUndeclaredReadsAreDenied_j1 (n : Nat) (a0 : SInputsOpsOutput) (r1 : ((List (List UInt8)) × SCodeIndex)) (r2 : ((List (List UInt8)) × SCodeIndex)) (x3 : Bool) : Option Bool :=
  if x3 = true then
    (law6_runs n).bind fun r5 =>
    if r5 = true then
      law6_SandboxUndeclaredReadsAreDenied_j2 n (decide ((r1.1.length : Int) = 0))
    else
      law6_SandboxUndeclaredReadsAreDenied_j2 n false
  else
    law6_SandboxUndeclaredReadsAreDenied_l1 n a0 r2 n 0
def law6_SandboxUndeclaredReadsAreDenied (n : Nat) (a0 : SInputsOpsOutput) (a1 : SFiles) : Option Bool :=
  (sandbox_Run n a0 a1).bind fun r1 =>
  (sandbox_Reads n a0).bind fun r2 =>
  (law6_runs n).bind fun r10 =>
  if (!r10) = true then
    law6_SandboxUndeclaredReadsAreDenied_j1 n a0 r1 r2 true
  else
    law6_SandboxUndeclaredReadsAreDenied_j1 n a0 r1 r2 (decide (r1.2.Code ≠ 0))

/- changeforge/changeforgelaw6.with -/
def law6_with (n : Nat) (a0 : SInputsOpsOutput) (a1 : List SKindText) : Option SInputsOpsOutput :=
  (gapp 24 [] a0.Ops).bind fun w1 =>
  (gapp 24 w1 a1).bind fun w2 =>
  some (⟨a0.Inputs, w2, a0.Output⟩ : SInputsOpsOutput)

/- changeforge/changeforgelaw6.SandboxFinalOperations -/
def law6_SandboxFinalOperations_j1 (n : Nat) (x9 : Bool) : Option Bool :=
  some x9
def law6_SandboxFinalOperations_j3 (n : Nat) (x11 : Int) (lp1 : Int → Option Bool) (x12 : Bool) : Option Bool :=
  if x12 = true then
    some false
  else
    (gadd x11 1).bind fun x13 =>
    lp1 x13
def law6_SandboxFinalOperations_l1 (n : Nat) (r2 : ((List (List UInt8)) × SCodeIndex)) (r6 : ((List (List UInt8)) × SCodeIndex)) : Nat → Int → Option Bool
  | 0, _ => none
  | m1 + 1, x11 =>
    if (decide (x11 < (r2.1.length : Int))) = true then
      (gidx r2.1 x11).bind fun e14 =>
      (ref6_HasString n r6.1 e14).bind fun r15 =>
      if (!r15) = true then
        law6_SandboxFinalOperations_j3 n x11 (law6_SandboxFinalOperations_l1 n r2 r6 m1) true
      else
        if (decide (x11 < (r6.1.length : Int))) = true then
          (gcut r6.1 0 x11).bind fun s16 =>
          (gidx r6.1 x11).bind fun e17 =>
          (ref6_HasString n s16 e17).bind fun r18 =>
          law6_SandboxFinalOperations_j3 n x11 (law6_SandboxFinalOperations_l1 n r2 r6 m1) r18
        else
          law6_SandboxFinalOperations_j3 n x11 (law6_SandboxFinalOperations_l1 n r2 r6 m1) false
    else
      some (decide ((r6.1.length : Int) ≤ (r2.1.length : Int)))
def law6_SandboxFinalOperations_j2 (n : Nat) (r2 : ((List (List UInt8)) × SCodeIndex)) (r6 : ((List (List UInt8)) × SCodeIndex)) (x10 : Bool) : Option Bool :=
  if x10 = true then
    some false
  else
    law6_SandboxFinalOperations_l1 n r2 r6 n 0
def law6_SandboxFinalOperations (n : Nat) (a0 : SInputsOpsOutput) (a1 : SFiles) : Option Bool :=
  (law6_runs n).bind fun r1 =>
  if (!r1) = true then
    some false
  else
    if (decide (14 < (a0.Ops.length : Int))) = true then
      some true
    else
      (sandbox_Run n a0 a1).bind fun r2 =>
      (law6_with n a0 ([(⟨4, ([] : List UInt8)⟩ : SKindText), (⟨4, ([] : List UInt8)⟩ : SKindText)] : List SKindText)).bind fun r3 =>
      (sandbox_Run n r3 a1).bind fun r4 =>
      (law6_with n a0 ([(⟨5, ([] : List UInt8)⟩ : SKindText)] : List SKindText)).bind fun r5 =>
      (sandbox_Run n r5 a1).bind fun r6 =>
      (law6_with n a0 ([(⟨5, ([] : List UInt8)⟩ : SKindText), (⟨5, ([] : List UInt8)⟩ : SKindText)] : List SKindText)).bind fun r7 =>
      (sandbox_Run n r7 a1).bind fun r8 =>
      if (decide (r2.2.Code ≠ 0)) = true then
        if ((r4.2.Code == r2.2.Code && (r4.2.Index == r2.2.Index && true)) != false) = true then
          if ((r6.2.Code == r2.2.Code && (r6.2.Index == r2.2.Index && true)) != false) = true then
            if ((r8.2.Code == r2.2.Code && (r8.2.Index == r2.2.Index && true)) != false) = true then
              law6_SandboxFinalOperations_j1 n (decide ((r2.1.length : Int) = 0))
            else
              law6_SandboxFinalOperations_j1 n false
          else
            law6_SandboxFinalOperations_j1 n false
        else
          law6_SandboxFinalOperations_j1 n false
      else
        if (decide (r4.2.Code ≠ 0)) = true then
          law6_SandboxFinalOperations_j2 n r2 r6 true
        else
          if (decide (r6.2.Code ≠ 0)) = true then
            law6_SandboxFinalOperations_j2 n r2 r6 true
          else
            if (decide (r8.2.Code ≠ 0)) = true then
              law6_SandboxFinalOperations_j2 n r2 r6 true
            else
              (ref6_Strings n r2.1 r4.1).bind fun r19 =>
              if (!r19) = true then
                law6_SandboxFinalOperations_j2 n r2 r6 true
              else
                (ref6_Strings n r6.1 r8.1).bind fun r20 =>
                law6_SandboxFinalOperations_j2 n r2 r6 (!r20)

/- changeforge/changeforgelaw6.in -/
def law6_in_j1 (n : Nat) (x1 : Bool) : Option Bool :=
  some x1
def law6_in (n : Nat) (a0 : Int) (a1 : Int) (a2 : Int) : Option Bool :=
  if (decide (a1 ≤ a0)) = true then
    law6_in_j1 n (decide (a0 ≤ a2))
  else
    law6_in_j1 n false

/- changeforge/changeforgelaw6.SandboxExecutionsStopAtTheFirstError -/
def law6_SandboxExecutionsStopAtTheFirstError_j3 (n : Nat) (r1 : ((List (List UInt8)) × SCodeIndex)) (r5 : ((List (List UInt8)) × SCodeIndex)) (x6 : Bool) : Option Bool :=
  if x6 = true then
    some (decide (r5.2.Code = 0))
  else
    some ((r5.2.Code == r1.2.Code && (r5.2.Index == r1.2.Index && true)) != false)
def law6_SandboxExecutionsStopAtTheFirstError_j2 (n : Nat) (a0 : SInputsOpsOutput) (a1 : SFiles) (a2 : Int) (r1 : ((List (List UInt8)) × SCodeIndex)) (x3 : Bool) : Option Bool :=
  if x3 = true then
    some true
  else
    (gcut a0.Ops 0 a2).bind fun s4 =>
    (sandbox_Run n (⟨a0.Inputs, s4, a0.Output⟩ : SInputsOpsOutput) a1).bind fun r5 =>
    if (decide (r1.2.Code = 0)) = true then
      law6_SandboxExecutionsStopAtTheFirstError_j3 n r1 r5 true
    else
      (gsub (-3) r1.2.Index).bind fun x7 =>
      law6_SandboxExecutionsStopAtTheFirstError_j3 n r1 r5 (decide (a2 ≤ x7))
def law6_SandboxExecutionsStopAtTheFirstError_j1 (n : Nat) (a0 : SInputsOpsOutput) (a1 : SFiles) (a2 : Int) (r1 : ((List (List UInt8)) × SCodeIndex)) (x2 : Bool) : Option Bool :=
  if x2 = true then
    some false
  else
    (law6_in n a2 0 (a0.Ops.length : Int)).bind fun r8 =>
    if (!r8) = true then
      law6_SandboxExecutionsStopAtTheFirstError_j2 n a0 a1 a2 r1 true
    else
      (ref6_RunFault n a0 a1).bind fun r9 =>
      law6_SandboxExecutionsStopAtTheFirstError_j2 n a0 a1 a2 r1 (decide (r9.Code ≠ 0))
def law6_SandboxExecutionsStopAtTheFirstError (n : Nat) (a0 : SInputsOpsOutput) (a1 : SFiles) (a2 : Int) : Option Bool :=
  (sandbox_Run n a0 a1).bind fun r1 =>
  (law6_runs n).bind fun r10 =>
  if (!r10) = true then
    law6_SandboxExecutionsStopAtTheFirstError_j1 n a0 a1 a2 r1 true
  else
    if (decide (r1.2.Code ≠ 0)) = true then
      law6_SandboxExecutionsStopAtTheFirstError_j1 n a0 a1 a2 r1 (decide (0 < (r1.1.length : Int)))
    else
      law6_SandboxExecutionsStopAtTheFirstError_j1 n a0 a1 a2 r1 false
end Go.Proofs.YtadeoaglhaaimaaDoor
