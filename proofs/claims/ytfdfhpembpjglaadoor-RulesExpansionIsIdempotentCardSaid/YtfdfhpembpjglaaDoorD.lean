/- The types of the functions, and what the functions compute: partial operations as options; n is the fuel of each loop. Laid by a program (wip/gen/dec.py). -/
import Derived.Test.YtfdfhpembpjglaaDoorPwDec
import Derived.Test.YtfdfhpembpjglaaDoorPwSplit
import Derived.Test.YtfdfhpembpjglaaDoorPwEat
import Derived.Test.YtfdfhpembpjglaaDoorPwSortI
import Derived.Test.YtfdfhpembpjglaaDoorPwCut
namespace Go.Proofs.YtfdfhpembpjglaaDoor
open Go.PW Go
set_option linter.unusedVariables false
structure SCodeIndex where
  Code : Int
  Index : Int
  deriving DecidableEq
def SCodeIndex.cells (x : SCodeIndex) : List PV := [.int .i64 x.Code, .int .i64 x.Index]
structure SKindInputs where
  Kind : Int
  Inputs : List Int
  deriving DecidableEq
def SKindInputs.cells (x : SKindInputs) : List PV := [.int .i64 x.Kind, .list 1 (List.map cI x.Inputs)]
structure SRuleKindInputs where
  Rule : Int
  Kind : Int
  Inputs : List Int
  deriving DecidableEq
def SRuleKindInputs.cells (x : SRuleKindInputs) : List PV := [.int .i64 x.Rule, .int .i64 x.Kind, .list 1 (List.map cI x.Inputs)]
def ref6_fault (n : Nat) (a0 : Int) (a1 : Int) : Option SCodeIndex :=
  some (⟨a0, a1⟩ : SCodeIndex)
def ref6_StandsFor_j1 (n : Nat) (x4 : Int) (lp1 : (List Bool) → Int → Option (List Bool)) (w5 : List Bool) : Option (List Bool) :=
  (gsub x4 1).bind fun x6 =>
  lp1 w5 x6
def ref6_StandsFor_l2 (n : Nat) (a0 : List SKindInputs) (x4 : Int) (lp1 : (List Bool) → Int → Option (List Bool)) : Nat → List Bool → Int → Option (List Bool)
  | 0, _, _ => none
  | m2 + 1, w9, x10 =>
    (gidx a0 x4).bind fun e11 =>
    if (decide (x10 < (e11.Inputs.length : Int))) = true then
      (gidx e11.Inputs x10).bind fun e12 =>
      (gidx w9 e12).bind fun e13 =>
      (gadd x10 1).bind fun x14 =>
      (ref6_StandsFor_l2 n a0 x4 lp1 m2) (gset w9 e12 true) x14
    else
      ref6_StandsFor_j1 n x4 lp1 w9
def ref6_StandsFor_j3 (n : Nat) (a0 : List SKindInputs) (x4 : Int) (lp1 : (List Bool) → Int → Option (List Bool)) (w7 : List Bool) (x8 : Bool) : Option (List Bool) :=
  if x8 = true then
    ref6_StandsFor_l2 n a0 x4 lp1 n w7 0
  else
    ref6_StandsFor_j1 n x4 lp1 w7
def ref6_StandsFor_j2 (n : Nat) (a0 : List SKindInputs) (x4 : Int) (lp1 : (List Bool) → Int → Option (List Bool)) (w7 : List Bool) : Option (List Bool) :=
  (gidx w7 x4).bind fun e15 =>
  if e15 = true then
    (gidx a0 x4).bind fun e16 =>
    ref6_StandsFor_j3 n a0 x4 lp1 w7 (decide (e16.Kind = 6))
  else
    ref6_StandsFor_j3 n a0 x4 lp1 w7 false
def ref6_StandsFor_j4 (n : Nat) (x20 : Int) (lp3 : (List Bool) → Int → Option (List Bool)) (w21 : List Bool) : Option (List Bool) :=
  (gadd x20 1).bind fun x22 =>
  lp3 w21 x22
def ref6_StandsFor_l3 (n : Nat) (a0 : List SKindInputs) : Nat → List Bool → Int → Option (List Bool)
  | 0, _, _ => none
  | m3 + 1, w19, x20 =>
    if (decide (x20 < (a0.length : Int))) = true then
      (gidx w19 x20).bind fun e23 =>
      if e23 = true then
        (gidx a0 x20).bind fun e24 =>
        ref6_StandsFor_j4 n x20 (ref6_StandsFor_l3 n a0 m3) (gset w19 x20 (decide (e24.Kind ≠ 6)))
      else
        ref6_StandsFor_j4 n x20 (ref6_StandsFor_l3 n a0 m3) (gset w19 x20 false)
    else
      some w19
def ref6_StandsFor_l1 (n : Nat) (a0 : List SKindInputs) (a1 : List Bool) : Nat → List Bool → Int → Option (List Bool)
  | 0, _, _ => none
  | m1 + 1, w3, x4 =>
    if (decide (0 ≤ x4)) = true then
      (gidx w3 x4).bind fun e17 =>
      if e17 = true then
        ref6_StandsFor_j2 n a0 x4 (ref6_StandsFor_l1 n a0 a1 m1) (gset w3 x4 true)
      else
        (gidx a1 x4).bind fun e18 =>
        ref6_StandsFor_j2 n a0 x4 (ref6_StandsFor_l1 n a0 a1 m1) (gset w3 x4 e18)
    else
      ref6_StandsFor_l3 n a0 n w3 0
def ref6_StandsFor (n : Nat) (a0 : List SKindInputs) (a1 : List Bool) : Option (List Bool) :=
  (gmake 1 false (a0.length : Int)).bind fun w1 =>
  (gsub (a0.length : Int) 1).bind fun x2 =>
  ref6_StandsFor_l1 n a0 a1 n w1 x2
def ref6_RuleLeaves_j1 (n : Nat) (x10 : Int) (lp2 : (List Int) → Int → Option (List Int)) (w11 : List Int) : Option (List Int) :=
  (gadd x10 1).bind fun x12 =>
  lp2 w11 x12
def ref6_RuleLeaves_l2 (n : Nat) (a0 : List SKindInputs) (r8 : (List Bool)) : Nat → List Int → Int → Option (List Int)
  | 0, _, _ => none
  | m2 + 1, w9, x10 =>
    if (decide (x10 < (a0.length : Int))) = true then
      (gidx r8 x10).bind fun e13 =>
      if e13 = true then
        (gapp 8 w9 ([x10] : List Int)).bind fun w14 =>
        ref6_RuleLeaves_j1 n x10 (ref6_RuleLeaves_l2 n a0 r8 m2) w14
      else
        ref6_RuleLeaves_j1 n x10 (ref6_RuleLeaves_l2 n a0 r8 m2) w9
    else
      some w9
def ref6_RuleLeaves_l1 (n : Nat) (a0 : List SKindInputs) (a1 : Int) : Nat → List Bool → Int → Option (List Int)
  | 0, _, _ => none
  | m1 + 1, w2, x3 =>
    (gidx a0 a1).bind fun e4 =>
    if (decide (x3 < (e4.Inputs.length : Int))) = true then
      (gidx e4.Inputs x3).bind fun e5 =>
      (gidx w2 e5).bind fun e6 =>
      (gadd x3 1).bind fun x7 =>
      (ref6_RuleLeaves_l1 n a0 a1 m1) (gset w2 e5 true) x7
    else
      (ref6_StandsFor n a0 w2).bind fun r8 =>
      ref6_RuleLeaves_l2 n a0 r8 n ([] : List Int) 0
def ref6_RuleLeaves (n : Nat) (a0 : List SKindInputs) (a1 : Int) : Option (List Int) :=
  (gmake 1 false (a0.length : Int)).bind fun w1 =>
  ref6_RuleLeaves_l1 n a0 a1 n w1 0
def ref6_in_j1 (n : Nat) (x1 : Bool) : Option Bool :=
  some x1
def ref6_in (n : Nat) (a0 : Int) (a1 : Int) (a2 : Int) : Option Bool :=
  if (decide (a1 ≤ a0)) = true then
    ref6_in_j1 n (decide (a0 ≤ a2))
  else
    ref6_in_j1 n false
def ref6_permitted_j1 (n : Nat) (x1 : Bool) : Option Bool :=
  some x1
def ref6_permitted_j2 (n : Nat) (x2 : Bool) : Option Bool :=
  some x2
def ref6_permitted (n : Nat) (a0 : Int) (a1 : Int) : Option Bool :=
  if (decide (a0 = 2)) = true then
    if (decide (a1 = 1)) = true then
      ref6_permitted_j1 n true
    else
      ref6_permitted_j1 n (decide (a1 = 3))
  else
    if (decide (a0 = 3)) = true then
      some (decide (a1 = 2))
    else
      if (decide (a0 = 4)) = true then
        if (decide (a1 = 2)) = true then
          ref6_permitted_j2 n true
        else
          ref6_permitted_j2 n (decide (a1 = 3))
      else
        if (decide (a0 = 5)) = true then
          some (decide (a1 = 4))
        else
          some false
def ref6_required (n : Nat) (a0 : Int) : Option Int :=
  if (decide (a0 = 2)) = true then
    some 1
  else
    if (decide (a0 = 3)) = true then
      some 2
    else
      if (decide (a0 = 4)) = true then
        some 2
      else
        if (decide (a0 = 5)) = true then
          some 4
        else
          some 0
def ref6_ruleCode_j1 (n : Nat) (x3 : Int) (lp1 : Int → Option Int) (x7 : Bool) : Option Int :=
  if x7 = true then
    some 5
  else
    (gadd x3 1).bind fun x8 =>
    lp1 x8
def ref6_ruleCode_j2 (n : Nat) (x15 : Int) (lp2 : Int → Int → Option Int) (x16 : Int) : Option Int :=
  (gadd x15 1).bind fun x17 =>
  lp2 x16 x17
def ref6_ruleCode_j3 (n : Nat) (x23 : Bool) : Option Int :=
  if x23 = true then
    some 9
  else
    some 0
def ref6_ruleCode_l2 (n : Nat) (a0 : List SKindInputs) (e1 : SKindInputs) (r13 : (List Int)) : Nat → Int → Int → Option Int
  | 0, _, _ => none
  | m2 + 1, x14, x15 =>
    if (decide (x15 < (r13.length : Int))) = true then
      (gidx r13 x15).bind fun e18 =>
      (gidx a0 e18).bind fun e19 =>
      (ref6_permitted n e1.Kind e19.Kind).bind fun r20 =>
      if (!r20) = true then
        some 8
      else
        (ref6_required n e1.Kind).bind fun r21 =>
        if (decide (e19.Kind = r21)) = true then
          (gadd x14 1).bind fun x22 =>
          ref6_ruleCode_j2 n x15 (ref6_ruleCode_l2 n a0 e1 r13 m2) x22
        else
          ref6_ruleCode_j2 n x15 (ref6_ruleCode_l2 n a0 e1 r13 m2) x14
    else
      if (decide (e1.Kind ≠ 1)) = true then
        if (decide (x14 = 0)) = true then
          ref6_ruleCode_j3 n true
        else
          if (decide (e1.Kind = 5)) = true then
            ref6_ruleCode_j3 n (decide ((r13.length : Int) ≠ 1))
          else
            ref6_ruleCode_j3 n false
      else
        if (decide (e1.Kind = 5)) = true then
          ref6_ruleCode_j3 n (decide ((r13.length : Int) ≠ 1))
        else
          ref6_ruleCode_j3 n false
def ref6_ruleCode_l1 (n : Nat) (a0 : List SKindInputs) (a1 : Int) (e1 : SKindInputs) : Nat → Int → Option Int
  | 0, _ => none
  | m1 + 1, x3 =>
    if (decide (x3 < (e1.Inputs.length : Int))) = true then
      (gidx e1.Inputs x3).bind fun e4 =>
      (gsub a1 1).bind fun x5 =>
      (ref6_in n e4 0 x5).bind fun r6 =>
      if (!r6) = true then
        some 3
      else
        if (decide (0 < x3)) = true then
          (gsub x3 1).bind fun x9 =>
          (gidx e1.Inputs x9).bind fun e10 =>
          ref6_ruleCode_j1 n x3 (ref6_ruleCode_l1 n a0 a1 e1 m1) (decide (e4 ≤ e10))
        else
          ref6_ruleCode_j1 n x3 (ref6_ruleCode_l1 n a0 a1 e1 m1) false
    else
      if (decide (e1.Kind = 6)) = true then
        if (decide ((e1.Inputs.length : Int) = 0)) = true then
          some 9
        else
          some 0
      else
        (gadd a1 1).bind fun x11 =>
        (gcut a0 0 x11).bind fun s12 =>
        (ref6_RuleLeaves n s12 a1).bind fun r13 =>
        ref6_ruleCode_l2 n a0 e1 r13 n 0 0
def ref6_ruleCode (n : Nat) (a0 : List SKindInputs) (a1 : Int) : Option Int :=
  (gidx a0 a1).bind fun e1 =>
  (ref6_in n e1.Kind 1 6).bind fun r2 =>
  if (!r2) = true then
    some 4
  else
    if (decide (8 < (e1.Inputs.length : Int))) = true then
      some 2
    else
      ref6_ruleCode_l1 n a0 a1 e1 n 0
def ref6_RulesFault_l1 (n : Nat) (a0 : List SKindInputs) : Nat → Int → Option SCodeIndex
  | 0, _ => none
  | m1 + 1, x2 =>
    if (decide (x2 < (a0.length : Int))) = true then
      (ref6_ruleCode n a0 x2).bind fun r3 =>
      if (decide (r3 ≠ 0)) = true then
        (ref6_fault n r3 x2).bind fun r4 =>
        some r4
      else
        (gadd x2 1).bind fun x5 =>
        (ref6_RulesFault_l1 n a0 m1) x5
    else
      some (⟨0, 0⟩ : SCodeIndex)
def ref6_RulesFault (n : Nat) (a0 : List SKindInputs) : Option SCodeIndex :=
  if (decide (30 < (a0.length : Int))) = true then
    (ref6_fault n 2 (-1)).bind fun r1 =>
    some r1
  else
    ref6_RulesFault_l1 n a0 n 0
def rules_leaves_l1 (n : Nat) (a0 : SKindInputs) (a1 : List (List Int)) : Nat → List Int → Int → Option (List Int)
  | 0, _, _ => none
  | m1 + 1, w1, x2 =>
    if (decide (x2 < (a0.Inputs.length : Int))) = true then
      (gidx a0.Inputs x2).bind fun e3 =>
      (gidx a1 e3).bind fun e4 =>
      (gapp 8 w1 e4).bind fun w5 =>
      (gadd x2 1).bind fun x6 =>
      (rules_leaves_l1 n a0 a1 m1) w5 x6
    else
      some (Lib.compact (sortedI w1))
def rules_leaves (n : Nat) (a0 : SKindInputs) (a1 : List (List Int)) : Option (List Int) :=
  rules_leaves_l1 n a0 a1 n ([] : List Int) 0
def slices_Index_int_l1 (n : Nat) (a0 : List Int) (a1 : Int) : Nat → Int → Option Int
  | 0, _ => none
  | m1 + 1, x1 =>
    if (decide (x1 < (a0.length : Int))) = true then
      (gidx a0 x1).bind fun e2 =>
      if (decide (a1 = e2)) = true then
        some x1
      else
        (gadd x1 1).bind fun x3 =>
        (slices_Index_int_l1 n a0 a1 m1) x3
    else
      some (-1)
def slices_Index_int (n : Nat) (a0 : List Int) (a1 : Int) : Option Int :=
  slices_Index_int_l1 n a0 a1 n 0
def slices_Contains_int (n : Nat) (a0 : List Int) (a1 : Int) : Option Bool :=
  (slices_Index_int n a0 a1).bind fun r1 =>
  some (decide (0 ≤ r1))
def rules_check_j3 (n : Nat) (x3 : Int) (lp1 : Int → Option Int) (x6 : Bool) : Option Int :=
  if x6 = true then
    some 5
  else
    (gadd x3 1).bind fun x7 =>
    lp1 x7
def rules_check_j2 (n : Nat) (e1 : SKindInputs) (x3 : Int) (lp1 : Int → Option Int) (e4 : Int) (x5 : Bool) : Option Int :=
  if x5 = true then
    some 3
  else
    if (decide (0 < x3)) = true then
      (gsub x3 1).bind fun x8 =>
      (gidx e1.Inputs x8).bind fun e9 =>
      rules_check_j3 n x3 lp1 (decide (e4 ≤ e9))
    else
      rules_check_j3 n x3 lp1 false
def rules_check_j4 (n : Nat) (x12 : Int) (lp2 : Int → Int → Option Int) (x13 : Int) : Option Int :=
  (gadd x12 1).bind fun x14 =>
  lp2 x13 x14
def rules_check_j5 (n : Nat) (x21 : Bool) : Option Int :=
  if x21 = true then
    some 9
  else
    some 0
def rules_check_l2 (n : Nat) (a0 : List SKindInputs) (e1 : SKindInputs) (r10 : (List Int)) : Nat → Int → Int → Option Int
  | 0, _, _ => none
  | m2 + 1, x11, x12 =>
    if (decide (x12 < (r10.length : Int))) = true then
      (gidx r10 x12).bind fun e15 =>
      (garr 7 e1.Kind).bind fun i16 =>
      (gidx a0 e15).bind fun e17 =>
      (slices_Contains_int n (if i16 = 0 then ([] : List Int) else (if i16 = 1 then ([] : List Int) else (if i16 = 2 then ([1, 3] : List Int) else (if i16 = 3 then ([2] : List Int) else (if i16 = 4 then ([2, 3] : List Int) else (if i16 = 5 then ([4] : List Int) else ([1, 2, 3, 4, 5] : List Int))))))) e17.Kind).bind fun r18 =>
      if (!r18) = true then
        some 8
      else
        (garr 7 e1.Kind).bind fun i19 =>
        if (decide (e17.Kind = (if i19 = 0 then 0 else (if i19 = 1 then 0 else (if i19 = 2 then 1 else (if i19 = 3 then 2 else (if i19 = 4 then 2 else (if i19 = 5 then 4 else 0 : Int) : Int) : Int) : Int) : Int) : Int))) = true then
          (gadd x11 1).bind fun x20 =>
          rules_check_j4 n x12 (rules_check_l2 n a0 e1 r10 m2) x20
        else
          rules_check_j4 n x12 (rules_check_l2 n a0 e1 r10 m2) x11
    else
      (garr 7 e1.Kind).bind fun i22 =>
      if (decide ((if i22 = 0 then 0 else (if i22 = 1 then 0 else (if i22 = 2 then 1 else (if i22 = 3 then 2 else (if i22 = 4 then 2 else (if i22 = 5 then 4 else 0 : Int) : Int) : Int) : Int) : Int) : Int) ≠ 0)) = true then
        if (decide (x11 = 0)) = true then
          rules_check_j5 n true
        else
          if (decide (e1.Kind = 5)) = true then
            if (decide ((r10.length : Int) ≠ 1)) = true then
              rules_check_j5 n true
            else
              if (decide (e1.Kind = 6)) = true then
                rules_check_j5 n (decide ((e1.Inputs.length : Int) = 0))
              else
                rules_check_j5 n false
          else
            if (decide (e1.Kind = 6)) = true then
              rules_check_j5 n (decide ((e1.Inputs.length : Int) = 0))
            else
              rules_check_j5 n false
      else
        if (decide (e1.Kind = 5)) = true then
          if (decide ((r10.length : Int) ≠ 1)) = true then
            rules_check_j5 n true
          else
            if (decide (e1.Kind = 6)) = true then
              rules_check_j5 n (decide ((e1.Inputs.length : Int) = 0))
            else
              rules_check_j5 n false
        else
          if (decide (e1.Kind = 6)) = true then
            rules_check_j5 n (decide ((e1.Inputs.length : Int) = 0))
          else
            rules_check_j5 n false
def rules_check_l1 (n : Nat) (a0 : List SKindInputs) (a1 : Int) (a2 : List (List Int)) (e1 : SKindInputs) : Nat → Int → Option Int
  | 0, _ => none
  | m1 + 1, x3 =>
    if (decide (x3 < (e1.Inputs.length : Int))) = true then
      (gidx e1.Inputs x3).bind fun e4 =>
      if (decide (e4 < 0)) = true then
        rules_check_j2 n e1 x3 (rules_check_l1 n a0 a1 a2 e1 m1) e4 true
      else
        rules_check_j2 n e1 x3 (rules_check_l1 n a0 a1 a2 e1 m1) e4 (decide (a1 ≤ e4))
    else
      (rules_leaves n e1 a2).bind fun r10 =>
      rules_check_l2 n a0 e1 r10 n 0 0
def rules_check_j1 (n : Nat) (a0 : List SKindInputs) (a1 : Int) (a2 : List (List Int)) (e1 : SKindInputs) (x2 : Bool) : Option Int :=
  if x2 = true then
    some 4
  else
    if (decide (8 < (e1.Inputs.length : Int))) = true then
      some 2
    else
      rules_check_l1 n a0 a1 a2 e1 n 0
def rules_check (n : Nat) (a0 : List SKindInputs) (a1 : Int) (a2 : List (List Int)) : Option Int :=
  (gidx a0 a1).bind fun e1 =>
  if (decide (e1.Kind < 1)) = true then
    rules_check_j1 n a0 a1 a2 e1 true
  else
    rules_check_j1 n a0 a1 a2 e1 (decide (6 < e1.Kind))
def rules_leaves_m1_l1 (n : Nat) (a1 : List Int) (a2 : List (List Int)) : Nat → List Int → Int → Option (List Int)
  | 0, _, _ => none
  | m1 + 1, w1, x2 =>
    if (decide (x2 < (a1.length : Int))) = true then
      (gidx a1 x2).bind fun e3 =>
      (gidx a2 e3).bind fun e4 =>
      (gapp 8 w1 e4).bind fun w5 =>
      (gadd x2 1).bind fun x6 =>
      (rules_leaves_m1_l1 n a1 a2 m1) w5 x6
    else
      some (Lib.compact (sortedI w1))
def rules_leaves_m1 (n : Nat) (a0 : Int) (a1 : List Int) (a2 : List (List Int)) : Option (List Int) :=
  rules_leaves_m1_l1 n a1 a2 n ([] : List Int) 0
def rules_stands_m1 (n : Nat) (a0 : Int) (a1 : List Int) (a2 : Int) (a3 : List (List Int)) : Option (List Int) :=
  if (decide (a0 ≠ 6)) = true then
    some ([a2] : List Int)
  else
    (rules_leaves_m1 n a0 a1 a3).bind fun r1 =>
    some r1
def rules_open_l1 (n : Nat) (a0 : List SKindInputs) : Nat → List (List Int) → Int → Option ((List (List Int)) × SCodeIndex)
  | 0, _, _ => none
  | m1 + 1, w1, x2 =>
    if (decide (x2 < (a0.length : Int))) = true then
      (gidx a0 x2).bind fun e3 =>
      (rules_check n a0 x2 w1).bind fun r4 =>
      if (decide (r4 ≠ 0)) = true then
        some (([] : List (List Int)), (⟨r4, x2⟩ : SCodeIndex))
      else
        (rules_stands_m1 n e3.Kind e3.Inputs x2 w1).bind fun r5 =>
        (gapp 24 w1 ([r5] : List (List Int))).bind fun w6 =>
        (gadd x2 1).bind fun x7 =>
        (rules_open_l1 n a0 m1) w6 x7
    else
      some (w1, (⟨0, 0⟩ : SCodeIndex))
def rules_open (n : Nat) (a0 : List SKindInputs) : Option ((List (List Int)) × SCodeIndex) :=
  if (decide (30 < (a0.length : Int))) = true then
    some (([] : List (List Int)), (⟨2, (-1)⟩ : SCodeIndex))
  else
    rules_open_l1 n a0 n ([] : List (List Int)) 0
def rules_Validate (n : Nat) (a0 : List SKindInputs) : Option SCodeIndex :=
  (rules_open n a0).bind fun r1 =>
  some (⟨r1.2.Code, r1.2.Index⟩ : SCodeIndex)
def law6_fault (n : Nat) (a0 : Int) (a1 : Int) : Option SCodeIndex :=
  some (⟨a0, a1⟩ : SCodeIndex)
def rules_Leaves_j1 (n : Nat) (a1 : Int) (r1 : ((List (List Int)) × SCodeIndex)) (x2 : Bool) : Option ((List Int) × SCodeIndex) :=
  if x2 = true then
    some (([] : List Int), (⟨3, (-2)⟩ : SCodeIndex))
  else
    (gidx r1.1 a1).bind fun e3 =>
    some (e3, (⟨0, 0⟩ : SCodeIndex))
def rules_Leaves (n : Nat) (a0 : List SKindInputs) (a1 : Int) : Option ((List Int) × SCodeIndex) :=
  (rules_open n a0).bind fun r1 =>
  if ((r1.2.Code == 0 && (r1.2.Index == 0 && true)) != true) = true then
    some (([] : List Int), (⟨r1.2.Code, r1.2.Index⟩ : SCodeIndex))
  else
    if (decide (a1 < 0)) = true then
      rules_Leaves_j1 n a1 r1 true
    else
      rules_Leaves_j1 n a1 r1 (decide ((a0.length : Int) ≤ a1))
def ref5_Ints_l1 (n : Nat) (a0 : List Int) (a1 : List Int) : Nat → Int → Option Bool
  | 0, _ => none
  | m1 + 1, x1 =>
    if (decide (x1 < (a0.length : Int))) = true then
      (gidx a0 x1).bind fun e2 =>
      (gidx a1 x1).bind fun e3 =>
      if (decide (e2 ≠ e3)) = true then
        some false
      else
        (gadd x1 1).bind fun x4 =>
        (ref5_Ints_l1 n a0 a1 m1) x4
    else
      some true
def ref5_Ints (n : Nat) (a0 : List Int) (a1 : List Int) : Option Bool :=
  if (decide ((a0.length : Int) ≠ (a1.length : Int))) = true then
    some false
  else
    ref5_Ints_l1 n a0 a1 n 0
def rules_Expand_j1 (n : Nat) (x5 : Int) (lp1 : (List Int) → (List SRuleKindInputs) → Int → Option ((List SRuleKindInputs) × SCodeIndex)) (w6 : List Int) (w7 : List SRuleKindInputs) : Option ((List SRuleKindInputs) × SCodeIndex) :=
  (gadd x5 1).bind fun x8 =>
  lp1 w6 w7 x8
def rules_Expand_l2 (n : Nat) (w3 : List Int) (w4 : List SRuleKindInputs) (x5 : Int) (lp1 : (List Int) → (List SRuleKindInputs) → Int → Option ((List SRuleKindInputs) × SCodeIndex)) (e9 : SKindInputs) (r11 : (List Int)) : Nat → List Int → Int → Option ((List SRuleKindInputs) × SCodeIndex)
  | 0, _, _ => none
  | m2 + 1, w12, x13 =>
    if (decide (x13 < (r11.length : Int))) = true then
      (gidx r11 x13).bind fun e14 =>
      (gidx (gset w3 x5 (w4.length : Int)) e14).bind fun e15 =>
      (gapp 8 w12 ([e15] : List Int)).bind fun w16 =>
      (gadd x13 1).bind fun x17 =>
      (rules_Expand_l2 n w3 w4 x5 lp1 e9 r11 m2) w16 x17
    else
      (gapp 40 w4 ([(⟨x5, e9.Kind, w12⟩ : SRuleKindInputs)] : List SRuleKindInputs)).bind fun w18 =>
      rules_Expand_j1 n x5 lp1 (gset w3 x5 (w4.length : Int)) w18
def rules_Expand_l1 (n : Nat) (a0 : List SKindInputs) (r1 : ((List (List Int)) × SCodeIndex)) : Nat → List Int → List SRuleKindInputs → Int → Option ((List SRuleKindInputs) × SCodeIndex)
  | 0, _, _, _ => none
  | m1 + 1, w3, w4, x5 =>
    if (decide (x5 < (a0.length : Int))) = true then
      (gidx a0 x5).bind fun e9 =>
      if (decide (e9.Kind = 6)) = true then
        rules_Expand_j1 n x5 (rules_Expand_l1 n a0 r1 m1) w3 w4
      else
        (gidx w3 x5).bind fun e10 =>
        (rules_leaves n e9 r1.1).bind fun r11 =>
        rules_Expand_l2 n w3 w4 x5 (rules_Expand_l1 n a0 r1 m1) e9 r11 n ([] : List Int) 0
    else
      some (w4, (⟨0, 0⟩ : SCodeIndex))
def rules_Expand (n : Nat) (a0 : List SKindInputs) : Option ((List SRuleKindInputs) × SCodeIndex) :=
  (rules_open n a0).bind fun r1 =>
  if ((r1.2.Code == 0 && (r1.2.Index == 0 && true)) != true) = true then
    some (([] : List SRuleKindInputs), (⟨r1.2.Code, r1.2.Index⟩ : SCodeIndex))
  else
    (gmake 8 0 (a0.length : Int)).bind fun w2 =>
    rules_Expand_l1 n a0 r1 n w2 ([] : List SRuleKindInputs) 0
def ref6_SameSteps_j1 (n : Nat) (x1 : Int) (lp1 : Int → Option Bool) (x2 : Bool) : Option Bool :=
  if x2 = true then
    some false
  else
    (gadd x1 1).bind fun x3 =>
    lp1 x3
def ref6_SameSteps_l1 (n : Nat) (a0 : List SRuleKindInputs) (a1 : List SRuleKindInputs) : Nat → Int → Option Bool
  | 0, _ => none
  | m1 + 1, x1 =>
    if (decide (x1 < (a0.length : Int))) = true then
      (gidx a0 x1).bind fun e4 =>
      (gidx a1 x1).bind fun e5 =>
      if (decide (e4.Rule ≠ e5.Rule)) = true then
        ref6_SameSteps_j1 n x1 (ref6_SameSteps_l1 n a0 a1 m1) true
      else
        if (decide (e4.Kind ≠ e5.Kind)) = true then
          ref6_SameSteps_j1 n x1 (ref6_SameSteps_l1 n a0 a1 m1) true
        else
          (ref5_Ints n e4.Inputs e5.Inputs).bind fun r6 =>
          ref6_SameSteps_j1 n x1 (ref6_SameSteps_l1 n a0 a1 m1) (!r6)
    else
      some true
def ref6_SameSteps (n : Nat) (a0 : List SRuleKindInputs) (a1 : List SRuleKindInputs) : Option Bool :=
  if (decide ((a0.length : Int) ≠ (a1.length : Int))) = true then
    some false
  else
    ref6_SameSteps_l1 n a0 a1 n 0
def law6_project (n : Nat) : Option (List SKindInputs) :=
  some ([(⟨1, ([] : List Int)⟩ : SKindInputs), (⟨6, ([0] : List Int)⟩ : SKindInputs), (⟨2, ([1] : List Int)⟩ : SKindInputs)] : List SKindInputs)
def law6_expands_j1 (n : Nat) (x5 : Bool) : Option Bool :=
  some x5
def law6_expands (n : Nat) : Option Bool :=
  (law6_project n).bind fun r1 =>
  (rules_Leaves n r1 1).bind fun r2 =>
  (law6_project n).bind fun r3 =>
  (rules_Expand n r3).bind fun r4 =>
  if (decide (r2.2.Code = 0)) = true then
    if (decide (r4.2.Code = 0)) = true then
      (ref5_Ints n r2.1 ([0] : List Int)).bind fun r6 =>
      if r6 = true then
        (ref6_SameSteps n r4.1 ([(⟨0, 1, ([] : List Int)⟩ : SRuleKindInputs), (⟨2, 2, ([0] : List Int)⟩ : SRuleKindInputs)] : List SRuleKindInputs)).bind fun r7 =>
        if r7 = true then
          (rules_Validate n ([(⟨1, ([] : List Int)⟩ : SKindInputs), (⟨3, ([0] : List Int)⟩ : SKindInputs)] : List SKindInputs)).bind fun r8 =>
          (law6_fault n 8 1).bind fun r9 =>
          law6_expands_j1 n ((r8.Code == r9.Code && (r8.Index == r9.Index && true)) != false)
        else
          law6_expands_j1 n false
      else
        law6_expands_j1 n false
    else
      law6_expands_j1 n false
  else
    law6_expands_j1 n false
def law6_in_j1 (n : Nat) (x1 : Bool) : Option Bool :=
  some x1
def law6_in (n : Nat) (a0 : Int) (a1 : Int) (a2 : Int) : Option Bool :=
  if (decide (a1 ≤ a0)) = true then
    law6_in_j1 n (decide (a0 ≤ a2))
  else
    law6_in_j1 n false
def law6_RulesMatchSpec_j4 (n : Nat) (x7 : Bool) : Option Bool :=
  some x7
def law6_RulesMatchSpec_j3 (n : Nat) (a0 : List SKindInputs) (a1 : Int) (b3 : Int) (b4 : Int) (r5 : ((List Int) × SCodeIndex)) (x6 : Bool) : Option Bool :=
  if x6 = true then
    if ((r5.2.Code == b3 && (r5.2.Index == b4 && true)) != false) = true then
      law6_RulesMatchSpec_j4 n (decide ((r5.1.length : Int) = 0))
    else
      law6_RulesMatchSpec_j4 n false
  else
    (gidx a0 a1).bind fun e8 =>
    if (decide (e8.Kind ≠ 6)) = true then
      (ref5_Ints n r5.1 ([a1] : List Int)).bind fun r9 =>
      some r9
    else
      (ref6_RuleLeaves n a0 a1).bind fun r10 =>
      (ref5_Ints n r5.1 r10).bind fun r11 =>
      some r11
def law6_RulesMatchSpec_j2 (n : Nat) (a0 : List SKindInputs) (a1 : Int) (b3 : Int) (b4 : Int) : Option Bool :=
  (rules_Leaves n a0 a1).bind fun r5 =>
  if ((r5.2.Code == b3 && (r5.2.Index == b4 && true)) != true) = true then
    law6_RulesMatchSpec_j3 n a0 a1 b3 b4 r5 true
  else
    law6_RulesMatchSpec_j3 n a0 a1 b3 b4 r5 (decide (b3 ≠ 0))
def law6_RulesMatchSpec_j5 (n : Nat) (a0 : List SKindInputs) (a1 : Int) (r1 : SCodeIndex) (x12 : Bool) : Option Bool :=
  if x12 = true then
    (law6_fault n 3 (-2)).bind fun r13 =>
    law6_RulesMatchSpec_j2 n a0 a1 r13.Code r13.Index
  else
    law6_RulesMatchSpec_j2 n a0 a1 r1.Code r1.Index
def law6_RulesMatchSpec_j1 (n : Nat) (a0 : List SKindInputs) (a1 : Int) (r1 : SCodeIndex) (x2 : Bool) : Option Bool :=
  if x2 = true then
    some false
  else
    if (decide (r1.Code = 0)) = true then
      (gsub (a0.length : Int) 1).bind fun x14 =>
      (law6_in n a1 0 x14).bind fun r15 =>
      law6_RulesMatchSpec_j5 n a0 a1 r1 (!r15)
    else
      law6_RulesMatchSpec_j5 n a0 a1 r1 false
def law6_RulesMatchSpec (n : Nat) (a0 : List SKindInputs) (a1 : Int) : Option Bool :=
  (ref6_RulesFault n a0).bind fun r1 =>
  (law6_expands n).bind fun r16 =>
  if (!r16) = true then
    law6_RulesMatchSpec_j1 n a0 a1 r1 true
  else
    (rules_Validate n a0).bind fun r17 =>
    law6_RulesMatchSpec_j1 n a0 a1 r1 ((r17.Code == r1.Code && (r17.Index == r1.Index && true)) != true)
def ref6_Expanded_j1 (n : Nat) (x2 : Int) (lp1 : (List SRuleKindInputs) → Int → Option (List SRuleKindInputs)) (w3 : List SRuleKindInputs) : Option (List SRuleKindInputs) :=
  (gadd x2 1).bind fun x4 =>
  lp1 w3 x4
def ref6_Expanded_j2 (n : Nat) (x10 : Int) (lp3 : (List Int) → Int → Option (List SRuleKindInputs)) (w11 : List Int) : Option (List SRuleKindInputs) :=
  (gadd x10 1).bind fun x12 =>
  lp3 w11 x12
def ref6_Expanded_l3 (n : Nat) (w1 : List SRuleKindInputs) (r6 : (List Int)) (x8 : Int) (lp2 : (List Int) → Int → Option (List SRuleKindInputs)) : Nat → List Int → Int → Option (List SRuleKindInputs)
  | 0, _, _ => none
  | m3 + 1, w9, x10 =>
    if (decide (x10 < (w1.length : Int))) = true then
      (gidx w1 x10).bind fun e13 =>
      (gidx r6 x8).bind fun e14 =>
      if (decide (e13.Rule = e14)) = true then
        (gapp 8 w9 ([x10] : List Int)).bind fun w15 =>
        ref6_Expanded_j2 n x10 (ref6_Expanded_l3 n w1 r6 x8 lp2 m3) w15
      else
        ref6_Expanded_j2 n x10 (ref6_Expanded_l3 n w1 r6 x8 lp2 m3) w9
    else
      (gadd x8 1).bind fun x16 =>
      lp2 w9 x16
def ref6_Expanded_l2 (n : Nat) (w1 : List SRuleKindInputs) (x2 : Int) (lp1 : (List SRuleKindInputs) → Int → Option (List SRuleKindInputs)) (e5 : SKindInputs) (r6 : (List Int)) : Nat → List Int → Int → Option (List SRuleKindInputs)
  | 0, _, _ => none
  | m2 + 1, w7, x8 =>
    if (decide (x8 < (r6.length : Int))) = true then
      ref6_Expanded_l3 n w1 r6 x8 (ref6_Expanded_l2 n w1 x2 lp1 e5 r6 m2) n w7 0
    else
      (gapp 40 w1 ([(⟨x2, e5.Kind, w7⟩ : SRuleKindInputs)] : List SRuleKindInputs)).bind fun w17 =>
      ref6_Expanded_j1 n x2 lp1 w17
def ref6_Expanded_l1 (n : Nat) (a0 : List SKindInputs) : Nat → List SRuleKindInputs → Int → Option (List SRuleKindInputs)
  | 0, _, _ => none
  | m1 + 1, w1, x2 =>
    if (decide (x2 < (a0.length : Int))) = true then
      (gidx a0 x2).bind fun e5 =>
      if (decide (e5.Kind = 6)) = true then
        ref6_Expanded_j1 n x2 (ref6_Expanded_l1 n a0 m1) w1
      else
        (ref6_RuleLeaves n a0 x2).bind fun r6 =>
        ref6_Expanded_l2 n w1 x2 (ref6_Expanded_l1 n a0 m1) e5 r6 n ([] : List Int) 0
    else
      some w1
def ref6_Expanded (n : Nat) (a0 : List SKindInputs) : Option (List SRuleKindInputs) :=
  ref6_Expanded_l1 n a0 n ([] : List SRuleKindInputs) 0
def law6_RulesExpandMatchesSpec_j1 (n : Nat) (x3 : Bool) : Option Bool :=
  some x3
def law6_RulesExpandMatchesSpec (n : Nat) (a0 : List SKindInputs) : Option Bool :=
  (ref6_RulesFault n a0).bind fun r1 =>
  (rules_Expand n a0).bind fun r2 =>
  (law6_expands n).bind fun r4 =>
  if r4 = true then
    if ((r2.2.Code == r1.Code && (r2.2.Index == r1.Index && true)) != false) = true then
      if (decide (r1.Code ≠ 0)) = true then
        if (decide ((r2.1.length : Int) = 0)) = true then
          law6_RulesExpandMatchesSpec_j1 n true
        else
          if (decide (r1.Code = 0)) = true then
            (ref6_Expanded n a0).bind fun r5 =>
            (ref6_SameSteps n r2.1 r5).bind fun r6 =>
            law6_RulesExpandMatchesSpec_j1 n r6
          else
            law6_RulesExpandMatchesSpec_j1 n false
      else
        if (decide (r1.Code = 0)) = true then
          (ref6_Expanded n a0).bind fun r7 =>
          (ref6_SameSteps n r2.1 r7).bind fun r8 =>
          law6_RulesExpandMatchesSpec_j1 n r8
        else
          law6_RulesExpandMatchesSpec_j1 n false
    else
      law6_RulesExpandMatchesSpec_j1 n false
  else
    law6_RulesExpandMatchesSpec_j1 n false
def law6_may_j1 (n : Nat) (x1 : Bool) : Option Bool :=
  some x1
def law6_may_j2 (n : Nat) (x2 : Bool) : Option Bool :=
  some x2
def law6_may (n : Nat) (a0 : Int) (a1 : Int) : Option Bool :=
  if (decide (a0 = 2)) = true then
    if (decide (a1 = 1)) = true then
      law6_may_j1 n true
    else
      law6_may_j1 n (decide (a1 = 3))
  else
    if (decide (a0 = 3)) = true then
      some (decide (a1 = 2))
    else
      if (decide (a0 = 4)) = true then
        if (decide (a1 = 2)) = true then
          law6_may_j2 n true
        else
          law6_may_j2 n (decide (a1 = 3))
      else
        if (decide (a0 = 5)) = true then
          some (decide (a1 = 4))
        else
          some false
def law6_RulesStepsAreTyped_j3 (n : Nat) (x5 : Int) (lp2 : Int → Option Bool) (x8 : Bool) : Option Bool :=
  if x8 = true then
    some false
  else
    (gadd x5 1).bind fun x9 =>
    lp2 x9
def law6_RulesStepsAreTyped_l2 (n : Nat) (r1 : ((List SRuleKindInputs) × SCodeIndex)) (x3 : Int) (lp1 : Int → Option Bool) : Nat → Int → Option Bool
  | 0, _ => none
  | m2 + 1, x5 =>
    (gidx r1.1 x3).bind fun e6 =>
    if (decide (x5 < (e6.Inputs.length : Int))) = true then
      (gidx e6.Inputs x5).bind fun e7 =>
      (gsub x3 1).bind fun x10 =>
      (law6_in n e7 0 x10).bind fun r11 =>
      if (!r11) = true then
        law6_RulesStepsAreTyped_j3 n x5 (law6_RulesStepsAreTyped_l2 n r1 x3 lp1 m2) true
      else
        (gidx r1.1 e7).bind fun e12 =>
        (law6_may n e6.Kind e12.Kind).bind fun r13 =>
        if (!r13) = true then
          law6_RulesStepsAreTyped_j3 n x5 (law6_RulesStepsAreTyped_l2 n r1 x3 lp1 m2) true
        else
          if (decide (0 < x5)) = true then
            (gsub x5 1).bind fun x14 =>
            (gidx e6.Inputs x14).bind fun e15 =>
            law6_RulesStepsAreTyped_j3 n x5 (law6_RulesStepsAreTyped_l2 n r1 x3 lp1 m2) (decide (e7 ≤ e15))
          else
            law6_RulesStepsAreTyped_j3 n x5 (law6_RulesStepsAreTyped_l2 n r1 x3 lp1 m2) false
    else
      (gadd x3 1).bind fun x16 =>
      lp1 x16
def law6_RulesStepsAreTyped_j2 (n : Nat) (r1 : ((List SRuleKindInputs) × SCodeIndex)) (x3 : Int) (lp1 : Int → Option Bool) (x4 : Bool) : Option Bool :=
  if x4 = true then
    some false
  else
    law6_RulesStepsAreTyped_l2 n r1 x3 lp1 n 0
def law6_RulesStepsAreTyped_l1 (n : Nat) (r1 : ((List SRuleKindInputs) × SCodeIndex)) : Nat → Int → Option Bool
  | 0, _ => none
  | m1 + 1, x3 =>
    if (decide (x3 < (r1.1.length : Int))) = true then
      (gidx r1.1 x3).bind fun e17 =>
      (law6_in n e17.Kind 1 5).bind fun r18 =>
      if (!r18) = true then
        law6_RulesStepsAreTyped_j2 n r1 x3 (law6_RulesStepsAreTyped_l1 n r1 m1) true
      else
        if (decide (e17.Kind = 5)) = true then
          if (decide ((e17.Inputs.length : Int) ≠ 1)) = true then
            law6_RulesStepsAreTyped_j2 n r1 x3 (law6_RulesStepsAreTyped_l1 n r1 m1) true
          else
            law6_RulesStepsAreTyped_j2 n r1 x3 (law6_RulesStepsAreTyped_l1 n r1 m1) ((decide (e17.Kind = 1)) != (decide ((e17.Inputs.length : Int) = 0)))
        else
          law6_RulesStepsAreTyped_j2 n r1 x3 (law6_RulesStepsAreTyped_l1 n r1 m1) ((decide (e17.Kind = 1)) != (decide ((e17.Inputs.length : Int) = 0)))
    else
      some true
def law6_RulesStepsAreTyped_j1 (n : Nat) (r1 : ((List SRuleKindInputs) × SCodeIndex)) (x2 : Bool) : Option Bool :=
  if x2 = true then
    some false
  else
    law6_RulesStepsAreTyped_l1 n r1 n 0
def law6_RulesStepsAreTyped (n : Nat) (a0 : List SKindInputs) : Option Bool :=
  (rules_Expand n a0).bind fun r1 =>
  (law6_expands n).bind fun r19 =>
  if (!r19) = true then
    law6_RulesStepsAreTyped_j1 n r1 true
  else
    if (decide (r1.2.Code ≠ 0)) = true then
      law6_RulesStepsAreTyped_j1 n r1 (decide (0 < (r1.1.length : Int)))
    else
      law6_RulesStepsAreTyped_j1 n r1 false
def ref5_Has_l1 (n : Nat) (a0 : List Int) (a1 : Int) : Nat → Int → Option Bool
  | 0, _ => none
  | m1 + 1, x1 =>
    if (decide (x1 < (a0.length : Int))) = true then
      (gidx a0 x1).bind fun e2 =>
      if (decide (e2 = a1)) = true then
        some true
      else
        (gadd x1 1).bind fun x3 =>
        (ref5_Has_l1 n a0 a1 m1) x3
    else
      some false
def ref5_Has (n : Nat) (a0 : List Int) (a1 : Int) : Option Bool :=
  ref5_Has_l1 n a0 a1 n 0
def law6_RulesGroupsAreTransparent_j2 (n : Nat) (x3 : Bool) : Option Bool :=
  some x3
def law6_RulesGroupsAreTransparent_l2 (n : Nat) (r1 : ((List Int) × SCodeIndex)) (x7 : Int) (lp1 : Int → Option Bool) (r9 : ((List Int) × SCodeIndex)) : Nat → Int → Option Bool
  | 0, _ => none
  | m2 + 1, x10 =>
    if (decide (x10 < (r9.1.length : Int))) = true then
      (gidx r9.1 x10).bind fun e11 =>
      (ref5_Has n r1.1 e11).bind fun r12 =>
      if (!r12) = true then
        some false
      else
        (gadd x10 1).bind fun x13 =>
        (law6_RulesGroupsAreTransparent_l2 n r1 x7 lp1 r9 m2) x13
    else
      (gadd x7 1).bind fun x14 =>
      lp1 x14
def law6_RulesGroupsAreTransparent_j3 (n : Nat) (x18 : Int) (lp4 : Bool → Int → Option Bool) (x19 : Bool) : Option Bool :=
  (gadd x18 1).bind fun x20 =>
  lp4 x19 x20
def law6_RulesGroupsAreTransparent_l4 (n : Nat) (a0 : List SKindInputs) (r1 : ((List Int) × SCodeIndex)) (e5 : SKindInputs) (x15 : Int) (x16 : Int) (lp3 : Int → Int → Option Bool) : Nat → Bool → Int → Option Bool
  | 0, _, _ => none
  | m4 + 1, x17, x18 =>
    if (decide (x18 < (e5.Inputs.length : Int))) = true then
      (gidx e5.Inputs x18).bind fun e21 =>
      (rules_Leaves n a0 e21).bind fun r22 =>
      if x17 = true then
        law6_RulesGroupsAreTransparent_j3 n x18 (law6_RulesGroupsAreTransparent_l4 n a0 r1 e5 x15 x16 lp3 m4) true
      else
        (gidx r1.1 x16).bind fun e23 =>
        (ref5_Has n r22.1 e23).bind fun r24 =>
        law6_RulesGroupsAreTransparent_j3 n x18 (law6_RulesGroupsAreTransparent_l4 n a0 r1 e5 x15 x16 lp3 m4) r24
    else
      if (!x17) = true then
        some false
      else
        (gadd x15 1).bind fun x25 =>
        (gadd x16 1).bind fun x26 =>
        lp3 x25 x26
def law6_RulesGroupsAreTransparent_l3 (n : Nat) (a0 : List SKindInputs) (r1 : ((List Int) × SCodeIndex)) (e5 : SKindInputs) : Nat → Int → Int → Option Bool
  | 0, _, _ => none
  | m3 + 1, x15, x16 =>
    if (decide (x16 < (r1.1.length : Int))) = true then
      law6_RulesGroupsAreTransparent_l4 n a0 r1 e5 x15 x16 (law6_RulesGroupsAreTransparent_l3 n a0 r1 e5 m3) n false 0
    else
      some (decide (0 < x15))
def law6_RulesGroupsAreTransparent_l1 (n : Nat) (a0 : List SKindInputs) (r1 : ((List Int) × SCodeIndex)) (e5 : SKindInputs) : Nat → Int → Option Bool
  | 0, _ => none
  | m1 + 1, x7 =>
    if (decide (x7 < (e5.Inputs.length : Int))) = true then
      (gidx e5.Inputs x7).bind fun e8 =>
      (rules_Leaves n a0 e8).bind fun r9 =>
      if (decide (r9.2.Code ≠ 0)) = true then
        some false
      else
        law6_RulesGroupsAreTransparent_l2 n r1 x7 (law6_RulesGroupsAreTransparent_l1 n a0 r1 e5 m1) r9 n 0
    else
      law6_RulesGroupsAreTransparent_l3 n a0 r1 e5 n 0 0
def law6_RulesGroupsAreTransparent_j1 (n : Nat) (a0 : List SKindInputs) (a1 : Int) (r1 : ((List Int) × SCodeIndex)) (x2 : Bool) : Option Bool :=
  if x2 = true then
    (law6_expands n).bind fun r4 =>
    if r4 = true then
      law6_RulesGroupsAreTransparent_j2 n (decide ((r1.1.length : Int) = 0))
    else
      law6_RulesGroupsAreTransparent_j2 n false
  else
    (gidx a0 a1).bind fun e5 =>
    if (decide (e5.Kind ≠ 6)) = true then
      (ref5_Ints n r1.1 ([a1] : List Int)).bind fun r6 =>
      some r6
    else
      law6_RulesGroupsAreTransparent_l1 n a0 r1 e5 n 0
def law6_RulesGroupsAreTransparent (n : Nat) (a0 : List SKindInputs) (a1 : Int) : Option Bool :=
  (rules_Leaves n a0 a1).bind fun r1 =>
  (law6_expands n).bind fun r27 =>
  if (!r27) = true then
    law6_RulesGroupsAreTransparent_j1 n a0 a1 r1 true
  else
    law6_RulesGroupsAreTransparent_j1 n a0 a1 r1 (decide (r1.2.Code ≠ 0))
def law6_RulesLaterRulesDoNotMatter_j3 (n : Nat) (x6 : Bool) : Option Bool :=
  some x6
def law6_RulesLaterRulesDoNotMatter_j2 (n : Nat) (a0 : List SKindInputs) (a1 : Int) (r1 : ((List SRuleKindInputs) × SCodeIndex)) (x3 : Bool) : Option Bool :=
  if x3 = true then
    some true
  else
    (gcut a0 0 a1).bind fun s4 =>
    (rules_Expand n s4).bind fun r5 =>
    if (decide (r5.2.Code = 0)) = true then
      if (decide ((r5.1.length : Int) ≤ (r1.1.length : Int))) = true then
        (gcut r1.1 0 (r5.1.length : Int)).bind fun s7 =>
        (ref6_SameSteps n r5.1 s7).bind fun r8 =>
        law6_RulesLaterRulesDoNotMatter_j3 n r8
      else
        law6_RulesLaterRulesDoNotMatter_j3 n false
    else
      law6_RulesLaterRulesDoNotMatter_j3 n false
def law6_RulesLaterRulesDoNotMatter_j1 (n : Nat) (a0 : List SKindInputs) (a1 : Int) (r1 : ((List SRuleKindInputs) × SCodeIndex)) (x2 : Bool) : Option Bool :=
  if x2 = true then
    some false
  else
    if (decide (r1.2.Code ≠ 0)) = true then
      law6_RulesLaterRulesDoNotMatter_j2 n a0 a1 r1 true
    else
      (law6_in n a1 0 (a0.length : Int)).bind fun r9 =>
      law6_RulesLaterRulesDoNotMatter_j2 n a0 a1 r1 (!r9)
def law6_RulesLaterRulesDoNotMatter (n : Nat) (a0 : List SKindInputs) (a1 : Int) : Option Bool :=
  (rules_Expand n a0).bind fun r1 =>
  (law6_expands n).bind fun r10 =>
  if (!r10) = true then
    law6_RulesLaterRulesDoNotMatter_j1 n a0 a1 r1 true
  else
    if (decide (r1.2.Code ≠ 0)) = true then
      law6_RulesLaterRulesDoNotMatter_j1 n a0 a1 r1 (decide (0 < (r1.1.length : Int)))
    else
      law6_RulesLaterRulesDoNotMatter_j1 n a0 a1 r1 false
def law6_RulesExpansionIsIdempotent_j3 (n : Nat) (x10 : Int) (lp2 : Int → Option Bool) (x11 : Bool) : Option Bool :=
  if x11 = true then
    some false
  else
    (gadd x10 1).bind fun x12 =>
    lp2 x12
def law6_RulesExpansionIsIdempotent_l2 (n : Nat) (r1 : ((List SRuleKindInputs) × SCodeIndex)) (r8 : ((List SRuleKindInputs) × SCodeIndex)) : Nat → Int → Option Bool
  | 0, _ => none
  | m2 + 1, x10 =>
    if (decide (x10 < (r8.1.length : Int))) = true then
      (gidx r8.1 x10).bind fun e13 =>
      if (decide (e13.Rule ≠ x10)) = true then
        law6_RulesExpansionIsIdempotent_j3 n x10 (law6_RulesExpansionIsIdempotent_l2 n r1 r8 m2) true
      else
        (gidx r1.1 x10).bind fun e14 =>
        if (decide (e13.Kind ≠ e14.Kind)) = true then
          law6_RulesExpansionIsIdempotent_j3 n x10 (law6_RulesExpansionIsIdempotent_l2 n r1 r8 m2) true
        else
          (ref5_Ints n e13.Inputs e14.Inputs).bind fun r15 =>
          law6_RulesExpansionIsIdempotent_j3 n x10 (law6_RulesExpansionIsIdempotent_l2 n r1 r8 m2) (!r15)
    else
      some true
def law6_RulesExpansionIsIdempotent_j2 (n : Nat) (r1 : ((List SRuleKindInputs) × SCodeIndex)) (r8 : ((List SRuleKindInputs) × SCodeIndex)) (x9 : Bool) : Option Bool :=
  if x9 = true then
    some false
  else
    law6_RulesExpansionIsIdempotent_l2 n r1 r8 n 0
def law6_RulesExpansionIsIdempotent_l1 (n : Nat) (r1 : ((List SRuleKindInputs) × SCodeIndex)) : Nat → List SKindInputs → Int → Option Bool
  | 0, _, _ => none
  | m1 + 1, w3, x4 =>
    if (decide (x4 < (r1.1.length : Int))) = true then
      (gidx r1.1 x4).bind fun e5 =>
      if (decide (8 < (e5.Inputs.length : Int))) = true then
        some true
      else
        (gapp 32 w3 ([(⟨e5.Kind, e5.Inputs⟩ : SKindInputs)] : List SKindInputs)).bind fun w6 =>
        (gadd x4 1).bind fun x7 =>
        (law6_RulesExpansionIsIdempotent_l1 n r1 m1) w6 x7
    else
      (rules_Expand n w3).bind fun r8 =>
      if (decide (r8.2.Code ≠ 0)) = true then
        law6_RulesExpansionIsIdempotent_j2 n r1 r8 true
      else
        law6_RulesExpansionIsIdempotent_j2 n r1 r8 (decide ((r8.1.length : Int) ≠ (r1.1.length : Int)))
def law6_RulesExpansionIsIdempotent_j1 (n : Nat) (r1 : ((List SRuleKindInputs) × SCodeIndex)) (x2 : Bool) : Option Bool :=
  if x2 = true then
    some false
  else
    law6_RulesExpansionIsIdempotent_l1 n r1 n ([] : List SKindInputs) 0
def law6_RulesExpansionIsIdempotent (n : Nat) (a0 : List SKindInputs) : Option Bool :=
  (rules_Expand n a0).bind fun r1 =>
  (law6_expands n).bind fun r16 =>
  if (!r16) = true then
    law6_RulesExpansionIsIdempotent_j1 n r1 true
  else
    if (decide (r1.2.Code ≠ 0)) = true then
      law6_RulesExpansionIsIdempotent_j1 n r1 (decide (0 < (r1.1.length : Int)))
    else
      law6_RulesExpansionIsIdempotent_j1 n r1 false
end Go.Proofs.YtfdfhpembpjglaaDoor
