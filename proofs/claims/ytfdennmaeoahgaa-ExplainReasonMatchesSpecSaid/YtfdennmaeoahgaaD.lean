/- The types of the functions, and what the functions compute: partial operations as options; n is the fuel of each loop. Laid by a program (wip/gen/dec.py). -/
import Derived.Test.YtfdennmaeoahgaaPwDec
import Derived.Test.YtfdennmaeoahgaaPwSplit
import Derived.Test.YtfdennmaeoahgaaPwEat
import Derived.Test.YtfdennmaeoahgaaPwRunes
import Derived.Test.YtfdennmaeoahgaaPwShelf
import Derived.Test.YtfdennmaeoahgaaPwCut
namespace Go.Proofs.Ytfdennmaeoahgaa
open Go.PW Go
set_option linter.unusedVariables false
structure SMajorMinorPatchPre where
  Major : Int
  Minor : Int
  Patch : Int
  Pre : List (List UInt8)
  deriving DecidableEq
def SMajorMinorPatchPre.cells (x : SMajorMinorPatchPre) : List PV := [.int .i64 x.Major, .int .i64 x.Minor, .int .i64 x.Patch, .list 1 (List.map cS x.Pre)]
structure SCodeIndex where
  Code : Int
  Index : Int
  deriving DecidableEq
def SCodeIndex.cells (x : SCodeIndex) : List PV := [.int .i64 x.Code, .int .i64 x.Index]
structure SLowHighUnbounded where
  Low : SMajorMinorPatchPre
  High : SMajorMinorPatchPre
  Unbounded : Bool
  deriving DecidableEq
def SLowHighUnbounded.cells (x : SLowHighUnbounded) : List PV := [.int .i64 x.Low.Major, .int .i64 x.Low.Minor, .int .i64 x.Low.Patch, .list 1 (List.map cS x.Low.Pre), .int .i64 x.High.Major, .int .i64 x.High.Minor, .int .i64 x.High.Patch, .list 1 (List.map cS x.High.Pre), .bool x.Unbounded]
structure SIntervals where
  Intervals : List SLowHighUnbounded
  deriving DecidableEq
def SIntervals.cells (x : SIntervals) : List PV := [.list 9 (List.map SLowHighUnbounded.cells x.Intervals)]
structure SPackageRange where
  Package : Int
  Range : SIntervals
  deriving DecidableEq
def SPackageRange.cells (x : SPackageRange) : List PV := [.int .i64 x.Package, .list 9 (List.map SLowHighUnbounded.cells x.Range.Intervals)]
structure SVersionNeeds where
  Version : SMajorMinorPatchPre
  Needs : List SPackageRange
  deriving DecidableEq
def SVersionNeeds.cells (x : SVersionNeeds) : List PV := [.int .i64 x.Version.Major, .int .i64 x.Version.Minor, .int .i64 x.Version.Patch, .list 1 (List.map cS x.Version.Pre), .list 2 (List.map SPackageRange.cells x.Needs)]
structure SPackages where
  Packages : List (List SVersionNeeds)
  deriving DecidableEq
def SPackages.cells (x : SPackages) : List PV := [.list 1 (List.map (cL 5 SVersionNeeds.cells) x.Packages)]
structure SA0A1A2A3 where
  A0 : Bool
  A1 : Bool
  A2 : Bool
  A3 : Bool
  deriving DecidableEq
def SA0A1A2A3.cells (x : SA0A1A2A3) : List PV := [.bool x.A0, .bool x.A1, .bool x.A2, .bool x.A3]
structure SOfBy where
  f_of : Int
  f_by : SA0A1A2A3
  deriving DecidableEq
def SOfBy.cells (x : SOfBy) : List PV := [.int .i64 x.f_of, .bool x.f_by.A0, .bool x.f_by.A1, .bool x.f_by.A2, .bool x.f_by.A3]
structure SWantsNeeds where
  f_wants : List SOfBy
  f_needs : List (List (List SOfBy))
  deriving DecidableEq
def SWantsNeeds.cells (x : SWantsNeeds) : List PV := [.list 5 (List.map SOfBy.cells x.f_wants), .list 1 (List.map (cL 1 (cL 5 SOfBy.cells)) x.f_needs)]
def cmp_Or_int_l1 (n : Nat) (a0 : List Int) : Nat → Int → Option Int
  | 0, _ => none
  | m1 + 1, x1 =>
    if (decide (x1 < (a0.length : Int))) = true then
      (gidx a0 x1).bind fun e2 =>
      if (decide (e2 ≠ 0)) = true then
        some e2
      else
        (gadd x1 1).bind fun x3 =>
        (cmp_Or_int_l1 n a0 m1) x3
    else
      some 0
def cmp_Or_int (n : Nat) (a0 : List Int) : Option Int :=
  cmp_Or_int_l1 n a0 n 0
def cmp_isNaN_int (n : Nat) (a0 : Int) : Option Bool :=
  some (decide (a0 ≠ a0))
def cmp_Compare_int (n : Nat) (a0 : Int) (a1 : Int) : Option Int :=
  (cmp_isNaN_int n a0).bind fun r1 =>
  (cmp_isNaN_int n a1).bind fun r2 =>
  if r1 = true then
    if r2 = true then
      some 0
    else
      some (-1)
  else
    if r2 = true then
      some 1
    else
      if (decide (a0 < a1)) = true then
        some (-1)
      else
        if (decide (a1 < a0)) = true then
          some 1
        else
          some 0
def strings_ContainsFunc (n : Nat) (a0 : List UInt8) : Option Bool :=
  some (libNonDigits a0)
def version_numeric (n : Nat) (a0 : List UInt8) : Option Bool :=
  (strings_ContainsFunc n a0).bind fun r1 =>
  some (!r1)
def strings_Compare (n : Nat) (a0 : List UInt8) (a1 : List UInt8) : Option Int :=
  some (libCompare a0 a1)
def version_Order_j1 (n : Nat) (x6 : Int) : Option Int :=
  some x6
def version_Order_j2 (n : Nat) (x7 : Int) (lp1 : Int → Option Int) (x10 : Int) : Option Int :=
  if (decide (x10 ≠ 0)) = true then
    version_Order_j1 n x10
  else
    (gadd x7 1).bind fun x11 =>
    lp1 x11
def version_Order_j3 (n : Nat) (x7 : Int) (lp1 : Int → Option Int) (e8 : List UInt8) (e9 : List UInt8) (r12 : Bool) (r13 : Bool) (x14 : Bool) : Option Int :=
  if x14 = true then
    (cmp_Compare_int n (e8.length : Int) (e9.length : Int)).bind fun r15 =>
    (strings_Compare n e8 e9).bind fun r16 =>
    (cmp_Or_int n ([r15, r16] : List Int)).bind fun r17 =>
    version_Order_j2 n x7 lp1 r17
  else
    if r12 = true then
      version_Order_j2 n x7 lp1 (-1)
    else
      if r13 = true then
        version_Order_j2 n x7 lp1 1
      else
        (strings_Compare n e8 e9).bind fun r18 =>
        version_Order_j2 n x7 lp1 r18
def version_Order_l1 (n : Nat) (a0 : SMajorMinorPatchPre) (a1 : SMajorMinorPatchPre) : Nat → Int → Option Int
  | 0, _ => none
  | m1 + 1, x7 =>
    if (decide (x7 < (a0.Pre.length : Int))) = true then
      (gidx a0.Pre x7).bind fun e8 =>
      if (decide ((a1.Pre.length : Int) ≤ x7)) = true then
        version_Order_j1 n 1
      else
        (gidx a1.Pre x7).bind fun e9 =>
        (version_numeric n e8).bind fun r12 =>
        (version_numeric n e9).bind fun r13 =>
        if r12 = true then
          version_Order_j3 n x7 (version_Order_l1 n a0 a1 m1) e8 e9 r12 r13 r13
        else
          version_Order_j3 n x7 (version_Order_l1 n a0 a1 m1) e8 e9 r12 r13 false
    else
      if (decide ((a0.Pre.length : Int) < (a1.Pre.length : Int))) = true then
        version_Order_j1 n (-1)
      else
        version_Order_j1 n 0
def version_Order (n : Nat) (a0 : SMajorMinorPatchPre) (a1 : SMajorMinorPatchPre) : Option Int :=
  (cmp_Compare_int n a0.Major a1.Major).bind fun r1 =>
  (cmp_Compare_int n a0.Minor a1.Minor).bind fun r2 =>
  (cmp_Compare_int n a0.Patch a1.Patch).bind fun r3 =>
  (cmp_Or_int n ([r1, r2, r3] : List Int)).bind fun r4 =>
  if (decide (r4 ≠ 0)) = true then
    some r4
  else
    if ((decide ((a0.Pre.length : Int) = 0)) != (decide ((a1.Pre.length : Int) = 0))) = true then
      (cmp_Compare_int n (a1.Pre.length : Int) (a0.Pre.length : Int)).bind fun r5 =>
      some r5
    else
      version_Order_l1 n a0 a1 n 0
def version_identifier_j2 (n : Nat) (x2 : Int) (lp1 : Int → Option Bool) (x4 : Bool) : Option Bool :=
  if x4 = true then
    some false
  else
    (gadd x2 1).bind fun x5 =>
    lp1 x5
def version_identifier_j3 (n : Nat) (x6 : Bool) : Option Bool :=
  some x6
def version_identifier_l1 (n : Nat) (a0 : List UInt8) : Nat → Int → Option Bool
  | 0, _ => none
  | m1 + 1, x2 =>
    if (decide (x2 < (a0.length : Int))) = true then
      (gidx a0 x2).bind fun y3 =>
      if (decide ((y3.toNat : Int) < 48)) = true then
        if (decide ((y3.toNat : Int) < 97)) = true then
          if (decide ((y3.toNat : Int) < 65)) = true then
            version_identifier_j2 n x2 (version_identifier_l1 n a0 m1) (decide ((y3.toNat : Int) ≠ 45))
          else
            if (decide (90 < (y3.toNat : Int))) = true then
              version_identifier_j2 n x2 (version_identifier_l1 n a0 m1) (decide ((y3.toNat : Int) ≠ 45))
            else
              version_identifier_j2 n x2 (version_identifier_l1 n a0 m1) false
        else
          if (decide (122 < (y3.toNat : Int))) = true then
            if (decide ((y3.toNat : Int) < 65)) = true then
              version_identifier_j2 n x2 (version_identifier_l1 n a0 m1) (decide ((y3.toNat : Int) ≠ 45))
            else
              if (decide (90 < (y3.toNat : Int))) = true then
                version_identifier_j2 n x2 (version_identifier_l1 n a0 m1) (decide ((y3.toNat : Int) ≠ 45))
              else
                version_identifier_j2 n x2 (version_identifier_l1 n a0 m1) false
          else
            version_identifier_j2 n x2 (version_identifier_l1 n a0 m1) false
      else
        if (decide (57 < (y3.toNat : Int))) = true then
          if (decide ((y3.toNat : Int) < 97)) = true then
            if (decide ((y3.toNat : Int) < 65)) = true then
              version_identifier_j2 n x2 (version_identifier_l1 n a0 m1) (decide ((y3.toNat : Int) ≠ 45))
            else
              if (decide (90 < (y3.toNat : Int))) = true then
                version_identifier_j2 n x2 (version_identifier_l1 n a0 m1) (decide ((y3.toNat : Int) ≠ 45))
              else
                version_identifier_j2 n x2 (version_identifier_l1 n a0 m1) false
          else
            if (decide (122 < (y3.toNat : Int))) = true then
              if (decide ((y3.toNat : Int) < 65)) = true then
                version_identifier_j2 n x2 (version_identifier_l1 n a0 m1) (decide ((y3.toNat : Int) ≠ 45))
              else
                if (decide (90 < (y3.toNat : Int))) = true then
                  version_identifier_j2 n x2 (version_identifier_l1 n a0 m1) (decide ((y3.toNat : Int) ≠ 45))
                else
                  version_identifier_j2 n x2 (version_identifier_l1 n a0 m1) false
            else
              version_identifier_j2 n x2 (version_identifier_l1 n a0 m1) false
        else
          version_identifier_j2 n x2 (version_identifier_l1 n a0 m1) false
    else
      (version_numeric n a0).bind fun r7 =>
      if (!r7) = true then
        version_identifier_j3 n true
      else
        if (decide ((a0.length : Int) = 1)) = true then
          version_identifier_j3 n true
        else
          (gidx a0 0).bind fun y8 =>
          version_identifier_j3 n (decide ((y8.toNat : Int) ≠ 48))
def version_identifier_j1 (n : Nat) (a0 : List UInt8) (x1 : Bool) : Option Bool :=
  if x1 = true then
    some false
  else
    version_identifier_l1 n a0 n 0
def version_identifier (n : Nat) (a0 : List UInt8) : Option Bool :=
  if (decide ((a0.length : Int) = 0)) = true then
    version_identifier_j1 n a0 true
  else
    version_identifier_j1 n a0 (decide (8 < (a0.length : Int)))
def version_Validate_j1 (n : Nat) (x1 : Int) (lp1 : Int → Option SCodeIndex) (x3 : Bool) : Option SCodeIndex :=
  if x3 = true then
    some (⟨3, x1⟩ : SCodeIndex)
  else
    (gadd x1 1).bind fun x4 =>
    lp1 x4
def version_Validate_l2 (n : Nat) (a0 : SMajorMinorPatchPre) : Nat → Int → Option SCodeIndex
  | 0, _ => none
  | m2 + 1, x5 =>
    if (decide (x5 < (a0.Pre.length : Int))) = true then
      (gidx a0.Pre x5).bind fun e6 =>
      (version_identifier n e6).bind fun r7 =>
      if (!r7) = true then
        some (⟨5, x5⟩ : SCodeIndex)
      else
        (gadd x5 1).bind fun x8 =>
        (version_Validate_l2 n a0 m2) x8
    else
      some (⟨0, 0⟩ : SCodeIndex)
def version_Validate_l1 (n : Nat) (a0 : SMajorMinorPatchPre) : Nat → Int → Option SCodeIndex
  | 0, _ => none
  | m1 + 1, x1 =>
    if (decide (x1 < 3)) = true then
      (garr 3 x1).bind fun i2 =>
      if (decide ((if i2 = 0 then a0.Major else (if i2 = 1 then a0.Minor else a0.Patch : Int) : Int) < 0)) = true then
        version_Validate_j1 n x1 (version_Validate_l1 n a0 m1) true
      else
        version_Validate_j1 n x1 (version_Validate_l1 n a0 m1) (decide (1000000000 < (if i2 = 0 then a0.Major else (if i2 = 1 then a0.Minor else a0.Patch : Int) : Int)))
    else
      if (decide (4 < (a0.Pre.length : Int))) = true then
        some (⟨2, (-1)⟩ : SCodeIndex)
      else
        version_Validate_l2 n a0 n 0
def version_Validate (n : Nat) (a0 : SMajorMinorPatchPre) : Option SCodeIndex :=
  version_Validate_l1 n a0 n 0
def version_Zero_j1 (n : Nat) (x1 : Bool) : Option Bool :=
  some x1
def version_Zero (n : Nat) (a0 : SMajorMinorPatchPre) : Option Bool :=
  if (decide (a0.Major = 0)) = true then
    if (decide (a0.Minor = 0)) = true then
      if (decide (a0.Patch = 0)) = true then
        version_Zero_j1 n (decide ((a0.Pre.length : Int) = 0))
      else
        version_Zero_j1 n false
    else
      version_Zero_j1 n false
  else
    version_Zero_j1 n false
def verrange_check (n : Nat) (a0 : SLowHighUnbounded) : Option Int :=
  (version_Validate n (⟨a0.Low.Major, a0.Low.Minor, a0.Low.Patch, a0.Low.Pre⟩ : SMajorMinorPatchPre)).bind fun r1 =>
  if ((r1.Code == 0 && (r1.Index == 0 && true)) != true) = true then
    some r1.Code
  else
    if a0.Unbounded = true then
      (version_Zero n (⟨a0.High.Major, a0.High.Minor, a0.High.Patch, a0.High.Pre⟩ : SMajorMinorPatchPre)).bind fun r2 =>
      if (!r2) = true then
        some 5
      else
        some 0
    else
      (version_Validate n (⟨a0.High.Major, a0.High.Minor, a0.High.Patch, a0.High.Pre⟩ : SMajorMinorPatchPre)).bind fun r3 =>
      if ((r3.Code == 0 && (r3.Index == 0 && true)) != true) = true then
        some r3.Code
      else
        (version_Order n (⟨a0.Low.Major, a0.Low.Minor, a0.Low.Patch, a0.Low.Pre⟩ : SMajorMinorPatchPre) (⟨a0.High.Major, a0.High.Minor, a0.High.Patch, a0.High.Pre⟩ : SMajorMinorPatchPre)).bind fun r4 =>
        if (decide (0 ≤ r4)) = true then
          some 5
        else
          some 0
def verrange_Validate_j1 (n : Nat) (x1 : Int) (lp1 : Int → Option SCodeIndex) (x4 : Int) : Option SCodeIndex :=
  if (decide (x4 ≠ 0)) = true then
    some (⟨x4, x1⟩ : SCodeIndex)
  else
    (gadd x1 1).bind fun x5 =>
    lp1 x5
def verrange_Validate_j3 (n : Nat) (x1 : Int) (lp1 : Int → Option SCodeIndex) (r3 : Int) (x9 : Bool) : Option SCodeIndex :=
  if x9 = true then
    verrange_Validate_j1 n x1 lp1 5
  else
    verrange_Validate_j1 n x1 lp1 r3
def verrange_Validate_j2 (n : Nat) (a0 : SIntervals) (x1 : Int) (lp1 : Int → Option SCodeIndex) (e2 : SLowHighUnbounded) (r3 : Int) (x6 : Bool) : Option SCodeIndex :=
  if x6 = true then
    (gsub x1 1).bind fun x7 =>
    (gidx a0.Intervals x7).bind fun e8 =>
    if e8.Unbounded = true then
      verrange_Validate_j3 n x1 lp1 r3 true
    else
      (version_Order n (⟨e8.High.Major, e8.High.Minor, e8.High.Patch, e8.High.Pre⟩ : SMajorMinorPatchPre) (⟨e2.Low.Major, e2.Low.Minor, e2.Low.Patch, e2.Low.Pre⟩ : SMajorMinorPatchPre)).bind fun r10 =>
      verrange_Validate_j3 n x1 lp1 r3 (decide (0 ≤ r10))
  else
    verrange_Validate_j1 n x1 lp1 r3
def verrange_Validate_l1 (n : Nat) (a0 : SIntervals) : Nat → Int → Option SCodeIndex
  | 0, _ => none
  | m1 + 1, x1 =>
    if (decide (x1 < (a0.Intervals.length : Int))) = true then
      (gidx a0.Intervals x1).bind fun e2 =>
      (verrange_check n (⟨(⟨e2.Low.Major, e2.Low.Minor, e2.Low.Patch, e2.Low.Pre⟩ : SMajorMinorPatchPre), (⟨e2.High.Major, e2.High.Minor, e2.High.Patch, e2.High.Pre⟩ : SMajorMinorPatchPre), e2.Unbounded⟩ : SLowHighUnbounded)).bind fun r3 =>
      if (decide (r3 = 0)) = true then
        verrange_Validate_j2 n a0 x1 (verrange_Validate_l1 n a0 m1) e2 r3 (decide (0 < x1))
      else
        verrange_Validate_j2 n a0 x1 (verrange_Validate_l1 n a0 m1) e2 r3 false
    else
      some (⟨0, 0⟩ : SCodeIndex)
def verrange_Validate (n : Nat) (a0 : SIntervals) : Option SCodeIndex :=
  if (decide (12 < (a0.Intervals.length : Int))) = true then
    some (⟨2, (-1)⟩ : SCodeIndex)
  else
    verrange_Validate_l1 n a0 n 0
def solver_Needs_j2 (n : Nat) (x1 : Int) (lp1 : Int → Option Int) (x5 : Bool) : Option Int :=
  if x5 = true then
    some 5
  else
    (gadd x1 1).bind fun x6 =>
    lp1 x6
def solver_Needs_j1 (n : Nat) (a0 : List SPackageRange) (x1 : Int) (lp1 : Int → Option Int) (e2 : SPackageRange) (x3 : Bool) : Option Int :=
  if x3 = true then
    some 3
  else
    (verrange_Validate n (⟨e2.Range.Intervals⟩ : SIntervals)).bind fun r4 =>
    if ((r4.Code == 0 && (r4.Index == 0 && true)) != true) = true then
      some r4.Code
    else
      if (decide (0 < x1)) = true then
        (gsub x1 1).bind fun x7 =>
        (gidx a0 x7).bind fun e8 =>
        solver_Needs_j2 n x1 lp1 (decide (e2.Package ≤ e8.Package))
      else
        solver_Needs_j2 n x1 lp1 false
def solver_Needs_l1 (n : Nat) (a0 : List SPackageRange) (a1 : Int) : Nat → Int → Option Int
  | 0, _ => none
  | m1 + 1, x1 =>
    if (decide (x1 < (a0.length : Int))) = true then
      (gidx a0 x1).bind fun e2 =>
      if (decide (e2.Package < 0)) = true then
        solver_Needs_j1 n a0 x1 (solver_Needs_l1 n a0 a1 m1) e2 true
      else
        solver_Needs_j1 n a0 x1 (solver_Needs_l1 n a0 a1 m1) e2 (decide (a1 ≤ e2.Package))
    else
      some 0
def solver_Needs (n : Nat) (a0 : List SPackageRange) (a1 : Int) : Option Int :=
  if (decide (4 < (a0.length : Int))) = true then
    some 2
  else
    solver_Needs_l1 n a0 a1 n 0
def solver_releases_j1 (n : Nat) (a1 : Int) (x1 : Int) (lp1 : Int → Option Int) (e2 : SVersionNeeds) (x4 : Bool) : Option Int :=
  if x4 = true then
    some 5
  else
    (solver_Needs n e2.Needs a1).bind fun r5 =>
    if (decide (r5 ≠ 0)) = true then
      some r5
    else
      (gadd x1 1).bind fun x6 =>
      lp1 x6
def solver_releases_l1 (n : Nat) (a0 : List SVersionNeeds) (a1 : Int) : Nat → Int → Option Int
  | 0, _ => none
  | m1 + 1, x1 =>
    if (decide (x1 < (a0.length : Int))) = true then
      (gidx a0 x1).bind fun e2 =>
      (version_Validate n (⟨e2.Version.Major, e2.Version.Minor, e2.Version.Patch, e2.Version.Pre⟩ : SMajorMinorPatchPre)).bind fun r3 =>
      if ((r3.Code == 0 && (r3.Index == 0 && true)) != true) = true then
        some r3.Code
      else
        if (decide (0 < x1)) = true then
          (gsub x1 1).bind fun x7 =>
          (gidx a0 x7).bind fun e8 =>
          (version_Order n (⟨e2.Version.Major, e2.Version.Minor, e2.Version.Patch, e2.Version.Pre⟩ : SMajorMinorPatchPre) (⟨e8.Version.Major, e8.Version.Minor, e8.Version.Patch, e8.Version.Pre⟩ : SMajorMinorPatchPre)).bind fun r9 =>
          solver_releases_j1 n a1 x1 (solver_releases_l1 n a0 a1 m1) e2 (decide (r9 ≤ 0))
        else
          solver_releases_j1 n a1 x1 (solver_releases_l1 n a0 a1 m1) e2 false
    else
      some 0
def solver_releases (n : Nat) (a0 : List SVersionNeeds) (a1 : Int) : Option Int :=
  if (decide (4 < (a0.length : Int))) = true then
    some 2
  else
    solver_releases_l1 n a0 a1 n 0
def solver_Validate_l1 (n : Nat) (a0 : SPackages) : Nat → Int → Option SCodeIndex
  | 0, _ => none
  | m1 + 1, x1 =>
    if (decide (x1 < (a0.Packages.length : Int))) = true then
      (gidx a0.Packages x1).bind fun e2 =>
      (solver_releases n e2 (a0.Packages.length : Int)).bind fun r3 =>
      if (decide (r3 ≠ 0)) = true then
        some (⟨r3, x1⟩ : SCodeIndex)
      else
        (gadd x1 1).bind fun x4 =>
        (solver_Validate_l1 n a0 m1) x4
    else
      some (⟨0, 0⟩ : SCodeIndex)
def solver_Validate (n : Nat) (a0 : SPackages) : Option SCodeIndex :=
  if (decide (6 < (a0.Packages.length : Int))) = true then
    some (⟨2, (-1)⟩ : SCodeIndex)
  else
    solver_Validate_l1 n a0 n 0
def solver_Arguments (n : Nat) (a0 : SPackages) (a1 : List SPackageRange) : Option SCodeIndex :=
  (solver_Validate n a0).bind fun r1 =>
  if ((r1.Code == 0 && (r1.Index == 0 && true)) != true) = true then
    some r1
  else
    (solver_Needs n a1 (a0.Packages.length : Int)).bind fun r2 =>
    if (decide (r2 ≠ 0)) = true then
      some (⟨r2, (-2)⟩ : SCodeIndex)
    else
      some (⟨0, 0⟩ : SCodeIndex)
def explain_count_l2 (n : Nat) (x2 : Int) (lp1 : Int → Int → Option Int) (e3 : List SVersionNeeds) : Nat → Int → Int → Option Int
  | 0, _, _ => none
  | m2 + 1, x4, x5 =>
    if (decide (x5 < (e3.length : Int))) = true then
      (gidx e3 x5).bind fun e6 =>
      (gadd x4 (e6.Needs.length : Int)).bind fun x7 =>
      (gadd x5 1).bind fun x8 =>
      (explain_count_l2 n x2 lp1 e3 m2) x7 x8
    else
      (gadd x2 1).bind fun x9 =>
      lp1 x4 x9
def explain_count_l1 (n : Nat) (a0 : SPackages) : Nat → Int → Int → Option Int
  | 0, _, _ => none
  | m1 + 1, x1, x2 =>
    if (decide (x2 < (a0.Packages.length : Int))) = true then
      (gidx a0.Packages x2).bind fun e3 =>
      explain_count_l2 n x2 (explain_count_l1 n a0 m1) e3 n x1 0
    else
      some x1
def explain_count (n : Nat) (a0 : SPackages) (a1 : List SPackageRange) : Option Int :=
  explain_count_l1 n a0 n (a1.length : Int) 0
def explain_Count (n : Nat) (a0 : SPackages) (a1 : List SPackageRange) : Option (Int × SCodeIndex) :=
  (solver_Arguments n a0 a1).bind fun r1 =>
  if ((r1.Code == 0 && (r1.Index == 0 && true)) != true) = true then
    some (0, r1)
  else
    (explain_count n a0 a1).bind fun r2 =>
    some (r2, (⟨0, 0⟩ : SCodeIndex))
def ref6_ConstraintCount_l2 (n : Nat) (a0 : SPackages) (x2 : Int) (lp1 : Int → Int → Option Int) : Nat → Int → Int → Option Int
  | 0, _, _ => none
  | m2 + 1, x3, x4 =>
    (gidx a0.Packages x2).bind fun e5 =>
    if (decide (x4 < (e5.length : Int))) = true then
      (gidx e5 x4).bind fun e6 =>
      (gadd x3 (e6.Needs.length : Int)).bind fun x7 =>
      (gadd x4 1).bind fun x8 =>
      (ref6_ConstraintCount_l2 n a0 x2 lp1 m2) x7 x8
    else
      (gadd x2 1).bind fun x9 =>
      lp1 x3 x9
def ref6_ConstraintCount_l1 (n : Nat) (a0 : SPackages) : Nat → Int → Int → Option Int
  | 0, _, _ => none
  | m1 + 1, x1, x2 =>
    if (decide (x2 < (a0.Packages.length : Int))) = true then
      ref6_ConstraintCount_l2 n a0 x2 (ref6_ConstraintCount_l1 n a0 m1) n x1 0
    else
      some x1
def ref6_ConstraintCount (n : Nat) (a0 : SPackages) (a1 : List SPackageRange) : Option Int :=
  ref6_ConstraintCount_l1 n a0 n (a1.length : Int) 0
def slices_Clone_string (n : Nat) (a0 : List (List UInt8)) : Option (List (List UInt8)) :=
  (gapp 16 [] a0).bind fun w => some w
def version_Copy (n : Nat) (a0 : SMajorMinorPatchPre) : Option SMajorMinorPatchPre :=
  (slices_Clone_string n a0.Pre).bind fun r1 =>
  some (⟨a0.Major, a0.Minor, a0.Patch, r1⟩ : SMajorMinorPatchPre)
def verrange_Copy_l1 (n : Nat) (a0 : SIntervals) : Nat → List SLowHighUnbounded → Int → Option SIntervals
  | 0, _, _ => none
  | m1 + 1, w1, x2 =>
    if (decide (x2 < (a0.Intervals.length : Int))) = true then
      (gidx a0.Intervals x2).bind fun e3 =>
      (version_Copy n (⟨e3.Low.Major, e3.Low.Minor, e3.Low.Patch, e3.Low.Pre⟩ : SMajorMinorPatchPre)).bind fun r4 =>
      (version_Copy n (⟨e3.High.Major, e3.High.Minor, e3.High.Patch, e3.High.Pre⟩ : SMajorMinorPatchPre)).bind fun r5 =>
      (gapp 104 w1 ([(⟨r4, r5, e3.Unbounded⟩ : SLowHighUnbounded)] : List SLowHighUnbounded)).bind fun w6 =>
      (gadd x2 1).bind fun x7 =>
      (verrange_Copy_l1 n a0 m1) w6 x7
    else
      some (⟨w1⟩ : SIntervals)
def verrange_Copy (n : Nat) (a0 : SIntervals) : Option SIntervals :=
  verrange_Copy_l1 n a0 n ([] : List SLowHighUnbounded) 0
def slices_Index_int_l1 (n : Nat) (a0 : List Int) (a1 : Int) : Nat → Int → Option Int
  | 0, _ => none
  | m1 + 1, x1 =>
    if (decide (x1 < (a0.length : Int))) = true then
      (gidx a0 x1).bind fun e2 =>
      if (decide (a1 = e2)) = true then
        some x1
      else
        (gadd x1 1).bind fun x3 =>
        (slices_Index_int_l1 n a0 a1 m1) x3
    else
      some (-1)
def slices_Index_int (n : Nat) (a0 : List Int) (a1 : Int) : Option Int :=
  slices_Index_int_l1 n a0 a1 n 0
def slices_Contains_int (n : Nat) (a0 : List Int) (a1 : Int) : Option Bool :=
  (slices_Index_int n a0 a1).bind fun r1 =>
  some (decide (0 ≤ r1))
def explain_Keep_1_m1 (n : Nat) (a0 : Int) (a1 : List Int) : Option Bool :=
  (slices_Contains_int n a1 a0).bind fun r1 =>
  some r1
def explain_filter_1_m1_j1 (n : Nat) (b1 : Int) (x3 : Int) (lp1 : Int → (List SPackageRange) → Int → Option ((List SPackageRange) × Int)) (w5 : List SPackageRange) : Option ((List SPackageRange) × Int) :=
  (gadd b1 1).bind fun x6 =>
  (gadd x3 1).bind fun x7 =>
  lp1 x6 w5 x7
def explain_filter_1_m1_l1 (n : Nat) (a0 : List SPackageRange) (a1 : List Int) : Nat → Int → List SPackageRange → Int → Option ((List SPackageRange) × Int)
  | 0, _, _, _ => none
  | m1 + 1, b1, w2, x3 =>
    if (decide (x3 < (a0.length : Int))) = true then
      (gidx a0 x3).bind fun e4 =>
      (explain_Keep_1_m1 n b1 a1).bind fun r8 =>
      if r8 = true then
        (verrange_Copy n (⟨e4.Range.Intervals⟩ : SIntervals)).bind fun r9 =>
        (gapp 32 w2 ([(⟨e4.Package, r9⟩ : SPackageRange)] : List SPackageRange)).bind fun w10 =>
        explain_filter_1_m1_j1 n b1 x3 (explain_filter_1_m1_l1 n a0 a1 m1) w10
      else
        explain_filter_1_m1_j1 n b1 x3 (explain_filter_1_m1_l1 n a0 a1 m1) w2
    else
      some (w2, b1)
def explain_filter_1_m1 (n : Nat) (a0 : List SPackageRange) (a1 : List Int) (a2 : Int) : Option ((List SPackageRange) × Int) :=
  explain_filter_1_m1_l1 n a0 a1 n a2 ([] : List SPackageRange) 0
def explain_Keep_j2 (n : Nat) (x3 : Int) (lp1 : Int → Option (SPackages × (List SPackageRange) × SCodeIndex)) (x6 : Bool) : Option (SPackages × (List SPackageRange) × SCodeIndex) :=
  if x6 = true then
    some ((⟨([] : List (List SVersionNeeds))⟩ : SPackages), ([] : List SPackageRange), (⟨5, (-3)⟩ : SCodeIndex))
  else
    (gadd x3 1).bind fun x7 =>
    lp1 x7
def explain_Keep_j1 (n : Nat) (a2 : List Int) (x3 : Int) (lp1 : Int → Option (SPackages × (List SPackageRange) × SCodeIndex)) (e4 : Int) (x5 : Bool) : Option (SPackages × (List SPackageRange) × SCodeIndex) :=
  if x5 = true then
    some ((⟨([] : List (List SVersionNeeds))⟩ : SPackages), ([] : List SPackageRange), (⟨3, (-3)⟩ : SCodeIndex))
  else
    if (decide (0 < x3)) = true then
      (gsub x3 1).bind fun x8 =>
      (gidx a2 x8).bind fun e9 =>
      explain_Keep_j2 n x3 lp1 (decide (e4 ≤ e9))
    else
      explain_Keep_j2 n x3 lp1 false
def explain_Keep_j3 (n : Nat) (w10 : List (List SVersionNeeds)) (x11 : List SPackageRange) : Option (SPackages × (List SPackageRange) × SCodeIndex) :=
  some ((⟨w10⟩ : SPackages), x11, (⟨0, 0⟩ : SCodeIndex))
def explain_Keep_l3 (n : Nat) (a2 : List Int) (w14 : List (List SVersionNeeds)) (x15 : Int) (lp2 : Int → (List (List SVersionNeeds)) → Int → Option (SPackages × (List SPackageRange) × SCodeIndex)) (e16 : List SVersionNeeds) : Nat → Int → List SVersionNeeds → Int → Option (SPackages × (List SPackageRange) × SCodeIndex)
  | 0, _, _, _ => none
  | m3 + 1, b17, w18, x19 =>
    if (decide (x19 < (e16.length : Int))) = true then
      (gidx e16 x19).bind fun e20 =>
      (version_Copy n (⟨e20.Version.Major, e20.Version.Minor, e20.Version.Patch, e20.Version.Pre⟩ : SMajorMinorPatchPre)).bind fun r21 =>
      (explain_filter_1_m1 n e20.Needs a2 b17).bind fun r22 =>
      (gapp 72 w18 ([(⟨r21, r22.1⟩ : SVersionNeeds)] : List SVersionNeeds)).bind fun w23 =>
      (gadd x19 1).bind fun x24 =>
      (explain_Keep_l3 n a2 w14 x15 lp2 e16 m3) r22.2 w23 x24
    else
      (gapp 24 w14 ([w18] : List (List SVersionNeeds))).bind fun w25 =>
      (gadd x15 1).bind fun x26 =>
      lp2 b17 w25 x26
def explain_Keep_l2 (n : Nat) (a0 : SPackages) (a2 : List Int) (r12 : ((List SPackageRange) × Int)) : Nat → Int → List (List SVersionNeeds) → Int → Option (SPackages × (List SPackageRange) × SCodeIndex)
  | 0, _, _, _ => none
  | m2 + 1, b13, w14, x15 =>
    if (decide (x15 < (a0.Packages.length : Int))) = true then
      (gidx a0.Packages x15).bind fun e16 =>
      explain_Keep_l3 n a2 w14 x15 (explain_Keep_l2 n a0 a2 r12 m2) e16 n b13 ([] : List SVersionNeeds) 0
    else
      explain_Keep_j3 n w14 r12.1
def explain_Keep_l1 (n : Nat) (a0 : SPackages) (a1 : List SPackageRange) (a2 : List Int) (r2 : Int) : Nat → Int → Option (SPackages × (List SPackageRange) × SCodeIndex)
  | 0, _ => none
  | m1 + 1, x3 =>
    if (decide (x3 < (a2.length : Int))) = true then
      (gidx a2 x3).bind fun e4 =>
      if (decide (e4 < 0)) = true then
        explain_Keep_j1 n a2 x3 (explain_Keep_l1 n a0 a1 a2 r2 m1) e4 true
      else
        explain_Keep_j1 n a2 x3 (explain_Keep_l1 n a0 a1 a2 r2 m1) e4 (decide (r2 ≤ e4))
    else
      (explain_filter_1_m1 n a1 a2 0).bind fun r12 =>
      explain_Keep_l2 n a0 a2 r12 n r12.2 ([] : List (List SVersionNeeds)) 0
def explain_Keep (n : Nat) (a0 : SPackages) (a1 : List SPackageRange) (a2 : List Int) : Option (SPackages × (List SPackageRange) × SCodeIndex) :=
  (solver_Arguments n a0 a1).bind fun r1 =>
  if ((r1.Code == 0 && (r1.Index == 0 && true)) != true) = true then
    some ((⟨([] : List (List SVersionNeeds))⟩ : SPackages), ([] : List SPackageRange), r1)
  else
    (explain_count n a0 a1).bind fun r2 =>
    explain_Keep_l1 n a0 a1 a2 r2 n 0
def verrange_Has_j1 (n : Nat) (x1 : Bool) : Option Bool :=
  some x1
def verrange_Has_j2 (n : Nat) (x2 : Int) : Option Bool :=
  verrange_Has_j1 n (decide (0 ≤ x2))
def verrange_Has_j3 (n : Nat) (x3 : Int) (lp1 : Int → Option Bool) (x5 : Bool) : Option Bool :=
  if x5 = true then
    verrange_Has_j2 n x3
  else
    (gadd x3 1).bind fun x6 =>
    lp1 x6
def verrange_Has_j4 (n : Nat) (x3 : Int) (lp1 : Int → Option Bool) (x7 : Bool) : Option Bool :=
  verrange_Has_j3 n x3 lp1 x7
def verrange_Has_l1 (n : Nat) (a0 : SIntervals) (a1 : SMajorMinorPatchPre) : Nat → Int → Option Bool
  | 0, _ => none
  | m1 + 1, x3 =>
    if (decide (x3 < (a0.Intervals.length : Int))) = true then
      (gidx a0.Intervals x3).bind fun e4 =>
      (version_Order n (⟨e4.Low.Major, e4.Low.Minor, e4.Low.Patch, e4.Low.Pre⟩ : SMajorMinorPatchPre) a1).bind fun r8 =>
      if (decide (r8 ≤ 0)) = true then
        if e4.Unbounded = true then
          verrange_Has_j4 n x3 (verrange_Has_l1 n a0 a1 m1) true
        else
          (version_Order n a1 (⟨e4.High.Major, e4.High.Minor, e4.High.Patch, e4.High.Pre⟩ : SMajorMinorPatchPre)).bind fun r9 =>
          verrange_Has_j4 n x3 (verrange_Has_l1 n a0 a1 m1) (decide (r9 < 0))
      else
        verrange_Has_j4 n x3 (verrange_Has_l1 n a0 a1 m1) false
    else
      verrange_Has_j2 n (-1)
def verrange_Has (n : Nat) (a0 : SIntervals) (a1 : SMajorMinorPatchPre) : Option Bool :=
  verrange_Has_l1 n a0 a1 n 0
def solver_demands_l2 (n : Nat) (w1 : List SOfBy) (x2 : Int) (lp1 : (List SOfBy) → Int → Option (List SOfBy)) (e3 : SPackageRange) (e4 : List SVersionNeeds) : Nat → Bool → Bool → Bool → Bool → Int → Option (List SOfBy)
  | 0, _, _, _, _, _ => none
  | m2 + 1, b5, b6, b7, b8, x9 =>
    if (decide (x9 < (e4.length : Int))) = true then
      (gidx e4 x9).bind fun e10 =>
      (verrange_Has n (⟨e3.Range.Intervals⟩ : SIntervals) (⟨e10.Version.Major, e10.Version.Minor, e10.Version.Patch, e10.Version.Pre⟩ : SMajorMinorPatchPre)).bind fun r11 =>
      (garr 4 x9).bind fun i12 =>
      (gadd x9 1).bind fun x13 =>
      (solver_demands_l2 n w1 x2 lp1 e3 e4 m2) (if i12 = 0 then r11 else b5) (if i12 = 1 then r11 else b6) (if i12 = 2 then r11 else b7) (if i12 = 3 then r11 else b8) x13
    else
      (gapp 16 w1 ([(⟨e3.Package, (⟨b5, b6, b7, b8⟩ : SA0A1A2A3)⟩ : SOfBy)] : List SOfBy)).bind fun w14 =>
      (gadd x2 1).bind fun x15 =>
      lp1 w14 x15
def solver_demands_l1 (n : Nat) (a0 : SPackages) (a1 : List SPackageRange) : Nat → List SOfBy → Int → Option (List SOfBy)
  | 0, _, _ => none
  | m1 + 1, w1, x2 =>
    if (decide (x2 < (a1.length : Int))) = true then
      (gidx a1 x2).bind fun e3 =>
      (gidx a0.Packages e3.Package).bind fun e4 =>
      solver_demands_l2 n w1 x2 (solver_demands_l1 n a0 a1 m1) e3 e4 n false false false false 0
    else
      some w1
def solver_demands (n : Nat) (a0 : SPackages) (a1 : List SPackageRange) : Option (List SOfBy) :=
  solver_demands_l1 n a0 a1 n ([] : List SOfBy) 0
def solver_open_l2 (n : Nat) (a0 : SPackages) (w2 : List (List (List SOfBy))) (x3 : Int) (lp1 : (List (List (List SOfBy))) → Int → Option SWantsNeeds) (e4 : List SVersionNeeds) : Nat → List (List SOfBy) → Int → Option SWantsNeeds
  | 0, _, _ => none
  | m2 + 1, w5, x6 =>
    if (decide (x6 < (e4.length : Int))) = true then
      (gidx e4 x6).bind fun e7 =>
      (solver_demands n a0 e7.Needs).bind fun r8 =>
      (gapp 24 w5 ([r8] : List (List SOfBy))).bind fun w9 =>
      (gadd x6 1).bind fun x10 =>
      (solver_open_l2 n a0 w2 x3 lp1 e4 m2) w9 x10
    else
      (gapp 24 w2 ([w5] : List (List (List SOfBy)))).bind fun w11 =>
      (gadd x3 1).bind fun x12 =>
      lp1 w11 x12
def solver_open_l1 (n : Nat) (a0 : SPackages) (r1 : (List SOfBy)) : Nat → List (List (List SOfBy)) → Int → Option SWantsNeeds
  | 0, _, _ => none
  | m1 + 1, w2, x3 =>
    if (decide (x3 < (a0.Packages.length : Int))) = true then
      (gidx a0.Packages x3).bind fun e4 =>
      solver_open_l2 n a0 w2 x3 (solver_open_l1 n a0 r1 m1) e4 n ([] : List (List SOfBy)) 0
    else
      some (⟨r1, w2⟩ : SWantsNeeds)
def solver_open (n : Nat) (a0 : SPackages) (a1 : List SPackageRange) : Option SWantsNeeds :=
  (solver_demands n a0 a1).bind fun r1 =>
  solver_open_l1 n a0 r1 n ([] : List (List (List SOfBy))) 0
def solver_problem_solved_j2 (n : Nat) (x7 : Int) (lp1 : Int → Option Bool) (x9 : Bool) : Option Bool :=
  if x9 = true then
    some false
  else
    (gadd x7 1).bind fun x10 =>
    lp1 x10
def solver_problem_solved_l1 (n : Nat) (a1 : List Int) (b1 : Bool) (b2 : Bool) (b3 : Bool) (b4 : Bool) (b5 : Bool) (b6 : Bool) : Nat → Int → Option Bool
  | 0, _ => none
  | m1 + 1, x7 =>
    if (decide (x7 < (a1.length : Int))) = true then
      (gidx a1 x7).bind fun e8 =>
      if (decide (0 ≤ e8)) = true then
        (garr 6 x7).bind fun i11 =>
        solver_problem_solved_j2 n x7 (solver_problem_solved_l1 n a1 b1 b2 b3 b4 b5 b6 m1) (!(if i11 = 0 then b1 else (if i11 = 1 then b2 else (if i11 = 2 then b3 else (if i11 = 3 then b4 else (if i11 = 4 then b5 else b6))))))
      else
        solver_problem_solved_j2 n x7 (solver_problem_solved_l1 n a1 b1 b2 b3 b4 b5 b6 m1) false
    else
      some true
def solver_problem_solved_j1 (n : Nat) (a1 : List Int) (b1 : Bool) (b2 : Bool) (b3 : Bool) (b4 : Bool) (b5 : Bool) (b6 : Bool) : Option Bool :=
  solver_problem_solved_l1 n a1 b1 b2 b3 b4 b5 b6 n 0
def solver_problem_solved_j3 (n : Nat) (x30 : Int) (lp3 : Bool → Bool → Bool → Bool → Bool → Bool → (List (List SOfBy)) → Int → Option Bool) (b31 : Bool) (b32 : Bool) (b33 : Bool) (b34 : Bool) (b35 : Bool) (b36 : Bool) (w37 : List (List SOfBy)) : Option Bool :=
  (gadd x30 1).bind fun x38 =>
  lp3 b31 b32 b33 b34 b35 b36 w37 x38
def solver_problem_solved_j4 (n : Nat) (a0 : SWantsNeeds) (b23 : Bool) (b24 : Bool) (b25 : Bool) (b26 : Bool) (b27 : Bool) (b28 : Bool) (w29 : List (List SOfBy)) (x30 : Int) (lp3 : Bool → Bool → Bool → Bool → Bool → Bool → (List (List SOfBy)) → Int → Option Bool) (e39 : SOfBy) (e40 : Int) (x41 : Bool) : Option Bool :=
  if x41 = true then
    some false
  else
    (garr 6 e39.f_of).bind fun i42 =>
    if (!(if i42 = 0 then b23 else (if i42 = 1 then b24 else (if i42 = 2 then b25 else (if i42 = 3 then b26 else (if i42 = 4 then b27 else b28)))))) = true then
      (garr 6 e39.f_of).bind fun i43 =>
      (gidx a0.f_needs e39.f_of).bind fun e44 =>
      (gidx e44 e40).bind fun e45 =>
      (gapp 24 w29 ([e45] : List (List SOfBy))).bind fun w46 =>
      solver_problem_solved_j3 n x30 lp3 (if i43 = 0 then true else b23) (if i43 = 1 then true else b24) (if i43 = 2 then true else b25) (if i43 = 3 then true else b26) (if i43 = 4 then true else b27) (if i43 = 5 then true else b28) w46
    else
      solver_problem_solved_j3 n x30 lp3 b23 b24 b25 b26 b27 b28 w29
def solver_problem_solved_l3 (n : Nat) (a0 : SWantsNeeds) (a1 : List Int) (lp2 : Bool → Bool → Bool → Bool → Bool → Bool → (List (List SOfBy)) → Option Bool) (e20 : List SOfBy) : Nat → Bool → Bool → Bool → Bool → Bool → Bool → List (List SOfBy) → Int → Option Bool
  | 0, _, _, _, _, _, _, _, _ => none
  | m3 + 1, b23, b24, b25, b26, b27, b28, w29, x30 =>
    if (decide (x30 < (e20.length : Int))) = true then
      (gidx e20 x30).bind fun e39 =>
      (gidx a1 e39.f_of).bind fun e40 =>
      if (decide (e40 < 0)) = true then
        solver_problem_solved_j4 n a0 b23 b24 b25 b26 b27 b28 w29 x30 (solver_problem_solved_l3 n a0 a1 lp2 e20 m3) e39 e40 true
      else
        (garr 4 e40).bind fun i47 =>
        solver_problem_solved_j4 n a0 b23 b24 b25 b26 b27 b28 w29 x30 (solver_problem_solved_l3 n a0 a1 lp2 e20 m3) e39 e40 (!(if i47 = 0 then e39.f_by.A0 else (if i47 = 1 then e39.f_by.A1 else (if i47 = 2 then e39.f_by.A2 else e39.f_by.A3))))
    else
      lp2 b23 b24 b25 b26 b27 b28 w29
def solver_problem_solved_l2 (n : Nat) (a0 : SWantsNeeds) (a1 : List Int) : Nat → Bool → Bool → Bool → Bool → Bool → Bool → List (List SOfBy) → Option Bool
  | 0, _, _, _, _, _, _, _ => none
  | m2 + 1, b12, b13, b14, b15, b16, b17, w18 =>
    if (decide (0 < (w18.length : Int))) = true then
      (gsub (w18.length : Int) 1).bind fun x19 =>
      (gidx w18 x19).bind fun e20 =>
      (gsub (w18.length : Int) 1).bind fun x21 =>
      (gcut w18 0 x21).bind fun s22 =>
      solver_problem_solved_l3 n a0 a1 (solver_problem_solved_l2 n a0 a1 m2) e20 n b12 b13 b14 b15 b16 b17 s22 0
    else
      solver_problem_solved_j1 n a1 b12 b13 b14 b15 b16 b17
def solver_problem_solved (n : Nat) (a0 : SWantsNeeds) (a1 : List Int) : Option Bool :=
  solver_problem_solved_l2 n a0 a1 n false false false false false false ([a0.f_wants] : List (List SOfBy))
def solver_Solve_1_m1_l1 (n : Nat) (a0 : Int) (a2 : List SOfBy) (a3 : List (List (List SOfBy))) (a4 : List (List SVersionNeeds)) (rc0 : Int → (List Int) → (List SOfBy) → (List (List (List SOfBy))) → (List (List SVersionNeeds)) → Option (Bool × (List Int))) : Nat → List Int → Int → Option (Bool × (List Int))
  | 0, _, _ => none
  | m1 + 1, w4, x5 =>
    if (decide ((-1) ≤ x5)) = true then
      (gidx w4 a0).bind fun e6 =>
      (gadd a0 1).bind fun x7 =>
      (rc0 x7 (gset w4 a0 x5) a2 a3 a4).bind fun r8 =>
      (glen r8.2 (gset w4 a0 x5)).bind fun u9 =>
      if r8.1 = true then
        some (true, r8.2)
      else
        (gsub x5 1).bind fun x10 =>
        (solver_Solve_1_m1_l1 n a0 a2 a3 a4 rc0 m1) r8.2 x10
    else
      some (false, w4)
def solver_Solve_1_m1 : Nat → Int → (List Int) → (List SOfBy) → (List (List (List SOfBy))) → (List (List SVersionNeeds)) → Option (Bool × (List Int))
  | 0, _, _, _, _, _ => none
  | n + 1, a0, a1, a2, a3, a4 =>
    if (decide (a0 = (a1.length : Int))) = true then
      (solver_problem_solved n (⟨a2, a3⟩ : SWantsNeeds) a1).bind fun r1 =>
      some (r1, a1)
    else
      (gidx a4 a0).bind fun e2 =>
      (gsub (e2.length : Int) 1).bind fun x3 =>
      solver_Solve_1_m1_l1 n a0 a2 a3 a4 (solver_Solve_1_m1 n) n a1 x3
def solver_Solve (n : Nat) (a0 : SPackages) (a1 : List SPackageRange) : Option ((List Int) × Bool × SCodeIndex) :=
  (solver_Arguments n a0 a1).bind fun r1 =>
  if ((r1.Code == 0 && (r1.Index == 0 && true)) != true) = true then
    some (([] : List Int), false, r1)
  else
    (solver_open n a0 a1).bind fun r2 =>
    (gmake 8 0 (a0.Packages.length : Int)).bind fun w3 =>
    (solver_Solve_1_m1 n 0 w3 r2.f_wants r2.f_needs a0.Packages).bind fun r4 =>
    (glen r4.2 w3).bind fun u5 =>
    if (!r4.1) = true then
      some (([] : List Int), false, (⟨0, 0⟩ : SCodeIndex))
    else
      some (r4.2, true, (⟨0, 0⟩ : SCodeIndex))
def explain_Reason_1_m1 (n : Nat) (a0 : Int) (a1 : List Bool) : Option Bool :=
  (gidx a1 a0).bind fun e1 =>
  some (!e1)
def explain_filter_1_m2_j1 (n : Nat) (b1 : Int) (x3 : Int) (lp1 : Int → (List SPackageRange) → Int → Option ((List SPackageRange) × Int)) (w5 : List SPackageRange) : Option ((List SPackageRange) × Int) :=
  (gadd b1 1).bind fun x6 =>
  (gadd x3 1).bind fun x7 =>
  lp1 x6 w5 x7
def explain_filter_1_m2_l1 (n : Nat) (a0 : List SPackageRange) (a1 : List Bool) : Nat → Int → List SPackageRange → Int → Option ((List SPackageRange) × Int)
  | 0, _, _, _ => none
  | m1 + 1, b1, w2, x3 =>
    if (decide (x3 < (a0.length : Int))) = true then
      (gidx a0 x3).bind fun e4 =>
      (explain_Reason_1_m1 n b1 a1).bind fun r8 =>
      if r8 = true then
        (verrange_Copy n (⟨e4.Range.Intervals⟩ : SIntervals)).bind fun r9 =>
        (gapp 32 w2 ([(⟨e4.Package, r9⟩ : SPackageRange)] : List SPackageRange)).bind fun w10 =>
        explain_filter_1_m2_j1 n b1 x3 (explain_filter_1_m2_l1 n a0 a1 m1) w10
      else
        explain_filter_1_m2_j1 n b1 x3 (explain_filter_1_m2_l1 n a0 a1 m1) w2
    else
      some (w2, b1)
def explain_filter_1_m2 (n : Nat) (a0 : List SPackageRange) (a1 : List Bool) (a2 : Int) : Option ((List SPackageRange) × Int) :=
  explain_filter_1_m2_l1 n a0 a1 n a2 ([] : List SPackageRange) 0
def explain_Reason_j1 (n : Nat) (x6 : Int) (lp1 : (List Bool) → (List Int) → Int → Option ((List Int) × SCodeIndex)) (w7 : List Bool) (w8 : List Int) : Option ((List Int) × SCodeIndex) :=
  (gadd x6 1).bind fun x9 =>
  lp1 w7 w8 x9
def explain_Reason_j2 (n : Nat) (w4 : List Bool) (w5 : List Int) (x6 : Int) (lp1 : (List Bool) → (List Int) → Int → Option ((List Int) × SCodeIndex)) (w11 : List (List SVersionNeeds)) (x12 : List SPackageRange) : Option ((List Int) × SCodeIndex) :=
  (solver_Solve n (⟨w11⟩ : SPackages) x12).bind fun r13 =>
  if r13.2.1 = true then
    (gidx (gset w4 x6 true) x6).bind fun e14 =>
    (gapp 8 w5 ([x6] : List Int)).bind fun w15 =>
    explain_Reason_j1 n x6 lp1 (gset (gset w4 x6 true) x6 false) w15
  else
    explain_Reason_j1 n x6 lp1 (gset w4 x6 true) w5
def explain_Reason_l3 (n : Nat) (w4 : List Bool) (x6 : Int) (w18 : List (List SVersionNeeds)) (x19 : Int) (lp2 : Int → (List (List SVersionNeeds)) → Int → Option ((List Int) × SCodeIndex)) (e20 : List SVersionNeeds) : Nat → Int → List SVersionNeeds → Int → Option ((List Int) × SCodeIndex)
  | 0, _, _, _ => none
  | m3 + 1, b21, w22, x23 =>
    if (decide (x23 < (e20.length : Int))) = true then
      (gidx e20 x23).bind fun e24 =>
      (version_Copy n (⟨e24.Version.Major, e24.Version.Minor, e24.Version.Patch, e24.Version.Pre⟩ : SMajorMinorPatchPre)).bind fun r25 =>
      (explain_filter_1_m2 n e24.Needs (gset w4 x6 true) b21).bind fun r26 =>
      (gapp 72 w22 ([(⟨r25, r26.1⟩ : SVersionNeeds)] : List SVersionNeeds)).bind fun w27 =>
      (gadd x23 1).bind fun x28 =>
      (explain_Reason_l3 n w4 x6 w18 x19 lp2 e20 m3) r26.2 w27 x28
    else
      (gapp 24 w18 ([w22] : List (List SVersionNeeds))).bind fun w29 =>
      (gadd x19 1).bind fun x30 =>
      lp2 b21 w29 x30
def explain_Reason_l2 (n : Nat) (a0 : SPackages) (w4 : List Bool) (w5 : List Int) (x6 : Int) (lp1 : (List Bool) → (List Int) → Int → Option ((List Int) × SCodeIndex)) (r16 : ((List SPackageRange) × Int)) : Nat → Int → List (List SVersionNeeds) → Int → Option ((List Int) × SCodeIndex)
  | 0, _, _, _ => none
  | m2 + 1, b17, w18, x19 =>
    if (decide (x19 < (a0.Packages.length : Int))) = true then
      (gidx a0.Packages x19).bind fun e20 =>
      explain_Reason_l3 n w4 x6 w18 x19 (explain_Reason_l2 n a0 w4 w5 x6 lp1 r16 m2) e20 n b17 ([] : List SVersionNeeds) 0
    else
      explain_Reason_j2 n w4 w5 x6 lp1 w18 r16.1
def explain_Reason_l1 (n : Nat) (a0 : SPackages) (a1 : List SPackageRange) (w3 : List Bool) : Nat → List Bool → List Int → Int → Option ((List Int) × SCodeIndex)
  | 0, _, _, _ => none
  | m1 + 1, w4, w5, x6 =>
    if (decide (x6 < (w3.length : Int))) = true then
      (gidx w4 x6).bind fun e10 =>
      (explain_filter_1_m2 n a1 (gset w4 x6 true) 0).bind fun r16 =>
      explain_Reason_l2 n a0 w4 w5 x6 (explain_Reason_l1 n a0 a1 w3 m1) r16 n r16.2 ([] : List (List SVersionNeeds)) 0
    else
      some (w5, (⟨0, 0⟩ : SCodeIndex))
def explain_Reason (n : Nat) (a0 : SPackages) (a1 : List SPackageRange) : Option ((List Int) × SCodeIndex) :=
  (solver_Solve n a0 a1).bind fun r1 =>
  if ((r1.2.2.Code == 0 && (r1.2.2.Index == 0 && true)) != true) = true then
    some (([] : List Int), (⟨r1.2.2.Code, r1.2.2.Index⟩ : SCodeIndex))
  else
    if r1.2.1 = true then
      some (([] : List Int), (⟨11, 0⟩ : SCodeIndex))
    else
      (explain_count n a0 a1).bind fun r2 =>
      (gmake 1 false r2).bind fun w3 =>
      explain_Reason_l1 n a0 a1 w3 n w3 ([] : List Int) 0
def law6_fault (n : Nat) (a0 : Int) (a1 : Int) : Option SCodeIndex :=
  some (⟨a0, a1⟩ : SCodeIndex)
def ref5_Ints_l1 (n : Nat) (a0 : List Int) (a1 : List Int) : Nat → Int → Option Bool
  | 0, _ => none
  | m1 + 1, x1 =>
    if (decide (x1 < (a0.length : Int))) = true then
      (gidx a0 x1).bind fun e2 =>
      (gidx a1 x1).bind fun e3 =>
      if (decide (e2 ≠ e3)) = true then
        some false
      else
        (gadd x1 1).bind fun x4 =>
        (ref5_Ints_l1 n a0 a1 m1) x4
    else
      some true
def ref5_Ints (n : Nat) (a0 : List Int) (a1 : List Int) : Option Bool :=
  if (decide ((a0.length : Int) ≠ (a1.length : Int))) = true then
    some false
  else
    ref5_Ints_l1 n a0 a1 n 0
def law6_span (n : Nat) (a0 : Int) (a1 : SMajorMinorPatchPre) (a2 : SMajorMinorPatchPre) : Option SPackageRange :=
  some (⟨a0, (⟨([(⟨a1, a2, false⟩ : SLowHighUnbounded)] : List SLowHighUnbounded)⟩ : SIntervals)⟩ : SPackageRange)
def law6_ver (n : Nat) (a0 : Int) (a1 : Int) (a2 : Int) : Option SMajorMinorPatchPre :=
  some (⟨a0, a1, a2, ([] : List (List UInt8))⟩ : SMajorMinorPatchPre)
def law6_universe (n : Nat) : Option SPackages :=
  (law6_ver n 1 0 0).bind fun r1 =>
  (law6_ver n 2 0 0).bind fun r2 =>
  (law6_span n 1 r1 r2).bind fun r3 =>
  (law6_ver n 1 0 0).bind fun r4 =>
  (law6_ver n 3 0 0).bind fun r5 =>
  some (⟨([([(⟨r4, ([(⟨r3.Package, (⟨r3.Range.Intervals⟩ : SIntervals)⟩ : SPackageRange)] : List SPackageRange)⟩ : SVersionNeeds)] : List SVersionNeeds), ([(⟨r5, ([] : List SPackageRange)⟩ : SVersionNeeds)] : List SVersionNeeds)] : List (List SVersionNeeds))⟩ : SPackages)
def ref5_fault (n : Nat) (a0 : Int) (a1 : Int) : Option SCodeIndex :=
  some (⟨a0, a1⟩ : SCodeIndex)
def ref5_in_j1 (n : Nat) (x1 : Bool) : Option Bool :=
  some x1
def ref5_in (n : Nat) (a0 : Int) (a1 : Int) (a2 : Int) : Option Bool :=
  if (decide (a1 ≤ a0)) = true then
    ref5_in_j1 n (decide (a0 ≤ a2))
  else
    ref5_in_j1 n false
def ref5_SameVersion_l1 (n : Nat) (a0 : SMajorMinorPatchPre) (a1 : SMajorMinorPatchPre) : Nat → Int → Option Bool
  | 0, _ => none
  | m1 + 1, x2 =>
    if (decide (x2 < (a0.Pre.length : Int))) = true then
      (gidx a0.Pre x2).bind fun e3 =>
      (gidx a1.Pre x2).bind fun e4 =>
      if (decide (e3 ≠ e4)) = true then
        some false
      else
        (gadd x2 1).bind fun x5 =>
        (ref5_SameVersion_l1 n a0 a1 m1) x5
    else
      some true
def ref5_SameVersion_j1 (n : Nat) (a0 : SMajorMinorPatchPre) (a1 : SMajorMinorPatchPre) (x1 : Bool) : Option Bool :=
  if x1 = true then
    some false
  else
    ref5_SameVersion_l1 n a0 a1 n 0
def ref5_SameVersion (n : Nat) (a0 : SMajorMinorPatchPre) (a1 : SMajorMinorPatchPre) : Option Bool :=
  if (decide (a0.Major ≠ a1.Major)) = true then
    ref5_SameVersion_j1 n a0 a1 true
  else
    if (decide (a0.Minor ≠ a1.Minor)) = true then
      ref5_SameVersion_j1 n a0 a1 true
    else
      if (decide (a0.Patch ≠ a1.Patch)) = true then
        ref5_SameVersion_j1 n a0 a1 true
      else
        ref5_SameVersion_j1 n a0 a1 (decide ((a0.Pre.length : Int) ≠ (a1.Pre.length : Int)))
def ref5_Numeric_j1 (n : Nat) (x1 : Int) (lp1 : Int → Option Bool) (x2 : Bool) : Option Bool :=
  if x2 = true then
    some false
  else
    (gadd x1 1).bind fun x3 =>
    lp1 x3
def ref5_Numeric_l1 (n : Nat) (a0 : List UInt8) : Nat → Int → Option Bool
  | 0, _ => none
  | m1 + 1, x1 =>
    if (decide (x1 < (a0.length : Int))) = true then
      (gidx a0 x1).bind fun y4 =>
      if (decide ((y4.toNat : Int) < 48)) = true then
        ref5_Numeric_j1 n x1 (ref5_Numeric_l1 n a0 m1) true
      else
        (gidx a0 x1).bind fun y5 =>
        ref5_Numeric_j1 n x1 (ref5_Numeric_l1 n a0 m1) (decide (57 < (y5.toNat : Int)))
    else
      some (decide (0 < (a0.length : Int)))
def ref5_Numeric (n : Nat) (a0 : List UInt8) : Option Bool :=
  ref5_Numeric_l1 n a0 n 0
def ref5_Identifier_j2 (n : Nat) (x2 : Int) (lp1 : Int → Option Bool) (x4 : Bool) : Option Bool :=
  if x4 = true then
    some false
  else
    (gadd x2 1).bind fun x5 =>
    lp1 x5
def ref5_Identifier_l1 (n : Nat) (a0 : List UInt8) : Nat → Int → Option Bool
  | 0, _ => none
  | m1 + 1, x2 =>
    if (decide (x2 < (a0.length : Int))) = true then
      (gidx a0 x2).bind fun y3 =>
      (ref5_in n (IntKind.wrap .i64 (y3.toNat : Int)) 48 57).bind fun r6 =>
      if (!r6) = true then
        (ref5_in n (IntKind.wrap .i64 (y3.toNat : Int)) 97 122).bind fun r7 =>
        if (!r7) = true then
          (ref5_in n (IntKind.wrap .i64 (y3.toNat : Int)) 65 90).bind fun r8 =>
          if (!r8) = true then
            ref5_Identifier_j2 n x2 (ref5_Identifier_l1 n a0 m1) (decide ((IntKind.wrap .i64 (y3.toNat : Int)) ≠ 45))
          else
            ref5_Identifier_j2 n x2 (ref5_Identifier_l1 n a0 m1) false
        else
          ref5_Identifier_j2 n x2 (ref5_Identifier_l1 n a0 m1) false
      else
        ref5_Identifier_j2 n x2 (ref5_Identifier_l1 n a0 m1) false
    else
      some true
def ref5_Identifier_j1 (n : Nat) (a0 : List UInt8) (x1 : Bool) : Option Bool :=
  if x1 = true then
    some false
  else
    ref5_Identifier_l1 n a0 n 0
def ref5_Identifier (n : Nat) (a0 : List UInt8) : Option Bool :=
  (ref5_in n (a0.length : Int) 1 8).bind fun r9 =>
  if (!r9) = true then
    ref5_Identifier_j1 n a0 true
  else
    (ref5_Numeric n a0).bind fun r10 =>
    if r10 = true then
      if (decide (1 < (a0.length : Int))) = true then
        (gidx a0 0).bind fun y11 =>
        ref5_Identifier_j1 n a0 (decide ((y11.toNat : Int) = 48))
      else
        ref5_Identifier_j1 n a0 false
    else
      ref5_Identifier_j1 n a0 false
def ref5_VersionFault_l1 (n : Nat) (a0 : SMajorMinorPatchPre) : Nat → Int → Option SCodeIndex
  | 0, _ => none
  | m1 + 1, x8 =>
    if (decide (x8 < (a0.Pre.length : Int))) = true then
      (gidx a0.Pre x8).bind fun e9 =>
      (ref5_Identifier n e9).bind fun r10 =>
      if (!r10) = true then
        (ref5_fault n 5 x8).bind fun r11 =>
        some r11
      else
        (gadd x8 1).bind fun x12 =>
        (ref5_VersionFault_l1 n a0 m1) x12
    else
      some (⟨0, 0⟩ : SCodeIndex)
def ref5_VersionFault (n : Nat) (a0 : SMajorMinorPatchPre) : Option SCodeIndex :=
  (ref5_in n a0.Major 0 1000000000).bind fun r1 =>
  if (!r1) = true then
    (ref5_fault n 3 0).bind fun r2 =>
    some r2
  else
    (ref5_in n a0.Minor 0 1000000000).bind fun r3 =>
    if (!r3) = true then
      (ref5_fault n 3 1).bind fun r4 =>
      some r4
    else
      (ref5_in n a0.Patch 0 1000000000).bind fun r5 =>
      if (!r5) = true then
        (ref5_fault n 3 2).bind fun r6 =>
        some r6
      else
        if (decide (4 < (a0.Pre.length : Int))) = true then
          (ref5_fault n 2 (-1)).bind fun r7 =>
          some r7
        else
          ref5_VersionFault_l1 n a0 n 0
def ref5_Sign3 (n : Nat) (a0 : Int) (a1 : Int) : Option Int :=
  if (decide (a0 < a1)) = true then
    some (-1)
  else
    if (decide (a1 < a0)) = true then
      some 1
    else
      some 0
def ref5_value_l1 (n : Nat) (a0 : List UInt8) : Nat → Int → Int → Option Int
  | 0, _, _ => none
  | m1 + 1, x1, x2 =>
    if (decide (x2 < (a0.length : Int))) = true then
      (gmul 10 x1).bind fun x3 =>
      (gidx a0 x2).bind fun y4 =>
      (gadd x3 (IntKind.wrap .i64 (ksub .u8 (y4.toNat : Int) 48))).bind fun x5 =>
      (gadd x2 1).bind fun x6 =>
      (ref5_value_l1 n a0 m1) x5 x6
    else
      some x1
def ref5_value (n : Nat) (a0 : List UInt8) : Option Int :=
  ref5_value_l1 n a0 n 0 0
def ref5_identifiers_j2 (n : Nat) (a0 : List UInt8) (a1 : List UInt8) (x7 : Int) (lp1 : Int → Option Int) (x8 : Bool) : Option Int :=
  if x8 = true then
    (gidx a0 x7).bind fun y9 =>
    (gidx a1 x7).bind fun y10 =>
    if (decide ((y9.toNat : Int) ≠ (y10.toNat : Int))) = true then
      (gidx a0 x7).bind fun y11 =>
      (gidx a1 x7).bind fun y12 =>
      (ref5_Sign3 n (IntKind.wrap .i64 (y11.toNat : Int)) (IntKind.wrap .i64 (y12.toNat : Int))).bind fun r13 =>
      some r13
    else
      (gadd x7 1).bind fun x14 =>
      lp1 x14
  else
    (ref5_Sign3 n (a0.length : Int) (a1.length : Int)).bind fun r15 =>
    some r15
def ref5_identifiers_l1 (n : Nat) (a0 : List UInt8) (a1 : List UInt8) : Nat → Int → Option Int
  | 0, _ => none
  | m1 + 1, x7 =>
    if (decide (x7 < (a0.length : Int))) = true then
      ref5_identifiers_j2 n a0 a1 x7 (ref5_identifiers_l1 n a0 a1 m1) (decide (x7 < (a1.length : Int)))
    else
      ref5_identifiers_j2 n a0 a1 x7 (ref5_identifiers_l1 n a0 a1 m1) false
def ref5_identifiers_j1 (n : Nat) (a0 : List UInt8) (a1 : List UInt8) (x1 : Bool) : Option Int :=
  if x1 = true then
    (ref5_value n a0).bind fun r2 =>
    (ref5_value n a1).bind fun r3 =>
    (ref5_Sign3 n r2 r3).bind fun r4 =>
    some r4
  else
    (ref5_Numeric n a0).bind fun r5 =>
    if r5 = true then
      some (-1)
    else
      (ref5_Numeric n a1).bind fun r6 =>
      if r6 = true then
        some 1
      else
        ref5_identifiers_l1 n a0 a1 n 0
def ref5_identifiers (n : Nat) (a0 : List UInt8) (a1 : List UInt8) : Option Int :=
  (ref5_Numeric n a0).bind fun r16 =>
  if r16 = true then
    (ref5_Numeric n a1).bind fun r17 =>
    ref5_identifiers_j1 n a0 a1 r17
  else
    ref5_identifiers_j1 n a0 a1 false
def ref5_VersionOrder_j2 (n : Nat) (a0 : SMajorMinorPatchPre) (a1 : SMajorMinorPatchPre) (x9 : Int) (lp1 : Int → Option Int) (x10 : Bool) : Option Int :=
  if x10 = true then
    (gidx a0.Pre x9).bind fun e11 =>
    (gidx a1.Pre x9).bind fun e12 =>
    (ref5_identifiers n e11 e12).bind fun r13 =>
    if (decide (r13 ≠ 0)) = true then
      some r13
    else
      (gadd x9 1).bind fun x14 =>
      lp1 x14
  else
    (ref5_Sign3 n (a0.Pre.length : Int) (a1.Pre.length : Int)).bind fun r15 =>
    some r15
def ref5_VersionOrder_l1 (n : Nat) (a0 : SMajorMinorPatchPre) (a1 : SMajorMinorPatchPre) : Nat → Int → Option Int
  | 0, _ => none
  | m1 + 1, x9 =>
    if (decide (x9 < (a0.Pre.length : Int))) = true then
      ref5_VersionOrder_j2 n a0 a1 x9 (ref5_VersionOrder_l1 n a0 a1 m1) (decide (x9 < (a1.Pre.length : Int)))
    else
      ref5_VersionOrder_j2 n a0 a1 x9 (ref5_VersionOrder_l1 n a0 a1 m1) false
def ref5_VersionOrder_j1 (n : Nat) (a0 : SMajorMinorPatchPre) (a1 : SMajorMinorPatchPre) (x4 : Bool) : Option Int :=
  if x4 = true then
    (ref5_Sign3 n (a1.Pre.length : Int) (a0.Pre.length : Int)).bind fun r5 =>
    (gadd (a0.Pre.length : Int) (a1.Pre.length : Int)).bind fun x6 =>
    (ref5_Sign3 n x6 0).bind fun r7 =>
    (gmul r5 r7).bind fun x8 =>
    some x8
  else
    ref5_VersionOrder_l1 n a0 a1 n 0
def ref5_VersionOrder (n : Nat) (a0 : SMajorMinorPatchPre) (a1 : SMajorMinorPatchPre) : Option Int :=
  if (decide (a0.Major ≠ a1.Major)) = true then
    (ref5_Sign3 n a0.Major a1.Major).bind fun r1 =>
    some r1
  else
    if (decide (a0.Minor ≠ a1.Minor)) = true then
      (ref5_Sign3 n a0.Minor a1.Minor).bind fun r2 =>
      some r2
    else
      if (decide (a0.Patch ≠ a1.Patch)) = true then
        (ref5_Sign3 n a0.Patch a1.Patch).bind fun r3 =>
        some r3
      else
        if (decide ((a0.Pre.length : Int) = 0)) = true then
          ref5_VersionOrder_j1 n a0 a1 true
        else
          ref5_VersionOrder_j1 n a0 a1 (decide ((a1.Pre.length : Int) = 0))
def ref5_RangeFault_j3 (n : Nat) (x2 : Int) (lp1 : Int → Option SCodeIndex) (x8 : Bool) : Option SCodeIndex :=
  if x8 = true then
    (ref5_fault n 5 x2).bind fun r9 =>
    some r9
  else
    (gadd x2 1).bind fun x10 =>
    lp1 x10
def ref5_RangeFault_j2 (n : Nat) (a0 : SIntervals) (x2 : Int) (lp1 : Int → Option SCodeIndex) (e3 : SLowHighUnbounded) : Option SCodeIndex :=
  if (decide (0 < x2)) = true then
    (gsub x2 1).bind fun x11 =>
    (gidx a0.Intervals x11).bind fun e12 =>
    if e12.Unbounded = true then
      ref5_RangeFault_j3 n x2 lp1 true
    else
      (gsub x2 1).bind fun x13 =>
      (gidx a0.Intervals x13).bind fun e14 =>
      (ref5_VersionOrder n (⟨e14.High.Major, e14.High.Minor, e14.High.Patch, e14.High.Pre⟩ : SMajorMinorPatchPre) (⟨e3.Low.Major, e3.Low.Minor, e3.Low.Patch, e3.Low.Pre⟩ : SMajorMinorPatchPre)).bind fun r15 =>
      ref5_RangeFault_j3 n x2 lp1 (decide (0 ≤ r15))
  else
    ref5_RangeFault_j3 n x2 lp1 false
def ref5_RangeFault_j1 (n : Nat) (a0 : SIntervals) (x2 : Int) (lp1 : Int → Option SCodeIndex) (e3 : SLowHighUnbounded) (x6 : Bool) : Option SCodeIndex :=
  if x6 = true then
    (ref5_fault n 5 x2).bind fun r7 =>
    some r7
  else
    if (!e3.Unbounded) = true then
      (ref5_VersionFault n (⟨e3.High.Major, e3.High.Minor, e3.High.Patch, e3.High.Pre⟩ : SMajorMinorPatchPre)).bind fun r16 =>
      if (decide (r16.Code ≠ 0)) = true then
        (ref5_fault n r16.Code x2).bind fun r17 =>
        some r17
      else
        (ref5_VersionOrder n (⟨e3.Low.Major, e3.Low.Minor, e3.Low.Patch, e3.Low.Pre⟩ : SMajorMinorPatchPre) (⟨e3.High.Major, e3.High.Minor, e3.High.Patch, e3.High.Pre⟩ : SMajorMinorPatchPre)).bind fun r18 =>
        if (decide (0 ≤ r18)) = true then
          (ref5_fault n 5 x2).bind fun r19 =>
          some r19
        else
          ref5_RangeFault_j2 n a0 x2 lp1 e3
    else
      ref5_RangeFault_j2 n a0 x2 lp1 e3
def ref5_RangeFault_l1 (n : Nat) (a0 : SIntervals) : Nat → Int → Option SCodeIndex
  | 0, _ => none
  | m1 + 1, x2 =>
    if (decide (x2 < (a0.Intervals.length : Int))) = true then
      (gidx a0.Intervals x2).bind fun e3 =>
      (ref5_VersionFault n (⟨e3.Low.Major, e3.Low.Minor, e3.Low.Patch, e3.Low.Pre⟩ : SMajorMinorPatchPre)).bind fun r4 =>
      if (decide (r4.Code ≠ 0)) = true then
        (ref5_fault n r4.Code x2).bind fun r5 =>
        some r5
      else
        if e3.Unbounded = true then
          (ref5_SameVersion n (⟨e3.High.Major, e3.High.Minor, e3.High.Patch, e3.High.Pre⟩ : SMajorMinorPatchPre) (⟨0, 0, 0, ([] : List (List UInt8))⟩ : SMajorMinorPatchPre)).bind fun r20 =>
          ref5_RangeFault_j1 n a0 x2 (ref5_RangeFault_l1 n a0 m1) e3 (!r20)
        else
          ref5_RangeFault_j1 n a0 x2 (ref5_RangeFault_l1 n a0 m1) e3 false
    else
      some (⟨0, 0⟩ : SCodeIndex)
def ref5_RangeFault (n : Nat) (a0 : SIntervals) : Option SCodeIndex :=
  if (decide (12 < (a0.Intervals.length : Int))) = true then
    (ref5_fault n 2 (-1)).bind fun r1 =>
    some r1
  else
    ref5_RangeFault_l1 n a0 n 0
def ref5_NeedsCode_j1 (n : Nat) (x1 : Int) (lp1 : Int → Option Int) (x6 : Bool) : Option Int :=
  if x6 = true then
    some 5
  else
    (gadd x1 1).bind fun x7 =>
    lp1 x7
def ref5_NeedsCode_l1 (n : Nat) (a0 : Int) (a1 : List SPackageRange) : Nat → Int → Option Int
  | 0, _ => none
  | m1 + 1, x1 =>
    if (decide (x1 < (a1.length : Int))) = true then
      (gidx a1 x1).bind fun e2 =>
      (gsub a0 1).bind fun x3 =>
      (ref5_in n e2.Package 0 x3).bind fun r4 =>
      if (!r4) = true then
        some 3
      else
        (ref5_RangeFault n (⟨e2.Range.Intervals⟩ : SIntervals)).bind fun r5 =>
        if (decide (r5.Code ≠ 0)) = true then
          some r5.Code
        else
          if (decide (0 < x1)) = true then
            (gsub x1 1).bind fun x8 =>
            (gidx a1 x8).bind fun e9 =>
            ref5_NeedsCode_j1 n x1 (ref5_NeedsCode_l1 n a0 a1 m1) (decide (e2.Package ≤ e9.Package))
          else
            ref5_NeedsCode_j1 n x1 (ref5_NeedsCode_l1 n a0 a1 m1) false
    else
      some 0
def ref5_NeedsCode (n : Nat) (a0 : Int) (a1 : List SPackageRange) : Option Int :=
  if (decide (4 < (a1.length : Int))) = true then
    some 2
  else
    ref5_NeedsCode_l1 n a0 a1 n 0
def ref5_ReleasesCode_j1 (n : Nat) (a0 : Int) (x1 : Int) (lp1 : Int → Option Int) (e2 : SVersionNeeds) (x4 : Bool) : Option Int :=
  if x4 = true then
    some 5
  else
    (ref5_NeedsCode n a0 e2.Needs).bind fun r5 =>
    if (decide (r5 ≠ 0)) = true then
      some r5
    else
      (gadd x1 1).bind fun x6 =>
      lp1 x6
def ref5_ReleasesCode_l1 (n : Nat) (a0 : Int) (a1 : List SVersionNeeds) : Nat → Int → Option Int
  | 0, _ => none
  | m1 + 1, x1 =>
    if (decide (x1 < (a1.length : Int))) = true then
      (gidx a1 x1).bind fun e2 =>
      (ref5_VersionFault n (⟨e2.Version.Major, e2.Version.Minor, e2.Version.Patch, e2.Version.Pre⟩ : SMajorMinorPatchPre)).bind fun r3 =>
      if (decide (r3.Code ≠ 0)) = true then
        some r3.Code
      else
        if (decide (0 < x1)) = true then
          (gsub x1 1).bind fun x7 =>
          (gidx a1 x7).bind fun e8 =>
          (ref5_VersionOrder n (⟨e8.Version.Major, e8.Version.Minor, e8.Version.Patch, e8.Version.Pre⟩ : SMajorMinorPatchPre) (⟨e2.Version.Major, e2.Version.Minor, e2.Version.Patch, e2.Version.Pre⟩ : SMajorMinorPatchPre)).bind fun r9 =>
          ref5_ReleasesCode_j1 n a0 x1 (ref5_ReleasesCode_l1 n a0 a1 m1) e2 (decide (0 ≤ r9))
        else
          ref5_ReleasesCode_j1 n a0 x1 (ref5_ReleasesCode_l1 n a0 a1 m1) e2 false
    else
      some 0
def ref5_ReleasesCode (n : Nat) (a0 : Int) (a1 : List SVersionNeeds) : Option Int :=
  if (decide (4 < (a1.length : Int))) = true then
    some 2
  else
    ref5_ReleasesCode_l1 n a0 a1 n 0
def ref5_UniverseFault_l1 (n : Nat) (a0 : SPackages) : Nat → Int → Option SCodeIndex
  | 0, _ => none
  | m1 + 1, x2 =>
    if (decide (x2 < (a0.Packages.length : Int))) = true then
      (gidx a0.Packages x2).bind fun e3 =>
      (ref5_ReleasesCode n (a0.Packages.length : Int) e3).bind fun r4 =>
      if (decide (r4 ≠ 0)) = true then
        (ref5_fault n r4 x2).bind fun r5 =>
        some r5
      else
        (gadd x2 1).bind fun x6 =>
        (ref5_UniverseFault_l1 n a0 m1) x6
    else
      some (⟨0, 0⟩ : SCodeIndex)
def ref5_UniverseFault (n : Nat) (a0 : SPackages) : Option SCodeIndex :=
  if (decide (6 < (a0.Packages.length : Int))) = true then
    (ref5_fault n 2 (-1)).bind fun r1 =>
    some r1
  else
    ref5_UniverseFault_l1 n a0 n 0
def law6_explains_j2 (n : Nat) (x13 : Bool) : Option Bool :=
  some x13
def law6_explains_j1 (n : Nat) (r5 : (Int × SCodeIndex)) (r7 : ((List Int) × SCodeIndex)) (r9 : (SPackages × (List SPackageRange) × SCodeIndex)) (x12 : Bool) : Option Bool :=
  if x12 = true then
    if (decide (r5.1 = 2)) = true then
      (ref5_Ints n r7.1 ([0, 1] : List Int)).bind fun r14 =>
      if r14 = true then
        if (decide ((r9.1.Packages.length : Int) = 2)) = true then
          if (decide ((r9.2.1.length : Int) = 1)) = true then
            (ref5_UniverseFault n (⟨r9.1.Packages⟩ : SPackages)).bind fun r15 =>
            if (decide (r15.Code = 0)) = true then
              (ref6_ConstraintCount n (⟨r9.1.Packages⟩ : SPackages) r9.2.1).bind fun r16 =>
              law6_explains_j2 n (decide (r16 = 1))
            else
              law6_explains_j2 n false
          else
            law6_explains_j2 n false
        else
          law6_explains_j2 n false
      else
        law6_explains_j2 n false
    else
      law6_explains_j2 n false
  else
    law6_explains_j2 n false
def law6_explains (n : Nat) : Option Bool :=
  (law6_ver n 1 0 0).bind fun r1 =>
  (law6_ver n 2 0 0).bind fun r2 =>
  (law6_span n 0 r1 r2).bind fun r3 =>
  (law6_universe n).bind fun r4 =>
  (explain_Count n r4 ([(⟨r3.Package, (⟨r3.Range.Intervals⟩ : SIntervals)⟩ : SPackageRange)] : List SPackageRange)).bind fun r5 =>
  (law6_universe n).bind fun r6 =>
  (explain_Reason n r6 ([(⟨r3.Package, (⟨r3.Range.Intervals⟩ : SIntervals)⟩ : SPackageRange)] : List SPackageRange)).bind fun r7 =>
  (law6_universe n).bind fun r8 =>
  (explain_Keep n r8 ([(⟨r3.Package, (⟨r3.Range.Intervals⟩ : SIntervals)⟩ : SPackageRange)] : List SPackageRange) ([0] : List Int)).bind fun r9 =>
  (law6_universe n).bind fun r10 =>
  (explain_Reason n r10 ([] : List SPackageRange)).bind fun r11 =>
  if (decide (r5.2.Code = 0)) = true then
    if (decide (r7.2.Code = 0)) = true then
      if (decide (r9.2.2.Code = 0)) = true then
        (law6_fault n 11 0).bind fun r17 =>
        law6_explains_j1 n r5 r7 r9 ((r11.2.Code == r17.Code && (r11.2.Index == r17.Index && true)) != false)
      else
        law6_explains_j1 n r5 r7 r9 false
    else
      law6_explains_j1 n r5 r7 r9 false
  else
    law6_explains_j1 n r5 r7 r9 false
def law6_vastNeeds_j2 (n : Nat) (x4 : Int) (lp2 : Int → Option Bool) (x5 : Bool) : Option Bool :=
  if x5 = true then
    some true
  else
    (gadd x4 1).bind fun x6 =>
    lp2 x6
def law6_vastNeeds_l2 (n : Nat) (x1 : Int) (lp1 : Int → Option Bool) (e3 : SPackageRange) : Nat → Int → Option Bool
  | 0, _ => none
  | m2 + 1, x4 =>
    if (decide (x4 < (e3.Range.Intervals.length : Int))) = true then
      (gidx e3.Range.Intervals x4).bind fun e7 =>
      if (decide (40 < (e7.Low.Pre.length : Int))) = true then
        law6_vastNeeds_j2 n x4 (law6_vastNeeds_l2 n x1 lp1 e3 m2) true
      else
        law6_vastNeeds_j2 n x4 (law6_vastNeeds_l2 n x1 lp1 e3 m2) (decide (40 < (e7.High.Pre.length : Int)))
    else
      (gadd x1 1).bind fun x8 =>
      lp1 x8
def law6_vastNeeds_j1 (n : Nat) (a0 : List SPackageRange) (x1 : Int) (lp1 : Int → Option Bool) (x2 : Bool) : Option Bool :=
  if x2 = true then
    (gidx a0 x1).bind fun e3 =>
    if (decide (40 < (e3.Range.Intervals.length : Int))) = true then
      some true
    else
      law6_vastNeeds_l2 n x1 lp1 e3 n 0
  else
    some (decide (20 < (a0.length : Int)))
def law6_vastNeeds_l1 (n : Nat) (a0 : List SPackageRange) : Nat → Int → Option Bool
  | 0, _ => none
  | m1 + 1, x1 =>
    if (decide (x1 < (a0.length : Int))) = true then
      law6_vastNeeds_j1 n a0 x1 (law6_vastNeeds_l1 n a0 m1) (decide (x1 < 20))
    else
      law6_vastNeeds_j1 n a0 x1 (law6_vastNeeds_l1 n a0 m1) false
def law6_vastNeeds (n : Nat) (a0 : List SPackageRange) : Option Bool :=
  law6_vastNeeds_l1 n a0 n 0
def law6_vast_j2 (n : Nat) (x4 : Int) (lp2 : Int → Option Bool) (x5 : Bool) : Option Bool :=
  if x5 = true then
    some true
  else
    (gadd x4 1).bind fun x6 =>
    lp2 x6
def law6_vast_l2 (n : Nat) (x1 : Int) (lp1 : Int → Option Bool) (e3 : List SVersionNeeds) : Nat → Int → Option Bool
  | 0, _ => none
  | m2 + 1, x4 =>
    if (decide (x4 < (e3.length : Int))) = true then
      (gidx e3 x4).bind fun e7 =>
      if (decide (40 < (e7.Version.Pre.length : Int))) = true then
        law6_vast_j2 n x4 (law6_vast_l2 n x1 lp1 e3 m2) true
      else
        (law6_vastNeeds n e7.Needs).bind fun r8 =>
        law6_vast_j2 n x4 (law6_vast_l2 n x1 lp1 e3 m2) r8
    else
      (gadd x1 1).bind fun x9 =>
      lp1 x9
def law6_vast_j3 (n : Nat) (x10 : Bool) : Option Bool :=
  some x10
def law6_vast_j1 (n : Nat) (a0 : SPackages) (a1 : List SPackageRange) (x1 : Int) (lp1 : Int → Option Bool) (x2 : Bool) : Option Bool :=
  if x2 = true then
    (gidx a0.Packages x1).bind fun e3 =>
    if (decide (20 < (e3.length : Int))) = true then
      some true
    else
      law6_vast_l2 n x1 lp1 e3 n 0
  else
    if (decide (20 < (a0.Packages.length : Int))) = true then
      law6_vast_j3 n true
    else
      (law6_vastNeeds n a1).bind fun r11 =>
      law6_vast_j3 n r11
def law6_vast_l1 (n : Nat) (a0 : SPackages) (a1 : List SPackageRange) : Nat → Int → Option Bool
  | 0, _ => none
  | m1 + 1, x1 =>
    if (decide (x1 < (a0.Packages.length : Int))) = true then
      law6_vast_j1 n a0 a1 x1 (law6_vast_l1 n a0 a1 m1) (decide (x1 < 20))
    else
      law6_vast_j1 n a0 a1 x1 (law6_vast_l1 n a0 a1 m1) false
def law6_vast (n : Nat) (a0 : SPackages) (a1 : List SPackageRange) : Option Bool :=
  law6_vast_l1 n a0 a1 n 0
def ref5_WantsFault_j1 (n : Nat) (b2 : Int) (b3 : Int) : Option SCodeIndex :=
  some (⟨b2, b3⟩ : SCodeIndex)
def ref5_WantsFault (n : Nat) (a0 : SPackages) (a1 : List SPackageRange) : Option SCodeIndex :=
  (ref5_UniverseFault n a0).bind fun r1 =>
  if (decide (r1.Code = 0)) = true then
    (ref5_NeedsCode n (a0.Packages.length : Int) a1).bind fun r4 =>
    if (decide (r4 ≠ 0)) = true then
      (ref5_fault n r4 (-2)).bind fun r5 =>
      ref5_WantsFault_j1 n r5.Code r5.Index
    else
      ref5_WantsFault_j1 n r1.Code r1.Index
  else
    ref5_WantsFault_j1 n r1.Code r1.Index
def ref5_Has_l1 (n : Nat) (a0 : List Int) (a1 : Int) : Nat → Int → Option Bool
  | 0, _ => none
  | m1 + 1, x1 =>
    if (decide (x1 < (a0.length : Int))) = true then
      (gidx a0 x1).bind fun e2 =>
      if (decide (e2 = a1)) = true then
        some true
      else
        (gadd x1 1).bind fun x3 =>
        (ref5_Has_l1 n a0 a1 m1) x3
    else
      some false
def ref5_Has (n : Nat) (a0 : List Int) (a1 : Int) : Option Bool :=
  ref5_Has_l1 n a0 a1 n 0
def ref6_part_j1 (n : Nat) (x2 : Int) (lp1 : (List SPackageRange) → Int → Option (List SPackageRange)) (w3 : List SPackageRange) : Option (List SPackageRange) :=
  (gadd x2 1).bind fun x4 =>
  lp1 w3 x4
def ref6_part_l1 (n : Nat) (a0 : List SPackageRange) (a1 : Int) (a2 : List Int) : Nat → List SPackageRange → Int → Option (List SPackageRange)
  | 0, _, _ => none
  | m1 + 1, w1, x2 =>
    if (decide (x2 < (a0.length : Int))) = true then
      (gadd a1 x2).bind fun x5 =>
      (ref5_Has n a2 x5).bind fun r6 =>
      if r6 = true then
        (gidx a0 x2).bind fun e7 =>
        (gapp 32 w1 ([(⟨e7.Package, (⟨e7.Range.Intervals⟩ : SIntervals)⟩ : SPackageRange)] : List SPackageRange)).bind fun w8 =>
        ref6_part_j1 n x2 (ref6_part_l1 n a0 a1 a2 m1) w8
      else
        ref6_part_j1 n x2 (ref6_part_l1 n a0 a1 a2 m1) w1
    else
      some w1
def ref6_part (n : Nat) (a0 : List SPackageRange) (a1 : Int) (a2 : List Int) : Option (List SPackageRange) :=
  ref6_part_l1 n a0 a1 a2 n ([] : List SPackageRange) 0
def ref6_Kept_l2 (n : Nat) (a0 : SPackages) (a2 : List Int) (w1 : List (List SVersionNeeds)) (x3 : Int) (lp1 : (List (List SVersionNeeds)) → Int → Int → Option (SPackages × (List SPackageRange))) : Nat → Int → List SVersionNeeds → Int → Option (SPackages × (List SPackageRange))
  | 0, _, _, _ => none
  | m2 + 1, x4, w5, x6 =>
    (gidx a0.Packages x3).bind fun e7 =>
    if (decide (x6 < (e7.length : Int))) = true then
      (gidx e7 x6).bind fun e8 =>
      (ref6_part n e8.Needs x4 a2).bind fun r9 =>
      (gapp 72 w5 ([(⟨(⟨e8.Version.Major, e8.Version.Minor, e8.Version.Patch, e8.Version.Pre⟩ : SMajorMinorPatchPre), r9⟩ : SVersionNeeds)] : List SVersionNeeds)).bind fun w10 =>
      (gadd x4 (e8.Needs.length : Int)).bind fun x11 =>
      (gadd x6 1).bind fun x12 =>
      (ref6_Kept_l2 n a0 a2 w1 x3 lp1 m2) x11 w10 x12
    else
      (gapp 24 w1 ([w5] : List (List SVersionNeeds))).bind fun w13 =>
      (gadd x3 1).bind fun x14 =>
      lp1 w13 x4 x14
def ref6_Kept_l1 (n : Nat) (a0 : SPackages) (a1 : List SPackageRange) (a2 : List Int) : Nat → List (List SVersionNeeds) → Int → Int → Option (SPackages × (List SPackageRange))
  | 0, _, _, _ => none
  | m1 + 1, w1, x2, x3 =>
    if (decide (x3 < (a0.Packages.length : Int))) = true then
      ref6_Kept_l2 n a0 a2 w1 x3 (ref6_Kept_l1 n a0 a1 a2 m1) n x2 ([] : List SVersionNeeds) 0
    else
      (ref6_part n a1 0 a2).bind fun r15 =>
      some ((⟨w1⟩ : SPackages), r15)
def ref6_Kept (n : Nat) (a0 : SPackages) (a1 : List SPackageRange) (a2 : List Int) : Option (SPackages × (List SPackageRange)) :=
  ref6_Kept_l1 n a0 a1 a2 n ([] : List (List SVersionNeeds)) (a1.length : Int) 0
def ref5_Selections_l1 (n : Nat) (a0 : SPackages) : Nat → Int → Int → Option Int
  | 0, _, _ => none
  | m1 + 1, x1, x2 =>
    if (decide (x2 < (a0.Packages.length : Int))) = true then
      (gidx a0.Packages x2).bind fun e3 =>
      (gadd (e3.length : Int) 1).bind fun x4 =>
      (gmul x1 x4).bind fun x5 =>
      (gadd x2 1).bind fun x6 =>
      (ref5_Selections_l1 n a0 m1) x5 x6
    else
      some x1
def ref5_Selections (n : Nat) (a0 : SPackages) : Option Int :=
  ref5_Selections_l1 n a0 n 1 0
def law6_slow (n : Nat) (a0 : SPackages) (a1 : List SPackageRange) : Option Bool :=
  (ref5_Selections n a0).bind fun r1 =>
  (ref6_ConstraintCount n a0 a1).bind fun r2 =>
  (gadd 1 r2).bind fun x3 =>
  (gmul r1 x3).bind fun x4 =>
  some (decide (4000 < x4))
def ref5_within_j1 (n : Nat) (x1 : Bool) : Option Bool :=
  some x1
def ref5_within (n : Nat) (a0 : SLowHighUnbounded) (a1 : SMajorMinorPatchPre) : Option Bool :=
  (ref5_VersionOrder n (⟨a0.Low.Major, a0.Low.Minor, a0.Low.Patch, a0.Low.Pre⟩ : SMajorMinorPatchPre) a1).bind fun r2 =>
  if (decide (r2 ≤ 0)) = true then
    if a0.Unbounded = true then
      ref5_within_j1 n true
    else
      (ref5_VersionOrder n a1 (⟨a0.High.Major, a0.High.Minor, a0.High.Patch, a0.High.Pre⟩ : SMajorMinorPatchPre)).bind fun r3 =>
      ref5_within_j1 n (decide (r3 < 0))
  else
    ref5_within_j1 n false
def ref5_RangeHas_l1 (n : Nat) (a0 : SIntervals) (a1 : SMajorMinorPatchPre) : Nat → Int → Option Bool
  | 0, _ => none
  | m1 + 1, x1 =>
    if (decide (x1 < (a0.Intervals.length : Int))) = true then
      (gidx a0.Intervals x1).bind fun e2 =>
      (ref5_within n (⟨(⟨e2.Low.Major, e2.Low.Minor, e2.Low.Patch, e2.Low.Pre⟩ : SMajorMinorPatchPre), (⟨e2.High.Major, e2.High.Minor, e2.High.Patch, e2.High.Pre⟩ : SMajorMinorPatchPre), e2.Unbounded⟩ : SLowHighUnbounded) a1).bind fun r3 =>
      if r3 = true then
        some true
      else
        (gadd x1 1).bind fun x4 =>
        (ref5_RangeHas_l1 n a0 a1 m1) x4
    else
      some false
def ref5_RangeHas (n : Nat) (a0 : SIntervals) (a1 : SMajorMinorPatchPre) : Option Bool :=
  ref5_RangeHas_l1 n a0 a1 n 0
def ref5_satisfied_j1 (n : Nat) (x1 : Int) (lp1 : Int → Option Bool) (x4 : Bool) : Option Bool :=
  if x4 = true then
    some false
  else
    (gadd x1 1).bind fun x5 =>
    lp1 x5
def ref5_satisfied_l1 (n : Nat) (a0 : SPackages) (a1 : List SPackageRange) (a2 : List Int) : Nat → Int → Option Bool
  | 0, _ => none
  | m1 + 1, x1 =>
    if (decide (x1 < (a1.length : Int))) = true then
      (gidx a1 x1).bind fun e2 =>
      (gidx a2 e2.Package).bind fun e3 =>
      if (decide (e3 < 0)) = true then
        ref5_satisfied_j1 n x1 (ref5_satisfied_l1 n a0 a1 a2 m1) true
      else
        (gidx a0.Packages e2.Package).bind fun e6 =>
        (gidx e6 e3).bind fun e7 =>
        (ref5_RangeHas n (⟨e2.Range.Intervals⟩ : SIntervals) (⟨e7.Version.Major, e7.Version.Minor, e7.Version.Patch, e7.Version.Pre⟩ : SMajorMinorPatchPre)).bind fun r8 =>
        ref5_satisfied_j1 n x1 (ref5_satisfied_l1 n a0 a1 a2 m1) (!r8)
    else
      some true
def ref5_satisfied (n : Nat) (a0 : SPackages) (a1 : List SPackageRange) (a2 : List Int) : Option Bool :=
  ref5_satisfied_l1 n a0 a1 a2 n 0
def ref5_mark_m1_l1 (n : Nat) (a1 : List SPackageRange) : Nat → List Bool → Int → Option (List Bool)
  | 0, _, _ => none
  | m1 + 1, w1, x2 =>
    if (decide (x2 < (a1.length : Int))) = true then
      (gidx a1 x2).bind fun e3 =>
      (gidx w1 e3.Package).bind fun e4 =>
      (gadd x2 1).bind fun x5 =>
      (ref5_mark_m1_l1 n a1 m1) (gset w1 e3.Package true) x5
    else
      some w1
def ref5_mark_m1 (n : Nat) (a0 : List Bool) (a1 : List SPackageRange) : Option (List Bool) :=
  ref5_mark_m1_l1 n a1 n a0 0
def ref5_Solution_j1 (n : Nat) (x8 : Int) (lp2 : (List Bool) → Int → Option Bool) (w9 : List Bool) : Option Bool :=
  (gadd x8 1).bind fun x10 =>
  lp2 w9 x10
def ref5_Solution_j2 (n : Nat) (a0 : SPackages) (a2 : List Int) (w7 : List Bool) (x8 : Int) (lp2 : (List Bool) → Int → Option Bool) (x11 : Bool) : Option Bool :=
  if x11 = true then
    (gidx a0.Packages x8).bind fun e12 =>
    (gidx a2 x8).bind fun e13 =>
    (gidx e12 e13).bind fun e14 =>
    (ref5_mark_m1 n w7 e14.Needs).bind fun r15 =>
    (glen r15 w7).bind fun u16 =>
    ref5_Solution_j1 n x8 lp2 r15
  else
    ref5_Solution_j1 n x8 lp2 w7
def ref5_Solution_l2 (n : Nat) (a0 : SPackages) (a2 : List Int) (x6 : Int) (lp1 : (List Bool) → Int → Option Bool) : Nat → List Bool → Int → Option Bool
  | 0, _, _ => none
  | m2 + 1, w7, x8 =>
    if (decide (x8 < (a2.length : Int))) = true then
      (gidx w7 x8).bind fun e17 =>
      if e17 = true then
        (gidx a2 x8).bind fun e18 =>
        ref5_Solution_j2 n a0 a2 w7 x8 (ref5_Solution_l2 n a0 a2 x6 lp1 m2) (decide (0 ≤ e18))
      else
        ref5_Solution_j2 n a0 a2 w7 x8 (ref5_Solution_l2 n a0 a2 x6 lp1 m2) false
    else
      (gadd x6 1).bind fun x19 =>
      lp1 w7 x19
def ref5_Solution_j3 (n : Nat) (x20 : Int) (lp3 : Int → Option Bool) (x21 : Bool) : Option Bool :=
  if x21 = true then
    some false
  else
    (gadd x20 1).bind fun x22 =>
    lp3 x22
def ref5_Solution_l3 (n : Nat) (a0 : SPackages) (a2 : List Int) (w5 : List Bool) : Nat → Int → Option Bool
  | 0, _ => none
  | m3 + 1, x20 =>
    if (decide (x20 < (a2.length : Int))) = true then
      (gidx a2 x20).bind fun e23 =>
      if (decide (0 ≤ e23)) = true then
        (gidx w5 x20).bind fun e24 =>
        if (!e24) = true then
          ref5_Solution_j3 n x20 (ref5_Solution_l3 n a0 a2 w5 m3) true
        else
          (gidx a0.Packages x20).bind fun e25 =>
          (gidx e25 e23).bind fun e26 =>
          (ref5_satisfied n a0 e26.Needs a2).bind fun r27 =>
          ref5_Solution_j3 n x20 (ref5_Solution_l3 n a0 a2 w5 m3) (!r27)
      else
        ref5_Solution_j3 n x20 (ref5_Solution_l3 n a0 a2 w5 m3) false
    else
      some true
def ref5_Solution_l1 (n : Nat) (a0 : SPackages) (a2 : List Int) : Nat → List Bool → Int → Option Bool
  | 0, _, _ => none
  | m1 + 1, w5, x6 =>
    if (decide (x6 < (a2.length : Int))) = true then
      ref5_Solution_l2 n a0 a2 x6 (ref5_Solution_l1 n a0 a2 m1) n w5 0
    else
      ref5_Solution_l3 n a0 a2 w5 n 0
def ref5_Solution (n : Nat) (a0 : SPackages) (a1 : List SPackageRange) (a2 : List Int) : Option Bool :=
  (ref5_satisfied n a0 a1 a2).bind fun r1 =>
  if (!r1) = true then
    some false
  else
    (gmake 1 false (a2.length : Int)).bind fun w2 =>
    (ref5_mark_m1 n w2 a1).bind fun r3 =>
    (glen r3 w2).bind fun u4 =>
    ref5_Solution_l1 n a0 a2 n r3 0
def ref5_Best_l2 (n : Nat) (a0 : SPackages) (a1 : List SPackageRange) (x2 : Int) (lp1 : Int → Option ((List Int) × Bool)) : Nat → List Int → Int → Int → Option ((List Int) × Bool)
  | 0, _, _, _ => none
  | m2 + 1, w5, x6, x7 =>
    if (decide (0 ≤ x7)) = true then
      (gidx a0.Packages x7).bind fun e8 =>
      (gadd (e8.length : Int) 1).bind fun x9 =>
      (gsub x9 2).bind fun x10 =>
      (grem x6 x9).bind fun x11 =>
      (gsub x10 x11).bind fun x12 =>
      (gidx w5 x7).bind fun e13 =>
      (gquo x6 x9).bind fun x14 =>
      (gsub x7 1).bind fun x15 =>
      (ref5_Best_l2 n a0 a1 x2 lp1 m2) (gset w5 x7 x12) x14 x15
    else
      (ref5_Solution n a0 a1 w5).bind fun r16 =>
      if r16 = true then
        some (w5, true)
      else
        (gadd x2 1).bind fun x17 =>
        lp1 x17
def ref5_Best_l1 (n : Nat) (a0 : SPackages) (a1 : List SPackageRange) (r1 : Int) : Nat → Int → Option ((List Int) × Bool)
  | 0, _ => none
  | m1 + 1, x2 =>
    if (decide (x2 < r1)) = true then
      (gmake 8 0 (a0.Packages.length : Int)).bind fun w3 =>
      (gsub (w3.length : Int) 1).bind fun x4 =>
      ref5_Best_l2 n a0 a1 x2 (ref5_Best_l1 n a0 a1 r1 m1) n w3 x2 x4
    else
      some (([] : List Int), false)
def ref5_Best (n : Nat) (a0 : SPackages) (a1 : List SPackageRange) : Option ((List Int) × Bool) :=
  (ref5_Selections n a0).bind fun r1 =>
  ref5_Best_l1 n a0 a1 r1 n 0
def ref6_without_j1 (n : Nat) (x2 : Int) (lp1 : (List Int) → Int → Option (List Int)) (w3 : List Int) : Option (List Int) :=
  (gadd x2 1).bind fun x4 =>
  lp1 w3 x4
def ref6_without_l1 (n : Nat) (a0 : List Int) (a1 : Int) : Nat → List Int → Int → Option (List Int)
  | 0, _, _ => none
  | m1 + 1, w1, x2 =>
    if (decide (x2 < (a0.length : Int))) = true then
      (gidx a0 x2).bind fun e5 =>
      if (decide (e5 ≠ a1)) = true then
        (gapp 8 w1 ([e5] : List Int)).bind fun w6 =>
        ref6_without_j1 n x2 (ref6_without_l1 n a0 a1 m1) w6
      else
        ref6_without_j1 n x2 (ref6_without_l1 n a0 a1 m1) w1
    else
      some w1
def ref6_without (n : Nat) (a0 : List Int) (a1 : Int) : Option (List Int) :=
  ref6_without_l1 n a0 a1 n ([] : List Int) 0
def ref6_Reason_j1 (n : Nat) (x8 : Int) (lp2 : (List Int) → Int → Option ((List Int) × Bool)) (x9 : List Int) : Option ((List Int) × Bool) :=
  (gadd x8 1).bind fun x10 =>
  lp2 x9 x10
def ref6_Reason_l2 (n : Nat) (a0 : SPackages) (a1 : List SPackageRange) (r1 : Int) : Nat → List Int → Int → Option ((List Int) × Bool)
  | 0, _, _ => none
  | m2 + 1, x7, x8 =>
    if (decide (x8 < r1)) = true then
      (ref6_without n x7 x8).bind fun r11 =>
      (ref6_Kept n a0 a1 r11).bind fun r12 =>
      (ref5_Best n (⟨r12.1.Packages⟩ : SPackages) r12.2).bind fun r13 =>
      if (!r13.2) = true then
        (ref6_without n x7 x8).bind fun r14 =>
        ref6_Reason_j1 n x8 (ref6_Reason_l2 n a0 a1 r1 m2) r14
      else
        ref6_Reason_j1 n x8 (ref6_Reason_l2 n a0 a1 r1 m2) x7
    else
      some (x7, true)
def ref6_Reason_l1 (n : Nat) (a0 : SPackages) (a1 : List SPackageRange) (r1 : Int) : Nat → List Int → Int → Option ((List Int) × Bool)
  | 0, _, _ => none
  | m1 + 1, w2, x3 =>
    if (decide (x3 < r1)) = true then
      (gapp 8 w2 ([x3] : List Int)).bind fun w4 =>
      (gadd x3 1).bind fun x5 =>
      (ref6_Reason_l1 n a0 a1 r1 m1) w4 x5
    else
      (ref5_Best n a0 a1).bind fun r6 =>
      if r6.2 = true then
        some (([] : List Int), false)
      else
        ref6_Reason_l2 n a0 a1 r1 n w2 0
def ref6_Reason (n : Nat) (a0 : SPackages) (a1 : List SPackageRange) : Option ((List Int) × Bool) :=
  (ref6_ConstraintCount n a0 a1).bind fun r1 =>
  ref6_Reason_l1 n a0 a1 r1 n ([] : List Int) 0
def law6_ExplainReasonMatchesSpec_j1 (n : Nat) (x5 : Bool) : Option Bool :=
  some x5
def law6_ExplainReasonMatchesSpec_j2 (n : Nat) (x7 : Bool) : Option Bool :=
  some x7
def law6_ExplainReasonMatchesSpec_j3 (n : Nat) (x10 : Bool) : Option Bool :=
  some x10
def law6_ExplainReasonMatchesSpec_j4 (n : Nat) (x12 : Bool) : Option Bool :=
  some x12
def law6_ExplainReasonMatchesSpec (n : Nat) (a0 : SPackages) (a1 : List SPackageRange) : Option Bool :=
  (law6_explains n).bind fun r1 =>
  if (!r1) = true then
    some false
  else
    (law6_vast n a0 a1).bind fun r2 =>
    if r2 = true then
      some true
    else
      (ref5_WantsFault n a0 a1).bind fun r3 =>
      (explain_Reason n a0 a1).bind fun r4 =>
      if (decide (r3.Code ≠ 0)) = true then
        if ((r4.2.Code == r3.Code && (r4.2.Index == r3.Index && true)) != false) = true then
          law6_ExplainReasonMatchesSpec_j1 n (decide ((r4.1.length : Int) = 0))
        else
          law6_ExplainReasonMatchesSpec_j1 n false
      else
        (law6_slow n a0 a1).bind fun r6 =>
        if r6 = true then
          if (decide (r4.2.Code = 0)) = true then
            law6_ExplainReasonMatchesSpec_j2 n true
          else
            (law6_fault n 11 0).bind fun r8 =>
            law6_ExplainReasonMatchesSpec_j2 n ((r4.2.Code == r8.Code && (r4.2.Index == r8.Index && true)) != false)
        else
          (ref6_Reason n a0 a1).bind fun r9 =>
          if (!r9.2) = true then
            (law6_fault n 11 0).bind fun r11 =>
            if ((r4.2.Code == r11.Code && (r4.2.Index == r11.Index && true)) != false) = true then
              law6_ExplainReasonMatchesSpec_j3 n (decide ((r4.1.length : Int) = 0))
            else
              law6_ExplainReasonMatchesSpec_j3 n false
          else
            if (decide (r4.2.Code = 0)) = true then
              (ref5_Ints n r4.1 r9.1).bind fun r13 =>
              law6_ExplainReasonMatchesSpec_j4 n r13
            else
              law6_ExplainReasonMatchesSpec_j4 n false
end Go.Proofs.Ytfdennmaeoahgaa
