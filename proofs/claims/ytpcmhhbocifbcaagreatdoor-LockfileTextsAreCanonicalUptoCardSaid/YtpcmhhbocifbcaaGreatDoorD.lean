/- The types of the functions, and what the functions compute: partial operations as options; n is the fuel of each loop. Laid by a program (wip/gen/dec.py). -/
import Derived.Test.YtpcmhhbocifbcaaGreatDoorPwDec
import Derived.Test.YtpcmhhbocifbcaaGreatDoorPwSplit
import Derived.Test.YtpcmhhbocifbcaaGreatDoorPwEat
import Derived.Test.YtpcmhhbocifbcaaGreatDoorPwRunes
import Derived.Test.YtpcmhhbocifbcaaGreatDoorPwStrconv
import Derived.Test.YtpcmhhbocifbcaaGreatDoorPwShelf
namespace Go.Proofs.YtpcmhhbocifbcaaGreatDoor
open Go.PW Go
set_option linter.unusedVariables false
structure SCodeIndex where
  Code : Int
  Index : Int
  deriving DecidableEq
def SCodeIndex.cells (x : SCodeIndex) : List PV := [.int .i64 x.Code, .int .i64 x.Index]
structure SMajorMinorPatchPre where
  Major : Int
  Minor : Int
  Patch : Int
  Pre : List (List UInt8)
  deriving DecidableEq
def SMajorMinorPatchPre.cells (x : SMajorMinorPatchPre) : List PV := [.int .i64 x.Major, .int .i64 x.Minor, .int .i64 x.Patch, .list 1 (List.map cS x.Pre)]
structure SPackageVersionDigest where
  Package : Int
  Version : SMajorMinorPatchPre
  Digest : Int
  deriving DecidableEq
def SPackageVersionDigest.cells (x : SPackageVersionDigest) : List PV := [.int .i64 x.Package, .int .i64 x.Version.Major, .int .i64 x.Version.Minor, .int .i64 x.Version.Patch, .list 1 (List.map cS x.Version.Pre), .int .i64 x.Digest]
structure SA0A1 where
  A0 : Int
  A1 : Int
  deriving DecidableEq
def SA0A1.cells (x : SA0A1) : List PV := [.int .i64 x.A0, .int .i64 x.A1]
structure SLowHighUnbounded where
  Low : SMajorMinorPatchPre
  High : SMajorMinorPatchPre
  Unbounded : Bool
  deriving DecidableEq
def SLowHighUnbounded.cells (x : SLowHighUnbounded) : List PV := [.int .i64 x.Low.Major, .int .i64 x.Low.Minor, .int .i64 x.Low.Patch, .list 1 (List.map cS x.Low.Pre), .int .i64 x.High.Major, .int .i64 x.High.Minor, .int .i64 x.High.Patch, .list 1 (List.map cS x.High.Pre), .bool x.Unbounded]
structure SIntervals where
  Intervals : List SLowHighUnbounded
  deriving DecidableEq
def SIntervals.cells (x : SIntervals) : List PV := [.list 9 (List.map SLowHighUnbounded.cells x.Intervals)]
structure SPackageRange where
  Package : Int
  Range : SIntervals
  deriving DecidableEq
def SPackageRange.cells (x : SPackageRange) : List PV := [.int .i64 x.Package, .list 9 (List.map SLowHighUnbounded.cells x.Range.Intervals)]
structure SVersionNeeds where
  Version : SMajorMinorPatchPre
  Needs : List SPackageRange
  deriving DecidableEq
def SVersionNeeds.cells (x : SVersionNeeds) : List PV := [.int .i64 x.Version.Major, .int .i64 x.Version.Minor, .int .i64 x.Version.Patch, .list 1 (List.map cS x.Version.Pre), .list 2 (List.map SPackageRange.cells x.Needs)]
structure SPackages where
  Packages : List (List SVersionNeeds)
  deriving DecidableEq
def SPackages.cells (x : SPackages) : List PV := [.list 1 (List.map (cL 5 SVersionNeeds.cells) x.Packages)]
def strings_ContainsFunc (n : Nat) (a0 : List UInt8) : Option Bool :=
  some (libNonDigits a0)
def version_numeric (n : Nat) (a0 : List UInt8) : Option Bool :=
  (strings_ContainsFunc n a0).bind fun r1 =>
  some (!r1)
def version_identifier_j2 (n : Nat) (x2 : Int) (lp1 : Int → Option Bool) (x4 : Bool) : Option Bool :=
  if x4 = true then
    some false
  else
    (gadd x2 1).bind fun x5 =>
    lp1 x5
def version_identifier_j3 (n : Nat) (x6 : Bool) : Option Bool :=
  some x6
def version_identifier_l1 (n : Nat) (a0 : List UInt8) : Nat → Int → Option Bool
  | 0, _ => none
  | m1 + 1, x2 =>
    if (decide (x2 < (a0.length : Int))) = true then
      (gidx a0 x2).bind fun y3 =>
      if (decide ((y3.toNat : Int) < 48)) = true then
        if (decide ((y3.toNat : Int) < 97)) = true then
          if (decide ((y3.toNat : Int) < 65)) = true then
            version_identifier_j2 n x2 (version_identifier_l1 n a0 m1) (decide ((y3.toNat : Int) ≠ 45))
          else
            if (decide (90 < (y3.toNat : Int))) = true then
              version_identifier_j2 n x2 (version_identifier_l1 n a0 m1) (decide ((y3.toNat : Int) ≠ 45))
            else
              version_identifier_j2 n x2 (version_identifier_l1 n a0 m1) false
        else
          if (decide (122 < (y3.toNat : Int))) = true then
            if (decide ((y3.toNat : Int) < 65)) = true then
              version_identifier_j2 n x2 (version_identifier_l1 n a0 m1) (decide ((y3.toNat : Int) ≠ 45))
            else
              if (decide (90 < (y3.toNat : Int))) = true then
                version_identifier_j2 n x2 (version_identifier_l1 n a0 m1) (decide ((y3.toNat : Int) ≠ 45))
              else
                version_identifier_j2 n x2 (version_identifier_l1 n a0 m1) false
          else
            version_identifier_j2 n x2 (version_identifier_l1 n a0 m1) false
      else
        if (decide (57 < (y3.toNat : Int))) = true then
          if (decide ((y3.toNat : Int) < 97)) = true then
            if (decide ((y3.toNat : Int) < 65)) = true then
              version_identifier_j2 n x2 (version_identifier_l1 n a0 m1) (decide ((y3.toNat : Int) ≠ 45))
            else
              if (decide (90 < (y3.toNat : Int))) = true then
                version_identifier_j2 n x2 (version_identifier_l1 n a0 m1) (decide ((y3.toNat : Int) ≠ 45))
              else
                version_identifier_j2 n x2 (version_identifier_l1 n a0 m1) false
          else
            if (decide (122 < (y3.toNat : Int))) = true then
              if (decide ((y3.toNat : Int) < 65)) = true then
                version_identifier_j2 n x2 (version_identifier_l1 n a0 m1) (decide ((y3.toNat : Int) ≠ 45))
              else
                if (decide (90 < (y3.toNat : Int))) = true then
                  version_identifier_j2 n x2 (version_identifier_l1 n a0 m1) (decide ((y3.toNat : Int) ≠ 45))
                else
                  version_identifier_j2 n x2 (version_identifier_l1 n a0 m1) false
            else
              version_identifier_j2 n x2 (version_identifier_l1 n a0 m1) false
        else
          version_identifier_j2 n x2 (version_identifier_l1 n a0 m1) false
    else
      (version_numeric n a0).bind fun r7 =>
      if (!r7) = true then
        version_identifier_j3 n true
      else
        if (decide ((a0.length : Int) = 1)) = true then
          version_identifier_j3 n true
        else
          (gidx a0 0).bind fun y8 =>
          version_identifier_j3 n (decide ((y8.toNat : Int) ≠ 48))
def version_identifier_j1 (n : Nat) (a0 : List UInt8) (x1 : Bool) : Option Bool :=
  if x1 = true then
    some false
  else
    version_identifier_l1 n a0 n 0
def version_identifier (n : Nat) (a0 : List UInt8) : Option Bool :=
  if (decide ((a0.length : Int) = 0)) = true then
    version_identifier_j1 n a0 true
  else
    version_identifier_j1 n a0 (decide (8 < (a0.length : Int)))
def version_Validate_j1 (n : Nat) (x1 : Int) (lp1 : Int → Option SCodeIndex) (x3 : Bool) : Option SCodeIndex :=
  if x3 = true then
    some (⟨3, x1⟩ : SCodeIndex)
  else
    (gadd x1 1).bind fun x4 =>
    lp1 x4
def version_Validate_l2 (n : Nat) (a0 : SMajorMinorPatchPre) : Nat → Int → Option SCodeIndex
  | 0, _ => none
  | m2 + 1, x5 =>
    if (decide (x5 < (a0.Pre.length : Int))) = true then
      (gidx a0.Pre x5).bind fun e6 =>
      (version_identifier n e6).bind fun r7 =>
      if (!r7) = true then
        some (⟨5, x5⟩ : SCodeIndex)
      else
        (gadd x5 1).bind fun x8 =>
        (version_Validate_l2 n a0 m2) x8
    else
      some (⟨0, 0⟩ : SCodeIndex)
def version_Validate_l1 (n : Nat) (a0 : SMajorMinorPatchPre) : Nat → Int → Option SCodeIndex
  | 0, _ => none
  | m1 + 1, x1 =>
    if (decide (x1 < 3)) = true then
      (garr 3 x1).bind fun i2 =>
      if (decide ((if i2 = 0 then a0.Major else (if i2 = 1 then a0.Minor else a0.Patch : Int) : Int) < 0)) = true then
        version_Validate_j1 n x1 (version_Validate_l1 n a0 m1) true
      else
        version_Validate_j1 n x1 (version_Validate_l1 n a0 m1) (decide (1000000000 < (if i2 = 0 then a0.Major else (if i2 = 1 then a0.Minor else a0.Patch : Int) : Int)))
    else
      if (decide (4 < (a0.Pre.length : Int))) = true then
        some (⟨2, (-1)⟩ : SCodeIndex)
      else
        version_Validate_l2 n a0 n 0
def version_Validate (n : Nat) (a0 : SMajorMinorPatchPre) : Option SCodeIndex :=
  version_Validate_l1 n a0 n 0
def signing_IsDigest_j1 (n : Nat) (x1 : Bool) : Option Bool :=
  some x1
def signing_IsDigest (n : Nat) (a0 : Int) : Option Bool :=
  if (decide (0 ≤ a0)) = true then
    signing_IsDigest_j1 n (decide (a0 < 2305843009213693951))
  else
    signing_IsDigest_j1 n false
def lockfile_Validate_j1 (n : Nat) (x1 : Int) (lp1 : Int → Option SCodeIndex) (x4 : Int) : Option SCodeIndex :=
  if (decide (x4 ≠ 0)) = true then
    some (⟨x4, x1⟩ : SCodeIndex)
  else
    (gadd x1 1).bind fun x5 =>
    lp1 x5
def lockfile_Validate_j3 (n : Nat) (x1 : Int) (lp1 : Int → Option SCodeIndex) (r3 : SCodeIndex) (x8 : Bool) : Option SCodeIndex :=
  if x8 = true then
    lockfile_Validate_j1 n x1 lp1 5
  else
    lockfile_Validate_j1 n x1 lp1 r3.Code
def lockfile_Validate_j2 (n : Nat) (a0 : List SPackageVersionDigest) (x1 : Int) (lp1 : Int → Option SCodeIndex) (e2 : SPackageVersionDigest) (r3 : SCodeIndex) (x6 : Bool) : Option SCodeIndex :=
  if x6 = true then
    lockfile_Validate_j1 n x1 lp1 3
  else
    if (decide (r3.Code ≠ 0)) = true then
      lockfile_Validate_j1 n x1 lp1 r3.Code
    else
      (signing_IsDigest n e2.Digest).bind fun r7 =>
      if (!r7) = true then
        lockfile_Validate_j1 n x1 lp1 3
      else
        if (decide (0 < x1)) = true then
          (gsub x1 1).bind fun x9 =>
          (gidx a0 x9).bind fun e10 =>
          lockfile_Validate_j3 n x1 lp1 r3 (decide (e2.Package ≤ e10.Package))
        else
          lockfile_Validate_j3 n x1 lp1 r3 false
def lockfile_Validate_l1 (n : Nat) (a0 : List SPackageVersionDigest) : Nat → Int → Option SCodeIndex
  | 0, _ => none
  | m1 + 1, x1 =>
    if (decide (x1 < (a0.length : Int))) = true then
      (gidx a0 x1).bind fun e2 =>
      (version_Validate n (⟨e2.Version.Major, e2.Version.Minor, e2.Version.Patch, e2.Version.Pre⟩ : SMajorMinorPatchPre)).bind fun r3 =>
      if (decide (e2.Package < 0)) = true then
        lockfile_Validate_j2 n a0 x1 (lockfile_Validate_l1 n a0 m1) e2 r3 true
      else
        lockfile_Validate_j2 n a0 x1 (lockfile_Validate_l1 n a0 m1) e2 r3 (decide (6 ≤ e2.Package))
    else
      some (⟨0, 0⟩ : SCodeIndex)
def lockfile_Validate (n : Nat) (a0 : List SPackageVersionDigest) : Option SCodeIndex :=
  if (decide (6 < (a0.length : Int))) = true then
    some (⟨2, (-1)⟩ : SCodeIndex)
  else
    lockfile_Validate_l1 n a0 n 0
def strconv_Itoa (n : Nat) (a0 : Int) : Option (List UInt8) :=
  libItoa a0
def strings_Join (n : Nat) (a0 : List (List UInt8)) (a1 : List UInt8) : Option (List UInt8) :=
  libJoin a0 a1
def version_Format_j1 (n : Nat) (x9 : List UInt8) : Option ((List UInt8) × SCodeIndex) :=
  some (x9, (⟨0, 0⟩ : SCodeIndex))
def version_Format (n : Nat) (a0 : SMajorMinorPatchPre) : Option ((List UInt8) × SCodeIndex) :=
  (version_Validate n a0).bind fun r1 =>
  if ((r1.Code == 0 && (r1.Index == 0 && true)) != true) = true then
    some (([] : List UInt8), r1)
  else
    (strconv_Itoa n a0.Major).bind fun r2 =>
    (gcat r2 ([46] : List UInt8)).bind fun s3 =>
    (strconv_Itoa n a0.Minor).bind fun r4 =>
    (gcat s3 r4).bind fun s5 =>
    (gcat s5 ([46] : List UInt8)).bind fun s6 =>
    (strconv_Itoa n a0.Patch).bind fun r7 =>
    (gcat s6 r7).bind fun s8 =>
    if (decide (0 < (a0.Pre.length : Int))) = true then
      (strings_Join n a0.Pre ([46] : List UInt8)).bind fun r10 =>
      (gcat ([45] : List UInt8) r10).bind fun s11 =>
      (gcat s8 s11).bind fun s12 =>
      version_Format_j1 n s12
    else
      version_Format_j1 n s8
def digest_mul_j1 (n : Nat) (x1 : Int) : Option Int :=
  some x1
def digest_mul_j2 (n : Nat) (x2 : Int) (x3 : Int) (lp1 : Int → Int → Int → Option Int) (x5 : Int) : Option Int :=
  (gmul 2 x2).bind fun x6 =>
  (grem x6 2305843009213693951).bind fun x7 =>
  lp1 x7 (kshr .i64 x3 1) x5
def digest_mul_l1 (n : Nat) : Nat → Int → Int → Int → Option Int
  | 0, _, _, _ => none
  | m1 + 1, x2, x3, x4 =>
    if (decide (0 < x3)) = true then
      if (decide ((kand .i64 x3 1) = 1)) = true then
        (gadd x4 x2).bind fun x8 =>
        (grem x8 2305843009213693951).bind fun x9 =>
        digest_mul_j2 n x2 x3 (digest_mul_l1 n m1) x9
      else
        digest_mul_j2 n x2 x3 (digest_mul_l1 n m1) x4
    else
      digest_mul_j1 n x4
def digest_mul (n : Nat) (a0 : Int) (a1 : Int) : Option Int :=
  digest_mul_l1 n n a0 a1 0
def digest_next (n : Nat) (a0 : SA0A1) (a1 : Int) : Option Int :=
  (digest_mul n a0.A0 a1).bind fun r1 =>
  (gadd r1 a0.A1).bind fun x2 =>
  (grem x2 2305843009213693951).bind fun x3 =>
  some x3
def digest_Of_l1 (n : Nat) (a0 : List Int) : Nat → Int → Int → Option (Int × SCodeIndex)
  | 0, _, _ => none
  | m1 + 1, x1, x2 =>
    if (decide (x2 < (a0.length : Int))) = true then
      (gidx a0 x2).bind fun e3 =>
      (gadd (IntKind.wrap .i64 e3) 1).bind fun x4 =>
      (digest_next n (⟨x1, x4⟩ : SA0A1) 257).bind fun r5 =>
      (gadd x2 1).bind fun x6 =>
      (digest_Of_l1 n a0 m1) r5 x6
    else
      some (x1, (⟨0, 0⟩ : SCodeIndex))
def digest_Of (n : Nat) (a0 : List Int) : Option (Int × SCodeIndex) :=
  if (decide (4096 < (a0.length : Int))) = true then
    some (0, (⟨2, 0⟩ : SCodeIndex))
  else
    digest_Of_l1 n a0 n 1 0
def lockfile_seal (n : Nat) (a0 : SMajorMinorPatchPre) : Option Int :=
  (version_Format n a0).bind fun r1 =>
  (digest_Of n (bts r1.1)).bind fun r2 =>
  some r2.1
def lockfile_Corrupt_j1 (n : Nat) (x3 : Int) (lp1 : (List Int) → Int → Option ((List Int) × SCodeIndex)) (w4 : List Int) : Option ((List Int) × SCodeIndex) :=
  (gadd x3 1).bind fun x5 =>
  lp1 w4 x5
def lockfile_Corrupt_l1 (n : Nat) (a0 : List SPackageVersionDigest) : Nat → List Int → Int → Option ((List Int) × SCodeIndex)
  | 0, _, _ => none
  | m1 + 1, w2, x3 =>
    if (decide (x3 < (a0.length : Int))) = true then
      (gidx a0 x3).bind fun e6 =>
      (lockfile_seal n (⟨e6.Version.Major, e6.Version.Minor, e6.Version.Patch, e6.Version.Pre⟩ : SMajorMinorPatchPre)).bind fun r7 =>
      if (decide (e6.Digest ≠ r7)) = true then
        (gapp 8 w2 ([x3] : List Int)).bind fun w8 =>
        lockfile_Corrupt_j1 n x3 (lockfile_Corrupt_l1 n a0 m1) w8
      else
        lockfile_Corrupt_j1 n x3 (lockfile_Corrupt_l1 n a0 m1) w2
    else
      some (w2, (⟨0, 0⟩ : SCodeIndex))
def lockfile_Corrupt (n : Nat) (a0 : List SPackageVersionDigest) : Option ((List Int) × SCodeIndex) :=
  (lockfile_Validate n a0).bind fun r1 =>
  if ((r1.Code == 0 && (r1.Index == 0 && true)) != true) = true then
    some (([] : List Int), r1)
  else
    lockfile_Corrupt_l1 n a0 n ([] : List Int) 0
def ref5_Ints_l1 (n : Nat) (a0 : List Int) (a1 : List Int) : Nat → Int → Option Bool
  | 0, _ => none
  | m1 + 1, x1 =>
    if (decide (x1 < (a0.length : Int))) = true then
      (gidx a0 x1).bind fun e2 =>
      (gidx a1 x1).bind fun e3 =>
      if (decide (e2 ≠ e3)) = true then
        some false
      else
        (gadd x1 1).bind fun x4 =>
        (ref5_Ints_l1 n a0 a1 m1) x4
    else
      some true
def ref5_Ints (n : Nat) (a0 : List Int) (a1 : List Int) : Option Bool :=
  if (decide ((a0.length : Int) ≠ (a1.length : Int))) = true then
    some false
  else
    ref5_Ints_l1 n a0 a1 n 0
def law6_fault (n : Nat) (a0 : Int) (a1 : Int) : Option SCodeIndex :=
  some (⟨a0, a1⟩ : SCodeIndex)
def cmp_Or_int_l1 (n : Nat) (a0 : List Int) : Nat → Int → Option Int
  | 0, _ => none
  | m1 + 1, x1 =>
    if (decide (x1 < (a0.length : Int))) = true then
      (gidx a0 x1).bind fun e2 =>
      if (decide (e2 ≠ 0)) = true then
        some e2
      else
        (gadd x1 1).bind fun x3 =>
        (cmp_Or_int_l1 n a0 m1) x3
    else
      some 0
def cmp_Or_int (n : Nat) (a0 : List Int) : Option Int :=
  cmp_Or_int_l1 n a0 n 0
def cmp_isNaN_int (n : Nat) (a0 : Int) : Option Bool :=
  some (decide (a0 ≠ a0))
def cmp_Compare_int (n : Nat) (a0 : Int) (a1 : Int) : Option Int :=
  (cmp_isNaN_int n a0).bind fun r1 =>
  (cmp_isNaN_int n a1).bind fun r2 =>
  if r1 = true then
    if r2 = true then
      some 0
    else
      some (-1)
  else
    if r2 = true then
      some 1
    else
      if (decide (a0 < a1)) = true then
        some (-1)
      else
        if (decide (a1 < a0)) = true then
          some 1
        else
          some 0
def strings_Compare (n : Nat) (a0 : List UInt8) (a1 : List UInt8) : Option Int :=
  some (libCompare a0 a1)
def version_Order_j1 (n : Nat) (x6 : Int) : Option Int :=
  some x6
def version_Order_j2 (n : Nat) (x7 : Int) (lp1 : Int → Option Int) (x10 : Int) : Option Int :=
  if (decide (x10 ≠ 0)) = true then
    version_Order_j1 n x10
  else
    (gadd x7 1).bind fun x11 =>
    lp1 x11
def version_Order_j3 (n : Nat) (x7 : Int) (lp1 : Int → Option Int) (e8 : List UInt8) (e9 : List UInt8) (r12 : Bool) (r13 : Bool) (x14 : Bool) : Option Int :=
  if x14 = true then
    (cmp_Compare_int n (e8.length : Int) (e9.length : Int)).bind fun r15 =>
    (strings_Compare n e8 e9).bind fun r16 =>
    (cmp_Or_int n ([r15, r16] : List Int)).bind fun r17 =>
    version_Order_j2 n x7 lp1 r17
  else
    if r12 = true then
      version_Order_j2 n x7 lp1 (-1)
    else
      if r13 = true then
        version_Order_j2 n x7 lp1 1
      else
        (strings_Compare n e8 e9).bind fun r18 =>
        version_Order_j2 n x7 lp1 r18
def version_Order_l1 (n : Nat) (a0 : SMajorMinorPatchPre) (a1 : SMajorMinorPatchPre) : Nat → Int → Option Int
  | 0, _ => none
  | m1 + 1, x7 =>
    if (decide (x7 < (a0.Pre.length : Int))) = true then
      (gidx a0.Pre x7).bind fun e8 =>
      if (decide ((a1.Pre.length : Int) ≤ x7)) = true then
        version_Order_j1 n 1
      else
        (gidx a1.Pre x7).bind fun e9 =>
        (version_numeric n e8).bind fun r12 =>
        (version_numeric n e9).bind fun r13 =>
        if r12 = true then
          version_Order_j3 n x7 (version_Order_l1 n a0 a1 m1) e8 e9 r12 r13 r13
        else
          version_Order_j3 n x7 (version_Order_l1 n a0 a1 m1) e8 e9 r12 r13 false
    else
      if (decide ((a0.Pre.length : Int) < (a1.Pre.length : Int))) = true then
        version_Order_j1 n (-1)
      else
        version_Order_j1 n 0
def version_Order (n : Nat) (a0 : SMajorMinorPatchPre) (a1 : SMajorMinorPatchPre) : Option Int :=
  (cmp_Compare_int n a0.Major a1.Major).bind fun r1 =>
  (cmp_Compare_int n a0.Minor a1.Minor).bind fun r2 =>
  (cmp_Compare_int n a0.Patch a1.Patch).bind fun r3 =>
  (cmp_Or_int n ([r1, r2, r3] : List Int)).bind fun r4 =>
  if (decide (r4 ≠ 0)) = true then
    some r4
  else
    if ((decide ((a0.Pre.length : Int) = 0)) != (decide ((a1.Pre.length : Int) = 0))) = true then
      (cmp_Compare_int n (a1.Pre.length : Int) (a0.Pre.length : Int)).bind fun r5 =>
      some r5
    else
      version_Order_l1 n a0 a1 n 0
def lockfile_Drift_j1 (n : Nat) (x4 : Int) (lp1 : (List Int) → Int → Option ((List Int) × SCodeIndex)) (w5 : List Int) : Option ((List Int) × SCodeIndex) :=
  (gadd x4 1).bind fun x6 =>
  lp1 w5 x6
def lockfile_Drift_j4 (n : Nat) (w3 : List Int) (x4 : Int) (lp1 : (List Int) → Int → Option ((List Int) × SCodeIndex)) (x9 : Bool) : Option ((List Int) × SCodeIndex) :=
  if x9 = true then
    (gapp 8 w3 ([x4] : List Int)).bind fun w10 =>
    lockfile_Drift_j1 n x4 lp1 w10
  else
    lockfile_Drift_j1 n x4 lp1 w3
def lockfile_Drift_j3 (n : Nat) (a0 : List SPackageVersionDigest) (a1 : List SPackageVersionDigest) (w3 : List Int) (x4 : Int) (lp1 : (List Int) → Int → Option ((List Int) × SCodeIndex)) (x7 : Int) (x8 : Int) : Option ((List Int) × SCodeIndex) :=
  if ((decide (x7 < 0)) != (decide (x8 < 0))) = true then
    lockfile_Drift_j4 n w3 x4 lp1 true
  else
    if (decide (0 ≤ x7)) = true then
      (gidx a0 x7).bind fun e11 =>
      (gidx a1 x8).bind fun e12 =>
      if (decide (e11.Digest ≠ e12.Digest)) = true then
        lockfile_Drift_j4 n w3 x4 lp1 true
      else
        (version_Order n (⟨e11.Version.Major, e11.Version.Minor, e11.Version.Patch, e11.Version.Pre⟩ : SMajorMinorPatchPre) (⟨e12.Version.Major, e12.Version.Minor, e12.Version.Patch, e12.Version.Pre⟩ : SMajorMinorPatchPre)).bind fun r13 =>
        lockfile_Drift_j4 n w3 x4 lp1 (decide (r13 ≠ 0))
    else
      lockfile_Drift_j4 n w3 x4 lp1 false
def lockfile_Drift_j5 (n : Nat) (a0 : List SPackageVersionDigest) (a1 : List SPackageVersionDigest) (w3 : List Int) (x4 : Int) (lp1 : (List Int) → Int → Option ((List Int) × SCodeIndex)) (x7 : Int) (x14 : Int) : Option ((List Int) × SCodeIndex) :=
  lockfile_Drift_j3 n a0 a1 w3 x4 lp1 x7 x14
def lockfile_Drift_j6 (n : Nat) (a0 : List SPackageVersionDigest) (a1 : List SPackageVersionDigest) (w3 : List Int) (x4 : Int) (lp1 : (List Int) → Int → Option ((List Int) × SCodeIndex)) (x7 : Int) (x15 : Int) (lp2 : Int → Option ((List Int) × SCodeIndex)) (e16 : SPackageVersionDigest) : Option ((List Int) × SCodeIndex) :=
  if (decide (e16.Package = x4)) = true then
    lockfile_Drift_j5 n a0 a1 w3 x4 lp1 x7 x15
  else
    (gadd x15 1).bind fun x17 =>
    lp2 x17
def lockfile_Drift_l2 (n : Nat) (a0 : List SPackageVersionDigest) (a1 : List SPackageVersionDigest) (w3 : List Int) (x4 : Int) (lp1 : (List Int) → Int → Option ((List Int) × SCodeIndex)) (x7 : Int) : Nat → Int → Option ((List Int) × SCodeIndex)
  | 0, _ => none
  | m2 + 1, x15 =>
    if (decide (x15 < (a1.length : Int))) = true then
      (gidx a1 x15).bind fun e16 =>
      lockfile_Drift_j6 n a0 a1 w3 x4 lp1 x7 x15 (lockfile_Drift_l2 n a0 a1 w3 x4 lp1 x7 m2) e16
    else
      lockfile_Drift_j5 n a0 a1 w3 x4 lp1 x7 (-1)
def lockfile_Drift_j2 (n : Nat) (a0 : List SPackageVersionDigest) (a1 : List SPackageVersionDigest) (w3 : List Int) (x4 : Int) (lp1 : (List Int) → Int → Option ((List Int) × SCodeIndex)) (x7 : Int) : Option ((List Int) × SCodeIndex) :=
  lockfile_Drift_l2 n a0 a1 w3 x4 lp1 x7 n 0
def lockfile_Drift_j7 (n : Nat) (a0 : List SPackageVersionDigest) (a1 : List SPackageVersionDigest) (w3 : List Int) (x4 : Int) (lp1 : (List Int) → Int → Option ((List Int) × SCodeIndex)) (x18 : Int) : Option ((List Int) × SCodeIndex) :=
  lockfile_Drift_j2 n a0 a1 w3 x4 lp1 x18
def lockfile_Drift_j8 (n : Nat) (a0 : List SPackageVersionDigest) (a1 : List SPackageVersionDigest) (w3 : List Int) (x4 : Int) (lp1 : (List Int) → Int → Option ((List Int) × SCodeIndex)) (x19 : Int) (lp3 : Int → Option ((List Int) × SCodeIndex)) (e20 : SPackageVersionDigest) : Option ((List Int) × SCodeIndex) :=
  if (decide (e20.Package = x4)) = true then
    lockfile_Drift_j7 n a0 a1 w3 x4 lp1 x19
  else
    (gadd x19 1).bind fun x21 =>
    lp3 x21
def lockfile_Drift_l3 (n : Nat) (a0 : List SPackageVersionDigest) (a1 : List SPackageVersionDigest) (w3 : List Int) (x4 : Int) (lp1 : (List Int) → Int → Option ((List Int) × SCodeIndex)) : Nat → Int → Option ((List Int) × SCodeIndex)
  | 0, _ => none
  | m3 + 1, x19 =>
    if (decide (x19 < (a0.length : Int))) = true then
      (gidx a0 x19).bind fun e20 =>
      lockfile_Drift_j8 n a0 a1 w3 x4 lp1 x19 (lockfile_Drift_l3 n a0 a1 w3 x4 lp1 m3) e20
    else
      lockfile_Drift_j7 n a0 a1 w3 x4 lp1 (-1)
def lockfile_Drift_l1 (n : Nat) (a0 : List SPackageVersionDigest) (a1 : List SPackageVersionDigest) : Nat → List Int → Int → Option ((List Int) × SCodeIndex)
  | 0, _, _ => none
  | m1 + 1, w3, x4 =>
    if (decide (x4 < 6)) = true then
      lockfile_Drift_l3 n a0 a1 w3 x4 (lockfile_Drift_l1 n a0 a1 m1) n 0
    else
      some (w3, (⟨0, 0⟩ : SCodeIndex))
def lockfile_Drift (n : Nat) (a0 : List SPackageVersionDigest) (a1 : List SPackageVersionDigest) : Option ((List Int) × SCodeIndex) :=
  (lockfile_Validate n a0).bind fun r1 =>
  if ((r1.Code == 0 && (r1.Index == 0 && true)) != true) = true then
    some (([] : List Int), r1)
  else
    (lockfile_Validate n a1).bind fun r2 =>
    if ((r2.Code == 0 && (r2.Index == 0 && true)) != true) = true then
      some (([] : List Int), (⟨r2.Code, (-2)⟩ : SCodeIndex))
    else
      lockfile_Drift_l1 n a0 a1 n ([] : List Int) 0
def version_Zero_j1 (n : Nat) (x1 : Bool) : Option Bool :=
  some x1
def version_Zero (n : Nat) (a0 : SMajorMinorPatchPre) : Option Bool :=
  if (decide (a0.Major = 0)) = true then
    if (decide (a0.Minor = 0)) = true then
      if (decide (a0.Patch = 0)) = true then
        version_Zero_j1 n (decide ((a0.Pre.length : Int) = 0))
      else
        version_Zero_j1 n false
    else
      version_Zero_j1 n false
  else
    version_Zero_j1 n false
def verrange_check (n : Nat) (a0 : SLowHighUnbounded) : Option Int :=
  (version_Validate n (⟨a0.Low.Major, a0.Low.Minor, a0.Low.Patch, a0.Low.Pre⟩ : SMajorMinorPatchPre)).bind fun r1 =>
  if ((r1.Code == 0 && (r1.Index == 0 && true)) != true) = true then
    some r1.Code
  else
    if a0.Unbounded = true then
      (version_Zero n (⟨a0.High.Major, a0.High.Minor, a0.High.Patch, a0.High.Pre⟩ : SMajorMinorPatchPre)).bind fun r2 =>
      if (!r2) = true then
        some 5
      else
        some 0
    else
      (version_Validate n (⟨a0.High.Major, a0.High.Minor, a0.High.Patch, a0.High.Pre⟩ : SMajorMinorPatchPre)).bind fun r3 =>
      if ((r3.Code == 0 && (r3.Index == 0 && true)) != true) = true then
        some r3.Code
      else
        (version_Order n (⟨a0.Low.Major, a0.Low.Minor, a0.Low.Patch, a0.Low.Pre⟩ : SMajorMinorPatchPre) (⟨a0.High.Major, a0.High.Minor, a0.High.Patch, a0.High.Pre⟩ : SMajorMinorPatchPre)).bind fun r4 =>
        if (decide (0 ≤ r4)) = true then
          some 5
        else
          some 0
def verrange_Validate_j1 (n : Nat) (x1 : Int) (lp1 : Int → Option SCodeIndex) (x4 : Int) : Option SCodeIndex :=
  if (decide (x4 ≠ 0)) = true then
    some (⟨x4, x1⟩ : SCodeIndex)
  else
    (gadd x1 1).bind fun x5 =>
    lp1 x5
def verrange_Validate_j3 (n : Nat) (x1 : Int) (lp1 : Int → Option SCodeIndex) (r3 : Int) (x9 : Bool) : Option SCodeIndex :=
  if x9 = true then
    verrange_Validate_j1 n x1 lp1 5
  else
    verrange_Validate_j1 n x1 lp1 r3
def verrange_Validate_j2 (n : Nat) (a0 : SIntervals) (x1 : Int) (lp1 : Int → Option SCodeIndex) (e2 : SLowHighUnbounded) (r3 : Int) (x6 : Bool) : Option SCodeIndex :=
  if x6 = true then
    (gsub x1 1).bind fun x7 =>
    (gidx a0.Intervals x7).bind fun e8 =>
    if e8.Unbounded = true then
      verrange_Validate_j3 n x1 lp1 r3 true
    else
      (version_Order n (⟨e8.High.Major, e8.High.Minor, e8.High.Patch, e8.High.Pre⟩ : SMajorMinorPatchPre) (⟨e2.Low.Major, e2.Low.Minor, e2.Low.Patch, e2.Low.Pre⟩ : SMajorMinorPatchPre)).bind fun r10 =>
      verrange_Validate_j3 n x1 lp1 r3 (decide (0 ≤ r10))
  else
    verrange_Validate_j1 n x1 lp1 r3
def verrange_Validate_l1 (n : Nat) (a0 : SIntervals) : Nat → Int → Option SCodeIndex
  | 0, _ => none
  | m1 + 1, x1 =>
    if (decide (x1 < (a0.Intervals.length : Int))) = true then
      (gidx a0.Intervals x1).bind fun e2 =>
      (verrange_check n (⟨(⟨e2.Low.Major, e2.Low.Minor, e2.Low.Patch, e2.Low.Pre⟩ : SMajorMinorPatchPre), (⟨e2.High.Major, e2.High.Minor, e2.High.Patch, e2.High.Pre⟩ : SMajorMinorPatchPre), e2.Unbounded⟩ : SLowHighUnbounded)).bind fun r3 =>
      if (decide (r3 = 0)) = true then
        verrange_Validate_j2 n a0 x1 (verrange_Validate_l1 n a0 m1) e2 r3 (decide (0 < x1))
      else
        verrange_Validate_j2 n a0 x1 (verrange_Validate_l1 n a0 m1) e2 r3 false
    else
      some (⟨0, 0⟩ : SCodeIndex)
def verrange_Validate (n : Nat) (a0 : SIntervals) : Option SCodeIndex :=
  if (decide (12 < (a0.Intervals.length : Int))) = true then
    some (⟨2, (-1)⟩ : SCodeIndex)
  else
    verrange_Validate_l1 n a0 n 0
def solver_Needs_j2 (n : Nat) (x1 : Int) (lp1 : Int → Option Int) (x5 : Bool) : Option Int :=
  if x5 = true then
    some 5
  else
    (gadd x1 1).bind fun x6 =>
    lp1 x6
def solver_Needs_j1 (n : Nat) (a0 : List SPackageRange) (x1 : Int) (lp1 : Int → Option Int) (e2 : SPackageRange) (x3 : Bool) : Option Int :=
  if x3 = true then
    some 3
  else
    (verrange_Validate n (⟨e2.Range.Intervals⟩ : SIntervals)).bind fun r4 =>
    if ((r4.Code == 0 && (r4.Index == 0 && true)) != true) = true then
      some r4.Code
    else
      if (decide (0 < x1)) = true then
        (gsub x1 1).bind fun x7 =>
        (gidx a0 x7).bind fun e8 =>
        solver_Needs_j2 n x1 lp1 (decide (e2.Package ≤ e8.Package))
      else
        solver_Needs_j2 n x1 lp1 false
def solver_Needs_l1 (n : Nat) (a0 : List SPackageRange) (a1 : Int) : Nat → Int → Option Int
  | 0, _ => none
  | m1 + 1, x1 =>
    if (decide (x1 < (a0.length : Int))) = true then
      (gidx a0 x1).bind fun e2 =>
      if (decide (e2.Package < 0)) = true then
        solver_Needs_j1 n a0 x1 (solver_Needs_l1 n a0 a1 m1) e2 true
      else
        solver_Needs_j1 n a0 x1 (solver_Needs_l1 n a0 a1 m1) e2 (decide (a1 ≤ e2.Package))
    else
      some 0
def solver_Needs (n : Nat) (a0 : List SPackageRange) (a1 : Int) : Option Int :=
  if (decide (4 < (a0.length : Int))) = true then
    some 2
  else
    solver_Needs_l1 n a0 a1 n 0
def solver_releases_j1 (n : Nat) (a1 : Int) (x1 : Int) (lp1 : Int → Option Int) (e2 : SVersionNeeds) (x4 : Bool) : Option Int :=
  if x4 = true then
    some 5
  else
    (solver_Needs n e2.Needs a1).bind fun r5 =>
    if (decide (r5 ≠ 0)) = true then
      some r5
    else
      (gadd x1 1).bind fun x6 =>
      lp1 x6
def solver_releases_l1 (n : Nat) (a0 : List SVersionNeeds) (a1 : Int) : Nat → Int → Option Int
  | 0, _ => none
  | m1 + 1, x1 =>
    if (decide (x1 < (a0.length : Int))) = true then
      (gidx a0 x1).bind fun e2 =>
      (version_Validate n (⟨e2.Version.Major, e2.Version.Minor, e2.Version.Patch, e2.Version.Pre⟩ : SMajorMinorPatchPre)).bind fun r3 =>
      if ((r3.Code == 0 && (r3.Index == 0 && true)) != true) = true then
        some r3.Code
      else
        if (decide (0 < x1)) = true then
          (gsub x1 1).bind fun x7 =>
          (gidx a0 x7).bind fun e8 =>
          (version_Order n (⟨e2.Version.Major, e2.Version.Minor, e2.Version.Patch, e2.Version.Pre⟩ : SMajorMinorPatchPre) (⟨e8.Version.Major, e8.Version.Minor, e8.Version.Patch, e8.Version.Pre⟩ : SMajorMinorPatchPre)).bind fun r9 =>
          solver_releases_j1 n a1 x1 (solver_releases_l1 n a0 a1 m1) e2 (decide (r9 ≤ 0))
        else
          solver_releases_j1 n a1 x1 (solver_releases_l1 n a0 a1 m1) e2 false
    else
      some 0
def solver_releases (n : Nat) (a0 : List SVersionNeeds) (a1 : Int) : Option Int :=
  if (decide (4 < (a0.length : Int))) = true then
    some 2
  else
    solver_releases_l1 n a0 a1 n 0
def solver_Validate_l1 (n : Nat) (a0 : SPackages) : Nat → Int → Option SCodeIndex
  | 0, _ => none
  | m1 + 1, x1 =>
    if (decide (x1 < (a0.Packages.length : Int))) = true then
      (gidx a0.Packages x1).bind fun e2 =>
      (solver_releases n e2 (a0.Packages.length : Int)).bind fun r3 =>
      if (decide (r3 ≠ 0)) = true then
        some (⟨r3, x1⟩ : SCodeIndex)
      else
        (gadd x1 1).bind fun x4 =>
        (solver_Validate_l1 n a0 m1) x4
    else
      some (⟨0, 0⟩ : SCodeIndex)
def solver_Validate (n : Nat) (a0 : SPackages) : Option SCodeIndex :=
  if (decide (6 < (a0.Packages.length : Int))) = true then
    some (⟨2, (-1)⟩ : SCodeIndex)
  else
    solver_Validate_l1 n a0 n 0
def solver_Chosen_j1 (n : Nat) (x1 : Int) (lp1 : Int → Option SCodeIndex) (x3 : Bool) : Option SCodeIndex :=
  if x3 = true then
    some (⟨3, (-4)⟩ : SCodeIndex)
  else
    (gadd x1 1).bind fun x4 =>
    lp1 x4
def solver_Chosen_l1 (n : Nat) (a0 : SPackages) (a1 : List Int) : Nat → Int → Option SCodeIndex
  | 0, _ => none
  | m1 + 1, x1 =>
    if (decide (x1 < (a1.length : Int))) = true then
      (gidx a1 x1).bind fun e2 =>
      if (decide (e2 < (-1))) = true then
        solver_Chosen_j1 n x1 (solver_Chosen_l1 n a0 a1 m1) true
      else
        (gidx a0.Packages x1).bind fun e5 =>
        solver_Chosen_j1 n x1 (solver_Chosen_l1 n a0 a1 m1) (decide ((e5.length : Int) ≤ e2))
    else
      some (⟨0, 0⟩ : SCodeIndex)
def solver_Chosen (n : Nat) (a0 : SPackages) (a1 : List Int) : Option SCodeIndex :=
  if (decide ((a1.length : Int) ≠ (a0.Packages.length : Int))) = true then
    some (⟨9, (-3)⟩ : SCodeIndex)
  else
    solver_Chosen_l1 n a0 a1 n 0
def slices_Clone_string (n : Nat) (a0 : List (List UInt8)) : Option (List (List UInt8)) :=
  (gapp 16 [] a0).bind fun w => some w
def version_Copy (n : Nat) (a0 : SMajorMinorPatchPre) : Option SMajorMinorPatchPre :=
  (slices_Clone_string n a0.Pre).bind fun r1 =>
  some (⟨a0.Major, a0.Minor, a0.Patch, r1⟩ : SMajorMinorPatchPre)
def lockfile_Make_j1 (n : Nat) (x4 : Int) (lp1 : (List SPackageVersionDigest) → Int → Option ((List SPackageVersionDigest) × SCodeIndex)) (w5 : List SPackageVersionDigest) : Option ((List SPackageVersionDigest) × SCodeIndex) :=
  (gadd x4 1).bind fun x6 =>
  lp1 w5 x6
def lockfile_Make_l1 (n : Nat) (a0 : SPackages) (a1 : List Int) : Nat → List SPackageVersionDigest → Int → Option ((List SPackageVersionDigest) × SCodeIndex)
  | 0, _, _ => none
  | m1 + 1, w3, x4 =>
    if (decide (x4 < (a1.length : Int))) = true then
      (gidx a1 x4).bind fun e7 =>
      if (decide (0 ≤ e7)) = true then
        (gidx a0.Packages x4).bind fun e8 =>
        (gidx e8 e7).bind fun e9 =>
        (version_Copy n (⟨e9.Version.Major, e9.Version.Minor, e9.Version.Patch, e9.Version.Pre⟩ : SMajorMinorPatchPre)).bind fun r10 =>
        (lockfile_seal n r10).bind fun r11 =>
        (gapp 64 w3 ([(⟨x4, r10, r11⟩ : SPackageVersionDigest)] : List SPackageVersionDigest)).bind fun w12 =>
        lockfile_Make_j1 n x4 (lockfile_Make_l1 n a0 a1 m1) w12
      else
        lockfile_Make_j1 n x4 (lockfile_Make_l1 n a0 a1 m1) w3
    else
      some (w3, (⟨0, 0⟩ : SCodeIndex))
def lockfile_Make (n : Nat) (a0 : SPackages) (a1 : List Int) : Option ((List SPackageVersionDigest) × SCodeIndex) :=
  (solver_Validate n a0).bind fun r1 =>
  if ((r1.Code == 0 && (r1.Index == 0 && true)) != true) = true then
    some (([] : List SPackageVersionDigest), r1)
  else
    (solver_Chosen n a0 a1).bind fun r2 =>
    if ((r2.Code == 0 && (r2.Index == 0 && true)) != true) = true then
      some (([] : List SPackageVersionDigest), r2)
    else
      lockfile_Make_l1 n a0 a1 n ([] : List SPackageVersionDigest) 0
def ref5_SameVersion_l1 (n : Nat) (a0 : SMajorMinorPatchPre) (a1 : SMajorMinorPatchPre) : Nat → Int → Option Bool
  | 0, _ => none
  | m1 + 1, x2 =>
    if (decide (x2 < (a0.Pre.length : Int))) = true then
      (gidx a0.Pre x2).bind fun e3 =>
      (gidx a1.Pre x2).bind fun e4 =>
      if (decide (e3 ≠ e4)) = true then
        some false
      else
        (gadd x2 1).bind fun x5 =>
        (ref5_SameVersion_l1 n a0 a1 m1) x5
    else
      some true
def ref5_SameVersion_j1 (n : Nat) (a0 : SMajorMinorPatchPre) (a1 : SMajorMinorPatchPre) (x1 : Bool) : Option Bool :=
  if x1 = true then
    some false
  else
    ref5_SameVersion_l1 n a0 a1 n 0
def ref5_SameVersion (n : Nat) (a0 : SMajorMinorPatchPre) (a1 : SMajorMinorPatchPre) : Option Bool :=
  if (decide (a0.Major ≠ a1.Major)) = true then
    ref5_SameVersion_j1 n a0 a1 true
  else
    if (decide (a0.Minor ≠ a1.Minor)) = true then
      ref5_SameVersion_j1 n a0 a1 true
    else
      if (decide (a0.Patch ≠ a1.Patch)) = true then
        ref5_SameVersion_j1 n a0 a1 true
      else
        ref5_SameVersion_j1 n a0 a1 (decide ((a0.Pre.length : Int) ≠ (a1.Pre.length : Int)))
def ref6_SameLock_j1 (n : Nat) (x1 : Int) (lp1 : Int → Option Bool) (x2 : Bool) : Option Bool :=
  if x2 = true then
    some false
  else
    (gadd x1 1).bind fun x3 =>
    lp1 x3
def ref6_SameLock_l1 (n : Nat) (a0 : List SPackageVersionDigest) (a1 : List SPackageVersionDigest) : Nat → Int → Option Bool
  | 0, _ => none
  | m1 + 1, x1 =>
    if (decide (x1 < (a0.length : Int))) = true then
      (gidx a0 x1).bind fun e4 =>
      (gidx a1 x1).bind fun e5 =>
      if (decide (e4.Package ≠ e5.Package)) = true then
        ref6_SameLock_j1 n x1 (ref6_SameLock_l1 n a0 a1 m1) true
      else
        if (decide (e4.Digest ≠ e5.Digest)) = true then
          ref6_SameLock_j1 n x1 (ref6_SameLock_l1 n a0 a1 m1) true
        else
          (ref5_SameVersion n (⟨e4.Version.Major, e4.Version.Minor, e4.Version.Patch, e4.Version.Pre⟩ : SMajorMinorPatchPre) (⟨e5.Version.Major, e5.Version.Minor, e5.Version.Patch, e5.Version.Pre⟩ : SMajorMinorPatchPre)).bind fun r6 =>
          ref6_SameLock_j1 n x1 (ref6_SameLock_l1 n a0 a1 m1) (!r6)
    else
      some true
def ref6_SameLock (n : Nat) (a0 : List SPackageVersionDigest) (a1 : List SPackageVersionDigest) : Option Bool :=
  if (decide ((a0.length : Int) ≠ (a1.length : Int))) = true then
    some false
  else
    ref6_SameLock_l1 n a0 a1 n 0
def lockfile_Write_l1 (n : Nat) (a0 : List SPackageVersionDigest) : Nat → List (List UInt8) → Int → Option ((List (List UInt8)) × SCodeIndex)
  | 0, _, _ => none
  | m1 + 1, w2, x3 =>
    if (decide (x3 < (a0.length : Int))) = true then
      (gidx a0 x3).bind fun e4 =>
      (version_Format n (⟨e4.Version.Major, e4.Version.Minor, e4.Version.Patch, e4.Version.Pre⟩ : SMajorMinorPatchPre)).bind fun r5 =>
      (strconv_Itoa n e4.Package).bind fun r6 =>
      (gcat r6 ([32] : List UInt8)).bind fun s7 =>
      (gcat s7 r5.1).bind fun s8 =>
      (gcat s8 ([32] : List UInt8)).bind fun s9 =>
      (strconv_Itoa n e4.Digest).bind fun r10 =>
      (gcat s9 r10).bind fun s11 =>
      (gapp 16 w2 ([s11] : List (List UInt8))).bind fun w12 =>
      (gadd x3 1).bind fun x13 =>
      (lockfile_Write_l1 n a0 m1) w12 x13
    else
      some (w2, (⟨0, 0⟩ : SCodeIndex))
def lockfile_Write (n : Nat) (a0 : List SPackageVersionDigest) : Option ((List (List UInt8)) × SCodeIndex) :=
  (lockfile_Validate n a0).bind fun r1 =>
  if ((r1.Code == 0 && (r1.Index == 0 && true)) != true) = true then
    some (([] : List (List UInt8)), r1)
  else
    lockfile_Write_l1 n a0 n ([] : List (List UInt8)) 0
def ref6_Strings_l1 (n : Nat) (a0 : List (List UInt8)) (a1 : List (List UInt8)) : Nat → Int → Option Bool
  | 0, _ => none
  | m1 + 1, x1 =>
    if (decide (x1 < (a0.length : Int))) = true then
      (gidx a0 x1).bind fun e2 =>
      (gidx a1 x1).bind fun e3 =>
      if (decide (e2 ≠ e3)) = true then
        some false
      else
        (gadd x1 1).bind fun x4 =>
        (ref6_Strings_l1 n a0 a1 m1) x4
    else
      some true
def ref6_Strings (n : Nat) (a0 : List (List UInt8)) (a1 : List (List UInt8)) : Option Bool :=
  if (decide ((a0.length : Int) ≠ (a1.length : Int))) = true then
    some false
  else
    ref6_Strings_l1 n a0 a1 n 0
def strings_Split (n : Nat) (a0 : List UInt8) (a1 : List UInt8) : Option (List (List UInt8)) :=
  libSplit a0 a1
def strings_Cut (n : Nat) (a0 : List UInt8) (a1 : List UInt8) : Option ((List UInt8) × (List UInt8) × Bool) :=
  libCut a0 a1
def strconv_Atoi (n : Nat) (a0 : List UInt8) : Option (Int × Bool) :=
  libAtoi a0
def version_Parse_j2 (n : Nat) (b2 : List (List UInt8)) (r5 : (Int × Bool)) (r7 : (Int × Bool)) (r9 : (Int × Bool)) (x11 : Bool) : Option (SMajorMinorPatchPre × SCodeIndex) :=
  if x11 = true then
    some ((⟨0, 0, 0, ([] : List (List UInt8))⟩ : SMajorMinorPatchPre), (⟨1, (-1)⟩ : SCodeIndex))
  else
    some ((⟨r5.1, r7.1, r9.1, b2⟩ : SMajorMinorPatchPre), (⟨0, 0⟩ : SCodeIndex))
def version_Parse_j1 (n : Nat) (a0 : List UInt8) (r1 : ((List UInt8) × (List UInt8) × Bool)) (b2 : List (List UInt8)) : Option (SMajorMinorPatchPre × SCodeIndex) :=
  (strings_Split n r1.1 ([46] : List UInt8)).bind fun r3 =>
  if (decide ((r3.length : Int) ≠ 3)) = true then
    some ((⟨0, 0, 0, ([] : List (List UInt8))⟩ : SMajorMinorPatchPre), (⟨1, (-1)⟩ : SCodeIndex))
  else
    (gidx r3 0).bind fun e4 =>
    (strconv_Atoi n e4).bind fun r5 =>
    (gidx r3 1).bind fun e6 =>
    (strconv_Atoi n e6).bind fun r7 =>
    (gidx r3 2).bind fun e8 =>
    (strconv_Atoi n e8).bind fun r9 =>
    (version_Format n (⟨r5.1, r7.1, r9.1, b2⟩ : SMajorMinorPatchPre)).bind fun r10 =>
    if ((r10.2.Code == 0 && (r10.2.Index == 0 && true)) != true) = true then
      version_Parse_j2 n b2 r5 r7 r9 true
    else
      version_Parse_j2 n b2 r5 r7 r9 (decide (r10.1 ≠ a0))
def version_Parse (n : Nat) (a0 : List UInt8) : Option (SMajorMinorPatchPre × SCodeIndex) :=
  if (decide (80 < (a0.length : Int))) = true then
    some ((⟨0, 0, 0, ([] : List (List UInt8))⟩ : SMajorMinorPatchPre), (⟨2, (-1)⟩ : SCodeIndex))
  else
    (strings_Cut n a0 ([45] : List UInt8)).bind fun r1 =>
    if r1.2.2 = true then
      (strings_Split n r1.2.1 ([46] : List UInt8)).bind fun r12 =>
      version_Parse_j1 n a0 r1 r12
    else
      version_Parse_j1 n a0 r1 ([] : List (List UInt8))
def lockfile_number_j1 (n : Nat) (r1 : (Int × Bool)) (x2 : Bool) : Option (Int × Bool) :=
  some (r1.1, x2)
def lockfile_number (n : Nat) (a0 : List UInt8) (a1 : Int) : Option (Int × Bool) :=
  (strconv_Atoi n a0).bind fun r1 =>
  if ((!r1.2) != false) = true then
    (strconv_Itoa n r1.1).bind fun r3 =>
    if (decide (r3 = a0)) = true then
      if (decide (0 ≤ r1.1)) = true then
        lockfile_number_j1 n r1 (decide (r1.1 ≤ a1))
      else
        lockfile_number_j1 n r1 false
    else
      lockfile_number_j1 n r1 false
  else
    lockfile_number_j1 n r1 false
def lockfile_entry_j1 (n : Nat) (r3 : (SMajorMinorPatchPre × SCodeIndex)) (r5 : (Int × Bool)) (r7 : (Int × Bool)) (x8 : Bool) : Option (SPackageVersionDigest × Bool) :=
  some ((⟨r5.1, (⟨r3.1.Major, r3.1.Minor, r3.1.Patch, r3.1.Pre⟩ : SMajorMinorPatchPre), r7.1⟩ : SPackageVersionDigest), x8)
def lockfile_entry (n : Nat) (a0 : List UInt8) : Option (SPackageVersionDigest × Bool) :=
  (strings_Split n a0 ([32] : List UInt8)).bind fun r1 =>
  if (decide ((r1.length : Int) ≠ 3)) = true then
    some ((⟨0, (⟨0, 0, 0, ([] : List (List UInt8))⟩ : SMajorMinorPatchPre), 0⟩ : SPackageVersionDigest), false)
  else
    (gidx r1 1).bind fun e2 =>
    (version_Parse n e2).bind fun r3 =>
    (gidx r1 0).bind fun e4 =>
    (lockfile_number n e4 1000000000).bind fun r5 =>
    (gidx r1 2).bind fun e6 =>
    (lockfile_number n e6 2305843009213693950).bind fun r7 =>
    if ((r3.2.Code == 0 && (r3.2.Index == 0 && true)) != false) = true then
      if r5.2 = true then
        lockfile_entry_j1 n r3 r5 r7 r7.2
      else
        lockfile_entry_j1 n r3 r5 r7 false
    else
      lockfile_entry_j1 n r3 r5 r7 false
def lockfile_Read_l1 (n : Nat) (a0 : List (List UInt8)) : Nat → List SPackageVersionDigest → Int → Option ((List SPackageVersionDigest) × SCodeIndex)
  | 0, _, _ => none
  | m1 + 1, w1, x2 =>
    if (decide (x2 < (a0.length : Int))) = true then
      (gidx a0 x2).bind fun e3 =>
      (lockfile_entry n e3).bind fun r4 =>
      if (!r4.2) = true then
        some (([] : List SPackageVersionDigest), (⟨1, x2⟩ : SCodeIndex))
      else
        (gapp 64 w1 ([(⟨r4.1.Package, (⟨r4.1.Version.Major, r4.1.Version.Minor, r4.1.Version.Patch, r4.1.Version.Pre⟩ : SMajorMinorPatchPre), r4.1.Digest⟩ : SPackageVersionDigest)] : List SPackageVersionDigest)).bind fun w5 =>
        (gadd x2 1).bind fun x6 =>
        (lockfile_Read_l1 n a0 m1) w5 x6
    else
      (lockfile_Validate n w1).bind fun r7 =>
      if ((r7.Code == 0 && (r7.Index == 0 && true)) != true) = true then
        some (([] : List SPackageVersionDigest), r7)
      else
        some (w1, (⟨0, 0⟩ : SCodeIndex))
def lockfile_Read (n : Nat) (a0 : List (List UInt8)) : Option ((List SPackageVersionDigest) × SCodeIndex) :=
  if (decide (6 < (a0.length : Int))) = true then
    some (([] : List SPackageVersionDigest), (⟨2, (-1)⟩ : SCodeIndex))
  else
    lockfile_Read_l1 n a0 n ([] : List SPackageVersionDigest) 0
def law6_ver (n : Nat) (a0 : Int) (a1 : Int) (a2 : Int) : Option SMajorMinorPatchPre :=
  some (⟨a0, a1, a2, ([] : List (List UInt8))⟩ : SMajorMinorPatchPre)
def law6_lock (n : Nat) : Option (List SPackageVersionDigest) :=
  (law6_ver n 1 2 3).bind fun r1 =>
  some ([(⟨0, r1, 7⟩ : SPackageVersionDigest)] : List SPackageVersionDigest)
def law6_span (n : Nat) (a0 : Int) (a1 : SMajorMinorPatchPre) (a2 : SMajorMinorPatchPre) : Option SPackageRange :=
  some (⟨a0, (⟨([(⟨a1, a2, false⟩ : SLowHighUnbounded)] : List SLowHighUnbounded)⟩ : SIntervals)⟩ : SPackageRange)
def law6_universe (n : Nat) : Option SPackages :=
  (law6_ver n 1 0 0).bind fun r1 =>
  (law6_ver n 2 0 0).bind fun r2 =>
  (law6_span n 1 r1 r2).bind fun r3 =>
  (law6_ver n 1 0 0).bind fun r4 =>
  (law6_ver n 3 0 0).bind fun r5 =>
  some (⟨([([(⟨r4, ([(⟨r3.Package, (⟨r3.Range.Intervals⟩ : SIntervals)⟩ : SPackageRange)] : List SPackageRange)⟩ : SVersionNeeds)] : List SVersionNeeds), ([(⟨r5, ([] : List SPackageRange)⟩ : SVersionNeeds)] : List SVersionNeeds)] : List (List SVersionNeeds))⟩ : SPackages)
def law6_locks_j2 (n : Nat) (x12 : Bool) : Option Bool :=
  some x12
def law6_locks_j1 (n : Nat) (r2 : ((List (List UInt8)) × SCodeIndex)) (r3 : ((List SPackageVersionDigest) × SCodeIndex)) (r5 : ((List Int) × SCodeIndex)) (r7 : ((List Int) × SCodeIndex)) (r9 : ((List SPackageVersionDigest) × SCodeIndex)) (x11 : Bool) : Option Bool :=
  if x11 = true then
    (ref6_Strings n r2.1 ([([48, 32, 49, 46, 50, 46, 51, 32, 55] : List UInt8)] : List (List UInt8))).bind fun r13 =>
    if r13 = true then
      (law6_lock n).bind fun r14 =>
      (ref6_SameLock n r3.1 r14).bind fun r15 =>
      if r15 = true then
        (ref5_Ints n r5.1 ([0] : List Int)).bind fun r16 =>
        if r16 = true then
          (ref5_Ints n r7.1 ([0] : List Int)).bind fun r17 =>
          if r17 = true then
            if (decide ((r9.1.length : Int) = 1)) = true then
              (gidx r9.1 0).bind fun e18 =>
              law6_locks_j2 n (decide (e18.Package = 0))
            else
              law6_locks_j2 n false
          else
            law6_locks_j2 n false
        else
          law6_locks_j2 n false
      else
        law6_locks_j2 n false
    else
      law6_locks_j2 n false
  else
    law6_locks_j2 n false
def law6_locks (n : Nat) : Option Bool :=
  (law6_lock n).bind fun r1 =>
  (lockfile_Write n r1).bind fun r2 =>
  (lockfile_Read n ([([48, 32, 49, 46, 50, 46, 51, 32, 55] : List UInt8)] : List (List UInt8))).bind fun r3 =>
  (law6_lock n).bind fun r4 =>
  (lockfile_Drift n r4 ([] : List SPackageVersionDigest)).bind fun r5 =>
  (law6_lock n).bind fun r6 =>
  (lockfile_Corrupt n r6).bind fun r7 =>
  (law6_universe n).bind fun r8 =>
  (lockfile_Make n r8 ([0, (-1)] : List Int)).bind fun r9 =>
  (lockfile_Read n ([([57, 32, 49, 46, 50, 46, 51, 32, 55] : List UInt8)] : List (List UInt8))).bind fun r10 =>
  if (decide (r2.2.Code = 0)) = true then
    if (decide (r3.2.Code = 0)) = true then
      if (decide (r5.2.Code = 0)) = true then
        if (decide (r7.2.Code = 0)) = true then
          if (decide (r9.2.Code = 0)) = true then
            (law6_fault n 3 0).bind fun r19 =>
            law6_locks_j1 n r2 r3 r5 r7 r9 ((r10.2.Code == r19.Code && (r10.2.Index == r19.Index && true)) != false)
          else
            law6_locks_j1 n r2 r3 r5 r7 r9 false
        else
          law6_locks_j1 n r2 r3 r5 r7 r9 false
      else
        law6_locks_j1 n r2 r3 r5 r7 r9 false
    else
      law6_locks_j1 n r2 r3 r5 r7 r9 false
  else
    law6_locks_j1 n r2 r3 r5 r7 r9 false
def law6_wideLock_j1 (n : Nat) (a0 : List SPackageVersionDigest) (x1 : Int) (lp1 : Int → Option Bool) (x2 : Bool) : Option Bool :=
  if x2 = true then
    (gidx a0 x1).bind fun e3 =>
    if (decide (40 < (e3.Version.Pre.length : Int))) = true then
      some true
    else
      (gadd x1 1).bind fun x4 =>
      lp1 x4
  else
    some (decide (20 < (a0.length : Int)))
def law6_wideLock_l1 (n : Nat) (a0 : List SPackageVersionDigest) : Nat → Int → Option Bool
  | 0, _ => none
  | m1 + 1, x1 =>
    if (decide (x1 < (a0.length : Int))) = true then
      law6_wideLock_j1 n a0 x1 (law6_wideLock_l1 n a0 m1) (decide (x1 < 20))
    else
      law6_wideLock_j1 n a0 x1 (law6_wideLock_l1 n a0 m1) false
def law6_wideLock (n : Nat) (a0 : List SPackageVersionDigest) : Option Bool :=
  law6_wideLock_l1 n a0 n 0
def ref6_fault (n : Nat) (a0 : Int) (a1 : Int) : Option SCodeIndex :=
  some (⟨a0, a1⟩ : SCodeIndex)
def ref6_in_j1 (n : Nat) (x1 : Bool) : Option Bool :=
  some x1
def ref6_in (n : Nat) (a0 : Int) (a1 : Int) (a2 : Int) : Option Bool :=
  if (decide (a1 ≤ a0)) = true then
    ref6_in_j1 n (decide (a0 ≤ a2))
  else
    ref6_in_j1 n false
def ref5_fault (n : Nat) (a0 : Int) (a1 : Int) : Option SCodeIndex :=
  some (⟨a0, a1⟩ : SCodeIndex)
def ref5_in_j1 (n : Nat) (x1 : Bool) : Option Bool :=
  some x1
def ref5_in (n : Nat) (a0 : Int) (a1 : Int) (a2 : Int) : Option Bool :=
  if (decide (a1 ≤ a0)) = true then
    ref5_in_j1 n (decide (a0 ≤ a2))
  else
    ref5_in_j1 n false
def ref5_Numeric_j1 (n : Nat) (x1 : Int) (lp1 : Int → Option Bool) (x2 : Bool) : Option Bool :=
  if x2 = true then
    some false
  else
    (gadd x1 1).bind fun x3 =>
    lp1 x3
def ref5_Numeric_l1 (n : Nat) (a0 : List UInt8) : Nat → Int → Option Bool
  | 0, _ => none
  | m1 + 1, x1 =>
    if (decide (x1 < (a0.length : Int))) = true then
      (gidx a0 x1).bind fun y4 =>
      if (decide ((y4.toNat : Int) < 48)) = true then
        ref5_Numeric_j1 n x1 (ref5_Numeric_l1 n a0 m1) true
      else
        (gidx a0 x1).bind fun y5 =>
        ref5_Numeric_j1 n x1 (ref5_Numeric_l1 n a0 m1) (decide (57 < (y5.toNat : Int)))
    else
      some (decide (0 < (a0.length : Int)))
def ref5_Numeric (n : Nat) (a0 : List UInt8) : Option Bool :=
  ref5_Numeric_l1 n a0 n 0
def ref5_Identifier_j2 (n : Nat) (x2 : Int) (lp1 : Int → Option Bool) (x4 : Bool) : Option Bool :=
  if x4 = true then
    some false
  else
    (gadd x2 1).bind fun x5 =>
    lp1 x5
def ref5_Identifier_l1 (n : Nat) (a0 : List UInt8) : Nat → Int → Option Bool
  | 0, _ => none
  | m1 + 1, x2 =>
    if (decide (x2 < (a0.length : Int))) = true then
      (gidx a0 x2).bind fun y3 =>
      (ref5_in n (IntKind.wrap .i64 (y3.toNat : Int)) 48 57).bind fun r6 =>
      if (!r6) = true then
        (ref5_in n (IntKind.wrap .i64 (y3.toNat : Int)) 97 122).bind fun r7 =>
        if (!r7) = true then
          (ref5_in n (IntKind.wrap .i64 (y3.toNat : Int)) 65 90).bind fun r8 =>
          if (!r8) = true then
            ref5_Identifier_j2 n x2 (ref5_Identifier_l1 n a0 m1) (decide ((IntKind.wrap .i64 (y3.toNat : Int)) ≠ 45))
          else
            ref5_Identifier_j2 n x2 (ref5_Identifier_l1 n a0 m1) false
        else
          ref5_Identifier_j2 n x2 (ref5_Identifier_l1 n a0 m1) false
      else
        ref5_Identifier_j2 n x2 (ref5_Identifier_l1 n a0 m1) false
    else
      some true
def ref5_Identifier_j1 (n : Nat) (a0 : List UInt8) (x1 : Bool) : Option Bool :=
  if x1 = true then
    some false
  else
    ref5_Identifier_l1 n a0 n 0
def ref5_Identifier (n : Nat) (a0 : List UInt8) : Option Bool :=
  (ref5_in n (a0.length : Int) 1 8).bind fun r9 =>
  if (!r9) = true then
    ref5_Identifier_j1 n a0 true
  else
    (ref5_Numeric n a0).bind fun r10 =>
    if r10 = true then
      if (decide (1 < (a0.length : Int))) = true then
        (gidx a0 0).bind fun y11 =>
        ref5_Identifier_j1 n a0 (decide ((y11.toNat : Int) = 48))
      else
        ref5_Identifier_j1 n a0 false
    else
      ref5_Identifier_j1 n a0 false
def ref5_VersionFault_l1 (n : Nat) (a0 : SMajorMinorPatchPre) : Nat → Int → Option SCodeIndex
  | 0, _ => none
  | m1 + 1, x8 =>
    if (decide (x8 < (a0.Pre.length : Int))) = true then
      (gidx a0.Pre x8).bind fun e9 =>
      (ref5_Identifier n e9).bind fun r10 =>
      if (!r10) = true then
        (ref5_fault n 5 x8).bind fun r11 =>
        some r11
      else
        (gadd x8 1).bind fun x12 =>
        (ref5_VersionFault_l1 n a0 m1) x12
    else
      some (⟨0, 0⟩ : SCodeIndex)
def ref5_VersionFault (n : Nat) (a0 : SMajorMinorPatchPre) : Option SCodeIndex :=
  (ref5_in n a0.Major 0 1000000000).bind fun r1 =>
  if (!r1) = true then
    (ref5_fault n 3 0).bind fun r2 =>
    some r2
  else
    (ref5_in n a0.Minor 0 1000000000).bind fun r3 =>
    if (!r3) = true then
      (ref5_fault n 3 1).bind fun r4 =>
      some r4
    else
      (ref5_in n a0.Patch 0 1000000000).bind fun r5 =>
      if (!r5) = true then
        (ref5_fault n 3 2).bind fun r6 =>
        some r6
      else
        if (decide (4 < (a0.Pre.length : Int))) = true then
          (ref5_fault n 2 (-1)).bind fun r7 =>
          some r7
        else
          ref5_VersionFault_l1 n a0 n 0
def ref5_IsDigest (n : Nat) (a0 : Int) : Option Bool :=
  (ref5_in n a0 0 2305843009213693950).bind fun r1 =>
  some r1
def ref6_LockFault_j1 (n : Nat) (x2 : Int) (lp1 : Int → Option SCodeIndex) (x10 : Bool) : Option SCodeIndex :=
  if x10 = true then
    (ref6_fault n 5 x2).bind fun r11 =>
    some r11
  else
    (gadd x2 1).bind fun x12 =>
    lp1 x12
def ref6_LockFault_l1 (n : Nat) (a0 : List SPackageVersionDigest) : Nat → Int → Option SCodeIndex
  | 0, _ => none
  | m1 + 1, x2 =>
    if (decide (x2 < (a0.length : Int))) = true then
      (gidx a0 x2).bind fun e3 =>
      (ref6_in n e3.Package 0 5).bind fun r4 =>
      if (!r4) = true then
        (ref6_fault n 3 x2).bind fun r5 =>
        some r5
      else
        (ref5_VersionFault n (⟨e3.Version.Major, e3.Version.Minor, e3.Version.Patch, e3.Version.Pre⟩ : SMajorMinorPatchPre)).bind fun r6 =>
        if (decide (r6.Code ≠ 0)) = true then
          (ref6_fault n r6.Code x2).bind fun r7 =>
          some r7
        else
          (ref5_IsDigest n e3.Digest).bind fun r8 =>
          if (!r8) = true then
            (ref6_fault n 3 x2).bind fun r9 =>
            some r9
          else
            if (decide (0 < x2)) = true then
              (gsub x2 1).bind fun x13 =>
              (gidx a0 x13).bind fun e14 =>
              ref6_LockFault_j1 n x2 (ref6_LockFault_l1 n a0 m1) (decide (e3.Package ≤ e14.Package))
            else
              ref6_LockFault_j1 n x2 (ref6_LockFault_l1 n a0 m1) false
    else
      some (⟨0, 0⟩ : SCodeIndex)
def ref6_LockFault (n : Nat) (a0 : List SPackageVersionDigest) : Option SCodeIndex :=
  if (decide (6 < (a0.length : Int))) = true then
    (ref6_fault n 2 (-1)).bind fun r1 =>
    some r1
  else
    ref6_LockFault_l1 n a0 n 0
def ref5_Digits : Nat → Int → Option (List UInt8)
  | 0, _ => none
  | n + 1, a0 =>
    if (decide (a0 < 10)) = true then
      (gadd a0 1).bind fun x1 =>
      (gcut ([48, 49, 50, 51, 52, 53, 54, 55, 56, 57] : List UInt8) a0 x1).bind fun s2 =>
      some s2
    else
      (gquo a0 10).bind fun x3 =>
      ((ref5_Digits n) x3).bind fun r4 =>
      (grem a0 10).bind fun x5 =>
      (grem a0 10).bind fun x6 =>
      (gadd x6 1).bind fun x7 =>
      (gcut ([48, 49, 50, 51, 52, 53, 54, 55, 56, 57] : List UInt8) x5 x7).bind fun s8 =>
      (gcat r4 s8).bind fun s9 =>
      some s9
def ref5_VersionText_j1 (n : Nat) (a0 : SMajorMinorPatchPre) (x9 : Int) (lp1 : (List UInt8) → Int → Option (List UInt8)) (x10 : List UInt8) : Option (List UInt8) :=
  (gidx a0.Pre x9).bind fun e11 =>
  (gcat x10 e11).bind fun s12 =>
  (gadd x9 1).bind fun x13 =>
  lp1 s12 x13
def ref5_VersionText_l1 (n : Nat) (a0 : SMajorMinorPatchPre) : Nat → List UInt8 → Int → Option (List UInt8)
  | 0, _, _ => none
  | m1 + 1, x8, x9 =>
    if (decide (x9 < (a0.Pre.length : Int))) = true then
      if (decide (x9 = 0)) = true then
        (gcat x8 ([45] : List UInt8)).bind fun s14 =>
        ref5_VersionText_j1 n a0 x9 (ref5_VersionText_l1 n a0 m1) s14
      else
        (gcat x8 ([46] : List UInt8)).bind fun s15 =>
        ref5_VersionText_j1 n a0 x9 (ref5_VersionText_l1 n a0 m1) s15
    else
      some x8
def ref5_VersionText (n : Nat) (a0 : SMajorMinorPatchPre) : Option (List UInt8) :=
  (ref5_Digits n a0.Major).bind fun r1 =>
  (gcat r1 ([46] : List UInt8)).bind fun s2 =>
  (ref5_Digits n a0.Minor).bind fun r3 =>
  (gcat s2 r3).bind fun s4 =>
  (gcat s4 ([46] : List UInt8)).bind fun s5 =>
  (ref5_Digits n a0.Patch).bind fun r6 =>
  (gcat s5 r6).bind fun s7 =>
  ref5_VersionText_l1 n a0 n s7 0
def ref6_LockLine (n : Nat) (a0 : SPackageVersionDigest) : Option (List UInt8) :=
  (ref5_Digits n a0.Package).bind fun r1 =>
  (gcat r1 ([32] : List UInt8)).bind fun s2 =>
  (ref5_VersionText n (⟨a0.Version.Major, a0.Version.Minor, a0.Version.Patch, a0.Version.Pre⟩ : SMajorMinorPatchPre)).bind fun r3 =>
  (gcat s2 r3).bind fun s4 =>
  (gcat s4 ([32] : List UInt8)).bind fun s5 =>
  (ref5_Digits n a0.Digest).bind fun r6 =>
  (gcat s5 r6).bind fun s7 =>
  some s7
def ref6_LockLines_l1 (n : Nat) (a0 : List SPackageVersionDigest) : Nat → List (List UInt8) → Int → Option (List (List UInt8))
  | 0, _, _ => none
  | m1 + 1, w1, x2 =>
    if (decide (x2 < (a0.length : Int))) = true then
      (gidx a0 x2).bind fun e3 =>
      (ref6_LockLine n (⟨e3.Package, (⟨e3.Version.Major, e3.Version.Minor, e3.Version.Patch, e3.Version.Pre⟩ : SMajorMinorPatchPre), e3.Digest⟩ : SPackageVersionDigest)).bind fun r4 =>
      (gapp 16 w1 ([r4] : List (List UInt8))).bind fun w5 =>
      (gadd x2 1).bind fun x6 =>
      (ref6_LockLines_l1 n a0 m1) w5 x6
    else
      some w1
def ref6_LockLines (n : Nat) (a0 : List SPackageVersionDigest) : Option (List (List UInt8)) :=
  ref6_LockLines_l1 n a0 n ([] : List (List UInt8)) 0
def ref6_words_j1 (n : Nat) (x3 : Int) (lp1 : (List (List UInt8)) → Int → Int → Option (List (List UInt8))) (w4 : List (List UInt8)) (x5 : Int) : Option (List (List UInt8)) :=
  (gadd x3 1).bind fun x6 =>
  lp1 w4 x5 x6
def ref6_words_j2 (n : Nat) (a0 : List UInt8) (w1 : List (List UInt8)) (x2 : Int) (x3 : Int) (lp1 : (List (List UInt8)) → Int → Int → Option (List (List UInt8))) (x7 : Bool) : Option (List (List UInt8)) :=
  if x7 = true then
    (gcut a0 x2 x3).bind fun s8 =>
    (gapp 16 w1 ([s8] : List (List UInt8))).bind fun w9 =>
    (gadd x3 1).bind fun x10 =>
    ref6_words_j1 n x3 lp1 w9 x10
  else
    ref6_words_j1 n x3 lp1 w1 x2
def ref6_words_l1 (n : Nat) (a0 : List UInt8) : Nat → List (List UInt8) → Int → Int → Option (List (List UInt8))
  | 0, _, _, _ => none
  | m1 + 1, w1, x2, x3 =>
    if (decide (x3 ≤ (a0.length : Int))) = true then
      if (decide (x3 = (a0.length : Int))) = true then
        ref6_words_j2 n a0 w1 x2 x3 (ref6_words_l1 n a0 m1) true
      else
        (gidx a0 x3).bind fun y11 =>
        ref6_words_j2 n a0 w1 x2 x3 (ref6_words_l1 n a0 m1) (decide ((y11.toNat : Int) = 32))
    else
      some w1
def ref6_words (n : Nat) (a0 : List UInt8) : Option (List (List UInt8)) :=
  ref6_words_l1 n a0 n ([] : List (List UInt8)) 0 0
def ref5_NumberOf_l1 (n : Nat) (a0 : List UInt8) (a1 : Int) : Nat → Int → Int → Option Int
  | 0, _, _ => none
  | m1 + 1, x2, x3 =>
    if (decide (x3 < (a0.length : Int))) = true then
      (gidx a0 x3).bind fun y4 =>
      (gsub a1 (IntKind.wrap .i64 (ksub .u8 (y4.toNat : Int) 48))).bind fun x5 =>
      (gquo x5 10).bind fun x6 =>
      if (decide (x6 < x2)) = true then
        some (-1)
      else
        (gmul 10 x2).bind fun x7 =>
        (gadd x7 (IntKind.wrap .i64 (ksub .u8 (y4.toNat : Int) 48))).bind fun x8 =>
        (gadd x3 1).bind fun x9 =>
        (ref5_NumberOf_l1 n a0 a1 m1) x8 x9
    else
      some x2
def ref5_NumberOf_j1 (n : Nat) (a0 : List UInt8) (a1 : Int) (x1 : Bool) : Option Int :=
  if x1 = true then
    some (-1)
  else
    ref5_NumberOf_l1 n a0 a1 n 0 0
def ref5_NumberOf (n : Nat) (a0 : List UInt8) (a1 : Int) : Option Int :=
  (ref5_Numeric n a0).bind fun r10 =>
  if (!r10) = true then
    ref5_NumberOf_j1 n a0 a1 true
  else
    if (decide (19 < (a0.length : Int))) = true then
      ref5_NumberOf_j1 n a0 a1 true
    else
      if (decide (1 < (a0.length : Int))) = true then
        (gidx a0 0).bind fun y11 =>
        ref5_NumberOf_j1 n a0 a1 (decide ((y11.toNat : Int) = 48))
      else
        ref5_NumberOf_j1 n a0 a1 false
def ref5_until_j1 (n : Nat) (a0 : List UInt8) (x1 : Int) : Option ((List UInt8) × (List UInt8)) :=
  (gcut a0 0 x1).bind fun s2 =>
  (gcut a0 x1 (a0.length : Int)).bind fun s3 =>
  some (s2, s3)
def ref5_until_j2 (n : Nat) (a0 : List UInt8) (x4 : Int) (lp1 : Int → Option ((List UInt8) × (List UInt8))) (x5 : Bool) : Option ((List UInt8) × (List UInt8)) :=
  if x5 = true then
    (gadd x4 1).bind fun x6 =>
    lp1 x6
  else
    ref5_until_j1 n a0 x4
def ref5_until_l1 (n : Nat) (a0 : List UInt8) (a1 : Int) (a2 : Int) : Nat → Int → Option ((List UInt8) × (List UInt8))
  | 0, _ => none
  | m1 + 1, x4 =>
    if (decide (x4 < (a0.length : Int))) = true then
      (gidx a0 x4).bind fun y7 =>
      if (decide ((y7.toNat : Int) ≠ a1)) = true then
        (gidx a0 x4).bind fun y8 =>
        ref5_until_j2 n a0 x4 (ref5_until_l1 n a0 a1 a2 m1) (decide ((y8.toNat : Int) ≠ a2))
      else
        ref5_until_j2 n a0 x4 (ref5_until_l1 n a0 a1 a2 m1) false
    else
      ref5_until_j2 n a0 x4 (ref5_until_l1 n a0 a1 a2 m1) false
def ref5_until (n : Nat) (a0 : List UInt8) (a1 : Int) (a2 : Int) : Option ((List UInt8) × (List UInt8)) :=
  ref5_until_l1 n a0 a1 a2 n 0
def ref5_VersionOf_j2 (n : Nat) (r6 : Int) (r7 : Int) (r8 : Int) (w10 : List (List UInt8)) : Option (SMajorMinorPatchPre × Bool) :=
  (ref5_VersionFault n (⟨r6, r7, r8, w10⟩ : SMajorMinorPatchPre)).bind fun r11 =>
  if (decide (r11.Code ≠ 0)) = true then
    some ((⟨0, 0, 0, ([] : List (List UInt8))⟩ : SMajorMinorPatchPre), false)
  else
    some ((⟨r6, r7, r8, w10⟩ : SMajorMinorPatchPre), true)
def ref5_VersionOf_l1 (n : Nat) (r6 : Int) (r7 : Int) (r8 : Int) : Nat → List UInt8 → List (List UInt8) → Option (SMajorMinorPatchPre × Bool)
  | 0, _, _ => none
  | m1 + 1, x12, w13 =>
    if (decide (x12 ≠ ([] : List UInt8))) = true then
      (gcut x12 1 (x12.length : Int)).bind fun s14 =>
      (ref5_until n s14 46 46).bind fun r15 =>
      (gapp 16 w13 ([r15.1] : List (List UInt8))).bind fun w16 =>
      (ref5_VersionOf_l1 n r6 r7 r8 m1) r15.2 w16
    else
      ref5_VersionOf_j2 n r6 r7 r8 w13
def ref5_VersionOf_j1 (n : Nat) (r5 : ((List UInt8) × (List UInt8))) (r6 : Int) (r7 : Int) (r8 : Int) (x9 : Bool) : Option (SMajorMinorPatchPre × Bool) :=
  if x9 = true then
    some ((⟨0, 0, 0, ([] : List (List UInt8))⟩ : SMajorMinorPatchPre), false)
  else
    ref5_VersionOf_l1 n r6 r7 r8 n r5.2 ([] : List (List UInt8))
def ref5_VersionOf (n : Nat) (a0 : List UInt8) : Option (SMajorMinorPatchPre × Bool) :=
  (ref5_until n a0 46 46).bind fun r1 =>
  if (decide (r1.2 = ([] : List UInt8))) = true then
    some ((⟨0, 0, 0, ([] : List (List UInt8))⟩ : SMajorMinorPatchPre), false)
  else
    (gcut r1.2 1 (r1.2.length : Int)).bind fun s2 =>
    (ref5_until n s2 46 46).bind fun r3 =>
    if (decide (r3.2 = ([] : List UInt8))) = true then
      some ((⟨0, 0, 0, ([] : List (List UInt8))⟩ : SMajorMinorPatchPre), false)
    else
      (gcut r3.2 1 (r3.2.length : Int)).bind fun s4 =>
      (ref5_until n s4 45 46).bind fun r5 =>
      (ref5_NumberOf n r1.1 1000000000).bind fun r6 =>
      (ref5_NumberOf n r3.1 1000000000).bind fun r7 =>
      (ref5_NumberOf n r5.1 1000000000).bind fun r8 =>
      if (decide (r5.2 ≠ ([] : List UInt8))) = true then
        (gidx r5.2 0).bind fun y17 =>
        ref5_VersionOf_j1 n r5 r6 r7 r8 (decide ((y17.toNat : Int) = 46))
      else
        ref5_VersionOf_j1 n r5 r6 r7 r8 false
def ref6_LockOf_j1 (n : Nat) (w2 : List SPackageVersionDigest) (x3 : Int) (lp1 : (List SPackageVersionDigest) → Int → Option ((List SPackageVersionDigest) × SCodeIndex)) (r8 : Int) (r10 : (SMajorMinorPatchPre × Bool)) (r12 : Int) (x13 : Bool) : Option ((List SPackageVersionDigest) × SCodeIndex) :=
  if x13 = true then
    (ref6_fault n 1 x3).bind fun r14 =>
    some (([] : List SPackageVersionDigest), r14)
  else
    (gapp 64 w2 ([(⟨r8, (⟨r10.1.Major, r10.1.Minor, r10.1.Patch, r10.1.Pre⟩ : SMajorMinorPatchPre), r12⟩ : SPackageVersionDigest)] : List SPackageVersionDigest)).bind fun w15 =>
    (gadd x3 1).bind fun x16 =>
    lp1 w15 x16
def ref6_LockOf_l1 (n : Nat) (a0 : List (List UInt8)) : Nat → List SPackageVersionDigest → Int → Option ((List SPackageVersionDigest) × SCodeIndex)
  | 0, _, _ => none
  | m1 + 1, w2, x3 =>
    if (decide (x3 < (a0.length : Int))) = true then
      (gidx a0 x3).bind fun e4 =>
      (ref6_words n e4).bind fun r5 =>
      if (decide ((r5.length : Int) ≠ 3)) = true then
        (ref6_fault n 1 x3).bind fun r6 =>
        some (([] : List SPackageVersionDigest), r6)
      else
        (gidx r5 0).bind fun e7 =>
        (ref5_NumberOf n e7 1000000000).bind fun r8 =>
        (gidx r5 1).bind fun e9 =>
        (ref5_VersionOf n e9).bind fun r10 =>
        (gidx r5 2).bind fun e11 =>
        (ref5_NumberOf n e11 2305843009213693950).bind fun r12 =>
        if (decide (r8 < 0)) = true then
          ref6_LockOf_j1 n w2 x3 (ref6_LockOf_l1 n a0 m1) r8 r10 r12 true
        else
          if (!r10.2) = true then
            ref6_LockOf_j1 n w2 x3 (ref6_LockOf_l1 n a0 m1) r8 r10 r12 true
          else
            ref6_LockOf_j1 n w2 x3 (ref6_LockOf_l1 n a0 m1) r8 r10 r12 (decide (r12 < 0))
    else
      (ref6_LockFault n w2).bind fun r17 =>
      if (decide (r17.Code ≠ 0)) = true then
        some (([] : List SPackageVersionDigest), r17)
      else
        some (w2, r17)
def ref6_LockOf (n : Nat) (a0 : List (List UInt8)) : Option ((List SPackageVersionDigest) × SCodeIndex) :=
  if (decide (6 < (a0.length : Int))) = true then
    (ref6_fault n 2 (-1)).bind fun r1 =>
    some (([] : List SPackageVersionDigest), r1)
  else
    ref6_LockOf_l1 n a0 n ([] : List SPackageVersionDigest) 0
def law6_LockfileTextMatchesSpec_j2 (n : Nat) (x8 : Bool) : Option Bool :=
  some x8
def law6_LockfileTextMatchesSpec_j1 (n : Nat) (a1 : List (List UInt8)) (x5 : Bool) : Option Bool :=
  if x5 = true then
    some false
  else
    (lockfile_Read n a1).bind fun r6 =>
    (ref6_LockOf n a1).bind fun r7 =>
    if ((r6.2.Code == r7.2.Code && (r6.2.Index == r7.2.Index && true)) != false) = true then
      (ref6_SameLock n r6.1 r7.1).bind fun r9 =>
      law6_LockfileTextMatchesSpec_j2 n r9
    else
      law6_LockfileTextMatchesSpec_j2 n false
def law6_LockfileTextMatchesSpec (n : Nat) (a0 : List SPackageVersionDigest) (a1 : List (List UInt8)) : Option Bool :=
  (law6_locks n).bind fun r1 =>
  if (!r1) = true then
    some false
  else
    (law6_wideLock n a0).bind fun r2 =>
    if r2 = true then
      some true
    else
      (ref6_LockFault n a0).bind fun r3 =>
      (lockfile_Write n a0).bind fun r4 =>
      if ((r4.2.Code == r3.Code && (r4.2.Index == r3.Index && true)) != true) = true then
        law6_LockfileTextMatchesSpec_j1 n a1 true
      else
        if (decide (r3.Code ≠ 0)) = true then
          if (decide (0 < (r4.1.length : Int))) = true then
            law6_LockfileTextMatchesSpec_j1 n a1 true
          else
            if (decide (r3.Code = 0)) = true then
              (ref6_LockLines n a0).bind fun r10 =>
              (ref6_Strings n r4.1 r10).bind fun r11 =>
              law6_LockfileTextMatchesSpec_j1 n a1 (!r11)
            else
              law6_LockfileTextMatchesSpec_j1 n a1 false
        else
          if (decide (r3.Code = 0)) = true then
            (ref6_LockLines n a0).bind fun r12 =>
            (ref6_Strings n r4.1 r12).bind fun r13 =>
            law6_LockfileTextMatchesSpec_j1 n a1 (!r13)
          else
            law6_LockfileTextMatchesSpec_j1 n a1 false
def law6_LockfileTextsAreCanonical_j2 (n : Nat) (x8 : Bool) : Option Bool :=
  some x8
def law6_LockfileTextsAreCanonical_j1 (n : Nat) (a1 : List (List UInt8)) (x5 : Bool) : Option Bool :=
  if x5 = true then
    some false
  else
    (lockfile_Read n a1).bind fun r6 =>
    (lockfile_Write n r6.1).bind fun r7 =>
    if (decide (r6.2.Code ≠ 0)) = true then
      law6_LockfileTextsAreCanonical_j2 n true
    else
      if (decide (r7.2.Code = 0)) = true then
        (ref6_Strings n r7.1 a1).bind fun r9 =>
        law6_LockfileTextsAreCanonical_j2 n r9
      else
        law6_LockfileTextsAreCanonical_j2 n false
def law6_LockfileTextsAreCanonical (n : Nat) (a0 : List SPackageVersionDigest) (a1 : List (List UInt8)) : Option Bool :=
  (law6_locks n).bind fun r1 =>
  if (!r1) = true then
    some false
  else
    (law6_wideLock n a0).bind fun r2 =>
    if r2 = true then
      some true
    else
      (lockfile_Write n a0).bind fun r3 =>
      (lockfile_Read n r3.1).bind fun r4 =>
      if (decide (r3.2.Code = 0)) = true then
        if (decide (r4.2.Code ≠ 0)) = true then
          law6_LockfileTextsAreCanonical_j1 n a1 true
        else
          (ref6_SameLock n a0 r4.1).bind fun r10 =>
          law6_LockfileTextsAreCanonical_j1 n a1 (!r10)
      else
        law6_LockfileTextsAreCanonical_j1 n a1 false
end Go.Proofs.YtpcmhhbocifbcaaGreatDoor
