/- The types of the functions, and what the functions compute: partial operations as options; n is the fuel of each loop. Laid by a program (wip/gen/dec.py). -/
import Derived.Test.YtpbfobgbpdbiaaaPwDec
namespace Go.Proofs.Ytpbfobgbpdbiaaa
open Go.PW Go
structure SCodeIndex where
  Code : Int
  Index : Int
  deriving DecidableEq
def SCodeIndex.cells (x : SCodeIndex) : List PV := [.int .i64 x.Code, .int .i64 x.Index]
/- changeforge/changeforgeref6.fault -/
def ref6_fault (n : Nat) (a0 : Int) (a1 : Int) : Option SCodeIndex :=
  some (⟨a0, a1⟩ : SCodeIndex)

/- changeforge/changeforgeref6.in -/
def ref6_in_j1 (n : Nat) (x1 : Bool) : Option Bool :=
  some x1
def ref6_in (n : Nat) (a0 : Int) (a1 : Int) (a2 : Int) : Option Bool :=
  if (decide (a1 ≤ a0)) = true then
    ref6_in_j1 n (decide (a0 ≤ a2))
  else
    ref6_in_j1 n false

/- changeforge/changeforgeref6.nodesCode -/
def ref6_nodesCode_j1 (n : Nat) (x1 : Int) (lp1 : Int → Option Int) (x5 : Bool) : Option Int :=
  if x5 = true then
    some 5
  else
    (gadd x1 1).bind fun x6 =>
    lp1 x6
def ref6_nodesCode_l1 (n : Nat) (a0 : Int) (a1 : List Int) : Nat → Int → Option Int
  | 0, _ => none
  | m1 + 1, x1 =>
    if (decide (x1 < (a1.length : Int))) = true then
      (gidx a1 x1).bind fun e2 =>
      (gsub a0 1).bind fun x3 =>
      (ref6_in n e2 0 x3).bind fun r4 =>
      if (!r4) = true then
        some 3
      else
        if (decide (0 < x1)) = true then
          (gsub x1 1).bind fun x7 =>
          (gidx a1 x7).bind fun e8 =>
          ref6_nodesCode_j1 n x1 (ref6_nodesCode_l1 n a0 a1 m1) (decide (e2 ≤ e8))
        else
          ref6_nodesCode_j1 n x1 (ref6_nodesCode_l1 n a0 a1 m1) false
    else
      some 0
def ref6_nodesCode (n : Nat) (a0 : Int) (a1 : List Int) : Option Int :=
  ref6_nodesCode_l1 n a0 a1 n 0

/- changeforge/changeforgeref6.GraphFault -/
def ref6_GraphFault_l1 (n : Nat) (a0 : List (List Int)) : Nat → Int → Option SCodeIndex
  | 0, _ => none
  | m1 + 1, x2 =>
    if (decide (x2 < (a0.length : Int))) = true then
      (gidx a0 x2).bind fun e3 =>
      (ref6_nodesCode n (a0.length : Int) e3).bind fun r4 =>
      if (decide (r4 ≠ 0)) = true then
        (ref6_fault n r4 x2).bind fun r5 =>
        some r5
      else
        (gadd x2 1).bind fun x6 =>
        (ref6_GraphFault_l1 n a0 m1) x6
    else
      some (⟨0, 0⟩ : SCodeIndex)
def ref6_GraphFault (n : Nat) (a0 : List (List Int)) : Option SCodeIndex :=
  if (decide (24 < (a0.length : Int))) = true then
    (ref6_fault n 2 (-1)).bind fun r1 =>
    some r1
  else
    ref6_GraphFault_l1 n a0 n 0

/- changeforge/depgraph.list -/
def depgraph_list_j2 (n : Nat) (x1 : Int) (lp1 : Int → Option Int) (x4 : Bool) : Option Int :=
  if x4 = true then
    some 5
  else
    (gadd x1 1).bind fun x5 =>
    lp1 x5
def depgraph_list_j1 (n : Nat) (a0 : List Int) (x1 : Int) (lp1 : Int → Option Int) (e2 : Int) (x3 : Bool) : Option Int :=
  if x3 = true then
    some 3
  else
    if (decide (0 < x1)) = true then
      (gsub x1 1).bind fun x6 =>
      (gidx a0 x6).bind fun e7 =>
      depgraph_list_j2 n x1 lp1 (decide (e2 ≤ e7))
    else
      depgraph_list_j2 n x1 lp1 false
def depgraph_list_l1 (n : Nat) (a0 : List Int) (a1 : Int) : Nat → Int → Option Int
  | 0, _ => none
  | m1 + 1, x1 =>
    if (decide (x1 < (a0.length : Int))) = true then
      (gidx a0 x1).bind fun e2 =>
      if (decide (e2 < 0)) = true then
        depgraph_list_j1 n a0 x1 (depgraph_list_l1 n a0 a1 m1) e2 true
      else
        depgraph_list_j1 n a0 x1 (depgraph_list_l1 n a0 a1 m1) e2 (decide (a1 ≤ e2))
    else
      some 0
def depgraph_list (n : Nat) (a0 : List Int) (a1 : Int) : Option Int :=
  depgraph_list_l1 n a0 a1 n 0

/- changeforge/depgraph.Validate -/
def depgraph_Validate_l1 (n : Nat) (a0 : List (List Int)) : Nat → Int → Option SCodeIndex
  | 0, _ => none
  | m1 + 1, x1 =>
    if (decide (x1 < (a0.length : Int))) = true then
      (gidx a0 x1).bind fun e2 =>
      (depgraph_list n e2 (a0.length : Int)).bind fun r3 =>
      if (decide (r3 ≠ 0)) = true then
        some (⟨r3, x1⟩ : SCodeIndex)
      else
        (gadd x1 1).bind fun x4 =>
        (depgraph_Validate_l1 n a0 m1) x4
    else
      some (⟨0, 0⟩ : SCodeIndex)
def depgraph_Validate (n : Nat) (a0 : List (List Int)) : Option SCodeIndex :=
  if (decide (24 < (a0.length : Int))) = true then
    some (⟨2, (-1)⟩ : SCodeIndex)
  else
    depgraph_Validate_l1 n a0 n 0

/- math/bits.Mul32 -/
def math_bits_Mul32 (n : Nat) (a0 : Int) (a1 : Int) : Option (Int × Int) :=
  some ((IntKind.wrap .u32 (kshr .u64 (kmul .u64 (IntKind.wrap .u64 a0) (IntKind.wrap .u64 a1)) 32)), (IntKind.wrap .u32 (kmul .u64 (IntKind.wrap .u64 a0) (IntKind.wrap .u64 a1))))

/- math/bits.Mul64 -/
def math_bits_Mul64 (n : Nat) (a0 : Int) (a1 : Int) : Option (Int × Int) :=
  some ((kadd .u64 (kadd .u64 (kmul .u64 (kshr .u64 a0 32) (kshr .u64 a1 32)) (kshr .u64 (kadd .u64 (kmul .u64 (kshr .u64 a0 32) (kand .u64 a1 4294967295)) (kshr .u64 (kmul .u64 (kand .u64 a0 4294967295) (kand .u64 a1 4294967295)) 32)) 32)) (kshr .u64 (kadd .u64 (kand .u64 (kadd .u64 (kmul .u64 (kshr .u64 a0 32) (kand .u64 a1 4294967295)) (kshr .u64 (kmul .u64 (kand .u64 a0 4294967295) (kand .u64 a1 4294967295)) 32)) 4294967295) (kmul .u64 (kand .u64 a0 4294967295) (kshr .u64 a1 32))) 32)), (kmul .u64 a0 a1))

/- math/bits.Mul -/
def math_bits_Mul (n : Nat) (a0 : Int) (a1 : Int) : Option (Int × Int) :=
  (math_bits_Mul64 n a0 a1).bind fun r1 =>
  some (r1.1, r1.2)

/- changeforge/depgraph.distances -/
def depgraph_distances_j2 (n : Nat) (x10 : Int) (lp3 : (List Int) → Bool → Int → Option (List Int)) (w11 : List Int) (x12 : Bool) : Option (List Int) :=
  (gadd x10 1).bind fun x13 =>
  lp3 w11 x12 x13
def depgraph_distances_j3 (n : Nat) (x6 : Int) (w8 : List Int) (x9 : Bool) (x10 : Int) (lp3 : (List Int) → Bool → Int → Option (List Int)) (x17 : Int) : Option (List Int) :=
  (gidx w8 x6).bind fun e18 =>
  if (decide (x17 < e18)) = true then
    depgraph_distances_j2 n x10 lp3 (gset w8 x6 x17) true
  else
    depgraph_distances_j2 n x10 lp3 w8 x9
def depgraph_distances_l3 (n : Nat) (a1 : Int) (x6 : Int) (lp2 : (List Int) → Bool → Int → Option (List Int)) (e7 : List Int) : Nat → List Int → Bool → Int → Option (List Int)
  | 0, _, _, _ => none
  | m3 + 1, w8, x9, x10 =>
    if (decide (x10 < (e7.length : Int))) = true then
      (gidx e7 x10).bind fun e14 =>
      (gidx w8 e14).bind fun e15 =>
      (gadd e15 1).bind fun x16 =>
      if (decide (e14 = a1)) = true then
        depgraph_distances_j3 n x6 w8 x9 x10 (depgraph_distances_l3 n a1 x6 lp2 e7 m3) 1
      else
        depgraph_distances_j3 n x6 w8 x9 x10 (depgraph_distances_l3 n a1 x6 lp2 e7 m3) x16
    else
      (gadd x6 1).bind fun x19 =>
      lp2 w8 x9 x19
def depgraph_distances_l2 (n : Nat) (a0 : List (List Int)) (a1 : Int) (lp1 : (List Int) → Bool → Option (List Int)) : Nat → List Int → Bool → Int → Option (List Int)
  | 0, _, _, _ => none
  | m2 + 1, w4, x5, x6 =>
    if (decide (x6 < (a0.length : Int))) = true then
      (gidx a0 x6).bind fun e7 =>
      depgraph_distances_l3 n a1 x6 (depgraph_distances_l2 n a0 a1 lp1 m2) e7 n w4 x5 0
    else
      lp1 w4 x5
def depgraph_distances_l1 (n : Nat) (a0 : List (List Int)) (a1 : Int) : Nat → List Int → Bool → Option (List Int)
  | 0, _, _ => none
  | m1 + 1, w2, x3 =>
    if x3 = true then
      depgraph_distances_l2 n a0 a1 (depgraph_distances_l1 n a0 a1 m1) n w2 false 0
    else
      some w2
def depgraph_distances_j1 (n : Nat) (a0 : List (List Int)) (a1 : Int) (w1 : List Int) : Option (List Int) :=
  depgraph_distances_l1 n a0 a1 n w1 true
def depgraph_distances_j5 (n : Nat) (a0 : List (List Int)) (a1 : Int) (w23 : List Int) : Option (List Int) :=
  depgraph_distances_j1 n a0 a1 w23
def depgraph_distances_l4 (n : Nat) (a0 : List (List Int)) (a1 : Int) : Nat → List Int → Int → Option (List Int)
  | 0, _, _ => none
  | m4 + 1, w24, x25 =>
    if (decide (x25 < (w24.length : Int))) = true then
      (gcut w24 x25 (w24.length : Int)).bind fun s26 =>
      (gcut w24 0 x25).bind fun s27 =>
      (gadd x25 ((min s27.length ((w24.length : Int).toNat - x25.toNat) : Nat) : Int)).bind fun x28 =>
      (depgraph_distances_l4 n a0 a1 m4) (gcopy w24 x25.toNat ((w24.length : Int).toNat) s27) x28
    else
      depgraph_distances_j5 n a0 a1 w24
def depgraph_distances_j4 (n : Nat) (a0 : List (List Int)) (a1 : Int) (r20 : (Int × Int)) (x21 : Bool) : Option (List Int) :=
  if x21 = true then
    none
  else
    (gmake 8 0 (IntKind.wrap .i64 r20.2)).bind fun w22 =>
    depgraph_distances_l4 n a0 a1 n (gcopy w22 0 w22.length ([1000] : List Int)) ((min ([1000] : List Int).length (w22.length - 0) : Nat) : Int)
def depgraph_distances (n : Nat) (a0 : List (List Int)) (a1 : Int) : Option (List Int) :=
  if (decide ((a0.length : Int) < 0)) = true then
    none
  else
    (math_bits_Mul n (IntKind.wrap .u64 (([1000] : List Int).length : Int)) (IntKind.wrap .u64 (a0.length : Int))).bind fun r20 =>
    if (decide (0 < r20.1)) = true then
      depgraph_distances_j4 n a0 a1 r20 true
    else
      depgraph_distances_j4 n a0 a1 r20 (decide (9223372036854775807 < r20.2))

/- changeforge/depgraph.cyclic -/
def depgraph_cyclic_l1 (n : Nat) (a0 : List (List Int)) : Nat → Int → Option Int
  | 0, _ => none
  | m1 + 1, x1 =>
    if (decide (x1 < (a0.length : Int))) = true then
      (depgraph_distances n a0 x1).bind fun r2 =>
      (gidx r2 x1).bind fun e3 =>
      if (decide (e3 < 1000)) = true then
        some x1
      else
        (gadd x1 1).bind fun x4 =>
        (depgraph_cyclic_l1 n a0 m1) x4
    else
      some (-1)
def depgraph_cyclic (n : Nat) (a0 : List (List Int)) : Option Int :=
  depgraph_cyclic_l1 n a0 n 0

/- changeforge/depgraph.Cycle -/
def depgraph_Cycle_j1 (n : Nat) (w4 : List Int) (lp1 : (List Int) → Int → Option ((List Int) × Bool × SCodeIndex)) (x7 : Int) : Option ((List Int) × Bool × SCodeIndex) :=
  (gapp 8 w4 ([x7] : List Int)).bind fun w8 =>
  lp1 w8 x7
def depgraph_Cycle_l2 (n : Nat) (r3 : (List Int)) (w4 : List Int) (x5 : Int) (lp1 : (List Int) → Int → Option ((List Int) × Bool × SCodeIndex)) (e6 : Int) (e9 : List Int) : Nat → Int → Option ((List Int) × Bool × SCodeIndex)
  | 0, _ => none
  | m2 + 1, x10 =>
    if (decide (x10 < (e9.length : Int))) = true then
      (gidx e9 x10).bind fun e11 =>
      (gidx r3 e11).bind fun e12 =>
      (gsub e6 1).bind fun x13 =>
      if (decide (e12 = x13)) = true then
        depgraph_Cycle_j1 n w4 lp1 e11
      else
        (gadd x10 1).bind fun x14 =>
        (depgraph_Cycle_l2 n r3 w4 x5 lp1 e6 e9 m2) x14
    else
      depgraph_Cycle_j1 n w4 lp1 x5
def depgraph_Cycle_l1 (n : Nat) (a0 : List (List Int)) (r3 : (List Int)) : Nat → List Int → Int → Option ((List Int) × Bool × SCodeIndex)
  | 0, _, _ => none
  | m1 + 1, w4, x5 =>
    (gidx r3 x5).bind fun e6 =>
    if (decide (1 < e6)) = true then
      (gidx a0 x5).bind fun e9 =>
      depgraph_Cycle_l2 n r3 w4 x5 (depgraph_Cycle_l1 n a0 r3 m1) e6 e9 n 0
    else
      some (w4, true, (⟨0, 0⟩ : SCodeIndex))
def depgraph_Cycle (n : Nat) (a0 : List (List Int)) : Option ((List Int) × Bool × SCodeIndex) :=
  (depgraph_Validate n a0).bind fun r1 =>
  if ((r1.Code == 0 && (r1.Index == 0 && true)) != true) = true then
    some (([] : List Int), false, r1)
  else
    (depgraph_cyclic n a0).bind fun r2 =>
    if (decide (r2 < 0)) = true then
      some (([] : List Int), false, (⟨0, 0⟩ : SCodeIndex))
    else
      (depgraph_distances n a0 r2).bind fun r3 =>
      depgraph_Cycle_l1 n a0 r3 n ([r2] : List Int) r2

/- changeforge/changeforgeref5.Ints -/
def ref5_Ints_l1 (n : Nat) (a0 : List Int) (a1 : List Int) : Nat → Int → Option Bool
  | 0, _ => none
  | m1 + 1, x1 =>
    if (decide (x1 < (a0.length : Int))) = true then
      (gidx a0 x1).bind fun e2 =>
      (gidx a1 x1).bind fun e3 =>
      if (decide (e2 ≠ e3)) = true then
        some false
      else
        (gadd x1 1).bind fun x4 =>
        (ref5_Ints_l1 n a0 a1 m1) x4
    else
      some true
def ref5_Ints (n : Nat) (a0 : List Int) (a1 : List Int) : Option Bool :=
  if (decide ((a0.length : Int) ≠ (a1.length : Int))) = true then
    some false
  else
    ref5_Ints_l1 n a0 a1 n 0

/- changeforge/depgraph.Affected -/
def depgraph_Affected_j1 (n : Nat) (x9 : Int) (lp2 : (List Bool) → Int → Option ((List Int) × SCodeIndex)) (w10 : List Bool) : Option ((List Int) × SCodeIndex) :=
  (gadd x9 1).bind fun x11 =>
  lp2 w10 x11
def depgraph_Affected_l2 (n : Nat) (x5 : Int) (lp1 : (List Bool) → Int → Option ((List Int) × SCodeIndex)) (e6 : Int) (r7 : (List Int)) : Nat → List Bool → Int → Option ((List Int) × SCodeIndex)
  | 0, _, _ => none
  | m2 + 1, w8, x9 =>
    if (decide (x9 < (r7.length : Int))) = true then
      (gidx r7 x9).bind fun e12 =>
      (gidx w8 x9).bind fun e13 =>
      if e13 = true then
        depgraph_Affected_j1 n x9 (depgraph_Affected_l2 n x5 lp1 e6 r7 m2) (gset w8 x9 true)
      else
        if (decide (x9 = e6)) = true then
          depgraph_Affected_j1 n x9 (depgraph_Affected_l2 n x5 lp1 e6 r7 m2) (gset w8 x9 true)
        else
          depgraph_Affected_j1 n x9 (depgraph_Affected_l2 n x5 lp1 e6 r7 m2) (gset w8 x9 (decide (e12 < 1000)))
    else
      (gadd x5 1).bind fun x14 =>
      lp1 w8 x14
def depgraph_Affected_j2 (n : Nat) (x16 : Int) (lp3 : (List Int) → Int → Option ((List Int) × SCodeIndex)) (w17 : List Int) : Option ((List Int) × SCodeIndex) :=
  (gadd x16 1).bind fun x18 =>
  lp3 w17 x18
def depgraph_Affected_l3 (n : Nat) (w4 : List Bool) : Nat → List Int → Int → Option ((List Int) × SCodeIndex)
  | 0, _, _ => none
  | m3 + 1, w15, x16 =>
    if (decide (x16 < (w4.length : Int))) = true then
      (gidx w4 x16).bind fun e19 =>
      if e19 = true then
        (gapp 8 w15 ([x16] : List Int)).bind fun w20 =>
        depgraph_Affected_j2 n x16 (depgraph_Affected_l3 n w4 m3) w20
      else
        depgraph_Affected_j2 n x16 (depgraph_Affected_l3 n w4 m3) w15
    else
      some (w15, (⟨0, 0⟩ : SCodeIndex))
def depgraph_Affected_l1 (n : Nat) (a0 : List (List Int)) (a1 : List Int) : Nat → List Bool → Int → Option ((List Int) × SCodeIndex)
  | 0, _, _ => none
  | m1 + 1, w4, x5 =>
    if (decide (x5 < (a1.length : Int))) = true then
      (gidx a1 x5).bind fun e6 =>
      (depgraph_distances n a0 e6).bind fun r7 =>
      depgraph_Affected_l2 n x5 (depgraph_Affected_l1 n a0 a1 m1) e6 r7 n w4 0
    else
      depgraph_Affected_l3 n w4 n ([] : List Int) 0
def depgraph_Affected (n : Nat) (a0 : List (List Int)) (a1 : List Int) : Option ((List Int) × SCodeIndex) :=
  (depgraph_Validate n a0).bind fun r1 =>
  if ((r1.Code == 0 && (r1.Index == 0 && true)) != true) = true then
    some (([] : List Int), r1)
  else
    (depgraph_list n a1 (a0.length : Int)).bind fun r2 =>
    if (decide (r2 ≠ 0)) = true then
      some (([] : List Int), (⟨r2, (-2)⟩ : SCodeIndex))
    else
      (gmake 1 false (a0.length : Int)).bind fun w3 =>
      depgraph_Affected_l1 n a0 a1 n w3 0

/- changeforge/changeforgelaw6.fault -/
def law6_fault (n : Nat) (a0 : Int) (a1 : Int) : Option SCodeIndex :=
  some (⟨a0, a1⟩ : SCodeIndex)

/- changeforge/depgraph.checkOrder -/
def depgraph_checkOrder (n : Nat) (a0 : List (List Int)) : Option SCodeIndex :=
  (depgraph_Validate n a0).bind fun r1 =>
  if ((r1.Code == 0 && (r1.Index == 0 && true)) != true) = true then
    some r1
  else
    (depgraph_cyclic n a0).bind fun r2 =>
    if (decide (0 ≤ r2)) = true then
      some (⟨20, r2⟩ : SCodeIndex)
    else
      some (⟨0, 0⟩ : SCodeIndex)

/- changeforge/depgraph.Order -/
def depgraph_Order_j1 (n : Nat) (x7 : Int) (lp2 : Int → Int → Option ((List Int) × SCodeIndex)) (x8 : Int) : Option ((List Int) × SCodeIndex) :=
  (gadd x7 1).bind fun x9 =>
  lp2 x8 x9
def depgraph_Order_j2 (n : Nat) (x6 : Int) (x7 : Int) (lp2 : Int → Int → Option ((List Int) × SCodeIndex)) (x11 : Bool) : Option ((List Int) × SCodeIndex) :=
  if x11 = true then
    depgraph_Order_j1 n x7 lp2 x7
  else
    depgraph_Order_j1 n x7 lp2 x6
def depgraph_Order_j3 (n : Nat) (x6 : Int) (x7 : Int) (lp2 : Int → Int → Option ((List Int) × SCodeIndex)) (x13 : Bool) : Option ((List Int) × SCodeIndex) :=
  depgraph_Order_j2 n x6 x7 lp2 (!x13)
def depgraph_Order_j4 (n : Nat) (x6 : Int) (x7 : Int) (lp2 : Int → Int → Option ((List Int) × SCodeIndex)) (x14 : Int) : Option ((List Int) × SCodeIndex) :=
  depgraph_Order_j3 n x6 x7 lp2 (decide (0 ≤ x14))
def depgraph_Order_j5 (n : Nat) (x6 : Int) (x7 : Int) (lp2 : Int → Int → Option ((List Int) × SCodeIndex)) (x15 : Int) (lp3 : Int → Option ((List Int) × SCodeIndex)) (x17 : Bool) : Option ((List Int) × SCodeIndex) :=
  if x17 = true then
    depgraph_Order_j4 n x6 x7 lp2 x15
  else
    (gadd x15 1).bind fun x18 =>
    lp3 x18
def depgraph_Order_l3 (n : Nat) (w3 : List Bool) (x6 : Int) (x7 : Int) (lp2 : Int → Int → Option ((List Int) × SCodeIndex)) (e10 : List Int) : Nat → Int → Option ((List Int) × SCodeIndex)
  | 0, _ => none
  | m3 + 1, x15 =>
    if (decide (x15 < (e10.length : Int))) = true then
      (gidx e10 x15).bind fun e16 =>
      (gidx w3 e16).bind fun e19 =>
      depgraph_Order_j5 n x6 x7 lp2 x15 (depgraph_Order_l3 n w3 x6 x7 lp2 e10 m3) (!e19)
    else
      depgraph_Order_j4 n x6 x7 lp2 (-1)
def depgraph_Order_l2 (n : Nat) (a0 : List (List Int)) (w3 : List Bool) (w4 : List Int) (x5 : Int) (lp1 : (List Bool) → (List Int) → Int → Option ((List Int) × SCodeIndex)) : Nat → Int → Int → Option ((List Int) × SCodeIndex)
  | 0, _, _ => none
  | m2 + 1, x6, x7 =>
    if (decide (x7 < (a0.length : Int))) = true then
      (gidx a0 x7).bind fun e10 =>
      if (decide (x6 < 0)) = true then
        (gidx w3 x7).bind fun e12 =>
        if (!e12) = true then
          depgraph_Order_l3 n w3 x6 x7 (depgraph_Order_l2 n a0 w3 w4 x5 lp1 m2) e10 n 0
        else
          depgraph_Order_j2 n x6 x7 (depgraph_Order_l2 n a0 w3 w4 x5 lp1 m2) false
      else
        depgraph_Order_j2 n x6 x7 (depgraph_Order_l2 n a0 w3 w4 x5 lp1 m2) false
    else
      (gidx w3 x6).bind fun e20 =>
      (gapp 8 w4 ([x6] : List Int)).bind fun w21 =>
      (gadd x5 1).bind fun x22 =>
      lp1 (gset w3 x6 true) w21 x22
def depgraph_Order_l1 (n : Nat) (a0 : List (List Int)) : Nat → List Bool → List Int → Int → Option ((List Int) × SCodeIndex)
  | 0, _, _, _ => none
  | m1 + 1, w3, w4, x5 =>
    if (decide (x5 < (a0.length : Int))) = true then
      depgraph_Order_l2 n a0 w3 w4 x5 (depgraph_Order_l1 n a0 m1) n (-1) 0
    else
      some (w4, (⟨0, 0⟩ : SCodeIndex))
def depgraph_Order (n : Nat) (a0 : List (List Int)) : Option ((List Int) × SCodeIndex) :=
  (depgraph_checkOrder n a0).bind fun r1 =>
  if ((r1.Code == 0 && (r1.Index == 0 && true)) != true) = true then
    some (([] : List Int), r1)
  else
    (gmake 1 false (a0.length : Int)).bind fun w2 =>
    depgraph_Order_l1 n a0 n w2 ([] : List Int) 0

/- changeforge/depgraph.Levels -/
def depgraph_Levels_l2 (n : Nat) (x4 : Int) (lp1 : (List Int) → Int → Option ((List Int) × SCodeIndex)) (e5 : Int) (e6 : List Int) : Nat → List Int → Int → Option ((List Int) × SCodeIndex)
  | 0, _, _ => none
  | m2 + 1, w7, x8 =>
    if (decide (x8 < (e6.length : Int))) = true then
      (gidx e6 x8).bind fun e9 =>
      (gidx w7 e5).bind fun e10 =>
      (gidx w7 e9).bind fun e11 =>
      (gadd e11 1).bind fun x12 =>
      (gadd x8 1).bind fun x13 =>
      (depgraph_Levels_l2 n x4 lp1 e5 e6 m2) (gset w7 e5 (max e10 x12)) x13
    else
      (gadd x4 1).bind fun x14 =>
      lp1 w7 x14
def depgraph_Levels_l1 (n : Nat) (a0 : List (List Int)) (r1 : ((List Int) × SCodeIndex)) : Nat → List Int → Int → Option ((List Int) × SCodeIndex)
  | 0, _, _ => none
  | m1 + 1, w3, x4 =>
    if (decide (x4 < (r1.1.length : Int))) = true then
      (gidx r1.1 x4).bind fun e5 =>
      (gidx a0 e5).bind fun e6 =>
      depgraph_Levels_l2 n x4 (depgraph_Levels_l1 n a0 r1 m1) e5 e6 n w3 0
    else
      some (w3, (⟨0, 0⟩ : SCodeIndex))
def depgraph_Levels (n : Nat) (a0 : List (List Int)) : Option ((List Int) × SCodeIndex) :=
  (depgraph_Order n a0).bind fun r1 =>
  if ((r1.2.Code == 0 && (r1.2.Index == 0 && true)) != true) = true then
    some (([] : List Int), (⟨r1.2.Code, r1.2.Index⟩ : SCodeIndex))
  else
    (gmake 8 0 (a0.length : Int)).bind fun w2 =>
    depgraph_Levels_l1 n a0 r1 n w2 0

/- changeforge/changeforgelaw6.graphs -/
def law6_graphs_j2 (n : Nat) (x7 : Bool) : Option Bool :=
  some x7
def law6_graphs_j1 (n : Nat) (r1 : ((List Int) × SCodeIndex)) (r2 : ((List Int) × SCodeIndex)) (r3 : ((List Int) × SCodeIndex)) (r4 : ((List Int) × Bool × SCodeIndex)) (x6 : Bool) : Option Bool :=
  if x6 = true then
    (ref5_Ints n r1.1 ([1, 0] : List Int)).bind fun r8 =>
    if r8 = true then
      (ref5_Ints n r2.1 ([1, 0] : List Int)).bind fun r9 =>
      if r9 = true then
        (ref5_Ints n r3.1 ([0, 1] : List Int)).bind fun r10 =>
        if r10 = true then
          if r4.2.1 = true then
            (ref5_Ints n r4.1 ([0] : List Int)).bind fun r11 =>
            if r11 = true then
              (depgraph_Validate n ([([1] : List Int)] : List (List Int))).bind fun r12 =>
              (law6_fault n 3 0).bind fun r13 =>
              law6_graphs_j2 n ((r12.Code == r13.Code && (r12.Index == r13.Index && true)) != false)
            else
              law6_graphs_j2 n false
          else
            law6_graphs_j2 n false
        else
          law6_graphs_j2 n false
      else
        law6_graphs_j2 n false
    else
      law6_graphs_j2 n false
  else
    law6_graphs_j2 n false
def law6_graphs (n : Nat) : Option Bool :=
  (depgraph_Order n ([([1] : List Int), ([] : List Int)] : List (List Int))).bind fun r1 =>
  (depgraph_Levels n ([([1] : List Int), ([] : List Int)] : List (List Int))).bind fun r2 =>
  (depgraph_Affected n ([([1] : List Int), ([] : List Int)] : List (List Int)) ([1] : List Int)).bind fun r3 =>
  (depgraph_Cycle n ([([0] : List Int)] : List (List Int))).bind fun r4 =>
  (depgraph_Order n ([([] : List Int), ([1] : List Int)] : List (List Int))).bind fun r5 =>
  if (decide (r1.2.Code = 0)) = true then
    if (decide (r2.2.Code = 0)) = true then
      if (decide (r3.2.Code = 0)) = true then
        if (decide (r4.2.2.Code = 0)) = true then
          (law6_fault n 20 1).bind fun r14 =>
          law6_graphs_j1 n r1 r2 r3 r4 ((r5.2.Code == r14.Code && (r5.2.Index == r14.Index && true)) != false)
        else
          law6_graphs_j1 n r1 r2 r3 r4 false
      else
        law6_graphs_j1 n r1 r2 r3 r4 false
    else
      law6_graphs_j1 n r1 r2 r3 r4 false
  else
    law6_graphs_j1 n r1 r2 r3 r4 false

/- changeforge/changeforgeref5.Has -/
def ref5_Has_l1 (n : Nat) (a0 : List Int) (a1 : Int) : Nat → Int → Option Bool
  | 0, _ => none
  | m1 + 1, x1 =>
    if (decide (x1 < (a0.length : Int))) = true then
      (gidx a0 x1).bind fun e2 =>
      if (decide (e2 = a1)) = true then
        some true
      else
        (gadd x1 1).bind fun x3 =>
        (ref5_Has_l1 n a0 a1 m1) x3
    else
      some false
def ref5_Has (n : Nat) (a0 : List Int) (a1 : Int) : Option Bool :=
  ref5_Has_l1 n a0 a1 n 0

/- changeforge/changeforgeref6.Distance -/
def ref6_Distance_j1 (n : Nat) (x4 : Int) (lp2 : (List Int) → Int → Option (List (List Int))) (w5 : List Int) : Option (List (List Int)) :=
  (gadd x4 1).bind fun x6 =>
  lp2 w5 x6
def ref6_Distance_l2 (n : Nat) (a0 : List (List Int)) (z1 : List (List Int)) (x2 : Int) (lp1 : (List (List Int)) → Int → Option (List (List Int))) : Nat → List Int → Int → Option (List (List Int))
  | 0, _, _ => none
  | m2 + 1, w3, x4 =>
    if (decide (x4 < (a0.length : Int))) = true then
      (gidx a0 x2).bind fun e7 =>
      (ref5_Has n e7 x4).bind fun r8 =>
      if r8 = true then
        (gapp 8 w3 ([1] : List Int)).bind fun w9 =>
        ref6_Distance_j1 n x4 (ref6_Distance_l2 n a0 z1 x2 lp1 m2) w9
      else
        (gapp 8 w3 ([1000] : List Int)).bind fun w10 =>
        ref6_Distance_j1 n x4 (ref6_Distance_l2 n a0 z1 x2 lp1 m2) w10
    else
      (gapp 24 z1 [w3]).bind fun w11 =>
      (gadd x2 1).bind fun x12 =>
      lp1 (z1 ++ [w3]) x12
def ref6_Distance_j2 (n : Nat) (x18 : Int) (lp5 : (List (List Int)) → Int → Option (List (List Int))) (z19 : List (List Int)) : Option (List (List Int)) :=
  (gadd x18 1).bind fun x20 =>
  lp5 z19 x20
def ref6_Distance_l5 (n : Nat) (a0 : List (List Int)) (x14 : Int) (x16 : Int) (lp4 : (List (List Int)) → Int → Option (List (List Int))) : Nat → List (List Int) → Int → Option (List (List Int))
  | 0, _, _ => none
  | m5 + 1, z17, x18 =>
    if (decide (x18 < (a0.length : Int))) = true then
      (gidx z17 x16).bind fun q21 =>
      (gidx q21 x14).bind fun e22 =>
      (gidx z17 x14).bind fun q23 =>
      (gidx q23 x18).bind fun e24 =>
      (gadd e22 e24).bind fun x25 =>
      (gidx q21 x18).bind fun e26 =>
      if (decide (x25 < e26)) = true then
        (gadd e22 e24).bind fun x27 =>
        ref6_Distance_j2 n x18 (ref6_Distance_l5 n a0 x14 x16 lp4 m5) (gset z17 x16 (gset q21 x18 x27))
      else
        ref6_Distance_j2 n x18 (ref6_Distance_l5 n a0 x14 x16 lp4 m5) z17
    else
      (gadd x16 1).bind fun x28 =>
      lp4 z17 x28
def ref6_Distance_l4 (n : Nat) (a0 : List (List Int)) (x14 : Int) (lp3 : (List (List Int)) → Int → Option (List (List Int))) : Nat → List (List Int) → Int → Option (List (List Int))
  | 0, _, _ => none
  | m4 + 1, z15, x16 =>
    if (decide (x16 < (a0.length : Int))) = true then
      ref6_Distance_l5 n a0 x14 x16 (ref6_Distance_l4 n a0 x14 lp3 m4) n z15 0
    else
      (gadd x14 1).bind fun x29 =>
      lp3 z15 x29
def ref6_Distance_l3 (n : Nat) (a0 : List (List Int)) : Nat → List (List Int) → Int → Option (List (List Int))
  | 0, _, _ => none
  | m3 + 1, z13, x14 =>
    if (decide (x14 < (a0.length : Int))) = true then
      ref6_Distance_l4 n a0 x14 (ref6_Distance_l3 n a0 m3) n z13 0
    else
      some z13
def ref6_Distance_l1 (n : Nat) (a0 : List (List Int)) : Nat → List (List Int) → Int → Option (List (List Int))
  | 0, _, _ => none
  | m1 + 1, z1, x2 =>
    if (decide (x2 < (a0.length : Int))) = true then
      ref6_Distance_l2 n a0 z1 x2 (ref6_Distance_l1 n a0 m1) n ([] : List Int) 0
    else
      ref6_Distance_l3 n a0 n z1 0
def ref6_Distance (n : Nat) (a0 : List (List Int)) : Option (List (List Int)) :=
  ref6_Distance_l1 n a0 n ([] : List (List Int)) 0

/- changeforge/changeforgeref6.FirstOnCycle -/
def ref6_FirstOnCycle_l1 (n : Nat) (a0 : List (List Int)) (r1 : (List (List Int))) : Nat → Int → Option Int
  | 0, _ => none
  | m1 + 1, x2 =>
    if (decide (x2 < (a0.length : Int))) = true then
      (gidx r1 x2).bind fun e3 =>
      (gidx e3 x2).bind fun e4 =>
      if (decide (e4 < 1000)) = true then
        some x2
      else
        (gadd x2 1).bind fun x5 =>
        (ref6_FirstOnCycle_l1 n a0 r1 m1) x5
    else
      some (-1)
def ref6_FirstOnCycle (n : Nat) (a0 : List (List Int)) : Option Int :=
  (ref6_Distance n a0).bind fun r1 =>
  ref6_FirstOnCycle_l1 n a0 r1 n 0

/- changeforge/changeforgeref6.ShortestCycle -/
def ref6_ShortestCycle_j1 (n : Nat) (x10 : Int) (lp2 : Int → Int → Option (List Int)) (x11 : Int) : Option (List Int) :=
  (gsub x10 1).bind fun x12 =>
  lp2 x11 x12
def ref6_ShortestCycle_j2 (n : Nat) (x9 : Int) (x10 : Int) (lp2 : Int → Int → Option (List Int)) (x13 : Bool) : Option (List Int) :=
  if x13 = true then
    ref6_ShortestCycle_j1 n x10 lp2 x10
  else
    ref6_ShortestCycle_j1 n x10 lp2 x9
def ref6_ShortestCycle_l2 (n : Nat) (a0 : List (List Int)) (a1 : Int) (r1 : (List (List Int))) (w5 : List Int) (x6 : Int) (x7 : Int) (lp1 : (List Int) → Int → Int → Option (List Int)) : Nat → Int → Int → Option (List Int)
  | 0, _, _ => none
  | m2 + 1, x9, x10 =>
    if (decide (0 ≤ x10)) = true then
      (gidx a0 x6).bind fun e14 =>
      (ref5_Has n e14 x10).bind fun r15 =>
      if r15 = true then
        if (decide (x10 ≠ a1)) = true then
          (gidx r1 x10).bind fun e16 =>
          (gidx e16 a1).bind fun e17 =>
          ref6_ShortestCycle_j2 n x9 x10 (ref6_ShortestCycle_l2 n a0 a1 r1 w5 x6 x7 lp1 m2) (decide (e17 = x7))
        else
          ref6_ShortestCycle_j2 n x9 x10 (ref6_ShortestCycle_l2 n a0 a1 r1 w5 x6 x7 lp1 m2) false
      else
        ref6_ShortestCycle_j2 n x9 x10 (ref6_ShortestCycle_l2 n a0 a1 r1 w5 x6 x7 lp1 m2) false
    else
      (gapp 8 w5 ([x9] : List Int)).bind fun w18 =>
      (gsub x7 1).bind fun x19 =>
      lp1 w18 x9 x19
def ref6_ShortestCycle_l1 (n : Nat) (a0 : List (List Int)) (a1 : Int) (r1 : (List (List Int))) : Nat → List Int → Int → Int → Option (List Int)
  | 0, _, _, _ => none
  | m1 + 1, w5, x6, x7 =>
    if (decide (0 < x7)) = true then
      (gsub (a0.length : Int) 1).bind fun x8 =>
      ref6_ShortestCycle_l2 n a0 a1 r1 w5 x6 x7 (ref6_ShortestCycle_l1 n a0 a1 r1 m1) n (-1) x8
    else
      some w5
def ref6_ShortestCycle (n : Nat) (a0 : List (List Int)) (a1 : Int) : Option (List Int) :=
  (ref6_Distance n a0).bind fun r1 =>
  (gidx r1 a1).bind fun e2 =>
  (gidx e2 a1).bind fun e3 =>
  (gsub e3 1).bind fun x4 =>
  ref6_ShortestCycle_l1 n a0 a1 r1 n ([a1] : List Int) a1 x4

/- changeforge/changeforgeref6.ChangedFault -/
def ref6_ChangedFault_j1 (n : Nat) (b2 : Int) (b3 : Int) : Option SCodeIndex :=
  some (⟨b2, b3⟩ : SCodeIndex)
def ref6_ChangedFault (n : Nat) (a0 : List (List Int)) (a1 : List Int) : Option SCodeIndex :=
  (ref6_GraphFault n a0).bind fun r1 =>
  if (decide (r1.Code = 0)) = true then
    (ref6_nodesCode n (a0.length : Int) a1).bind fun r4 =>
    if (decide (r4 ≠ 0)) = true then
      (ref6_fault n r4 (-2)).bind fun r5 =>
      ref6_ChangedFault_j1 n r5.Code r5.Index
    else
      ref6_ChangedFault_j1 n r1.Code r1.Index
  else
    ref6_ChangedFault_j1 n r1.Code r1.Index

/- changeforge/changeforgeref6.Affected -/
def ref6_Affected_j1 (n : Nat) (x3 : Int) (lp1 : (List Int) → Int → Option (List Int)) (w4 : List Int) : Option (List Int) :=
  (gadd x3 1).bind fun x5 =>
  lp1 w4 x5
def ref6_Affected_j2 (n : Nat) (x8 : Int) (lp2 : Bool → Int → Option (List Int)) (x9 : Bool) : Option (List Int) :=
  (gadd x8 1).bind fun x10 =>
  lp2 x9 x10
def ref6_Affected_l2 (n : Nat) (a1 : List Int) (r1 : (List (List Int))) (w2 : List Int) (x3 : Int) (lp1 : (List Int) → Int → Option (List Int)) : Nat → Bool → Int → Option (List Int)
  | 0, _, _ => none
  | m2 + 1, x7, x8 =>
    if (decide (x8 < (a1.length : Int))) = true then
      if x7 = true then
        ref6_Affected_j2 n x8 (ref6_Affected_l2 n a1 r1 w2 x3 lp1 m2) true
      else
        (gidx r1 x3).bind fun e11 =>
        (gidx a1 x8).bind fun e12 =>
        (gidx e11 e12).bind fun e13 =>
        ref6_Affected_j2 n x8 (ref6_Affected_l2 n a1 r1 w2 x3 lp1 m2) (decide (e13 < 1000))
    else
      if x7 = true then
        (gapp 8 w2 ([x3] : List Int)).bind fun w14 =>
        ref6_Affected_j1 n x3 lp1 w14
      else
        ref6_Affected_j1 n x3 lp1 w2
def ref6_Affected_l1 (n : Nat) (a0 : List (List Int)) (a1 : List Int) (r1 : (List (List Int))) : Nat → List Int → Int → Option (List Int)
  | 0, _, _ => none
  | m1 + 1, w2, x3 =>
    if (decide (x3 < (a0.length : Int))) = true then
      (ref5_Has n a1 x3).bind fun r6 =>
      ref6_Affected_l2 n a1 r1 w2 x3 (ref6_Affected_l1 n a0 a1 r1 m1) n r6 0
    else
      some w2
def ref6_Affected (n : Nat) (a0 : List (List Int)) (a1 : List Int) : Option (List Int) :=
  (ref6_Distance n a0).bind fun r1 =>
  ref6_Affected_l1 n a0 a1 r1 n ([] : List Int) 0

/- changeforge/changeforgelaw6.DepgraphMatchesSpec -/
def law6_DepgraphMatchesSpec_j4 (n : Nat) (x7 : Bool) : Option Bool :=
  some x7
def law6_DepgraphMatchesSpec_j3 (n : Nat) (a0 : List (List Int)) (a1 : List Int) : Option Bool :=
  (ref6_ChangedFault n a0 a1).bind fun r5 =>
  (depgraph_Affected n a0 a1).bind fun r6 =>
  if ((r6.2.Code == r5.Code && (r6.2.Index == r5.Index && true)) != false) = true then
    if (decide (r5.Code ≠ 0)) = true then
      if (decide ((r6.1.length : Int) = 0)) = true then
        law6_DepgraphMatchesSpec_j4 n true
      else
        if (decide (r5.Code = 0)) = true then
          (ref6_Affected n a0 a1).bind fun r8 =>
          (ref5_Ints n r6.1 r8).bind fun r9 =>
          law6_DepgraphMatchesSpec_j4 n r9
        else
          law6_DepgraphMatchesSpec_j4 n false
    else
      if (decide (r5.Code = 0)) = true then
        (ref6_Affected n a0 a1).bind fun r10 =>
        (ref5_Ints n r6.1 r10).bind fun r11 =>
        law6_DepgraphMatchesSpec_j4 n r11
      else
        law6_DepgraphMatchesSpec_j4 n false
  else
    law6_DepgraphMatchesSpec_j4 n false
def law6_DepgraphMatchesSpec_j5 (n : Nat) (a0 : List (List Int)) (a1 : List Int) (x13 : Bool) : Option Bool :=
  if x13 = true then
    some false
  else
    law6_DepgraphMatchesSpec_j3 n a0 a1
def law6_DepgraphMatchesSpec_j2 (n : Nat) (a0 : List (List Int)) (a1 : List Int) (r1 : SCodeIndex) (r3 : ((List Int) × Bool × SCodeIndex)) (x4 : Bool) : Option Bool :=
  if x4 = true then
    some false
  else
    if (decide (r1.Code = 0)) = true then
      (ref6_FirstOnCycle n a0).bind fun r12 =>
      if (r3.2.1 != (decide (0 ≤ r12))) = true then
        law6_DepgraphMatchesSpec_j5 n a0 a1 true
      else
        if (!r3.2.1) = true then
          if (decide (0 < (r3.1.length : Int))) = true then
            law6_DepgraphMatchesSpec_j5 n a0 a1 true
          else
            if r3.2.1 = true then
              (ref6_ShortestCycle n a0 r12).bind fun r14 =>
              (ref5_Ints n r3.1 r14).bind fun r15 =>
              law6_DepgraphMatchesSpec_j5 n a0 a1 (!r15)
            else
              law6_DepgraphMatchesSpec_j5 n a0 a1 false
        else
          if r3.2.1 = true then
            (ref6_ShortestCycle n a0 r12).bind fun r16 =>
            (ref5_Ints n r3.1 r16).bind fun r17 =>
            law6_DepgraphMatchesSpec_j5 n a0 a1 (!r17)
          else
            law6_DepgraphMatchesSpec_j5 n a0 a1 false
    else
      law6_DepgraphMatchesSpec_j3 n a0 a1
def law6_DepgraphMatchesSpec_j1 (n : Nat) (a0 : List (List Int)) (a1 : List Int) (r1 : SCodeIndex) (x2 : Bool) : Option Bool :=
  if x2 = true then
    some false
  else
    (depgraph_Cycle n a0).bind fun r3 =>
    if ((r3.2.2.Code == r1.Code && (r3.2.2.Index == r1.Index && true)) != true) = true then
      law6_DepgraphMatchesSpec_j2 n a0 a1 r1 r3 true
    else
      if (decide (r1.Code ≠ 0)) = true then
        if r3.2.1 = true then
          law6_DepgraphMatchesSpec_j2 n a0 a1 r1 r3 true
        else
          law6_DepgraphMatchesSpec_j2 n a0 a1 r1 r3 (decide (0 < (r3.1.length : Int)))
      else
        law6_DepgraphMatchesSpec_j2 n a0 a1 r1 r3 false
def law6_DepgraphMatchesSpec (n : Nat) (a0 : List (List Int)) (a1 : List Int) : Option Bool :=
  (ref6_GraphFault n a0).bind fun r1 =>
  (law6_graphs n).bind fun r18 =>
  if (!r18) = true then
    law6_DepgraphMatchesSpec_j1 n a0 a1 r1 true
  else
    (depgraph_Validate n a0).bind fun r19 =>
    law6_DepgraphMatchesSpec_j1 n a0 a1 r1 ((r19.Code == r1.Code && (r19.Index == r1.Index && true)) != true)

/- changeforge/changeforgeref6.Topological -/
def ref6_Topological_j1 (n : Nat) (w1 : List Int) : Option (List Int) :=
  some w1
def ref6_Topological_j2 (n : Nat) (x5 : Int) (lp2 : Int → Int → Option (List Int)) (x6 : Int) : Option (List Int) :=
  (gsub x5 1).bind fun x7 =>
  lp2 x6 x7
def ref6_Topological_j3 (n : Nat) (x10 : Int) (lp3 : Bool → Int → Option (List Int)) (x12 : Bool) : Option (List Int) :=
  (gadd x10 1).bind fun x13 =>
  lp3 x12 x13
def ref6_Topological_l3 (n : Nat) (a0 : List (List Int)) (w2 : List Int) (x4 : Int) (x5 : Int) (lp2 : Int → Int → Option (List Int)) : Nat → Bool → Int → Option (List Int)
  | 0, _, _ => none
  | m3 + 1, x9, x10 =>
    (gidx a0 x5).bind fun e11 =>
    if (decide (x10 < (e11.length : Int))) = true then
      if x9 = true then
        (gidx e11 x10).bind fun e14 =>
        (ref5_Has n w2 e14).bind fun r15 =>
        ref6_Topological_j3 n x10 (ref6_Topological_l3 n a0 w2 x4 x5 lp2 m3) r15
      else
        ref6_Topological_j3 n x10 (ref6_Topological_l3 n a0 w2 x4 x5 lp2 m3) false
    else
      if x9 = true then
        ref6_Topological_j2 n x5 lp2 x5
      else
        ref6_Topological_j2 n x5 lp2 x4
def ref6_Topological_l2 (n : Nat) (a0 : List (List Int)) (w2 : List Int) (lp1 : (List Int) → Option (List Int)) : Nat → Int → Int → Option (List Int)
  | 0, _, _ => none
  | m2 + 1, x4, x5 =>
    if (decide (0 ≤ x5)) = true then
      (ref5_Has n w2 x5).bind fun r8 =>
      ref6_Topological_l3 n a0 w2 x4 x5 (ref6_Topological_l2 n a0 w2 lp1 m2) n (!r8) 0
    else
      (gapp 8 w2 ([x4] : List Int)).bind fun w16 =>
      lp1 w16
def ref6_Topological_l1 (n : Nat) (a0 : List (List Int)) : Nat → List Int → Option (List Int)
  | 0, _ => none
  | m1 + 1, w2 =>
    if (decide ((w2.length : Int) < (a0.length : Int))) = true then
      (gsub (a0.length : Int) 1).bind fun x3 =>
      ref6_Topological_l2 n a0 w2 (ref6_Topological_l1 n a0 m1) n (-1) x3
    else
      ref6_Topological_j1 n w2
def ref6_Topological (n : Nat) (a0 : List (List Int)) : Option (List Int) :=
  ref6_Topological_l1 n a0 n ([] : List Int)

/- changeforge/changeforgeref6.Levels -/
def ref6_Levels_j1 (n : Nat) (x7 : Int) (lp3 : (List Int) → Int → Option (List Int)) (w9 : List Int) : Option (List Int) :=
  (gadd x7 1).bind fun x10 =>
  lp3 w9 x10
def ref6_Levels_l3 (n : Nat) (a0 : List (List Int)) (x5 : Int) (lp2 : (List Int) → Int → Option (List Int)) : Nat → List Int → Int → Option (List Int)
  | 0, _, _ => none
  | m3 + 1, w6, x7 =>
    (gidx a0 x5).bind fun e8 =>
    if (decide (x7 < (e8.length : Int))) = true then
      (gidx w6 x5).bind fun e11 =>
      (gidx e8 x7).bind fun e12 =>
      (gidx w6 e12).bind fun e13 =>
      (gadd e13 1).bind fun x14 =>
      if (decide (e11 < x14)) = true then
        (gadd e13 1).bind fun x15 =>
        ref6_Levels_j1 n x7 (ref6_Levels_l3 n a0 x5 lp2 m3) (gset w6 x5 x15)
      else
        ref6_Levels_j1 n x7 (ref6_Levels_l3 n a0 x5 lp2 m3) w6
    else
      (gadd x5 1).bind fun x16 =>
      lp2 w6 x16
def ref6_Levels_l2 (n : Nat) (a0 : List (List Int)) (x3 : Int) (lp1 : (List Int) → Int → Option (List Int)) : Nat → List Int → Int → Option (List Int)
  | 0, _, _ => none
  | m2 + 1, w4, x5 =>
    if (decide (x5 < (a0.length : Int))) = true then
      ref6_Levels_l3 n a0 x5 (ref6_Levels_l2 n a0 x3 lp1 m2) n w4 0
    else
      (gadd x3 1).bind fun x17 =>
      lp1 w4 x17
def ref6_Levels_l1 (n : Nat) (a0 : List (List Int)) : Nat → List Int → Int → Option (List Int)
  | 0, _, _ => none
  | m1 + 1, w2, x3 =>
    if (decide (x3 < (a0.length : Int))) = true then
      ref6_Levels_l2 n a0 x3 (ref6_Levels_l1 n a0 m1) n w2 0
    else
      some w2
def ref6_Levels (n : Nat) (a0 : List (List Int)) : Option (List Int) :=
  (gmake 8 0 (a0.length : Int)).bind fun w1 =>
  ref6_Levels_l1 n a0 n w1 0

/- changeforge/changeforgelaw6.DepgraphOrderMatchesSpec -/
def law6_DepgraphOrderMatchesSpec_j3 (n : Nat) (x7 : Bool) : Option Bool :=
  some x7
def law6_DepgraphOrderMatchesSpec_j4 (n : Nat) (x9 : Bool) : Option Bool :=
  some x9
def law6_DepgraphOrderMatchesSpec_j2 (n : Nat) (a0 : List (List Int)) (b2 : Int) (b3 : Int) (r4 : ((List Int) × SCodeIndex)) (r5 : ((List Int) × SCodeIndex)) (x6 : Bool) : Option Bool :=
  if x6 = true then
    (law6_graphs n).bind fun r8 =>
    if r8 = true then
      if ((r4.2.Code == b2 && (r4.2.Index == b3 && true)) != false) = true then
        if ((r5.2.Code == b2 && (r5.2.Index == b3 && true)) != false) = true then
          if (decide ((r4.1.length : Int) = 0)) = true then
            law6_DepgraphOrderMatchesSpec_j3 n (decide ((r5.1.length : Int) = 0))
          else
            law6_DepgraphOrderMatchesSpec_j3 n false
        else
          law6_DepgraphOrderMatchesSpec_j3 n false
      else
        law6_DepgraphOrderMatchesSpec_j3 n false
    else
      law6_DepgraphOrderMatchesSpec_j3 n false
  else
    (ref6_Topological n a0).bind fun r10 =>
    (ref5_Ints n r4.1 r10).bind fun r11 =>
    if r11 = true then
      (ref6_Levels n a0).bind fun r12 =>
      (ref5_Ints n r5.1 r12).bind fun r13 =>
      law6_DepgraphOrderMatchesSpec_j4 n r13
    else
      law6_DepgraphOrderMatchesSpec_j4 n false
def law6_DepgraphOrderMatchesSpec_j1 (n : Nat) (a0 : List (List Int)) (b2 : Int) (b3 : Int) : Option Bool :=
  (depgraph_Order n a0).bind fun r4 =>
  (depgraph_Levels n a0).bind fun r5 =>
  (law6_graphs n).bind fun r14 =>
  if (!r14) = true then
    law6_DepgraphOrderMatchesSpec_j2 n a0 b2 b3 r4 r5 true
  else
    if ((r4.2.Code == b2 && (r4.2.Index == b3 && true)) != true) = true then
      law6_DepgraphOrderMatchesSpec_j2 n a0 b2 b3 r4 r5 true
    else
      if ((r5.2.Code == b2 && (r5.2.Index == b3 && true)) != true) = true then
        law6_DepgraphOrderMatchesSpec_j2 n a0 b2 b3 r4 r5 true
      else
        law6_DepgraphOrderMatchesSpec_j2 n a0 b2 b3 r4 r5 (decide (b2 ≠ 0))
def law6_DepgraphOrderMatchesSpec_j5 (n : Nat) (a0 : List (List Int)) (r1 : SCodeIndex) (x15 : Bool) : Option Bool :=
  if x15 = true then
    (ref6_FirstOnCycle n a0).bind fun r16 =>
    (law6_fault n 20 r16).bind fun r17 =>
    law6_DepgraphOrderMatchesSpec_j1 n a0 r17.Code r17.Index
  else
    law6_DepgraphOrderMatchesSpec_j1 n a0 r1.Code r1.Index
def law6_DepgraphOrderMatchesSpec (n : Nat) (a0 : List (List Int)) : Option Bool :=
  (ref6_GraphFault n a0).bind fun r1 =>
  if (decide (r1.Code = 0)) = true then
    (ref6_FirstOnCycle n a0).bind fun r18 =>
    law6_DepgraphOrderMatchesSpec_j5 n a0 r1 (decide (0 ≤ r18))
  else
    law6_DepgraphOrderMatchesSpec_j5 n a0 r1 false

/- changeforge/changeforgelaw6.position -/
def law6_position_l1 (n : Nat) (a0 : List Int) (a1 : Int) : Nat → Int → Option Int
  | 0, _ => none
  | m1 + 1, x1 =>
    if (decide (x1 < (a0.length : Int))) = true then
      (gidx a0 x1).bind fun e2 =>
      if (decide (e2 = a1)) = true then
        some x1
      else
        (gadd x1 1).bind fun x3 =>
        (law6_position_l1 n a0 a1 m1) x3
    else
      some (-1)
def law6_position (n : Nat) (a0 : List Int) (a1 : Int) : Option Int :=
  law6_position_l1 n a0 a1 n 0

/- changeforge/changeforgelaw6.in -/
def law6_in_j1 (n : Nat) (x1 : Bool) : Option Bool :=
  some x1
def law6_in (n : Nat) (a0 : Int) (a1 : Int) (a2 : Int) : Option Bool :=
  if (decide (a1 ≤ a0)) = true then
    law6_in_j1 n (decide (a0 ≤ a2))
  else
    law6_in_j1 n false

/- changeforge/changeforgelaw6.DepgraphOrdersRespectDependencies -/
def law6_DepgraphOrdersRespectDependencies_j2 (n : Nat) (x4 : Bool) : Option Bool :=
  some x4
def law6_DepgraphOrdersRespectDependencies_j5 (n : Nat) (x9 : Int) (lp2 : Bool → Int → Option Bool) (x11 : Bool) : Option Bool :=
  (gadd x9 1).bind fun x12 =>
  lp2 x11 x12
def law6_DepgraphOrdersRespectDependencies_j6 (n : Nat) (r2 : ((List Int) × SCodeIndex)) (x6 : Int) (x8 : Bool) (x9 : Int) (lp2 : Bool → Int → Option Bool) (e13 : Int) (x14 : Bool) : Option Bool :=
  if x14 = true then
    some false
  else
    if x8 = true then
      law6_DepgraphOrdersRespectDependencies_j5 n x9 lp2 true
    else
      (gidx r2.1 e13).bind fun e15 =>
      (gidx r2.1 x6).bind fun e16 =>
      (gsub e16 1).bind fun x17 =>
      law6_DepgraphOrdersRespectDependencies_j5 n x9 lp2 (decide (e15 = x17))
def law6_DepgraphOrdersRespectDependencies_j7 (n : Nat) (x6 : Int) (lp1 : Int → Option Bool) (x24 : Bool) : Option Bool :=
  if x24 = true then
    some false
  else
    (gadd x6 1).bind fun x25 =>
    lp1 x25
def law6_DepgraphOrdersRespectDependencies_l2 (n : Nat) (a0 : List (List Int)) (r1 : ((List Int) × SCodeIndex)) (r2 : ((List Int) × SCodeIndex)) (x6 : Int) (lp1 : Int → Option Bool) : Nat → Bool → Int → Option Bool
  | 0, _, _ => none
  | m2 + 1, x8, x9 =>
    (gidx a0 x6).bind fun e10 =>
    if (decide (x9 < (e10.length : Int))) = true then
      (gidx e10 x9).bind fun e13 =>
      (gsub (r2.1.length : Int) 1).bind fun x18 =>
      (law6_in n e13 0 x18).bind fun r19 =>
      if (!r19) = true then
        law6_DepgraphOrdersRespectDependencies_j6 n r2 x6 x8 x9 (law6_DepgraphOrdersRespectDependencies_l2 n a0 r1 r2 x6 lp1 m2) e13 true
      else
        (law6_position n r1.1 e13).bind fun r20 =>
        (law6_position n r1.1 x6).bind fun r21 =>
        if (decide (r21 ≤ r20)) = true then
          law6_DepgraphOrdersRespectDependencies_j6 n r2 x6 x8 x9 (law6_DepgraphOrdersRespectDependencies_l2 n a0 r1 r2 x6 lp1 m2) e13 true
        else
          (gidx r2.1 e13).bind fun e22 =>
          (gidx r2.1 x6).bind fun e23 =>
          law6_DepgraphOrdersRespectDependencies_j6 n r2 x6 x8 x9 (law6_DepgraphOrdersRespectDependencies_l2 n a0 r1 r2 x6 lp1 m2) e13 (decide (e23 ≤ e22))
    else
      if (decide (0 < (e10.length : Int))) = true then
        law6_DepgraphOrdersRespectDependencies_j7 n x6 lp1 (!x8)
      else
        law6_DepgraphOrdersRespectDependencies_j7 n x6 lp1 false
def law6_DepgraphOrdersRespectDependencies_j4 (n : Nat) (a0 : List (List Int)) (r1 : ((List Int) × SCodeIndex)) (r2 : ((List Int) × SCodeIndex)) (x6 : Int) (lp1 : Int → Option Bool) (x7 : Bool) : Option Bool :=
  if x7 = true then
    some false
  else
    law6_DepgraphOrdersRespectDependencies_l2 n a0 r1 r2 x6 lp1 n false 0
def law6_DepgraphOrdersRespectDependencies_l1 (n : Nat) (a0 : List (List Int)) (r1 : ((List Int) × SCodeIndex)) (r2 : ((List Int) × SCodeIndex)) : Nat → Int → Option Bool
  | 0, _ => none
  | m1 + 1, x6 =>
    if (decide (x6 < (a0.length : Int))) = true then
      (law6_position n r1.1 x6).bind fun r26 =>
      if (decide (r26 < 0)) = true then
        law6_DepgraphOrdersRespectDependencies_j4 n a0 r1 r2 x6 (law6_DepgraphOrdersRespectDependencies_l1 n a0 r1 r2 m1) true
      else
        (gidx a0 x6).bind fun e27 =>
        if (decide ((e27.length : Int) = 0)) = true then
          (gidx r2.1 x6).bind fun e28 =>
          law6_DepgraphOrdersRespectDependencies_j4 n a0 r1 r2 x6 (law6_DepgraphOrdersRespectDependencies_l1 n a0 r1 r2 m1) (decide (e28 ≠ 0))
        else
          law6_DepgraphOrdersRespectDependencies_j4 n a0 r1 r2 x6 (law6_DepgraphOrdersRespectDependencies_l1 n a0 r1 r2 m1) false
    else
      some true
def law6_DepgraphOrdersRespectDependencies_j3 (n : Nat) (a0 : List (List Int)) (r1 : ((List Int) × SCodeIndex)) (r2 : ((List Int) × SCodeIndex)) (x5 : Bool) : Option Bool :=
  if x5 = true then
    some false
  else
    law6_DepgraphOrdersRespectDependencies_l1 n a0 r1 r2 n 0
def law6_DepgraphOrdersRespectDependencies_j1 (n : Nat) (a0 : List (List Int)) (r1 : ((List Int) × SCodeIndex)) (r2 : ((List Int) × SCodeIndex)) (x3 : Bool) : Option Bool :=
  if x3 = true then
    some false
  else
    if (decide (r1.2.Code ≠ 0)) = true then
      if (decide ((r1.1.length : Int) = 0)) = true then
        law6_DepgraphOrdersRespectDependencies_j2 n (decide ((r2.1.length : Int) = 0))
      else
        law6_DepgraphOrdersRespectDependencies_j2 n false
    else
      if (decide ((r1.1.length : Int) ≠ (a0.length : Int))) = true then
        law6_DepgraphOrdersRespectDependencies_j3 n a0 r1 r2 true
      else
        law6_DepgraphOrdersRespectDependencies_j3 n a0 r1 r2 (decide ((r2.1.length : Int) ≠ (a0.length : Int)))
def law6_DepgraphOrdersRespectDependencies (n : Nat) (a0 : List (List Int)) : Option Bool :=
  (depgraph_Order n a0).bind fun r1 =>
  (depgraph_Levels n a0).bind fun r2 =>
  (law6_graphs n).bind fun r29 =>
  if (!r29) = true then
    law6_DepgraphOrdersRespectDependencies_j1 n a0 r1 r2 true
  else
    law6_DepgraphOrdersRespectDependencies_j1 n a0 r1 r2 ((r1.2.Code == r2.2.Code && (r1.2.Index == r2.2.Index && true)) != true)

/- changeforge/changeforgelaw6.DepgraphCyclesExplainFailures -/
def law6_DepgraphCyclesExplainFailures_j2 (n : Nat) (x4 : Bool) : Option Bool :=
  some x4
def law6_DepgraphCyclesExplainFailures_j3 (n : Nat) (x6 : Bool) : Option Bool :=
  some x6
def law6_DepgraphCyclesExplainFailures_j5 (n : Nat) (a0 : List (List Int)) (r2 : ((List Int) × Bool × SCodeIndex)) (x8 : Int) (lp1 : Int → Option Bool) (x9 : Bool) : Option Bool :=
  if x9 = true then
    some false
  else
    (gidx r2.1 x8).bind fun e10 =>
    (gidx a0 e10).bind fun e11 =>
    (gadd x8 1).bind fun x12 =>
    (grem x12 (r2.1.length : Int)).bind fun x13 =>
    (gidx r2.1 x13).bind fun e14 =>
    (ref5_Has n e11 e14).bind fun r15 =>
    if (!r15) = true then
      some false
    else
      (gadd x8 1).bind fun x16 =>
      lp1 x16
def law6_DepgraphCyclesExplainFailures_l1 (n : Nat) (a0 : List (List Int)) (r2 : ((List Int) × Bool × SCodeIndex)) : Nat → Int → Option Bool
  | 0, _ => none
  | m1 + 1, x8 =>
    if (decide (x8 < (r2.1.length : Int))) = true then
      (gidx r2.1 x8).bind fun e17 =>
      (gsub (a0.length : Int) 1).bind fun x18 =>
      (law6_in n e17 0 x18).bind fun r19 =>
      if (!r19) = true then
        law6_DepgraphCyclesExplainFailures_j5 n a0 r2 x8 (law6_DepgraphCyclesExplainFailures_l1 n a0 r2 m1) true
      else
        (law6_position n r2.1 e17).bind fun r20 =>
        if (decide (r20 ≠ x8)) = true then
          law6_DepgraphCyclesExplainFailures_j5 n a0 r2 x8 (law6_DepgraphCyclesExplainFailures_l1 n a0 r2 m1) true
        else
          (gidx r2.1 0).bind fun e21 =>
          law6_DepgraphCyclesExplainFailures_j5 n a0 r2 x8 (law6_DepgraphCyclesExplainFailures_l1 n a0 r2 m1) (decide (e17 < e21))
    else
      some true
def law6_DepgraphCyclesExplainFailures_j4 (n : Nat) (a0 : List (List Int)) (r2 : ((List Int) × Bool × SCodeIndex)) (x7 : Bool) : Option Bool :=
  if x7 = true then
    some false
  else
    law6_DepgraphCyclesExplainFailures_l1 n a0 r2 n 0
def law6_DepgraphCyclesExplainFailures_j1 (n : Nat) (a0 : List (List Int)) (r1 : ((List Int) × SCodeIndex)) (r2 : ((List Int) × Bool × SCodeIndex)) (x3 : Bool) : Option Bool :=
  if x3 = true then
    (law6_graphs n).bind fun r5 =>
    if r5 = true then
      if (!r2.2.1) = true then
        if (decide ((r2.1.length : Int) = 0)) = true then
          law6_DepgraphCyclesExplainFailures_j2 n ((r1.2.Code == r2.2.2.Code && (r1.2.Index == r2.2.2.Index && true)) != false)
        else
          law6_DepgraphCyclesExplainFailures_j2 n false
      else
        law6_DepgraphCyclesExplainFailures_j2 n false
    else
      law6_DepgraphCyclesExplainFailures_j2 n false
  else
    if (!r2.2.1) = true then
      if (decide (r1.2.Code = 0)) = true then
        law6_DepgraphCyclesExplainFailures_j3 n (decide ((r2.1.length : Int) = 0))
      else
        law6_DepgraphCyclesExplainFailures_j3 n false
    else
      if (decide ((r2.1.length : Int) = 0)) = true then
        law6_DepgraphCyclesExplainFailures_j4 n a0 r2 true
      else
        (gidx r2.1 0).bind fun e22 =>
        (law6_fault n 20 e22).bind fun r23 =>
        law6_DepgraphCyclesExplainFailures_j4 n a0 r2 ((r1.2.Code == r23.Code && (r1.2.Index == r23.Index && true)) != true)
def law6_DepgraphCyclesExplainFailures (n : Nat) (a0 : List (List Int)) : Option Bool :=
  (depgraph_Order n a0).bind fun r1 =>
  (depgraph_Cycle n a0).bind fun r2 =>
  (law6_graphs n).bind fun r24 =>
  if (!r24) = true then
    law6_DepgraphCyclesExplainFailures_j1 n a0 r1 r2 true
  else
    law6_DepgraphCyclesExplainFailures_j1 n a0 r1 r2 (decide (r2.2.2.Code ≠ 0))

/- changeforge/changeforgelaw6.joined -/
def law6_joined_j1 (n : Nat) (x2 : Int) (lp1 : (List Int) → Int → Option (List Int)) (w3 : List Int) : Option (List Int) :=
  (gadd x2 1).bind fun x4 =>
  lp1 w3 x4
def law6_joined_j2 (n : Nat) (w1 : List Int) (x2 : Int) (lp1 : (List Int) → Int → Option (List Int)) (x5 : Bool) : Option (List Int) :=
  if x5 = true then
    (gapp 8 w1 ([x2] : List Int)).bind fun w6 =>
    law6_joined_j1 n x2 lp1 w6
  else
    law6_joined_j1 n x2 lp1 w1
def law6_joined_l1 (n : Nat) (a0 : List Int) (a1 : List Int) : Nat → List Int → Int → Option (List Int)
  | 0, _, _ => none
  | m1 + 1, w1, x2 =>
    if (decide (x2 < 24)) = true then
      (ref5_Has n a0 x2).bind fun r7 =>
      if r7 = true then
        law6_joined_j2 n w1 x2 (law6_joined_l1 n a0 a1 m1) true
      else
        (ref5_Has n a1 x2).bind fun r8 =>
        law6_joined_j2 n w1 x2 (law6_joined_l1 n a0 a1 m1) r8
    else
      some w1
def law6_joined (n : Nat) (a0 : List Int) (a1 : List Int) : Option (List Int) :=
  law6_joined_l1 n a0 a1 n ([] : List Int) 0

/- changeforge/changeforgelaw6.DepgraphAffectedIsAClosure -/
def law6_DepgraphAffectedIsAClosure_j2 (n : Nat) (x5 : Bool) : Option Bool :=
  some x5
def law6_DepgraphAffectedIsAClosure_j3 (n : Nat) (x9 : Bool) : Option Bool :=
  some x9
def law6_DepgraphAffectedIsAClosure_j1 (n : Nat) (a0 : List (List Int)) (a1 : List Int) (a2 : List Int) (r1 : ((List Int) × SCodeIndex)) (r2 : ((List Int) × SCodeIndex)) (x4 : Bool) : Option Bool :=
  if x4 = true then
    if (decide (r1.2.Code = 0)) = true then
      if (decide (r2.2.Code = 0)) = true then
        law6_DepgraphAffectedIsAClosure_j2 n true
      else
        law6_DepgraphAffectedIsAClosure_j2 n (decide ((r2.1.length : Int) = 0))
    else
      if (decide ((r1.1.length : Int) = 0)) = true then
        if (decide (r2.2.Code = 0)) = true then
          law6_DepgraphAffectedIsAClosure_j2 n true
        else
          law6_DepgraphAffectedIsAClosure_j2 n (decide ((r2.1.length : Int) = 0))
      else
        law6_DepgraphAffectedIsAClosure_j2 n false
  else
    (depgraph_Affected n a0 r1.1).bind fun r6 =>
    (law6_joined n a1 a2).bind fun r7 =>
    (depgraph_Affected n a0 r7).bind fun r8 =>
    if (decide (r6.2.Code = 0)) = true then
      if (decide (r8.2.Code = 0)) = true then
        (ref5_Ints n r6.1 r1.1).bind fun r10 =>
        if r10 = true then
          (law6_joined n a1 r1.1).bind fun r11 =>
          (ref5_Ints n r11 r1.1).bind fun r12 =>
          if r12 = true then
            (law6_joined n r1.1 r2.1).bind fun r13 =>
            (ref5_Ints n r8.1 r13).bind fun r14 =>
            law6_DepgraphAffectedIsAClosure_j3 n r14
          else
            law6_DepgraphAffectedIsAClosure_j3 n false
        else
          law6_DepgraphAffectedIsAClosure_j3 n false
      else
        law6_DepgraphAffectedIsAClosure_j3 n false
    else
      law6_DepgraphAffectedIsAClosure_j3 n false
def law6_DepgraphAffectedIsAClosure (n : Nat) (a0 : List (List Int)) (a1 : List Int) (a2 : List Int) : Option Bool :=
  (depgraph_Affected n a0 a1).bind fun r1 =>
  (depgraph_Affected n a0 a2).bind fun r2 =>
  (law6_graphs n).bind fun r3 =>
  if (!r3) = true then
    some false
  else
    if (decide (r1.2.Code ≠ 0)) = true then
      law6_DepgraphAffectedIsAClosure_j1 n a0 a1 a2 r1 r2 true
    else
      law6_DepgraphAffectedIsAClosure_j1 n a0 a1 a2 r1 r2 (decide (r2.2.Code ≠ 0))

/- changeforge/changeforgelaw6.DepgraphAffectedNodesDepend -/
def law6_DepgraphAffectedNodesDepend_j2 (n : Nat) (x3 : Bool) : Option Bool :=
  some x3
def law6_DepgraphAffectedNodesDepend_j3 (n : Nat) (x7 : Int) (lp2 : Bool → Int → Option Bool) (x9 : Bool) : Option Bool :=
  (gadd x7 1).bind fun x10 =>
  lp2 x9 x10
def law6_DepgraphAffectedNodesDepend_j4 (n : Nat) (x5 : Int) (lp1 : Int → Option Bool) (x13 : Bool) : Option Bool :=
  if x13 = true then
    some false
  else
    (gadd x5 1).bind fun x14 =>
    lp1 x14
def law6_DepgraphAffectedNodesDepend_l2 (n : Nat) (a0 : List (List Int)) (a1 : List Int) (r1 : ((List Int) × SCodeIndex)) (x5 : Int) (lp1 : Int → Option Bool) : Nat → Bool → Int → Option Bool
  | 0, _, _ => none
  | m2 + 1, x6, x7 =>
    (gidx a0 x5).bind fun e8 =>
    if (decide (x7 < (e8.length : Int))) = true then
      if x6 = true then
        law6_DepgraphAffectedNodesDepend_j3 n x7 (law6_DepgraphAffectedNodesDepend_l2 n a0 a1 r1 x5 lp1 m2) true
      else
        (gidx e8 x7).bind fun e11 =>
        (ref5_Has n r1.1 e11).bind fun r12 =>
        law6_DepgraphAffectedNodesDepend_j3 n x7 (law6_DepgraphAffectedNodesDepend_l2 n a0 a1 r1 x5 lp1 m2) r12
    else
      (ref5_Has n r1.1 x5).bind fun r15 =>
      if x6 = true then
        law6_DepgraphAffectedNodesDepend_j4 n x5 lp1 (r15 != true)
      else
        (ref5_Has n a1 x5).bind fun r16 =>
        law6_DepgraphAffectedNodesDepend_j4 n x5 lp1 (r15 != r16)
def law6_DepgraphAffectedNodesDepend_l1 (n : Nat) (a0 : List (List Int)) (a1 : List Int) (r1 : ((List Int) × SCodeIndex)) : Nat → Int → Option Bool
  | 0, _ => none
  | m1 + 1, x5 =>
    if (decide (x5 < (a0.length : Int))) = true then
      law6_DepgraphAffectedNodesDepend_l2 n a0 a1 r1 x5 (law6_DepgraphAffectedNodesDepend_l1 n a0 a1 r1 m1) n false 0
    else
      some true
def law6_DepgraphAffectedNodesDepend_j1 (n : Nat) (a0 : List (List Int)) (a1 : List Int) (r1 : ((List Int) × SCodeIndex)) (x2 : Bool) : Option Bool :=
  if x2 = true then
    (law6_graphs n).bind fun r4 =>
    if r4 = true then
      law6_DepgraphAffectedNodesDepend_j2 n (decide ((r1.1.length : Int) = 0))
    else
      law6_DepgraphAffectedNodesDepend_j2 n false
  else
    law6_DepgraphAffectedNodesDepend_l1 n a0 a1 r1 n 0
def law6_DepgraphAffectedNodesDepend (n : Nat) (a0 : List (List Int)) (a1 : List Int) : Option Bool :=
  (depgraph_Affected n a0 a1).bind fun r1 =>
  (law6_graphs n).bind fun r17 =>
  if (!r17) = true then
    law6_DepgraphAffectedNodesDepend_j1 n a0 a1 r1 true
  else
    law6_DepgraphAffectedNodesDepend_j1 n a0 a1 r1 (decide (r1.2.Code ≠ 0))
end Go.Proofs.Ytpbfobgbpdbiaaa
