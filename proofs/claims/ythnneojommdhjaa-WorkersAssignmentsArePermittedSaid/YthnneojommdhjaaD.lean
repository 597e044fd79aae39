/- The types of the functions, and what the functions compute: partial operations as options; n is the fuel of each loop. Laid by a program (wip/gen/dec.py). -/
import Derived.Test.YthnneojommdhjaaPwDec
namespace Go.Proofs.Ythnneojommdhjaa
open Go.PW Go
structure SNeedStateReportsValues where
  f_need : Int
  f_state : List Int
  f_reports : List (List Int)
  f_values : List Int
  deriving DecidableEq
def SNeedStateReportsValues.cells (x : SNeedStateReportsValues) : List PV := [.int .i64 x.f_need, .list 1 (List.map cI x.f_state), .list 1 (List.map (cL 1 cI) x.f_reports), .list 1 (List.map cI x.f_values)]
structure SCodeIndex where
  Code : Int
  Index : Int
  deriving DecidableEq
def SCodeIndex.cells (x : SCodeIndex) : List PV := [.int .i64 x.Code, .int .i64 x.Index]
structure SKindWorkerJobValue where
  Kind : Int
  Worker : Int
  Job : Int
  Value : Int
  deriving DecidableEq
def SKindWorkerJobValue.cells (x : SKindWorkerJobValue) : List PV := [.int .i64 x.Kind, .int .i64 x.Worker, .int .i64 x.Job, .int .i64 x.Value]
/- changeforge/workers.fill -/
def workers_fill_l1 (n : Nat) (a1 : Int) (w1 : List Int) : Nat → List Int → Int → Option (List Int)
  | 0, _, _ => none
  | m1 + 1, w2, x3 =>
    if (decide (x3 < (w1.length : Int))) = true then
      (gidx w2 x3).bind fun e4 =>
      (gadd x3 1).bind fun x5 =>
      (workers_fill_l1 n a1 w1 m1) (gset w2 x3 a1) x5
    else
      some w2
def workers_fill (n : Nat) (a0 : Int) (a1 : Int) : Option (List Int) :=
  (gmake 8 0 a0).bind fun w1 =>
  workers_fill_l1 n a1 w1 n w1 0

/- changeforge/workers.play -/
def workers_play_j2 (n : Nat) (x12 : Int) (lp2 : (List Int) → (List (List Int)) → (List Int) → Int → Option ((Option SNeedStateReportsValues) × SCodeIndex)) (x14 : Int) (w15 : List Int) (z16 : List (List Int)) (w17 : List Int) : Option ((Option SNeedStateReportsValues) × SCodeIndex) :=
  if (decide (x14 ≠ 0)) = true then
    some (none, (⟨x14, x12⟩ : SCodeIndex))
  else
    (gadd x12 1).bind fun x18 =>
    lp2 w15 z16 w17 x18
def workers_play_j4 (n : Nat) (x12 : Int) (lp2 : (List Int) → (List (List Int)) → (List Int) → Int → Option ((Option SNeedStateReportsValues) × SCodeIndex)) (w21 : List Int) (z22 : List (List Int)) (w23 : List Int) : Option ((Option SNeedStateReportsValues) × SCodeIndex) :=
  workers_play_j2 n x12 lp2 0 w21 z22 w23
def workers_play_j5 (n : Nat) (w9 : List Int) (z10 : List (List Int)) (x12 : Int) (lp2 : (List Int) → (List (List Int)) → (List Int) → Int → Option ((Option SNeedStateReportsValues) × SCodeIndex)) (e13 : SKindWorkerJobValue) (e20 : Int) (q26 : List Int) (w28 : List Int) : Option ((Option SNeedStateReportsValues) × SCodeIndex) :=
  workers_play_j4 n x12 lp2 (gset w9 e13.Worker (-1)) (gset z10 e20 (gset q26 e13.Worker e13.Value)) w28
def workers_play_j6 (n : Nat) (x31 : Int) (lp3 : Int → Int → Option ((Option SNeedStateReportsValues) × SCodeIndex)) (x32 : Int) : Option ((Option SNeedStateReportsValues) × SCodeIndex) :=
  (gadd x31 1).bind fun x33 =>
  lp3 x32 x33
def workers_play_j7 (n : Nat) (w9 : List Int) (z10 : List (List Int)) (w11 : List Int) (x12 : Int) (lp2 : (List Int) → (List (List Int)) → (List Int) → Int → Option ((Option SNeedStateReportsValues) × SCodeIndex)) (e13 : SKindWorkerJobValue) (e20 : Int) (q26 : List Int) (x36 : Bool) : Option ((Option SNeedStateReportsValues) × SCodeIndex) :=
  if x36 = true then
    (gidx w11 e20).bind fun e37 =>
    workers_play_j5 n w9 z10 x12 lp2 e13 e20 q26 (gset w11 e20 e13.Value)
  else
    workers_play_j5 n w9 z10 x12 lp2 e13 e20 q26 w11
def workers_play_l3 (n : Nat) (a2 : Int) (w9 : List Int) (z10 : List (List Int)) (w11 : List Int) (x12 : Int) (lp2 : (List Int) → (List (List Int)) → (List Int) → Int → Option ((Option SNeedStateReportsValues) × SCodeIndex)) (e13 : SKindWorkerJobValue) (e20 : Int) (q26 : List Int) (q29 : List Int) : Nat → Int → Int → Option ((Option SNeedStateReportsValues) × SCodeIndex)
  | 0, _, _ => none
  | m3 + 1, x30, x31 =>
    if (decide (x31 < (q29.length : Int))) = true then
      (gidx q29 x31).bind fun e34 =>
      if (decide (e34 = e13.Value)) = true then
        (gadd x30 1).bind fun x35 =>
        workers_play_j6 n x31 (workers_play_l3 n a2 w9 z10 w11 x12 lp2 e13 e20 q26 q29 m3) x35
      else
        workers_play_j6 n x31 (workers_play_l3 n a2 w9 z10 w11 x12 lp2 e13 e20 q26 q29 m3) x30
    else
      if (decide (a2 ≤ x30)) = true then
        (gidx w11 e20).bind fun e38 =>
        workers_play_j7 n w9 z10 w11 x12 lp2 e13 e20 q26 (decide (e38 < 0))
      else
        workers_play_j7 n w9 z10 w11 x12 lp2 e13 e20 q26 false
def workers_play_j3 (n : Nat) (a2 : Int) (w9 : List Int) (z10 : List (List Int)) (w11 : List Int) (x12 : Int) (lp2 : (List Int) → (List (List Int)) → (List Int) → Int → Option ((Option SNeedStateReportsValues) × SCodeIndex)) (e13 : SKindWorkerJobValue) (x19 : Int) : Option ((Option SNeedStateReportsValues) × SCodeIndex) :=
  if (decide (x19 ≠ 0)) = true then
    workers_play_j2 n x12 lp2 x19 w9 z10 w11
  else
    (gidx w9 e13.Worker).bind fun e20 =>
    if (decide (e13.Kind = 1)) = true then
      if (decide (e20 ≠ (-1))) = true then
        workers_play_j2 n x12 lp2 11 w9 z10 w11
      else
        (gidx z10 e13.Job).bind fun q24 =>
        (gidx q24 e13.Worker).bind fun e25 =>
        if (decide (0 ≤ e25)) = true then
          workers_play_j2 n x12 lp2 7 w9 z10 w11
        else
          workers_play_j4 n x12 lp2 (gset w9 e13.Worker e13.Job) z10 w11
    else
      if (decide (e13.Kind = 2)) = true then
        if (decide (e20 < 0)) = true then
          workers_play_j2 n x12 lp2 11 w9 z10 w11
        else
          (gidx z10 e20).bind fun q26 =>
          (gidx q26 e13.Worker).bind fun e27 =>
          (gidx (gset z10 e20 (gset q26 e13.Worker e13.Value)) e20).bind fun q29 =>
          workers_play_l3 n a2 w9 z10 w11 x12 lp2 e13 e20 q26 q29 n 0 0
      else
        if (decide (e13.Kind = 3)) = true then
          if (decide (e20 = (-2))) = true then
            workers_play_j2 n x12 lp2 11 w9 z10 w11
          else
            workers_play_j4 n x12 lp2 (gset w9 e13.Worker (-2)) z10 w11
        else
          if (decide (e20 ≠ (-2))) = true then
            workers_play_j2 n x12 lp2 11 w9 z10 w11
          else
            workers_play_j4 n x12 lp2 (gset w9 e13.Worker (-1)) z10 w11
def workers_play_j11 (n : Nat) (a2 : Int) (w9 : List Int) (z10 : List (List Int)) (w11 : List Int) (x12 : Int) (lp2 : (List Int) → (List (List Int)) → (List Int) → Int → Option ((Option SNeedStateReportsValues) × SCodeIndex)) (e13 : SKindWorkerJobValue) (x42 : Bool) : Option ((Option SNeedStateReportsValues) × SCodeIndex) :=
  if x42 = true then
    workers_play_j3 n a2 w9 z10 w11 x12 lp2 e13 3
  else
    workers_play_j3 n a2 w9 z10 w11 x12 lp2 e13 0
def workers_play_j10 (n : Nat) (a2 : Int) (w9 : List Int) (z10 : List (List Int)) (w11 : List Int) (x12 : Int) (lp2 : (List Int) → (List (List Int)) → (List Int) → Int → Option ((Option SNeedStateReportsValues) × SCodeIndex)) (e13 : SKindWorkerJobValue) (x41 : Bool) : Option ((Option SNeedStateReportsValues) × SCodeIndex) :=
  if x41 = true then
    workers_play_j3 n a2 w9 z10 w11 x12 lp2 e13 5
  else
    if (decide (e13.Kind = 1)) = true then
      if (decide (e13.Job < 0)) = true then
        workers_play_j11 n a2 w9 z10 w11 x12 lp2 e13 true
      else
        if (decide ((w11.length : Int) ≤ e13.Job)) = true then
          workers_play_j11 n a2 w9 z10 w11 x12 lp2 e13 true
        else
          if (decide (e13.Kind = 2)) = true then
            if (decide (e13.Value < 0)) = true then
              workers_play_j11 n a2 w9 z10 w11 x12 lp2 e13 true
            else
              workers_play_j11 n a2 w9 z10 w11 x12 lp2 e13 (decide (1000000000 < e13.Value))
          else
            workers_play_j11 n a2 w9 z10 w11 x12 lp2 e13 false
    else
      if (decide (e13.Kind = 2)) = true then
        if (decide (e13.Value < 0)) = true then
          workers_play_j11 n a2 w9 z10 w11 x12 lp2 e13 true
        else
          workers_play_j11 n a2 w9 z10 w11 x12 lp2 e13 (decide (1000000000 < e13.Value))
      else
        workers_play_j11 n a2 w9 z10 w11 x12 lp2 e13 false
def workers_play_j9 (n : Nat) (a2 : Int) (w9 : List Int) (z10 : List (List Int)) (w11 : List Int) (x12 : Int) (lp2 : (List Int) → (List (List Int)) → (List Int) → Int → Option ((Option SNeedStateReportsValues) × SCodeIndex)) (e13 : SKindWorkerJobValue) (x40 : Bool) : Option ((Option SNeedStateReportsValues) × SCodeIndex) :=
  if x40 = true then
    workers_play_j3 n a2 w9 z10 w11 x12 lp2 e13 3
  else
    if (!(decide (e13.Kind = 1))) = true then
      if (decide (e13.Job ≠ 0)) = true then
        workers_play_j10 n a2 w9 z10 w11 x12 lp2 e13 true
      else
        if (!(decide (e13.Kind = 2))) = true then
          workers_play_j10 n a2 w9 z10 w11 x12 lp2 e13 (decide (e13.Value ≠ 0))
        else
          workers_play_j10 n a2 w9 z10 w11 x12 lp2 e13 false
    else
      if (!(decide (e13.Kind = 2))) = true then
        workers_play_j10 n a2 w9 z10 w11 x12 lp2 e13 (decide (e13.Value ≠ 0))
      else
        workers_play_j10 n a2 w9 z10 w11 x12 lp2 e13 false
def workers_play_j8 (n : Nat) (a2 : Int) (w9 : List Int) (z10 : List (List Int)) (w11 : List Int) (x12 : Int) (lp2 : (List Int) → (List (List Int)) → (List Int) → Int → Option ((Option SNeedStateReportsValues) × SCodeIndex)) (e13 : SKindWorkerJobValue) (x39 : Bool) : Option ((Option SNeedStateReportsValues) × SCodeIndex) :=
  if x39 = true then
    workers_play_j3 n a2 w9 z10 w11 x12 lp2 e13 4
  else
    if (decide (e13.Worker < 0)) = true then
      workers_play_j9 n a2 w9 z10 w11 x12 lp2 e13 true
    else
      workers_play_j9 n a2 w9 z10 w11 x12 lp2 e13 (decide ((w9.length : Int) ≤ e13.Worker))
def workers_play_l2 (n : Nat) (a2 : Int) (a3 : List SKindWorkerJobValue) : Nat → List Int → List (List Int) → List Int → Int → Option ((Option SNeedStateReportsValues) × SCodeIndex)
  | 0, _, _, _, _ => none
  | m2 + 1, w9, z10, w11, x12 =>
    if (decide (x12 < (a3.length : Int))) = true then
      (gidx a3 x12).bind fun e13 =>
      if (decide (e13.Kind < 1)) = true then
        workers_play_j8 n a2 w9 z10 w11 x12 (workers_play_l2 n a2 a3 m2) e13 true
      else
        workers_play_j8 n a2 w9 z10 w11 x12 (workers_play_l2 n a2 a3 m2) e13 (decide (4 < e13.Kind))
    else
      some ((some (⟨a2, w9, z10, w11⟩ : SNeedStateReportsValues)), (⟨0, 0⟩ : SCodeIndex))
def workers_play_l1 (n : Nat) (a0 : Int) (a1 : Int) (a2 : Int) (a3 : List SKindWorkerJobValue) (r2 : (List Int)) (r3 : (List Int)) : Nat → List (List Int) → Int → Option ((Option SNeedStateReportsValues) × SCodeIndex)
  | 0, _, _ => none
  | m1 + 1, z4, x5 =>
    if (decide (x5 < a0)) = true then
      (workers_fill n a1 (-1)).bind fun r6 =>
      (gapp 24 z4 [r6]).bind fun w7 =>
      (gadd x5 1).bind fun x8 =>
      (workers_play_l1 n a0 a1 a2 a3 r2 r3 m1) (z4 ++ [r6]) x8
    else
      workers_play_l2 n a2 a3 n r2 z4 r3 0
def workers_play_j1 (n : Nat) (a0 : Int) (a1 : Int) (a2 : Int) (a3 : List SKindWorkerJobValue) (x1 : Bool) : Option ((Option SNeedStateReportsValues) × SCodeIndex) :=
  if x1 = true then
    some (none, (⟨3, (-1)⟩ : SCodeIndex))
  else
    if (decide (40 < (a3.length : Int))) = true then
      some (none, (⟨2, (-1)⟩ : SCodeIndex))
    else
      (workers_fill n a1 (-1)).bind fun r2 =>
      (workers_fill n a0 (-1)).bind fun r3 =>
      workers_play_l1 n a0 a1 a2 a3 r2 r3 n ([] : List (List Int)) 0
def workers_play (n : Nat) (a0 : Int) (a1 : Int) (a2 : Int) (a3 : List SKindWorkerJobValue) : Option ((Option SNeedStateReportsValues) × SCodeIndex) :=
  if (decide (a0 < 0)) = true then
    workers_play_j1 n a0 a1 a2 a3 true
  else
    if (decide (12 < a0)) = true then
      workers_play_j1 n a0 a1 a2 a3 true
    else
      if (decide (a1 < 1)) = true then
        workers_play_j1 n a0 a1 a2 a3 true
      else
        if (decide (8 < a1)) = true then
          workers_play_j1 n a0 a1 a2 a3 true
        else
          if (decide (a2 < 1)) = true then
            workers_play_j1 n a0 a1 a2 a3 true
          else
            workers_play_j1 n a0 a1 a2 a3 (decide (a1 < a2))

/- changeforge/workers.Play -/
def workers_Play (n : Nat) (a0 : Int) (a1 : Int) (a2 : Int) (a3 : List SKindWorkerJobValue) : Option ((List Int) × SCodeIndex) :=
  (workers_play n a0 a1 a2 a3).bind fun r1 =>
  if ((r1.2.Code == 0 && (r1.2.Index == 0 && true)) != true) = true then
    some (([] : List Int), (⟨r1.2.Code, r1.2.Index⟩ : SCodeIndex))
  else
    (r1.1).bind fun p2 =>
    some (p2.f_values, (⟨0, 0⟩ : SCodeIndex))

/- changeforge/changeforgelaw6.fault -/
def law6_fault (n : Nat) (a0 : Int) (a1 : Int) : Option SCodeIndex :=
  some (⟨a0, a1⟩ : SCodeIndex)

/- changeforge/workers.Reports -/
def workers_Reports_j1 (n : Nat) (a4 : Int) (r1 : ((Option SNeedStateReportsValues) × SCodeIndex)) (x2 : Bool) : Option ((List Int) × SCodeIndex) :=
  if x2 = true then
    some (([] : List Int), (⟨3, (-2)⟩ : SCodeIndex))
  else
    (r1.1).bind fun p3 =>
    (gidx p3.f_reports a4).bind fun e4 =>
    some (e4, (⟨0, 0⟩ : SCodeIndex))
def workers_Reports (n : Nat) (a0 : Int) (a1 : Int) (a2 : Int) (a3 : List SKindWorkerJobValue) (a4 : Int) : Option ((List Int) × SCodeIndex) :=
  (workers_play n a0 a1 a2 a3).bind fun r1 =>
  if ((r1.2.Code == 0 && (r1.2.Index == 0 && true)) != true) = true then
    some (([] : List Int), (⟨r1.2.Code, r1.2.Index⟩ : SCodeIndex))
  else
    if (decide (a4 < 0)) = true then
      workers_Reports_j1 n a4 r1 true
    else
      workers_Reports_j1 n a4 r1 (decide (a0 ≤ a4))

/- changeforge/workers.Next -/
def workers_Next_j1 (n : Nat) (x2 : Int) (x3 : Int) (lp2 : Int → Option (Int × Int × Bool × SCodeIndex)) (x4 : Bool) : Option (Int × Int × Bool × SCodeIndex) :=
  if x4 = true then
    some (x2, x3, true, (⟨0, 0⟩ : SCodeIndex))
  else
    (gadd x3 1).bind fun x5 =>
    lp2 x5
def workers_Next_l2 (n : Nat) (a1 : Int) (r1 : ((Option SNeedStateReportsValues) × SCodeIndex)) (x2 : Int) (lp1 : Int → Option (Int × Int × Bool × SCodeIndex)) : Nat → Int → Option (Int × Int × Bool × SCodeIndex)
  | 0, _ => none
  | m2 + 1, x3 =>
    if (decide (x3 < a1)) = true then
      (r1.1).bind fun p6 =>
      (gidx p6.f_values x2).bind fun e7 =>
      if (decide (e7 < 0)) = true then
        (gidx p6.f_state x3).bind fun e8 =>
        if (decide (e8 = (-1))) = true then
          (gidx p6.f_reports x2).bind fun e9 =>
          (gidx e9 x3).bind fun e10 =>
          workers_Next_j1 n x2 x3 (workers_Next_l2 n a1 r1 x2 lp1 m2) (decide (e10 < 0))
        else
          workers_Next_j1 n x2 x3 (workers_Next_l2 n a1 r1 x2 lp1 m2) false
      else
        workers_Next_j1 n x2 x3 (workers_Next_l2 n a1 r1 x2 lp1 m2) false
    else
      (gadd x2 1).bind fun x11 =>
      lp1 x11
def workers_Next_l1 (n : Nat) (a0 : Int) (a1 : Int) (r1 : ((Option SNeedStateReportsValues) × SCodeIndex)) : Nat → Int → Option (Int × Int × Bool × SCodeIndex)
  | 0, _ => none
  | m1 + 1, x2 =>
    if (decide (x2 < a0)) = true then
      workers_Next_l2 n a1 r1 x2 (workers_Next_l1 n a0 a1 r1 m1) n 0
    else
      some (0, 0, false, (⟨0, 0⟩ : SCodeIndex))
def workers_Next (n : Nat) (a0 : Int) (a1 : Int) (a2 : Int) (a3 : List SKindWorkerJobValue) : Option (Int × Int × Bool × SCodeIndex) :=
  (workers_play n a0 a1 a2 a3).bind fun r1 =>
  if ((r1.2.Code == 0 && (r1.2.Index == 0 && true)) != true) = true then
    some (0, 0, false, (⟨r1.2.Code, r1.2.Index⟩ : SCodeIndex))
  else
    workers_Next_l1 n a0 a1 r1 n 0

/- changeforge/changeforgelaw6.shift -/
def law6_shift (n : Nat) : Option (List SKindWorkerJobValue) :=
  some ([(⟨1, 0, 0, 0⟩ : SKindWorkerJobValue), (⟨2, 0, 0, 8⟩ : SKindWorkerJobValue), (⟨1, 1, 0, 0⟩ : SKindWorkerJobValue), (⟨2, 1, 0, 7⟩ : SKindWorkerJobValue), (⟨1, 2, 0, 0⟩ : SKindWorkerJobValue), (⟨2, 2, 0, 7⟩ : SKindWorkerJobValue)] : List SKindWorkerJobValue)

/- changeforge/changeforgeref5.Ints -/
def ref5_Ints_l1 (n : Nat) (a0 : List Int) (a1 : List Int) : Nat → Int → Option Bool
  | 0, _ => none
  | m1 + 1, x1 =>
    if (decide (x1 < (a0.length : Int))) = true then
      (gidx a0 x1).bind fun e2 =>
      (gidx a1 x1).bind fun e3 =>
      if (decide (e2 ≠ e3)) = true then
        some false
      else
        (gadd x1 1).bind fun x4 =>
        (ref5_Ints_l1 n a0 a1 m1) x4
    else
      some true
def ref5_Ints (n : Nat) (a0 : List Int) (a1 : List Int) : Option Bool :=
  if (decide ((a0.length : Int) ≠ (a1.length : Int))) = true then
    some false
  else
    ref5_Ints_l1 n a0 a1 n 0

/- changeforge/changeforgelaw6.farms -/
def law6_farms_j1 (n : Nat) (x12 : Bool) : Option Bool :=
  some x12
def law6_farms (n : Nat) : Option Bool :=
  (law6_shift n).bind fun r1 =>
  (workers_Play n 1 3 2 r1).bind fun r2 =>
  (law6_shift n).bind fun r3 =>
  (gcut r3 0 2).bind fun s4 =>
  (workers_Reports n 1 3 2 s4 0).bind fun r5 =>
  (law6_shift n).bind fun r6 =>
  (gcut r6 0 2).bind fun s7 =>
  (workers_Next n 1 3 2 s7).bind fun r8 =>
  (law6_shift n).bind fun r9 =>
  (gcut r9 1 (r9.length : Int)).bind fun s10 =>
  (workers_Play n 1 3 2 s10).bind fun r11 =>
  if (decide (r2.2.Code = 0)) = true then
    if (decide (r5.2.Code = 0)) = true then
      if (decide (r8.2.2.2.Code = 0)) = true then
        (law6_fault n 11 0).bind fun r13 =>
        if ((r11.2.Code == r13.Code && (r11.2.Index == r13.Index && true)) != false) = true then
          (ref5_Ints n r2.1 ([7] : List Int)).bind fun r14 =>
          if r14 = true then
            (ref5_Ints n r5.1 ([8, (-1), (-1)] : List Int)).bind fun r15 =>
            if r15 = true then
              if (decide (r8.1 = 0)) = true then
                if (decide (r8.2.1 = 1)) = true then
                  law6_farms_j1 n r8.2.2.1
                else
                  law6_farms_j1 n false
              else
                law6_farms_j1 n false
            else
              law6_farms_j1 n false
          else
            law6_farms_j1 n false
        else
          law6_farms_j1 n false
      else
        law6_farms_j1 n false
    else
      law6_farms_j1 n false
  else
    law6_farms_j1 n false

/- changeforge/changeforgeref6.fault -/
def ref6_fault (n : Nat) (a0 : Int) (a1 : Int) : Option SCodeIndex :=
  some (⟨a0, a1⟩ : SCodeIndex)

/- changeforge/changeforgeref6.in -/
def ref6_in_j1 (n : Nat) (x1 : Bool) : Option Bool :=
  some x1
def ref6_in (n : Nat) (a0 : Int) (a1 : Int) (a2 : Int) : Option Bool :=
  if (decide (a1 ≤ a0)) = true then
    ref6_in_j1 n (decide (a0 ≤ a2))
  else
    ref6_in_j1 n false

/- changeforge/changeforgeref6.FarmFault -/
def ref6_FarmFault_j1 (n : Nat) (x1 : Bool) : Option SCodeIndex :=
  if x1 = true then
    (ref6_fault n 3 (-1)).bind fun r2 =>
    some r2
  else
    some (⟨0, 0⟩ : SCodeIndex)
def ref6_FarmFault (n : Nat) (a0 : Int) (a1 : Int) (a2 : Int) : Option SCodeIndex :=
  (ref6_in n a0 0 12).bind fun r3 =>
  if (!r3) = true then
    ref6_FarmFault_j1 n true
  else
    (ref6_in n a1 1 8).bind fun r4 =>
    if (!r4) = true then
      ref6_FarmFault_j1 n true
    else
      (ref6_in n a2 1 a1).bind fun r5 =>
      ref6_FarmFault_j1 n (!r5)

/- changeforge/changeforgeref6.WorkingOn -/
def ref6_WorkingOn_j1 (n : Nat) (x2 : Int) (lp1 : Int → Int → Option Int) (x3 : Int) : Option Int :=
  (gadd x2 1).bind fun x4 =>
  lp1 x3 x4
def ref6_WorkingOn_l1 (n : Nat) (a0 : List SKindWorkerJobValue) (a1 : Int) : Nat → Int → Int → Option Int
  | 0, _, _ => none
  | m1 + 1, x1, x2 =>
    if (decide (x2 < (a0.length : Int))) = true then
      (gidx a0 x2).bind fun e5 =>
      if (decide (e5.Worker ≠ a1)) = true then
        ref6_WorkingOn_j1 n x2 (ref6_WorkingOn_l1 n a0 a1 m1) x1
      else
        if (decide (e5.Kind = 1)) = true then
          ref6_WorkingOn_j1 n x2 (ref6_WorkingOn_l1 n a0 a1 m1) e5.Job
        else
          if (decide (e5.Kind = 3)) = true then
            ref6_WorkingOn_j1 n x2 (ref6_WorkingOn_l1 n a0 a1 m1) (-2)
          else
            ref6_WorkingOn_j1 n x2 (ref6_WorkingOn_l1 n a0 a1 m1) (-1)
    else
      some x1
def ref6_WorkingOn (n : Nat) (a0 : List SKindWorkerJobValue) (a1 : Int) : Option Int :=
  ref6_WorkingOn_l1 n a0 a1 n (-1) 0

/- changeforge/changeforgeref6.Reported -/
def ref6_Reported_j1 (n : Nat) (a0 : List SKindWorkerJobValue) (x1 : Int) (lp1 : Int → Option Int) (x2 : Bool) : Option Int :=
  if x2 = true then
    (gidx a0 x1).bind fun e3 =>
    some e3.Value
  else
    (gadd x1 1).bind fun x4 =>
    lp1 x4
def ref6_Reported_l1 (n : Nat) (a0 : List SKindWorkerJobValue) (a1 : Int) (a2 : Int) : Nat → Int → Option Int
  | 0, _ => none
  | m1 + 1, x1 =>
    if (decide (x1 < (a0.length : Int))) = true then
      (gidx a0 x1).bind fun e5 =>
      if (decide (e5.Kind = 2)) = true then
        if (decide (e5.Worker = a1)) = true then
          (gcut a0 0 x1).bind fun s6 =>
          (ref6_WorkingOn n s6 a1).bind fun r7 =>
          ref6_Reported_j1 n a0 x1 (ref6_Reported_l1 n a0 a1 a2 m1) (decide (r7 = a2))
        else
          ref6_Reported_j1 n a0 x1 (ref6_Reported_l1 n a0 a1 a2 m1) false
      else
        ref6_Reported_j1 n a0 x1 (ref6_Reported_l1 n a0 a1 a2 m1) false
    else
      some (-1)
def ref6_Reported (n : Nat) (a0 : List SKindWorkerJobValue) (a1 : Int) (a2 : Int) : Option Int :=
  ref6_Reported_l1 n a0 a1 a2 n 0

/- changeforge/changeforgeref6.eventCode -/
def ref6_eventCode_j4 (n : Nat) (x10 : Bool) : Option Int :=
  if x10 = true then
    some 7
  else
    some 0
def ref6_eventCode_j3 (n : Nat) (a2 : List SKindWorkerJobValue) (a3 : Int) (e1 : SKindWorkerJobValue) (x9 : Bool) : Option Int :=
  if x9 = true then
    some 11
  else
    if (decide (e1.Kind = 1)) = true then
      (gcut a2 0 a3).bind fun s11 =>
      (ref6_Reported n s11 e1.Worker e1.Job).bind fun r12 =>
      ref6_eventCode_j4 n (decide (0 ≤ r12))
    else
      ref6_eventCode_j4 n false
def ref6_eventCode_j2 (n : Nat) (a2 : List SKindWorkerJobValue) (a3 : Int) (e1 : SKindWorkerJobValue) (x6 : Bool) : Option Int :=
  if x6 = true then
    some 3
  else
    (gcut a2 0 a3).bind fun s7 =>
    (ref6_WorkingOn n s7 e1.Worker).bind fun r8 =>
    if (decide (e1.Kind = 1)) = true then
      if (decide (r8 ≠ (-1))) = true then
        ref6_eventCode_j3 n a2 a3 e1 true
      else
        if (decide (e1.Kind = 2)) = true then
          if (decide (r8 < 0)) = true then
            ref6_eventCode_j3 n a2 a3 e1 true
          else
            if (decide (e1.Kind = 3)) = true then
              if (decide (r8 = (-2))) = true then
                ref6_eventCode_j3 n a2 a3 e1 true
              else
                if (decide (e1.Kind = 4)) = true then
                  ref6_eventCode_j3 n a2 a3 e1 (decide (r8 ≠ (-2)))
                else
                  ref6_eventCode_j3 n a2 a3 e1 false
            else
              if (decide (e1.Kind = 4)) = true then
                ref6_eventCode_j3 n a2 a3 e1 (decide (r8 ≠ (-2)))
              else
                ref6_eventCode_j3 n a2 a3 e1 false
        else
          if (decide (e1.Kind = 3)) = true then
            if (decide (r8 = (-2))) = true then
              ref6_eventCode_j3 n a2 a3 e1 true
            else
              if (decide (e1.Kind = 4)) = true then
                ref6_eventCode_j3 n a2 a3 e1 (decide (r8 ≠ (-2)))
              else
                ref6_eventCode_j3 n a2 a3 e1 false
          else
            if (decide (e1.Kind = 4)) = true then
              ref6_eventCode_j3 n a2 a3 e1 (decide (r8 ≠ (-2)))
            else
              ref6_eventCode_j3 n a2 a3 e1 false
    else
      if (decide (e1.Kind = 2)) = true then
        if (decide (r8 < 0)) = true then
          ref6_eventCode_j3 n a2 a3 e1 true
        else
          if (decide (e1.Kind = 3)) = true then
            if (decide (r8 = (-2))) = true then
              ref6_eventCode_j3 n a2 a3 e1 true
            else
              if (decide (e1.Kind = 4)) = true then
                ref6_eventCode_j3 n a2 a3 e1 (decide (r8 ≠ (-2)))
              else
                ref6_eventCode_j3 n a2 a3 e1 false
          else
            if (decide (e1.Kind = 4)) = true then
              ref6_eventCode_j3 n a2 a3 e1 (decide (r8 ≠ (-2)))
            else
              ref6_eventCode_j3 n a2 a3 e1 false
      else
        if (decide (e1.Kind = 3)) = true then
          if (decide (r8 = (-2))) = true then
            ref6_eventCode_j3 n a2 a3 e1 true
          else
            if (decide (e1.Kind = 4)) = true then
              ref6_eventCode_j3 n a2 a3 e1 (decide (r8 ≠ (-2)))
            else
              ref6_eventCode_j3 n a2 a3 e1 false
        else
          if (decide (e1.Kind = 4)) = true then
            ref6_eventCode_j3 n a2 a3 e1 (decide (r8 ≠ (-2)))
          else
            ref6_eventCode_j3 n a2 a3 e1 false
def ref6_eventCode_j1 (n : Nat) (a0 : Int) (a2 : List SKindWorkerJobValue) (a3 : Int) (e1 : SKindWorkerJobValue) (x5 : Bool) : Option Int :=
  if x5 = true then
    some 5
  else
    if (decide (e1.Kind = 1)) = true then
      (gsub a0 1).bind fun x13 =>
      (ref6_in n e1.Job 0 x13).bind fun r14 =>
      if (!r14) = true then
        ref6_eventCode_j2 n a2 a3 e1 true
      else
        if (decide (e1.Kind = 2)) = true then
          (ref6_in n e1.Value 0 1000000000).bind fun r15 =>
          ref6_eventCode_j2 n a2 a3 e1 (!r15)
        else
          ref6_eventCode_j2 n a2 a3 e1 false
    else
      if (decide (e1.Kind = 2)) = true then
        (ref6_in n e1.Value 0 1000000000).bind fun r16 =>
        ref6_eventCode_j2 n a2 a3 e1 (!r16)
      else
        ref6_eventCode_j2 n a2 a3 e1 false
def ref6_eventCode (n : Nat) (a0 : Int) (a1 : Int) (a2 : List SKindWorkerJobValue) (a3 : Int) : Option Int :=
  (gidx a2 a3).bind fun e1 =>
  (ref6_in n e1.Kind 1 4).bind fun r2 =>
  if (!r2) = true then
    some 4
  else
    (gsub a1 1).bind fun x3 =>
    (ref6_in n e1.Worker 0 x3).bind fun r4 =>
    if (!r4) = true then
      some 3
    else
      if (decide (e1.Kind ≠ 1)) = true then
        if (decide (e1.Job ≠ 0)) = true then
          ref6_eventCode_j1 n a0 a2 a3 e1 true
        else
          if (decide (e1.Kind ≠ 2)) = true then
            ref6_eventCode_j1 n a0 a2 a3 e1 (decide (e1.Value ≠ 0))
          else
            ref6_eventCode_j1 n a0 a2 a3 e1 false
      else
        if (decide (e1.Kind ≠ 2)) = true then
          ref6_eventCode_j1 n a0 a2 a3 e1 (decide (e1.Value ≠ 0))
        else
          ref6_eventCode_j1 n a0 a2 a3 e1 false

/- changeforge/changeforgeref6.EventsFault -/
def ref6_EventsFault_l1 (n : Nat) (a0 : Int) (a1 : Int) (a3 : List SKindWorkerJobValue) : Nat → Int → Option SCodeIndex
  | 0, _ => none
  | m1 + 1, x3 =>
    if (decide (x3 < (a3.length : Int))) = true then
      (ref6_eventCode n a0 a1 a3 x3).bind fun r4 =>
      if (decide (r4 ≠ 0)) = true then
        (ref6_fault n r4 x3).bind fun r5 =>
        some r5
      else
        (gadd x3 1).bind fun x6 =>
        (ref6_EventsFault_l1 n a0 a1 a3 m1) x6
    else
      some (⟨0, 0⟩ : SCodeIndex)
def ref6_EventsFault (n : Nat) (a0 : Int) (a1 : Int) (a2 : Int) (a3 : List SKindWorkerJobValue) : Option SCodeIndex :=
  (ref6_FarmFault n a0 a1 a2).bind fun r1 =>
  if (decide (r1.Code ≠ 0)) = true then
    some r1
  else
    if (decide (40 < (a3.length : Int))) = true then
      (ref6_fault n 2 (-1)).bind fun r2 =>
      some r2
    else
      ref6_EventsFault_l1 n a0 a1 a3 n 0

/- changeforge/changeforgeref6.Accepted -/
def ref6_Accepted_j1 (n : Nat) (x1 : Int) (lp1 : Int → Option Int) : Option Int :=
  (gadd x1 1).bind fun x2 =>
  lp1 x2
def ref6_Accepted_j3 (n : Nat) (x5 : Int) (lp2 : Int → Int → Option Int) (x6 : Int) : Option Int :=
  (gadd x5 1).bind fun x7 =>
  lp2 x6 x7
def ref6_Accepted_l2 (n : Nat) (a0 : List SKindWorkerJobValue) (a1 : Int) (a2 : Int) (a3 : Int) (x1 : Int) (lp1 : Int → Option Int) : Nat → Int → Int → Option Int
  | 0, _, _ => none
  | m2 + 1, x4, x5 =>
    if (decide (x5 < a1)) = true then
      (gadd x1 1).bind fun x8 =>
      (gcut a0 0 x8).bind fun s9 =>
      (ref6_Reported n s9 x5 a3).bind fun r10 =>
      (gidx a0 x1).bind fun e11 =>
      if (decide (r10 = e11.Value)) = true then
        (gadd x4 1).bind fun x12 =>
        ref6_Accepted_j3 n x5 (ref6_Accepted_l2 n a0 a1 a2 a3 x1 lp1 m2) x12
      else
        ref6_Accepted_j3 n x5 (ref6_Accepted_l2 n a0 a1 a2 a3 x1 lp1 m2) x4
    else
      if (decide (a2 ≤ x4)) = true then
        (gidx a0 x1).bind fun e13 =>
        some e13.Value
      else
        ref6_Accepted_j1 n x1 lp1
def ref6_Accepted_j2 (n : Nat) (a0 : List SKindWorkerJobValue) (a1 : Int) (a2 : Int) (a3 : Int) (x1 : Int) (lp1 : Int → Option Int) (x3 : Bool) : Option Int :=
  if x3 = true then
    ref6_Accepted_j1 n x1 lp1
  else
    ref6_Accepted_l2 n a0 a1 a2 a3 x1 lp1 n 0 0
def ref6_Accepted_l1 (n : Nat) (a0 : List SKindWorkerJobValue) (a1 : Int) (a2 : Int) (a3 : Int) : Nat → Int → Option Int
  | 0, _ => none
  | m1 + 1, x1 =>
    if (decide (x1 < (a0.length : Int))) = true then
      (gidx a0 x1).bind fun e14 =>
      if (decide (e14.Kind ≠ 2)) = true then
        ref6_Accepted_j2 n a0 a1 a2 a3 x1 (ref6_Accepted_l1 n a0 a1 a2 a3 m1) true
      else
        (gcut a0 0 x1).bind fun s15 =>
        (ref6_WorkingOn n s15 e14.Worker).bind fun r16 =>
        ref6_Accepted_j2 n a0 a1 a2 a3 x1 (ref6_Accepted_l1 n a0 a1 a2 a3 m1) (decide (r16 ≠ a3))
    else
      some (-1)
def ref6_Accepted (n : Nat) (a0 : List SKindWorkerJobValue) (a1 : Int) (a2 : Int) (a3 : Int) : Option Int :=
  ref6_Accepted_l1 n a0 a1 a2 a3 n 0

/- changeforge/changeforgelaw6.in -/
def law6_in_j1 (n : Nat) (x1 : Bool) : Option Bool :=
  some x1
def law6_in (n : Nat) (a0 : Int) (a1 : Int) (a2 : Int) : Option Bool :=
  if (decide (a1 ≤ a0)) = true then
    law6_in_j1 n (decide (a0 ≤ a2))
  else
    law6_in_j1 n false

/- changeforge/changeforgelaw6.WorkersMatchSpec -/
def law6_WorkersMatchSpec_j4 (n : Nat) (x13 : Bool) : Option Bool :=
  some x13
def law6_WorkersMatchSpec_l2 (n : Nat) (a1 : Int) (a3 : List SKindWorkerJobValue) (a4 : Int) (r11 : ((List Int) × SCodeIndex)) : Nat → Int → Option Bool
  | 0, _ => none
  | m2 + 1, x14 =>
    if (decide (x14 < (r11.1.length : Int))) = true then
      (gidx r11.1 x14).bind fun e15 =>
      (ref6_Reported n a3 x14 a4).bind fun r16 =>
      if (decide (e15 ≠ r16)) = true then
        some false
      else
        (gadd x14 1).bind fun x17 =>
        (law6_WorkersMatchSpec_l2 n a1 a3 a4 r11 m2) x17
    else
      some (decide ((r11.1.length : Int) = a1))
def law6_WorkersMatchSpec_j3 (n : Nat) (a1 : Int) (a3 : List SKindWorkerJobValue) (a4 : Int) (b9 : Int) (b10 : Int) (r11 : ((List Int) × SCodeIndex)) (x12 : Bool) : Option Bool :=
  if x12 = true then
    if ((r11.2.Code == b9 && (r11.2.Index == b10 && true)) != false) = true then
      law6_WorkersMatchSpec_j4 n (decide ((r11.1.length : Int) = 0))
    else
      law6_WorkersMatchSpec_j4 n false
  else
    law6_WorkersMatchSpec_l2 n a1 a3 a4 r11 n 0
def law6_WorkersMatchSpec_j2 (n : Nat) (a0 : Int) (a1 : Int) (a2 : Int) (a3 : List SKindWorkerJobValue) (a4 : Int) (b9 : Int) (b10 : Int) : Option Bool :=
  (workers_Reports n a0 a1 a2 a3 a4).bind fun r11 =>
  if ((r11.2.Code == b9 && (r11.2.Index == b10 && true)) != true) = true then
    law6_WorkersMatchSpec_j3 n a1 a3 a4 b9 b10 r11 true
  else
    law6_WorkersMatchSpec_j3 n a1 a3 a4 b9 b10 r11 (decide (b9 ≠ 0))
def law6_WorkersMatchSpec_j5 (n : Nat) (a0 : Int) (a1 : Int) (a2 : Int) (a3 : List SKindWorkerJobValue) (a4 : Int) (r2 : SCodeIndex) (x18 : Bool) : Option Bool :=
  if x18 = true then
    (law6_fault n 3 (-2)).bind fun r19 =>
    law6_WorkersMatchSpec_j2 n a0 a1 a2 a3 a4 r19.Code r19.Index
  else
    law6_WorkersMatchSpec_j2 n a0 a1 a2 a3 a4 r2.Code r2.Index
def law6_WorkersMatchSpec_l1 (n : Nat) (a0 : Int) (a1 : Int) (a2 : Int) (a3 : List SKindWorkerJobValue) (a4 : Int) (r2 : SCodeIndex) (r3 : ((List Int) × SCodeIndex)) : Nat → Int → Option Bool
  | 0, _ => none
  | m1 + 1, x5 =>
    if (decide (x5 < (r3.1.length : Int))) = true then
      (gidx r3.1 x5).bind fun e6 =>
      (ref6_Accepted n a3 a1 a2 x5).bind fun r7 =>
      if (decide (e6 ≠ r7)) = true then
        some false
      else
        (gadd x5 1).bind fun x8 =>
        (law6_WorkersMatchSpec_l1 n a0 a1 a2 a3 a4 r2 r3 m1) x8
    else
      if (decide (r2.Code = 0)) = true then
        (gsub a0 1).bind fun x20 =>
        (law6_in n a4 0 x20).bind fun r21 =>
        law6_WorkersMatchSpec_j5 n a0 a1 a2 a3 a4 r2 (!r21)
      else
        law6_WorkersMatchSpec_j5 n a0 a1 a2 a3 a4 r2 false
def law6_WorkersMatchSpec_j1 (n : Nat) (a0 : Int) (a1 : Int) (a2 : Int) (a3 : List SKindWorkerJobValue) (a4 : Int) (r2 : SCodeIndex) (r3 : ((List Int) × SCodeIndex)) (x4 : Bool) : Option Bool :=
  if x4 = true then
    some false
  else
    law6_WorkersMatchSpec_l1 n a0 a1 a2 a3 a4 r2 r3 n 0
def law6_WorkersMatchSpec (n : Nat) (a0 : Int) (a1 : Int) (a2 : Int) (a3 : List SKindWorkerJobValue) (a4 : Int) : Option Bool :=
  (law6_farms n).bind fun r1 =>
  if (!r1) = true then
    some false
  else
    (ref6_EventsFault n a0 a1 a2 a3).bind fun r2 =>
    (workers_Play n a0 a1 a2 a3).bind fun r3 =>
    if ((r3.2.Code == r2.Code && (r3.2.Index == r2.Index && true)) != true) = true then
      law6_WorkersMatchSpec_j1 n a0 a1 a2 a3 a4 r2 r3 true
    else
      if (decide (r2.Code ≠ 0)) = true then
        if (decide (0 < (r3.1.length : Int))) = true then
          law6_WorkersMatchSpec_j1 n a0 a1 a2 a3 a4 r2 r3 true
        else
          if (decide (r2.Code = 0)) = true then
            law6_WorkersMatchSpec_j1 n a0 a1 a2 a3 a4 r2 r3 (decide ((r3.1.length : Int) ≠ a0))
          else
            law6_WorkersMatchSpec_j1 n a0 a1 a2 a3 a4 r2 r3 false
      else
        if (decide (r2.Code = 0)) = true then
          law6_WorkersMatchSpec_j1 n a0 a1 a2 a3 a4 r2 r3 (decide ((r3.1.length : Int) ≠ a0))
        else
          law6_WorkersMatchSpec_j1 n a0 a1 a2 a3 a4 r2 r3 false

/- changeforge/changeforgelaw6.free -/
def law6_free_j1 (n : Nat) (x1 : Bool) : Option Bool :=
  some x1
def law6_free (n : Nat) (a0 : List SKindWorkerJobValue) (a1 : Int) (a2 : Int) : Option Bool :=
  (ref6_WorkingOn n a0 a1).bind fun r2 =>
  if (decide (r2 = (-1))) = true then
    (ref6_Reported n a0 a1 a2).bind fun r3 =>
    law6_free_j1 n (decide (r3 < 0))
  else
    law6_free_j1 n false

/- changeforge/changeforgelaw6.WorkersNextMatchesSpec -/
def law6_WorkersNextMatchesSpec_j4 (n : Nat) (x8 : Bool) : Option Bool :=
  some x8
def law6_WorkersNextMatchesSpec_j3 (n : Nat) (r2 : (Int × Int × Bool × SCodeIndex)) (x4 : Int) (x6 : Int) (lp2 : Int → Option Bool) (x7 : Bool) : Option Bool :=
  if x7 = true then
    if r2.2.2.1 = true then
      if (decide (r2.1 = x4)) = true then
        law6_WorkersNextMatchesSpec_j4 n (decide (r2.2.1 = x6))
      else
        law6_WorkersNextMatchesSpec_j4 n false
    else
      law6_WorkersNextMatchesSpec_j4 n false
  else
    (gadd x6 1).bind fun x9 =>
    lp2 x9
def law6_WorkersNextMatchesSpec_l2 (n : Nat) (a1 : Int) (a2 : Int) (a3 : List SKindWorkerJobValue) (r2 : (Int × Int × Bool × SCodeIndex)) (x4 : Int) (lp1 : Int → Option Bool) : Nat → Int → Option Bool
  | 0, _ => none
  | m2 + 1, x6 =>
    if (decide (x6 < a1)) = true then
      (ref6_Accepted n a3 a1 a2 x4).bind fun r10 =>
      if (decide (r10 < 0)) = true then
        (law6_free n a3 x6 x4).bind fun r11 =>
        law6_WorkersNextMatchesSpec_j3 n r2 x4 x6 (law6_WorkersNextMatchesSpec_l2 n a1 a2 a3 r2 x4 lp1 m2) r11
      else
        law6_WorkersNextMatchesSpec_j3 n r2 x4 x6 (law6_WorkersNextMatchesSpec_l2 n a1 a2 a3 r2 x4 lp1 m2) false
    else
      (gadd x4 1).bind fun x12 =>
      lp1 x12
def law6_WorkersNextMatchesSpec_j2 (n : Nat) (a1 : Int) (a2 : Int) (a3 : List SKindWorkerJobValue) (r2 : (Int × Int × Bool × SCodeIndex)) (x4 : Int) (lp1 : Int → Option Bool) (x5 : Bool) : Option Bool :=
  if x5 = true then
    law6_WorkersNextMatchesSpec_l2 n a1 a2 a3 r2 x4 lp1 n 0
  else
    some (!r2.2.2.1)
def law6_WorkersNextMatchesSpec_l1 (n : Nat) (a0 : Int) (a1 : Int) (a2 : Int) (a3 : List SKindWorkerJobValue) (r1 : SCodeIndex) (r2 : (Int × Int × Bool × SCodeIndex)) : Nat → Int → Option Bool
  | 0, _ => none
  | m1 + 1, x4 =>
    if (decide (r1.Code = 0)) = true then
      law6_WorkersNextMatchesSpec_j2 n a1 a2 a3 r2 x4 (law6_WorkersNextMatchesSpec_l1 n a0 a1 a2 a3 r1 r2 m1) (decide (x4 < a0))
    else
      law6_WorkersNextMatchesSpec_j2 n a1 a2 a3 r2 x4 (law6_WorkersNextMatchesSpec_l1 n a0 a1 a2 a3 r1 r2 m1) false
def law6_WorkersNextMatchesSpec_j1 (n : Nat) (a0 : Int) (a1 : Int) (a2 : Int) (a3 : List SKindWorkerJobValue) (r1 : SCodeIndex) (r2 : (Int × Int × Bool × SCodeIndex)) (x3 : Bool) : Option Bool :=
  if x3 = true then
    some false
  else
    law6_WorkersNextMatchesSpec_l1 n a0 a1 a2 a3 r1 r2 n 0
def law6_WorkersNextMatchesSpec (n : Nat) (a0 : Int) (a1 : Int) (a2 : Int) (a3 : List SKindWorkerJobValue) : Option Bool :=
  (ref6_EventsFault n a0 a1 a2 a3).bind fun r1 =>
  (workers_Next n a0 a1 a2 a3).bind fun r2 =>
  (law6_farms n).bind fun r13 =>
  if (!r13) = true then
    law6_WorkersNextMatchesSpec_j1 n a0 a1 a2 a3 r1 r2 true
  else
    if ((r2.2.2.2.Code == r1.Code && (r2.2.2.2.Index == r1.Index && true)) != true) = true then
      law6_WorkersNextMatchesSpec_j1 n a0 a1 a2 a3 r1 r2 true
    else
      if (!r2.2.2.1) = true then
        if (decide (r2.1 ≠ 0)) = true then
          law6_WorkersNextMatchesSpec_j1 n a0 a1 a2 a3 r1 r2 true
        else
          law6_WorkersNextMatchesSpec_j1 n a0 a1 a2 a3 r1 r2 (decide (r2.2.1 ≠ 0))
      else
        law6_WorkersNextMatchesSpec_j1 n a0 a1 a2 a3 r1 r2 false

/- changeforge/changeforgelaw6.WorkersLiarsAreOutvoted -/
def law6_WorkersLiarsAreOutvoted_j2 (n : Nat) (x4 : Bool) : Option Bool :=
  some x4
def law6_WorkersLiarsAreOutvoted_j3 (n : Nat) (x7 : Int) (lp1 : Int → Int → Option Bool) (x8 : Int) : Option Bool :=
  (gadd x7 1).bind fun x9 =>
  lp1 x8 x9
def law6_WorkersLiarsAreOutvoted_j4 (n : Nat) (x6 : Int) (x7 : Int) (lp1 : Int → Int → Option Bool) (x10 : Bool) : Option Bool :=
  if x10 = true then
    (gadd x6 1).bind fun x11 =>
    law6_WorkersLiarsAreOutvoted_j3 n x7 lp1 x11
  else
    law6_WorkersLiarsAreOutvoted_j3 n x7 lp1 x6
def law6_WorkersLiarsAreOutvoted_j5 (n : Nat) (x15 : Bool) : Option Bool :=
  some x15
def law6_WorkersLiarsAreOutvoted_l1 (n : Nat) (a2 : Int) (a4 : Int) (a5 : Int) (r1 : ((List Int) × SCodeIndex)) (r2 : ((List Int) × SCodeIndex)) : Nat → Int → Int → Option Bool
  | 0, _, _ => none
  | m1 + 1, x6, x7 =>
    if (decide (x7 < (r2.1.length : Int))) = true then
      (gidx r2.1 x7).bind fun e12 =>
      if (decide (0 ≤ e12)) = true then
        law6_WorkersLiarsAreOutvoted_j4 n x6 x7 (law6_WorkersLiarsAreOutvoted_l1 n a2 a4 a5 r1 r2 m1) (decide (e12 ≠ a5))
      else
        law6_WorkersLiarsAreOutvoted_j4 n x6 x7 (law6_WorkersLiarsAreOutvoted_l1 n a2 a4 a5 r1 r2 m1) false
    else
      (gsub (r1.1.length : Int) 1).bind fun x13 =>
      (law6_in n a4 0 x13).bind fun r14 =>
      if (!r14) = true then
        some false
      else
        if (decide (a2 ≤ x6)) = true then
          law6_WorkersLiarsAreOutvoted_j5 n true
        else
          (gidx r1.1 a4).bind fun e16 =>
          if (decide (e16 = (-1))) = true then
            law6_WorkersLiarsAreOutvoted_j5 n true
          else
            law6_WorkersLiarsAreOutvoted_j5 n (decide (e16 = a5))
def law6_WorkersLiarsAreOutvoted_j1 (n : Nat) (a2 : Int) (a4 : Int) (a5 : Int) (r1 : ((List Int) × SCodeIndex)) (r2 : ((List Int) × SCodeIndex)) (x3 : Bool) : Option Bool :=
  if x3 = true then
    (law6_farms n).bind fun r5 =>
    if r5 = true then
      if (decide (r1.2.Code = 0)) = true then
        if (decide (r2.2.Code = 0)) = true then
          law6_WorkersLiarsAreOutvoted_j2 n true
        else
          law6_WorkersLiarsAreOutvoted_j2 n (decide ((r2.1.length : Int) = 0))
      else
        if (decide ((r1.1.length : Int) = 0)) = true then
          if (decide (r2.2.Code = 0)) = true then
            law6_WorkersLiarsAreOutvoted_j2 n true
          else
            law6_WorkersLiarsAreOutvoted_j2 n (decide ((r2.1.length : Int) = 0))
        else
          law6_WorkersLiarsAreOutvoted_j2 n false
    else
      law6_WorkersLiarsAreOutvoted_j2 n false
  else
    law6_WorkersLiarsAreOutvoted_l1 n a2 a4 a5 r1 r2 n 0 0
def law6_WorkersLiarsAreOutvoted (n : Nat) (a0 : Int) (a1 : Int) (a2 : Int) (a3 : List SKindWorkerJobValue) (a4 : Int) (a5 : Int) : Option Bool :=
  (workers_Play n a0 a1 a2 a3).bind fun r1 =>
  (workers_Reports n a0 a1 a2 a3 a4).bind fun r2 =>
  (law6_farms n).bind fun r17 =>
  if (!r17) = true then
    law6_WorkersLiarsAreOutvoted_j1 n a2 a4 a5 r1 r2 true
  else
    if (decide (r1.2.Code ≠ 0)) = true then
      law6_WorkersLiarsAreOutvoted_j1 n a2 a4 a5 r1 r2 true
    else
      law6_WorkersLiarsAreOutvoted_j1 n a2 a4 a5 r1 r2 (decide (r2.2.Code ≠ 0))

/- changeforge/changeforgeref5.Has -/
def ref5_Has_l1 (n : Nat) (a0 : List Int) (a1 : Int) : Nat → Int → Option Bool
  | 0, _ => none
  | m1 + 1, x1 =>
    if (decide (x1 < (a0.length : Int))) = true then
      (gidx a0 x1).bind fun e2 =>
      if (decide (e2 = a1)) = true then
        some true
      else
        (gadd x1 1).bind fun x3 =>
        (ref5_Has_l1 n a0 a1 m1) x3
    else
      some false
def ref5_Has (n : Nat) (a0 : List Int) (a1 : Int) : Option Bool :=
  ref5_Has_l1 n a0 a1 n 0

/- changeforge/changeforgelaw6.WorkersResultsHaveAQuorum -/
def law6_WorkersResultsHaveAQuorum_j2 (n : Nat) (x4 : Bool) : Option Bool :=
  some x4
def law6_WorkersResultsHaveAQuorum_j3 (n : Nat) (x11 : Int) (lp2 : Int → Int → Option Bool) (x12 : Int) : Option Bool :=
  (gadd x11 1).bind fun x13 =>
  lp2 x12 x13
def law6_WorkersResultsHaveAQuorum_j5 (n : Nat) (x9 : Int) (lp1 : Bool → Int → Option Bool) (x17 : Bool) (x18 : Bool) : Option Bool :=
  if x18 = true then
    some false
  else
    (gadd x9 1).bind fun x19 =>
    lp1 x17 x19
def law6_WorkersResultsHaveAQuorum_j4 (n : Nat) (a2 : Int) (a4 : Int) (r1 : ((List Int) × SCodeIndex)) (r2 : ((List Int) × SCodeIndex)) (x9 : Int) (lp1 : Bool → Int → Option Bool) (x10 : Int) (x17 : Bool) : Option Bool :=
  (gidx r1.1 a4).bind fun e20 =>
  if (decide (0 ≤ e20)) = true then
    (gidx r2.1 x9).bind fun e21 =>
    if (decide (e21 = e20)) = true then
      law6_WorkersResultsHaveAQuorum_j5 n x9 lp1 x17 (decide (x10 < a2))
    else
      law6_WorkersResultsHaveAQuorum_j5 n x9 lp1 x17 false
  else
    law6_WorkersResultsHaveAQuorum_j5 n x9 lp1 x17 false
def law6_WorkersResultsHaveAQuorum_l2 (n : Nat) (a2 : Int) (a4 : Int) (r1 : ((List Int) × SCodeIndex)) (r2 : ((List Int) × SCodeIndex)) (x8 : Bool) (x9 : Int) (lp1 : Bool → Int → Option Bool) : Nat → Int → Int → Option Bool
  | 0, _, _ => none
  | m2 + 1, x10, x11 =>
    if (decide (x11 < (r2.1.length : Int))) = true then
      (gidx r2.1 x11).bind fun e14 =>
      (gidx r2.1 x9).bind fun e15 =>
      if (decide (e14 = e15)) = true then
        (gadd x10 1).bind fun x16 =>
        law6_WorkersResultsHaveAQuorum_j3 n x11 (law6_WorkersResultsHaveAQuorum_l2 n a2 a4 r1 r2 x8 x9 lp1 m2) x16
      else
        law6_WorkersResultsHaveAQuorum_j3 n x11 (law6_WorkersResultsHaveAQuorum_l2 n a2 a4 r1 r2 x8 x9 lp1 m2) x10
    else
      if x8 = true then
        law6_WorkersResultsHaveAQuorum_j4 n a2 a4 r1 r2 x9 lp1 x10 true
      else
        (gidx r2.1 x9).bind fun e22 =>
        if (decide (0 ≤ e22)) = true then
          law6_WorkersResultsHaveAQuorum_j4 n a2 a4 r1 r2 x9 lp1 x10 (decide (a2 ≤ x10))
        else
          law6_WorkersResultsHaveAQuorum_j4 n a2 a4 r1 r2 x9 lp1 x10 false
def law6_WorkersResultsHaveAQuorum_j6 (n : Nat) (x23 : Bool) : Option Bool :=
  some x23
def law6_WorkersResultsHaveAQuorum_l1 (n : Nat) (a2 : Int) (a4 : Int) (r1 : ((List Int) × SCodeIndex)) (r2 : ((List Int) × SCodeIndex)) : Nat → Bool → Int → Option Bool
  | 0, _, _ => none
  | m1 + 1, x8, x9 =>
    if (decide (x9 < (r2.1.length : Int))) = true then
      law6_WorkersResultsHaveAQuorum_l2 n a2 a4 r1 r2 x8 x9 (law6_WorkersResultsHaveAQuorum_l1 n a2 a4 r1 r2 m1) n 0 0
    else
      (gidx r1.1 a4).bind fun e24 =>
      if (x8 == (decide (0 ≤ e24))) = true then
        if (decide (e24 < 0)) = true then
          law6_WorkersResultsHaveAQuorum_j6 n true
        else
          (ref5_Has n r2.1 e24).bind fun r25 =>
          law6_WorkersResultsHaveAQuorum_j6 n r25
      else
        law6_WorkersResultsHaveAQuorum_j6 n false
def law6_WorkersResultsHaveAQuorum_j1 (n : Nat) (a2 : Int) (a4 : Int) (r1 : ((List Int) × SCodeIndex)) (r2 : ((List Int) × SCodeIndex)) (x3 : Bool) : Option Bool :=
  if x3 = true then
    (law6_farms n).bind fun r5 =>
    if r5 = true then
      if (decide (r1.2.Code = 0)) = true then
        if (decide (r2.2.Code = 0)) = true then
          law6_WorkersResultsHaveAQuorum_j2 n true
        else
          law6_WorkersResultsHaveAQuorum_j2 n (decide ((r2.1.length : Int) = 0))
      else
        if (decide ((r1.1.length : Int) = 0)) = true then
          if (decide (r2.2.Code = 0)) = true then
            law6_WorkersResultsHaveAQuorum_j2 n true
          else
            law6_WorkersResultsHaveAQuorum_j2 n (decide ((r2.1.length : Int) = 0))
        else
          law6_WorkersResultsHaveAQuorum_j2 n false
    else
      law6_WorkersResultsHaveAQuorum_j2 n false
  else
    (gsub (r1.1.length : Int) 1).bind fun x6 =>
    (law6_in n a4 0 x6).bind fun r7 =>
    if (!r7) = true then
      some false
    else
      law6_WorkersResultsHaveAQuorum_l1 n a2 a4 r1 r2 n false 0
def law6_WorkersResultsHaveAQuorum (n : Nat) (a0 : Int) (a1 : Int) (a2 : Int) (a3 : List SKindWorkerJobValue) (a4 : Int) : Option Bool :=
  (workers_Play n a0 a1 a2 a3).bind fun r1 =>
  (workers_Reports n a0 a1 a2 a3 a4).bind fun r2 =>
  (law6_farms n).bind fun r26 =>
  if (!r26) = true then
    law6_WorkersResultsHaveAQuorum_j1 n a2 a4 r1 r2 true
  else
    if (decide (r1.2.Code ≠ 0)) = true then
      law6_WorkersResultsHaveAQuorum_j1 n a2 a4 r1 r2 true
    else
      law6_WorkersResultsHaveAQuorum_j1 n a2 a4 r1 r2 (decide (r2.2.Code ≠ 0))

/- changeforge/changeforgelaw6.WorkersResultsAreFinal -/
def law6_WorkersResultsAreFinal_j3 (n : Nat) (x10 : Bool) : Option Bool :=
  some x10
def law6_WorkersResultsAreFinal_j5 (n : Nat) (x12 : Int) (lp1 : Int → Option Bool) (x13 : Bool) : Option Bool :=
  if x13 = true then
    some false
  else
    (gadd x12 1).bind fun x14 =>
    lp1 x14
def law6_WorkersResultsAreFinal_j6 (n : Nat) (x17 : Int) (lp2 : Int → Option Bool) (x18 : Bool) : Option Bool :=
  if x18 = true then
    some false
  else
    (gadd x17 1).bind fun x19 =>
    lp2 x19
def law6_WorkersResultsAreFinal_l2 (n : Nat) (r7 : ((List Int) × SCodeIndex)) (r8 : ((List Int) × SCodeIndex)) : Nat → Int → Option Bool
  | 0, _ => none
  | m2 + 1, x17 =>
    if (decide (x17 < (r7.1.length : Int))) = true then
      (gidx r7.1 x17).bind fun e20 =>
      if (decide (0 ≤ e20)) = true then
        (gidx r8.1 x17).bind fun e21 =>
        law6_WorkersResultsAreFinal_j6 n x17 (law6_WorkersResultsAreFinal_l2 n r7 r8 m2) (decide (e21 ≠ e20))
      else
        law6_WorkersResultsAreFinal_j6 n x17 (law6_WorkersResultsAreFinal_l2 n r7 r8 m2) false
    else
      some true
def law6_WorkersResultsAreFinal_l1 (n : Nat) (r5 : ((List Int) × SCodeIndex)) (r6 : ((List Int) × SCodeIndex)) (r7 : ((List Int) × SCodeIndex)) (r8 : ((List Int) × SCodeIndex)) : Nat → Int → Option Bool
  | 0, _ => none
  | m1 + 1, x12 =>
    if (decide (x12 < (r5.1.length : Int))) = true then
      (gidx r5.1 x12).bind fun e15 =>
      if (decide (0 ≤ e15)) = true then
        (gidx r6.1 x12).bind fun e16 =>
        law6_WorkersResultsAreFinal_j5 n x12 (law6_WorkersResultsAreFinal_l1 n r5 r6 r7 r8 m1) (decide (e16 ≠ e15))
      else
        law6_WorkersResultsAreFinal_j5 n x12 (law6_WorkersResultsAreFinal_l1 n r5 r6 r7 r8 m1) false
    else
      law6_WorkersResultsAreFinal_l2 n r7 r8 n 0
def law6_WorkersResultsAreFinal_j4 (n : Nat) (r5 : ((List Int) × SCodeIndex)) (r6 : ((List Int) × SCodeIndex)) (r7 : ((List Int) × SCodeIndex)) (r8 : ((List Int) × SCodeIndex)) (x11 : Bool) : Option Bool :=
  if x11 = true then
    some false
  else
    law6_WorkersResultsAreFinal_l1 n r5 r6 r7 r8 n 0
def law6_WorkersResultsAreFinal_j2 (n : Nat) (r5 : ((List Int) × SCodeIndex)) (r6 : ((List Int) × SCodeIndex)) (r7 : ((List Int) × SCodeIndex)) (r8 : ((List Int) × SCodeIndex)) (x9 : Bool) : Option Bool :=
  if x9 = true then
    if (decide (r6.2.Code = 0)) = true then
      law6_WorkersResultsAreFinal_j3 n (decide ((r8.1.length : Int) = 0))
    else
      if (decide ((r6.1.length : Int) = 0)) = true then
        law6_WorkersResultsAreFinal_j3 n (decide ((r8.1.length : Int) = 0))
      else
        law6_WorkersResultsAreFinal_j3 n false
  else
    if (decide (r5.2.Code ≠ 0)) = true then
      law6_WorkersResultsAreFinal_j4 n r5 r6 r7 r8 true
    else
      if (decide (r7.2.Code ≠ 0)) = true then
        law6_WorkersResultsAreFinal_j4 n r5 r6 r7 r8 true
      else
        if (decide ((r5.1.length : Int) ≠ (r6.1.length : Int))) = true then
          law6_WorkersResultsAreFinal_j4 n r5 r6 r7 r8 true
        else
          law6_WorkersResultsAreFinal_j4 n r5 r6 r7 r8 (decide ((r7.1.length : Int) ≠ (r8.1.length : Int)))
def law6_WorkersResultsAreFinal_j1 (n : Nat) (a0 : Int) (a1 : Int) (a2 : Int) (a3 : List SKindWorkerJobValue) (a4 : List SKindWorkerJobValue) (a5 : Int) (x2 : Bool) : Option Bool :=
  if x2 = true then
    some true
  else
    (gapp 32 [] a3).bind fun w3 =>
    (gapp 32 w3 a4).bind fun w4 =>
    (workers_Play n a0 a1 a2 a3).bind fun r5 =>
    (workers_Play n a0 a1 a2 w4).bind fun r6 =>
    (workers_Reports n a0 a1 a2 a3 a5).bind fun r7 =>
    (workers_Reports n a0 a1 a2 w4 a5).bind fun r8 =>
    if (decide (r6.2.Code ≠ 0)) = true then
      law6_WorkersResultsAreFinal_j2 n r5 r6 r7 r8 true
    else
      law6_WorkersResultsAreFinal_j2 n r5 r6 r7 r8 (decide (r8.2.Code ≠ 0))
def law6_WorkersResultsAreFinal (n : Nat) (a0 : Int) (a1 : Int) (a2 : Int) (a3 : List SKindWorkerJobValue) (a4 : List SKindWorkerJobValue) (a5 : Int) : Option Bool :=
  (law6_farms n).bind fun r1 =>
  if (!r1) = true then
    some false
  else
    if (decide (40 < (a3.length : Int))) = true then
      law6_WorkersResultsAreFinal_j1 n a0 a1 a2 a3 a4 a5 true
    else
      law6_WorkersResultsAreFinal_j1 n a0 a1 a2 a3 a4 a5 (decide (40 < (a4.length : Int)))

/- changeforge/changeforgelaw6.WorkersAssignmentsArePermitted -/
def law6_WorkersAssignmentsArePermitted_j2 (n : Nat) (x3 : Bool) : Option Bool :=
  some x3
def law6_WorkersAssignmentsArePermitted_j3 (n : Nat) (x8 : Bool) : Option Bool :=
  some x8
def law6_WorkersAssignmentsArePermitted_j4 (n : Nat) (x15 : Int) (lp2 : Int → Option Bool) (x16 : Bool) : Option Bool :=
  if x16 = true then
    some false
  else
    (gadd x15 1).bind fun x17 =>
    lp2 x17
def law6_WorkersAssignmentsArePermitted_l2 (n : Nat) (a3 : List SKindWorkerJobValue) (r12 : ((List Int) × SCodeIndex)) (x13 : Int) (lp1 : Int → Option Bool) (r14 : ((List Int) × SCodeIndex)) : Nat → Int → Option Bool
  | 0, _ => none
  | m2 + 1, x15 =>
    if (decide (x15 < (r14.1.length : Int))) = true then
      (gidx r12.1 x13).bind fun e18 =>
      if (decide (e18 < 0)) = true then
        (gidx r14.1 x15).bind fun e19 =>
        if (decide (e19 < 0)) = true then
          (ref6_WorkingOn n a3 x15).bind fun r20 =>
          law6_WorkersAssignmentsArePermitted_j4 n x15 (law6_WorkersAssignmentsArePermitted_l2 n a3 r12 x13 lp1 r14 m2) (decide (r20 = (-1)))
        else
          law6_WorkersAssignmentsArePermitted_j4 n x15 (law6_WorkersAssignmentsArePermitted_l2 n a3 r12 x13 lp1 r14 m2) false
      else
        law6_WorkersAssignmentsArePermitted_j4 n x15 (law6_WorkersAssignmentsArePermitted_l2 n a3 r12 x13 lp1 r14 m2) false
    else
      if (decide (r14.2.Code ≠ 0)) = true then
        some false
      else
        (gadd x13 1).bind fun x21 =>
        lp1 x21
def law6_WorkersAssignmentsArePermitted_l1 (n : Nat) (a0 : Int) (a1 : Int) (a2 : Int) (a3 : List SKindWorkerJobValue) (r12 : ((List Int) × SCodeIndex)) : Nat → Int → Option Bool
  | 0, _ => none
  | m1 + 1, x13 =>
    if (decide (x13 < (r12.1.length : Int))) = true then
      (workers_Reports n a0 a1 a2 a3 x13).bind fun r14 =>
      law6_WorkersAssignmentsArePermitted_l2 n a3 r12 x13 (law6_WorkersAssignmentsArePermitted_l1 n a0 a1 a2 a3 r12 m1) r14 n 0
    else
      some (decide (r12.2.Code = 0))
def law6_WorkersAssignmentsArePermitted_j1 (n : Nat) (a0 : Int) (a1 : Int) (a2 : Int) (a3 : List SKindWorkerJobValue) (r1 : (Int × Int × Bool × SCodeIndex)) (x2 : Bool) : Option Bool :=
  if x2 = true then
    (law6_farms n).bind fun r4 =>
    if r4 = true then
      law6_WorkersAssignmentsArePermitted_j2 n (!r1.2.2.1)
    else
      law6_WorkersAssignmentsArePermitted_j2 n false
  else
    if (decide (39 < (a3.length : Int))) = true then
      some (decide ((a3.length : Int) = 40))
    else
      if r1.2.2.1 = true then
        (gapp 32 [] a3).bind fun w5 =>
        (gapp 32 w5 ([(⟨1, r1.2.1, r1.1, 0⟩ : SKindWorkerJobValue)] : List SKindWorkerJobValue)).bind fun w6 =>
        (workers_Play n a0 a1 a2 w6).bind fun r7 =>
        if (decide (r7.2.Code = 0)) = true then
          (gsub (r7.1.length : Int) 1).bind fun x9 =>
          (law6_in n r1.1 0 x9).bind fun r10 =>
          if r10 = true then
            (gidx r7.1 r1.1).bind fun e11 =>
            law6_WorkersAssignmentsArePermitted_j3 n (decide (e11 = (-1)))
          else
            law6_WorkersAssignmentsArePermitted_j3 n false
        else
          law6_WorkersAssignmentsArePermitted_j3 n false
      else
        (workers_Play n a0 a1 a2 a3).bind fun r12 =>
        law6_WorkersAssignmentsArePermitted_l1 n a0 a1 a2 a3 r12 n 0
def law6_WorkersAssignmentsArePermitted (n : Nat) (a0 : Int) (a1 : Int) (a2 : Int) (a3 : List SKindWorkerJobValue) : Option Bool :=
  (workers_Next n a0 a1 a2 a3).bind fun r1 =>
  (law6_farms n).bind fun r22 =>
  if (!r22) = true then
    law6_WorkersAssignmentsArePermitted_j1 n a0 a1 a2 a3 r1 true
  else
    law6_WorkersAssignmentsArePermitted_j1 n a0 a1 a2 a3 r1 (decide (r1.2.2.2.Code ≠ 0))
end Go.Proofs.Ythnneojommdhjaa
