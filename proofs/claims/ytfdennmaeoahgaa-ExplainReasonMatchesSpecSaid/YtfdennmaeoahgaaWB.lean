/- The functions compute what the texts of D say. Laid by a program (wip/gen/dec.py). -/
import Derived.Test.YtfdennmaeoahgaaPwAuto
import Derived.Test.YtfdennmaeoahgaaD
import Derived.Test.YtfdennmaeoahgaaWA
set_option linter.unusedVariables false
set_option linter.unusedSimpArgs false
namespace Go.Proofs.Ytfdennmaeoahgaa
open Go.PW Go
theorem ref5_Sign3_spec (n : Nat) (a0 : Int) (a1 : Int) (r : Int) (h : ref5_Sign3 n a0 a1 = some r) : PSpec Try.prog 73 [iP a0, iP a1] (iP r) := by
 unfold ref5_Sign3 at h
 refine spec_of Try.c_ref5_Sign3 (by simp) ?_
 unfold Try.l_ref5_Sign3
 refine au h [1,1,1,1,1,1,1,1,5] ?_; intro h
 refine bs h (fun c1 h => ?_) fun c1 h => ?_
 ·refine au h [2,1,1,1,1] ?_; intro h
  cases h
  exact ⟨_, rfl, .refl _⟩
 ·refine au h [3,1,1,1,1,1,1,5] ?_; intro h
  refine bs h (fun c2 h => ?_) fun c2 h => ?_
  ·refine au h [2,1,1,1,1] ?_; intro h
   cases h
   exact ⟨_, rfl, .refl _⟩
  ·refine au h [3,1,1,1,1,1] ?_; intro h
   cases h
   exact ⟨_, rfl, .refl _⟩
theorem ref5_value_spec (n : Nat) (a0 : List UInt8) (r : Int) (h : ref5_value n a0 = some r) : PSpec Try.prog 82 [.str a0] (iP r) := by
 unfold ref5_value at h
 refine spec_of Try.c_ref5_value (by simp) ?_
 unfold Try.l_ref5_value
 refine au h [1,1,1,1,1,1,1,1,1,1,1] ?_; intro h
 refine Ev.loopW (β := Nat × Int × Int) (fun v => ⟨[(0, .str a0), (3, iP v.2.1), (4, iP v.2.2)], [], 2⟩) (fun v => ref5_value_l1 n a0 v.1 v.2.1 v.2.2 = some r) (fun v => v.1) (n, 0, 0) (.nA) h ?_
 intro ⟨m1, x1, x2⟩ h
 try dsimp only at h ⊢
 cases m1 with
 | zero => rw [ref5_value_l1] at h; cases h
 | succ m1 =>
  rw [ref5_value_l1] at h
  refine au h [1,1,1,1,1,5,5] ?_; intro h
  refine bs h (fun c1 h => ?_) fun c1 h => ?_
  ·refine au h [2,1,1,1,1,1,7,1,1,5] ?_; intro x3 k2 y4 k3 h
   refine W.bin (z := .int .u8 (ksub .u8 (y4.toNat : Int) 48)) rfl rfl rfl ?_
   refine ax 20 h [5,7,1,1,1,7,1] ?_; intro x5 k4 x6 k5 h
   exact lb (m1, x5, x6) h
  ·refine au h [3,1,1,1,1,1,1] ?_; intro h
   cases h
   exact ⟨_, rfl, .refl _⟩
theorem ref5_identifiers_spec (n : Nat) (a0 : List UInt8) (a1 : List UInt8) (r : Int) (h : ref5_identifiers n a0 a1 = some r) : PSpec Try.prog 74 [.str a0, .str a1] (iP r) := by
 unfold ref5_identifiers at h
 refine spec_of Try.c_ref5_identifiers (by simp) ?_
 unfold Try.l_ref5_identifiers
 refine au h [1,1,1,1] ?_; intro h
 refine Ev.seqJ (γ := Bool) (fun v => ⟨[(0, .str a0), (1, .str a1), (11, .bool v)], [], 2⟩) (fun v => ref5_identifiers_j1 n a0 a1 v = some r) ?_ ?_
 ·refine au h [1,1] ?_; intro h
  refine cb h (ref5_Numeric_spec n _) fun r16 k19 h => ?_
  refine W.mv rfl ?_
  refine bs h (fun c20 h => ?_) fun c20 h => ?_
  ·refine aw h [2,1,2] ?_; intro h
   refine cb h (ref5_Numeric_spec n _) fun r17 k21 h => ?_
   refine aw h [2] ?_; intro h
   exact lf r17 h
  ·refine aw h [3,3,3] ?_; intro h
   exact lf false h
 ·intro x1 h
  try dsimp only at h ⊢
  unfold ref5_identifiers_j1 at h
  refine bs h (fun c1 h => ?_) fun c1 h => ?_
  ·refine au h [2,1,1,1] ?_; intro h
   refine cb h (ref5_value_spec n _) fun r2 k2 h => ?_
   refine W.mv rfl ?_
   refine cb h (ref5_value_spec n _) fun r3 k3 h => ?_
   refine cb h (ref5_Sign3_spec n _ _) fun r4 k4 h => ?_
   refine ax 54 h [1,1] ?_; intro h
   cases h
   exact ⟨_, rfl, .refl _⟩
  ·refine au h [3,1,1,1,1,1] ?_; intro h
   refine cb h (ref5_Numeric_spec n _) fun r5 k5 h => ?_
   refine W.nil ?_
   refine bs h (fun c6 h => ?_) fun c6 h => ?_
   ·refine au h [2,1,1,1,1] ?_; intro h
    cases h
    exact ⟨_, rfl, .refl _⟩
   ·refine au h [3,1,1,1,1,1] ?_; intro h
    refine cb h (ref5_Numeric_spec n _) fun r6 k7 h => ?_
    refine W.nil ?_
    refine bs h (fun c8 h => ?_) fun c8 h => ?_
    ·refine au h [2,1,1,1,1] ?_; intro h
     cases h
     exact ⟨_, rfl, .refl _⟩
    ·refine au h [3,1,1,1,1,1,1] ?_; intro h
     refine Ev.loopW (β := Nat × Int) (fun v => ⟨[(0, .str a0), (1, .str a1), (5, iP v.2)], [], 2⟩) (fun v => ref5_identifiers_l1 n a0 a1 v.1 v.2 = some r) (fun v => v.1) (n, 0) (.nA) h ?_
     intro ⟨m1, x7⟩ h
     try dsimp only at h ⊢
     cases m1 with
     | zero => rw [ref5_identifiers_l1] at h; cases h
     | succ m1 =>
      rw [ref5_identifiers_l1] at h
      refine Ev.seq ?_
      refine Ev.seqJ (γ := Bool) (fun v => ⟨[(0, .str a0), (1, .str a1), (5, iP x7), (30, .bool v)], [], 2⟩) (fun v => ref5_identifiers_j2 n a0 a1 x7 (ref5_identifiers_l1 n a0 a1 m1) v = some r) ?_ ?_
      ·refine au h [1,1,1,5,5,1] ?_; intro h
       refine bs h (fun c18 h => ?_) fun c18 h => ?_
       ·refine aw h [2,1,2,1,2,5,2,5,2] ?_; intro h
        exact lf (decide (x7 < (a1.length : Int))) h
       ·refine aw h [3,3,3,3,3] ?_; intro h
        exact lf false h
      ·intro x8 h
       try dsimp only at h ⊢
       unfold ref5_identifiers_j2 at h
       refine bs h (fun c9 h => ?_) fun c9 h => ?_
       ·refine au h [2,1,1,1,1,1,1,1,5,1,1,5,5] ?_; intro y9 k10 y10 k11 h
        refine bs h (fun c12 h => ?_) fun c12 h => ?_
        ·refine au h [2,1,1,1,1,5,5,1,1,5,5] ?_; intro y11 k13 y12 k14 h
         refine cb h (ref5_Sign3_spec n _ _) fun r13 k15 h => ?_
         refine ax 54 h [1,1] ?_; intro h
         cases h
         exact ⟨_, rfl, .refl _⟩
        ·refine au h [3,1,1,1,7,1] ?_; intro x14 k16 h
         exact lb (m1, x14) h
       ·refine au h [3,1,1,1,1,5,1,5] ?_; intro h
        refine cb h (ref5_Sign3_spec n _ _) fun r15 k17 h => ?_
        refine ax 54 h [1,1] ?_; intro h
        cases h
        exact ⟨_, rfl, .refl _⟩
theorem ref5_VersionOrder_spec (n : Nat) (a0 : SMajorMinorPatchPre) (a1 : SMajorMinorPatchPre) (r : Int) (h : ref5_VersionOrder n a0 a1 = some r) : PSpec Try.prog 65 [.agg (SMajorMinorPatchPre.cells a0), .agg (SMajorMinorPatchPre.cells a1)] (iP r) := by
 unfold ref5_VersionOrder at h
 refine spec_of Try.c_ref5_VersionOrder (by simp) ?_
 unfold Try.l_ref5_VersionOrder
 refine au h [1,1,5,5,1,1,1,1,8,8,8,8,5] ?_; intro h
 refine bs h (fun c1 h => ?_) fun c1 h => ?_
 ·refine au h [2,1,1,8,8,8,8] ?_; intro h
  refine cb h (ref5_Sign3_spec n _ _) fun r1 k2 h => ?_
  refine ax 98 h [1,1] ?_; intro h
  cases h
  exact ⟨_, rfl, .refl _⟩
 ·refine au h [3,1,1,1,1,8,8,8,8,5] ?_; intro h
  refine bs h (fun c3 h => ?_) fun c3 h => ?_
  ·refine au h [2,1,1,8,8,8,8] ?_; intro h
   refine cb h (ref5_Sign3_spec n _ _) fun r2 k4 h => ?_
   refine ax 98 h [1,1] ?_; intro h
   cases h
   exact ⟨_, rfl, .refl _⟩
  ·refine au h [3,1,1,1,1,8,8,8,8,5] ?_; intro h
   refine bs h (fun c5 h => ?_) fun c5 h => ?_
   ·refine au h [2,1,1,8,8,8,8] ?_; intro h
    refine cb h (ref5_Sign3_spec n _ _) fun r3 k6 h => ?_
    refine ax 98 h [1,1] ?_; intro h
    cases h
    exact ⟨_, rfl, .refl _⟩
   ·refine au h [3,1,1] ?_; intro h
    refine Ev.seqJ (γ := Bool) (fun v => ⟨[(2, wP 10100), (3, wP 10101), (46, .bool v)], [(10100, eP 64 4 [[iP a0.Major, iP a0.Minor, iP a0.Patch, lP a0.Pre]]), (10101, eP 64 4 [[iP a1.Major, iP a1.Minor, iP a1.Patch, lP a1.Pre]])], 2⟩) (fun v => ref5_VersionOrder_j1 n a0 a1 v = some r) ?_ ?_
    ·refine au h [1,8,8,5,5,1] ?_; intro h
     refine bs h (fun c20 h => ?_) fun c20 h => ?_
     ·refine aw h [3,3,3,3,2] ?_; intro h
      exact lf true h
     ·refine aw h [2,8,2,8,2,5,2,5,3] ?_; intro h
      exact lf (decide ((a1.Pre.length : Int) = 0)) h
    ·intro x4 h
     try dsimp only at h ⊢
     unfold ref5_VersionOrder_j1 at h
     refine bs h (fun c7 h => ?_) fun c7 h => ?_
     ·refine au h [2,1,1,8,8,5,8,8,5] ?_; intro h
      refine cb h (ref5_Sign3_spec n _ _) fun r5 k8 h => ?_
      refine aw h [8,8,5,8,8,5,7] ?_; intro x6 k9 h
      refine cb h (ref5_Sign3_spec n _ _) fun r7 k10 h => ?_
      refine ax 98 h [7,1,1] ?_; intro x8 k11 h
      cases h
      exact ⟨_, rfl, .refl _⟩
     ·refine au h [3,1,1,1,1,1,1] ?_; intro h
      refine Ev.loopW (β := Nat × Int) (fun v => ⟨[(2, wP 10200), (3, wP 10201), (5, iP v.2)], [(10200, eP 64 4 [[iP a0.Major, iP a0.Minor, iP a0.Patch, lP a0.Pre]]), (10201, eP 64 4 [[iP a1.Major, iP a1.Minor, iP a1.Patch, lP a1.Pre]])], 2⟩) (fun v => ref5_VersionOrder_l1 n a0 a1 v.1 v.2 = some r) (fun v => v.1) (n, 0) (.nA) h ?_
      intro ⟨m1, x9⟩ h
      try dsimp only at h ⊢
      cases m1 with
      | zero => rw [ref5_VersionOrder_l1] at h; cases h
      | succ m1 =>
       rw [ref5_VersionOrder_l1] at h
       refine Ev.seq ?_
       refine Ev.seqJ (γ := Bool) (fun v => ⟨[(2, wP 10300), (3, wP 10301), (5, iP x9), (74, .bool v)], [(10300, eP 64 4 [[iP a0.Major, iP a0.Minor, iP a0.Patch, lP a0.Pre]]), (10301, eP 64 4 [[iP a1.Major, iP a1.Minor, iP a1.Patch, lP a1.Pre]])], 2⟩) (fun v => ref5_VersionOrder_j2 n a0 a1 x9 (ref5_VersionOrder_l1 n a0 a1 m1) v = some r) ?_ ?_
       ·refine au h [1,1,8,8,5,5,1] ?_; intro h
        refine bs h (fun c19 h => ?_) fun c19 h => ?_
        ·refine aw h [2,1,2,8,2,8,2,5,2,5,2] ?_; intro h
         exact lf (decide (x9 < (a1.Pre.length : Int))) h
        ·refine aw h [3,3,3,3,3,3] ?_; intro h
         exact lf false h
       ·intro x10 h
        try dsimp only at h ⊢
        unfold ref5_VersionOrder_j2 at h
        refine bs h (fun c12 h => ?_) fun c12 h => ?_
        ·refine au h [2,1,1,1,1,1,8,8,1,5,5,8,8,1,5,5] ?_; intro e11 k13 e12 k14 h
         refine cb h (ref5_identifiers_spec n _ _) fun r13 k15 h => ?_
         refine ax 98 h [1,1,1,1,5] ?_; intro h
         refine bs h (fun c16 h => ?_) fun c16 h => ?_
         ·refine au h [2,1,1,1,1,1] ?_; intro h
          cases h
          exact ⟨_, rfl, .refl _⟩
         ·refine au h [3,1,1,1,7,1] ?_; intro x14 k17 h
          exact lb (m1, x14) h
        ·refine au h [3,1,1,1,8,8,5,8,8,5] ?_; intro h
         refine cb h (ref5_Sign3_spec n _ _) fun r15 k18 h => ?_
         refine ax 98 h [1,1] ?_; intro h
         cases h
         exact ⟨_, rfl, .refl _⟩
theorem ref5_RangeFault_spec (n : Nat) (a0 : SIntervals) (r : SCodeIndex) (h : ref5_RangeFault n a0 = some r) : PSpec Try.prog 54 [.agg (SIntervals.cells a0)] (.agg (SCodeIndex.cells r)) := by
 unfold ref5_RangeFault at h
 refine spec_of Try.c_ref5_RangeFault (by simp) ?_
 unfold Try.l_ref5_RangeFault
 refine au h [1,1,5,5,1,1,1,8,8,5,5] ?_; intro h
 refine bs h (fun c1 h => ?_) fun c1 h => ?_
 ·refine au h [2,1,1] ?_; intro h
  refine cb h (ref5_fault_spec n _ _) fun r1 k2 h => ?_
  refine ax 92 h [8,1] ?_; intro h
  cases h
  exact ⟨_, rfl, .refl _⟩
 ·refine au h [3,1,1,1,1,1,1] ?_; intro h
  refine Ev.loopW (β := Nat × Int) (fun v => ⟨[(1, wP 10100), (2, wP 10101), (3, iP v.2)], [(10100, eP 58 1 [[lP a0.Intervals]]), (10101, eP 30 2 [[iP 0, iP 0]])], 2⟩) (fun v => ref5_RangeFault_l1 n a0 v.1 v.2 = some r) (fun v => v.1) (n, 0) (.nA) h ?_
  intro ⟨m1, x2⟩ h
  try dsimp only at h ⊢
  cases m1 with
  | zero => rw [ref5_RangeFault_l1] at h; cases h
  | succ m1 =>
   rw [ref5_RangeFault_l1] at h
   refine au h [1,1,1,1,8,8,5,5] ?_; intro h
   refine bs h (fun c3 h => ?_) fun c3 h => ?_
   ·refine au h [2,1,1,1,1,1,8,8,1,5,5,5,8,1,1,8,8] ?_; intro e3 k4 h
    refine cb h (ref5_VersionFault_spec n _) fun r4 k5 h => ?_
    refine ax 92 h [5,8,1,1,1,8,8,5] ?_; intro h
    refine bs h (fun c6 h => ?_) fun c6 h => ?_
    ·refine au h [2,1,1,8,8,1] ?_; intro h
     refine cb h (ref5_fault_spec n _ _) fun r5 k7 h => ?_
     refine ax 92 h [8,1] ?_; intro h
     cases h
     exact ⟨_, rfl, .refl _⟩
    ·refine au h [3,1,1] ?_; intro h
     refine Ev.seqJ (γ := Bool) (fun v => ⟨[(1, wP 10200), (2, wP 10201), (3, iP x2), (4, wP 10202), (5, wP 10203), (41, .bool v)], [(10200, eP 58 1 [[lP a0.Intervals]]), (10201, eP 30 2 [[iP 0, iP 0]]), (10202, eP 88 9 [[iP e3.Low.Major, iP e3.Low.Minor, iP e3.Low.Patch, lP e3.Low.Pre, iP e3.High.Major, iP e3.High.Minor, iP e3.High.Patch, lP e3.High.Pre, .bool e3.Unbounded]]), (10203, eP 30 2 [[iP r4.Code, iP r4.Index]])], 2⟩) (fun v => ref5_RangeFault_j1 n a0 x2 (ref5_RangeFault_l1 n a0 m1) e3 v = some r) ?_ ?_
     ·refine au h [1,8,8,1] ?_; intro h
      refine bs h (fun c27 h => ?_) fun c27 h => ?_
      ·refine aw h [2,8,2,8,2,5,2] ?_; intro h
       obtain ⟨r20, k28, h⟩ := obind h
       refine W.call (ref5_SameVersion_spec n (⟨e3.High.Major, e3.High.Minor, e3.High.Patch, e3.High.Pre⟩ : SMajorMinorPatchPre) (⟨0, 0, 0, ([] : List (List UInt8))⟩ : SMajorMinorPatchPre) r20 k28) rfl rfl (.cons (.refl _) (.cons (Le.aggs (.cons (.refl _) (.cons (.refl _) (.cons (.refl _) (.cons (.nils 1) (.nil))))) rfl) (.nil))) rfl (.inl rfl) rfl ?_
       refine aw h [2,5,2] ?_; intro h
       exact lf (!r20) h
      ·refine aw h [3,3,3,3,3,3] ?_; intro h
       exact lf false h
     ·intro x6 h
      try dsimp only at h ⊢
      unfold ref5_RangeFault_j1 at h
      refine bs h (fun c8 h => ?_) fun c8 h => ?_
      ·refine au h [2,1,1,1] ?_; intro h
       refine cb h (ref5_fault_spec n _ _) fun r7 k9 h => ?_
       refine ax 92 h [8,1] ?_; intro h
       cases h
       exact ⟨_, rfl, .refl _⟩
      ·refine au h [3,1] ?_; intro h
       refine Ev.seqJ (γ := Unit) (fun v => ⟨[(1, wP 10300), (2, wP 10301), (3, iP x2), (4, wP 10302)], [(10300, eP 58 1 [[lP a0.Intervals]]), (10301, eP 30 2 [[iP 0, iP 0]]), (10302, eP 88 9 [[iP e3.Low.Major, iP e3.Low.Minor, iP e3.Low.Patch, lP e3.Low.Pre, iP e3.High.Major, iP e3.High.Minor, iP e3.High.Patch, lP e3.High.Pre, .bool e3.Unbounded]])], 2⟩) (fun v => ref5_RangeFault_j2 n a0 x2 (ref5_RangeFault_l1 n a0 m1) e3 = some r) ?_ ?_
       ·refine au h [1,1,8,8,5] ?_; intro h
        refine bs h (fun c20 h => ?_) fun c20 h => ?_
        ·refine au h [2,1,1,8,8] ?_; intro h
         refine cb h (ref5_VersionFault_spec n _) fun r16 k21 h => ?_
         refine ax 92 h [8,1,1,1,8,8,5] ?_; intro h
         refine bs h (fun c22 h => ?_) fun c22 h => ?_
         ·refine au h [2,1,1,8,8,1] ?_; intro h
          refine cb h (ref5_fault_spec n _ _) fun r17 k23 h => ?_
          refine ax 92 h [8,1] ?_; intro h
          cases h
          exact ⟨_, rfl, .refl _⟩
         ·refine au h [3,1,1,1,8,8,8,8] ?_; intro h
          refine cb h (ref5_VersionOrder_spec n _ _) fun r18 k24 h => ?_
          refine aw h [5] ?_; intro h
          refine bs h (fun c25 h => ?_) fun c25 h => ?_
          ·refine au h [2,1,1,1] ?_; intro h
           refine cb h (ref5_fault_spec n _ _) fun r19 k26 h => ?_
           refine ax 92 h [8,1] ?_; intro h
           cases h
           exact ⟨_, rfl, .refl _⟩
          ·refine au h [3,1] ?_; intro h
           exact lf () h
        ·refine au h [3,1] ?_; intro h
         exact lf () h
       ·intro _ h
        try dsimp only at h ⊢
        unfold ref5_RangeFault_j2 at h
        refine Ev.seqJ (γ := Bool) (fun v => ⟨[(1, wP 10400), (2, wP 10401), (3, iP x2), (88, .bool v)], [(10400, eP 58 1 [[lP a0.Intervals]]), (10401, eP 30 2 [[iP 0, iP 0]])], 2⟩) (fun v => ref5_RangeFault_j3 n x2 (ref5_RangeFault_l1 n a0 m1) v = some r) ?_ ?_
        ·refine au h [1,1,5,1] ?_; intro h
         refine bs h (fun c13 h => ?_) fun c13 h => ?_
         ·refine aw h [2,8,2,8,2,1,2,7,2,5,2,5,2,5,2,1] ?_; intro x11 k14 e12 k15 h
          refine bs h (fun c16 h => ?_) fun c16 h => ?_
          ·refine aw h [3,3,3,3,3,3,3,3,3,3,3,2,2,2] ?_; intro h
           exact lf true h
          ·refine aw h [2,8,2,8,2,1,2,7,2,5,2,5,2,5,2,8,2,8,2] ?_; intro x13 k17 e14 k18 h
           refine cb h (ref5_VersionOrder_spec n _ _) fun r15 k19 h => ?_
           refine aw h [2,5,2,3,2] ?_; intro h
           exact lf (decide (0 ≤ r15)) h
         ·refine aw h [3,3,3,3,3,3,3,3,4,4,4,4,4,4,4,4,4,4,4,3,3] ?_; intro h
          exact lf false h
        ·intro x8 h
         try dsimp only at h ⊢
         unfold ref5_RangeFault_j3 at h
         refine bs h (fun c10 h => ?_) fun c10 h => ?_
         ·refine au h [2,1,1,1] ?_; intro h
          refine cb h (ref5_fault_spec n _ _) fun r9 k11 h => ?_
          refine ax 92 h [8,1] ?_; intro h
          cases h
          exact ⟨_, rfl, .refl _⟩
         ·refine au h [3,1,1,1,7,1] ?_; intro x10 k12 h
          exact lb (m1, x10) h
   ·refine au h [3,1,1,1,5,8,1] ?_; intro h
    cases h
    exact ⟨_, rfl, .refl _⟩
theorem ref5_NeedsCode_spec (n : Nat) (a0 : Int) (a1 : List SPackageRange) (r : Int) (h : ref5_NeedsCode n a0 a1 = some r) : PSpec Try.prog 33 [iP a0, lP a1] (iP r) := by
 unfold ref5_NeedsCode at h
 refine spec_of Try.c_ref5_NeedsCode (by simp) ?_
 unfold Try.l_ref5_NeedsCode
 refine au h [1,1,1,1,1,1,1,5,5] ?_; intro h
 refine bs h (fun c1 h => ?_) fun c1 h => ?_
 ·refine au h [2,1,1,1,1] ?_; intro h
  cases h
  exact ⟨_, rfl, .refl _⟩
 ·refine au h [3,1,1,1,1,1,1] ?_; intro h
  refine Ev.loopW (β := Nat × Int) (fun v => ⟨[(0, iP a0), (1, lP a1), (5, iP v.2)], [], 2⟩) (fun v => ref5_NeedsCode_l1 n a0 a1 v.1 v.2 = some r) (fun v => v.1) (n, 0) (.nA) h ?_
  intro ⟨m1, x1⟩ h
  try dsimp only at h ⊢
  cases m1 with
  | zero => rw [ref5_NeedsCode_l1] at h; cases h
  | succ m1 =>
   rw [ref5_NeedsCode_l1] at h
   refine au h [1,1,1,1,1,5,5] ?_; intro h
   refine bs h (fun c2 h => ?_) fun c2 h => ?_
   ·refine au h [2,1,1,1,1,1,1,1,1,5,5,5,1,7] ?_; intro e2 k3 x3 k4 h
    refine cb h (ref5_in_spec n _ _ _) fun r4 k5 h => ?_
    refine aw h [5] ?_; intro h
    refine bs h (fun c6 h => ?_) fun c6 h => ?_
    ·refine au h [2,1,1,1,1] ?_; intro h
     cases h
     exact ⟨_, rfl, .refl _⟩
    ·refine au h [3,1,1,1,1,1,6,5,5] ?_; intro h
     refine cb h (ref5_RangeFault_spec n _) fun r5 k7 h => ?_
     refine ax 52 h [5,8,1,1,1,8,8,5] ?_; intro h
     refine bs h (fun c8 h => ?_) fun c8 h => ?_
     ·refine au h [2,1,1,8,8,1,1] ?_; intro h
      cases h
      exact ⟨_, rfl, .refl _⟩
     ·refine au h [3,1] ?_; intro h
      refine Ev.seqJ (γ := Bool) (fun v => ⟨[(0, iP a0), (1, lP a1), (5, iP x1), (51, .bool v)], [], 2⟩) (fun v => ref5_NeedsCode_j1 n x1 (ref5_NeedsCode_l1 n a0 a1 m1) v = some r) ?_ ?_
      ·refine au h [1,1,5,1] ?_; intro h
       refine bs h (fun c11 h => ?_) fun c11 h => ?_
       ·refine aw h [2,1,2,1,2,6,2,5,2,5,2,1,2,1,2,7,2,5,2,5,2,5,2,5,2] ?_; intro x8 k12 e9 k13 h
        exact lf (decide (e2.Package ≤ e9.Package)) h
       ·refine aw h [3,3,3,3,3,3,3,3,3,3,3,3,3] ?_; intro h
        exact lf false h
      ·intro x6 h
       try dsimp only at h ⊢
       unfold ref5_NeedsCode_j1 at h
       refine bs h (fun c9 h => ?_) fun c9 h => ?_
       ·refine au h [2,1,1,1,1] ?_; intro h
        cases h
        exact ⟨_, rfl, .refl _⟩
       ·refine au h [3,1,1,1,7,1] ?_; intro x7 k10 h
        exact lb (m1, x7) h
   ·refine au h [3,1,1,1,1,1] ?_; intro h
    cases h
    exact ⟨_, rfl, .refl _⟩
theorem ref5_ReleasesCode_spec (n : Nat) (a0 : Int) (a1 : List SVersionNeeds) (r : Int) (h : ref5_ReleasesCode n a0 a1 = some r) : PSpec Try.prog 52 [iP a0, lP a1] (iP r) := by
 unfold ref5_ReleasesCode at h
 refine spec_of Try.c_ref5_ReleasesCode (by simp) ?_
 unfold Try.l_ref5_ReleasesCode
 refine au h [1,1,1,1,1,1,1,5,5] ?_; intro h
 refine bs h (fun c1 h => ?_) fun c1 h => ?_
 ·refine au h [2,1,1,1,1] ?_; intro h
  cases h
  exact ⟨_, rfl, .refl _⟩
 ·refine au h [3,1,1,1,1,1,1] ?_; intro h
  refine Ev.loopW (β := Nat × Int) (fun v => ⟨[(0, iP a0), (1, lP a1), (5, iP v.2)], [], 2⟩) (fun v => ref5_ReleasesCode_l1 n a0 a1 v.1 v.2 = some r) (fun v => v.1) (n, 0) (.nA) h ?_
  intro ⟨m1, x1⟩ h
  try dsimp only at h ⊢
  cases m1 with
  | zero => rw [ref5_ReleasesCode_l1] at h; cases h
  | succ m1 =>
   rw [ref5_ReleasesCode_l1] at h
   refine au h [1,1,1,1,1,5,5] ?_; intro h
   refine bs h (fun c2 h => ?_) fun c2 h => ?_
   ·refine au h [2,1,1,1,1,1,1,1,5,5,5] ?_; intro e2 k3 h
    refine cb h (ref5_VersionFault_spec n _) fun r3 k4 h => ?_
    refine ax 55 h [5,8,1,1,1,8,8,5] ?_; intro h
    refine bs h (fun c5 h => ?_) fun c5 h => ?_
    ·refine au h [2,1,1,8,8,1,1] ?_; intro h
     cases h
     exact ⟨_, rfl, .refl _⟩
    ·refine au h [3,1,1] ?_; intro h
     refine Ev.seqJ (γ := Bool) (fun v => ⟨[(0, iP a0), (1, lP a1), (5, iP x1), (44, .bool v)], [], 2⟩) (fun v => ref5_ReleasesCode_j1 n a0 x1 (ref5_ReleasesCode_l1 n a0 a1 m1) e2 v = some r) ?_ ?_
     ·refine au h [1,1,5,1] ?_; intro h
      refine bs h (fun c10 h => ?_) fun c10 h => ?_
      ·refine aw h [2,1,2,1,2,7,2,5,2,5,2,5,2,1,2,1,2,6,2,5,2,5,2] ?_; intro x7 k11 e8 k12 h
       refine cb h (ref5_VersionOrder_spec n _ _) fun r9 k13 h => ?_
       refine aw h [2,5,2] ?_; intro h
       exact lf (decide (0 ≤ r9)) h
      ·refine aw h [3,3,3,3,3,3,3,3,3,3,3,3,3,3] ?_; intro h
       exact lf false h
     ·intro x4 h
      try dsimp only at h ⊢
      unfold ref5_ReleasesCode_j1 at h
      refine bs h (fun c6 h => ?_) fun c6 h => ?_
      ·refine au h [2,1,1,1,1] ?_; intro h
       cases h
       exact ⟨_, rfl, .refl _⟩
      ·refine au h [3,1,1,1,1,1,1,6,5,5] ?_; intro h
       refine cb h (ref5_NeedsCode_spec n _ _) fun r5 k7 h => ?_
       refine ax 55 h [1,1,1,1,5] ?_; intro h
       refine bs h (fun c8 h => ?_) fun c8 h => ?_
       ·refine au h [2,1,1,1,1,1] ?_; intro h
        cases h
        exact ⟨_, rfl, .refl _⟩
       ·refine au h [3,1,1,1,7,1] ?_; intro x6 k9 h
        exact lb (m1, x6) h
   ·refine au h [3,1,1,1,1,1] ?_; intro h
    cases h
    exact ⟨_, rfl, .refl _⟩
theorem ref5_UniverseFault_spec (n : Nat) (a0 : SPackages) (r : SCodeIndex) (h : ref5_UniverseFault n a0 = some r) : PSpec Try.prog 31 [.agg (SPackages.cells a0)] (.agg (SCodeIndex.cells r)) := by
 unfold ref5_UniverseFault at h
 refine spec_of Try.c_ref5_UniverseFault (by simp) ?_
 unfold Try.l_ref5_UniverseFault
 refine au h [1,1,5,5,1,1,1,8,8,5,5] ?_; intro h
 refine bs h (fun c1 h => ?_) fun c1 h => ?_
 ·refine au h [2,1,1] ?_; intro h
  refine cb h (ref5_fault_spec n _ _) fun r1 k2 h => ?_
  refine ax 32 h [8,1] ?_; intro h
  cases h
  exact ⟨_, rfl, .refl _⟩
 ·refine au h [3,1,1,1,1,1,1] ?_; intro h
  refine Ev.loopW (β := Nat × Int) (fun v => ⟨[(1, wP 10100), (2, wP 10101), (3, iP v.2)], [(10100, eP 24 1 [[lP a0.Packages]]), (10101, eP 30 2 [[iP 0, iP 0]])], 2⟩) (fun v => ref5_UniverseFault_l1 n a0 v.1 v.2 = some r) (fun v => v.1) (n, 0) (.nA) h ?_
  intro ⟨m1, x2⟩ h
  try dsimp only at h ⊢
  cases m1 with
  | zero => rw [ref5_UniverseFault_l1] at h; cases h
  | succ m1 =>
   rw [ref5_UniverseFault_l1] at h
   refine au h [1,1,1,1,8,8,5,5] ?_; intro h
   refine bs h (fun c3 h => ?_) fun c3 h => ?_
   ·refine au h [2,1,1,1,1,1,8,8,5,8,8,1,5,5] ?_; intro e3 k4 h
    refine cb h (ref5_ReleasesCode_spec n _ _) fun r4 k5 h => ?_
    refine ax 32 h [1,1,1,1,5] ?_; intro h
    refine bs h (fun c6 h => ?_) fun c6 h => ?_
    ·refine au h [2,1,1,1,1] ?_; intro h
     refine cb h (ref5_fault_spec n _ _) fun r5 k7 h => ?_
     refine ax 32 h [8,1] ?_; intro h
     cases h
     exact ⟨_, rfl, .refl _⟩
    ·refine au h [3,1,1,1,7,1] ?_; intro x6 k8 h
     exact lb (m1, x6) h
   ·refine au h [3,1,1,1,5,8,1] ?_; intro h
    cases h
    exact ⟨_, rfl, .refl _⟩
theorem law6_explains_spec (n : Nat) (r : Bool) (h : law6_explains n = some r) : PSpec Try.prog 9 [] (.bool r) := by
 unfold law6_explains at h
 refine spec_of Try.c_law6_explains (by simp) ?_
 unfold Try.l_law6_explains
 refine au h [1,1,1,1,1] ?_; intro h
 refine cb h (law6_ver_spec n _ _ _) fun r1 k1 h => ?_
 refine cb h (law6_ver_spec n _ _ _) fun r2 k2 h => ?_
 refine cb h (law6_span_spec n _ _ _) fun r3 k3 h => ?_
 refine ax 92 h [5,1,1,1] ?_; intro h
 refine cb h (law6_universe_spec n) fun r4 k4 h => ?_
 refine W.mv rfl ?_
 refine cb h (explain_Count_spec n _ _) fun r5 k5 h => ?_
 refine ax 92 h [1,5,5,5,1,8,1] ?_; intro h
 refine Ev.weak ?_ (Wk.frz 15 2 rfl rfl)
 refine W.reg hm ?_
 refine cb h (law6_universe_spec n) fun r6 k6 h => ?_
 refine W.mv rfl ?_
 refine cb h (explain_Reason_spec n _ _) fun r7 k7 h => ?_
 refine ax 92 h [1,5,5,5,1,8,1] ?_; intro h
 refine Ev.regS rfl ?_
 refine Sq.w 3 nb ?_
 refine cb h (law6_universe_spec n) fun r8 k8 h => ?_
 refine aw h [1,5] ?_; intro h
 refine Sq.weak (st' := ⟨[(2, iP r5.1), (3, wP 10000), (4, lP r7.1), (5, wP 10001), (29, .agg [lP r8.Packages]), (30, lP ([(⟨r3.Package, (⟨r3.Range.Intervals⟩ : SIntervals)⟩ : SPackageRange)] : List SPackageRange)), (31, lP ([0] : List Int))], [(10000, eP 30 2 [[iP r5.2.Code, iP r5.2.Index]]), (10001, eP 30 2 [[iP r7.2.Code, iP r7.2.Index]])], 2⟩) ?_ ((Wk.frz 31 2 rfl rfl).trans (.nA))
 refine Sq.wEnd nb ?_
 refine cb h (explain_Keep_spec n _ _ _) fun r9 k9 h => ?_
 refine ax 92 h [1,5,5,5,5,5,8,1,8,1,1] ?_; intro h
 refine cb h (law6_universe_spec n) fun r10 k10 h => ?_
 obtain ⟨r11, k11, h⟩ := obind h
 refine W.call (explain_Reason_spec n r10 ([] : List SPackageRange) r11 k11) rfl rfl (.cons (.refl _) (.cons (.nils 2) (.nil))) rfl (.inl rfl) rfl ?_
 refine aw h [1,5,5,5,1,8] ?_; intro h
 refine Ev.seqJ (γ := Bool) (fun v => ⟨[(2, iP r5.1), (4, lP r7.1), (6, wP 10100), (7, lP r9.2.1), (11, .bool v)], [(10100, eP 24 1 [[lP r9.1.Packages]])], 2⟩) (fun v => law6_explains_j1 n r5 r7 r9 v = some r) ?_ ?_
 ·refine au h [1,8,8,5,1] ?_; intro h
  refine bs h (fun c21 h => ?_) fun c21 h => ?_
  ·refine aw h [2,8,2,8,2,5,2,1] ?_; intro h
   refine bs h (fun c22 h => ?_) fun c22 h => ?_
   ·refine aw h [2,8,2,8,2,5,2,1] ?_; intro h
    refine bs h (fun c23 h => ?_) fun c23 h => ?_
    ·refine aw h [2,8,2] ?_; intro h
     refine cb h (law6_fault_spec n _ _) fun r17 k24 h => ?_
     refine aw h [2,5,2,1] ?_; intro h
     exact lf ((r11.2.Code == r17.Code && (r11.2.Index == r17.Index && true)) != false) h
    ·refine aw h [3,3,3,3,1] ?_; intro h
     exact lf false h
   ·refine aw h [3,3,3,3,1,3,3,3,3,1] ?_; intro h
    exact lf false h
  ·refine aw h [3,3,3,3,1,3,3,3,3,1,3,3,3,3,1] ?_; intro h
   exact lf false h
 ·intro x12 h
  try dsimp only at h ⊢
  unfold law6_explains_j1 at h
  refine Ev.seqJ (γ := Bool) (fun v => ⟨[(0, .bool v)], [], 2⟩) (fun v => law6_explains_j2 n v = some r) ?_ ?_
  ·refine au h [1,1,1] ?_; intro h
   refine bs h (fun c12 h => ?_) fun c12 h => ?_
   ·refine aw h [2,1,2,5,2,1] ?_; intro h
    refine bs h (fun c13 h => ?_) fun c13 h => ?_
    ·refine aw h [2,1,2,5,2] ?_; intro h
     refine cb h (ref5_Ints_spec n _ _) fun r14 k14 h => ?_
     refine aw h [2,1] ?_; intro h
     refine bs h (fun c15 h => ?_) fun c15 h => ?_
     ·refine aw h [2,8,2,8,2,5,2,5,2,1] ?_; intro h
      refine bs h (fun c16 h => ?_) fun c16 h => ?_
      ·refine aw h [2,1,2,5,2,5,2,1] ?_; intro h
       refine bs h (fun c17 h => ?_) fun c17 h => ?_
       ·refine aw h [2,8,2] ?_; intro h
        refine cb h (ref5_UniverseFault_spec n _) fun r15 k18 h => ?_
        refine aw h [2,5,2,5,2,1] ?_; intro h
        refine bs h (fun c19 h => ?_) fun c19 h => ?_
        ·refine aw h [2,8,2,1,2] ?_; intro h
         refine cb h (ref6_ConstraintCount_spec n _ _) fun r16 k20 h => ?_
         refine aw h [2,5,2,1] ?_; intro h
         exact lf (decide (r16 = 1)) h
        ·refine aw h [3,3,3,3,3,1] ?_; intro h
         exact lf false h
       ·refine aw h [3,3,3,3,3,1,3,3,3,3,3,1] ?_; intro h
        exact lf false h
      ·refine aw h [3,3,3,3,1,3,3,3,3,3,1,3,3,3,3,3,1] ?_; intro h
       exact lf false h
     ·refine aw h [3,3,3,3,3,1,3,3,3,3,1,3,3,3,3,3,1,3,3,3,3,3,1] ?_; intro h
      exact lf false h
    ·refine aw h [3,3,3,3,1,3,3,3,3,3,1,3,3,3,3,1,3,3,3,3,3,1,3,3,3,3,3,1] ?_; intro h
     exact lf false h
   ·refine aw h [3,3,3,1,3,3,3,3,1,3,3,3,3,3,1,3,3,3,3,1,3,3,3,3,3,1,3,3,3,3,3,1] ?_; intro h
    exact lf false h
  ·intro x13 h
   try dsimp only at h ⊢
   unfold law6_explains_j2 at h
   refine Ev.ret ?_
   cases h
   exact ⟨_, rfl, .refl _⟩
theorem law6_vastNeeds_spec (n : Nat) (a0 : List SPackageRange) (r : Bool) (h : law6_vastNeeds n a0 = some r) : PSpec Try.prog 32 [lP a0] (.bool r) := by
 unfold law6_vastNeeds at h
 refine spec_of Try.c_law6_vastNeeds (by simp) ?_
 unfold Try.l_law6_vastNeeds
 refine au h [1,1,1,1,1,1,1,1] ?_; intro h
 refine Ev.loopW (β := Nat × Int) (fun v => ⟨[(0, lP a0), (3, iP v.2)], [], 2⟩) (fun v => law6_vastNeeds_l1 n a0 v.1 v.2 = some r) (fun v => v.1) (n, 0) (.nA) h ?_
 intro ⟨m1, x1⟩ h
 try dsimp only at h ⊢
 cases m1 with
 | zero => rw [law6_vastNeeds_l1] at h; cases h
 | succ m1 =>
  rw [law6_vastNeeds_l1] at h
  refine Ev.seq ?_
  refine Ev.seqJ (γ := Bool) (fun v => ⟨[(0, lP a0), (3, iP x1), (12, .bool v)], [], 2⟩) (fun v => law6_vastNeeds_j1 n a0 x1 (law6_vastNeeds_l1 n a0 m1) v = some r) ?_ ?_
  ·refine au h [1,1,1,5,5,1] ?_; intro h
   refine bs h (fun c10 h => ?_) fun c10 h => ?_
   ·refine aw h [2,1,2,5,2] ?_; intro h
    exact lf (decide (x1 < 20)) h
   ·refine aw h [3,3,3] ?_; intro h
    exact lf false h
  ·intro x2 h
   try dsimp only at h ⊢
   unfold law6_vastNeeds_j1 at h
   refine bs h (fun c1 h => ?_) fun c1 h => ?_
   ·refine au h [2,1,1,1,1,1,1,1,1,5,5,5,5,5,5] ?_; intro e3 k2 h
    refine bs h (fun c3 h => ?_) fun c3 h => ?_
    ·refine au h [2,1,1,1,1] ?_; intro h
     cases h
     exact ⟨_, rfl, .refl _⟩
    ·refine au h [3,1,1,1,1,1] ?_; intro h
     refine Ev.loopW (β := Nat × Int) (fun v => ⟨[(0, lP a0), (3, iP x1), (4, iP v.2)], [], 2⟩) (fun v => law6_vastNeeds_l2 n x1 (law6_vastNeeds_l1 n a0 m1) e3 v.1 v.2 = some r) (fun v => v.1) (n, 0) (.nA) h ?_
     intro ⟨m2, x4⟩ h
     try dsimp only at h ⊢
     cases m2 with
     | zero => rw [law6_vastNeeds_l2] at h; cases h
     | succ m2 =>
      rw [law6_vastNeeds_l2] at h
      refine au h [1,1,1,1,1,1,6,5,5,5,5,5] ?_; intro h
      refine bs h (fun c4 h => ?_) fun c4 h => ?_
      ·refine au h [2,1,1,1] ?_; intro h
       refine Ev.seqJ (γ := Bool) (fun v => ⟨[(0, lP a0), (3, iP x1), (4, iP x4), (61, .bool v)], [], 2⟩) (fun v => law6_vastNeeds_j2 n x4 (law6_vastNeeds_l2 n x1 (law6_vastNeeds_l1 n a0 m1) e3 m2) v = some r) ?_ ?_
       ·refine au h [1,1,1,6,5,5,5,1,5,5,5,5,5,5,1] ?_; intro e7 k7 h
        refine bs h (fun c8 h => ?_) fun c8 h => ?_
        ·refine aw h [3,3,3,3,3,3,3,3,3,3,3,3,3,2] ?_; intro h
         exact lf true h
        ·refine aw h [2,1,2,1,2,6,2,5,2,5,2,5,2,1,2,6,2,5,2,5,2,5,2,5,2,5,3] ?_; intro h
         exact lf (decide (40 < (e7.High.Pre.length : Int))) h
       ·intro x5 h
        try dsimp only at h ⊢
        unfold law6_vastNeeds_j2 at h
        refine bs h (fun c5 h => ?_) fun c5 h => ?_
        ·refine au h [2,1,1,1,1] ?_; intro h
         cases h
         exact ⟨_, rfl, .refl _⟩
        ·refine au h [3,1,1,1,7,1] ?_; intro x6 k6 h
         exact lb (m2, x6) h
      ·refine au h [3,1,1,1,7,1] ?_; intro x8 k9 h
       exact lb (m1, x8) h
   ·refine au h [3,1,1,1,1,5,5,1,1] ?_; intro h
    cases h
    exact ⟨_, rfl, .refl _⟩
theorem law6_vast_spec (n : Nat) (a0 : SPackages) (a1 : List SPackageRange) (r : Bool) (h : law6_vast n a0 a1 = some r) : PSpec Try.prog 10 [.agg (SPackages.cells a0), lP a1] (.bool r) := by
 unfold law6_vast at h
 refine spec_of Try.c_law6_vast (by simp) ?_
 unfold Try.l_law6_vast
 refine au h [1,1,5,1,1,1,1,1,1] ?_; intro h
 refine Ev.loopW (β := Nat × Int) (fun v => ⟨[(1, lP a1), (2, wP 10100), (5, iP v.2)], [(10100, eP 24 1 [[lP a0.Packages]])], 2⟩) (fun v => law6_vast_l1 n a0 a1 v.1 v.2 = some r) (fun v => v.1) (n, 0) (.nA) h ?_
 intro ⟨m1, x1⟩ h
 try dsimp only at h ⊢
 cases m1 with
 | zero => rw [law6_vast_l1] at h; cases h
 | succ m1 =>
  rw [law6_vast_l1] at h
  refine Ev.seq ?_
  refine Ev.seqJ (γ := Bool) (fun v => ⟨[(1, lP a1), (2, wP 10200), (5, iP x1), (15, .bool v)], [(10200, eP 24 1 [[lP a0.Packages]])], 2⟩) (fun v => law6_vast_j1 n a0 a1 x1 (law6_vast_l1 n a0 a1 m1) v = some r) ?_ ?_
  ·refine au h [1,1,8,8,5,5,1] ?_; intro h
   refine bs h (fun c13 h => ?_) fun c13 h => ?_
   ·refine aw h [2,1,2,5,2] ?_; intro h
    exact lf (decide (x1 < 20)) h
   ·refine aw h [3,3,3] ?_; intro h
    exact lf false h
  ·intro x2 h
   try dsimp only at h ⊢
   unfold law6_vast_j1 at h
   refine bs h (fun c1 h => ?_) fun c1 h => ?_
   ·refine au h [2,1,1,1,1,1,1,8,8,1,5,5,5,5] ?_; intro e3 k2 h
    refine bs h (fun c3 h => ?_) fun c3 h => ?_
    ·refine au h [2,1,1,1,1] ?_; intro h
     cases h
     exact ⟨_, rfl, .refl _⟩
    ·refine au h [3,1,1,1,1,1] ?_; intro h
     refine Ev.loopW (β := Nat × Int) (fun v => ⟨[(1, lP a1), (2, wP 10300), (5, iP x1), (6, iP v.2)], [(10300, eP 24 1 [[lP a0.Packages]])], 2⟩) (fun v => law6_vast_l2 n x1 (law6_vast_l1 n a0 a1 m1) e3 v.1 v.2 = some r) (fun v => v.1) (n, 0) (.nA) h ?_
     intro ⟨m2, x4⟩ h
     try dsimp only at h ⊢
     cases m2 with
     | zero => rw [law6_vast_l2] at h; cases h
     | succ m2 =>
      rw [law6_vast_l2] at h
      refine au h [1,1,1,1,8,8,1,6,5,5,5] ?_; intro h
      refine bs h (fun c4 h => ?_) fun c4 h => ?_
      ·refine au h [2,1,1,1] ?_; intro h
       refine Ev.seqJ (γ := Bool) (fun v => ⟨[(1, lP a1), (2, wP 10400), (5, iP x1), (6, iP x4), (58, .bool v)], [(10400, eP 24 1 [[lP a0.Packages]])], 2⟩) (fun v => law6_vast_j2 n x4 (law6_vast_l2 n x1 (law6_vast_l1 n a0 a1 m1) e3 m2) v = some r) ?_ ?_
       ·refine au h [1,8,8,1,6,5,1,5,5,5,5,5,5,1] ?_; intro e7 k7 h
        refine bs h (fun c8 h => ?_) fun c8 h => ?_
        ·refine aw h [3,3,3,3,3,3,3,3,3,3,2] ?_; intro h
         exact lf true h
        ·refine aw h [2,8,2,8,2,1,2,6,2,5,2,1,2,6,2,5,2,5,2] ?_; intro h
         refine cb h (law6_vastNeeds_spec n _) fun r8 k9 h => ?_
         refine aw h [3] ?_; intro h
         exact lf r8 h
       ·intro x5 h
        try dsimp only at h ⊢
        unfold law6_vast_j2 at h
        refine bs h (fun c5 h => ?_) fun c5 h => ?_
        ·refine au h [2,1,1,1,1] ?_; intro h
         cases h
         exact ⟨_, rfl, .refl _⟩
        ·refine au h [3,1,1,1,7,1] ?_; intro x6 k6 h
         exact lb (m2, x6) h
      ·refine au h [3,1,1,1,7,1] ?_; intro x9 k10 h
       exact lb (m1, x9) h
   ·refine au h [3,1] ?_; intro h
    refine Ev.seqJ (γ := Bool) (fun v => ⟨[(4, .bool v)], [], 2⟩) (fun v => law6_vast_j3 n v = some r) ?_ ?_
    ·refine au h [1,8,8,5,5,1] ?_; intro h
     refine bs h (fun c11 h => ?_) fun c11 h => ?_
     ·refine aw h [3,3,2,1] ?_; intro h
      exact lf true h
     ·refine aw h [2,1,2] ?_; intro h
      refine cb h (law6_vastNeeds_spec n _) fun r11 k12 h => ?_
      refine aw h [3,1] ?_; intro h
      exact lf r11 h
    ·intro x10 h
     try dsimp only at h ⊢
     unfold law6_vast_j3 at h
     refine Ev.ret ?_
     cases h
     exact ⟨_, rfl, .refl _⟩
theorem ref5_WantsFault_spec (n : Nat) (a0 : SPackages) (a1 : List SPackageRange) (r : SCodeIndex) (h : ref5_WantsFault n a0 a1 = some r) : PSpec Try.prog 11 [.agg (SPackages.cells a0), lP a1] (.agg (SCodeIndex.cells r)) := by
 unfold ref5_WantsFault at h
 refine spec_of Try.c_ref5_WantsFault (by simp) ?_
 unfold Try.l_ref5_WantsFault
 refine au h [1,1,5,5,1,1,8] ?_; intro h
 refine cb h (ref5_UniverseFault_spec n _) fun r1 k1 h => ?_
 refine aw h [5,8] ?_; intro h
 refine Ev.seqJ (γ := Int × Int) (fun v => ⟨[(4, wP 10100), (5, wP 10101)], [(10100, eP 30 2 [[iP 0, iP 0]]), (10101, eP 30 2 [[iP v.1, iP v.2]])], 2⟩) (fun v => ref5_WantsFault_j1 n v.1 v.2 = some r) ?_ ?_
 ·refine au h [1,1,8,8,5] ?_; intro h
  refine bs h (fun c2 h => ?_) fun c2 h => ?_
  ·refine au h [2,1,1,8,8,5,1] ?_; intro h
   refine cb h (ref5_NeedsCode_spec n _ _) fun r4 k3 h => ?_
   refine ax 22 h [1,1,1,1,5] ?_; intro h
   refine bs h (fun c4 h => ?_) fun c4 h => ?_
   ·refine au h [2,1,1] ?_; intro h
    refine cb h (ref5_fault_spec n _ _) fun r5 k5 h => ?_
    refine aw h [8] ?_; intro h
    exact lf (r5.Code, r5.Index) h
   ·refine au h [3,1] ?_; intro h
    exact lf (r1.Code, r1.Index) h
  ·refine au h [3,1] ?_; intro h
   exact lf (r1.Code, r1.Index) h
 ·intro ⟨b2, b3⟩ h
  try dsimp only at h ⊢
  unfold ref5_WantsFault_j1 at h
  refine au h [1,1,8,8,1] ?_; intro h
  cases h
  exact ⟨_, rfl, .refl _⟩
end Go.Proofs.Ytfdennmaeoahgaa
namespace Go.Proofs.Ytfdennmaeoahgaa
open Go.PW Go
theorem ref5_Has_spec (n : Nat) (a0 : List Int) (a1 : Int) (r : Bool) (h : ref5_Has n a0 a1 = some r) : PSpec Try.prog 61 [lP a0, iP a1] (.bool r) := by
 unfold ref5_Has at h
 refine spec_of Try.c_ref5_Has (by simp) ?_
 unfold Try.l_ref5_Has
 refine au h [1,1,1,1,1,1,1,1] ?_; intro h
 refine Ev.loopW (β := Nat × Int) (fun v => ⟨[(0, lP a0), (1, iP a1), (5, iP v.2)], [], 2⟩) (fun v => ref5_Has_l1 n a0 a1 v.1 v.2 = some r) (fun v => v.1) (n, 0) (.nA) h ?_
 intro ⟨m1, x1⟩ h
 try dsimp only at h ⊢
 cases m1 with
 | zero => rw [ref5_Has_l1] at h; cases h
 | succ m1 =>
  rw [ref5_Has_l1] at h
  refine au h [1,1,1,1,1,5,5] ?_; intro h
  refine bs h (fun c1 h => ?_) fun c1 h => ?_
  ·refine au h [2,1,1,1,1,1,1,1,5,5,1,5] ?_; intro e2 k2 h
   refine bs h (fun c3 h => ?_) fun c3 h => ?_
   ·refine au h [2,1,1,1,1] ?_; intro h
    cases h
    exact ⟨_, rfl, .refl _⟩
   ·refine au h [3,1,1,1,7,1] ?_; intro x3 k4 h
    exact lb (m1, x3) h
  ·refine au h [3,1,1,1,1,1] ?_; intro h
   cases h
   exact ⟨_, rfl, .refl _⟩
theorem ref6_part_spec (n : Nat) (a0 : List SPackageRange) (a1 : Int) (a2 : List Int) (r : (List SPackageRange)) (h : ref6_part n a0 a1 a2 = some r) : PSpec Try.prog 42 [lP a0, iP a1, lP a2] (lP r) := by
 unfold ref6_part at h
 refine spec_of Try.c_ref6_part (by simp) ?_
 unfold Try.l_ref6_part
 refine au h [1,1,1,1,1,1,1,1,1,1,1] ?_; intro h
 refine Ev.loopW (β := Nat × (List SPackageRange) × Int) (fun v => ⟨[(0, lP a0), (1, iP a1), (2, lP a2), (7, .own 10100 0), (8, iP v.2.2)], [(10100, eP 60 2 (mP v.2.1))], 2⟩) (fun v => ref6_part_l1 n a0 a1 a2 v.1 v.2.1 v.2.2 = some r) (fun v => v.1) (n, ([] : List SPackageRange), 0) ((Wk.ownNil 7 30100 60 2 rfl rfl true).trans (.nA)) h ?_
 intro ⟨m1, w1, x2⟩ h
 try dsimp only at h ⊢
 cases m1 with
 | zero => rw [ref6_part_l1] at h; cases h
 | succ m1 =>
  rw [ref6_part_l1] at h
  refine au h [1,1,1,1,1,5,5] ?_; intro h
  refine bs h (fun c1 h => ?_) fun c1 h => ?_
  ·refine au h [2,1] ?_; intro h
   refine Ev.seqJ (γ := List SPackageRange) (fun v => ⟨[(0, lP a0), (1, iP a1), (2, lP a2), (7, .own 10200 0), (8, iP x2)], [(10200, eP 60 2 (mP v))], 2⟩) (fun v => ref6_part_j1 n x2 (ref6_part_l1 n a0 a1 a2 m1) v = some r) ?_ ?_
   ·refine au h [1,1,1,1,1,1,7] ?_; intro x5 k3 h
    refine cb h (ref5_Has_spec n _ _) fun r6 k4 h => ?_
    refine W.nil ?_
    refine bs h (fun c5 h => ?_) fun c5 h => ?_
    ·refine au h [2,1,1,1,1,5,5,5,7,1] ?_; intro e7 k6 w8 k7 h
     exact lf w8 h
    ·refine au h [3,1] ?_; intro h
     exact lf w1 h
   ·intro w3 h
    try dsimp only at h ⊢
    unfold ref6_part_j1 at h
    refine au h [1,1,7,1] ?_; intro x4 k2 h
    exact lb (m1, w3, x4) h
  ·refine au h [3,1,1,1,1,1,1] ?_; intro h
   cases h
   exact ⟨_, rfl, .refl _⟩
theorem ref6_Kept_spec (n : Nat) (a0 : SPackages) (a1 : List SPackageRange) (a2 : List Int) (r : (SPackages × (List SPackageRange))) (h : ref6_Kept n a0 a1 a2 = some r) : PSpec Try.prog 16 [.agg (SPackages.cells a0), lP a1, lP a2] (.tup [.agg (SPackages.cells r.1), lP r.2]) := by
 unfold ref6_Kept at h
 refine spec_of Try.c_ref6_Kept (by simp) ?_
 unfold Try.l_ref6_Kept
 refine au h [1,1,5,5,1,1,1,5,1,1,1,5,1,1,1,1,1,1] ?_; intro h
 refine Ev.loopW (β := Nat × (List (List SVersionNeeds)) × Int × Int) (fun v => ⟨[(1, lP a1), (2, lP a2), (3, wP 10100), (6, wP 10101), (8, wP 10102), (9, iP v.2.2.1), (10, iP v.2.2.2)], [(10100, eP 24 1 [[lP a0.Packages]]), (10101, eP 24 1 [[.nils]]), (10102, ⟨0, 24, 1, [[.own 10103 0]], false, false, false⟩), (10103, eP 68 1 (mP v.2.1))], 2⟩) (fun v => ref6_Kept_l1 n a0 a1 a2 v.1 v.2.1 v.2.2.1 v.2.2.2 = some r) (fun v => v.1) (n, ([] : List (List SVersionNeeds)), (a1.length : Int), 0) ((Wk.ownNilCell 8 2 0 30103 68 1 rfl rfl rfl rfl rfl (by simp) true).trans (.nA)) h ?_
 intro ⟨m1, w1, x2, x3⟩ h
 try dsimp only at h ⊢
 cases m1 with
 | zero => rw [ref6_Kept_l1] at h; cases h
 | succ m1 =>
  rw [ref6_Kept_l1] at h
  refine au h [1,1,1,1,8,8,5,5] ?_; intro h
  refine bs h (fun c1 h => ?_) fun c1 h => ?_
  ·refine au h [2,1,1,1,1,1,1,1,1,1,1,1] ?_; intro h
   refine Ev.loopW (β := Nat × Int × (List SVersionNeeds) × Int) (fun v => ⟨[(1, lP a1), (2, lP a2), (3, wP 10200), (6, wP 10201), (8, wP 10202), (9, iP v.2.1), (10, iP x3), (11, .own 10204 0), (12, iP v.2.2.2)], [(10200, eP 24 1 [[lP a0.Packages]]), (10201, eP 24 1 [[.nils]]), (10202, ⟨0, 24, 1, [[.own 10203 0]], false, false, false⟩), (10203, eP 68 1 (mP w1)), (10204, eP 70 5 (mP v.2.2.1))], 2⟩) (fun v => ref6_Kept_l2 n a0 a2 w1 x3 (ref6_Kept_l1 n a0 a1 a2 m1) v.1 v.2.1 v.2.2.1 v.2.2.2 = some r) (fun v => v.1) (n, x2, ([] : List SVersionNeeds), 0) ((Wk.ownNil 11 30204 70 5 rfl rfl true).trans (.nA)) h ?_
   intro ⟨m2, x4, w5, x6⟩ h
   try dsimp only at h ⊢
   cases m2 with
   | zero => rw [ref6_Kept_l2] at h; cases h
   | succ m2 =>
    rw [ref6_Kept_l2] at h
    refine au h [1,1,1,1,8,8,1,5,5,5,5] ?_; intro e7 k2 h
    refine bs h (fun c3 h => ?_) fun c3 h => ?_
    ·refine au h [2,1,1,1,1,1,8,8,1,6,5,1,5,5,5,8,1,1,1,8,8,8,8,1,1] ?_; intro e8 k4 h
     refine cb h (ref6_part_spec n _ _ _) fun r9 k5 h => ?_
     refine ax 67 h [5,5,7,1,1,1,8,8,5,7,1,1,1,7,1] ?_; intro w10 k6 x11 k7 x12 k8 h
     exact lb (m2, x11, w10, x12) h
    ·refine au h [3,1] ?_; intro h
     refine Ev.weak ?_ (Wk.frz 10204 0 rfl rfl)
     refine au h [1,8,8,1,5,7,8,8,1,1,7,1] ?_; intro w13 k9 x14 k10 h
     exact lb (m1, w13, x4, x14) h
  ·refine au h [3,1,1,1,8,1,1] ?_; intro h
   refine cb h (ref6_part_spec n _ _ _) fun r15 k11 h => ?_
   refine aw h [8,1] ?_; intro h
   refine Ev.weak ?_ (Wk.frz 10103 0 rfl rfl)
   refine Ev.ret ?_
   cases h
   exact ⟨_, rfl, .refl _⟩
theorem ref5_Selections_spec (n : Nat) (a0 : SPackages) (r : Int) (h : ref5_Selections n a0 = some r) : PSpec Try.prog 46 [.agg (SPackages.cells a0)] (iP r) := by
 unfold ref5_Selections at h
 refine spec_of Try.c_ref5_Selections (by simp) ?_
 unfold Try.l_ref5_Selections
 refine au h [1,1,5,1,1,1,1,1,1,1,1,1] ?_; intro h
 refine Ev.loopW (β := Nat × Int × Int) (fun v => ⟨[(1, wP 10100), (3, iP v.2.1), (4, iP v.2.2)], [(10100, eP 24 1 [[lP a0.Packages]])], 2⟩) (fun v => ref5_Selections_l1 n a0 v.1 v.2.1 v.2.2 = some r) (fun v => v.1) (n, 1, 0) (.nA) h ?_
 intro ⟨m1, x1, x2⟩ h
 try dsimp only at h ⊢
 cases m1 with
 | zero => rw [ref5_Selections_l1] at h; cases h
 | succ m1 =>
  rw [ref5_Selections_l1] at h
  refine au h [1,1,1,1,8,8,5,5] ?_; intro h
  refine bs h (fun c1 h => ?_) fun c1 h => ?_
  ·refine au h [2,1,1,1,1,1,8,8,1,5,5,5,7,7,1,1,1,7,1] ?_; intro e3 k2 x4 k3 x5 k4 x6 k5 h
   exact lb (m1, x5, x6) h
  ·refine au h [3,1,1,1,1,1,1] ?_; intro h
   cases h
   exact ⟨_, rfl, .refl _⟩
theorem law6_slow_spec (n : Nat) (a0 : SPackages) (a1 : List SPackageRange) (r : Bool) (h : law6_slow n a0 a1 = some r) : PSpec Try.prog 20 [.agg (SPackages.cells a0), lP a1] (.bool r) := by
 unfold law6_slow at h
 refine spec_of Try.c_law6_slow (by simp) ?_
 unfold Try.l_law6_slow
 refine au h [1,1,5,1,1,1,8] ?_; intro h
 refine cb h (ref5_Selections_spec n _) fun r1 k1 h => ?_
 refine aw h [8,1] ?_; intro h
 refine cb h (ref6_ConstraintCount_spec n _ _) fun r2 k2 h => ?_
 refine ax 13 h [7,7,5,1,1] ?_; intro x3 k3 x4 k4 h
 cases h
 exact ⟨_, rfl, .refl _⟩
end Go.Proofs.Ytfdennmaeoahgaa
namespace Go.Proofs.Ytfdennmaeoahgaa
open Go.PW Go
theorem ref5_within_spec (n : Nat) (a0 : SLowHighUnbounded) (a1 : SMajorMinorPatchPre) (r : Bool) (h : ref5_within n a0 a1 = some r) : PSpec Try.prog 89 [.agg (SLowHighUnbounded.cells a0), .agg (SMajorMinorPatchPre.cells a1)] (.bool r) := by
 unfold ref5_within at h
 refine spec_of Try.c_ref5_within (by simp) ?_
 unfold Try.l_ref5_within
 refine au h [1,1,5,5,1] ?_; intro h
 refine Ev.seqJ (γ := Bool) (fun v => ⟨[(4, .bool v)], [], 2⟩) (fun v => ref5_within_j1 n v = some r) ?_ ?_
 ·refine au h [1,8,8,8] ?_; intro h
  refine cb h (ref5_VersionOrder_spec n _ _) fun r2 k1 h => ?_
  refine aw h [5,1] ?_; intro h
  refine bs h (fun c2 h => ?_) fun c2 h => ?_
  ·refine aw h [2,8,2,8,2,1] ?_; intro h
   refine bs h (fun c3 h => ?_) fun c3 h => ?_
   ·refine aw h [3,3,3,3,3,2,2,2,1] ?_; intro h
    exact lf true h
   ·refine aw h [2,8,2,8,2,8,2] ?_; intro h
    refine cb h (ref5_VersionOrder_spec n _ _) fun r3 k4 h => ?_
    refine aw h [2,5,2,3,2,1] ?_; intro h
    exact lf (decide (r3 < 0)) h
  ·refine aw h [3,3,3,4,4,4,4,4,3,3,1] ?_; intro h
   exact lf false h
 ·intro x1 h
  try dsimp only at h ⊢
  unfold ref5_within_j1 at h
  refine Ev.ret ?_
  cases h
  exact ⟨_, rfl, .refl _⟩
theorem ref5_RangeHas_spec (n : Nat) (a0 : SIntervals) (a1 : SMajorMinorPatchPre) (r : Bool) (h : ref5_RangeHas n a0 a1 = some r) : PSpec Try.prog 78 [.agg (SIntervals.cells a0), .agg (SMajorMinorPatchPre.cells a1)] (.bool r) := by
 unfold ref5_RangeHas at h
 refine spec_of Try.c_ref5_RangeHas (by simp) ?_
 unfold Try.l_ref5_RangeHas
 refine au h [1,1,5,5,1,1,1,1,1,1] ?_; intro h
 refine Ev.loopW (β := Nat × Int) (fun v => ⟨[(2, wP 10100), (3, wP 10101), (5, iP v.2)], [(10100, eP 58 1 [[lP a0.Intervals]]), (10101, eP 64 4 [[iP a1.Major, iP a1.Minor, iP a1.Patch, lP a1.Pre]])], 2⟩) (fun v => ref5_RangeHas_l1 n a0 a1 v.1 v.2 = some r) (fun v => v.1) (n, 0) (.nA) h ?_
 intro ⟨m1, x1⟩ h
 try dsimp only at h ⊢
 cases m1 with
 | zero => rw [ref5_RangeHas_l1] at h; cases h
 | succ m1 =>
  rw [ref5_RangeHas_l1] at h
  refine au h [1,1,1,1,8,8,5,5] ?_; intro h
  refine bs h (fun c1 h => ?_) fun c1 h => ?_
  ·refine au h [2,1,1,1,1,1,8,8,1,5,5,8] ?_; intro e2 k2 h
   refine cb h (ref5_within_spec n _ _) fun r3 k3 h => ?_
   refine W.nil ⟨rfl, ?_⟩
   refine bs h (fun c4 h => ?_) fun c4 h => ?_
   ·refine au h [2,1,1,1,1] ?_; intro h
    cases h
    exact ⟨_, rfl, .refl _⟩
   ·refine au h [3,1,1,1,7,1] ?_; intro x4 k5 h
    exact lb (m1, x4) h
  ·refine au h [3,1,1,1,1,1] ?_; intro h
   cases h
   exact ⟨_, rfl, .refl _⟩
theorem ref5_satisfied_spec (n : Nat) (a0 : SPackages) (a1 : List SPackageRange) (a2 : List Int) (r : Bool) (h : ref5_satisfied n a0 a1 a2 = some r) : PSpec Try.prog 69 [.agg (SPackages.cells a0), lP a1, lP a2] (.bool r) := by
 unfold ref5_satisfied at h
 refine spec_of Try.c_ref5_satisfied (by simp) ?_
 unfold Try.l_ref5_satisfied
 refine au h [1,1,5,1,1,1,1,1,1] ?_; intro h
 refine Ev.loopW (β := Nat × Int) (fun v => ⟨[(1, lP a1), (2, lP a2), (3, wP 10100), (7, iP v.2)], [(10100, eP 24 1 [[lP a0.Packages]])], 2⟩) (fun v => ref5_satisfied_l1 n a0 a1 a2 v.1 v.2 = some r) (fun v => v.1) (n, 0) (.nA) h ?_
 intro ⟨m1, x1⟩ h
 try dsimp only at h ⊢
 cases m1 with
 | zero => rw [ref5_satisfied_l1] at h; cases h
 | succ m1 =>
  rw [ref5_satisfied_l1] at h
  refine au h [1,1,1,1,1,5,5] ?_; intro h
  refine bs h (fun c1 h => ?_) fun c1 h => ?_
  ·refine au h [2,1,1,1,1,1,1,1,1,5,5,5,5,5,1] ?_; intro e2 k2 e3 k3 h
   refine Ev.seqJ (γ := Bool) (fun v => ⟨[(1, lP a1), (2, lP a2), (3, wP 10200), (7, iP x1), (46, .bool v)], [(10200, eP 24 1 [[lP a0.Packages]])], 2⟩) (fun v => ref5_satisfied_j1 n x1 (ref5_satisfied_l1 n a0 a1 a2 m1) v = some r) ?_ ?_
   ·refine au h [1,1,5,1] ?_; intro h
    refine bs h (fun c6 h => ?_) fun c6 h => ?_
    ·refine aw h [3,3,3,3,3,3,3,3,3,3,3,3,3,3,3,3,3,3,3,3,2] ?_; intro h
     exact lf true h
    ·refine aw h [2,1,2,1,2,6,2,5,2,5,2,8,2,8,2,1,2,1,2,6,2,5,2,5,2,5,2,5,2,1,2,5,2,5,2,5,2] ?_; intro e6 k7 e7 k8 h
     refine cb h (ref5_RangeHas_spec n _ _) fun r8 k9 h => ?_
     refine aw h [2,5,3] ?_; intro h
     exact lf (!r8) h
   ·intro x4 h
    try dsimp only at h ⊢
    unfold ref5_satisfied_j1 at h
    refine bs h (fun c4 h => ?_) fun c4 h => ?_
    ·refine au h [2,1,1,1,1] ?_; intro h
     cases h
     exact ⟨_, rfl, .refl _⟩
    ·refine au h [3,1,1,1,7,1] ?_; intro x5 k5 h
     exact lb (m1, x5) h
  ·refine au h [3,1,1,1,1,1] ?_; intro h
   cases h
   exact ⟨_, rfl, .refl _⟩
theorem ref5_mark_m1_spec (n : Nat) (a0 : List Bool) (a1 : List SPackageRange) (r : (List Bool)) (h : ref5_mark_m1 n a0 a1 = some r) : PMut Try.prog 70 [.own 60001 0, lP a1] [(60001, eP 4 1 (mP a0))] (.own 60001 0) [(60001, eP 4 1 (mP r))] := by
 unfold ref5_mark_m1 at h
 refine specMut_of Try.c_ref5_mark (by simp) (alls rfl all0) ?_
 unfold Try.l_ref5_mark
 refine au h [1,1,1,1,1,1,1,1] ?_; intro h
 refine Ev.loopW (β := Nat × (List Bool) × Int) (fun v => ⟨[(0, .own 10100 0), (1, lP a1), (5, iP v.2.2), (125537, .own 10100 0)], [(10100, eP 4 1 (mP v.2.1))], 2⟩) (fun v => ref5_mark_m1_l1 n a1 v.1 v.2.1 v.2.2 = some r) (fun v => v.1) (n, a0, 0) (.nA) h ?_
 intro ⟨m1, w1, x2⟩ h
 try dsimp only at h ⊢
 cases m1 with
 | zero => rw [ref5_mark_m1_l1] at h; cases h
 | succ m1 =>
  rw [ref5_mark_m1_l1] at h
  refine au h [1,1,1,1,1,5,5] ?_; intro h
  refine bs h (fun c1 h => ?_) fun c1 h => ?_
  ·refine au h [2,1,1,1,1,1,1,1,5,5,5,7,7,1,1,7,1] ?_; intro e3 k2 e4 k3 x5 k4 h
   exact lb (m1, (gset w1 e3.Package true), x5) h
  ·refine au h [3,1,1,1,1,1,1] ?_; intro h
   injection h with h; subst h
   exact ⟨_, [.own 60001 0], Wk.nrmTo [4, 125537] [(10100, 60001)] rfl rfl, rfl, rfl, rfl, .refl _, gh_ok ⟨rfl, trivial⟩⟩
theorem ref5_Solution_spec (n : Nat) (a0 : SPackages) (a1 : List SPackageRange) (a2 : List Int) (r : Bool) (h : ref5_Solution n a0 a1 a2 = some r) : PSpec Try.prog 62 [.agg (SPackages.cells a0), lP a1, lP a2] (.bool r) := by
 unfold ref5_Solution at h
 refine spec_of Try.c_ref5_Solution (by simp) ?_
 unfold Try.l_ref5_Solution
 refine au h [1,1,5,1,1,1,1,8,1,1] ?_; intro h
 refine cb h (ref5_satisfied_spec n _ _ _) fun r1 k1 h => ?_
 refine aw h [5] ?_; intro h
 refine bs h (fun c2 h => ?_) fun c2 h => ?_
 ·refine au h [2,1,1,1,1] ?_; intro h
  cases h
  exact ⟨_, rfl, .refl _⟩
 ·refine au h [3,1,1,1,1,5,5,1] ?_; intro w2 k3 h
  obtain ⟨r3, k4, h⟩ := obind h
  obtain ⟨u4, k5, h⟩ := obind h
  refine W.callM (xs := [.own 18 2, lP a1]) (res' := .own 18 2) (up := [(18, ⟨2, 4, 1, mP r3, true, true, false⟩)]) (tauOf [(60001, 18, 2)]) (fun n => n) (ref5_mark_m1_spec n w2 a1 r3 k4) rfl (mutOk_of (.cons (.tok rfl rfl) (.cons (.data rfl (.refl _)) ArgsOk.nil)) rfl rfl rfl (alls ⟨⟨rfl, rfl, rfl⟩, ⟨_, rfl, rfl, rfl, .inl ⟨rfl, rfl, rfl⟩⟩⟩ all0) (alls ⟨⟨rfl, rfl, rfl⟩, keptOf rfl ⟨rfl, lenMap (glen_some k5)⟩, .inl rfl⟩ all0) rfl) rfl rfl rfl rfl ?_
  refine ax 94 h [1,1,1,1,1,1] ?_; intro h
  refine Ev.loopW (β := Nat × (List Bool) × Int) (fun v => ⟨[(2, lP a2), (3, wP 10100), (7, .own 10101 0), (8, iP v.2.2)], [(10100, eP 24 1 [[lP a0.Packages]]), (10101, eP 4 1 (mP v.2.1))], 2⟩) (fun v => ref5_Solution_l1 n a0 a2 v.1 v.2.1 v.2.2 = some r) (fun v => v.1) (n, r3, 0) (.nA) h ?_
  intro ⟨m1, w5, x6⟩ h
  try dsimp only at h ⊢
  cases m1 with
  | zero => rw [ref5_Solution_l1] at h; cases h
  | succ m1 =>
   rw [ref5_Solution_l1] at h
   refine au h [1,1,1,1,1,5,5] ?_; intro h
   refine bs h (fun c6 h => ?_) fun c6 h => ?_
   ·refine au h [2,1,1,1,1,1,1,1] ?_; intro h
    refine Ev.loopW (β := Nat × (List Bool) × Int) (fun v => ⟨[(2, lP a2), (3, wP 10200), (7, .own 10201 0), (8, iP x6), (9, iP v.2.2)], [(10200, eP 24 1 [[lP a0.Packages]]), (10201, eP 4 1 (mP v.2.1))], 2⟩) (fun v => ref5_Solution_l2 n a0 a2 x6 (ref5_Solution_l1 n a0 a2 m1) v.1 v.2.1 v.2.2 = some r) (fun v => v.1) (n, w5, 0) (.nA) h ?_
    intro ⟨m2, w7, x8⟩ h
    try dsimp only at h ⊢
    cases m2 with
    | zero => rw [ref5_Solution_l2] at h; cases h
    | succ m2 =>
     rw [ref5_Solution_l2] at h
     refine au h [1,1,1,1,1,5,5] ?_; intro h
     refine bs h (fun c7 h => ?_) fun c7 h => ?_
     ·refine au h [2,1] ?_; intro h
      refine Ev.seqJ (γ := List Bool) (fun v => ⟨[(2, lP a2), (3, wP 10300), (7, .own 10301 0), (8, iP x6), (9, iP x8)], [(10300, eP 24 1 [[lP a0.Packages]]), (10301, eP 4 1 (mP v))], 2⟩) (fun v => ref5_Solution_j1 n x8 (ref5_Solution_l2 n a0 a2 x6 (ref5_Solution_l1 n a0 a2 m1) m2) v = some r) ?_ ?_
      ·refine Ev.block ?_
       refine Ev.seqJ (γ := Bool) (fun v => ⟨[(2, lP a2), (3, wP 10400), (7, .own 10401 0), (8, iP x6), (9, iP x8), (43, .bool v)], [(10400, eP 24 1 [[lP a0.Packages]]), (10401, eP 4 1 (mP w7))], 2⟩) (fun v => ref5_Solution_j2 n a0 a2 w7 x8 (ref5_Solution_l2 n a0 a2 x6 (ref5_Solution_l1 n a0 a2 m1) m2) v = some r) ?_ ?_
       ·refine au h [1,1,1,7,7,1] ?_; intro e17 k15 h
        refine bs h (fun c16 h => ?_) fun c16 h => ?_
        ·refine aw h [2,1,2,1,2,5,2,5,2,5,2] ?_; intro e18 k17 h
         exact lf (decide (0 ≤ e18)) h
        ·refine aw h [3,3,3,3,3,3] ?_; intro h
         exact lf false h
       ·intro x11 h
        try dsimp only at h ⊢
        unfold ref5_Solution_j2 at h
        refine bs h (fun c9 h => ?_) fun c9 h => ?_
        ·refine au h [2,1,1,8,8,1,5,5,1,1,5,5,5,5,5] ?_; intro e12 k10 e13 k11 e14 k12 h
         obtain ⟨r15, k13, h⟩ := obind h
         obtain ⟨u16, k14, h⟩ := obind h
         refine W.callM (xs := [.own 10401 0, lP e14.Needs]) (res' := .own 10401 0) (up := [(10401, eP 4 1 (mP r15))]) (tauOf [(60001, 10401, 0)]) (fun n => n) (ref5_mark_m1_spec n w7 e14.Needs r15 k13) rfl (mutOk_of (.cons (.tok rfl rfl) (.cons (.data rfl (.refl _)) ArgsOk.nil)) rfl rfl rfl (alls ⟨⟨rfl, rfl, rfl⟩, ⟨_, rfl, rfl, rfl, .inl ⟨rfl, rfl, rfl⟩⟩⟩ all0) (alls ⟨⟨rfl, rfl, rfl⟩, keptOf rfl ⟨rfl, lenMap (glen_some k14)⟩, .inl rfl⟩ all0) rfl) rfl rfl rfl rfl ?_
         refine aw h [1] ?_; intro h
         exact lf r15 h
        ·refine au h [3,1] ?_; intro h
         exact lf w7 h
      ·intro w9 h
       try dsimp only at h ⊢
       unfold ref5_Solution_j1 at h
       refine au h [1,1,7,1] ?_; intro x10 k8 h
       exact lb (m2, w9, x10) h
     ·refine au h [3,1,1,1,7,1] ?_; intro x19 k18 h
      exact lb (m1, w7, x19) h
   ·refine au h [3,1,1,1,1,1,1] ?_; intro h
    refine Ev.loopW (β := Nat × Int) (fun v => ⟨[(2, lP a2), (3, wP 10200), (7, .own 10201 0), (10, iP v.2)], [(10200, eP 24 1 [[lP a0.Packages]]), (10201, eP 4 1 (mP w5))], 2⟩) (fun v => ref5_Solution_l3 n a0 a2 w5 v.1 v.2 = some r) (fun v => v.1) (n, 0) (.nA) h ?_
    intro ⟨m3, x20⟩ h
    try dsimp only at h ⊢
    cases m3 with
    | zero => rw [ref5_Solution_l3] at h; cases h
    | succ m3 =>
     rw [ref5_Solution_l3] at h
     refine au h [1,1,1,1,1,5,5] ?_; intro h
     refine bs h (fun c19 h => ?_) fun c19 h => ?_
     ·refine au h [2,1,1,1] ?_; intro h
      refine Ev.seqJ (γ := Bool) (fun v => ⟨[(2, lP a2), (3, wP 10300), (7, .own 10301 0), (10, iP x20), (93, .bool v)], [(10300, eP 24 1 [[lP a0.Packages]]), (10301, eP 4 1 (mP w5))], 2⟩) (fun v => ref5_Solution_j3 n x20 (ref5_Solution_l3 n a0 a2 w5 m3) v = some r) ?_ ?_
      ·refine au h [1,1,1,5,5,5,1] ?_; intro e23 k22 h
       refine bs h (fun c23 h => ?_) fun c23 h => ?_
       ·refine aw h [2,1,2,1,2,7,2,7,2,5,2,1] ?_; intro e24 k24 h
        refine bs h (fun c25 h => ?_) fun c25 h => ?_
        ·refine aw h [3,3,3,3,3,3,3,3,3,3,3,3,3,3,3,3,2,2,2] ?_; intro h
         exact lf true h
        ·refine aw h [2,8,2,8,2,8,2,1,2,5,2,5,2,1,2,1,2,6,2,5,2,5,2,5,2,5,2,1,2] ?_; intro e25 k26 e26 k27 h
         refine cb h (ref5_satisfied_spec n _ _ _) fun r27 k28 h => ?_
         refine aw h [2,5,2,3,2] ?_; intro h
         exact lf (!r27) h
       ·refine aw h [3,3,3,3,3,3,4,4,4,4,4,4,4,4,4,4,4,4,4,4,4,4,3,3] ?_; intro h
        exact lf false h
      ·intro x21 h
       try dsimp only at h ⊢
       unfold ref5_Solution_j3 at h
       refine bs h (fun c20 h => ?_) fun c20 h => ?_
       ·refine au h [2,1,1,1,1] ?_; intro h
        cases h
        exact ⟨_, rfl, .refl _⟩
       ·refine au h [3,1,1,1,7,1] ?_; intro x22 k21 h
        exact lb (m3, x22) h
     ·refine au h [3,1,1,1,1,1] ?_; intro h
      cases h
      exact ⟨_, rfl, .refl _⟩
theorem ref5_Best_spec (n : Nat) (a0 : SPackages) (a1 : List SPackageRange) (r : ((List Int) × Bool)) (h : ref5_Best n a0 a1 = some r) : PSpec Try.prog 47 [.agg (SPackages.cells a0), lP a1] (.tup [lP r.1, .bool r.2]) := by
 unfold ref5_Best at h
 refine spec_of Try.c_ref5_Best (by simp) ?_
 unfold Try.l_ref5_Best
 refine au h [1,1,5,1,1,1,1,8] ?_; intro h
 refine cb h (ref5_Selections_spec n _) fun r1 k1 h => ?_
 refine ax 55 h [1,1,1,1,1,1] ?_; intro h
 refine Ev.loopW (β := Nat × Int) (fun v => ⟨[(1, lP a1), (2, wP 10100), (6, iP r1), (7, iP v.2)], [(10100, eP 24 1 [[lP a0.Packages]])], 2⟩) (fun v => ref5_Best_l1 n a0 a1 r1 v.1 v.2 = some r) (fun v => v.1) (n, 0) (.nA) h ?_
 intro ⟨m1, x2⟩ h
 try dsimp only at h ⊢
 cases m1 with
 | zero => rw [ref5_Best_l1] at h; cases h
 | succ m1 =>
  rw [ref5_Best_l1] at h
  refine au h [1,1,1,1,1,5] ?_; intro h
  refine bs h (fun c2 h => ?_) fun c2 h => ?_
  ·refine au h [2,1,1,1,1,1,8,8,5,5,1,1,1,1,1,1,1,1,1,7,7,1,1] ?_; intro w3 k3 x4 k4 h
   refine Ev.loopW (β := Nat × (List Int) × Int × Int) (fun v => ⟨[(1, lP a1), (2, wP 10200), (6, iP r1), (7, iP x2), (8, .own 10201 0), (9, iP v.2.2.1), (10, iP v.2.2.2)], [(10200, eP 24 1 [[lP a0.Packages]]), (10201, eP 3 1 (mP v.2.1))], 2⟩) (fun v => ref5_Best_l2 n a0 a1 x2 (ref5_Best_l1 n a0 a1 r1 m1) v.1 v.2.1 v.2.2.1 v.2.2.2 = some r) (fun v => v.1) (n, w3, x2, x4) (.nA) h ?_
   intro ⟨m2, w5, x6, x7⟩ h
   try dsimp only at h ⊢
   cases m2 with
   | zero => rw [ref5_Best_l2] at h; cases h
   | succ m2 =>
    rw [ref5_Best_l2] at h
    refine au h [1,1,1,1,5] ?_; intro h
    refine bs h (fun c5 h => ?_) fun c5 h => ?_
    ·refine au h [2,1,1,1,1,1,8,8,1,5,5,5,7,1,1,1,1,1,1,7,1,1,7,7,7,7,1,1,1,7,1,1,1,7,1] ?_; intro e8 k6 x9 k7 x10 k8 x11 k9 x12 k10 e13 k11 x14 k12 x15 k13 h
     exact lb (m2, (gset w5 x7 x12), x14, x15) h
    ·refine au h [3,1,1,1,8,1,1] ?_; intro h
     refine cb h (ref5_Solution_spec n _ _ _) fun r16 k14 h => ?_
     refine W.nil ?_
     refine bs h (fun c15 h => ?_) fun c15 h => ?_
     ·refine au h [2,1,1,1,1,1,1] ?_; intro h
      cases h
      exact ⟨_, rfl, .refl _⟩
     ·refine au h [3,1,1,1,7,1] ?_; intro x17 k16 h
      exact lb (m1, x17) h
  ·refine au h [3,1,1,1,1,1,1] ?_; intro h
   cases h
   exact ⟨_, rfl, Le.tups (.cons (.nils 1) (.cons (.refl _) (.nil)))⟩
theorem ref6_without_spec (n : Nat) (a0 : List Int) (a1 : Int) (r : (List Int)) (h : ref6_without n a0 a1 = some r) : PSpec Try.prog 48 [lP a0, iP a1] (lP r) := by
 unfold ref6_without at h
 refine spec_of Try.c_ref6_without (by simp) ?_
 unfold Try.l_ref6_without
 refine au h [1,1,1,1,1,1,1,1,1,1,1] ?_; intro h
 refine Ev.loopW (β := Nat × (List Int) × Int) (fun v => ⟨[(0, lP a0), (1, iP a1), (5, .own 10100 0), (6, iP v.2.2)], [(10100, eP 3 1 (mP v.2.1))], 2⟩) (fun v => ref6_without_l1 n a0 a1 v.1 v.2.1 v.2.2 = some r) (fun v => v.1) (n, ([] : List Int), 0) ((Wk.ownNil 5 30100 3 1 rfl rfl true).trans (.nA)) h ?_
 intro ⟨m1, w1, x2⟩ h
 try dsimp only at h ⊢
 cases m1 with
 | zero => rw [ref6_without_l1] at h; cases h
 | succ m1 =>
  rw [ref6_without_l1] at h
  refine au h [1,1,1,1,1,5,5] ?_; intro h
  refine bs h (fun c1 h => ?_) fun c1 h => ?_
  ·refine au h [2,1] ?_; intro h
   refine Ev.seqJ (γ := List Int) (fun v => ⟨[(0, lP a0), (1, iP a1), (5, .own 10200 0), (6, iP x2)], [(10200, eP 3 1 (mP v))], 2⟩) (fun v => ref6_without_j1 n x2 (ref6_without_l1 n a0 a1 m1) v = some r) ?_ ?_
   ·refine au h [1,1,1,1,1,5,5,1,5] ?_; intro e5 k3 h
    refine bs h (fun c4 h => ?_) fun c4 h => ?_
    ·refine au h [2,1,1,1,1,6,5,5,7,1] ?_; intro w6 k5 h
     exact lf w6 h
    ·refine au h [3,1] ?_; intro h
     exact lf w1 h
   ·intro w3 h
    try dsimp only at h ⊢
    unfold ref6_without_j1 at h
    refine au h [1,1,7,1] ?_; intro x4 k2 h
    exact lb (m1, w3, x4) h
  ·refine au h [3,1,1,1,1,1,1] ?_; intro h
   cases h
   exact ⟨_, rfl, .refl _⟩
theorem ref6_Reason_spec (n : Nat) (a0 : SPackages) (a1 : List SPackageRange) (r : ((List Int) × Bool)) (h : ref6_Reason n a0 a1 = some r) : PSpec Try.prog 22 [.agg (SPackages.cells a0), lP a1] (.tup [lP r.1, .bool r.2]) := by
 unfold ref6_Reason at h
 refine spec_of Try.c_ref6_Reason (by simp) ?_
 unfold Try.l_ref6_Reason
 refine au h [1,1,5,1,1,1,1,8,1] ?_; intro h
 refine cb h (ref6_ConstraintCount_spec n _ _) fun r1 k1 h => ?_
 refine ax 59 h [1,1,1,1,1,1,1,1,1] ?_; intro h
 refine Ev.loopW (β := Nat × (List Int) × Int) (fun v => ⟨[(1, lP a1), (2, wP 10100), (6, iP r1), (7, .own 10101 0), (8, iP v.2.2)], [(10100, eP 24 1 [[lP a0.Packages]]), (10101, eP 3 1 (mP v.2.1))], 2⟩) (fun v => ref6_Reason_l1 n a0 a1 r1 v.1 v.2.1 v.2.2 = some r) (fun v => v.1) (n, ([] : List Int), 0) ((Wk.ownNil 7 30101 3 1 rfl rfl true).trans (.nA)) h ?_
 intro ⟨m1, w2, x3⟩ h
 try dsimp only at h ⊢
 cases m1 with
 | zero => rw [ref6_Reason_l1] at h; cases h
 | succ m1 =>
  rw [ref6_Reason_l1] at h
  refine au h [1,1,1,1,1,5] ?_; intro h
  refine bs h (fun c2 h => ?_) fun c2 h => ?_
  ·refine au h [2,1,1,1,1,1,1,5,7,1,1,1,7,1] ?_; intro w4 k3 x5 k4 h
   exact lb (m1, w4, x5) h
  ·refine au h [3,1,1,1,8,1] ?_; intro h
   refine cb h (ref5_Best_spec n _ _) fun r6 k5 h => ?_
   refine ax 59 h [1,5,5,1,1,1,1,1,1] ?_; intro h
   refine bs h (fun c6 h => ?_) fun c6 h => ?_
   ·refine au h [2,1,1,1,1,1] ?_; intro h
    cases h
    exact ⟨_, rfl, Le.tups (.cons (.nils 1) (.cons (.refl _) (.nil)))⟩
   ·refine au h [3,1,1,1,1,1,1] ?_; intro h
    refine Ev.loopW (β := Nat × (List Int) × Int) (fun v => ⟨[(1, lP a1), (2, wP 10200), (6, iP r1), (7, lP v.2.1), (11, iP v.2.2)], [(10200, eP 24 1 [[lP a0.Packages]])], 2⟩) (fun v => ref6_Reason_l2 n a0 a1 r1 v.1 v.2.1 v.2.2 = some r) (fun v => v.1) (n, w2, 0) ((Wk.frz 10101 0 rfl rfl).trans (.nA)) h ?_
    intro ⟨m2, x7, x8⟩ h
    try dsimp only at h ⊢
    cases m2 with
    | zero => rw [ref6_Reason_l2] at h; cases h
    | succ m2 =>
     rw [ref6_Reason_l2] at h
     refine au h [1,1,1,1,1,5] ?_; intro h
     refine bs h (fun c7 h => ?_) fun c7 h => ?_
     ·refine au h [2,1] ?_; intro h
      refine Ev.seqJ (γ := List Int) (fun v => ⟨[(1, lP a1), (2, wP 10300), (6, iP r1), (7, lP v), (11, iP x8)], [(10300, eP 24 1 [[lP a0.Packages]])], 2⟩) (fun v => ref6_Reason_j1 n x8 (ref6_Reason_l2 n a0 a1 r1 m2) v = some r) ?_ ?_
      ·refine au h [1,1,1,8,1,1,1] ?_; intro h
       refine cb h (ref6_without_spec n _ _) fun r11 k9 h => ?_
       refine cb h (ref6_Kept_spec n _ _ _) fun r12 k10 h => ?_
       refine ax 59 h [1,5,5,5,8,1,1,1,8,1] ?_; intro h
       refine cb h (ref5_Best_spec n _ _) fun r13 k11 h => ?_
       refine ax 59 h [1,5,5,1,1,1,1,5] ?_; intro h
       refine bs h (fun c12 h => ?_) fun c12 h => ?_
       ·refine au h [2,1,1,1] ?_; intro h
        refine cb h (ref6_without_spec n _ _) fun r14 k13 h => ?_
        refine aw h [1] ?_; intro h
        exact lf r14 h
       ·refine au h [3,1] ?_; intro h
        exact lf x7 h
      ·intro x9 h
       try dsimp only at h ⊢
       unfold ref6_Reason_j1 at h
       refine au h [1,1,7,1] ?_; intro x10 k8 h
       exact lb (m2, x9, x10) h
     ·refine au h [3,1,1,1,1,1,1,1] ?_; intro h
      cases h
      exact ⟨_, rfl, .refl _⟩
theorem law6_ExplainReasonMatchesSpec_spec (n : Nat) (a0 : SPackages) (a1 : List SPackageRange) (r : Bool) (h : law6_ExplainReasonMatchesSpec n a0 a1 = some r) : PSpec Try.prog 4 [.agg (SPackages.cells a0), lP a1] (.bool r) := by
 unfold law6_ExplainReasonMatchesSpec at h
 refine spec_of Try.c_law6_ExplainReasonMatchesSpec (by simp) ?_
 unfold Try.l_law6_ExplainReasonMatchesSpec
 refine au h [1,1,5,1,1,1,1] ?_; intro h
 refine cb h (law6_explains_spec n) fun r1 k1 h => ?_
 refine aw h [5] ?_; intro h
 refine bs h (fun c2 h => ?_) fun c2 h => ?_
 ·refine au h [2,1,1,1,1] ?_; intro h
  cases h
  exact ⟨_, rfl, .refl _⟩
 ·refine au h [3,1,1,1,1,8,1] ?_; intro h
  refine cb h (law6_vast_spec n _ _) fun r2 k3 h => ?_
  refine W.nil ?_
  refine bs h (fun c4 h => ?_) fun c4 h => ?_
  ·refine au h [2,1,1,1,1] ?_; intro h
   cases h
   exact ⟨_, rfl, .refl _⟩
  ·refine au h [3,1,1,1,8,1] ?_; intro h
   refine cb h (ref5_WantsFault_spec n _ _) fun r3 k5 h => ?_
   refine ax 70 h [5,8,1,1,8,1] ?_; intro h
   refine cb h (explain_Reason_spec n _ _) fun r4 k6 h => ?_
   refine ax 70 h [1,5,5,5,1,8,1,1,1,8,8,5] ?_; intro h
   refine bs h (fun c7 h => ?_) fun c7 h => ?_
   ·refine Ev.condT rfl c7 ?_
    refine Ev.seqJ (γ := Bool) (fun v => ⟨[(4, .bool v)], [], 2⟩) (fun v => law6_ExplainReasonMatchesSpec_j1 n v = some r) ?_ ?_
    ·refine au h [1,8,8,5,1] ?_; intro h
     refine bs h (fun c8 h => ?_) fun c8 h => ?_
     ·refine aw h [2,1,2,5,2,5,2,1] ?_; intro h
      exact lf (decide ((r4.1.length : Int) = 0)) h
     ·refine aw h [3,3,3,3,1] ?_; intro h
      exact lf false h
    ·intro x5 h
     try dsimp only at h ⊢
     unfold law6_ExplainReasonMatchesSpec_j1 at h
     refine Ev.ret ?_
     cases h
     exact ⟨_, rfl, .refl _⟩
   ·refine au h [3,1,1,1,1,8,1] ?_; intro h
    refine cb h (law6_slow_spec n _ _) fun r6 k9 h => ?_
    refine W.nil ?_
    refine bs h (fun c10 h => ?_) fun c10 h => ?_
    ·refine Ev.condT rfl c10 ?_
     refine Ev.seqJ (γ := Bool) (fun v => ⟨[(4, .bool v)], [], 2⟩) (fun v => law6_ExplainReasonMatchesSpec_j2 n v = some r) ?_ ?_
     ·refine au h [1,8,8,5,1] ?_; intro h
      refine bs h (fun c11 h => ?_) fun c11 h => ?_
      ·refine aw h [3,3,3,2,1] ?_; intro h
       exact lf true h
      ·refine aw h [2,8,2] ?_; intro h
       refine cb h (law6_fault_spec n _ _) fun r8 k12 h => ?_
       refine aw h [2,5,3,1] ?_; intro h
       exact lf ((r4.2.Code == r8.Code && (r4.2.Index == r8.Index && true)) != false) h
     ·intro x7 h
      try dsimp only at h ⊢
      unfold law6_ExplainReasonMatchesSpec_j2 at h
      refine Ev.ret ?_
      cases h
      exact ⟨_, rfl, .refl _⟩
    ·refine au h [3,1,1,1,8,1] ?_; intro h
     refine cb h (ref6_Reason_spec n _ _) fun r9 k13 h => ?_
     refine ax 70 h [1,5,5,1,1,1,1,1,1,5] ?_; intro h
     refine bs h (fun c14 h => ?_) fun c14 h => ?_
     ·refine Ev.condT rfl c14 ?_
      refine Ev.seqJ (γ := Bool) (fun v => ⟨[(4, .bool v)], [], 2⟩) (fun v => law6_ExplainReasonMatchesSpec_j3 n v = some r) ?_ ?_
      ·refine au h [1,8] ?_; intro h
       refine cb h (law6_fault_spec n _ _) fun r11 k15 h => ?_
       refine aw h [5,1] ?_; intro h
       refine bs h (fun c16 h => ?_) fun c16 h => ?_
       ·refine aw h [2,1,2,5,2,5,2,1] ?_; intro h
        exact lf (decide ((r4.1.length : Int) = 0)) h
       ·refine aw h [3,3,3,3,1] ?_; intro h
        exact lf false h
      ·intro x10 h
       try dsimp only at h ⊢
       unfold law6_ExplainReasonMatchesSpec_j3 at h
       refine Ev.ret ?_
       cases h
       exact ⟨_, rfl, .refl _⟩
     ·refine au h [3,1] ?_; intro h
      refine Ev.seqJ (γ := Bool) (fun v => ⟨[(4, .bool v)], [], 2⟩) (fun v => law6_ExplainReasonMatchesSpec_j4 n v = some r) ?_ ?_
      ·refine au h [1,8,8,5,1] ?_; intro h
       refine bs h (fun c17 h => ?_) fun c17 h => ?_
       ·refine aw h [2,1,2,1,2] ?_; intro h
        refine cb h (ref5_Ints_spec n _ _) fun r13 k18 h => ?_
        refine aw h [2,1] ?_; intro h
        exact lf r13 h
       ·refine aw h [3,3,3,3,1] ?_; intro h
        exact lf false h
      ·intro x12 h
       try dsimp only at h ⊢
       unfold law6_ExplainReasonMatchesSpec_j4 at h
       refine Ev.ret ?_
       cases h
       exact ⟨_, rfl, .refl _⟩
end Go.Proofs.Ytfdennmaeoahgaa
namespace Go.Proofs.Ytfdennmaeoahgaa
open Go.PW Go
end Go.Proofs.Ytfdennmaeoahgaa
