/- The functions compute what the texts of D say. Laid by a program (wip/gen/dec.py). -/
import Derived.Test.YtpcmhhbocifbcaaGreatDoorPwAuto
import Derived.Test.YtpcmhhbocifbcaaGreatDoorD
import Derived.Test.YtpcmhhbocifbcaaGreatDoorK
set_option linter.unusedVariables false
set_option linter.unusedSimpArgs false
namespace Go.Proofs.YtpcmhhbocifbcaaGreatDoor
open Go.PW Go
instance : Cl SCodeIndex := ⟨2, SCodeIndex.cells⟩
instance : Cl SMajorMinorPatchPre := ⟨4, SMajorMinorPatchPre.cells⟩
instance : Cl SPackageVersionDigest := ⟨6, SPackageVersionDigest.cells⟩
instance : Cl SA0A1 := ⟨2, SA0A1.cells⟩
instance : Cl SLowHighUnbounded := ⟨9, SLowHighUnbounded.cells⟩
instance : Cl SIntervals := ⟨1, SIntervals.cells⟩
instance : Cl SPackageRange := ⟨2, SPackageRange.cells⟩
instance : Cl SVersionNeeds := ⟨5, SVersionNeeds.cells⟩
instance : Cl SPackages := ⟨1, SPackages.cells⟩
theorem strings_ContainsFunc_spec (n : Nat) (a0 : List UInt8) (r : Bool) (h : strings_ContainsFunc n a0 = some r) : PSpec Tryz.prog 100 [.str a0, .fn 101 [] []] (.bool r) := by
 unfold strings_ContainsFunc at h
 injection h with h
 subst h
 exact k_ContainsFunc a0
theorem version_numeric_spec (n : Nat) (a0 : List UInt8) (r : Bool) (h : version_numeric n a0 = some r) : PSpec Tryz.prog 84 [.str a0] (.bool r) := by
 unfold version_numeric at h
 refine spec_of Tryz.c_version_numeric (by simp) ?_
 unfold Tryz.l_version_numeric
 refine au h [1,1,1,1,1,1] ?_; intro h
 refine cb h (strings_ContainsFunc_spec n _) fun r1 k1 h => ?_
 refine ax 6 h [5,1,1] ?_; intro h
 cases h
 exact ⟨_, rfl, .refl _⟩
theorem version_identifier_spec (n : Nat) (a0 : List UInt8) (r : Bool) (h : version_identifier n a0 = some r) : PSpec Tryz.prog 64 [.str a0] (.bool r) := by
 unfold version_identifier at h
 refine spec_of Tryz.c_version_identifier (by simp) ?_
 unfold Tryz.l_version_identifier
 refine au h [1,1,1,1] ?_; intro h
 refine Ev.seqJ (γ := Bool) (fun v => ⟨[(0, .str a0), (12, .bool v)], [], 2⟩) (fun v => version_identifier_j1 n a0 v = some r) ?_ ?_
 ·refine au h [1,1,5,5,1] ?_; intro h
  refine bs h (fun c24 h => ?_) fun c24 h => ?_
  ·refine aw h [3,3,3,2] ?_; intro h
   exact lf true h
  ·refine aw h [2,1,2,5,2,5,3] ?_; intro h
   exact lf (decide (8 < (a0.length : Int))) h
 ·intro x1 h
  try dsimp only at h ⊢
  unfold version_identifier_j1 at h
  refine bs h (fun c1 h => ?_) fun c1 h => ?_
  ·refine au h [2,1,1,1,1] ?_; intro h
   cases h
   exact ⟨_, rfl, .refl _⟩
  ·refine au h [3,1,1,1,1,1,5,1,1] ?_; intro h
   refine Ev.loopW (β := Nat × Int) (fun v => ⟨[(0, .str a0), (14, iP (a0.length : Int)), (15, iP v.2)], [], 2⟩) (fun v => version_identifier_l1 n a0 v.1 v.2 = some r) (fun v => v.1) (n, 0) (.nA) h ?_
   intro ⟨m1, x2⟩ h
   try dsimp only at h ⊢
   cases m1 with
   | zero => rw [version_identifier_l1] at h; cases h
   | succ m1 =>
    rw [version_identifier_l1] at h
    refine au h [1,1,5,1] ?_; intro h
    refine bs h (fun c2 h => ?_) fun c2 h => ?_
    ·refine au h [2,1,1,1,1,1,1,1,1,1,1,1,5,1] ?_; intro y3 k3 h
     refine Ev.seqJ (γ := Bool) (fun v => ⟨[(0, .str a0), (14, iP (a0.length : Int)), (15, iP x2), (46, .bool v)], [], 2⟩) (fun v => version_identifier_j2 n x2 (version_identifier_l1 n a0 m1) v = some r) ?_ ?_
     ·refine au h [1,1,5,1] ?_; intro h
      refine bs h (fun c6 h => ?_) fun c6 h => ?_
      ·refine aw h [3,3,2,1,2,1,2,5,2,1] ?_; intro h
       refine bs h (fun c7 h => ?_) fun c7 h => ?_
       ·refine aw h [3,3,2,2,2,1,2,1,2,5,2,1] ?_; intro h
        refine bs h (fun c8 h => ?_) fun c8 h => ?_
        ·refine aw h [3,3,2,2,2,1,2,1,2,5,2] ?_; intro h
         exact lf (decide ((y3.toNat : Int) ≠ 45)) h
        ·refine aw h [2,1,2,5,2,3,2,1] ?_; intro h
         refine bs h (fun c9 h => ?_) fun c9 h => ?_
         ·refine aw h [2,1,2,5,2] ?_; intro h
          exact lf (decide ((y3.toNat : Int) ≠ 45)) h
         ·refine aw h [3,3,3] ?_; intro h
          exact lf false h
       ·refine aw h [2,1,2,5,2,3,2,1] ?_; intro h
        refine bs h (fun c10 h => ?_) fun c10 h => ?_
        ·refine aw h [2,1,2,5,2,1] ?_; intro h
         refine bs h (fun c11 h => ?_) fun c11 h => ?_
         ·refine aw h [3,3,2,2,2,1,2,1,2,5,2] ?_; intro h
          exact lf (decide ((y3.toNat : Int) ≠ 45)) h
         ·refine aw h [2,1,2,5,2,3,2,1] ?_; intro h
          refine bs h (fun c12 h => ?_) fun c12 h => ?_
          ·refine aw h [2,1,2,5,2] ?_; intro h
           exact lf (decide ((y3.toNat : Int) ≠ 45)) h
          ·refine aw h [3,3,3] ?_; intro h
           exact lf false h
        ·refine aw h [3,3,3,4,4,3,3,1,3,3,3] ?_; intro h
         exact lf false h
      ·refine aw h [2,1,2,5,3,1] ?_; intro h
       refine bs h (fun c13 h => ?_) fun c13 h => ?_
       ·refine aw h [2,1,2,5,2,1] ?_; intro h
        refine bs h (fun c14 h => ?_) fun c14 h => ?_
        ·refine aw h [3,3,2,2,2,1,2,1,2,5,2,1] ?_; intro h
         refine bs h (fun c15 h => ?_) fun c15 h => ?_
         ·refine aw h [3,3,2,2,2,1,2,1,2,5,2] ?_; intro h
          exact lf (decide ((y3.toNat : Int) ≠ 45)) h
         ·refine aw h [2,1,2,5,2,3,2,1] ?_; intro h
          refine bs h (fun c16 h => ?_) fun c16 h => ?_
          ·refine aw h [2,1,2,5,2] ?_; intro h
           exact lf (decide ((y3.toNat : Int) ≠ 45)) h
          ·refine aw h [3,3,3] ?_; intro h
           exact lf false h
        ·refine aw h [2,1,2,5,2,3,2,1] ?_; intro h
         refine bs h (fun c17 h => ?_) fun c17 h => ?_
         ·refine aw h [2,1,2,5,2,1] ?_; intro h
          refine bs h (fun c18 h => ?_) fun c18 h => ?_
          ·refine aw h [3,3,2,2,2,1,2,1,2,5,2] ?_; intro h
           exact lf (decide ((y3.toNat : Int) ≠ 45)) h
          ·refine aw h [2,1,2,5,2,3,2,1] ?_; intro h
           refine bs h (fun c19 h => ?_) fun c19 h => ?_
           ·refine aw h [2,1,2,5,2] ?_; intro h
            exact lf (decide ((y3.toNat : Int) ≠ 45)) h
           ·refine aw h [3,3,3] ?_; intro h
            exact lf false h
         ·refine aw h [3,3,3,4,4,3,3,1,3,3,3] ?_; intro h
          exact lf false h
       ·refine aw h [3,3,3,4,4,3,3,1,3,3,3,4,4,3,3,1,3,3,3] ?_; intro h
        exact lf false h
     ·intro x4 h
      try dsimp only at h ⊢
      unfold version_identifier_j2 at h
      refine bs h (fun c4 h => ?_) fun c4 h => ?_
      ·refine au h [2,1,1,1,1] ?_; intro h
       cases h
       exact ⟨_, rfl, .refl _⟩
      ·refine au h [3,1,1,7,1] ?_; intro x5 k5 h
       exact lb (m1, x5) h
    ·refine au h [3,1] ?_; intro h
     refine Ev.seqJ (γ := Bool) (fun v => ⟨[(2, .bool v)], [], 2⟩) (fun v => version_identifier_j3 n v = some r) ?_ ?_
     ·refine au h [1,1] ?_; intro h
      refine cb h (version_numeric_spec n _) fun r7 k20 h => ?_
      refine aw h [5,1] ?_; intro h
      refine bs h (fun c21 h => ?_) fun c21 h => ?_
      ·refine aw h [3,3,3,2,1,3,3,3,2,1] ?_; intro h
       exact lf true h
      ·refine aw h [2,1,2,5,2,5,3,1] ?_; intro h
       refine bs h (fun c22 h => ?_) fun c22 h => ?_
       ·refine aw h [3,3,3,2,1] ?_; intro h
        exact lf true h
       ·refine aw h [2,1,2,5,2,5,3,1] ?_; intro y8 k23 h
        exact lf (decide ((y8.toNat : Int) ≠ 48)) h
     ·intro x6 h
      try dsimp only at h ⊢
      unfold version_identifier_j3 at h
      refine Ev.ret ?_
      cases h
      exact ⟨_, rfl, .refl _⟩
theorem version_Validate_spec (n : Nat) (a0 : SMajorMinorPatchPre) (r : SCodeIndex) (h : version_Validate n a0 = some r) : PSpec Tryz.prog 37 [.agg (SMajorMinorPatchPre.cells a0)] (.agg (SCodeIndex.cells r)) := by
 unfold version_Validate at h
 refine spec_of Tryz.c_version_Validate (by simp) ?_
 unfold Tryz.l_version_Validate
 refine au h [1,1,5,5,1,1,1,8,8,8,8,8,8,5,1,1] ?_; intro h
 refine Ev.loopW (β := Nat × Int) (fun v => ⟨[(1, wP 10100), (2, wP 10101), (13, .agg [iP a0.Major, iP a0.Minor, iP a0.Patch]), (14, iP v.2)], [(10100, eP 60 4 [[iP a0.Major, iP a0.Minor, iP a0.Patch, lP a0.Pre]]), (10101, eP 26 2 [[iP 0, iP 0]])], 2⟩) (fun v => version_Validate_l1 n a0 v.1 v.2 = some r) (fun v => v.1) (n, 0) (.nA) h ?_
 intro ⟨m1, x1⟩ h
 try dsimp only at h ⊢
 cases m1 with
 | zero => rw [version_Validate_l1] at h; cases h
 | succ m1 =>
  rw [version_Validate_l1] at h
  refine au h [1,1,5,1] ?_; intro h
  refine bs h (fun c1 h => ?_) fun c1 h => ?_
  ·refine au h [2,1,1,1,1,1,1] ?_; intro h
   obtain ⟨i2, k2, h⟩ := obind h
   refine W.vidxG (p := iP (if i2 = 0 then a0.Major else (if i2 = 1 then a0.Minor else a0.Patch : Int) : Int)) rfl rfl k2 (by obtain ⟨_, q1, q2⟩ := garr_some k2; rcases (show i2 = 0 ∨ i2 = 1 ∨ i2 = 2 by omega) with e | e | e <;> rw [e] <;> rfl) ?_
   refine aw h [1,1] ?_; intro h
   refine Ev.seqJ (γ := Bool) (fun v => ⟨[(1, wP 10200), (2, wP 10201), (3, iP x1), (13, .agg [iP a0.Major, iP a0.Minor, iP a0.Patch]), (14, iP x1), (23, .bool v)], [(10200, eP 60 4 [[iP a0.Major, iP a0.Minor, iP a0.Patch, lP a0.Pre]]), (10201, eP 26 2 [[iP 0, iP 0]])], 2⟩) (fun v => version_Validate_j1 n x1 (version_Validate_l1 n a0 m1) v = some r) ?_ ?_
   ·refine au h [1,1,5,1] ?_; intro h
    refine bs h (fun c5 h => ?_) fun c5 h => ?_
    ·refine aw h [3,3,2] ?_; intro h
     exact lf true h
    ·refine aw h [2,1,2,5,3] ?_; intro h
     exact lf (decide (1000000000 < (if i2 = 0 then a0.Major else (if i2 = 1 then a0.Minor else a0.Patch : Int) : Int))) h
   ·intro x3 h
    try dsimp only at h ⊢
    unfold version_Validate_j1 at h
    refine bs h (fun c3 h => ?_) fun c3 h => ?_
    ·refine au h [2,1,1,1,5,8,1] ?_; intro h
     cases h
     exact ⟨_, rfl, .refl _⟩
    ·refine au h [3,1,1,7,1] ?_; intro x4 k4 h
     exact lb (m1, x4) h
  ·refine au h [3,1,1,1,1,8,8,5,5] ?_; intro h
   refine bs h (fun c6 h => ?_) fun c6 h => ?_
   ·refine au h [2,1,1,5,8,1] ?_; intro h
    cases h
    exact ⟨_, rfl, .refl _⟩
   ·refine au h [3,1,1,1,1,8,8,5,1,1] ?_; intro h
    refine Ev.loopW (β := Nat × Int) (fun v => ⟨[(2, wP 10200), (33, lP a0.Pre), (34, iP (a0.Pre.length : Int)), (35, iP v.2)], [(10200, eP 26 2 [[iP 0, iP 0]])], 2⟩) (fun v => version_Validate_l2 n a0 v.1 v.2 = some r) (fun v => v.1) (n, 0) (.nA) h ?_
    intro ⟨m2, x5⟩ h
    try dsimp only at h ⊢
    cases m2 with
    | zero => rw [version_Validate_l2] at h; cases h
    | succ m2 =>
     rw [version_Validate_l2] at h
     refine au h [1,1,5,1] ?_; intro h
     refine bs h (fun c7 h => ?_) fun c7 h => ?_
     ·refine au h [2,1,1,1,1,1,1,5,5,1,1,1,1,1] ?_; intro e6 k8 h
      refine cb h (version_identifier_spec n _) fun r7 k9 h => ?_
      refine aw h [5] ?_; intro h
      refine bs h (fun c10 h => ?_) fun c10 h => ?_
      ·refine au h [2,1,1,1,5,8,1] ?_; intro h
       cases h
       exact ⟨_, rfl, .refl _⟩
      ·refine au h [3,1,1,7,1] ?_; intro x8 k11 h
       exact lb (m2, x8) h
     ·refine au h [3,1,1,1,5,8,1] ?_; intro h
      cases h
      exact ⟨_, rfl, .refl _⟩
theorem signing_IsDigest_spec (n : Nat) (a0 : Int) (r : Bool) (h : signing_IsDigest n a0 = some r) : PSpec Tryz.prog 38 [iP a0] (.bool r) := by
 unfold signing_IsDigest at h
 refine spec_of Tryz.c_signing_IsDigest (by simp) ?_
 unfold Tryz.l_signing_IsDigest
 refine au h [1,1,1] ?_; intro h
 refine Ev.seqJ (γ := Bool) (fun v => ⟨[(2, .bool v)], [], 2⟩) (fun v => signing_IsDigest_j1 n v = some r) ?_ ?_
 ·refine au h [1,1,5,1] ?_; intro h
  refine bs h (fun c1 h => ?_) fun c1 h => ?_
  ·refine aw h [2,1,2,5,2,1] ?_; intro h
   exact lf (decide (a0 < 2305843009213693951)) h
  ·refine aw h [3,3,3,1] ?_; intro h
   exact lf false h
 ·intro x1 h
  try dsimp only at h ⊢
  unfold signing_IsDigest_j1 at h
  refine Ev.ret ?_
  cases h
  exact ⟨_, rfl, .refl _⟩
theorem lockfile_Validate_spec (n : Nat) (a0 : List SPackageVersionDigest) (r : SCodeIndex) (h : lockfile_Validate n a0 = some r) : PSpec Tryz.prog 12 [lP a0] (.agg (SCodeIndex.cells r)) := by
 unfold lockfile_Validate at h
 refine spec_of Tryz.c_lockfile_Validate (by simp) ?_
 unfold Tryz.l_lockfile_Validate
 refine au h [1,1,5,1,1,1,1,5,5] ?_; intro h
 refine bs h (fun c1 h => ?_) fun c1 h => ?_
 ·refine au h [2,1,1,5,8,1] ?_; intro h
  cases h
  exact ⟨_, rfl, .refl _⟩
 ·refine au h [3,1,1,1,1,1,5,1,1] ?_; intro h
  refine Ev.loopW (β := Nat × Int) (fun v => ⟨[(0, lP a0), (2, wP 10100), (10, lP a0), (11, iP (a0.length : Int)), (12, iP v.2)], [(10100, eP 26 2 [[iP 0, iP 0]])], 2⟩) (fun v => lockfile_Validate_l1 n a0 v.1 v.2 = some r) (fun v => v.1) (n, 0) (.nA) h ?_
  intro ⟨m1, x1⟩ h
  try dsimp only at h ⊢
  cases m1 with
  | zero => rw [lockfile_Validate_l1] at h; cases h
  | succ m1 =>
   rw [lockfile_Validate_l1] at h
   refine au h [1,1,5,1] ?_; intro h
   refine bs h (fun c2 h => ?_) fun c2 h => ?_
   ·refine au h [2,1,1,1,1,1,1,5,5,5,1,8,1,1,8,8] ?_; intro e2 k3 h
    refine cb h (version_Validate_spec n _) fun r3 k4 h => ?_
    refine aw h [5,1] ?_; intro h
    refine Ev.seqJ (γ := Int) (fun v => ⟨[(0, lP a0), (2, wP 10200), (3, iP x1), (5, iP v), (10, lP a0), (11, iP (a0.length : Int)), (12, iP x1)], [(10200, eP 26 2 [[iP 0, iP 0]])], 2⟩) (fun v => lockfile_Validate_j1 n x1 (lockfile_Validate_l1 n a0 m1) v = some r) ?_ ?_
    ·refine Ev.block ?_
     refine Ev.seqJ (γ := Bool) (fun v => ⟨[(0, lP a0), (2, wP 10300), (3, iP x1), (4, wP 10301), (5, iP r3.Code), (10, lP a0), (11, iP (a0.length : Int)), (12, iP x1), (21, .bool v)], [(10300, eP 26 2 [[iP 0, iP 0]]), (10301, eP 62 6 [[iP e2.Package, iP e2.Version.Major, iP e2.Version.Minor, iP e2.Version.Patch, lP e2.Version.Pre, iP e2.Digest]])], 2⟩) (fun v => lockfile_Validate_j2 n a0 x1 (lockfile_Validate_l1 n a0 m1) e2 r3 v = some r) ?_ ?_
     ·refine au h [1,8,8,5,1] ?_; intro h
      refine bs h (fun c15 h => ?_) fun c15 h => ?_
      ·refine aw h [3,3,3,2,1] ?_; intro h
       exact lf true h
      ·refine aw h [2,8,2,8,2,5,3,1] ?_; intro h
       exact lf (decide (6 ≤ e2.Package)) h
     ·intro x6 h
      try dsimp only at h ⊢
      unfold lockfile_Validate_j2 at h
      refine bs h (fun c7 h => ?_) fun c7 h => ?_
      ·refine au h [2,1,1] ?_; intro h
       exact lf 3 h
      ·refine au h [3,1,1,1,5,1] ?_; intro h
       refine bs h (fun c8 h => ?_) fun c8 h => ?_
       ·refine au h [2,1] ?_; intro h
        exact lf r3.Code h
       ·refine au h [3,1,1,8,8] ?_; intro h
        refine cb h (signing_IsDigest_spec n _) fun r7 k9 h => ?_
        refine aw h [5,1] ?_; intro h
        refine bs h (fun c10 h => ?_) fun c10 h => ?_
        ·refine au h [2,1,1] ?_; intro h
         exact lf 3 h
        ·refine Ev.condF rfl c10 ?_
         refine Ev.seqJ (γ := Bool) (fun v => ⟨[(0, lP a0), (2, wP 10400), (3, iP x1), (5, iP r3.Code), (10, lP a0), (11, iP (a0.length : Int)), (12, iP x1), (38, .bool v)], [(10400, eP 26 2 [[iP 0, iP 0]])], 2⟩) (fun v => lockfile_Validate_j3 n x1 (lockfile_Validate_l1 n a0 m1) r3 v = some r) ?_ ?_
         ·refine au h [1,1,5,1] ?_; intro h
          refine bs h (fun c12 h => ?_) fun c12 h => ?_
          ·refine aw h [2,8,2,8,2,1,2,1,2,7,2,5,2,5,2,5,2,5,2,1] ?_; intro x9 k13 e10 k14 h
           exact lf (decide (e2.Package ≤ e10.Package)) h
          ·refine aw h [3,3,3,3,3,3,3,3,3,3,1] ?_; intro h
           exact lf false h
         ·intro x8 h
          try dsimp only at h ⊢
          unfold lockfile_Validate_j3 at h
          refine bs h (fun c11 h => ?_) fun c11 h => ?_
          ·refine au h [2,1,1] ?_; intro h
           exact lf 5 h
          ·refine au h [3,1] ?_; intro h
           exact lf r3.Code h
    ·intro x4 h
     try dsimp only at h ⊢
     unfold lockfile_Validate_j1 at h
     refine au h [1,1,1,5] ?_; intro h
     refine bs h (fun c5 h => ?_) fun c5 h => ?_
     ·refine au h [2,1,1,1,1,5,8,1] ?_; intro h
      cases h
      exact ⟨_, rfl, .refl _⟩
     ·refine au h [3,1,1,7,1] ?_; intro x5 k6 h
      exact lb (m1, x5) h
   ·refine au h [3,1,1,1,5,8,1] ?_; intro h
    cases h
    exact ⟨_, rfl, .refl _⟩
theorem strconv_Itoa_spec (n : Nat) (a0 : Int) (r : (List UInt8)) (h : strconv_Itoa n a0 = some r) : PSpec Tryz.prog 55 [.int .i64 a0] (.str r) := by
 unfold strconv_Itoa at h
 exact k_Itoa  h
theorem strings_Join_spec (n : Nat) (a0 : List (List UInt8)) (a1 : List UInt8) (r : (List UInt8)) (h : strings_Join n a0 a1 = some r) : PSpec Tryz.prog 76 [.list 1 (List.map cS a0), .str a1] (.str r) := by
 unfold strings_Join at h
 exact k_Join  h
theorem version_Format_spec (n : Nat) (a0 : SMajorMinorPatchPre) (r : ((List UInt8) × SCodeIndex)) (h : version_Format n a0 = some r) : PSpec Tryz.prog 54 [.agg (SMajorMinorPatchPre.cells a0)] (.tup [.str r.1, .agg (SCodeIndex.cells r.2)]) := by
 unfold version_Format at h
 refine spec_of Tryz.c_version_Format (by simp) ?_
 unfold Tryz.l_version_Format
 refine au h [1,1,5,1,5,1,1,1,8] ?_; intro h
 refine cb h (version_Validate_spec n _) fun r1 k1 h => ?_
 refine ax 37 h [5,8,1,1,8,5,5] ?_; intro h
 refine bs h (fun c2 h => ?_) fun c2 h => ?_
 ·refine au h [2,1,1,8,1,8,1] ?_; intro h
  cases h
  exact ⟨_, rfl, .refl _⟩
 ·refine au h [3,1,1,1,8,8] ?_; intro h
  refine cb h (strconv_Itoa_spec n _) fun r2 k3 h => ?_
  refine aw h [8,8,8] ?_; intro s3 k4 h
  refine cb h (strconv_Itoa_spec n _) fun r4 k5 h => ?_
  refine aw h [8,8,8,8] ?_; intro s5 k6 s6 k7 h
  refine cb h (strconv_Itoa_spec n _) fun r7 k8 h => ?_
  refine aw h [8,1] ?_; intro s8 k9 h
  refine Ev.seqJ (γ := List UInt8) (fun v => ⟨[(3, wP 10100), (5, .str v)], [(10100, eP 26 2 [[iP 0, iP 0]])], 2⟩) (fun v => version_Format_j1 n v = some r) ?_ ?_
  ·refine au h [1,1,8,8,5,5] ?_; intro h
   refine bs h (fun c10 h => ?_) fun c10 h => ?_
   ·refine au h [2,1,1,8,8] ?_; intro h
    refine cb h (strings_Join_spec n _ _) fun r10 k11 h => ?_
    refine aw h [8,8,1] ?_; intro s11 k12 s12 k13 h
    exact lf s12 h
   ·refine au h [3,1] ?_; intro h
    exact lf s8 h
  ·intro x9 h
   try dsimp only at h ⊢
   unfold version_Format_j1 at h
   refine au h [1,1,1,5,1,8,1] ?_; intro h
   cases h
   exact ⟨_, rfl, .refl _⟩
theorem digest_mul_spec (n : Nat) (a0 : Int) (a1 : Int) (r : Int) (h : digest_mul n a0 a1 = some r) : PSpec Tryz.prog 102 [iP a0, iP a1] (iP r) := by
 unfold digest_mul at h
 refine spec_of Tryz.c_digest_mul (by simp) ?_
 unfold Tryz.l_digest_mul
 refine au h [1,1,1,1,1,1] ?_; intro h
 refine Ev.seqJ (γ := Int) (fun v => ⟨[(5, iP v)], [], 2⟩) (fun v => digest_mul_j1 n v = some r) ?_ ?_
 ·refine Ev.block ?_
  refine Ev.loopW (β := Nat × Int × Int × Int) (fun v => ⟨[(0, iP v.2.1), (1, iP v.2.2.1), (5, iP v.2.2.2)], [], 2⟩) (fun v => digest_mul_l1 n v.1 v.2.1 v.2.2.1 v.2.2.2 = some r) (fun v => v.1) (n, a0, a1, 0) (.nA) h ?_
  intro ⟨m1, x2, x3, x4⟩ h
  try dsimp only at h ⊢
  cases m1 with
  | zero => rw [digest_mul_l1] at h; cases h
  | succ m1 =>
   rw [digest_mul_l1] at h
   refine au h [1,1,1,1,5] ?_; intro h
   refine bs h (fun c1 h => ?_) fun c1 h => ?_
   ·refine au h [2,1,1,1] ?_; intro h
    refine Ev.seqJ (γ := Int) (fun v => ⟨[(0, iP x2), (1, iP x3), (5, iP v)], [], 2⟩) (fun v => digest_mul_j2 n x2 x3 (digest_mul_l1 n m1) v = some r) ?_ ?_
    ·refine au h [1,1,1] ?_; intro h
     refine W.bin (z := .int .i64 (kand .i64 x3 1)) rfl rfl rfl ?_
     refine aw h [5] ?_; intro h
     refine bs h (fun c4 h => ?_) fun c4 h => ?_
     ·refine au h [2,1,1,1,7,7,1] ?_; intro x8 k5 x9 k6 h
      exact lf x9 h
     ·refine au h [3,1] ?_; intro h
      exact lf x4 h
    ·intro x5 h
     try dsimp only at h ⊢
     unfold digest_mul_j2 at h
     refine au h [1,1,7,7,1,1,1] ?_; intro x6 k2 x7 k3 h
     refine W.shrC (n := 1) rfl rfl ?_
     refine aw h [1] ?_; intro h
     exact lb (m1, x7, (kshr .i64 x3 1), x5) h
   ·refine au h [3,1] ?_; intro h
    exact lf x4 h
 ·intro x1 h
  try dsimp only at h ⊢
  unfold digest_mul_j1 at h
  refine au h [1,1,1,1,1] ?_; intro h
  cases h
  exact ⟨_, rfl, .refl _⟩
theorem digest_next_spec (n : Nat) (a0 : SA0A1) (a1 : Int) (r : Int) (h : digest_next n a0 a1 = some r) : PSpec Tryz.prog 85 [.agg (SA0A1.cells a0), iP a1] (iP r) := by
 unfold digest_next at h
 refine spec_of Tryz.c_digest_next (by simp) ?_
 unfold Tryz.l_digest_next
 refine au h [1,1,5,1,1,1] ?_; intro h
 refine W.idxAO (n := 0) rfl rfl rfl (by decide) rfl (by decide) ?_
 refine aw h [8,1] ?_; intro h
 refine cb h (digest_mul_spec n _ _) fun r1 k1 h => ?_
 refine W.idxAO (n := 1) rfl rfl rfl (by decide) rfl (by decide) ?_
 refine ax 13 h [8,7,7,1,1] ?_; intro x2 k2 x3 k3 h
 cases h
 exact ⟨_, rfl, .refl _⟩
theorem digest_Of_spec (n : Nat) (a0 : List Int) (r : (Int × SCodeIndex)) (h : digest_Of n a0 = some r) : PSpec Tryz.prog 65 [.list 1 (List.map (cK .u8) a0)] (.tup [iP r.1, .agg (SCodeIndex.cells r.2)]) := by
 unfold digest_Of at h
 refine spec_of Tryz.c_digest_Of (by simp) ?_
 unfold Tryz.l_digest_Of
 refine au h [1,1,1,5,1,1,1,1,5,5] ?_; intro h
 refine bs h (fun c1 h => ?_) fun c1 h => ?_
 ·refine au h [2,1,1,5,1,8,1] ?_; intro h
  cases h
  exact ⟨_, rfl, .refl _⟩
 ·refine au h [3,1,1,1,1,1,1,1,1,5,1,1] ?_; intro h
  refine Ev.loopW (β := Nat × Int × Int) (fun v => ⟨[(3, wP 10100), (4, iP v.2.1), (11, .list 1 (List.map (cK .u8) a0)), (12, iP (a0.length : Int)), (13, iP v.2.2)], [(10100, eP 26 2 [[iP 0, iP 0]])], 2⟩) (fun v => digest_Of_l1 n a0 v.1 v.2.1 v.2.2 = some r) (fun v => v.1) (n, 1, 0) (.nA) h ?_
  intro ⟨m1, x1, x2⟩ h
  try dsimp only at h ⊢
  cases m1 with
  | zero => rw [digest_Of_l1] at h; cases h
  | succ m1 =>
   rw [digest_Of_l1] at h
   refine au h [1,1,5,1] ?_; intro h
   refine bs h (fun c2 h => ?_) fun c2 h => ?_
   ·refine au h [2,1,1,1,1,1,5,5,1,1,1,1,5,7,5] ?_; intro e3 k3 x4 k4 h
    refine cb h (digest_next_spec n _ _) fun r5 k5 h => ?_
    refine ax 26 h [1,1,7,1] ?_; intro x6 k6 h
    exact lb (m1, r5, x6) h
   ·refine au h [3,1,1,1,1,5,1,8,1] ?_; intro h
    cases h
    exact ⟨_, rfl, .refl _⟩
end Go.Proofs.YtpcmhhbocifbcaaGreatDoor
namespace Go.Proofs.YtpcmhhbocifbcaaGreatDoor
open Go.PW Go
theorem lockfile_seal_spec (n : Nat) (a0 : SMajorMinorPatchPre) (r : Int) (h : lockfile_seal n a0 = some r) : PSpec Tryz.prog 39 [.agg (SMajorMinorPatchPre.cells a0)] (iP r) := by
 unfold lockfile_seal at h
 refine spec_of Tryz.c_lockfile_seal (by simp) ?_
 unfold Tryz.l_lockfile_seal
 refine au h [1,1,5,1,1,1,8] ?_; intro h
 refine cb h (version_Format_spec n _) fun r1 k1 h => ?_
 refine ax 19 h [1,5,5,5,1,8,1,1,1,5] ?_; intro h
 refine cb h (digest_Of_spec n _) fun r2 k2 h => ?_
 refine ax 19 h [1,5,5,5,1,8,1,1,1,1,1] ?_; intro h
 cases h
 exact ⟨_, rfl, .refl _⟩
theorem lockfile_Corrupt_spec (n : Nat) (a0 : List SPackageVersionDigest) (r : ((List Int) × SCodeIndex)) (h : lockfile_Corrupt n a0 = some r) : PSpec Tryz.prog 13 [lP a0] (.tup [lP r.1, .agg (SCodeIndex.cells r.2)]) := by
 unfold lockfile_Corrupt at h
 refine spec_of Tryz.c_lockfile_Corrupt (by simp) ?_
 unfold Tryz.l_lockfile_Corrupt
 refine au h [1,1,1,5,1,1,1,1] ?_; intro h
 refine cb h (lockfile_Validate_spec n _) fun r1 k1 h => ?_
 refine ax 34 h [5,8,1,1,8,5,5] ?_; intro h
 refine bs h (fun c2 h => ?_) fun c2 h => ?_
 ·refine au h [2,1,1,8,1,8,1] ?_; intro h
  cases h
  exact ⟨_, rfl, Le.tups (.cons (.nils 1) (.cons (.refl _) (.nil)))⟩
 ·refine au h [3,1,1,1,1,1,1,1,1,5,1,1] ?_; intro h
  refine Ev.loopW (β := Nat × (List Int) × Int) (fun v => ⟨[(3, wP 10100), (5, .own 10101 0), (14, lP a0), (15, iP (a0.length : Int)), (16, iP v.2.2)], [(10100, eP 26 2 [[iP 0, iP 0]]), (10101, eP 3 1 (mP v.2.1))], 2⟩) (fun v => lockfile_Corrupt_l1 n a0 v.1 v.2.1 v.2.2 = some r) (fun v => v.1) (n, ([] : List Int), 0) ((Wk.ownNil 5 30101 3 1 rfl rfl true).trans (.nA)) h ?_
  intro ⟨m1, w2, x3⟩ h
  try dsimp only at h ⊢
  cases m1 with
  | zero => rw [lockfile_Corrupt_l1] at h; cases h
  | succ m1 =>
   rw [lockfile_Corrupt_l1] at h
   refine au h [1,1,5,1] ?_; intro h
   refine bs h (fun c3 h => ?_) fun c3 h => ?_
   ·refine au h [2,1] ?_; intro h
    refine Ev.seqJ (γ := List Int) (fun v => ⟨[(3, wP 10200), (5, .own 10201 0), (14, lP a0), (15, iP (a0.length : Int)), (16, iP x3)], [(10200, eP 26 2 [[iP 0, iP 0]]), (10201, eP 3 1 (mP v))], 2⟩) (fun v => lockfile_Corrupt_j1 n x3 (lockfile_Corrupt_l1 n a0 m1) v = some r) ?_ ?_
    ·refine au h [1,1,1,1,5,5,5,1,8,1,1,8,8,8,8] ?_; intro e6 k5 h
     refine cb h (lockfile_seal_spec n _) fun r7 k6 h => ?_
     refine aw h [5] ?_; intro h
     refine bs h (fun c7 h => ?_) fun c7 h => ?_
     ·refine au h [2,1,1,1,5,7,1] ?_; intro w8 k8 h
      exact lf w8 h
     ·refine au h [3,1] ?_; intro h
      exact lf w2 h
    ·intro w4 h
     try dsimp only at h ⊢
     unfold lockfile_Corrupt_j1 at h
     refine au h [1,7,1] ?_; intro x5 k4 h
     exact lb (m1, w4, x5) h
   ·refine au h [3,1,1,1,1,5,1,8,1] ?_; intro h
    cases h
    exact ⟨_, rfl, .refl _⟩
theorem ref5_Ints_spec (n : Nat) (a0 : List Int) (a1 : List Int) (r : Bool) (h : ref5_Ints n a0 a1 = some r) : PSpec Tryz.prog 14 [lP a0, lP a1] (.bool r) := by
 unfold ref5_Ints at h
 refine spec_of Tryz.c_ref5_Ints (by simp) ?_
 unfold Tryz.l_ref5_Ints
 refine au h [1,1,1,1,1,1,1,5,1,5,5] ?_; intro h
 refine bs h (fun c1 h => ?_) fun c1 h => ?_
 ·refine au h [2,1,1,1,1] ?_; intro h
  cases h
  exact ⟨_, rfl, .refl _⟩
 ·refine au h [3,1,1,1,1,1,1] ?_; intro h
  refine Ev.loopW (β := Nat × Int) (fun v => ⟨[(0, lP a0), (1, lP a1), (5, iP v.2)], [], 2⟩) (fun v => ref5_Ints_l1 n a0 a1 v.1 v.2 = some r) (fun v => v.1) (n, 0) (.nA) h ?_
  intro ⟨m1, x1⟩ h
  try dsimp only at h ⊢
  cases m1 with
  | zero => rw [ref5_Ints_l1] at h; cases h
  | succ m1 =>
   rw [ref5_Ints_l1] at h
   refine au h [1,1,1,1,1,5,5] ?_; intro h
   refine bs h (fun c2 h => ?_) fun c2 h => ?_
   ·refine au h [2,1,1,1,1,1,1,1,5,5,1,1,5,5,5] ?_; intro e2 k3 e3 k4 h
    refine bs h (fun c5 h => ?_) fun c5 h => ?_
    ·refine au h [2,1,1,1,1] ?_; intro h
     cases h
     exact ⟨_, rfl, .refl _⟩
    ·refine au h [3,1,1,1,7,1] ?_; intro x4 k6 h
     exact lb (m1, x4) h
   ·refine au h [3,1,1,1,1,1] ?_; intro h
    cases h
    exact ⟨_, rfl, .refl _⟩
theorem law6_fault_spec (n : Nat) (a0 : Int) (a1 : Int) (r : SCodeIndex) (h : law6_fault n a0 a1 = some r) : PSpec Tryz.prog 16 [iP a0, iP a1] (.agg (SCodeIndex.cells r)) := by
 unfold law6_fault at h
 refine spec_of Tryz.c_law6_fault (by simp) ?_
 unfold Tryz.l_law6_fault
 refine au h [1,1,5,1,1,1,1,5,8,1] ?_; intro h
 cases h
 exact ⟨_, rfl, .refl _⟩
theorem cmp_Or_int_spec (n : Nat) (a0 : List Int) (r : Int) (h : cmp_Or_int n a0 = some r) : PSpec Tryz.prog 68 [lP a0] (iP r) := by
 unfold cmp_Or_int at h
 refine spec_of Tryz.c_cmp_Or_int (by simp) ?_
 unfold Tryz.l_cmp_Or_int
 refine au h [1,1,1,1,1,1,1,1,1,1,5,1,1] ?_; intro h
 refine Ev.loopW (β := Nat × Int) (fun v => ⟨[(3, iP 0), (6, lP a0), (7, iP (a0.length : Int)), (8, iP v.2)], [], 2⟩) (fun v => cmp_Or_int_l1 n a0 v.1 v.2 = some r) (fun v => v.1) (n, 0) (.nA) h ?_
 intro ⟨m1, x1⟩ h
 try dsimp only at h ⊢
 cases m1 with
 | zero => rw [cmp_Or_int_l1] at h; cases h
 | succ m1 =>
  rw [cmp_Or_int_l1] at h
  refine au h [1,1,5,1] ?_; intro h
  refine bs h (fun c1 h => ?_) fun c1 h => ?_
  ·refine au h [2,1,1,1,1,1,5,5,1,1,1,1,1,5] ?_; intro e2 k2 h
   refine bs h (fun c3 h => ?_) fun c3 h => ?_
   ·refine au h [2,1,1,1,1,1] ?_; intro h
    cases h
    exact ⟨_, rfl, .refl _⟩
   ·refine au h [3,1,1,7,1] ?_; intro x3 k4 h
    exact lb (m1, x3) h
  ·refine au h [3,1,1,1,1,1,1] ?_; intro h
   cases h
   exact ⟨_, rfl, .refl _⟩
theorem cmp_isNaN_int_spec (n : Nat) (a0 : Int) (r : Bool) (h : cmp_isNaN_int n a0 = some r) : PSpec Tryz.prog 87 [iP a0] (.bool r) := by
 unfold cmp_isNaN_int at h
 refine spec_of Tryz.c_cmp_isNaN_int (by simp) ?_
 unfold Tryz.l_cmp_isNaN_int
 refine au h [1,1,1,1,1,1,1,5,1,1] ?_; intro h
 cases h
 exact ⟨_, rfl, .refl _⟩
theorem cmp_Compare_int_spec (n : Nat) (a0 : Int) (a1 : Int) (r : Int) (h : cmp_Compare_int n a0 a1 = some r) : PSpec Tryz.prog 69 [iP a0, iP a1] (iP r) := by
 unfold cmp_Compare_int at h
 refine spec_of Tryz.c_cmp_Compare_int (by simp) ?_
 unfold Tryz.l_cmp_Compare_int
 refine au h [1,1,1,1,1,1] ?_; intro h
 refine cb h (cmp_isNaN_int_spec n _) fun r1 k1 h => ?_
 refine ax 20 h [1,1,1,1] ?_; intro h
 refine cb h (cmp_isNaN_int_spec n _) fun r2 k2 h => ?_
 refine ax 20 h [1,1,1,1,1] ?_; intro h
 refine bs h (fun c3 h => ?_) fun c3 h => ?_
 ·refine au h [2,1,1,1,1] ?_; intro h
  refine bs h (fun c4 h => ?_) fun c4 h => ?_
  ·refine au h [2,1,1,1,1] ?_; intro h
   cases h
   exact ⟨_, rfl, .refl _⟩
  ·refine au h [3,1,1,1,1,1] ?_; intro h
   cases h
   exact ⟨_, rfl, .refl _⟩
 ·refine au h [3,1,1,1,1,1] ?_; intro h
  refine bs h (fun c5 h => ?_) fun c5 h => ?_
  ·refine au h [2,1,1,1,1] ?_; intro h
   cases h
   exact ⟨_, rfl, .refl _⟩
  ·refine au h [3,1,1,1,1,1,1,5] ?_; intro h
   refine bs h (fun c6 h => ?_) fun c6 h => ?_
   ·refine au h [2,1,1,1,1] ?_; intro h
    cases h
    exact ⟨_, rfl, .refl _⟩
   ·refine au h [3,1,1,1,1,1,1,5] ?_; intro h
    refine bs h (fun c7 h => ?_) fun c7 h => ?_
    ·refine au h [2,1,1,1,1] ?_; intro h
     cases h
     exact ⟨_, rfl, .refl _⟩
    ·refine au h [3,1,1,1,1,1] ?_; intro h
     cases h
     exact ⟨_, rfl, .refl _⟩
theorem strings_Compare_spec (n : Nat) (a0 : List UInt8) (a1 : List UInt8) (r : Int) (h : strings_Compare n a0 a1 = some r) : PSpec Tryz.prog 88 [.str a0, .str a1] (.int .i64 r) := by
 unfold strings_Compare at h
 injection h with h
 subst h
 exact k_Compare a0 a1
theorem version_Order_spec (n : Nat) (a0 : SMajorMinorPatchPre) (a1 : SMajorMinorPatchPre) (r : Int) (h : version_Order n a0 a1 = some r) : PSpec Tryz.prog 44 [.agg (SMajorMinorPatchPre.cells a0), .agg (SMajorMinorPatchPre.cells a1)] (iP r) := by
 unfold version_Order at h
 refine spec_of Tryz.c_version_Order (by simp) ?_
 unfold Tryz.l_version_Order
 refine au h [1,1,5,5,1,1,1,1,8,8,8,8] ?_; intro h
 refine cb h (cmp_Compare_int_spec n _ _) fun r1 k1 h => ?_
 refine aw h [8,8,8,8] ?_; intro h
 refine cb h (cmp_Compare_int_spec n _ _) fun r2 k2 h => ?_
 refine aw h [8,8,8,8] ?_; intro h
 refine cb h (cmp_Compare_int_spec n _ _) fun r3 k3 h => ?_
 refine aw h [5] ?_; intro h
 refine cb h (cmp_Or_int_spec n _) fun r4 k4 h => ?_
 refine ax 47 h [1,1,1,1,5] ?_; intro h
 refine bs h (fun c5 h => ?_) fun c5 h => ?_
 ·refine au h [2,1,1,1,1,1] ?_; intro h
  cases h
  exact ⟨_, rfl, .refl _⟩
 ·refine au h [3,1,1,1,1,8,8,5,5,8,8,5,5,5] ?_; intro h
  refine bs h (fun c6 h => ?_) fun c6 h => ?_
  ·refine au h [2,1,1,8,8,5,8,8,5] ?_; intro h
   refine cb h (cmp_Compare_int_spec n _ _) fun r5 k7 h => ?_
   refine ax 47 h [1,1] ?_; intro h
   cases h
   exact ⟨_, rfl, .refl _⟩
  ·refine au h [3,1,1] ?_; intro h
   refine Ev.regS rfl ?_
   refine Sq.w 4 nb ?_
   refine aw h [8,8,8,8] ?_; intro h
   refine Sq.weak (st' := ⟨[(4, iP 0), (43, lP a0.Pre), (45, lP a1.Pre)], [], 2⟩) ?_ (.nA)
   refine Sq.call rfl Tryz.c_slices_CompareFunc_string_string_string_string ⟨_, rfl, nb, ?_⟩
   unfold Tryz.l_slices_CompareFunc_string_string_string_string
   refine Ev.retJ (γ := Int) (fun v => ⟨[(6, iP v), (65540, iP 0)], [], 2⟩) (fun v => version_Order_j1 n v = some r) ?_ ?_
   ·refine au h [1,1,1,1,1,1,1,5,1,1] ?_; intro h
    refine Ev.loopW (β := Nat × Int) (fun v => ⟨[(0, lP a0.Pre), (1, lP a1.Pre), (2, .fn 71 [] []), (11, lP a0.Pre), (12, iP (a0.Pre.length : Int)), (13, iP v.2), (65540, iP 0)], [], 2⟩) (fun v => version_Order_l1 n a0 a1 v.1 v.2 = some r) (fun v => v.1) (n, 0) (.nA) h ?_
    intro ⟨m1, x7⟩ h
    try dsimp only at h ⊢
    cases m1 with
    | zero => rw [version_Order_l1] at h; cases h
    | succ m1 =>
     rw [version_Order_l1] at h
     refine au h [1,1,5,1] ?_; intro h
     refine bs h (fun c8 h => ?_) fun c8 h => ?_
     ·refine au h [2,1,1,1,1,1,1,5,5,1,1,1,1,1,1,1,5,5] ?_; intro e8 k9 h
      refine bs h (fun c10 h => ?_) fun c10 h => ?_
      ·refine au h [2,1,1,1,1] ?_; intro h
       exact lf 1 h
      ·refine au h [3,1,1,1,1,1,5,5,1,1] ?_; intro e9 k11 h
       refine Ev.regS rfl ?_
       refine Sq.w 3 nb ?_
       refine aw h [1,1,1] ?_; intro h
       refine Sq.callv (f := 71) rfl Tryz.b_version_compareIdentifiers Tryz.c_version_compareIdentifiers ⟨_, _, _, rfl, nb, ?_⟩
       unfold Tryz.l_version_compareIdentifiers
       refine Ev.retJ (γ := Int) (fun v => ⟨[(4, iP v), (65536, lP a0.Pre), (65537, lP a1.Pre), (65538, .fn 71 [] []), (65547, lP a0.Pre), (65548, iP (a0.Pre.length : Int)), (65549, iP x7), (131076, iP 0)], [], 2⟩) (fun v => version_Order_j2 n x7 (version_Order_l1 n a0 a1 m1) v = some r) ?_ ?_
       ·refine au h [1,1,1,1,1,1] ?_; intro h
        refine cb h (version_numeric_spec n _) fun r12 k14 h => ?_
        refine W.mv rfl ?_
        refine cb h (version_numeric_spec n _) fun r13 k15 h => ?_
        refine ax 33 h [1,1,1,1] ?_; intro h
        refine Ev.seqJ (γ := Bool) (fun v => ⟨[(0, .str e8), (1, .str e9), (5, .bool r12), (6, .bool r13), (11, .bool v), (65536, lP a0.Pre), (65537, lP a1.Pre), (65538, .fn 71 [] []), (65547, lP a0.Pre), (65548, iP (a0.Pre.length : Int)), (65549, iP x7), (131076, iP 0)], [], 2⟩) (fun v => version_Order_j3 n x7 (version_Order_l1 n a0 a1 m1) e8 e9 r12 r13 v = some r) ?_ ?_
        ·refine au h [1,1,1] ?_; intro h
         refine bs h (fun c23 h => ?_) fun c23 h => ?_
         ·refine aw h [2,1,2,1] ?_; intro h
          exact lf r13 h
         ·refine aw h [3,3,1] ?_; intro h
          exact lf false h
        ·intro x14 h
         try dsimp only at h ⊢
         unfold version_Order_j3 at h
         refine bs h (fun c16 h => ?_) fun c16 h => ?_
         ·refine au h [2,1,1,1,5,1,5] ?_; intro h
          refine cb h (cmp_Compare_int_spec n _ _) fun r15 k17 h => ?_
          refine aw h [1,1] ?_; intro h
          refine cb h (strings_Compare_spec n _ _) fun r16 k18 h => ?_
          refine aw h [5] ?_; intro h
          refine cb h (cmp_Or_int_spec n _) fun r17 k19 h => ?_
          refine ax 33 h [1,1] ?_; intro h
          exact lf r17 h
         ·refine au h [3,1,1,1,1] ?_; intro h
          refine bs h (fun c20 h => ?_) fun c20 h => ?_
          ·refine au h [2,1,1,1,1] ?_; intro h
           exact lf (-1) h
          ·refine au h [3,1,1,1,1] ?_; intro h
           refine bs h (fun c21 h => ?_) fun c21 h => ?_
           ·refine au h [2,1,1,1,1] ?_; intro h
            exact lf 1 h
           ·refine au h [3,1,1,1,1,1] ?_; intro h
            refine cb h (strings_Compare_spec n _ _) fun r18 k22 h => ?_
            refine ax 33 h [1,1] ?_; intro h
            exact lf r18 h
       ·intro x10 h
        try dsimp only at h ⊢
        unfold version_Order_j2 at h
        refine ⟨_, rfl, ?_⟩
        refine Sq.wEnd nb ?_
        refine ax 39 h [1,1,1,1,5] ?_; intro h
        refine bs h (fun c12 h => ?_) fun c12 h => ?_
        ·refine au h [2,1,1,1,1,1] ?_; intro h
         exact lf x10 h
        ·refine au h [3,1,1,7,1] ?_; intro x11 k13 h
         exact lb (m1, x11) h
     ·refine au h [3,1,1,1,1,1,5,1,5,5] ?_; intro h
      refine bs h (fun c24 h => ?_) fun c24 h => ?_
      ·refine au h [2,1,1,1,1] ?_; intro h
       exact lf (-1) h
      ·refine au h [3,1,1,1,1,1] ?_; intro h
       exact lf 0 h
   ·intro x6 h
    try dsimp only at h ⊢
    unfold version_Order_j1 at h
    refine ⟨_, rfl, ?_⟩
    refine Sq.wEnd nb ?_
    refine ax 47 h [1,1] ?_; intro h
    cases h
    exact ⟨_, rfl, .refl _⟩
set_option maxHeartbeats 4000000 in
theorem lockfile_Drift_spec (n : Nat) (a0 : List SPackageVersionDigest) (a1 : List SPackageVersionDigest) (r : ((List Int) × SCodeIndex)) (h : lockfile_Drift n a0 a1 = some r) : PSpec Tryz.prog 17 [lP a0, lP a1] (.tup [lP r.1, .agg (SCodeIndex.cells r.2)]) := by
 unfold lockfile_Drift at h
 refine spec_of Tryz.c_lockfile_Drift (by simp) ?_
 unfold Tryz.l_lockfile_Drift
 refine au h [1,1,1,5,1,1,1,1] ?_; intro h
 refine cb h (lockfile_Validate_spec n _) fun r1 k1 h => ?_
 refine ax 81 h [5,8,1,1,8,5,5] ?_; intro h
 refine bs h (fun c2 h => ?_) fun c2 h => ?_
 ·refine au h [2,1,1,8,1,8,1] ?_; intro h
  cases h
  exact ⟨_, rfl, Le.tups (.cons (.nils 1) (.cons (.refl _) (.nil)))⟩
 ·refine au h [3,1,1,1,1,1] ?_; intro h
  refine cb h (lockfile_Validate_spec n _) fun r2 k3 h => ?_
  refine ax 81 h [5,8,1,1,8,5,5] ?_; intro h
  refine bs h (fun c4 h => ?_) fun c4 h => ?_
  ·refine au h [2,1,1,8,8,5,1,8,1] ?_; intro h
   cases h
   exact ⟨_, rfl, Le.tups (.cons (.nils 1) (.cons (.refl _) (.nil)))⟩
  ·refine au h [3,1,1,1,1,1,1,1,1,1,1,1,1] ?_; intro h
   refine Ev.loopW (β := Nat × (List Int) × Int) (fun v => ⟨[(0, lP a0), (1, lP a1), (5, wP 10100), (8, .fn 41 [] []), (9, .own 10101 0), (27, iP v.2.2)], [(10100, eP 26 2 [[iP 0, iP 0]]), (10101, eP 3 1 (mP v.2.1))], 2⟩) (fun v => lockfile_Drift_l1 n a0 a1 v.1 v.2.1 v.2.2 = some r) (fun v => v.1) (n, ([] : List Int), 0) ((Wk.ownNil 9 30101 3 1 rfl rfl true).trans (.nA)) h ?_
   intro ⟨m1, w3, x4⟩ h
   try dsimp only at h ⊢
   cases m1 with
   | zero => rw [lockfile_Drift_l1] at h; cases h
   | succ m1 =>
    rw [lockfile_Drift_l1] at h
    refine au h [1,1,5,1] ?_; intro h
    refine bs h (fun c5 h => ?_) fun c5 h => ?_
    ·refine au h [2,1] ?_; intro h
     refine Ev.seqJ (γ := List Int) (fun v => ⟨[(0, lP a0), (1, lP a1), (5, wP 10200), (8, .fn 41 [] []), (9, .own 10201 0), (27, iP x4)], [(10200, eP 26 2 [[iP 0, iP 0]]), (10201, eP 3 1 (mP v))], 2⟩) (fun v => lockfile_Drift_j1 n x4 (lockfile_Drift_l1 n a0 a1 m1) v = some r) ?_ ?_
     ·refine au h [1,1,1,1,1,1] ?_; intro h
      refine Ev.regS rfl ?_
      refine Sq.w 3 nb ?_
      refine aw h [1,1,1] ?_; intro h
      refine Sq.callv (f := 41) rfl Tryz.b_lockfile_Drift_1 Tryz.c_lockfile_Drift_1 ⟨_, _, _, rfl, nb, ?_⟩
      unfold Tryz.l_lockfile_Drift_1
      refine Ev.retJ (γ := Int) (fun v => ⟨[(4, iP v), (65536, lP a0), (65537, lP a1), (65541, wP 10300), (65544, .fn 41 [] []), (65545, .own 10301 0), (65546, iP x4), (65563, iP x4)], [(10300, eP 26 2 [[iP 0, iP 0]]), (10301, eP 3 1 (mP w3))], 2⟩) (fun v => lockfile_Drift_j2 n a0 a1 w3 x4 (lockfile_Drift_l1 n a0 a1 m1) v = some r) ?_ ?_
      ·refine au h [1,1,5,1,1] ?_; intro h
       refine Ev.regS rfl ?_
       refine Sq.w 2 nb ?_
       refine W.mv rfl (W.mkfn rfl ?_)
       refine W.nil ?_
       refine Sq.weak (st' := ⟨[(4, iP 0), (5, lP a0), (6, .fn 43 [] [wP 10300]), (65536, lP a0), (65537, lP a1), (65541, wP 10301), (65544, .fn 41 [] []), (65545, .own 10302 0), (65546, iP x4), (65563, iP x4)], [(10300, eP 3 1 [[iP x4]]), (10301, eP 26 2 [[iP 0, iP 0]]), (10302, eP 3 1 (mP w3))], 2⟩) ?_ (.nA)
       refine Sq.call rfl Tryz.c_slices_IndexFunc_api_LockEntry_api_LockEntry ⟨_, rfl, nb, ?_⟩
       unfold Tryz.l_slices_IndexFunc_api_LockEntry_api_LockEntry
       refine Ev.retJ (γ := Int) (fun v => ⟨[(4, iP v), (65540, iP 0), (131072, lP a0), (131073, lP a1), (131077, wP 10400), (131080, .fn 41 [] []), (131081, .own 10401 0), (131082, iP x4), (131099, iP x4)], [(10400, eP 26 2 [[iP 0, iP 0]]), (10401, eP 3 1 (mP w3))], 2⟩) (fun v => lockfile_Drift_j7 n a0 a1 w3 x4 (lockfile_Drift_l1 n a0 a1 m1) v = some r) ?_ ?_
       ·refine au h [1,1,1,1,1,1,1,5,1,1] ?_; intro h
        refine Ev.loopW (β := Nat × Int) (fun v => ⟨[(0, lP a0), (1, .fn 43 [] [wP 10500]), (7, iP (a0.length : Int)), (8, iP v.2), (65540, iP 0), (131072, lP a0), (131073, lP a1), (131077, wP 10501), (131080, .fn 41 [] []), (131081, .own 10502 0), (131082, iP x4), (131099, iP x4)], [(10500, eP 3 1 [[iP x4]]), (10501, eP 26 2 [[iP 0, iP 0]]), (10502, eP 3 1 (mP w3))], 2⟩) (fun v => lockfile_Drift_l3 n a0 a1 w3 x4 (lockfile_Drift_l1 n a0 a1 m1) v.1 v.2 = some r) (fun v => v.1) (n, 0) (.nA) h ?_
        intro ⟨m3, x19⟩ h
        try dsimp only at h ⊢
        cases m3 with
        | zero => rw [lockfile_Drift_l3] at h; cases h
        | succ m3 =>
         rw [lockfile_Drift_l3] at h
         refine au h [1,1,5,1] ?_; intro h
         refine bs h (fun c19 h => ?_) fun c19 h => ?_
         ·refine au h [2,1,1,1,1,1,1,1,1] ?_; intro h
          refine Ev.regS rfl ?_
          refine Sq.w 5 nb ?_
          refine aw h [1,1,1,5,5] ?_; intro e20 k20 h
          refine Sq.callv (f := 43) rfl Tryz.b_lockfile_Drift_1_1 Tryz.c_lockfile_Drift_1_1 ⟨_, _, _, rfl, nb, ?_⟩
          unfold Tryz.l_lockfile_Drift_1_1
          refine Ev.retJ (γ := Unit) (fun v => ⟨[(3, .bool (decide (e20.Package = x4))), (65536, lP a0), (65537, .fn 43 [] [wP 10600]), (65541, iP x19), (65543, iP (a0.length : Int)), (65544, iP x19), (131076, iP 0), (196608, lP a0), (196609, lP a1), (196613, wP 10601), (196616, .fn 41 [] []), (196617, .own 10602 0), (196618, iP x4), (196635, iP x4)], [(10600, eP 3 1 [[iP x4]]), (10601, eP 26 2 [[iP 0, iP 0]]), (10602, eP 3 1 (mP w3))], 2⟩) (fun v => lockfile_Drift_j8 n a0 a1 w3 x4 (lockfile_Drift_l1 n a0 a1 m1) x19 (lockfile_Drift_l3 n a0 a1 w3 x4 (lockfile_Drift_l1 n a0 a1 m1) m3) e20 = some r) ?_ ?_
          ·refine au h [1,1,5,1,1,1,8,8,8,5,1,1] ?_; intro h
           exact lf () h
          ·intro _ h
           try dsimp only at h ⊢
           unfold lockfile_Drift_j8 at h
           refine ⟨_, rfl, ?_⟩
           refine Sq.wEnd nb ?_
           refine W.nil ?_
           refine bs h (fun c21 h => ?_) fun c21 h => ?_
           ·refine au h [2,1,1,1,1,1] ?_; intro h
            exact lf x19 h
           ·refine au h [3,1,1,7,1] ?_; intro x21 k22 h
            exact lb (m3, x21) h
         ·refine au h [3,1,1,1,1,1] ?_; intro h
          exact lf (-1) h
       ·intro x18 h
        try dsimp only at h ⊢
        unfold lockfile_Drift_j7 at h
        refine ⟨_, rfl, ?_⟩
        refine Sq.wEnd nb ?_
        refine ax 8 h [1,1] ?_; intro h
        exact lf x18 h
      ·intro x7 h
       try dsimp only at h ⊢
       unfold lockfile_Drift_j2 at h
       refine ⟨_, rfl, ?_⟩
       refine Sq.w 3 nb ?_
       refine aw h [1,1,1] ?_; intro h
       refine Sq.callv (f := 41) rfl Tryz.b_lockfile_Drift_1 Tryz.c_lockfile_Drift_1 ⟨_, _, _, rfl, nb, ?_⟩
       unfold Tryz.l_lockfile_Drift_1
       refine Ev.retJ (γ := Int) (fun v => ⟨[(4, iP v), (65536, lP a0), (65537, lP a1), (65541, wP 10400), (65544, .fn 41 [] []), (65545, .own 10401 0), (65546, iP x4), (65563, iP x4), (65569, iP x7)], [(10400, eP 26 2 [[iP 0, iP 0]]), (10401, eP 3 1 (mP w3))], 2⟩) (fun v => lockfile_Drift_j3 n a0 a1 w3 x4 (lockfile_Drift_l1 n a0 a1 m1) x7 v = some r) ?_ ?_
       ·refine au h [1,1,5,1,1] ?_; intro h
        refine Ev.regS rfl ?_
        refine Sq.w 2 nb ?_
        refine W.mv rfl (W.mkfn rfl ?_)
        refine W.nil ?_
        refine Sq.weak (st' := ⟨[(4, iP 0), (5, lP a1), (6, .fn 43 [] [wP 10400]), (65536, lP a0), (65537, lP a1), (65541, wP 10401), (65544, .fn 41 [] []), (65545, .own 10402 0), (65546, iP x4), (65563, iP x4), (65569, iP x7)], [(10400, eP 3 1 [[iP x4]]), (10401, eP 26 2 [[iP 0, iP 0]]), (10402, eP 3 1 (mP w3))], 2⟩) ?_ (.nA)
        refine Sq.call rfl Tryz.c_slices_IndexFunc_api_LockEntry_api_LockEntry ⟨_, rfl, nb, ?_⟩
        unfold Tryz.l_slices_IndexFunc_api_LockEntry_api_LockEntry
        refine Ev.retJ (γ := Int) (fun v => ⟨[(4, iP v), (65540, iP 0), (131072, lP a0), (131073, lP a1), (131077, wP 10500), (131080, .fn 41 [] []), (131081, .own 10501 0), (131082, iP x4), (131099, iP x4), (131105, iP x7)], [(10500, eP 26 2 [[iP 0, iP 0]]), (10501, eP 3 1 (mP w3))], 2⟩) (fun v => lockfile_Drift_j5 n a0 a1 w3 x4 (lockfile_Drift_l1 n a0 a1 m1) x7 v = some r) ?_ ?_
        ·refine au h [1,1,1,1,1,1,1,5,1,1] ?_; intro h
         refine Ev.loopW (β := Nat × Int) (fun v => ⟨[(0, lP a1), (1, .fn 43 [] [wP 10600]), (7, iP (a1.length : Int)), (8, iP v.2), (65540, iP 0), (131072, lP a0), (131073, lP a1), (131077, wP 10601), (131080, .fn 41 [] []), (131081, .own 10602 0), (131082, iP x4), (131099, iP x4), (131105, iP x7)], [(10600, eP 3 1 [[iP x4]]), (10601, eP 26 2 [[iP 0, iP 0]]), (10602, eP 3 1 (mP w3))], 2⟩) (fun v => lockfile_Drift_l2 n a0 a1 w3 x4 (lockfile_Drift_l1 n a0 a1 m1) x7 v.1 v.2 = some r) (fun v => v.1) (n, 0) (.nA) h ?_
         intro ⟨m2, x15⟩ h
         try dsimp only at h ⊢
         cases m2 with
         | zero => rw [lockfile_Drift_l2] at h; cases h
         | succ m2 =>
          rw [lockfile_Drift_l2] at h
          refine au h [1,1,5,1] ?_; intro h
          refine bs h (fun c15 h => ?_) fun c15 h => ?_
          ·refine au h [2,1,1,1,1,1,1,1,1] ?_; intro h
           refine Ev.regS rfl ?_
           refine Sq.w 5 nb ?_
           refine aw h [1,1,1,5,5] ?_; intro e16 k16 h
           refine Sq.callv (f := 43) rfl Tryz.b_lockfile_Drift_1_1 Tryz.c_lockfile_Drift_1_1 ⟨_, _, _, rfl, nb, ?_⟩
           unfold Tryz.l_lockfile_Drift_1_1
           refine Ev.retJ (γ := Unit) (fun v => ⟨[(3, .bool (decide (e16.Package = x4))), (65536, lP a1), (65537, .fn 43 [] [wP 10700]), (65541, iP x15), (65543, iP (a1.length : Int)), (65544, iP x15), (131076, iP 0), (196608, lP a0), (196609, lP a1), (196613, wP 10701), (196616, .fn 41 [] []), (196617, .own 10702 0), (196618, iP x4), (196635, iP x4), (196641, iP x7)], [(10700, eP 3 1 [[iP x4]]), (10701, eP 26 2 [[iP 0, iP 0]]), (10702, eP 3 1 (mP w3))], 2⟩) (fun v => lockfile_Drift_j6 n a0 a1 w3 x4 (lockfile_Drift_l1 n a0 a1 m1) x7 x15 (lockfile_Drift_l2 n a0 a1 w3 x4 (lockfile_Drift_l1 n a0 a1 m1) x7 m2) e16 = some r) ?_ ?_
           ·refine au h [1,1,5,1,1,1,8,8,8,5,1,1] ?_; intro h
            exact lf () h
           ·intro _ h
            try dsimp only at h ⊢
            unfold lockfile_Drift_j6 at h
            refine ⟨_, rfl, ?_⟩
            refine Sq.wEnd nb ?_
            refine W.nil ?_
            refine bs h (fun c17 h => ?_) fun c17 h => ?_
            ·refine au h [2,1,1,1,1,1] ?_; intro h
             exact lf x15 h
            ·refine au h [3,1,1,7,1] ?_; intro x17 k18 h
             exact lb (m2, x17) h
          ·refine au h [3,1,1,1,1,1] ?_; intro h
           exact lf (-1) h
        ·intro x14 h
         try dsimp only at h ⊢
         unfold lockfile_Drift_j5 at h
         refine ⟨_, rfl, ?_⟩
         refine Sq.wEnd nb ?_
         refine ax 8 h [1,1] ?_; intro h
         exact lf x14 h
       ·intro x8 h
        try dsimp only at h ⊢
        unfold lockfile_Drift_j3 at h
        refine ⟨_, rfl, ?_⟩
        refine Sq.wEnd nb ?_
        refine aw h [1,1] ?_; intro h
        refine Ev.seqJ (γ := Bool) (fun v => ⟨[(0, lP a0), (1, lP a1), (5, wP 10500), (8, .fn 41 [] []), (9, .own 10501 0), (10, iP x4), (27, iP x4), (73, .bool v)], [(10500, eP 26 2 [[iP 0, iP 0]]), (10501, eP 3 1 (mP w3))], 2⟩) (fun v => lockfile_Drift_j4 n w3 x4 (lockfile_Drift_l1 n a0 a1 m1) v = some r) ?_ ?_
        ·refine au h [1,1,5,1,5,5,1] ?_; intro h
         refine bs h (fun c9 h => ?_) fun c9 h => ?_
         ·refine aw h [3,3,3,4,4,4,4,4,4,4,4,4,4,4,4,4,4,4,4,4,4,4,4,4,4,4,4,4,3,2] ?_; intro h
          exact lf true h
         ·refine aw h [2,1,2,5,2,1] ?_; intro h
          refine bs h (fun c10 h => ?_) fun c10 h => ?_
          ·refine aw h [2,1,2,1,2,5,2,5,2,5,2,1,2,1,2,5,2,5,2,5,2,5,2,1] ?_; intro e11 k11 e12 k12 h
           refine bs h (fun c13 h => ?_) fun c13 h => ?_
           ·refine aw h [3,3,3,3,3,3,3,3,3,3,3,3,2,2,2,2,3] ?_; intro h
            exact lf true h
           ·refine aw h [2,1,2,1,2,6,2,5,2,5,2,1,2,1,2,6,2,5,2,5,2] ?_; intro h
            refine cb h (version_Order_spec n _ _) fun r13 k14 h => ?_
            refine aw h [2,5,2,3,2,2,3] ?_; intro h
            exact lf (decide (r13 ≠ 0)) h
          ·refine aw h [3,3,3,3,3,3,3,3,3,3,3,3,4,4,4,4,4,4,4,4,4,4,4,4,3,2,3,3] ?_; intro h
           exact lf false h
        ·intro x9 h
         try dsimp only at h ⊢
         unfold lockfile_Drift_j4 at h
         refine bs h (fun c7 h => ?_) fun c7 h => ?_
         ·refine au h [2,1,1,1,5,7,1] ?_; intro w10 k8 h
          exact lf w10 h
         ·refine au h [3,1] ?_; intro h
          exact lf w3 h
     ·intro w5 h
      try dsimp only at h ⊢
      unfold lockfile_Drift_j1 at h
      refine au h [1,7,1] ?_; intro x6 k6 h
      exact lb (m1, w5, x6) h
    ·refine au h [3,1,1,1,1,5,1,8,1] ?_; intro h
     cases h
     exact ⟨_, rfl, .refl _⟩
theorem version_Zero_spec (n : Nat) (a0 : SMajorMinorPatchPre) (r : Bool) (h : version_Zero n a0 = some r) : PSpec Tryz.prog 138 [.agg (SMajorMinorPatchPre.cells a0)] (.bool r) := by
 unfold version_Zero at h
 refine spec_of Tryz.c_version_Zero (by simp) ?_
 unfold Tryz.l_version_Zero
 refine au h [1,1,5,1] ?_; intro h
 refine Ev.seqJ (γ := Bool) (fun v => ⟨[(2, .bool v)], [], 2⟩) (fun v => version_Zero_j1 n v = some r) ?_ ?_
 ·refine au h [1,8,8,5,1] ?_; intro h
  refine bs h (fun c1 h => ?_) fun c1 h => ?_
  ·refine aw h [2,8,2,8,2,5,2,1] ?_; intro h
   refine bs h (fun c2 h => ?_) fun c2 h => ?_
   ·refine aw h [2,8,2,8,2,5,2,1] ?_; intro h
    refine bs h (fun c3 h => ?_) fun c3 h => ?_
    ·refine aw h [2,8,2,8,2,5,2,5,2,1] ?_; intro h
     exact lf (decide ((a0.Pre.length : Int) = 0)) h
    ·refine aw h [3,3,3,3,3,1] ?_; intro h
     exact lf false h
   ·refine aw h [3,3,3,3,1,3,3,3,3,3,1] ?_; intro h
    exact lf false h
  ·refine aw h [3,3,3,3,1,3,3,3,3,1,3,3,3,3,3,1] ?_; intro h
   exact lf false h
 ·intro x1 h
  try dsimp only at h ⊢
  unfold version_Zero_j1 at h
  refine Ev.ret ?_
  cases h
  exact ⟨_, rfl, .refl _⟩
end Go.Proofs.YtpcmhhbocifbcaaGreatDoor
namespace Go.Proofs.YtpcmhhbocifbcaaGreatDoor
open Go.PW Go
theorem verrange_check_spec (n : Nat) (a0 : SLowHighUnbounded) (r : Int) (h : verrange_check n a0 = some r) : PSpec Tryz.prog 120 [.agg (SLowHighUnbounded.cells a0)] (iP r) := by
 unfold verrange_check at h
 refine spec_of Tryz.c_verrange_check (by simp) ?_
 unfold Tryz.l_verrange_check
 refine au h [1,1,5,1,1,1,1,8,8] ?_; intro h
 refine cb h (version_Validate_spec n _) fun r1 k1 h => ?_
 refine ax 33 h [5,8,1,1,8,5,5] ?_; intro h
 refine bs h (fun c2 h => ?_) fun c2 h => ?_
 ·refine au h [2,1,1,8,8,1,1] ?_; intro h
  cases h
  exact ⟨_, rfl, .refl _⟩
 ·refine au h [3,1,1,1,1,8,8] ?_; intro h
  refine bs h (fun c3 h => ?_) fun c3 h => ?_
  ·refine au h [2,1,1,1,8,8] ?_; intro h
   refine cb h (version_Zero_spec n _) fun r2 k4 h => ?_
   refine aw h [5] ?_; intro h
   refine bs h (fun c5 h => ?_) fun c5 h => ?_
   ·refine au h [2,1,1,1,1] ?_; intro h
    cases h
    exact ⟨_, rfl, .refl _⟩
   ·refine au h [3,1,1,1,1,1] ?_; intro h
    cases h
    exact ⟨_, rfl, .refl _⟩
  ·refine au h [3,1,1,1,1,8,8] ?_; intro h
   refine cb h (version_Validate_spec n _) fun r3 k6 h => ?_
   refine ax 33 h [5,8,1,1,8,5,5] ?_; intro h
   refine bs h (fun c7 h => ?_) fun c7 h => ?_
   ·refine au h [2,1,1,8,8,1,1] ?_; intro h
    cases h
    exact ⟨_, rfl, .refl _⟩
   ·refine au h [3,1,1,1,1,8,8,8,8] ?_; intro h
    refine cb h (version_Order_spec n _ _) fun r4 k8 h => ?_
    refine aw h [5] ?_; intro h
    refine bs h (fun c9 h => ?_) fun c9 h => ?_
    ·refine au h [2,1,1,1,1] ?_; intro h
     cases h
     exact ⟨_, rfl, .refl _⟩
    ·refine au h [3,1,1,1,1,1] ?_; intro h
     cases h
     exact ⟨_, rfl, .refl _⟩
theorem verrange_Validate_spec (n : Nat) (a0 : SIntervals) (r : SCodeIndex) (h : verrange_Validate n a0 = some r) : PSpec Tryz.prog 105 [.agg (SIntervals.cells a0)] (.agg (SCodeIndex.cells r)) := by
 unfold verrange_Validate at h
 refine spec_of Tryz.c_verrange_Validate (by simp) ?_
 unfold Tryz.l_verrange_Validate
 refine au h [1,1,5,5,1,1,1,8,8,5,5] ?_; intro h
 refine bs h (fun c1 h => ?_) fun c1 h => ?_
 ·refine au h [2,1,1,5,8,1] ?_; intro h
  cases h
  exact ⟨_, rfl, .refl _⟩
 ·refine au h [3,1,1,1,1,8,8,5,1,1] ?_; intro h
  refine Ev.loopW (β := Nat × Int) (fun v => ⟨[(1, wP 10100), (2, wP 10101), (13, lP a0.Intervals), (14, iP (a0.Intervals.length : Int)), (15, iP v.2)], [(10100, eP 93 1 [[lP a0.Intervals]]), (10101, eP 26 2 [[iP 0, iP 0]])], 2⟩) (fun v => verrange_Validate_l1 n a0 v.1 v.2 = some r) (fun v => v.1) (n, 0) (.nA) h ?_
  intro ⟨m1, x1⟩ h
  try dsimp only at h ⊢
  cases m1 with
  | zero => rw [verrange_Validate_l1] at h; cases h
  | succ m1 =>
   rw [verrange_Validate_l1] at h
   refine au h [1,1,5,1] ?_; intro h
   refine bs h (fun c2 h => ?_) fun c2 h => ?_
   ·refine au h [2,1,1,1,1,1,1,5,5,5,1,8,1,1,8] ?_; intro e2 k3 h
    refine cb h (verrange_check_spec n _) fun r3 k4 h => ?_
    refine aw h [1] ?_; intro h
    refine Ev.seqJ (γ := Int) (fun v => ⟨[(1, wP 10200), (2, wP 10201), (3, iP x1), (5, iP v), (13, lP a0.Intervals), (14, iP (a0.Intervals.length : Int)), (15, iP x1)], [(10200, eP 93 1 [[lP a0.Intervals]]), (10201, eP 26 2 [[iP 0, iP 0]])], 2⟩) (fun v => verrange_Validate_j1 n x1 (verrange_Validate_l1 n a0 m1) v = some r) ?_ ?_
    ·refine Ev.seqJ (γ := Bool) (fun v => ⟨[(1, wP 10300), (2, wP 10301), (3, iP x1), (4, wP 10302), (5, iP r3), (13, lP a0.Intervals), (14, iP (a0.Intervals.length : Int)), (15, iP x1), (27, .bool v)], [(10300, eP 93 1 [[lP a0.Intervals]]), (10301, eP 26 2 [[iP 0, iP 0]]), (10302, eP 109 9 [[iP e2.Low.Major, iP e2.Low.Minor, iP e2.Low.Patch, lP e2.Low.Pre, iP e2.High.Major, iP e2.High.Minor, iP e2.High.Patch, lP e2.High.Pre, .bool e2.Unbounded]])], 2⟩) (fun v => verrange_Validate_j2 n a0 x1 (verrange_Validate_l1 n a0 m1) e2 r3 v = some r) ?_ ?_
     ·refine au h [1,1,5,1] ?_; intro h
      refine bs h (fun c13 h => ?_) fun c13 h => ?_
      ·refine aw h [2,1,2,5,2] ?_; intro h
       exact lf (decide (0 < x1)) h
      ·refine aw h [3,3,3] ?_; intro h
       exact lf false h
     ·intro x6 h
      try dsimp only at h ⊢
      unfold verrange_Validate_j2 at h
      refine bs h (fun c7 h => ?_) fun c7 h => ?_
      ·refine au h [2,1,1,8,8,1,7,5,5,5,8] ?_; intro x7 k8 e8 k9 h
       refine Ev.seqJ (γ := Bool) (fun v => ⟨[(1, wP 10400), (2, wP 10401), (3, iP x1), (5, iP r3), (13, lP a0.Intervals), (14, iP (a0.Intervals.length : Int)), (15, iP x1), (43, .bool v)], [(10400, eP 93 1 [[lP a0.Intervals]]), (10401, eP 26 2 [[iP 0, iP 0]])], 2⟩) (fun v => verrange_Validate_j3 n x1 (verrange_Validate_l1 n a0 m1) r3 v = some r) ?_ ?_
       ·refine au h [1,8,8,1] ?_; intro h
        refine bs h (fun c11 h => ?_) fun c11 h => ?_
        ·refine aw h [3,3,3,3,3,3,2] ?_; intro h
         exact lf true h
        ·refine aw h [2,8,2,8,2,8,2,8,2] ?_; intro h
         refine cb h (version_Order_spec n _ _) fun r10 k12 h => ?_
         refine aw h [2,5,3] ?_; intro h
         exact lf (decide (0 ≤ r10)) h
       ·intro x9 h
        try dsimp only at h ⊢
        unfold verrange_Validate_j3 at h
        refine bs h (fun c10 h => ?_) fun c10 h => ?_
        ·refine au h [2,1,1] ?_; intro h
         exact lf 5 h
        ·refine au h [3,1] ?_; intro h
         exact lf r3 h
      ·refine au h [3,1] ?_; intro h
       exact lf r3 h
    ·intro x4 h
     try dsimp only at h ⊢
     unfold verrange_Validate_j1 at h
     refine au h [1,1,1,5] ?_; intro h
     refine bs h (fun c5 h => ?_) fun c5 h => ?_
     ·refine au h [2,1,1,1,1,5,8,1] ?_; intro h
      cases h
      exact ⟨_, rfl, .refl _⟩
     ·refine au h [3,1,1,7,1] ?_; intro x5 k6 h
      exact lb (m1, x5) h
   ·refine au h [3,1,1,1,5,8,1] ?_; intro h
    cases h
    exact ⟨_, rfl, .refl _⟩
theorem solver_Needs_spec (n : Nat) (a0 : List SPackageRange) (a1 : Int) (r : Int) (h : solver_Needs n a0 a1 = some r) : PSpec Tryz.prog 92 [lP a0, iP a1] (iP r) := by
 unfold solver_Needs at h
 refine spec_of Tryz.c_solver_Needs (by simp) ?_
 unfold Tryz.l_solver_Needs
 refine au h [1,1,1,1,1,1,1,5,5] ?_; intro h
 refine bs h (fun c1 h => ?_) fun c1 h => ?_
 ·refine au h [2,1,1,1,1] ?_; intro h
  cases h
  exact ⟨_, rfl, .refl _⟩
 ·refine au h [3,1,1,1,1,1,5,1,1] ?_; intro h
  refine Ev.loopW (β := Nat × Int) (fun v => ⟨[(0, lP a0), (1, iP a1), (11, lP a0), (12, iP (a0.length : Int)), (13, iP v.2)], [], 2⟩) (fun v => solver_Needs_l1 n a0 a1 v.1 v.2 = some r) (fun v => v.1) (n, 0) (.nA) h ?_
  intro ⟨m1, x1⟩ h
  try dsimp only at h ⊢
  cases m1 with
  | zero => rw [solver_Needs_l1] at h; cases h
  | succ m1 =>
   rw [solver_Needs_l1] at h
   refine au h [1,1,5,1] ?_; intro h
   refine bs h (fun c2 h => ?_) fun c2 h => ?_
   ·refine au h [2,1,1,1,1,1,1,5,5,5,1,8,1] ?_; intro e2 k3 h
    refine Ev.seqJ (γ := Bool) (fun v => ⟨[(0, lP a0), (1, iP a1), (5, iP x1), (6, wP 10200), (11, lP a0), (12, iP (a0.length : Int)), (13, iP x1), (26, .bool v)], [(10200, eP 95 2 [[iP e2.Package, lP e2.Range.Intervals]])], 2⟩) (fun v => solver_Needs_j1 n a0 x1 (solver_Needs_l1 n a0 a1 m1) e2 v = some r) ?_ ?_
    ·refine au h [1,8,8,5,1] ?_; intro h
     refine bs h (fun c12 h => ?_) fun c12 h => ?_
     ·refine aw h [3,3,3,3,2] ?_; intro h
      exact lf true h
     ·refine aw h [2,8,2,8,2,1,2,5,3] ?_; intro h
      exact lf (decide (a1 ≤ e2.Package)) h
    ·intro x3 h
     try dsimp only at h ⊢
     unfold solver_Needs_j1 at h
     refine bs h (fun c4 h => ?_) fun c4 h => ?_
     ·refine au h [2,1,1,1,1] ?_; intro h
      cases h
      exact ⟨_, rfl, .refl _⟩
     ·refine au h [3,1,1,1,1,8,8] ?_; intro h
      refine cb h (verrange_Validate_spec n _) fun r4 k5 h => ?_
      refine ax 49 h [5,8,1,1,8,5,5] ?_; intro h
      refine bs h (fun c6 h => ?_) fun c6 h => ?_
      ·refine au h [2,1,1,8,8,1,1] ?_; intro h
       cases h
       exact ⟨_, rfl, .refl _⟩
      ·refine au h [3,1] ?_; intro h
       refine Ev.seqJ (γ := Bool) (fun v => ⟨[(0, lP a0), (1, iP a1), (11, lP a0), (12, iP (a0.length : Int)), (13, iP x1), (47, .bool v)], [], 2⟩) (fun v => solver_Needs_j2 n x1 (solver_Needs_l1 n a0 a1 m1) v = some r) ?_ ?_
       ·refine au h [1,1,5,1] ?_; intro h
        refine bs h (fun c9 h => ?_) fun c9 h => ?_
        ·refine aw h [2,8,2,8,2,1,2,1,2,7,2,5,2,5,2,5,2,5,2] ?_; intro x7 k10 e8 k11 h
         exact lf (decide (e2.Package ≤ e8.Package)) h
        ·refine aw h [3,3,3,3,3,3,3,3,3,3] ?_; intro h
         exact lf false h
       ·intro x5 h
        try dsimp only at h ⊢
        unfold solver_Needs_j2 at h
        refine bs h (fun c7 h => ?_) fun c7 h => ?_
        ·refine au h [2,1,1,1,1] ?_; intro h
         cases h
         exact ⟨_, rfl, .refl _⟩
        ·refine au h [3,1,1,7,1] ?_; intro x6 k8 h
         exact lb (m1, x6) h
   ·refine au h [3,1,1,1,1,1] ?_; intro h
    cases h
    exact ⟨_, rfl, .refl _⟩
theorem solver_releases_spec (n : Nat) (a0 : List SVersionNeeds) (a1 : Int) (r : Int) (h : solver_releases n a0 a1 = some r) : PSpec Tryz.prog 74 [lP a0, iP a1] (iP r) := by
 unfold solver_releases at h
 refine spec_of Tryz.c_solver_releases (by simp) ?_
 unfold Tryz.l_solver_releases
 refine au h [1,1,1,1,1,1,1,5,5] ?_; intro h
 refine bs h (fun c1 h => ?_) fun c1 h => ?_
 ·refine au h [2,1,1,1,1] ?_; intro h
  cases h
  exact ⟨_, rfl, .refl _⟩
 ·refine au h [3,1,1,1,1,1,5,1,1] ?_; intro h
  refine Ev.loopW (β := Nat × Int) (fun v => ⟨[(0, lP a0), (1, iP a1), (12, lP a0), (13, iP (a0.length : Int)), (14, iP v.2)], [], 2⟩) (fun v => solver_releases_l1 n a0 a1 v.1 v.2 = some r) (fun v => v.1) (n, 0) (.nA) h ?_
  intro ⟨m1, x1⟩ h
  try dsimp only at h ⊢
  cases m1 with
  | zero => rw [solver_releases_l1] at h; cases h
  | succ m1 =>
   rw [solver_releases_l1] at h
   refine au h [1,1,5,1] ?_; intro h
   refine bs h (fun c2 h => ?_) fun c2 h => ?_
   ·refine au h [2,1,1,1,1,1,1,5,5,5,1,8,1,1,1,8,8] ?_; intro e2 k3 h
    refine cb h (version_Validate_spec n _) fun r3 k4 h => ?_
    refine ax 49 h [5,8,1,1,8,5,5] ?_; intro h
    refine bs h (fun c5 h => ?_) fun c5 h => ?_
    ·refine au h [2,1,1,8,8,1,1] ?_; intro h
     cases h
     exact ⟨_, rfl, .refl _⟩
    ·refine au h [3,1,1] ?_; intro h
     refine Ev.seqJ (γ := Bool) (fun v => ⟨[(0, lP a0), (1, iP a1), (6, wP 10200), (12, lP a0), (13, iP (a0.length : Int)), (14, iP x1), (40, .bool v)], [(10200, eP 75 5 [[iP e2.Version.Major, iP e2.Version.Minor, iP e2.Version.Patch, lP e2.Version.Pre, lP e2.Needs]])], 2⟩) (fun v => solver_releases_j1 n a1 x1 (solver_releases_l1 n a0 a1 m1) e2 v = some r) ?_ ?_
     ·refine au h [1,1,5,1] ?_; intro h
      refine bs h (fun c10 h => ?_) fun c10 h => ?_
      ·refine aw h [2,8,2,8,2,1,2,1,2,7,2,5,2,5,2,5,2] ?_; intro x7 k11 e8 k12 h
       refine cb h (version_Order_spec n _ _) fun r9 k13 h => ?_
       refine aw h [2,5,2] ?_; intro h
       exact lf (decide (r9 ≤ 0)) h
      ·refine aw h [3,3,3,3,3,3,3,3,3,3,3] ?_; intro h
       exact lf false h
     ·intro x4 h
      try dsimp only at h ⊢
      unfold solver_releases_j1 at h
      refine bs h (fun c6 h => ?_) fun c6 h => ?_
      ·refine au h [2,1,1,1,1] ?_; intro h
       cases h
       exact ⟨_, rfl, .refl _⟩
      ·refine au h [3,1,1,1,8,8,1] ?_; intro h
       refine cb h (solver_Needs_spec n _ _) fun r5 k7 h => ?_
       refine ax 49 h [1,1,1,1,5] ?_; intro h
       refine bs h (fun c8 h => ?_) fun c8 h => ?_
       ·refine au h [2,1,1,1,1,1] ?_; intro h
        cases h
        exact ⟨_, rfl, .refl _⟩
       ·refine au h [3,1,1,7,1] ?_; intro x6 k9 h
        exact lb (m1, x6) h
   ·refine au h [3,1,1,1,1,1] ?_; intro h
    cases h
    exact ⟨_, rfl, .refl _⟩
theorem solver_Validate_spec (n : Nat) (a0 : SPackages) (r : SCodeIndex) (h : solver_Validate n a0 = some r) : PSpec Tryz.prog 50 [.agg (SPackages.cells a0)] (.agg (SCodeIndex.cells r)) := by
 unfold solver_Validate at h
 refine spec_of Tryz.c_solver_Validate (by simp) ?_
 unfold Tryz.l_solver_Validate
 refine au h [1,1,5,5,1,1,1,8,8,5,5] ?_; intro h
 refine bs h (fun c1 h => ?_) fun c1 h => ?_
 ·refine au h [2,1,1,5,8,1] ?_; intro h
  cases h
  exact ⟨_, rfl, .refl _⟩
 ·refine au h [3,1,1,1,1,8,8,5,1,1] ?_; intro h
  refine Ev.loopW (β := Nat × Int) (fun v => ⟨[(1, wP 10100), (2, wP 10101), (12, lP a0.Packages), (13, iP (a0.Packages.length : Int)), (14, iP v.2)], [(10100, eP 39 1 [[lP a0.Packages]]), (10101, eP 26 2 [[iP 0, iP 0]])], 2⟩) (fun v => solver_Validate_l1 n a0 v.1 v.2 = some r) (fun v => v.1) (n, 0) (.nA) h ?_
  intro ⟨m1, x1⟩ h
  try dsimp only at h ⊢
  cases m1 with
  | zero => rw [solver_Validate_l1] at h; cases h
  | succ m1 =>
   rw [solver_Validate_l1] at h
   refine au h [1,1,5,1] ?_; intro h
   refine bs h (fun c2 h => ?_) fun c2 h => ?_
   ·refine au h [2,1,1,1,1,1,1,5,5,1,1,1,1,1,8,8,5] ?_; intro e2 k3 h
    refine cb h (solver_releases_spec n _ _) fun r3 k4 h => ?_
    refine ax 31 h [1,1,1,1,5] ?_; intro h
    refine bs h (fun c5 h => ?_) fun c5 h => ?_
    ·refine au h [2,1,1,1,1,5,8,1] ?_; intro h
     cases h
     exact ⟨_, rfl, .refl _⟩
    ·refine au h [3,1,1,7,1] ?_; intro x4 k6 h
     exact lb (m1, x4) h
   ·refine au h [3,1,1,1,5,8,1] ?_; intro h
    cases h
    exact ⟨_, rfl, .refl _⟩
theorem solver_Chosen_spec (n : Nat) (a0 : SPackages) (a1 : List Int) (r : SCodeIndex) (h : solver_Chosen n a0 a1 = some r) : PSpec Tryz.prog 51 [.agg (SPackages.cells a0), lP a1] (.agg (SCodeIndex.cells r)) := by
 unfold solver_Chosen at h
 refine spec_of Tryz.c_solver_Chosen (by simp) ?_
 unfold Tryz.l_solver_Chosen
 refine au h [1,1,5,5,1,1,1,1,5,8,8,5,5] ?_; intro h
 refine bs h (fun c1 h => ?_) fun c1 h => ?_
 ·refine au h [2,1,1,5,8,1] ?_; intro h
  cases h
  exact ⟨_, rfl, .refl _⟩
 ·refine au h [3,1,1,1,1,1,5,1,1] ?_; intro h
  refine Ev.loopW (β := Nat × Int) (fun v => ⟨[(2, wP 10100), (4, wP 10101), (14, lP a1), (15, iP (a1.length : Int)), (16, iP v.2)], [(10100, eP 39 1 [[lP a0.Packages]]), (10101, eP 26 2 [[iP 0, iP 0]])], 2⟩) (fun v => solver_Chosen_l1 n a0 a1 v.1 v.2 = some r) (fun v => v.1) (n, 0) (.nA) h ?_
  intro ⟨m1, x1⟩ h
  try dsimp only at h ⊢
  cases m1 with
  | zero => rw [solver_Chosen_l1] at h; cases h
  | succ m1 =>
   rw [solver_Chosen_l1] at h
   refine au h [1,1,5,1] ?_; intro h
   refine bs h (fun c2 h => ?_) fun c2 h => ?_
   ·refine au h [2,1,1,1,1,1,1,5,5,1,1] ?_; intro e2 k3 h
    refine Ev.seqJ (γ := Bool) (fun v => ⟨[(2, wP 10200), (4, wP 10201), (14, lP a1), (15, iP (a1.length : Int)), (16, iP x1), (32, .bool v)], [(10200, eP 39 1 [[lP a0.Packages]]), (10201, eP 26 2 [[iP 0, iP 0]])], 2⟩) (fun v => solver_Chosen_j1 n x1 (solver_Chosen_l1 n a0 a1 m1) v = some r) ?_ ?_
    ·refine au h [1,1,5,1] ?_; intro h
     refine bs h (fun c6 h => ?_) fun c6 h => ?_
     ·refine aw h [3,3,3,3,3,3,3,3,2] ?_; intro h
      exact lf true h
     ·refine aw h [2,1,2,8,2,8,2,1,2,5,2,5,2,5,2,5,3] ?_; intro e5 k7 h
      exact lf (decide ((e5.length : Int) ≤ e2)) h
    ·intro x3 h
     try dsimp only at h ⊢
     unfold solver_Chosen_j1 at h
     refine bs h (fun c4 h => ?_) fun c4 h => ?_
     ·refine au h [2,1,1,5,8,1] ?_; intro h
      cases h
      exact ⟨_, rfl, .refl _⟩
     ·refine au h [3,1,1,7,1] ?_; intro x4 k5 h
      exact lb (m1, x4) h
   ·refine au h [3,1,1,1,5,8,1] ?_; intro h
    cases h
    exact ⟨_, rfl, .refl _⟩
theorem slices_Clone_string_own (n : Nat) (a0 : List (List UInt8)) (r : List (List UInt8)) (h : slices_Clone_string n a0 = some r) : PMut Tryz.prog 75 [.list 1 (List.map cS a0)] [] (.own 70000 0) [(70000, ⟨0, 9, 1, List.map cS r, true, false, false⟩)] := by
 unfold slices_Clone_string at h
 refine specMut_of Tryz.c_slices_Clone_string (by simp) (by simp) ?_
 unfold Tryz.l_slices_Clone_string
 cases a0 with
 | nil =>
  refine Ev.nilSplit 0 1 rfl (by decide) ?_ ?_
  ·refine Ev.seq ?_
   refine W.reg hm ?_
   refine W.mv rfl (W.nil ?_)
   refine Ev.seq (Ev.seq ?_)
   refine W.reg hm ?_
   refine W.mv rfl (W.isnilN rfl ?_)
   refine W.nil ?_
   refine Ev.condT rfl rfl ?_
   refine Ev.seq ?_
   refine W.reg hm ?_
   refine W.mv rfl (W.nil ?_)
   obtain ⟨w9, k9, h⟩ := obind h
   injection h with h; subst h
   have e9 := (gapp_some k9).2
   simp only [List.nil_append] at e9
   subst e9
   refine Ev.weak ?_ (Wk.ownNil 2 69999 9 1 rfl rfl)
   refine Ev.ret ?_
   exact ⟨_, _, Wk.nrmTo [2] [(69999, 70000)] rfl rfl, rfl, rfl, rfl, .refl _, fun nm h => by simp [PW.look] at h⟩
  ·refine Ev.seq ?_
   refine W.reg hm ?_
   refine W.mv rfl (W.nil ?_)
   refine Ev.seq (Ev.seq ?_)
   refine W.reg hm ?_
   refine W.mv rfl (W.isnilZ rfl ?_)
   refine W.nil ?_
   refine Ev.condF rfl rfl ?_
   refine Ev.skip ?_
   refine Ev.seq ?_
   refine Ev.weak ?_ (Wk.le (t := 0) rfl (.nz 1))
   refine W.reg hm ?_
   refine W.mkSlice (dt := true) (es := []) rfl rfl rfl rfl rfl rfl ?_
   refine W.mv rfl ?_
   obtain ⟨w1, k1, h⟩ := obind h
   refine W.appR true (l := ([] : List (List UInt8))) (c := cS) (ys := ([] : List (List UInt8))) rfl rfl rfl rfl rfl rfl rfl rfl k1 rfl (by simp) ?_
   refine W.mv rfl (W.nil ?_)
   refine Ev.ret ?_
   injection h with h; subst h
   exact ⟨_, _, Wk.nrmTo [2] [(7, 70000)] rfl rfl, rfl, rfl, rfl, .refl _, fun nm h => by simp [PW.look] at h⟩
 | cons x9 xs9 =>
  refine Ev.seq ?_
  refine W.reg hm ?_
  refine W.mv rfl (W.nil ?_)
  refine Ev.seq (Ev.seq ?_)
  refine W.reg hm ?_
  refine W.mv rfl (W.isnilC rfl ?_)
  refine W.nil ?_
  refine Ev.condF rfl rfl ?_
  refine Ev.skip ?_
  refine Ev.seq ?_
  refine W.reg hm ?_
  refine W.mkSlice (dt := true) (es := []) rfl rfl rfl rfl rfl rfl ?_
  refine W.mv rfl ?_
  obtain ⟨w1, k1, h⟩ := obind h
  refine W.appR true (l := ([] : List (List UInt8))) (c := cS) (ys := (x9 :: xs9)) rfl rfl rfl rfl rfl rfl rfl rfl k1 rfl (by simp) ?_
  refine W.mv rfl (W.nil ?_)
  refine Ev.ret ?_
  injection h with h; subst h
  exact ⟨_, _, Wk.nrmTo [2] [(7, 70000)] rfl rfl, rfl, rfl, rfl, .refl _, fun nm h => by simp [PW.look] at h⟩
theorem version_Copy_spec (n : Nat) (a0 : SMajorMinorPatchPre) (r : SMajorMinorPatchPre) (h : version_Copy n a0 = some r) : PSpec Tryz.prog 52 [.agg (SMajorMinorPatchPre.cells a0)] (.agg (SMajorMinorPatchPre.cells r)) := by
 unfold version_Copy at h
 refine spec_of Tryz.c_version_Copy (by simp) ?_
 unfold Tryz.l_version_Copy
 refine au h [1,1,5,5,1,1,8,8] ?_; intro h
 obtain ⟨r1, k1, h⟩ := obind h
 refine W.callO (slices_Clone_string_own n a0.Pre r1 k1) rfl (Les.refl _) rfl rfl rfl ?_
 refine ax 8 h [8,8,1,1,8,8] ?_; intro h
 refine Ev.weak ?_ (Wk.frz 5 2 rfl rfl)
 refine Ev.ret ?_
 cases h
 exact ⟨_, rfl, .refl _⟩
theorem lockfile_Make_spec (n : Nat) (a0 : SPackages) (a1 : List Int) (r : ((List SPackageVersionDigest) × SCodeIndex)) (h : lockfile_Make n a0 a1 = some r) : PSpec Tryz.prog 22 [.agg (SPackages.cells a0), lP a1] (.tup [lP r.1, .agg (SCodeIndex.cells r.2)]) := by
 unfold lockfile_Make at h
 refine spec_of Tryz.c_lockfile_Make (by simp) ?_
 unfold Tryz.l_lockfile_Make
 refine au h [1,1,5,1,5,1,1,1,8] ?_; intro h
 refine cb h (solver_Validate_spec n _) fun r1 k1 h => ?_
 refine ax 55 h [5,8,1,1,8,5,5] ?_; intro h
 refine bs h (fun c2 h => ?_) fun c2 h => ?_
 ·refine au h [2,1,1,8,1,8,1] ?_; intro h
  cases h
  exact ⟨_, rfl, Le.tups (.cons (.nils 6) (.cons (.refl _) (.nil)))⟩
 ·refine au h [3,1,1,1,1,8,1] ?_; intro h
  refine cb h (solver_Chosen_spec n _ _) fun r2 k3 h => ?_
  refine ax 55 h [5,8,1,1,8,5,5] ?_; intro h
  refine bs h (fun c4 h => ?_) fun c4 h => ?_
  ·refine au h [2,1,1,8,1,8,1] ?_; intro h
   cases h
   exact ⟨_, rfl, Le.tups (.cons (.nils 6) (.cons (.refl _) (.nil)))⟩
  ·refine au h [3,1,1,1,1,1,1,1,1,5,1,1] ?_; intro h
   refine Ev.loopW (β := Nat × (List SPackageVersionDigest) × Int) (fun v => ⟨[(2, wP 10100), (5, wP 10101), (8, .own 10102 0), (25, lP a1), (26, iP (a1.length : Int)), (27, iP v.2.2)], [(10100, eP 39 1 [[lP a0.Packages]]), (10101, eP 26 2 [[iP 0, iP 0]]), (10102, eP 62 6 (mP v.2.1))], 2⟩) (fun v => lockfile_Make_l1 n a0 a1 v.1 v.2.1 v.2.2 = some r) (fun v => v.1) (n, ([] : List SPackageVersionDigest), 0) ((Wk.ownNil 8 30102 62 6 rfl rfl true).trans (.nA)) h ?_
   intro ⟨m1, w3, x4⟩ h
   try dsimp only at h ⊢
   cases m1 with
   | zero => rw [lockfile_Make_l1] at h; cases h
   | succ m1 =>
    rw [lockfile_Make_l1] at h
    refine au h [1,1,5,1] ?_; intro h
    refine bs h (fun c5 h => ?_) fun c5 h => ?_
    ·refine au h [2,1] ?_; intro h
     refine Ev.seqJ (γ := List SPackageVersionDigest) (fun v => ⟨[(2, wP 10200), (5, wP 10201), (8, .own 10202 0), (25, lP a1), (26, iP (a1.length : Int)), (27, iP x4)], [(10200, eP 39 1 [[lP a0.Packages]]), (10201, eP 26 2 [[iP 0, iP 0]]), (10202, eP 62 6 (mP v))], 2⟩) (fun v => lockfile_Make_j1 n x4 (lockfile_Make_l1 n a0 a1 m1) v = some r) ?_ ?_
     ·refine au h [1,1,1,1,5,5,1,1,1,1,1,5] ?_; intro e7 k7 h
      refine bs h (fun c8 h => ?_) fun c8 h => ?_
      ·refine au h [2,1,1,8,8,1,5,5,1,5,5,5] ?_; intro e8 k9 e9 k10 h
       refine cb h (version_Copy_spec n _) fun r10 k11 h => ?_
       refine ax 55 h [5,8,1,1,1,8,8] ?_; intro h
       refine cb h (lockfile_seal_spec n _) fun r11 k12 h => ?_
       refine aw h [5,5,7,1] ?_; intro w12 k13 h
       exact lf w12 h
      ·refine au h [3,1] ?_; intro h
       exact lf w3 h
     ·intro w5 h
      try dsimp only at h ⊢
      unfold lockfile_Make_j1 at h
      refine au h [1,7,1] ?_; intro x6 k6 h
      exact lb (m1, w5, x6) h
    ·refine au h [3,1,1,1,1,5,1,8,1] ?_; intro h
     cases h
     exact ⟨_, rfl, .refl _⟩
theorem ref5_SameVersion_spec (n : Nat) (a0 : SMajorMinorPatchPre) (a1 : SMajorMinorPatchPre) (r : Bool) (h : ref5_SameVersion n a0 a1 = some r) : PSpec Tryz.prog 53 [.agg (SMajorMinorPatchPre.cells a0), .agg (SMajorMinorPatchPre.cells a1)] (.bool r) := by
 unfold ref5_SameVersion at h
 refine spec_of Tryz.c_ref5_SameVersion (by simp) ?_
 unfold Tryz.l_ref5_SameVersion
 refine au h [1,1,5,5,1,1] ?_; intro h
 refine Ev.seqJ (γ := Bool) (fun v => ⟨[(2, wP 10100), (3, wP 10101), (33, .bool v)], [(10100, eP 60 4 [[iP a0.Major, iP a0.Minor, iP a0.Patch, lP a0.Pre]]), (10101, eP 60 4 [[iP a1.Major, iP a1.Minor, iP a1.Patch, lP a1.Pre]])], 2⟩) (fun v => ref5_SameVersion_j1 n a0 a1 v = some r) ?_ ?_
 ·refine au h [1,8,8,8,8,5,1] ?_; intro h
  refine bs h (fun c7 h => ?_) fun c7 h => ?_
  ·refine aw h [3,3,3,3,3,2,1,3,3,3,3,3,2,1,3,3,3,3,3,3,3,2] ?_; intro h
   exact lf true h
  ·refine aw h [2,8,2,8,2,8,2,8,2,5,3,1] ?_; intro h
   refine bs h (fun c8 h => ?_) fun c8 h => ?_
   ·refine aw h [3,3,3,3,3,2,1,3,3,3,3,3,3,3,2] ?_; intro h
    exact lf true h
   ·refine aw h [2,8,2,8,2,8,2,8,2,5,3,1] ?_; intro h
    refine bs h (fun c9 h => ?_) fun c9 h => ?_
    ·refine aw h [3,3,3,3,3,3,3,2] ?_; intro h
     exact lf true h
    ·refine aw h [2,8,2,8,2,5,2,8,2,8,2,5,2,5,3] ?_; intro h
     exact lf (decide ((a0.Pre.length : Int) ≠ (a1.Pre.length : Int))) h
 ·intro x1 h
  try dsimp only at h ⊢
  unfold ref5_SameVersion_j1 at h
  refine bs h (fun c1 h => ?_) fun c1 h => ?_
  ·refine au h [2,1,1,1,1] ?_; intro h
   cases h
   exact ⟨_, rfl, .refl _⟩
  ·refine au h [3,1,1,1,1,1,1] ?_; intro h
   refine Ev.loopW (β := Nat × Int) (fun v => ⟨[(2, wP 10200), (3, wP 10201), (5, iP v.2)], [(10200, eP 60 4 [[iP a0.Major, iP a0.Minor, iP a0.Patch, lP a0.Pre]]), (10201, eP 60 4 [[iP a1.Major, iP a1.Minor, iP a1.Patch, lP a1.Pre]])], 2⟩) (fun v => ref5_SameVersion_l1 n a0 a1 v.1 v.2 = some r) (fun v => v.1) (n, 0) (.nA) h ?_
   intro ⟨m1, x2⟩ h
   try dsimp only at h ⊢
   cases m1 with
   | zero => rw [ref5_SameVersion_l1] at h; cases h
   | succ m1 =>
    rw [ref5_SameVersion_l1] at h
    refine au h [1,1,1,1,8,8,5,5] ?_; intro h
    refine bs h (fun c2 h => ?_) fun c2 h => ?_
    ·refine au h [2,1,1,1,1,1,8,8,1,5,5,8,8,1,5,5,6] ?_; intro e3 k3 e4 k4 h
     refine bs h (fun c5 h => ?_) fun c5 h => ?_
     ·refine au h [2,1,1,1,1] ?_; intro h
      cases h
      exact ⟨_, rfl, .refl _⟩
     ·refine au h [3,1,1,1,7,1] ?_; intro x5 k6 h
      exact lb (m1, x5) h
    ·refine au h [3,1,1,1,1,1] ?_; intro h
     cases h
     exact ⟨_, rfl, .refl _⟩
theorem ref6_SameLock_spec (n : Nat) (a0 : List SPackageVersionDigest) (a1 : List SPackageVersionDigest) (r : Bool) (h : ref6_SameLock n a0 a1 = some r) : PSpec Tryz.prog 23 [lP a0, lP a1] (.bool r) := by
 unfold ref6_SameLock at h
 refine spec_of Tryz.c_ref6_SameLock (by simp) ?_
 unfold Tryz.l_ref6_SameLock
 refine au h [1,1,1,1,1,1,1,5,1,5,5] ?_; intro h
 refine bs h (fun c1 h => ?_) fun c1 h => ?_
 ·refine au h [2,1,1,1,1] ?_; intro h
  cases h
  exact ⟨_, rfl, .refl _⟩
 ·refine au h [3,1,1,1,1,1,1] ?_; intro h
  refine Ev.loopW (β := Nat × Int) (fun v => ⟨[(0, lP a0), (1, lP a1), (5, iP v.2)], [], 2⟩) (fun v => ref6_SameLock_l1 n a0 a1 v.1 v.2 = some r) (fun v => v.1) (n, 0) (.nA) h ?_
  intro ⟨m1, x1⟩ h
  try dsimp only at h ⊢
  cases m1 with
  | zero => rw [ref6_SameLock_l1] at h; cases h
  | succ m1 =>
   rw [ref6_SameLock_l1] at h
   refine au h [1,1,1,1,1,5,5] ?_; intro h
   refine bs h (fun c2 h => ?_) fun c2 h => ?_
   ·refine au h [2,1,1,1] ?_; intro h
    refine Ev.seqJ (γ := Bool) (fun v => ⟨[(0, lP a0), (1, lP a1), (5, iP x1), (54, .bool v)], [], 2⟩) (fun v => ref6_SameLock_j1 n x1 (ref6_SameLock_l1 n a0 a1 m1) v = some r) ?_ ?_
    ·refine au h [1,1,1,5,5,5,1,1,5,5,5,5,1] ?_; intro e4 k5 e5 k6 h
     refine bs h (fun c7 h => ?_) fun c7 h => ?_
     ·refine aw h [3,3,3,3,3,3,3,3,3,3,3,2,1,3,3,3,3,3,3,3,3,3,3,3,3,2] ?_; intro h
      exact lf true h
     ·refine aw h [2,1,2,1,2,6,2,5,2,5,2,1,2,1,2,6,2,5,2,5,2,5,3,1] ?_; intro h
      refine bs h (fun c8 h => ?_) fun c8 h => ?_
      ·refine aw h [3,3,3,3,3,3,3,3,3,3,3,3,2] ?_; intro h
       exact lf true h
      ·refine aw h [2,1,2,1,2,6,2,5,2,5,2,1,2,1,2,6,2,5,2,5,2] ?_; intro h
       refine cb h (ref5_SameVersion_spec n _ _) fun r6 k9 h => ?_
       refine aw h [2,5,3] ?_; intro h
       exact lf (!r6) h
    ·intro x2 h
     try dsimp only at h ⊢
     unfold ref6_SameLock_j1 at h
     refine bs h (fun c3 h => ?_) fun c3 h => ?_
     ·refine au h [2,1,1,1,1] ?_; intro h
      cases h
      exact ⟨_, rfl, .refl _⟩
     ·refine au h [3,1,1,1,7,1] ?_; intro x3 k4 h
      exact lb (m1, x3) h
   ·refine au h [3,1,1,1,1,1] ?_; intro h
    cases h
    exact ⟨_, rfl, .refl _⟩
theorem lockfile_Write_spec (n : Nat) (a0 : List SPackageVersionDigest) (r : ((List (List UInt8)) × SCodeIndex)) (h : lockfile_Write n a0 = some r) : PSpec Tryz.prog 25 [lP a0] (.tup [lP r.1, .agg (SCodeIndex.cells r.2)]) := by
 unfold lockfile_Write at h
 refine spec_of Tryz.c_lockfile_Write (by simp) ?_
 unfold Tryz.l_lockfile_Write
 refine au h [1,1,1,5,1,1,1,1] ?_; intro h
 refine cb h (lockfile_Validate_spec n _) fun r1 k1 h => ?_
 refine ax 45 h [5,8,1,1,8,5,5] ?_; intro h
 refine bs h (fun c2 h => ?_) fun c2 h => ?_
 ·refine au h [2,1,1,8,1,8,1] ?_; intro h
  cases h
  exact ⟨_, rfl, Le.tups (.cons (.nils 1) (.cons (.refl _) (.nil)))⟩
 ·refine au h [3,1,1,1,1,1,1,1,1,5,1,1] ?_; intro h
  refine Ev.loopW (β := Nat × (List (List UInt8)) × Int) (fun v => ⟨[(3, wP 10100), (5, .own 10101 0), (16, lP a0), (17, iP (a0.length : Int)), (18, iP v.2.2)], [(10100, eP 26 2 [[iP 0, iP 0]]), (10101, eP 9 1 (mP v.2.1))], 2⟩) (fun v => lockfile_Write_l1 n a0 v.1 v.2.1 v.2.2 = some r) (fun v => v.1) (n, ([] : List (List UInt8)), 0) ((Wk.ownNil 5 30101 9 1 rfl rfl true).trans (.nA)) h ?_
  intro ⟨m1, w2, x3⟩ h
  try dsimp only at h ⊢
  cases m1 with
  | zero => rw [lockfile_Write_l1] at h; cases h
  | succ m1 =>
   rw [lockfile_Write_l1] at h
   refine au h [1,1,5,1] ?_; intro h
   refine bs h (fun c3 h => ?_) fun c3 h => ?_
   ·refine au h [2,1,1,1,1,1,5,5,5,8,1,1,8,8] ?_; intro e4 k4 h
    refine cb h (version_Format_spec n _) fun r5 k5 h => ?_
    refine ax 45 h [1,5,5,5,1,8,1,1,8,8] ?_; intro h
    refine cb h (strconv_Itoa_spec n _) fun r6 k6 h => ?_
    refine aw h [8,1,8,8,8,8] ?_; intro s7 k7 s8 k8 s9 k9 h
    refine cb h (strconv_Itoa_spec n _) fun r10 k10 h => ?_
    refine ax 45 h [8,5,7,1,1,7,1] ?_; intro s11 k11 w12 k12 x13 k13 h
    exact lb (m1, w12, x13) h
   ·refine au h [3,1,1,1,1,5,1,8,1] ?_; intro h
    cases h
    exact ⟨_, rfl, .refl _⟩
end Go.Proofs.YtpcmhhbocifbcaaGreatDoor
namespace Go.Proofs.YtpcmhhbocifbcaaGreatDoor
open Go.PW Go
theorem ref6_Strings_spec (n : Nat) (a0 : List (List UInt8)) (a1 : List (List UInt8)) (r : Bool) (h : ref6_Strings n a0 a1 = some r) : PSpec Tryz.prog 26 [lP a0, lP a1] (.bool r) := by
 unfold ref6_Strings at h
 refine spec_of Tryz.c_ref6_Strings (by simp) ?_
 unfold Tryz.l_ref6_Strings
 refine au h [1,1,1,1,1,1,1,5,1,5,5] ?_; intro h
 refine bs h (fun c1 h => ?_) fun c1 h => ?_
 ·refine au h [2,1,1,1,1] ?_; intro h
  cases h
  exact ⟨_, rfl, .refl _⟩
 ·refine au h [3,1,1,1,1,1,1] ?_; intro h
  refine Ev.loopW (β := Nat × Int) (fun v => ⟨[(0, lP a0), (1, lP a1), (5, iP v.2)], [], 2⟩) (fun v => ref6_Strings_l1 n a0 a1 v.1 v.2 = some r) (fun v => v.1) (n, 0) (.nA) h ?_
  intro ⟨m1, x1⟩ h
  try dsimp only at h ⊢
  cases m1 with
  | zero => rw [ref6_Strings_l1] at h; cases h
  | succ m1 =>
   rw [ref6_Strings_l1] at h
   refine au h [1,1,1,1,1,5,5] ?_; intro h
   refine bs h (fun c2 h => ?_) fun c2 h => ?_
   ·refine au h [2,1,1,1,1,1,1,1,5,5,1,1,5,5,6] ?_; intro e2 k3 e3 k4 h
    refine bs h (fun c5 h => ?_) fun c5 h => ?_
    ·refine au h [2,1,1,1,1] ?_; intro h
     cases h
     exact ⟨_, rfl, .refl _⟩
    ·refine au h [3,1,1,1,7,1] ?_; intro x4 k6 h
     exact lb (m1, x4) h
   ·refine au h [3,1,1,1,1,1] ?_; intro h
    cases h
    exact ⟨_, rfl, .refl _⟩
theorem strings_Split_spec (n : Nat) (a0 : List UInt8) (a1 : List UInt8) (r : (List (List UInt8))) (h : strings_Split n a0 a1 = some r) : PSpec Tryz.prog 79 [.str a0, .str a1] (.list 1 (List.map cS r)) := by
 unfold strings_Split at h
 exact k_Split  h
theorem strings_Cut_spec (n : Nat) (a0 : List UInt8) (a1 : List UInt8) (r : ((List UInt8) × (List UInt8) × Bool)) (h : strings_Cut n a0 a1 = some r) : PSpec Tryz.prog 98 [.str a0, .str a1] (.tup [.str r.1, .str r.2.1, .bool r.2.2]) := by
 unfold strings_Cut at h
 exact k_Cut  h
theorem strconv_Atoi_spec (n : Nat) (a0 : List UInt8) (r : (Int × Bool)) (h : strconv_Atoi n a0 = some r) : PSpec Tryz.prog 99 [.str a0] (.tup [.int .i64 r.1, .ifc r.2]) := by
 unfold strconv_Atoi at h
 exact k_Atoi  h
set_option maxHeartbeats 4000000 in
theorem version_Parse_spec (n : Nat) (a0 : List UInt8) (r : (SMajorMinorPatchPre × SCodeIndex)) (h : version_Parse n a0 = some r) : PSpec Tryz.prog 80 [.str a0] (.tup [.agg (SMajorMinorPatchPre.cells r.1), .agg (SCodeIndex.cells r.2)]) := by
 unfold version_Parse at h
 refine spec_of Tryz.c_version_Parse (by simp) ?_
 unfold Tryz.l_version_Parse
 refine Ev.seq ?_
 refine W.reg hm ?_
 refine W.alloc (dt := true) rfl rfl rfl ?_
 refine W.alloc (dt := true) rfl rfl rfl ?_
 refine W.nil ?_
 refine Ev.seq (Ev.seq ?_)
 refine W.reg hm ?_
 refine W.mv rfl (W.slen rfl ?_)
 refine W.gtr rfl rfl (W.nil ?_)
 refine Ev.cond rfl (fun c1 => ?_) (fun c1 => ?_)
 ·replace h := iteT h c1
  refine Ev.seq ?_
  refine W.reg hm ?_
  refine W.build (cs := [.int .i64 0, .int .i64 0, .int .i64 0, .nils]) rfl rfl rfl ?_
  refine W.build (cs := [.int .i64 2, .int .i64 (-1)]) rfl rfl rfl ?_
  refine W.store (es' := [[.int .i64 0, .int .i64 0, .int .i64 0, .nils]]) (dt := true) rfl rfl rfl rfl rfl (Nat.le_of_ble_eq_true rfl) rfl rfl rfl rfl ?_
  refine W.store (es' := [[.int .i64 2, .int .i64 (-1)]]) (dt := true) rfl rfl rfl rfl rfl (Nat.le_of_ble_eq_true rfl) rfl rfl rfl rfl ?_
  refine W.nil ?_
  refine Ev.ret ?_
  injection h with h; subst h
  exact ⟨_, rfl, Le.tups (.cons (Le.aggs (.cons (.refl _) (.cons (.refl _) (.cons (.refl _) (.cons (.nils 1) (.nil))))) rfl) (.cons (.refl _) (.nil)))⟩
 ·replace h := iteF h c1
  refine Ev.skip ?_
  refine Ev.seq ?_
  refine W.reg hm ?_
  refine W.build (cs := [.int .i64 1, .int .i64 (-1)]) rfl rfl rfl ?_
  refine W.alloc (dt := true) rfl rfl rfl ?_
  refine W.store (es' := [[.int .i64 1, .int .i64 (-1)]]) (dt := true) rfl rfl rfl rfl rfl (Nat.le_of_ble_eq_true rfl) rfl rfl rfl rfl ?_
  refine W.nil ?_
  refine Ev.seq ?_
  refine W.reg hm ?_
  refine W.mv rfl ?_
  obtain ⟨r1, k2, h⟩ := obind h
  refine W.call (strings_Cut_spec n a0 ([45] : List UInt8) r1 k2) rfl rfl (Les.refl _) rfl (.inl rfl) rfl ?_
  refine W.mv rfl (W.extract rfl rfl ?_)
  refine W.extract rfl rfl (W.extract rfl rfl ?_)
  refine W.mv rfl (W.mv rfl ?_)
  refine W.mv rfl (W.nil ?_)
  refine Ev.seq ?_
  refine W.reg hm ?_
  refine W.alloc (dt := true) rfl rfl rfl ?_
  refine W.nil ?_
  refine Ev.seqJ (γ := List (List UInt8)) (fun v => ⟨[(0, .str a0), (2, .pown 10100 0 0 0), (3, .pown 10101 0 0 0), (4, .pown 10102 0 0 0), (5, .str r1.1), (8, .pown 10103 0 0 0)], [(10100, ⟨0, 60, 4, [[.int .i64 0, .int .i64 0, .int .i64 0, .nils]], true, false, false⟩), (10101, ⟨0, 26, 2, [[.int .i64 0, .int .i64 0]], true, false, false⟩), (10102, ⟨0, 26, 2, [[.int .i64 1, .int .i64 (-1)]], true, false, false⟩), (10103, ⟨0, 60, 4, [[.int .i64 0, .int .i64 0, .int .i64 0, .list 1 (List.map cS v)]], true, false, false⟩)], 2⟩) (fun v => version_Parse_j1 n a0 r1 v = some r) ?_ ?_
  ·refine Ev.seq ?_
   refine W.reg hm ?_
   refine W.mv rfl (W.nil ?_)
   refine Ev.cond rfl (fun c14 => ?_) (fun c14 => ?_)
   ·replace h := iteT h c14
    refine W.reg hm ?_
    refine W.mv rfl ?_
    obtain ⟨r12, k15, h⟩ := obind h
    refine W.call (strings_Split_spec n r1.2.1 ([46] : List UInt8) r12 k15) rfl rfl (Les.refl _) rfl (.inl rfl) rfl ?_
    refine W.fieldAddrO rfl rfl ?_
    refine W.store (es' := [[.int .i64 0, .int .i64 0, .int .i64 0, .list 1 (List.map cS r12)]]) (dt := true) rfl rfl rfl rfl rfl (Nat.le_of_ble_eq_true rfl) rfl rfl rfl rfl ?_
    refine W.nil ?_
    exact ⟨r12, h, Wk.nrmTo [0, 2, 3, 4, 5, 8] [(2, 10100), (3, 10101), (4, 10102), (8, 10103)] rfl rfl⟩
   ·replace h := iteF h c14
    refine Ev.skip ?_
    exact ⟨([] : List (List UInt8)), h, (Wk.rowLe 8 2 (es' := [[.int .i64 0, .int .i64 0, .int .i64 0, .list 1 (List.map cS ([] : List (List UInt8)))]]) rfl rfl (.cons (.cons (.refl _) (.cons (.refl _) (.cons (.refl _) (.cons (.nils 1) (.nil))))) rfl .nil) rfl).trans (Wk.nrmTo [0, 2, 3, 4, 5, 8] [(2, 10100), (3, 10101), (4, 10102), (8, 10103)] rfl rfl)⟩
  ·intro b2 h
   try dsimp only at h ⊢
   unfold version_Parse_j1 at h
   refine Ev.seq ?_
   refine W.reg hm ?_
   refine W.mv rfl ?_
   obtain ⟨r3, k3, h⟩ := obind h
   refine W.call (strings_Split_spec n r1.1 ([46] : List UInt8) r3 k3) rfl rfl (Les.refl _) rfl (.inl rfl) rfl ?_
   refine W.mv rfl (W.nil ?_)
   refine Ev.seq (Ev.seq ?_)
   refine W.reg hm ?_
   refine W.mv rfl ?_
   refine W.lenL (c := cS) rfl ?_
   refine W.neq rfl rfl (W.nil ?_)
   refine Ev.cond rfl (fun c4 => ?_) (fun c4 => ?_)
   ·replace h := iteT h c4
    refine Ev.seq ?_
    refine W.regD hm ?_
    refine W.build (cs := [.int .i64 0, .int .i64 0, .int .i64 0, .nils]) rfl rfl rfl ?_
    refine W.loadO (p := .agg [.int .i64 1, .int .i64 (-1)]) rfl rfl rfl rfl ?_
    refine W.store (es' := [[.int .i64 0, .int .i64 0, .int .i64 0, .nils]]) (dt := true) rfl rfl rfl rfl rfl (Nat.le_of_ble_eq_true rfl) rfl rfl rfl rfl ?_
    refine W.store (es' := [[.int .i64 1, .int .i64 (-1)]]) (dt := true) rfl rfl rfl rfl rfl (Nat.le_of_ble_eq_true rfl) rfl rfl rfl rfl ?_
    refine W.nil ⟨rfl, ?_⟩
    refine Ev.ret ?_
    injection h with h; subst h
    exact ⟨_, rfl, Le.tups (.cons (Le.aggs (.cons (.refl _) (.cons (.refl _) (.cons (.refl _) (.cons (.nils 1) (.nil))))) rfl) (.cons (.refl _) (.nil)))⟩
   ·replace h := iteF h c4
    refine Ev.skip ?_
    refine Ev.seq (Ev.seq ?_)
    refine W.reg hm ?_
    refine W.fieldAddrO rfl rfl (W.fieldAddrO rfl rfl ?_)
    refine W.fieldAddrO rfl rfl ?_
    refine W.mkSlice (dt := false) (es := [[.pown 10103 0 0 0], [.pown 10103 0 0 1], [.pown 10103 0 0 2]]) rfl rfl rfl rfl rfl rfl ?_
    refine W.len (n := 3) rfl rfl rfl ?_
    refine W.mv rfl (W.nil ?_)
    refine Ev.block ?_
    refine Ev.unroll 4 ?_
    refine EvR.go ?_
    refine Ev.seq ?_
    refine W.reg hm ?_
    refine W.lss rfl rfl (W.nil ?_)
    refine Ev.seq ?_
    refine Ev.condT rfl rfl ?_
    refine Ev.skip ?_
    refine Ev.seq ?_
    refine Ev.block ?_
    refine Ev.seq ?_
    refine W.reg hm ?_
    refine W.mv rfl ?_
    refine W.idxO (i := 0) rfl rfl rfl rfl (by decide) rfl (by decide) ?_
    refine W.loadO rfl rfl rfl rfl (W.mv rfl ?_)
    refine W.mv rfl (W.nil ?_)
    refine W.reg hm ?_
    refine W.mv rfl (W.mv rfl ?_)
    refine W.mv rfl ?_
    obtain ⟨e4, k5, h⟩ := obind h
    refine W.idxL (c := cS) rfl rfl k5 ?_
    refine W.load rfl rfl ?_
    obtain ⟨r5, k6, h⟩ := obind h
    refine W.call (strconv_Atoi_spec n e4 r5 k6) rfl rfl (Les.refl _) rfl (.inl rfl) rfl ?_
    refine W.mv rfl (W.extract rfl rfl ?_)
    refine W.extract rfl rfl (W.nilCheckO rfl rfl ?_)
    refine W.store (es' := [[.int .i64 r5.1, .int .i64 0, .int .i64 0, .list 1 (List.map cS b2)]]) (dt := true) rfl rfl rfl rfl rfl (Nat.le_of_ble_eq_true rfl) rfl rfl rfl rfl ?_
    refine W.nil ?_
    refine W.reg hm ?_
    refine W.addG rfl rfl (show gadd 0 1 = some 1 from rfl) ?_
    refine W.mv rfl (W.nil ?_)
    refine EvR.go ?_
    refine Ev.seq ?_
    refine W.reg hm ?_
    refine W.lss rfl rfl (W.nil ?_)
    refine Ev.seq ?_
    refine Ev.condT rfl rfl ?_
    refine Ev.skip ?_
    refine Ev.seq ?_
    refine Ev.block ?_
    refine Ev.seq ?_
    refine W.reg hm ?_
    refine W.mv rfl ?_
    refine W.idxO (i := 1) rfl rfl rfl rfl (by decide) rfl (by decide) ?_
    refine W.loadO rfl rfl rfl rfl (W.mv rfl ?_)
    refine W.mv rfl (W.nil ?_)
    refine W.reg hm ?_
    refine W.mv rfl (W.mv rfl ?_)
    refine W.mv rfl ?_
    obtain ⟨e6, k7, h⟩ := obind h
    refine W.idxL (c := cS) rfl rfl k7 ?_
    refine W.load rfl rfl ?_
    obtain ⟨r7, k8, h⟩ := obind h
    refine W.call (strconv_Atoi_spec n e6 r7 k8) rfl rfl (Les.refl _) rfl (.inl rfl) rfl ?_
    refine W.mv rfl (W.extract rfl rfl ?_)
    refine W.extract rfl rfl (W.nilCheckO rfl rfl ?_)
    refine W.store (es' := [[.int .i64 r5.1, .int .i64 r7.1, .int .i64 0, .list 1 (List.map cS b2)]]) (dt := true) rfl rfl rfl rfl rfl (Nat.le_of_ble_eq_true rfl) rfl rfl rfl rfl ?_
    refine W.nil ?_
    refine W.reg hm ?_
    refine W.addG rfl rfl (show gadd 1 1 = some 2 from rfl) ?_
    refine W.mv rfl (W.nil ?_)
    refine EvR.go ?_
    refine Ev.seq ?_
    refine W.reg hm ?_
    refine W.lss rfl rfl (W.nil ?_)
    refine Ev.seq ?_
    refine Ev.condT rfl rfl ?_
    refine Ev.skip ?_
    refine Ev.seq ?_
    refine Ev.block ?_
    refine Ev.seq ?_
    refine W.reg hm ?_
    refine W.mv rfl ?_
    refine W.idxO (i := 2) rfl rfl rfl rfl (by decide) rfl (by decide) ?_
    refine W.loadO rfl rfl rfl rfl (W.mv rfl ?_)
    refine W.mv rfl (W.nil ?_)
    refine W.reg hm ?_
    refine W.mv rfl (W.mv rfl ?_)
    refine W.mv rfl ?_
    obtain ⟨e8, k9, h⟩ := obind h
    refine W.idxL (c := cS) rfl rfl k9 ?_
    refine W.load rfl rfl ?_
    obtain ⟨r9, k10, h⟩ := obind h
    refine W.call (strconv_Atoi_spec n e8 r9 k10) rfl rfl (Les.refl _) rfl (.inl rfl) rfl ?_
    refine W.mv rfl (W.extract rfl rfl ?_)
    refine W.extract rfl rfl (W.nilCheckO rfl rfl ?_)
    refine W.store (es' := [[.int .i64 r5.1, .int .i64 r7.1, .int .i64 r9.1, .list 1 (List.map cS b2)]]) (dt := true) rfl rfl rfl rfl rfl (Nat.le_of_ble_eq_true rfl) rfl rfl rfl rfl ?_
    refine W.nil ?_
    refine W.reg hm ?_
    refine W.addG rfl rfl (show gadd 2 1 = some 3 from rfl) ?_
    refine W.mv rfl (W.nil ?_)
    refine EvR.go ?_
    refine Ev.seq ?_
    refine W.reg hm ?_
    refine W.lss rfl rfl (W.nil ?_)
    refine Ev.seq ?_
    refine Ev.condF rfl rfl ?_
    refine Ev.exit ?_
    refine Ev.seq (Ev.seq ?_)
    refine W.reg hm ?_
    refine W.loadO (p := .agg [.int .i64 r5.1, .int .i64 r7.1, .int .i64 r9.1, .list 1 (List.map cS b2)]) rfl rfl rfl rfl ?_
    obtain ⟨r10, k11, h⟩ := obind h
    refine W.call (version_Format_spec n (⟨r5.1, r7.1, r9.1, b2⟩ : SMajorMinorPatchPre) r10 k11) rfl rfl (Les.refl _) rfl (.inl rfl) rfl ?_
    refine W.mv rfl (W.extract rfl rfl ?_)
    refine W.extract rfl rfl ?_
    refine W.alloc (dt := true) rfl rfl rfl ?_
    refine W.mv rfl ?_
    refine W.store (es' := [[.int .i64 r10.2.Code, .int .i64 r10.2.Index]]) (dt := true) rfl rfl rfl rfl rfl (Nat.le_of_ble_eq_true rfl) rfl rfl rfl rfl ?_
    refine W.nil ?_
    refine Ev.seqJ (γ := Bool) (fun v => ⟨[(2, .pown 10200 0 0 0), (3, .pown 10201 0 0 0), (4, .pown 10202 0 0 0), (8, .pown 10203 0 0 0), (70, .bool v)], [(10200, ⟨0, 60, 4, [[.int .i64 0, .int .i64 0, .int .i64 0, .nils]], true, false, false⟩), (10201, ⟨0, 26, 2, [[.int .i64 0, .int .i64 0]], true, false, false⟩), (10202, ⟨0, 26, 2, [[.int .i64 1, .int .i64 (-1)]], true, false, false⟩), (10203, ⟨0, 60, 4, [[.int .i64 r5.1, .int .i64 r7.1, .int .i64 r9.1, .list 1 (List.map cS b2)]], true, false, false⟩)], 2⟩) (fun v => version_Parse_j2 n b2 r5 r7 r9 v = some r) ?_ ?_
    ·refine W.reg hm ?_
     refine W.loadO (p := .agg [.int .i64 r10.2.Code, .int .i64 r10.2.Index]) rfl rfl rfl rfl ?_
     refine W.build (cs := [.int .i64 0, .int .i64 0]) rfl rfl rfl ?_
     refine W.eqs rfl rfl rfl (W.mv rfl ?_)
     refine W.split 66 rfl (fun c13 => ?_) (fun c13 => ?_)
     ·replace h := iteT h c13
      refine W.guardF2 rfl c13 ?_
      refine W.guardF2 rfl c13 ?_
      refine W.guardF2 rfl c13 ?_
      refine W.pickT rfl rfl rfl c13 ?_
      refine W.nil ?_
      exact ⟨true, h, Wk.nrmTo [2, 3, 4, 8, 70] [(10100, 10200), (10101, 10201), (10102, 10202), (10103, 10203)] rfl rfl⟩
     ·replace h := iteF h c13
      refine W.guardT rfl c13 ?_
      refine W.mv rfl ?_
      refine W.guardT rfl c13 ?_
      refine W.mv rfl ?_
      refine W.guardT rfl c13 ?_
      refine W.sneq rfl rfl ?_
      refine W.pickN rfl rfl rfl c13 ?_
      refine W.nil ?_
      exact ⟨(decide (r10.1 ≠ a0)), h, Wk.nrmTo [2, 3, 4, 8, 70] [(10100, 10200), (10101, 10201), (10102, 10202), (10103, 10203)] rfl rfl⟩
    ·intro x11 h
     try dsimp only at h ⊢
     unfold version_Parse_j2 at h
     refine Ev.cond rfl (fun c12 => ?_) (fun c12 => ?_)
     ·replace h := iteT h c12
      refine Ev.seq ?_
      refine W.regD hm ?_
      refine W.build (cs := [.int .i64 0, .int .i64 0, .int .i64 0, .nils]) rfl rfl rfl ?_
      refine W.loadO (p := .agg [.int .i64 1, .int .i64 (-1)]) rfl rfl rfl rfl ?_
      refine W.store (es' := [[.int .i64 0, .int .i64 0, .int .i64 0, .nils]]) (dt := true) rfl rfl rfl rfl rfl (Nat.le_of_ble_eq_true rfl) rfl rfl rfl rfl ?_
      refine W.store (es' := [[.int .i64 1, .int .i64 (-1)]]) (dt := true) rfl rfl rfl rfl rfl (Nat.le_of_ble_eq_true rfl) rfl rfl rfl rfl ?_
      refine W.nil ⟨rfl, ?_⟩
      refine Ev.ret ?_
      injection h with h; subst h
      exact ⟨_, rfl, Le.tups (.cons (Le.aggs (.cons (.refl _) (.cons (.refl _) (.cons (.refl _) (.cons (.nils 1) (.nil))))) rfl) (.cons (.refl _) (.nil)))⟩
     ·replace h := iteF h c12
      refine Ev.skip ?_
      refine Ev.seq ?_
      refine W.reg hm ?_
      refine W.loadO (p := .agg [.int .i64 r5.1, .int .i64 r7.1, .int .i64 r9.1, .list 1 (List.map cS b2)]) rfl rfl rfl rfl ?_
      refine W.build (cs := [.int .i64 0, .int .i64 0]) rfl rfl rfl ?_
      refine W.store (es' := [[.int .i64 r5.1, .int .i64 r7.1, .int .i64 r9.1, .list 1 (List.map cS b2)]]) (dt := true) rfl rfl rfl rfl rfl (Nat.le_of_ble_eq_true rfl) rfl rfl rfl rfl ?_
      refine W.store (es' := [[.int .i64 0, .int .i64 0]]) (dt := true) rfl rfl rfl rfl rfl (Nat.le_of_ble_eq_true rfl) rfl rfl rfl rfl ?_
      refine W.nil ?_
      refine Ev.ret ?_
      injection h with h; subst h
      exact ⟨_, rfl, .refl _⟩
theorem lockfile_number_spec (n : Nat) (a0 : List UInt8) (a1 : Int) (r : (Int × Bool)) (h : lockfile_number n a0 a1 = some r) : PSpec Tryz.prog 81 [.str a0, iP a1] (.tup [iP r.1, .bool r.2]) := by
 unfold lockfile_number at h
 refine spec_of Tryz.c_lockfile_number (by simp) ?_
 unfold Tryz.l_lockfile_number
 refine au h [1,1,1,1,1,1,1] ?_; intro h
 refine cb h (strconv_Atoi_spec n _) fun r1 k1 h => ?_
 refine aw h [1,5,5,1,1] ?_; intro h
 refine Ev.seqJ (γ := Bool) (fun v => ⟨[(4, iP r1.1), (5, .bool v)], [], 2⟩) (fun v => lockfile_number_j1 n r1 v = some r) ?_ ?_
 ·refine au h [1,1,1] ?_; intro h
  refine W.isnilI rfl (W.mv rfl ?_)
  refine bs h (fun c2 h => ?_) fun c2 h => ?_
  ·refine aw h [2,1,2] ?_; intro h
   refine cb h (strconv_Itoa_spec n _) fun r3 k3 h => ?_
   refine aw h [2,1,2,6,2,1] ?_; intro h
   refine bs h (fun c4 h => ?_) fun c4 h => ?_
   ·refine aw h [2,1,2,5,2,1] ?_; intro h
    refine bs h (fun c5 h => ?_) fun c5 h => ?_
    ·refine aw h [2,1,2,1,2,5,2,1,1] ?_; intro h
     exact lf (decide (r1.1 ≤ a1)) h
    ·refine aw h [3,3,3,3,1,1] ?_; intro h
     exact lf false h
   ·refine aw h [3,3,3,1,3,3,3,3,1,1] ?_; intro h
    exact lf false h
  ·refine aw h [3,3,3,3,3,1,3,3,3,1,3,3,3,3,1,1] ?_; intro h
   exact lf false h
 ·intro x2 h
  try dsimp only at h ⊢
  unfold lockfile_number_j1 at h
  refine Ev.ret ?_
  cases h
  exact ⟨_, rfl, .refl _⟩
theorem lockfile_entry_spec (n : Nat) (a0 : List UInt8) (r : (SPackageVersionDigest × Bool)) (h : lockfile_entry n a0 = some r) : PSpec Tryz.prog 57 [.str a0] (.tup [.agg (SPackageVersionDigest.cells r.1), .bool r.2]) := by
 unfold lockfile_entry at h
 refine spec_of Tryz.c_lockfile_entry (by simp) ?_
 unfold Tryz.l_lockfile_entry
 refine au h [1,1,5,1,1,1,1] ?_; intro h
 refine cb h (strings_Split_spec n _ _) fun r1 k1 h => ?_
 refine ax 51 h [1,1,1,1,1,5,5] ?_; intro h
 refine bs h (fun c2 h => ?_) fun c2 h => ?_
 ·refine au h [2,1,1,5,8,1,1] ?_; intro h
  cases h
  exact ⟨_, rfl, Le.tups (.cons (Le.aggs (.cons (.refl _) (.cons (.refl _) (.cons (.refl _) (.cons (.refl _) (.cons (.nils 1) (.cons (.refl _) (.nil))))))) rfl) (.cons (.refl _) (.nil)))⟩
 ·refine au h [3,1,1,1,1,5,5] ?_; intro e2 k3 h
  refine cb h (version_Parse_spec n _) fun r3 k4 h => ?_
  refine ax 51 h [1,5,5,5,5,8,8,1,1,1,5,5] ?_; intro e4 k5 h
  refine cb h (lockfile_number_spec n _ _) fun r5 k6 h => ?_
  refine ax 51 h [1,5,5,1,1,1,1,1,5,5] ?_; intro e6 k7 h
  refine cb h (lockfile_number_spec n _ _) fun r7 k8 h => ?_
  refine aw h [1,5,5,1,1] ?_; intro h
  refine Ev.seqJ (γ := Bool) (fun v => ⟨[(2, wP 10100), (3, .bool v)], [(10100, eP 62 6 [[iP r5.1, iP r3.1.Major, iP r3.1.Minor, iP r3.1.Patch, lP r3.1.Pre, iP r7.1]])], 2⟩) (fun v => lockfile_entry_j1 n r3 r5 r7 v = some r) ?_ ?_
  ·refine au h [1,1,8,1,5,8,5,5,1] ?_; intro h
   refine bs h (fun c9 h => ?_) fun c9 h => ?_
   ·refine aw h [2,1,2,1] ?_; intro h
    refine bs h (fun c10 h => ?_) fun c10 h => ?_
    ·refine aw h [2,1,2,8,1] ?_; intro h
     exact lf r7.2 h
    ·refine aw h [3,3,8,1] ?_; intro h
     exact lf false h
   ·refine aw h [3,3,1,3,3,8,1] ?_; intro h
    exact lf false h
  ·intro x8 h
   try dsimp only at h ⊢
   unfold lockfile_entry_j1 at h
   refine Ev.ret ?_
   cases h
   exact ⟨_, rfl, .refl _⟩
theorem lockfile_Read_spec (n : Nat) (a0 : List (List UInt8)) (r : ((List SPackageVersionDigest) × SCodeIndex)) (h : lockfile_Read n a0 = some r) : PSpec Tryz.prog 28 [lP a0] (.tup [lP r.1, .agg (SCodeIndex.cells r.2)]) := by
 unfold lockfile_Read at h
 refine spec_of Tryz.c_lockfile_Read (by simp) ?_
 unfold Tryz.l_lockfile_Read
 refine au h [1,1,1,5,1,1,1,1,5,5] ?_; intro h
 refine bs h (fun c1 h => ?_) fun c1 h => ?_
 ·refine au h [2,1,1,5,1,8,1] ?_; intro h
  cases h
  exact ⟨_, rfl, Le.tups (.cons (.nils 6) (.cons (.refl _) (.nil)))⟩
 ·refine au h [3,1,1,1,1,1,1,1,1,5,1,1] ?_; intro h
  refine Ev.loopW (β := Nat × (List SPackageVersionDigest) × Int) (fun v => ⟨[(3, wP 10100), (4, .own 10101 0), (14, lP a0), (15, iP (a0.length : Int)), (16, iP v.2.2)], [(10100, eP 26 2 [[iP 0, iP 0]]), (10101, eP 62 6 (mP v.2.1))], 2⟩) (fun v => lockfile_Read_l1 n a0 v.1 v.2.1 v.2.2 = some r) (fun v => v.1) (n, ([] : List SPackageVersionDigest), 0) ((Wk.ownNil 4 30101 62 6 rfl rfl true).trans (.nA)) h ?_
  intro ⟨m1, w1, x2⟩ h
  try dsimp only at h ⊢
  cases m1 with
  | zero => rw [lockfile_Read_l1] at h; cases h
  | succ m1 =>
   rw [lockfile_Read_l1] at h
   refine au h [1,1,5,1] ?_; intro h
   refine bs h (fun c2 h => ?_) fun c2 h => ?_
   ·refine au h [2,1,1,1,1,1,1,5,5,1,1,1,1,1] ?_; intro e3 k3 h
    refine cb h (lockfile_entry_spec n _) fun r4 k4 h => ?_
    refine ax 43 h [1,5,5,5,8,1,1,1,1,1,5] ?_; intro h
    refine bs h (fun c5 h => ?_) fun c5 h => ?_
    ·refine au h [2,1,1,1,5,1,8,1] ?_; intro h
     cases h
     exact ⟨_, rfl, Le.tups (.cons (.nils 6) (.cons (.refl _) (.nil)))⟩
    ·refine au h [3,1,1,1,8,5,7,1,1,7,1] ?_; intro w5 k6 x6 k7 h
     exact lb (m1, w5, x6) h
   ·refine au h [3,1,1,1,1,1] ?_; intro h
    refine cb h (lockfile_Validate_spec n _) fun r7 k8 h => ?_
    refine ax 43 h [5,8,1,1,8,5,5] ?_; intro h
    refine bs h (fun c9 h => ?_) fun c9 h => ?_
    ·refine au h [2,1,1,8,1,8,1] ?_; intro h
     cases h
     exact ⟨_, rfl, Le.tups (.cons (.nils 6) (.cons (.refl _) (.nil)))⟩
    ·refine au h [3,1,1,1,1,5,1,8,1] ?_; intro h
     cases h
     exact ⟨_, rfl, .refl _⟩
theorem law6_ver_spec (n : Nat) (a0 : Int) (a1 : Int) (a2 : Int) (r : SMajorMinorPatchPre) (h : law6_ver n a0 a1 a2 = some r) : PSpec Tryz.prog 61 [iP a0, iP a1, iP a2] (.agg (SMajorMinorPatchPre.cells r)) := by
 unfold law6_ver at h
 refine spec_of Tryz.c_law6_ver (by simp) ?_
 unfold Tryz.l_law6_ver
 refine au h [1,1,5,1,1,1,1,1,5,8,1] ?_; intro h
 cases h
 exact ⟨_, rfl, Le.aggs (.cons (.refl _) (.cons (.refl _) (.cons (.refl _) (.cons (.nils 1) (.nil))))) rfl⟩
theorem law6_lock_spec (n : Nat) (r : (List SPackageVersionDigest)) (h : law6_lock n = some r) : PSpec Tryz.prog 31 [] (lP r) := by
 unfold law6_lock at h
 refine spec_of Tryz.c_law6_lock (by simp) ?_
 unfold Tryz.l_law6_lock
 refine au h [1,1,1,1,1] ?_; intro h
 refine cb h (law6_ver_spec n _ _ _) fun r1 k1 h => ?_
 refine ax 4 h [5,5,1,1] ?_; intro h
 cases h
 exact ⟨_, rfl, .refl _⟩
theorem law6_span_spec (n : Nat) (a0 : Int) (a1 : SMajorMinorPatchPre) (a2 : SMajorMinorPatchPre) (r : SPackageRange) (h : law6_span n a0 a1 a2 = some r) : PSpec Tryz.prog 62 [iP a0, .agg (SMajorMinorPatchPre.cells a1), .agg (SMajorMinorPatchPre.cells a2)] (.agg (SPackageRange.cells r)) := by
 unfold law6_span at h
 refine spec_of Tryz.c_law6_span (by simp) ?_
 unfold Tryz.l_law6_span
 refine au h [1,1,5,5,5,1,1,1,8,8,5,5,5,5,8] ?_; intro h
 refine Ev.weak ?_ (Wk.frz 11 2 rfl rfl)
 refine Ev.ret ?_
 cases h
 exact ⟨_, rfl, .refl _⟩
theorem law6_universe_spec (n : Nat) (r : SPackages) (h : law6_universe n = some r) : PSpec Tryz.prog 32 [] (.agg (SPackages.cells r)) := by
 unfold law6_universe at h
 refine spec_of Tryz.c_law6_universe (by simp) ?_
 unfold Tryz.l_law6_universe
 refine au h [1,1,5,1,1] ?_; intro h
 refine cb h (law6_ver_spec n _ _ _) fun r1 k1 h => ?_
 refine cb h (law6_ver_spec n _ _ _) fun r2 k2 h => ?_
 refine cb h (law6_span_spec n _ _ _) fun r3 k3 h => ?_
 refine ax 15 h [5,8,1,1] ?_; intro h
 refine cb h (law6_ver_spec n _ _ _) fun r4 k4 h => ?_
 refine aw h [8,5,5,5] ?_; intro h
 refine cb h (law6_ver_spec n _ _ _) fun r5 k5 h => ?_
 refine aw h [5,5,5,5,8] ?_; intro h
 refine Ev.weak ?_ (Wk.frz 7 2 rfl rfl)
 refine Ev.weak ?_ (Wk.frz 9 2 rfl rfl)
 refine Ev.weak ?_ (Wk.rowLe 12 2 (es' := [[iP r5.Major, iP r5.Minor, iP r5.Patch, lP r5.Pre, lP ([] : List SPackageRange)]]) rfl rfl (.cons (.cons (.refl _) (.cons (.refl _) (.cons (.refl _) (.cons (.refl _) (.cons (.nils 2) (.nil)))))) rfl .nil) rfl)
 refine Ev.weak ?_ (Wk.frz 12 2 rfl rfl)
 refine Ev.weak ?_ (Wk.frz 13 2 rfl rfl)
 refine Ev.ret ?_
 cases h
 exact ⟨_, rfl, .refl _⟩
end Go.Proofs.YtpcmhhbocifbcaaGreatDoor
