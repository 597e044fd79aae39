/- The functions compute what the texts of D say. Laid by a program (wip/gen/dec.py). -/
import Derived.Test.YtfdennmaeoahgaaPwAuto
import Derived.Test.YtfdennmaeoahgaaD
import Derived.Test.YtfdennmaeoahgaaK
set_option linter.unusedVariables false
set_option linter.unusedSimpArgs false
namespace Go.Proofs.Ytfdennmaeoahgaa
open Go.PW Go
instance : Cl SMajorMinorPatchPre := ⟨4, SMajorMinorPatchPre.cells⟩
instance : Cl SCodeIndex := ⟨2, SCodeIndex.cells⟩
instance : Cl SLowHighUnbounded := ⟨9, SLowHighUnbounded.cells⟩
instance : Cl SIntervals := ⟨1, SIntervals.cells⟩
instance : Cl SPackageRange := ⟨2, SPackageRange.cells⟩
instance : Cl SVersionNeeds := ⟨5, SVersionNeeds.cells⟩
instance : Cl SPackages := ⟨1, SPackages.cells⟩
instance : Cl SA0A1A2A3 := ⟨4, SA0A1A2A3.cells⟩
instance : Cl SOfBy := ⟨5, SOfBy.cells⟩
instance : Cl SWantsNeeds := ⟨2, SWantsNeeds.cells⟩
theorem cmp_Or_int_spec (n : Nat) (a0 : List Int) (r : Int) (h : cmp_Or_int n a0 = some r) : PSpec Try.prog 84 [lP a0] (iP r) := by
 unfold cmp_Or_int at h
 refine spec_of Try.c_cmp_Or_int (by simp) ?_
 unfold Try.l_cmp_Or_int
 refine au h [1,1,1,1,1,1,1,1,1,1,5,1,1] ?_; intro h
 refine Ev.loopW (β := Nat × Int) (fun v => ⟨[(3, iP 0), (6, lP a0), (7, iP (a0.length : Int)), (8, iP v.2)], [], 2⟩) (fun v => cmp_Or_int_l1 n a0 v.1 v.2 = some r) (fun v => v.1) (n, 0) (.nA) h ?_
 intro ⟨m1, x1⟩ h
 try dsimp only at h ⊢
 cases m1 with
 | zero => rw [cmp_Or_int_l1] at h; cases h
 | succ m1 =>
  rw [cmp_Or_int_l1] at h
  refine au h [1,1,5,1] ?_; intro h
  refine bs h (fun c1 h => ?_) fun c1 h => ?_
  ·refine au h [2,1,1,1,1,1,5,5,1,1,1,1,1,5] ?_; intro e2 k2 h
   refine bs h (fun c3 h => ?_) fun c3 h => ?_
   ·refine au h [2,1,1,1,1,1] ?_; intro h
    cases h
    exact ⟨_, rfl, .refl _⟩
   ·refine au h [3,1,1,7,1] ?_; intro x3 k4 h
    exact lb (m1, x3) h
  ·refine au h [3,1,1,1,1,1,1] ?_; intro h
   cases h
   exact ⟨_, rfl, .refl _⟩
theorem cmp_isNaN_int_spec (n : Nat) (a0 : Int) (r : Bool) (h : cmp_isNaN_int n a0 = some r) : PSpec Try.prog 92 [iP a0] (.bool r) := by
 unfold cmp_isNaN_int at h
 refine spec_of Try.c_cmp_isNaN_int (by simp) ?_
 unfold Try.l_cmp_isNaN_int
 refine au h [1,1,1,1,1,1,1,5,1,1] ?_; intro h
 cases h
 exact ⟨_, rfl, .refl _⟩
theorem cmp_Compare_int_spec (n : Nat) (a0 : Int) (a1 : Int) (r : Int) (h : cmp_Compare_int n a0 a1 = some r) : PSpec Try.prog 85 [iP a0, iP a1] (iP r) := by
 unfold cmp_Compare_int at h
 refine spec_of Try.c_cmp_Compare_int (by simp) ?_
 unfold Try.l_cmp_Compare_int
 refine au h [1,1,1,1,1,1] ?_; intro h
 refine cb h (cmp_isNaN_int_spec n _) fun r1 k1 h => ?_
 refine ax 20 h [1,1,1,1] ?_; intro h
 refine cb h (cmp_isNaN_int_spec n _) fun r2 k2 h => ?_
 refine ax 20 h [1,1,1,1,1] ?_; intro h
 refine bs h (fun c3 h => ?_) fun c3 h => ?_
 ·refine au h [2,1,1,1,1] ?_; intro h
  refine bs h (fun c4 h => ?_) fun c4 h => ?_
  ·refine au h [2,1,1,1,1] ?_; intro h
   cases h
   exact ⟨_, rfl, .refl _⟩
  ·refine au h [3,1,1,1,1,1] ?_; intro h
   cases h
   exact ⟨_, rfl, .refl _⟩
 ·refine au h [3,1,1,1,1,1] ?_; intro h
  refine bs h (fun c5 h => ?_) fun c5 h => ?_
  ·refine au h [2,1,1,1,1] ?_; intro h
   cases h
   exact ⟨_, rfl, .refl _⟩
  ·refine au h [3,1,1,1,1,1,1,5] ?_; intro h
   refine bs h (fun c6 h => ?_) fun c6 h => ?_
   ·refine au h [2,1,1,1,1] ?_; intro h
    cases h
    exact ⟨_, rfl, .refl _⟩
   ·refine au h [3,1,1,1,1,1,1,5] ?_; intro h
    refine bs h (fun c7 h => ?_) fun c7 h => ?_
    ·refine au h [2,1,1,1,1] ?_; intro h
     cases h
     exact ⟨_, rfl, .refl _⟩
    ·refine au h [3,1,1,1,1,1] ?_; intro h
     cases h
     exact ⟨_, rfl, .refl _⟩
theorem strings_ContainsFunc_spec (n : Nat) (a0 : List UInt8) (r : Bool) (h : strings_ContainsFunc n a0 = some r) : PSpec Try.prog 94 [.str a0, .fn 95 [] []] (.bool r) := by
 unfold strings_ContainsFunc at h
 injection h with h
 subst h
 exact k_ContainsFunc a0
theorem version_numeric_spec (n : Nat) (a0 : List UInt8) (r : Bool) (h : version_numeric n a0 = some r) : PSpec Try.prog 91 [.str a0] (.bool r) := by
 unfold version_numeric at h
 refine spec_of Try.c_version_numeric (by simp) ?_
 unfold Try.l_version_numeric
 refine au h [1,1,1,1,1,1] ?_; intro h
 refine cb h (strings_ContainsFunc_spec n _) fun r1 k1 h => ?_
 refine ax 6 h [5,1,1] ?_; intro h
 cases h
 exact ⟨_, rfl, .refl _⟩
theorem strings_Compare_spec (n : Nat) (a0 : List UInt8) (a1 : List UInt8) (r : Int) (h : strings_Compare n a0 a1 = some r) : PSpec Try.prog 93 [.str a0, .str a1] (.int .i64 r) := by
 unfold strings_Compare at h
 injection h with h
 subst h
 exact k_Compare a0 a1
theorem version_Order_spec (n : Nat) (a0 : SMajorMinorPatchPre) (a1 : SMajorMinorPatchPre) (r : Int) (h : version_Order n a0 a1 = some r) : PSpec Try.prog 76 [.agg (SMajorMinorPatchPre.cells a0), .agg (SMajorMinorPatchPre.cells a1)] (iP r) := by
 unfold version_Order at h
 refine spec_of Try.c_version_Order (by simp) ?_
 unfold Try.l_version_Order
 refine au h [1,1,5,5,1,1,1,1,8,8,8,8] ?_; intro h
 refine cb h (cmp_Compare_int_spec n _ _) fun r1 k1 h => ?_
 refine aw h [8,8,8,8] ?_; intro h
 refine cb h (cmp_Compare_int_spec n _ _) fun r2 k2 h => ?_
 refine aw h [8,8,8,8] ?_; intro h
 refine cb h (cmp_Compare_int_spec n _ _) fun r3 k3 h => ?_
 refine aw h [5] ?_; intro h
 refine cb h (cmp_Or_int_spec n _) fun r4 k4 h => ?_
 refine ax 47 h [1,1,1,1,5] ?_; intro h
 refine bs h (fun c5 h => ?_) fun c5 h => ?_
 ·refine au h [2,1,1,1,1,1] ?_; intro h
  cases h
  exact ⟨_, rfl, .refl _⟩
 ·refine au h [3,1,1,1,1,8,8,5,5,8,8,5,5,5] ?_; intro h
  refine bs h (fun c6 h => ?_) fun c6 h => ?_
  ·refine au h [2,1,1,8,8,5,8,8,5] ?_; intro h
   refine cb h (cmp_Compare_int_spec n _ _) fun r5 k7 h => ?_
   refine ax 47 h [1,1] ?_; intro h
   cases h
   exact ⟨_, rfl, .refl _⟩
  ·refine au h [3,1,1] ?_; intro h
   refine Ev.regS rfl ?_
   refine Sq.w 4 nb ?_
   refine aw h [8,8,8,8] ?_; intro h
   refine Sq.weak (st' := ⟨[(4, iP 0), (43, lP a0.Pre), (45, lP a1.Pre)], [], 2⟩) ?_ (.nA)
   refine Sq.call rfl Try.c_slices_CompareFunc_string_string_string_string ⟨_, rfl, nb, ?_⟩
   unfold Try.l_slices_CompareFunc_string_string_string_string
   refine Ev.retJ (γ := Int) (fun v => ⟨[(6, iP v), (65540, iP 0)], [], 2⟩) (fun v => version_Order_j1 n v = some r) ?_ ?_
   ·refine au h [1,1,1,1,1,1,1,5,1,1] ?_; intro h
    refine Ev.loopW (β := Nat × Int) (fun v => ⟨[(0, lP a0.Pre), (1, lP a1.Pre), (2, .fn 87 [] []), (11, lP a0.Pre), (12, iP (a0.Pre.length : Int)), (13, iP v.2), (65540, iP 0)], [], 2⟩) (fun v => version_Order_l1 n a0 a1 v.1 v.2 = some r) (fun v => v.1) (n, 0) (.nA) h ?_
    intro ⟨m1, x7⟩ h
    try dsimp only at h ⊢
    cases m1 with
    | zero => rw [version_Order_l1] at h; cases h
    | succ m1 =>
     rw [version_Order_l1] at h
     refine au h [1,1,5,1] ?_; intro h
     refine bs h (fun c8 h => ?_) fun c8 h => ?_
     ·refine au h [2,1,1,1,1,1,1,5,5,1,1,1,1,1,1,1,5,5] ?_; intro e8 k9 h
      refine bs h (fun c10 h => ?_) fun c10 h => ?_
      ·refine au h [2,1,1,1,1] ?_; intro h
       exact lf 1 h
      ·refine au h [3,1,1,1,1,1,5,5,1,1] ?_; intro e9 k11 h
       refine Ev.regS rfl ?_
       refine Sq.w 3 nb ?_
       refine aw h [1,1,1] ?_; intro h
       refine Sq.callv (f := 87) rfl Try.b_version_compareIdentifiers Try.c_version_compareIdentifiers ⟨_, _, _, rfl, nb, ?_⟩
       unfold Try.l_version_compareIdentifiers
       refine Ev.retJ (γ := Int) (fun v => ⟨[(4, iP v), (65536, lP a0.Pre), (65537, lP a1.Pre), (65538, .fn 87 [] []), (65547, lP a0.Pre), (65548, iP (a0.Pre.length : Int)), (65549, iP x7), (131076, iP 0)], [], 2⟩) (fun v => version_Order_j2 n x7 (version_Order_l1 n a0 a1 m1) v = some r) ?_ ?_
       ·refine au h [1,1,1,1,1,1] ?_; intro h
        refine cb h (version_numeric_spec n _) fun r12 k14 h => ?_
        refine W.mv rfl ?_
        refine cb h (version_numeric_spec n _) fun r13 k15 h => ?_
        refine ax 33 h [1,1,1,1] ?_; intro h
        refine Ev.seqJ (γ := Bool) (fun v => ⟨[(0, .str e8), (1, .str e9), (5, .bool r12), (6, .bool r13), (11, .bool v), (65536, lP a0.Pre), (65537, lP a1.Pre), (65538, .fn 87 [] []), (65547, lP a0.Pre), (65548, iP (a0.Pre.length : Int)), (65549, iP x7), (131076, iP 0)], [], 2⟩) (fun v => version_Order_j3 n x7 (version_Order_l1 n a0 a1 m1) e8 e9 r12 r13 v = some r) ?_ ?_
        ·refine au h [1,1,1] ?_; intro h
         refine bs h (fun c23 h => ?_) fun c23 h => ?_
         ·refine aw h [2,1,2,1] ?_; intro h
          exact lf r13 h
         ·refine aw h [3,3,1] ?_; intro h
          exact lf false h
        ·intro x14 h
         try dsimp only at h ⊢
         unfold version_Order_j3 at h
         refine bs h (fun c16 h => ?_) fun c16 h => ?_
         ·refine au h [2,1,1,1,5,1,5] ?_; intro h
          refine cb h (cmp_Compare_int_spec n _ _) fun r15 k17 h => ?_
          refine aw h [1,1] ?_; intro h
          refine cb h (strings_Compare_spec n _ _) fun r16 k18 h => ?_
          refine aw h [5] ?_; intro h
          refine cb h (cmp_Or_int_spec n _) fun r17 k19 h => ?_
          refine ax 33 h [1,1] ?_; intro h
          exact lf r17 h
         ·refine au h [3,1,1,1,1] ?_; intro h
          refine bs h (fun c20 h => ?_) fun c20 h => ?_
          ·refine au h [2,1,1,1,1] ?_; intro h
           exact lf (-1) h
          ·refine au h [3,1,1,1,1] ?_; intro h
           refine bs h (fun c21 h => ?_) fun c21 h => ?_
           ·refine au h [2,1,1,1,1] ?_; intro h
            exact lf 1 h
           ·refine au h [3,1,1,1,1,1] ?_; intro h
            refine cb h (strings_Compare_spec n _ _) fun r18 k22 h => ?_
            refine ax 33 h [1,1] ?_; intro h
            exact lf r18 h
       ·intro x10 h
        try dsimp only at h ⊢
        unfold version_Order_j2 at h
        refine ⟨_, rfl, ?_⟩
        refine Sq.wEnd nb ?_
        refine ax 39 h [1,1,1,1,5] ?_; intro h
        refine bs h (fun c12 h => ?_) fun c12 h => ?_
        ·refine au h [2,1,1,1,1,1] ?_; intro h
         exact lf x10 h
        ·refine au h [3,1,1,7,1] ?_; intro x11 k13 h
         exact lb (m1, x11) h
     ·refine au h [3,1,1,1,1,1,5,1,5,5] ?_; intro h
      refine bs h (fun c24 h => ?_) fun c24 h => ?_
      ·refine au h [2,1,1,1,1] ?_; intro h
       exact lf (-1) h
      ·refine au h [3,1,1,1,1,1] ?_; intro h
       exact lf 0 h
   ·intro x6 h
    try dsimp only at h ⊢
    unfold version_Order_j1 at h
    refine ⟨_, rfl, ?_⟩
    refine Sq.wEnd nb ?_
    refine ax 47 h [1,1] ?_; intro h
    cases h
    exact ⟨_, rfl, .refl _⟩
theorem version_identifier_spec (n : Nat) (a0 : List UInt8) (r : Bool) (h : version_identifier n a0 = some r) : PSpec Try.prog 83 [.str a0] (.bool r) := by
 unfold version_identifier at h
 refine spec_of Try.c_version_identifier (by simp) ?_
 unfold Try.l_version_identifier
 refine au h [1,1,1,1] ?_; intro h
 refine Ev.seqJ (γ := Bool) (fun v => ⟨[(0, .str a0), (12, .bool v)], [], 2⟩) (fun v => version_identifier_j1 n a0 v = some r) ?_ ?_
 ·refine au h [1,1,5,5,1] ?_; intro h
  refine bs h (fun c24 h => ?_) fun c24 h => ?_
  ·refine aw h [3,3,3,2] ?_; intro h
   exact lf true h
  ·refine aw h [2,1,2,5,2,5,3] ?_; intro h
   exact lf (decide (8 < (a0.length : Int))) h
 ·intro x1 h
  try dsimp only at h ⊢
  unfold version_identifier_j1 at h
  refine bs h (fun c1 h => ?_) fun c1 h => ?_
  ·refine au h [2,1,1,1,1] ?_; intro h
   cases h
   exact ⟨_, rfl, .refl _⟩
  ·refine au h [3,1,1,1,1,1,5,1,1] ?_; intro h
   refine Ev.loopW (β := Nat × Int) (fun v => ⟨[(0, .str a0), (14, iP (a0.length : Int)), (15, iP v.2)], [], 2⟩) (fun v => version_identifier_l1 n a0 v.1 v.2 = some r) (fun v => v.1) (n, 0) (.nA) h ?_
   intro ⟨m1, x2⟩ h
   try dsimp only at h ⊢
   cases m1 with
   | zero => rw [version_identifier_l1] at h; cases h
   | succ m1 =>
    rw [version_identifier_l1] at h
    refine au h [1,1,5,1] ?_; intro h
    refine bs h (fun c2 h => ?_) fun c2 h => ?_
    ·refine au h [2,1,1,1,1,1,1,1,1,1,1,1,5,1] ?_; intro y3 k3 h
     refine Ev.seqJ (γ := Bool) (fun v => ⟨[(0, .str a0), (14, iP (a0.length : Int)), (15, iP x2), (46, .bool v)], [], 2⟩) (fun v => version_identifier_j2 n x2 (version_identifier_l1 n a0 m1) v = some r) ?_ ?_
     ·refine au h [1,1,5,1] ?_; intro h
      refine bs h (fun c6 h => ?_) fun c6 h => ?_
      ·refine aw h [3,3,2,1,2,1,2,5,2,1] ?_; intro h
       refine bs h (fun c7 h => ?_) fun c7 h => ?_
       ·refine aw h [3,3,2,2,2,1,2,1,2,5,2,1] ?_; intro h
        refine bs h (fun c8 h => ?_) fun c8 h => ?_
        ·refine aw h [3,3,2,2,2,1,2,1,2,5,2] ?_; intro h
         exact lf (decide ((y3.toNat : Int) ≠ 45)) h
        ·refine aw h [2,1,2,5,2,3,2,1] ?_; intro h
         refine bs h (fun c9 h => ?_) fun c9 h => ?_
         ·refine aw h [2,1,2,5,2] ?_; intro h
          exact lf (decide ((y3.toNat : Int) ≠ 45)) h
         ·refine aw h [3,3,3] ?_; intro h
          exact lf false h
       ·refine aw h [2,1,2,5,2,3,2,1] ?_; intro h
        refine bs h (fun c10 h => ?_) fun c10 h => ?_
        ·refine aw h [2,1,2,5,2,1] ?_; intro h
         refine bs h (fun c11 h => ?_) fun c11 h => ?_
         ·refine aw h [3,3,2,2,2,1,2,1,2,5,2] ?_; intro h
          exact lf (decide ((y3.toNat : Int) ≠ 45)) h
         ·refine aw h [2,1,2,5,2,3,2,1] ?_; intro h
          refine bs h (fun c12 h => ?_) fun c12 h => ?_
          ·refine aw h [2,1,2,5,2] ?_; intro h
           exact lf (decide ((y3.toNat : Int) ≠ 45)) h
          ·refine aw h [3,3,3] ?_; intro h
           exact lf false h
        ·refine aw h [3,3,3,4,4,3,3,1,3,3,3] ?_; intro h
         exact lf false h
      ·refine aw h [2,1,2,5,3,1] ?_; intro h
       refine bs h (fun c13 h => ?_) fun c13 h => ?_
       ·refine aw h [2,1,2,5,2,1] ?_; intro h
        refine bs h (fun c14 h => ?_) fun c14 h => ?_
        ·refine aw h [3,3,2,2,2,1,2,1,2,5,2,1] ?_; intro h
         refine bs h (fun c15 h => ?_) fun c15 h => ?_
         ·refine aw h [3,3,2,2,2,1,2,1,2,5,2] ?_; intro h
          exact lf (decide ((y3.toNat : Int) ≠ 45)) h
         ·refine aw h [2,1,2,5,2,3,2,1] ?_; intro h
          refine bs h (fun c16 h => ?_) fun c16 h => ?_
          ·refine aw h [2,1,2,5,2] ?_; intro h
           exact lf (decide ((y3.toNat : Int) ≠ 45)) h
          ·refine aw h [3,3,3] ?_; intro h
           exact lf false h
        ·refine aw h [2,1,2,5,2,3,2,1] ?_; intro h
         refine bs h (fun c17 h => ?_) fun c17 h => ?_
         ·refine aw h [2,1,2,5,2,1] ?_; intro h
          refine bs h (fun c18 h => ?_) fun c18 h => ?_
          ·refine aw h [3,3,2,2,2,1,2,1,2,5,2] ?_; intro h
           exact lf (decide ((y3.toNat : Int) ≠ 45)) h
          ·refine aw h [2,1,2,5,2,3,2,1] ?_; intro h
           refine bs h (fun c19 h => ?_) fun c19 h => ?_
           ·refine aw h [2,1,2,5,2] ?_; intro h
            exact lf (decide ((y3.toNat : Int) ≠ 45)) h
           ·refine aw h [3,3,3] ?_; intro h
            exact lf false h
         ·refine aw h [3,3,3,4,4,3,3,1,3,3,3] ?_; intro h
          exact lf false h
       ·refine aw h [3,3,3,4,4,3,3,1,3,3,3,4,4,3,3,1,3,3,3] ?_; intro h
        exact lf false h
     ·intro x4 h
      try dsimp only at h ⊢
      unfold version_identifier_j2 at h
      refine bs h (fun c4 h => ?_) fun c4 h => ?_
      ·refine au h [2,1,1,1,1] ?_; intro h
       cases h
       exact ⟨_, rfl, .refl _⟩
      ·refine au h [3,1,1,7,1] ?_; intro x5 k5 h
       exact lb (m1, x5) h
    ·refine au h [3,1] ?_; intro h
     refine Ev.seqJ (γ := Bool) (fun v => ⟨[(2, .bool v)], [], 2⟩) (fun v => version_identifier_j3 n v = some r) ?_ ?_
     ·refine au h [1,1] ?_; intro h
      refine cb h (version_numeric_spec n _) fun r7 k20 h => ?_
      refine aw h [5,1] ?_; intro h
      refine bs h (fun c21 h => ?_) fun c21 h => ?_
      ·refine aw h [3,3,3,2,1,3,3,3,2,1] ?_; intro h
       exact lf true h
      ·refine aw h [2,1,2,5,2,5,3,1] ?_; intro h
       refine bs h (fun c22 h => ?_) fun c22 h => ?_
       ·refine aw h [3,3,3,2,1] ?_; intro h
        exact lf true h
       ·refine aw h [2,1,2,5,2,5,3,1] ?_; intro y8 k23 h
        exact lf (decide ((y8.toNat : Int) ≠ 48)) h
     ·intro x6 h
      try dsimp only at h ⊢
      unfold version_identifier_j3 at h
      refine Ev.ret ?_
      cases h
      exact ⟨_, rfl, .refl _⟩
theorem version_Validate_spec (n : Nat) (a0 : SMajorMinorPatchPre) (r : SCodeIndex) (h : version_Validate n a0 = some r) : PSpec Try.prog 75 [.agg (SMajorMinorPatchPre.cells a0)] (.agg (SCodeIndex.cells r)) := by
 unfold version_Validate at h
 refine spec_of Try.c_version_Validate (by simp) ?_
 unfold Try.l_version_Validate
 refine au h [1,1,5,5,1,1,1,8,8,8,8,8,8,5,1,1] ?_; intro h
 refine Ev.loopW (β := Nat × Int) (fun v => ⟨[(1, wP 10100), (2, wP 10101), (13, .agg [iP a0.Major, iP a0.Minor, iP a0.Patch]), (14, iP v.2)], [(10100, eP 64 4 [[iP a0.Major, iP a0.Minor, iP a0.Patch, lP a0.Pre]]), (10101, eP 30 2 [[iP 0, iP 0]])], 2⟩) (fun v => version_Validate_l1 n a0 v.1 v.2 = some r) (fun v => v.1) (n, 0) (.nA) h ?_
 intro ⟨m1, x1⟩ h
 try dsimp only at h ⊢
 cases m1 with
 | zero => rw [version_Validate_l1] at h; cases h
 | succ m1 =>
  rw [version_Validate_l1] at h
  refine au h [1,1,5,1] ?_; intro h
  refine bs h (fun c1 h => ?_) fun c1 h => ?_
  ·refine au h [2,1,1,1,1,1,1] ?_; intro h
   obtain ⟨i2, k2, h⟩ := obind h
   refine W.vidxG (p := iP (if i2 = 0 then a0.Major else (if i2 = 1 then a0.Minor else a0.Patch : Int) : Int)) rfl rfl k2 (by obtain ⟨_, q1, q2⟩ := garr_some k2; rcases (show i2 = 0 ∨ i2 = 1 ∨ i2 = 2 by omega) with e | e | e <;> rw [e] <;> rfl) ?_
   refine aw h [1,1] ?_; intro h
   refine Ev.seqJ (γ := Bool) (fun v => ⟨[(1, wP 10200), (2, wP 10201), (3, iP x1), (13, .agg [iP a0.Major, iP a0.Minor, iP a0.Patch]), (14, iP x1), (23, .bool v)], [(10200, eP 64 4 [[iP a0.Major, iP a0.Minor, iP a0.Patch, lP a0.Pre]]), (10201, eP 30 2 [[iP 0, iP 0]])], 2⟩) (fun v => version_Validate_j1 n x1 (version_Validate_l1 n a0 m1) v = some r) ?_ ?_
   ·refine au h [1,1,5,1] ?_; intro h
    refine bs h (fun c5 h => ?_) fun c5 h => ?_
    ·refine aw h [3,3,2] ?_; intro h
     exact lf true h
    ·refine aw h [2,1,2,5,3] ?_; intro h
     exact lf (decide (1000000000 < (if i2 = 0 then a0.Major else (if i2 = 1 then a0.Minor else a0.Patch : Int) : Int))) h
   ·intro x3 h
    try dsimp only at h ⊢
    unfold version_Validate_j1 at h
    refine bs h (fun c3 h => ?_) fun c3 h => ?_
    ·refine au h [2,1,1,1,5,8,1] ?_; intro h
     cases h
     exact ⟨_, rfl, .refl _⟩
    ·refine au h [3,1,1,7,1] ?_; intro x4 k4 h
     exact lb (m1, x4) h
  ·refine au h [3,1,1,1,1,8,8,5,5] ?_; intro h
   refine bs h (fun c6 h => ?_) fun c6 h => ?_
   ·refine au h [2,1,1,5,8,1] ?_; intro h
    cases h
    exact ⟨_, rfl, .refl _⟩
   ·refine au h [3,1,1,1,1,8,8,5,1,1] ?_; intro h
    refine Ev.loopW (β := Nat × Int) (fun v => ⟨[(2, wP 10200), (33, lP a0.Pre), (34, iP (a0.Pre.length : Int)), (35, iP v.2)], [(10200, eP 30 2 [[iP 0, iP 0]])], 2⟩) (fun v => version_Validate_l2 n a0 v.1 v.2 = some r) (fun v => v.1) (n, 0) (.nA) h ?_
    intro ⟨m2, x5⟩ h
    try dsimp only at h ⊢
    cases m2 with
    | zero => rw [version_Validate_l2] at h; cases h
    | succ m2 =>
     rw [version_Validate_l2] at h
     refine au h [1,1,5,1] ?_; intro h
     refine bs h (fun c7 h => ?_) fun c7 h => ?_
     ·refine au h [2,1,1,1,1,1,1,5,5,1,1,1,1,1] ?_; intro e6 k8 h
      refine cb h (version_identifier_spec n _) fun r7 k9 h => ?_
      refine aw h [5] ?_; intro h
      refine bs h (fun c10 h => ?_) fun c10 h => ?_
      ·refine au h [2,1,1,1,5,8,1] ?_; intro h
       cases h
       exact ⟨_, rfl, .refl _⟩
      ·refine au h [3,1,1,7,1] ?_; intro x8 k11 h
       exact lb (m2, x8) h
     ·refine au h [3,1,1,1,5,8,1] ?_; intro h
      cases h
      exact ⟨_, rfl, .refl _⟩
theorem version_Zero_spec (n : Nat) (a0 : SMajorMinorPatchPre) (r : Bool) (h : version_Zero n a0 = some r) : PSpec Try.prog 88 [.agg (SMajorMinorPatchPre.cells a0)] (.bool r) := by
 unfold version_Zero at h
 refine spec_of Try.c_version_Zero (by simp) ?_
 unfold Try.l_version_Zero
 refine au h [1,1,5,1] ?_; intro h
 refine Ev.seqJ (γ := Bool) (fun v => ⟨[(2, .bool v)], [], 2⟩) (fun v => version_Zero_j1 n v = some r) ?_ ?_
 ·refine au h [1,8,8,5,1] ?_; intro h
  refine bs h (fun c1 h => ?_) fun c1 h => ?_
  ·refine aw h [2,8,2,8,2,5,2,1] ?_; intro h
   refine bs h (fun c2 h => ?_) fun c2 h => ?_
   ·refine aw h [2,8,2,8,2,5,2,1] ?_; intro h
    refine bs h (fun c3 h => ?_) fun c3 h => ?_
    ·refine aw h [2,8,2,8,2,5,2,5,2,1] ?_; intro h
     exact lf (decide ((a0.Pre.length : Int) = 0)) h
    ·refine aw h [3,3,3,3,3,1] ?_; intro h
     exact lf false h
   ·refine aw h [3,3,3,3,1,3,3,3,3,3,1] ?_; intro h
    exact lf false h
  ·refine aw h [3,3,3,3,1,3,3,3,3,1,3,3,3,3,3,1] ?_; intro h
   exact lf false h
 ·intro x1 h
  try dsimp only at h ⊢
  unfold version_Zero_j1 at h
  refine Ev.ret ?_
  cases h
  exact ⟨_, rfl, .refl _⟩
theorem verrange_check_spec (n : Nat) (a0 : SLowHighUnbounded) (r : Int) (h : verrange_check n a0 = some r) : PSpec Try.prog 77 [.agg (SLowHighUnbounded.cells a0)] (iP r) := by
 unfold verrange_check at h
 refine spec_of Try.c_verrange_check (by simp) ?_
 unfold Try.l_verrange_check
 refine au h [1,1,5,1,1,1,1,8,8] ?_; intro h
 refine cb h (version_Validate_spec n _) fun r1 k1 h => ?_
 refine ax 33 h [5,8,1,1,8,5,5] ?_; intro h
 refine bs h (fun c2 h => ?_) fun c2 h => ?_
 ·refine au h [2,1,1,8,8,1,1] ?_; intro h
  cases h
  exact ⟨_, rfl, .refl _⟩
 ·refine au h [3,1,1,1,1,8,8] ?_; intro h
  refine bs h (fun c3 h => ?_) fun c3 h => ?_
  ·refine au h [2,1,1,1,8,8] ?_; intro h
   refine cb h (version_Zero_spec n _) fun r2 k4 h => ?_
   refine aw h [5] ?_; intro h
   refine bs h (fun c5 h => ?_) fun c5 h => ?_
   ·refine au h [2,1,1,1,1] ?_; intro h
    cases h
    exact ⟨_, rfl, .refl _⟩
   ·refine au h [3,1,1,1,1,1] ?_; intro h
    cases h
    exact ⟨_, rfl, .refl _⟩
  ·refine au h [3,1,1,1,1,8,8] ?_; intro h
   refine cb h (version_Validate_spec n _) fun r3 k6 h => ?_
   refine ax 33 h [5,8,1,1,8,5,5] ?_; intro h
   refine bs h (fun c7 h => ?_) fun c7 h => ?_
   ·refine au h [2,1,1,8,8,1,1] ?_; intro h
    cases h
    exact ⟨_, rfl, .refl _⟩
   ·refine au h [3,1,1,1,1,8,8,8,8] ?_; intro h
    refine cb h (version_Order_spec n _ _) fun r4 k8 h => ?_
    refine aw h [5] ?_; intro h
    refine bs h (fun c9 h => ?_) fun c9 h => ?_
    ·refine au h [2,1,1,1,1] ?_; intro h
     cases h
     exact ⟨_, rfl, .refl _⟩
    ·refine au h [3,1,1,1,1,1] ?_; intro h
     cases h
     exact ⟨_, rfl, .refl _⟩
end Go.Proofs.Ytfdennmaeoahgaa
namespace Go.Proofs.Ytfdennmaeoahgaa
open Go.PW Go
theorem verrange_Validate_spec (n : Nat) (a0 : SIntervals) (r : SCodeIndex) (h : verrange_Validate n a0 = some r) : PSpec Try.prog 67 [.agg (SIntervals.cells a0)] (.agg (SCodeIndex.cells r)) := by
 unfold verrange_Validate at h
 refine spec_of Try.c_verrange_Validate (by simp) ?_
 unfold Try.l_verrange_Validate
 refine au h [1,1,5,5,1,1,1,8,8,5,5] ?_; intro h
 refine bs h (fun c1 h => ?_) fun c1 h => ?_
 ·refine au h [2,1,1,5,8,1] ?_; intro h
  cases h
  exact ⟨_, rfl, .refl _⟩
 ·refine au h [3,1,1,1,1,8,8,5,1,1] ?_; intro h
  refine Ev.loopW (β := Nat × Int) (fun v => ⟨[(1, wP 10100), (2, wP 10101), (13, lP a0.Intervals), (14, iP (a0.Intervals.length : Int)), (15, iP v.2)], [(10100, eP 58 1 [[lP a0.Intervals]]), (10101, eP 30 2 [[iP 0, iP 0]])], 2⟩) (fun v => verrange_Validate_l1 n a0 v.1 v.2 = some r) (fun v => v.1) (n, 0) (.nA) h ?_
  intro ⟨m1, x1⟩ h
  try dsimp only at h ⊢
  cases m1 with
  | zero => rw [verrange_Validate_l1] at h; cases h
  | succ m1 =>
   rw [verrange_Validate_l1] at h
   refine au h [1,1,5,1] ?_; intro h
   refine bs h (fun c2 h => ?_) fun c2 h => ?_
   ·refine au h [2,1,1,1,1,1,1,5,5,5,1,8,1,1,8] ?_; intro e2 k3 h
    refine cb h (verrange_check_spec n _) fun r3 k4 h => ?_
    refine aw h [1] ?_; intro h
    refine Ev.seqJ (γ := Int) (fun v => ⟨[(1, wP 10200), (2, wP 10201), (3, iP x1), (5, iP v), (13, lP a0.Intervals), (14, iP (a0.Intervals.length : Int)), (15, iP x1)], [(10200, eP 58 1 [[lP a0.Intervals]]), (10201, eP 30 2 [[iP 0, iP 0]])], 2⟩) (fun v => verrange_Validate_j1 n x1 (verrange_Validate_l1 n a0 m1) v = some r) ?_ ?_
    ·refine Ev.seqJ (γ := Bool) (fun v => ⟨[(1, wP 10300), (2, wP 10301), (3, iP x1), (4, wP 10302), (5, iP r3), (13, lP a0.Intervals), (14, iP (a0.Intervals.length : Int)), (15, iP x1), (27, .bool v)], [(10300, eP 58 1 [[lP a0.Intervals]]), (10301, eP 30 2 [[iP 0, iP 0]]), (10302, eP 88 9 [[iP e2.Low.Major, iP e2.Low.Minor, iP e2.Low.Patch, lP e2.Low.Pre, iP e2.High.Major, iP e2.High.Minor, iP e2.High.Patch, lP e2.High.Pre, .bool e2.Unbounded]])], 2⟩) (fun v => verrange_Validate_j2 n a0 x1 (verrange_Validate_l1 n a0 m1) e2 r3 v = some r) ?_ ?_
     ·refine au h [1,1,5,1] ?_; intro h
      refine bs h (fun c13 h => ?_) fun c13 h => ?_
      ·refine aw h [2,1,2,5,2] ?_; intro h
       exact lf (decide (0 < x1)) h
      ·refine aw h [3,3,3] ?_; intro h
       exact lf false h
     ·intro x6 h
      try dsimp only at h ⊢
      unfold verrange_Validate_j2 at h
      refine bs h (fun c7 h => ?_) fun c7 h => ?_
      ·refine au h [2,1,1,8,8,1,7,5,5,5,8] ?_; intro x7 k8 e8 k9 h
       refine Ev.seqJ (γ := Bool) (fun v => ⟨[(1, wP 10400), (2, wP 10401), (3, iP x1), (5, iP r3), (13, lP a0.Intervals), (14, iP (a0.Intervals.length : Int)), (15, iP x1), (43, .bool v)], [(10400, eP 58 1 [[lP a0.Intervals]]), (10401, eP 30 2 [[iP 0, iP 0]])], 2⟩) (fun v => verrange_Validate_j3 n x1 (verrange_Validate_l1 n a0 m1) r3 v = some r) ?_ ?_
       ·refine au h [1,8,8,1] ?_; intro h
        refine bs h (fun c11 h => ?_) fun c11 h => ?_
        ·refine aw h [3,3,3,3,3,3,2] ?_; intro h
         exact lf true h
        ·refine aw h [2,8,2,8,2,8,2,8,2] ?_; intro h
         refine cb h (version_Order_spec n _ _) fun r10 k12 h => ?_
         refine aw h [2,5,3] ?_; intro h
         exact lf (decide (0 ≤ r10)) h
       ·intro x9 h
        try dsimp only at h ⊢
        unfold verrange_Validate_j3 at h
        refine bs h (fun c10 h => ?_) fun c10 h => ?_
        ·refine au h [2,1,1] ?_; intro h
         exact lf 5 h
        ·refine au h [3,1] ?_; intro h
         exact lf r3 h
      ·refine au h [3,1] ?_; intro h
       exact lf r3 h
    ·intro x4 h
     try dsimp only at h ⊢
     unfold verrange_Validate_j1 at h
     refine au h [1,1,1,5] ?_; intro h
     refine bs h (fun c5 h => ?_) fun c5 h => ?_
     ·refine au h [2,1,1,1,1,5,8,1] ?_; intro h
      cases h
      exact ⟨_, rfl, .refl _⟩
     ·refine au h [3,1,1,7,1] ?_; intro x5 k6 h
      exact lb (m1, x5) h
   ·refine au h [3,1,1,1,5,8,1] ?_; intro h
    cases h
    exact ⟨_, rfl, .refl _⟩
theorem solver_Needs_spec (n : Nat) (a0 : List SPackageRange) (a1 : Int) (r : Int) (h : solver_Needs n a0 a1 = some r) : PSpec Try.prog 56 [lP a0, iP a1] (iP r) := by
 unfold solver_Needs at h
 refine spec_of Try.c_solver_Needs (by simp) ?_
 unfold Try.l_solver_Needs
 refine au h [1,1,1,1,1,1,1,5,5] ?_; intro h
 refine bs h (fun c1 h => ?_) fun c1 h => ?_
 ·refine au h [2,1,1,1,1] ?_; intro h
  cases h
  exact ⟨_, rfl, .refl _⟩
 ·refine au h [3,1,1,1,1,1,5,1,1] ?_; intro h
  refine Ev.loopW (β := Nat × Int) (fun v => ⟨[(0, lP a0), (1, iP a1), (11, lP a0), (12, iP (a0.length : Int)), (13, iP v.2)], [], 2⟩) (fun v => solver_Needs_l1 n a0 a1 v.1 v.2 = some r) (fun v => v.1) (n, 0) (.nA) h ?_
  intro ⟨m1, x1⟩ h
  try dsimp only at h ⊢
  cases m1 with
  | zero => rw [solver_Needs_l1] at h; cases h
  | succ m1 =>
   rw [solver_Needs_l1] at h
   refine au h [1,1,5,1] ?_; intro h
   refine bs h (fun c2 h => ?_) fun c2 h => ?_
   ·refine au h [2,1,1,1,1,1,1,5,5,5,1,8,1] ?_; intro e2 k3 h
    refine Ev.seqJ (γ := Bool) (fun v => ⟨[(0, lP a0), (1, iP a1), (5, iP x1), (6, wP 10200), (11, lP a0), (12, iP (a0.length : Int)), (13, iP x1), (26, .bool v)], [(10200, eP 60 2 [[iP e2.Package, lP e2.Range.Intervals]])], 2⟩) (fun v => solver_Needs_j1 n a0 x1 (solver_Needs_l1 n a0 a1 m1) e2 v = some r) ?_ ?_
    ·refine au h [1,8,8,5,1] ?_; intro h
     refine bs h (fun c12 h => ?_) fun c12 h => ?_
     ·refine aw h [3,3,3,3,2] ?_; intro h
      exact lf true h
     ·refine aw h [2,8,2,8,2,1,2,5,3] ?_; intro h
      exact lf (decide (a1 ≤ e2.Package)) h
    ·intro x3 h
     try dsimp only at h ⊢
     unfold solver_Needs_j1 at h
     refine bs h (fun c4 h => ?_) fun c4 h => ?_
     ·refine au h [2,1,1,1,1] ?_; intro h
      cases h
      exact ⟨_, rfl, .refl _⟩
     ·refine au h [3,1,1,1,1,8,8] ?_; intro h
      refine cb h (verrange_Validate_spec n _) fun r4 k5 h => ?_
      refine ax 49 h [5,8,1,1,8,5,5] ?_; intro h
      refine bs h (fun c6 h => ?_) fun c6 h => ?_
      ·refine au h [2,1,1,8,8,1,1] ?_; intro h
       cases h
       exact ⟨_, rfl, .refl _⟩
      ·refine au h [3,1] ?_; intro h
       refine Ev.seqJ (γ := Bool) (fun v => ⟨[(0, lP a0), (1, iP a1), (11, lP a0), (12, iP (a0.length : Int)), (13, iP x1), (47, .bool v)], [], 2⟩) (fun v => solver_Needs_j2 n x1 (solver_Needs_l1 n a0 a1 m1) v = some r) ?_ ?_
       ·refine au h [1,1,5,1] ?_; intro h
        refine bs h (fun c9 h => ?_) fun c9 h => ?_
        ·refine aw h [2,8,2,8,2,1,2,1,2,7,2,5,2,5,2,5,2,5,2] ?_; intro x7 k10 e8 k11 h
         exact lf (decide (e2.Package ≤ e8.Package)) h
        ·refine aw h [3,3,3,3,3,3,3,3,3,3] ?_; intro h
         exact lf false h
       ·intro x5 h
        try dsimp only at h ⊢
        unfold solver_Needs_j2 at h
        refine bs h (fun c7 h => ?_) fun c7 h => ?_
        ·refine au h [2,1,1,1,1] ?_; intro h
         cases h
         exact ⟨_, rfl, .refl _⟩
        ·refine au h [3,1,1,7,1] ?_; intro x6 k8 h
         exact lb (m1, x6) h
   ·refine au h [3,1,1,1,1,1] ?_; intro h
    cases h
    exact ⟨_, rfl, .refl _⟩
theorem solver_releases_spec (n : Nat) (a0 : List SVersionNeeds) (a1 : Int) (r : Int) (h : solver_releases n a0 a1 = some r) : PSpec Try.prog 66 [lP a0, iP a1] (iP r) := by
 unfold solver_releases at h
 refine spec_of Try.c_solver_releases (by simp) ?_
 unfold Try.l_solver_releases
 refine au h [1,1,1,1,1,1,1,5,5] ?_; intro h
 refine bs h (fun c1 h => ?_) fun c1 h => ?_
 ·refine au h [2,1,1,1,1] ?_; intro h
  cases h
  exact ⟨_, rfl, .refl _⟩
 ·refine au h [3,1,1,1,1,1,5,1,1] ?_; intro h
  refine Ev.loopW (β := Nat × Int) (fun v => ⟨[(0, lP a0), (1, iP a1), (12, lP a0), (13, iP (a0.length : Int)), (14, iP v.2)], [], 2⟩) (fun v => solver_releases_l1 n a0 a1 v.1 v.2 = some r) (fun v => v.1) (n, 0) (.nA) h ?_
  intro ⟨m1, x1⟩ h
  try dsimp only at h ⊢
  cases m1 with
  | zero => rw [solver_releases_l1] at h; cases h
  | succ m1 =>
   rw [solver_releases_l1] at h
   refine au h [1,1,5,1] ?_; intro h
   refine bs h (fun c2 h => ?_) fun c2 h => ?_
   ·refine au h [2,1,1,1,1,1,1,5,5,5,1,8,1,1,1,8,8] ?_; intro e2 k3 h
    refine cb h (version_Validate_spec n _) fun r3 k4 h => ?_
    refine ax 49 h [5,8,1,1,8,5,5] ?_; intro h
    refine bs h (fun c5 h => ?_) fun c5 h => ?_
    ·refine au h [2,1,1,8,8,1,1] ?_; intro h
     cases h
     exact ⟨_, rfl, .refl _⟩
    ·refine au h [3,1,1] ?_; intro h
     refine Ev.seqJ (γ := Bool) (fun v => ⟨[(0, lP a0), (1, iP a1), (6, wP 10200), (12, lP a0), (13, iP (a0.length : Int)), (14, iP x1), (40, .bool v)], [(10200, eP 70 5 [[iP e2.Version.Major, iP e2.Version.Minor, iP e2.Version.Patch, lP e2.Version.Pre, lP e2.Needs]])], 2⟩) (fun v => solver_releases_j1 n a1 x1 (solver_releases_l1 n a0 a1 m1) e2 v = some r) ?_ ?_
     ·refine au h [1,1,5,1] ?_; intro h
      refine bs h (fun c10 h => ?_) fun c10 h => ?_
      ·refine aw h [2,8,2,8,2,1,2,1,2,7,2,5,2,5,2,5,2] ?_; intro x7 k11 e8 k12 h
       refine cb h (version_Order_spec n _ _) fun r9 k13 h => ?_
       refine aw h [2,5,2] ?_; intro h
       exact lf (decide (r9 ≤ 0)) h
      ·refine aw h [3,3,3,3,3,3,3,3,3,3,3] ?_; intro h
       exact lf false h
     ·intro x4 h
      try dsimp only at h ⊢
      unfold solver_releases_j1 at h
      refine bs h (fun c6 h => ?_) fun c6 h => ?_
      ·refine au h [2,1,1,1,1] ?_; intro h
       cases h
       exact ⟨_, rfl, .refl _⟩
      ·refine au h [3,1,1,1,8,8,1] ?_; intro h
       refine cb h (solver_Needs_spec n _ _) fun r5 k7 h => ?_
       refine ax 49 h [1,1,1,1,5] ?_; intro h
       refine bs h (fun c8 h => ?_) fun c8 h => ?_
       ·refine au h [2,1,1,1,1,1] ?_; intro h
        cases h
        exact ⟨_, rfl, .refl _⟩
       ·refine au h [3,1,1,7,1] ?_; intro x6 k9 h
        exact lb (m1, x6) h
   ·refine au h [3,1,1,1,1,1] ?_; intro h
    cases h
    exact ⟨_, rfl, .refl _⟩
theorem solver_Validate_spec (n : Nat) (a0 : SPackages) (r : SCodeIndex) (h : solver_Validate n a0 = some r) : PSpec Try.prog 55 [.agg (SPackages.cells a0)] (.agg (SCodeIndex.cells r)) := by
 unfold solver_Validate at h
 refine spec_of Try.c_solver_Validate (by simp) ?_
 unfold Try.l_solver_Validate
 refine au h [1,1,5,5,1,1,1,8,8,5,5] ?_; intro h
 refine bs h (fun c1 h => ?_) fun c1 h => ?_
 ·refine au h [2,1,1,5,8,1] ?_; intro h
  cases h
  exact ⟨_, rfl, .refl _⟩
 ·refine au h [3,1,1,1,1,8,8,5,1,1] ?_; intro h
  refine Ev.loopW (β := Nat × Int) (fun v => ⟨[(1, wP 10100), (2, wP 10101), (12, lP a0.Packages), (13, iP (a0.Packages.length : Int)), (14, iP v.2)], [(10100, eP 24 1 [[lP a0.Packages]]), (10101, eP 30 2 [[iP 0, iP 0]])], 2⟩) (fun v => solver_Validate_l1 n a0 v.1 v.2 = some r) (fun v => v.1) (n, 0) (.nA) h ?_
  intro ⟨m1, x1⟩ h
  try dsimp only at h ⊢
  cases m1 with
  | zero => rw [solver_Validate_l1] at h; cases h
  | succ m1 =>
   rw [solver_Validate_l1] at h
   refine au h [1,1,5,1] ?_; intro h
   refine bs h (fun c2 h => ?_) fun c2 h => ?_
   ·refine au h [2,1,1,1,1,1,1,5,5,1,1,1,1,1,8,8,5] ?_; intro e2 k3 h
    refine cb h (solver_releases_spec n _ _) fun r3 k4 h => ?_
    refine ax 31 h [1,1,1,1,5] ?_; intro h
    refine bs h (fun c5 h => ?_) fun c5 h => ?_
    ·refine au h [2,1,1,1,1,5,8,1] ?_; intro h
     cases h
     exact ⟨_, rfl, .refl _⟩
    ·refine au h [3,1,1,7,1] ?_; intro x4 k6 h
     exact lb (m1, x4) h
   ·refine au h [3,1,1,1,5,8,1] ?_; intro h
    cases h
    exact ⟨_, rfl, .refl _⟩
theorem solver_Arguments_spec (n : Nat) (a0 : SPackages) (a1 : List SPackageRange) (r : SCodeIndex) (h : solver_Arguments n a0 a1 = some r) : PSpec Try.prog 35 [.agg (SPackages.cells a0), lP a1] (.agg (SCodeIndex.cells r)) := by
 unfold solver_Arguments at h
 refine spec_of Try.c_solver_Arguments (by simp) ?_
 unfold Try.l_solver_Arguments
 refine au h [1,1,5,5,1,1,1,8] ?_; intro h
 refine cb h (solver_Validate_spec n _) fun r1 k1 h => ?_
 refine ax 23 h [5,8,1,1,8,5,5] ?_; intro h
 refine bs h (fun c2 h => ?_) fun c2 h => ?_
 ·refine au h [2,1,1,8,8,1] ?_; intro h
  cases h
  exact ⟨_, rfl, .refl _⟩
 ·refine au h [3,1,1,1,1,1,8,8,5] ?_; intro h
  refine cb h (solver_Needs_spec n _ _) fun r2 k3 h => ?_
  refine ax 23 h [1,1,1,1,5] ?_; intro h
  refine bs h (fun c4 h => ?_) fun c4 h => ?_
  ·refine au h [2,1,1,1,5,8,1] ?_; intro h
   cases h
   exact ⟨_, rfl, .refl _⟩
  ·refine au h [3,1,1,1,5,8,1] ?_; intro h
   cases h
   exact ⟨_, rfl, .refl _⟩
theorem explain_count_spec (n : Nat) (a0 : SPackages) (a1 : List SPackageRange) (r : Int) (h : explain_count n a0 a1 = some r) : PSpec Try.prog 36 [.agg (SPackages.cells a0), lP a1] (iP r) := by
 unfold explain_count at h
 refine spec_of Try.c_explain_count (by simp) ?_
 unfold Try.l_explain_count
 refine au h [1,1,5,1,1,1,1,5,1,1,1,1,8,8,5,1,1] ?_; intro h
 refine Ev.loopW (β := Nat × Int × Int) (fun v => ⟨[(5, iP v.2.1), (13, lP a0.Packages), (14, iP (a0.Packages.length : Int)), (15, iP v.2.2)], [], 2⟩) (fun v => explain_count_l1 n a0 v.1 v.2.1 v.2.2 = some r) (fun v => v.1) (n, (a1.length : Int), 0) (.nA) h ?_
 intro ⟨m1, x1, x2⟩ h
 try dsimp only at h ⊢
 cases m1 with
 | zero => rw [explain_count_l1] at h; cases h
 | succ m1 =>
  rw [explain_count_l1] at h
  refine au h [1,1,5,1] ?_; intro h
  refine bs h (fun c1 h => ?_) fun c1 h => ?_
  ·refine au h [2,1,1,1,1,1,5,5,1,1,1,1,5,1,1] ?_; intro e3 k2 h
   refine Ev.loopW (β := Nat × Int × Int) (fun v => ⟨[(5, iP v.2.1), (13, lP a0.Packages), (14, iP (a0.Packages.length : Int)), (15, iP x2), (19, lP e3), (20, iP (e3.length : Int)), (21, iP v.2.2)], [], 2⟩) (fun v => explain_count_l2 n x2 (explain_count_l1 n a0 m1) e3 v.1 v.2.1 v.2.2 = some r) (fun v => v.1) (n, x1, 0) (.nA) h ?_
   intro ⟨m2, x4, x5⟩ h
   try dsimp only at h ⊢
   cases m2 with
   | zero => rw [explain_count_l2] at h; cases h
   | succ m2 =>
    rw [explain_count_l2] at h
    refine au h [1,1,5,1] ?_; intro h
    refine bs h (fun c3 h => ?_) fun c3 h => ?_
    ·refine au h [2,1,1,1,1,1,5,5,5,8,1,1,8,8,5,7,1,1,7,1] ?_; intro e6 k4 x7 k5 x8 k6 h
     exact lb (m2, x7, x8) h
    ·refine au h [3,1,1,7,1] ?_; intro x9 k7 h
     exact lb (m1, x4, x9) h
  ·refine au h [3,1,1,1,1,1,1] ?_; intro h
   cases h
   exact ⟨_, rfl, .refl _⟩
theorem explain_Count_spec (n : Nat) (a0 : SPackages) (a1 : List SPackageRange) (r : (Int × SCodeIndex)) (h : explain_Count n a0 a1 = some r) : PSpec Try.prog 12 [.agg (SPackages.cells a0), lP a1] (.tup [iP r.1, .agg (SCodeIndex.cells r.2)]) := by
 unfold explain_Count at h
 refine spec_of Try.c_explain_Count (by simp) ?_
 unfold Try.l_explain_Count
 refine au h [1,1,5,1,5,1,1,1,8,1] ?_; intro h
 refine cb h (solver_Arguments_spec n _ _) fun r1 k1 h => ?_
 refine ax 18 h [5,8,1,1,8,5,5] ?_; intro h
 refine bs h (fun c2 h => ?_) fun c2 h => ?_
 ·refine au h [2,1,1,8,1,8,1] ?_; intro h
  cases h
  exact ⟨_, rfl, .refl _⟩
 ·refine au h [3,1,1,1,8,1] ?_; intro h
  refine cb h (explain_count_spec n _ _) fun r2 k3 h => ?_
  refine ax 18 h [5,1,8,1] ?_; intro h
  cases h
  exact ⟨_, rfl, .refl _⟩
theorem ref6_ConstraintCount_spec (n : Nat) (a0 : SPackages) (a1 : List SPackageRange) (r : Int) (h : ref6_ConstraintCount n a0 a1 = some r) : PSpec Try.prog 13 [.agg (SPackages.cells a0), lP a1] (iP r) := by
 unfold ref6_ConstraintCount at h
 refine spec_of Try.c_ref6_ConstraintCount (by simp) ?_
 unfold Try.l_ref6_ConstraintCount
 refine au h [1,1,5,1,1,1,1,5,1,1,1,1,1,1] ?_; intro h
 refine Ev.loopW (β := Nat × Int × Int) (fun v => ⟨[(2, wP 10100), (5, iP v.2.1), (6, iP v.2.2)], [(10100, eP 24 1 [[lP a0.Packages]])], 2⟩) (fun v => ref6_ConstraintCount_l1 n a0 v.1 v.2.1 v.2.2 = some r) (fun v => v.1) (n, (a1.length : Int), 0) (.nA) h ?_
 intro ⟨m1, x1, x2⟩ h
 try dsimp only at h ⊢
 cases m1 with
 | zero => rw [ref6_ConstraintCount_l1] at h; cases h
 | succ m1 =>
  rw [ref6_ConstraintCount_l1] at h
  refine au h [1,1,1,1,8,8,5,5] ?_; intro h
  refine bs h (fun c1 h => ?_) fun c1 h => ?_
  ·refine au h [2,1,1,1,1,1,1,1] ?_; intro h
   refine Ev.loopW (β := Nat × Int × Int) (fun v => ⟨[(2, wP 10200), (5, iP v.2.1), (6, iP x2), (7, iP v.2.2)], [(10200, eP 24 1 [[lP a0.Packages]])], 2⟩) (fun v => ref6_ConstraintCount_l2 n a0 x2 (ref6_ConstraintCount_l1 n a0 m1) v.1 v.2.1 v.2.2 = some r) (fun v => v.1) (n, x1, 0) (.nA) h ?_
   intro ⟨m2, x3, x4⟩ h
   try dsimp only at h ⊢
   cases m2 with
   | zero => rw [ref6_ConstraintCount_l2] at h; cases h
   | succ m2 =>
    rw [ref6_ConstraintCount_l2] at h
    refine au h [1,1,1,1,8,8,1,5,5,5,5] ?_; intro e5 k2 h
    refine bs h (fun c3 h => ?_) fun c3 h => ?_
    ·refine au h [2,1,1,1,1,1,8,8,1,6,5,1,5,5,5,5,7,1,1,1,7,1] ?_; intro e6 k4 x7 k5 x8 k6 h
     exact lb (m2, x7, x8) h
    ·refine au h [3,1,1,1,7,1] ?_; intro x9 k7 h
     exact lb (m1, x3, x9) h
  ·refine au h [3,1,1,1,1,1,1] ?_; intro h
   cases h
   exact ⟨_, rfl, .refl _⟩
theorem slices_Clone_string_own (n : Nat) (a0 : List (List UInt8)) (r : List (List UInt8)) (h : slices_Clone_string n a0 = some r) : PMut Try.prog 68 [.list 1 (List.map cS a0)] [] (.own 70000 0) [(70000, ⟨0, 9, 1, List.map cS r, true, false, false⟩)] := by
 unfold slices_Clone_string at h
 refine specMut_of Try.c_slices_Clone_string (by simp) (by simp) ?_
 unfold Try.l_slices_Clone_string
 cases a0 with
 | nil =>
  refine Ev.nilSplit 0 1 rfl (by decide) ?_ ?_
  ·refine Ev.seq ?_
   refine W.reg hm ?_
   refine W.mv rfl (W.nil ?_)
   refine Ev.seq (Ev.seq ?_)
   refine W.reg hm ?_
   refine W.mv rfl (W.isnilN rfl ?_)
   refine W.nil ?_
   refine Ev.condT rfl rfl ?_
   refine Ev.seq ?_
   refine W.reg hm ?_
   refine W.mv rfl (W.nil ?_)
   obtain ⟨w9, k9, h⟩ := obind h
   injection h with h; subst h
   have e9 := (gapp_some k9).2
   simp only [List.nil_append] at e9
   subst e9
   refine Ev.weak ?_ (Wk.ownNil 2 69999 9 1 rfl rfl)
   refine Ev.ret ?_
   exact ⟨_, _, Wk.nrmTo [2] [(69999, 70000)] rfl rfl, rfl, rfl, rfl, .refl _, fun nm h => by simp [PW.look] at h⟩
  ·refine Ev.seq ?_
   refine W.reg hm ?_
   refine W.mv rfl (W.nil ?_)
   refine Ev.seq (Ev.seq ?_)
   refine W.reg hm ?_
   refine W.mv rfl (W.isnilZ rfl ?_)
   refine W.nil ?_
   refine Ev.condF rfl rfl ?_
   refine Ev.skip ?_
   refine Ev.seq ?_
   refine Ev.weak ?_ (Wk.le (t := 0) rfl (.nz 1))
   refine W.reg hm ?_
   refine W.mkSlice (dt := true) (es := []) rfl rfl rfl rfl rfl rfl ?_
   refine W.mv rfl ?_
   obtain ⟨w1, k1, h⟩ := obind h
   refine W.appR true (l := ([] : List (List UInt8))) (c := cS) (ys := ([] : List (List UInt8))) rfl rfl rfl rfl rfl rfl rfl rfl k1 rfl (by simp) ?_
   refine W.mv rfl (W.nil ?_)
   refine Ev.ret ?_
   injection h with h; subst h
   exact ⟨_, _, Wk.nrmTo [2] [(7, 70000)] rfl rfl, rfl, rfl, rfl, .refl _, fun nm h => by simp [PW.look] at h⟩
 | cons x9 xs9 =>
  refine Ev.seq ?_
  refine W.reg hm ?_
  refine W.mv rfl (W.nil ?_)
  refine Ev.seq (Ev.seq ?_)
  refine W.reg hm ?_
  refine W.mv rfl (W.isnilC rfl ?_)
  refine W.nil ?_
  refine Ev.condF rfl rfl ?_
  refine Ev.skip ?_
  refine Ev.seq ?_
  refine W.reg hm ?_
  refine W.mkSlice (dt := true) (es := []) rfl rfl rfl rfl rfl rfl ?_
  refine W.mv rfl ?_
  obtain ⟨w1, k1, h⟩ := obind h
  refine W.appR true (l := ([] : List (List UInt8))) (c := cS) (ys := (x9 :: xs9)) rfl rfl rfl rfl rfl rfl rfl rfl k1 rfl (by simp) ?_
  refine W.mv rfl (W.nil ?_)
  refine Ev.ret ?_
  injection h with h; subst h
  exact ⟨_, _, Wk.nrmTo [2] [(7, 70000)] rfl rfl, rfl, rfl, rfl, .refl _, fun nm h => by simp [PW.look] at h⟩
theorem version_Copy_spec (n : Nat) (a0 : SMajorMinorPatchPre) (r : SMajorMinorPatchPre) (h : version_Copy n a0 = some r) : PSpec Try.prog 59 [.agg (SMajorMinorPatchPre.cells a0)] (.agg (SMajorMinorPatchPre.cells r)) := by
 unfold version_Copy at h
 refine spec_of Try.c_version_Copy (by simp) ?_
 unfold Try.l_version_Copy
 refine au h [1,1,5,5,1,1,8,8] ?_; intro h
 obtain ⟨r1, k1, h⟩ := obind h
 refine W.callO (slices_Clone_string_own n a0.Pre r1 k1) rfl (Les.refl _) rfl rfl rfl ?_
 refine ax 8 h [8,8,1,1,8,8] ?_; intro h
 refine Ev.weak ?_ (Wk.frz 5 2 rfl rfl)
 refine Ev.ret ?_
 cases h
 exact ⟨_, rfl, .refl _⟩
theorem verrange_Copy_spec (n : Nat) (a0 : SIntervals) (r : SIntervals) (h : verrange_Copy n a0 = some r) : PSpec Try.prog 58 [.agg (SIntervals.cells a0)] (.agg (SIntervals.cells r)) := by
 unfold verrange_Copy at h
 refine spec_of Try.c_verrange_Copy (by simp) ?_
 unfold Try.l_verrange_Copy
 refine au h [1,1,5,5,1,1,5,1,1,1,8,8,5,1,1] ?_; intro h
 refine Ev.loopW (β := Nat × (List SLowHighUnbounded) × Int) (fun v => ⟨[(2, wP 10100), (3, wP 10101), (7, lP a0.Intervals), (8, iP (a0.Intervals.length : Int)), (9, iP v.2.2)], [(10100, eP 58 1 [[.nils]]), (10101, ⟨0, 58, 1, [[.own 10102 0]], false, false, false⟩), (10102, eP 88 9 (mP v.2.1))], 2⟩) (fun v => verrange_Copy_l1 n a0 v.1 v.2.1 v.2.2 = some r) (fun v => v.1) (n, ([] : List SLowHighUnbounded), 0) ((Wk.ownNilCell 3 2 0 30102 88 9 rfl rfl rfl rfl rfl (by simp) true).trans (.nA)) h ?_
 intro ⟨m1, w1, x2⟩ h
 try dsimp only at h ⊢
 cases m1 with
 | zero => rw [verrange_Copy_l1] at h; cases h
 | succ m1 =>
  rw [verrange_Copy_l1] at h
  refine au h [1,1,5,1] ?_; intro h
  refine bs h (fun c1 h => ?_) fun c1 h => ?_
  ·refine au h [2,1,1,1,1,1,5,5,5,8,1,8,8,8,8] ?_; intro e3 k2 h
   refine cb h (version_Copy_spec n _) fun r4 k3 h => ?_
   refine aw h [8,8] ?_; intro h
   refine cb h (version_Copy_spec n _) fun r5 k4 h => ?_
   refine ax 29 h [8,8,5,5,7,8,8,1,7,1] ?_; intro w6 k5 x7 k6 h
   exact lb (m1, w6, x7) h
  ·refine au h [3,1,1,1,8,8] ?_; intro h
   refine Ev.weak ?_ (Wk.frz 10102 0 rfl rfl)
   refine Ev.ret ?_
   cases h
   exact ⟨_, rfl, .refl _⟩
theorem slices_Index_int_spec (n : Nat) (a0 : List Int) (a1 : Int) (r : Int) (h : slices_Index_int n a0 a1 = some r) : PSpec Try.prog 60 [lP a0, iP a1] (iP r) := by
 unfold slices_Index_int at h
 refine spec_of Try.c_slices_Index_int (by simp) ?_
 unfold Try.l_slices_Index_int
 refine au h [1,1,1,1,1,1,1,5,1,1] ?_; intro h
 refine Ev.loopW (β := Nat × Int) (fun v => ⟨[(0, lP a0), (1, iP a1), (7, iP (a0.length : Int)), (8, iP v.2)], [], 2⟩) (fun v => slices_Index_int_l1 n a0 a1 v.1 v.2 = some r) (fun v => v.1) (n, 0) (.nA) h ?_
 intro ⟨m1, x1⟩ h
 try dsimp only at h ⊢
 cases m1 with
 | zero => rw [slices_Index_int_l1] at h; cases h
 | succ m1 =>
  rw [slices_Index_int_l1] at h
  refine au h [1,1,5,1] ?_; intro h
  refine bs h (fun c1 h => ?_) fun c1 h => ?_
  ·refine au h [2,1,1,1,1,1,1,1,1,1,1,1,1,5,5,5] ?_; intro e2 k2 h
   refine bs h (fun c3 h => ?_) fun c3 h => ?_
   ·refine au h [2,1,1,1,1,1] ?_; intro h
    cases h
    exact ⟨_, rfl, .refl _⟩
   ·refine au h [3,1,1,7,1] ?_; intro x3 k4 h
    exact lb (m1, x3) h
  ·refine au h [3,1,1,1,1,1] ?_; intro h
   cases h
   exact ⟨_, rfl, .refl _⟩
end Go.Proofs.Ytfdennmaeoahgaa
namespace Go.Proofs.Ytfdennmaeoahgaa
open Go.PW Go
theorem slices_Contains_int_spec (n : Nat) (a0 : List Int) (a1 : Int) (r : Bool) (h : slices_Contains_int n a0 a1 = some r) : PSpec Try.prog 41 [lP a0, iP a1] (.bool r) := by
 unfold slices_Contains_int at h
 refine spec_of Try.c_slices_Contains_int (by simp) ?_
 unfold Try.l_slices_Contains_int
 refine au h [1,1,1,1,1,1,1] ?_; intro h
 refine cb h (slices_Index_int_spec n _ _) fun r1 k1 h => ?_
 refine ax 9 h [5,1,1] ?_; intro h
 cases h
 exact ⟨_, rfl, .refl _⟩
theorem explain_Keep_1_m1_spec (n : Nat) (a0 : Int) (a1 : List Int) (r : Bool) (h : explain_Keep_1_m1 n a0 a1 = some r) : PMut Try.prog 40 [iP a0, wP 60001] [(60001, eP 26 1 [[lP a1]])] (.bool r) [(60001, eP 26 1 [[lP a1]])] := by
 unfold explain_Keep_1_m1 at h
 refine specMut_of Try.c_explain_Keep_1 (by simp) (alls rfl all0) ?_
 unfold Try.l_explain_Keep_1
 refine au h [1,1,1,1,1,8,1] ?_; intro h
 refine cb h (slices_Contains_int_spec n _ _) fun r1 k1 h => ?_
 refine ax 7 h [1,1] ?_; intro h
 injection h with h; subst h
 exact ⟨_, [.bool r1], Wk.nrmTo [3, 125537] [(60001, 60001)] rfl rfl, rfl, rfl, rfl, .refl _, gh_ok ⟨rfl, trivial⟩⟩
theorem explain_filter_1_m1_spec (n : Nat) (a0 : List SPackageRange) (a1 : List Int) (a2 : Int) (r : ((List SPackageRange) × Int)) (h : explain_filter_1_m1 n a0 a1 a2 = some r) : PMut Try.prog 57 [lP a0, wP 60001, wP 60003] [(60001, ⟨0, 75, 1, [[.fn 40 [] [wP 60002]]], false, false, false⟩), (60002, eP 26 1 [[lP a1]]), (60003, eP 3 1 [[iP a2]])] (lP r.1) [(60001, ⟨0, 75, 1, [[.fn 40 [] [wP 60002]]], false, false, false⟩), (60002, eP 26 1 [[lP a1]]), (60003, eP 3 1 [[iP r.2]])] := by
 unfold explain_filter_1_m1 at h
 refine specMut_of Try.c_explain_filter_1 (by simp) (alls rfl (alls rfl (alls rfl all0))) ?_
 unfold Try.l_explain_filter_1
 refine au h [1,1,1,1,1,1,1,1,1,1,5,1,1] ?_; intro h
 refine Ev.loopW (β := Nat × Int × (List SPackageRange) × Int) (fun v => ⟨[(1, wP 10100), (2, wP 10102), (5, .own 10103 0), (8, lP a0), (9, iP (a0.length : Int)), (10, iP v.2.2.2), (125537, .own 10100 0), (125538, .own 10101 0), (125539, .own 10102 0)], [(10100, ⟨0, 75, 1, [[.fn 40 [] [wP 10101]]], false, false, false⟩), (10101, eP 26 1 [[lP a1]]), (10102, eP 3 1 [[iP v.2.1]]), (10103, eP 60 2 (mP v.2.2.1))], 2⟩) (fun v => explain_filter_1_m1_l1 n a0 a1 v.1 v.2.1 v.2.2.1 v.2.2.2 = some r) (fun v => v.1) (n, a2, ([] : List SPackageRange), 0) ((Wk.ownNil 5 30103 60 2 rfl rfl true).trans (.nA)) h ?_
 intro ⟨m1, b1, w2, x3⟩ h
 try dsimp only at h ⊢
 cases m1 with
 | zero => rw [explain_filter_1_m1_l1] at h; cases h
 | succ m1 =>
  rw [explain_filter_1_m1_l1] at h
  refine au h [1,1,5,1] ?_; intro h
  refine bs h (fun c1 h => ?_) fun c1 h => ?_
  ·refine au h [2,1,1,1,1,1,5,5,5,8] ?_; intro e4 k2 h
   refine Ev.seqJ (γ := List SPackageRange) (fun v => ⟨[(1, wP 10200), (2, wP 10202), (5, .own 10203 0), (8, lP a0), (9, iP (a0.length : Int)), (10, iP x3), (125537, .own 10200 0), (125538, .own 10201 0), (125539, .own 10202 0)], [(10200, ⟨0, 75, 1, [[.fn 40 [] [wP 10201]]], false, false, false⟩), (10201, eP 26 1 [[lP a1]]), (10202, eP 3 1 [[iP b1]]), (10203, eP 60 2 (mP v))], 2⟩) (fun v => explain_filter_1_m1_j1 n b1 x3 (explain_filter_1_m1_l1 n a0 a1 m1) v = some r) ?_ ?_
   ·refine au h [1,1,8,8] ?_; intro h
    obtain ⟨r8, k5, h⟩ := obind h
    refine W.callvM (fs := []) (cs := [wP 10101]) (xs := [iP b1]) (res' := .bool r8) (up := [(10101, eP 26 1 [[lP a1]])]) (tauOf [(60001, 10101, 0)]) (fun n => n) (explain_Keep_1_m1_spec n b1 a1 r8 k5) Try.b_explain_Keep_1 rfl (mutOk_of (.cons (.data rfl (.refl _)) (.cons (.tok rfl rfl) ArgsOk.nil)) rfl rfl rfl (alls ⟨⟨rfl, rfl, rfl⟩, ⟨_, rfl, rfl, rfl, .inl ⟨rfl, rfl, rfl⟩⟩⟩ all0) (alls ⟨⟨rfl, rfl, rfl⟩, keptOf rfl ⟨rfl, rfl⟩, .inl rfl⟩ all0) rfl) rfl rfl rfl rfl ?_
    refine W.nil ?_
    refine bs h (fun c6 h => ?_) fun c6 h => ?_
    ·refine au h [2,1,1,8,8,8,8] ?_; intro h
     refine cb h (verrange_Copy_spec n _) fun r9 k7 h => ?_
     refine aw h [5,5,7,1] ?_; intro w10 k8 h
     exact lf w10 h
    ·refine au h [3,1] ?_; intro h
     exact lf w2 h
   ·intro w5 h
    try dsimp only at h ⊢
    unfold explain_filter_1_m1_j1 at h
    refine au h [1,8,7,8,1,7,1] ?_; intro x6 k3 x7 k4 h
    exact lb (m1, x6, w5, x7) h
  ·refine au h [3,1,1,1,1,1] ?_; intro h
   refine Ev.weak ?_ (Wk.frz 10103 0 rfl rfl)
   refine Ev.ret ?_
   injection h with h; subst h
   exact ⟨_, [lP w2], Wk.nrmTo [4, 125537, 125538, 125539] [(10100, 60001), (10101, 60002), (10102, 60003)] rfl rfl, rfl, rfl, rfl, .refl _, gh_ok ⟨rfl, rfl, rfl, trivial⟩⟩
theorem explain_Keep_spec (n : Nat) (a0 : SPackages) (a1 : List SPackageRange) (a2 : List Int) (r : (SPackages × (List SPackageRange) × SCodeIndex)) (h : explain_Keep n a0 a1 a2 = some r) : PSpec Try.prog 15 [.agg (SPackages.cells a0), lP a1, lP a2] (.tup [.agg (SPackages.cells r.1), lP r.2.1, .agg (SCodeIndex.cells r.2.2)]) := by
 unfold explain_Keep at h
 refine spec_of Try.c_explain_Keep (by simp) ?_
 unfold Try.l_explain_Keep
 refine au h [1,1,5,5,5,1,5,1,1,1,8,1] ?_; intro h
 refine cb h (solver_Arguments_spec n _ _) fun r1 k1 h => ?_
 refine ax 66 h [5,8,1,1,8,5,5] ?_; intro h
 refine bs h (fun c2 h => ?_) fun c2 h => ?_
 ·refine au h [2,1,1,5,8,8,1,8,1] ?_; intro h
  cases h
  exact ⟨_, rfl, Le.tups (.cons (Le.aggs (.cons (.nils 1) (.nil)) rfl) (.cons (.nils 2) (.cons (.refl _) (.nil))))⟩
 ·refine au h [3,1,1,1,8,1] ?_; intro h
  refine cb h (explain_count_spec n _ _) fun r2 k3 h => ?_
  refine ax 66 h [1,1,1,1,8,5,1,1] ?_; intro h
  refine Ev.loopW (β := Nat × Int) (fun v => ⟨[(1, lP a1), (3, wP 10100), (5, wP 10101), (6, wP 10102), (8, wP 10103), (10, iP r2), (26, lP a2), (27, iP (a2.length : Int)), (28, iP v.2)], [(10100, eP 24 1 [[lP a0.Packages]]), (10101, eP 26 1 [[lP a2]]), (10102, eP 24 1 [[.nils]]), (10103, eP 30 2 [[iP 0, iP 0]])], 2⟩) (fun v => explain_Keep_l1 n a0 a1 a2 r2 v.1 v.2 = some r) (fun v => v.1) (n, 0) (.nA) h ?_
  intro ⟨m1, x3⟩ h
  try dsimp only at h ⊢
  cases m1 with
  | zero => rw [explain_Keep_l1] at h; cases h
  | succ m1 =>
   rw [explain_Keep_l1] at h
   refine au h [1,1,5,1] ?_; intro h
   refine bs h (fun c4 h => ?_) fun c4 h => ?_
   ·refine au h [2,1,1,1,1,1,1,5,5,1,1,1] ?_; intro e4 k5 h
    refine Ev.seqJ (γ := Bool) (fun v => ⟨[(1, lP a1), (3, wP 10200), (5, wP 10201), (6, wP 10202), (8, wP 10203), (10, iP r2), (11, iP x3), (12, iP e4), (26, lP a2), (27, iP (a2.length : Int)), (28, iP x3), (39, .bool v)], [(10200, eP 24 1 [[lP a0.Packages]]), (10201, eP 26 1 [[lP a2]]), (10202, eP 24 1 [[.nils]]), (10203, eP 30 2 [[iP 0, iP 0]])], 2⟩) (fun v => explain_Keep_j1 n a2 x3 (explain_Keep_l1 n a0 a1 a2 r2 m1) e4 v = some r) ?_ ?_
    ·refine au h [1,1,5,1] ?_; intro h
     refine bs h (fun c12 h => ?_) fun c12 h => ?_
     ·refine aw h [3,3,3,2] ?_; intro h
      exact lf true h
     ·refine aw h [2,1,2,1,2,5,3] ?_; intro h
      exact lf (decide (r2 ≤ e4)) h
    ·intro x5 h
     try dsimp only at h ⊢
     unfold explain_Keep_j1 at h
     refine bs h (fun c6 h => ?_) fun c6 h => ?_
     ·refine au h [2,1,1,5,5,8,1,8,1] ?_; intro h
      cases h
      exact ⟨_, rfl, Le.tups (.cons (Le.aggs (.cons (.nils 1) (.nil)) rfl) (.cons (.nils 2) (.cons (.refl _) (.nil))))⟩
     ·refine au h [3,1] ?_; intro h
      refine Ev.seqJ (γ := Bool) (fun v => ⟨[(1, lP a1), (3, wP 10300), (5, wP 10301), (6, wP 10302), (8, wP 10303), (10, iP r2), (26, lP a2), (27, iP (a2.length : Int)), (28, iP x3), (52, .bool v)], [(10300, eP 24 1 [[lP a0.Packages]]), (10301, eP 26 1 [[lP a2]]), (10302, eP 24 1 [[.nils]]), (10303, eP 30 2 [[iP 0, iP 0]])], 2⟩) (fun v => explain_Keep_j2 n x3 (explain_Keep_l1 n a0 a1 a2 r2 m1) v = some r) ?_ ?_
      ·refine au h [1,1,5,1] ?_; intro h
       refine bs h (fun c9 h => ?_) fun c9 h => ?_
       ·refine aw h [2,1,2,8,2,1,2,7,2,5,2,5,2,5,2] ?_; intro x8 k10 e9 k11 h
        exact lf (decide (e4 ≤ e9)) h
       ·refine aw h [3,3,3,3,3,3,3,3] ?_; intro h
        exact lf false h
      ·intro x6 h
       try dsimp only at h ⊢
       unfold explain_Keep_j2 at h
       refine bs h (fun c7 h => ?_) fun c7 h => ?_
       ·refine au h [2,1,1,5,5,8,1,8,1] ?_; intro h
        cases h
        exact ⟨_, rfl, Le.tups (.cons (Le.aggs (.cons (.nils 1) (.nil)) rfl) (.cons (.nils 2) (.cons (.refl _) (.nil))))⟩
       ·refine au h [3,1,1,7,1] ?_; intro x7 k8 h
        exact lb (m1, x7) h
   ·refine au h [3,1,1] ?_; intro h
    refine Ev.regS rfl ?_
    refine Sq.w 3 nb ?_
    refine aw h [8,1] ?_; intro h
    refine W.mkfn rfl (W.nil ?_)
    refine Sq.call rfl Try.c_explain_filter ⟨_, rfl, nb, ?_⟩
    unfold Try.l_explain_filter
    refine Ev.retJ (γ := (List (List SVersionNeeds)) × (List SPackageRange)) (fun v => ⟨[(6, wP 10200), (7, lP v.2), (65542, wP 10202), (65544, wP 10203)], [(10200, ⟨0, 24, 1, [[.own 10201 0]], false, false, false⟩), (10201, eP 68 1 (mP v.1)), (10202, eP 24 1 [[.nils]]), (10203, eP 30 2 [[iP 0, iP 0]])], 2⟩) (fun v => explain_Keep_j3 n v.1 v.2 = some r) ?_ ?_
    ·refine au h [1,1,5,5,5,1,1,1,5,8,1,1] ?_; intro h
     refine W.mkfn rfl ?_
     refine ax 55 h [1,1,1,1,1] ?_; intro h
     obtain ⟨r12, k13, h⟩ := obind h
     refine W.callvM (fs := []) (cs := [.pown 5 2 0 0, .pown 8 2 0 0]) (xs := [lP a1]) (res' := lP r12.1) (up := [(5, ⟨2, 75, 1, [[.fn 40 [] [wP 10101]]], false, true, false⟩), (10101, eP 26 1 [[lP a2]]), (8, ⟨2, 3, 1, [[iP r12.2]], true, true, false⟩)]) (tauOf [(60001, 5, 2), (60002, 10101, 0), (60003, 8, 2)]) (fun n => n) (explain_filter_1_m1_spec n a1 a2 0 r12 k13) Try.b_explain_filter_1 rfl (mutOk_of (.cons (.data rfl (.refl _)) (.cons (.tok rfl rfl) (.cons (.tok rfl rfl) ArgsOk.nil))) rfl rfl rfl (alls ⟨⟨rfl, rfl, rfl⟩, ⟨_, rfl, rfl, rfl, .inr ⟨rfl, rfl, all1 (alls rfl (all0))⟩⟩⟩ (alls ⟨⟨rfl, rfl, rfl⟩, ⟨_, rfl, rfl, rfl, .inl ⟨rfl, rfl, rfl⟩⟩⟩ (alls ⟨⟨rfl, rfl, rfl⟩, ⟨_, rfl, rfl, rfl, .inl ⟨rfl, rfl, rfl⟩⟩⟩ all0))) (alls ⟨⟨rfl, rfl, rfl⟩, keptOf rfl ⟨rfl, rfl⟩, .inr (all1 (alls rfl (all0)))⟩ (alls ⟨⟨rfl, rfl, rfl⟩, keptOf rfl ⟨rfl, rfl⟩, .inl rfl⟩ (alls ⟨⟨rfl, rfl, rfl⟩, keptOf rfl ⟨rfl, rfl⟩, .inl rfl⟩ all0))) rfl) rfl rfl rfl rfl ?_
     refine ax 55 h [1,1,1,5,1,1,1,8,8,5,1,1] ?_; intro h
     refine Ev.loopW (β := Nat × Int × (List (List SVersionNeeds)) × Int) (fun v => ⟨[(6, wP 10300), (9, .fn 57 [] [wP 10301, wP 10303]), (10, lP r12.1), (11, wP 10304), (22, lP a0.Packages), (23, iP (a0.Packages.length : Int)), (24, iP v.2.2.2), (65542, wP 10306), (65544, wP 10307)], [(10300, eP 24 1 [[.nils]]), (10301, ⟨0, 75, 1, [[.fn 40 [] [wP 10302]]], false, false, false⟩), (10302, eP 26 1 [[lP a2]]), (10303, eP 3 1 [[iP v.2.1]]), (10304, ⟨0, 24, 1, [[.own 10305 0]], false, false, false⟩), (10305, eP 68 1 (mP v.2.2.1)), (10306, eP 24 1 [[.nils]]), (10307, eP 30 2 [[iP 0, iP 0]])], 2⟩) (fun v => explain_Keep_l2 n a0 a2 r12 v.1 v.2.1 v.2.2.1 v.2.2.2 = some r) (fun v => v.1) (n, r12.2, ([] : List (List SVersionNeeds)), 0) ((Wk.ownNilCell 11 2 0 30305 68 1 rfl rfl rfl rfl rfl (by simp) true).trans (.nA)) h ?_
     intro ⟨m2, b13, w14, x15⟩ h
     try dsimp only at h ⊢
     cases m2 with
     | zero => rw [explain_Keep_l2] at h; cases h
     | succ m2 =>
      rw [explain_Keep_l2] at h
      refine au h [1,1,5,1] ?_; intro h
      refine bs h (fun c14 h => ?_) fun c14 h => ?_
      ·refine au h [2,1,1,1,1,1,5,5,1,1,1,1,1,1,1,1,5,1,1] ?_; intro e16 k15 h
       refine Ev.loopW (β := Nat × Int × (List SVersionNeeds) × Int) (fun v => ⟨[(6, wP 10400), (9, .fn 57 [] [wP 10401, wP 10403]), (10, lP r12.1), (11, wP 10404), (14, .own 10406 0), (22, lP a0.Packages), (23, iP (a0.Packages.length : Int)), (24, iP x15), (28, lP e16), (29, iP (e16.length : Int)), (30, iP v.2.2.2), (65542, wP 10407), (65544, wP 10408)], [(10400, eP 24 1 [[.nils]]), (10401, ⟨0, 75, 1, [[.fn 40 [] [wP 10402]]], false, false, false⟩), (10402, eP 26 1 [[lP a2]]), (10403, eP 3 1 [[iP v.2.1]]), (10404, ⟨0, 24, 1, [[.own 10405 0]], false, false, false⟩), (10405, eP 68 1 (mP w14)), (10406, eP 70 5 (mP v.2.2.1)), (10407, eP 24 1 [[.nils]]), (10408, eP 30 2 [[iP 0, iP 0]])], 2⟩) (fun v => explain_Keep_l3 n a2 w14 x15 (explain_Keep_l2 n a0 a2 r12 m2) e16 v.1 v.2.1 v.2.2.1 v.2.2.2 = some r) (fun v => v.1) (n, b13, ([] : List SVersionNeeds), 0) ((Wk.ownNil 14 30406 70 5 rfl rfl true).trans (.nA)) h ?_
       intro ⟨m3, b17, w18, x19⟩ h
       try dsimp only at h ⊢
       cases m3 with
       | zero => rw [explain_Keep_l3] at h; cases h
       | succ m3 =>
        rw [explain_Keep_l3] at h
        refine au h [1,1,5,1] ?_; intro h
        refine bs h (fun c16 h => ?_) fun c16 h => ?_
        ·refine au h [2,1,1,1,1,1,5,5,5,8,1,1,8,8] ?_; intro e20 k17 h
         refine cb h (version_Copy_spec n _) fun r21 k18 h => ?_
         refine aw h [1,8,8] ?_; intro h
         obtain ⟨r22, k19, h⟩ := obind h
         refine W.callvM (fs := []) (cs := [wP 10401, wP 10403]) (xs := [lP e20.Needs]) (res' := lP r22.1) (up := [(10401, ⟨0, 75, 1, [[.fn 40 [] [wP 10402]]], false, false, false⟩), (10402, eP 26 1 [[lP a2]]), (10403, eP 3 1 [[iP r22.2]])]) (tauOf [(60001, 10401, 0), (60002, 10402, 0), (60003, 10403, 0)]) (fun n => n) (explain_filter_1_m1_spec n e20.Needs a2 b17 r22 k19) Try.b_explain_filter_1 rfl (mutOk_of (.cons (.data rfl (.refl _)) (.cons (.tok rfl rfl) (.cons (.tok rfl rfl) ArgsOk.nil))) rfl rfl rfl (alls ⟨⟨rfl, rfl, rfl⟩, ⟨_, rfl, rfl, rfl, .inr ⟨rfl, rfl, all1 (alls rfl (all0))⟩⟩⟩ (alls ⟨⟨rfl, rfl, rfl⟩, ⟨_, rfl, rfl, rfl, .inl ⟨rfl, rfl, rfl⟩⟩⟩ (alls ⟨⟨rfl, rfl, rfl⟩, ⟨_, rfl, rfl, rfl, .inl ⟨rfl, rfl, rfl⟩⟩⟩ all0))) (alls ⟨⟨rfl, rfl, rfl⟩, keptOf rfl ⟨rfl, rfl⟩, .inr (all1 (alls rfl (all0)))⟩ (alls ⟨⟨rfl, rfl, rfl⟩, keptOf rfl ⟨rfl, rfl⟩, .inl rfl⟩ (alls ⟨⟨rfl, rfl, rfl⟩, keptOf rfl ⟨rfl, rfl⟩, .inl rfl⟩ all0))) rfl) rfl rfl rfl rfl ?_
         refine ax 55 h [5,5,7,1,1,7,1] ?_; intro w23 k20 x24 k21 h
         exact lb (m3, r22.2, w23, x24) h
        ·refine au h [3,1] ?_; intro h
         refine Ev.weak ?_ (Wk.frz 10406 0 rfl rfl)
         refine au h [1,8,8,1,5,7,8,8,1,7,1] ?_; intro w25 k22 x26 k23 h
         exact lb (m2, b17, w25, x26) h
      ·refine au h [3,1,1,1,8,1,8,1,1] ?_; intro h
       exact lf (w14, r12.1) h
    ·intro ⟨w10, x11⟩ h
     try dsimp only at h ⊢
     unfold explain_Keep_j3 at h
     refine ⟨_, rfl, ?_⟩
     refine Sq.wEnd nb ?_
     refine ax 66 h [1,5,5,5,8,1,1,1,8,1,5,8,1,8] ?_; intro h
     refine Ev.weak ?_ (Wk.frz 10201 0 rfl rfl)
     refine Ev.ret ?_
     cases h
     exact ⟨_, rfl, .refl _⟩
theorem verrange_Has_spec (n : Nat) (a0 : SIntervals) (a1 : SMajorMinorPatchPre) (r : Bool) (h : verrange_Has n a0 a1 = some r) : PSpec Try.prog 71 [.agg (SIntervals.cells a0), .agg (SMajorMinorPatchPre.cells a1)] (.bool r) := by
 unfold verrange_Has at h
 refine spec_of Try.c_verrange_Has (by simp) ?_
 unfold Try.l_verrange_Has
 refine au h [1,1,5,5,1,1] ?_; intro h
 refine Ev.regS rfl ?_
 refine Sq.w 3 nb ?_
 refine aw h [8,8] ?_; intro h
 refine W.mkfn rfl (W.nil ?_)
 refine Sq.weak (st' := ⟨[(4, .bool false), (6, lP a0.Intervals), (7, .fn 80 [] [wP 10000])], [(10000, eP 64 4 [[iP a1.Major, iP a1.Minor, iP a1.Patch, lP a1.Pre]])], 2⟩) ?_ (.nA)
 refine Sq.call rfl Try.c_slices_ContainsFunc_api_VersionInterval_api_VersionInterval ⟨_, rfl, nb, ?_⟩
 unfold Try.l_slices_ContainsFunc_api_VersionInterval_api_VersionInterval
 refine Ev.retJ (γ := Bool) (fun v => ⟨[(4, .bool v), (65540, .bool false)], [], 2⟩) (fun v => verrange_Has_j1 n v = some r) ?_ ?_
 ·refine au h [1,1,1,1] ?_; intro h
  refine Ev.regS rfl ?_
  refine Sq.w 2 nb ?_
  refine aw h [1,1] ?_; intro h
  refine Sq.call rfl Try.c_slices_IndexFunc_api_VersionInterval_api_VersionInterval ⟨_, rfl, nb, ?_⟩
  unfold Try.l_slices_IndexFunc_api_VersionInterval_api_VersionInterval
  refine Ev.retJ (γ := Int) (fun v => ⟨[(4, iP v), (65540, .bool false), (131076, .bool false)], [], 2⟩) (fun v => verrange_Has_j2 n v = some r) ?_ ?_
  ·refine au h [1,1,1,1,1,1,1,5,1,1] ?_; intro h
   refine Ev.loopW (β := Nat × Int) (fun v => ⟨[(0, lP a0.Intervals), (1, .fn 80 [] [wP 10300]), (7, iP (a0.Intervals.length : Int)), (8, iP v.2), (65540, .bool false), (131076, .bool false)], [(10300, eP 64 4 [[iP a1.Major, iP a1.Minor, iP a1.Patch, lP a1.Pre]])], 2⟩) (fun v => verrange_Has_l1 n a0 a1 v.1 v.2 = some r) (fun v => v.1) (n, 0) (.nA) h ?_
   intro ⟨m1, x3⟩ h
   try dsimp only at h ⊢
   cases m1 with
   | zero => rw [verrange_Has_l1] at h; cases h
   | succ m1 =>
    rw [verrange_Has_l1] at h
    refine au h [1,1,5,1] ?_; intro h
    refine bs h (fun c1 h => ?_) fun c1 h => ?_
    ·refine au h [2,1,1,1,1,1,1,1,1] ?_; intro h
     refine Ev.regS rfl ?_
     refine Sq.w 5 nb ?_
     refine aw h [1,1,1,5,5] ?_; intro e4 k2 h
     refine Sq.callv (f := 80) rfl Try.b_verrange_Has_1 Try.c_verrange_Has_1 ⟨_, _, _, rfl, nb, ?_⟩
     unfold Try.l_verrange_Has_1
     refine Ev.retJ (γ := Bool) (fun v => ⟨[(3, .bool v), (65536, lP a0.Intervals), (65537, .fn 80 [] [wP 10400]), (65541, iP x3), (65543, iP (a0.Intervals.length : Int)), (65544, iP x3), (131076, .bool false), (196612, .bool false)], [(10400, eP 64 4 [[iP a1.Major, iP a1.Minor, iP a1.Patch, lP a1.Pre]])], 2⟩) (fun v => verrange_Has_j3 n x3 (verrange_Has_l1 n a0 a1 m1) v = some r) ?_ ?_
     ·refine au h [1,1,5,1] ?_; intro h
      refine Ev.seqJ (γ := Bool) (fun v => ⟨[(3, .bool v), (65536, lP a0.Intervals), (65537, .fn 80 [] [wP 10500]), (65541, iP x3), (65543, iP (a0.Intervals.length : Int)), (65544, iP x3), (131076, .bool false), (196612, .bool false)], [(10500, eP 64 4 [[iP a1.Major, iP a1.Minor, iP a1.Patch, lP a1.Pre]])], 2⟩) (fun v => verrange_Has_j4 n x3 (verrange_Has_l1 n a0 a1 m1) v = some r) ?_ ?_
      ·refine au h [1,8,8,8] ?_; intro h
       refine cb h (version_Order_spec n _ _) fun r8 k5 h => ?_
       refine aw h [5,1] ?_; intro h
       refine bs h (fun c6 h => ?_) fun c6 h => ?_
       ·refine aw h [2,8,2,8,2,1] ?_; intro h
        refine bs h (fun c7 h => ?_) fun c7 h => ?_
        ·refine aw h [3,3,3,3,3,2,2,2,1] ?_; intro h
         exact lf true h
        ·refine aw h [2,8,2,8,2,8,2] ?_; intro h
         refine cb h (version_Order_spec n _ _) fun r9 k8 h => ?_
         refine aw h [2,5,2,3,2,1] ?_; intro h
         exact lf (decide (r9 < 0)) h
       ·refine aw h [3,3,3,4,4,4,4,4,3,3,1] ?_; intro h
        exact lf false h
      ·intro x7 h
       try dsimp only at h ⊢
       unfold verrange_Has_j4 at h
       refine Ev.ret ?_
       exact lf x7 h
     ·intro x5 h
      try dsimp only at h ⊢
      unfold verrange_Has_j3 at h
      refine ⟨_, rfl, ?_⟩
      refine Sq.wEnd nb ?_
      refine W.nil ?_
      refine bs h (fun c3 h => ?_) fun c3 h => ?_
      ·refine au h [2,1,1,1,1,1] ?_; intro h
       exact lf x3 h
      ·refine au h [3,1,1,7,1] ?_; intro x6 k4 h
       exact lb (m1, x6) h
    ·refine au h [3,1,1,1,1,1] ?_; intro h
     exact lf (-1) h
  ·intro x2 h
   try dsimp only at h ⊢
   unfold verrange_Has_j2 at h
   refine ⟨_, rfl, ?_⟩
   refine Sq.wEnd nb ?_
   refine ax 9 h [5,1,1] ?_; intro h
   exact lf (decide (0 ≤ x2)) h
 ·intro x1 h
  try dsimp only at h ⊢
  unfold verrange_Has_j1 at h
  refine ⟨_, rfl, ?_⟩
  refine Sq.wEnd nb ?_
  refine ax 9 h [1,1] ?_; intro h
  cases h
  exact ⟨_, rfl, .refl _⟩
theorem solver_demands_spec (n : Nat) (a0 : SPackages) (a1 : List SPackageRange) (r : (List SOfBy)) (h : solver_demands n a0 a1 = some r) : PSpec Try.prog 63 [.agg (SPackages.cells a0), lP a1] (lP r) := by
 unfold solver_demands at h
 refine spec_of Try.c_solver_demands (by simp) ?_
 unfold Try.l_solver_demands
 refine au h [1,1,5,1,1,1,1,1,1,1,1,5,1,1] ?_; intro h
 refine Ev.loopW (β := Nat × (List SOfBy) × Int) (fun v => ⟨[(2, wP 10100), (5, .own 10101 0), (11, lP a1), (12, iP (a1.length : Int)), (13, iP v.2.2)], [(10100, eP 24 1 [[lP a0.Packages]]), (10101, eP 101 5 (mP v.2.1))], 2⟩) (fun v => solver_demands_l1 n a0 a1 v.1 v.2.1 v.2.2 = some r) (fun v => v.1) (n, ([] : List SOfBy), 0) ((Wk.ownNil 5 30101 101 5 rfl rfl true).trans (.nA)) h ?_
 intro ⟨m1, w1, x2⟩ h
 try dsimp only at h ⊢
 cases m1 with
 | zero => rw [solver_demands_l1] at h; cases h
 | succ m1 =>
  rw [solver_demands_l1] at h
  refine au h [1,1,5,1] ?_; intro h
  refine bs h (fun c1 h => ?_) fun c1 h => ?_
  ·refine au h [2,1,1,1,1,1,5,5,5,8,1,1,8,8,5,5,8,1,1,1,8,8,8,8,5,5,5,1,1] ?_; intro e3 k2 e4 k3 h
   refine Ev.loopW (β := Nat × Bool × Bool × Bool × Bool × Int) (fun v => ⟨[(2, wP 10200), (5, .own 10201 0), (7, wP 10202), (8, wP 10203), (11, lP a1), (12, iP (a1.length : Int)), (13, iP x2), (25, lP e4), (26, iP (e4.length : Int)), (27, iP v.2.2.2.2.2)], [(10200, eP 24 1 [[lP a0.Packages]]), (10201, eP 101 5 (mP w1)), (10202, eP 60 2 [[iP e3.Package, lP e3.Range.Intervals]]), (10203, eP 101 5 [[iP e3.Package, .bool v.2.1, .bool v.2.2.1, .bool v.2.2.2.1, .bool v.2.2.2.2.1]])], 2⟩) (fun v => solver_demands_l2 n w1 x2 (solver_demands_l1 n a0 a1 m1) e3 e4 v.1 v.2.1 v.2.2.1 v.2.2.2.1 v.2.2.2.2.1 v.2.2.2.2.2 = some r) (fun v => v.1) (n, false, false, false, false, 0) (.nA) h ?_
   intro ⟨m2, b5, b6, b7, b8, x9⟩ h
   try dsimp only at h ⊢
   cases m2 with
   | zero => rw [solver_demands_l2] at h; cases h
   | succ m2 =>
    rw [solver_demands_l2] at h
    refine au h [1,1,5,1] ?_; intro h
    refine bs h (fun c4 h => ?_) fun c4 h => ?_
    ·refine au h [2,1,1,1,1,1,1,5,5,5,1,8,1,1,8,8,8,8] ?_; intro e10 k5 h
     refine cb h (verrange_Has_spec n _ _) fun r11 k6 h => ?_
     refine aw h [8] ?_; intro h
     obtain ⟨i12, k7, h⟩ := obind h
     refine W.idxAOG rfl rfl rfl k7 ?_
     refine W.store (es' := [[iP e3.Package, .bool (if i12 = 0 then r11 else b5), .bool (if i12 = 1 then r11 else b6), .bool (if i12 = 2 then r11 else b7), .bool (if i12 = 3 then r11 else b8)]]) (dt := true) rfl rfl rfl rfl rfl (by obtain ⟨_, q1, q2⟩ := garr_some k7; show _ + i12.toNat * 1 + 1 ≤ 5; omega) rfl (by obtain ⟨_, q1, q2⟩ := garr_some k7; rcases (show i12 = 0 ∨ i12 = 1 ∨ i12 = 2 ∨ i12 = 3 by omega) with e | e | e | e <;> rw [e] <;> rfl) rfl rfl ?_
     refine ax 47 h [1,7,1] ?_; intro x13 k8 h
     exact lb (m2, (if i12 = 0 then r11 else b5), (if i12 = 1 then r11 else b6), (if i12 = 2 then r11 else b7), (if i12 = 3 then r11 else b8), x13) h
    ·refine au h [3,1,1,1,8,5,7,1,1,7,1] ?_; intro w14 k9 x15 k10 h
     exact lb (m1, w14, x15) h
  ·refine au h [3,1,1,1,1,1,1] ?_; intro h
   cases h
   exact ⟨_, rfl, .refl _⟩
theorem solver_open_spec (n : Nat) (a0 : SPackages) (a1 : List SPackageRange) (r : SWantsNeeds) (h : solver_open n a0 a1 = some r) : PSpec Try.prog 49 [.agg (SPackages.cells a0), lP a1] (.agg (SWantsNeeds.cells r)) := by
 unfold solver_open at h
 refine spec_of Try.c_solver_open (by simp) ?_
 unfold Try.l_solver_open
 refine au h [1,1,5,5,1,1,8,1] ?_; intro h
 refine cb h (solver_demands_spec n _ _) fun r1 k1 h => ?_
 refine ax 44 h [5,5,8,1,1,1,8,8,5,1,1] ?_; intro h
 refine Ev.loopW (β := Nat × (List (List (List SOfBy))) × Int) (fun v => ⟨[(2, wP 10100), (4, wP 10101), (5, wP 10102), (16, lP a0.Packages), (17, iP (a0.Packages.length : Int)), (18, iP v.2.2)], [(10100, eP 24 1 [[lP a0.Packages]]), (10101, eP 84 2 [[.nils, .nils]]), (10102, ⟨0, 84, 2, [[lP r1, .own 10103 0]], false, false, false⟩), (10103, eP 97 1 (mP v.2.1))], 2⟩) (fun v => solver_open_l1 n a0 r1 v.1 v.2.1 v.2.2 = some r) (fun v => v.1) (n, ([] : List (List (List SOfBy))), 0) ((Wk.ownNilCell 5 2 1 30103 97 1 rfl rfl rfl rfl rfl (by simp) true).trans (.nA)) h ?_
 intro ⟨m1, w2, x3⟩ h
 try dsimp only at h ⊢
 cases m1 with
 | zero => rw [solver_open_l1] at h; cases h
 | succ m1 =>
  rw [solver_open_l1] at h
  refine au h [1,1,5,1] ?_; intro h
  refine bs h (fun c2 h => ?_) fun c2 h => ?_
  ·refine au h [2,1,1,1,1,1,5,5,1,1,1,1,1,1,1,1,5,1,1] ?_; intro e4 k3 h
   refine Ev.loopW (β := Nat × (List (List SOfBy)) × Int) (fun v => ⟨[(2, wP 10200), (4, wP 10201), (5, wP 10202), (8, .own 10204 0), (16, lP a0.Packages), (17, iP (a0.Packages.length : Int)), (18, iP x3), (22, lP e4), (23, iP (e4.length : Int)), (24, iP v.2.2)], [(10200, eP 24 1 [[lP a0.Packages]]), (10201, eP 84 2 [[.nils, .nils]]), (10202, ⟨0, 84, 2, [[lP r1, .own 10203 0]], false, false, false⟩), (10203, eP 97 1 (mP w2)), (10204, eP 81 1 (mP v.2.1))], 2⟩) (fun v => solver_open_l2 n a0 w2 x3 (solver_open_l1 n a0 r1 m1) e4 v.1 v.2.1 v.2.2 = some r) (fun v => v.1) (n, ([] : List (List SOfBy)), 0) ((Wk.ownNil 8 30204 81 1 rfl rfl true).trans (.nA)) h ?_
   intro ⟨m2, w5, x6⟩ h
   try dsimp only at h ⊢
   cases m2 with
   | zero => rw [solver_open_l2] at h; cases h
   | succ m2 =>
    rw [solver_open_l2] at h
    refine au h [1,1,5,1] ?_; intro h
    refine bs h (fun c4 h => ?_) fun c4 h => ?_
    ·refine au h [2,1,1,1,1,1,5,5,5,8,1,1,8,8,8] ?_; intro e7 k5 h
     refine cb h (solver_demands_spec n _ _) fun r8 k6 h => ?_
     refine ax 44 h [5,7,1,1,7,1] ?_; intro w9 k7 x10 k8 h
     exact lb (m2, w9, x10) h
    ·refine au h [3,1] ?_; intro h
     refine Ev.weak ?_ (Wk.frz 10204 0 rfl rfl)
     refine au h [1,8,8,1,5,7,8,8,1,7,1] ?_; intro w11 k9 x12 k10 h
     exact lb (m1, w11, x12) h
  ·refine au h [3,1,1,1,8,8] ?_; intro h
   refine Ev.weak ?_ (Wk.frz 10103 0 rfl rfl)
   refine Ev.ret ?_
   cases h
   exact ⟨_, rfl, .refl _⟩
theorem solver_problem_solved_spec (n : Nat) (a0 : SWantsNeeds) (a1 : List Int) (r : Bool) (h : solver_problem_solved n a0 a1 = some r) : PSpec Try.prog 51 [.agg (SWantsNeeds.cells a0), lP a1] (.bool r) := by
 unfold solver_problem_solved at h
 refine spec_of Try.c_solver_problem_solved (by simp) ?_
 unfold Try.l_solver_problem_solved
 refine au h [1,1,5,1,1,1,5,1,1,8,8,5,1] ?_; intro h
 refine Ev.seqJ (γ := Bool × Bool × Bool × Bool × Bool × Bool) (fun v => ⟨[(1, lP a1), (5, wP 10100)], [(10100, eP 98 6 [[.bool v.1, .bool v.2.1, .bool v.2.2.1, .bool v.2.2.2.1, .bool v.2.2.2.2.1, .bool v.2.2.2.2.2]])], 2⟩) (fun v => solver_problem_solved_j1 n a1 v.1 v.2.1 v.2.2.1 v.2.2.2.1 v.2.2.2.2.1 v.2.2.2.2.2 = some r) ?_ ?_
 ·refine Ev.block ?_
  refine Ev.loopW (β := Nat × Bool × Bool × Bool × Bool × Bool × Bool × (List (List SOfBy))) (fun v => ⟨[(1, lP a1), (2, wP 10200), (5, wP 10201), (6, .own 10202 0)], [(10200, eP 84 2 [[lP a0.f_wants, lP a0.f_needs]]), (10201, eP 98 6 [[.bool v.2.1, .bool v.2.2.1, .bool v.2.2.2.1, .bool v.2.2.2.2.1, .bool v.2.2.2.2.2.1, .bool v.2.2.2.2.2.2.1]]), (10202, eP 81 1 (mP v.2.2.2.2.2.2.2))], 2⟩) (fun v => solver_problem_solved_l2 n a0 a1 v.1 v.2.1 v.2.2.1 v.2.2.2.1 v.2.2.2.2.1 v.2.2.2.2.2.1 v.2.2.2.2.2.2.1 v.2.2.2.2.2.2.2 = some r) (fun v => v.1) (n, false, false, false, false, false, false, ([a0.f_wants] : List (List SOfBy))) (.nA) h ?_
  intro ⟨m2, b12, b13, b14, b15, b16, b17, w18⟩ h
  try dsimp only at h ⊢
  cases m2 with
  | zero => rw [solver_problem_solved_l2] at h; cases h
  | succ m2 =>
   rw [solver_problem_solved_l2] at h
   refine au h [1,1,1,1,7,5] ?_; intro h
   refine bs h (fun c7 h => ?_) fun c7 h => ?_
   ·refine au h [2,1,1,1,1,1,1,7,7,7,7,1,1,1,1,1,7,7,10,1,1,1,1,5,1,1] ?_; intro x19 k8 e20 k9 x21 k10 s22 k11 h
    refine Ev.loopW (β := Nat × Bool × Bool × Bool × Bool × Bool × Bool × (List (List SOfBy)) × Int) (fun v => ⟨[(1, lP a1), (2, wP 10300), (5, wP 10301), (6, .own 10302 0), (30, lP e20), (31, iP (e20.length : Int)), (32, iP v.2.2.2.2.2.2.2.2)], [(10300, eP 84 2 [[lP a0.f_wants, lP a0.f_needs]]), (10301, eP 98 6 [[.bool v.2.1, .bool v.2.2.1, .bool v.2.2.2.1, .bool v.2.2.2.2.1, .bool v.2.2.2.2.2.1, .bool v.2.2.2.2.2.2.1]]), (10302, eP 81 1 (mP v.2.2.2.2.2.2.2.1))], 2⟩) (fun v => solver_problem_solved_l3 n a0 a1 (solver_problem_solved_l2 n a0 a1 m2) e20 v.1 v.2.1 v.2.2.1 v.2.2.2.1 v.2.2.2.2.1 v.2.2.2.2.2.1 v.2.2.2.2.2.2.1 v.2.2.2.2.2.2.2.1 v.2.2.2.2.2.2.2.2 = some r) (fun v => v.1) (n, b12, b13, b14, b15, b16, b17, s22, 0) ((Wk.cutRowG (l := w18) (c := (cL 5 SOfBy.cells)) 6 10202 0 30006 rfl rfl rfl k11 rfl (eq_false (by decide))).trans (.nA)) h ?_
    intro ⟨m3, b23, b24, b25, b26, b27, b28, w29, x30⟩ h
    try dsimp only at h ⊢
    cases m3 with
    | zero => rw [solver_problem_solved_l3] at h; cases h
    | succ m3 =>
     rw [solver_problem_solved_l3] at h
     refine au h [1,1,5,1] ?_; intro h
     refine bs h (fun c12 h => ?_) fun c12 h => ?_
     ·refine au h [2,1] ?_; intro h
      refine Ev.seqJ (γ := Bool × Bool × Bool × Bool × Bool × Bool × (List (List SOfBy))) (fun v => ⟨[(1, lP a1), (2, wP 10400), (5, wP 10401), (6, .own 10402 0), (30, lP e20), (31, iP (e20.length : Int)), (32, iP x30)], [(10400, eP 84 2 [[lP a0.f_wants, lP a0.f_needs]]), (10401, eP 98 6 [[.bool v.1, .bool v.2.1, .bool v.2.2.1, .bool v.2.2.2.1, .bool v.2.2.2.2.1, .bool v.2.2.2.2.2.1]]), (10402, eP 81 1 (mP v.2.2.2.2.2.2))], 2⟩) (fun v => solver_problem_solved_j3 n x30 (solver_problem_solved_l3 n a0 a1 (solver_problem_solved_l2 n a0 a1 m2) e20 m3) v.1 v.2.1 v.2.2.1 v.2.2.2.1 v.2.2.2.2.1 v.2.2.2.2.2.1 v.2.2.2.2.2.2 = some r) ?_ ?_
      ·refine au h [1,1,1,5,5,5,8,1,1,1,8,8,5,5,1,1] ?_; intro e39 k14 e40 k15 h
       refine Ev.seqJ (γ := Bool) (fun v => ⟨[(1, lP a1), (2, wP 10500), (5, wP 10501), (6, .own 10502 0), (9, wP 10503), (10, iP e40), (30, lP e20), (31, iP (e20.length : Int)), (32, iP x30), (49, .bool v)], [(10500, eP 84 2 [[lP a0.f_wants, lP a0.f_needs]]), (10501, eP 98 6 [[.bool b23, .bool b24, .bool b25, .bool b26, .bool b27, .bool b28]]), (10502, eP 81 1 (mP w29)), (10503, eP 101 5 [[iP e39.f_of, .bool e39.f_by.A0, .bool e39.f_by.A1, .bool e39.f_by.A2, .bool e39.f_by.A3]])], 2⟩) (fun v => solver_problem_solved_j4 n a0 b23 b24 b25 b26 b27 b28 w29 x30 (solver_problem_solved_l3 n a0 a1 (solver_problem_solved_l2 n a0 a1 m2) e20 m3) e39 e40 v = some r) ?_ ?_
       ·refine au h [1,1,5,1] ?_; intro h
        refine bs h (fun c23 h => ?_) fun c23 h => ?_
        ·refine aw h [3,3,3,3,3,2] ?_; intro h
         exact lf true h
        ·refine aw h [2,1,2,8,2] ?_; intro h
         obtain ⟨i47, k24, h⟩ := obind h
         refine W.idxAOG rfl rfl rfl k24 ?_
         refine W.guardT rfl c23 ?_
         refine W.loadO (p := .bool (if i47 = 0 then e39.f_by.A0 else (if i47 = 1 then e39.f_by.A1 else (if i47 = 2 then e39.f_by.A2 else e39.f_by.A3)))) rfl rfl rfl (by obtain ⟨_, q1, q2⟩ := garr_some k24; rcases (show i47 = 0 ∨ i47 = 1 ∨ i47 = 2 ∨ i47 = 3 by omega) with e | e | e | e <;> rw [e] <;> rfl) ?_
         refine aw h [2,5,3] ?_; intro h
         exact lf (!(if i47 = 0 then e39.f_by.A0 else (if i47 = 1 then e39.f_by.A1 else (if i47 = 2 then e39.f_by.A2 else e39.f_by.A3)))) h
       ·intro x41 h
        try dsimp only at h ⊢
        unfold solver_problem_solved_j4 at h
        refine bs h (fun c16 h => ?_) fun c16 h => ?_
        ·refine au h [2,1,1,1,1] ?_; intro h
         cases h
         exact ⟨_, rfl, .refl _⟩
        ·refine au h [3,1,1,1,8,8] ?_; intro h
         obtain ⟨i42, k17, h⟩ := obind h
         refine W.idxAOG rfl rfl rfl k17 ?_
         refine W.loadO (p := .bool (if i42 = 0 then b23 else (if i42 = 1 then b24 else (if i42 = 2 then b25 else (if i42 = 3 then b26 else (if i42 = 4 then b27 else b28)))))) rfl rfl rfl (by obtain ⟨_, q1, q2⟩ := garr_some k17; rcases (show i42 = 0 ∨ i42 = 1 ∨ i42 = 2 ∨ i42 = 3 ∨ i42 = 4 ∨ i42 = 5 by omega) with e | e | e | e | e | e <;> rw [e] <;> rfl) ?_
         refine aw h [5] ?_; intro h
         refine bs h (fun c18 h => ?_) fun c18 h => ?_
         ·refine au h [2,1,1,8,8] ?_; intro h
          obtain ⟨i43, k19, h⟩ := obind h
          refine W.idxAOG rfl rfl rfl k19 ?_
          refine W.store (es' := [[.bool (if i43 = 0 then true else b23), .bool (if i43 = 1 then true else b24), .bool (if i43 = 2 then true else b25), .bool (if i43 = 3 then true else b26), .bool (if i43 = 4 then true else b27), .bool (if i43 = 5 then true else b28)]]) (dt := true) rfl rfl rfl rfl rfl (by obtain ⟨_, q1, q2⟩ := garr_some k19; show _ + i43.toNat * 1 + 1 ≤ 6; omega) rfl (by obtain ⟨_, q1, q2⟩ := garr_some k19; rcases (show i43 = 0 ∨ i43 = 1 ∨ i43 = 2 ∨ i43 = 3 ∨ i43 = 4 ∨ i43 = 5 by omega) with e | e | e | e | e | e <;> rw [e] <;> rfl) rfl rfl ?_
          refine ax 87 h [1,1,8,8,8,8,5,5,1,5,5,5,7,1] ?_; intro e44 k20 e45 k21 w46 k22 h
          exact lf ((if i43 = 0 then true else b23), (if i43 = 1 then true else b24), (if i43 = 2 then true else b25), (if i43 = 3 then true else b26), (if i43 = 4 then true else b27), (if i43 = 5 then true else b28), w46) h
         ·refine au h [3,1] ?_; intro h
          exact lf (b23, b24, b25, b26, b27, b28, w29) h
      ·intro ⟨b31, b32, b33, b34, b35, b36, w37⟩ h
       try dsimp only at h ⊢
       unfold solver_problem_solved_j3 at h
       refine au h [1,7,1] ?_; intro x38 k13 h
       exact lb (m3, b31, b32, b33, b34, b35, b36, w37, x38) h
     ·refine au h [3,1] ?_; intro h
      exact lb (m2, b23, b24, b25, b26, b27, b28, w29) h
   ·refine au h [3,1] ?_; intro h
    exact lf (b12, b13, b14, b15, b16, b17) h
 ·intro ⟨b1, b2, b3, b4, b5, b6⟩ h
  try dsimp only at h ⊢
  unfold solver_problem_solved_j1 at h
  refine au h [1,1,1,1,5,1,1] ?_; intro h
  refine Ev.loopW (β := Nat × Int) (fun v => ⟨[(5, wP 10200), (71, lP a1), (72, iP (a1.length : Int)), (73, iP v.2)], [(10200, eP 98 6 [[.bool b1, .bool b2, .bool b3, .bool b4, .bool b5, .bool b6]])], 2⟩) (fun v => solver_problem_solved_l1 n a1 b1 b2 b3 b4 b5 b6 v.1 v.2 = some r) (fun v => v.1) (n, 0) (.nA) h ?_
  intro ⟨m1, x7⟩ h
  try dsimp only at h ⊢
  cases m1 with
  | zero => rw [solver_problem_solved_l1] at h; cases h
  | succ m1 =>
   rw [solver_problem_solved_l1] at h
   refine au h [1,1,5,1] ?_; intro h
   refine bs h (fun c1 h => ?_) fun c1 h => ?_
   ·refine au h [2,1,1,1,1,1,1,5,5,1,1] ?_; intro e8 k2 h
    refine Ev.seqJ (γ := Bool) (fun v => ⟨[(5, wP 10300), (71, lP a1), (72, iP (a1.length : Int)), (73, iP x7), (85, .bool v)], [(10300, eP 98 6 [[.bool b1, .bool b2, .bool b3, .bool b4, .bool b5, .bool b6]])], 2⟩) (fun v => solver_problem_solved_j2 n x7 (solver_problem_solved_l1 n a1 b1 b2 b3 b4 b5 b6 m1) v = some r) ?_ ?_
    ·refine au h [1,1,5,1] ?_; intro h
     refine bs h (fun c5 h => ?_) fun c5 h => ?_
     ·refine aw h [2,1,2] ?_; intro h
      obtain ⟨i11, k6, h⟩ := obind h
      refine W.idxAOG rfl rfl rfl k6 ?_
      refine W.guardT rfl c5 ?_
      refine W.loadO (p := .bool (if i11 = 0 then b1 else (if i11 = 1 then b2 else (if i11 = 2 then b3 else (if i11 = 3 then b4 else (if i11 = 4 then b5 else b6)))))) rfl rfl rfl (by obtain ⟨_, q1, q2⟩ := garr_some k6; rcases (show i11 = 0 ∨ i11 = 1 ∨ i11 = 2 ∨ i11 = 3 ∨ i11 = 4 ∨ i11 = 5 by omega) with e | e | e | e | e | e <;> rw [e] <;> rfl) ?_
      refine aw h [2,5,2] ?_; intro h
      exact lf (!(if i11 = 0 then b1 else (if i11 = 1 then b2 else (if i11 = 2 then b3 else (if i11 = 3 then b4 else (if i11 = 4 then b5 else b6)))))) h
     ·refine aw h [3,3,3,3,3] ?_; intro h
      exact lf false h
    ·intro x9 h
     try dsimp only at h ⊢
     unfold solver_problem_solved_j2 at h
     refine bs h (fun c3 h => ?_) fun c3 h => ?_
     ·refine au h [2,1,1,1,1] ?_; intro h
      cases h
      exact ⟨_, rfl, .refl _⟩
     ·refine au h [3,1,1,7,1] ?_; intro x10 k4 h
      exact lb (m1, x10) h
   ·refine au h [3,1,1,1,1,1] ?_; intro h
    cases h
    exact ⟨_, rfl, .refl _⟩
theorem solver_Solve_1_m1_spec : ∀ (n : Nat) (a0 : Int) (a1 : List Int) (a2 : List SOfBy) (a3 : List (List (List SOfBy))) (a4 : List (List SVersionNeeds)) (r : (Bool × (List Int))) (h : solver_Solve_1_m1 n a0 a1 a2 a3 a4 = some r), PMut Try.prog 50 [iP a0, wP 60001, wP 60003, wP 60004, wP 60005] [(60001, ⟨0, 26, 1, [[.own 60002 0]], false, false, false⟩), (60002, eP 3 1 (mP a1)), (60003, eP 84 2 [[lP a2, lP a3]]), (60004, eP 24 1 [[lP a4]]), (60005, ⟨0, 75, 1, [[.fn 50 [] [wP 60001, wP 60003, wP 60004, wP 60005]]], false, false, false⟩)] (.bool r.1) [(60001, ⟨0, 26, 1, [[.own 60002 0]], false, false, false⟩), (60002, eP 3 1 (mP r.2)), (60003, eP 84 2 [[lP a2, lP a3]]), (60004, eP 24 1 [[lP a4]]), (60005, ⟨0, 75, 1, [[.fn 50 [] [wP 60001, wP 60003, wP 60004, wP 60005]]], false, false, false⟩)] := by
 intro n
 induction n with
 | zero => intro a0 a1 a2 a3 a4 r h; rw [solver_Solve_1_m1] at h; cases h
 | succ n ih =>
 intro a0 a1 a2 a3 a4 r h
 rw [solver_Solve_1_m1] at h
 refine specMut_of Try.c_solver_Solve_1 (by simp) (alls rfl (alls rfl (alls rfl (alls rfl (alls rfl all0))))) ?_
 unfold Try.l_solver_Solve_1
 refine au h [1,1,1,1,1,1,1,8,7,5] ?_; intro h
 refine bs h (fun c1 h => ?_) fun c1 h => ?_
 ·refine au h [2,1,1,8,8] ?_; intro h
  refine cb h (solver_problem_solved_spec n _ _) fun r1 k2 h => ?_
  refine ax 34 h [1,1] ?_; intro h
  injection h with h; subst h
  exact ⟨_, [.bool r1], Wk.nrmTo [6, 125537, 125538, 125539, 125540, 125541] [(60001, 60001), (60002, 60002), (60003, 60003), (60004, 60004), (60005, 60005)] rfl rfl, rfl, rfl, rfl, .refl _, gh_ok ⟨rfl, rfl, rfl, rfl, rfl, trivial⟩⟩
 ·refine au h [3,1,1,1,1,8,8,1,5,5,5,7,1,1] ?_; intro e2 k3 x3 k4 h
  refine Ev.loopW (β := Nat × (List Int) × Int) (fun v => ⟨[(0, iP a0), (1, wP 10100), (4, wP 10102), (7, iP v.2.2), (125537, .own 10100 0), (125538, .own 10101 0), (125539, .own 10103 0), (125540, .own 10104 0), (125541, .own 10102 0)], [(10100, ⟨0, 26, 1, [[.own 10101 0]], false, false, false⟩), (10101, eP 3 1 (mP v.2.1)), (10102, ⟨0, 75, 1, [[.fn 50 [] [wP 10100, wP 10103, wP 10104, wP 10102]]], false, false, false⟩), (10103, eP 84 2 [[lP a2, lP a3]]), (10104, eP 24 1 [[lP a4]])], 2⟩) (fun v => solver_Solve_1_m1_l1 n a0 a2 a3 a4 (solver_Solve_1_m1 n) v.1 v.2.1 v.2.2 = some r) (fun v => v.1) (n, a1, x3) (.nA) h ?_
  intro ⟨m1, w4, x5⟩ h
  try dsimp only at h ⊢
  cases m1 with
  | zero => rw [solver_Solve_1_m1_l1] at h; cases h
  | succ m1 =>
   rw [solver_Solve_1_m1_l1] at h
   refine au h [1,1,1,1,5] ?_; intro h
   refine bs h (fun c5 h => ?_) fun c5 h => ?_
   ·refine au h [2,1,1,1,1,1,8,1,1,7,7,1,1,8,1,7] ?_; intro e6 k6 x7 k7 h
    obtain ⟨r8, k8, h⟩ := obind h
    obtain ⟨u9, k9, h⟩ := obind h
    refine W.callvM (fs := []) (cs := [wP 10100, wP 10103, wP 10104, wP 10102]) (xs := [iP x7]) (res' := .bool r8.1) (up := [(10100, ⟨0, 26, 1, [[.own 10101 0]], false, false, false⟩), (10101, eP 3 1 (mP r8.2)), (10103, eP 84 2 [[lP a2, lP a3]]), (10104, eP 24 1 [[lP a4]]), (10102, ⟨0, 75, 1, [[.fn 50 [] [wP 10100, wP 10103, wP 10104, wP 10102]]], false, false, false⟩)]) (tauOf [(60001, 10100, 0), (60002, 10101, 0), (60003, 10103, 0), (60004, 10104, 0), (60005, 10102, 0)]) (fun n => n) (ih x7 (gset w4 a0 x5) a2 a3 a4 r8 k8) Try.b_solver_Solve_1 rfl (mutOk_of (.cons (.data rfl (.refl _)) (.cons (.tok rfl rfl) (.cons (.tok rfl rfl) (.cons (.tok rfl rfl) (.cons (.tok rfl rfl) ArgsOk.nil))))) rfl rfl rfl (alls ⟨⟨rfl, rfl, rfl⟩, ⟨_, rfl, rfl, rfl, .inr ⟨rfl, rfl, all1 (alls rfl (all0))⟩⟩⟩ (alls ⟨⟨rfl, rfl, rfl⟩, ⟨_, rfl, rfl, rfl, .inl ⟨rfl, rfl, rfl⟩⟩⟩ (alls ⟨⟨rfl, rfl, rfl⟩, ⟨_, rfl, rfl, rfl, .inl ⟨rfl, rfl, rfl⟩⟩⟩ (alls ⟨⟨rfl, rfl, rfl⟩, ⟨_, rfl, rfl, rfl, .inl ⟨rfl, rfl, rfl⟩⟩⟩ (alls ⟨⟨rfl, rfl, rfl⟩, ⟨_, rfl, rfl, rfl, .inr ⟨rfl, rfl, all1 (alls rfl (all0))⟩⟩⟩ all0))))) (alls ⟨⟨rfl, rfl, rfl⟩, keptOf rfl ⟨rfl, rfl⟩, .inr (all1 (alls rfl (all0)))⟩ (alls ⟨⟨rfl, rfl, rfl⟩, keptOf rfl ⟨rfl, lenMap (glen_some k9)⟩, .inl rfl⟩ (alls ⟨⟨rfl, rfl, rfl⟩, keptOf rfl ⟨rfl, rfl⟩, .inl rfl⟩ (alls ⟨⟨rfl, rfl, rfl⟩, keptOf rfl ⟨rfl, rfl⟩, .inl rfl⟩ (alls ⟨⟨rfl, rfl, rfl⟩, keptOf rfl ⟨rfl, rfl⟩, .inr (all1 (alls rfl (all0)))⟩ all0))))) rfl) rfl rfl rfl rfl ?_
    refine W.nil ?_
    refine bs h (fun c10 h => ?_) fun c10 h => ?_
    ·refine au h [2,1,1,1,1] ?_; intro h
     injection h with h; subst h
     exact ⟨_, [.bool true], Wk.nrmTo [6, 125537, 125538, 125539, 125540, 125541] [(10100, 60001), (10101, 60002), (10103, 60003), (10104, 60004), (10102, 60005)] rfl rfl, rfl, rfl, rfl, .refl _, gh_ok ⟨rfl, rfl, rfl, rfl, rfl, trivial⟩⟩
    ·refine au h [3,1,1,1,7,1] ?_; intro x10 k11 h
     exact lb (m1, r8.2, x10) h
   ·refine au h [3,1,1,1,1,1] ?_; intro h
    injection h with h; subst h
    exact ⟨_, [.bool false], Wk.nrmTo [6, 125537, 125538, 125539, 125540, 125541] [(10100, 60001), (10101, 60002), (10103, 60003), (10104, 60004), (10102, 60005)] rfl rfl, rfl, rfl, rfl, .refl _, gh_ok ⟨rfl, rfl, rfl, rfl, rfl, trivial⟩⟩
theorem solver_Solve_spec (n : Nat) (a0 : SPackages) (a1 : List SPackageRange) (r : ((List Int) × Bool × SCodeIndex)) (h : solver_Solve n a0 a1 = some r) : PSpec Try.prog 26 [.agg (SPackages.cells a0), lP a1] (.tup [lP r.1, .bool r.2.1, .agg (SCodeIndex.cells r.2.2)]) := by
 unfold solver_Solve at h
 refine spec_of Try.c_solver_Solve (by simp) ?_
 unfold Try.l_solver_Solve
 refine au h [1,1,5,1,1,5,1,1,1,8,1] ?_; intro h
 refine cb h (solver_Arguments_spec n _ _) fun r1 k1 h => ?_
 refine ax 32 h [5,8,1,1,8,5,5] ?_; intro h
 refine bs h (fun c2 h => ?_) fun c2 h => ?_
 ·refine au h [2,1,1,8,1,1,8,1] ?_; intro h
  cases h
  exact ⟨_, rfl, Le.tups (.cons (.nils 1) (.cons (.refl _) (.cons (.refl _) (.nil))))⟩
 ·refine au h [3,1,1,1,8,1] ?_; intro h
  refine cb h (solver_open_spec n _ _) fun r2 k3 h => ?_
  refine ax 32 h [5,8,1,1,8,8,5,5,5,8,1,1,5,1,1] ?_; intro w3 k4 h
  refine W.mkfn rfl ?_
  refine ax 32 h [8,1,1,1,8] ?_; intro h
  obtain ⟨r4, k5, h⟩ := obind h
  obtain ⟨u5, k6, h⟩ := obind h
  refine W.callvM (fs := []) (cs := [.pown 9 2 0 0, .pown 8 2 0 0, .pown 2 2 0 0, .pown 10 2 0 0]) (xs := [iP 0]) (res' := .bool r4.1) (up := [(9, ⟨2, 26, 1, [[.own 24 2]], false, true, false⟩), (24, ⟨2, 3, 1, mP r4.2, true, true, false⟩), (8, ⟨2, 84, 2, [[lP r2.f_wants, lP r2.f_needs]], true, true, false⟩), (2, ⟨2, 24, 1, [[lP a0.Packages]], true, true, false⟩), (10, ⟨2, 75, 1, [[.fn 50 [] [.pown 9 2 0 0, .pown 8 2 0 0, .pown 2 2 0 0, .pown 10 2 0 0]]], false, true, false⟩)]) (tauOf [(60001, 9, 2), (60002, 24, 2), (60003, 8, 2), (60004, 2, 2), (60005, 10, 2)]) (fun n => n) (solver_Solve_1_m1_spec n 0 w3 r2.f_wants r2.f_needs a0.Packages r4 k5) Try.b_solver_Solve_1 rfl (mutOk_of (.cons (.data rfl (.refl _)) (.cons (.tok rfl rfl) (.cons (.tok rfl rfl) (.cons (.tok rfl rfl) (.cons (.tok rfl rfl) ArgsOk.nil))))) rfl rfl rfl (alls ⟨⟨rfl, rfl, rfl⟩, ⟨_, rfl, rfl, rfl, .inr ⟨rfl, rfl, all1 (alls rfl (all0))⟩⟩⟩ (alls ⟨⟨rfl, rfl, rfl⟩, ⟨_, rfl, rfl, rfl, .inl ⟨rfl, rfl, rfl⟩⟩⟩ (alls ⟨⟨rfl, rfl, rfl⟩, ⟨_, rfl, rfl, rfl, .inl ⟨rfl, rfl, rfl⟩⟩⟩ (alls ⟨⟨rfl, rfl, rfl⟩, ⟨_, rfl, rfl, rfl, .inl ⟨rfl, rfl, rfl⟩⟩⟩ (alls ⟨⟨rfl, rfl, rfl⟩, ⟨_, rfl, rfl, rfl, .inr ⟨rfl, rfl, all1 (alls rfl (all0))⟩⟩⟩ all0))))) (alls ⟨⟨rfl, rfl, rfl⟩, keptOf rfl ⟨rfl, rfl⟩, .inr (all1 (alls rfl (all0)))⟩ (alls ⟨⟨rfl, rfl, rfl⟩, keptOf rfl ⟨rfl, lenMap (glen_some k6)⟩, .inl rfl⟩ (alls ⟨⟨rfl, rfl, rfl⟩, keptOf rfl ⟨rfl, rfl⟩, .inl rfl⟩ (alls ⟨⟨rfl, rfl, rfl⟩, keptOf rfl ⟨rfl, rfl⟩, .inl rfl⟩ (alls ⟨⟨rfl, rfl, rfl⟩, keptOf rfl ⟨rfl, rfl⟩, .inr (all1 (alls rfl (all0)))⟩ all0))))) rfl) rfl rfl rfl rfl ?_
  refine aw h [5] ?_; intro h
  refine bs h (fun c7 h => ?_) fun c7 h => ?_
  ·refine au h [2,1,1,5,1,1,8,1] ?_; intro h
   cases h
   exact ⟨_, rfl, Le.tups (.cons (.nils 1) (.cons (.refl _) (.cons (.refl _) (.nil))))⟩
  ·refine au h [3,1,1,1,8,5,1,1,8,1] ?_; intro h
   cases h
   exact ⟨_, rfl, .refl _⟩
theorem explain_Reason_1_m1_spec (n : Nat) (a0 : Int) (a1 : List Bool) (r : Bool) (h : explain_Reason_1_m1 n a0 a1 = some r) : PMut Try.prog 45 [iP a0, wP 60001] [(60001, ⟨0, 79, 1, [[.own 60002 0]], false, false, false⟩), (60002, eP 4 1 (mP a1))] (.bool r) [(60001, ⟨0, 79, 1, [[.own 60002 0]], false, false, false⟩), (60002, eP 4 1 (mP a1))] := by
 unfold explain_Reason_1_m1 at h
 refine specMut_of Try.c_explain_Reason_1 (by simp) (alls rfl (alls rfl all0)) ?_
 unfold Try.l_explain_Reason_1
 refine au h [1,1,1,1,1,8,1,7,7,5,1,1] ?_; intro e1 k1 h
 injection h with h; subst h
 exact ⟨_, [.bool (!e1)], Wk.nrmTo [3, 125537, 125538] [(60001, 60001), (60002, 60002)] rfl rfl, rfl, rfl, rfl, .refl _, gh_ok ⟨rfl, rfl, trivial⟩⟩
theorem explain_filter_1_m2_spec (n : Nat) (a0 : List SPackageRange) (a1 : List Bool) (a2 : Int) (r : ((List SPackageRange) × Int)) (h : explain_filter_1_m2 n a0 a1 a2 = some r) : PMut Try.prog 57 [lP a0, wP 60001, wP 60004] [(60001, ⟨0, 75, 1, [[.fn 45 [] [wP 60002]]], false, false, false⟩), (60002, ⟨0, 79, 1, [[.own 60003 0]], false, false, false⟩), (60003, eP 4 1 (mP a1)), (60004, eP 3 1 [[iP a2]])] (lP r.1) [(60001, ⟨0, 75, 1, [[.fn 45 [] [wP 60002]]], false, false, false⟩), (60002, ⟨0, 79, 1, [[.own 60003 0]], false, false, false⟩), (60003, eP 4 1 (mP a1)), (60004, eP 3 1 [[iP r.2]])] := by
 unfold explain_filter_1_m2 at h
 refine specMut_of Try.c_explain_filter_1 (by simp) (alls rfl (alls rfl (alls rfl (alls rfl all0)))) ?_
 unfold Try.l_explain_filter_1
 refine au h [1,1,1,1,1,1,1,1,1,1,5,1,1] ?_; intro h
 refine Ev.loopW (β := Nat × Int × (List SPackageRange) × Int) (fun v => ⟨[(1, wP 10100), (2, wP 10103), (5, .own 10104 0), (8, lP a0), (9, iP (a0.length : Int)), (10, iP v.2.2.2), (125537, .own 10100 0), (125538, .own 10101 0), (125539, .own 10102 0), (125540, .own 10103 0)], [(10100, ⟨0, 75, 1, [[.fn 45 [] [wP 10101]]], false, false, false⟩), (10101, ⟨0, 79, 1, [[.own 10102 0]], false, false, false⟩), (10102, eP 4 1 (mP a1)), (10103, eP 3 1 [[iP v.2.1]]), (10104, eP 60 2 (mP v.2.2.1))], 2⟩) (fun v => explain_filter_1_m2_l1 n a0 a1 v.1 v.2.1 v.2.2.1 v.2.2.2 = some r) (fun v => v.1) (n, a2, ([] : List SPackageRange), 0) ((Wk.ownNil 5 30104 60 2 rfl rfl true).trans (.nA)) h ?_
 intro ⟨m1, b1, w2, x3⟩ h
 try dsimp only at h ⊢
 cases m1 with
 | zero => rw [explain_filter_1_m2_l1] at h; cases h
 | succ m1 =>
  rw [explain_filter_1_m2_l1] at h
  refine au h [1,1,5,1] ?_; intro h
  refine bs h (fun c1 h => ?_) fun c1 h => ?_
  ·refine au h [2,1,1,1,1,1,5,5,5,8] ?_; intro e4 k2 h
   refine Ev.seqJ (γ := List SPackageRange) (fun v => ⟨[(1, wP 10200), (2, wP 10203), (5, .own 10204 0), (8, lP a0), (9, iP (a0.length : Int)), (10, iP x3), (125537, .own 10200 0), (125538, .own 10201 0), (125539, .own 10202 0), (125540, .own 10203 0)], [(10200, ⟨0, 75, 1, [[.fn 45 [] [wP 10201]]], false, false, false⟩), (10201, ⟨0, 79, 1, [[.own 10202 0]], false, false, false⟩), (10202, eP 4 1 (mP a1)), (10203, eP 3 1 [[iP b1]]), (10204, eP 60 2 (mP v))], 2⟩) (fun v => explain_filter_1_m2_j1 n b1 x3 (explain_filter_1_m2_l1 n a0 a1 m1) v = some r) ?_ ?_
   ·refine au h [1,1,8,8] ?_; intro h
    obtain ⟨r8, k5, h⟩ := obind h
    refine W.callvM (fs := []) (cs := [wP 10101]) (xs := [iP b1]) (res' := .bool r8) (up := [(10101, ⟨0, 79, 1, [[.own 10102 0]], false, false, false⟩), (10102, eP 4 1 (mP a1))]) (tauOf [(60001, 10101, 0), (60002, 10102, 0)]) (fun n => n) (explain_Reason_1_m1_spec n b1 a1 r8 k5) Try.b_explain_Reason_1 rfl (mutOk_of (.cons (.data rfl (.refl _)) (.cons (.tok rfl rfl) ArgsOk.nil)) rfl rfl rfl (alls ⟨⟨rfl, rfl, rfl⟩, ⟨_, rfl, rfl, rfl, .inr ⟨rfl, rfl, all1 (alls rfl (all0))⟩⟩⟩ (alls ⟨⟨rfl, rfl, rfl⟩, ⟨_, rfl, rfl, rfl, .inl ⟨rfl, rfl, rfl⟩⟩⟩ all0)) (alls ⟨⟨rfl, rfl, rfl⟩, keptOf rfl ⟨rfl, rfl⟩, .inr (all1 (alls rfl (all0)))⟩ (alls ⟨⟨rfl, rfl, rfl⟩, keptOf rfl ⟨rfl, rfl⟩, .inl rfl⟩ all0)) rfl) rfl rfl rfl rfl ?_
    refine W.nil ?_
    refine bs h (fun c6 h => ?_) fun c6 h => ?_
    ·refine au h [2,1,1,8,8,8,8] ?_; intro h
     refine cb h (verrange_Copy_spec n _) fun r9 k7 h => ?_
     refine aw h [5,5,7,1] ?_; intro w10 k8 h
     exact lf w10 h
    ·refine au h [3,1] ?_; intro h
     exact lf w2 h
   ·intro w5 h
    try dsimp only at h ⊢
    unfold explain_filter_1_m2_j1 at h
    refine au h [1,8,7,8,1,7,1] ?_; intro x6 k3 x7 k4 h
    exact lb (m1, x6, w5, x7) h
  ·refine au h [3,1,1,1,1,1] ?_; intro h
   refine Ev.weak ?_ (Wk.frz 10104 0 rfl rfl)
   refine Ev.ret ?_
   injection h with h; subst h
   exact ⟨_, [lP w2], Wk.nrmTo [4, 125537, 125538, 125539, 125540] [(10100, 60001), (10101, 60002), (10102, 60003), (10103, 60004)] rfl rfl, rfl, rfl, rfl, .refl _, gh_ok ⟨rfl, rfl, rfl, rfl, trivial⟩⟩
end Go.Proofs.Ytfdennmaeoahgaa
namespace Go.Proofs.Ytfdennmaeoahgaa
open Go.PW Go
theorem explain_Reason_spec (n : Nat) (a0 : SPackages) (a1 : List SPackageRange) (r : ((List Int) × SCodeIndex)) (h : explain_Reason n a0 a1 = some r) : PSpec Try.prog 19 [.agg (SPackages.cells a0), lP a1] (.tup [lP r.1, .agg (SCodeIndex.cells r.2)]) := by
 unfold explain_Reason at h
 refine spec_of Try.c_explain_Reason (by simp) ?_
 unfold Try.l_explain_Reason
 refine au h [1,1,5,1,5,1,1,8,1] ?_; intro h
 refine cb h (solver_Solve_spec n _ _) fun r1 k1 h => ?_
 refine ax 67 h [1,5,5,5,5,1,1,8,1,1,1,8,5,5] ?_; intro h
 refine bs h (fun c2 h => ?_) fun c2 h => ?_
 ·refine au h [2,1,1,8,1,8,1] ?_; intro h
  cases h
  exact ⟨_, rfl, Le.tups (.cons (.nils 1) (.cons (.refl _) (.nil)))⟩
 ·refine au h [3,1,1,1,1,1] ?_; intro h
  refine bs h (fun c3 h => ?_) fun c3 h => ?_
  ·refine au h [2,1,1,5,1,8,1] ?_; intro h
   cases h
   exact ⟨_, rfl, Le.tups (.cons (.nils 1) (.cons (.refl _) (.nil)))⟩
  ·refine au h [3,1,1,1,8,1] ?_; intro h
   refine cb h (explain_count_spec n _ _) fun r2 k4 h => ?_
   refine ax 67 h [5,5,8,1,1,1,1,1,1,8,7,1,1] ?_; intro w3 k5 h
   refine Ev.loopW (β := Nat × (List Bool) × (List Int) × Int) (fun v => ⟨[(1, lP a1), (2, wP 10100), (5, wP 10101), (9, wP 10102), (10, .own 10104 0), (35, iP (w3.length : Int)), (36, iP v.2.2.2)], [(10100, eP 24 1 [[lP a0.Packages]]), (10101, eP 30 2 [[iP 0, iP 0]]), (10102, ⟨0, 79, 1, [[.own 10103 0]], false, false, false⟩), (10103, eP 4 1 (mP v.2.1)), (10104, eP 3 1 (mP v.2.2.1))], 2⟩) (fun v => explain_Reason_l1 n a0 a1 w3 v.1 v.2.1 v.2.2.1 v.2.2.2 = some r) (fun v => v.1) (n, w3, ([] : List Int), 0) ((Wk.ownNil 10 30104 3 1 rfl rfl true).trans (.nA)) h ?_
   intro ⟨m1, w4, w5, x6⟩ h
   try dsimp only at h ⊢
   cases m1 with
   | zero => rw [explain_Reason_l1] at h; cases h
   | succ m1 =>
    rw [explain_Reason_l1] at h
    refine au h [1,1,5,1] ?_; intro h
    refine bs h (fun c6 h => ?_) fun c6 h => ?_
    ·refine au h [2,1] ?_; intro h
     refine Ev.seqJ (γ := (List Bool) × (List Int)) (fun v => ⟨[(1, lP a1), (2, wP 10200), (5, wP 10201), (9, wP 10202), (10, .own 10204 0), (35, iP (w3.length : Int)), (36, iP x6)], [(10200, eP 24 1 [[lP a0.Packages]]), (10201, eP 30 2 [[iP 0, iP 0]]), (10202, ⟨0, 79, 1, [[.own 10203 0]], false, false, false⟩), (10203, eP 4 1 (mP v.1)), (10204, eP 3 1 (mP v.2))], 2⟩) (fun v => explain_Reason_j1 n x6 (explain_Reason_l1 n a0 a1 w3 m1) v.1 v.2 = some r) ?_ ?_
     ·refine au h [1,1,1,1,1,1,1,8,1,7,7,1] ?_; intro e10 k8 h
      refine Ev.regS rfl ?_
      refine Sq.w 3 nb ?_
      refine aw h [8,1] ?_; intro h
      refine W.mkfn rfl (W.nil ?_)
      refine Sq.call rfl Try.c_explain_filter ⟨_, rfl, nb, ?_⟩
      unfold Try.l_explain_filter
      refine Ev.retJ (γ := (List (List SVersionNeeds)) × (List SPackageRange)) (fun v => ⟨[(6, wP 10300), (7, lP v.2), (65537, lP a1), (65538, wP 10302), (65541, wP 10303), (65545, wP 10304), (65546, .own 10306 0), (65547, iP x6), (65571, iP (w3.length : Int)), (65572, iP x6)], [(10300, ⟨0, 24, 1, [[.own 10301 0]], false, false, false⟩), (10301, eP 68 1 (mP v.1)), (10302, eP 24 1 [[lP a0.Packages]]), (10303, eP 30 2 [[iP 0, iP 0]]), (10304, ⟨0, 79, 1, [[.own 10305 0]], false, false, false⟩), (10305, eP 4 1 (mP (gset w4 x6 true))), (10306, eP 3 1 (mP w5))], 2⟩) (fun v => explain_Reason_j2 n w4 w5 x6 (explain_Reason_l1 n a0 a1 w3 m1) v.1 v.2 = some r) ?_ ?_
      ·refine au h [1,1,5,5,5,1,1,1,5,8,1,1] ?_; intro h
       refine W.mkfn rfl ?_
       refine ax 55 h [1,1,1,1,1] ?_; intro h
       obtain ⟨r16, k13, h⟩ := obind h
       refine W.callvM (fs := []) (cs := [.pown 5 2 0 0, .pown 8 2 0 0]) (xs := [lP a1]) (res' := lP r16.1) (up := [(5, ⟨2, 75, 1, [[.fn 45 [] [wP 10102]]], false, true, false⟩), (10102, ⟨0, 79, 1, [[.own 10103 0]], false, false, false⟩), (10103, eP 4 1 (mP (gset w4 x6 true))), (8, ⟨2, 3, 1, [[iP r16.2]], true, true, false⟩)]) (tauOf [(60001, 5, 2), (60002, 10102, 0), (60003, 10103, 0), (60004, 8, 2)]) (fun n => n) (explain_filter_1_m2_spec n a1 (gset w4 x6 true) 0 r16 k13) Try.b_explain_filter_1 rfl (mutOk_of (.cons (.data rfl (.refl _)) (.cons (.tok rfl rfl) (.cons (.tok rfl rfl) ArgsOk.nil))) rfl rfl rfl (alls ⟨⟨rfl, rfl, rfl⟩, ⟨_, rfl, rfl, rfl, .inr ⟨rfl, rfl, all1 (alls rfl (all0))⟩⟩⟩ (alls ⟨⟨rfl, rfl, rfl⟩, ⟨_, rfl, rfl, rfl, .inr ⟨rfl, rfl, all1 (alls rfl (all0))⟩⟩⟩ (alls ⟨⟨rfl, rfl, rfl⟩, ⟨_, rfl, rfl, rfl, .inl ⟨rfl, rfl, rfl⟩⟩⟩ (alls ⟨⟨rfl, rfl, rfl⟩, ⟨_, rfl, rfl, rfl, .inl ⟨rfl, rfl, rfl⟩⟩⟩ all0)))) (alls ⟨⟨rfl, rfl, rfl⟩, keptOf rfl ⟨rfl, rfl⟩, .inr (all1 (alls rfl (all0)))⟩ (alls ⟨⟨rfl, rfl, rfl⟩, keptOf rfl ⟨rfl, rfl⟩, .inr (all1 (alls rfl (all0)))⟩ (alls ⟨⟨rfl, rfl, rfl⟩, keptOf rfl ⟨rfl, rfl⟩, .inl rfl⟩ (alls ⟨⟨rfl, rfl, rfl⟩, keptOf rfl ⟨rfl, rfl⟩, .inl rfl⟩ all0)))) rfl) rfl rfl rfl rfl ?_
       refine ax 55 h [1,1,1,5,1,1,1,8,8,5,1,1] ?_; intro h
       refine Ev.loopW (β := Nat × Int × (List (List SVersionNeeds)) × Int) (fun v => ⟨[(6, wP 10400), (9, .fn 57 [] [wP 10401, wP 10404]), (10, lP r16.1), (11, wP 10405), (22, lP a0.Packages), (23, iP (a0.Packages.length : Int)), (24, iP v.2.2.2), (65537, lP a1), (65538, wP 10407), (65541, wP 10408), (65545, wP 10402), (65546, .own 10409 0), (65547, iP x6), (65571, iP (w3.length : Int)), (65572, iP x6)], [(10400, eP 24 1 [[.nils]]), (10401, ⟨0, 75, 1, [[.fn 45 [] [wP 10402]]], false, false, false⟩), (10402, ⟨0, 79, 1, [[.own 10403 0]], false, false, false⟩), (10403, eP 4 1 (mP (gset w4 x6 true))), (10404, eP 3 1 [[iP v.2.1]]), (10405, ⟨0, 24, 1, [[.own 10406 0]], false, false, false⟩), (10406, eP 68 1 (mP v.2.2.1)), (10407, eP 24 1 [[lP a0.Packages]]), (10408, eP 30 2 [[iP 0, iP 0]]), (10409, eP 3 1 (mP w5))], 2⟩) (fun v => explain_Reason_l2 n a0 w4 w5 x6 (explain_Reason_l1 n a0 a1 w3 m1) r16 v.1 v.2.1 v.2.2.1 v.2.2.2 = some r) (fun v => v.1) (n, r16.2, ([] : List (List SVersionNeeds)), 0) ((Wk.ownNilCell 11 2 0 30406 68 1 rfl rfl rfl rfl rfl (by simp) true).trans (.nA)) h ?_
       intro ⟨m2, b17, w18, x19⟩ h
       try dsimp only at h ⊢
       cases m2 with
       | zero => rw [explain_Reason_l2] at h; cases h
       | succ m2 =>
        rw [explain_Reason_l2] at h
        refine au h [1,1,5,1] ?_; intro h
        refine bs h (fun c14 h => ?_) fun c14 h => ?_
        ·refine au h [2,1,1,1,1,1,5,5,1,1,1,1,1,1,1,1,5,1,1] ?_; intro e20 k15 h
         refine Ev.loopW (β := Nat × Int × (List SVersionNeeds) × Int) (fun v => ⟨[(6, wP 10500), (9, .fn 57 [] [wP 10501, wP 10504]), (10, lP r16.1), (11, wP 10505), (14, .own 10507 0), (22, lP a0.Packages), (23, iP (a0.Packages.length : Int)), (24, iP x19), (28, lP e20), (29, iP (e20.length : Int)), (30, iP v.2.2.2), (65537, lP a1), (65538, wP 10508), (65541, wP 10509), (65545, wP 10502), (65546, .own 10510 0), (65547, iP x6), (65571, iP (w3.length : Int)), (65572, iP x6)], [(10500, eP 24 1 [[.nils]]), (10501, ⟨0, 75, 1, [[.fn 45 [] [wP 10502]]], false, false, false⟩), (10502, ⟨0, 79, 1, [[.own 10503 0]], false, false, false⟩), (10503, eP 4 1 (mP (gset w4 x6 true))), (10504, eP 3 1 [[iP v.2.1]]), (10505, ⟨0, 24, 1, [[.own 10506 0]], false, false, false⟩), (10506, eP 68 1 (mP w18)), (10507, eP 70 5 (mP v.2.2.1)), (10508, eP 24 1 [[lP a0.Packages]]), (10509, eP 30 2 [[iP 0, iP 0]]), (10510, eP 3 1 (mP w5))], 2⟩) (fun v => explain_Reason_l3 n w4 x6 w18 x19 (explain_Reason_l2 n a0 w4 w5 x6 (explain_Reason_l1 n a0 a1 w3 m1) r16 m2) e20 v.1 v.2.1 v.2.2.1 v.2.2.2 = some r) (fun v => v.1) (n, b17, ([] : List SVersionNeeds), 0) ((Wk.ownNil 14 30507 70 5 rfl rfl true).trans (.nA)) h ?_
         intro ⟨m3, b21, w22, x23⟩ h
         try dsimp only at h ⊢
         cases m3 with
         | zero => rw [explain_Reason_l3] at h; cases h
         | succ m3 =>
          rw [explain_Reason_l3] at h
          refine au h [1,1,5,1] ?_; intro h
          refine bs h (fun c16 h => ?_) fun c16 h => ?_
          ·refine au h [2,1,1,1,1,1,5,5,5,8,1,1,8,8] ?_; intro e24 k17 h
           refine cb h (version_Copy_spec n _) fun r25 k18 h => ?_
           refine aw h [1,8,8] ?_; intro h
           obtain ⟨r26, k19, h⟩ := obind h
           refine W.callvM (fs := []) (cs := [wP 10501, wP 10504]) (xs := [lP e24.Needs]) (res' := lP r26.1) (up := [(10501, ⟨0, 75, 1, [[.fn 45 [] [wP 10502]]], false, false, false⟩), (10502, ⟨0, 79, 1, [[.own 10503 0]], false, false, false⟩), (10503, eP 4 1 (mP (gset w4 x6 true))), (10504, eP 3 1 [[iP r26.2]])]) (tauOf [(60001, 10501, 0), (60002, 10502, 0), (60003, 10503, 0), (60004, 10504, 0)]) (fun n => n) (explain_filter_1_m2_spec n e24.Needs (gset w4 x6 true) b21 r26 k19) Try.b_explain_filter_1 rfl (mutOk_of (.cons (.data rfl (.refl _)) (.cons (.tok rfl rfl) (.cons (.tok rfl rfl) ArgsOk.nil))) rfl rfl rfl (alls ⟨⟨rfl, rfl, rfl⟩, ⟨_, rfl, rfl, rfl, .inr ⟨rfl, rfl, all1 (alls rfl (all0))⟩⟩⟩ (alls ⟨⟨rfl, rfl, rfl⟩, ⟨_, rfl, rfl, rfl, .inr ⟨rfl, rfl, all1 (alls rfl (all0))⟩⟩⟩ (alls ⟨⟨rfl, rfl, rfl⟩, ⟨_, rfl, rfl, rfl, .inl ⟨rfl, rfl, rfl⟩⟩⟩ (alls ⟨⟨rfl, rfl, rfl⟩, ⟨_, rfl, rfl, rfl, .inl ⟨rfl, rfl, rfl⟩⟩⟩ all0)))) (alls ⟨⟨rfl, rfl, rfl⟩, keptOf rfl ⟨rfl, rfl⟩, .inr (all1 (alls rfl (all0)))⟩ (alls ⟨⟨rfl, rfl, rfl⟩, keptOf rfl ⟨rfl, rfl⟩, .inr (all1 (alls rfl (all0)))⟩ (alls ⟨⟨rfl, rfl, rfl⟩, keptOf rfl ⟨rfl, rfl⟩, .inl rfl⟩ (alls ⟨⟨rfl, rfl, rfl⟩, keptOf rfl ⟨rfl, rfl⟩, .inl rfl⟩ all0)))) rfl) rfl rfl rfl rfl ?_
           refine ax 55 h [5,5,7,1,1,7,1] ?_; intro w27 k20 x28 k21 h
           exact lb (m3, r26.2, w27, x28) h
          ·refine au h [3,1] ?_; intro h
           refine Ev.weak ?_ (Wk.frz 10507 0 rfl rfl)
           refine au h [1,8,8,1,5,7,8,8,1,7,1] ?_; intro w29 k22 x30 k23 h
           exact lb (m2, b21, w29, x30) h
        ·refine au h [3,1,1,1,8,1,8,1,1] ?_; intro h
         exact lf (w18, r16.1) h
      ·intro ⟨w11, x12⟩ h
       try dsimp only at h ⊢
       unfold explain_Reason_j2 at h
       refine ⟨_, rfl, ?_⟩
       refine Sq.wEnd nb ?_
       refine ax 67 h [1,5,5,5,8,1,1] ?_; intro h
       refine Ev.weak ?_ (Wk.frz 10301 0 rfl rfl)
       refine au h [1,8,1] ?_; intro h
       refine cb h (solver_Solve_spec n _ _) fun r13 k9 h => ?_
       refine ax 67 h [1,5,5,5,5,1,1,8,1,1,1] ?_; intro h
       refine bs h (fun c10 h => ?_) fun c10 h => ?_
       ·refine au h [2,1,1,8,1,7,7,1,1,1,5,7,1] ?_; intro e14 k11 w15 k12 h
        exact lf ((gset (gset w4 x6 true) x6 false), w15) h
       ·refine au h [3,1] ?_; intro h
        exact lf ((gset w4 x6 true), w5) h
     ·intro ⟨w7, w8⟩ h
      try dsimp only at h ⊢
      unfold explain_Reason_j1 at h
      refine au h [1,7,1] ?_; intro x9 k7 h
      exact lb (m1, w7, w8, x9) h
    ·refine au h [3,1,1,1,1,5,1,8,1] ?_; intro h
     cases h
     exact ⟨_, rfl, .refl _⟩
theorem law6_fault_spec (n : Nat) (a0 : Int) (a1 : Int) (r : SCodeIndex) (h : law6_fault n a0 a1 = some r) : PSpec Try.prog 21 [iP a0, iP a1] (.agg (SCodeIndex.cells r)) := by
 unfold law6_fault at h
 refine spec_of Try.c_law6_fault (by simp) ?_
 unfold Try.l_law6_fault
 refine au h [1,1,5,1,1,1,1,5,8,1] ?_; intro h
 cases h
 exact ⟨_, rfl, .refl _⟩
theorem ref5_Ints_spec (n : Nat) (a0 : List Int) (a1 : List Int) (r : Bool) (h : ref5_Ints n a0 a1 = some r) : PSpec Try.prog 23 [lP a0, lP a1] (.bool r) := by
 unfold ref5_Ints at h
 refine spec_of Try.c_ref5_Ints (by simp) ?_
 unfold Try.l_ref5_Ints
 refine au h [1,1,1,1,1,1,1,5,1,5,5] ?_; intro h
 refine bs h (fun c1 h => ?_) fun c1 h => ?_
 ·refine au h [2,1,1,1,1] ?_; intro h
  cases h
  exact ⟨_, rfl, .refl _⟩
 ·refine au h [3,1,1,1,1,1,1] ?_; intro h
  refine Ev.loopW (β := Nat × Int) (fun v => ⟨[(0, lP a0), (1, lP a1), (5, iP v.2)], [], 2⟩) (fun v => ref5_Ints_l1 n a0 a1 v.1 v.2 = some r) (fun v => v.1) (n, 0) (.nA) h ?_
  intro ⟨m1, x1⟩ h
  try dsimp only at h ⊢
  cases m1 with
  | zero => rw [ref5_Ints_l1] at h; cases h
  | succ m1 =>
   rw [ref5_Ints_l1] at h
   refine au h [1,1,1,1,1,5,5] ?_; intro h
   refine bs h (fun c2 h => ?_) fun c2 h => ?_
   ·refine au h [2,1,1,1,1,1,1,1,5,5,1,1,5,5,5] ?_; intro e2 k3 e3 k4 h
    refine bs h (fun c5 h => ?_) fun c5 h => ?_
    ·refine au h [2,1,1,1,1] ?_; intro h
     cases h
     exact ⟨_, rfl, .refl _⟩
    ·refine au h [3,1,1,1,7,1] ?_; intro x4 k6 h
     exact lb (m1, x4) h
   ·refine au h [3,1,1,1,1,1] ?_; intro h
    cases h
    exact ⟨_, rfl, .refl _⟩
theorem law6_span_spec (n : Nat) (a0 : Int) (a1 : SMajorMinorPatchPre) (a2 : SMajorMinorPatchPre) (r : SPackageRange) (h : law6_span n a0 a1 a2 = some r) : PSpec Try.prog 28 [iP a0, .agg (SMajorMinorPatchPre.cells a1), .agg (SMajorMinorPatchPre.cells a2)] (.agg (SPackageRange.cells r)) := by
 unfold law6_span at h
 refine spec_of Try.c_law6_span (by simp) ?_
 unfold Try.l_law6_span
 refine au h [1,1,5,5,5,1,1,1,8,8,5,5,5,5,8] ?_; intro h
 refine Ev.weak ?_ (Wk.frz 11 2 rfl rfl)
 refine Ev.ret ?_
 cases h
 exact ⟨_, rfl, .refl _⟩
theorem law6_ver_spec (n : Nat) (a0 : Int) (a1 : Int) (a2 : Int) (r : SMajorMinorPatchPre) (h : law6_ver n a0 a1 a2 = some r) : PSpec Try.prog 29 [iP a0, iP a1, iP a2] (.agg (SMajorMinorPatchPre.cells r)) := by
 unfold law6_ver at h
 refine spec_of Try.c_law6_ver (by simp) ?_
 unfold Try.l_law6_ver
 refine au h [1,1,5,1,1,1,1,1,5,8,1] ?_; intro h
 cases h
 exact ⟨_, rfl, Le.aggs (.cons (.refl _) (.cons (.refl _) (.cons (.refl _) (.cons (.nils 1) (.nil))))) rfl⟩
theorem law6_universe_spec (n : Nat) (r : SPackages) (h : law6_universe n = some r) : PSpec Try.prog 30 [] (.agg (SPackages.cells r)) := by
 unfold law6_universe at h
 refine spec_of Try.c_law6_universe (by simp) ?_
 unfold Try.l_law6_universe
 refine au h [1,1,5,1,1] ?_; intro h
 refine cb h (law6_ver_spec n _ _ _) fun r1 k1 h => ?_
 refine cb h (law6_ver_spec n _ _ _) fun r2 k2 h => ?_
 refine cb h (law6_span_spec n _ _ _) fun r3 k3 h => ?_
 refine ax 15 h [5,8,1,1] ?_; intro h
 refine cb h (law6_ver_spec n _ _ _) fun r4 k4 h => ?_
 refine aw h [8,5,5,5] ?_; intro h
 refine cb h (law6_ver_spec n _ _ _) fun r5 k5 h => ?_
 refine aw h [5,5,5,5,8] ?_; intro h
 refine Ev.weak ?_ (Wk.frz 7 2 rfl rfl)
 refine Ev.weak ?_ (Wk.frz 9 2 rfl rfl)
 refine Ev.weak ?_ (Wk.rowLe 12 2 (es' := [[iP r5.Major, iP r5.Minor, iP r5.Patch, lP r5.Pre, lP ([] : List SPackageRange)]]) rfl rfl (.cons (.cons (.refl _) (.cons (.refl _) (.cons (.refl _) (.cons (.refl _) (.cons (.nils 2) (.nil)))))) rfl .nil) rfl)
 refine Ev.weak ?_ (Wk.frz 12 2 rfl rfl)
 refine Ev.weak ?_ (Wk.frz 13 2 rfl rfl)
 refine Ev.ret ?_
 cases h
 exact ⟨_, rfl, .refl _⟩
theorem ref5_fault_spec (n : Nat) (a0 : Int) (a1 : Int) (r : SCodeIndex) (h : ref5_fault n a0 a1 = some r) : PSpec Try.prog 34 [iP a0, iP a1] (.agg (SCodeIndex.cells r)) := by
 unfold ref5_fault at h
 refine spec_of Try.c_ref5_fault (by simp) ?_
 unfold Try.l_ref5_fault
 refine au h [1,1,5,1,1,1,1,5,8,1] ?_; intro h
 cases h
 exact ⟨_, rfl, .refl _⟩
theorem ref5_in_spec (n : Nat) (a0 : Int) (a1 : Int) (a2 : Int) (r : Bool) (h : ref5_in n a0 a1 a2 = some r) : PSpec Try.prog 53 [iP a0, iP a1, iP a2] (.bool r) := by
 unfold ref5_in at h
 refine spec_of Try.c_ref5_in (by simp) ?_
 unfold Try.l_ref5_in
 refine au h [1,1,1] ?_; intro h
 refine Ev.seqJ (γ := Bool) (fun v => ⟨[(6, .bool v)], [], 2⟩) (fun v => ref5_in_j1 n v = some r) ?_ ?_
 ·refine au h [1,1,1,5,1] ?_; intro h
  refine bs h (fun c1 h => ?_) fun c1 h => ?_
  ·refine aw h [2,1,2,1,2,5,2,1] ?_; intro h
   exact lf (decide (a0 ≤ a2)) h
  ·refine aw h [3,3,3,3,1] ?_; intro h
   exact lf false h
 ·intro x1 h
  try dsimp only at h ⊢
  unfold ref5_in_j1 at h
  refine Ev.ret ?_
  cases h
  exact ⟨_, rfl, .refl _⟩
theorem ref5_SameVersion_spec (n : Nat) (a0 : SMajorMinorPatchPre) (a1 : SMajorMinorPatchPre) (r : Bool) (h : ref5_SameVersion n a0 a1 = some r) : PSpec Try.prog 43 [.agg (SMajorMinorPatchPre.cells a0), .agg (SMajorMinorPatchPre.cells a1)] (.bool r) := by
 unfold ref5_SameVersion at h
 refine spec_of Try.c_ref5_SameVersion (by simp) ?_
 unfold Try.l_ref5_SameVersion
 refine au h [1,1,5,5,1,1] ?_; intro h
 refine Ev.seqJ (γ := Bool) (fun v => ⟨[(2, wP 10100), (3, wP 10101), (33, .bool v)], [(10100, eP 64 4 [[iP a0.Major, iP a0.Minor, iP a0.Patch, lP a0.Pre]]), (10101, eP 64 4 [[iP a1.Major, iP a1.Minor, iP a1.Patch, lP a1.Pre]])], 2⟩) (fun v => ref5_SameVersion_j1 n a0 a1 v = some r) ?_ ?_
 ·refine au h [1,8,8,8,8,5,1] ?_; intro h
  refine bs h (fun c7 h => ?_) fun c7 h => ?_
  ·refine aw h [3,3,3,3,3,2,1,3,3,3,3,3,2,1,3,3,3,3,3,3,3,2] ?_; intro h
   exact lf true h
  ·refine aw h [2,8,2,8,2,8,2,8,2,5,3,1] ?_; intro h
   refine bs h (fun c8 h => ?_) fun c8 h => ?_
   ·refine aw h [3,3,3,3,3,2,1,3,3,3,3,3,3,3,2] ?_; intro h
    exact lf true h
   ·refine aw h [2,8,2,8,2,8,2,8,2,5,3,1] ?_; intro h
    refine bs h (fun c9 h => ?_) fun c9 h => ?_
    ·refine aw h [3,3,3,3,3,3,3,2] ?_; intro h
     exact lf true h
    ·refine aw h [2,8,2,8,2,5,2,8,2,8,2,5,2,5,3] ?_; intro h
     exact lf (decide ((a0.Pre.length : Int) ≠ (a1.Pre.length : Int))) h
 ·intro x1 h
  try dsimp only at h ⊢
  unfold ref5_SameVersion_j1 at h
  refine bs h (fun c1 h => ?_) fun c1 h => ?_
  ·refine au h [2,1,1,1,1] ?_; intro h
   cases h
   exact ⟨_, rfl, .refl _⟩
  ·refine au h [3,1,1,1,1,1,1] ?_; intro h
   refine Ev.loopW (β := Nat × Int) (fun v => ⟨[(2, wP 10200), (3, wP 10201), (5, iP v.2)], [(10200, eP 64 4 [[iP a0.Major, iP a0.Minor, iP a0.Patch, lP a0.Pre]]), (10201, eP 64 4 [[iP a1.Major, iP a1.Minor, iP a1.Patch, lP a1.Pre]])], 2⟩) (fun v => ref5_SameVersion_l1 n a0 a1 v.1 v.2 = some r) (fun v => v.1) (n, 0) (.nA) h ?_
   intro ⟨m1, x2⟩ h
   try dsimp only at h ⊢
   cases m1 with
   | zero => rw [ref5_SameVersion_l1] at h; cases h
   | succ m1 =>
    rw [ref5_SameVersion_l1] at h
    refine au h [1,1,1,1,8,8,5,5] ?_; intro h
    refine bs h (fun c2 h => ?_) fun c2 h => ?_
    ·refine au h [2,1,1,1,1,1,8,8,1,5,5,8,8,1,5,5,6] ?_; intro e3 k3 e4 k4 h
     refine bs h (fun c5 h => ?_) fun c5 h => ?_
     ·refine au h [2,1,1,1,1] ?_; intro h
      cases h
      exact ⟨_, rfl, .refl _⟩
     ·refine au h [3,1,1,1,7,1] ?_; intro x5 k6 h
      exact lb (m1, x5) h
    ·refine au h [3,1,1,1,1,1] ?_; intro h
     cases h
     exact ⟨_, rfl, .refl _⟩
theorem ref5_Numeric_spec (n : Nat) (a0 : List UInt8) (r : Bool) (h : ref5_Numeric n a0 = some r) : PSpec Try.prog 81 [.str a0] (.bool r) := by
 unfold ref5_Numeric at h
 refine spec_of Try.c_ref5_Numeric (by simp) ?_
 unfold Try.l_ref5_Numeric
 refine au h [1,1,1,1,1,1,1,1] ?_; intro h
 refine Ev.loopW (β := Nat × Int) (fun v => ⟨[(0, .str a0), (3, iP v.2)], [], 2⟩) (fun v => ref5_Numeric_l1 n a0 v.1 v.2 = some r) (fun v => v.1) (n, 0) (.nA) h ?_
 intro ⟨m1, x1⟩ h
 try dsimp only at h ⊢
 cases m1 with
 | zero => rw [ref5_Numeric_l1] at h; cases h
 | succ m1 =>
  rw [ref5_Numeric_l1] at h
  refine au h [1,1,1,1,1,5,5] ?_; intro h
  refine bs h (fun c1 h => ?_) fun c1 h => ?_
  ·refine au h [2,1,1,1] ?_; intro h
   refine Ev.seqJ (γ := Bool) (fun v => ⟨[(0, .str a0), (3, iP x1), (19, .bool v)], [], 2⟩) (fun v => ref5_Numeric_j1 n x1 (ref5_Numeric_l1 n a0 m1) v = some r) ?_ ?_
   ·refine au h [1,1,1,5,5,1] ?_; intro y4 k4 h
    refine bs h (fun c5 h => ?_) fun c5 h => ?_
    ·refine aw h [3,3,3,3,2] ?_; intro h
     exact lf true h
    ·refine aw h [2,1,2,1,2,5,2,5,3] ?_; intro y5 k6 h
     exact lf (decide (57 < (y5.toNat : Int))) h
   ·intro x2 h
    try dsimp only at h ⊢
    unfold ref5_Numeric_j1 at h
    refine bs h (fun c2 h => ?_) fun c2 h => ?_
    ·refine au h [2,1,1,1,1] ?_; intro h
     cases h
     exact ⟨_, rfl, .refl _⟩
    ·refine au h [3,1,1,1,7,1] ?_; intro x3 k3 h
     exact lb (m1, x3) h
  ·refine au h [3,1,1,1,1,5,5,1,1] ?_; intro h
   cases h
   exact ⟨_, rfl, .refl _⟩
theorem ref5_Identifier_spec (n : Nat) (a0 : List UInt8) (r : Bool) (h : ref5_Identifier n a0 = some r) : PSpec Try.prog 72 [.str a0] (.bool r) := by
 unfold ref5_Identifier at h
 refine spec_of Try.c_ref5_Identifier (by simp) ?_
 unfold Try.l_ref5_Identifier
 refine au h [1,1,1,1] ?_; intro h
 refine Ev.seqJ (γ := Bool) (fun v => ⟨[(0, .str a0), (22, .bool v)], [], 2⟩) (fun v => ref5_Identifier_j1 n a0 v = some r) ?_ ?_
 ·refine au h [1,1,5] ?_; intro h
  refine cb h (ref5_in_spec n _ _ _) fun r9 k12 h => ?_
  refine aw h [5,1] ?_; intro h
  refine bs h (fun c13 h => ?_) fun c13 h => ?_
  ·refine aw h [3,3,3,4,4,4,3,3,4,4,4,3,2] ?_; intro h
   exact lf true h
  ·refine aw h [2,1,2] ?_; intro h
   refine cb h (ref5_Numeric_spec n _) fun r10 k14 h => ?_
   refine aw h [2,1] ?_; intro h
   refine bs h (fun c15 h => ?_) fun c15 h => ?_
   ·refine aw h [2,1,2,5,2,5,2,2,2,1] ?_; intro h
    refine bs h (fun c16 h => ?_) fun c16 h => ?_
    ·refine aw h [2,1,2,5,2,5,2,2,3] ?_; intro y11 k17 h
     exact lf (decide ((y11.toNat : Int) = 48)) h
    ·refine aw h [3,3,3,2,3,3] ?_; intro h
     exact lf false h
   ·refine aw h [3,3,3,2,3,2,1,3,3,3,2,3,3] ?_; intro h
    exact lf false h
 ·intro x1 h
  try dsimp only at h ⊢
  unfold ref5_Identifier_j1 at h
  refine bs h (fun c1 h => ?_) fun c1 h => ?_
  ·refine au h [2,1,1,1,1] ?_; intro h
   cases h
   exact ⟨_, rfl, .refl _⟩
  ·refine au h [3,1,1,1,1,1,1] ?_; intro h
   refine Ev.loopW (β := Nat × Int) (fun v => ⟨[(0, .str a0), (3, iP v.2)], [], 2⟩) (fun v => ref5_Identifier_l1 n a0 v.1 v.2 = some r) (fun v => v.1) (n, 0) (.nA) h ?_
   intro ⟨m1, x2⟩ h
   try dsimp only at h ⊢
   cases m1 with
   | zero => rw [ref5_Identifier_l1] at h; cases h
   | succ m1 =>
    rw [ref5_Identifier_l1] at h
    refine au h [1,1,1,1,1,5,5] ?_; intro h
    refine bs h (fun c2 h => ?_) fun c2 h => ?_
    ·refine au h [2,1,1,1,1,1,1,1,5,5,1] ?_; intro y3 k3 h
     refine Ev.seqJ (γ := Bool) (fun v => ⟨[(0, .str a0), (3, iP x2), (49, .bool v)], [], 2⟩) (fun v => ref5_Identifier_j2 n x2 (ref5_Identifier_l1 n a0 m1) v = some r) ?_ ?_
     ·refine au h [1,1] ?_; intro h
      refine cb h (ref5_in_spec n _ _ _) fun r6 k6 h => ?_
      refine aw h [5,1] ?_; intro h
      refine bs h (fun c7 h => ?_) fun c7 h => ?_
      ·refine aw h [2,1,2] ?_; intro h
       refine cb h (ref5_in_spec n _ _ _) fun r7 k8 h => ?_
       refine aw h [2,5,2,1] ?_; intro h
       refine bs h (fun c9 h => ?_) fun c9 h => ?_
       ·refine aw h [2,1,2] ?_; intro h
        refine cb h (ref5_in_spec n _ _ _) fun r8 k10 h => ?_
        refine aw h [2,5,2,1] ?_; intro h
        refine bs h (fun c11 h => ?_) fun c11 h => ?_
        ·refine aw h [2,1,2,5,2] ?_; intro h
         exact lf (decide ((IntKind.wrap .i64 (y3.toNat : Int)) ≠ 45)) h
        ·refine aw h [3,3,3] ?_; intro h
         exact lf false h
       ·refine aw h [3,3,3,3,1,3,3,3] ?_; intro h
        exact lf false h
      ·refine aw h [3,3,3,3,1,3,3,3,3,1,3,3,3] ?_; intro h
       exact lf false h
     ·intro x4 h
      try dsimp only at h ⊢
      unfold ref5_Identifier_j2 at h
      refine bs h (fun c4 h => ?_) fun c4 h => ?_
      ·refine au h [2,1,1,1,1] ?_; intro h
       cases h
       exact ⟨_, rfl, .refl _⟩
      ·refine au h [3,1,1,1,7,1] ?_; intro x5 k5 h
       exact lb (m1, x5) h
    ·refine au h [3,1,1,1,1,1] ?_; intro h
     cases h
     exact ⟨_, rfl, .refl _⟩
theorem ref5_VersionFault_spec (n : Nat) (a0 : SMajorMinorPatchPre) (r : SCodeIndex) (h : ref5_VersionFault n a0 = some r) : PSpec Try.prog 64 [.agg (SMajorMinorPatchPre.cells a0)] (.agg (SCodeIndex.cells r)) := by
 unfold ref5_VersionFault at h
 refine spec_of Try.c_ref5_VersionFault (by simp) ?_
 unfold Try.l_ref5_VersionFault
 refine au h [1,1,5,5,1,1,1,8,8] ?_; intro h
 refine cb h (ref5_in_spec n _ _ _) fun r1 k1 h => ?_
 refine aw h [5] ?_; intro h
 refine bs h (fun c2 h => ?_) fun c2 h => ?_
 ·refine au h [2,1,1] ?_; intro h
  refine cb h (ref5_fault_spec n _ _) fun r2 k3 h => ?_
  refine ax 41 h [8,1] ?_; intro h
  cases h
  exact ⟨_, rfl, .refl _⟩
 ·refine au h [3,1,1,1,1,8,8] ?_; intro h
  refine cb h (ref5_in_spec n _ _ _) fun r3 k4 h => ?_
  refine aw h [5] ?_; intro h
  refine bs h (fun c5 h => ?_) fun c5 h => ?_
  ·refine au h [2,1,1] ?_; intro h
   refine cb h (ref5_fault_spec n _ _) fun r4 k6 h => ?_
   refine ax 41 h [8,1] ?_; intro h
   cases h
   exact ⟨_, rfl, .refl _⟩
  ·refine au h [3,1,1,1,1,8,8] ?_; intro h
   refine cb h (ref5_in_spec n _ _ _) fun r5 k7 h => ?_
   refine aw h [5] ?_; intro h
   refine bs h (fun c8 h => ?_) fun c8 h => ?_
   ·refine au h [2,1,1] ?_; intro h
    refine cb h (ref5_fault_spec n _ _) fun r6 k9 h => ?_
    refine ax 41 h [8,1] ?_; intro h
    cases h
    exact ⟨_, rfl, .refl _⟩
   ·refine au h [3,1,1,1,1,8,8,5,5] ?_; intro h
    refine bs h (fun c10 h => ?_) fun c10 h => ?_
    ·refine au h [2,1,1] ?_; intro h
     refine cb h (ref5_fault_spec n _ _) fun r7 k11 h => ?_
     refine ax 41 h [8,1] ?_; intro h
     cases h
     exact ⟨_, rfl, .refl _⟩
    ·refine au h [3,1,1,1,1,1,1] ?_; intro h
     refine Ev.loopW (β := Nat × Int) (fun v => ⟨[(1, wP 10100), (2, wP 10101), (3, iP v.2)], [(10100, eP 64 4 [[iP a0.Major, iP a0.Minor, iP a0.Patch, lP a0.Pre]]), (10101, eP 30 2 [[iP 0, iP 0]])], 2⟩) (fun v => ref5_VersionFault_l1 n a0 v.1 v.2 = some r) (fun v => v.1) (n, 0) (.nA) h ?_
     intro ⟨m1, x8⟩ h
     try dsimp only at h ⊢
     cases m1 with
     | zero => rw [ref5_VersionFault_l1] at h; cases h
     | succ m1 =>
      rw [ref5_VersionFault_l1] at h
      refine au h [1,1,1,1,8,8,5,5] ?_; intro h
      refine bs h (fun c12 h => ?_) fun c12 h => ?_
      ·refine au h [2,1,1,1,1,1,8,8,1,5,5] ?_; intro e9 k13 h
       refine cb h (ref5_Identifier_spec n _) fun r10 k14 h => ?_
       refine aw h [5] ?_; intro h
       refine bs h (fun c15 h => ?_) fun c15 h => ?_
       ·refine au h [2,1,1,1] ?_; intro h
        refine cb h (ref5_fault_spec n _ _) fun r11 k16 h => ?_
        refine ax 41 h [8,1] ?_; intro h
        cases h
        exact ⟨_, rfl, .refl _⟩
       ·refine au h [3,1,1,1,7,1] ?_; intro x12 k17 h
        exact lb (m1, x12) h
      ·refine au h [3,1,1,1,5,8,1] ?_; intro h
       cases h
       exact ⟨_, rfl, .refl _⟩
end Go.Proofs.Ytfdennmaeoahgaa
