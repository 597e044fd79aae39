/- The functions compute what the texts of D say. Laid by a program (wip/gen/dec.py). -/
import Derived.Test.YtfdfhpembpjglaaDoorPwAuto
import Derived.Test.YtfdfhpembpjglaaDoorD
import Derived.Test.YtfdfhpembpjglaaDoorK
set_option linter.unusedVariables false
set_option linter.unusedSimpArgs false
namespace Go.Proofs.YtfdfhpembpjglaaDoor
open Go.PW Go
instance : Cl SCodeIndex := ⟨2, SCodeIndex.cells⟩
instance : Cl SKindInputs := ⟨2, SKindInputs.cells⟩
instance : Cl SRuleKindInputs := ⟨3, SRuleKindInputs.cells⟩
theorem ref6_fault_spec (n : Nat) (a0 : Int) (a1 : Int) (r : SCodeIndex) (h : ref6_fault n a0 a1 = some r) : PSpec Tryd.prog 22 [iP a0, iP a1] (.agg (SCodeIndex.cells r)) := by
 unfold ref6_fault at h
 refine spec_of Tryd.c_ref6_fault (by simp) ?_
 unfold Tryd.l_ref6_fault
 refine au h [1,1,5,1,1,1,1,5,8,1] ?_; intro h
 cases h
 exact ⟨_, rfl, .refl _⟩
theorem ref6_StandsFor_spec (n : Nat) (a0 : List SKindInputs) (a1 : List Bool) (r : (List Bool)) (h : ref6_StandsFor n a0 a1 = some r) : PSpec Tryd.prog 26 [lP a0, lP a1] (lP r) := by
 unfold ref6_StandsFor at h
 refine spec_of Tryd.c_ref6_StandsFor (by simp) ?_
 unfold Tryd.l_ref6_StandsFor
 refine au h [1,1,1,1,1,1,5,5,1,1,1,1,1,5,7,1,1] ?_; intro w1 k1 x2 k2 h
 refine Ev.loopW (β := Nat × (List Bool) × Int) (fun v => ⟨[(0, lP a0), (1, lP a1), (5, .own 10100 0), (6, iP v.2.2)], [(10100, eP 4 1 (mP v.2.1))], 2⟩) (fun v => ref6_StandsFor_l1 n a0 a1 v.1 v.2.1 v.2.2 = some r) (fun v => v.1) (n, w1, x2) (.nA) h ?_
 intro ⟨m1, w3, x4⟩ h
 try dsimp only at h ⊢
 cases m1 with
 | zero => rw [ref6_StandsFor_l1] at h; cases h
 | succ m1 =>
  rw [ref6_StandsFor_l1] at h
  refine au h [1,1,1,1,5] ?_; intro h
  refine bs h (fun c3 h => ?_) fun c3 h => ?_
  ·refine au h [2,1] ?_; intro h
   refine Ev.seqJ (γ := List Bool) (fun v => ⟨[(0, lP a0), (1, lP a1), (5, .own 10200 0), (6, iP x4)], [(10200, eP 4 1 (mP v))], 2⟩) (fun v => ref6_StandsFor_j1 n x4 (ref6_StandsFor_l1 n a0 a1 m1) v = some r) ?_ ?_
   ·refine Ev.block ?_
    refine Ev.seqJ (γ := List Bool) (fun v => ⟨[(0, lP a0), (1, lP a1), (5, .own 10300 0), (6, iP x4)], [(10300, eP 4 1 (mP v))], 2⟩) (fun v => ref6_StandsFor_j2 n a0 x4 (ref6_StandsFor_l1 n a0 a1 m1) v = some r) ?_ ?_
    ·refine au h [1,1,1,1,1,7,7,1] ?_; intro e17 k14 h
     refine bs h (fun c15 h => ?_) fun c15 h => ?_
     ·refine aw h [3,3,3,3,2,8,7] ?_; intro h
      exact lf (gset w3 x4 true) h
     ·refine aw h [2,1,2,1,2,5,2,5,3,8,7] ?_; intro e18 k16 h
      exact lf (gset w3 x4 e18) h
    ·intro w7 h
     try dsimp only at h ⊢
     unfold ref6_StandsFor_j2 at h
     refine Ev.seqJ (γ := Bool) (fun v => ⟨[(0, lP a0), (1, lP a1), (5, .own 10400 0), (6, iP x4), (43, .bool v)], [(10400, eP 4 1 (mP w7))], 2⟩) (fun v => ref6_StandsFor_j3 n a0 x4 (ref6_StandsFor_l1 n a0 a1 m1) w7 v = some r) ?_ ?_
     ·refine au h [1,1,1,7,7,1] ?_; intro e15 k11 h
      refine bs h (fun c12 h => ?_) fun c12 h => ?_
      ·refine aw h [2,1,2,1,2,5,2,5,2,5,2,5,2] ?_; intro e16 k13 h
       exact lf (decide (e16.Kind = 6)) h
      ·refine aw h [3,3,3,3,3,3,3] ?_; intro h
       exact lf false h
     ·intro x8 h
      try dsimp only at h ⊢
      unfold ref6_StandsFor_j3 at h
      refine bs h (fun c5 h => ?_) fun c5 h => ?_
      ·refine au h [2,1,1,1,1] ?_; intro h
       refine Ev.loopW (β := Nat × (List Bool) × Int) (fun v => ⟨[(0, lP a0), (1, lP a1), (5, .own 10500 0), (6, iP x4), (7, iP v.2.2)], [(10500, eP 4 1 (mP v.2.1))], 2⟩) (fun v => ref6_StandsFor_l2 n a0 x4 (ref6_StandsFor_l1 n a0 a1 m1) v.1 v.2.1 v.2.2 = some r) (fun v => v.1) (n, w7, 0) (.nA) h ?_
       intro ⟨m2, w9, x10⟩ h
       try dsimp only at h ⊢
       cases m2 with
       | zero => rw [ref6_StandsFor_l2] at h; cases h
       | succ m2 =>
        rw [ref6_StandsFor_l2] at h
        refine au h [1,1,1,1,1,1,5,5,5,5,5] ?_; intro e11 k6 h
        refine bs h (fun c7 h => ?_) fun c7 h => ?_
        ·refine au h [2,1,1,1,1,1,1,1,6,5,5,1,5,5,7,7,1,1,7,1] ?_; intro e12 k8 e13 k9 x14 k10 h
         exact lb (m2, (gset w9 e12 true), x14) h
        ·refine au h [3,1] ?_; intro h
         exact lf w9 h
      ·refine au h [3,1] ?_; intro h
       exact lf w7 h
   ·intro w5 h
    try dsimp only at h ⊢
    unfold ref6_StandsFor_j1 at h
    refine au h [1,1,7,1] ?_; intro x6 k4 h
    exact lb (m1, w5, x6) h
  ·refine au h [3,1,1,1,1,1,1] ?_; intro h
   refine Ev.loopW (β := Nat × (List Bool) × Int) (fun v => ⟨[(0, lP a0), (5, .own 10200 0), (8, iP v.2.2)], [(10200, eP 4 1 (mP v.2.1))], 2⟩) (fun v => ref6_StandsFor_l3 n a0 v.1 v.2.1 v.2.2 = some r) (fun v => v.1) (n, w3, 0) (.nA) h ?_
   intro ⟨m3, w19, x20⟩ h
   try dsimp only at h ⊢
   cases m3 with
   | zero => rw [ref6_StandsFor_l3] at h; cases h
   | succ m3 =>
    rw [ref6_StandsFor_l3] at h
    refine au h [1,1,1,1,1,5,5] ?_; intro h
    refine bs h (fun c17 h => ?_) fun c17 h => ?_
    ·refine au h [2,1] ?_; intro h
     refine Ev.seqJ (γ := List Bool) (fun v => ⟨[(0, lP a0), (5, .own 10300 0), (8, iP x20)], [(10300, eP 4 1 (mP v))], 2⟩) (fun v => ref6_StandsFor_j4 n x20 (ref6_StandsFor_l3 n a0 m3) v = some r) ?_ ?_
     ·refine au h [1,1,1,1,1,1,7,7,1] ?_; intro e23 k19 h
      refine bs h (fun c20 h => ?_) fun c20 h => ?_
      ·refine aw h [2,1,2,1,2,5,2,5,2,5,2,5,2,8,7] ?_; intro e24 k21 h
       exact lf (gset w19 x20 (decide (e24.Kind ≠ 6))) h
      ·refine aw h [3,3,3,3,3,3,3,8,7] ?_; intro h
       exact lf (gset w19 x20 false) h
     ·intro w21 h
      try dsimp only at h ⊢
      unfold ref6_StandsFor_j4 at h
      refine au h [1,1,7,1] ?_; intro x22 k18 h
      exact lb (m3, w21, x22) h
    ·refine au h [3,1,1,1,1,1,1] ?_; intro h
     cases h
     exact ⟨_, rfl, .refl _⟩
theorem ref6_RuleLeaves_spec (n : Nat) (a0 : List SKindInputs) (a1 : Int) (r : (List Int)) (h : ref6_RuleLeaves n a0 a1 = some r) : PSpec Tryd.prog 16 [lP a0, iP a1] (lP r) := by
 unfold ref6_RuleLeaves at h
 refine spec_of Tryd.c_ref6_RuleLeaves (by simp) ?_
 unfold Tryd.l_ref6_RuleLeaves
 refine au h [1,1,1,1,1,1,5,5,1,1,1,1,1,1] ?_; intro w1 k1 h
 refine Ev.loopW (β := Nat × (List Bool) × Int) (fun v => ⟨[(0, lP a0), (1, iP a1), (5, .own 10100 0), (6, iP v.2.2)], [(10100, eP 4 1 (mP v.2.1))], 2⟩) (fun v => ref6_RuleLeaves_l1 n a0 a1 v.1 v.2.1 v.2.2 = some r) (fun v => v.1) (n, w1, 0) (.nA) h ?_
 intro ⟨m1, w2, x3⟩ h
 try dsimp only at h ⊢
 cases m1 with
 | zero => rw [ref6_RuleLeaves_l1] at h; cases h
 | succ m1 =>
  rw [ref6_RuleLeaves_l1] at h
  refine au h [1,1,1,1,1,1,5,5,5,5,5] ?_; intro e4 k2 h
  refine bs h (fun c3 h => ?_) fun c3 h => ?_
  ·refine au h [2,1,1,1,1,1,1,1,6,5,5,1,5,5,7,7,1,1,7,1] ?_; intro e5 k4 e6 k5 x7 k6 h
   exact lb (m1, (gset w2 e5 true), x7) h
  ·refine au h [3,1,1] ?_; intro h
   refine Ev.weak ?_ (Wk.frz 10100 0 rfl rfl)
   refine au h [1,1,1] ?_; intro h
   refine cb h (ref6_StandsFor_spec n _ _) fun r8 k7 h => ?_
   refine ax 51 h [1,1,1,1,1,1,1,1,1] ?_; intro h
   refine Ev.loopW (β := Nat × (List Int) × Int) (fun v => ⟨[(0, lP a0), (7, lP r8), (8, .own 10200 0), (9, iP v.2.2)], [(10200, eP 3 1 (mP v.2.1))], 2⟩) (fun v => ref6_RuleLeaves_l2 n a0 r8 v.1 v.2.1 v.2.2 = some r) (fun v => v.1) (n, ([] : List Int), 0) ((Wk.ownNil 8 30200 3 1 rfl rfl true).trans (.nA)) h ?_
   intro ⟨m2, w9, x10⟩ h
   try dsimp only at h ⊢
   cases m2 with
   | zero => rw [ref6_RuleLeaves_l2] at h; cases h
   | succ m2 =>
    rw [ref6_RuleLeaves_l2] at h
    refine au h [1,1,1,1,1,5,5] ?_; intro h
    refine bs h (fun c8 h => ?_) fun c8 h => ?_
    ·refine au h [2,1] ?_; intro h
     refine Ev.seqJ (γ := List Int) (fun v => ⟨[(0, lP a0), (7, lP r8), (8, .own 10300 0), (9, iP x10)], [(10300, eP 3 1 (mP v))], 2⟩) (fun v => ref6_RuleLeaves_j1 n x10 (ref6_RuleLeaves_l2 n a0 r8 m2) v = some r) ?_ ?_
     ·refine au h [1,1,1,1,1,5,5] ?_; intro e13 k10 h
      refine bs h (fun c11 h => ?_) fun c11 h => ?_
      ·refine au h [2,1,1,1,5,7,1] ?_; intro w14 k12 h
       exact lf w14 h
      ·refine au h [3,1] ?_; intro h
       exact lf w9 h
     ·intro w11 h
      try dsimp only at h ⊢
      unfold ref6_RuleLeaves_j1 at h
      refine au h [1,1,7,1] ?_; intro x12 k9 h
      exact lb (m2, w11, x12) h
    ·refine au h [3,1,1,1,1,1,1] ?_; intro h
     cases h
     exact ⟨_, rfl, .refl _⟩
theorem ref6_in_spec (n : Nat) (a0 : Int) (a1 : Int) (a2 : Int) (r : Bool) (h : ref6_in n a0 a1 a2 = some r) : PSpec Tryd.prog 28 [iP a0, iP a1, iP a2] (.bool r) := by
 unfold ref6_in at h
 refine spec_of Tryd.c_ref6_in (by simp) ?_
 unfold Tryd.l_ref6_in
 refine au h [1,1,1] ?_; intro h
 refine Ev.seqJ (γ := Bool) (fun v => ⟨[(6, .bool v)], [], 2⟩) (fun v => ref6_in_j1 n v = some r) ?_ ?_
 ·refine au h [1,1,1,5,1] ?_; intro h
  refine bs h (fun c1 h => ?_) fun c1 h => ?_
  ·refine aw h [2,1,2,1,2,5,2,1] ?_; intro h
   exact lf (decide (a0 ≤ a2)) h
  ·refine aw h [3,3,3,3,1] ?_; intro h
   exact lf false h
 ·intro x1 h
  try dsimp only at h ⊢
  unfold ref6_in_j1 at h
  refine Ev.ret ?_
  cases h
  exact ⟨_, rfl, .refl _⟩
theorem ref6_permitted_spec (n : Nat) (a0 : Int) (a1 : Int) (r : Bool) (h : ref6_permitted n a0 a1 = some r) : PSpec Tryd.prog 29 [iP a0, iP a1] (.bool r) := by
 unfold ref6_permitted at h
 refine spec_of Tryd.c_ref6_permitted (by simp) ?_
 unfold Tryd.l_ref6_permitted
 refine au h [1,1,1,1,1,1,1,1,1,1,5,1] ?_; intro h
 refine bs h (fun c1 h => ?_) fun c1 h => ?_
 ·refine Ev.condT rfl c1 ?_
  refine Ev.seqJ (γ := Bool) (fun v => ⟨[(4, .bool v)], [], 2⟩) (fun v => ref6_permitted_j1 n v = some r) ?_ ?_
  ·refine au h [1,1,5,1] ?_; intro h
   refine bs h (fun c2 h => ?_) fun c2 h => ?_
   ·refine aw h [3,3,2,1] ?_; intro h
    exact lf true h
   ·refine aw h [2,1,2,5,3,1] ?_; intro h
    exact lf (decide (a1 = 3)) h
  ·intro x1 h
   try dsimp only at h ⊢
   unfold ref6_permitted_j1 at h
   refine Ev.ret ?_
   cases h
   exact ⟨_, rfl, .refl _⟩
 ·refine au h [3,1,1,5,1] ?_; intro h
  refine bs h (fun c3 h => ?_) fun c3 h => ?_
  ·refine au h [2,1,1,1,5,1,1] ?_; intro h
   cases h
   exact ⟨_, rfl, .refl _⟩
  ·refine au h [3,1,1,5,1] ?_; intro h
   refine bs h (fun c4 h => ?_) fun c4 h => ?_
   ·refine Ev.condT rfl c4 ?_
    refine Ev.seqJ (γ := Bool) (fun v => ⟨[(4, .bool v)], [], 2⟩) (fun v => ref6_permitted_j2 n v = some r) ?_ ?_
    ·refine au h [1,1,5,1] ?_; intro h
     refine bs h (fun c5 h => ?_) fun c5 h => ?_
     ·refine aw h [3,3,2,1] ?_; intro h
      exact lf true h
     ·refine aw h [2,1,2,5,3,1] ?_; intro h
      exact lf (decide (a1 = 3)) h
    ·intro x2 h
     try dsimp only at h ⊢
     unfold ref6_permitted_j2 at h
     refine Ev.ret ?_
     cases h
     exact ⟨_, rfl, .refl _⟩
   ·refine au h [3,1,1,5,1] ?_; intro h
    refine bs h (fun c6 h => ?_) fun c6 h => ?_
    ·refine au h [2,1,1,1,5,1,1] ?_; intro h
     cases h
     exact ⟨_, rfl, .refl _⟩
    ·refine au h [3,1,1,1,1,1] ?_; intro h
     cases h
     exact ⟨_, rfl, .refl _⟩
theorem ref6_required_spec (n : Nat) (a0 : Int) (r : Int) (h : ref6_required n a0 = some r) : PSpec Tryd.prog 30 [iP a0] (iP r) := by
 unfold ref6_required at h
 refine spec_of Tryd.c_ref6_required (by simp) ?_
 unfold Tryd.l_ref6_required
 refine au h [1,1,1,1,1,1,1,1,1,1,5,1] ?_; intro h
 refine bs h (fun c1 h => ?_) fun c1 h => ?_
 ·refine au h [2,1,1,1,1] ?_; intro h
  cases h
  exact ⟨_, rfl, .refl _⟩
 ·refine au h [3,1,1,5,1] ?_; intro h
  refine bs h (fun c2 h => ?_) fun c2 h => ?_
  ·refine au h [2,1,1,1,1] ?_; intro h
   cases h
   exact ⟨_, rfl, .refl _⟩
  ·refine au h [3,1,1,5,1] ?_; intro h
   refine bs h (fun c3 h => ?_) fun c3 h => ?_
   ·refine au h [2,1,1,1,1] ?_; intro h
    cases h
    exact ⟨_, rfl, .refl _⟩
   ·refine au h [3,1,1,5,1] ?_; intro h
    refine bs h (fun c4 h => ?_) fun c4 h => ?_
    ·refine au h [2,1,1,1,1] ?_; intro h
     cases h
     exact ⟨_, rfl, .refl _⟩
    ·refine au h [3,1,1,1,1,1] ?_; intro h
     cases h
     exact ⟨_, rfl, .refl _⟩
set_option maxHeartbeats 4000000 in
theorem ref6_ruleCode_spec (n : Nat) (a0 : List SKindInputs) (a1 : Int) (r : Int) (h : ref6_ruleCode n a0 a1 = some r) : PSpec Tryd.prog 23 [lP a0, iP a1] (iP r) := by
 unfold ref6_ruleCode at h
 refine spec_of Tryd.c_ref6_ruleCode (by simp) ?_
 unfold Tryd.l_ref6_ruleCode
 refine au h [1,1,1,1,1,1,1,5,5,5,8,1,1,1,8,8] ?_; intro e1 k1 h
 refine cb h (ref6_in_spec n _ _ _) fun r2 k2 h => ?_
 refine aw h [5] ?_; intro h
 refine bs h (fun c3 h => ?_) fun c3 h => ?_
 ·refine au h [2,1,1,1,1] ?_; intro h
  cases h
  exact ⟨_, rfl, .refl _⟩
 ·refine au h [3,1,1,1,1,8,8,5,5] ?_; intro h
  refine bs h (fun c4 h => ?_) fun c4 h => ?_
  ·refine au h [2,1,1,1,1] ?_; intro h
   cases h
   exact ⟨_, rfl, .refl _⟩
  ·refine au h [3,1,1,1,1,1,1] ?_; intro h
   refine Ev.loopW (β := Nat × Int) (fun v => ⟨[(0, lP a0), (1, iP a1), (5, wP 10100), (6, iP v.2)], [(10100, eP 33 2 [[iP e1.Kind, lP e1.Inputs]])], 2⟩) (fun v => ref6_ruleCode_l1 n a0 a1 e1 v.1 v.2 = some r) (fun v => v.1) (n, 0) (.nA) h ?_
   intro ⟨m1, x3⟩ h
   try dsimp only at h ⊢
   cases m1 with
   | zero => rw [ref6_ruleCode_l1] at h; cases h
   | succ m1 =>
    rw [ref6_ruleCode_l1] at h
    refine au h [1,1,1,1,8,8,5,5] ?_; intro h
    refine bs h (fun c5 h => ?_) fun c5 h => ?_
    ·refine au h [2,1,1,1,1,1,1,8,8,1,5,5,1,7] ?_; intro e4 k6 x5 k7 h
     refine cb h (ref6_in_spec n _ _ _) fun r6 k8 h => ?_
     refine aw h [5] ?_; intro h
     refine bs h (fun c9 h => ?_) fun c9 h => ?_
     ·refine au h [2,1,1,1,1] ?_; intro h
      cases h
      exact ⟨_, rfl, .refl _⟩
     ·refine au h [3,1] ?_; intro h
      refine Ev.seqJ (γ := Bool) (fun v => ⟨[(0, lP a0), (1, iP a1), (5, wP 10200), (6, iP x3), (53, .bool v)], [(10200, eP 33 2 [[iP e1.Kind, lP e1.Inputs]])], 2⟩) (fun v => ref6_ruleCode_j1 n x3 (ref6_ruleCode_l1 n a0 a1 e1 m1) v = some r) ?_ ?_
      ·refine au h [1,1,5,1] ?_; intro h
       refine bs h (fun c12 h => ?_) fun c12 h => ?_
       ·refine aw h [2,8,2,8,2,1,2,6,2,5,2,8,2,8,2,1,2,7,2,5,2,5,2,5,2] ?_; intro x9 k13 e10 k14 h
        exact lf (decide (e4 ≤ e10)) h
       ·refine aw h [3,3,3,3,3,3,3,3,3,3,3,3,3] ?_; intro h
        exact lf false h
      ·intro x7 h
       try dsimp only at h ⊢
       unfold ref6_ruleCode_j1 at h
       refine bs h (fun c10 h => ?_) fun c10 h => ?_
       ·refine au h [2,1,1,1,1] ?_; intro h
        cases h
        exact ⟨_, rfl, .refl _⟩
       ·refine au h [3,1,1,1,7,1] ?_; intro x8 k11 h
        exact lb (m1, x8) h
    ·refine au h [3,1,1,1,1,8,8,5] ?_; intro h
     refine bs h (fun c15 h => ?_) fun c15 h => ?_
     ·refine au h [2,1,1,1,8,8,5,5] ?_; intro h
      refine bs h (fun c16 h => ?_) fun c16 h => ?_
      ·refine au h [2,1,1,1,1] ?_; intro h
       cases h
       exact ⟨_, rfl, .refl _⟩
      ·refine au h [3,1,1,1,1,1] ?_; intro h
       cases h
       exact ⟨_, rfl, .refl _⟩
     ·refine au h [3,1,1,1,1,1,7,7,1] ?_; intro x11 k17 s12 k18 h
      refine cb h (ref6_RuleLeaves_spec n _ _) fun r13 k19 h => ?_
      refine ax 116 h [1,1,1,1,1,1,1,1,1] ?_; intro h
      refine Ev.loopW (β := Nat × Int × Int) (fun v => ⟨[(0, lP a0), (5, wP 10200), (7, lP r13), (8, iP v.2.1), (9, iP v.2.2)], [(10200, eP 33 2 [[iP e1.Kind, lP e1.Inputs]])], 2⟩) (fun v => ref6_ruleCode_l2 n a0 e1 r13 v.1 v.2.1 v.2.2 = some r) (fun v => v.1) (n, 0, 0) (.nA) h ?_
      intro ⟨m2, x14, x15⟩ h
      try dsimp only at h ⊢
      cases m2 with
      | zero => rw [ref6_ruleCode_l2] at h; cases h
      | succ m2 =>
       rw [ref6_ruleCode_l2] at h
       refine au h [1,1,1,1,1,5,5] ?_; intro h
       refine bs h (fun c20 h => ?_) fun c20 h => ?_
       ·refine au h [2,1] ?_; intro h
        refine Ev.seqJ (γ := Int) (fun v => ⟨[(0, lP a0), (5, wP 10300), (7, lP r13), (8, iP v), (9, iP x15)], [(10300, eP 33 2 [[iP e1.Kind, lP e1.Inputs]])], 2⟩) (fun v => ref6_ruleCode_j2 n x15 (ref6_ruleCode_l2 n a0 e1 r13 m2) v = some r) ?_ ?_
        ·refine au h [1,1,1,1,8,8,1,1,1,5,5,5,5,5] ?_; intro e18 k22 e19 k23 h
         refine cb h (ref6_permitted_spec n _ _) fun r20 k24 h => ?_
         refine aw h [5] ?_; intro h
         refine bs h (fun c25 h => ?_) fun c25 h => ?_
         ·refine au h [2,1,1,1,1] ?_; intro h
          cases h
          exact ⟨_, rfl, .refl _⟩
         ·refine au h [3,1,1,1,1,1,1,6,5,6,5,5,8,8] ?_; intro h
          refine cb h (ref6_required_spec n _) fun r21 k26 h => ?_
          refine aw h [5] ?_; intro h
          refine bs h (fun c27 h => ?_) fun c27 h => ?_
          ·refine au h [2,1,1,7,1] ?_; intro x22 k28 h
           exact lf x22 h
          ·refine au h [3,1] ?_; intro h
           exact lf x14 h
        ·intro x16 h
         try dsimp only at h ⊢
         unfold ref6_ruleCode_j2 at h
         refine au h [1,1,7,1] ?_; intro x17 k21 h
         exact lb (m2, x16, x17) h
       ·refine au h [3,1,1] ?_; intro h
        refine Ev.seqJ (γ := Bool) (fun v => ⟨[(115, .bool v)], [], 2⟩) (fun v => ref6_ruleCode_j3 n v = some r) ?_ ?_
        ·refine au h [1,8,8,5,1] ?_; intro h
         refine bs h (fun c30 h => ?_) fun c30 h => ?_
         ·refine aw h [2,1,2,5,2,1] ?_; intro h
          refine bs h (fun c31 h => ?_) fun c31 h => ?_
          ·refine aw h [3,3,3,3,4,4,4,3,2] ?_; intro h
           exact lf true h
          ·refine aw h [2,8,2,8,2,5,2,1] ?_; intro h
           refine bs h (fun c32 h => ?_) fun c32 h => ?_
           ·refine aw h [2,1,2,5,2,5,2,2,3] ?_; intro h
            exact lf (decide ((r13.length : Int) ≠ 1)) h
           ·refine aw h [3,3,3,2,3,3] ?_; intro h
            exact lf false h
         ·refine aw h [3,3,3,1,2,8,2,8,2,5,2,1] ?_; intro h
          refine bs h (fun c33 h => ?_) fun c33 h => ?_
          ·refine aw h [2,1,2,5,2,5,2,2,3] ?_; intro h
           exact lf (decide ((r13.length : Int) ≠ 1)) h
          ·refine aw h [3,3,3,2,3,3] ?_; intro h
           exact lf false h
        ·intro x23 h
         try dsimp only at h ⊢
         unfold ref6_ruleCode_j3 at h
         refine bs h (fun c29 h => ?_) fun c29 h => ?_
         ·refine au h [2,1,1,1,1] ?_; intro h
          cases h
          exact ⟨_, rfl, .refl _⟩
         ·refine au h [3,1,1,1,1,1] ?_; intro h
          cases h
          exact ⟨_, rfl, .refl _⟩
theorem ref6_RulesFault_spec (n : Nat) (a0 : List SKindInputs) (r : SCodeIndex) (h : ref6_RulesFault n a0 = some r) : PSpec Tryd.prog 9 [lP a0] (.agg (SCodeIndex.cells r)) := by
 unfold ref6_RulesFault at h
 refine spec_of Tryd.c_ref6_RulesFault (by simp) ?_
 unfold Tryd.l_ref6_RulesFault
 refine au h [1,1,5,1,1,1,1,5,5] ?_; intro h
 refine bs h (fun c1 h => ?_) fun c1 h => ?_
 ·refine au h [2,1,1] ?_; intro h
  refine cb h (ref6_fault_spec n _ _) fun r1 k2 h => ?_
  refine ax 24 h [8,1] ?_; intro h
  cases h
  exact ⟨_, rfl, .refl _⟩
 ·refine au h [3,1,1,1,1,1,1] ?_; intro h
  refine Ev.loopW (β := Nat × Int) (fun v => ⟨[(0, lP a0), (2, wP 10100), (3, iP v.2)], [(10100, eP 24 2 [[iP 0, iP 0]])], 2⟩) (fun v => ref6_RulesFault_l1 n a0 v.1 v.2 = some r) (fun v => v.1) (n, 0) (.nA) h ?_
  intro ⟨m1, x2⟩ h
  try dsimp only at h ⊢
  cases m1 with
  | zero => rw [ref6_RulesFault_l1] at h; cases h
  | succ m1 =>
   rw [ref6_RulesFault_l1] at h
   refine au h [1,1,1,1,1,5,5] ?_; intro h
   refine bs h (fun c3 h => ?_) fun c3 h => ?_
   ·refine au h [2,1,1,1,1,1,1,1] ?_; intro h
    refine cb h (ref6_ruleCode_spec n _ _) fun r3 k4 h => ?_
    refine ax 24 h [1,1,1,1,5] ?_; intro h
    refine bs h (fun c5 h => ?_) fun c5 h => ?_
    ·refine au h [2,1,1,1,1] ?_; intro h
     refine cb h (ref6_fault_spec n _ _) fun r4 k6 h => ?_
     refine ax 24 h [8,1] ?_; intro h
     cases h
     exact ⟨_, rfl, .refl _⟩
    ·refine au h [3,1,1,1,7,1] ?_; intro x5 k7 h
     exact lb (m1, x5) h
   ·refine au h [3,1,1,1,5,8,1] ?_; intro h
    cases h
    exact ⟨_, rfl, .refl _⟩
theorem rules_leaves_spec (n : Nat) (a0 : SKindInputs) (a1 : List (List Int)) (r : (List Int)) (h : rules_leaves n a0 a1 = some r) : PSpec Tryd.prog 27 [.agg (SKindInputs.cells a0), lP a1] (lP r) := by
 unfold rules_leaves at h
 refine spec_of Tryd.c_rules_leaves (by simp) ?_
 unfold Tryd.l_rules_leaves
 refine au h [1,1,5,1,1,1,1,1,1,1,8,8,5,1,1] ?_; intro h
 refine Ev.loopW (β := Nat × (List Int) × Int) (fun v => ⟨[(1, lP a1), (5, .own 10100 0), (9, lP a0.Inputs), (10, iP (a0.Inputs.length : Int)), (11, iP v.2.2)], [(10100, eP 3 1 (mP v.2.1))], 2⟩) (fun v => rules_leaves_l1 n a0 a1 v.1 v.2.1 v.2.2 = some r) (fun v => v.1) (n, ([] : List Int), 0) ((Wk.ownNil 5 30100 3 1 rfl rfl true).trans (.nA)) h ?_
 intro ⟨m1, w1, x2⟩ h
 try dsimp only at h ⊢
 cases m1 with
 | zero => rw [rules_leaves_l1] at h; cases h
 | succ m1 =>
  rw [rules_leaves_l1] at h
  refine au h [1,1,5,1] ?_; intro h
  refine bs h (fun c1 h => ?_) fun c1 h => ?_
  ·refine au h [2,1,1,1,1,1,5,5,1,1,1,1,1,5,5,7,1,1,7,1] ?_; intro e3 k2 e4 k3 w5 k4 x6 k5 h
   exact lb (m1, w5, x6) h
  ·refine au h [3,1,1,1,1] ?_; intro h
   refine W.rowCall (k_SortI w1) rfl rfl (by simp [sortedI]) rfl ?_
   refine ax 26 h [1,1,1] ?_; intro h
   refine W.cutCall (k_CompactI (sortedI w1)) rfl rfl (by rw [List.length_map, List.length_map, compactRow_length]) rfl ?_
   refine ax 26 h [1,1] ?_; intro h
   cases h
   exact ⟨_, rfl, (Le.cut (gcut_compact (sortedI w1)))⟩
theorem slices_Index_int_spec (n : Nat) (a0 : List Int) (a1 : Int) (r : Int) (h : slices_Index_int n a0 a1 = some r) : PSpec Tryd.prog 38 [lP a0, iP a1] (iP r) := by
 unfold slices_Index_int at h
 refine spec_of Tryd.c_slices_Index_int (by simp) ?_
 unfold Tryd.l_slices_Index_int
 refine au h [1,1,1,1,1,1,1,5,1,1] ?_; intro h
 refine Ev.loopW (β := Nat × Int) (fun v => ⟨[(0, lP a0), (1, iP a1), (7, iP (a0.length : Int)), (8, iP v.2)], [], 2⟩) (fun v => slices_Index_int_l1 n a0 a1 v.1 v.2 = some r) (fun v => v.1) (n, 0) (.nA) h ?_
 intro ⟨m1, x1⟩ h
 try dsimp only at h ⊢
 cases m1 with
 | zero => rw [slices_Index_int_l1] at h; cases h
 | succ m1 =>
  rw [slices_Index_int_l1] at h
  refine au h [1,1,5,1] ?_; intro h
  refine bs h (fun c1 h => ?_) fun c1 h => ?_
  ·refine au h [2,1,1,1,1,1,1,1,1,1,1,1,1,5,5,5] ?_; intro e2 k2 h
   refine bs h (fun c3 h => ?_) fun c3 h => ?_
   ·refine au h [2,1,1,1,1,1] ?_; intro h
    cases h
    exact ⟨_, rfl, .refl _⟩
   ·refine au h [3,1,1,7,1] ?_; intro x3 k4 h
    exact lb (m1, x3) h
  ·refine au h [3,1,1,1,1,1] ?_; intro h
   cases h
   exact ⟨_, rfl, .refl _⟩
theorem slices_Contains_int_spec (n : Nat) (a0 : List Int) (a1 : Int) (r : Bool) (h : slices_Contains_int n a0 a1 = some r) : PSpec Tryd.prog 35 [lP a0, iP a1] (.bool r) := by
 unfold slices_Contains_int at h
 refine spec_of Tryd.c_slices_Contains_int (by simp) ?_
 unfold Tryd.l_slices_Contains_int
 refine au h [1,1,1,1,1,1,1] ?_; intro h
 refine cb h (slices_Index_int_spec n _ _) fun r1 k1 h => ?_
 refine ax 9 h [5,1,1] ?_; intro h
 cases h
 exact ⟨_, rfl, .refl _⟩
set_option maxHeartbeats 4000000 in
theorem rules_check_spec (n : Nat) (a0 : List SKindInputs) (a1 : Int) (a2 : List (List Int)) (r : Int) (h : rules_check n a0 a1 a2 = some r) : PSpec Tryd.prog 31 [lP a0, iP a1, lP a2] (iP r) := by
 unfold rules_check at h
 refine spec_of Tryd.c_rules_check (by simp) ?_
 unfold Tryd.l_rules_check
 refine au h [1,1,1,1,1,1,1,5,5,5,8,1] ?_; intro e1 k1 h
 refine Ev.seqJ (γ := Bool) (fun v => ⟨[(0, lP a0), (1, iP a1), (2, lP a2), (7, wP 10100), (25, .bool v)], [(10100, eP 33 2 [[iP e1.Kind, lP e1.Inputs]])], 2⟩) (fun v => rules_check_j1 n a0 a1 a2 e1 v = some r) ?_ ?_
 ·refine au h [1,8,8,5,1] ?_; intro h
  refine bs h (fun c36 h => ?_) fun c36 h => ?_
  ·refine aw h [3,3,3,2] ?_; intro h
   exact lf true h
  ·refine aw h [2,8,2,8,2,5,3] ?_; intro h
   exact lf (decide (6 < e1.Kind)) h
 ·intro x2 h
  try dsimp only at h ⊢
  unfold rules_check_j1 at h
  refine bs h (fun c2 h => ?_) fun c2 h => ?_
  ·refine au h [2,1,1,1,1] ?_; intro h
   cases h
   exact ⟨_, rfl, .refl _⟩
  ·refine au h [3,1,1,1,1,8,8,5,5] ?_; intro h
   refine bs h (fun c3 h => ?_) fun c3 h => ?_
   ·refine au h [2,1,1,1,1] ?_; intro h
    cases h
    exact ⟨_, rfl, .refl _⟩
   ·refine au h [3,1,1,1,1,8,8,5,1,1] ?_; intro h
    refine Ev.loopW (β := Nat × Int) (fun v => ⟨[(0, lP a0), (1, iP a1), (2, lP a2), (7, wP 10200), (31, lP e1.Inputs), (32, iP (e1.Inputs.length : Int)), (33, iP v.2)], [(10200, eP 33 2 [[iP e1.Kind, lP e1.Inputs]])], 2⟩) (fun v => rules_check_l1 n a0 a1 a2 e1 v.1 v.2 = some r) (fun v => v.1) (n, 0) (.nA) h ?_
    intro ⟨m1, x3⟩ h
    try dsimp only at h ⊢
    cases m1 with
    | zero => rw [rules_check_l1] at h; cases h
    | succ m1 =>
     rw [rules_check_l1] at h
     refine au h [1,1,5,1] ?_; intro h
     refine bs h (fun c4 h => ?_) fun c4 h => ?_
     ·refine au h [2,1,1,1,1,1,1,5,5,1,1,1] ?_; intro e4 k5 h
      refine Ev.seqJ (γ := Bool) (fun v => ⟨[(0, lP a0), (1, iP a1), (2, lP a2), (7, wP 10300), (8, iP x3), (9, iP e4), (31, lP e1.Inputs), (32, iP (e1.Inputs.length : Int)), (33, iP x3), (44, .bool v)], [(10300, eP 33 2 [[iP e1.Kind, lP e1.Inputs]])], 2⟩) (fun v => rules_check_j2 n e1 x3 (rules_check_l1 n a0 a1 a2 e1 m1) e4 v = some r) ?_ ?_
      ·refine au h [1,1,5,1] ?_; intro h
       refine bs h (fun c12 h => ?_) fun c12 h => ?_
       ·refine aw h [3,3,3,2] ?_; intro h
        exact lf true h
       ·refine aw h [2,1,2,1,2,5,3] ?_; intro h
        exact lf (decide (a1 ≤ e4)) h
      ·intro x5 h
       try dsimp only at h ⊢
       unfold rules_check_j2 at h
       refine bs h (fun c6 h => ?_) fun c6 h => ?_
       ·refine au h [2,1,1,1,1] ?_; intro h
        cases h
        exact ⟨_, rfl, .refl _⟩
       ·refine au h [3,1] ?_; intro h
        refine Ev.seqJ (γ := Bool) (fun v => ⟨[(0, lP a0), (1, iP a1), (2, lP a2), (7, wP 10400), (31, lP e1.Inputs), (32, iP (e1.Inputs.length : Int)), (33, iP x3), (56, .bool v)], [(10400, eP 33 2 [[iP e1.Kind, lP e1.Inputs]])], 2⟩) (fun v => rules_check_j3 n x3 (rules_check_l1 n a0 a1 a2 e1 m1) v = some r) ?_ ?_
        ·refine au h [1,1,5,1] ?_; intro h
         refine bs h (fun c9 h => ?_) fun c9 h => ?_
         ·refine aw h [2,1,2,8,2,8,2,1,2,7,2,5,2,5,2,5,2] ?_; intro x8 k10 e9 k11 h
          exact lf (decide (e4 ≤ e9)) h
         ·refine aw h [3,3,3,3,3,3,3,3,3] ?_; intro h
          exact lf false h
        ·intro x6 h
         try dsimp only at h ⊢
         unfold rules_check_j3 at h
         refine bs h (fun c7 h => ?_) fun c7 h => ?_
         ·refine au h [2,1,1,1,1] ?_; intro h
          cases h
          exact ⟨_, rfl, .refl _⟩
         ·refine au h [3,1,1,7,1] ?_; intro x7 k8 h
          exact lb (m1, x7) h
     ·refine au h [3,1,1,1,8,1] ?_; intro h
      refine cb h (rules_leaves_spec n _ _) fun r10 k13 h => ?_
      refine ax 121 h [1,1,1,1,1,1,1,1,5,1,1] ?_; intro h
      refine Ev.loopW (β := Nat × Int × Int) (fun v => ⟨[(0, lP a0), (7, wP 10300), (10, lP r10), (11, iP v.2.1), (61, lP r10), (62, iP (r10.length : Int)), (63, iP v.2.2)], [(10300, eP 33 2 [[iP e1.Kind, lP e1.Inputs]])], 2⟩) (fun v => rules_check_l2 n a0 e1 r10 v.1 v.2.1 v.2.2 = some r) (fun v => v.1) (n, 0, 0) (.nA) h ?_
      intro ⟨m2, x11, x12⟩ h
      try dsimp only at h ⊢
      cases m2 with
      | zero => rw [rules_check_l2] at h; cases h
      | succ m2 =>
       rw [rules_check_l2] at h
       refine au h [1,1,5,1] ?_; intro h
       refine bs h (fun c14 h => ?_) fun c14 h => ?_
       ·refine au h [2,1] ?_; intro h
        refine Ev.seqJ (γ := Int) (fun v => ⟨[(0, lP a0), (7, wP 10400), (10, lP r10), (11, iP v), (61, lP r10), (62, iP (r10.length : Int)), (63, iP x12)], [(10400, eP 33 2 [[iP e1.Kind, lP e1.Inputs]])], 2⟩) (fun v => rules_check_j4 n x12 (rules_check_l2 n a0 e1 r10 m2) v = some r) ?_ ?_
        ·refine au h [1,1,1,5,5,1,1,1,1,8,8] ?_; intro e15 k16 h
         obtain ⟨i16, k17, h⟩ := obind h
         refine W.idxAG rfl rfl k17 ?_
         refine W.load (p := lP (if i16 = 0 then ([] : List Int) else (if i16 = 1 then ([] : List Int) else (if i16 = 2 then ([1, 3] : List Int) else (if i16 = 3 then ([2] : List Int) else (if i16 = 4 then ([2, 3] : List Int) else (if i16 = 5 then ([4] : List Int) else ([1, 2, 3, 4, 5] : List Int)))))))) rfl (by obtain ⟨_, q1, q2⟩ := garr_some k17; rcases (show i16 = 0 ∨ i16 = 1 ∨ i16 = 2 ∨ i16 = 3 ∨ i16 = 4 ∨ i16 = 5 ∨ i16 = 6 by omega) with e | e | e | e | e | e | e <;> rw [e] <;> rfl) ?_
         refine aw h [1,1,5,5,5] ?_; intro e17 k18 h
         refine cb h (slices_Contains_int_spec n _ _) fun r18 k19 h => ?_
         refine aw h [5] ?_; intro h
         refine bs h (fun c20 h => ?_) fun c20 h => ?_
         ·refine au h [2,1,1,1,1] ?_; intro h
          cases h
          exact ⟨_, rfl, .refl _⟩
         ·refine au h [3,1,1,1,1,1,6,5,5,8,8] ?_; intro h
          obtain ⟨i19, k21, h⟩ := obind h
          refine W.idxAG rfl rfl k21 ?_
          refine W.load (p := iP (if i19 = 0 then 0 else (if i19 = 1 then 0 else (if i19 = 2 then 1 else (if i19 = 3 then 2 else (if i19 = 4 then 2 else (if i19 = 5 then 4 else 0 : Int) : Int) : Int) : Int) : Int) : Int)) rfl (by obtain ⟨_, q1, q2⟩ := garr_some k21; rcases (show i19 = 0 ∨ i19 = 1 ∨ i19 = 2 ∨ i19 = 3 ∨ i19 = 4 ∨ i19 = 5 ∨ i19 = 6 by omega) with e | e | e | e | e | e | e <;> rw [e] <;> rfl) ?_
          refine aw h [5] ?_; intro h
          refine bs h (fun c22 h => ?_) fun c22 h => ?_
          ·refine au h [2,1,1,7,1] ?_; intro x20 k23 h
           exact lf x20 h
          ·refine au h [3,1] ?_; intro h
           exact lf x11 h
        ·intro x13 h
         try dsimp only at h ⊢
         unfold rules_check_j4 at h
         refine au h [1,7,1] ?_; intro x14 k15 h
         exact lb (m2, x13, x14) h
       ·refine au h [3,1,1] ?_; intro h
        refine Ev.seqJ (γ := Bool) (fun v => ⟨[(120, .bool v)], [], 2⟩) (fun v => rules_check_j5 n v = some r) ?_ ?_
        ·refine au h [1,8,8] ?_; intro h
         obtain ⟨i22, k25, h⟩ := obind h
         refine W.idxAG rfl rfl k25 ?_
         refine W.load (p := iP (if i22 = 0 then 0 else (if i22 = 1 then 0 else (if i22 = 2 then 1 else (if i22 = 3 then 2 else (if i22 = 4 then 2 else (if i22 = 5 then 4 else 0 : Int) : Int) : Int) : Int) : Int) : Int)) rfl (by obtain ⟨_, q1, q2⟩ := garr_some k25; rcases (show i22 = 0 ∨ i22 = 1 ∨ i22 = 2 ∨ i22 = 3 ∨ i22 = 4 ∨ i22 = 5 ∨ i22 = 6 by omega) with e | e | e | e | e | e | e <;> rw [e] <;> rfl) ?_
         refine aw h [5,1] ?_; intro h
         refine bs h (fun c26 h => ?_) fun c26 h => ?_
         ·refine aw h [2,1,2,5,2,1] ?_; intro h
          refine bs h (fun c27 h => ?_) fun c27 h => ?_
          ·refine aw h [3,3,3,3,4,4,4,3,2,1,3,3,3,3,4,4,4,4,3,2] ?_; intro h
           exact lf true h
          ·refine aw h [2,8,2,8,2,5,2,1] ?_; intro h
           refine bs h (fun c28 h => ?_) fun c28 h => ?_
           ·refine aw h [2,1,2,5,2,5,2,2,3,1] ?_; intro h
            refine bs h (fun c29 h => ?_) fun c29 h => ?_
            ·refine aw h [3,3,3,3,4,4,4,4,3,2] ?_; intro h
             exact lf true h
            ·refine aw h [2,8,2,8,2,5,2,1] ?_; intro h
             refine bs h (fun c30 h => ?_) fun c30 h => ?_
             ·refine aw h [2,8,2,8,2,5,2,5,2,2,3] ?_; intro h
              exact lf (decide ((e1.Inputs.length : Int) = 0)) h
             ·refine aw h [3,3,3,3,2,3,3] ?_; intro h
              exact lf false h
           ·refine aw h [3,3,3,2,3,3,1,2,8,2,8,2,5,2,1] ?_; intro h
            refine bs h (fun c31 h => ?_) fun c31 h => ?_
            ·refine aw h [2,8,2,8,2,5,2,5,2,2,3] ?_; intro h
             exact lf (decide ((e1.Inputs.length : Int) = 0)) h
            ·refine aw h [3,3,3,3,2,3,3] ?_; intro h
             exact lf false h
         ·refine aw h [3,3,3,1,2,8,2,8,2,5,2,1] ?_; intro h
          refine bs h (fun c32 h => ?_) fun c32 h => ?_
          ·refine aw h [2,1,2,5,2,5,2,2,3,1] ?_; intro h
           refine bs h (fun c33 h => ?_) fun c33 h => ?_
           ·refine aw h [3,3,3,3,4,4,4,4,3,2] ?_; intro h
            exact lf true h
           ·refine aw h [2,8,2,8,2,5,2,1] ?_; intro h
            refine bs h (fun c34 h => ?_) fun c34 h => ?_
            ·refine aw h [2,8,2,8,2,5,2,5,2,2,3] ?_; intro h
             exact lf (decide ((e1.Inputs.length : Int) = 0)) h
            ·refine aw h [3,3,3,3,2,3,3] ?_; intro h
             exact lf false h
          ·refine aw h [3,3,3,2,3,3,1,2,8,2,8,2,5,2,1] ?_; intro h
           refine bs h (fun c35 h => ?_) fun c35 h => ?_
           ·refine aw h [2,8,2,8,2,5,2,5,2,2,3] ?_; intro h
            exact lf (decide ((e1.Inputs.length : Int) = 0)) h
           ·refine aw h [3,3,3,3,2,3,3] ?_; intro h
            exact lf false h
        ·intro x21 h
         try dsimp only at h ⊢
         unfold rules_check_j5 at h
         refine bs h (fun c24 h => ?_) fun c24 h => ?_
         ·refine au h [2,1,1,1,1] ?_; intro h
          cases h
          exact ⟨_, rfl, .refl _⟩
         ·refine au h [3,1,1,1,1,1] ?_; intro h
          cases h
          exact ⟨_, rfl, .refl _⟩
end Go.Proofs.YtfdfhpembpjglaaDoor
namespace Go.Proofs.YtfdfhpembpjglaaDoor
open Go.PW Go
theorem rules_leaves_m1_spec (n : Nat) (a0 : Int) (a1 : List Int) (a2 : List (List Int)) (r : (List Int)) (h : rules_leaves_m1 n a0 a1 a2 = some r) : PMut Tryd.prog 27 [.agg [iP a0, lP a1], .own 60001 0] [(60001, eP 29 1 (mP a2))] (lP r) [(60001, eP 29 1 (mP a2))] := by
 unfold rules_leaves_m1 at h
 refine specMut_of Tryd.c_rules_leaves (by simp) (alls rfl all0) ?_
 unfold Tryd.l_rules_leaves
 refine au h [1,1,5,1,1,1,1,1,1,1,8,8,5,1,1] ?_; intro h
 refine Ev.loopW (β := Nat × (List Int) × Int) (fun v => ⟨[(1, .own 10100 0), (5, .own 10101 0), (9, lP a1), (10, iP (a1.length : Int)), (11, iP v.2.2), (125537, .own 10100 0)], [(10100, eP 29 1 (mP a2)), (10101, eP 3 1 (mP v.2.1))], 2⟩) (fun v => rules_leaves_m1_l1 n a1 a2 v.1 v.2.1 v.2.2 = some r) (fun v => v.1) (n, ([] : List Int), 0) ((Wk.ownNil 5 30101 3 1 rfl rfl true).trans (.nA)) h ?_
 intro ⟨m1, w1, x2⟩ h
 try dsimp only at h ⊢
 cases m1 with
 | zero => rw [rules_leaves_m1_l1] at h; cases h
 | succ m1 =>
  rw [rules_leaves_m1_l1] at h
  refine au h [1,1,5,1] ?_; intro h
  refine bs h (fun c1 h => ?_) fun c1 h => ?_
  ·refine au h [2,1,1,1,1,1,5,5,1,1,1,1,1,7,7,7,1,1,7,1] ?_; intro e3 k2 e4 k3 w5 k4 x6 k5 h
   exact lb (m1, w5, x6) h
  ·refine au h [3,1,1,1,1] ?_; intro h
   refine W.rowCall (k_SortI w1) rfl rfl (by simp [sortedI]) rfl ?_
   refine ax 26 h [1,1,1] ?_; intro h
   refine W.cutCall (k_CompactI (sortedI w1)) rfl rfl (by rw [List.length_map, List.length_map, compactRow_length]) rfl ?_
   refine aw h [1] ?_; intro h
   refine Ev.weak ?_ (Wk.frz 10101 0 rfl rfl)
   refine Ev.weak ?_ (Wk.le (t := 4) rfl (Le.cut (gcut_compact (sortedI w1))))
   refine Ev.weak ?_ (Wk.le (t := 25) rfl (Le.cut (gcut_compact (sortedI w1))))
   refine Ev.ret ?_
   injection h with h; subst h
   exact ⟨_, [lP (Lib.compact (sortedI w1))], Wk.nrmTo [4, 125537] [(10100, 60001)] rfl rfl, rfl, rfl, rfl, .refl _, gh_ok ⟨rfl, trivial⟩⟩
theorem rules_stands_m1_spec (n : Nat) (a0 : Int) (a1 : List Int) (a2 : Int) (a3 : List (List Int)) (r : (List Int)) (h : rules_stands_m1 n a0 a1 a2 a3 = some r) : PMut Tryd.prog 32 [.agg [iP a0, lP a1], iP a2, .own 60001 0] [(60001, eP 29 1 (mP a3))] (lP r) [(60001, eP 29 1 (mP a3))] := by
 unfold rules_stands_m1 at h
 refine specMut_of Tryd.c_rules_stands (by simp) (alls rfl all0) ?_
 unfold Tryd.l_rules_stands
 refine au h [1,1,5,1,1,1,1,8,8,5] ?_; intro h
 refine bs h (fun c1 h => ?_) fun c1 h => ?_
 ·refine au h [2,1,1,1,5,1] ?_; intro h
  refine Ev.weak ?_ (Wk.frz 11 2 rfl rfl)
  refine Ev.ret ?_
  injection h with h; subst h
  exact ⟨_, [lP ([a2] : List Int)], Wk.nrmTo [6, 125537] [(60001, 60001)] rfl rfl, rfl, rfl, rfl, .refl _, gh_ok ⟨rfl, trivial⟩⟩
 ·refine au h [3,1,1,1,8,1] ?_; intro h
  obtain ⟨r1, k2, h⟩ := obind h
  refine W.callM (xs := [.agg [iP a0, lP a1], .own 60001 0]) (res' := lP r1) (up := [(60001, eP 29 1 (mP a3))]) (tauOf [(60001, 60001, 0)]) (fun n => n) (rules_leaves_m1_spec n a0 a1 a3 r1 k2) rfl (mutOk_of (.cons (.data rfl (.refl _)) (.cons (.tok rfl rfl) ArgsOk.nil)) rfl rfl rfl (alls ⟨⟨rfl, rfl, rfl⟩, ⟨_, rfl, rfl, rfl, .inl ⟨rfl, rfl, rfl⟩⟩⟩ all0) (alls ⟨⟨rfl, rfl, rfl⟩, keptOf rfl ⟨rfl, rfl⟩, .inl rfl⟩ all0) rfl) rfl rfl rfl rfl ?_
  refine ax 15 h [1,1] ?_; intro h
  injection h with h; subst h
  exact ⟨_, [lP r1], Wk.nrmTo [6, 125537] [(60001, 60001)] rfl rfl, rfl, rfl, rfl, .refl _, gh_ok ⟨rfl, trivial⟩⟩
theorem rules_open_spec (n : Nat) (a0 : List SKindInputs) (r : ((List (List Int)) × SCodeIndex)) (h : rules_open n a0 = some r) : PSpec Tryd.prog 25 [lP a0] (.tup [lP r.1, .agg (SCodeIndex.cells r.2)]) := by
 unfold rules_open at h
 refine spec_of Tryd.c_rules_open (by simp) ?_
 unfold Tryd.l_rules_open
 refine au h [1,1,1,5,1,1,1,1,5,5] ?_; intro h
 refine bs h (fun c1 h => ?_) fun c1 h => ?_
 ·refine au h [2,1,1,5,1,8,1] ?_; intro h
  cases h
  exact ⟨_, rfl, Le.tups (.cons (.nils 1) (.cons (.refl _) (.nil)))⟩
 ·refine au h [3,1,1,1,1,1,1,1,1,5,1,1] ?_; intro h
  refine Ev.loopW (β := Nat × (List (List Int)) × Int) (fun v => ⟨[(0, lP a0), (3, wP 10100), (4, .own 10101 0), (12, lP a0), (13, iP (a0.length : Int)), (14, iP v.2.2)], [(10100, eP 24 2 [[iP 0, iP 0]]), (10101, eP 29 1 (mP v.2.1))], 2⟩) (fun v => rules_open_l1 n a0 v.1 v.2.1 v.2.2 = some r) (fun v => v.1) (n, ([] : List (List Int)), 0) ((Wk.ownNil 4 30101 29 1 rfl rfl true).trans (.nA)) h ?_
  intro ⟨m1, w1, x2⟩ h
  try dsimp only at h ⊢
  cases m1 with
  | zero => rw [rules_open_l1] at h; cases h
  | succ m1 =>
   rw [rules_open_l1] at h
   refine au h [1,1,5,1] ?_; intro h
   refine bs h (fun c2 h => ?_) fun c2 h => ?_
   ·refine au h [2,1,1,1,1,1,1,5,5,5,1,8,1,1,1,1,1,1] ?_; intro e3 k3 h
    refine cb h (rules_check_spec n _ _ _) fun r4 k4 h => ?_
    refine ax 38 h [1,1,1,1,5] ?_; intro h
    refine bs h (fun c5 h => ?_) fun c5 h => ?_
    ·refine au h [2,1,1,1,1,5,1,8,1] ?_; intro h
     cases h
     exact ⟨_, rfl, Le.tups (.cons (.nils 1) (.cons (.refl _) (.nil)))⟩
    ·refine au h [3,1,1,1,8,1,1] ?_; intro h
     obtain ⟨r5, k6, h⟩ := obind h
     refine W.callM (xs := [.agg [iP e3.Kind, lP e3.Inputs], iP x2, .own 10101 0]) (res' := lP r5) (up := [(10101, eP 29 1 (mP w1))]) (tauOf [(60001, 10101, 0)]) (fun n => n) (rules_stands_m1_spec n e3.Kind e3.Inputs x2 w1 r5 k6) rfl (mutOk_of (.cons (.data rfl (.refl _)) (.cons (.data rfl (.refl _)) (.cons (.tok rfl rfl) ArgsOk.nil))) rfl rfl rfl (alls ⟨⟨rfl, rfl, rfl⟩, ⟨_, rfl, rfl, rfl, .inl ⟨rfl, rfl, rfl⟩⟩⟩ all0) (alls ⟨⟨rfl, rfl, rfl⟩, keptOf rfl ⟨rfl, rfl⟩, .inl rfl⟩ all0) rfl) rfl rfl rfl rfl ?_
     refine ax 38 h [5,7,1,1,7,1] ?_; intro w6 k7 x7 k8 h
     exact lb (m1, w6, x7) h
   ·refine au h [3,1,1,1,1,5,1,8,1] ?_; intro h
    cases h
    exact ⟨_, rfl, .refl _⟩
theorem rules_Validate_spec (n : Nat) (a0 : List SKindInputs) (r : SCodeIndex) (h : rules_Validate n a0 = some r) : PSpec Tryd.prog 11 [lP a0] (.agg (SCodeIndex.cells r)) := by
 unfold rules_Validate at h
 refine spec_of Tryd.c_rules_Validate (by simp) ?_
 unfold Tryd.l_rules_Validate
 refine au h [1,1,5,1,1,1] ?_; intro h
 refine cb h (rules_open_spec n _) fun r1 k1 h => ?_
 refine ax 11 h [1,5,5,5,1,8,1,1,8,8,1] ?_; intro h
 cases h
 exact ⟨_, rfl, .refl _⟩
theorem law6_fault_spec (n : Nat) (a0 : Int) (a1 : Int) (r : SCodeIndex) (h : law6_fault n a0 a1 = some r) : PSpec Tryd.prog 13 [iP a0, iP a1] (.agg (SCodeIndex.cells r)) := by
 unfold law6_fault at h
 refine spec_of Tryd.c_law6_fault (by simp) ?_
 unfold Tryd.l_law6_fault
 refine au h [1,1,5,1,1,1,1,5,8,1] ?_; intro h
 cases h
 exact ⟨_, rfl, .refl _⟩
theorem rules_Leaves_spec (n : Nat) (a0 : List SKindInputs) (a1 : Int) (r : ((List Int) × SCodeIndex)) (h : rules_Leaves n a0 a1 = some r) : PSpec Tryd.prog 14 [lP a0, iP a1] (.tup [lP r.1, .agg (SCodeIndex.cells r.2)]) := by
 unfold rules_Leaves at h
 refine spec_of Tryd.c_rules_Leaves (by simp) ?_
 unfold Tryd.l_rules_Leaves
 refine au h [1,1,1,5,1,1,1] ?_; intro h
 refine cb h (rules_open_spec n _) fun r1 k1 h => ?_
 refine ax 31 h [1,5,5,5,1,8,1,1,1,8,5,5] ?_; intro h
 refine bs h (fun c2 h => ?_) fun c2 h => ?_
 ·refine au h [2,1,1,8,1,8,1] ?_; intro h
  cases h
  exact ⟨_, rfl, Le.tups (.cons (.nils 1) (.cons (.refl _) (.nil)))⟩
 ·refine au h [3,1,1] ?_; intro h
  refine Ev.seqJ (γ := Bool) (fun v => ⟨[(1, iP a1), (5, wP 10100), (6, lP r1.1), (24, .bool v)], [(10100, eP 24 2 [[iP 0, iP 0]])], 2⟩) (fun v => rules_Leaves_j1 n a1 r1 v = some r) ?_ ?_
  ·refine au h [1,1,5,1] ?_; intro h
   refine bs h (fun c5 h => ?_) fun c5 h => ?_
   ·refine aw h [3,3,3,3,2] ?_; intro h
    exact lf true h
   ·refine aw h [2,1,2,1,2,5,2,5,3] ?_; intro h
    exact lf (decide ((a0.length : Int) ≤ a1)) h
  ·intro x2 h
   try dsimp only at h ⊢
   unfold rules_Leaves_j1 at h
   refine bs h (fun c3 h => ?_) fun c3 h => ?_
   ·refine au h [2,1,1,5,1,8,1] ?_; intro h
    cases h
    exact ⟨_, rfl, Le.tups (.cons (.nils 1) (.cons (.refl _) (.nil)))⟩
   ·refine au h [3,1,1,1,1,1,5,5,5,1,8,1] ?_; intro e3 k4 h
    cases h
    exact ⟨_, rfl, .refl _⟩
theorem ref5_Ints_spec (n : Nat) (a0 : List Int) (a1 : List Int) (r : Bool) (h : ref5_Ints n a0 a1 = some r) : PSpec Tryd.prog 15 [lP a0, lP a1] (.bool r) := by
 unfold ref5_Ints at h
 refine spec_of Tryd.c_ref5_Ints (by simp) ?_
 unfold Tryd.l_ref5_Ints
 refine au h [1,1,1,1,1,1,1,5,1,5,5] ?_; intro h
 refine bs h (fun c1 h => ?_) fun c1 h => ?_
 ·refine au h [2,1,1,1,1] ?_; intro h
  cases h
  exact ⟨_, rfl, .refl _⟩
 ·refine au h [3,1,1,1,1,1,1] ?_; intro h
  refine Ev.loopW (β := Nat × Int) (fun v => ⟨[(0, lP a0), (1, lP a1), (5, iP v.2)], [], 2⟩) (fun v => ref5_Ints_l1 n a0 a1 v.1 v.2 = some r) (fun v => v.1) (n, 0) (.nA) h ?_
  intro ⟨m1, x1⟩ h
  try dsimp only at h ⊢
  cases m1 with
  | zero => rw [ref5_Ints_l1] at h; cases h
  | succ m1 =>
   rw [ref5_Ints_l1] at h
   refine au h [1,1,1,1,1,5,5] ?_; intro h
   refine bs h (fun c2 h => ?_) fun c2 h => ?_
   ·refine au h [2,1,1,1,1,1,1,1,5,5,1,1,5,5,5] ?_; intro e2 k3 e3 k4 h
    refine bs h (fun c5 h => ?_) fun c5 h => ?_
    ·refine au h [2,1,1,1,1] ?_; intro h
     cases h
     exact ⟨_, rfl, .refl _⟩
    ·refine au h [3,1,1,1,7,1] ?_; intro x4 k6 h
     exact lb (m1, x4) h
   ·refine au h [3,1,1,1,1,1] ?_; intro h
    cases h
    exact ⟨_, rfl, .refl _⟩
theorem rules_Expand_spec (n : Nat) (a0 : List SKindInputs) (r : ((List SRuleKindInputs) × SCodeIndex)) (h : rules_Expand n a0 = some r) : PSpec Tryd.prog 17 [lP a0] (.tup [lP r.1, .agg (SCodeIndex.cells r.2)]) := by
 unfold rules_Expand at h
 refine spec_of Tryd.c_rules_Expand (by simp) ?_
 unfold Tryd.l_rules_Expand
 refine au h [1,1,1,5,1,1,1] ?_; intro h
 refine cb h (rules_open_spec n _) fun r1 k1 h => ?_
 refine ax 69 h [1,5,5,5,1,8,1,1,1,8,5,5] ?_; intro h
 refine bs h (fun c2 h => ?_) fun c2 h => ?_
 ·refine au h [2,1,1,8,1,8,1] ?_; intro h
  cases h
  exact ⟨_, rfl, Le.tups (.cons (.nils 3) (.cons (.refl _) (.nil)))⟩
 ·refine au h [3,1,1,1,1,5,5,1,1,1,1,1,1,1,1,5,1,1] ?_; intro w2 k3 h
  refine Ev.loopW (β := Nat × (List Int) × (List SRuleKindInputs) × Int) (fun v => ⟨[(3, wP 10100), (4, lP r1.1), (6, .own 10101 0), (7, .own 10102 0), (25, lP a0), (26, iP (a0.length : Int)), (27, iP v.2.2.2)], [(10100, eP 24 2 [[iP 0, iP 0]]), (10101, eP 3 1 (mP v.2.1)), (10102, eP 44 3 (mP v.2.2.1))], 2⟩) (fun v => rules_Expand_l1 n a0 r1 v.1 v.2.1 v.2.2.1 v.2.2.2 = some r) (fun v => v.1) (n, w2, ([] : List SRuleKindInputs), 0) ((Wk.ownNil 7 30102 44 3 rfl rfl true).trans (.nA)) h ?_
  intro ⟨m1, w3, w4, x5⟩ h
  try dsimp only at h ⊢
  cases m1 with
  | zero => rw [rules_Expand_l1] at h; cases h
  | succ m1 =>
   rw [rules_Expand_l1] at h
   refine au h [1,1,5,1] ?_; intro h
   refine bs h (fun c4 h => ?_) fun c4 h => ?_
   ·refine au h [2,1] ?_; intro h
    refine Ev.seqJ (γ := (List Int) × (List SRuleKindInputs)) (fun v => ⟨[(3, wP 10200), (4, lP r1.1), (6, .own 10201 0), (7, .own 10202 0), (25, lP a0), (26, iP (a0.length : Int)), (27, iP x5)], [(10200, eP 24 2 [[iP 0, iP 0]]), (10201, eP 3 1 (mP v.1)), (10202, eP 44 3 (mP v.2))], 2⟩) (fun v => rules_Expand_j1 n x5 (rules_Expand_l1 n a0 r1 m1) v.1 v.2 = some r) ?_ ?_
    ·refine au h [1,1,1,1,5,5,5,1,8,1,1,1,8,8,5] ?_; intro e9 k6 h
     refine bs h (fun c7 h => ?_) fun c7 h => ?_
     ·refine au h [2,1] ?_; intro h
      exact lf (w3, w4) h
     ·refine au h [3,1,1,1,1,1,1,7,7,7,1,1,1,8,8,5,5,8,1,1,1,8,1] ?_; intro e10 k8 h
      refine cb h (rules_leaves_spec n _ _) fun r11 k9 h => ?_
      refine ax 69 h [5,1,1] ?_; intro h
      refine Ev.loopW (β := Nat × (List Int) × Int) (fun v => ⟨[(3, wP 10300), (4, lP r1.1), (6, .own 10301 0), (7, .own 10302 0), (10, wP 10303), (25, lP a0), (26, iP (a0.length : Int)), (27, iP x5), (46, lP r11), (47, iP (r11.length : Int)), (48, iP v.2.2)], [(10300, eP 24 2 [[iP 0, iP 0]]), (10301, eP 3 1 (mP (gset w3 x5 (w4.length : Int)))), (10302, eP 44 3 (mP w4)), (10303, ⟨0, 44, 3, [[iP x5, iP e9.Kind, .own 10304 0]], false, false, false⟩), (10304, eP 3 1 (mP v.2.1))], 2⟩) (fun v => rules_Expand_l2 n w3 w4 x5 (rules_Expand_l1 n a0 r1 m1) e9 r11 v.1 v.2.1 v.2.2 = some r) (fun v => v.1) (n, ([] : List Int), 0) ((Wk.ownNilCell 10 2 2 30304 3 1 rfl rfl rfl rfl rfl (by simp) true).trans (.nA)) h ?_
      intro ⟨m2, w12, x13⟩ h
      try dsimp only at h ⊢
      cases m2 with
      | zero => rw [rules_Expand_l2] at h; cases h
      | succ m2 =>
       rw [rules_Expand_l2] at h
       refine au h [1,1,5,1] ?_; intro h
       refine bs h (fun c10 h => ?_) fun c10 h => ?_
       ·refine au h [2,1,1,1,1,1,5,5,1,1,8,8,1,1,7,7,5,7,8,8,1,7,1] ?_; intro e14 k11 e15 k12 w16 k13 x17 k14 h
        exact lb (m2, w16, x17) h
       ·refine au h [3,1] ?_; intro h
        refine Ev.weak ?_ (Wk.frz 10304 0 rfl rfl)
        refine au h [1,1,8,5,7,1] ?_; intro w18 k15 h
        exact lf ((gset w3 x5 (w4.length : Int)), w18) h
    ·intro ⟨w6, w7⟩ h
     try dsimp only at h ⊢
     unfold rules_Expand_j1 at h
     refine au h [1,7,1] ?_; intro x8 k5 h
     exact lb (m1, w6, w7, x8) h
   ·refine au h [3,1,1,1,1,5,1,8,1] ?_; intro h
    cases h
    exact ⟨_, rfl, .refl _⟩
theorem ref6_SameSteps_spec (n : Nat) (a0 : List SRuleKindInputs) (a1 : List SRuleKindInputs) (r : Bool) (h : ref6_SameSteps n a0 a1 = some r) : PSpec Tryd.prog 18 [lP a0, lP a1] (.bool r) := by
 unfold ref6_SameSteps at h
 refine spec_of Tryd.c_ref6_SameSteps (by simp) ?_
 unfold Tryd.l_ref6_SameSteps
 refine au h [1,1,1,1,1,1,1,5,1,5,5] ?_; intro h
 refine bs h (fun c1 h => ?_) fun c1 h => ?_
 ·refine au h [2,1,1,1,1] ?_; intro h
  cases h
  exact ⟨_, rfl, .refl _⟩
 ·refine au h [3,1,1,1,1,1,1] ?_; intro h
  refine Ev.loopW (β := Nat × Int) (fun v => ⟨[(0, lP a0), (1, lP a1), (5, iP v.2)], [], 2⟩) (fun v => ref6_SameSteps_l1 n a0 a1 v.1 v.2 = some r) (fun v => v.1) (n, 0) (.nA) h ?_
  intro ⟨m1, x1⟩ h
  try dsimp only at h ⊢
  cases m1 with
  | zero => rw [ref6_SameSteps_l1] at h; cases h
  | succ m1 =>
   rw [ref6_SameSteps_l1] at h
   refine au h [1,1,1,1,1,5,5] ?_; intro h
   refine bs h (fun c2 h => ?_) fun c2 h => ?_
   ·refine au h [2,1,1,1] ?_; intro h
    refine Ev.seqJ (γ := Bool) (fun v => ⟨[(0, lP a0), (1, lP a1), (5, iP x1), (54, .bool v)], [], 2⟩) (fun v => ref6_SameSteps_j1 n x1 (ref6_SameSteps_l1 n a0 a1 m1) v = some r) ?_ ?_
    ·refine au h [1,1,1,5,5,5,1,1,5,5,5,5,1] ?_; intro e4 k5 e5 k6 h
     refine bs h (fun c7 h => ?_) fun c7 h => ?_
     ·refine aw h [3,3,3,3,3,3,3,3,3,3,3,2,1,3,3,3,3,3,3,3,3,3,3,3,3,2] ?_; intro h
      exact lf true h
     ·refine aw h [2,1,2,1,2,6,2,5,2,5,2,1,2,1,2,6,2,5,2,5,2,5,3,1] ?_; intro h
      refine bs h (fun c8 h => ?_) fun c8 h => ?_
      ·refine aw h [3,3,3,3,3,3,3,3,3,3,3,3,2] ?_; intro h
       exact lf true h
      ·refine aw h [2,1,2,1,2,6,2,5,2,5,2,1,2,1,2,6,2,5,2,5,2] ?_; intro h
       refine cb h (ref5_Ints_spec n _ _) fun r6 k9 h => ?_
       refine aw h [2,5,3] ?_; intro h
       exact lf (!r6) h
    ·intro x2 h
     try dsimp only at h ⊢
     unfold ref6_SameSteps_j1 at h
     refine bs h (fun c3 h => ?_) fun c3 h => ?_
     ·refine au h [2,1,1,1,1] ?_; intro h
      cases h
      exact ⟨_, rfl, .refl _⟩
     ·refine au h [3,1,1,1,7,1] ?_; intro x3 k4 h
      exact lb (m1, x3) h
   ·refine au h [3,1,1,1,1,1] ?_; intro h
    cases h
    exact ⟨_, rfl, .refl _⟩
theorem law6_project_spec (n : Nat) (r : (List SKindInputs)) (h : law6_project n = some r) : PSpec Tryd.prog 24 [] (lP r) := by
 unfold law6_project at h
 refine spec_of Tryd.c_law6_project (by simp) ?_
 unfold Tryd.l_law6_project
 refine au h [1,1,1,1] ?_; intro h
 refine Ev.regS rfl ?_
 refine Sq.w 5 nb ?_
 refine aw h [5,5,5,5,5] ?_; intro h
 refine Sq.weak (st' := ⟨[(0, .nils), (1, .agg [iP 1, .nils]), (3, .agg [iP 6, .own 10000 0]), (5, .agg [iP 2, lP ([1] : List Int)])], [(10000, eP 3 1 (mP ([0] : List Int)))], 2⟩) ?_ ((Wk.frz 4 2 rfl rfl).trans (.nA))
 refine Sq.w 1 nb ?_
 refine aw h [5] ?_; intro h
 refine Sq.weak (st' := ⟨[(0, .nils), (6, .own 10000 0)], [(10000, eP 33 2 (mP ([(⟨1, ([] : List Int)⟩ : SKindInputs), (⟨6, ([0] : List Int)⟩ : SKindInputs), (⟨2, ([1] : List Int)⟩ : SKindInputs)] : List SKindInputs)))], 2⟩) ?_ ((Wk.frz 10000 0 rfl rfl).trans ((Wk.rowLe 6 2 (es' := [[iP 1, lP ([] : List Int)], [iP 6, lP ([0] : List Int)], [iP 2, lP ([1] : List Int)]]) rfl rfl (.cons (.cons (.refl _) (.cons (.nils 1) (.nil))) rfl (.cons (.cons (.refl _) (.cons (.refl _) (.nil))) rfl (.cons (.cons (.refl _) (.cons (.refl _) (.nil))) rfl .nil))) rfl).trans (.nA)))
 refine Sq.wEnd nb ?_
 refine ax 7 h [1,1] ?_; intro h
 cases h
 exact ⟨_, rfl, .refl _⟩
theorem law6_expands_spec (n : Nat) (r : Bool) (h : law6_expands n = some r) : PSpec Tryd.prog 10 [] (.bool r) := by
 unfold law6_expands at h
 refine spec_of Tryd.c_law6_expands (by simp) ?_
 unfold Tryd.l_law6_expands
 refine au h [1,1,1,1,1] ?_; intro h
 refine cb h (law6_project_spec n) fun r1 k1 h => ?_
 refine cb h (rules_Leaves_spec n _ _) fun r2 k2 h => ?_
 refine ax 45 h [1,5,5,5,1,8,1,1] ?_; intro h
 refine cb h (law6_project_spec n) fun r3 k3 h => ?_
 refine cb h (rules_Expand_spec n _) fun r4 k4 h => ?_
 refine aw h [1,5,5,5,1,8] ?_; intro h
 refine Ev.seqJ (γ := Bool) (fun v => ⟨[(0, .bool v)], [], 2⟩) (fun v => law6_expands_j1 n v = some r) ?_ ?_
 ·refine Ev.regS rfl ?_
  refine Sq.w 19 nb ?_
  refine aw h [8,8,5,1] ?_; intro h
  refine bs h (fun c5 h => ?_) fun c5 h => ?_
  ·refine aw h [2,8,2,8,2,5,2,1] ?_; intro h
   refine bs h (fun c6 h => ?_) fun c6 h => ?_
   ·refine aw h [2,1,2,5,2] ?_; intro h
    refine cb h (ref5_Ints_spec n _ _) fun r6 k7 h => ?_
    refine aw h [2,1] ?_; intro h
    refine bs h (fun c8 h => ?_) fun c8 h => ?_
    ·refine aw h [2,1,2,5,2,5,2,5,2,5] ?_; intro h
     refine Sq.weak (st' := ⟨[(0, .bool false), (28, .bool r6), (29, lP r4.1), (33, .own 10100 0)], [(10100, eP 44 3 (mP ([(⟨0, 1, ([] : List Int)⟩ : SRuleKindInputs), (⟨2, 2, ([0] : List Int)⟩ : SRuleKindInputs)] : List SRuleKindInputs)))], 2⟩) ?_ ((Wk.frz 31 2 rfl rfl).trans ((Wk.rowLe 33 2 (es' := [[iP 0, iP 1, lP ([] : List Int)], [iP 2, iP 2, lP ([0] : List Int)]]) rfl rfl (.cons (.cons (.refl _) (.cons (.refl _) (.cons (.nils 1) (.nil)))) rfl (.cons (.cons (.refl _) (.cons (.refl _) (.cons (.refl _) (.nil)))) rfl .nil)) rfl).trans (.nA)))
     refine Sq.w 7 nb ?_
     refine W.guardT rfl c8 ?_
     refine cb h (ref6_SameSteps_spec n _ _) fun r7 k9 h => ?_
     refine aw h [2,1] ?_; intro h
     refine bs h (fun c10 h => ?_) fun c10 h => ?_
     ·refine aw h [2,5,2,5,2,5,2,5] ?_; intro h
      refine Sq.weak (st' := ⟨[(0, .bool false), (36, .bool r7), (40, .own 10100 0)], [(10100, eP 33 2 (mP ([(⟨1, ([] : List Int)⟩ : SKindInputs), (⟨3, ([0] : List Int)⟩ : SKindInputs)] : List SKindInputs)))], 2⟩) ?_ ((Wk.frz 38 2 rfl rfl).trans ((Wk.rowLe 40 2 (es' := [[iP 1, lP ([] : List Int)], [iP 3, lP ([0] : List Int)]]) rfl rfl (.cons (.cons (.refl _) (.cons (.nils 1) (.nil))) rfl (.cons (.cons (.refl _) (.cons (.refl _) (.nil))) rfl .nil)) rfl).trans (.nA)))
      refine Sq.wEnd nb ?_
      refine W.guardT rfl c10 ?_
      refine cb h (rules_Validate_spec n _) fun r8 k11 h => ?_
      refine W.guardT rfl c10 ?_
      refine cb h (law6_fault_spec n _ _) fun r9 k12 h => ?_
      refine aw h [2,5,2,1] ?_; intro h
      exact lf ((r8.Code == r9.Code && (r8.Index == r9.Index && true)) != false) h
     ·refine aw h [3,3,3,3] ?_; intro h
      refine Sq.wEnd nb ?_
      refine aw h [3,3,3,3,1] ?_; intro h
      exact lf false h
    ·refine aw h [3,3,3,3,3] ?_; intro h
     refine Sq.w 7 nb ?_
     refine aw h [3,3,1,3,3,3,3] ?_; intro h
     refine Sq.wEnd nb ?_
     refine aw h [3,3,3,3,1] ?_; intro h
     exact lf false h
   ·refine aw h [3,3,3,3,1,3,3,3,3,3] ?_; intro h
    refine Sq.w 7 nb ?_
    refine aw h [3,3,1,3,3,3,3] ?_; intro h
    refine Sq.wEnd nb ?_
    refine aw h [3,3,3,3,1] ?_; intro h
    exact lf false h
  ·refine aw h [3,3,3,3,1,3,3,3,3,1,3,3,3,3,3] ?_; intro h
   refine Sq.w 7 nb ?_
   refine aw h [3,3,1,3,3,3,3] ?_; intro h
   refine Sq.wEnd nb ?_
   refine aw h [3,3,3,3,1] ?_; intro h
   exact lf false h
 ·intro x5 h
  try dsimp only at h ⊢
  unfold law6_expands_j1 at h
  refine Ev.ret ?_
  cases h
  exact ⟨_, rfl, .refl _⟩
end Go.Proofs.YtfdfhpembpjglaaDoor
