/- The functions compute what the texts of D say. Laid by a program (wip/gen/dec.py). -/
import Derived.Test.YtfdfhpembpjglaaDoorPwAuto
import Derived.Test.YtfdfhpembpjglaaDoorD
import Derived.Test.YtfdfhpembpjglaaDoorWA
set_option linter.unusedVariables false
set_option linter.unusedSimpArgs false
namespace Go.Proofs.YtfdfhpembpjglaaDoor
open Go.PW Go
theorem law6_in_spec (n : Nat) (a0 : Int) (a1 : Int) (a2 : Int) (r : Bool) (h : law6_in n a0 a1 a2 = some r) : PSpec Tryd.prog 12 [iP a0, iP a1, iP a2] (.bool r) := by
 unfold law6_in at h
 refine spec_of Tryd.c_law6_in (by simp) ?_
 unfold Tryd.l_law6_in
 refine au h [1,1,1] ?_; intro h
 refine Ev.seqJ (γ := Bool) (fun v => ⟨[(6, .bool v)], [], 2⟩) (fun v => law6_in_j1 n v = some r) ?_ ?_
 ·refine au h [1,1,1,5,1] ?_; intro h
  refine bs h (fun c1 h => ?_) fun c1 h => ?_
  ·refine aw h [2,1,2,1,2,5,2,1] ?_; intro h
   exact lf (decide (a0 ≤ a2)) h
  ·refine aw h [3,3,3,3,1] ?_; intro h
   exact lf false h
 ·intro x1 h
  try dsimp only at h ⊢
  unfold law6_in_j1 at h
  refine Ev.ret ?_
  cases h
  exact ⟨_, rfl, .refl _⟩
theorem law6_RulesMatchSpec_spec (n : Nat) (a0 : List SKindInputs) (a1 : Int) (r : Bool) (h : law6_RulesMatchSpec n a0 a1 = some r) : PSpec Tryd.prog 3 [lP a0, iP a1] (.bool r) := by
 unfold law6_RulesMatchSpec at h
 refine spec_of Tryd.c_law6_RulesMatchSpec (by simp) ?_
 unfold Tryd.l_law6_RulesMatchSpec
 refine au h [1,1,1,1,1,1] ?_; intro h
 refine cb h (ref6_RulesFault_spec n _) fun r1 k1 h => ?_
 refine ax 67 h [5,8,1] ?_; intro h
 refine Ev.seqJ (γ := Bool) (fun v => ⟨[(0, lP a0), (1, iP a1), (5, wP 10100), (17, .bool v)], [(10100, eP 24 2 [[iP r1.Code, iP r1.Index]])], 2⟩) (fun v => law6_RulesMatchSpec_j1 n a0 a1 r1 v = some r) ?_ ?_
 ·refine W.regD hm ?_
  refine cb h (law6_expands_spec n) fun r16 k17 h => ?_
  refine aw h [5,1] ?_; intro h
  refine bs h (fun c18 h => ?_) fun c18 h => ?_
  ·refine aw h [3,3,3,3,2] ?_; intro h
   exact lf true h
  ·refine aw h [2,1,2] ?_; intro h
   refine cb h (rules_Validate_spec n _) fun r17 k19 h => ?_
   refine aw h [2,8,2,5,3] ?_; intro h
   exact lf ((r17.Code == r1.Code && (r17.Index == r1.Index && true)) != true) h
 ·intro x2 h
  try dsimp only at h ⊢
  unfold law6_RulesMatchSpec_j1 at h
  refine bs h (fun c2 h => ?_) fun c2 h => ?_
  ·refine au h [2,1,1,1,1] ?_; intro h
   cases h
   exact ⟨_, rfl, .refl _⟩
  ·refine au h [3,1] ?_; intro h
   refine Ev.seqJ (γ := Int × Int) (fun v => ⟨[(0, lP a0), (1, iP a1), (5, wP 10200)], [(10200, eP 24 2 [[iP v.1, iP v.2]])], 2⟩) (fun v => law6_RulesMatchSpec_j2 n a0 a1 v.1 v.2 = some r) ?_ ?_
   ·refine Ev.seqJ (γ := Bool) (fun v => ⟨[(0, lP a0), (1, iP a1), (5, wP 10300), (28, .bool v)], [(10300, eP 24 2 [[iP r1.Code, iP r1.Index]])], 2⟩) (fun v => law6_RulesMatchSpec_j5 n a0 a1 r1 v = some r) ?_ ?_
    ·refine au h [1,8,8,5,1] ?_; intro h
     refine bs h (fun c14 h => ?_) fun c14 h => ?_
     ·refine aw h [2,1,2,1,2,5,2,7,2] ?_; intro x14 k15 h
      refine cb h (law6_in_spec n _ _ _) fun r15 k16 h => ?_
      refine aw h [2,5,2] ?_; intro h
      exact lf (!r15) h
     ·refine aw h [3,3,3,3,3,3,3] ?_; intro h
      exact lf false h
    ·intro x12 h
     try dsimp only at h ⊢
     unfold law6_RulesMatchSpec_j5 at h
     refine bs h (fun c12 h => ?_) fun c12 h => ?_
     ·refine au h [2,1] ?_; intro h
      refine cb h (law6_fault_spec n _ _) fun r13 k13 h => ?_
      refine aw h [8] ?_; intro h
      exact lf (r13.Code, r13.Index) h
     ·refine au h [3,1] ?_; intro h
      exact lf (r1.Code, r1.Index) h
   ·intro ⟨b3, b4⟩ h
    try dsimp only at h ⊢
    unfold law6_RulesMatchSpec_j2 at h
    refine au h [1,1,1,1] ?_; intro h
    refine cb h (rules_Leaves_spec n _ _) fun r5 k3 h => ?_
    refine ax 67 h [1,5,5,5,1,8,1] ?_; intro h
    refine Ev.seqJ (γ := Bool) (fun v => ⟨[(0, lP a0), (1, iP a1), (5, wP 10300), (6, lP r5.1), (7, wP 10301), (43, .bool v)], [(10300, eP 24 2 [[iP b3, iP b4]]), (10301, eP 24 2 [[iP r5.2.Code, iP r5.2.Index]])], 2⟩) (fun v => law6_RulesMatchSpec_j3 n a0 a1 b3 b4 r5 v = some r) ?_ ?_
    ·refine au h [1,8,8,5,1] ?_; intro h
     refine bs h (fun c11 h => ?_) fun c11 h => ?_
     ·refine aw h [3,3,3,2] ?_; intro h
      exact lf true h
     ·refine aw h [2,8,2,8,2,5,3] ?_; intro h
      exact lf (decide (b3 ≠ 0)) h
    ·intro x6 h
     try dsimp only at h ⊢
     unfold law6_RulesMatchSpec_j3 at h
     refine bs h (fun c4 h => ?_) fun c4 h => ?_
     ·refine Ev.condT rfl c4 ?_
      refine Ev.seqJ (γ := Bool) (fun v => ⟨[(4, .bool v)], [], 2⟩) (fun v => law6_RulesMatchSpec_j4 n v = some r) ?_ ?_
      ·refine au h [1,8,8,5,1] ?_; intro h
       refine bs h (fun c5 h => ?_) fun c5 h => ?_
       ·refine aw h [2,1,2,5,2,5,2,1] ?_; intro h
        exact lf (decide ((r5.1.length : Int) = 0)) h
       ·refine aw h [3,3,3,3,1] ?_; intro h
        exact lf false h
      ·intro x7 h
       try dsimp only at h ⊢
       unfold law6_RulesMatchSpec_j4 at h
       refine Ev.ret ?_
       cases h
       exact ⟨_, rfl, .refl _⟩
     ·refine au h [3,1,1,1,1,1,1,5,5,5,5] ?_; intro e8 k6 h
      refine bs h (fun c7 h => ?_) fun c7 h => ?_
      ·refine au h [2,1,1,1,1,5] ?_; intro h
       refine cb h (ref5_Ints_spec n _ _) fun r9 k8 h => ?_
       refine ax 67 h [1,1] ?_; intro h
       cases h
       exact ⟨_, rfl, .refl _⟩
      ·refine au h [3,1,1,1,1,1,1] ?_; intro h
       refine cb h (ref6_RuleLeaves_spec n _ _) fun r10 k9 h => ?_
       refine cb h (ref5_Ints_spec n _ _) fun r11 k10 h => ?_
       refine ax 67 h [1,1] ?_; intro h
       cases h
       exact ⟨_, rfl, .refl _⟩
theorem ref6_Expanded_spec (n : Nat) (a0 : List SKindInputs) (r : (List SRuleKindInputs)) (h : ref6_Expanded n a0 = some r) : PSpec Tryd.prog 19 [lP a0] (lP r) := by
 unfold ref6_Expanded at h
 refine spec_of Tryd.c_ref6_Expanded (by simp) ?_
 unfold Tryd.l_ref6_Expanded
 refine au h [1,1,1,1,1,1,1,1,1,1,1] ?_; intro h
 refine Ev.loopW (β := Nat × (List SRuleKindInputs) × Int) (fun v => ⟨[(0, lP a0), (3, .own 10100 0), (4, iP v.2.2)], [(10100, eP 44 3 (mP v.2.1))], 2⟩) (fun v => ref6_Expanded_l1 n a0 v.1 v.2.1 v.2.2 = some r) (fun v => v.1) (n, ([] : List SRuleKindInputs), 0) ((Wk.ownNil 3 30100 44 3 rfl rfl true).trans (.nA)) h ?_
 intro ⟨m1, w1, x2⟩ h
 try dsimp only at h ⊢
 cases m1 with
 | zero => rw [ref6_Expanded_l1] at h; cases h
 | succ m1 =>
  rw [ref6_Expanded_l1] at h
  refine au h [1,1,1,1,1,5,5] ?_; intro h
  refine bs h (fun c1 h => ?_) fun c1 h => ?_
  ·refine au h [2,1] ?_; intro h
   refine Ev.seqJ (γ := List SRuleKindInputs) (fun v => ⟨[(0, lP a0), (3, .own 10200 0), (4, iP x2)], [(10200, eP 44 3 (mP v))], 2⟩) (fun v => ref6_Expanded_j1 n x2 (ref6_Expanded_l1 n a0 m1) v = some r) ?_ ?_
   ·refine au h [1,1,1,1,1,1,5,5,5,5] ?_; intro e5 k3 h
    refine bs h (fun c4 h => ?_) fun c4 h => ?_
    ·refine au h [2,1] ?_; intro h
     exact lf w1 h
    ·refine au h [3,1,1,1,1,1,1,6,5,5,5,5,8,1,1,1,1] ?_; intro h
     refine cb h (ref6_RuleLeaves_spec n _ _) fun r6 k5 h => ?_
     refine ax 64 h [1,1,1,1,1,1] ?_; intro h
     refine Ev.loopW (β := Nat × (List Int) × Int) (fun v => ⟨[(0, lP a0), (3, .own 10300 0), (4, iP x2), (5, wP 10301), (6, lP r6), (7, iP v.2.2)], [(10300, eP 44 3 (mP w1)), (10301, ⟨0, 44, 3, [[iP x2, iP e5.Kind, .own 10302 0]], false, false, false⟩), (10302, eP 3 1 (mP v.2.1))], 2⟩) (fun v => ref6_Expanded_l2 n w1 x2 (ref6_Expanded_l1 n a0 m1) e5 r6 v.1 v.2.1 v.2.2 = some r) (fun v => v.1) (n, ([] : List Int), 0) ((Wk.ownNilCell 5 2 2 30302 3 1 rfl rfl rfl rfl rfl (by simp) true).trans (.nA)) h ?_
     intro ⟨m2, w7, x8⟩ h
     try dsimp only at h ⊢
     cases m2 with
     | zero => rw [ref6_Expanded_l2] at h; cases h
     | succ m2 =>
      rw [ref6_Expanded_l2] at h
      refine au h [1,1,1,1,1,5,5] ?_; intro h
      refine bs h (fun c6 h => ?_) fun c6 h => ?_
      ·refine au h [2,1,1,1,1,1,1,1] ?_; intro h
       refine Ev.loopW (β := Nat × (List Int) × Int) (fun v => ⟨[(0, lP a0), (3, .own 10400 0), (4, iP x2), (5, wP 10401), (6, lP r6), (7, iP x8), (8, iP v.2.2)], [(10400, eP 44 3 (mP w1)), (10401, ⟨0, 44, 3, [[iP x2, iP e5.Kind, .own 10402 0]], false, false, false⟩), (10402, eP 3 1 (mP v.2.1))], 2⟩) (fun v => ref6_Expanded_l3 n w1 r6 x8 (ref6_Expanded_l2 n w1 x2 (ref6_Expanded_l1 n a0 m1) e5 r6 m2) v.1 v.2.1 v.2.2 = some r) (fun v => v.1) (n, w7, 0) (.nA) h ?_
       intro ⟨m3, w9, x10⟩ h
       try dsimp only at h ⊢
       cases m3 with
       | zero => rw [ref6_Expanded_l3] at h; cases h
       | succ m3 =>
        rw [ref6_Expanded_l3] at h
        refine au h [1,1,1,1,1,7,5] ?_; intro h
        refine bs h (fun c7 h => ?_) fun c7 h => ?_
        ·refine au h [2,1] ?_; intro h
         refine Ev.seqJ (γ := List Int) (fun v => ⟨[(0, lP a0), (3, .own 10500 0), (4, iP x2), (5, wP 10501), (6, lP r6), (7, iP x8), (8, iP x10)], [(10500, eP 44 3 (mP w1)), (10501, ⟨0, 44, 3, [[iP x2, iP e5.Kind, .own 10502 0]], false, false, false⟩), (10502, eP 3 1 (mP v))], 2⟩) (fun v => ref6_Expanded_j2 n x10 (ref6_Expanded_l3 n w1 r6 x8 (ref6_Expanded_l2 n w1 x2 (ref6_Expanded_l1 n a0 m1) e5 r6 m2) m3) v = some r) ?_ ?_
         ·refine au h [1,1,1,1,1,7,8,7,1,1,5,5,5] ?_; intro e13 k9 e14 k10 h
          refine bs h (fun c11 h => ?_) fun c11 h => ?_
          ·refine au h [2,1,8,8,1,5,7,8,8] ?_; intro w15 k12 h
           exact lf w15 h
          ·refine au h [3,1] ?_; intro h
           exact lf w9 h
         ·intro w11 h
          try dsimp only at h ⊢
          unfold ref6_Expanded_j2 at h
          refine au h [1,1,7,1] ?_; intro x12 k8 h
          exact lb (m3, w11, x12) h
        ·refine au h [3,1,1,1,7,1] ?_; intro x16 k13 h
         exact lb (m2, w9, x16) h
      ·refine au h [3,1] ?_; intro h
       refine Ev.weak ?_ (Wk.frz 10302 0 rfl rfl)
       refine au h [1,1,8,5,7,1] ?_; intro w17 k14 h
       exact lf w17 h
   ·intro w3 h
    try dsimp only at h ⊢
    unfold ref6_Expanded_j1 at h
    refine au h [1,1,7,1] ?_; intro x4 k2 h
    exact lb (m1, w3, x4) h
  ·refine au h [3,1,1,1,1,1,1] ?_; intro h
   cases h
   exact ⟨_, rfl, .refl _⟩
theorem law6_RulesExpandMatchesSpec_spec (n : Nat) (a0 : List SKindInputs) (r : Bool) (h : law6_RulesExpandMatchesSpec n a0 = some r) : PSpec Tryd.prog 4 [lP a0] (.bool r) := by
 unfold law6_RulesExpandMatchesSpec at h
 refine spec_of Tryd.c_law6_RulesExpandMatchesSpec (by simp) ?_
 unfold Tryd.l_law6_RulesExpandMatchesSpec
 refine au h [1,1,1,1,1,1] ?_; intro h
 refine cb h (ref6_RulesFault_spec n _) fun r1 k1 h => ?_
 refine ax 40 h [5,8,1,1,1] ?_; intro h
 refine cb h (rules_Expand_spec n _) fun r2 k2 h => ?_
 refine aw h [1,5,5,5,1,8] ?_; intro h
 refine Ev.seqJ (γ := Bool) (fun v => ⟨[(2, .bool v)], [], 2⟩) (fun v => law6_RulesExpandMatchesSpec_j1 n v = some r) ?_ ?_
 ·refine W.reg hm ?_
  refine cb h (law6_expands_spec n) fun r4 k3 h => ?_
  refine W.mv rfl ?_
  refine bs h (fun c4 h => ?_) fun c4 h => ?_
  ·refine aw h [2,8,2,8,2,5,2,1] ?_; intro h
   refine bs h (fun c5 h => ?_) fun c5 h => ?_
   ·refine aw h [2,8,2,8,2,5,2,1] ?_; intro h
    refine bs h (fun c6 h => ?_) fun c6 h => ?_
    ·refine aw h [2,1,2,5,2,5,2,2,2,1] ?_; intro h
     refine bs h (fun c7 h => ?_) fun c7 h => ?_
     ·refine aw h [3,3,3,3,4,4,4,4,3,2,2,2,1] ?_; intro h
      exact lf true h
     ·refine aw h [2,8,2,8,2,5,2,1] ?_; intro h
      refine bs h (fun c8 h => ?_) fun c8 h => ?_
      ·refine aw h [2,1,2,1,2] ?_; intro h
       refine cb h (ref6_Expanded_spec n _) fun r5 k9 h => ?_
       refine W.guardT rfl c8 ?_
       refine cb h (ref6_SameSteps_spec n _ _) fun r6 k10 h => ?_
       refine aw h [2,2,2,3,2,1] ?_; intro h
       exact lf r6 h
      ·refine aw h [3,3,3,3,2,3,2,3,2,1] ?_; intro h
       exact lf false h
    ·refine aw h [3,3,3,2,3,2,1,2,8,2,8,2,5,2,1] ?_; intro h
     refine bs h (fun c11 h => ?_) fun c11 h => ?_
     ·refine aw h [2,1,2,1,2] ?_; intro h
      refine cb h (ref6_Expanded_spec n _) fun r7 k12 h => ?_
      refine W.guardT rfl c11 ?_
      refine cb h (ref6_SameSteps_spec n _ _) fun r8 k13 h => ?_
      refine aw h [2,2,2,3,2,1] ?_; intro h
      exact lf r8 h
     ·refine aw h [3,3,3,3,2,3,2,3,2,1] ?_; intro h
      exact lf false h
   ·refine aw h [3,3,3,3,4,4,4,3,3,4,4,4,4,4,4,4,4,4,3,3,1] ?_; intro h
    exact lf false h
  ·refine aw h [3,3,3,3,1,3,3,3,3,4,4,4,3,3,4,4,4,4,4,4,4,4,4,3,3,1] ?_; intro h
   exact lf false h
 ·intro x3 h
  try dsimp only at h ⊢
  unfold law6_RulesExpandMatchesSpec_j1 at h
  refine Ev.ret ?_
  cases h
  exact ⟨_, rfl, .refl _⟩
theorem law6_may_spec (n : Nat) (a0 : Int) (a1 : Int) (r : Bool) (h : law6_may n a0 a1 = some r) : PSpec Tryd.prog 20 [iP a0, iP a1] (.bool r) := by
 unfold law6_may at h
 refine spec_of Tryd.c_law6_may (by simp) ?_
 unfold Tryd.l_law6_may
 refine au h [1,1,1,1,1,1,1,1,1,1,5,1] ?_; intro h
 refine bs h (fun c1 h => ?_) fun c1 h => ?_
 ·refine Ev.condT rfl c1 ?_
  refine Ev.seqJ (γ := Bool) (fun v => ⟨[(4, .bool v)], [], 2⟩) (fun v => law6_may_j1 n v = some r) ?_ ?_
  ·refine au h [1,1,5,1] ?_; intro h
   refine bs h (fun c2 h => ?_) fun c2 h => ?_
   ·refine aw h [3,3,2,1] ?_; intro h
    exact lf true h
   ·refine aw h [2,1,2,5,3,1] ?_; intro h
    exact lf (decide (a1 = 3)) h
  ·intro x1 h
   try dsimp only at h ⊢
   unfold law6_may_j1 at h
   refine Ev.ret ?_
   cases h
   exact ⟨_, rfl, .refl _⟩
 ·refine au h [3,1,1,5,1] ?_; intro h
  refine bs h (fun c3 h => ?_) fun c3 h => ?_
  ·refine au h [2,1,1,1,5,1,1] ?_; intro h
   cases h
   exact ⟨_, rfl, .refl _⟩
  ·refine au h [3,1,1,5,1] ?_; intro h
   refine bs h (fun c4 h => ?_) fun c4 h => ?_
   ·refine Ev.condT rfl c4 ?_
    refine Ev.seqJ (γ := Bool) (fun v => ⟨[(4, .bool v)], [], 2⟩) (fun v => law6_may_j2 n v = some r) ?_ ?_
    ·refine au h [1,1,5,1] ?_; intro h
     refine bs h (fun c5 h => ?_) fun c5 h => ?_
     ·refine aw h [3,3,2,1] ?_; intro h
      exact lf true h
     ·refine aw h [2,1,2,5,3,1] ?_; intro h
      exact lf (decide (a1 = 3)) h
    ·intro x2 h
     try dsimp only at h ⊢
     unfold law6_may_j2 at h
     refine Ev.ret ?_
     cases h
     exact ⟨_, rfl, .refl _⟩
   ·refine au h [3,1,1,5,1] ?_; intro h
    refine bs h (fun c6 h => ?_) fun c6 h => ?_
    ·refine au h [2,1,1,1,5,1,1] ?_; intro h
     cases h
     exact ⟨_, rfl, .refl _⟩
    ·refine au h [3,1,1,1,1,1] ?_; intro h
     cases h
     exact ⟨_, rfl, .refl _⟩
theorem law6_RulesStepsAreTyped_spec (n : Nat) (a0 : List SKindInputs) (r : Bool) (h : law6_RulesStepsAreTyped n a0 = some r) : PSpec Tryd.prog 5 [lP a0] (.bool r) := by
 unfold law6_RulesStepsAreTyped at h
 refine spec_of Tryd.c_law6_RulesStepsAreTyped (by simp) ?_
 unfold Tryd.l_law6_RulesStepsAreTyped
 refine au h [1,1,1,1,1,1] ?_; intro h
 refine cb h (rules_Expand_spec n _) fun r1 k1 h => ?_
 refine ax 125 h [1,5,5,5,1,8,1] ?_; intro h
 refine Ev.seqJ (γ := Bool) (fun v => ⟨[(3, lP r1.1), (24, .bool v)], [], 2⟩) (fun v => law6_RulesStepsAreTyped_j1 n r1 v = some r) ?_ ?_
 ·refine W.reg hm ?_
  refine cb h (law6_expands_spec n) fun r19 k25 h => ?_
  refine aw h [5,1] ?_; intro h
  refine bs h (fun c26 h => ?_) fun c26 h => ?_
  ·refine aw h [3,3,3,3,4,4,4,3,2] ?_; intro h
   exact lf true h
  ·refine aw h [2,8,2,8,2,5,2,1] ?_; intro h
   refine bs h (fun c27 h => ?_) fun c27 h => ?_
   ·refine aw h [2,1,2,5,2,5,2,2,3] ?_; intro h
    exact lf (decide (0 < (r1.1.length : Int))) h
   ·refine aw h [3,3,3,2,3,3] ?_; intro h
    exact lf false h
 ·intro x2 h
  try dsimp only at h ⊢
  unfold law6_RulesStepsAreTyped_j1 at h
  refine bs h (fun c2 h => ?_) fun c2 h => ?_
  ·refine au h [2,1,1,1,1] ?_; intro h
   cases h
   exact ⟨_, rfl, .refl _⟩
  ·refine au h [3,1,1,1,1,1,1] ?_; intro h
   refine Ev.loopW (β := Nat × Int) (fun v => ⟨[(3, lP r1.1), (5, iP v.2)], [], 2⟩) (fun v => law6_RulesStepsAreTyped_l1 n r1 v.1 v.2 = some r) (fun v => v.1) (n, 0) (.nA) h ?_
   intro ⟨m1, x3⟩ h
   try dsimp only at h ⊢
   cases m1 with
   | zero => rw [law6_RulesStepsAreTyped_l1] at h; cases h
   | succ m1 =>
    rw [law6_RulesStepsAreTyped_l1] at h
    refine au h [1,1,1,1,1,5,5] ?_; intro h
    refine bs h (fun c3 h => ?_) fun c3 h => ?_
    ·refine au h [2,1,1,1,1] ?_; intro h
     refine Ev.seqJ (γ := Bool) (fun v => ⟨[(3, lP r1.1), (5, iP x3), (70, .bool v)], [], 2⟩) (fun v => law6_RulesStepsAreTyped_j2 n r1 x3 (law6_RulesStepsAreTyped_l1 n r1 m1) v = some r) ?_ ?_
     ·refine au h [1,1,1,5,5,5] ?_; intro e17 k20 h
      refine cb h (law6_in_spec n _ _ _) fun r18 k21 h => ?_
      refine aw h [5,1] ?_; intro h
      refine bs h (fun c22 h => ?_) fun c22 h => ?_
      ·refine aw h [3,3,3,3,3,3,3,4,4,4,4,4,4,4,3,2,1,3,3,3,3,3,3,3,3,3,3,3,3,3,3,2] ?_; intro h
       exact lf true h
      ·refine aw h [2,1,2,1,2,6,2,5,2,5,2,5,2,1] ?_; intro h
       refine bs h (fun c23 h => ?_) fun c23 h => ?_
       ·refine aw h [2,1,2,1,2,6,2,5,2,5,2,5,2,5,2,2,3,1] ?_; intro h
        refine bs h (fun c24 h => ?_) fun c24 h => ?_
        ·refine aw h [3,3,3,3,3,3,3,3,3,3,3,3,3,3,2] ?_; intro h
         exact lf true h
        ·refine aw h [2,1,2,1,2,6,2,5,2,5,2,5,2,1,2,1,2,6,2,5,2,5,2,5,2,5,2,5,3] ?_; intro h
         exact lf ((decide (e17.Kind = 1)) != (decide ((e17.Inputs.length : Int) = 0))) h
       ·refine aw h [3,3,3,3,3,3,3,2,3,3,1,2,1,2,1,2,6,2,5,2,5,2,5,2,1,2,1,2,6,2,5,2,5,2,5,2,5,2,5,3] ?_; intro h
        exact lf ((decide (e17.Kind = 1)) != (decide ((e17.Inputs.length : Int) = 0))) h
     ·intro x4 h
      try dsimp only at h ⊢
      unfold law6_RulesStepsAreTyped_j2 at h
      refine bs h (fun c4 h => ?_) fun c4 h => ?_
      ·refine au h [2,1,1,1,1] ?_; intro h
       cases h
       exact ⟨_, rfl, .refl _⟩
      ·refine au h [3,1,1,1,1,1] ?_; intro h
       refine Ev.loopW (β := Nat × Int) (fun v => ⟨[(3, lP r1.1), (5, iP x3), (6, iP v.2)], [], 2⟩) (fun v => law6_RulesStepsAreTyped_l2 n r1 x3 (law6_RulesStepsAreTyped_l1 n r1 m1) v.1 v.2 = some r) (fun v => v.1) (n, 0) (.nA) h ?_
       intro ⟨m2, x5⟩ h
       try dsimp only at h ⊢
       cases m2 with
       | zero => rw [law6_RulesStepsAreTyped_l2] at h; cases h
       | succ m2 =>
        rw [law6_RulesStepsAreTyped_l2] at h
        refine au h [1,1,1,1,1,1,5,5,5,5,5] ?_; intro e6 k5 h
        refine bs h (fun c6 h => ?_) fun c6 h => ?_
        ·refine au h [2,1,1,1,1,1,1,1,6,5,5,1,5,5,1] ?_; intro e7 k7 h
         refine Ev.seqJ (γ := Bool) (fun v => ⟨[(3, lP r1.1), (5, iP x3), (6, iP x5), (124, .bool v)], [], 2⟩) (fun v => law6_RulesStepsAreTyped_j3 n x5 (law6_RulesStepsAreTyped_l2 n r1 x3 (law6_RulesStepsAreTyped_l1 n r1 m1) m2) v = some r) ?_ ?_
         ·refine au h [1,1,1,7] ?_; intro x10 k10 h
          refine cb h (law6_in_spec n _ _ _) fun r11 k11 h => ?_
          refine aw h [5,1] ?_; intro h
          refine bs h (fun c12 h => ?_) fun c12 h => ?_
          ·refine aw h [3,3,3,3,3,3,3,3,3,3,3,3,2,1,3,3,3,4,4,4,4,4,4,4,4,4,4,4,3,2] ?_; intro h
           exact lf true h
          ·refine aw h [2,1,2,1,2,6,2,5,2,5,2,1,2,1,2,5,2,5,2,5,2] ?_; intro e12 k13 h
           refine cb h (law6_may_spec n _ _) fun r13 k14 h => ?_
           refine aw h [2,5,3,1] ?_; intro h
           refine bs h (fun c15 h => ?_) fun c15 h => ?_
           ·refine aw h [3,3,3,4,4,4,4,4,4,4,4,4,4,4,3,2] ?_; intro h
            exact lf true h
           ·refine aw h [2,1,2,5,2,1] ?_; intro h
            refine bs h (fun c16 h => ?_) fun c16 h => ?_
            ·refine aw h [2,1,2,1,2,1,2,6,2,5,2,5,2,1,2,7,2,5,2,5,2,5,2,2,3] ?_; intro x14 k17 e15 k18 h
             exact lf (decide (e7 ≤ e15)) h
            ·refine aw h [3,3,3,3,3,3,3,3,3,3,3,2,3,3] ?_; intro h
             exact lf false h
         ·intro x8 h
          try dsimp only at h ⊢
          unfold law6_RulesStepsAreTyped_j3 at h
          refine bs h (fun c8 h => ?_) fun c8 h => ?_
          ·refine au h [2,1,1,1,1] ?_; intro h
           cases h
           exact ⟨_, rfl, .refl _⟩
          ·refine au h [3,1,1,1,7,1] ?_; intro x9 k9 h
           exact lb (m2, x9) h
        ·refine au h [3,1,1,1,7,1] ?_; intro x16 k19 h
         exact lb (m1, x16) h
    ·refine au h [3,1,1,1,1,1] ?_; intro h
     cases h
     exact ⟨_, rfl, .refl _⟩
theorem ref5_Has_spec (n : Nat) (a0 : List Int) (a1 : Int) (r : Bool) (h : ref5_Has n a0 a1 = some r) : PSpec Tryd.prog 21 [lP a0, iP a1] (.bool r) := by
 unfold ref5_Has at h
 refine spec_of Tryd.c_ref5_Has (by simp) ?_
 unfold Tryd.l_ref5_Has
 refine au h [1,1,1,1,1,1,1,1] ?_; intro h
 refine Ev.loopW (β := Nat × Int) (fun v => ⟨[(0, lP a0), (1, iP a1), (5, iP v.2)], [], 2⟩) (fun v => ref5_Has_l1 n a0 a1 v.1 v.2 = some r) (fun v => v.1) (n, 0) (.nA) h ?_
 intro ⟨m1, x1⟩ h
 try dsimp only at h ⊢
 cases m1 with
 | zero => rw [ref5_Has_l1] at h; cases h
 | succ m1 =>
  rw [ref5_Has_l1] at h
  refine au h [1,1,1,1,1,5,5] ?_; intro h
  refine bs h (fun c1 h => ?_) fun c1 h => ?_
  ·refine au h [2,1,1,1,1,1,1,1,5,5,1,5] ?_; intro e2 k2 h
   refine bs h (fun c3 h => ?_) fun c3 h => ?_
   ·refine au h [2,1,1,1,1] ?_; intro h
    cases h
    exact ⟨_, rfl, .refl _⟩
   ·refine au h [3,1,1,1,7,1] ?_; intro x3 k4 h
    exact lb (m1, x3) h
  ·refine au h [3,1,1,1,1,1] ?_; intro h
   cases h
   exact ⟨_, rfl, .refl _⟩
set_option maxHeartbeats 4000000 in
theorem law6_RulesGroupsAreTransparent_spec (n : Nat) (a0 : List SKindInputs) (a1 : Int) (r : Bool) (h : law6_RulesGroupsAreTransparent n a0 a1 = some r) : PSpec Tryd.prog 6 [lP a0, iP a1] (.bool r) := by
 unfold law6_RulesGroupsAreTransparent at h
 refine spec_of Tryd.c_law6_RulesGroupsAreTransparent (by simp) ?_
 unfold Tryd.l_law6_RulesGroupsAreTransparent
 refine au h [1,1,1,1,1,1,1] ?_; intro h
 refine cb h (rules_Leaves_spec n _ _) fun r1 k1 h => ?_
 refine ax 129 h [1,5,5,5,1,8,1] ?_; intro h
 refine Ev.seqJ (γ := Bool) (fun v => ⟨[(0, lP a0), (1, iP a1), (5, lP r1.1), (29, .bool v)], [], 2⟩) (fun v => law6_RulesGroupsAreTransparent_j1 n a0 a1 r1 v = some r) ?_ ?_
 ·refine W.reg hm ?_
  refine cb h (law6_expands_spec n) fun r27 k29 h => ?_
  refine aw h [5,1] ?_; intro h
  refine bs h (fun c30 h => ?_) fun c30 h => ?_
  ·refine aw h [3,3,3,2] ?_; intro h
   exact lf true h
  ·refine aw h [2,8,2,8,2,5,3] ?_; intro h
   exact lf (decide (r1.2.Code ≠ 0)) h
 ·intro x2 h
  try dsimp only at h ⊢
  unfold law6_RulesGroupsAreTransparent_j1 at h
  refine bs h (fun c2 h => ?_) fun c2 h => ?_
  ·refine Ev.condT rfl c2 ?_
   refine Ev.seqJ (γ := Bool) (fun v => ⟨[(4, .bool v)], [], 2⟩) (fun v => law6_RulesGroupsAreTransparent_j2 n v = some r) ?_ ?_
   ·refine W.reg hm ?_
    refine cb h (law6_expands_spec n) fun r4 k3 h => ?_
    refine W.mv rfl ?_
    refine bs h (fun c4 h => ?_) fun c4 h => ?_
    ·refine aw h [2,1,2,5,2,5,2,1] ?_; intro h
     exact lf (decide ((r1.1.length : Int) = 0)) h
    ·refine aw h [3,3,3,3,1] ?_; intro h
     exact lf false h
   ·intro x3 h
    try dsimp only at h ⊢
    unfold law6_RulesGroupsAreTransparent_j2 at h
    refine Ev.ret ?_
    cases h
    exact ⟨_, rfl, .refl _⟩
  ·refine au h [3,1,1,1,1,1,1,5,5,5,5] ?_; intro e5 k5 h
   refine bs h (fun c6 h => ?_) fun c6 h => ?_
   ·refine au h [2,1,1,1,1,5] ?_; intro h
    refine cb h (ref5_Ints_spec n _ _) fun r6 k7 h => ?_
    refine ax 129 h [1,1] ?_; intro h
    cases h
    exact ⟨_, rfl, .refl _⟩
   ·refine au h [3,1,1,1,1,1,1,1,1,1] ?_; intro h
    refine Ev.loopW (β := Nat × Int) (fun v => ⟨[(0, lP a0), (1, iP a1), (5, lP r1.1), (7, iP 0), (8, iP v.2)], [], 2⟩) (fun v => law6_RulesGroupsAreTransparent_l1 n a0 r1 e5 v.1 v.2 = some r) (fun v => v.1) (n, 0) (.nA) h ?_
    intro ⟨m1, x7⟩ h
    try dsimp only at h ⊢
    cases m1 with
    | zero => rw [law6_RulesGroupsAreTransparent_l1] at h; cases h
    | succ m1 =>
     rw [law6_RulesGroupsAreTransparent_l1] at h
     refine au h [1,1,1,1,1,1,6,5,5,5,5] ?_; intro h
     refine bs h (fun c8 h => ?_) fun c8 h => ?_
     ·refine au h [2,1,1,1,1,1,1,1,1,6,5,5,1,5,5] ?_; intro e8 k9 h
      refine cb h (rules_Leaves_spec n _ _) fun r9 k10 h => ?_
      refine ax 129 h [1,5,5,5,1,8,1,1,1,8,8,5] ?_; intro h
      refine bs h (fun c11 h => ?_) fun c11 h => ?_
      ·refine au h [2,1,1,1,1] ?_; intro h
       cases h
       exact ⟨_, rfl, .refl _⟩
      ·refine au h [3,1,1,1,1,1] ?_; intro h
       refine Ev.loopW (β := Nat × Int) (fun v => ⟨[(0, lP a0), (1, iP a1), (5, lP r1.1), (7, iP 0), (8, iP x7), (9, lP r9.1), (11, iP v.2)], [], 2⟩) (fun v => law6_RulesGroupsAreTransparent_l2 n r1 x7 (law6_RulesGroupsAreTransparent_l1 n a0 r1 e5 m1) r9 v.1 v.2 = some r) (fun v => v.1) (n, 0) (.nA) h ?_
       intro ⟨m2, x10⟩ h
       try dsimp only at h ⊢
       cases m2 with
       | zero => rw [law6_RulesGroupsAreTransparent_l2] at h; cases h
       | succ m2 =>
        rw [law6_RulesGroupsAreTransparent_l2] at h
        refine au h [1,1,1,1,1,5,5] ?_; intro h
        refine bs h (fun c12 h => ?_) fun c12 h => ?_
        ·refine au h [2,1,1,1,1,1,1,1,1,5,5] ?_; intro e11 k13 h
         refine cb h (ref5_Has_spec n _ _) fun r12 k14 h => ?_
         refine aw h [5] ?_; intro h
         refine bs h (fun c15 h => ?_) fun c15 h => ?_
         ·refine au h [2,1,1,1,1] ?_; intro h
          cases h
          exact ⟨_, rfl, .refl _⟩
         ·refine au h [3,1,1,1,7,1] ?_; intro x13 k16 h
          exact lb (m2, x13) h
        ·refine au h [3,1,1,1,7,1] ?_; intro x14 k17 h
         exact lb (m1, x14) h
     ·refine au h [3,1,1,1,1,1,1] ?_; intro h
      refine Ev.loopW (β := Nat × Int × Int) (fun v => ⟨[(0, lP a0), (1, iP a1), (5, lP r1.1), (7, iP v.2.1), (12, iP v.2.2)], [], 2⟩) (fun v => law6_RulesGroupsAreTransparent_l3 n a0 r1 e5 v.1 v.2.1 v.2.2 = some r) (fun v => v.1) (n, 0, 0) (.nA) h ?_
      intro ⟨m3, x15, x16⟩ h
      try dsimp only at h ⊢
      cases m3 with
      | zero => rw [law6_RulesGroupsAreTransparent_l3] at h; cases h
      | succ m3 =>
       rw [law6_RulesGroupsAreTransparent_l3] at h
       refine au h [1,1,1,1,1,5,5] ?_; intro h
       refine bs h (fun c18 h => ?_) fun c18 h => ?_
       ·refine au h [2,1,1,1,1,1,1,1,1,1,1,1] ?_; intro h
        refine Ev.loopW (β := Nat × Bool × Int) (fun v => ⟨[(0, lP a0), (1, iP a1), (5, lP r1.1), (7, iP x15), (12, iP x16), (13, .bool v.2.1), (14, iP v.2.2)], [], 2⟩) (fun v => law6_RulesGroupsAreTransparent_l4 n a0 r1 e5 x15 x16 (law6_RulesGroupsAreTransparent_l3 n a0 r1 e5 m3) v.1 v.2.1 v.2.2 = some r) (fun v => v.1) (n, false, 0) (.nA) h ?_
        intro ⟨m4, x17, x18⟩ h
        try dsimp only at h ⊢
        cases m4 with
        | zero => rw [law6_RulesGroupsAreTransparent_l4] at h; cases h
        | succ m4 =>
         rw [law6_RulesGroupsAreTransparent_l4] at h
         refine au h [1,1,1,1,1,1,6,5,5,5,5] ?_; intro h
         refine bs h (fun c19 h => ?_) fun c19 h => ?_
         ·refine au h [2,1] ?_; intro h
          refine Ev.seqJ (γ := Bool) (fun v => ⟨[(0, lP a0), (1, iP a1), (5, lP r1.1), (7, iP x15), (12, iP x16), (13, .bool v), (14, iP x18)], [], 2⟩) (fun v => law6_RulesGroupsAreTransparent_j3 n x18 (law6_RulesGroupsAreTransparent_l4 n a0 r1 e5 x15 x16 (law6_RulesGroupsAreTransparent_l3 n a0 r1 e5 m3) m4) v = some r) ?_ ?_
          ·refine au h [1,1,1,1,1,1,6,5,5,1,5,5] ?_; intro e21 k21 h
           refine cb h (rules_Leaves_spec n _ _) fun r22 k22 h => ?_
           refine ax 129 h [1,5,5,5,1,8,1,1,1] ?_; intro h
           refine bs h (fun c23 h => ?_) fun c23 h => ?_
           ·refine aw h [3,3,3,3,3,3,2,1] ?_; intro h
            exact lf true h
           ·refine aw h [2,1,2,1,2,1,2,5,2,5,2] ?_; intro e23 k24 h
            refine cb h (ref5_Has_spec n _ _) fun r24 k25 h => ?_
            refine aw h [3,1] ?_; intro h
            exact lf r24 h
          ·intro x19 h
           try dsimp only at h ⊢
           unfold law6_RulesGroupsAreTransparent_j3 at h
           refine au h [1,1,7,1] ?_; intro x20 k20 h
           exact lb (m4, x19, x20) h
         ·refine au h [3,1,1,1,1,1,5] ?_; intro h
          refine bs h (fun c26 h => ?_) fun c26 h => ?_
          ·refine au h [2,1,1,1,1] ?_; intro h
           cases h
           exact ⟨_, rfl, .refl _⟩
          ·refine au h [3,1,1,1,7,1,1,1,7,1] ?_; intro x25 k27 x26 k28 h
           exact lb (m3, x25, x26) h
       ·refine au h [3,1,1,1,1,5,1,1] ?_; intro h
        cases h
        exact ⟨_, rfl, .refl _⟩
theorem law6_RulesLaterRulesDoNotMatter_spec (n : Nat) (a0 : List SKindInputs) (a1 : Int) (r : Bool) (h : law6_RulesLaterRulesDoNotMatter n a0 a1 = some r) : PSpec Tryd.prog 7 [lP a0, iP a1] (.bool r) := by
 unfold law6_RulesLaterRulesDoNotMatter at h
 refine spec_of Tryd.c_law6_RulesLaterRulesDoNotMatter (by simp) ?_
 unfold Tryd.l_law6_RulesLaterRulesDoNotMatter
 refine au h [1,1,1,1,1,1] ?_; intro h
 refine cb h (rules_Expand_spec n _) fun r1 k1 h => ?_
 refine ax 61 h [1,5,5,5,1,8,1] ?_; intro h
 refine Ev.seqJ (γ := Bool) (fun v => ⟨[(0, lP a0), (1, iP a1), (5, lP r1.1), (6, wP 10100), (25, .bool v)], [(10100, eP 24 2 [[iP r1.2.Code, iP r1.2.Index]])], 2⟩) (fun v => law6_RulesLaterRulesDoNotMatter_j1 n a0 a1 r1 v = some r) ?_ ?_
 ·refine W.reg hm ?_
  refine cb h (law6_expands_spec n) fun r10 k12 h => ?_
  refine aw h [5,1] ?_; intro h
  refine bs h (fun c13 h => ?_) fun c13 h => ?_
  ·refine aw h [3,3,3,3,4,4,4,3,2] ?_; intro h
   exact lf true h
  ·refine aw h [2,8,2,8,2,5,2,1] ?_; intro h
   refine bs h (fun c14 h => ?_) fun c14 h => ?_
   ·refine aw h [2,1,2,5,2,5,2,2,3] ?_; intro h
    exact lf (decide (0 < (r1.1.length : Int))) h
   ·refine aw h [3,3,3,2,3,3] ?_; intro h
    exact lf false h
 ·intro x2 h
  try dsimp only at h ⊢
  unfold law6_RulesLaterRulesDoNotMatter_j1 at h
  refine bs h (fun c2 h => ?_) fun c2 h => ?_
  ·refine au h [2,1,1,1,1] ?_; intro h
   cases h
   exact ⟨_, rfl, .refl _⟩
  ·refine au h [3,1,1] ?_; intro h
   refine Ev.seqJ (γ := Bool) (fun v => ⟨[(0, lP a0), (1, iP a1), (5, lP r1.1), (35, .bool v)], [], 2⟩) (fun v => law6_RulesLaterRulesDoNotMatter_j2 n a0 a1 r1 v = some r) ?_ ?_
   ·refine au h [1,8,8,5,1] ?_; intro h
    refine bs h (fun c10 h => ?_) fun c10 h => ?_
    ·refine aw h [3,3,3,3,3,2] ?_; intro h
     exact lf true h
    ·refine aw h [2,1,2,1,2,5,2] ?_; intro h
     refine cb h (law6_in_spec n _ _ _) fun r9 k11 h => ?_
     refine aw h [2,5,3] ?_; intro h
     exact lf (!r9) h
   ·intro x3 h
    try dsimp only at h ⊢
    unfold law6_RulesLaterRulesDoNotMatter_j2 at h
    refine bs h (fun c3 h => ?_) fun c3 h => ?_
    ·refine au h [2,1,1,1,1] ?_; intro h
     cases h
     exact ⟨_, rfl, .refl _⟩
    ·refine au h [3,1,1,1,1,1,7] ?_; intro s4 k4 h
     refine cb h (rules_Expand_spec n _) fun r5 k5 h => ?_
     refine aw h [1,5,5,5,1,8] ?_; intro h
     refine Ev.seqJ (γ := Bool) (fun v => ⟨[(4, .bool v)], [], 2⟩) (fun v => law6_RulesLaterRulesDoNotMatter_j3 n v = some r) ?_ ?_
     ·refine au h [1,8,8,5,1] ?_; intro h
      refine bs h (fun c6 h => ?_) fun c6 h => ?_
      ·refine aw h [2,1,2,5,2,1,2,5,2,5,2,1] ?_; intro h
       refine bs h (fun c7 h => ?_) fun c7 h => ?_
       ·refine aw h [2,1,2,1,2,1,2,5,2,7,2] ?_; intro s7 k8 h
        refine cb h (ref6_SameSteps_spec n _ _) fun r8 k9 h => ?_
        refine aw h [2,1] ?_; intro h
        exact lf r8 h
       ·refine aw h [3,3,3,3,3,3,3,1] ?_; intro h
        exact lf false h
      ·refine aw h [3,3,3,3,3,3,1,3,3,3,3,3,3,3,1] ?_; intro h
       exact lf false h
     ·intro x6 h
      try dsimp only at h ⊢
      unfold law6_RulesLaterRulesDoNotMatter_j3 at h
      refine Ev.ret ?_
      cases h
      exact ⟨_, rfl, .refl _⟩
theorem law6_RulesExpansionIsIdempotent_spec (n : Nat) (a0 : List SKindInputs) (r : Bool) (h : law6_RulesExpansionIsIdempotent n a0 = some r) : PSpec Tryd.prog 8 [lP a0] (.bool r) := by
 unfold law6_RulesExpansionIsIdempotent at h
 refine spec_of Tryd.c_law6_RulesExpansionIsIdempotent (by simp) ?_
 unfold Tryd.l_law6_RulesExpansionIsIdempotent
 refine au h [1,1,1,1,1,1] ?_; intro h
 refine cb h (rules_Expand_spec n _) fun r1 k1 h => ?_
 refine ax 109 h [1,5,5,5,1,8,1] ?_; intro h
 refine Ev.seqJ (γ := Bool) (fun v => ⟨[(3, lP r1.1), (26, .bool v)], [], 2⟩) (fun v => law6_RulesExpansionIsIdempotent_j1 n r1 v = some r) ?_ ?_
 ·refine W.reg hm ?_
  refine cb h (law6_expands_spec n) fun r16 k19 h => ?_
  refine aw h [5,1] ?_; intro h
  refine bs h (fun c20 h => ?_) fun c20 h => ?_
  ·refine aw h [3,3,3,3,4,4,4,3,2] ?_; intro h
   exact lf true h
  ·refine aw h [2,8,2,8,2,5,2,1] ?_; intro h
   refine bs h (fun c21 h => ?_) fun c21 h => ?_
   ·refine aw h [2,1,2,5,2,5,2,2,3] ?_; intro h
    exact lf (decide (0 < (r1.1.length : Int))) h
   ·refine aw h [3,3,3,2,3,3] ?_; intro h
    exact lf false h
 ·intro x2 h
  try dsimp only at h ⊢
  unfold law6_RulesExpansionIsIdempotent_j1 at h
  refine bs h (fun c2 h => ?_) fun c2 h => ?_
  ·refine au h [2,1,1,1,1] ?_; intro h
   cases h
   exact ⟨_, rfl, .refl _⟩
  ·refine au h [3,1,1,1,1,1,1,1,1,1] ?_; intro h
   refine Ev.loopW (β := Nat × (List SKindInputs) × Int) (fun v => ⟨[(3, lP r1.1), (5, .own 10200 0), (6, iP v.2.2)], [(10200, eP 33 2 (mP v.2.1))], 2⟩) (fun v => law6_RulesExpansionIsIdempotent_l1 n r1 v.1 v.2.1 v.2.2 = some r) (fun v => v.1) (n, ([] : List SKindInputs), 0) ((Wk.ownNil 5 30200 33 2 rfl rfl true).trans (.nA)) h ?_
   intro ⟨m1, w3, x4⟩ h
   try dsimp only at h ⊢
   cases m1 with
   | zero => rw [law6_RulesExpansionIsIdempotent_l1] at h; cases h
   | succ m1 =>
    rw [law6_RulesExpansionIsIdempotent_l1] at h
    refine au h [1,1,1,1,1,5,5] ?_; intro h
    refine bs h (fun c3 h => ?_) fun c3 h => ?_
    ·refine au h [2,1,1,1,1,1,1,1,1,5,5,5,5,5] ?_; intro e5 k4 h
     refine bs h (fun c5 h => ?_) fun c5 h => ?_
     ·refine au h [2,1,1,1,1] ?_; intro h
      cases h
      exact ⟨_, rfl, .refl _⟩
     ·refine au h [3,1,1,1,1,1,6,5,5,1,1,6,5,5,5,5,7,1,1,1,7,1] ?_; intro w6 k6 x7 k7 h
      exact lb (m1, w6, x7) h
    ·refine au h [3,1,1] ?_; intro h
     refine Ev.weak ?_ (Wk.frz 10200 0 rfl rfl)
     refine au h [1,1] ?_; intro h
     refine cb h (rules_Expand_spec n _) fun r8 k8 h => ?_
     refine ax 109 h [1,5,5,5,1,8,1] ?_; intro h
     refine Ev.seqJ (γ := Bool) (fun v => ⟨[(3, lP r1.1), (7, lP r8.1), (68, .bool v)], [], 2⟩) (fun v => law6_RulesExpansionIsIdempotent_j2 n r1 r8 v = some r) ?_ ?_
     ·refine au h [1,8,8,5,1] ?_; intro h
      refine bs h (fun c18 h => ?_) fun c18 h => ?_
      ·refine aw h [3,3,3,3,3,2] ?_; intro h
       exact lf true h
      ·refine aw h [2,1,2,5,2,1,2,5,2,5,3] ?_; intro h
       exact lf (decide ((r8.1.length : Int) ≠ (r1.1.length : Int))) h
     ·intro x9 h
      try dsimp only at h ⊢
      unfold law6_RulesExpansionIsIdempotent_j2 at h
      refine bs h (fun c9 h => ?_) fun c9 h => ?_
      ·refine au h [2,1,1,1,1] ?_; intro h
       cases h
       exact ⟨_, rfl, .refl _⟩
      ·refine au h [3,1,1,1,1,1,1] ?_; intro h
       refine Ev.loopW (β := Nat × Int) (fun v => ⟨[(3, lP r1.1), (7, lP r8.1), (9, iP v.2)], [], 2⟩) (fun v => law6_RulesExpansionIsIdempotent_l2 n r1 r8 v.1 v.2 = some r) (fun v => v.1) (n, 0) (.nA) h ?_
       intro ⟨m2, x10⟩ h
       try dsimp only at h ⊢
       cases m2 with
       | zero => rw [law6_RulesExpansionIsIdempotent_l2] at h; cases h
       | succ m2 =>
        rw [law6_RulesExpansionIsIdempotent_l2] at h
        refine au h [1,1,1,1,1,5,5] ?_; intro h
        refine bs h (fun c10 h => ?_) fun c10 h => ?_
        ·refine au h [2,1,1,1] ?_; intro h
         refine Ev.seqJ (γ := Bool) (fun v => ⟨[(3, lP r1.1), (7, lP r8.1), (9, iP x10), (108, .bool v)], [], 2⟩) (fun v => law6_RulesExpansionIsIdempotent_j3 n x10 (law6_RulesExpansionIsIdempotent_l2 n r1 r8 m2) v = some r) ?_ ?_
         ·refine au h [1,1,1,5,5,5,1,5,1] ?_; intro e13 k13 h
          refine bs h (fun c14 h => ?_) fun c14 h => ?_
          ·refine aw h [3,3,3,3,3,3,3,3,3,3,3,2,1,3,3,3,3,3,3,3,3,3,3,3,3,2] ?_; intro h
           exact lf true h
          ·refine aw h [2,1,2,1,2,6,2,5,2,5,2,1,2,1,2,5,2,5,2,5,2,5,3,1] ?_; intro e14 k15 h
           refine bs h (fun c16 h => ?_) fun c16 h => ?_
           ·refine aw h [3,3,3,3,3,3,3,3,3,3,3,3,2] ?_; intro h
            exact lf true h
           ·refine aw h [2,1,2,1,2,6,2,5,2,5,2,1,2,1,2,6,2,5,2,5,2] ?_; intro h
            refine cb h (ref5_Ints_spec n _ _) fun r15 k17 h => ?_
            refine aw h [2,5,3] ?_; intro h
            exact lf (!r15) h
         ·intro x11 h
          try dsimp only at h ⊢
          unfold law6_RulesExpansionIsIdempotent_j3 at h
          refine bs h (fun c11 h => ?_) fun c11 h => ?_
          ·refine au h [2,1,1,1,1] ?_; intro h
           cases h
           exact ⟨_, rfl, .refl _⟩
          ·refine au h [3,1,1,1,7,1] ?_; intro x12 k12 h
           exact lb (m2, x12) h
        ·refine au h [3,1,1,1,1,1] ?_; intro h
         cases h
         exact ⟨_, rfl, .refl _⟩
end Go.Proofs.YtfdfhpembpjglaaDoor
