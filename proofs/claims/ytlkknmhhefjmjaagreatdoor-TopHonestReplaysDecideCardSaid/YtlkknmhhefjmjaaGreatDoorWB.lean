/- The functions compute what the texts of D say. Laid by a program (wip/gen/dec.py). -/
import Derived.Test.YtlkknmhhefjmjaaGreatDoorPwAuto
import Derived.Test.YtlkknmhhefjmjaaGreatDoorD
import Derived.Test.YtlkknmhhefjmjaaGreatDoorWA
set_option linter.unusedVariables false
set_option linter.unusedSimpArgs false
namespace Go.Proofs.YtlkknmhhefjmjaaGreatDoor
open Go.PW Go
set_option maxHeartbeats 4000000 in
theorem release_sources_spec (n : Nat) (a0 : List SInputsOpsOutput) (r : (List (List UInt8))) (h : release_sources n a0 = some r) : PSpec Tryz.prog 56 [lP a0] (lP r) := by
 unfold release_sources at h
 refine spec_of Tryz.c_release_sources (by simp) ?_
 unfold Tryz.l_release_sources
 refine au h [1,1,1,1,1,1,1,1,1,1,1,5,1,1] ?_; intro h
 refine Ev.loopW (β := Nat × (List (List UInt8)) × (List (List UInt8)) × Int) (fun v => ⟨[(3, .own 10100 0), (4, .own 10101 0), (9, lP a0), (10, iP (a0.length : Int)), (11, iP v.2.2.2)], [(10100, eP 9 1 (mP v.2.1)), (10101, eP 9 1 (mP v.2.2.1))], 2⟩) (fun v => release_sources_l1 n a0 v.1 v.2.1 v.2.2.1 v.2.2.2 = some r) (fun v => v.1) (n, ([] : List (List UInt8)), ([] : List (List UInt8)), 0) ((Wk.ownNil 3 30100 9 1 rfl rfl true).trans ((Wk.ownNil 4 30101 9 1 rfl rfl true).trans (.nA))) h ?_
 intro ⟨m1, w1, w2, x3⟩ h
 try dsimp only at h ⊢
 cases m1 with
 | zero => rw [release_sources_l1] at h; cases h
 | succ m1 =>
  rw [release_sources_l1] at h
  refine au h [1,1,5,1] ?_; intro h
  refine bs h (fun c1 h => ?_) fun c1 h => ?_
  ·refine au h [2,1,1,1,1,1,5,5,5,8,1,1,1,8,8,5,1,1] ?_; intro e4 k2 h
   refine Ev.loopW (β := Nat × (List (List UInt8)) × Int) (fun v => ⟨[(3, .own 10200 0), (4, .own 10201 0), (6, wP 10202), (9, lP a0), (10, iP (a0.length : Int)), (11, iP x3), (16, lP e4.Inputs), (17, iP (e4.Inputs.length : Int)), (18, iP v.2.2)], [(10200, eP 9 1 (mP v.2.1)), (10201, eP 9 1 (mP w2)), (10202, eP 53 3 [[lP e4.Inputs, lP e4.Ops, .str e4.Output]])], 2⟩) (fun v => release_sources_l2 n w2 x3 (release_sources_l1 n a0 m1) e4 v.1 v.2.1 v.2.2 = some r) (fun v => v.1) (n, w1, 0) (.nA) h ?_
   intro ⟨m2, w5, x6⟩ h
   try dsimp only at h ⊢
   cases m2 with
   | zero => rw [release_sources_l2] at h; cases h
   | succ m2 =>
    rw [release_sources_l2] at h
    refine au h [1,1,5,1] ?_; intro h
    refine bs h (fun c3 h => ?_) fun c3 h => ?_
    ·refine au h [2,1] ?_; intro h
     refine Ev.seqJ (γ := List (List UInt8)) (fun v => ⟨[(3, .own 10300 0), (4, .own 10301 0), (6, wP 10302), (9, lP a0), (10, iP (a0.length : Int)), (11, iP x3), (16, lP e4.Inputs), (17, iP (e4.Inputs.length : Int)), (18, iP x6)], [(10300, eP 9 1 (mP v)), (10301, eP 9 1 (mP w2)), (10302, eP 53 3 [[lP e4.Inputs, lP e4.Ops, .str e4.Output]])], 2⟩) (fun v => release_sources_j1 n x6 (release_sources_l2 n w2 x3 (release_sources_l1 n a0 m1) e4 m2) v = some r) ?_ ?_
     ·refine au h [1,1,1,5,5,1,1,1,1,1] ?_; intro e9 k5 h
      refine cb h (slices_Contains_string_spec n _ _) fun r10 k6 h => ?_
      refine aw h [5] ?_; intro h
      refine bs h (fun c7 h => ?_) fun c7 h => ?_
      ·refine au h [2,1,1,1,5,7,1] ?_; intro w11 k8 h
       exact lf w11 h
      ·refine au h [3,1] ?_; intro h
       exact lf w5 h
     ·intro w7 h
      try dsimp only at h ⊢
      unfold release_sources_j1 at h
      refine au h [1,7,1] ?_; intro x8 k4 h
      exact lb (m2, w7, x8) h
    ·refine au h [3,1,1,1,8,8,5,7,1,1,7,1] ?_; intro w12 k9 x13 k10 h
     exact lb (m1, w5, w12, x13) h
  ·refine au h [3,1,1,1,1] ?_; intro h
   refine W.rowCall (k_SortS w1) rfl rfl (by simp [sortedS]) rfl ?_
   refine ax 41 h [1] ?_; intro h
   refine Ev.regS rfl ?_
   refine Sq.w 1 nb ?_
   refine aw h [1] ?_; intro h
   refine Sq.call rfl Tryz.c_slices_Compact_string ⟨_, rfl, nb, ?_⟩
   unfold Tryz.l_slices_Compact_string
   refine Ev.retJ (γ := List (List UInt8)) (fun v => ⟨[(2, lP v)], [], 2⟩) (fun v => release_sources_j2 n v = some r) ?_ ?_
   ·refine au h [1,1,1,1,1,1,1,7,5] ?_; intro h
    refine bs h (fun c11 h => ?_) fun c11 h => ?_
    ·refine au h [2,1,1,1,1] ?_; intro h
     refine Ev.weak ?_ (Wk.frz 10100 0 rfl rfl)
     refine Ev.ret ?_
     exact lf (sortedS w1) h
    ·refine au h [3,1,1,1,1,1,1] ?_; intro h
     refine Ev.loopW (β := Nat × Int) (fun v => ⟨[(0, .own 10300 0), (3, iP v.2)], [(10300, eP 9 1 (mP (sortedS w1)))], 2⟩) (fun v => release_sources_l3 n w1 v.1 v.2 = some r) (fun v => v.1) (n, 1) (.nA) h ?_
     intro ⟨m3, x15⟩ h
     try dsimp only at h ⊢
     cases m3 with
     | zero => rw [release_sources_l3] at h; cases h
     | succ m3 =>
      rw [release_sources_l3] at h
      refine au h [1,1,1,1,1,7,5] ?_; intro h
      refine bs h (fun c12 h => ?_) fun c12 h => ?_
      ·refine au h [2,1,1,1,1,1,1,1,7,7,1,1,7,7,7,6] ?_; intro e16 k13 x17 k14 e18 k15 h
       refine bs h (fun c16 h => ?_) fun c16 h => ?_
       ·refine au h [2,1,1,1,1,9,1,1,1,1,1,1] ?_; intro s19 k17 h
        refine Ev.loopW (β := Nat × (List (List UInt8)) × Int × Int) (fun v => ⟨[(0, .own 10400 0), (3, iP v.2.2.1), (4, .sub 10400 0 x15.toNat ((sortedS w1).length : Int).toNat), (5, iP v.2.2.2)], [(10400, eP 9 1 (mP v.2.1))], 2⟩) (fun v => release_sources_l4 n w1 x15 v.1 v.2.1 v.2.2.1 v.2.2.2 = some r) (fun v => v.1) (n, (sortedS w1), x15, 1) (.nA) h ?_
        intro ⟨m4, w20, x21, x22⟩ h
        try dsimp only at h ⊢
        cases m4 with
        | zero => rw [release_sources_l4] at h; cases h
        | succ m4 =>
         rw [release_sources_l4] at h
         refine au h [1,1] ?_; intro h
         obtain ⟨s23, k18, h⟩ := obind h
         refine au h [1,1,1] ?_; intro h
         refine W.lenS (t := s23) (c := cS) rfl rfl ((map_cut _ _ _ _).trans (congrArg _ (gcut_some k18).2.2.2.2)) ?_
         refine aw h [5] ?_; intro h
         refine bs h (fun c19 h => ?_) fun c19 h => ?_
         ·refine au h [2,1] ?_; intro h
          refine Ev.seqJ (γ := (List (List UInt8)) × Int) (fun v => ⟨[(0, .own 10500 0), (3, iP v.2), (4, .sub 10500 0 x15.toNat ((sortedS w1).length : Int).toNat), (5, iP x22)], [(10500, eP 9 1 (mP v.1))], 2⟩) (fun v => release_sources_j3 n x22 (release_sources_l4 n w1 x15 m4) v.1 v.2 = some r) ?_ ?_
          ·refine au h [1,1,1,1,1] ?_; intro h
           obtain ⟨e27, k21, h⟩ := obind h
           refine W.idxSR rfl rfl rfl rfl k18 k21 ?_
           obtain ⟨e28, k22, h⟩ := obind h
           refine W.loadR (l := w20) (c := cS) (v := e28) (p := .str e28) rfl rfl rfl (gidx_some k22).2 rfl ?_
           refine aw h [1,1,7] ?_; intro x29 k23 h
           obtain ⟨e30, k24, h⟩ := obind h
           refine W.idxSR rfl rfl rfl rfl k18 k24 ?_
           obtain ⟨e31, k25, h⟩ := obind h
           refine W.loadR (l := w20) (c := cS) (v := e31) (p := .str e31) rfl rfl rfl (gidx_some k25).2 rfl ?_
           refine aw h [6] ?_; intro h
           refine bs h (fun c26 h => ?_) fun c26 h => ?_
           ·refine au h [2,1,1,1,1,1,1] ?_; intro h
            refine W.idxSR rfl rfl rfl rfl k18 k21 ?_
            refine ax 61 h [7,7,7,1,1,7,1] ?_; intro e32 k27 x33 k28 h
            exact lf ((gset w20 x21 e28), x33) h
           ·refine au h [3,1] ?_; intro h
            exact lf (w20, x21) h
          ·intro ⟨w24, x25⟩ h
           try dsimp only at h ⊢
           unfold release_sources_j3 at h
           refine au h [1,1,7,1] ?_; intro x26 k20 h
           exact lb (m4, w24, x25, x26) h
         ·refine au h [3,1,1,1,1,1,9] ?_; intro s34 k29 h
          refine W.clearS (l := w20) (c := cS) ([] : List UInt8) rfl rfl rfl rfl k29 rfl rfl ?_
          refine ax 61 h [1,1,1,1,10,1] ?_; intro s35 k30 h
          refine Ev.weak ?_ (Wk.frz 10400 0 rfl rfl)
          refine Ev.weak ?_ (Wk.le (t := 2) rfl (Le.cut k30))
          refine Ev.weak ?_ (Wk.le (t := 59) rfl (Le.cut k30))
          refine Ev.ret ?_
          exact lf s35 h
       ·refine au h [3,1,1,1,7,1] ?_; intro x36 k31 h
        exact lb (m3, x36) h
      ·refine au h [3,1,1,1,1,1] ?_; intro h
       refine Ev.weak ?_ (Wk.frz 10300 0 rfl rfl)
       refine Ev.ret ?_
       exact lf (sortedS w1) h
   ·intro x14 h
    try dsimp only at h ⊢
    unfold release_sources_j2 at h
    refine ⟨_, rfl, ?_⟩
    refine Sq.wEnd nb ?_
    refine ax 41 h [1,1] ?_; intro h
    cases h
    exact ⟨_, rfl, .refl _⟩
theorem sandbox_Arguments_spec (n : Nat) (a0 : SInputsOpsOutput) (a1 : SFiles) (r : SCodeIndex) (h : sandbox_Arguments n a0 a1 = some r) : PSpec Tryz.prog 63 [.agg (SInputsOpsOutput.cells a0), .agg (SFiles.cells a1)] (.agg (SCodeIndex.cells r)) := by
 unfold sandbox_Arguments at h
 refine spec_of Tryz.c_sandbox_Arguments (by simp) ?_
 unfold Tryz.l_sandbox_Arguments
 refine au h [1,1,5,5,5,1,1,1,8] ?_; intro h
 refine cb h (sandbox_Validate_spec n _) fun r1 k1 h => ?_
 refine ax 14 h [5,8,1,1,8,5,5] ?_; intro h
 refine bs h (fun c2 h => ?_) fun c2 h => ?_
 ·refine au h [2,1,1,8,8,1] ?_; intro h
  cases h
  exact ⟨_, rfl, .refl _⟩
 ·refine au h [3,1,1,1,8] ?_; intro h
  refine cb h (treepatch_Second_spec n _ _) fun r2 k3 h => ?_
  refine ax 14 h [8,1] ?_; intro h
  cases h
  exact ⟨_, rfl, .refl _⟩
theorem sandbox_unique_spec (n : Nat) (a0 : List (List UInt8)) (r : (List (List UInt8))) (h : sandbox_unique n a0 = some r) : PMut Tryz.prog 128 [lP a0] [] (.own 70000 0) [(70000, ⟨0, 9, 1, List.map cS r, true, false, false⟩)] := by
 unfold sandbox_unique at h
 refine specMut_of Tryz.c_sandbox_unique (by simp) (by simp) ?_
 unfold Tryz.l_sandbox_unique
 refine au h [1,1,1,1,1,1,1,1,1,1,5,1,1] ?_; intro h
 refine Ev.loopW (β := Nat × (List (List UInt8)) × Int) (fun v => ⟨[(3, .own 10100 0), (6, lP a0), (7, iP (a0.length : Int)), (8, iP v.2.2)], [(10100, eP 9 1 (mP v.2.1))], 2⟩) (fun v => sandbox_unique_l1 n a0 v.1 v.2.1 v.2.2 = some r) (fun v => v.1) (n, ([] : List (List UInt8)), 0) ((Wk.ownNil 3 30100 9 1 rfl rfl true).trans (.nA)) h ?_
 intro ⟨m1, w1, x2⟩ h
 try dsimp only at h ⊢
 cases m1 with
 | zero => rw [sandbox_unique_l1] at h; cases h
 | succ m1 =>
  rw [sandbox_unique_l1] at h
  refine au h [1,1,5,1] ?_; intro h
  refine bs h (fun c1 h => ?_) fun c1 h => ?_
  ·refine au h [2,1] ?_; intro h
   refine Ev.seqJ (γ := List (List UInt8)) (fun v => ⟨[(3, .own 10200 0), (6, lP a0), (7, iP (a0.length : Int)), (8, iP x2)], [(10200, eP 9 1 (mP v))], 2⟩) (fun v => sandbox_unique_j1 n x2 (sandbox_unique_l1 n a0 m1) v = some r) ?_ ?_
   ·refine au h [1,1,1,5,5,1,1,1,1,1] ?_; intro e5 k3 h
    refine cb h (slices_Contains_string_spec n _ _) fun r6 k4 h => ?_
    refine aw h [5] ?_; intro h
    refine bs h (fun c5 h => ?_) fun c5 h => ?_
    ·refine au h [2,1,1,1,5,7,1] ?_; intro w7 k6 h
     exact lf w7 h
    ·refine au h [3,1] ?_; intro h
     exact lf w1 h
   ·intro w3 h
    try dsimp only at h ⊢
    unfold sandbox_unique_j1 at h
    refine au h [1,7,1] ?_; intro x4 k2 h
    exact lb (m1, w3, x4) h
  ·refine au h [3,1,1,1,1,1] ?_; intro h
   refine Ev.ret ?_
   injection h with h; subst h
   exact ⟨_, _, Wk.nrmTo [2] [(10100, 70000)] rfl rfl, rfl, rfl, rfl, .refl _, fun nm h => by simp [PW.look] at h⟩
set_option maxHeartbeats 4000000 in
theorem sandbox_Run_spec (n : Nat) (a0 : SInputsOpsOutput) (a1 : SFiles) (r : ((List (List UInt8)) × SCodeIndex)) (h : sandbox_Run n a0 a1 = some r) : PMut Tryz.prog 25 [.agg (SInputsOpsOutput.cells a0), .agg (SFiles.cells a1)] [] (.tup [.own 70000 0, .agg (SCodeIndex.cells r.2)]) [(70000, ⟨0, 9, 1, List.map cS r.1, true, false, false⟩)] := by
 unfold sandbox_Run at h
 refine specMut_of Tryz.c_sandbox_Run (by simp) (by simp) ?_
 unfold Tryz.l_sandbox_Run
 refine au h [1,1,5,5,1,5,1,1,1,8,8] ?_; intro h
 refine cb h (sandbox_Arguments_spec n _ _) fun r1 k1 h => ?_
 refine ax 45 h [5,8,1,1,8,5,5] ?_; intro h
 refine bs h (fun c2 h => ?_) fun c2 h => ?_
 ·refine au h [2,1,1,8,1,8] ?_; intro h
  refine Ev.weak ?_ (Wk.ownNil 4 69999 9 1 rfl rfl)
  refine Ev.weak ?_ (Wk.frz 5 2 rfl rfl)
  refine Ev.ret ?_
  injection h with h; subst h
  exact ⟨_, [.own 70000 0, .agg [iP r1.Code, iP r1.Index]], Wk.nrmTo [4, 5] [(69999, 70000)] rfl rfl, rfl, rfl, rfl, .refl _, fun nm h => by simp [PW.look] at h⟩
 ·refine au h [3,1,1,1,1,1,1,1,8,8,5,1,1] ?_; intro h
  refine Ev.loopW (β := Nat × (List (List UInt8)) × Int) (fun v => ⟨[(2, wP 10100), (3, wP 10101), (5, wP 10102), (7, .own 10103 0), (20, lP a0.Ops), (21, iP (a0.Ops.length : Int)), (22, iP v.2.2)], [(10100, eP 53 3 [[lP a0.Inputs, lP a0.Ops, .str a0.Output]]), (10101, eP 25 1 [[lP a1.Files]]), (10102, eP 31 2 [[iP 0, iP 0]]), (10103, eP 9 1 (mP v.2.1))], 2⟩) (fun v => sandbox_Run_l1 n a0 a1 v.1 v.2.1 v.2.2 = some r) (fun v => v.1) (n, ([] : List (List UInt8)), 0) ((Wk.ownNil 7 30103 9 1 rfl rfl true).trans (.nA)) h ?_
  intro ⟨m1, w2, x3⟩ h
  try dsimp only at h ⊢
  cases m1 with
  | zero => rw [sandbox_Run_l1] at h; cases h
  | succ m1 =>
   rw [sandbox_Run_l1] at h
   refine au h [1,1,5,1] ?_; intro h
   refine bs h (fun c3 h => ?_) fun c3 h => ?_
   ·refine au h [2,1,1,1,1,1,1,5,5,5,1,8,1] ?_; intro e4 k4 h
    refine Ev.regS rfl ?_
    refine Sq.w 4 nb ?_
    refine aw h [8,8,8,1] ?_; intro h
    refine Sq.weak (st' := ⟨[(2, wP 10100), (3, wP 10101), (5, wP 10102), (8, iP x3), (20, lP a0.Ops), (21, iP (a0.Ops.length : Int)), (22, iP x3), (28, .agg [lP a0.Inputs, lP a0.Ops, .str a0.Output]), (29, .agg [iP e4.Kind, .str e4.Text]), (30, .agg [lP a1.Files]), (31, .own 10103 0)], [(10100, eP 53 3 [[lP a0.Inputs, lP a0.Ops, .str a0.Output]]), (10101, eP 25 1 [[lP a1.Files]]), (10102, eP 31 2 [[iP 0, iP 0]]), (10103, eP 9 1 (mP w2))], 2⟩) ?_ (.nA)
    refine Sq.call rfl Tryz.c_sandbox_step ⟨_, rfl, nb, ?_⟩
    unfold Tryz.l_sandbox_step
    refine Ev.retJ (γ := (List (List UInt8)) × Int) (fun v => ⟨[(8, .own 10200 0), (9, iP v.2), (65538, wP 10201), (65539, wP 10202), (65541, wP 10203), (65544, iP x3), (65556, lP a0.Ops), (65557, iP (a0.Ops.length : Int)), (65558, iP x3)], [(10200, eP 9 1 (mP v.1)), (10201, eP 53 3 [[lP a0.Inputs, lP a0.Ops, .str a0.Output]]), (10202, eP 25 1 [[lP a1.Files]]), (10203, eP 31 2 [[iP 0, iP 0]])], 2⟩) (fun v => sandbox_Run_j1 n x3 (sandbox_Run_l1 n a0 a1 m1) v.1 v.2 = some r) ?_ ?_
    ·refine au h [1,1,5,5,5,5,1,1,1,1,8,8,8,8] ?_; intro h
     refine cb h (treepatch_Find_spec n _ _) fun r9 k8 h => ?_
     refine ax 83 h [1,5,5,1,1,1,1] ?_; intro h
     refine W.mkfn rfl ?_
     refine ax 83 h [1,1] ?_; intro h
     refine Ev.seqJ (γ := Bool) (fun v => ⟨[(5, wP 10300), (6, wP 10301), (7, wP 10302), (10, iP r9.1), (11, .bool r9.2), (12, .fn 126 [] [wP 10302]), (37, .bool v), (65538, wP 10304), (65539, wP 10305), (65541, wP 10306), (65544, iP x3), (65556, lP a0.Ops), (65557, iP (a0.Ops.length : Int)), (65558, iP x3)], [(10300, eP 109 2 [[iP e4.Kind, .str e4.Text]]), (10301, eP 25 1 [[lP a1.Files]]), (10302, ⟨0, 34, 1, [[.own 10303 0]], false, false, false⟩), (10303, eP 9 1 (mP w2)), (10304, eP 53 3 [[lP a0.Inputs, lP a0.Ops, .str a0.Output]]), (10305, eP 25 1 [[lP a1.Files]]), (10306, eP 31 2 [[iP 0, iP 0]])], 2⟩) (fun v => sandbox_Run_j2 n a1 w2 x3 (sandbox_Run_l1 n a0 a1 m1) e4 r9 v = some r) ?_ ?_
     ·refine au h [1,8,8,5,1] ?_; intro h
      refine bs h (fun c37 h => ?_) fun c37 h => ?_
      ·refine aw h [3,3,3,2,1,2,8,2,8,2,8,2,8,2] ?_; intro h
       refine cb h (slices_Contains_string_spec n _ _) fun r39 k38 h => ?_
       refine aw h [2,5,2] ?_; intro h
       exact lf (!r39) h
      ·refine aw h [2,8,2,8,2,5,3,1] ?_; intro h
       refine bs h (fun c39 h => ?_) fun c39 h => ?_
       ·refine aw h [2,8,2,8,2,8,2,8,2] ?_; intro h
        refine cb h (slices_Contains_string_spec n _ _) fun r40 k40 h => ?_
        refine aw h [2,5,2] ?_; intro h
        exact lf (!r40) h
       ·refine aw h [3,3,3,3,3,3,3] ?_; intro h
        exact lf false h
     ·intro x10 h
      try dsimp only at h ⊢
      unfold sandbox_Run_j2 at h
      refine bs h (fun c9 h => ?_) fun c9 h => ?_
      ·refine au h [2,1,1,1,1,1] ?_; intro h
       exact ⟨(([] : List (List UInt8)), 13), h, (Wk.ownNil 8 30200 9 1 rfl rfl true).trans (.nA)⟩
      ·refine au h [3,1,1,1,1,8,8,1,1,1,5,1] ?_; intro h
       refine bs h (fun c10 h => ?_) fun c10 h => ?_
       ·refine au h [2,1,1,1,1,5] ?_; intro h
        refine bs h (fun c11 h => ?_) fun c11 h => ?_
        ·refine au h [2,1,1,1,1,1] ?_; intro h
         exact ⟨(([] : List (List UInt8)), 6), h, (Wk.ownNil 8 30200 9 1 rfl rfl true).trans (.nA)⟩
        ·refine au h [3,1,1] ?_; intro h
         refine Ev.regS rfl ?_
         refine Sq.w 7 nb ?_
         refine aw h [1,8,8,1,5,5,5] ?_; intro e11 k12 h
         refine Sq.callv (f := 126) rfl Tryz.b_sandbox_step_1 Tryz.c_sandbox_step_1 ⟨_, _, _, rfl, nb, ?_⟩
         unfold Tryz.l_sandbox_step_1
         refine Ev.retJ (γ := (List (List UInt8)) × Int) (fun v => ⟨[(3, .own 10400 0), (4, iP v.2), (131074, wP 10401), (131075, wP 10402), (131077, wP 10403), (131080, iP x3), (131092, lP a0.Ops), (131093, iP (a0.Ops.length : Int)), (131094, iP x3)], [(10400, eP 9 1 (mP v.1)), (10401, eP 53 3 [[lP a0.Inputs, lP a0.Ops, .str a0.Output]]), (10402, eP 25 1 [[lP a1.Files]]), (10403, eP 31 2 [[iP 0, iP 0]])], 2⟩) (fun v => sandbox_Run_j3 n x3 (sandbox_Run_l1 n a0 a1 m1) v.1 v.2 = some r) ?_ ?_
         ·refine au h [1,1,1,1,1,1,1,8,7,1,5,7,5] ?_; intro x14 k13 h
          refine bs h (fun c14 h => ?_) fun c14 h => ?_
          ·refine au h [2,1,1,1,1,1] ?_; intro h
           exact ⟨(([] : List (List UInt8)), 10), h, (Wk.ownNil 3 30400 9 1 rfl rfl true).trans (.nA)⟩
          ·refine au h [3,1,1,1,8,1,7,1,1,1] ?_; intro w15 k15 h
           exact lf (w15, 0) h
         ·intro ⟨w12, x13⟩ h
          try dsimp only at h ⊢
          unfold sandbox_Run_j3 at h
          refine ⟨_, rfl, ?_⟩
          refine Sq.wEnd nb ?_
          refine ax 83 h [5,5,1,1,1] ?_; intro h
          exact lf (w12, x13) h
       ·refine au h [3,1,1,5,1] ?_; intro h
        refine bs h (fun c16 h => ?_) fun c16 h => ?_
        ·refine au h [2,1,1,1,1] ?_; intro h
         refine bs h (fun c17 h => ?_) fun c17 h => ?_
         ·refine au h [2,1] ?_; intro h
          refine Ev.regS rfl ?_
          refine Sq.w 2 nb ?_
          refine aw h [1,5] ?_; intro h
          refine Sq.weak (st' := ⟨[(57, .fn 126 [] [wP 10300]), (58, .own 10302 0), (65538, wP 10303), (65539, wP 10304), (65541, wP 10305), (65544, iP x3), (65556, lP a0.Ops), (65557, iP (a0.Ops.length : Int)), (65558, iP x3)], [(10300, ⟨0, 34, 1, [[.own 10301 0]], false, false, false⟩), (10301, eP 9 1 (mP w2)), (10302, eP 9 1 (mP ([([121, 101, 115] : List UInt8)] : List (List UInt8)))), (10303, eP 53 3 [[lP a0.Inputs, lP a0.Ops, .str a0.Output]]), (10304, eP 25 1 [[lP a1.Files]]), (10305, eP 31 2 [[iP 0, iP 0]])], 2⟩) ?_ (.nA)
          refine Sq.callv (f := 126) rfl Tryz.b_sandbox_step_1 Tryz.c_sandbox_step_1 ⟨_, _, _, rfl, nb, ?_⟩
          unfold Tryz.l_sandbox_step_1
          refine Ev.retJ (γ := (List (List UInt8)) × Int) (fun v => ⟨[(3, .own 10400 0), (4, iP v.2), (131074, wP 10401), (131075, wP 10402), (131077, wP 10403), (131080, iP x3), (131092, lP a0.Ops), (131093, iP (a0.Ops.length : Int)), (131094, iP x3)], [(10400, eP 9 1 (mP v.1)), (10401, eP 53 3 [[lP a0.Inputs, lP a0.Ops, .str a0.Output]]), (10402, eP 25 1 [[lP a1.Files]]), (10403, eP 31 2 [[iP 0, iP 0]])], 2⟩) (fun v => sandbox_Run_j4 n x3 (sandbox_Run_l1 n a0 a1 m1) v.1 v.2 = some r) ?_ ?_
          ·refine au h [1,1,1,1,1,1,1,8,7,1,7,7,5] ?_; intro x18 k18 h
           refine bs h (fun c19 h => ?_) fun c19 h => ?_
           ·refine au h [2,1,1,1,1,1] ?_; intro h
            exact ⟨(([] : List (List UInt8)), 10), h, (Wk.ownNil 3 30400 9 1 rfl rfl true).trans (.nA)⟩
           ·refine au h [3,1,1,1,8,1,7,1,1,1] ?_; intro w19 k20 h
            exact lf (w19, 0) h
          ·intro ⟨w16, x17⟩ h
           try dsimp only at h ⊢
           unfold sandbox_Run_j4 at h
           refine ⟨_, rfl, ?_⟩
           refine Sq.wEnd nb ?_
           refine ax 83 h [5,5,1,1,1] ?_; intro h
           exact lf (w16, x17) h
         ·refine au h [3,1,1] ?_; intro h
          refine Ev.regS rfl ?_
          refine Sq.w 2 nb ?_
          refine aw h [1,5] ?_; intro h
          refine Sq.weak (st' := ⟨[(62, .fn 126 [] [wP 10300]), (63, .own 10302 0), (65538, wP 10303), (65539, wP 10304), (65541, wP 10305), (65544, iP x3), (65556, lP a0.Ops), (65557, iP (a0.Ops.length : Int)), (65558, iP x3)], [(10300, ⟨0, 34, 1, [[.own 10301 0]], false, false, false⟩), (10301, eP 9 1 (mP w2)), (10302, eP 9 1 (mP ([([110, 111] : List UInt8)] : List (List UInt8)))), (10303, eP 53 3 [[lP a0.Inputs, lP a0.Ops, .str a0.Output]]), (10304, eP 25 1 [[lP a1.Files]]), (10305, eP 31 2 [[iP 0, iP 0]])], 2⟩) ?_ (.nA)
          refine Sq.callv (f := 126) rfl Tryz.b_sandbox_step_1 Tryz.c_sandbox_step_1 ⟨_, _, _, rfl, nb, ?_⟩
          unfold Tryz.l_sandbox_step_1
          refine Ev.retJ (γ := (List (List UInt8)) × Int) (fun v => ⟨[(3, .own 10400 0), (4, iP v.2), (131074, wP 10401), (131075, wP 10402), (131077, wP 10403), (131080, iP x3), (131092, lP a0.Ops), (131093, iP (a0.Ops.length : Int)), (131094, iP x3)], [(10400, eP 9 1 (mP v.1)), (10401, eP 53 3 [[lP a0.Inputs, lP a0.Ops, .str a0.Output]]), (10402, eP 25 1 [[lP a1.Files]]), (10403, eP 31 2 [[iP 0, iP 0]])], 2⟩) (fun v => sandbox_Run_j5 n x3 (sandbox_Run_l1 n a0 a1 m1) v.1 v.2 = some r) ?_ ?_
          ·refine au h [1,1,1,1,1,1,1,8,7,1,7,7,5] ?_; intro x22 k21 h
           refine bs h (fun c22 h => ?_) fun c22 h => ?_
           ·refine au h [2,1,1,1,1,1] ?_; intro h
            exact ⟨(([] : List (List UInt8)), 10), h, (Wk.ownNil 3 30400 9 1 rfl rfl true).trans (.nA)⟩
           ·refine au h [3,1,1,1,8,1,7,1,1,1] ?_; intro w23 k23 h
            exact lf (w23, 0) h
          ·intro ⟨w20, x21⟩ h
           try dsimp only at h ⊢
           unfold sandbox_Run_j5 at h
           refine ⟨_, rfl, ?_⟩
           refine Sq.wEnd nb ?_
           refine ax 83 h [5,5,1,1,1] ?_; intro h
           exact lf (w20, x21) h
        ·refine au h [3,1,1,5,1] ?_; intro h
         refine bs h (fun c24 h => ?_) fun c24 h => ?_
         ·refine au h [2,1] ?_; intro h
          refine Ev.regS rfl ?_
          refine Sq.w 4 nb ?_
          refine aw h [1,8,8,5] ?_; intro h
          refine Sq.weak (st' := ⟨[(69, .fn 126 [] [wP 10300]), (72, .own 10302 0), (65538, wP 10303), (65539, wP 10304), (65541, wP 10305), (65544, iP x3), (65556, lP a0.Ops), (65557, iP (a0.Ops.length : Int)), (65558, iP x3)], [(10300, ⟨0, 34, 1, [[.own 10301 0]], false, false, false⟩), (10301, eP 9 1 (mP w2)), (10302, eP 9 1 (mP ([e4.Text] : List (List UInt8)))), (10303, eP 53 3 [[lP a0.Inputs, lP a0.Ops, .str a0.Output]]), (10304, eP 25 1 [[lP a1.Files]]), (10305, eP 31 2 [[iP 0, iP 0]])], 2⟩) ?_ (.nA)
          refine Sq.callv (f := 126) rfl Tryz.b_sandbox_step_1 Tryz.c_sandbox_step_1 ⟨_, _, _, rfl, nb, ?_⟩
          unfold Tryz.l_sandbox_step_1
          refine Ev.retJ (γ := (List (List UInt8)) × Int) (fun v => ⟨[(3, .own 10400 0), (4, iP v.2), (131074, wP 10401), (131075, wP 10402), (131077, wP 10403), (131080, iP x3), (131092, lP a0.Ops), (131093, iP (a0.Ops.length : Int)), (131094, iP x3)], [(10400, eP 9 1 (mP v.1)), (10401, eP 53 3 [[lP a0.Inputs, lP a0.Ops, .str a0.Output]]), (10402, eP 25 1 [[lP a1.Files]]), (10403, eP 31 2 [[iP 0, iP 0]])], 2⟩) (fun v => sandbox_Run_j6 n x3 (sandbox_Run_l1 n a0 a1 m1) v.1 v.2 = some r) ?_ ?_
          ·refine au h [1,1,1,1,1,1,1,8,7,1,7,7,5] ?_; intro x26 k25 h
           refine bs h (fun c26 h => ?_) fun c26 h => ?_
           ·refine au h [2,1,1,1,1,1] ?_; intro h
            exact ⟨(([] : List (List UInt8)), 10), h, (Wk.ownNil 3 30400 9 1 rfl rfl true).trans (.nA)⟩
           ·refine au h [3,1,1,1,8,1,7,1,1,1] ?_; intro w27 k27 h
            exact lf (w27, 0) h
          ·intro ⟨w24, x25⟩ h
           try dsimp only at h ⊢
           unfold sandbox_Run_j6 at h
           refine ⟨_, rfl, ?_⟩
           refine Sq.wEnd nb ?_
           refine ax 83 h [5,5,1,1,1] ?_; intro h
           exact lf (w24, x25) h
         ·refine au h [3,1,1,5,1] ?_; intro h
          refine bs h (fun c28 h => ?_) fun c28 h => ?_
          ·refine au h [2,1] ?_; intro h
           refine Ev.regS rfl ?_
           refine Sq.w 1 nb ?_
           refine aw h [8] ?_; intro h
           refine Sq.call rfl Tryz.c_slices_Reverse_string ⟨_, rfl, nb, ?_⟩
           unfold Tryz.l_slices_Reverse_string
           refine Ev.retJ (γ := List (List UInt8)) (fun v => ⟨[(65543, wP 10400), (131074, wP 10402), (131075, wP 10403), (131077, wP 10404), (131080, iP x3), (131092, lP a0.Ops), (131093, iP (a0.Ops.length : Int)), (131094, iP x3)], [(10400, ⟨0, 34, 1, [[.own 10401 0]], false, false, false⟩), (10401, eP 9 1 (mP v)), (10402, eP 53 3 [[lP a0.Inputs, lP a0.Ops, .str a0.Output]]), (10403, eP 25 1 [[lP a1.Files]]), (10404, eP 31 2 [[iP 0, iP 0]])], 2⟩) (fun v => sandbox_Run_j7 n x3 (sandbox_Run_l1 n a0 a1 m1) v = some r) ?_ ?_
           ·refine au h [1,1,1,7,7,1,1,1] ?_; intro x29 k29 h
            refine Ev.loopW (β := Nat × (List (List UInt8)) × Int × Int) (fun v => ⟨[(0, .own 10500 0), (2, iP v.2.2.1), (3, iP v.2.2.2), (65543, wP 10501), (131074, wP 10502), (131075, wP 10503), (131077, wP 10504), (131080, iP x3), (131092, lP a0.Ops), (131093, iP (a0.Ops.length : Int)), (131094, iP x3)], [(10500, eP 9 1 (mP v.2.1)), (10501, ⟨0, 34, 1, [[.own 10500 0]], false, false, false⟩), (10502, eP 53 3 [[lP a0.Inputs, lP a0.Ops, .str a0.Output]]), (10503, eP 25 1 [[lP a1.Files]]), (10504, eP 31 2 [[iP 0, iP 0]])], 2⟩) (fun v => sandbox_Run_l2 n x3 (sandbox_Run_l1 n a0 a1 m1) v.1 v.2.1 v.2.2.1 v.2.2.2 = some r) (fun v => v.1) (n, w2, 0, x29) (.nA) h ?_
            intro ⟨m2, w30, x31, x32⟩ h
            try dsimp only at h ⊢
            cases m2 with
            | zero => rw [sandbox_Run_l2] at h; cases h
            | succ m2 =>
             rw [sandbox_Run_l2] at h
             refine au h [1,1,1,1,1,5] ?_; intro h
             refine bs h (fun c30 h => ?_) fun c30 h => ?_
             ·refine au h [2,1,1,1,1,1,1,1,1,1,1,7,7,1,1,7,7,8,7,7,7,1,1,7,1,7,1,1] ?_; intro e33 k31 e34 k32 e35 k33 x36 k34 x37 k35 h
              exact lb (m2, (gset (gset w30 x31 e33) x32 e34), x36, x37) h
             ·refine au h [3,1] ?_; intro h
              exact lf w30 h
           ·intro w28 h
            try dsimp only at h ⊢
            unfold sandbox_Run_j7 at h
            refine ⟨_, rfl, ?_⟩
            refine Sq.wEnd nb ?_
            refine ax 83 h [1,1,8,1,1,1] ?_; intro h
            exact lf (w28, 0) h
          ·refine au h [3,1,1] ?_; intro h
           refine Ev.weak ?_ (Wk.frz 10303 0 rfl rfl)
           refine au h [1,8] ?_; intro h
           obtain ⟨r38, k36, h⟩ := obind h
           refine W.callO (sandbox_unique_spec n w2 r38 k36) rfl (Les.refl _) rfl rfl rfl ?_
           refine ax 83 h [1,1,1] ?_; intro h
           exact lf (r38, 0) h
    ·intro ⟨w5, x6⟩ h
     try dsimp only at h ⊢
     unfold sandbox_Run_j1 at h
     refine ⟨_, rfl, ?_⟩
     refine Sq.wEnd nb ?_
     refine ax 45 h [1,5,5,1,1,1,1,1,1,5] ?_; intro h
     refine bs h (fun c5 h => ?_) fun c5 h => ?_
     ·refine au h [2,1,1,1,1,7,5,1,8] ?_; intro x7 k6 h
      refine Ev.weak ?_ (Wk.ownNil 4 69999 9 1 rfl rfl)
      refine Ev.weak ?_ (Wk.frz 10203 0 rfl rfl)
      refine Ev.ret ?_
      injection h with h; subst h
      exact ⟨_, [.own 70000 0, .agg [iP x6, iP x7]], Wk.nrmTo [4, 5] [(69999, 70000)] rfl rfl, rfl, rfl, rfl, .refl _, fun nm h => by simp [PW.look] at h⟩
     ·refine au h [3,1,1,1,1,1,7,1] ?_; intro x8 k7 h
      exact lb (m1, w5, x8) h
   ·refine au h [3,1,1,1,1,5,1,8] ?_; intro h
    refine Ev.weak ?_ (Wk.frz 10102 0 rfl rfl)
    refine Ev.ret ?_
    injection h with h; subst h
    exact ⟨_, [.own 70000 0, .agg [iP 0, iP 0]], Wk.nrmTo [4, 5] [(10103, 70000)] rfl rfl, rfl, rfl, rfl, .refl _, fun nm h => by simp [PW.look] at h⟩
set_option maxHeartbeats 4000000 in
theorem slices_Clone_string_spec (n : Nat) (a0 : List (List UInt8)) (r : List (List UInt8)) (h : slices_Clone_string n a0 = some r) : PSpec Tryz.prog 71 [.list 1 (List.map cS a0)] (.list 1 (List.map cS r)) := by
 unfold slices_Clone_string at h
 refine spec_of Tryz.c_slices_Clone_string (by simp) ?_
 unfold Tryz.l_slices_Clone_string
 cases a0 with
 | nil =>
  refine Ev.nilSplit 0 1 rfl (by decide) ?_ ?_
  ·refine Ev.seq ?_
   refine W.reg hm ?_
   refine W.mv rfl (W.nil ?_)
   refine Ev.seq (Ev.seq ?_)
   refine W.reg hm ?_
   refine W.mv rfl (W.isnilN rfl ?_)
   refine W.nil ?_
   refine Ev.condT rfl rfl ?_
   refine Ev.seq ?_
   refine W.reg hm ?_
   refine W.mv rfl (W.nil ?_)
   obtain ⟨w9, k9, h⟩ := obind h
   injection h with h; subst h
   have e9 := (gapp_some k9).2
   simp only [List.nil_append] at e9
   subst e9
   refine Ev.ret ?_
   exact ⟨_, rfl, .nils 1⟩
  ·refine Ev.seq ?_
   refine W.reg hm ?_
   refine W.mv rfl (W.nil ?_)
   refine Ev.seq (Ev.seq ?_)
   refine W.reg hm ?_
   refine W.mv rfl (W.isnilZ rfl ?_)
   refine W.nil ?_
   refine Ev.condF rfl rfl ?_
   refine Ev.skip ?_
   refine Ev.seq ?_
   refine Ev.weak ?_ (Wk.le (t := 0) rfl (.nz 1))
   refine W.reg hm ?_
   refine W.mkSlice (dt := true) (es := []) rfl rfl rfl rfl rfl rfl ?_
   refine W.mv rfl ?_
   obtain ⟨w1, k1, h⟩ := obind h
   refine W.appR true (l := ([] : List (List UInt8))) (c := cS) (ys := ([] : List (List UInt8))) rfl rfl rfl rfl rfl rfl rfl rfl k1 rfl (by simp) ?_
   refine W.mv rfl (W.nil ?_)
   refine Ev.ret ?_
   cases h
   exact ⟨_, rfl, .refl _⟩
 | cons x9 xs9 =>
  refine Ev.seq ?_
  refine W.reg hm ?_
  refine W.mv rfl (W.nil ?_)
  refine Ev.seq (Ev.seq ?_)
  refine W.reg hm ?_
  refine W.mv rfl (W.isnilC rfl ?_)
  refine W.nil ?_
  refine Ev.condF rfl rfl ?_
  refine Ev.skip ?_
  refine Ev.seq ?_
  refine W.reg hm ?_
  refine W.mkSlice (dt := true) (es := []) rfl rfl rfl rfl rfl rfl ?_
  refine W.mv rfl ?_
  obtain ⟨w1, k1, h⟩ := obind h
  refine W.appR true (l := ([] : List (List UInt8))) (c := cS) (ys := (x9 :: xs9)) rfl rfl rfl rfl rfl rfl rfl rfl k1 rfl (by simp) ?_
  refine W.mv rfl (W.nil ?_)
  refine Ev.ret ?_
  cases h
  exact ⟨_, rfl, .refl _⟩
set_option maxHeartbeats 4000000 in
theorem release_execute_spec (n : Nat) (a0 : List SInputsOpsOutput) (a1 : SFiles) (r : (SFiles × SCodeIndex)) (h : release_execute n a0 a1 = some r) : PSpec Tryz.prog 57 [lP a0, .agg (SFiles.cells a1)] (.tup [.agg (SFiles.cells r.1), .agg (SCodeIndex.cells r.2)]) := by
 unfold release_execute at h
 refine spec_of Tryz.c_release_execute (by simp) ?_
 unfold Tryz.l_release_execute
 refine au h [1,1,5,5,5,1] ?_; intro h
 refine Ev.regS rfl ?_
 refine Sq.w 1 nb ?_
 refine aw h [8] ?_; intro h
 refine Sq.weak (st' := ⟨[(0, lP a0), (4, wP 10000), (5, wP 10001), (12, .agg [lP a1.Files])], [(10000, eP 25 1 [[.nils]]), (10001, eP 31 2 [[iP 0, iP 0]])], 2⟩) ?_ (.nA)
 refine Sq.call rfl Tryz.c_treepatch_CopyTree ⟨_, rfl, nb, ?_⟩
 unfold Tryz.l_treepatch_CopyTree
 refine Ev.retJ (γ := List SPathLines) (fun v => ⟨[(2, wP 10100), (65536, lP a0), (65540, wP 10102), (65541, wP 10103)], [(10100, ⟨0, 25, 1, [[.own 10101 0]], false, false, false⟩), (10101, eP 37 2 (mP v)), (10102, eP 25 1 [[.nils]]), (10103, eP 31 2 [[iP 0, iP 0]])], 2⟩) (fun v => release_execute_j1 n a0 v = some r) ?_ ?_
 ·refine au h [1,1,5,5,1,1,5,1,1,1,8,8,5,1,1] ?_; intro h
  refine Ev.loopW (β := Nat × (List SPathLines) × Int) (fun v => ⟨[(2, wP 10200), (3, wP 10201), (7, lP a1.Files), (8, iP (a1.Files.length : Int)), (9, iP v.2.2), (65536, lP a0), (65540, wP 10203), (65541, wP 10204)], [(10200, eP 25 1 [[.nils]]), (10201, ⟨0, 25, 1, [[.own 10202 0]], false, false, false⟩), (10202, eP 37 2 (mP v.2.1)), (10203, eP 25 1 [[.nils]]), (10204, eP 31 2 [[iP 0, iP 0]])], 2⟩) (fun v => release_execute_l2 n a0 a1 v.1 v.2.1 v.2.2 = some r) (fun v => v.1) (n, ([] : List SPathLines), 0) ((Wk.ownNilCell 3 2 0 30202 37 2 rfl rfl rfl rfl rfl (by simp) true).trans (.nA)) h ?_
  intro ⟨m2, w21, x22⟩ h
  try dsimp only at h ⊢
  cases m2 with
  | zero => rw [release_execute_l2] at h; cases h
  | succ m2 =>
   rw [release_execute_l2] at h
   refine au h [1,1,5,1] ?_; intro h
   refine bs h (fun c19 h => ?_) fun c19 h => ?_
   ·refine au h [2,1,1,1,1,1,5,5,5,8,1,8,8,8,8,8,8] ?_; intro e23 k20 h
    refine cb h (slices_Clone_string_spec n _) fun r24 k21 h => ?_
    refine ax 26 h [5,5,7,8,8,1,7,1] ?_; intro w25 k22 x26 k23 h
    exact lb (m2, w25, x26) h
   ·refine au h [3,1,1,1,8,8,1] ?_; intro h
    exact lf w21 h
 ·intro w1 h
  try dsimp only at h ⊢
  unfold release_execute_j1 at h
  refine ⟨_, rfl, ?_⟩
  refine Sq.wEnd nb ?_
  refine ax 61 h [5,8,1,1,5,1,1,1,1,5,1,1] ?_; intro h
  refine Ev.loopW (β := Nat × (List SPathLines) × (List SPathLines) × Int) (fun v => ⟨[(4, wP 10200), (5, wP 10201), (6, wP 10202), (7, wP 10204), (14, lP a0), (15, iP (a0.length : Int)), (16, iP v.2.2.2)], [(10200, eP 25 1 [[.nils]]), (10201, eP 31 2 [[iP 0, iP 0]]), (10202, ⟨0, 25, 1, [[.own 10203 0]], false, false, false⟩), (10203, eP 37 2 (mP v.2.1)), (10204, ⟨0, 25, 1, [[.own 10205 0]], false, false, false⟩), (10205, eP 37 2 (mP v.2.2.1))], 2⟩) (fun v => release_execute_l1 n a0 v.1 v.2.1 v.2.2.1 v.2.2.2 = some r) (fun v => v.1) (n, w1, ([] : List SPathLines), 0) ((Wk.ownNilCell 7 2 0 30205 37 2 rfl rfl rfl rfl rfl (by simp) true).trans (.nA)) h ?_
  intro ⟨m1, w2, w3, x4⟩ h
  try dsimp only at h ⊢
  cases m1 with
  | zero => rw [release_execute_l1] at h; cases h
  | succ m1 =>
   rw [release_execute_l1] at h
   refine au h [1,1,5,1] ?_; intro h
   refine bs h (fun c1 h => ?_) fun c1 h => ?_
   ·refine au h [2,1,1,1,1,1,1,5,5,5,1,8,1,1,1,8,8,8,8] ?_; intro e5 k2 h
    refine cb h (treepatch_Clash_spec n _ _ _) fun r6 k3 h => ?_
    refine W.nil ?_
    refine bs h (fun c4 h => ?_) fun c4 h => ?_
    ·refine au h [2,1,1,5,1,5,8,8,1] ?_; intro h
     cases h
     exact ⟨_, rfl, Le.tups (.cons (Le.aggs (.cons (.nils 2) (.nil)) rfl) (.cons (.refl _) (.nil)))⟩
    ·refine au h [3,1,1,1,1,8,8,7,5] ?_; intro h
     refine bs h (fun c5 h => ?_) fun c5 h => ?_
     ·refine au h [2,1,1,5,1,5,8,8,1] ?_; intro h
      cases h
      exact ⟨_, rfl, Le.tups (.cons (Le.aggs (.cons (.nils 2) (.nil)) rfl) (.cons (.refl _) (.nil)))⟩
     ·refine au h [3,1,1,1,8,8] ?_; intro h
      obtain ⟨r7, k6, h⟩ := obind h
      refine W.callB (args := [.agg [lP e5.Inputs, lP e5.Ops, .str e5.Output], .agg [.own 1 0]]) (es := mP w2) (sz := 2) (elem := 37) (nm := 10203) (v := 0) (res' := .tup [.own 39 2, .agg [iP r7.2.Code, iP r7.2.Index]]) (sandbox_Run_spec n e5 (⟨w2⟩ : SFiles) r7 k6) rfl rfl rfl (flatS _) rfl rfl rfl rfl rfl (by decide) rfl rfl ?_
      refine ax 61 h [1,5,5,5,1,8,1,1,1,8,5,5] ?_; intro h
      refine bs h (fun c7 h => ?_) fun c7 h => ?_
      ·refine au h [2,1,1,5,8,8,1,5,8,8,1] ?_; intro h
       cases h
       exact ⟨_, rfl, Le.tups (.cons (Le.aggs (.cons (.nils 2) (.nil)) rfl) (.cons (.refl _) (.nil)))⟩
      ·refine au h [3,1,1] ?_; intro h
       refine Ev.regS rfl ?_
       refine Sq.w 3 nb ?_
       refine aw h [8,8,1] ?_; intro h
       refine Sq.weak (st' := ⟨[(4, wP 10200), (5, wP 10201), (6, wP 10202), (7, wP 10204), (9, wP 10206), (10, .own 10207 0), (14, lP a0), (15, iP (a0.length : Int)), (16, iP x4), (51, .str e5.Output), (52, .own 10207 0)], [(10200, eP 25 1 [[.nils]]), (10201, eP 31 2 [[iP 0, iP 0]]), (10202, ⟨0, 25, 1, [[.own 10203 0]], false, false, false⟩), (10203, eP 37 2 (mP w2)), (10204, ⟨0, 25, 1, [[.own 10205 0]], false, false, false⟩), (10205, eP 37 2 (mP w3)), (10206, eP 53 3 [[lP e5.Inputs, lP e5.Ops, .str e5.Output]]), (10207, eP 9 1 (mP r7.1))], 2⟩) ?_ (.nA)
       refine Sq.call rfl Tryz.c_treepatch_Put ⟨_, rfl, nb, ?_⟩
       unfold Tryz.l_treepatch_Put
       refine Ev.retJ (γ := List SPathLines) (fun v => ⟨[(65540, wP 10300), (65541, wP 10301), (65542, wP 10302), (65543, wP 10304), (65545, wP 10306), (65546, lP r7.1), (65550, lP a0), (65551, iP (a0.length : Int)), (65552, iP x4)], [(10300, eP 25 1 [[.nils]]), (10301, eP 31 2 [[iP 0, iP 0]]), (10302, ⟨0, 25, 1, [[.own 10303 0]], false, false, false⟩), (10303, eP 37 2 (mP v)), (10304, ⟨0, 25, 1, [[.own 10305 0]], false, false, false⟩), (10305, eP 37 2 (mP w3)), (10306, eP 53 3 [[lP e5.Inputs, lP e5.Ops, .str e5.Output]])], 2⟩) (fun v => release_execute_j2 n w3 x4 (release_execute_l1 n a0 m1) e5 r7 v = some r) ?_ ?_
       ·refine au h [1,1,1,8,8,8,1] ?_; intro h
        refine cb h (treepatch_Find_spec n _ _) fun r16 k14 h => ?_
        refine aw h [1,5,5,1,1] ?_; intro h
        refine Ev.seqJ (γ := List SPathLines) (fun v => ⟨[(0, wP 10400), (2, .own 10402 0), (6, iP r16.1), (65540, wP 10403), (65541, wP 10404), (65542, wP 10400), (65543, wP 10405), (65545, wP 10407), (65546, .own 10402 0), (65550, lP a0), (65551, iP (a0.length : Int)), (65552, iP x4)], [(10400, ⟨0, 25, 1, [[.own 10401 0]], false, false, false⟩), (10401, eP 37 2 (mP v)), (10402, eP 9 1 (mP r7.1)), (10403, eP 25 1 [[.nils]]), (10404, eP 31 2 [[iP 0, iP 0]]), (10405, ⟨0, 25, 1, [[.own 10406 0]], false, false, false⟩), (10406, eP 37 2 (mP w3)), (10407, eP 53 3 [[lP e5.Inputs, lP e5.Ops, .str e5.Output]])], 2⟩) (fun v => release_execute_j5 n w3 x4 (release_execute_l1 n a0 m1) e5 r7 r16 v = some r) ?_ ?_
        ·refine au h [1,1,1,5] ?_; intro h
         refine bs h (fun c17 h => ?_) fun c17 h => ?_
         ·refine au h [2,1,1,1,8,8,8,1,1,5,5] ?_; intro h
          obtain ⟨w20, k18, h⟩ := obind h
          refine W.insCall (l := w2) (c := SPathLines.cells) (z := (⟨e5.Output, ([] : List (List UInt8))⟩ : SPathLines)) (cs := [.str e5.Output, .nils]) (i := r16.1) k_InsFile rfl rfl rfl (by decide) rfl (by decide) (by decide) k18 rfl ?_
          refine aw h [8,8,8] ?_; intro h
          exact ⟨w20, h, (Wk.rowLe 28 2 (es' := List.map SPathLines.cells w20) rfl rfl (LesR.ins k18 (.cons (.refl _) (.cons (.nils 1) (.nil))) fun _ => rfl) rfl).trans (.nA)⟩
         ·refine au h [3,1] ?_; intro h
          exact lf w2 h
        ·intro w17 h
         try dsimp only at h ⊢
         unfold release_execute_j5 at h
         refine Ev.weak ?_ (Wk.frz 10402 0 rfl rfl)
         refine au h [1,1,8,8,8,1,1] ?_; intro h
         refine cb h (slices_Clone_string_spec n _) fun r18 k15 h => ?_
         refine aw h [7,8] ?_; intro e19 k16 h
         refine W.storeR true (l := w17) (c := SPathLines.cells) (v := e19) (v' := (⟨e19.Path, r18⟩ : SPathLines)) rfl rfl rfl rfl (gidx_some k16).2 rfl (Nat.le_of_ble_eq_true rfl) rfl rfl rfl ?_
         refine W.nil ⟨rfl, ?_⟩
         exact lf (gset w17 r16.1 (⟨e19.Path, r18⟩ : SPathLines)) h
       ·intro w8 h
        try dsimp only at h ⊢
        unfold release_execute_j2 at h
        refine ⟨_, rfl, ?_⟩
        refine Sq.wEnd nb ?_
        refine W.nil ?_
        refine Ev.regS rfl ?_
        refine Sq.w 3 nb ?_
        refine aw h [8,8,1] ?_; intro h
        refine Sq.call rfl Tryz.c_treepatch_Put ⟨_, rfl, nb, ?_⟩
        unfold Tryz.l_treepatch_Put
        refine Ev.retJ (γ := List SPathLines) (fun v => ⟨[(65540, wP 10400), (65541, wP 10401), (65542, wP 10402), (65543, wP 10404), (65550, lP a0), (65551, iP (a0.length : Int)), (65552, iP x4)], [(10400, eP 25 1 [[.nils]]), (10401, eP 31 2 [[iP 0, iP 0]]), (10402, ⟨0, 25, 1, [[.own 10403 0]], false, false, false⟩), (10403, eP 37 2 (mP w8)), (10404, ⟨0, 25, 1, [[.own 10405 0]], false, false, false⟩), (10405, eP 37 2 (mP v))], 2⟩) (fun v => release_execute_j3 n x4 (release_execute_l1 n a0 m1) w8 v = some r) ?_ ?_
        ·refine au h [1,1,1,8,8,8,1] ?_; intro h
         refine cb h (treepatch_Find_spec n _ _) fun r11 k9 h => ?_
         refine aw h [1,5,5,1,1] ?_; intro h
         refine Ev.seqJ (γ := List SPathLines) (fun v => ⟨[(0, wP 10500), (2, lP r7.1), (6, iP r11.1), (65540, wP 10502), (65541, wP 10503), (65542, wP 10504), (65543, wP 10500), (65550, lP a0), (65551, iP (a0.length : Int)), (65552, iP x4)], [(10500, ⟨0, 25, 1, [[.own 10501 0]], false, false, false⟩), (10501, eP 37 2 (mP v)), (10502, eP 25 1 [[.nils]]), (10503, eP 31 2 [[iP 0, iP 0]]), (10504, ⟨0, 25, 1, [[.own 10505 0]], false, false, false⟩), (10505, eP 37 2 (mP w8))], 2⟩) (fun v => release_execute_j4 n x4 (release_execute_l1 n a0 m1) r7 w8 r11 v = some r) ?_ ?_
         ·refine au h [1,1,1,5] ?_; intro h
          refine bs h (fun c12 h => ?_) fun c12 h => ?_
          ·refine au h [2,1,1,1,8,8,8,1,1,5,5] ?_; intro h
           obtain ⟨w15, k13, h⟩ := obind h
           refine W.insCall (l := w3) (c := SPathLines.cells) (z := (⟨e5.Output, ([] : List (List UInt8))⟩ : SPathLines)) (cs := [.str e5.Output, .nils]) (i := r11.1) k_InsFile rfl rfl rfl (by decide) rfl (by decide) (by decide) k13 rfl ?_
           refine aw h [8,8,8] ?_; intro h
           exact ⟨w15, h, (Wk.rowLe 28 2 (es' := List.map SPathLines.cells w15) rfl rfl (LesR.ins k13 (.cons (.refl _) (.cons (.nils 1) (.nil))) fun _ => rfl) rfl).trans (.nA)⟩
          ·refine au h [3,1] ?_; intro h
           exact lf w3 h
         ·intro w12 h
          try dsimp only at h ⊢
          unfold release_execute_j4 at h
          refine au h [1,1,8,8,8,1,1] ?_; intro h
          refine cb h (slices_Clone_string_spec n _) fun r13 k10 h => ?_
          refine aw h [7,8] ?_; intro e14 k11 h
          refine W.storeR true (l := w12) (c := SPathLines.cells) (v := e14) (v' := (⟨e14.Path, r13⟩ : SPathLines)) rfl rfl rfl rfl (gidx_some k11).2 rfl (Nat.le_of_ble_eq_true rfl) rfl rfl rfl ?_
          refine W.nil ⟨rfl, ?_⟩
          exact lf (gset w12 r11.1 (⟨e14.Path, r13⟩ : SPathLines)) h
        ·intro w9 h
         try dsimp only at h ⊢
         unfold release_execute_j3 at h
         refine ⟨_, rfl, ?_⟩
         refine Sq.wEnd nb ?_
         refine ax 61 h [1,7,1] ?_; intro x10 k8 h
         exact lb (m1, w8, w9, x10) h
   ·refine au h [3,1,1,1,8,5,8,8] ?_; intro h
    refine Ev.weak ?_ (Wk.frz 10205 0 rfl rfl)
    refine Ev.ret ?_
    cases h
    exact ⟨_, rfl, .refl _⟩
set_option maxHeartbeats 4000000 in
theorem slices_Clone_api_SandboxOp_api_SandboxOp_spec (n : Nat) (a0 : List SKindText) (r : List SKindText) (h : slices_Clone_api_SandboxOp_api_SandboxOp n a0 = some r) : PSpec Tryz.prog 114 [.list 2 (List.map SKindText.cells a0)] (.list 2 (List.map SKindText.cells r)) := by
 unfold slices_Clone_api_SandboxOp_api_SandboxOp at h
 refine spec_of Tryz.c_slices_Clone_api_SandboxOp_api_SandboxOp (by simp) ?_
 unfold Tryz.l_slices_Clone_api_SandboxOp_api_SandboxOp
 cases a0 with
 | nil =>
  refine Ev.nilSplit 0 2 rfl (by decide) ?_ ?_
  ·refine Ev.seq ?_
   refine W.reg hm ?_
   refine W.mv rfl (W.nil ?_)
   refine Ev.seq (Ev.seq ?_)
   refine W.reg hm ?_
   refine W.mv rfl (W.isnilN rfl ?_)
   refine W.nil ?_
   refine Ev.condT rfl rfl ?_
   refine Ev.seq ?_
   refine W.reg hm ?_
   refine W.mv rfl (W.nil ?_)
   obtain ⟨w9, k9, h⟩ := obind h
   injection h with h; subst h
   have e9 := (gapp_some k9).2
   simp only [List.nil_append] at e9
   subst e9
   refine Ev.ret ?_
   exact ⟨_, rfl, .nils 2⟩
  ·refine Ev.seq ?_
   refine W.reg hm ?_
   refine W.mv rfl (W.nil ?_)
   refine Ev.seq (Ev.seq ?_)
   refine W.reg hm ?_
   refine W.mv rfl (W.isnilZ rfl ?_)
   refine W.nil ?_
   refine Ev.condF rfl rfl ?_
   refine Ev.skip ?_
   refine Ev.seq ?_
   refine Ev.weak ?_ (Wk.le (t := 0) rfl (.nz 2))
   refine W.reg hm ?_
   refine W.mkSlice (dt := true) (es := []) rfl rfl rfl rfl rfl rfl ?_
   refine W.mv rfl ?_
   obtain ⟨w1, k1, h⟩ := obind h
   refine W.appR true (l := ([] : List SKindText)) (c := SKindText.cells) (ys := ([] : List SKindText)) rfl rfl rfl rfl rfl rfl rfl rfl k1 rfl (by simp) ?_
   refine W.mv rfl (W.nil ?_)
   refine Ev.ret ?_
   cases h
   exact ⟨_, rfl, .refl _⟩
 | cons x9 xs9 =>
  refine Ev.seq ?_
  refine W.reg hm ?_
  refine W.mv rfl (W.nil ?_)
  refine Ev.seq (Ev.seq ?_)
  refine W.reg hm ?_
  refine W.mv rfl (W.isnilC rfl ?_)
  refine W.nil ?_
  refine Ev.condF rfl rfl ?_
  refine Ev.skip ?_
  refine Ev.seq ?_
  refine W.reg hm ?_
  refine W.mkSlice (dt := true) (es := []) rfl rfl rfl rfl rfl rfl ?_
  refine W.mv rfl ?_
  obtain ⟨w1, k1, h⟩ := obind h
  refine W.appR true (l := ([] : List SKindText)) (c := SKindText.cells) (ys := (x9 :: xs9)) rfl rfl rfl rfl rfl rfl rfl rfl k1 rfl (by simp) ?_
  refine W.mv rfl (W.nil ?_)
  refine Ev.ret ?_
  cases h
  exact ⟨_, rfl, .refl _⟩
theorem release_clone_spec (n : Nat) (a0 : List SInputsOpsOutput) (r : (List SInputsOpsOutput)) (h : release_clone n a0 = some r) : PSpec Tryz.prog 58 [lP a0] (lP r) := by
 unfold release_clone at h
 refine spec_of Tryz.c_release_clone (by simp) ?_
 unfold Tryz.l_release_clone
 refine au h [1,1,1,1,1,1,1,1,1,1,5,1,1] ?_; intro h
 refine Ev.loopW (β := Nat × (List SInputsOpsOutput) × Int) (fun v => ⟨[(3, .own 10100 0), (6, lP a0), (7, iP (a0.length : Int)), (8, iP v.2.2)], [(10100, eP 53 3 (mP v.2.1))], 2⟩) (fun v => release_clone_l1 n a0 v.1 v.2.1 v.2.2 = some r) (fun v => v.1) (n, ([] : List SInputsOpsOutput), 0) ((Wk.ownNil 3 30100 53 3 rfl rfl true).trans (.nA)) h ?_
 intro ⟨m1, w1, x2⟩ h
 try dsimp only at h ⊢
 cases m1 with
 | zero => rw [release_clone_l1] at h; cases h
 | succ m1 =>
  rw [release_clone_l1] at h
  refine au h [1,1,5,1] ?_; intro h
  refine bs h (fun c1 h => ?_) fun c1 h => ?_
  ·refine au h [2,1,1,1,1,1,5,5,5,8,1,1,8,8] ?_; intro e3 k2 h
   refine cb h (slices_Clone_string_spec n _) fun r4 k3 h => ?_
   refine aw h [8,8] ?_; intro h
   refine cb h (slices_Clone_api_SandboxOp_api_SandboxOp_spec n _) fun r5 k4 h => ?_
   refine ax 26 h [8,8,5,5,7,1,1,7,1] ?_; intro w6 k5 x7 k6 h
   exact lb (m1, w6, x7) h
  ·refine au h [3,1,1,1,1,1,1] ?_; intro h
   cases h
   exact ⟨_, rfl, .refl _⟩
theorem release_Make_spec (n : Nat) (a0 : List SInputsOpsOutput) (a1 : SFiles) (r : (SActionsMaterialsOutput × SCodeIndex)) (h : release_Make n a0 a1 = some r) : PSpec Tryz.prog 14 [lP a0, .agg (SFiles.cells a1)] (.tup [.agg (SActionsMaterialsOutput.cells r.1), .agg (SCodeIndex.cells r.2)]) := by
 unfold release_Make at h
 refine spec_of Tryz.c_release_Make (by simp) ?_
 unfold Tryz.l_release_Make
 refine au h [1,1,5,5,5,1,1,1,1] ?_; intro h
 refine cb h (release_checkActions_spec n _) fun r1 k1 h => ?_
 refine ax 57 h [5,8,1,1,8,5,5] ?_; intro h
 refine bs h (fun c2 h => ?_) fun c2 h => ?_
 ·refine au h [2,1,1,5,8,8,8,1] ?_; intro h
  cases h
  exact ⟨_, rfl, Le.tups (.cons (Le.aggs (.cons (.nils 3) (.cons (.nils 2) (.cons (.nils 2) (.nil)))) rfl) (.cons (.refl _) (.nil)))⟩
 ·refine au h [3,1,1,1,1,8] ?_; intro h
  refine cb h (treepatch_Second_spec n _ _) fun r2 k3 h => ?_
  refine ax 57 h [5,8,1,1,8,5,5] ?_; intro h
  refine bs h (fun c4 h => ?_) fun c4 h => ?_
  ·refine au h [2,1,1,5,8,8,8,1] ?_; intro h
   cases h
   exact ⟨_, rfl, Le.tups (.cons (Le.aggs (.cons (.nils 3) (.cons (.nils 2) (.cons (.nils 2) (.nil)))) rfl) (.cons (.refl _) (.nil)))⟩
  ·refine au h [3,1,1,1,1] ?_; intro h
   refine cb h (release_sources_spec n _) fun r3 k5 h => ?_
   refine ax 57 h [1,1,1,1,1,5,5] ?_; intro h
   refine bs h (fun c6 h => ?_) fun c6 h => ?_
   ·refine au h [2,1,1,5,5,8,8,1] ?_; intro h
    cases h
    exact ⟨_, rfl, Le.tups (.cons (Le.aggs (.cons (.nils 3) (.cons (.nils 2) (.cons (.nils 2) (.nil)))) rfl) (.cons (.refl _) (.nil)))⟩
   ·refine au h [3,1,1,1,1,8] ?_; intro h
    refine cb h (release_execute_spec n _ _) fun r4 k7 h => ?_
    refine ax 57 h [1,5,5,5,5,8,8,1,1,1,8,5,5] ?_; intro h
    refine bs h (fun c8 h => ?_) fun c8 h => ?_
    ·refine au h [2,1,1,5,8,8,8,1] ?_; intro h
     cases h
     exact ⟨_, rfl, Le.tups (.cons (Le.aggs (.cons (.nils 3) (.cons (.nils 2) (.cons (.nils 2) (.nil)))) rfl) (.cons (.refl _) (.nil)))⟩
    ·refine au h [3,1,1,1,1,8] ?_; intro h
     refine cb h (bom_Make_spec n _ _) fun r5 k9 h => ?_
     refine ax 57 h [1,5,5,5,1,8,1,1,1] ?_; intro h
     refine cb h (release_clone_spec n _) fun r6 k10 h => ?_
     refine ax 57 h [1,8,5,5,8,8,1] ?_; intro h
     cases h
     exact ⟨_, rfl, .refl _⟩
theorem actioncache_Key_1_spec (n : Nat) (a0 : List UInt8) (r : Int) (h : actioncache_Key_1 n a0 = some r) : PSpec Tryz.prog 64 [.str a0] (iP r) := by
 unfold actioncache_Key_1 at h
 refine spec_of Tryz.c_actioncache_Key_1 (by simp) ?_
 unfold Tryz.l_actioncache_Key_1
 refine au h [1,1,1,1,1,1,5] ?_; intro h
 refine cb h (digest_Of_spec n _) fun r1 k1 h => ?_
 refine ax 12 h [1,5,5,5,1,8,1,1,1,1,1] ?_; intro h
 cases h
 exact ⟨_, rfl, .refl _⟩
theorem digest_is_spec (n : Nat) (a0 : Int) (r : Bool) (h : digest_is n a0 = some r) : PSpec Tryz.prog 155 [iP a0] (.bool r) := by
 unfold digest_is at h
 refine spec_of Tryz.c_digest_is (by simp) ?_
 unfold Tryz.l_digest_is
 refine au h [1,1,1] ?_; intro h
 refine Ev.seqJ (γ := Bool) (fun v => ⟨[(2, .bool v)], [], 2⟩) (fun v => digest_is_j1 n v = some r) ?_ ?_
 ·refine au h [1,1,5,1] ?_; intro h
  refine bs h (fun c1 h => ?_) fun c1 h => ?_
  ·refine aw h [2,1,2,5,2,1] ?_; intro h
   exact lf (decide (a0 < 2305843009213693951)) h
  ·refine aw h [3,3,3,1] ?_; intro h
   exact lf false h
 ·intro x1 h
  try dsimp only at h ⊢
  unfold digest_is_j1 at h
  refine Ev.ret ?_
  cases h
  exact ⟨_, rfl, .refl _⟩
theorem digest_Pair_spec (n : Nat) (a0 : Int) (a1 : Int) (r : (Int × SCodeIndex)) (h : digest_Pair n a0 a1 = some r) : PSpec Tryz.prog 121 [iP a0, iP a1] (.tup [iP r.1, .agg (SCodeIndex.cells r.2)]) := by
 unfold digest_Pair at h
 refine spec_of Tryz.c_digest_Pair (by simp) ?_
 unfold Tryz.l_digest_Pair
 refine au h [1,1,1,5,1,1,1,1,1,5,1,1] ?_; intro h
 refine Ev.loopW (β := Nat × Int) (fun v => ⟨[(0, iP a0), (1, iP a1), (5, wP 10100), (10, .agg [iP a0, iP a1]), (11, iP v.2)], [(10100, eP 31 2 [[iP 0, iP 0]])], 2⟩) (fun v => digest_Pair_l1 n a0 a1 v.1 v.2 = some r) (fun v => v.1) (n, 0) (.nA) h ?_
 intro ⟨m1, x1⟩ h
 try dsimp only at h ⊢
 cases m1 with
 | zero => rw [digest_Pair_l1] at h; cases h
 | succ m1 =>
  rw [digest_Pair_l1] at h
  refine au h [1,1,5,1] ?_; intro h
  refine bs h (fun c1 h => ?_) fun c1 h => ?_
  ·refine au h [2,1,1,1,1,1,1] ?_; intro h
   obtain ⟨i2, k2, h⟩ := obind h
   refine W.vidxG (p := iP (if i2 = 0 then a0 else a1)) rfl rfl k2 (by obtain ⟨_, q1, q2⟩ := garr_some k2; rcases (show i2 = 0 ∨ i2 = 1 by omega) with e | e <;> rw [e] <;> rfl) ?_
   refine ax 25 h [1,1,1,1,1] ?_; intro h
   refine cb h (digest_is_spec n _) fun r3 k3 h => ?_
   refine aw h [5] ?_; intro h
   refine bs h (fun c4 h => ?_) fun c4 h => ?_
   ·refine au h [2,1,1,1,5,1,8,1] ?_; intro h
    cases h
    exact ⟨_, rfl, .refl _⟩
   ·refine au h [3,1,1,7,1] ?_; intro x4 k5 h
    exact lb (m1, x4) h
  ·refine au h [3,1,1,1,1,1] ?_; intro h
   refine cb h (digest_pair_spec n _ _) fun r5 k6 h => ?_
   refine ax 25 h [5,1,8,1] ?_; intro h
   cases h
   exact ⟨_, rfl, .refl _⟩
end Go.Proofs.YtlkknmhhefjmjaaGreatDoor
namespace Go.Proofs.YtlkknmhhefjmjaaGreatDoor
open Go.PW Go
theorem actioncache_combine_spec (n : Nat) (a0 : Int) (a1 : List Int) (r : Int) (h : actioncache_combine n a0 a1 = some r) : PSpec Tryz.prog 67 [iP a0, lP a1] (iP r) := by
 unfold actioncache_combine at h
 refine spec_of Tryz.c_actioncache_combine (by simp) ?_
 unfold Tryz.l_actioncache_combine
 refine au h [1,1,1,1,1,1,1,5,1,1] ?_; intro h
 refine Ev.loopW (β := Nat × Int × Int) (fun v => ⟨[(0, iP v.2.1), (7, lP a1), (8, iP (a1.length : Int)), (9, iP v.2.2)], [], 2⟩) (fun v => actioncache_combine_l1 n a1 v.1 v.2.1 v.2.2 = some r) (fun v => v.1) (n, a0, 0) (.nA) h ?_
 intro ⟨m1, x1, x2⟩ h
 try dsimp only at h ⊢
 cases m1 with
 | zero => rw [actioncache_combine_l1] at h; cases h
 | succ m1 =>
  rw [actioncache_combine_l1] at h
  refine au h [1,1,5,1] ?_; intro h
  refine bs h (fun c1 h => ?_) fun c1 h => ?_
  ·refine au h [2,1,1,1,1,1,5,5,1,1,1,1] ?_; intro e3 k2 h
   refine cb h (digest_Pair_spec n _ _) fun r4 k3 h => ?_
   refine ax 21 h [1,5,5,1,1,7,1] ?_; intro x5 k4 h
   exact lb (m1, r4.1, x5) h
  ·refine au h [3,1,1,1,1,1,1] ?_; intro h
   cases h
   exact ⟨_, rfl, .refl _⟩
theorem actioncache_Key_spec (n : Nat) (a0 : SInputsOpsOutput) (a1 : SFiles) (r : (Int × SCodeIndex)) (h : actioncache_Key n a0 a1 = some r) : PSpec Tryz.prog 20 [.agg (SInputsOpsOutput.cells a0), .agg (SFiles.cells a1)] (.tup [iP r.1, .agg (SCodeIndex.cells r.2)]) := by
 unfold actioncache_Key at h
 refine spec_of Tryz.c_actioncache_Key (by simp) ?_
 unfold Tryz.l_actioncache_Key
 refine au h [1,1,5,5,1,5,1,1,1,8,8] ?_; intro h
 refine cb h (sandbox_Arguments_spec n _ _) fun r1 k1 h => ?_
 refine ax 87 h [5,8,1,1,8,5,5] ?_; intro h
 refine bs h (fun c2 h => ?_) fun c2 h => ?_
 ·refine au h [2,1,1,8,1,8,1] ?_; intro h
  cases h
  exact ⟨_, rfl, .refl _⟩
 ·refine au h [3,1,1,1,1,1,1,8,8] ?_; intro h
  refine cb h (digest_Strings_spec n _) fun r2 k3 h => ?_
  refine ax 87 h [1,5,5,5,1,8,1,1,1,8,8,5,1,1] ?_; intro h
  refine Ev.loopW (β := Nat × Int × Int) (fun v => ⟨[(2, wP 10100), (3, wP 10101), (5, wP 10102), (7, .fn 64 [] []), (8, iP v.2.1), (31, lP a0.Inputs), (32, iP (a0.Inputs.length : Int)), (33, iP v.2.2)], [(10100, eP 53 3 [[lP a0.Inputs, lP a0.Ops, .str a0.Output]]), (10101, eP 25 1 [[lP a1.Files]]), (10102, eP 31 2 [[iP 0, iP 0]])], 2⟩) (fun v => actioncache_Key_l1 n a0 a1 v.1 v.2.1 v.2.2 = some r) (fun v => v.1) (n, r2.1, 0) (.nA) h ?_
  intro ⟨m1, x3, x4⟩ h
  try dsimp only at h ⊢
  cases m1 with
  | zero => rw [actioncache_Key_l1] at h; cases h
  | succ m1 =>
   rw [actioncache_Key_l1] at h
   refine au h [1,1,5,1] ?_; intro h
   refine bs h (fun c4 h => ?_) fun c4 h => ?_
   ·refine au h [2,1,1,1,1,1,5,5,1,1,1,1] ?_; intro e5 k5 h
    refine Ev.seqJ (γ := Int) (fun v => ⟨[(2, wP 10200), (3, wP 10201), (5, wP 10202), (7, .fn 64 [] []), (8, iP x3), (12, iP v), (31, lP a0.Inputs), (32, iP (a0.Inputs.length : Int)), (33, iP x4)], [(10200, eP 53 3 [[lP a0.Inputs, lP a0.Ops, .str a0.Output]]), (10201, eP 25 1 [[lP a1.Files]]), (10202, eP 31 2 [[iP 0, iP 0]])], 2⟩) (fun v => actioncache_Key_j1 n x3 x4 (actioncache_Key_l1 n a0 a1 m1) v = some r) ?_ ?_
    ·refine au h [1,1,8,8,1] ?_; intro h
     refine cb h (treepatch_Find_spec n _ _) fun r9 k8 h => ?_
     refine ax 87 h [1,5,5,1,1,1,1,1] ?_; intro h
     refine bs h (fun c9 h => ?_) fun c9 h => ?_
     ·refine au h [2,1,8,8,1,5,5,5] ?_; intro e10 k10 h
      refine cb h (digest_Strings_spec n _) fun r11 k11 h => ?_
      refine aw h [1,5,5,1] ?_; intro h
      exact lf r11.1 h
     ·refine au h [3,1] ?_; intro h
      exact lf 0 h
    ·intro x6 h
     try dsimp only at h ⊢
     unfold actioncache_Key_j1 at h
     refine au h [1,1,1,5] ?_; intro h
     refine cb h (actioncache_combine_spec n _ _) fun r7 k6 h => ?_
     refine ax 87 h [1,1,7,1] ?_; intro x8 k7 h
     exact lb (m1, r7, x8) h
   ·refine au h [3,1,1,1,1,8,8,5,1,1] ?_; intro h
    refine Ev.loopW (β := Nat × Int × Int) (fun v => ⟨[(2, wP 10200), (5, wP 10201), (7, .fn 64 [] []), (8, iP v.2.1), (61, lP a0.Ops), (62, iP (a0.Ops.length : Int)), (63, iP v.2.2)], [(10200, eP 53 3 [[lP a0.Inputs, lP a0.Ops, .str a0.Output]]), (10201, eP 31 2 [[iP 0, iP 0]])], 2⟩) (fun v => actioncache_Key_l2 n a0 v.1 v.2.1 v.2.2 = some r) (fun v => v.1) (n, x3, 0) (.nA) h ?_
    intro ⟨m2, x12, x13⟩ h
    try dsimp only at h ⊢
    cases m2 with
    | zero => rw [actioncache_Key_l2] at h; cases h
    | succ m2 =>
     rw [actioncache_Key_l2] at h
     refine au h [1,1,5,1] ?_; intro h
     refine bs h (fun c12 h => ?_) fun c12 h => ?_
     ·refine au h [2,1,1,1,1,1,5,5,5,8,1,1,8,8,1,8,8] ?_; intro e14 k13 h
      obtain ⟨r15, k14, h⟩ := obind h
      refine W.callv (actioncache_Key_1_spec n e14.Text r15 k14) Tryz.b_actioncache_Key_1 rfl rfl (Les.refl _) rfl (.inl rfl) rfl ?_
      refine aw h [5] ?_; intro h
      refine cb h (actioncache_combine_spec n _ _) fun r16 k15 h => ?_
      refine aw h [5] ?_; intro h
      refine cb h (actioncache_combine_spec n _ _) fun r17 k16 h => ?_
      refine ax 87 h [1,1,7,1] ?_; intro x18 k17 h
      exact lb (m2, r17, x18) h
     ·refine au h [3,1,1] ?_; intro h
      refine Ev.regS rfl ?_
      refine Sq.w 4 nb ?_
      refine aw h [1,1,8,8] ?_; intro h
      refine Sq.callv (f := 64) rfl Tryz.b_actioncache_Key_1 Tryz.c_actioncache_Key_1 ⟨_, _, _, rfl, nb, ?_⟩
      unfold Tryz.l_actioncache_Key_1
      refine Ev.retJ (γ := Int) (fun v => ⟨[(2, iP v), (65541, wP 10300), (65615, iP x12)], [(10300, eP 31 2 [[iP 0, iP 0]])], 2⟩) (fun v => actioncache_Key_j2 n x12 v = some r) ?_ ?_
      ·refine au h [1,1,1,1,1,1,5] ?_; intro h
       refine cb h (digest_Of_spec n _) fun r21 k19 h => ?_
       refine ax 12 h [1,5,5,5,1,8,1,1,1,1,1] ?_; intro h
       exact lf r21.1 h
      ·intro x19 h
       try dsimp only at h ⊢
       unfold actioncache_Key_j2 at h
       refine ⟨_, rfl, ?_⟩
       refine Sq.wEnd nb ?_
       refine aw h [5] ?_; intro h
       refine cb h (actioncache_combine_spec n _ _) fun r20 k18 h => ?_
       refine ax 87 h [5,1,8,1] ?_; intro h
       cases h
       exact ⟨_, rfl, .refl _⟩
theorem ref6_Strings_spec (n : Nat) (a0 : List (List UInt8)) (a1 : List (List UInt8)) (r : Bool) (h : ref6_Strings n a0 a1 = some r) : PSpec Tryz.prog 24 [lP a0, lP a1] (.bool r) := by
 unfold ref6_Strings at h
 refine spec_of Tryz.c_ref6_Strings (by simp) ?_
 unfold Tryz.l_ref6_Strings
 refine au h [1,1,1,1,1,1,1,5,1,5,5] ?_; intro h
 refine bs h (fun c1 h => ?_) fun c1 h => ?_
 ·refine au h [2,1,1,1,1] ?_; intro h
  cases h
  exact ⟨_, rfl, .refl _⟩
 ·refine au h [3,1,1,1,1,1,1] ?_; intro h
  refine Ev.loopW (β := Nat × Int) (fun v => ⟨[(0, lP a0), (1, lP a1), (5, iP v.2)], [], 2⟩) (fun v => ref6_Strings_l1 n a0 a1 v.1 v.2 = some r) (fun v => v.1) (n, 0) (.nA) h ?_
  intro ⟨m1, x1⟩ h
  try dsimp only at h ⊢
  cases m1 with
  | zero => rw [ref6_Strings_l1] at h; cases h
  | succ m1 =>
   rw [ref6_Strings_l1] at h
   refine au h [1,1,1,1,1,5,5] ?_; intro h
   refine bs h (fun c2 h => ?_) fun c2 h => ?_
   ·refine au h [2,1,1,1,1,1,1,1,5,5,1,1,5,5,6] ?_; intro e2 k3 e3 k4 h
    refine bs h (fun c5 h => ?_) fun c5 h => ?_
    ·refine au h [2,1,1,1,1] ?_; intro h
     cases h
     exact ⟨_, rfl, .refl _⟩
    ·refine au h [3,1,1,1,7,1] ?_; intro x4 k6 h
     exact lb (m1, x4) h
   ·refine au h [3,1,1,1,1,1] ?_; intro h
    cases h
    exact ⟨_, rfl, .refl _⟩
theorem top_kernAction_spec (n : Nat) (r : SInputsOpsOutput) (h : top_kernAction n = some r) : PSpec Tryz.prog 52 [] (.agg (SInputsOpsOutput.cells r)) := by
 unfold top_kernAction at h
 refine spec_of Tryz.c_top_kernAction (by simp) ?_
 unfold Tryz.l_top_kernAction
 refine au h [1,1,5,1,1,5,5,5,5,8] ?_; intro h
 refine Ev.weak ?_ (Wk.frz 1 2 rfl rfl)
 refine Ev.weak ?_ (Wk.frz 3 2 rfl rfl)
 refine Ev.ret ?_
 cases h
 exact ⟨_, rfl, .refl _⟩
theorem top_kernFiles_spec (n : Nat) (r : SFiles) (h : top_kernFiles n = some r) : PSpec Tryz.prog 53 [] (.agg (SFiles.cells r)) := by
 unfold top_kernFiles at h
 refine spec_of Tryz.c_top_kernFiles (by simp) ?_
 unfold Tryz.l_top_kernFiles
 refine au h [1,1,5,1,1,5,5,5,5,8] ?_; intro h
 refine Ev.weak ?_ (Wk.frz 1 2 rfl rfl)
 refine Ev.weak ?_ (Wk.frz 3 2 rfl rfl)
 refine Ev.ret ?_
 cases h
 exact ⟨_, rfl, .refl _⟩
theorem top_kernBuilds_spec (n : Nat) (r : Bool) (h : top_kernBuilds n = some r) : PSpec Tryz.prog 13 [] (.bool r) := by
 unfold top_kernBuilds at h
 refine spec_of Tryz.c_top_kernBuilds (by simp) ?_
 unfold Tryz.l_top_kernBuilds
 refine au h [1,1,1,1,1] ?_; intro h
 refine cb h (top_kernAction_spec n) fun r1 k1 h => ?_
 refine cb h (top_kernFiles_spec n) fun r2 k2 h => ?_
 obtain ⟨r3, k3, h⟩ := obind h
 refine W.callOT (res' := .tup [.own 12 2, .agg [iP r3.2.Code, iP r3.2.Index]]) (sandbox_Run_spec n r1 r2 r3 k3) rfl (Les.refl _) rfl rfl rfl rfl rfl ?_
 refine ax 73 h [1,5,5,5,1,8,1] ?_; intro h
 refine Ev.regS rfl ?_
 refine Sq.w 3 nb ?_
 refine cb h (top_kernAction_spec n) fun r4 k4 h => ?_
 refine aw h [5] ?_; intro h
 refine cb h (top_kernFiles_spec n) fun r5 k5 h => ?_
 refine W.nil ?_
 refine Sq.weak (st' := ⟨[(1, .own 10000 0), (2, wP 10001), (17, lP ([r4] : List SInputsOpsOutput)), (18, .agg [lP r5.Files])], [(10000, eP 9 1 (mP r3.1)), (10001, eP 31 2 [[iP r3.2.Code, iP r3.2.Index]])], 2⟩) ?_ ((Wk.frz 17 2 rfl rfl).trans (.nA))
 refine Sq.wEnd nb ?_
 refine cb h (release_Make_spec n _ _) fun r6 k6 h => ?_
 refine ax 73 h [1,5,5,5,5,8,8,1] ?_; intro h
 refine Ev.regS rfl ?_
 refine Sq.w 2 nb ?_
 refine aw h [5] ?_; intro h
 refine cb h (top_kernFiles_spec n) fun r7 k7 h => ?_
 refine W.nil ?_
 refine Sq.weak (st' := ⟨[(1, .own 10000 0), (2, wP 10001), (3, wP 10002), (4, wP 10003), (23, lP ([([97] : List UInt8)] : List (List UInt8))), (24, .agg [lP r7.Files])], [(10000, eP 9 1 (mP r3.1)), (10001, eP 31 2 [[iP r3.2.Code, iP r3.2.Index]]), (10002, eP 29 3 [[lP r6.1.Actions, lP r6.1.Materials, lP r6.1.Output.Files]]), (10003, eP 31 2 [[iP r6.2.Code, iP r6.2.Index]])], 2⟩) ?_ ((Wk.frz 23 2 rfl rfl).trans (.nA))
 refine Sq.wEnd nb ?_
 refine cb h (bom_Make_spec n _ _) fun r8 k8 h => ?_
 refine ax 73 h [1,5,5,5,1,8,1,1] ?_; intro h
 refine cb h (top_kernAction_spec n) fun r9 k9 h => ?_
 refine cb h (top_kernFiles_spec n) fun r10 k10 h => ?_
 refine cb h (actioncache_Key_spec n _ _) fun r11 k11 h => ?_
 refine aw h [1,5,5,5,1,8] ?_; intro h
 refine Ev.seqJ (γ := Bool) (fun v => ⟨[(0, .bool v)], [], 2⟩) (fun v => top_kernBuilds_j1 n v = some r) ?_ ?_
 ·refine au h [1,8,8,5,1] ?_; intro h
  refine bs h (fun c12 h => ?_) fun c12 h => ?_
  ·refine aw h [2,8,2,8,2,5,2,1] ?_; intro h
   refine bs h (fun c13 h => ?_) fun c13 h => ?_
   ·refine aw h [2,8,2,8,2,5,2,1] ?_; intro h
    refine bs h (fun c14 h => ?_) fun c14 h => ?_
    ·refine aw h [2,8,2,8,2,5,2,1] ?_; intro h
     refine bs h (fun c15 h => ?_) fun c15 h => ?_
     ·refine aw h [2,1,2,5,2] ?_; intro h
      refine cb h (ref6_Strings_spec n _ _) fun r13 k16 h => ?_
      refine aw h [2,1] ?_; intro h
      refine bs h (fun c17 h => ?_) fun c17 h => ?_
      ·refine aw h [2,8,2,8,2,8,2,5,2,5,2,1] ?_; intro h
       refine bs h (fun c18 h => ?_) fun c18 h => ?_
       ·refine aw h [2,1,2,5,2,5,2,1] ?_; intro h
        refine bs h (fun c19 h => ?_) fun c19 h => ?_
        ·refine aw h [2,1,2,5,2,1] ?_; intro h
         exact lf (decide (r11.1 ≠ 0)) h
        ·refine aw h [3,3,3,1] ?_; intro h
         exact lf false h
       ·refine aw h [3,3,3,3,1,3,3,3,1] ?_; intro h
        exact lf false h
      ·refine aw h [3,3,3,3,3,3,1,3,3,3,3,1,3,3,3,1] ?_; intro h
       exact lf false h
     ·refine aw h [3,3,3,3,1,3,3,3,3,3,3,1,3,3,3,3,1,3,3,3,1] ?_; intro h
      exact lf false h
    ·refine aw h [3,3,3,3,1,3,3,3,3,1,3,3,3,3,3,3,1,3,3,3,3,1,3,3,3,1] ?_; intro h
     exact lf false h
   ·refine aw h [3,3,3,3,1,3,3,3,3,1,3,3,3,3,1,3,3,3,3,3,3,1,3,3,3,3,1,3,3,3,1] ?_; intro h
    exact lf false h
  ·refine aw h [3,3,3,3,1,3,3,3,3,1,3,3,3,3,1,3,3,3,3,1,3,3,3,3,3,3,1,3,3,3,3,1,3,3,3,1] ?_; intro h
   exact lf false h
 ·intro x12 h
  try dsimp only at h ⊢
  unfold top_kernBuilds_j1 at h
  refine Ev.ret ?_
  cases h
  exact ⟨_, rfl, .refl _⟩
theorem top_kernIn_spec (n : Nat) (a0 : Int) (a1 : Int) (a2 : Int) (r : Bool) (h : top_kernIn n a0 a1 a2 = some r) : PSpec Tryz.prog 18 [iP a0, iP a1, iP a2] (.bool r) := by
 unfold top_kernIn at h
 refine spec_of Tryz.c_top_kernIn (by simp) ?_
 unfold Tryz.l_top_kernIn
 refine au h [1,1,1] ?_; intro h
 refine Ev.seqJ (γ := Bool) (fun v => ⟨[(6, .bool v)], [], 2⟩) (fun v => top_kernIn_j1 n v = some r) ?_ ?_
 ·refine au h [1,1,1,5,1] ?_; intro h
  refine bs h (fun c1 h => ?_) fun c1 h => ?_
  ·refine aw h [2,1,2,1,2,5,2,1] ?_; intro h
   exact lf (decide (a0 ≤ a2)) h
  ·refine aw h [3,3,3,3,1] ?_; intro h
   exact lf false h
 ·intro x1 h
  try dsimp only at h ⊢
  unfold top_kernIn_j1 at h
  refine Ev.ret ?_
  cases h
  exact ⟨_, rfl, .refl _⟩
theorem workers_fill_spec (n : Nat) (a0 : Int) (a1 : Int) (r : (List Int)) (h : workers_fill n a0 a1 = some r) : PMut Tryz.prog 129 [iP a0, iP a1] [] (.own 70000 0) [(70000, ⟨0, 3, 1, List.map cI r, true, false, false⟩)] := by
 unfold workers_fill at h
 refine specMut_of Tryz.c_workers_fill (by simp) (by simp) ?_
 unfold Tryz.l_workers_fill
 refine au h [1,1,1,1,1,1,5,1,1,1,1,1,7,1,1] ?_; intro w1 k1 h
 refine Ev.loopW (β := Nat × (List Int) × Int) (fun v => ⟨[(1, iP a1), (5, .own 10100 0), (10, iP (w1.length : Int)), (11, iP v.2.2)], [(10100, eP 3 1 (mP v.2.1))], 2⟩) (fun v => workers_fill_l1 n a1 w1 v.1 v.2.1 v.2.2 = some r) (fun v => v.1) (n, w1, 0) (.nA) h ?_
 intro ⟨m1, w2, x3⟩ h
 try dsimp only at h ⊢
 cases m1 with
 | zero => rw [workers_fill_l1] at h; cases h
 | succ m1 =>
  rw [workers_fill_l1] at h
  refine au h [1,1,5,1] ?_; intro h
  refine bs h (fun c2 h => ?_) fun c2 h => ?_
  ·refine au h [2,1,1,1,1,1,1,1,1,1,1,1,7,7,1,7,1] ?_; intro e4 k3 x5 k4 h
   exact lb (m1, (gset w2 x3 a1), x5) h
  ·refine au h [3,1,1,1,1,1] ?_; intro h
   refine Ev.ret ?_
   injection h with h; subst h
   exact ⟨_, _, Wk.nrmTo [4] [(10100, 70000)] rfl rfl, rfl, rfl, rfl, .refl _, fun nm h => by simp [PW.look] at h⟩
set_option maxHeartbeats 4000000 in
theorem workers_play_spec (n : Nat) (a0 : Int) (a1 : Int) (a2 : Int) (a3 : List SKindWorkerJobValue) (r : ((Option SNeedStateReportsValues) × SCodeIndex)) (h : workers_play n a0 a1 a2 a3 = some r) : PSpec Tryz.prog 76 [iP a0, iP a1, iP a2, lP a3] (.tup [pptr SNeedStateReportsValues.cells r.1, .agg (SCodeIndex.cells r.2)]) := by
 unfold workers_play at h
 refine spec_of Tryz.c_workers_play (by simp) ?_
 unfold Tryz.l_workers_play
 refine Ev.seq ?_
 refine W.reg hm ?_
 refine W.mv rfl ?_
 refine W.alloc (dt := true) rfl rfl rfl ?_
 refine W.nil ?_
 refine Ev.seq ?_
 refine Ev.seqJ (γ := Bool) (fun v => ⟨[(0, iP a0), (1, iP a1), (2, iP a2), (3, lP a3), (9, wP 10100), (36, .bool v)], [(10100, eP 31 2 [[iP 0, iP 0]])], 2⟩) (fun v => workers_play_j1 n a0 a1 a2 a3 v = some r) ?_ ?_
 ·refine W.reg hm ?_
  refine W.mv rfl (W.lss rfl rfl ?_)
  refine W.mv rfl ?_
  refine bs h (fun c54 h => ?_) fun c54 h => ?_
  ·refine W.guardF2 rfl c54 ?_
   refine W.guardF2 rfl c54 ?_
   refine W.pickT rfl rfl rfl c54 ?_
   refine W.mv rfl (W.guardF2 rfl rfl ?_)
   refine W.guardF2 rfl rfl (W.pickT rfl rfl rfl rfl ?_)
   refine W.mv rfl (W.guardF2 rfl rfl ?_)
   refine W.guardF2 rfl rfl (W.pickT rfl rfl rfl rfl ?_)
   refine W.mv rfl (W.guardF2 rfl rfl ?_)
   refine W.guardF2 rfl rfl (W.pickT rfl rfl rfl rfl ?_)
   refine W.mv rfl (W.guardF2 rfl rfl ?_)
   refine W.guardF2 rfl rfl (W.guardF2 rfl rfl ?_)
   refine W.pickT rfl rfl rfl rfl (W.nil ?_)
   exact lf true h
  ·refine W.guardT rfl c54 ?_
   refine W.mv rfl ?_
   refine W.guardT rfl c54 ?_
   refine W.gtr rfl rfl ?_
   refine W.pickN rfl rfl rfl c54 ?_
   refine W.mv rfl ?_
   refine bs h (fun c55 h => ?_) fun c55 h => ?_
   ·refine W.guardF2 rfl c55 ?_
    refine W.guardF2 rfl c55 ?_
    refine W.pickT rfl rfl rfl c55 ?_
    refine W.mv rfl (W.guardF2 rfl rfl ?_)
    refine W.guardF2 rfl rfl (W.pickT rfl rfl rfl rfl ?_)
    refine W.mv rfl (W.guardF2 rfl rfl ?_)
    refine W.guardF2 rfl rfl (W.pickT rfl rfl rfl rfl ?_)
    refine W.mv rfl (W.guardF2 rfl rfl ?_)
    refine W.guardF2 rfl rfl (W.guardF2 rfl rfl ?_)
    refine W.pickT rfl rfl rfl rfl (W.nil ?_)
    exact lf true h
   ·refine W.guardT rfl c55 ?_
    refine W.mv rfl ?_
    refine W.guardT rfl c55 ?_
    refine W.lss rfl rfl ?_
    refine W.pickN rfl rfl rfl c55 ?_
    refine W.mv rfl ?_
    refine bs h (fun c56 h => ?_) fun c56 h => ?_
    ·refine W.guardF2 rfl c56 ?_
     refine W.guardF2 rfl c56 ?_
     refine W.pickT rfl rfl rfl c56 ?_
     refine W.mv rfl (W.guardF2 rfl rfl ?_)
     refine W.guardF2 rfl rfl (W.pickT rfl rfl rfl rfl ?_)
     refine W.mv rfl (W.guardF2 rfl rfl ?_)
     refine W.guardF2 rfl rfl (W.guardF2 rfl rfl ?_)
     refine W.pickT rfl rfl rfl rfl (W.nil ?_)
     exact lf true h
    ·refine W.guardT rfl c56 ?_
     refine W.mv rfl ?_
     refine W.guardT rfl c56 ?_
     refine W.gtr rfl rfl ?_
     refine W.pickN rfl rfl rfl c56 ?_
     refine W.mv rfl ?_
     refine bs h (fun c57 h => ?_) fun c57 h => ?_
     ·refine W.guardF2 rfl c57 ?_
      refine W.guardF2 rfl c57 ?_
      refine W.pickT rfl rfl rfl c57 ?_
      refine W.mv rfl (W.guardF2 rfl rfl ?_)
      refine W.guardF2 rfl rfl (W.guardF2 rfl rfl ?_)
      refine W.pickT rfl rfl rfl rfl (W.nil ?_)
      exact lf true h
     ·refine W.guardT rfl c57 ?_
      refine W.mv rfl ?_
      refine W.guardT rfl c57 ?_
      refine W.lss rfl rfl ?_
      refine W.pickN rfl rfl rfl c57 ?_
      refine W.mv rfl ?_
      refine bs h (fun c58 h => ?_) fun c58 h => ?_
      ·refine W.guardF2 rfl c58 ?_
       refine W.guardF2 rfl c58 ?_
       refine W.guardF2 rfl c58 ?_
       refine W.pickT rfl rfl rfl c58 ?_
       refine W.nil ?_
       exact lf true h
      ·refine W.guardT rfl c58 ?_
       refine W.mv rfl ?_
       refine W.guardT rfl c58 ?_
       refine W.mv rfl ?_
       refine W.guardT rfl c58 ?_
       refine W.gtr rfl rfl ?_
       refine W.pickN rfl rfl rfl c58 ?_
       refine W.nil ?_
       exact lf (decide (a1 < a2)) h
 ·intro x1 h
  try dsimp only at h ⊢
  unfold workers_play_j1 at h
  refine bs h (fun c1 h => ?_) fun c1 h => ?_
  ·refine Ev.condT rfl c1 ?_
   refine Ev.seq ?_
   refine W.reg hm ?_
   refine W.build (cs := [iP 3, iP (-1)]) rfl rfl rfl ?_
   refine W.mv rfl ?_
   refine W.store (es' := [[iP 3, iP (-1)]]) (dt := true) rfl rfl rfl rfl rfl (Nat.le_of_ble_eq_true rfl) rfl rfl rfl rfl ?_
   refine W.nil ?_
   refine Ev.ret ?_
   cases h
   exact ⟨_, rfl, .refl _⟩
  ·refine Ev.condF rfl c1 ?_
   refine Ev.skip ?_
   refine Ev.seq (Ev.seq ?_)
   refine W.reg hm ?_
   refine W.mv rfl ?_
   refine W.lenL (c := SKindWorkerJobValue.cells) rfl ?_
   refine W.gtr rfl rfl (W.nil ?_)
   refine bs h (fun c2 h => ?_) fun c2 h => ?_
   ·refine Ev.condT rfl c2 ?_
    refine Ev.seq ?_
    refine W.reg hm ?_
    refine W.build (cs := [iP 2, iP (-1)]) rfl rfl rfl ?_
    refine W.mv rfl ?_
    refine W.store (es' := [[iP 2, iP (-1)]]) (dt := true) rfl rfl rfl rfl rfl (Nat.le_of_ble_eq_true rfl) rfl rfl rfl rfl ?_
    refine W.nil ?_
    refine Ev.ret ?_
    cases h
    exact ⟨_, rfl, .refl _⟩
   ·refine Ev.condF rfl c2 ?_
    refine Ev.skip ?_
    refine Ev.seq ?_
    refine W.reg hm ?_
    refine W.mv rfl (W.mv rfl ?_)
    obtain ⟨r2, k3, h⟩ := obind h
    refine W.callO (workers_fill_spec n a1 (-1) r2 k3) rfl (Les.refl _) rfl rfl rfl ?_
    refine W.mv rfl ?_
    obtain ⟨r3, k4, h⟩ := obind h
    refine W.callO (workers_fill_spec n a0 (-1) r3 k4) rfl (Les.refl _) rfl rfl rfl ?_
    refine W.build (cs := [iP a2, .own 44 2, .nils, .own 46 2]) rfl rfl rfl ?_
    refine W.box (dt := false) (cs := [iP a2, .own 44 2, .nils, .own 46 2]) rfl rfl rfl rfl rfl rfl ?_
    refine W.mv rfl (W.nil ?_)
    refine Ev.seq (Ev.seq ?_)
    refine W.reg hm ?_
    refine W.mv rfl (W.mv rfl ?_)
    refine W.nil ?_
    refine Ev.block ?_
    refine Ev.loopW (β := Nat × (List (List Int)) × Int) (fun v => ⟨[(1, iP a1), (3, lP a3), (9, wP 10200), (10, wP 10201), (49, iP a0), (50, iP v.2.2)], [(10200, eP 31 2 [[iP 0, iP 0]]), (10201, ⟨0, 126, 4, [[iP a2, .own 10202 0, .own 10203 0, .own 10204 0]], false, false, false⟩), (10202, eP 3 1 (mP r2)), (10203, ⟨0, 40, 1, outr 2000000 v.2.1.length, false, false, false⟩), (10204, eP 3 1 (mP r3))] ++ fam 2000000 3 1 cI v.2.1, 2⟩) (fun v => workers_play_l1 n a0 a1 a2 a3 r2 r3 v.1 v.2.1 v.2.2 = some r) (fun v => v.1) (n, ([] : List (List Int)), 0) ((Wk.ownNilCell 48 2 2 30203 40 1 rfl rfl rfl rfl rfl (by simp) false).trans (Wk.nrmF0 (B := 2000000) (elem := 3) (sz := 1) (xss := ([] : List (List Int))) (c := cI) (L := [(48, ⟨2, 126, 4, [[iP a2, .own 44 2, .own 30203 2, .own 46 2]], false, true, false⟩), (30203, ⟨2, 40, 1, outr 2000000 ([] : List (List Int)).length, false, true, false⟩), (48, ⟨2, 126, 4, [[iP a2, .own 44 2, .nils, .own 46 2]], false, true, false⟩), (46, ⟨2, 3, 1, mP r3, true, true, false⟩), (44, ⟨2, 3, 1, mP r2, true, true, false⟩), (10100, eP 31 2 [[iP 0, iP 0]])]) [1, 3, 9, 10, 49, 50] [(10100, 10200), (48, 10201), (44, 10202), (30203, 10203), (46, 10204)] 30203 rfl rfl rfl rfl rfl rfl rfl rfl)) h ?_
    intro ⟨m1, z4, x5⟩ h
    try dsimp only at h ⊢
    cases m1 with
    | zero => rw [workers_play_l1] at h; cases h
    | succ m1 =>
     rw [workers_play_l1] at h
     refine Ev.seq ?_
     refine W.reg hm ?_
     refine W.lss rfl rfl (W.nil ?_)
     refine Ev.seq ?_
     refine bs h (fun c5 h => ?_) fun c5 h => ?_
     ·refine Ev.condT rfl c5 ?_
      refine Ev.skip ?_
      refine Ev.seq ?_
      refine Ev.block ?_
      refine W.regD hm ?_
      refine W.mv rfl (W.mv rfl ?_)
      refine W.nilCheckO rfl rfl (W.fieldAddrO rfl rfl ?_)
      refine W.loadO (p := .own 10203 0) rfl rfl rfl rfl ?_
      refine W.mv rfl ?_
      obtain ⟨r6, k6, h⟩ := obind h
      refine W.callO (workers_fill_spec n a1 (-1) r6 k6) rfl (Les.refl _) rfl (fresh_fam (α := Int) (by repeat (first | exact .base (by decide) | refine .cons (by decide) ?_))) rfl ?_
      refine W.mkSlice (dt := false) (es := [[.own 58 2]]) rfl rfl (fresh_fam (α := Int) (by repeat (first | exact .base (by decide) | refine .cons (by decide) ?_))) rfl rfl rfl ?_
      obtain ⟨w7, k7, h⟩ := obind h
      refine W.appFO (B := 2000000) rfl rfl rfl rfl rfl rfl rfl (fresh_fam (α := Int) (by repeat (first | exact .base (by decide) | refine .cons (by decide) ?_))) k7 rfl (by simp) ?_
      refine W.nilCheckO rfl rfl (W.fieldAddrO rfl rfl ?_)
      refine W.store (es' := [[iP a2, .own 10202 0, .own 60 2, .own 10204 0]]) (dt := false) rfl rfl rfl rfl rfl (Nat.le_of_ble_eq_true rfl) rfl rfl rfl rfl ?_
      refine W.nil ⟨rfl, ?_⟩
      refine W.reg hm ?_
      obtain ⟨x8, k8, h⟩ := obind h
      refine W.addG rfl rfl k8 ?_
      refine W.mv rfl (W.nil ?_)
      exact ⟨(m1, (z4 ++ [r6]), x8), h, Nat.lt_succ_self _, Wk.nrmF1 (B := 2000000) (elem := 3) (sz := 1) (xss := z4) (c := cI) (L := [(10201, ⟨0, 126, 4, [[iP a2, .own 10202 0, .own 60 2, .own 10204 0]], false, false, false⟩), (60, ⟨2, 40, 1, outr 2000000 z4.length ++ [[.own 58 2]], false, true, false⟩), (10203, ⟨0, 40, 1, outr 2000000 z4.length, false, false, true⟩), (59, ⟨2, 40, 1, [[.own 58 2]], false, true, false⟩), (58, ⟨2, 3, 1, mP r6, true, true, false⟩), (10200, eP 31 2 [[iP 0, iP 0]]), (10201, ⟨0, 126, 4, [[iP a2, .own 10202 0, .own 10203 0, .own 10204 0]], false, false, false⟩), (10202, eP 3 1 (mP r2)), (10203, ⟨0, 40, 1, outr 2000000 z4.length, false, false, false⟩), (10204, eP 3 1 (mP r3))]) [1, 3, 9, 10, 49, 50] [(10200, 10200), (10201, 10201), (10202, 10202), (60, 10203), (10204, 10204)] 60 58 2 r6 rfl rfl rfl rfl rfl rfl rfl (by decide) rfl ⟨rfl, rfl, rfl, rfl⟩ rfl rfl⟩
     ·refine Ev.condF rfl c5 ?_
      refine Ev.exit ?_
      refine Ev.seq (Ev.seq ?_)
      refine W.reg hm ?_
      refine W.mv rfl ?_
      refine W.lenL (c := SKindWorkerJobValue.cells) rfl ?_
      refine W.mv rfl (W.nil ?_)
      refine Ev.block ?_
      refine Ev.loopW (β := Nat × (List Int) × (List (List Int)) × (List Int) × Int) (fun v => ⟨[(9, wP 10300), (10, wP 10301), (64, lP a3), (65, iP (a3.length : Int)), (66, iP v.2.2.2.2)], [(10300, eP 31 2 [[iP 0, iP 0]]), (10301, ⟨0, 126, 4, [[iP a2, .own 10302 0, .own 10303 0, .own 10304 0]], false, false, false⟩), (10302, eP 3 1 (mP v.2.1)), (10303, ⟨0, 40, 1, outr 2000000 v.2.2.1.length, false, false, false⟩), (10304, eP 3 1 (mP v.2.2.2.1))] ++ fam 2000000 3 1 cI v.2.2.1, 2⟩) (fun v => workers_play_l2 n a2 a3 v.1 v.2.1 v.2.2.1 v.2.2.2.1 v.2.2.2.2 = some r) (fun v => v.1) (n, r2, z4, r3, 0) (Wk.nrmF0 (B := 2000000) (elem := 3) (sz := 1) (xss := z4) (c := cI) (L := [(10200, eP 31 2 [[iP 0, iP 0]]), (10201, ⟨0, 126, 4, [[iP a2, .own 10202 0, .own 10203 0, .own 10204 0]], false, false, false⟩), (10202, eP 3 1 (mP r2)), (10203, ⟨0, 40, 1, outr 2000000 z4.length, false, false, false⟩), (10204, eP 3 1 (mP r3))]) [9, 10, 64, 65, 66] [(10200, 10300), (10201, 10301), (10202, 10302), (10203, 10303), (10204, 10304)] 10203 rfl rfl rfl rfl rfl rfl rfl rfl) h ?_
      intro ⟨m2, w9, z10, w11, x12⟩ h
      try dsimp only at h ⊢
      cases m2 with
      | zero => rw [workers_play_l2] at h; cases h
      | succ m2 =>
       rw [workers_play_l2] at h
       refine Ev.seq ?_
       refine W.reg hm ?_
       refine W.lss rfl rfl (W.nil ?_)
       refine Ev.seq ?_
       refine bs h (fun c9 h => ?_) fun c9 h => ?_
       ·refine Ev.condT rfl c9 ?_
        refine Ev.skip ?_
        refine Ev.seq ?_
        refine Ev.block ?_
        refine Ev.seq ?_
        refine W.reg hm ?_
        refine W.mv rfl ?_
        obtain ⟨e13, k10, h⟩ := obind h
        refine W.idxL (c := SKindWorkerJobValue.cells) rfl rfl k10 ?_
        refine W.load rfl rfl ?_
        refine W.alloc (dt := true) (fresh_fam (α := Int) (by repeat (first | exact .base (by decide) | refine .cons (by decide) ?_))) rfl rfl ?_
        refine W.mv rfl ?_
        refine W.store (es' := [[iP e13.Kind, iP e13.Worker, iP e13.Job, iP e13.Value]]) (dt := true) rfl rfl rfl rfl rfl (Nat.le_of_ble_eq_true rfl) rfl rfl rfl rfl ?_
        refine W.nil ?_
        refine Ev.seq ?_
        refine Ev.regS rfl ?_
        refine Sq.w 2 nb ?_
        refine W.mv rfl ?_
        refine W.loadO (p := .agg [iP e13.Kind, iP e13.Worker, iP e13.Job, iP e13.Value]) rfl rfl rfl rfl ?_
        refine W.nil ?_
        refine Sq.weak (st' := ⟨[(9, wP 10300), (10, wP 10301), (11, iP x12), (64, lP a3), (65, iP (a3.length : Int)), (66, iP x12), (71, wP 10301), (72, .agg [iP e13.Kind, iP e13.Worker, iP e13.Job, iP e13.Value])], [(10300, eP 31 2 [[iP 0, iP 0]]), (10301, ⟨0, 126, 4, [[iP a2, .own 10302 0, .own 10303 0, .own 10304 0]], false, false, false⟩), (10302, eP 3 1 (mP w9)), (10303, ⟨0, 40, 1, outr 2000000 z10.length, false, false, false⟩), (10304, eP 3 1 (mP w11))] ++ fam 2000000 3 1 cI z10, 2⟩) ?_ (Wk.nrmF0 (B := 2000000) (elem := 3) (sz := 1) (xss := z10) (c := cI) (L := [(12, ⟨2, 66, 4, [[iP e13.Kind, iP e13.Worker, iP e13.Job, iP e13.Value]], true, true, false⟩), (12, ⟨2, 66, 4, [[iP 0, iP 0, iP 0, iP 0]], true, true, false⟩), (10300, eP 31 2 [[iP 0, iP 0]]), (10301, ⟨0, 126, 4, [[iP a2, .own 10302 0, .own 10303 0, .own 10304 0]], false, false, false⟩), (10302, eP 3 1 (mP w9)), (10303, ⟨0, 40, 1, outr 2000000 z10.length, false, false, false⟩), (10304, eP 3 1 (mP w11))]) [9, 10, 11, 64, 65, 66, 71, 72] [(10300, 10300), (10301, 10301), (10302, 10302), (10303, 10303), (10304, 10304)] 10303 rfl rfl rfl rfl rfl rfl rfl rfl)
        refine Sq.call rfl Tryz.c_workers_farm_step ⟨_, rfl, nb, ?_⟩
        unfold Tryz.l_workers_farm_step
        refine Ev.retJ (γ := Int × (List Int) × (List (List Int)) × (List Int)) (fun v => ⟨[(4, iP v.1), (65545, wP 10400), (65546, wP 10401), (65547, iP x12), (65600, lP a3), (65601, iP (a3.length : Int)), (65602, iP x12)], [(10400, eP 31 2 [[iP 0, iP 0]]), (10401, ⟨0, 126, 4, [[iP a2, .own 10402 0, .own 10403 0, .own 10404 0]], false, false, false⟩), (10402, eP 3 1 (mP v.2.1)), (10403, ⟨0, 40, 1, outr 2000000 v.2.2.1.length, false, false, false⟩), (10404, eP 3 1 (mP v.2.2.2))] ++ fam 2000000 3 1 cI v.2.2.1, 2⟩) (fun v => workers_play_j2 n x12 (workers_play_l2 n a2 a3 m2) v.1 v.2.1 v.2.2.1 v.2.2.2 = some r) ?_ ?_
        ·refine Ev.seq ?_
         refine W.reg hm ?_
         refine W.box (dt := true) (cs := [iP e13.Kind, iP e13.Worker, iP e13.Job, iP e13.Value]) rfl (fresh_fam (α := Int) (by repeat (first | exact .base (by decide) | refine .cons (by decide) ?_))) rfl rfl rfl rfl ?_
         refine W.mv rfl (W.nil ?_)
         refine Ev.seq (Ev.seq ?_)
         refine Ev.regS rfl ?_
         refine Sq.w 2 nb ?_
         refine W.mv rfl ?_
         refine W.loadO (p := .agg [iP e13.Kind, iP e13.Worker, iP e13.Job, iP e13.Value]) rfl rfl rfl rfl ?_
         refine W.nil ?_
         refine Sq.weak (st' := ⟨[(0, wP 10400), (3, wP 10404), (8, wP 10400), (9, .agg [iP e13.Kind, iP e13.Worker, iP e13.Job, iP e13.Value]), (65545, wP 10405), (65546, wP 10400), (65547, iP x12), (65600, lP a3), (65601, iP (a3.length : Int)), (65602, iP x12)], [(10400, ⟨0, 126, 4, [[iP a2, .own 10401 0, .own 10402 0, .own 10403 0]], false, false, false⟩), (10401, eP 3 1 (mP w9)), (10402, ⟨0, 40, 1, outr 2000000 z10.length, false, false, false⟩), (10403, eP 3 1 (mP w11)), (10404, eP 66 4 [[iP e13.Kind, iP e13.Worker, iP e13.Job, iP e13.Value]]), (10405, eP 31 2 [[iP 0, iP 0]])] ++ fam 2000000 3 1 cI z10, 2⟩) ?_ (Wk.nrmF0 (B := 2000000) (elem := 3) (sz := 1) (xss := z10) (c := cI) (L := [(3, ⟨2, 66, 4, [[iP e13.Kind, iP e13.Worker, iP e13.Job, iP e13.Value]], true, true, false⟩), (10300, eP 31 2 [[iP 0, iP 0]]), (10301, ⟨0, 126, 4, [[iP a2, .own 10302 0, .own 10303 0, .own 10304 0]], false, false, false⟩), (10302, eP 3 1 (mP w9)), (10303, ⟨0, 40, 1, outr 2000000 z10.length, false, false, false⟩), (10304, eP 3 1 (mP w11))]) [0, 3, 8, 9, 65545, 65546, 65547, 65600, 65601, 65602] [(10301, 10400), (10302, 10401), (10303, 10402), (10304, 10403), (3, 10404), (10300, 10405)] 10303 rfl rfl rfl rfl rfl rfl rfl rfl)
         refine Sq.call rfl Tryz.c_workers_farm_form ⟨_, rfl, nb, ?_⟩
         unfold Tryz.l_workers_farm_form
         refine Ev.retJ (γ := Int) (fun v => ⟨[(4, iP v), (65536, wP 10500), (65539, wP 10504), (131081, wP 10505), (131082, wP 10500), (131083, iP x12), (131136, lP a3), (131137, iP (a3.length : Int)), (131138, iP x12)], [(10500, ⟨0, 126, 4, [[iP a2, .own 10501 0, .own 10502 0, .own 10503 0]], false, false, false⟩), (10501, eP 3 1 (mP w9)), (10502, ⟨0, 40, 1, outr 2000000 z10.length, false, false, false⟩), (10503, eP 3 1 (mP w11)), (10504, eP 66 4 [[iP e13.Kind, iP e13.Worker, iP e13.Job, iP e13.Value]]), (10505, eP 31 2 [[iP 0, iP 0]])] ++ fam 2000000 3 1 cI z10, 2⟩) (fun v => workers_play_j3 n a2 w9 z10 w11 x12 (workers_play_l2 n a2 a3 m2) e13 v = some r) ?_ ?_
         ·refine Ev.seq ?_
          refine W.reg hm ?_
          refine W.box (dt := true) (cs := [iP e13.Kind, iP e13.Worker, iP e13.Job, iP e13.Value]) rfl (fresh_fam (α := Int) (by repeat (first | exact .base (by decide) | refine .cons (by decide) ?_))) rfl rfl rfl rfl ?_
          refine W.mv rfl (W.nil ?_)
          refine Ev.seq ?_
          refine W.regD hm ?_
          refine W.fieldAddrO rfl rfl ?_
          refine W.loadO (p := iP e13.Kind) rfl rfl rfl rfl ?_
          refine W.eql rfl rfl (W.fieldAddrO rfl rfl ?_)
          refine W.loadO (p := iP e13.Kind) rfl rfl rfl rfl ?_
          refine W.eql rfl rfl (W.mv rfl ?_)
          refine W.mv rfl ?_
          refine W.nil ⟨rfl, ?_⟩
          refine Ev.seq ?_
          refine Ev.block ?_
          refine Ev.seqJ (γ := Bool) (fun v => ⟨[(0, wP 10400), (3, .pown 3 2 0 0), (5, .bool (decide (e13.Kind = 1))), (6, .bool (decide (e13.Kind = 2))), (13, .bool v), (65536, wP 10400), (65539, wP 10404), (131081, wP 10405), (131082, wP 10400), (131083, iP x12), (131136, lP a3), (131137, iP (a3.length : Int)), (131138, iP x12)], [(3, ⟨2, 66, 4, [[iP e13.Kind, iP e13.Worker, iP e13.Job, iP e13.Value]], true, true, false⟩), (10400, ⟨0, 126, 4, [[iP a2, .own 10401 0, .own 10402 0, .own 10403 0]], false, false, false⟩), (10401, eP 3 1 (mP w9)), (10402, ⟨0, 40, 1, outr 2000000 z10.length, false, false, false⟩), (10403, eP 3 1 (mP w11)), (10404, eP 66 4 [[iP e13.Kind, iP e13.Worker, iP e13.Job, iP e13.Value]]), (10405, eP 31 2 [[iP 0, iP 0]])] ++ fam 2000000 3 1 cI z10, 2⟩) (fun v => workers_play_j8 n a2 w9 z10 w11 x12 (workers_play_l2 n a2 a3 m2) e13 v = some r) ?_ ?_
          ·refine W.reg hm ?_
           refine W.fieldAddrO rfl rfl ?_
           refine W.loadO (p := iP e13.Kind) rfl rfl rfl rfl ?_
           refine W.lss rfl rfl (W.mv rfl ?_)
           refine bs h (fun c53 h => ?_) fun c53 h => ?_
           ·refine W.guardF2 rfl c53 ?_
            refine W.guardF2 rfl c53 ?_
            refine W.guardF2 rfl c53 ?_
            refine W.pickT rfl rfl rfl c53 ?_
            refine W.mv rfl (W.nil ?_)
            exact ⟨true, h, Wk.keep [0, 3, 5, 6, 13, 65536, 65539, 131081, 131082, 131083, 131136, 131137, 131138] rfl⟩
           ·refine W.guardT rfl c53 ?_
            refine W.fieldAddrO rfl rfl ?_
            refine W.guardT rfl c53 ?_
            refine W.loadO (p := iP e13.Kind) rfl rfl rfl rfl ?_
            refine W.guardT rfl c53 ?_
            refine W.gtr rfl rfl ?_
            refine W.pickN rfl rfl rfl c53 ?_
            refine W.mv rfl (W.nil ?_)
            exact ⟨(decide (4 < e13.Kind)), h, Wk.keep [0, 3, 5, 6, 13, 65536, 65539, 131081, 131082, 131083, 131136, 131137, 131138] rfl⟩
          ·intro x39 h
           try dsimp only at h ⊢
           unfold workers_play_j8 at h
           refine bs h (fun c37 h => ?_) fun c37 h => ?_
           ·refine Ev.condT rfl c37 ?_
            refine Ev.seq ?_
            refine W.reg hm ?_
            refine W.mv rfl (W.nil ?_)
            refine Ev.ret ?_
            exact ⟨4, h, Wk.nrmF0 (B := 2000000) (elem := 3) (sz := 1) (xss := z10) (c := cI) (L := [(3, ⟨2, 66, 4, [[iP e13.Kind, iP e13.Worker, iP e13.Job, iP e13.Value]], true, true, false⟩), (10400, ⟨0, 126, 4, [[iP a2, .own 10401 0, .own 10402 0, .own 10403 0]], false, false, false⟩), (10401, eP 3 1 (mP w9)), (10402, ⟨0, 40, 1, outr 2000000 z10.length, false, false, false⟩), (10403, eP 3 1 (mP w11)), (10404, eP 66 4 [[iP e13.Kind, iP e13.Worker, iP e13.Job, iP e13.Value]]), (10405, eP 31 2 [[iP 0, iP 0]])]) [4, 65536, 65539, 131081, 131082, 131083, 131136, 131137, 131138] [(10400, 10500), (10401, 10501), (10402, 10502), (10403, 10503), (10404, 10504), (10405, 10505)] 10402 rfl rfl rfl rfl rfl rfl rfl rfl⟩
           ·refine Ev.condF rfl c37 ?_
            refine Ev.seqJ (γ := Bool) (fun v => ⟨[(0, wP 10400), (3, .pown 3 2 0 0), (5, .bool (decide (e13.Kind = 1))), (6, .bool (decide (e13.Kind = 2))), (22, .bool v), (65536, wP 10400), (65539, wP 10404), (131081, wP 10405), (131082, wP 10400), (131083, iP x12), (131136, lP a3), (131137, iP (a3.length : Int)), (131138, iP x12)], [(3, ⟨2, 66, 4, [[iP e13.Kind, iP e13.Worker, iP e13.Job, iP e13.Value]], true, true, false⟩), (10400, ⟨0, 126, 4, [[iP a2, .own 10401 0, .own 10402 0, .own 10403 0]], false, false, false⟩), (10401, eP 3 1 (mP w9)), (10402, ⟨0, 40, 1, outr 2000000 z10.length, false, false, false⟩), (10403, eP 3 1 (mP w11)), (10404, eP 66 4 [[iP e13.Kind, iP e13.Worker, iP e13.Job, iP e13.Value]]), (10405, eP 31 2 [[iP 0, iP 0]])] ++ fam 2000000 3 1 cI z10, 2⟩) (fun v => workers_play_j9 n a2 w9 z10 w11 x12 (workers_play_l2 n a2 a3 m2) e13 v = some r) ?_ ?_
            ·refine W.regD hm ?_
             refine W.fieldAddrO rfl rfl ?_
             refine W.loadO (p := iP e13.Worker) rfl rfl rfl rfl ?_
             refine W.lss rfl rfl (W.mv rfl ?_)
             refine bs h (fun c52 h => ?_) fun c52 h => ?_
             ·refine W.guardF2 rfl c52 ?_
              refine W.guardF2 rfl c52 ?_
              refine W.guardF2 rfl c52 ?_
              refine W.guardF2 rfl c52 ?_
              refine W.guardF2 rfl c52 ?_
              refine W.guardF2 rfl c52 ?_
              refine W.guardF2 rfl c52 ?_
              refine W.guardF2 rfl c52 ?_
              refine W.pickT rfl rfl rfl c52 ?_
              refine W.mv rfl ?_
              refine W.nil ⟨rfl, ?_⟩
              exact ⟨true, h, Wk.keep [0, 3, 5, 6, 22, 65536, 65539, 131081, 131082, 131083, 131136, 131137, 131138] rfl⟩
             ·refine W.guardT rfl c52 ?_
              refine W.fieldAddrO rfl rfl ?_
              refine W.guardT rfl c52 ?_
              refine W.loadO (p := iP e13.Worker) rfl rfl rfl rfl ?_
              refine W.guardT rfl c52 ?_
              refine W.mv rfl ?_
              refine W.guardT rfl c52 ?_
              refine W.nilCheckO rfl rfl ?_
              refine W.guardT rfl c52 ?_
              refine W.fieldAddrO rfl rfl ?_
              refine W.guardT rfl c52 ?_
              refine W.loadO (p := .own 10401 0) rfl rfl rfl rfl ?_
              refine W.guardT rfl c52 ?_
              refine W.lenO (l := w9) (c := cI) rfl rfl rfl ?_
              refine W.guardT rfl c52 ?_
              refine W.geq rfl rfl ?_
              refine W.pickN rfl rfl rfl c52 ?_
              refine W.mv rfl ?_
              refine W.nil ⟨rfl, ?_⟩
              exact ⟨(decide ((w9.length : Int) ≤ e13.Worker)), h, Wk.keep [0, 3, 5, 6, 22, 65536, 65539, 131081, 131082, 131083, 131136, 131137, 131138] rfl⟩
            ·intro x40 h
             try dsimp only at h ⊢
             unfold workers_play_j9 at h
             refine bs h (fun c38 h => ?_) fun c38 h => ?_
             ·refine Ev.condT rfl c38 ?_
              refine Ev.seq ?_
              refine W.reg hm ?_
              refine W.mv rfl (W.nil ?_)
              refine Ev.ret ?_
              exact ⟨3, h, Wk.nrmF0 (B := 2000000) (elem := 3) (sz := 1) (xss := z10) (c := cI) (L := [(3, ⟨2, 66, 4, [[iP e13.Kind, iP e13.Worker, iP e13.Job, iP e13.Value]], true, true, false⟩), (10400, ⟨0, 126, 4, [[iP a2, .own 10401 0, .own 10402 0, .own 10403 0]], false, false, false⟩), (10401, eP 3 1 (mP w9)), (10402, ⟨0, 40, 1, outr 2000000 z10.length, false, false, false⟩), (10403, eP 3 1 (mP w11)), (10404, eP 66 4 [[iP e13.Kind, iP e13.Worker, iP e13.Job, iP e13.Value]]), (10405, eP 31 2 [[iP 0, iP 0]])]) [4, 65536, 65539, 131081, 131082, 131083, 131136, 131137, 131138] [(10400, 10500), (10401, 10501), (10402, 10502), (10403, 10503), (10404, 10504), (10405, 10505)] 10402 rfl rfl rfl rfl rfl rfl rfl rfl⟩
             ·refine Ev.condF rfl c38 ?_
              refine Ev.seqJ (γ := Bool) (fun v => ⟨[(0, wP 10400), (3, .pown 3 2 0 0), (5, .bool (decide (e13.Kind = 1))), (6, .bool (decide (e13.Kind = 2))), (36, .bool v), (65536, wP 10400), (65539, wP 10404), (131081, wP 10405), (131082, wP 10400), (131083, iP x12), (131136, lP a3), (131137, iP (a3.length : Int)), (131138, iP x12)], [(3, ⟨2, 66, 4, [[iP e13.Kind, iP e13.Worker, iP e13.Job, iP e13.Value]], true, true, false⟩), (10400, ⟨0, 126, 4, [[iP a2, .own 10401 0, .own 10402 0, .own 10403 0]], false, false, false⟩), (10401, eP 3 1 (mP w9)), (10402, ⟨0, 40, 1, outr 2000000 z10.length, false, false, false⟩), (10403, eP 3 1 (mP w11)), (10404, eP 66 4 [[iP e13.Kind, iP e13.Worker, iP e13.Job, iP e13.Value]]), (10405, eP 31 2 [[iP 0, iP 0]])] ++ fam 2000000 3 1 cI z10, 2⟩) (fun v => workers_play_j10 n a2 w9 z10 w11 x12 (workers_play_l2 n a2 a3 m2) e13 v = some r) ?_ ?_
              ·refine W.reg hm ?_
               refine W.mv rfl (W.not rfl ?_)
               refine W.mv rfl ?_
               refine bs h (fun c48 h => ?_) fun c48 h => ?_
               ·refine W.guardT rfl c48 ?_
                refine W.fieldAddrO rfl rfl ?_
                refine W.guardT rfl c48 ?_
                refine W.loadO (p := iP e13.Job) rfl rfl rfl rfl ?_
                refine W.guardT rfl c48 ?_
                refine W.neq rfl rfl ?_
                refine W.pickT rfl rfl rfl c48 ?_
                refine W.mv rfl ?_
                refine bs h (fun c49 h => ?_) fun c49 h => ?_
                ·refine W.guardF2 rfl c49 ?_
                 refine W.guardF2 rfl c49 ?_
                 refine W.guardF2 rfl c49 ?_
                 refine W.guardU rfl (W.guardU rfl ?_)
                 refine W.guardU rfl ?_
                 refine W.guardF2 rfl c49 ?_
                 refine W.pickT rfl rfl rfl c49 ?_
                 refine W.mv rfl (W.nil ?_)
                 exact ⟨true, h, Wk.keep [0, 3, 5, 6, 36, 65536, 65539, 131081, 131082, 131083, 131136, 131137, 131138] rfl⟩
                ·refine W.guardT rfl c49 ?_
                 refine W.mv rfl ?_
                 refine W.guardT rfl c49 ?_
                 refine W.not rfl ?_
                 refine W.guardT rfl c49 ?_
                 refine W.mv rfl ?_
                 refine bs h (fun c50 h => ?_) fun c50 h => ?_
                 ·refine W.guardT rfl c50 ?_
                  refine W.fieldAddrO rfl rfl ?_
                  refine W.guardT rfl c50 ?_
                  refine W.loadO (p := iP e13.Value) rfl rfl rfl rfl ?_
                  refine W.guardT rfl c50 ?_
                  refine W.neq rfl rfl ?_
                  refine W.guardT rfl c49 ?_
                  refine W.pickT rfl rfl rfl c50 ?_
                  refine W.pickN rfl rfl rfl c49 ?_
                  refine W.mv rfl (W.nil ?_)
                  exact ⟨(decide (e13.Value ≠ 0)), h, Wk.keep [0, 3, 5, 6, 36, 65536, 65539, 131081, 131082, 131083, 131136, 131137, 131138] rfl⟩
                 ·refine W.guardF1 rfl c50 ?_
                  refine W.guardF1 rfl c50 ?_
                  refine W.guardF1 rfl c50 ?_
                  refine W.guardT rfl c49 ?_
                  refine W.pickN rfl rfl rfl c50 ?_
                  refine W.pickN rfl rfl rfl c49 ?_
                  refine W.mv rfl (W.nil ?_)
                  exact ⟨false, h, Wk.keep [0, 3, 5, 6, 36, 65536, 65539, 131081, 131082, 131083, 131136, 131137, 131138] rfl⟩
               ·refine W.guardF1 rfl c48 ?_
                refine W.guardF1 rfl c48 ?_
                refine W.guardF1 rfl c48 ?_
                refine W.pickN rfl rfl rfl c48 ?_
                refine W.mv rfl (W.guardT rfl rfl ?_)
                refine W.mv rfl (W.guardT rfl rfl ?_)
                refine W.not rfl (W.guardT rfl rfl ?_)
                refine W.mv rfl ?_
                refine bs h (fun c51 h => ?_) fun c51 h => ?_
                ·refine W.guardT rfl c51 ?_
                 refine W.fieldAddrO rfl rfl ?_
                 refine W.guardT rfl c51 ?_
                 refine W.loadO (p := iP e13.Value) rfl rfl rfl rfl ?_
                 refine W.guardT rfl c51 ?_
                 refine W.neq rfl rfl (W.guardT rfl rfl ?_)
                 refine W.pickT rfl rfl rfl c51 ?_
                 refine W.pickN rfl rfl rfl rfl (W.mv rfl ?_)
                 refine W.nil ?_
                 exact ⟨(decide (e13.Value ≠ 0)), h, Wk.keep [0, 3, 5, 6, 36, 65536, 65539, 131081, 131082, 131083, 131136, 131137, 131138] rfl⟩
                ·refine W.guardF1 rfl c51 ?_
                 refine W.guardF1 rfl c51 ?_
                 refine W.guardF1 rfl c51 ?_
                 refine W.guardT rfl rfl ?_
                 refine W.pickN rfl rfl rfl c51 ?_
                 refine W.pickN rfl rfl rfl rfl (W.mv rfl ?_)
                 refine W.nil ?_
                 exact ⟨false, h, Wk.keep [0, 3, 5, 6, 36, 65536, 65539, 131081, 131082, 131083, 131136, 131137, 131138] rfl⟩
              ·intro x41 h
               try dsimp only at h ⊢
               unfold workers_play_j10 at h
               refine bs h (fun c39 h => ?_) fun c39 h => ?_
               ·refine Ev.condT rfl c39 ?_
                refine Ev.seq ?_
                refine W.reg hm ?_
                refine W.mv rfl (W.nil ?_)
                refine Ev.ret ?_
                exact ⟨5, h, Wk.nrmF0 (B := 2000000) (elem := 3) (sz := 1) (xss := z10) (c := cI) (L := [(3, ⟨2, 66, 4, [[iP e13.Kind, iP e13.Worker, iP e13.Job, iP e13.Value]], true, true, false⟩), (10400, ⟨0, 126, 4, [[iP a2, .own 10401 0, .own 10402 0, .own 10403 0]], false, false, false⟩), (10401, eP 3 1 (mP w9)), (10402, ⟨0, 40, 1, outr 2000000 z10.length, false, false, false⟩), (10403, eP 3 1 (mP w11)), (10404, eP 66 4 [[iP e13.Kind, iP e13.Worker, iP e13.Job, iP e13.Value]]), (10405, eP 31 2 [[iP 0, iP 0]])]) [4, 65536, 65539, 131081, 131082, 131083, 131136, 131137, 131138] [(10400, 10500), (10401, 10501), (10402, 10502), (10403, 10503), (10404, 10504), (10405, 10505)] 10402 rfl rfl rfl rfl rfl rfl rfl rfl⟩
               ·refine Ev.condF rfl c39 ?_
                refine Ev.seqJ (γ := Bool) (fun v => ⟨[(53, .bool v), (65536, wP 10400), (65539, wP 10404), (131081, wP 10405), (131082, wP 10400), (131083, iP x12), (131136, lP a3), (131137, iP (a3.length : Int)), (131138, iP x12)], [(3, ⟨2, 66, 4, [[iP e13.Kind, iP e13.Worker, iP e13.Job, iP e13.Value]], true, true, false⟩), (10400, ⟨0, 126, 4, [[iP a2, .own 10401 0, .own 10402 0, .own 10403 0]], false, false, false⟩), (10401, eP 3 1 (mP w9)), (10402, ⟨0, 40, 1, outr 2000000 z10.length, false, false, false⟩), (10403, eP 3 1 (mP w11)), (10404, eP 66 4 [[iP e13.Kind, iP e13.Worker, iP e13.Job, iP e13.Value]]), (10405, eP 31 2 [[iP 0, iP 0]])] ++ fam 2000000 3 1 cI z10, 2⟩) (fun v => workers_play_j11 n a2 w9 z10 w11 x12 (workers_play_l2 n a2 a3 m2) e13 v = some r) ?_ ?_
                ·refine W.regD hm ?_
                 refine W.mv rfl (W.mv rfl ?_)
                 refine bs h (fun c41 h => ?_) fun c41 h => ?_
                 ·refine W.guardT rfl c41 ?_
                  refine W.fieldAddrO rfl rfl ?_
                  refine W.guardT rfl c41 ?_
                  refine W.loadO (p := iP e13.Job) rfl rfl rfl rfl ?_
                  refine W.guardT rfl c41 ?_
                  refine W.lss rfl rfl ?_
                  refine W.guardT rfl c41 ?_
                  refine W.mv rfl ?_
                  refine bs h (fun c42 h => ?_) fun c42 h => ?_
                  ·refine W.guardF2 rfl c42 ?_
                   refine W.guardF2 rfl c42 ?_
                   refine W.guardF2 rfl c42 ?_
                   refine W.guardF2 rfl c42 ?_
                   refine W.guardF2 rfl c42 ?_
                   refine W.guardF2 rfl c42 ?_
                   refine W.guardF2 rfl c42 ?_
                   refine W.guardF2 rfl c42 ?_
                   refine W.guardT rfl c41 ?_
                   refine W.pickT rfl rfl rfl c42 ?_
                   refine W.pickT rfl rfl rfl c41 ?_
                   refine W.mv rfl (W.guardF2 rfl rfl ?_)
                   refine W.guardF2 rfl rfl (W.guardU rfl ?_)
                   refine W.guardU rfl (W.guardU rfl ?_)
                   refine W.guardU rfl (W.guardU rfl ?_)
                   refine W.guardU rfl (W.guardU rfl ?_)
                   refine W.guardU rfl (W.guardF2 rfl rfl ?_)
                   refine W.pickT rfl rfl rfl rfl (W.mv rfl ?_)
                   refine W.nil ⟨rfl, ?_⟩
                   exact ⟨true, h, Wk.keep [53, 65536, 65539, 131081, 131082, 131083, 131136, 131137, 131138] rfl⟩
                  ·refine W.guardT rfl c42 ?_
                   refine W.fieldAddrO rfl rfl ?_
                   refine W.guardT rfl c42 ?_
                   refine W.loadO (p := iP e13.Job) rfl rfl rfl rfl ?_
                   refine W.guardT rfl c42 ?_
                   refine W.mv rfl ?_
                   refine W.guardT rfl c42 ?_
                   refine W.nilCheckO rfl rfl ?_
                   refine W.guardT rfl c42 ?_
                   refine W.fieldAddrO rfl rfl ?_
                   refine W.guardT rfl c42 ?_
                   refine W.loadO (p := .own 10403 0) rfl rfl rfl rfl ?_
                   refine W.guardT rfl c42 ?_
                   refine W.lenO (l := w11) (c := cI) rfl rfl rfl ?_
                   refine W.guardT rfl c42 ?_
                   refine W.geq rfl rfl ?_
                   refine W.guardT rfl c41 ?_
                   refine W.pickN rfl rfl rfl c42 ?_
                   refine W.pickT rfl rfl rfl c41 ?_
                   refine W.mv rfl ?_
                   refine bs h (fun c43 h => ?_) fun c43 h => ?_
                   ·refine W.guardF2 rfl c43 ?_
                    refine W.guardF2 rfl c43 ?_
                    refine W.guardU rfl (W.guardU rfl ?_)
                    refine W.guardU rfl (W.guardU rfl ?_)
                    refine W.guardU rfl (W.guardU rfl ?_)
                    refine W.guardU rfl (W.guardU rfl ?_)
                    refine W.guardF2 rfl c43 ?_
                    refine W.pickT rfl rfl rfl c43 ?_
                    refine W.mv rfl ?_
                    refine W.nil ⟨rfl, ?_⟩
                    exact ⟨true, h, Wk.keep [53, 65536, 65539, 131081, 131082, 131083, 131136, 131137, 131138] rfl⟩
                   ·refine W.guardT rfl c43 ?_
                    refine W.mv rfl ?_
                    refine W.guardT rfl c43 ?_
                    refine W.mv rfl ?_
                    refine bs h (fun c44 h => ?_) fun c44 h => ?_
                    ·refine W.guardT rfl c44 ?_
                     refine W.fieldAddrO rfl rfl ?_
                     refine W.guardT rfl c44 ?_
                     refine W.loadO (p := iP e13.Value) rfl rfl rfl rfl ?_
                     refine W.guardT rfl c44 ?_
                     refine W.lss rfl rfl ?_
                     refine W.guardT rfl c44 ?_
                     refine W.mv rfl ?_
                     refine bs h (fun c45 h => ?_) fun c45 h => ?_
                     ·refine W.guardF2 rfl c45 ?_
                      refine W.guardF2 rfl c45 ?_
                      refine W.guardF2 rfl c45 ?_
                      refine W.guardT rfl c44 ?_
                      refine W.pickT rfl rfl rfl c45 ?_
                      refine W.guardT rfl c43 ?_
                      refine W.pickT rfl rfl rfl c44 ?_
                      refine W.pickN rfl rfl rfl c43 ?_
                      refine W.mv rfl ?_
                      refine W.nil ⟨rfl, ?_⟩
                      exact ⟨true, h, Wk.keep [53, 65536, 65539, 131081, 131082, 131083, 131136, 131137, 131138] rfl⟩
                     ·refine W.guardT rfl c45 ?_
                      refine W.fieldAddrO rfl rfl ?_
                      refine W.guardT rfl c45 ?_
                      refine W.loadO (p := iP e13.Value) rfl rfl rfl rfl ?_
                      refine W.guardT rfl c45 ?_
                      refine W.gtr rfl rfl ?_
                      refine W.guardT rfl c44 ?_
                      refine W.pickN rfl rfl rfl c45 ?_
                      refine W.guardT rfl c43 ?_
                      refine W.pickT rfl rfl rfl c44 ?_
                      refine W.pickN rfl rfl rfl c43 ?_
                      refine W.mv rfl ?_
                      refine W.nil ⟨rfl, ?_⟩
                      exact ⟨(decide (1000000000 < e13.Value)), h, Wk.keep [53, 65536, 65539, 131081, 131082, 131083, 131136, 131137, 131138] rfl⟩
                    ·refine W.guardF1 rfl c44 ?_
                     refine W.guardF1 rfl c44 ?_
                     refine W.guardF1 rfl c44 ?_
                     refine W.guardF1 rfl c44 ?_
                     refine W.guardU rfl (W.guardU rfl ?_)
                     refine W.guardU rfl ?_
                     refine W.guardF1 rfl c44 ?_
                     refine W.guardT rfl c43 ?_
                     refine W.pickN rfl rfl rfl c44 ?_
                     refine W.pickN rfl rfl rfl c43 ?_
                     refine W.mv rfl ?_
                     refine W.nil ⟨rfl, ?_⟩
                     exact ⟨false, h, Wk.keep [53, 65536, 65539, 131081, 131082, 131083, 131136, 131137, 131138] rfl⟩
                 ·refine W.guardF1 rfl c41 ?_
                  refine W.guardF1 rfl c41 ?_
                  refine W.guardF1 rfl c41 ?_
                  refine W.guardF1 rfl c41 ?_
                  refine W.guardU rfl (W.guardU rfl ?_)
                  refine W.guardU rfl (W.guardU rfl ?_)
                  refine W.guardU rfl (W.guardU rfl ?_)
                  refine W.guardU rfl (W.guardU rfl ?_)
                  refine W.guardF1 rfl c41 ?_
                  refine W.pickN rfl rfl rfl c41 ?_
                  refine W.mv rfl (W.guardT rfl rfl ?_)
                  refine W.mv rfl (W.guardT rfl rfl ?_)
                  refine W.mv rfl ?_
                  refine bs h (fun c46 h => ?_) fun c46 h => ?_
                  ·refine W.guardT rfl c46 ?_
                   refine W.fieldAddrO rfl rfl ?_
                   refine W.guardT rfl c46 ?_
                   refine W.loadO (p := iP e13.Value) rfl rfl rfl rfl ?_
                   refine W.guardT rfl c46 ?_
                   refine W.lss rfl rfl ?_
                   refine W.guardT rfl c46 ?_
                   refine W.mv rfl ?_
                   refine bs h (fun c47 h => ?_) fun c47 h => ?_
                   ·refine W.guardF2 rfl c47 ?_
                    refine W.guardF2 rfl c47 ?_
                    refine W.guardF2 rfl c47 ?_
                    refine W.guardT rfl c46 ?_
                    refine W.pickT rfl rfl rfl c47 ?_
                    refine W.guardT rfl rfl ?_
                    refine W.pickT rfl rfl rfl c46 ?_
                    refine W.pickN rfl rfl rfl rfl (W.mv rfl ?_)
                    refine W.nil ⟨rfl, ?_⟩
                    exact ⟨true, h, Wk.keep [53, 65536, 65539, 131081, 131082, 131083, 131136, 131137, 131138] rfl⟩
                   ·refine W.guardT rfl c47 ?_
                    refine W.fieldAddrO rfl rfl ?_
                    refine W.guardT rfl c47 ?_
                    refine W.loadO (p := iP e13.Value) rfl rfl rfl rfl ?_
                    refine W.guardT rfl c47 ?_
                    refine W.gtr rfl rfl ?_
                    refine W.guardT rfl c46 ?_
                    refine W.pickN rfl rfl rfl c47 ?_
                    refine W.guardT rfl rfl ?_
                    refine W.pickT rfl rfl rfl c46 ?_
                    refine W.pickN rfl rfl rfl rfl (W.mv rfl ?_)
                    refine W.nil ⟨rfl, ?_⟩
                    exact ⟨(decide (1000000000 < e13.Value)), h, Wk.keep [53, 65536, 65539, 131081, 131082, 131083, 131136, 131137, 131138] rfl⟩
                  ·refine W.guardF1 rfl c46 ?_
                   refine W.guardF1 rfl c46 ?_
                   refine W.guardF1 rfl c46 ?_
                   refine W.guardF1 rfl c46 ?_
                   refine W.guardU rfl (W.guardU rfl ?_)
                   refine W.guardU rfl ?_
                   refine W.guardF1 rfl c46 ?_
                   refine W.guardT rfl rfl ?_
                   refine W.pickN rfl rfl rfl c46 ?_
                   refine W.pickN rfl rfl rfl rfl (W.mv rfl ?_)
                   refine W.nil ⟨rfl, ?_⟩
                   exact ⟨false, h, Wk.keep [53, 65536, 65539, 131081, 131082, 131083, 131136, 131137, 131138] rfl⟩
                ·intro x42 h
                 try dsimp only at h ⊢
                 unfold workers_play_j11 at h
                 refine bs h (fun c40 h => ?_) fun c40 h => ?_
                 ·refine Ev.condT rfl c40 ?_
                  refine Ev.seq ?_
                  refine W.reg hm ?_
                  refine W.mv rfl (W.nil ?_)
                  refine Ev.ret ?_
                  exact ⟨3, h, Wk.nrmF0 (B := 2000000) (elem := 3) (sz := 1) (xss := z10) (c := cI) (L := [(3, ⟨2, 66, 4, [[iP e13.Kind, iP e13.Worker, iP e13.Job, iP e13.Value]], true, true, false⟩), (10400, ⟨0, 126, 4, [[iP a2, .own 10401 0, .own 10402 0, .own 10403 0]], false, false, false⟩), (10401, eP 3 1 (mP w9)), (10402, ⟨0, 40, 1, outr 2000000 z10.length, false, false, false⟩), (10403, eP 3 1 (mP w11)), (10404, eP 66 4 [[iP e13.Kind, iP e13.Worker, iP e13.Job, iP e13.Value]]), (10405, eP 31 2 [[iP 0, iP 0]])]) [4, 65536, 65539, 131081, 131082, 131083, 131136, 131137, 131138] [(10400, 10500), (10401, 10501), (10402, 10502), (10403, 10503), (10404, 10504), (10405, 10505)] 10402 rfl rfl rfl rfl rfl rfl rfl rfl⟩
                 ·refine Ev.condF rfl c40 ?_
                  refine Ev.skip ?_
                  refine Ev.seq ?_
                  refine W.reg hm ?_
                  refine W.mv rfl (W.nil ?_)
                  refine Ev.ret ?_
                  exact ⟨0, h, Wk.nrmF0 (B := 2000000) (elem := 3) (sz := 1) (xss := z10) (c := cI) (L := [(3, ⟨2, 66, 4, [[iP e13.Kind, iP e13.Worker, iP e13.Job, iP e13.Value]], true, true, false⟩), (10400, ⟨0, 126, 4, [[iP a2, .own 10401 0, .own 10402 0, .own 10403 0]], false, false, false⟩), (10401, eP 3 1 (mP w9)), (10402, ⟨0, 40, 1, outr 2000000 z10.length, false, false, false⟩), (10403, eP 3 1 (mP w11)), (10404, eP 66 4 [[iP e13.Kind, iP e13.Worker, iP e13.Job, iP e13.Value]]), (10405, eP 31 2 [[iP 0, iP 0]])]) [4, 65536, 65539, 131081, 131082, 131083, 131136, 131137, 131138] [(10400, 10500), (10401, 10501), (10402, 10502), (10403, 10503), (10404, 10504), (10405, 10505)] 10402 rfl rfl rfl rfl rfl rfl rfl rfl⟩
         ·intro x19 h
          try dsimp only at h ⊢
          unfold workers_play_j3 at h
          refine ⟨_, rfl, ?_⟩
          refine Sq.wEnd nb ?_
          refine W.mv rfl (W.nil ?_)
          refine Ev.seq ?_
          refine W.reg hm ?_
          refine W.mv rfl (W.neq rfl rfl ?_)
          refine W.nil ?_
          refine bs h (fun c13 h => ?_) fun c13 h => ?_
          ·refine Ev.condT rfl c13 ?_
           refine Ev.seq ?_
           refine W.reg hm ?_
           refine W.mv rfl (W.mv rfl ?_)
           refine W.nil ?_
           refine Ev.ret ?_
           exact ⟨(x19, w9, z10, w11), h, Wk.nrmF0 (B := 2000000) (elem := 3) (sz := 1) (xss := z10) (c := cI) (L := [(10500, ⟨0, 126, 4, [[iP a2, .own 10501 0, .own 10502 0, .own 10503 0]], false, false, false⟩), (10501, eP 3 1 (mP w9)), (10502, ⟨0, 40, 1, outr 2000000 z10.length, false, false, false⟩), (10503, eP 3 1 (mP w11)), (10504, eP 66 4 [[iP e13.Kind, iP e13.Worker, iP e13.Job, iP e13.Value]]), (10505, eP 31 2 [[iP 0, iP 0]])]) [4, 65545, 65546, 65547, 65600, 65601, 65602] [(10505, 10400), (10500, 10401), (10501, 10402), (10502, 10403), (10503, 10404)] 10502 rfl rfl rfl rfl rfl rfl rfl rfl⟩
          ·refine Ev.condF rfl c13 ?_
           refine Ev.skip ?_
           refine Ev.seq ?_
           refine W.regD hm ?_
           refine W.mv rfl (W.nilCheckO rfl rfl ?_)
           refine W.fieldAddrO rfl rfl ?_
           refine W.loadO (p := .own 10501 0) rfl rfl rfl rfl ?_
           refine W.fieldAddrO rfl rfl ?_
           refine W.loadO (p := iP e13.Worker) rfl rfl rfl rfl ?_
           obtain ⟨e20, k14, h⟩ := obind h
           refine W.idxR (l := w9) (c := cI) rfl rfl rfl rfl rfl k14 ?_
           refine W.mv rfl ?_
           refine W.nil ⟨rfl, ?_⟩
           refine Ev.seqJ (γ := (List Int) × (List (List Int)) × (List Int)) (fun v => ⟨[(65545, wP 10600), (65546, wP 10601), (65547, iP x12), (65600, lP a3), (65601, iP (a3.length : Int)), (65602, iP x12)], [(10600, eP 31 2 [[iP 0, iP 0]]), (10601, ⟨0, 126, 4, [[iP a2, .own 10602 0, .own 10603 0, .own 10604 0]], false, false, false⟩), (10602, eP 3 1 (mP v.1)), (10603, ⟨0, 40, 1, outr 2000000 v.2.1.length, false, false, false⟩), (10604, eP 3 1 (mP v.2.2))] ++ fam 2000000 3 1 cI v.2.1, 2⟩) (fun v => workers_play_j4 n x12 (workers_play_l2 n a2 a3 m2) v.1 v.2.1 v.2.2 = some r) ?_ ?_
           ·refine Ev.seq ?_
            refine W.reg hm ?_
            refine W.fieldAddrO rfl rfl ?_
            refine W.loadO (p := iP e13.Kind) rfl rfl rfl rfl ?_
            refine W.nil ?_
            refine Ev.block ?_
            refine Ev.seq ?_
            refine W.reg hm ?_
            refine W.eql rfl rfl (W.mv rfl ?_)
            refine W.nil ?_
            refine bs h (fun c15 h => ?_) fun c15 h => ?_
            ·refine Ev.condT rfl c15 ?_
             refine Ev.seq (Ev.seq ?_)
             refine W.reg hm ?_
             refine W.mv rfl (W.nilCheckO rfl rfl ?_)
             refine W.loadR (l := w9) (c := cI) (v := e20) (p := iP e20) rfl rfl rfl (gidx_some k14).2 rfl ?_
             refine W.neq rfl rfl (W.nil ?_)
             refine bs h (fun c16 h => ?_) fun c16 h => ?_
             ·refine Ev.condT rfl c16 ?_
              refine Ev.seq ?_
              refine W.reg hm ?_
              refine W.mv rfl (W.nil ?_)
              refine Ev.ret ?_
              exact ⟨(11, w9, z10, w11), h, Wk.nrmF0 (B := 2000000) (elem := 3) (sz := 1) (xss := z10) (c := cI) (L := [(10500, ⟨0, 126, 4, [[iP a2, .own 10501 0, .own 10502 0, .own 10503 0]], false, false, false⟩), (10501, eP 3 1 (mP w9)), (10502, ⟨0, 40, 1, outr 2000000 z10.length, false, false, false⟩), (10503, eP 3 1 (mP w11)), (10504, eP 66 4 [[iP e13.Kind, iP e13.Worker, iP e13.Job, iP e13.Value]]), (10505, eP 31 2 [[iP 0, iP 0]])]) [4, 65545, 65546, 65547, 65600, 65601, 65602] [(10505, 10400), (10500, 10401), (10501, 10402), (10502, 10403), (10503, 10404)] 10502 rfl rfl rfl rfl rfl rfl rfl rfl⟩
             ·refine Ev.condF rfl c16 ?_
              refine Ev.skip ?_
              refine Ev.seq (Ev.seq ?_)
              refine W.regD hm ?_
              refine W.mv rfl (W.nilCheckO rfl rfl ?_)
              refine W.fieldAddrO rfl rfl ?_
              refine W.loadO (p := .own 10502 0) rfl rfl rfl rfl ?_
              refine W.fieldAddrO rfl rfl ?_
              refine W.loadO (p := iP e13.Job) rfl rfl rfl rfl ?_
              obtain ⟨q24, k17, h⟩ := obind h
              refine W.idxFO (B := 2000000) rfl rfl rfl rfl rfl k17 ?_
              refine W.loadFO (B := 2000000) rfl rfl rfl (gidx_some k17).2 ?_
              refine W.fieldAddrO rfl rfl ?_
              refine W.loadO (p := iP e13.Worker) rfl rfl rfl rfl ?_
              obtain ⟨e25, k18, h⟩ := obind h
              refine W.idxR (l := q24) (c := cI) rfl rfl (liveF_fam (B := 2000000) (elem := 3) (sz := 1) (c := cI) (by repeat (first | exact .base | refine .cons (by decide) ?_)) (gidx_some k17).2) rfl rfl k18 ?_
              refine W.loadR (l := q24) (c := cI) (v := e25) (p := iP e25) rfl (liveF_fam (B := 2000000) (elem := 3) (sz := 1) (c := cI) (by repeat (first | exact .base | refine .cons (by decide) ?_)) (gidx_some k17).2) rfl (gidx_some k18).2 rfl ?_
              refine W.geq rfl rfl ?_
              refine W.nil ⟨rfl, ?_⟩
              refine bs h (fun c19 h => ?_) fun c19 h => ?_
              ·refine Ev.condT rfl c19 ?_
               refine Ev.seq ?_
               refine W.reg hm ?_
               refine W.mv rfl (W.nil ?_)
               refine Ev.ret ?_
               exact ⟨(7, w9, z10, w11), h, Wk.nrmF0 (B := 2000000) (elem := 3) (sz := 1) (xss := z10) (c := cI) (L := [(10500, ⟨0, 126, 4, [[iP a2, .own 10501 0, .own 10502 0, .own 10503 0]], false, false, false⟩), (10501, eP 3 1 (mP w9)), (10502, ⟨0, 40, 1, outr 2000000 z10.length, false, false, false⟩), (10503, eP 3 1 (mP w11)), (10504, eP 66 4 [[iP e13.Kind, iP e13.Worker, iP e13.Job, iP e13.Value]]), (10505, eP 31 2 [[iP 0, iP 0]])]) [4, 65545, 65546, 65547, 65600, 65601, 65602] [(10505, 10400), (10500, 10401), (10501, 10402), (10502, 10403), (10503, 10404)] 10502 rfl rfl rfl rfl rfl rfl rfl rfl⟩
              ·refine Ev.condF rfl c19 ?_
               refine Ev.skip ?_
               refine W.reg hm ?_
               refine W.mv rfl (W.fieldAddrO rfl rfl ?_)
               refine W.loadO (p := iP e13.Job) rfl rfl rfl rfl ?_
               refine W.nilCheckO rfl rfl ?_
               refine W.storeR true (l := w9) (c := cI) (v := e20) (v' := e13.Job) rfl rfl rfl rfl (gidx_some k14).2 rfl (Nat.le_of_ble_eq_true rfl) rfl rfl rfl ?_
               refine W.nil ?_
               exact ⟨((gset w9 e13.Worker e13.Job), z10, w11), h, Wk.nrmF0 (B := 2000000) (elem := 3) (sz := 1) (xss := z10) (c := cI) (L := [(10501, eP 3 1 (mP (gset w9 e13.Worker e13.Job))), (10500, ⟨0, 126, 4, [[iP a2, .own 10501 0, .own 10502 0, .own 10503 0]], false, false, false⟩), (10501, eP 3 1 (mP w9)), (10502, ⟨0, 40, 1, outr 2000000 z10.length, false, false, false⟩), (10503, eP 3 1 (mP w11)), (10504, eP 66 4 [[iP e13.Kind, iP e13.Worker, iP e13.Job, iP e13.Value]]), (10505, eP 31 2 [[iP 0, iP 0]])]) [65545, 65546, 65547, 65600, 65601, 65602] [(10505, 10600), (10500, 10601), (10501, 10602), (10502, 10603), (10503, 10604)] 10502 rfl rfl rfl rfl rfl rfl rfl rfl⟩
            ·refine Ev.condF rfl c15 ?_
             refine Ev.seq ?_
             refine W.reg hm ?_
             refine W.eql rfl rfl (W.mv rfl ?_)
             refine W.nil ?_
             refine bs h (fun c20 h => ?_) fun c20 h => ?_
             ·refine Ev.condT rfl c20 ?_
              refine Ev.seq (Ev.seq ?_)
              refine W.reg hm ?_
              refine W.mv rfl (W.nilCheckO rfl rfl ?_)
              refine W.loadR (l := w9) (c := cI) (v := e20) (p := iP e20) rfl rfl rfl (gidx_some k14).2 rfl ?_
              refine W.lss rfl rfl (W.nil ?_)
              refine bs h (fun c21 h => ?_) fun c21 h => ?_
              ·refine Ev.condT rfl c21 ?_
               refine Ev.seq ?_
               refine W.reg hm ?_
               refine W.mv rfl (W.nil ?_)
               refine Ev.ret ?_
               exact ⟨(11, w9, z10, w11), h, Wk.nrmF0 (B := 2000000) (elem := 3) (sz := 1) (xss := z10) (c := cI) (L := [(10500, ⟨0, 126, 4, [[iP a2, .own 10501 0, .own 10502 0, .own 10503 0]], false, false, false⟩), (10501, eP 3 1 (mP w9)), (10502, ⟨0, 40, 1, outr 2000000 z10.length, false, false, false⟩), (10503, eP 3 1 (mP w11)), (10504, eP 66 4 [[iP e13.Kind, iP e13.Worker, iP e13.Job, iP e13.Value]]), (10505, eP 31 2 [[iP 0, iP 0]])]) [4, 65545, 65546, 65547, 65600, 65601, 65602] [(10505, 10400), (10500, 10401), (10501, 10402), (10502, 10403), (10503, 10404)] 10502 rfl rfl rfl rfl rfl rfl rfl rfl⟩
              ·refine Ev.condF rfl c21 ?_
               refine Ev.skip ?_
               refine Ev.seq ?_
               refine W.reg hm ?_
               refine W.mv rfl (W.nilCheckO rfl rfl ?_)
               refine W.loadR (l := w9) (c := cI) (v := e20) (p := iP e20) rfl rfl rfl (gidx_some k14).2 rfl ?_
               refine W.mv rfl (W.nil ?_)
               refine Ev.seq ?_
               refine W.regD hm ?_
               refine W.mv rfl (W.nilCheckO rfl rfl ?_)
               refine W.fieldAddrO rfl rfl ?_
               refine W.loadO (p := .own 10502 0) rfl rfl rfl rfl ?_
               refine W.mv rfl ?_
               obtain ⟨q26, k22, h⟩ := obind h
               refine W.idxFO (B := 2000000) rfl rfl rfl rfl rfl k22 ?_
               refine W.loadFO (B := 2000000) rfl rfl rfl (gidx_some k22).2 ?_
               refine W.fieldAddrO rfl rfl ?_
               refine W.loadO (p := iP e13.Worker) rfl rfl rfl rfl ?_
               refine W.fieldAddrO rfl rfl ?_
               refine W.loadO (p := iP e13.Value) rfl rfl rfl rfl ?_
               obtain ⟨e27, k23, h⟩ := obind h
               refine W.idxR (l := q26) (c := cI) rfl rfl (liveF_fam (B := 2000000) (elem := 3) (sz := 1) (c := cI) (by repeat (first | exact .base | refine .cons (by decide) ?_)) (gidx_some k22).2) rfl rfl k23 ?_
               refine W.storeR true (l := q26) (c := cI) (v := e27) (v' := e13.Value) rfl rfl (liveF_fam (B := 2000000) (elem := 3) (sz := 1) (c := cI) (by repeat (first | exact .base | refine .cons (by decide) ?_)) (gidx_some k22).2) rfl (gidx_some k23).2 rfl (Nat.le_of_ble_eq_true rfl) rfl rfl rfl ?_
               refine W.nil ⟨rfl, ?_⟩
               refine Ev.weak ?_ (Wk.famSet (B := 2000000) (elem := 3) (sz := 1) (L := [(10500, ⟨0, 126, 4, [[iP a2, .own 10501 0, .own 10502 0, .own 10503 0]], false, false, false⟩), (10501, eP 3 1 (mP w9)), (10502, ⟨0, 40, 1, outr 2000000 z10.length, false, false, false⟩), (10503, eP 3 1 (mP w11)), (10504, eP 66 4 [[iP e13.Kind, iP e13.Worker, iP e13.Job, iP e13.Value]]), (10505, eP 31 2 [[iP 0, iP 0]])]) (xss := z10) (xs := (gset q26 e13.Worker e13.Value)) (c := cI) rfl (gidx_lt k22))
               refine Ev.seq ?_
               refine W.reg hm ?_
               refine W.mv rfl (W.nilCheckO rfl rfl ?_)
               refine W.storeR true (l := w9) (c := cI) (v := e20) (v' := (-1)) rfl rfl rfl rfl (gidx_some k14).2 rfl (Nat.le_of_ble_eq_true rfl) rfl rfl rfl ?_
               refine W.nil ?_
               refine Ev.regS rfl ?_
               refine Sq.w 4 nb ?_
               refine W.mv rfl (W.mv rfl ?_)
               refine W.fieldAddrO rfl rfl ?_
               refine W.loadO (p := iP e13.Value) rfl rfl rfl rfl ?_
               refine W.nil ?_
               refine Sq.call rfl Tryz.c_workers_farm_accept ⟨_, rfl, nb, ?_⟩
               unfold Tryz.l_workers_farm_accept
               refine Ev.retJ (γ := List Int) (fun v => ⟨[(131081, wP 10700), (131082, wP 10701), (131083, iP x12), (131136, lP a3), (131137, iP (a3.length : Int)), (131138, iP x12)], [(10700, eP 31 2 [[iP 0, iP 0]]), (10701, ⟨0, 126, 4, [[iP a2, .own 10702 0, .own 10703 0, .own 10704 0]], false, false, false⟩), (10702, eP 3 1 (mP (gset w9 e13.Worker (-1)))), (10703, ⟨0, 40, 1, outr 2000000 (gset z10 e20 (gset q26 e13.Worker e13.Value)).length, false, false, false⟩), (10704, eP 3 1 (mP v))] ++ fam 2000000 3 1 cI (gset z10 e20 (gset q26 e13.Worker e13.Value)), 2⟩) (fun v => workers_play_j5 n w9 z10 x12 (workers_play_l2 n a2 a3 m2) e13 e20 q26 v = some r) ?_ ?_
               ·refine Ev.seq ?_
                refine W.reg hm ?_
                refine W.mv rfl (W.nil ?_)
                refine Ev.seq (Ev.seq ?_)
                refine W.reg hm ?_
                refine W.mv rfl (W.nilCheckO rfl rfl ?_)
                refine W.fieldAddrO rfl rfl ?_
                refine W.loadO (p := .own 10502 0) rfl rfl rfl rfl ?_
                refine W.mv rfl ?_
                obtain ⟨q29, k24, h⟩ := obind h
                refine W.idxFO (B := 2000000) rfl rfl rfl rfl (by simp only [gset, List.length_set]) k24 ?_
                refine W.loadFO (B := 2000000) rfl rfl (by simp only [gset, List.length_set]) (gidx_some k24).2 ?_
                refine W.lenO (l := q29) (c := cI) rfl (liveF_fam (B := 2000000) (elem := 3) (sz := 1) (c := cI) (by repeat (first | exact .base | refine .cons (by decide) ?_)) (gidx_some k24).2) rfl ?_
                refine W.mv rfl (W.nil ?_)
                refine Ev.block ?_
                refine Ev.loopW (β := Nat × Int × Int) (fun v => ⟨[(0, wP 10500), (1, iP e20), (2, iP e13.Value), (6, iP v.2.1), (15, .own (2000000 + e20.toNat) 0), (16, iP (q29.length : Int)), (17, iP v.2.2), (131081, wP 10505), (131082, wP 10500), (131083, iP x12), (131136, lP a3), (131137, iP (a3.length : Int)), (131138, iP x12)], [(10501, eP 3 1 (mP (gset w9 e13.Worker (-1)))), (10500, ⟨0, 126, 4, [[iP a2, .own 10501 0, .own 10502 0, .own 10503 0]], false, false, false⟩), (10501, eP 3 1 (mP w9)), (10502, ⟨0, 40, 1, outr 2000000 z10.length, false, false, false⟩), (10503, eP 3 1 (mP w11)), (10504, eP 66 4 [[iP e13.Kind, iP e13.Worker, iP e13.Job, iP e13.Value]]), (10505, eP 31 2 [[iP 0, iP 0]])] ++ fam 2000000 3 1 cI (gset z10 e20 (gset q26 e13.Worker e13.Value)), 2⟩) (fun v => workers_play_l3 n a2 w9 z10 w11 x12 (workers_play_l2 n a2 a3 m2) e13 e20 q26 q29 v.1 v.2.1 v.2.2 = some r) (fun v => v.1) (n, 0, 0) (Wk.keep [0, 1, 2, 6, 15, 16, 17, 131081, 131082, 131083, 131136, 131137, 131138] rfl) h ?_
                intro ⟨m3, x30, x31⟩ h
                try dsimp only at h ⊢
                cases m3 with
                | zero => rw [workers_play_l3] at h; cases h
                | succ m3 =>
                 rw [workers_play_l3] at h
                 refine Ev.seq ?_
                 refine W.reg hm ?_
                 refine W.lss rfl rfl (W.nil ?_)
                 refine Ev.seq ?_
                 refine bs h (fun c25 h => ?_) fun c25 h => ?_
                 ·refine Ev.condT rfl c25 ?_
                  refine Ev.skip ?_
                  refine Ev.seqJ (γ := Int) (fun v => ⟨[(0, wP 10500), (1, iP e20), (2, iP e13.Value), (6, iP v), (15, .own (2000000 + e20.toNat) 0), (16, iP (q29.length : Int)), (17, iP x31), (131081, wP 10505), (131082, wP 10500), (131083, iP x12), (131136, lP a3), (131137, iP (a3.length : Int)), (131138, iP x12)], [(10501, eP 3 1 (mP (gset w9 e13.Worker (-1)))), (10500, ⟨0, 126, 4, [[iP a2, .own 10501 0, .own 10502 0, .own 10503 0]], false, false, false⟩), (10501, eP 3 1 (mP w9)), (10502, ⟨0, 40, 1, outr 2000000 z10.length, false, false, false⟩), (10503, eP 3 1 (mP w11)), (10504, eP 66 4 [[iP e13.Kind, iP e13.Worker, iP e13.Job, iP e13.Value]]), (10505, eP 31 2 [[iP 0, iP 0]])] ++ fam 2000000 3 1 cI (gset z10 e20 (gset q26 e13.Worker e13.Value)), 2⟩) (fun v => workers_play_j6 n x31 (workers_play_l3 n a2 w9 z10 w11 x12 (workers_play_l2 n a2 a3 m2) e13 e20 q26 q29 m3) v = some r) ?_ ?_
                  ·refine Ev.block ?_
                   refine Ev.seq ?_
                   refine W.reg hm ?_
                   obtain ⟨e34, k27, h⟩ := obind h
                   refine W.idxR (l := q29) (c := cI) rfl rfl (liveF_fam (B := 2000000) (elem := 3) (sz := 1) (c := cI) (by repeat (first | exact .base | refine .cons (by decide) ?_)) (gidx_some k24).2) rfl rfl k27 ?_
                   refine W.loadR (l := q29) (c := cI) (v := e34) (p := iP e34) rfl (liveF_fam (B := 2000000) (elem := 3) (sz := 1) (c := cI) (by repeat (first | exact .base | refine .cons (by decide) ?_)) (gidx_some k24).2) rfl (gidx_some k27).2 rfl ?_
                   refine W.mv rfl (W.nil ?_)
                   refine Ev.seq ?_
                   refine W.reg hm ?_
                   refine W.mv rfl (W.mv rfl ?_)
                   refine W.eql rfl rfl (W.nil ?_)
                   refine bs h (fun c28 h => ?_) fun c28 h => ?_
                   ·refine Ev.condT rfl c28 ?_
                    refine W.reg hm ?_
                    refine W.mv rfl ?_
                    obtain ⟨x35, k29, h⟩ := obind h
                    refine W.addG rfl rfl k29 ?_
                    refine W.mv rfl (W.nil ?_)
                    exact ⟨x35, h, Wk.keep [0, 1, 2, 6, 15, 16, 17, 131081, 131082, 131083, 131136, 131137, 131138] rfl⟩
                   ·refine Ev.condF rfl c28 ?_
                    refine Ev.skip ?_
                    exact ⟨x30, h, Wk.keep [0, 1, 2, 6, 15, 16, 17, 131081, 131082, 131083, 131136, 131137, 131138] rfl⟩
                  ·intro x32 h
                   try dsimp only at h ⊢
                   unfold workers_play_j6 at h
                   refine W.reg hm ?_
                   obtain ⟨x33, k26, h⟩ := obind h
                   refine W.addG rfl rfl k26 ?_
                   refine W.mv rfl (W.nil ?_)
                   exact ⟨(m3, x32, x33), h, Nat.lt_succ_self _, Wk.keep [0, 1, 2, 6, 15, 16, 17, 131081, 131082, 131083, 131136, 131137, 131138] rfl⟩
                 ·refine Ev.condF rfl c25 ?_
                  refine Ev.exit ?_
                  refine Ev.seqJ (γ := Bool) (fun v => ⟨[(0, wP 10500), (1, iP e20), (2, iP e13.Value), (42, .bool v), (131081, wP 10505), (131082, wP 10500), (131083, iP x12), (131136, lP a3), (131137, iP (a3.length : Int)), (131138, iP x12)], [(10501, eP 3 1 (mP (gset w9 e13.Worker (-1)))), (10500, ⟨0, 126, 4, [[iP a2, .own 10501 0, .own 10502 0, .own 10503 0]], false, false, false⟩), (10501, eP 3 1 (mP w9)), (10502, ⟨0, 40, 1, outr 2000000 z10.length, false, false, false⟩), (10503, eP 3 1 (mP w11)), (10504, eP 66 4 [[iP e13.Kind, iP e13.Worker, iP e13.Job, iP e13.Value]]), (10505, eP 31 2 [[iP 0, iP 0]])] ++ fam 2000000 3 1 cI (gset z10 e20 (gset q26 e13.Worker e13.Value)), 2⟩) (fun v => workers_play_j7 n w9 z10 w11 x12 (workers_play_l2 n a2 a3 m2) e13 e20 q26 v = some r) ?_ ?_
                  ·refine W.reg hm ?_
                   refine W.mv rfl (W.mv rfl ?_)
                   refine W.nilCheckO rfl rfl (W.fieldAddrO rfl rfl ?_)
                   refine W.loadO (p := iP a2) rfl rfl rfl rfl ?_
                   refine W.geq rfl rfl (W.mv rfl ?_)
                   refine bs h (fun c32 h => ?_) fun c32 h => ?_
                   ·refine W.guardT rfl c32 ?_
                    refine W.mv rfl ?_
                    refine W.guardT rfl c32 ?_
                    refine W.nilCheckO rfl rfl ?_
                    refine W.guardT rfl c32 ?_
                    refine W.fieldAddrO rfl rfl ?_
                    refine W.guardT rfl c32 ?_
                    refine W.loadO (p := .own 10503 0) rfl rfl rfl rfl ?_
                    refine W.guardT rfl c32 ?_
                    refine W.mv rfl ?_
                    refine W.guardT rfl c32 ?_
                    obtain ⟨e38, k33, h⟩ := obind h
                    refine W.idxR (l := w11) (c := cI) rfl rfl rfl rfl rfl k33 ?_
                    refine W.guardT rfl c32 ?_
                    refine W.loadR (l := w11) (c := cI) (v := e38) (p := iP e38) rfl rfl rfl (gidx_some k33).2 rfl ?_
                    refine W.guardT rfl c32 ?_
                    refine W.lss rfl rfl ?_
                    refine W.pickT rfl rfl rfl c32 ?_
                    refine W.nil ?_
                    exact ⟨(decide (e38 < 0)), h, Wk.keep [0, 1, 2, 42, 131081, 131082, 131083, 131136, 131137, 131138] rfl⟩
                   ·refine W.guardF1 rfl c32 ?_
                    refine W.guardF1 rfl c32 ?_
                    refine W.guardF1 rfl c32 ?_
                    refine W.guardF1 rfl c32 ?_
                    refine W.guardF1 rfl c32 ?_
                    refine W.guardF1 rfl c32 ?_
                    refine W.guardF1 rfl c32 ?_
                    refine W.guardF1 rfl c32 ?_
                    refine W.pickN rfl rfl rfl c32 ?_
                    refine W.nil ?_
                    exact ⟨false, h, Wk.keep [0, 1, 2, 42, 131081, 131082, 131083, 131136, 131137, 131138] rfl⟩
                  ·intro x36 h
                   try dsimp only at h ⊢
                   unfold workers_play_j7 at h
                   refine bs h (fun c30 h => ?_) fun c30 h => ?_
                   ·refine Ev.condT rfl c30 ?_
                    refine W.reg hm ?_
                    refine W.mv rfl (W.nilCheckO rfl rfl ?_)
                    refine W.fieldAddrO rfl rfl ?_
                    refine W.loadO (p := .own 10503 0) rfl rfl rfl rfl ?_
                    refine W.mv rfl (W.mv rfl ?_)
                    obtain ⟨e37, k31, h⟩ := obind h
                    refine W.idxR (l := w11) (c := cI) rfl rfl rfl rfl rfl k31 ?_
                    refine W.storeR true (l := w11) (c := cI) (v := e37) (v' := e13.Value) rfl rfl rfl rfl (gidx_some k31).2 rfl (Nat.le_of_ble_eq_true rfl) rfl rfl rfl ?_
                    refine W.nil ?_
                    exact ⟨(gset w11 e20 e13.Value), h, Wk.nrmF0 (B := 2000000) (elem := 3) (sz := 1) (xss := (gset z10 e20 (gset q26 e13.Worker e13.Value))) (c := cI) (L := [(10503, eP 3 1 (mP (gset w11 e20 e13.Value))), (10501, eP 3 1 (mP (gset w9 e13.Worker (-1)))), (10500, ⟨0, 126, 4, [[iP a2, .own 10501 0, .own 10502 0, .own 10503 0]], false, false, false⟩), (10501, eP 3 1 (mP w9)), (10502, ⟨0, 40, 1, outr 2000000 z10.length, false, false, false⟩), (10503, eP 3 1 (mP w11)), (10504, eP 66 4 [[iP e13.Kind, iP e13.Worker, iP e13.Job, iP e13.Value]]), (10505, eP 31 2 [[iP 0, iP 0]])]) [131081, 131082, 131083, 131136, 131137, 131138] [(10505, 10700), (10500, 10701), (10501, 10702), (10502, 10703), (10503, 10704)] 10502 rfl rfl rfl rfl rfl (by simp only [gset, List.length_set]) rfl rfl⟩
                   ·refine Ev.condF rfl c30 ?_
                    refine Ev.skip ?_
                    exact ⟨w11, h, Wk.nrmF0 (B := 2000000) (elem := 3) (sz := 1) (xss := (gset z10 e20 (gset q26 e13.Worker e13.Value))) (c := cI) (L := [(10501, eP 3 1 (mP (gset w9 e13.Worker (-1)))), (10500, ⟨0, 126, 4, [[iP a2, .own 10501 0, .own 10502 0, .own 10503 0]], false, false, false⟩), (10501, eP 3 1 (mP w9)), (10502, ⟨0, 40, 1, outr 2000000 z10.length, false, false, false⟩), (10503, eP 3 1 (mP w11)), (10504, eP 66 4 [[iP e13.Kind, iP e13.Worker, iP e13.Job, iP e13.Value]]), (10505, eP 31 2 [[iP 0, iP 0]])]) [131081, 131082, 131083, 131136, 131137, 131138] [(10505, 10700), (10500, 10701), (10501, 10702), (10502, 10703), (10503, 10704)] 10502 rfl rfl rfl rfl rfl (by simp only [gset, List.length_set]) rfl rfl⟩
               ·intro w28 h
                try dsimp only at h ⊢
                unfold workers_play_j5 at h
                refine ⟨_, rfl, ?_⟩
                refine Sq.wEnd nb ?_
                refine W.nil ?_
                exact ⟨((gset w9 e13.Worker (-1)), (gset z10 e20 (gset q26 e13.Worker e13.Value)), w28), h, Wk.nrmF0 (B := 2000000) (elem := 3) (sz := 1) (xss := (gset z10 e20 (gset q26 e13.Worker e13.Value))) (c := cI) (L := [(10700, eP 31 2 [[iP 0, iP 0]]), (10701, ⟨0, 126, 4, [[iP a2, .own 10702 0, .own 10703 0, .own 10704 0]], false, false, false⟩), (10702, eP 3 1 (mP (gset w9 e13.Worker (-1)))), (10703, ⟨0, 40, 1, outr 2000000 (gset z10 e20 (gset q26 e13.Worker e13.Value)).length, false, false, false⟩), (10704, eP 3 1 (mP w28))]) [65545, 65546, 65547, 65600, 65601, 65602] [(10700, 10600), (10701, 10601), (10702, 10602), (10703, 10603), (10704, 10604)] 10703 rfl rfl rfl rfl rfl rfl rfl rfl⟩
             ·refine Ev.condF rfl c20 ?_
              refine Ev.seq ?_
              refine W.reg hm ?_
              refine W.eql rfl rfl (W.mv rfl ?_)
              refine W.nil ?_
              refine bs h (fun c34 h => ?_) fun c34 h => ?_
              ·refine Ev.condT rfl c34 ?_
               refine Ev.seq (Ev.seq ?_)
               refine W.reg hm ?_
               refine W.mv rfl (W.nilCheckO rfl rfl ?_)
               refine W.loadR (l := w9) (c := cI) (v := e20) (p := iP e20) rfl rfl rfl (gidx_some k14).2 rfl ?_
               refine W.eql rfl rfl (W.nil ?_)
               refine bs h (fun c35 h => ?_) fun c35 h => ?_
               ·refine Ev.condT rfl c35 ?_
                refine Ev.seq ?_
                refine W.reg hm ?_
                refine W.mv rfl (W.nil ?_)
                refine Ev.ret ?_
                exact ⟨(11, w9, z10, w11), h, Wk.nrmF0 (B := 2000000) (elem := 3) (sz := 1) (xss := z10) (c := cI) (L := [(10500, ⟨0, 126, 4, [[iP a2, .own 10501 0, .own 10502 0, .own 10503 0]], false, false, false⟩), (10501, eP 3 1 (mP w9)), (10502, ⟨0, 40, 1, outr 2000000 z10.length, false, false, false⟩), (10503, eP 3 1 (mP w11)), (10504, eP 66 4 [[iP e13.Kind, iP e13.Worker, iP e13.Job, iP e13.Value]]), (10505, eP 31 2 [[iP 0, iP 0]])]) [4, 65545, 65546, 65547, 65600, 65601, 65602] [(10505, 10400), (10500, 10401), (10501, 10402), (10502, 10403), (10503, 10404)] 10502 rfl rfl rfl rfl rfl rfl rfl rfl⟩
               ·refine Ev.condF rfl c35 ?_
                refine Ev.skip ?_
                refine W.reg hm ?_
                refine W.mv rfl (W.nilCheckO rfl rfl ?_)
                refine W.storeR true (l := w9) (c := cI) (v := e20) (v' := (-2)) rfl rfl rfl rfl (gidx_some k14).2 rfl (Nat.le_of_ble_eq_true rfl) rfl rfl rfl ?_
                refine W.nil ?_
                exact ⟨((gset w9 e13.Worker (-2)), z10, w11), h, Wk.nrmF0 (B := 2000000) (elem := 3) (sz := 1) (xss := z10) (c := cI) (L := [(10501, eP 3 1 (mP (gset w9 e13.Worker (-2)))), (10500, ⟨0, 126, 4, [[iP a2, .own 10501 0, .own 10502 0, .own 10503 0]], false, false, false⟩), (10501, eP 3 1 (mP w9)), (10502, ⟨0, 40, 1, outr 2000000 z10.length, false, false, false⟩), (10503, eP 3 1 (mP w11)), (10504, eP 66 4 [[iP e13.Kind, iP e13.Worker, iP e13.Job, iP e13.Value]]), (10505, eP 31 2 [[iP 0, iP 0]])]) [65545, 65546, 65547, 65600, 65601, 65602] [(10505, 10600), (10500, 10601), (10501, 10602), (10502, 10603), (10503, 10604)] 10502 rfl rfl rfl rfl rfl rfl rfl rfl⟩
              ·refine Ev.condF rfl c34 ?_
               refine Ev.seq (Ev.seq ?_)
               refine W.reg hm ?_
               refine W.mv rfl (W.nilCheckO rfl rfl ?_)
               refine W.loadR (l := w9) (c := cI) (v := e20) (p := iP e20) rfl rfl rfl (gidx_some k14).2 rfl ?_
               refine W.neq rfl rfl (W.nil ?_)
               refine bs h (fun c36 h => ?_) fun c36 h => ?_
               ·refine Ev.condT rfl c36 ?_
                refine Ev.seq ?_
                refine W.reg hm ?_
                refine W.mv rfl (W.nil ?_)
                refine Ev.ret ?_
                exact ⟨(11, w9, z10, w11), h, Wk.nrmF0 (B := 2000000) (elem := 3) (sz := 1) (xss := z10) (c := cI) (L := [(10500, ⟨0, 126, 4, [[iP a2, .own 10501 0, .own 10502 0, .own 10503 0]], false, false, false⟩), (10501, eP 3 1 (mP w9)), (10502, ⟨0, 40, 1, outr 2000000 z10.length, false, false, false⟩), (10503, eP 3 1 (mP w11)), (10504, eP 66 4 [[iP e13.Kind, iP e13.Worker, iP e13.Job, iP e13.Value]]), (10505, eP 31 2 [[iP 0, iP 0]])]) [4, 65545, 65546, 65547, 65600, 65601, 65602] [(10505, 10400), (10500, 10401), (10501, 10402), (10502, 10403), (10503, 10404)] 10502 rfl rfl rfl rfl rfl rfl rfl rfl⟩
               ·refine Ev.condF rfl c36 ?_
                refine Ev.skip ?_
                refine W.reg hm ?_
                refine W.mv rfl (W.nilCheckO rfl rfl ?_)
                refine W.storeR true (l := w9) (c := cI) (v := e20) (v' := (-1)) rfl rfl rfl rfl (gidx_some k14).2 rfl (Nat.le_of_ble_eq_true rfl) rfl rfl rfl ?_
                refine W.nil ?_
                exact ⟨((gset w9 e13.Worker (-1)), z10, w11), h, Wk.nrmF0 (B := 2000000) (elem := 3) (sz := 1) (xss := z10) (c := cI) (L := [(10501, eP 3 1 (mP (gset w9 e13.Worker (-1)))), (10500, ⟨0, 126, 4, [[iP a2, .own 10501 0, .own 10502 0, .own 10503 0]], false, false, false⟩), (10501, eP 3 1 (mP w9)), (10502, ⟨0, 40, 1, outr 2000000 z10.length, false, false, false⟩), (10503, eP 3 1 (mP w11)), (10504, eP 66 4 [[iP e13.Kind, iP e13.Worker, iP e13.Job, iP e13.Value]]), (10505, eP 31 2 [[iP 0, iP 0]])]) [65545, 65546, 65547, 65600, 65601, 65602] [(10505, 10600), (10500, 10601), (10501, 10602), (10502, 10603), (10503, 10604)] 10502 rfl rfl rfl rfl rfl rfl rfl rfl⟩
           ·intro ⟨w21, z22, w23⟩ h
            try dsimp only at h ⊢
            unfold workers_play_j4 at h
            refine Ev.seq ?_
            refine W.reg hm ?_
            refine W.mv rfl (W.nil ?_)
            refine Ev.ret ?_
            exact ⟨(0, w21, z22, w23), h, Wk.nrmF0 (B := 2000000) (elem := 3) (sz := 1) (xss := z22) (c := cI) (L := [(10600, eP 31 2 [[iP 0, iP 0]]), (10601, ⟨0, 126, 4, [[iP a2, .own 10602 0, .own 10603 0, .own 10604 0]], false, false, false⟩), (10602, eP 3 1 (mP w21)), (10603, ⟨0, 40, 1, outr 2000000 z22.length, false, false, false⟩), (10604, eP 3 1 (mP w23))]) [4, 65545, 65546, 65547, 65600, 65601, 65602] [(10600, 10400), (10601, 10401), (10602, 10402), (10603, 10403), (10604, 10404)] 10603 rfl rfl rfl rfl rfl rfl rfl rfl⟩
        ·intro ⟨x14, w15, z16, w17⟩ h
         try dsimp only at h ⊢
         unfold workers_play_j2 at h
         refine ⟨_, rfl, ?_⟩
         refine Sq.wEnd nb ?_
         refine W.mv rfl (W.nil ?_)
         refine Ev.seq ?_
         refine W.reg hm ?_
         refine W.mv rfl (W.neq rfl rfl ?_)
         refine W.nil ?_
         refine bs h (fun c11 h => ?_) fun c11 h => ?_
         ·refine Ev.condT rfl c11 ?_
          refine Ev.seq ?_
          refine W.reg hm ?_
          refine W.mv rfl (W.mv rfl ?_)
          refine W.build (cs := [iP x14, iP x12]) rfl rfl rfl ?_
          refine W.mv rfl ?_
          refine W.store (es' := [[iP x14, iP x12]]) (dt := true) rfl rfl rfl rfl rfl (Nat.le_of_ble_eq_true rfl) rfl rfl rfl rfl ?_
          refine W.nil ?_
          refine Ev.ret ?_
          cases h
          exact ⟨_, rfl, .refl _⟩
         ·refine Ev.condF rfl c11 ?_
          refine Ev.skip ?_
          refine W.reg hm ?_
          obtain ⟨x18, k12, h⟩ := obind h
          refine W.addG rfl rfl k12 ?_
          refine W.mv rfl (W.nil ?_)
          exact ⟨(m2, w15, z16, w17, x18), h, Nat.lt_succ_self _, Wk.nrmF0 (B := 2000000) (elem := 3) (sz := 1) (xss := z16) (c := cI) (L := [(10400, eP 31 2 [[iP 0, iP 0]]), (10401, ⟨0, 126, 4, [[iP a2, .own 10402 0, .own 10403 0, .own 10404 0]], false, false, false⟩), (10402, eP 3 1 (mP w15)), (10403, ⟨0, 40, 1, outr 2000000 z16.length, false, false, false⟩), (10404, eP 3 1 (mP w17))]) [9, 10, 64, 65, 66] [(10400, 10300), (10401, 10301), (10402, 10302), (10403, 10303), (10404, 10304)] 10403 rfl rfl rfl rfl rfl rfl rfl rfl⟩
       ·refine Ev.condF rfl c9 ?_
        refine Ev.exit ?_
        refine Ev.seq ?_
        refine W.reg hm ?_
        refine W.mv rfl ?_
        refine W.build (cs := [iP 0, iP 0]) rfl rfl rfl ?_
        refine W.mv rfl ?_
        refine W.store (es' := [[iP 0, iP 0]]) (dt := true) rfl rfl rfl rfl rfl (Nat.le_of_ble_eq_true rfl) rfl rfl rfl rfl ?_
        refine W.nil ?_
        refine Ev.weak ?_ (Wk.frzF (B := 2000000) 10303 0 (xss := z10) (elem := 3) (sz := 1) (c := cI) (L := [(10300, eP 31 2 [[iP 0, iP 0]]), (10300, eP 31 2 [[iP 0, iP 0]]), (10301, ⟨0, 126, 4, [[iP a2, .own 10302 0, .own 10303 0, .own 10304 0]], false, false, false⟩), (10302, eP 3 1 (mP w9)), (10303, ⟨0, 40, 1, outr 2000000 z10.length, false, false, false⟩), (10304, eP 3 1 (mP w11))]) rfl rfl rfl rfl rfl)
        refine Ev.weak ?_ (Wk.frz 10302 0 rfl rfl)
        refine Ev.weak ?_ (Wk.frz 10304 0 rfl rfl)
        refine Ev.weak ?_ (Wk.frz 10301 0 rfl rfl)
        refine Ev.ret ?_
        cases h
        exact ⟨_, rfl, .refl _⟩
theorem workers_Play_spec (n : Nat) (a0 : Int) (a1 : Int) (a2 : Int) (a3 : List SKindWorkerJobValue) (r : ((List Int) × SCodeIndex)) (h : workers_Play n a0 a1 a2 a3 = some r) : PSpec Tryz.prog 27 [iP a0, iP a1, iP a2, lP a3] (.tup [lP r.1, .agg (SCodeIndex.cells r.2)]) := by
 unfold workers_Play at h
 refine spec_of Tryz.c_workers_Play (by simp) ?_
 unfold Tryz.l_workers_Play
 refine au h [1,1,1,5,1,1,1,1,1,1] ?_; intro h
 refine cb h (workers_play_spec n _ _ _ _) fun r1 k1 h => ?_
 refine ax 29 h [1,5,5,5,1,8,1,1,1,8,5,5] ?_; intro h
 refine bs h (fun c2 h => ?_) fun c2 h => ?_
 ·refine au h [2,1,1,8,1,8,1] ?_; intro h
  cases h
  exact ⟨_, rfl, Le.tups (.cons (.nils 1) (.cons (.refl _) (.nil)))⟩
 ·refine au h [3,1,1,1,1] ?_; intro h
  obtain ⟨p2, k3, h⟩ := obind h
  refine W.nilCheck (show PW.lx _ _ = _ from congrArg some (pptr_some k3)) ?_
  refine ax 29 h [5,5,5,1,8,1] ?_; intro h
  cases h
  exact ⟨_, rfl, .refl _⟩
theorem ref5_Ints_spec (n : Nat) (a0 : List Int) (a1 : List Int) (r : Bool) (h : ref5_Ints n a0 a1 = some r) : PSpec Tryz.prog 28 [lP a0, lP a1] (.bool r) := by
 unfold ref5_Ints at h
 refine spec_of Tryz.c_ref5_Ints (by simp) ?_
 unfold Tryz.l_ref5_Ints
 refine au h [1,1,1,1,1,1,1,5,1,5,5] ?_; intro h
 refine bs h (fun c1 h => ?_) fun c1 h => ?_
 ·refine au h [2,1,1,1,1] ?_; intro h
  cases h
  exact ⟨_, rfl, .refl _⟩
 ·refine au h [3,1,1,1,1,1,1] ?_; intro h
  refine Ev.loopW (β := Nat × Int) (fun v => ⟨[(0, lP a0), (1, lP a1), (5, iP v.2)], [], 2⟩) (fun v => ref5_Ints_l1 n a0 a1 v.1 v.2 = some r) (fun v => v.1) (n, 0) (.nA) h ?_
  intro ⟨m1, x1⟩ h
  try dsimp only at h ⊢
  cases m1 with
  | zero => rw [ref5_Ints_l1] at h; cases h
  | succ m1 =>
   rw [ref5_Ints_l1] at h
   refine au h [1,1,1,1,1,5,5] ?_; intro h
   refine bs h (fun c2 h => ?_) fun c2 h => ?_
   ·refine au h [2,1,1,1,1,1,1,1,5,5,1,1,5,5,5] ?_; intro e2 k3 e3 k4 h
    refine bs h (fun c5 h => ?_) fun c5 h => ?_
    ·refine au h [2,1,1,1,1] ?_; intro h
     cases h
     exact ⟨_, rfl, .refl _⟩
    ·refine au h [3,1,1,1,7,1] ?_; intro x4 k6 h
     exact lb (m1, x4) h
   ·refine au h [3,1,1,1,1,1] ?_; intro h
    cases h
    exact ⟨_, rfl, .refl _⟩
theorem top_TopHonestReplaysDecide_spec (n : Nat) (a0 : SInputsOpsOutput) (a1 : SFiles) (a2 : Int) (a3 : List Int) (r : Bool) (h : top_TopHonestReplaysDecide n a0 a1 a2 a3 = some r) : PSpec Tryz.prog 5 [.agg (SInputsOpsOutput.cells a0), .agg (SFiles.cells a1), iP a2, lP a3] (.bool r) := by
 unfold top_TopHonestReplaysDecide at h
 refine spec_of Tryz.c_top_TopHonestReplaysDecide (by simp) ?_
 unfold Tryz.l_top_TopHonestReplaysDecide
 refine au h [1,1,5,5,1,1,1,1] ?_; intro h
 refine cb h (top_kernBuilds_spec n) fun r1 k1 h => ?_
 refine aw h [5] ?_; intro h
 refine bs h (fun c2 h => ?_) fun c2 h => ?_
 ·refine au h [2,1,1,1,1] ?_; intro h
  cases h
  exact ⟨_, rfl, .refl _⟩
 ·refine au h [3,1,1,1,8,8] ?_; intro h
  obtain ⟨r2, k3, h⟩ := obind h
  refine W.callOT (res' := .tup [.own 25 2, .agg [iP r2.2.Code, iP r2.2.Index]]) (sandbox_Run_spec n a0 a1 r2 k3) rfl (Les.refl _) rfl rfl rfl rfl rfl ?_
  refine ax 126 h [1,5,5,5,1,8,1] ?_; intro h
  refine Ev.seqJ (γ := Bool) (fun v => ⟨[(2, iP a2), (3, lP a3), (9, .own 10100 0), (10, wP 10101), (41, .bool v)], [(10100, eP 9 1 (mP r2.1)), (10101, eP 31 2 [[iP r2.2.Code, iP r2.2.Index]])], 2⟩) (fun v => top_TopHonestReplaysDecide_j1 n a2 a3 r2 v = some r) ?_ ?_
  ·refine au h [1,8,8,5,1] ?_; intro h
   refine bs h (fun c24 h => ?_) fun c24 h => ?_
   ·refine aw h [3,3,3,2,1,3,3,3,3,2] ?_; intro h
    exact lf true h
   ·refine aw h [2,1,2] ?_; intro h
    refine cb h (top_kernIn_spec n _ _ _) fun r23 k25 h => ?_
    refine aw h [2,5,3,1] ?_; intro h
    refine bs h (fun c26 h => ?_) fun c26 h => ?_
    ·refine aw h [3,3,3,3,2] ?_; intro h
     exact lf true h
    ·refine aw h [2,1,2,5,2,1,2,5,3] ?_; intro h
     exact lf (decide (a2 ≤ (a3.length : Int))) h
  ·intro x3 h
   try dsimp only at h ⊢
   unfold top_TopHonestReplaysDecide_j1 at h
   refine bs h (fun c4 h => ?_) fun c4 h => ?_
   ·refine Ev.condT rfl c4 ?_
    refine Ev.seqJ (γ := Bool) (fun v => ⟨[(8, .bool v)], [], 2⟩) (fun v => top_TopHonestReplaysDecide_j2 n v = some r) ?_ ?_
    ·refine au h [1,8,8,5,1] ?_; intro h
     refine bs h (fun c5 h => ?_) fun c5 h => ?_
     ·refine aw h [3,3,3,2,1] ?_; intro h
      exact lf true h
     ·refine aw h [2,1,2,7,2,5,3,1] ?_; intro h
      exact lf (decide ((r2.1.length : Int) = 0)) h
    ·intro x4 h
     try dsimp only at h ⊢
     unfold top_TopHonestReplaysDecide_j2 at h
     refine Ev.ret ?_
     cases h
     exact ⟨_, rfl, .refl _⟩
   ·refine au h [3,1,1,1,1] ?_; intro h
    refine cb h (digest_Strings_spec n _) fun r5 k6 h => ?_
    refine ax 126 h [1,5,5,5,1,8,1,1,1,7,1,1,1,1,1,1,1,1,1] ?_; intro x6 k7 h
    refine Ev.loopW (β := Nat × (List SKindWorkerJobValue) × Int) (fun v => ⟨[(2, iP a2), (3, lP a3), (12, wP 10200), (13, iP x6), (14, .own 10201 0), (15, iP v.2.2)], [(10200, eP 31 2 [[iP r5.2.Code, iP r5.2.Index]]), (10201, eP 66 4 (mP v.2.1))], 2⟩) (fun v => top_TopHonestReplaysDecide_l1 n a2 a3 r5 x6 v.1 v.2.1 v.2.2 = some r) (fun v => v.1) (n, ([] : List SKindWorkerJobValue), 0) ((Wk.ownNil 14 30201 66 4 rfl rfl true).trans (.nA)) h ?_
    intro ⟨m1, w7, x8⟩ h
    try dsimp only at h ⊢
    cases m1 with
    | zero => rw [top_TopHonestReplaysDecide_l1] at h; cases h
    | succ m1 =>
     rw [top_TopHonestReplaysDecide_l1] at h
     refine au h [1,1,1,1,1,5,5] ?_; intro h
     refine bs h (fun c8 h => ?_) fun c8 h => ?_
     ·refine au h [2,1,1,1,1,1,1,1,1,5,5] ?_; intro e9 k9 h
      refine cb h (top_kernIn_spec n _ _ _) fun r10 k10 h => ?_
      refine aw h [5] ?_; intro h
      refine bs h (fun c11 h => ?_) fun c11 h => ?_
      ·refine au h [2,1,1,1,1] ?_; intro h
       cases h
       exact ⟨_, rfl, .refl _⟩
      ·refine au h [3,1,1,1,1,1,5,5,7,1,1,1,1,1,1,6,5,5,5,7,1,1,1,7,1] ?_; intro w11 k12 w12 k13 x13 k14 h
       exact lb (m1, w12, x13) h
     ·refine au h [3,1,1,1,1,5,1,7,1,1,1,1,1,5,1,1] ?_; intro x14 k15 h
      refine Ev.loopW (β := Nat × (List SKindWorkerJobValue) × Int) (fun v => ⟨[(2, iP a2), (12, wP 10300), (13, iP x6), (14, .own 10301 0), (16, iP x14), (17, iP v.2.2)], [(10300, eP 31 2 [[iP r5.2.Code, iP r5.2.Index]]), (10301, eP 66 4 (mP v.2.1))], 2⟩) (fun v => top_TopHonestReplaysDecide_l2 n a2 r5 x6 x14 v.1 v.2.1 v.2.2 = some r) (fun v => v.1) (n, w7, (a3.length : Int)) (.nA) h ?_
      intro ⟨m2, w15, x16⟩ h
      try dsimp only at h ⊢
      cases m2 with
      | zero => rw [top_TopHonestReplaysDecide_l2] at h; cases h
      | succ m2 =>
       rw [top_TopHonestReplaysDecide_l2] at h
       refine au h [1,1,1,1,1,5] ?_; intro h
       refine bs h (fun c16 h => ?_) fun c16 h => ?_
       ·refine au h [2,1,1,1,1,1,1,1,5,5,7,1,1,1,1,1,5,5,7,1,1,1,7,1] ?_; intro w17 k17 w18 k18 x19 k19 h
        exact lb (m2, w18, x19) h
       ·refine au h [3,1,1] ?_; intro h
        refine Ev.weak ?_ (Wk.frz 10301 0 rfl rfl)
        refine au h [1,1,1,1] ?_; intro h
        refine cb h (workers_Play_spec n _ _ _ _) fun r20 k20 h => ?_
        refine aw h [1,5,5,5,1,8] ?_; intro h
        refine Ev.seqJ (γ := Bool) (fun v => ⟨[(8, .bool v)], [], 2⟩) (fun v => top_TopHonestReplaysDecide_j3 n v = some r) ?_ ?_
        ·refine au h [1,8,8,5,1] ?_; intro h
         refine bs h (fun c21 h => ?_) fun c21 h => ?_
         ·refine aw h [2,8,2,8,2,5,2,1] ?_; intro h
          refine bs h (fun c22 h => ?_) fun c22 h => ?_
          ·refine aw h [2,1,2,1,2,5,2] ?_; intro h
           refine cb h (ref5_Ints_spec n _ _) fun r22 k23 h => ?_
           refine aw h [2,1] ?_; intro h
           exact lf r22 h
          ·refine aw h [3,3,3,3,3,1] ?_; intro h
           exact lf false h
         ·refine aw h [3,3,3,3,1,3,3,3,3,3,1] ?_; intro h
          exact lf false h
        ·intro x21 h
         try dsimp only at h ⊢
         unfold top_TopHonestReplaysDecide_j3 at h
         refine Ev.ret ?_
         cases h
         exact ⟨_, rfl, .refl _⟩
end Go.Proofs.YtlkknmhhefjmjaaGreatDoor
