/- The functions compute what the texts of D say. Laid by a program (wip/gen/dec.py). -/
import Derived.Test.YtlkknmhhefjmjaaGreatDoorPwAuto
import Derived.Test.YtlkknmhhefjmjaaGreatDoorD
import Derived.Test.YtlkknmhhefjmjaaGreatDoorWA
set_option linter.unusedVariables false
set_option linter.unusedSimpArgs false
namespace Go.Proofs.YtlkknmhhefjmjaaGreatDoor
open Go.PW Go
theorem actioncache_combine_spec (n : Nat) (a0 : Int) (a1 : List Int) (r : Int) (h : actioncache_combine n a0 a1 = some r) : PSpec Tryz.prog 67 [iP a0, lP a1] (iP r) := by
 unfold actioncache_combine at h
 refine spec_of Tryz.c_actioncache_combine (by simp) ?_
 unfold Tryz.l_actioncache_combine
 refine au h [1,1,1,1,1,1,1,5,1,1] ?_; intro h
 refine Ev.loopW (β := Nat × Int × Int) (fun v => ⟨[(0, iP v.2.1), (7, lP a1), (8, iP (a1.length : Int)), (9, iP v.2.2)], [], 2⟩) (fun v => actioncache_combine_l1 n a1 v.1 v.2.1 v.2.2 = some r) (fun v => v.1) (n, a0, 0) (.nA) h ?_
 intro ⟨m1, x1, x2⟩ h
 try dsimp only at h ⊢
 cases m1 with
 | zero => rw [actioncache_combine_l1] at h; cases h
 | succ m1 =>
  rw [actioncache_combine_l1] at h
  refine au h [1,1,5,1] ?_; intro h
  refine bs h (fun c1 h => ?_) fun c1 h => ?_
  ·refine au h [2,1,1,1,1,1,5,5,1,1,1,1] ?_; intro e3 k2 h
   refine cb h (digest_Pair_spec n _ _) fun r4 k3 h => ?_
   refine ax 21 h [1,5,5,1,1,7,1] ?_; intro x5 k4 h
   exact lb (m1, r4.1, x5) h
  ·refine au h [3,1,1,1,1,1,1] ?_; intro h
   cases h
   exact ⟨_, rfl, .refl _⟩
theorem actioncache_Key_spec (n : Nat) (a0 : SInputsOpsOutput) (a1 : SFiles) (r : (Int × SCodeIndex)) (h : actioncache_Key n a0 a1 = some r) : PSpec Tryz.prog 20 [.agg (SInputsOpsOutput.cells a0), .agg (SFiles.cells a1)] (.tup [iP r.1, .agg (SCodeIndex.cells r.2)]) := by
 unfold actioncache_Key at h
 refine spec_of Tryz.c_actioncache_Key (by simp) ?_
 unfold Tryz.l_actioncache_Key
 refine au h [1,1,5,5,1,5,1,1,1,8,8] ?_; intro h
 refine cb h (sandbox_Arguments_spec n _ _) fun r1 k1 h => ?_
 refine ax 87 h [5,8,1,1,8,5,5] ?_; intro h
 refine bs h (fun c2 h => ?_) fun c2 h => ?_
 ·refine au h [2,1,1,8,1,8,1] ?_; intro h
  cases h
  exact ⟨_, rfl, .refl _⟩
 ·refine au h [3,1,1,1,1,1,1,8,8] ?_; intro h
  refine cb h (digest_Strings_spec n _) fun r2 k3 h => ?_
  refine ax 87 h [1,5,5,5,1,8,1,1,1,8,8,5,1,1] ?_; intro h
  refine Ev.loopW (β := Nat × Int × Int) (fun v => ⟨[(2, wP 10100), (3, wP 10101), (5, wP 10102), (7, .fn 64 [] []), (8, iP v.2.1), (31, lP a0.Inputs), (32, iP (a0.Inputs.length : Int)), (33, iP v.2.2)], [(10100, eP 53 3 [[lP a0.Inputs, lP a0.Ops, .str a0.Output]]), (10101, eP 25 1 [[lP a1.Files]]), (10102, eP 31 2 [[iP 0, iP 0]])], 2⟩) (fun v => actioncache_Key_l1 n a0 a1 v.1 v.2.1 v.2.2 = some r) (fun v => v.1) (n, r2.1, 0) (.nA) h ?_
  intro ⟨m1, x3, x4⟩ h
  try dsimp only at h ⊢
  cases m1 with
  | zero => rw [actioncache_Key_l1] at h; cases h
  | succ m1 =>
   rw [actioncache_Key_l1] at h
   refine au h [1,1,5,1] ?_; intro h
   refine bs h (fun c4 h => ?_) fun c4 h => ?_
   ·refine au h [2,1,1,1,1,1,5,5,1,1,1,1] ?_; intro e5 k5 h
    refine Ev.seqJ (γ := Int) (fun v => ⟨[(2, wP 10200), (3, wP 10201), (5, wP 10202), (7, .fn 64 [] []), (8, iP x3), (12, iP v), (31, lP a0.Inputs), (32, iP (a0.Inputs.length : Int)), (33, iP x4)], [(10200, eP 53 3 [[lP a0.Inputs, lP a0.Ops, .str a0.Output]]), (10201, eP 25 1 [[lP a1.Files]]), (10202, eP 31 2 [[iP 0, iP 0]])], 2⟩) (fun v => actioncache_Key_j1 n x3 x4 (actioncache_Key_l1 n a0 a1 m1) v = some r) ?_ ?_
    ·refine au h [1,1,8,8,1] ?_; intro h
     refine cb h (treepatch_Find_spec n _ _) fun r9 k8 h => ?_
     refine ax 87 h [1,5,5,1,1,1,1,1] ?_; intro h
     refine bs h (fun c9 h => ?_) fun c9 h => ?_
     ·refine au h [2,1,8,8,1,5,5,5] ?_; intro e10 k10 h
      refine cb h (digest_Strings_spec n _) fun r11 k11 h => ?_
      refine aw h [1,5,5,1] ?_; intro h
      exact lf r11.1 h
     ·refine au h [3,1] ?_; intro h
      exact lf 0 h
    ·intro x6 h
     try dsimp only at h ⊢
     unfold actioncache_Key_j1 at h
     refine au h [1,1,1,5] ?_; intro h
     refine cb h (actioncache_combine_spec n _ _) fun r7 k6 h => ?_
     refine ax 87 h [1,1,7,1] ?_; intro x8 k7 h
     exact lb (m1, r7, x8) h
   ·refine au h [3,1,1,1,1,8,8,5,1,1] ?_; intro h
    refine Ev.loopW (β := Nat × Int × Int) (fun v => ⟨[(2, wP 10200), (5, wP 10201), (7, .fn 64 [] []), (8, iP v.2.1), (61, lP a0.Ops), (62, iP (a0.Ops.length : Int)), (63, iP v.2.2)], [(10200, eP 53 3 [[lP a0.Inputs, lP a0.Ops, .str a0.Output]]), (10201, eP 31 2 [[iP 0, iP 0]])], 2⟩) (fun v => actioncache_Key_l2 n a0 v.1 v.2.1 v.2.2 = some r) (fun v => v.1) (n, x3, 0) (.nA) h ?_
    intro ⟨m2, x12, x13⟩ h
    try dsimp only at h ⊢
    cases m2 with
    | zero => rw [actioncache_Key_l2] at h; cases h
    | succ m2 =>
     rw [actioncache_Key_l2] at h
     refine au h [1,1,5,1] ?_; intro h
     refine bs h (fun c12 h => ?_) fun c12 h => ?_
     ·refine au h [2,1,1,1,1,1,5,5,5,8,1,1,8,8,1,8,8] ?_; intro e14 k13 h
      obtain ⟨r15, k14, h⟩ := obind h
      refine W.callv (actioncache_Key_1_spec n e14.Text r15 k14) Tryz.b_actioncache_Key_1 rfl rfl (Les.refl _) rfl (.inl rfl) rfl ?_
      refine aw h [5] ?_; intro h
      refine cb h (actioncache_combine_spec n _ _) fun r16 k15 h => ?_
      refine aw h [5] ?_; intro h
      refine cb h (actioncache_combine_spec n _ _) fun r17 k16 h => ?_
      refine ax 87 h [1,1,7,1] ?_; intro x18 k17 h
      exact lb (m2, r17, x18) h
     ·refine au h [3,1,1] ?_; intro h
      refine Ev.regS rfl ?_
      refine Sq.w 4 nb ?_
      refine aw h [1,1,8,8] ?_; intro h
      refine Sq.callv (f := 64) rfl Tryz.b_actioncache_Key_1 Tryz.c_actioncache_Key_1 ⟨_, _, _, rfl, nb, ?_⟩
      unfold Tryz.l_actioncache_Key_1
      refine Ev.retJ (γ := Int) (fun v => ⟨[(2, iP v), (65541, wP 10300), (65615, iP x12)], [(10300, eP 31 2 [[iP 0, iP 0]])], 2⟩) (fun v => actioncache_Key_j2 n x12 v = some r) ?_ ?_
      ·refine au h [1,1,1,1,1,1,5] ?_; intro h
       refine cb h (digest_Of_spec n _) fun r21 k19 h => ?_
       refine ax 12 h [1,5,5,5,1,8,1,1,1,1,1] ?_; intro h
       exact lf r21.1 h
      ·intro x19 h
       try dsimp only at h ⊢
       unfold actioncache_Key_j2 at h
       refine ⟨_, rfl, ?_⟩
       refine Sq.wEnd nb ?_
       refine aw h [5] ?_; intro h
       refine cb h (actioncache_combine_spec n _ _) fun r20 k18 h => ?_
       refine ax 87 h [5,1,8,1] ?_; intro h
       cases h
       exact ⟨_, rfl, .refl _⟩
theorem ref6_Strings_spec (n : Nat) (a0 : List (List UInt8)) (a1 : List (List UInt8)) (r : Bool) (h : ref6_Strings n a0 a1 = some r) : PSpec Tryz.prog 24 [lP a0, lP a1] (.bool r) := by
 unfold ref6_Strings at h
 refine spec_of Tryz.c_ref6_Strings (by simp) ?_
 unfold Tryz.l_ref6_Strings
 refine au h [1,1,1,1,1,1,1,5,1,5,5] ?_; intro h
 refine bs h (fun c1 h => ?_) fun c1 h => ?_
 ·refine au h [2,1,1,1,1] ?_; intro h
  cases h
  exact ⟨_, rfl, .refl _⟩
 ·refine au h [3,1,1,1,1,1,1] ?_; intro h
  refine Ev.loopW (β := Nat × Int) (fun v => ⟨[(0, lP a0), (1, lP a1), (5, iP v.2)], [], 2⟩) (fun v => ref6_Strings_l1 n a0 a1 v.1 v.2 = some r) (fun v => v.1) (n, 0) (.nA) h ?_
  intro ⟨m1, x1⟩ h
  try dsimp only at h ⊢
  cases m1 with
  | zero => rw [ref6_Strings_l1] at h; cases h
  | succ m1 =>
   rw [ref6_Strings_l1] at h
   refine au h [1,1,1,1,1,5,5] ?_; intro h
   refine bs h (fun c2 h => ?_) fun c2 h => ?_
   ·refine au h [2,1,1,1,1,1,1,1,5,5,1,1,5,5,6] ?_; intro e2 k3 e3 k4 h
    refine bs h (fun c5 h => ?_) fun c5 h => ?_
    ·refine au h [2,1,1,1,1] ?_; intro h
     cases h
     exact ⟨_, rfl, .refl _⟩
    ·refine au h [3,1,1,1,7,1] ?_; intro x4 k6 h
     exact lb (m1, x4) h
   ·refine au h [3,1,1,1,1,1] ?_; intro h
    cases h
    exact ⟨_, rfl, .refl _⟩
theorem top_kernAction_spec (n : Nat) (r : SInputsOpsOutput) (h : top_kernAction n = some r) : PSpec Tryz.prog 52 [] (.agg (SInputsOpsOutput.cells r)) := by
 unfold top_kernAction at h
 refine spec_of Tryz.c_top_kernAction (by simp) ?_
 unfold Tryz.l_top_kernAction
 refine au h [1,1,5,1,1,5,5,5,5,8] ?_; intro h
 refine Ev.weak ?_ (Wk.frz 1 2 rfl rfl)
 refine Ev.weak ?_ (Wk.frz 3 2 rfl rfl)
 refine Ev.ret ?_
 cases h
 exact ⟨_, rfl, .refl _⟩
theorem top_kernFiles_spec (n : Nat) (r : SFiles) (h : top_kernFiles n = some r) : PSpec Tryz.prog 53 [] (.agg (SFiles.cells r)) := by
 unfold top_kernFiles at h
 refine spec_of Tryz.c_top_kernFiles (by simp) ?_
 unfold Tryz.l_top_kernFiles
 refine au h [1,1,5,1,1,5,5,5,5,8] ?_; intro h
 refine Ev.weak ?_ (Wk.frz 1 2 rfl rfl)
 refine Ev.weak ?_ (Wk.frz 3 2 rfl rfl)
 refine Ev.ret ?_
 cases h
 exact ⟨_, rfl, .refl _⟩
theorem top_kernBuilds_spec (n : Nat) (r : Bool) (h : top_kernBuilds n = some r) : PSpec Tryz.prog 13 [] (.bool r) := by
 unfold top_kernBuilds at h
 refine spec_of Tryz.c_top_kernBuilds (by simp) ?_
 unfold Tryz.l_top_kernBuilds
 refine au h [1,1,1,1,1] ?_; intro h
 refine cb h (top_kernAction_spec n) fun r1 k1 h => ?_
 refine cb h (top_kernFiles_spec n) fun r2 k2 h => ?_
 obtain ⟨r3, k3, h⟩ := obind h
 refine W.callOT (res' := .tup [.own 12 2, .agg [iP r3.2.Code, iP r3.2.Index]]) (sandbox_Run_spec n r1 r2 r3 k3) rfl (Les.refl _) rfl rfl rfl rfl rfl ?_
 refine ax 73 h [1,5,5,5,1,8,1] ?_; intro h
 refine Ev.regS rfl ?_
 refine Sq.w 3 nb ?_
 refine cb h (top_kernAction_spec n) fun r4 k4 h => ?_
 refine aw h [5] ?_; intro h
 refine cb h (top_kernFiles_spec n) fun r5 k5 h => ?_
 refine W.nil ?_
 refine Sq.weak (st' := ⟨[(1, .own 10000 0), (2, wP 10001), (17, lP ([r4] : List SInputsOpsOutput)), (18, .agg [lP r5.Files])], [(10000, eP 9 1 (mP r3.1)), (10001, eP 31 2 [[iP r3.2.Code, iP r3.2.Index]])], 2⟩) ?_ ((Wk.frz 17 2 rfl rfl).trans (.nA))
 refine Sq.wEnd nb ?_
 refine cb h (release_Make_spec n _ _) fun r6 k6 h => ?_
 refine ax 73 h [1,5,5,5,5,8,8,1] ?_; intro h
 refine Ev.regS rfl ?_
 refine Sq.w 2 nb ?_
 refine aw h [5] ?_; intro h
 refine cb h (top_kernFiles_spec n) fun r7 k7 h => ?_
 refine W.nil ?_
 refine Sq.weak (st' := ⟨[(1, .own 10000 0), (2, wP 10001), (3, wP 10002), (4, wP 10003), (23, lP ([([97] : List UInt8)] : List (List UInt8))), (24, .agg [lP r7.Files])], [(10000, eP 9 1 (mP r3.1)), (10001, eP 31 2 [[iP r3.2.Code, iP r3.2.Index]]), (10002, eP 29 3 [[lP r6.1.Actions, lP r6.1.Materials, lP r6.1.Output.Files]]), (10003, eP 31 2 [[iP r6.2.Code, iP r6.2.Index]])], 2⟩) ?_ ((Wk.frz 23 2 rfl rfl).trans (.nA))
 refine Sq.wEnd nb ?_
 refine cb h (bom_Make_spec n _ _) fun r8 k8 h => ?_
 refine ax 73 h [1,5,5,5,1,8,1,1] ?_; intro h
 refine cb h (top_kernAction_spec n) fun r9 k9 h => ?_
 refine cb h (top_kernFiles_spec n) fun r10 k10 h => ?_
 refine cb h (actioncache_Key_spec n _ _) fun r11 k11 h => ?_
 refine aw h [1,5,5,5,1,8] ?_; intro h
 refine Ev.seqJ (γ := Bool) (fun v => ⟨[(0, .bool v)], [], 2⟩) (fun v => top_kernBuilds_j1 n v = some r) ?_ ?_
 ·refine au h [1,8,8,5,1] ?_; intro h
  refine bs h (fun c12 h => ?_) fun c12 h => ?_
  ·refine aw h [2,8,2,8,2,5,2,1] ?_; intro h
   refine bs h (fun c13 h => ?_) fun c13 h => ?_
   ·refine aw h [2,8,2,8,2,5,2,1] ?_; intro h
    refine bs h (fun c14 h => ?_) fun c14 h => ?_
    ·refine aw h [2,8,2,8,2,5,2,1] ?_; intro h
     refine bs h (fun c15 h => ?_) fun c15 h => ?_
     ·refine aw h [2,1,2,5,2] ?_; intro h
      refine cb h (ref6_Strings_spec n _ _) fun r13 k16 h => ?_
      refine aw h [2,1] ?_; intro h
      refine bs h (fun c17 h => ?_) fun c17 h => ?_
      ·refine aw h [2,8,2,8,2,8,2,5,2,5,2,1] ?_; intro h
       refine bs h (fun c18 h => ?_) fun c18 h => ?_
       ·refine aw h [2,1,2,5,2,5,2,1] ?_; intro h
        refine bs h (fun c19 h => ?_) fun c19 h => ?_
        ·refine aw h [2,1,2,5,2,1] ?_; intro h
         exact lf (decide (r11.1 ≠ 0)) h
        ·refine aw h [3,3,3,1] ?_; intro h
         exact lf false h
       ·refine aw h [3,3,3,3,1,3,3,3,1] ?_; intro h
        exact lf false h
      ·refine aw h [3,3,3,3,3,3,1,3,3,3,3,1,3,3,3,1] ?_; intro h
       exact lf false h
     ·refine aw h [3,3,3,3,1,3,3,3,3,3,3,1,3,3,3,3,1,3,3,3,1] ?_; intro h
      exact lf false h
    ·refine aw h [3,3,3,3,1,3,3,3,3,1,3,3,3,3,3,3,1,3,3,3,3,1,3,3,3,1] ?_; intro h
     exact lf false h
   ·refine aw h [3,3,3,3,1,3,3,3,3,1,3,3,3,3,1,3,3,3,3,3,3,1,3,3,3,3,1,3,3,3,1] ?_; intro h
    exact lf false h
  ·refine aw h [3,3,3,3,1,3,3,3,3,1,3,3,3,3,1,3,3,3,3,1,3,3,3,3,3,3,1,3,3,3,3,1,3,3,3,1] ?_; intro h
   exact lf false h
 ·intro x12 h
  try dsimp only at h ⊢
  unfold top_kernBuilds_j1 at h
  refine Ev.ret ?_
  cases h
  exact ⟨_, rfl, .refl _⟩
theorem ref6_WithFile_spec (n : Nat) (a0 : SFiles) (a1 : List UInt8) (a2 : List (List UInt8)) (r : SFiles) (h : ref6_WithFile n a0 a1 a2 = some r) : PSpec Tryz.prog 15 [.agg (SFiles.cells a0), .str a1, lP a2] (.agg (SFiles.cells r)) := by
 unfold ref6_WithFile at h
 refine spec_of Tryz.c_ref6_WithFile (by simp) ?_
 unfold Tryz.l_ref6_WithFile
 refine au h [1,1,5,5,1,1,5,1,1,1,1,1] ?_; intro h
 refine Ev.loopW (β := Nat × (List SPathLines) × Int) (fun v => ⟨[(1, .str a1), (2, lP a2), (3, wP 10100), (6, wP 10101), (7, wP 10102), (8, iP v.2.2)], [(10100, eP 25 1 [[lP a0.Files]]), (10101, eP 25 1 [[.nils]]), (10102, ⟨0, 25, 1, [[.own 10103 0]], false, false, false⟩), (10103, eP 37 2 (mP v.2.1))], 2⟩) (fun v => ref6_WithFile_l1 n a0 a1 a2 v.1 v.2.1 v.2.2 = some r) (fun v => v.1) (n, ([] : List SPathLines), 0) ((Wk.ownNilCell 7 2 0 30103 37 2 rfl rfl rfl rfl rfl (by simp) true).trans (.nA)) h ?_
 intro ⟨m1, w1, x2⟩ h
 try dsimp only at h ⊢
 cases m1 with
 | zero => rw [ref6_WithFile_l1] at h; cases h
 | succ m1 =>
  rw [ref6_WithFile_l1] at h
  refine Ev.seq ?_
  refine Ev.seqJ (γ := Bool) (fun v => ⟨[(1, .str a1), (2, lP a2), (3, wP 10200), (6, wP 10201), (7, wP 10202), (8, iP x2), (24, .bool v)], [(10200, eP 25 1 [[lP a0.Files]]), (10201, eP 25 1 [[.nils]]), (10202, ⟨0, 25, 1, [[.own 10203 0]], false, false, false⟩), (10203, eP 37 2 (mP w1))], 2⟩) (fun v => ref6_WithFile_j1 n a0 a1 a2 w1 x2 (ref6_WithFile_l1 n a0 a1 a2 m1) v = some r) ?_ ?_
  ·refine au h [1,1,8,8,5,5,1] ?_; intro h
   refine bs h (fun c8 h => ?_) fun c8 h => ?_
   ·refine aw h [2,8,2,8,2,1,2,5,2,5,2,5,2,1,2,6,2] ?_; intro e10 k9 h
    exact lf (Op.bytesLess e10.Path a1) h
   ·refine aw h [3,3,3,3,3,3,3,3,3] ?_; intro h
    exact lf false h
  ·intro x3 h
   try dsimp only at h ⊢
   unfold ref6_WithFile_j1 at h
   refine bs h (fun c1 h => ?_) fun c1 h => ?_
   ·refine au h [2,1,1,1,1,8,8,8,8,1,5,5,5,7,8,8,1,1,7,1] ?_; intro e4 k2 w5 k3 x6 k4 h
    exact lb (m1, w5, x6) h
   ·refine au h [3,1,1,1,8,8,7,1,1,1,8,8,1,1,5,5,7,8,8,1,1,8,8,8,8,1,6,7,8,8,1,1,8,8] ?_; intro w7 k5 s8 k6 w9 k7 h
    refine Ev.weak ?_ (Wk.frz 54 2 rfl rfl)
    refine Ev.ret ?_
    cases h
    exact ⟨_, rfl, .refl _⟩
theorem signing_IsDigest_spec (n : Nat) (a0 : Int) (r : Bool) (h : signing_IsDigest n a0 = some r) : PSpec Tryz.prog 69 [iP a0] (.bool r) := by
 unfold signing_IsDigest at h
 refine spec_of Tryz.c_signing_IsDigest (by simp) ?_
 unfold Tryz.l_signing_IsDigest
 refine au h [1,1,1] ?_; intro h
 refine Ev.seqJ (γ := Bool) (fun v => ⟨[(2, .bool v)], [], 2⟩) (fun v => signing_IsDigest_j1 n v = some r) ?_ ?_
 ·refine au h [1,1,5,1] ?_; intro h
  refine bs h (fun c1 h => ?_) fun c1 h => ?_
  ·refine aw h [2,1,2,5,2,1] ?_; intro h
   exact lf (decide (a0 < 2305843009213693951)) h
  ·refine aw h [3,3,3,1] ?_; intro h
   exact lf false h
 ·intro x1 h
  try dsimp only at h ⊢
  unfold signing_IsDigest_j1 at h
  refine Ev.ret ?_
  cases h
  exact ⟨_, rfl, .refl _⟩
theorem actioncache_Validate_spec (n : Nat) (a0 : List SKeyLines) (r : SCodeIndex) (h : actioncache_Validate n a0 = some r) : PSpec Tryz.prog 68 [lP a0] (.agg (SCodeIndex.cells r)) := by
 unfold actioncache_Validate at h
 refine spec_of Tryz.c_actioncache_Validate (by simp) ?_
 unfold Tryz.l_actioncache_Validate
 refine au h [1,1,5,1,1,1,1,5,5] ?_; intro h
 refine bs h (fun c1 h => ?_) fun c1 h => ?_
 ·refine au h [2,1,1,5,8,1] ?_; intro h
  cases h
  exact ⟨_, rfl, .refl _⟩
 ·refine au h [3,1,1,1,1,1,5,1,1] ?_; intro h
  refine Ev.loopW (β := Nat × Int) (fun v => ⟨[(0, lP a0), (2, wP 10100), (10, lP a0), (11, iP (a0.length : Int)), (12, iP v.2)], [(10100, eP 31 2 [[iP 0, iP 0]])], 2⟩) (fun v => actioncache_Validate_l1 n a0 v.1 v.2 = some r) (fun v => v.1) (n, 0) (.nA) h ?_
  intro ⟨m1, x1⟩ h
  try dsimp only at h ⊢
  cases m1 with
  | zero => rw [actioncache_Validate_l1] at h; cases h
  | succ m1 =>
   rw [actioncache_Validate_l1] at h
   refine au h [1,1,5,1] ?_; intro h
   refine bs h (fun c2 h => ?_) fun c2 h => ?_
   ·refine au h [2,1,1,1,1,1,1,5,5,5,1,8,1,1,1,8,8] ?_; intro e2 k3 h
    refine cb h (signing_IsDigest_spec n _) fun r3 k4 h => ?_
    refine aw h [5] ?_; intro h
    refine bs h (fun c5 h => ?_) fun c5 h => ?_
    ·refine au h [2,1,1,1,5,8,1] ?_; intro h
     cases h
     exact ⟨_, rfl, .refl _⟩
    ·refine au h [3,1,1] ?_; intro h
     refine Ev.seqJ (γ := Bool) (fun v => ⟨[(0, lP a0), (2, wP 10200), (3, iP x1), (4, wP 10201), (10, lP a0), (11, iP (a0.length : Int)), (12, iP x1), (35, .bool v)], [(10200, eP 31 2 [[iP 0, iP 0]]), (10201, eP 114 2 [[iP e2.Key, lP e2.Lines]])], 2⟩) (fun v => actioncache_Validate_j1 n x1 (actioncache_Validate_l1 n a0 m1) e2 v = some r) ?_ ?_
     ·refine au h [1,1,5,1] ?_; intro h
      refine bs h (fun c10 h => ?_) fun c10 h => ?_
      ·refine aw h [2,8,2,8,2,1,2,1,2,7,2,5,2,5,2,5,2,5,2] ?_; intro x7 k11 e8 k12 h
       exact lf (decide (e2.Key ≤ e8.Key)) h
      ·refine aw h [3,3,3,3,3,3,3,3,3,3] ?_; intro h
       exact lf false h
     ·intro x4 h
      try dsimp only at h ⊢
      unfold actioncache_Validate_j1 at h
      refine bs h (fun c6 h => ?_) fun c6 h => ?_
      ·refine au h [2,1,1,1,5,8,1] ?_; intro h
       cases h
       exact ⟨_, rfl, .refl _⟩
      ·refine au h [3,1,1,1,8,8,1] ?_; intro h
       refine cb h (lines_Second_spec n _ _) fun r5 k7 h => ?_
       refine ax 48 h [5,8,1,1,8,5,5] ?_; intro h
       refine bs h (fun c8 h => ?_) fun c8 h => ?_
       ·refine au h [2,1,1,8,8,1] ?_; intro h
        cases h
        exact ⟨_, rfl, .refl _⟩
       ·refine au h [3,1,1,7,1] ?_; intro x6 k9 h
        exact lb (m1, x6) h
   ·refine au h [3,1,1,1,5,8,1] ?_; intro h
    cases h
    exact ⟨_, rfl, .refl _⟩
theorem actioncache_find_spec (n : Nat) (a0 : List SKeyLines) (a1 : Int) (r : (Int × Bool)) (h : actioncache_find n a0 a1 = some r) : PSpec Tryz.prog 70 [lP a0, iP a1] (.tup [iP r.1, .bool r.2]) := by
 unfold actioncache_find at h
 refine spec_of Tryz.c_actioncache_find (by simp) ?_
 unfold Tryz.l_actioncache_find
 refine au h [1,1,1,1,1] ?_; intro h
 refine Ev.regS rfl ?_
 refine Sq.w 2 nb ?_
 refine aw h [1,1] ?_; intro h
 refine Sq.call rfl Tryz.c_slices_BinarySearchFunc_api_CacheEntry_api_CacheEntry_int ⟨_, rfl, nb, ?_⟩
 unfold Tryz.l_slices_BinarySearchFunc_api_CacheEntry_api_CacheEntry_int
 refine Ev.retJ (γ := Int × Bool) (fun v => ⟨[(6, iP v.1), (7, .bool v.2), (65540, iP 0), (65541, .bool false)], [], 2⟩) (fun v => actioncache_find_j1 n v.1 v.2 = some r) ?_ ?_
 ·refine au h [1,1,1,1,1,1,1,5,1,1,1,1,1,1] ?_; intro h
  refine Ev.seqJ (γ := Int) (fun v => ⟨[(0, lP a0), (1, iP a1), (2, .fn 124 [] []), (8, iP (a0.length : Int)), (9, iP v), (65540, iP 0), (65541, .bool false)], [], 2⟩) (fun v => actioncache_find_j2 n a0 a1 v = some r) ?_ ?_
  ·refine Ev.block ?_
   refine Ev.loopW (β := Nat × Int × Int) (fun v => ⟨[(0, lP a0), (1, iP a1), (2, .fn 124 [] []), (8, iP (a0.length : Int)), (9, iP v.2.1), (10, iP v.2.2), (65540, iP 0), (65541, .bool false)], [], 2⟩) (fun v => actioncache_find_l1 n a0 a1 v.1 v.2.1 v.2.2 = some r) (fun v => v.1) (n, 0, (a0.length : Int)) (.nA) h ?_
   intro ⟨m1, x7, x8⟩ h
   try dsimp only at h ⊢
   cases m1 with
   | zero => rw [actioncache_find_l1] at h; cases h
   | succ m1 =>
    rw [actioncache_find_l1] at h
    refine au h [1,1,1,1,1,5] ?_; intro h
    refine bs h (fun c5 h => ?_) fun c5 h => ?_
    ·refine au h [2,1,1,1,1,1,1,7,5] ?_; intro x9 k6 h
     refine W.shrC (n := 1) rfl rfl ?_
     refine ax 49 h [5,1,1] ?_; intro h
     refine Ev.regS rfl ?_
     refine Sq.w 6 nb ?_
     refine aw h [1,1,1,5,5,1] ?_; intro e10 k7 h
     refine Sq.callv (f := 124) rfl Tryz.b_actioncache_find_1 Tryz.c_actioncache_find_1 ⟨_, _, _, rfl, nb, ?_⟩
     unfold Tryz.l_actioncache_find_1
     refine Ev.retJ (γ := Int) (fun v => ⟨[(4, iP v), (65536, lP a0), (65537, iP a1), (65538, .fn 124 [] []), (65544, iP (a0.length : Int)), (65545, iP x7), (65546, iP x8), (65547, iP (IntKind.wrap .i64 (kshr .u64 (IntKind.wrap .u64 x9) 1))), (131076, iP 0), (131077, .bool false)], [], 2⟩) (fun v => actioncache_find_j5 n x7 x8 (actioncache_find_l1 n a0 a1 m1) x9 v = some r) ?_ ?_
     ·refine au h [1,1,5,1,1,1,1,1,8,8,1,5,1] ?_; intro h
      refine bs h (fun c10 h => ?_) fun c10 h => ?_
      ·refine au h [2,1,1,1,1] ?_; intro h
       exact lf (-1) h
      ·refine au h [3,1,1,8,8,1,5,1] ?_; intro h
       refine bs h (fun c11 h => ?_) fun c11 h => ?_
       ·refine au h [2,1,1,1,1] ?_; intro h
        exact lf 1 h
       ·refine au h [3,1,1,1,1,1] ?_; intro h
        exact lf 0 h
     ·intro x11 h
      try dsimp only at h ⊢
      unfold actioncache_find_j5 at h
      refine ⟨_, rfl, ?_⟩
      refine Sq.wEnd nb ?_
      refine aw h [5] ?_; intro h
      refine bs h (fun c8 h => ?_) fun c8 h => ?_
      ·refine au h [2,1,1,7,1] ?_; intro x12 k9 h
       exact lb (m1, x12, x8) h
      ·refine au h [3,1,1,1] ?_; intro h
       exact lb (m1, x7, (IntKind.wrap .i64 (kshr .u64 (IntKind.wrap .u64 x9) 1))) h
    ·refine au h [3,1] ?_; intro h
     exact lf x7 h
  ·intro x3 h
   try dsimp only at h ⊢
   unfold actioncache_find_j2 at h
   refine Ev.seqJ (γ := Bool) (fun v => ⟨[(6, iP x3), (7, .bool v), (65540, iP 0), (65541, .bool false)], [], 2⟩) (fun v => actioncache_find_j3 n x3 v = some r) ?_ ?_
   ·refine Ev.regS rfl ?_
    refine Sq.w 11 nb ?_
    refine aw h [1,1,1,5,1] ?_; intro h
    refine bs h (fun c1 h => ?_) fun c1 h => ?_
    ·refine aw h [2,1,2,1,2,1,2,5,2,5,2,1] ?_; intro e5 k2 h
     refine Sq.callvG (f := 124) rfl Tryz.b_actioncache_find_1 Tryz.c_actioncache_find_1 (lookT rfl c1) ⟨_, _, _, rfl, nb, ?_⟩
     unfold Tryz.l_actioncache_find_1
     refine Ev.retJ (γ := Int) (fun v => ⟨[(4, iP v), (65571, iP x3), (65575, .bool (decide (x3 < (a0.length : Int)))), (131076, iP 0), (131077, .bool false)], [], 2⟩) (fun v => actioncache_find_j4 n x3 v = some r) ?_ ?_
     ·refine au h [1,1,5,1,1,1,1,1,8,8,1,5,1] ?_; intro h
      refine bs h (fun c3 h => ?_) fun c3 h => ?_
      ·refine au h [2,1,1,1,1] ?_; intro h
       exact lf (-1) h
      ·refine au h [3,1,1,8,8,1,5,1] ?_; intro h
       refine bs h (fun c4 h => ?_) fun c4 h => ?_
       ·refine au h [2,1,1,1,1] ?_; intro h
        exact lf 1 h
       ·refine au h [3,1,1,1,1,1] ?_; intro h
        exact lf 0 h
     ·intro x6 h
      try dsimp only at h ⊢
      unfold actioncache_find_j4 at h
      refine ⟨_, rfl, ?_⟩
      refine Sq.wEnd nb ?_
      refine aw h [2,5,2,1,1] ?_; intro h
      exact lf (decide (x6 = 0)) h
    ·refine aw h [3,3,3,3,3,3] ?_; intro h
     refine Sq.off rfl (.inl (lookT rfl c1)) ?_
     refine Sq.wEnd nb ?_
     refine aw h [3,3,1,1] ?_; intro h
     exact lf false h
   ·intro x4 h
    try dsimp only at h ⊢
    unfold actioncache_find_j3 at h
    refine Ev.ret ?_
    exact lf (x3, x4) h
 ·intro ⟨x1, x2⟩ h
  try dsimp only at h ⊢
  unfold actioncache_find_j1 at h
  refine ⟨_, rfl, ?_⟩
  refine Sq.wEnd nb ?_
  refine ax 11 h [5,5,1,1,1] ?_; intro h
  cases h
  exact ⟨_, rfl, .refl _⟩
theorem actioncache_Lookup_spec (n : Nat) (a0 : List SKeyLines) (a1 : Int) (r : ((List (List UInt8)) × Bool × SCodeIndex)) (h : actioncache_Lookup n a0 a1 = some r) : PSpec Tryz.prog 21 [lP a0, iP a1] (.tup [lP r.1, .bool r.2.1, .agg (SCodeIndex.cells r.2.2)]) := by
 unfold actioncache_Lookup at h
 refine spec_of Tryz.c_actioncache_Lookup (by simp) ?_
 unfold Tryz.l_actioncache_Lookup
 refine au h [1,1,1,1,5,1,1,1,1] ?_; intro h
 refine cb h (actioncache_Validate_spec n _) fun r1 k1 h => ?_
 refine ax 36 h [5,8,1,1,8,5,5] ?_; intro h
 refine bs h (fun c2 h => ?_) fun c2 h => ?_
 ·refine au h [2,1,1,8,1,1,8,1] ?_; intro h
  cases h
  exact ⟨_, rfl, Le.tups (.cons (.nils 1) (.cons (.refl _) (.cons (.refl _) (.nil))))⟩
 ·refine au h [3,1,1,1,1,1] ?_; intro h
  refine cb h (signing_IsDigest_spec n _) fun r2 k3 h => ?_
  refine aw h [5] ?_; intro h
  refine bs h (fun c4 h => ?_) fun c4 h => ?_
  ·refine au h [2,1,1,5,1,1,8,1] ?_; intro h
   cases h
   exact ⟨_, rfl, Le.tups (.cons (.nils 1) (.cons (.refl _) (.cons (.refl _) (.nil))))⟩
  ·refine au h [3,1,1,1,1,1] ?_; intro h
   refine cb h (actioncache_find_spec n _ _) fun r3 k5 h => ?_
   refine ax 36 h [1,5,5,1,1,1,1,1,1,5] ?_; intro h
   refine bs h (fun c6 h => ?_) fun c6 h => ?_
   ·refine au h [2,1,1,5,1,1,8,1] ?_; intro h
    cases h
    exact ⟨_, rfl, Le.tups (.cons (.nils 1) (.cons (.refl _) (.cons (.refl _) (.nil))))⟩
   ·refine au h [3,1,1,1,1,1,5,5,5] ?_; intro e4 k7 h
    obtain ⟨r5, k8, h⟩ := obind h
    refine W.callO (slices_Clone_string_own n e4.Lines r5 k8) rfl (Les.refl _) rfl rfl rfl ?_
    refine ax 36 h [5,1,1,8,1] ?_; intro h
    cases h
    exact ⟨_, rfl, .refl _⟩
theorem actioncache_clone_spec (n : Nat) (a0 : List SKeyLines) (r : (List SKeyLines)) (h : actioncache_clone n a0 = some r) : PMut Tryz.prog 72 [lP a0] [] (.own 70000 0) [(70000, ⟨0, 114, 2, List.map SKeyLines.cells r, true, false, false⟩)] := by
 unfold actioncache_clone at h
 refine specMut_of Tryz.c_actioncache_clone (by simp) (by simp) ?_
 unfold Tryz.l_actioncache_clone
 refine au h [1,1,1,1,1,1,1,1,1,1,5,1,1] ?_; intro h
 refine Ev.loopW (β := Nat × (List SKeyLines) × Int) (fun v => ⟨[(3, .own 10100 0), (6, lP a0), (7, iP (a0.length : Int)), (8, iP v.2.2)], [(10100, eP 114 2 (mP v.2.1))], 2⟩) (fun v => actioncache_clone_l1 n a0 v.1 v.2.1 v.2.2 = some r) (fun v => v.1) (n, ([] : List SKeyLines), 0) ((Wk.ownNil 3 30100 114 2 rfl rfl true).trans (.nA)) h ?_
 intro ⟨m1, w1, x2⟩ h
 try dsimp only at h ⊢
 cases m1 with
 | zero => rw [actioncache_clone_l1] at h; cases h
 | succ m1 =>
  rw [actioncache_clone_l1] at h
  refine au h [1,1,5,1] ?_; intro h
  refine bs h (fun c1 h => ?_) fun c1 h => ?_
  ·refine au h [2,1,1,1,1,1,5,5,5,8,1,1,8,8,8,8] ?_; intro e3 k2 h
   refine cb h (slices_Clone_string_spec n _) fun r4 k3 h => ?_
   refine ax 23 h [5,5,7,1,1,7,1] ?_; intro w5 k4 x6 k5 h
   exact lb (m1, w5, x6) h
  ·refine au h [3,1,1,1,1,1] ?_; intro h
   refine Ev.ret ?_
   injection h with h; subst h
   exact ⟨_, _, Wk.nrmTo [2] [(10100, 70000)] rfl rfl, rfl, rfl, rfl, .refl _, fun nm h => by simp [PW.look] at h⟩
end Go.Proofs.YtlkknmhhefjmjaaGreatDoor
namespace Go.Proofs.YtlkknmhhefjmjaaGreatDoor
open Go.PW Go
theorem actioncache_Store_spec (n : Nat) (a0 : List SKeyLines) (a1 : Int) (a2 : List (List UInt8)) (r : ((List SKeyLines) × SCodeIndex)) (h : actioncache_Store n a0 a1 a2 = some r) : PSpec Tryz.prog 73 [lP a0, iP a1, lP a2] (.tup [lP r.1, .agg (SCodeIndex.cells r.2)]) := by
 unfold actioncache_Store at h
 refine spec_of Tryz.c_actioncache_Store (by simp) ?_
 unfold Tryz.l_actioncache_Store
 refine au h [1,1,1,5,1,1,1,1] ?_; intro h
 refine cb h (actioncache_Lookup_spec n _ _) fun r1 k1 h => ?_
 refine ax 64 h [1,5,5,5,5,1,1,8,1,1,1,8,5,5] ?_; intro h
 refine bs h (fun c2 h => ?_) fun c2 h => ?_
 ·refine au h [2,1,1,8,1,8,1] ?_; intro h
  cases h
  exact ⟨_, rfl, Le.tups (.cons (.nils 2) (.cons (.refl _) (.nil)))⟩
 ·refine au h [3,1,1,1,1,1] ?_; intro h
  refine cb h (lines_Second_spec n _ _) fun r2 k3 h => ?_
  refine ax 64 h [5,8,1,1,8,5,5] ?_; intro h
  refine bs h (fun c4 h => ?_) fun c4 h => ?_
  ·refine au h [2,1,1,8,1,8,1] ?_; intro h
   cases h
   exact ⟨_, rfl, Le.tups (.cons (.nils 2) (.cons (.refl _) (.nil)))⟩
  ·refine au h [3,1,1] ?_; intro h
   refine Ev.seqJ (γ := Bool) (fun v => ⟨[(0, lP a0), (1, iP a1), (2, lP a2), (7, wP 10100), (9, .bool r1.2.1), (38, .bool v)], [(10100, eP 31 2 [[iP 0, iP 0]])], 2⟩) (fun v => actioncache_Store_j1 n a0 a1 a2 r1 v = some r) ?_ ?_
   ·refine au h [1,1,5,1] ?_; intro h
    refine bs h (fun c12 h => ?_) fun c12 h => ?_
    ·refine aw h [2,1,2,5,2,5,2] ?_; intro h
     exact lf (decide (16 ≤ (a0.length : Int))) h
    ·refine aw h [3,3,3,3] ?_; intro h
     exact lf false h
   ·intro x3 h
    try dsimp only at h ⊢
    unfold actioncache_Store_j1 at h
    refine bs h (fun c5 h => ?_) fun c5 h => ?_
    ·refine au h [2,1,1,5,1,8,1] ?_; intro h
     cases h
     exact ⟨_, rfl, Le.tups (.cons (.nils 2) (.cons (.refl _) (.nil)))⟩
    ·refine au h [3,1,1,1,1] ?_; intro h
     obtain ⟨r4, k6, h⟩ := obind h
     refine W.callO (actioncache_clone_spec n a0 r4 k6) rfl (Les.refl _) rfl rfl rfl ?_
     refine ax 64 h [1,1,1,1,1] ?_; intro h
     refine cb h (actioncache_find_spec n _ _) fun r5 k7 h => ?_
     refine aw h [1,5,5,1,1] ?_; intro h
     refine Ev.seqJ (γ := List SKeyLines) (fun v => ⟨[(2, lP a2), (7, wP 10200), (12, .own 10201 0), (13, iP r5.1)], [(10200, eP 31 2 [[iP 0, iP 0]]), (10201, eP 114 2 (mP v))], 2⟩) (fun v => actioncache_Store_j2 n a2 r5 v = some r) ?_ ?_
     ·refine au h [1,1,1,5] ?_; intro h
      refine bs h (fun c10 h => ?_) fun c10 h => ?_
      ·refine au h [2,1,1,1,1,5,5] ?_; intro h
       obtain ⟨w9, k11, h⟩ := obind h
       refine W.insCall (l := r4) (c := SKeyLines.cells) (z := (⟨a1, ([] : List (List UInt8))⟩ : SKeyLines)) (cs := [iP a1, .nils]) (i := r5.1) k_InsCache rfl rfl rfl (by decide) rfl (by decide) (by decide) k11 rfl ?_
       refine aw h [1] ?_; intro h
       exact ⟨w9, h, (Wk.rowLe 55 2 (es' := List.map SKeyLines.cells w9) rfl rfl (LesR.ins k11 (.cons (.refl _) (.cons (.nils 1) (.nil))) fun _ => rfl) rfl).trans (.nA)⟩
      ·refine au h [3,1] ?_; intro h
       exact lf r4 h
     ·intro w6 h
      try dsimp only at h ⊢
      unfold actioncache_Store_j2 at h
      refine Ev.seq ?_
      refine Ev.regS rfl ?_
      refine Sq.w 6 nb ?_
      refine aw h [1,1,1] ?_; intro h
      obtain ⟨r7, k8, h⟩ := obind h
      refine W.callO (slices_Clone_string_own n a2 r7 k8) rfl (Les.refl _) rfl rfl rfl ?_
      refine aw h [7,8] ?_; intro e8 k9 h
      refine Sq.weak (st' := ⟨[(7, wP 10200), (12, .own 10201 0), (59, lP r7), (61, .pown 10201 0 r5.1.toNat 1)], [(10200, eP 31 2 [[iP 0, iP 0]]), (10201, eP 114 2 (mP w6))], 2⟩) ?_ ((Wk.frz 59 2 rfl rfl).trans (.nA))
      refine Sq.wEnd nb ?_
      refine W.storeR true (l := w6) (c := SKeyLines.cells) (v := e8) (v' := (⟨e8.Key, r7⟩ : SKeyLines)) rfl rfl rfl rfl (gidx_some k9).2 rfl (Nat.le_of_ble_eq_true rfl) rfl rfl rfl ?_
      refine ax 64 h [1,1,1,5,1,8,1] ?_; intro h
      cases h
      exact ⟨_, rfl, .refl _⟩
theorem actioncache_Run_spec (n : Nat) (a0 : List SKeyLines) (a1 : SInputsOpsOutput) (a2 : SFiles) (r : ((List (List UInt8)) × (List SKeyLines) × Bool × SCodeIndex)) (h : actioncache_Run n a0 a1 a2 = some r) : PSpec Tryz.prog 22 [lP a0, .agg (SInputsOpsOutput.cells a1), .agg (SFiles.cells a2)] (.tup [lP r.1, lP r.2.1, .bool r.2.2.1, .agg (SCodeIndex.cells r.2.2.2)]) := by
 unfold actioncache_Run at h
 refine spec_of Tryz.c_actioncache_Run (by simp) ?_
 unfold Tryz.l_actioncache_Run
 refine au h [1,1,5,5,1,1,1,5,1,1,1,1] ?_; intro h
 refine cb h (actioncache_Validate_spec n _) fun r1 k1 h => ?_
 refine ax 71 h [5,8,1,1,8,5,5] ?_; intro h
 refine bs h (fun c2 h => ?_) fun c2 h => ?_
 ·refine au h [2,1,1,8,1,1,1,8,1] ?_; intro h
  cases h
  exact ⟨_, rfl, Le.tups (.cons (.nils 1) (.cons (.nils 2) (.cons (.refl _) (.cons (.refl _) (.nil)))))⟩
 ·refine au h [3,1,1,1,8,8] ?_; intro h
  refine cb h (actioncache_Key_spec n _ _) fun r2 k3 h => ?_
  refine ax 71 h [1,5,5,5,1,8,1,1,1,8,5,5] ?_; intro h
  refine bs h (fun c4 h => ?_) fun c4 h => ?_
  ·refine au h [2,1,1,8,1,1,1,8,1] ?_; intro h
   cases h
   exact ⟨_, rfl, Le.tups (.cons (.nils 1) (.cons (.nils 2) (.cons (.refl _) (.cons (.refl _) (.nil)))))⟩
  ·refine au h [3,1,1,1,1,1,1] ?_; intro h
   refine cb h (actioncache_Lookup_spec n _ _) fun r3 k5 h => ?_
   refine ax 71 h [1,5,5,5,5,1,1,8,1,1,1] ?_; intro h
   refine bs h (fun c6 h => ?_) fun c6 h => ?_
   ·refine au h [2,1,1,1,1] ?_; intro h
    obtain ⟨r4, k7, h⟩ := obind h
    refine W.callO (actioncache_clone_spec n a0 r4 k7) rfl (Les.refl _) rfl rfl rfl ?_
    refine ax 71 h [5,1,1,1,8,1] ?_; intro h
    cases h
    exact ⟨_, rfl, .refl _⟩
   ·refine au h [3,1,1,1,8,8] ?_; intro h
    obtain ⟨r5, k8, h⟩ := obind h
    refine W.callOT (res' := .tup [.own 49 2, .agg [iP r5.2.Code, iP r5.2.Index]]) (sandbox_Run_spec n a1 a2 r5 k8) rfl (Les.refl _) rfl rfl rfl rfl rfl ?_
    refine ax 71 h [1,5,5,1,8,1,1,1,8,5,5] ?_; intro h
    refine bs h (fun c9 h => ?_) fun c9 h => ?_
    ·refine au h [2,1,1,8,1,1,1,8,1] ?_; intro h
     cases h
     exact ⟨_, rfl, Le.tups (.cons (.nils 1) (.cons (.nils 2) (.cons (.refl _) (.cons (.refl _) (.nil)))))⟩
    ·refine au h [3,1,1] ?_; intro h
     refine Ev.weak ?_ (Wk.frz 49 2 rfl rfl)
     refine au h [1,1,1,1] ?_; intro h
     refine cb h (actioncache_Store_spec n _ _ _) fun r6 k10 h => ?_
     refine aw h [1,5,5,1,8] ?_; intro h
     refine Ev.seqJ (γ := List SKeyLines) (fun v => ⟨[(9, wP 10100), (16, lP r5.1), (17, lP v)], [(10100, eP 31 2 [[iP 0, iP 0]])], 2⟩) (fun v => actioncache_Run_j1 n r5 v = some r) ?_ ?_
     ·refine au h [1,1,8,5,5] ?_; intro h
      refine bs h (fun c11 h => ?_) fun c11 h => ?_
      ·refine au h [2,1,1] ?_; intro h
       obtain ⟨r8, k12, h⟩ := obind h
       refine W.callO (actioncache_clone_spec n a0 r8 k12) rfl (Les.refl _) rfl rfl rfl ?_
       refine aw h [1] ?_; intro h
       exact ⟨r8, h, (Wk.frz 67 2 rfl rfl).trans (.nA)⟩
      ·refine au h [3,1] ?_; intro h
       exact lf r6.1 h
     ·intro x7 h
      try dsimp only at h ⊢
      unfold actioncache_Run_j1 at h
      refine au h [1,1,1,1,5,1,1,1,8,1] ?_; intro h
      cases h
      exact ⟨_, rfl, .refl _⟩
theorem ref6_FileIn_spec (n : Nat) (a0 : SFiles) (a1 : List UInt8) (r : ((List (List UInt8)) × Bool)) (h : ref6_FileIn n a0 a1 = some r) : PSpec Tryz.prog 23 [.agg (SFiles.cells a0), .str a1] (.tup [lP r.1, .bool r.2]) := by
 unfold ref6_FileIn at h
 refine spec_of Tryz.c_ref6_FileIn (by simp) ?_
 unfold Tryz.l_ref6_FileIn
 refine au h [1,1,5,1,1,1,1,1,1,1] ?_; intro h
 refine Ev.loopW (β := Nat × Int) (fun v => ⟨[(1, .str a1), (2, wP 10100), (6, iP v.2)], [(10100, eP 25 1 [[lP a0.Files]])], 2⟩) (fun v => ref6_FileIn_l1 n a0 a1 v.1 v.2 = some r) (fun v => v.1) (n, 0) (.nA) h ?_
 intro ⟨m1, x1⟩ h
 try dsimp only at h ⊢
 cases m1 with
 | zero => rw [ref6_FileIn_l1] at h; cases h
 | succ m1 =>
  rw [ref6_FileIn_l1] at h
  refine au h [1,1,1,1,8,8,5,5] ?_; intro h
  refine bs h (fun c1 h => ?_) fun c1 h => ?_
  ·refine au h [2,1,1,1,1,1,8,8,1,5,5,5,1,6] ?_; intro e2 k2 h
   refine bs h (fun c3 h => ?_) fun c3 h => ?_
   ·refine au h [2,1,1,8,8,1,6,5,5,1,1,1] ?_; intro h
    cases h
    exact ⟨_, rfl, .refl _⟩
   ·refine au h [3,1,1,1,7,1] ?_; intro x3 k4 h
    exact lb (m1, x3) h
  ·refine au h [3,1,1,1,1,1,1] ?_; intro h
   cases h
   exact ⟨_, rfl, Le.tups (.cons (.nils 1) (.cons (.refl _) (.nil)))⟩
theorem top_TopCachedBuildsAreReleases_spec (n : Nat) (a0 : List SInputsOpsOutput) (a1 : SFiles) (r : Bool) (h : top_TopCachedBuildsAreReleases n a0 a1 = some r) : PSpec Tryz.prog 4 [lP a0, .agg (SFiles.cells a1)] (.bool r) := by
 unfold top_TopCachedBuildsAreReleases at h
 refine spec_of Tryz.c_top_TopCachedBuildsAreReleases (by simp) ?_
 unfold Tryz.l_top_TopCachedBuildsAreReleases
 refine au h [1,1,5,1,1,1,1] ?_; intro h
 refine cb h (top_kernBuilds_spec n) fun r1 k1 h => ?_
 refine aw h [5] ?_; intro h
 refine bs h (fun c2 h => ?_) fun c2 h => ?_
 ·refine au h [2,1,1,1,1] ?_; intro h
  cases h
  exact ⟨_, rfl, .refl _⟩
 ·refine au h [3,1,1,1,1,8] ?_; intro h
  refine cb h (release_Make_spec n _ _) fun r2 k3 h => ?_
  refine ax 122 h [1,5,5,5,5,8,8,1,1,1,8,8,5] ?_; intro h
  refine bs h (fun c4 h => ?_) fun c4 h => ?_
  ·refine au h [2,1,1,8,8,8,5,5,1,1] ?_; intro h
   cases h
   exact ⟨_, rfl, .refl _⟩
  ·refine au h [3,1,1,1,1,1,1,8,5,8,1,1,1,1,1] ?_; intro h
   refine Ev.loopW (β := Nat × (List SKeyLines) × (List SPathLines) × Int) (fun v => ⟨[(0, lP a0), (5, wP 10100), (7, lP v.2.1), (8, wP 10101), (9, iP v.2.2.2)], [(10100, eP 29 3 [[lP r2.1.Actions, lP r2.1.Materials, lP r2.1.Output.Files]]), (10101, eP 25 1 [[lP v.2.2.1]])], 2⟩) (fun v => top_TopCachedBuildsAreReleases_l1 n a0 r2 v.1 v.2.1 v.2.2.1 v.2.2.2 = some r) (fun v => v.1) (n, ([] : List SKeyLines), a1.Files, 0) ((Wk.le (t := 7) rfl (.nils 2)).trans (.nA)) h ?_
   intro ⟨m1, x3, b4, x5⟩ h
   try dsimp only at h ⊢
   cases m1 with
   | zero => rw [top_TopCachedBuildsAreReleases_l1] at h; cases h
   | succ m1 =>
    rw [top_TopCachedBuildsAreReleases_l1] at h
    refine au h [1,1,1,1,1,5,5] ?_; intro h
    refine bs h (fun c5 h => ?_) fun c5 h => ?_
    ·refine au h [2,1,1,1,1,1,1,1,5,5,8] ?_; intro e6 k6 h
     refine cb h (actioncache_Key_spec n _ _) fun r7 k7 h => ?_
     refine ax 122 h [1,5,5,5,1,8,1,1,1,1] ?_; intro h
     refine cb h (actioncache_Lookup_spec n _ _) fun r8 k8 h => ?_
     refine ax 122 h [1,5,5,5,5,1,1,8,1] ?_; intro h
     refine Ev.seqJ (γ := Bool) (fun v => ⟨[(0, lP a0), (5, wP 10200), (7, lP x3), (8, wP 10201), (9, iP x5), (13, .bool r8.2.1), (67, .bool v)], [(10200, eP 29 3 [[lP r2.1.Actions, lP r2.1.Materials, lP r2.1.Output.Files]]), (10201, eP 25 1 [[lP b4]])], 2⟩) (fun v => top_TopCachedBuildsAreReleases_j1 n r2 x3 b4 x5 (top_TopCachedBuildsAreReleases_l1 n a0 r2 m1) e6 r8 v = some r) ?_ ?_
     ·refine au h [1,8,8,5,1] ?_; intro h
      refine bs h (fun c20 h => ?_) fun c20 h => ?_
      ·refine aw h [3,3,3,2] ?_; intro h
       exact lf true h
      ·refine aw h [2,8,2,8,2,5,3] ?_; intro h
       exact lf (decide (r8.2.2.Code ≠ 0)) h
     ·intro x9 h
      try dsimp only at h ⊢
      unfold top_TopCachedBuildsAreReleases_j1 at h
      refine bs h (fun c9 h => ?_) fun c9 h => ?_
      ·refine au h [2,1,1,1,1] ?_; intro h
       cases h
       exact ⟨_, rfl, .refl _⟩
      ·refine au h [3,1,1,1,1,1] ?_; intro h
       refine bs h (fun c10 h => ?_) fun c10 h => ?_
       ·refine au h [2,1,1,1,1] ?_; intro h
        cases h
        exact ⟨_, rfl, .refl _⟩
       ·refine au h [3,1,1,1,1,1,1,6,5,8] ?_; intro h
        refine cb h (actioncache_Run_spec n _ _ _) fun r10 k11 h => ?_
        refine ax 122 h [1,5,5,5,5,5,1,1,1,8,1,1,8,8,1,1,6,5,5] ?_; intro h
        refine cb h (ref6_FileIn_spec n _ _) fun r11 k12 h => ?_
        refine ax 122 h [1,5,5,1,1,1] ?_; intro h
        refine Ev.seqJ (γ := Bool) (fun v => ⟨[(0, lP a0), (5, wP 10300), (8, wP 10301), (9, iP x5), (15, lP r10.1), (16, lP r10.2.1), (107, .bool v)], [(10300, eP 29 3 [[lP r2.1.Actions, lP r2.1.Materials, lP r2.1.Output.Files]]), (10301, eP 25 1 [[lP b4]])], 2⟩) (fun v => top_TopCachedBuildsAreReleases_j2 n b4 x5 (top_TopCachedBuildsAreReleases_l1 n a0 r2 m1) e6 r10 v = some r) ?_ ?_
        ·refine au h [1,8,8,5,1] ?_; intro h
         refine bs h (fun c16 h => ?_) fun c16 h => ?_
         ·refine aw h [3,2,1,3,3,2,1,3,3,3,3,2] ?_; intro h
          exact lf true h
         ·refine aw h [2,1,3,1] ?_; intro h
          refine bs h (fun c17 h => ?_) fun c17 h => ?_
          ·refine aw h [3,3,2,1,3,3,3,3,2] ?_; intro h
           exact lf true h
          ·refine aw h [2,1,2,5,3,1] ?_; intro h
           refine bs h (fun c18 h => ?_) fun c18 h => ?_
           ·refine aw h [3,3,3,3,2] ?_; intro h
            exact lf true h
           ·refine aw h [2,1,2,1,2] ?_; intro h
            refine cb h (ref6_Strings_spec n _ _) fun r15 k19 h => ?_
            refine aw h [2,5,3] ?_; intro h
            exact lf (!r15) h
        ·intro x12 h
         try dsimp only at h ⊢
         unfold top_TopCachedBuildsAreReleases_j2 at h
         refine bs h (fun c13 h => ?_) fun c13 h => ?_
         ·refine au h [2,1,1,1,1] ?_; intro h
          cases h
          exact ⟨_, rfl, .refl _⟩
         ·refine au h [3,1,1,1,1,1,1,8,1,1,6,5,5,1] ?_; intro h
          refine cb h (ref6_WithFile_spec n _ _ _) fun r13 k14 h => ?_
          refine ax 122 h [8,1,1,7,1] ?_; intro x14 k15 h
          exact lb (m1, r10.2.1, r13.Files, x14) h
    ·refine au h [3,1,1,1,1,5,1,5,5,1,1] ?_; intro h
     cases h
     exact ⟨_, rfl, .refl _⟩
end Go.Proofs.YtlkknmhhefjmjaaGreatDoor
