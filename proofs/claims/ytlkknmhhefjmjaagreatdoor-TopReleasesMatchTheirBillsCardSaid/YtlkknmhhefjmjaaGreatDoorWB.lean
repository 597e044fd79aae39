/- The functions compute what the texts of D say. Laid by a program (wip/gen/dec.py). -/
import Derived.Test.YtlkknmhhefjmjaaGreatDoorPwAuto
import Derived.Test.YtlkknmhhefjmjaaGreatDoorD
import Derived.Test.YtlkknmhhefjmjaaGreatDoorWA
set_option linter.unusedVariables false
set_option linter.unusedSimpArgs false
namespace Go.Proofs.YtlkknmhhefjmjaaGreatDoor
open Go.PW Go
theorem actioncache_combine_spec (n : Nat) (a0 : Int) (a1 : List Int) (r : Int) (h : actioncache_combine n a0 a1 = some r) : PSpec Tryz.prog 67 [iP a0, lP a1] (iP r) := by
 unfold actioncache_combine at h
 refine spec_of Tryz.c_actioncache_combine (by simp) ?_
 unfold Tryz.l_actioncache_combine
 refine au h [1,1,1,1,1,1,1,5,1,1] ?_; intro h
 refine Ev.loopW (β := Nat × Int × Int) (fun v => ⟨[(0, iP v.2.1), (7, lP a1), (8, iP (a1.length : Int)), (9, iP v.2.2)], [], 2⟩) (fun v => actioncache_combine_l1 n a1 v.1 v.2.1 v.2.2 = some r) (fun v => v.1) (n, a0, 0) (.nA) h ?_
 intro ⟨m1, x1, x2⟩ h
 try dsimp only at h ⊢
 cases m1 with
 | zero => rw [actioncache_combine_l1] at h; cases h
 | succ m1 =>
  rw [actioncache_combine_l1] at h
  refine au h [1,1,5,1] ?_; intro h
  refine bs h (fun c1 h => ?_) fun c1 h => ?_
  ·refine au h [2,1,1,1,1,1,5,5,1,1,1,1] ?_; intro e3 k2 h
   refine cb h (digest_Pair_spec n _ _) fun r4 k3 h => ?_
   refine ax 21 h [1,5,5,1,1,7,1] ?_; intro x5 k4 h
   exact lb (m1, r4.1, x5) h
  ·refine au h [3,1,1,1,1,1,1] ?_; intro h
   cases h
   exact ⟨_, rfl, .refl _⟩
theorem actioncache_Key_spec (n : Nat) (a0 : SInputsOpsOutput) (a1 : SFiles) (r : (Int × SCodeIndex)) (h : actioncache_Key n a0 a1 = some r) : PSpec Tryz.prog 20 [.agg (SInputsOpsOutput.cells a0), .agg (SFiles.cells a1)] (.tup [iP r.1, .agg (SCodeIndex.cells r.2)]) := by
 unfold actioncache_Key at h
 refine spec_of Tryz.c_actioncache_Key (by simp) ?_
 unfold Tryz.l_actioncache_Key
 refine au h [1,1,5,5,1,5,1,1,1,8,8] ?_; intro h
 refine cb h (sandbox_Arguments_spec n _ _) fun r1 k1 h => ?_
 refine ax 87 h [5,8,1,1,8,5,5] ?_; intro h
 refine bs h (fun c2 h => ?_) fun c2 h => ?_
 ·refine au h [2,1,1,8,1,8,1] ?_; intro h
  cases h
  exact ⟨_, rfl, .refl _⟩
 ·refine au h [3,1,1,1,1,1,1,8,8] ?_; intro h
  refine cb h (digest_Strings_spec n _) fun r2 k3 h => ?_
  refine ax 87 h [1,5,5,5,1,8,1,1,1,8,8,5,1,1] ?_; intro h
  refine Ev.loopW (β := Nat × Int × Int) (fun v => ⟨[(2, wP 10100), (3, wP 10101), (5, wP 10102), (7, .fn 64 [] []), (8, iP v.2.1), (31, lP a0.Inputs), (32, iP (a0.Inputs.length : Int)), (33, iP v.2.2)], [(10100, eP 53 3 [[lP a0.Inputs, lP a0.Ops, .str a0.Output]]), (10101, eP 25 1 [[lP a1.Files]]), (10102, eP 31 2 [[iP 0, iP 0]])], 2⟩) (fun v => actioncache_Key_l1 n a0 a1 v.1 v.2.1 v.2.2 = some r) (fun v => v.1) (n, r2.1, 0) (.nA) h ?_
  intro ⟨m1, x3, x4⟩ h
  try dsimp only at h ⊢
  cases m1 with
  | zero => rw [actioncache_Key_l1] at h; cases h
  | succ m1 =>
   rw [actioncache_Key_l1] at h
   refine au h [1,1,5,1] ?_; intro h
   refine bs h (fun c4 h => ?_) fun c4 h => ?_
   ·refine au h [2,1,1,1,1,1,5,5,1,1,1,1] ?_; intro e5 k5 h
    refine Ev.seqJ (γ := Int) (fun v => ⟨[(2, wP 10200), (3, wP 10201), (5, wP 10202), (7, .fn 64 [] []), (8, iP x3), (12, iP v), (31, lP a0.Inputs), (32, iP (a0.Inputs.length : Int)), (33, iP x4)], [(10200, eP 53 3 [[lP a0.Inputs, lP a0.Ops, .str a0.Output]]), (10201, eP 25 1 [[lP a1.Files]]), (10202, eP 31 2 [[iP 0, iP 0]])], 2⟩) (fun v => actioncache_Key_j1 n x3 x4 (actioncache_Key_l1 n a0 a1 m1) v = some r) ?_ ?_
    ·refine au h [1,1,8,8,1] ?_; intro h
     refine cb h (treepatch_Find_spec n _ _) fun r9 k8 h => ?_
     refine ax 87 h [1,5,5,1,1,1,1,1] ?_; intro h
     refine bs h (fun c9 h => ?_) fun c9 h => ?_
     ·refine au h [2,1,8,8,1,5,5,5] ?_; intro e10 k10 h
      refine cb h (digest_Strings_spec n _) fun r11 k11 h => ?_
      refine aw h [1,5,5,1] ?_; intro h
      exact lf r11.1 h
     ·refine au h [3,1] ?_; intro h
      exact lf 0 h
    ·intro x6 h
     try dsimp only at h ⊢
     unfold actioncache_Key_j1 at h
     refine au h [1,1,1,5] ?_; intro h
     refine cb h (actioncache_combine_spec n _ _) fun r7 k6 h => ?_
     refine ax 87 h [1,1,7,1] ?_; intro x8 k7 h
     exact lb (m1, r7, x8) h
   ·refine au h [3,1,1,1,1,8,8,5,1,1] ?_; intro h
    refine Ev.loopW (β := Nat × Int × Int) (fun v => ⟨[(2, wP 10200), (5, wP 10201), (7, .fn 64 [] []), (8, iP v.2.1), (61, lP a0.Ops), (62, iP (a0.Ops.length : Int)), (63, iP v.2.2)], [(10200, eP 53 3 [[lP a0.Inputs, lP a0.Ops, .str a0.Output]]), (10201, eP 31 2 [[iP 0, iP 0]])], 2⟩) (fun v => actioncache_Key_l2 n a0 v.1 v.2.1 v.2.2 = some r) (fun v => v.1) (n, x3, 0) (.nA) h ?_
    intro ⟨m2, x12, x13⟩ h
    try dsimp only at h ⊢
    cases m2 with
    | zero => rw [actioncache_Key_l2] at h; cases h
    | succ m2 =>
     rw [actioncache_Key_l2] at h
     refine au h [1,1,5,1] ?_; intro h
     refine bs h (fun c12 h => ?_) fun c12 h => ?_
     ·refine au h [2,1,1,1,1,1,5,5,5,8,1,1,8,8,1,8,8] ?_; intro e14 k13 h
      obtain ⟨r15, k14, h⟩ := obind h
      refine W.callv (actioncache_Key_1_spec n e14.Text r15 k14) Tryz.b_actioncache_Key_1 rfl rfl (Les.refl _) rfl (.inl rfl) rfl ?_
      refine aw h [5] ?_; intro h
      refine cb h (actioncache_combine_spec n _ _) fun r16 k15 h => ?_
      refine aw h [5] ?_; intro h
      refine cb h (actioncache_combine_spec n _ _) fun r17 k16 h => ?_
      refine ax 87 h [1,1,7,1] ?_; intro x18 k17 h
      exact lb (m2, r17, x18) h
     ·refine au h [3,1,1] ?_; intro h
      refine Ev.regS rfl ?_
      refine Sq.w 4 nb ?_
      refine aw h [1,1,8,8] ?_; intro h
      refine Sq.callv (f := 64) rfl Tryz.b_actioncache_Key_1 Tryz.c_actioncache_Key_1 ⟨_, _, _, rfl, nb, ?_⟩
      unfold Tryz.l_actioncache_Key_1
      refine Ev.retJ (γ := Int) (fun v => ⟨[(2, iP v), (65541, wP 10300), (65615, iP x12)], [(10300, eP 31 2 [[iP 0, iP 0]])], 2⟩) (fun v => actioncache_Key_j2 n x12 v = some r) ?_ ?_
      ·refine au h [1,1,1,1,1,1,5] ?_; intro h
       refine cb h (digest_Of_spec n _) fun r21 k19 h => ?_
       refine ax 12 h [1,5,5,5,1,8,1,1,1,1,1] ?_; intro h
       exact lf r21.1 h
      ·intro x19 h
       try dsimp only at h ⊢
       unfold actioncache_Key_j2 at h
       refine ⟨_, rfl, ?_⟩
       refine Sq.wEnd nb ?_
       refine aw h [5] ?_; intro h
       refine cb h (actioncache_combine_spec n _ _) fun r20 k18 h => ?_
       refine ax 87 h [5,1,8,1] ?_; intro h
       cases h
       exact ⟨_, rfl, .refl _⟩
theorem ref6_Strings_spec (n : Nat) (a0 : List (List UInt8)) (a1 : List (List UInt8)) (r : Bool) (h : ref6_Strings n a0 a1 = some r) : PSpec Tryz.prog 24 [lP a0, lP a1] (.bool r) := by
 unfold ref6_Strings at h
 refine spec_of Tryz.c_ref6_Strings (by simp) ?_
 unfold Tryz.l_ref6_Strings
 refine au h [1,1,1,1,1,1,1,5,1,5,5] ?_; intro h
 refine bs h (fun c1 h => ?_) fun c1 h => ?_
 ·refine au h [2,1,1,1,1] ?_; intro h
  cases h
  exact ⟨_, rfl, .refl _⟩
 ·refine au h [3,1,1,1,1,1,1] ?_; intro h
  refine Ev.loopW (β := Nat × Int) (fun v => ⟨[(0, lP a0), (1, lP a1), (5, iP v.2)], [], 2⟩) (fun v => ref6_Strings_l1 n a0 a1 v.1 v.2 = some r) (fun v => v.1) (n, 0) (.nA) h ?_
  intro ⟨m1, x1⟩ h
  try dsimp only at h ⊢
  cases m1 with
  | zero => rw [ref6_Strings_l1] at h; cases h
  | succ m1 =>
   rw [ref6_Strings_l1] at h
   refine au h [1,1,1,1,1,5,5] ?_; intro h
   refine bs h (fun c2 h => ?_) fun c2 h => ?_
   ·refine au h [2,1,1,1,1,1,1,1,5,5,1,1,5,5,6] ?_; intro e2 k3 e3 k4 h
    refine bs h (fun c5 h => ?_) fun c5 h => ?_
    ·refine au h [2,1,1,1,1] ?_; intro h
     cases h
     exact ⟨_, rfl, .refl _⟩
    ·refine au h [3,1,1,1,7,1] ?_; intro x4 k6 h
     exact lb (m1, x4) h
   ·refine au h [3,1,1,1,1,1] ?_; intro h
    cases h
    exact ⟨_, rfl, .refl _⟩
theorem top_kernAction_spec (n : Nat) (r : SInputsOpsOutput) (h : top_kernAction n = some r) : PSpec Tryz.prog 52 [] (.agg (SInputsOpsOutput.cells r)) := by
 unfold top_kernAction at h
 refine spec_of Tryz.c_top_kernAction (by simp) ?_
 unfold Tryz.l_top_kernAction
 refine au h [1,1,5,1,1,5,5,5,5,8] ?_; intro h
 refine Ev.weak ?_ (Wk.frz 1 2 rfl rfl)
 refine Ev.weak ?_ (Wk.frz 3 2 rfl rfl)
 refine Ev.ret ?_
 cases h
 exact ⟨_, rfl, .refl _⟩
theorem top_kernFiles_spec (n : Nat) (r : SFiles) (h : top_kernFiles n = some r) : PSpec Tryz.prog 53 [] (.agg (SFiles.cells r)) := by
 unfold top_kernFiles at h
 refine spec_of Tryz.c_top_kernFiles (by simp) ?_
 unfold Tryz.l_top_kernFiles
 refine au h [1,1,5,1,1,5,5,5,5,8] ?_; intro h
 refine Ev.weak ?_ (Wk.frz 1 2 rfl rfl)
 refine Ev.weak ?_ (Wk.frz 3 2 rfl rfl)
 refine Ev.ret ?_
 cases h
 exact ⟨_, rfl, .refl _⟩
theorem top_kernBuilds_spec (n : Nat) (r : Bool) (h : top_kernBuilds n = some r) : PSpec Tryz.prog 13 [] (.bool r) := by
 unfold top_kernBuilds at h
 refine spec_of Tryz.c_top_kernBuilds (by simp) ?_
 unfold Tryz.l_top_kernBuilds
 refine au h [1,1,1,1,1] ?_; intro h
 refine cb h (top_kernAction_spec n) fun r1 k1 h => ?_
 refine cb h (top_kernFiles_spec n) fun r2 k2 h => ?_
 obtain ⟨r3, k3, h⟩ := obind h
 refine W.callOT (res' := .tup [.own 12 2, .agg [iP r3.2.Code, iP r3.2.Index]]) (sandbox_Run_spec n r1 r2 r3 k3) rfl (Les.refl _) rfl rfl rfl rfl rfl ?_
 refine ax 73 h [1,5,5,5,1,8,1] ?_; intro h
 refine Ev.regS rfl ?_
 refine Sq.w 3 nb ?_
 refine cb h (top_kernAction_spec n) fun r4 k4 h => ?_
 refine aw h [5] ?_; intro h
 refine cb h (top_kernFiles_spec n) fun r5 k5 h => ?_
 refine W.nil ?_
 refine Sq.weak (st' := ⟨[(1, .own 10000 0), (2, wP 10001), (17, lP ([r4] : List SInputsOpsOutput)), (18, .agg [lP r5.Files])], [(10000, eP 9 1 (mP r3.1)), (10001, eP 31 2 [[iP r3.2.Code, iP r3.2.Index]])], 2⟩) ?_ ((Wk.frz 17 2 rfl rfl).trans (.nA))
 refine Sq.wEnd nb ?_
 refine cb h (release_Make_spec n _ _) fun r6 k6 h => ?_
 refine ax 73 h [1,5,5,5,5,8,8,1] ?_; intro h
 refine Ev.regS rfl ?_
 refine Sq.w 2 nb ?_
 refine aw h [5] ?_; intro h
 refine cb h (top_kernFiles_spec n) fun r7 k7 h => ?_
 refine W.nil ?_
 refine Sq.weak (st' := ⟨[(1, .own 10000 0), (2, wP 10001), (3, wP 10002), (4, wP 10003), (23, lP ([([97] : List UInt8)] : List (List UInt8))), (24, .agg [lP r7.Files])], [(10000, eP 9 1 (mP r3.1)), (10001, eP 31 2 [[iP r3.2.Code, iP r3.2.Index]]), (10002, eP 29 3 [[lP r6.1.Actions, lP r6.1.Materials, lP r6.1.Output.Files]]), (10003, eP 31 2 [[iP r6.2.Code, iP r6.2.Index]])], 2⟩) ?_ ((Wk.frz 23 2 rfl rfl).trans (.nA))
 refine Sq.wEnd nb ?_
 refine cb h (bom_Make_spec n _ _) fun r8 k8 h => ?_
 refine ax 73 h [1,5,5,5,1,8,1,1] ?_; intro h
 refine cb h (top_kernAction_spec n) fun r9 k9 h => ?_
 refine cb h (top_kernFiles_spec n) fun r10 k10 h => ?_
 refine cb h (actioncache_Key_spec n _ _) fun r11 k11 h => ?_
 refine aw h [1,5,5,5,1,8] ?_; intro h
 refine Ev.seqJ (γ := Bool) (fun v => ⟨[(0, .bool v)], [], 2⟩) (fun v => top_kernBuilds_j1 n v = some r) ?_ ?_
 ·refine au h [1,8,8,5,1] ?_; intro h
  refine bs h (fun c12 h => ?_) fun c12 h => ?_
  ·refine aw h [2,8,2,8,2,5,2,1] ?_; intro h
   refine bs h (fun c13 h => ?_) fun c13 h => ?_
   ·refine aw h [2,8,2,8,2,5,2,1] ?_; intro h
    refine bs h (fun c14 h => ?_) fun c14 h => ?_
    ·refine aw h [2,8,2,8,2,5,2,1] ?_; intro h
     refine bs h (fun c15 h => ?_) fun c15 h => ?_
     ·refine aw h [2,1,2,5,2] ?_; intro h
      refine cb h (ref6_Strings_spec n _ _) fun r13 k16 h => ?_
      refine aw h [2,1] ?_; intro h
      refine bs h (fun c17 h => ?_) fun c17 h => ?_
      ·refine aw h [2,8,2,8,2,8,2,5,2,5,2,1] ?_; intro h
       refine bs h (fun c18 h => ?_) fun c18 h => ?_
       ·refine aw h [2,1,2,5,2,5,2,1] ?_; intro h
        refine bs h (fun c19 h => ?_) fun c19 h => ?_
        ·refine aw h [2,1,2,5,2,1] ?_; intro h
         exact lf (decide (r11.1 ≠ 0)) h
        ·refine aw h [3,3,3,1] ?_; intro h
         exact lf false h
       ·refine aw h [3,3,3,3,1,3,3,3,1] ?_; intro h
        exact lf false h
      ·refine aw h [3,3,3,3,3,3,1,3,3,3,3,1,3,3,3,1] ?_; intro h
       exact lf false h
     ·refine aw h [3,3,3,3,1,3,3,3,3,3,3,1,3,3,3,3,1,3,3,3,1] ?_; intro h
      exact lf false h
    ·refine aw h [3,3,3,3,1,3,3,3,3,1,3,3,3,3,3,3,1,3,3,3,3,1,3,3,3,1] ?_; intro h
     exact lf false h
   ·refine aw h [3,3,3,3,1,3,3,3,3,1,3,3,3,3,1,3,3,3,3,3,3,1,3,3,3,3,1,3,3,3,1] ?_; intro h
    exact lf false h
  ·refine aw h [3,3,3,3,1,3,3,3,3,1,3,3,3,3,1,3,3,3,3,1,3,3,3,3,3,3,1,3,3,3,3,1,3,3,3,1] ?_; intro h
   exact lf false h
 ·intro x12 h
  try dsimp only at h ⊢
  unfold top_kernBuilds_j1 at h
  refine Ev.ret ?_
  cases h
  exact ⟨_, rfl, .refl _⟩
theorem ref6_WithFile_spec (n : Nat) (a0 : SFiles) (a1 : List UInt8) (a2 : List (List UInt8)) (r : SFiles) (h : ref6_WithFile n a0 a1 a2 = some r) : PSpec Tryz.prog 15 [.agg (SFiles.cells a0), .str a1, lP a2] (.agg (SFiles.cells r)) := by
 unfold ref6_WithFile at h
 refine spec_of Tryz.c_ref6_WithFile (by simp) ?_
 unfold Tryz.l_ref6_WithFile
 refine au h [1,1,5,5,1,1,5,1,1,1,1,1] ?_; intro h
 refine Ev.loopW (β := Nat × (List SPathLines) × Int) (fun v => ⟨[(1, .str a1), (2, lP a2), (3, wP 10100), (6, wP 10101), (7, wP 10102), (8, iP v.2.2)], [(10100, eP 25 1 [[lP a0.Files]]), (10101, eP 25 1 [[.nils]]), (10102, ⟨0, 25, 1, [[.own 10103 0]], false, false, false⟩), (10103, eP 37 2 (mP v.2.1))], 2⟩) (fun v => ref6_WithFile_l1 n a0 a1 a2 v.1 v.2.1 v.2.2 = some r) (fun v => v.1) (n, ([] : List SPathLines), 0) ((Wk.ownNilCell 7 2 0 30103 37 2 rfl rfl rfl rfl rfl (by simp) true).trans (.nA)) h ?_
 intro ⟨m1, w1, x2⟩ h
 try dsimp only at h ⊢
 cases m1 with
 | zero => rw [ref6_WithFile_l1] at h; cases h
 | succ m1 =>
  rw [ref6_WithFile_l1] at h
  refine Ev.seq ?_
  refine Ev.seqJ (γ := Bool) (fun v => ⟨[(1, .str a1), (2, lP a2), (3, wP 10200), (6, wP 10201), (7, wP 10202), (8, iP x2), (24, .bool v)], [(10200, eP 25 1 [[lP a0.Files]]), (10201, eP 25 1 [[.nils]]), (10202, ⟨0, 25, 1, [[.own 10203 0]], false, false, false⟩), (10203, eP 37 2 (mP w1))], 2⟩) (fun v => ref6_WithFile_j1 n a0 a1 a2 w1 x2 (ref6_WithFile_l1 n a0 a1 a2 m1) v = some r) ?_ ?_
  ·refine au h [1,1,8,8,5,5,1] ?_; intro h
   refine bs h (fun c8 h => ?_) fun c8 h => ?_
   ·refine aw h [2,8,2,8,2,1,2,5,2,5,2,5,2,1,2,6,2] ?_; intro e10 k9 h
    exact lf (Op.bytesLess e10.Path a1) h
   ·refine aw h [3,3,3,3,3,3,3,3,3] ?_; intro h
    exact lf false h
  ·intro x3 h
   try dsimp only at h ⊢
   unfold ref6_WithFile_j1 at h
   refine bs h (fun c1 h => ?_) fun c1 h => ?_
   ·refine au h [2,1,1,1,1,8,8,8,8,1,5,5,5,7,8,8,1,1,7,1] ?_; intro e4 k2 w5 k3 x6 k4 h
    exact lb (m1, w5, x6) h
   ·refine au h [3,1,1,1,8,8,7,1,1,1,8,8,1,1,5,5,7,8,8,1,1,8,8,8,8,1,6,7,8,8,1,1,8,8] ?_; intro w7 k5 s8 k6 w9 k7 h
    refine Ev.weak ?_ (Wk.frz 54 2 rfl rfl)
    refine Ev.ret ?_
    cases h
    exact ⟨_, rfl, .refl _⟩
theorem signing_IsDigest_spec (n : Nat) (a0 : Int) (r : Bool) (h : signing_IsDigest n a0 = some r) : PSpec Tryz.prog 69 [iP a0] (.bool r) := by
 unfold signing_IsDigest at h
 refine spec_of Tryz.c_signing_IsDigest (by simp) ?_
 unfold Tryz.l_signing_IsDigest
 refine au h [1,1,1] ?_; intro h
 refine Ev.seqJ (γ := Bool) (fun v => ⟨[(2, .bool v)], [], 2⟩) (fun v => signing_IsDigest_j1 n v = some r) ?_ ?_
 ·refine au h [1,1,5,1] ?_; intro h
  refine bs h (fun c1 h => ?_) fun c1 h => ?_
  ·refine aw h [2,1,2,5,2,1] ?_; intro h
   exact lf (decide (a0 < 2305843009213693951)) h
  ·refine aw h [3,3,3,1] ?_; intro h
   exact lf false h
 ·intro x1 h
  try dsimp only at h ⊢
  unfold signing_IsDigest_j1 at h
  refine Ev.ret ?_
  cases h
  exact ⟨_, rfl, .refl _⟩
set_option maxHeartbeats 4000000 in
theorem bom_Validate_spec (n : Nat) (a0 : List SPathDigest) (r : SCodeIndex) (h : bom_Validate n a0 = some r) : PSpec Tryz.prog 62 [lP a0] (.agg (SCodeIndex.cells r)) := by
 unfold bom_Validate at h
 refine spec_of Tryz.c_bom_Validate (by simp) ?_
 unfold Tryz.l_bom_Validate
 refine au h [1,1,5,5,1,1] ?_; intro h
 refine Ev.regS rfl ?_
 refine Sq.w 3 nb ?_
 refine aw h [8,5] ?_; intro h
 refine W.mkfn rfl (W.nil ?_)
 refine Sq.weak (st' := ⟨[(1, wP 10000), (2, wP 10001), (7, iP (a0.length : Int)), (8, .fn 116 [] [wP 10000])], [(10000, eP 27 1 [[lP a0]]), (10001, eP 31 2 [[iP 0, iP 0]])], 2⟩) ?_ (.nA)
 refine Sq.call rfl Tryz.c_bom_checkPaths ⟨_, rfl, nb, ?_⟩
 unfold Tryz.l_bom_checkPaths
 refine Ev.retJ (γ := Int × Int) (fun v => ⟨[(4, wP 10100), (65537, wP 10101), (65538, wP 10102)], [(10100, eP 31 2 [[iP v.1, iP v.2]]), (10101, eP 27 1 [[lP a0]]), (10102, eP 31 2 [[iP 0, iP 0]])], 2⟩) (fun v => bom_Validate_j1 n a0 v.1 v.2 = some r) ?_ ?_
 ·refine au h [1,1,5,1,1,1,1,5] ?_; intro h
  refine bs h (fun c8 h => ?_) fun c8 h => ?_
  ·refine au h [2,1,1,5,8,1] ?_; intro h
   exact lf (2, (-1)) h
  ·refine au h [3,1,1,1,1,1,1,1] ?_; intro h
   refine Ev.loopW (β := Nat × Int) (fun v => ⟨[(1, .fn 116 [] [wP 10200]), (4, wP 10201), (9, iP (a0.length : Int)), (10, iP v.2), (65537, wP 10200), (65538, wP 10202)], [(10200, eP 27 1 [[lP a0]]), (10201, eP 31 2 [[iP 0, iP 0]]), (10202, eP 31 2 [[iP 0, iP 0]])], 2⟩) (fun v => bom_Validate_l2 n a0 v.1 v.2 = some r) (fun v => v.1) (n, 0) (.nA) h ?_
   intro ⟨m2, x8⟩ h
   try dsimp only at h ⊢
   cases m2 with
   | zero => rw [bom_Validate_l2] at h; cases h
   | succ m2 =>
    rw [bom_Validate_l2] at h
    refine au h [1,1,5,1] ?_; intro h
    refine bs h (fun c9 h => ?_) fun c9 h => ?_
    ·refine au h [2,1,1,1,1,1,1,1,1,1] ?_; intro h
     refine Ev.regS rfl ?_
     refine Sq.w 2 nb ?_
     refine aw h [1,1] ?_; intro h
     refine Sq.callv (f := 116) rfl Tryz.b_bom_Validate_1 Tryz.c_bom_Validate_1 ⟨_, _, _, rfl, nb, ?_⟩
     unfold Tryz.l_bom_Validate_1
     refine Ev.retJ (γ := List UInt8) (fun v => ⟨[(3, .str v), (65537, .fn 116 [] [wP 10300]), (65540, wP 10301), (65541, iP x8), (65545, iP (a0.length : Int)), (65546, iP x8), (131073, wP 10300), (131074, wP 10302)], [(10300, eP 27 1 [[lP a0]]), (10301, eP 31 2 [[iP 0, iP 0]]), (10302, eP 31 2 [[iP 0, iP 0]])], 2⟩) (fun v => bom_Validate_j3 n a0 x8 (bom_Validate_l2 n a0 m2) v = some r) ?_ ?_
     ·refine au h [1,1,1,1,1,8,1,5,5,5,1,1] ?_; intro e18 k18 h
      exact lf e18.Path h
     ·intro x9 h
      try dsimp only at h ⊢
      unfold bom_Validate_j3 at h
      refine ⟨_, rfl, ?_⟩
      refine Sq.wEnd nb ?_
      refine cb h (treepatch_ValidPath_spec n _) fun r10 k10 h => ?_
      refine aw h [5] ?_; intro h
      refine bs h (fun c11 h => ?_) fun c11 h => ?_
      ·refine au h [2,1,1,1,5,8,1] ?_; intro h
       exact lf (12, x8) h
      ·refine au h [3,1] ?_; intro h
       refine Ev.seqJ (γ := Bool) (fun v => ⟨[(1, .fn 116 [] [wP 10400]), (4, wP 10401), (5, iP x8), (9, iP (a0.length : Int)), (10, iP x8), (31, .bool v), (65537, wP 10400), (65538, wP 10402)], [(10400, eP 27 1 [[lP a0]]), (10401, eP 31 2 [[iP 0, iP 0]]), (10402, eP 31 2 [[iP 0, iP 0]])], 2⟩) (fun v => bom_Validate_j4 n a0 x8 (bom_Validate_l2 n a0 m2) v = some r) ?_ ?_
       ·refine Ev.regS rfl ?_
        refine Sq.w 5 nb ?_
        refine aw h [1,5,1] ?_; intro h
        refine bs h (fun c14 h => ?_) fun c14 h => ?_
        ·refine aw h [2,1,2,1] ?_; intro h
         refine Sq.callvG (f := 116) rfl Tryz.b_bom_Validate_1 Tryz.c_bom_Validate_1 (lookT rfl c14) ⟨_, _, _, rfl, nb, ?_⟩
         unfold Tryz.l_bom_Validate_1
         refine Ev.retJ (γ := List UInt8) (fun v => ⟨[(3, .str v), (65537, .fn 116 [] [wP 10500]), (65540, wP 10501), (65541, iP x8), (65545, iP (a0.length : Int)), (65546, iP x8), (65558, .bool (decide (0 < x8))), (65559, .fn 116 [] [wP 10500]), (65560, iP x8), (131073, wP 10500), (131074, wP 10502)], [(10500, eP 27 1 [[lP a0]]), (10501, eP 31 2 [[iP 0, iP 0]]), (10502, eP 31 2 [[iP 0, iP 0]])], 2⟩) (fun v => bom_Validate_j5 n a0 x8 (bom_Validate_l2 n a0 m2) v = some r) ?_ ?_
         ·refine au h [1,1,1,1,1,8,1,5,5,5,1,1] ?_; intro e17 k17 h
          exact lf e17.Path h
         ·intro x13 h
          try dsimp only at h ⊢
          unfold bom_Validate_j5 at h
          refine ⟨_, rfl, ?_⟩
          refine Sq.w 3 nb ?_
          refine aw h [2,1,2,1,2,7] ?_; intro x14 k15 h
          refine Sq.callvG (f := 116) rfl Tryz.b_bom_Validate_1 Tryz.c_bom_Validate_1 (lookT rfl c14) ⟨_, _, _, rfl, nb, ?_⟩
          unfold Tryz.l_bom_Validate_1
          refine Ev.retJ (γ := List UInt8) (fun v => ⟨[(3, .str v), (65537, .fn 116 [] [wP 10600]), (65540, wP 10601), (65541, iP x8), (65545, iP (a0.length : Int)), (65546, iP x8), (65558, .bool (decide (0 < x8))), (65559, .fn 116 [] [wP 10600]), (65560, iP x8), (65561, .str x13), (65562, .fn 116 [] [wP 10600]), (65563, iP x8), (65564, iP x14), (131073, wP 10600), (131074, wP 10602)], [(10600, eP 27 1 [[lP a0]]), (10601, eP 31 2 [[iP 0, iP 0]]), (10602, eP 31 2 [[iP 0, iP 0]])], 2⟩) (fun v => bom_Validate_j6 n a0 x8 (bom_Validate_l2 n a0 m2) x13 v = some r) ?_ ?_
          ·refine au h [1,1,1,1,1,8,1,5,5,5,1,1] ?_; intro e16 k16 h
           exact lf e16.Path h
          ·intro x15 h
           try dsimp only at h ⊢
           unfold bom_Validate_j6 at h
           refine ⟨_, rfl, ?_⟩
           refine Sq.wEnd nb ?_
           refine aw h [2,6,2] ?_; intro h
           exact lf (Op.bytesLess x13 x15 || x13 == x15) h
        ·refine aw h [3,3] ?_; intro h
         refine Sq.off rfl (.inl (lookT rfl c14)) ?_
         refine Sq.w 3 nb ?_
         refine aw h [3,3,3] ?_; intro h
         refine Sq.off rfl (.inl (lookT rfl c14)) ?_
         refine Sq.wEnd nb ?_
         refine aw h [3,3] ?_; intro h
         exact lf false h
       ·intro x11 h
        try dsimp only at h ⊢
        unfold bom_Validate_j4 at h
        refine bs h (fun c12 h => ?_) fun c12 h => ?_
        ·refine au h [2,1,1,1,5,8,1] ?_; intro h
         exact lf (5, x8) h
        ·refine au h [3,1,1,7,1] ?_; intro x12 k13 h
         exact lb (m2, x12) h
    ·refine au h [3,1,1,1,5,8,1] ?_; intro h
     exact lf (0, 0) h
 ·intro ⟨b1, b2⟩ h
  try dsimp only at h ⊢
  unfold bom_Validate_j1 at h
  refine ⟨_, rfl, ?_⟩
  refine Sq.wEnd nb ?_
  refine ax 34 h [5,8,1,1,8,5,5] ?_; intro h
  refine bs h (fun c1 h => ?_) fun c1 h => ?_
  ·refine au h [2,1,1,8,8,1] ?_; intro h
   cases h
   exact ⟨_, rfl, .refl _⟩
  ·refine au h [3,1,1,1,1,8,5,1,1] ?_; intro h
   refine Ev.loopW (β := Nat × Int) (fun v => ⟨[(2, wP 10200), (14, lP a0), (15, iP (a0.length : Int)), (16, iP v.2)], [(10200, eP 31 2 [[iP 0, iP 0]])], 2⟩) (fun v => bom_Validate_l1 n a0 v.1 v.2 = some r) (fun v => v.1) (n, 0) (.nA) h ?_
   intro ⟨m1, x3⟩ h
   try dsimp only at h ⊢
   cases m1 with
   | zero => rw [bom_Validate_l1] at h; cases h
   | succ m1 =>
    rw [bom_Validate_l1] at h
    refine au h [1,1,5,1] ?_; intro h
    refine bs h (fun c2 h => ?_) fun c2 h => ?_
    ·refine au h [2,1,1,1,1,1,1,5,5,5,1,8] ?_; intro e4 k3 h
     refine Ev.seqJ (γ := Bool) (fun v => ⟨[(2, wP 10300), (4, iP x3), (14, lP a0), (15, iP (a0.length : Int)), (16, iP x3), (29, .bool v)], [(10300, eP 31 2 [[iP 0, iP 0]])], 2⟩) (fun v => bom_Validate_j2 n x3 (bom_Validate_l1 n a0 m1) v = some r) ?_ ?_
     ·refine au h [1,8,8,5,1] ?_; intro h
      refine bs h (fun c6 h => ?_) fun c6 h => ?_
      ·refine aw h [2,8,2,8,2] ?_; intro h
       refine cb h (signing_IsDigest_spec n _) fun r7 k7 h => ?_
       refine aw h [2,5,2] ?_; intro h
       exact lf (!r7) h
      ·refine aw h [3,3,3,3,3] ?_; intro h
       exact lf false h
     ·intro x5 h
      try dsimp only at h ⊢
      unfold bom_Validate_j2 at h
      refine bs h (fun c4 h => ?_) fun c4 h => ?_
      ·refine au h [2,1,1,1,5,8,1] ?_; intro h
       cases h
       exact ⟨_, rfl, .refl _⟩
      ·refine au h [3,1,1,7,1] ?_; intro x6 k5 h
       exact lb (m1, x6) h
    ·refine au h [3,1,1,1,5,8,1] ?_; intro h
     cases h
     exact ⟨_, rfl, .refl _⟩
theorem bom_Check_spec (n : Nat) (a0 : List SPathDigest) (a1 : SFiles) (r : ((List Int) × SCodeIndex)) (h : bom_Check n a0 a1 = some r) : PSpec Tryz.prog 17 [lP a0, .agg (SFiles.cells a1)] (.tup [lP r.1, .agg (SCodeIndex.cells r.2)]) := by
 unfold bom_Check at h
 refine spec_of Tryz.c_bom_Check (by simp) ?_
 unfold Tryz.l_bom_Check
 refine au h [1,1,5,1,5,1,1,1,1] ?_; intro h
 refine cb h (bom_Validate_spec n _) fun r1 k1 h => ?_
 refine ax 44 h [5,8,1,1,8,5,5] ?_; intro h
 refine bs h (fun c2 h => ?_) fun c2 h => ?_
 ·refine au h [2,1,1,8,1,8,1] ?_; intro h
  cases h
  exact ⟨_, rfl, Le.tups (.cons (.nils 1) (.cons (.refl _) (.nil)))⟩
 ·refine au h [3,1,1,1,1,8] ?_; intro h
  refine cb h (treepatch_Second_spec n _ _) fun r2 k3 h => ?_
  refine ax 44 h [5,8,1,1,8,5,5] ?_; intro h
  refine bs h (fun c4 h => ?_) fun c4 h => ?_
  ·refine au h [2,1,1,8,1,8,1] ?_; intro h
   cases h
   exact ⟨_, rfl, Le.tups (.cons (.nils 1) (.cons (.refl _) (.nil)))⟩
  ·refine au h [3,1,1,1,1,1,1,1,1,5,1,1] ?_; intro h
   refine Ev.loopW (β := Nat × (List Int) × Int) (fun v => ⟨[(3, wP 10100), (5, wP 10101), (8, .own 10102 0), (23, lP a0), (24, iP (a0.length : Int)), (25, iP v.2.2)], [(10100, eP 25 1 [[lP a1.Files]]), (10101, eP 31 2 [[iP 0, iP 0]]), (10102, eP 3 1 (mP v.2.1))], 2⟩) (fun v => bom_Check_l1 n a0 a1 v.1 v.2.1 v.2.2 = some r) (fun v => v.1) (n, ([] : List Int), 0) ((Wk.ownNil 8 30102 3 1 rfl rfl true).trans (.nA)) h ?_
   intro ⟨m1, w3, x4⟩ h
   try dsimp only at h ⊢
   cases m1 with
   | zero => rw [bom_Check_l1] at h; cases h
   | succ m1 =>
    rw [bom_Check_l1] at h
    refine au h [1,1,5,1] ?_; intro h
    refine bs h (fun c5 h => ?_) fun c5 h => ?_
    ·refine au h [2,1] ?_; intro h
     refine Ev.seqJ (γ := List Int) (fun v => ⟨[(3, wP 10200), (5, wP 10201), (8, .own 10202 0), (23, lP a0), (24, iP (a0.length : Int)), (25, iP x4)], [(10200, eP 25 1 [[lP a1.Files]]), (10201, eP 31 2 [[iP 0, iP 0]]), (10202, eP 3 1 (mP v))], 2⟩) (fun v => bom_Check_j1 n x4 (bom_Check_l1 n a0 a1 m1) v = some r) ?_ ?_
     ·refine au h [1,1,1,1,5,5,5,1,8,1,1,8,8,8,8,8] ?_; intro e7 k7 h
      refine cb h (bom_describe_spec n _ _) fun r8 k8 h => ?_
      refine aw h [5] ?_; intro h
      refine bs h (fun c9 h => ?_) fun c9 h => ?_
      ·refine au h [2,1,1,1,5,7,1] ?_; intro w9 k10 h
       exact lf w9 h
      ·refine au h [3,1] ?_; intro h
       exact lf w3 h
     ·intro w5 h
      try dsimp only at h ⊢
      unfold bom_Check_j1 at h
      refine au h [1,7,1] ?_; intro x6 k6 h
      exact lb (m1, w5, x6) h
    ·refine au h [3,1,1,1,1,5,1,8,1] ?_; intro h
     cases h
     exact ⟨_, rfl, .refl _⟩
theorem top_kernIn_spec (n : Nat) (a0 : Int) (a1 : Int) (a2 : Int) (r : Bool) (h : top_kernIn n a0 a1 a2 = some r) : PSpec Tryz.prog 18 [iP a0, iP a1, iP a2] (.bool r) := by
 unfold top_kernIn at h
 refine spec_of Tryz.c_top_kernIn (by simp) ?_
 unfold Tryz.l_top_kernIn
 refine au h [1,1,1] ?_; intro h
 refine Ev.seqJ (γ := Bool) (fun v => ⟨[(6, .bool v)], [], 2⟩) (fun v => top_kernIn_j1 n v = some r) ?_ ?_
 ·refine au h [1,1,1,5,1] ?_; intro h
  refine bs h (fun c1 h => ?_) fun c1 h => ?_
  ·refine aw h [2,1,2,1,2,5,2,1] ?_; intro h
   exact lf (decide (a0 ≤ a2)) h
  ·refine aw h [3,3,3,3,1] ?_; intro h
   exact lf false h
 ·intro x1 h
  try dsimp only at h ⊢
  unfold top_kernIn_j1 at h
  refine Ev.ret ?_
  cases h
  exact ⟨_, rfl, .refl _⟩
theorem ref6_HasString_spec (n : Nat) (a0 : List (List UInt8)) (a1 : List UInt8) (r : Bool) (h : ref6_HasString n a0 a1 = some r) : PSpec Tryz.prog 19 [lP a0, .str a1] (.bool r) := by
 unfold ref6_HasString at h
 refine spec_of Tryz.c_ref6_HasString (by simp) ?_
 unfold Tryz.l_ref6_HasString
 refine au h [1,1,1,1,1,1,1,1] ?_; intro h
 refine Ev.loopW (β := Nat × Int) (fun v => ⟨[(0, lP a0), (1, .str a1), (5, iP v.2)], [], 2⟩) (fun v => ref6_HasString_l1 n a0 a1 v.1 v.2 = some r) (fun v => v.1) (n, 0) (.nA) h ?_
 intro ⟨m1, x1⟩ h
 try dsimp only at h ⊢
 cases m1 with
 | zero => rw [ref6_HasString_l1] at h; cases h
 | succ m1 =>
  rw [ref6_HasString_l1] at h
  refine au h [1,1,1,1,1,5,5] ?_; intro h
  refine bs h (fun c1 h => ?_) fun c1 h => ?_
  ·refine au h [2,1,1,1,1,1,1,1,5,5,1,6] ?_; intro e2 k2 h
   refine bs h (fun c3 h => ?_) fun c3 h => ?_
   ·refine au h [2,1,1,1,1] ?_; intro h
    cases h
    exact ⟨_, rfl, .refl _⟩
   ·refine au h [3,1,1,1,7,1] ?_; intro x3 k4 h
    exact lb (m1, x3) h
  ·refine au h [3,1,1,1,1,1] ?_; intro h
   cases h
   exact ⟨_, rfl, .refl _⟩
end Go.Proofs.YtlkknmhhefjmjaaGreatDoor
namespace Go.Proofs.YtlkknmhhefjmjaaGreatDoor
open Go.PW Go
theorem top_TopReleasesMatchTheirBills_spec (n : Nat) (a0 : List SInputsOpsOutput) (a1 : SFiles) (r : Bool) (h : top_TopReleasesMatchTheirBills n a0 a1 = some r) : PSpec Tryz.prog 3 [lP a0, .agg (SFiles.cells a1)] (.bool r) := by
 unfold top_TopReleasesMatchTheirBills at h
 refine spec_of Tryz.c_top_TopReleasesMatchTheirBills (by simp) ?_
 unfold Tryz.l_top_TopReleasesMatchTheirBills
 refine au h [1,1,5,1,1,1,1] ?_; intro h
 refine cb h (top_kernBuilds_spec n) fun r1 k1 h => ?_
 refine aw h [5] ?_; intro h
 refine bs h (fun c2 h => ?_) fun c2 h => ?_
 ·refine au h [2,1,1,1,1] ?_; intro h
  cases h
  exact ⟨_, rfl, .refl _⟩
 ·refine au h [3,1,1,1,1,8] ?_; intro h
  refine cb h (release_Make_spec n _ _) fun r2 k3 h => ?_
  refine ax 136 h [1,5,5,5,5,8,8,1,1,1,8,8,5] ?_; intro h
  refine bs h (fun c4 h => ?_) fun c4 h => ?_
  ·refine au h [2,1,1,8,8,8,5,5,1,1] ?_; intro h
   cases h
   exact ⟨_, rfl, .refl _⟩
  ·refine au h [3,1,1,1,8,5,8,1,1,1,1,1,1,1,1] ?_; intro h
   refine Ev.loopW (β := Nat × (List SPathLines) × (List (List UInt8)) × Int) (fun v => ⟨[(5, wP 10100), (7, wP 10101), (8, .own 10102 0), (9, iP v.2.2.2)], [(10100, eP 29 3 [[lP r2.1.Actions, lP r2.1.Materials, lP r2.1.Output.Files]]), (10101, eP 25 1 [[lP v.2.1]]), (10102, eP 9 1 (mP v.2.2.1))], 2⟩) (fun v => top_TopReleasesMatchTheirBills_l1 n r2 v.1 v.2.1 v.2.2.1 v.2.2.2 = some r) (fun v => v.1) (n, a1.Files, ([] : List (List UInt8)), 0) ((Wk.ownNil 8 30102 9 1 rfl rfl true).trans (.nA)) h ?_
   intro ⟨m1, b3, w4, x5⟩ h
   try dsimp only at h ⊢
   cases m1 with
   | zero => rw [top_TopReleasesMatchTheirBills_l1] at h; cases h
   | succ m1 =>
    rw [top_TopReleasesMatchTheirBills_l1] at h
    refine au h [1,1,1,1,8,8,8,5,5] ?_; intro h
    refine bs h (fun c5 h => ?_) fun c5 h => ?_
    ·refine au h [2,1,1,1,1,1,8,8,8,8,1,5,5,5,8,8,8,1,6,5,5] ?_; intro e6 k6 h
     refine cb h (ref6_WithFile_spec n _ _ _) fun r7 k7 h => ?_
     refine ax 136 h [8,1,1,8,8,8,1,6,5,5,5,7,1,1,1,7,1] ?_; intro w8 k8 x9 k9 h
     exact lb (m1, r7.Files, w8, x9) h
    ·refine au h [3,1,1] ?_; intro h
     refine Ev.weak ?_ (Wk.frz 10102 0 rfl rfl)
     refine au h [1,1,8,8] ?_; intro h
     refine cb h (bom_Make_spec n _ _) fun r10 k10 h => ?_
     refine ax 136 h [1,5,5,5,1,8,1,1,1,8] ?_; intro h
     refine cb h (bom_Check_spec n _ _) fun r11 k11 h => ?_
     refine ax 136 h [1,5,5,5,1,8,1,1,8,8,8] ?_; intro h
     refine cb h (bom_Check_spec n _ _) fun r12 k12 h => ?_
     refine ax 136 h [1,5,5,5,1,8,1] ?_; intro h
     refine Ev.seqJ (γ := Bool) (fun v => ⟨[(5, wP 10200), (8, lP w4), (14, lP r12.1), (105, .bool v)], [(10200, eP 29 3 [[lP r2.1.Actions, lP r2.1.Materials, lP r2.1.Output.Files]])], 2⟩) (fun v => top_TopReleasesMatchTheirBills_j1 n r2 w4 r12 v = some r) ?_ ?_
     ·refine au h [1,8,8,5,1] ?_; intro h
      refine bs h (fun c23 h => ?_) fun c23 h => ?_
      ·refine aw h [3,3,3,2,1,3,3,3,2,1,3,3,3,2] ?_; intro h
       exact lf true h
      ·refine aw h [2,8,2,8,2,5,3,1] ?_; intro h
       refine bs h (fun c24 h => ?_) fun c24 h => ?_
       ·refine aw h [3,3,3,2,1,3,3,3,2] ?_; intro h
        exact lf true h
       ·refine aw h [2,8,2,8,2,5,3,1] ?_; intro h
        refine bs h (fun c25 h => ?_) fun c25 h => ?_
        ·refine aw h [3,3,3,2] ?_; intro h
         exact lf true h
        ·refine aw h [2,1,2,5,2,5,3] ?_; intro h
         exact lf (decide (0 < (r11.1.length : Int))) h
     ·intro x13 h
      try dsimp only at h ⊢
      unfold top_TopReleasesMatchTheirBills_j1 at h
      refine bs h (fun c13 h => ?_) fun c13 h => ?_
      ·refine au h [2,1,1,1,1] ?_; intro h
       cases h
       exact ⟨_, rfl, .refl _⟩
      ·refine au h [3,1,1,1,1,1,1] ?_; intro h
       refine Ev.loopW (β := Nat × Int) (fun v => ⟨[(5, wP 10300), (8, lP w4), (14, lP r12.1), (16, iP v.2)], [(10300, eP 29 3 [[lP r2.1.Actions, lP r2.1.Materials, lP r2.1.Output.Files]])], 2⟩) (fun v => top_TopReleasesMatchTheirBills_l2 n r2 w4 r12 v.1 v.2 = some r) (fun v => v.1) (n, 0) (.nA) h ?_
       intro ⟨m2, x14⟩ h
       try dsimp only at h ⊢
       cases m2 with
       | zero => rw [top_TopReleasesMatchTheirBills_l2] at h; cases h
       | succ m2 =>
        rw [top_TopReleasesMatchTheirBills_l2] at h
        refine au h [1,1,1,1,1,5,5] ?_; intro h
        refine bs h (fun c14 h => ?_) fun c14 h => ?_
        ·refine au h [2,1,1,1] ?_; intro h
         refine Ev.seqJ (γ := Bool) (fun v => ⟨[(5, wP 10400), (8, lP w4), (14, lP r12.1), (16, iP x14), (135, .bool v)], [(10400, eP 29 3 [[lP r2.1.Actions, lP r2.1.Materials, lP r2.1.Output.Files]])], 2⟩) (fun v => top_TopReleasesMatchTheirBills_j2 n x14 (top_TopReleasesMatchTheirBills_l2 n r2 w4 r12 m2) v = some r) ?_ ?_
         ·refine au h [1,1,1,5,5,8,8,5,7] ?_; intro e17 k17 x18 k18 h
          refine cb h (top_kernIn_spec n _ _ _) fun r19 k19 h => ?_
          refine aw h [5,1] ?_; intro h
          refine bs h (fun c20 h => ?_) fun c20 h => ?_
          ·refine aw h [3,3,3,3,3,3,3,3,3,3,3,3,2] ?_; intro h
           exact lf true h
          ·refine aw h [2,1,2,8,2,8,2,1,2,1,2,6,2,5,2,5,2,5,2,5,2] ?_; intro e20 k21 h
           refine cb h (ref6_HasString_spec n _ _) fun r21 k22 h => ?_
           refine aw h [2,5,3] ?_; intro h
           exact lf (!r21) h
         ·intro x15 h
          try dsimp only at h ⊢
          unfold top_TopReleasesMatchTheirBills_j2 at h
          refine bs h (fun c15 h => ?_) fun c15 h => ?_
          ·refine au h [2,1,1,1,1] ?_; intro h
           cases h
           exact ⟨_, rfl, .refl _⟩
          ·refine au h [3,1,1,1,7,1] ?_; intro x16 k16 h
           exact lb (m2, x16) h
        ·refine au h [3,1,1,1,1,1] ?_; intro h
         cases h
         exact ⟨_, rfl, .refl _⟩
end Go.Proofs.YtlkknmhhefjmjaaGreatDoor
