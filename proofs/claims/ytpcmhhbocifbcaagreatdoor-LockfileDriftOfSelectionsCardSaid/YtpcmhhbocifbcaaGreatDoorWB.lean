/- The functions compute what the texts of D say. Laid by a program (wip/gen/dec.py). -/
import Derived.Test.YtpcmhhbocifbcaaGreatDoorPwAuto
import Derived.Test.YtpcmhhbocifbcaaGreatDoorD
import Derived.Test.YtpcmhhbocifbcaaGreatDoorWA
set_option linter.unusedVariables false
set_option linter.unusedSimpArgs false
namespace Go.Proofs.YtpcmhhbocifbcaaGreatDoor
open Go.PW Go
theorem law6_locks_spec (n : Nat) (r : Bool) (h : law6_locks n = some r) : PSpec Tryz.prog 9 [] (.bool r) := by
 unfold law6_locks at h
 refine spec_of Tryz.c_law6_locks (by simp) ?_
 unfold Tryz.l_law6_locks
 refine au h [1,1,1,1,1] ?_; intro h
 refine cb h (law6_lock_spec n) fun r1 k1 h => ?_
 refine cb h (lockfile_Write_spec n _) fun r2 k2 h => ?_
 refine ax 106 h [1,5,5,5,1,8,1] ?_; intro h
 refine Ev.regS rfl ?_
 refine Sq.w 1 nb ?_
 refine aw h [5] ?_; intro h
 refine Sq.weak (st' := ⟨[(1, lP r2.1), (2, wP 10000), (20, lP ([([48, 32, 49, 46, 50, 46, 51, 32, 55] : List UInt8)] : List (List UInt8)))], [(10000, eP 26 2 [[iP r2.2.Code, iP r2.2.Index]])], 2⟩) ?_ ((Wk.frz 20 2 rfl rfl).trans (.nA))
 refine Sq.wEnd nb ?_
 refine cb h (lockfile_Read_spec n _) fun r3 k3 h => ?_
 refine ax 106 h [1,5,5,5,1,8,1,1] ?_; intro h
 refine cb h (law6_lock_spec n) fun r4 k4 h => ?_
 obtain ⟨r5, k5, h⟩ := obind h
 refine W.call (lockfile_Drift_spec n r4 ([] : List SPackageVersionDigest) r5 k5) rfl rfl (.cons (.refl _) (.cons (.nils 6) (.nil))) rfl (.inl rfl) rfl ?_
 refine ax 106 h [1,5,5,5,1,8,1,1] ?_; intro h
 refine cb h (law6_lock_spec n) fun r6 k6 h => ?_
 refine cb h (lockfile_Corrupt_spec n _) fun r7 k7 h => ?_
 refine ax 106 h [1,5,5,5,1,8,1] ?_; intro h
 refine Ev.regS rfl ?_
 refine Sq.w 2 nb ?_
 refine cb h (law6_universe_spec n) fun r8 k8 h => ?_
 refine aw h [5] ?_; intro h
 refine Sq.weak (st' := ⟨[(1, lP r2.1), (2, wP 10000), (3, lP r3.1), (4, wP 10001), (5, lP r5.1), (6, wP 10002), (7, lP r7.1), (8, wP 10003), (35, .agg [lP r8.Packages]), (36, lP ([0, (-1)] : List Int))], [(10000, eP 26 2 [[iP r2.2.Code, iP r2.2.Index]]), (10001, eP 26 2 [[iP r3.2.Code, iP r3.2.Index]]), (10002, eP 26 2 [[iP r5.2.Code, iP r5.2.Index]]), (10003, eP 26 2 [[iP r7.2.Code, iP r7.2.Index]])], 2⟩) ?_ ((Wk.frz 36 2 rfl rfl).trans (.nA))
 refine Sq.wEnd nb ?_
 refine cb h (lockfile_Make_spec n _ _) fun r9 k9 h => ?_
 refine ax 106 h [1,5,5,5,1,8,1] ?_; intro h
 refine Ev.regS rfl ?_
 refine Sq.w 1 nb ?_
 refine aw h [5] ?_; intro h
 refine Sq.weak (st' := ⟨[(1, lP r2.1), (2, wP 10000), (3, lP r3.1), (4, wP 10001), (5, lP r5.1), (6, wP 10002), (7, lP r7.1), (8, wP 10003), (9, lP r9.1), (10, wP 10004), (41, lP ([([57, 32, 49, 46, 50, 46, 51, 32, 55] : List UInt8)] : List (List UInt8)))], [(10000, eP 26 2 [[iP r2.2.Code, iP r2.2.Index]]), (10001, eP 26 2 [[iP r3.2.Code, iP r3.2.Index]]), (10002, eP 26 2 [[iP r5.2.Code, iP r5.2.Index]]), (10003, eP 26 2 [[iP r7.2.Code, iP r7.2.Index]]), (10004, eP 26 2 [[iP r9.2.Code, iP r9.2.Index]])], 2⟩) ?_ ((Wk.frz 41 2 rfl rfl).trans (.nA))
 refine Sq.wEnd nb ?_
 refine cb h (lockfile_Read_spec n _) fun r10 k10 h => ?_
 refine aw h [1,5,5,5,1,8] ?_; intro h
 refine Ev.seqJ (γ := Bool) (fun v => ⟨[(1, lP r2.1), (3, lP r3.1), (5, lP r5.1), (7, lP r7.1), (9, lP r9.1), (13, .bool v)], [], 2⟩) (fun v => law6_locks_j1 n r2 r3 r5 r7 r9 v = some r) ?_ ?_
 ·refine au h [1,8,8,5,1] ?_; intro h
  refine bs h (fun c23 h => ?_) fun c23 h => ?_
  ·refine aw h [2,8,2,8,2,5,2,1] ?_; intro h
   refine bs h (fun c24 h => ?_) fun c24 h => ?_
   ·refine aw h [2,8,2,8,2,5,2,1] ?_; intro h
    refine bs h (fun c25 h => ?_) fun c25 h => ?_
    ·refine aw h [2,8,2,8,2,5,2,1] ?_; intro h
     refine bs h (fun c26 h => ?_) fun c26 h => ?_
     ·refine aw h [2,8,2,8,2,5,2,1] ?_; intro h
      refine bs h (fun c27 h => ?_) fun c27 h => ?_
      ·refine aw h [2,8,2] ?_; intro h
       refine cb h (law6_fault_spec n _ _) fun r19 k28 h => ?_
       refine aw h [2,5,2,1] ?_; intro h
       exact lf ((r10.2.Code == r19.Code && (r10.2.Index == r19.Index && true)) != false) h
      ·refine aw h [3,3,3,3,1] ?_; intro h
       exact lf false h
     ·refine aw h [3,3,3,3,1,3,3,3,3,1] ?_; intro h
      exact lf false h
    ·refine aw h [3,3,3,3,1,3,3,3,3,1,3,3,3,3,1] ?_; intro h
     exact lf false h
   ·refine aw h [3,3,3,3,1,3,3,3,3,1,3,3,3,3,1,3,3,3,3,1] ?_; intro h
    exact lf false h
  ·refine aw h [3,3,3,3,1,3,3,3,3,1,3,3,3,3,1,3,3,3,3,1,3,3,3,3,1] ?_; intro h
   exact lf false h
 ·intro x11 h
  try dsimp only at h ⊢
  unfold law6_locks_j1 at h
  refine Ev.seqJ (γ := Bool) (fun v => ⟨[(0, .bool v)], [], 2⟩) (fun v => law6_locks_j2 n v = some r) ?_ ?_
  ·refine au h [1,1,1] ?_; intro h
   refine bs h (fun c11 h => ?_) fun c11 h => ?_
   ·refine aw h [2,1,2,5,2] ?_; intro h
    refine cb h (ref6_Strings_spec n _ _) fun r13 k12 h => ?_
    refine aw h [2,1] ?_; intro h
    refine bs h (fun c13 h => ?_) fun c13 h => ?_
    ·refine aw h [2,1,2] ?_; intro h
     refine cb h (law6_lock_spec n) fun r14 k14 h => ?_
     refine W.guardT rfl c13 ?_
     refine cb h (ref6_SameLock_spec n _ _) fun r15 k15 h => ?_
     refine aw h [2,1] ?_; intro h
     refine bs h (fun c16 h => ?_) fun c16 h => ?_
     ·refine aw h [2,1,2,5,2] ?_; intro h
      refine cb h (ref5_Ints_spec n _ _) fun r16 k17 h => ?_
      refine aw h [2,1] ?_; intro h
      refine bs h (fun c18 h => ?_) fun c18 h => ?_
      ·refine aw h [2,1,2,5,2] ?_; intro h
       refine cb h (ref5_Ints_spec n _ _) fun r17 k19 h => ?_
       refine aw h [2,1] ?_; intro h
       refine bs h (fun c20 h => ?_) fun c20 h => ?_
       ·refine aw h [2,1,2,5,2,5,2,1] ?_; intro h
        refine bs h (fun c21 h => ?_) fun c21 h => ?_
        ·refine aw h [2,1,2,5,2,5,2,5,2,5,2,1] ?_; intro e18 k22 h
         exact lf (decide (e18.Package = 0)) h
        ·refine aw h [3,3,3,3,3,3,1] ?_; intro h
         exact lf false h
       ·refine aw h [3,3,3,3,1,3,3,3,3,3,3,1] ?_; intro h
        exact lf false h
      ·refine aw h [3,3,3,3,1,3,3,3,3,1,3,3,3,3,3,3,1] ?_; intro h
       exact lf false h
     ·refine aw h [3,3,3,3,1,3,3,3,3,1,3,3,3,3,1,3,3,3,3,3,3,1] ?_; intro h
      exact lf false h
    ·refine aw h [3,3,3,3,1,3,3,3,3,1,3,3,3,3,1,3,3,3,3,1,3,3,3,3,3,3,1] ?_; intro h
     exact lf false h
   ·refine aw h [3,3,3,3,1,3,3,3,3,1,3,3,3,3,1,3,3,3,3,1,3,3,3,3,1,3,3,3,3,3,3,1] ?_; intro h
    exact lf false h
  ·intro x12 h
   try dsimp only at h ⊢
   unfold law6_locks_j2 at h
   refine Ev.ret ?_
   cases h
   exact ⟨_, rfl, .refl _⟩
theorem law6_wideLock_spec (n : Nat) (a0 : List SPackageVersionDigest) (r : Bool) (h : law6_wideLock n a0 = some r) : PSpec Tryz.prog 10 [lP a0] (.bool r) := by
 unfold law6_wideLock at h
 refine spec_of Tryz.c_law6_wideLock (by simp) ?_
 unfold Tryz.l_law6_wideLock
 refine au h [1,1,1,1,1,1,1,1] ?_; intro h
 refine Ev.loopW (β := Nat × Int) (fun v => ⟨[(0, lP a0), (3, iP v.2)], [], 2⟩) (fun v => law6_wideLock_l1 n a0 v.1 v.2 = some r) (fun v => v.1) (n, 0) (.nA) h ?_
 intro ⟨m1, x1⟩ h
 try dsimp only at h ⊢
 cases m1 with
 | zero => rw [law6_wideLock_l1] at h; cases h
 | succ m1 =>
  rw [law6_wideLock_l1] at h
  refine Ev.seq ?_
  refine Ev.seqJ (γ := Bool) (fun v => ⟨[(0, lP a0), (3, iP x1), (11, .bool v)], [], 2⟩) (fun v => law6_wideLock_j1 n a0 x1 (law6_wideLock_l1 n a0 m1) v = some r) ?_ ?_
  ·refine au h [1,1,1,5,5,1] ?_; intro h
   refine bs h (fun c5 h => ?_) fun c5 h => ?_
   ·refine aw h [2,1,2,5,2] ?_; intro h
    exact lf (decide (x1 < 20)) h
   ·refine aw h [3,3,3] ?_; intro h
    exact lf false h
  ·intro x2 h
   try dsimp only at h ⊢
   unfold law6_wideLock_j1 at h
   refine bs h (fun c1 h => ?_) fun c1 h => ?_
   ·refine au h [2,1,1,1,1,1,1,1,5,5,5,5,5,5] ?_; intro e3 k2 h
    refine bs h (fun c3 h => ?_) fun c3 h => ?_
    ·refine au h [2,1,1,1,1] ?_; intro h
     cases h
     exact ⟨_, rfl, .refl _⟩
    ·refine au h [3,1,1,1,7,1] ?_; intro x4 k4 h
     exact lb (m1, x4) h
   ·refine au h [3,1,1,1,1,5,5,1,1] ?_; intro h
    cases h
    exact ⟨_, rfl, .refl _⟩
theorem ref6_fault_spec (n : Nat) (a0 : Int) (a1 : Int) (r : SCodeIndex) (h : ref6_fault n a0 a1 = some r) : PSpec Tryz.prog 33 [iP a0, iP a1] (.agg (SCodeIndex.cells r)) := by
 unfold ref6_fault at h
 refine spec_of Tryz.c_ref6_fault (by simp) ?_
 unfold Tryz.l_ref6_fault
 refine au h [1,1,5,1,1,1,1,5,8,1] ?_; intro h
 cases h
 exact ⟨_, rfl, .refl _⟩
theorem ref6_in_spec (n : Nat) (a0 : Int) (a1 : Int) (a2 : Int) (r : Bool) (h : ref6_in n a0 a1 a2 = some r) : PSpec Tryz.prog 34 [iP a0, iP a1, iP a2] (.bool r) := by
 unfold ref6_in at h
 refine spec_of Tryz.c_ref6_in (by simp) ?_
 unfold Tryz.l_ref6_in
 refine au h [1,1,1] ?_; intro h
 refine Ev.seqJ (γ := Bool) (fun v => ⟨[(6, .bool v)], [], 2⟩) (fun v => ref6_in_j1 n v = some r) ?_ ?_
 ·refine au h [1,1,1,5,1] ?_; intro h
  refine bs h (fun c1 h => ?_) fun c1 h => ?_
  ·refine aw h [2,1,2,1,2,5,2,1] ?_; intro h
   exact lf (decide (a0 ≤ a2)) h
  ·refine aw h [3,3,3,3,1] ?_; intro h
   exact lf false h
 ·intro x1 h
  try dsimp only at h ⊢
  unfold ref6_in_j1 at h
  refine Ev.ret ?_
  cases h
  exact ⟨_, rfl, .refl _⟩
theorem ref5_fault_spec (n : Nat) (a0 : Int) (a1 : Int) (r : SCodeIndex) (h : ref5_fault n a0 a1 = some r) : PSpec Tryz.prog 47 [iP a0, iP a1] (.agg (SCodeIndex.cells r)) := by
 unfold ref5_fault at h
 refine spec_of Tryz.c_ref5_fault (by simp) ?_
 unfold Tryz.l_ref5_fault
 refine au h [1,1,5,1,1,1,1,5,8,1] ?_; intro h
 cases h
 exact ⟨_, rfl, .refl _⟩
theorem ref5_in_spec (n : Nat) (a0 : Int) (a1 : Int) (a2 : Int) (r : Bool) (h : ref5_in n a0 a1 a2 = some r) : PSpec Tryz.prog 49 [iP a0, iP a1, iP a2] (.bool r) := by
 unfold ref5_in at h
 refine spec_of Tryz.c_ref5_in (by simp) ?_
 unfold Tryz.l_ref5_in
 refine au h [1,1,1] ?_; intro h
 refine Ev.seqJ (γ := Bool) (fun v => ⟨[(6, .bool v)], [], 2⟩) (fun v => ref5_in_j1 n v = some r) ?_ ?_
 ·refine au h [1,1,1,5,1] ?_; intro h
  refine bs h (fun c1 h => ?_) fun c1 h => ?_
  ·refine aw h [2,1,2,1,2,5,2,1] ?_; intro h
   exact lf (decide (a0 ≤ a2)) h
  ·refine aw h [3,3,3,3,1] ?_; intro h
   exact lf false h
 ·intro x1 h
  try dsimp only at h ⊢
  unfold ref5_in_j1 at h
  refine Ev.ret ?_
  cases h
  exact ⟨_, rfl, .refl _⟩
theorem ref5_Numeric_spec (n : Nat) (a0 : List UInt8) (r : Bool) (h : ref5_Numeric n a0 = some r) : PSpec Tryz.prog 82 [.str a0] (.bool r) := by
 unfold ref5_Numeric at h
 refine spec_of Tryz.c_ref5_Numeric (by simp) ?_
 unfold Tryz.l_ref5_Numeric
 refine au h [1,1,1,1,1,1,1,1] ?_; intro h
 refine Ev.loopW (β := Nat × Int) (fun v => ⟨[(0, .str a0), (3, iP v.2)], [], 2⟩) (fun v => ref5_Numeric_l1 n a0 v.1 v.2 = some r) (fun v => v.1) (n, 0) (.nA) h ?_
 intro ⟨m1, x1⟩ h
 try dsimp only at h ⊢
 cases m1 with
 | zero => rw [ref5_Numeric_l1] at h; cases h
 | succ m1 =>
  rw [ref5_Numeric_l1] at h
  refine au h [1,1,1,1,1,5,5] ?_; intro h
  refine bs h (fun c1 h => ?_) fun c1 h => ?_
  ·refine au h [2,1,1,1] ?_; intro h
   refine Ev.seqJ (γ := Bool) (fun v => ⟨[(0, .str a0), (3, iP x1), (19, .bool v)], [], 2⟩) (fun v => ref5_Numeric_j1 n x1 (ref5_Numeric_l1 n a0 m1) v = some r) ?_ ?_
   ·refine au h [1,1,1,5,5,1] ?_; intro y4 k4 h
    refine bs h (fun c5 h => ?_) fun c5 h => ?_
    ·refine aw h [3,3,3,3,2] ?_; intro h
     exact lf true h
    ·refine aw h [2,1,2,1,2,5,2,5,3] ?_; intro y5 k6 h
     exact lf (decide (57 < (y5.toNat : Int))) h
   ·intro x2 h
    try dsimp only at h ⊢
    unfold ref5_Numeric_j1 at h
    refine bs h (fun c2 h => ?_) fun c2 h => ?_
    ·refine au h [2,1,1,1,1] ?_; intro h
     cases h
     exact ⟨_, rfl, .refl _⟩
    ·refine au h [3,1,1,1,7,1] ?_; intro x3 k3 h
     exact lb (m1, x3) h
  ·refine au h [3,1,1,1,1,5,5,1,1] ?_; intro h
   cases h
   exact ⟨_, rfl, .refl _⟩
theorem ref5_Identifier_spec (n : Nat) (a0 : List UInt8) (r : Bool) (h : ref5_Identifier n a0 = some r) : PSpec Tryz.prog 63 [.str a0] (.bool r) := by
 unfold ref5_Identifier at h
 refine spec_of Tryz.c_ref5_Identifier (by simp) ?_
 unfold Tryz.l_ref5_Identifier
 refine au h [1,1,1,1] ?_; intro h
 refine Ev.seqJ (γ := Bool) (fun v => ⟨[(0, .str a0), (22, .bool v)], [], 2⟩) (fun v => ref5_Identifier_j1 n a0 v = some r) ?_ ?_
 ·refine au h [1,1,5] ?_; intro h
  refine cb h (ref5_in_spec n _ _ _) fun r9 k12 h => ?_
  refine aw h [5,1] ?_; intro h
  refine bs h (fun c13 h => ?_) fun c13 h => ?_
  ·refine aw h [3,3,3,4,4,4,3,3,4,4,4,3,2] ?_; intro h
   exact lf true h
  ·refine aw h [2,1,2] ?_; intro h
   refine cb h (ref5_Numeric_spec n _) fun r10 k14 h => ?_
   refine aw h [2,1] ?_; intro h
   refine bs h (fun c15 h => ?_) fun c15 h => ?_
   ·refine aw h [2,1,2,5,2,5,2,2,2,1] ?_; intro h
    refine bs h (fun c16 h => ?_) fun c16 h => ?_
    ·refine aw h [2,1,2,5,2,5,2,2,3] ?_; intro y11 k17 h
     exact lf (decide ((y11.toNat : Int) = 48)) h
    ·refine aw h [3,3,3,2,3,3] ?_; intro h
     exact lf false h
   ·refine aw h [3,3,3,2,3,2,1,3,3,3,2,3,3] ?_; intro h
    exact lf false h
 ·intro x1 h
  try dsimp only at h ⊢
  unfold ref5_Identifier_j1 at h
  refine bs h (fun c1 h => ?_) fun c1 h => ?_
  ·refine au h [2,1,1,1,1] ?_; intro h
   cases h
   exact ⟨_, rfl, .refl _⟩
  ·refine au h [3,1,1,1,1,1,1] ?_; intro h
   refine Ev.loopW (β := Nat × Int) (fun v => ⟨[(0, .str a0), (3, iP v.2)], [], 2⟩) (fun v => ref5_Identifier_l1 n a0 v.1 v.2 = some r) (fun v => v.1) (n, 0) (.nA) h ?_
   intro ⟨m1, x2⟩ h
   try dsimp only at h ⊢
   cases m1 with
   | zero => rw [ref5_Identifier_l1] at h; cases h
   | succ m1 =>
    rw [ref5_Identifier_l1] at h
    refine au h [1,1,1,1,1,5,5] ?_; intro h
    refine bs h (fun c2 h => ?_) fun c2 h => ?_
    ·refine au h [2,1,1,1,1,1,1,1,5,5,1] ?_; intro y3 k3 h
     refine Ev.seqJ (γ := Bool) (fun v => ⟨[(0, .str a0), (3, iP x2), (49, .bool v)], [], 2⟩) (fun v => ref5_Identifier_j2 n x2 (ref5_Identifier_l1 n a0 m1) v = some r) ?_ ?_
     ·refine au h [1,1] ?_; intro h
      refine cb h (ref5_in_spec n _ _ _) fun r6 k6 h => ?_
      refine aw h [5,1] ?_; intro h
      refine bs h (fun c7 h => ?_) fun c7 h => ?_
      ·refine aw h [2,1,2] ?_; intro h
       refine cb h (ref5_in_spec n _ _ _) fun r7 k8 h => ?_
       refine aw h [2,5,2,1] ?_; intro h
       refine bs h (fun c9 h => ?_) fun c9 h => ?_
       ·refine aw h [2,1,2] ?_; intro h
        refine cb h (ref5_in_spec n _ _ _) fun r8 k10 h => ?_
        refine aw h [2,5,2,1] ?_; intro h
        refine bs h (fun c11 h => ?_) fun c11 h => ?_
        ·refine aw h [2,1,2,5,2] ?_; intro h
         exact lf (decide ((IntKind.wrap .i64 (y3.toNat : Int)) ≠ 45)) h
        ·refine aw h [3,3,3] ?_; intro h
         exact lf false h
       ·refine aw h [3,3,3,3,1,3,3,3] ?_; intro h
        exact lf false h
      ·refine aw h [3,3,3,3,1,3,3,3,3,1,3,3,3] ?_; intro h
       exact lf false h
     ·intro x4 h
      try dsimp only at h ⊢
      unfold ref5_Identifier_j2 at h
      refine bs h (fun c4 h => ?_) fun c4 h => ?_
      ·refine au h [2,1,1,1,1] ?_; intro h
       cases h
       exact ⟨_, rfl, .refl _⟩
      ·refine au h [3,1,1,1,7,1] ?_; intro x5 k5 h
       exact lb (m1, x5) h
    ·refine au h [3,1,1,1,1,1] ?_; intro h
     cases h
     exact ⟨_, rfl, .refl _⟩
theorem ref5_VersionFault_spec (n : Nat) (a0 : SMajorMinorPatchPre) (r : SCodeIndex) (h : ref5_VersionFault n a0 = some r) : PSpec Tryz.prog 35 [.agg (SMajorMinorPatchPre.cells a0)] (.agg (SCodeIndex.cells r)) := by
 unfold ref5_VersionFault at h
 refine spec_of Tryz.c_ref5_VersionFault (by simp) ?_
 unfold Tryz.l_ref5_VersionFault
 refine au h [1,1,5,5,1,1,1,8,8] ?_; intro h
 refine cb h (ref5_in_spec n _ _ _) fun r1 k1 h => ?_
 refine aw h [5] ?_; intro h
 refine bs h (fun c2 h => ?_) fun c2 h => ?_
 ·refine au h [2,1,1] ?_; intro h
  refine cb h (ref5_fault_spec n _ _) fun r2 k3 h => ?_
  refine ax 41 h [8,1] ?_; intro h
  cases h
  exact ⟨_, rfl, .refl _⟩
 ·refine au h [3,1,1,1,1,8,8] ?_; intro h
  refine cb h (ref5_in_spec n _ _ _) fun r3 k4 h => ?_
  refine aw h [5] ?_; intro h
  refine bs h (fun c5 h => ?_) fun c5 h => ?_
  ·refine au h [2,1,1] ?_; intro h
   refine cb h (ref5_fault_spec n _ _) fun r4 k6 h => ?_
   refine ax 41 h [8,1] ?_; intro h
   cases h
   exact ⟨_, rfl, .refl _⟩
  ·refine au h [3,1,1,1,1,8,8] ?_; intro h
   refine cb h (ref5_in_spec n _ _ _) fun r5 k7 h => ?_
   refine aw h [5] ?_; intro h
   refine bs h (fun c8 h => ?_) fun c8 h => ?_
   ·refine au h [2,1,1] ?_; intro h
    refine cb h (ref5_fault_spec n _ _) fun r6 k9 h => ?_
    refine ax 41 h [8,1] ?_; intro h
    cases h
    exact ⟨_, rfl, .refl _⟩
   ·refine au h [3,1,1,1,1,8,8,5,5] ?_; intro h
    refine bs h (fun c10 h => ?_) fun c10 h => ?_
    ·refine au h [2,1,1] ?_; intro h
     refine cb h (ref5_fault_spec n _ _) fun r7 k11 h => ?_
     refine ax 41 h [8,1] ?_; intro h
     cases h
     exact ⟨_, rfl, .refl _⟩
    ·refine au h [3,1,1,1,1,1,1] ?_; intro h
     refine Ev.loopW (β := Nat × Int) (fun v => ⟨[(1, wP 10100), (2, wP 10101), (3, iP v.2)], [(10100, eP 60 4 [[iP a0.Major, iP a0.Minor, iP a0.Patch, lP a0.Pre]]), (10101, eP 26 2 [[iP 0, iP 0]])], 2⟩) (fun v => ref5_VersionFault_l1 n a0 v.1 v.2 = some r) (fun v => v.1) (n, 0) (.nA) h ?_
     intro ⟨m1, x8⟩ h
     try dsimp only at h ⊢
     cases m1 with
     | zero => rw [ref5_VersionFault_l1] at h; cases h
     | succ m1 =>
      rw [ref5_VersionFault_l1] at h
      refine au h [1,1,1,1,8,8,5,5] ?_; intro h
      refine bs h (fun c12 h => ?_) fun c12 h => ?_
      ·refine au h [2,1,1,1,1,1,8,8,1,5,5] ?_; intro e9 k13 h
       refine cb h (ref5_Identifier_spec n _) fun r10 k14 h => ?_
       refine aw h [5] ?_; intro h
       refine bs h (fun c15 h => ?_) fun c15 h => ?_
       ·refine au h [2,1,1,1] ?_; intro h
        refine cb h (ref5_fault_spec n _ _) fun r11 k16 h => ?_
        refine ax 41 h [8,1] ?_; intro h
        cases h
        exact ⟨_, rfl, .refl _⟩
       ·refine au h [3,1,1,1,7,1] ?_; intro x12 k17 h
        exact lb (m1, x12) h
      ·refine au h [3,1,1,1,5,8,1] ?_; intro h
       cases h
       exact ⟨_, rfl, .refl _⟩
theorem ref5_IsDigest_spec (n : Nat) (a0 : Int) (r : Bool) (h : ref5_IsDigest n a0 = some r) : PSpec Tryz.prog 36 [iP a0] (.bool r) := by
 unfold ref5_IsDigest at h
 refine spec_of Tryz.c_ref5_IsDigest (by simp) ?_
 unfold Tryz.l_ref5_IsDigest
 refine au h [1,1,1,1,1,1] ?_; intro h
 refine cb h (ref5_in_spec n _ _ _) fun r1 k1 h => ?_
 refine ax 5 h [1,1] ?_; intro h
 cases h
 exact ⟨_, rfl, .refl _⟩
theorem ref6_LockFault_spec (n : Nat) (a0 : List SPackageVersionDigest) (r : SCodeIndex) (h : ref6_LockFault n a0 = some r) : PSpec Tryz.prog 11 [lP a0] (.agg (SCodeIndex.cells r)) := by
 unfold ref6_LockFault at h
 refine spec_of Tryz.c_ref6_LockFault (by simp) ?_
 unfold Tryz.l_ref6_LockFault
 refine au h [1,1,5,1,1,1,1,5,5] ?_; intro h
 refine bs h (fun c1 h => ?_) fun c1 h => ?_
 ·refine au h [2,1,1] ?_; intro h
  refine cb h (ref6_fault_spec n _ _) fun r1 k2 h => ?_
  refine ax 65 h [8,1] ?_; intro h
  cases h
  exact ⟨_, rfl, .refl _⟩
 ·refine au h [3,1,1,1,1,1,1] ?_; intro h
  refine Ev.loopW (β := Nat × Int) (fun v => ⟨[(0, lP a0), (2, wP 10100), (3, iP v.2)], [(10100, eP 26 2 [[iP 0, iP 0]])], 2⟩) (fun v => ref6_LockFault_l1 n a0 v.1 v.2 = some r) (fun v => v.1) (n, 0) (.nA) h ?_
  intro ⟨m1, x2⟩ h
  try dsimp only at h ⊢
  cases m1 with
  | zero => rw [ref6_LockFault_l1] at h; cases h
  | succ m1 =>
   rw [ref6_LockFault_l1] at h
   refine au h [1,1,1,1,1,5,5] ?_; intro h
   refine bs h (fun c3 h => ?_) fun c3 h => ?_
   ·refine au h [2,1,1,1,1,1,1,1,1,5,5,5] ?_; intro e3 k4 h
    refine cb h (ref6_in_spec n _ _ _) fun r4 k5 h => ?_
    refine aw h [5] ?_; intro h
    refine bs h (fun c6 h => ?_) fun c6 h => ?_
    ·refine au h [2,1,1,1] ?_; intro h
     refine cb h (ref6_fault_spec n _ _) fun r5 k7 h => ?_
     refine ax 65 h [8,1] ?_; intro h
     cases h
     exact ⟨_, rfl, .refl _⟩
    ·refine au h [3,1,1,1,1,1,6,5,5] ?_; intro h
     refine cb h (ref5_VersionFault_spec n _) fun r6 k8 h => ?_
     refine ax 65 h [5,8,1,1,1,8,8,5] ?_; intro h
     refine bs h (fun c9 h => ?_) fun c9 h => ?_
     ·refine au h [2,1,1,8,8,1] ?_; intro h
      refine cb h (ref6_fault_spec n _ _) fun r7 k10 h => ?_
      refine ax 65 h [8,1] ?_; intro h
      cases h
      exact ⟨_, rfl, .refl _⟩
     ·refine au h [3,1,1,1,1,1,1,6,5,5] ?_; intro h
      refine cb h (ref5_IsDigest_spec n _) fun r8 k11 h => ?_
      refine aw h [5] ?_; intro h
      refine bs h (fun c12 h => ?_) fun c12 h => ?_
      ·refine au h [2,1,1,1] ?_; intro h
       refine cb h (ref6_fault_spec n _ _) fun r9 k13 h => ?_
       refine ax 65 h [8,1] ?_; intro h
       cases h
       exact ⟨_, rfl, .refl _⟩
      ·refine au h [3,1] ?_; intro h
       refine Ev.seqJ (γ := Bool) (fun v => ⟨[(0, lP a0), (2, wP 10200), (3, iP x2), (61, .bool v)], [(10200, eP 26 2 [[iP 0, iP 0]])], 2⟩) (fun v => ref6_LockFault_j1 n x2 (ref6_LockFault_l1 n a0 m1) v = some r) ?_ ?_
       ·refine au h [1,1,5,1] ?_; intro h
        refine bs h (fun c17 h => ?_) fun c17 h => ?_
        ·refine aw h [2,1,2,1,2,6,2,5,2,5,2,1,2,1,2,7,2,5,2,5,2,5,2,5,2] ?_; intro x13 k18 e14 k19 h
         exact lf (decide (e3.Package ≤ e14.Package)) h
        ·refine aw h [3,3,3,3,3,3,3,3,3,3,3,3,3] ?_; intro h
         exact lf false h
       ·intro x10 h
        try dsimp only at h ⊢
        unfold ref6_LockFault_j1 at h
        refine bs h (fun c14 h => ?_) fun c14 h => ?_
        ·refine au h [2,1,1,1] ?_; intro h
         refine cb h (ref6_fault_spec n _ _) fun r11 k15 h => ?_
         refine ax 65 h [8,1] ?_; intro h
         cases h
         exact ⟨_, rfl, .refl _⟩
        ·refine au h [3,1,1,1,7,1] ?_; intro x12 k16 h
         exact lb (m1, x12) h
   ·refine au h [3,1,1,1,5,8,1] ?_; intro h
    cases h
    exact ⟨_, rfl, .refl _⟩
theorem ref1_times_spec (n : Nat) (a0 : Int) (a1 : Int) (r : Int) (h : ref1_times n a0 a1 = some r) : PSpec Tryz.prog 86 [iP a0, iP a1] (iP r) := by
 unfold ref1_times at h
 refine spec_of Tryz.c_ref1_times (by simp) ?_
 unfold Tryz.l_ref1_times
 refine au h [1,1,1,1,1,1] ?_; intro h
 refine Ev.seqJ (γ := Int) (fun v => ⟨[(5, iP v)], [], 2⟩) (fun v => ref1_times_j1 n v = some r) ?_ ?_
 ·refine Ev.block ?_
  refine Ev.loopW (β := Nat × Int × Int × Int) (fun v => ⟨[(0, iP v.2.1), (1, iP v.2.2.1), (5, iP v.2.2.2)], [], 2⟩) (fun v => ref1_times_l1 n v.1 v.2.1 v.2.2.1 v.2.2.2 = some r) (fun v => v.1) (n, a0, a1, 0) (.nA) h ?_
  intro ⟨m1, x2, x3, x4⟩ h
  try dsimp only at h ⊢
  cases m1 with
  | zero => rw [ref1_times_l1] at h; cases h
  | succ m1 =>
   rw [ref1_times_l1] at h
   refine au h [1,1,1,1,5] ?_; intro h
   refine bs h (fun c1 h => ?_) fun c1 h => ?_
   ·refine au h [2,1,1] ?_; intro h
    refine Ev.seqJ (γ := Int) (fun v => ⟨[(0, iP x2), (1, iP x3), (5, iP v)], [], 2⟩) (fun v => ref1_times_j2 n x2 x3 (ref1_times_l1 n m1) v = some r) ?_ ?_
    ·refine au h [1,1,1,7,5] ?_; intro x9 k5 h
     refine bs h (fun c6 h => ?_) fun c6 h => ?_
     ·refine au h [2,1,1,1,7,7,1] ?_; intro x10 k7 x11 k8 h
      exact lf x11 h
     ·refine au h [3,1] ?_; intro h
      exact lf x4 h
    ·intro x5 h
     try dsimp only at h ⊢
     unfold ref1_times_j2 at h
     refine au h [1,1,1,1,7,7,1,1,1,7,1] ?_; intro x6 k2 x7 k3 x8 k4 h
     exact lb (m1, x7, x8, x5) h
   ·refine au h [3,1] ?_; intro h
    exact lf x4 h
 ·intro x1 h
  try dsimp only at h ⊢
  unfold ref1_times_j1 at h
  refine au h [1,1,1,1,1] ?_; intro h
  cases h
  exact ⟨_, rfl, .refl _⟩
end Go.Proofs.YtpcmhhbocifbcaaGreatDoor
namespace Go.Proofs.YtpcmhhbocifbcaaGreatDoor
open Go.PW Go
theorem ref1_DigestOf_spec (n : Nat) (a0 : List Int) (r : Int) (h : ref1_DigestOf n a0 = some r) : PSpec Tryz.prog 66 [.list 1 (List.map (cK .u8) a0)] (iP r) := by
 unfold ref1_DigestOf at h
 refine spec_of Tryz.c_ref1_DigestOf (by simp) ?_
 unfold Tryz.l_ref1_DigestOf
 refine au h [1,1,1,1,1,1,1,1,1,1,1] ?_; intro h
 refine Ev.loopW (β := Nat × Int × Int) (fun v => ⟨[(0, .list 1 (List.map (cK .u8) a0)), (3, iP v.2.1), (4, iP v.2.2)], [], 2⟩) (fun v => ref1_DigestOf_l1 n a0 v.1 v.2.1 v.2.2 = some r) (fun v => v.1) (n, 1, 0) (.nA) h ?_
 intro ⟨m1, x1, x2⟩ h
 try dsimp only at h ⊢
 cases m1 with
 | zero => rw [ref1_DigestOf_l1] at h; cases h
 | succ m1 =>
  rw [ref1_DigestOf_l1] at h
  refine au h [1,1,1,1,1,5,5] ?_; intro h
  refine bs h (fun c1 h => ?_) fun c1 h => ?_
  ·refine au h [2,1,1,1,1,1] ?_; intro h
   refine cb h (ref1_times_spec n _ _) fun r3 k2 h => ?_
   refine ax 22 h [1,1,5,5,5,7,7,7,1,1,1,7,1] ?_; intro e4 k3 x5 k4 x6 k5 x7 k6 x8 k7 h
   exact lb (m1, x7, x8) h
  ·refine au h [3,1,1,1,1,1,1] ?_; intro h
   cases h
   exact ⟨_, rfl, .refl _⟩
theorem ref5_Digits_spec : ∀ (n : Nat) (a0 : Int) (r : (List UInt8)) (h : ref5_Digits n a0 = some r), PSpec Tryz.prog 78 [iP a0] (.str r) := by
 intro n
 induction n with
 | zero => intro a0 r h; rw [ref5_Digits] at h; cases h
 | succ n ih =>
 intro a0 r h
 rw [ref5_Digits] at h
 refine spec_of Tryz.c_ref5_Digits (by simp) ?_
 unfold Tryz.l_ref5_Digits
 refine au h [1,1,1,1,1,1,1,5] ?_; intro h
 refine bs h (fun c1 h => ?_) fun c1 h => ?_
 ·refine au h [2,1,1,1,1,7,5,1,1] ?_; intro x1 k2 s2 k3 h
  cases h
  exact ⟨_, rfl, .refl _⟩
 ·refine au h [3,1,1,1,1,7] ?_; intro x3 k4 h
  refine cb h (ih _) fun r4 k5 h => ?_
  refine ax 19 h [1,7,1,7,7,5,8,1,1] ?_; intro x5 k6 x6 k7 x7 k8 s8 k9 s9 k10 h
  cases h
  exact ⟨_, rfl, .refl _⟩
theorem ref5_VersionText_spec (n : Nat) (a0 : SMajorMinorPatchPre) (r : (List UInt8)) (h : ref5_VersionText n a0 = some r) : PSpec Tryz.prog 67 [.agg (SMajorMinorPatchPre.cells a0)] (.str r) := by
 unfold ref5_VersionText at h
 refine spec_of Tryz.c_ref5_VersionText (by simp) ?_
 unfold Tryz.l_ref5_VersionText
 refine au h [1,1,5,1,1,1,8,8] ?_; intro h
 refine cb h (ref5_Digits_spec n _) fun r1 k1 h => ?_
 refine aw h [8,8,8] ?_; intro s2 k2 h
 refine cb h (ref5_Digits_spec n _) fun r3 k3 h => ?_
 refine aw h [8,8,8,8] ?_; intro s4 k4 s5 k5 h
 refine cb h (ref5_Digits_spec n _) fun r6 k6 h => ?_
 refine ax 39 h [8,1,1,1,1,1,1] ?_; intro s7 k7 h
 refine Ev.loopW (β := Nat × (List UInt8) × Int) (fun v => ⟨[(1, wP 10100), (3, .str v.2.1), (4, iP v.2.2)], [(10100, eP 60 4 [[iP a0.Major, iP a0.Minor, iP a0.Patch, lP a0.Pre]])], 2⟩) (fun v => ref5_VersionText_l1 n a0 v.1 v.2.1 v.2.2 = some r) (fun v => v.1) (n, s7, 0) (.nA) h ?_
 intro ⟨m1, x8, x9⟩ h
 try dsimp only at h ⊢
 cases m1 with
 | zero => rw [ref5_VersionText_l1] at h; cases h
 | succ m1 =>
  rw [ref5_VersionText_l1] at h
  refine au h [1,1,1,1,8,8,5,5] ?_; intro h
  refine bs h (fun c8 h => ?_) fun c8 h => ?_
  ·refine au h [2,1,1,1] ?_; intro h
   refine Ev.seqJ (γ := List UInt8) (fun v => ⟨[(1, wP 10200), (3, .str v), (4, iP x9)], [(10200, eP 60 4 [[iP a0.Major, iP a0.Minor, iP a0.Patch, lP a0.Pre]])], 2⟩) (fun v => ref5_VersionText_j1 n a0 x9 (ref5_VersionText_l1 n a0 m1) v = some r) ?_ ?_
   ·refine au h [1,1,1,5] ?_; intro h
    refine bs h (fun c12 h => ?_) fun c12 h => ?_
    ·refine au h [2,1,1,8,1] ?_; intro s14 k13 h
     exact lf s14 h
    ·refine au h [3,1,1,8,1] ?_; intro s15 k14 h
     exact lf s15 h
   ·intro x10 h
    try dsimp only at h ⊢
    unfold ref5_VersionText_j1 at h
    refine au h [1,1,8,8,1,5,5,8,1,1,1,7,1] ?_; intro e11 k9 s12 k10 x13 k11 h
    exact lb (m1, s12, x13) h
  ·refine au h [3,1,1,1,1,1,1] ?_; intro h
   cases h
   exact ⟨_, rfl, .refl _⟩
theorem ref6_VersionSum_spec (n : Nat) (a0 : SMajorMinorPatchPre) (r : Int) (h : ref6_VersionSum n a0 = some r) : PSpec Tryz.prog 40 [.agg (SMajorMinorPatchPre.cells a0)] (iP r) := by
 unfold ref6_VersionSum at h
 refine spec_of Tryz.c_ref6_VersionSum (by simp) ?_
 unfold Tryz.l_ref6_VersionSum
 refine au h [1,1,5,1,1,1,8] ?_; intro h
 refine cb h (ref5_VersionText_spec n _) fun r1 k1 h => ?_
 refine W.toBytes rfl ?_
 refine cb h (ref1_DigestOf_spec n _) fun r2 k2 h => ?_
 refine ax 7 h [1,1] ?_; intro h
 cases h
 exact ⟨_, rfl, .refl _⟩
theorem ref6_Corrupt_spec (n : Nat) (a0 : List SPackageVersionDigest) (r : (List Int)) (h : ref6_Corrupt n a0 = some r) : PSpec Tryz.prog 15 [lP a0] (lP r) := by
 unfold ref6_Corrupt at h
 refine spec_of Tryz.c_ref6_Corrupt (by simp) ?_
 unfold Tryz.l_ref6_Corrupt
 refine au h [1,1,1,1,1,1,1,1,1,1,1] ?_; intro h
 refine Ev.loopW (β := Nat × (List Int) × Int) (fun v => ⟨[(0, lP a0), (3, .own 10100 0), (4, iP v.2.2)], [(10100, eP 3 1 (mP v.2.1))], 2⟩) (fun v => ref6_Corrupt_l1 n a0 v.1 v.2.1 v.2.2 = some r) (fun v => v.1) (n, ([] : List Int), 0) ((Wk.ownNil 3 30100 3 1 rfl rfl true).trans (.nA)) h ?_
 intro ⟨m1, w1, x2⟩ h
 try dsimp only at h ⊢
 cases m1 with
 | zero => rw [ref6_Corrupt_l1] at h; cases h
 | succ m1 =>
  rw [ref6_Corrupt_l1] at h
  refine au h [1,1,1,1,1,5,5] ?_; intro h
  refine bs h (fun c1 h => ?_) fun c1 h => ?_
  ·refine au h [2,1] ?_; intro h
   refine Ev.seqJ (γ := List Int) (fun v => ⟨[(0, lP a0), (3, .own 10200 0), (4, iP x2)], [(10200, eP 3 1 (mP v))], 2⟩) (fun v => ref6_Corrupt_j1 n x2 (ref6_Corrupt_l1 n a0 m1) v = some r) ?_ ?_
   ·refine au h [1,1,1,1,1,5,5,5,1,1,6,5,5] ?_; intro e5 k3 h
    refine cb h (ref6_VersionSum_spec n _) fun r6 k4 h => ?_
    refine aw h [5] ?_; intro h
    refine bs h (fun c5 h => ?_) fun c5 h => ?_
    ·refine au h [2,1,1,1,5,7,1] ?_; intro w7 k6 h
     exact lf w7 h
    ·refine au h [3,1] ?_; intro h
     exact lf w1 h
   ·intro w3 h
    try dsimp only at h ⊢
    unfold ref6_Corrupt_j1 at h
    refine au h [1,1,7,1] ?_; intro x4 k2 h
    exact lb (m1, w3, x4) h
  ·refine au h [3,1,1,1,1,1,1] ?_; intro h
   cases h
   exact ⟨_, rfl, .refl _⟩
theorem ref6_of_spec (n : Nat) (a0 : List SPackageVersionDigest) (a1 : Int) (r : (List SPackageVersionDigest)) (h : ref6_of n a0 a1 = some r) : PSpec Tryz.prog 45 [lP a0, iP a1] (lP r) := by
 unfold ref6_of at h
 refine spec_of Tryz.c_ref6_of (by simp) ?_
 unfold Tryz.l_ref6_of
 refine au h [1,1,1,1,1,1,1,1,1,1,1] ?_; intro h
 refine Ev.loopW (β := Nat × (List SPackageVersionDigest) × Int) (fun v => ⟨[(0, lP a0), (1, iP a1), (5, .own 10100 0), (6, iP v.2.2)], [(10100, eP 62 6 (mP v.2.1))], 2⟩) (fun v => ref6_of_l1 n a0 a1 v.1 v.2.1 v.2.2 = some r) (fun v => v.1) (n, ([] : List SPackageVersionDigest), 0) ((Wk.ownNil 5 30100 62 6 rfl rfl true).trans (.nA)) h ?_
 intro ⟨m1, w1, x2⟩ h
 try dsimp only at h ⊢
 cases m1 with
 | zero => rw [ref6_of_l1] at h; cases h
 | succ m1 =>
  rw [ref6_of_l1] at h
  refine au h [1,1,1,1,1,5,5] ?_; intro h
  refine bs h (fun c1 h => ?_) fun c1 h => ?_
  ·refine au h [2,1] ?_; intro h
   refine Ev.seqJ (γ := List SPackageVersionDigest) (fun v => ⟨[(0, lP a0), (1, iP a1), (5, .own 10200 0), (6, iP x2)], [(10200, eP 62 6 (mP v))], 2⟩) (fun v => ref6_of_j1 n x2 (ref6_of_l1 n a0 a1 m1) v = some r) ?_ ?_
   ·refine au h [1,1,1,1,1,5,5,5,1,5] ?_; intro e5 k3 h
    refine bs h (fun c4 h => ?_) fun c4 h => ?_
    ·refine au h [2,1,1,1,1,6,5,5,7,1] ?_; intro w6 k5 h
     exact lf w6 h
    ·refine au h [3,1] ?_; intro h
     exact lf w1 h
   ·intro w3 h
    try dsimp only at h ⊢
    unfold ref6_of_j1 at h
    refine au h [1,1,7,1] ?_; intro x4 k2 h
    exact lb (m1, w3, x4) h
  ·refine au h [3,1,1,1,1,1,1] ?_; intro h
   cases h
   exact ⟨_, rfl, .refl _⟩
theorem ref6_Drift_spec (n : Nat) (a0 : List SPackageVersionDigest) (a1 : List SPackageVersionDigest) (r : (List Int)) (h : ref6_Drift n a0 a1 = some r) : PSpec Tryz.prog 18 [lP a0, lP a1] (lP r) := by
 unfold ref6_Drift at h
 refine spec_of Tryz.c_ref6_Drift (by simp) ?_
 unfold Tryz.l_ref6_Drift
 refine au h [1,1,1,1,1,1,1,1,1,1,1] ?_; intro h
 refine Ev.loopW (β := Nat × (List Int) × Int) (fun v => ⟨[(0, lP a0), (1, lP a1), (5, .own 10100 0), (6, iP v.2.2)], [(10100, eP 3 1 (mP v.2.1))], 2⟩) (fun v => ref6_Drift_l1 n a0 a1 v.1 v.2.1 v.2.2 = some r) (fun v => v.1) (n, ([] : List Int), 0) ((Wk.ownNil 5 30100 3 1 rfl rfl true).trans (.nA)) h ?_
 intro ⟨m1, w1, x2⟩ h
 try dsimp only at h ⊢
 cases m1 with
 | zero => rw [ref6_Drift_l1] at h; cases h
 | succ m1 =>
  rw [ref6_Drift_l1] at h
  refine au h [1,1,1,1,5] ?_; intro h
  refine bs h (fun c1 h => ?_) fun c1 h => ?_
  ·refine au h [2,1] ?_; intro h
   refine Ev.seqJ (γ := List Int) (fun v => ⟨[(0, lP a0), (1, lP a1), (5, .own 10200 0), (6, iP x2)], [(10200, eP 3 1 (mP v))], 2⟩) (fun v => ref6_Drift_j1 n x2 (ref6_Drift_l1 n a0 a1 m1) v = some r) ?_ ?_
   ·refine au h [1,1,1,1,1] ?_; intro h
    refine cb h (ref6_of_spec n _ _) fun r5 k3 h => ?_
    refine aw h [1,1] ?_; intro h
    refine cb h (ref6_of_spec n _ _) fun r6 k4 h => ?_
    refine cb h (ref6_SameLock_spec n _ _) fun r7 k5 h => ?_
    refine aw h [5] ?_; intro h
    refine bs h (fun c6 h => ?_) fun c6 h => ?_
    ·refine au h [2,1,1,1,5,7,1] ?_; intro w8 k7 h
     exact lf w8 h
    ·refine au h [3,1] ?_; intro h
     exact lf w1 h
   ·intro w3 h
    try dsimp only at h ⊢
    unfold ref6_Drift_j1 at h
    refine au h [1,1,7,1] ?_; intro x4 k2 h
    exact lb (m1, w3, x4) h
  ·refine au h [3,1,1,1,1,1,1] ?_; intro h
   cases h
   exact ⟨_, rfl, .refl _⟩
set_option maxHeartbeats 4000000 in
theorem law6_LockfileMatchesSpec_spec (n : Nat) (a0 : List SPackageVersionDigest) (a1 : List SPackageVersionDigest) (r : Bool) (h : law6_LockfileMatchesSpec n a0 a1 = some r) : PSpec Tryz.prog 3 [lP a0, lP a1] (.bool r) := by
 unfold law6_LockfileMatchesSpec at h
 refine spec_of Tryz.c_law6_LockfileMatchesSpec (by simp) ?_
 unfold Tryz.l_law6_LockfileMatchesSpec
 refine au h [1,1,1,1,1,1] ?_; intro h
 refine cb h (law6_locks_spec n) fun r1 k1 h => ?_
 refine aw h [5] ?_; intro h
 refine bs h (fun c2 h => ?_) fun c2 h => ?_
 ·refine au h [2,1,1,1,1] ?_; intro h
  cases h
  exact ⟨_, rfl, .refl _⟩
 ·refine au h [3,1,1] ?_; intro h
  refine Ev.seqJ (γ := Bool) (fun v => ⟨[(0, lP a0), (1, lP a1), (16, .bool v)], [], 2⟩) (fun v => law6_LockfileMatchesSpec_j1 n a0 a1 v = some r) ?_ ?_
  ·refine au h [1,1] ?_; intro h
   refine cb h (law6_wideLock_spec n _) fun r23 k33 h => ?_
   refine W.mv rfl ?_
   refine bs h (fun c34 h => ?_) fun c34 h => ?_
   ·refine aw h [3,3,2] ?_; intro h
    exact lf true h
   ·refine aw h [2,1,2] ?_; intro h
    refine cb h (law6_wideLock_spec n _) fun r24 k35 h => ?_
    refine aw h [3] ?_; intro h
    exact lf r24 h
  ·intro x2 h
   try dsimp only at h ⊢
   unfold law6_LockfileMatchesSpec_j1 at h
   refine bs h (fun c3 h => ?_) fun c3 h => ?_
   ·refine au h [2,1,1,1,1] ?_; intro h
    cases h
    exact ⟨_, rfl, .refl _⟩
   ·refine au h [3,1,1,1,1] ?_; intro h
    refine cb h (ref6_LockFault_spec n _) fun r3 k4 h => ?_
    refine ax 97 h [5,8,1,1,1,1] ?_; intro h
    refine cb h (lockfile_Validate_spec n _) fun r4 k5 h => ?_
    refine aw h [8,5] ?_; intro h
    refine bs h (fun c6 h => ?_) fun c6 h => ?_
    ·refine au h [2,1,1,1,1] ?_; intro h
     cases h
     exact ⟨_, rfl, .refl _⟩
    ·refine au h [3,1,1,1,1] ?_; intro h
     refine cb h (lockfile_Corrupt_spec n _) fun r5 k7 h => ?_
     refine ax 97 h [1,5,5,5,1,8,1] ?_; intro h
     refine Ev.seqJ (γ := Bool) (fun v => ⟨[(0, lP a0), (1, lP a1), (5, wP 10200), (7, wP 10201), (52, .bool v)], [(10200, eP 26 2 [[iP r3.Code, iP r3.Index]]), (10201, eP 26 2 [[iP r5.2.Code, iP r5.2.Index]])], 2⟩) (fun v => law6_LockfileMatchesSpec_j2 n a0 a1 r3 v = some r) ?_ ?_
     ·refine au h [1,8,8,5,1] ?_; intro h
      refine bs h (fun c24 h => ?_) fun c24 h => ?_
      ·refine aw h [3,3,3,3,4,4,4,3,2,1,3,3,3,3,4,4,4,4,4,3,2] ?_; intro h
       exact lf true h
      ·refine aw h [2,8,2,8,2,5,2,1] ?_; intro h
       refine bs h (fun c25 h => ?_) fun c25 h => ?_
       ·refine aw h [2,1,2,5,2,5,2,2,3,1] ?_; intro h
        refine bs h (fun c26 h => ?_) fun c26 h => ?_
        ·refine aw h [3,3,3,3,4,4,4,4,4,3,2] ?_; intro h
         exact lf true h
        ·refine aw h [2,8,2,8,2,5,2,1] ?_; intro h
         refine bs h (fun c27 h => ?_) fun c27 h => ?_
         ·refine aw h [2,1,2,1,2] ?_; intro h
          refine cb h (ref6_Corrupt_spec n _) fun r19 k28 h => ?_
          refine W.guardT rfl c27 ?_
          refine cb h (ref5_Ints_spec n _ _) fun r20 k29 h => ?_
          refine aw h [2,5,2,2,3] ?_; intro h
          exact lf (!r20) h
         ·refine aw h [3,3,3,3,3,2,3,3] ?_; intro h
          exact lf false h
       ·refine aw h [3,3,3,2,3,3,1,2,8,2,8,2,5,2,1] ?_; intro h
        refine bs h (fun c30 h => ?_) fun c30 h => ?_
        ·refine aw h [2,1,2,1,2] ?_; intro h
         refine cb h (ref6_Corrupt_spec n _) fun r21 k31 h => ?_
         refine W.guardT rfl c30 ?_
         refine cb h (ref5_Ints_spec n _ _) fun r22 k32 h => ?_
         refine aw h [2,5,2,2,3] ?_; intro h
         exact lf (!r22) h
        ·refine aw h [3,3,3,3,3,2,3,3] ?_; intro h
         exact lf false h
     ·intro x6 h
      try dsimp only at h ⊢
      unfold law6_LockfileMatchesSpec_j2 at h
      refine bs h (fun c8 h => ?_) fun c8 h => ?_
      ·refine au h [2,1,1,1,1] ?_; intro h
       cases h
       exact ⟨_, rfl, .refl _⟩
      ·refine au h [3,1] ?_; intro h
       refine Ev.seqJ (γ := Int × Int) (fun v => ⟨[(0, lP a0), (1, lP a1), (5, wP 10300), (7, wP 10301)], [(10300, eP 26 2 [[iP v.1, iP v.2]]), (10301, eP 26 2 [[iP r5.2.Code, iP r5.2.Index]])], 2⟩) (fun v => law6_LockfileMatchesSpec_j3 n a0 a1 v.1 v.2 = some r) ?_ ?_
       ·refine Ev.seqJ (γ := Bool) (fun v => ⟨[(0, lP a0), (1, lP a1), (5, wP 10400), (7, wP 10401), (61, .bool v)], [(10400, eP 26 2 [[iP r3.Code, iP r3.Index]]), (10401, eP 26 2 [[iP r5.2.Code, iP r5.2.Index]])], 2⟩) (fun v => law6_LockfileMatchesSpec_j5 n a0 a1 r3 v = some r) ?_ ?_
        ·refine au h [1,8,8,5,1] ?_; intro h
         refine bs h (fun c22 h => ?_) fun c22 h => ?_
         ·refine aw h [2,1,2] ?_; intro h
          refine cb h (ref6_LockFault_spec n _) fun r18 k23 h => ?_
          refine aw h [2,5,2,5,2] ?_; intro h
          exact lf (decide (r18.Code ≠ 0)) h
         ·refine aw h [3,3,3,3,3] ?_; intro h
          exact lf false h
        ·intro x15 h
         try dsimp only at h ⊢
         unfold law6_LockfileMatchesSpec_j5 at h
         refine bs h (fun c19 h => ?_) fun c19 h => ?_
         ·refine au h [2,1,1] ?_; intro h
          refine cb h (ref6_LockFault_spec n _) fun r16 k20 h => ?_
          refine W.field rfl rfl ?_
          refine cb h (law6_fault_spec n _ _) fun r17 k21 h => ?_
          refine aw h [8] ?_; intro h
          exact lf (r17.Code, r17.Index) h
         ·refine au h [3,1] ?_; intro h
          exact lf (r3.Code, r3.Index) h
       ·intro ⟨b7, b8⟩ h
        try dsimp only at h ⊢
        unfold law6_LockfileMatchesSpec_j3 at h
        refine au h [1,1,1,1] ?_; intro h
        refine cb h (lockfile_Drift_spec n _ _) fun r9 k9 h => ?_
        refine aw h [1,5,5,1,8] ?_; intro h
        refine Ev.seqJ (γ := Bool) (fun v => ⟨[(4, .bool v)], [], 2⟩) (fun v => law6_LockfileMatchesSpec_j4 n v = some r) ?_ ?_
        ·refine au h [1,8,8,5,1] ?_; intro h
         refine bs h (fun c10 h => ?_) fun c10 h => ?_
         ·refine aw h [2,8,2,8,2,5,2,1] ?_; intro h
          refine bs h (fun c11 h => ?_) fun c11 h => ?_
          ·refine aw h [2,1,2,5,2,5,2,2,2,1] ?_; intro h
           refine bs h (fun c12 h => ?_) fun c12 h => ?_
           ·refine aw h [3,3,3,3,4,4,4,4,4,3,2,2,2,1] ?_; intro h
            exact lf true h
           ·refine aw h [2,8,2,8,2,5,2,1] ?_; intro h
            refine bs h (fun c13 h => ?_) fun c13 h => ?_
            ·refine aw h [2,1,2,1,2,1,2] ?_; intro h
             refine cb h (ref6_Drift_spec n _ _) fun r11 k14 h => ?_
             refine W.guardT rfl c13 ?_
             refine cb h (ref5_Ints_spec n _ _) fun r12 k15 h => ?_
             refine aw h [2,2,2,3,2,1] ?_; intro h
             exact lf r12 h
            ·refine aw h [3,3,3,3,3,2,3,2,3,2,1] ?_; intro h
             exact lf false h
          ·refine aw h [3,3,3,2,3,2,1,2,8,2,8,2,5,2,1] ?_; intro h
           refine bs h (fun c16 h => ?_) fun c16 h => ?_
           ·refine aw h [2,1,2,1,2,1,2] ?_; intro h
            refine cb h (ref6_Drift_spec n _ _) fun r13 k17 h => ?_
            refine W.guardT rfl c16 ?_
            refine cb h (ref5_Ints_spec n _ _) fun r14 k18 h => ?_
            refine aw h [2,2,2,3,2,1] ?_; intro h
            exact lf r14 h
           ·refine aw h [3,3,3,3,3,2,3,2,3,2,1] ?_; intro h
            exact lf false h
         ·refine aw h [3,3,3,3,4,4,4,3,3,4,4,4,4,4,4,4,4,4,4,3,3,1] ?_; intro h
          exact lf false h
        ·intro x10 h
         try dsimp only at h ⊢
         unfold law6_LockfileMatchesSpec_j4 at h
         refine Ev.ret ?_
         cases h
         exact ⟨_, rfl, .refl _⟩
theorem law6_vastNeeds_spec (n : Nat) (a0 : List SPackageRange) (r : Bool) (h : law6_vastNeeds n a0 = some r) : PSpec Tryz.prog 46 [lP a0] (.bool r) := by
 unfold law6_vastNeeds at h
 refine spec_of Tryz.c_law6_vastNeeds (by simp) ?_
 unfold Tryz.l_law6_vastNeeds
 refine au h [1,1,1,1,1,1,1,1] ?_; intro h
 refine Ev.loopW (β := Nat × Int) (fun v => ⟨[(0, lP a0), (3, iP v.2)], [], 2⟩) (fun v => law6_vastNeeds_l1 n a0 v.1 v.2 = some r) (fun v => v.1) (n, 0) (.nA) h ?_
 intro ⟨m1, x1⟩ h
 try dsimp only at h ⊢
 cases m1 with
 | zero => rw [law6_vastNeeds_l1] at h; cases h
 | succ m1 =>
  rw [law6_vastNeeds_l1] at h
  refine Ev.seq ?_
  refine Ev.seqJ (γ := Bool) (fun v => ⟨[(0, lP a0), (3, iP x1), (12, .bool v)], [], 2⟩) (fun v => law6_vastNeeds_j1 n a0 x1 (law6_vastNeeds_l1 n a0 m1) v = some r) ?_ ?_
  ·refine au h [1,1,1,5,5,1] ?_; intro h
   refine bs h (fun c10 h => ?_) fun c10 h => ?_
   ·refine aw h [2,1,2,5,2] ?_; intro h
    exact lf (decide (x1 < 20)) h
   ·refine aw h [3,3,3] ?_; intro h
    exact lf false h
  ·intro x2 h
   try dsimp only at h ⊢
   unfold law6_vastNeeds_j1 at h
   refine bs h (fun c1 h => ?_) fun c1 h => ?_
   ·refine au h [2,1,1,1,1,1,1,1,1,5,5,5,5,5,5] ?_; intro e3 k2 h
    refine bs h (fun c3 h => ?_) fun c3 h => ?_
    ·refine au h [2,1,1,1,1] ?_; intro h
     cases h
     exact ⟨_, rfl, .refl _⟩
    ·refine au h [3,1,1,1,1,1] ?_; intro h
     refine Ev.loopW (β := Nat × Int) (fun v => ⟨[(0, lP a0), (3, iP x1), (4, iP v.2)], [], 2⟩) (fun v => law6_vastNeeds_l2 n x1 (law6_vastNeeds_l1 n a0 m1) e3 v.1 v.2 = some r) (fun v => v.1) (n, 0) (.nA) h ?_
     intro ⟨m2, x4⟩ h
     try dsimp only at h ⊢
     cases m2 with
     | zero => rw [law6_vastNeeds_l2] at h; cases h
     | succ m2 =>
      rw [law6_vastNeeds_l2] at h
      refine au h [1,1,1,1,1,1,6,5,5,5,5,5] ?_; intro h
      refine bs h (fun c4 h => ?_) fun c4 h => ?_
      ·refine au h [2,1,1,1] ?_; intro h
       refine Ev.seqJ (γ := Bool) (fun v => ⟨[(0, lP a0), (3, iP x1), (4, iP x4), (61, .bool v)], [], 2⟩) (fun v => law6_vastNeeds_j2 n x4 (law6_vastNeeds_l2 n x1 (law6_vastNeeds_l1 n a0 m1) e3 m2) v = some r) ?_ ?_
       ·refine au h [1,1,1,6,5,5,5,1,5,5,5,5,5,5,1] ?_; intro e7 k7 h
        refine bs h (fun c8 h => ?_) fun c8 h => ?_
        ·refine aw h [3,3,3,3,3,3,3,3,3,3,3,3,3,2] ?_; intro h
         exact lf true h
        ·refine aw h [2,1,2,1,2,6,2,5,2,5,2,5,2,1,2,6,2,5,2,5,2,5,2,5,2,5,3] ?_; intro h
         exact lf (decide (40 < (e7.High.Pre.length : Int))) h
       ·intro x5 h
        try dsimp only at h ⊢
        unfold law6_vastNeeds_j2 at h
        refine bs h (fun c5 h => ?_) fun c5 h => ?_
        ·refine au h [2,1,1,1,1] ?_; intro h
         cases h
         exact ⟨_, rfl, .refl _⟩
        ·refine au h [3,1,1,1,7,1] ?_; intro x6 k6 h
         exact lb (m2, x6) h
      ·refine au h [3,1,1,1,7,1] ?_; intro x8 k9 h
       exact lb (m1, x8) h
   ·refine au h [3,1,1,1,1,5,5,1,1] ?_; intro h
    cases h
    exact ⟨_, rfl, .refl _⟩
theorem law6_vast_spec (n : Nat) (a0 : SPackages) (a1 : List SPackageRange) (r : Bool) (h : law6_vast n a0 a1 = some r) : PSpec Tryz.prog 19 [.agg (SPackages.cells a0), lP a1] (.bool r) := by
 unfold law6_vast at h
 refine spec_of Tryz.c_law6_vast (by simp) ?_
 unfold Tryz.l_law6_vast
 refine au h [1,1,5,1,1,1,1,1,1] ?_; intro h
 refine Ev.loopW (β := Nat × Int) (fun v => ⟨[(1, lP a1), (2, wP 10100), (5, iP v.2)], [(10100, eP 39 1 [[lP a0.Packages]])], 2⟩) (fun v => law6_vast_l1 n a0 a1 v.1 v.2 = some r) (fun v => v.1) (n, 0) (.nA) h ?_
 intro ⟨m1, x1⟩ h
 try dsimp only at h ⊢
 cases m1 with
 | zero => rw [law6_vast_l1] at h; cases h
 | succ m1 =>
  rw [law6_vast_l1] at h
  refine Ev.seq ?_
  refine Ev.seqJ (γ := Bool) (fun v => ⟨[(1, lP a1), (2, wP 10200), (5, iP x1), (15, .bool v)], [(10200, eP 39 1 [[lP a0.Packages]])], 2⟩) (fun v => law6_vast_j1 n a0 a1 x1 (law6_vast_l1 n a0 a1 m1) v = some r) ?_ ?_
  ·refine au h [1,1,8,8,5,5,1] ?_; intro h
   refine bs h (fun c13 h => ?_) fun c13 h => ?_
   ·refine aw h [2,1,2,5,2] ?_; intro h
    exact lf (decide (x1 < 20)) h
   ·refine aw h [3,3,3] ?_; intro h
    exact lf false h
  ·intro x2 h
   try dsimp only at h ⊢
   unfold law6_vast_j1 at h
   refine bs h (fun c1 h => ?_) fun c1 h => ?_
   ·refine au h [2,1,1,1,1,1,1,8,8,1,5,5,5,5] ?_; intro e3 k2 h
    refine bs h (fun c3 h => ?_) fun c3 h => ?_
    ·refine au h [2,1,1,1,1] ?_; intro h
     cases h
     exact ⟨_, rfl, .refl _⟩
    ·refine au h [3,1,1,1,1,1] ?_; intro h
     refine Ev.loopW (β := Nat × Int) (fun v => ⟨[(1, lP a1), (2, wP 10300), (5, iP x1), (6, iP v.2)], [(10300, eP 39 1 [[lP a0.Packages]])], 2⟩) (fun v => law6_vast_l2 n x1 (law6_vast_l1 n a0 a1 m1) e3 v.1 v.2 = some r) (fun v => v.1) (n, 0) (.nA) h ?_
     intro ⟨m2, x4⟩ h
     try dsimp only at h ⊢
     cases m2 with
     | zero => rw [law6_vast_l2] at h; cases h
     | succ m2 =>
      rw [law6_vast_l2] at h
      refine au h [1,1,1,1,8,8,1,6,5,5,5] ?_; intro h
      refine bs h (fun c4 h => ?_) fun c4 h => ?_
      ·refine au h [2,1,1,1] ?_; intro h
       refine Ev.seqJ (γ := Bool) (fun v => ⟨[(1, lP a1), (2, wP 10400), (5, iP x1), (6, iP x4), (58, .bool v)], [(10400, eP 39 1 [[lP a0.Packages]])], 2⟩) (fun v => law6_vast_j2 n x4 (law6_vast_l2 n x1 (law6_vast_l1 n a0 a1 m1) e3 m2) v = some r) ?_ ?_
       ·refine au h [1,8,8,1,6,5,1,5,5,5,5,5,5,1] ?_; intro e7 k7 h
        refine bs h (fun c8 h => ?_) fun c8 h => ?_
        ·refine aw h [3,3,3,3,3,3,3,3,3,3,2] ?_; intro h
         exact lf true h
        ·refine aw h [2,8,2,8,2,1,2,6,2,5,2,1,2,6,2,5,2,5,2] ?_; intro h
         refine cb h (law6_vastNeeds_spec n _) fun r8 k9 h => ?_
         refine aw h [3] ?_; intro h
         exact lf r8 h
       ·intro x5 h
        try dsimp only at h ⊢
        unfold law6_vast_j2 at h
        refine bs h (fun c5 h => ?_) fun c5 h => ?_
        ·refine au h [2,1,1,1,1] ?_; intro h
         cases h
         exact ⟨_, rfl, .refl _⟩
        ·refine au h [3,1,1,1,7,1] ?_; intro x6 k6 h
         exact lb (m2, x6) h
      ·refine au h [3,1,1,1,7,1] ?_; intro x9 k10 h
       exact lb (m1, x9) h
   ·refine au h [3,1] ?_; intro h
    refine Ev.seqJ (γ := Bool) (fun v => ⟨[(4, .bool v)], [], 2⟩) (fun v => law6_vast_j3 n v = some r) ?_ ?_
    ·refine au h [1,8,8,5,5,1] ?_; intro h
     refine bs h (fun c11 h => ?_) fun c11 h => ?_
     ·refine aw h [3,3,2,1] ?_; intro h
      exact lf true h
     ·refine aw h [2,1,2] ?_; intro h
      refine cb h (law6_vastNeeds_spec n _) fun r11 k12 h => ?_
      refine aw h [3,1] ?_; intro h
      exact lf r11 h
    ·intro x10 h
     try dsimp only at h ⊢
     unfold law6_vast_j3 at h
     refine Ev.ret ?_
     cases h
     exact ⟨_, rfl, .refl _⟩
theorem ref5_Sign3_spec (n : Nat) (a0 : Int) (a1 : Int) (r : Int) (h : ref5_Sign3 n a0 a1 = some r) : PSpec Tryz.prog 89 [iP a0, iP a1] (iP r) := by
 unfold ref5_Sign3 at h
 refine spec_of Tryz.c_ref5_Sign3 (by simp) ?_
 unfold Tryz.l_ref5_Sign3
 refine au h [1,1,1,1,1,1,1,1,5] ?_; intro h
 refine bs h (fun c1 h => ?_) fun c1 h => ?_
 ·refine au h [2,1,1,1,1] ?_; intro h
  cases h
  exact ⟨_, rfl, .refl _⟩
 ·refine au h [3,1,1,1,1,1,1,5] ?_; intro h
  refine bs h (fun c2 h => ?_) fun c2 h => ?_
  ·refine au h [2,1,1,1,1] ?_; intro h
   cases h
   exact ⟨_, rfl, .refl _⟩
  ·refine au h [3,1,1,1,1,1] ?_; intro h
   cases h
   exact ⟨_, rfl, .refl _⟩
theorem ref5_value_spec (n : Nat) (a0 : List UInt8) (r : Int) (h : ref5_value n a0 = some r) : PSpec Tryz.prog 104 [.str a0] (iP r) := by
 unfold ref5_value at h
 refine spec_of Tryz.c_ref5_value (by simp) ?_
 unfold Tryz.l_ref5_value
 refine au h [1,1,1,1,1,1,1,1,1,1,1] ?_; intro h
 refine Ev.loopW (β := Nat × Int × Int) (fun v => ⟨[(0, .str a0), (3, iP v.2.1), (4, iP v.2.2)], [], 2⟩) (fun v => ref5_value_l1 n a0 v.1 v.2.1 v.2.2 = some r) (fun v => v.1) (n, 0, 0) (.nA) h ?_
 intro ⟨m1, x1, x2⟩ h
 try dsimp only at h ⊢
 cases m1 with
 | zero => rw [ref5_value_l1] at h; cases h
 | succ m1 =>
  rw [ref5_value_l1] at h
  refine au h [1,1,1,1,1,5,5] ?_; intro h
  refine bs h (fun c1 h => ?_) fun c1 h => ?_
  ·refine au h [2,1,1,1,1,1,7,1,1,5] ?_; intro x3 k2 y4 k3 h
   refine W.bin (z := .int .u8 (ksub .u8 (y4.toNat : Int) 48)) rfl rfl rfl ?_
   refine ax 20 h [5,7,1,1,1,7,1] ?_; intro x5 k4 x6 k5 h
   exact lb (m1, x5, x6) h
  ·refine au h [3,1,1,1,1,1,1] ?_; intro h
   cases h
   exact ⟨_, rfl, .refl _⟩
end Go.Proofs.YtpcmhhbocifbcaaGreatDoor
namespace Go.Proofs.YtpcmhhbocifbcaaGreatDoor
open Go.PW Go
theorem ref5_identifiers_spec (n : Nat) (a0 : List UInt8) (a1 : List UInt8) (r : Int) (h : ref5_identifiers n a0 a1 = some r) : PSpec Tryz.prog 90 [.str a0, .str a1] (iP r) := by
 unfold ref5_identifiers at h
 refine spec_of Tryz.c_ref5_identifiers (by simp) ?_
 unfold Tryz.l_ref5_identifiers
 refine au h [1,1,1,1] ?_; intro h
 refine Ev.seqJ (γ := Bool) (fun v => ⟨[(0, .str a0), (1, .str a1), (11, .bool v)], [], 2⟩) (fun v => ref5_identifiers_j1 n a0 a1 v = some r) ?_ ?_
 ·refine au h [1,1] ?_; intro h
  refine cb h (ref5_Numeric_spec n _) fun r16 k19 h => ?_
  refine W.mv rfl ?_
  refine bs h (fun c20 h => ?_) fun c20 h => ?_
  ·refine aw h [2,1,2] ?_; intro h
   refine cb h (ref5_Numeric_spec n _) fun r17 k21 h => ?_
   refine aw h [2] ?_; intro h
   exact lf r17 h
  ·refine aw h [3,3,3] ?_; intro h
   exact lf false h
 ·intro x1 h
  try dsimp only at h ⊢
  unfold ref5_identifiers_j1 at h
  refine bs h (fun c1 h => ?_) fun c1 h => ?_
  ·refine au h [2,1,1,1] ?_; intro h
   refine cb h (ref5_value_spec n _) fun r2 k2 h => ?_
   refine W.mv rfl ?_
   refine cb h (ref5_value_spec n _) fun r3 k3 h => ?_
   refine cb h (ref5_Sign3_spec n _ _) fun r4 k4 h => ?_
   refine ax 54 h [1,1] ?_; intro h
   cases h
   exact ⟨_, rfl, .refl _⟩
  ·refine au h [3,1,1,1,1,1] ?_; intro h
   refine cb h (ref5_Numeric_spec n _) fun r5 k5 h => ?_
   refine W.nil ?_
   refine bs h (fun c6 h => ?_) fun c6 h => ?_
   ·refine au h [2,1,1,1,1] ?_; intro h
    cases h
    exact ⟨_, rfl, .refl _⟩
   ·refine au h [3,1,1,1,1,1] ?_; intro h
    refine cb h (ref5_Numeric_spec n _) fun r6 k7 h => ?_
    refine W.nil ?_
    refine bs h (fun c8 h => ?_) fun c8 h => ?_
    ·refine au h [2,1,1,1,1] ?_; intro h
     cases h
     exact ⟨_, rfl, .refl _⟩
    ·refine au h [3,1,1,1,1,1,1] ?_; intro h
     refine Ev.loopW (β := Nat × Int) (fun v => ⟨[(0, .str a0), (1, .str a1), (5, iP v.2)], [], 2⟩) (fun v => ref5_identifiers_l1 n a0 a1 v.1 v.2 = some r) (fun v => v.1) (n, 0) (.nA) h ?_
     intro ⟨m1, x7⟩ h
     try dsimp only at h ⊢
     cases m1 with
     | zero => rw [ref5_identifiers_l1] at h; cases h
     | succ m1 =>
      rw [ref5_identifiers_l1] at h
      refine Ev.seq ?_
      refine Ev.seqJ (γ := Bool) (fun v => ⟨[(0, .str a0), (1, .str a1), (5, iP x7), (30, .bool v)], [], 2⟩) (fun v => ref5_identifiers_j2 n a0 a1 x7 (ref5_identifiers_l1 n a0 a1 m1) v = some r) ?_ ?_
      ·refine au h [1,1,1,5,5,1] ?_; intro h
       refine bs h (fun c18 h => ?_) fun c18 h => ?_
       ·refine aw h [2,1,2,1,2,5,2,5,2] ?_; intro h
        exact lf (decide (x7 < (a1.length : Int))) h
       ·refine aw h [3,3,3,3,3] ?_; intro h
        exact lf false h
      ·intro x8 h
       try dsimp only at h ⊢
       unfold ref5_identifiers_j2 at h
       refine bs h (fun c9 h => ?_) fun c9 h => ?_
       ·refine au h [2,1,1,1,1,1,1,1,5,1,1,5,5] ?_; intro y9 k10 y10 k11 h
        refine bs h (fun c12 h => ?_) fun c12 h => ?_
        ·refine au h [2,1,1,1,1,5,5,1,1,5,5] ?_; intro y11 k13 y12 k14 h
         refine cb h (ref5_Sign3_spec n _ _) fun r13 k15 h => ?_
         refine ax 54 h [1,1] ?_; intro h
         cases h
         exact ⟨_, rfl, .refl _⟩
        ·refine au h [3,1,1,1,7,1] ?_; intro x14 k16 h
         exact lb (m1, x14) h
       ·refine au h [3,1,1,1,1,5,1,5] ?_; intro h
        refine cb h (ref5_Sign3_spec n _ _) fun r15 k17 h => ?_
        refine ax 54 h [1,1] ?_; intro h
        cases h
        exact ⟨_, rfl, .refl _⟩
theorem ref5_VersionOrder_spec (n : Nat) (a0 : SMajorMinorPatchPre) (a1 : SMajorMinorPatchPre) (r : Int) (h : ref5_VersionOrder n a0 a1 = some r) : PSpec Tryz.prog 72 [.agg (SMajorMinorPatchPre.cells a0), .agg (SMajorMinorPatchPre.cells a1)] (iP r) := by
 unfold ref5_VersionOrder at h
 refine spec_of Tryz.c_ref5_VersionOrder (by simp) ?_
 unfold Tryz.l_ref5_VersionOrder
 refine au h [1,1,5,5,1,1,1,1,8,8,8,8,5] ?_; intro h
 refine bs h (fun c1 h => ?_) fun c1 h => ?_
 ·refine au h [2,1,1,8,8,8,8] ?_; intro h
  refine cb h (ref5_Sign3_spec n _ _) fun r1 k2 h => ?_
  refine ax 98 h [1,1] ?_; intro h
  cases h
  exact ⟨_, rfl, .refl _⟩
 ·refine au h [3,1,1,1,1,8,8,8,8,5] ?_; intro h
  refine bs h (fun c3 h => ?_) fun c3 h => ?_
  ·refine au h [2,1,1,8,8,8,8] ?_; intro h
   refine cb h (ref5_Sign3_spec n _ _) fun r2 k4 h => ?_
   refine ax 98 h [1,1] ?_; intro h
   cases h
   exact ⟨_, rfl, .refl _⟩
  ·refine au h [3,1,1,1,1,8,8,8,8,5] ?_; intro h
   refine bs h (fun c5 h => ?_) fun c5 h => ?_
   ·refine au h [2,1,1,8,8,8,8] ?_; intro h
    refine cb h (ref5_Sign3_spec n _ _) fun r3 k6 h => ?_
    refine ax 98 h [1,1] ?_; intro h
    cases h
    exact ⟨_, rfl, .refl _⟩
   ·refine au h [3,1,1] ?_; intro h
    refine Ev.seqJ (γ := Bool) (fun v => ⟨[(2, wP 10100), (3, wP 10101), (46, .bool v)], [(10100, eP 60 4 [[iP a0.Major, iP a0.Minor, iP a0.Patch, lP a0.Pre]]), (10101, eP 60 4 [[iP a1.Major, iP a1.Minor, iP a1.Patch, lP a1.Pre]])], 2⟩) (fun v => ref5_VersionOrder_j1 n a0 a1 v = some r) ?_ ?_
    ·refine au h [1,8,8,5,5,1] ?_; intro h
     refine bs h (fun c20 h => ?_) fun c20 h => ?_
     ·refine aw h [3,3,3,3,2] ?_; intro h
      exact lf true h
     ·refine aw h [2,8,2,8,2,5,2,5,3] ?_; intro h
      exact lf (decide ((a1.Pre.length : Int) = 0)) h
    ·intro x4 h
     try dsimp only at h ⊢
     unfold ref5_VersionOrder_j1 at h
     refine bs h (fun c7 h => ?_) fun c7 h => ?_
     ·refine au h [2,1,1,8,8,5,8,8,5] ?_; intro h
      refine cb h (ref5_Sign3_spec n _ _) fun r5 k8 h => ?_
      refine aw h [8,8,5,8,8,5,7] ?_; intro x6 k9 h
      refine cb h (ref5_Sign3_spec n _ _) fun r7 k10 h => ?_
      refine ax 98 h [7,1,1] ?_; intro x8 k11 h
      cases h
      exact ⟨_, rfl, .refl _⟩
     ·refine au h [3,1,1,1,1,1,1] ?_; intro h
      refine Ev.loopW (β := Nat × Int) (fun v => ⟨[(2, wP 10200), (3, wP 10201), (5, iP v.2)], [(10200, eP 60 4 [[iP a0.Major, iP a0.Minor, iP a0.Patch, lP a0.Pre]]), (10201, eP 60 4 [[iP a1.Major, iP a1.Minor, iP a1.Patch, lP a1.Pre]])], 2⟩) (fun v => ref5_VersionOrder_l1 n a0 a1 v.1 v.2 = some r) (fun v => v.1) (n, 0) (.nA) h ?_
      intro ⟨m1, x9⟩ h
      try dsimp only at h ⊢
      cases m1 with
      | zero => rw [ref5_VersionOrder_l1] at h; cases h
      | succ m1 =>
       rw [ref5_VersionOrder_l1] at h
       refine Ev.seq ?_
       refine Ev.seqJ (γ := Bool) (fun v => ⟨[(2, wP 10300), (3, wP 10301), (5, iP x9), (74, .bool v)], [(10300, eP 60 4 [[iP a0.Major, iP a0.Minor, iP a0.Patch, lP a0.Pre]]), (10301, eP 60 4 [[iP a1.Major, iP a1.Minor, iP a1.Patch, lP a1.Pre]])], 2⟩) (fun v => ref5_VersionOrder_j2 n a0 a1 x9 (ref5_VersionOrder_l1 n a0 a1 m1) v = some r) ?_ ?_
       ·refine au h [1,1,8,8,5,5,1] ?_; intro h
        refine bs h (fun c19 h => ?_) fun c19 h => ?_
        ·refine aw h [2,1,2,8,2,8,2,5,2,5,2] ?_; intro h
         exact lf (decide (x9 < (a1.Pre.length : Int))) h
        ·refine aw h [3,3,3,3,3,3] ?_; intro h
         exact lf false h
       ·intro x10 h
        try dsimp only at h ⊢
        unfold ref5_VersionOrder_j2 at h
        refine bs h (fun c12 h => ?_) fun c12 h => ?_
        ·refine au h [2,1,1,1,1,1,8,8,1,5,5,8,8,1,5,5] ?_; intro e11 k13 e12 k14 h
         refine cb h (ref5_identifiers_spec n _ _) fun r13 k15 h => ?_
         refine ax 98 h [1,1,1,1,5] ?_; intro h
         refine bs h (fun c16 h => ?_) fun c16 h => ?_
         ·refine au h [2,1,1,1,1,1] ?_; intro h
          cases h
          exact ⟨_, rfl, .refl _⟩
         ·refine au h [3,1,1,1,7,1] ?_; intro x14 k17 h
          exact lb (m1, x14) h
        ·refine au h [3,1,1,1,8,8,5,8,8,5] ?_; intro h
         refine cb h (ref5_Sign3_spec n _ _) fun r15 k18 h => ?_
         refine ax 98 h [1,1] ?_; intro h
         cases h
         exact ⟨_, rfl, .refl _⟩
theorem ref5_RangeFault_spec (n : Nat) (a0 : SIntervals) (r : SCodeIndex) (h : ref5_RangeFault n a0 = some r) : PSpec Tryz.prog 91 [.agg (SIntervals.cells a0)] (.agg (SCodeIndex.cells r)) := by
 unfold ref5_RangeFault at h
 refine spec_of Tryz.c_ref5_RangeFault (by simp) ?_
 unfold Tryz.l_ref5_RangeFault
 refine au h [1,1,5,5,1,1,1,8,8,5,5] ?_; intro h
 refine bs h (fun c1 h => ?_) fun c1 h => ?_
 ·refine au h [2,1,1] ?_; intro h
  refine cb h (ref5_fault_spec n _ _) fun r1 k2 h => ?_
  refine ax 92 h [8,1] ?_; intro h
  cases h
  exact ⟨_, rfl, .refl _⟩
 ·refine au h [3,1,1,1,1,1,1] ?_; intro h
  refine Ev.loopW (β := Nat × Int) (fun v => ⟨[(1, wP 10100), (2, wP 10101), (3, iP v.2)], [(10100, eP 93 1 [[lP a0.Intervals]]), (10101, eP 26 2 [[iP 0, iP 0]])], 2⟩) (fun v => ref5_RangeFault_l1 n a0 v.1 v.2 = some r) (fun v => v.1) (n, 0) (.nA) h ?_
  intro ⟨m1, x2⟩ h
  try dsimp only at h ⊢
  cases m1 with
  | zero => rw [ref5_RangeFault_l1] at h; cases h
  | succ m1 =>
   rw [ref5_RangeFault_l1] at h
   refine au h [1,1,1,1,8,8,5,5] ?_; intro h
   refine bs h (fun c3 h => ?_) fun c3 h => ?_
   ·refine au h [2,1,1,1,1,1,8,8,1,5,5,5,8,1,1,8,8] ?_; intro e3 k4 h
    refine cb h (ref5_VersionFault_spec n _) fun r4 k5 h => ?_
    refine ax 92 h [5,8,1,1,1,8,8,5] ?_; intro h
    refine bs h (fun c6 h => ?_) fun c6 h => ?_
    ·refine au h [2,1,1,8,8,1] ?_; intro h
     refine cb h (ref5_fault_spec n _ _) fun r5 k7 h => ?_
     refine ax 92 h [8,1] ?_; intro h
     cases h
     exact ⟨_, rfl, .refl _⟩
    ·refine au h [3,1,1] ?_; intro h
     refine Ev.seqJ (γ := Bool) (fun v => ⟨[(1, wP 10200), (2, wP 10201), (3, iP x2), (4, wP 10202), (5, wP 10203), (41, .bool v)], [(10200, eP 93 1 [[lP a0.Intervals]]), (10201, eP 26 2 [[iP 0, iP 0]]), (10202, eP 109 9 [[iP e3.Low.Major, iP e3.Low.Minor, iP e3.Low.Patch, lP e3.Low.Pre, iP e3.High.Major, iP e3.High.Minor, iP e3.High.Patch, lP e3.High.Pre, .bool e3.Unbounded]]), (10203, eP 26 2 [[iP r4.Code, iP r4.Index]])], 2⟩) (fun v => ref5_RangeFault_j1 n a0 x2 (ref5_RangeFault_l1 n a0 m1) e3 v = some r) ?_ ?_
     ·refine au h [1,8,8,1] ?_; intro h
      refine bs h (fun c27 h => ?_) fun c27 h => ?_
      ·refine aw h [2,8,2,8,2,5,2] ?_; intro h
       obtain ⟨r20, k28, h⟩ := obind h
       refine W.call (ref5_SameVersion_spec n (⟨e3.High.Major, e3.High.Minor, e3.High.Patch, e3.High.Pre⟩ : SMajorMinorPatchPre) (⟨0, 0, 0, ([] : List (List UInt8))⟩ : SMajorMinorPatchPre) r20 k28) rfl rfl (.cons (.refl _) (.cons (Le.aggs (.cons (.refl _) (.cons (.refl _) (.cons (.refl _) (.cons (.nils 1) (.nil))))) rfl) (.nil))) rfl (.inl rfl) rfl ?_
       refine aw h [2,5,2] ?_; intro h
       exact lf (!r20) h
      ·refine aw h [3,3,3,3,3,3] ?_; intro h
       exact lf false h
     ·intro x6 h
      try dsimp only at h ⊢
      unfold ref5_RangeFault_j1 at h
      refine bs h (fun c8 h => ?_) fun c8 h => ?_
      ·refine au h [2,1,1,1] ?_; intro h
       refine cb h (ref5_fault_spec n _ _) fun r7 k9 h => ?_
       refine ax 92 h [8,1] ?_; intro h
       cases h
       exact ⟨_, rfl, .refl _⟩
      ·refine au h [3,1] ?_; intro h
       refine Ev.seqJ (γ := Unit) (fun v => ⟨[(1, wP 10300), (2, wP 10301), (3, iP x2), (4, wP 10302)], [(10300, eP 93 1 [[lP a0.Intervals]]), (10301, eP 26 2 [[iP 0, iP 0]]), (10302, eP 109 9 [[iP e3.Low.Major, iP e3.Low.Minor, iP e3.Low.Patch, lP e3.Low.Pre, iP e3.High.Major, iP e3.High.Minor, iP e3.High.Patch, lP e3.High.Pre, .bool e3.Unbounded]])], 2⟩) (fun v => ref5_RangeFault_j2 n a0 x2 (ref5_RangeFault_l1 n a0 m1) e3 = some r) ?_ ?_
       ·refine au h [1,1,8,8,5] ?_; intro h
        refine bs h (fun c20 h => ?_) fun c20 h => ?_
        ·refine au h [2,1,1,8,8] ?_; intro h
         refine cb h (ref5_VersionFault_spec n _) fun r16 k21 h => ?_
         refine ax 92 h [8,1,1,1,8,8,5] ?_; intro h
         refine bs h (fun c22 h => ?_) fun c22 h => ?_
         ·refine au h [2,1,1,8,8,1] ?_; intro h
          refine cb h (ref5_fault_spec n _ _) fun r17 k23 h => ?_
          refine ax 92 h [8,1] ?_; intro h
          cases h
          exact ⟨_, rfl, .refl _⟩
         ·refine au h [3,1,1,1,8,8,8,8] ?_; intro h
          refine cb h (ref5_VersionOrder_spec n _ _) fun r18 k24 h => ?_
          refine aw h [5] ?_; intro h
          refine bs h (fun c25 h => ?_) fun c25 h => ?_
          ·refine au h [2,1,1,1] ?_; intro h
           refine cb h (ref5_fault_spec n _ _) fun r19 k26 h => ?_
           refine ax 92 h [8,1] ?_; intro h
           cases h
           exact ⟨_, rfl, .refl _⟩
          ·refine au h [3,1] ?_; intro h
           exact lf () h
        ·refine au h [3,1] ?_; intro h
         exact lf () h
       ·intro _ h
        try dsimp only at h ⊢
        unfold ref5_RangeFault_j2 at h
        refine Ev.seqJ (γ := Bool) (fun v => ⟨[(1, wP 10400), (2, wP 10401), (3, iP x2), (88, .bool v)], [(10400, eP 93 1 [[lP a0.Intervals]]), (10401, eP 26 2 [[iP 0, iP 0]])], 2⟩) (fun v => ref5_RangeFault_j3 n x2 (ref5_RangeFault_l1 n a0 m1) v = some r) ?_ ?_
        ·refine au h [1,1,5,1] ?_; intro h
         refine bs h (fun c13 h => ?_) fun c13 h => ?_
         ·refine aw h [2,8,2,8,2,1,2,7,2,5,2,5,2,5,2,1] ?_; intro x11 k14 e12 k15 h
          refine bs h (fun c16 h => ?_) fun c16 h => ?_
          ·refine aw h [3,3,3,3,3,3,3,3,3,3,3,2,2,2] ?_; intro h
           exact lf true h
          ·refine aw h [2,8,2,8,2,1,2,7,2,5,2,5,2,5,2,8,2,8,2] ?_; intro x13 k17 e14 k18 h
           refine cb h (ref5_VersionOrder_spec n _ _) fun r15 k19 h => ?_
           refine aw h [2,5,2,3,2] ?_; intro h
           exact lf (decide (0 ≤ r15)) h
         ·refine aw h [3,3,3,3,3,3,3,3,4,4,4,4,4,4,4,4,4,4,4,3,3] ?_; intro h
          exact lf false h
        ·intro x8 h
         try dsimp only at h ⊢
         unfold ref5_RangeFault_j3 at h
         refine bs h (fun c10 h => ?_) fun c10 h => ?_
         ·refine au h [2,1,1,1] ?_; intro h
          refine cb h (ref5_fault_spec n _ _) fun r9 k11 h => ?_
          refine ax 92 h [8,1] ?_; intro h
          cases h
          exact ⟨_, rfl, .refl _⟩
         ·refine au h [3,1,1,1,7,1] ?_; intro x10 k12 h
          exact lb (m1, x10) h
   ·refine au h [3,1,1,1,5,8,1] ?_; intro h
    cases h
    exact ⟨_, rfl, .refl _⟩
theorem ref5_NeedsCode_spec (n : Nat) (a0 : Int) (a1 : List SPackageRange) (r : Int) (h : ref5_NeedsCode n a0 a1 = some r) : PSpec Tryz.prog 73 [iP a0, lP a1] (iP r) := by
 unfold ref5_NeedsCode at h
 refine spec_of Tryz.c_ref5_NeedsCode (by simp) ?_
 unfold Tryz.l_ref5_NeedsCode
 refine au h [1,1,1,1,1,1,1,5,5] ?_; intro h
 refine bs h (fun c1 h => ?_) fun c1 h => ?_
 ·refine au h [2,1,1,1,1] ?_; intro h
  cases h
  exact ⟨_, rfl, .refl _⟩
 ·refine au h [3,1,1,1,1,1,1] ?_; intro h
  refine Ev.loopW (β := Nat × Int) (fun v => ⟨[(0, iP a0), (1, lP a1), (5, iP v.2)], [], 2⟩) (fun v => ref5_NeedsCode_l1 n a0 a1 v.1 v.2 = some r) (fun v => v.1) (n, 0) (.nA) h ?_
  intro ⟨m1, x1⟩ h
  try dsimp only at h ⊢
  cases m1 with
  | zero => rw [ref5_NeedsCode_l1] at h; cases h
  | succ m1 =>
   rw [ref5_NeedsCode_l1] at h
   refine au h [1,1,1,1,1,5,5] ?_; intro h
   refine bs h (fun c2 h => ?_) fun c2 h => ?_
   ·refine au h [2,1,1,1,1,1,1,1,1,5,5,5,1,7] ?_; intro e2 k3 x3 k4 h
    refine cb h (ref5_in_spec n _ _ _) fun r4 k5 h => ?_
    refine aw h [5] ?_; intro h
    refine bs h (fun c6 h => ?_) fun c6 h => ?_
    ·refine au h [2,1,1,1,1] ?_; intro h
     cases h
     exact ⟨_, rfl, .refl _⟩
    ·refine au h [3,1,1,1,1,1,6,5,5] ?_; intro h
     refine cb h (ref5_RangeFault_spec n _) fun r5 k7 h => ?_
     refine ax 52 h [5,8,1,1,1,8,8,5] ?_; intro h
     refine bs h (fun c8 h => ?_) fun c8 h => ?_
     ·refine au h [2,1,1,8,8,1,1] ?_; intro h
      cases h
      exact ⟨_, rfl, .refl _⟩
     ·refine au h [3,1] ?_; intro h
      refine Ev.seqJ (γ := Bool) (fun v => ⟨[(0, iP a0), (1, lP a1), (5, iP x1), (51, .bool v)], [], 2⟩) (fun v => ref5_NeedsCode_j1 n x1 (ref5_NeedsCode_l1 n a0 a1 m1) v = some r) ?_ ?_
      ·refine au h [1,1,5,1] ?_; intro h
       refine bs h (fun c11 h => ?_) fun c11 h => ?_
       ·refine aw h [2,1,2,1,2,6,2,5,2,5,2,1,2,1,2,7,2,5,2,5,2,5,2,5,2] ?_; intro x8 k12 e9 k13 h
        exact lf (decide (e2.Package ≤ e9.Package)) h
       ·refine aw h [3,3,3,3,3,3,3,3,3,3,3,3,3] ?_; intro h
        exact lf false h
      ·intro x6 h
       try dsimp only at h ⊢
       unfold ref5_NeedsCode_j1 at h
       refine bs h (fun c9 h => ?_) fun c9 h => ?_
       ·refine au h [2,1,1,1,1] ?_; intro h
        cases h
        exact ⟨_, rfl, .refl _⟩
       ·refine au h [3,1,1,1,7,1] ?_; intro x7 k10 h
        exact lb (m1, x7) h
   ·refine au h [3,1,1,1,1,1] ?_; intro h
    cases h
    exact ⟨_, rfl, .refl _⟩
theorem ref5_ReleasesCode_spec (n : Nat) (a0 : Int) (a1 : List SVersionNeeds) (r : Int) (h : ref5_ReleasesCode n a0 a1 = some r) : PSpec Tryz.prog 48 [iP a0, lP a1] (iP r) := by
 unfold ref5_ReleasesCode at h
 refine spec_of Tryz.c_ref5_ReleasesCode (by simp) ?_
 unfold Tryz.l_ref5_ReleasesCode
 refine au h [1,1,1,1,1,1,1,5,5] ?_; intro h
 refine bs h (fun c1 h => ?_) fun c1 h => ?_
 ·refine au h [2,1,1,1,1] ?_; intro h
  cases h
  exact ⟨_, rfl, .refl _⟩
 ·refine au h [3,1,1,1,1,1,1] ?_; intro h
  refine Ev.loopW (β := Nat × Int) (fun v => ⟨[(0, iP a0), (1, lP a1), (5, iP v.2)], [], 2⟩) (fun v => ref5_ReleasesCode_l1 n a0 a1 v.1 v.2 = some r) (fun v => v.1) (n, 0) (.nA) h ?_
  intro ⟨m1, x1⟩ h
  try dsimp only at h ⊢
  cases m1 with
  | zero => rw [ref5_ReleasesCode_l1] at h; cases h
  | succ m1 =>
   rw [ref5_ReleasesCode_l1] at h
   refine au h [1,1,1,1,1,5,5] ?_; intro h
   refine bs h (fun c2 h => ?_) fun c2 h => ?_
   ·refine au h [2,1,1,1,1,1,1,1,5,5,5] ?_; intro e2 k3 h
    refine cb h (ref5_VersionFault_spec n _) fun r3 k4 h => ?_
    refine ax 55 h [5,8,1,1,1,8,8,5] ?_; intro h
    refine bs h (fun c5 h => ?_) fun c5 h => ?_
    ·refine au h [2,1,1,8,8,1,1] ?_; intro h
     cases h
     exact ⟨_, rfl, .refl _⟩
    ·refine au h [3,1,1] ?_; intro h
     refine Ev.seqJ (γ := Bool) (fun v => ⟨[(0, iP a0), (1, lP a1), (5, iP x1), (44, .bool v)], [], 2⟩) (fun v => ref5_ReleasesCode_j1 n a0 x1 (ref5_ReleasesCode_l1 n a0 a1 m1) e2 v = some r) ?_ ?_
     ·refine au h [1,1,5,1] ?_; intro h
      refine bs h (fun c10 h => ?_) fun c10 h => ?_
      ·refine aw h [2,1,2,1,2,7,2,5,2,5,2,5,2,1,2,1,2,6,2,5,2,5,2] ?_; intro x7 k11 e8 k12 h
       refine cb h (ref5_VersionOrder_spec n _ _) fun r9 k13 h => ?_
       refine aw h [2,5,2] ?_; intro h
       exact lf (decide (0 ≤ r9)) h
      ·refine aw h [3,3,3,3,3,3,3,3,3,3,3,3,3,3] ?_; intro h
       exact lf false h
     ·intro x4 h
      try dsimp only at h ⊢
      unfold ref5_ReleasesCode_j1 at h
      refine bs h (fun c6 h => ?_) fun c6 h => ?_
      ·refine au h [2,1,1,1,1] ?_; intro h
       cases h
       exact ⟨_, rfl, .refl _⟩
      ·refine au h [3,1,1,1,1,1,1,6,5,5] ?_; intro h
       refine cb h (ref5_NeedsCode_spec n _ _) fun r5 k7 h => ?_
       refine ax 55 h [1,1,1,1,5] ?_; intro h
       refine bs h (fun c8 h => ?_) fun c8 h => ?_
       ·refine au h [2,1,1,1,1,1] ?_; intro h
        cases h
        exact ⟨_, rfl, .refl _⟩
       ·refine au h [3,1,1,1,7,1] ?_; intro x6 k9 h
        exact lb (m1, x6) h
   ·refine au h [3,1,1,1,1,1] ?_; intro h
    cases h
    exact ⟨_, rfl, .refl _⟩
theorem ref5_UniverseFault_spec (n : Nat) (a0 : SPackages) (r : SCodeIndex) (h : ref5_UniverseFault n a0 = some r) : PSpec Tryz.prog 20 [.agg (SPackages.cells a0)] (.agg (SCodeIndex.cells r)) := by
 unfold ref5_UniverseFault at h
 refine spec_of Tryz.c_ref5_UniverseFault (by simp) ?_
 unfold Tryz.l_ref5_UniverseFault
 refine au h [1,1,5,5,1,1,1,8,8,5,5] ?_; intro h
 refine bs h (fun c1 h => ?_) fun c1 h => ?_
 ·refine au h [2,1,1] ?_; intro h
  refine cb h (ref5_fault_spec n _ _) fun r1 k2 h => ?_
  refine ax 32 h [8,1] ?_; intro h
  cases h
  exact ⟨_, rfl, .refl _⟩
 ·refine au h [3,1,1,1,1,1,1] ?_; intro h
  refine Ev.loopW (β := Nat × Int) (fun v => ⟨[(1, wP 10100), (2, wP 10101), (3, iP v.2)], [(10100, eP 39 1 [[lP a0.Packages]]), (10101, eP 26 2 [[iP 0, iP 0]])], 2⟩) (fun v => ref5_UniverseFault_l1 n a0 v.1 v.2 = some r) (fun v => v.1) (n, 0) (.nA) h ?_
  intro ⟨m1, x2⟩ h
  try dsimp only at h ⊢
  cases m1 with
  | zero => rw [ref5_UniverseFault_l1] at h; cases h
  | succ m1 =>
   rw [ref5_UniverseFault_l1] at h
   refine au h [1,1,1,1,8,8,5,5] ?_; intro h
   refine bs h (fun c3 h => ?_) fun c3 h => ?_
   ·refine au h [2,1,1,1,1,1,8,8,5,8,8,1,5,5] ?_; intro e3 k4 h
    refine cb h (ref5_ReleasesCode_spec n _ _) fun r4 k5 h => ?_
    refine ax 32 h [1,1,1,1,5] ?_; intro h
    refine bs h (fun c6 h => ?_) fun c6 h => ?_
    ·refine au h [2,1,1,1,1] ?_; intro h
     refine cb h (ref5_fault_spec n _ _) fun r5 k7 h => ?_
     refine ax 32 h [8,1] ?_; intro h
     cases h
     exact ⟨_, rfl, .refl _⟩
    ·refine au h [3,1,1,1,7,1] ?_; intro x6 k8 h
     exact lb (m1, x6) h
   ·refine au h [3,1,1,1,5,8,1] ?_; intro h
    cases h
    exact ⟨_, rfl, .refl _⟩
theorem ref5_ChosenFault_spec (n : Nat) (a0 : SPackages) (a1 : List Int) (r : SCodeIndex) (h : ref5_ChosenFault n a0 a1 = some r) : PSpec Tryz.prog 21 [.agg (SPackages.cells a0), lP a1] (.agg (SCodeIndex.cells r)) := by
 unfold ref5_ChosenFault at h
 refine spec_of Tryz.c_ref5_ChosenFault (by simp) ?_
 unfold Tryz.l_ref5_ChosenFault
 refine au h [1,1,5,5,1,1,1,1,5,8,8,5,5] ?_; intro h
 refine bs h (fun c1 h => ?_) fun c1 h => ?_
 ·refine au h [2,1,1] ?_; intro h
  refine cb h (ref5_fault_spec n _ _) fun r1 k2 h => ?_
  refine ax 34 h [8,1] ?_; intro h
  cases h
  exact ⟨_, rfl, .refl _⟩
 ·refine au h [3,1,1,1,1,1,1] ?_; intro h
  refine Ev.loopW (β := Nat × Int) (fun v => ⟨[(1, lP a1), (2, wP 10100), (4, wP 10101), (5, iP v.2)], [(10100, eP 39 1 [[lP a0.Packages]]), (10101, eP 26 2 [[iP 0, iP 0]])], 2⟩) (fun v => ref5_ChosenFault_l1 n a0 a1 v.1 v.2 = some r) (fun v => v.1) (n, 0) (.nA) h ?_
  intro ⟨m1, x2⟩ h
  try dsimp only at h ⊢
  cases m1 with
  | zero => rw [ref5_ChosenFault_l1] at h; cases h
  | succ m1 =>
   rw [ref5_ChosenFault_l1] at h
   refine au h [1,1,1,1,1,5,5] ?_; intro h
   refine bs h (fun c3 h => ?_) fun c3 h => ?_
   ·refine au h [2,1,1,1,1,1,1,1,5,5,8,8,1,5,5,5,7] ?_; intro e3 k4 e4 k5 x5 k6 h
    refine cb h (ref5_in_spec n _ _ _) fun r6 k7 h => ?_
    refine aw h [5] ?_; intro h
    refine bs h (fun c8 h => ?_) fun c8 h => ?_
    ·refine au h [2,1,1] ?_; intro h
     refine cb h (ref5_fault_spec n _ _) fun r7 k9 h => ?_
     refine ax 34 h [8,1] ?_; intro h
     cases h
     exact ⟨_, rfl, .refl _⟩
    ·refine au h [3,1,1,1,7,1] ?_; intro x8 k10 h
     exact lb (m1, x8) h
   ·refine au h [3,1,1,1,5,8,1] ?_; intro h
    cases h
    exact ⟨_, rfl, .refl _⟩
theorem ref6_Locked_spec (n : Nat) (a0 : SPackages) (a1 : List Int) (r : (List SPackageVersionDigest)) (h : ref6_Locked n a0 a1 = some r) : PSpec Tryz.prog 24 [.agg (SPackages.cells a0), lP a1] (lP r) := by
 unfold ref6_Locked at h
 refine spec_of Tryz.c_ref6_Locked (by simp) ?_
 unfold Tryz.l_ref6_Locked
 refine au h [1,1,5,1,1,1,1,1,1,1,1,1] ?_; intro h
 refine Ev.loopW (β := Nat × (List SPackageVersionDigest) × Int) (fun v => ⟨[(1, lP a1), (2, wP 10100), (5, .own 10101 0), (6, iP v.2.2)], [(10100, eP 39 1 [[lP a0.Packages]]), (10101, eP 62 6 (mP v.2.1))], 2⟩) (fun v => ref6_Locked_l1 n a0 a1 v.1 v.2.1 v.2.2 = some r) (fun v => v.1) (n, ([] : List SPackageVersionDigest), 0) ((Wk.ownNil 5 30101 62 6 rfl rfl true).trans (.nA)) h ?_
 intro ⟨m1, w1, x2⟩ h
 try dsimp only at h ⊢
 cases m1 with
 | zero => rw [ref6_Locked_l1] at h; cases h
 | succ m1 =>
  rw [ref6_Locked_l1] at h
  refine au h [1,1,1,1,1,5,5] ?_; intro h
  refine bs h (fun c1 h => ?_) fun c1 h => ?_
  ·refine au h [2,1] ?_; intro h
   refine Ev.seqJ (γ := List SPackageVersionDigest) (fun v => ⟨[(1, lP a1), (2, wP 10200), (5, .own 10201 0), (6, iP x2)], [(10200, eP 39 1 [[lP a0.Packages]]), (10201, eP 62 6 (mP v))], 2⟩) (fun v => ref6_Locked_j1 n x2 (ref6_Locked_l1 n a0 a1 m1) v = some r) ?_ ?_
   ·refine au h [1,1,1,1,1,5,5,5] ?_; intro e5 k3 h
    refine bs h (fun c4 h => ?_) fun c4 h => ?_
    ·refine au h [2,1,1,8,8,1,5,5,1,1,6,5,5,5,5,5,8,1,1,1,8,8] ?_; intro e6 k5 e7 k6 h
     refine cb h (ref6_VersionSum_spec n _) fun r8 k7 h => ?_
     refine aw h [5,5,7,1] ?_; intro w9 k8 h
     exact lf w9 h
    ·refine au h [3,1] ?_; intro h
     exact lf w1 h
   ·intro w3 h
    try dsimp only at h ⊢
    unfold ref6_Locked_j1 at h
    refine au h [1,1,7,1] ?_; intro x4 k2 h
    exact lb (m1, w3, x4) h
  ·refine au h [3,1,1,1,1,1,1] ?_; intro h
   cases h
   exact ⟨_, rfl, .refl _⟩
theorem law6_LockfileMakeMatchesSpec_spec (n : Nat) (a0 : SPackages) (a1 : List Int) (r : Bool) (h : law6_LockfileMakeMatchesSpec n a0 a1 = some r) : PSpec Tryz.prog 4 [.agg (SPackages.cells a0), lP a1] (.bool r) := by
 unfold law6_LockfileMakeMatchesSpec at h
 refine spec_of Tryz.c_law6_LockfileMakeMatchesSpec (by simp) ?_
 unfold Tryz.l_law6_LockfileMakeMatchesSpec
 refine au h [1,1,5,1,1,1,1] ?_; intro h
 refine cb h (law6_locks_spec n) fun r1 k1 h => ?_
 refine aw h [5] ?_; intro h
 refine bs h (fun c2 h => ?_) fun c2 h => ?_
 ·refine au h [2,1,1,1,1] ?_; intro h
  cases h
  exact ⟨_, rfl, .refl _⟩
 ·refine au h [3,1,1,1,1,8] ?_; intro h
  obtain ⟨r2, k3, h⟩ := obind h
  refine W.call (law6_vast_spec n a0 ([] : List SPackageRange) r2 k3) rfl rfl (.cons (.refl _) (.cons (.nils 2) (.nil))) rfl (.inl rfl) rfl ?_
  refine W.nil ?_
  refine bs h (fun c4 h => ?_) fun c4 h => ?_
  ·refine au h [2,1,1,1,1] ?_; intro h
   cases h
   exact ⟨_, rfl, .refl _⟩
  ·refine au h [3,1,1,1,8] ?_; intro h
   refine cb h (ref5_UniverseFault_spec n _) fun r3 k5 h => ?_
   refine aw h [5,8] ?_; intro h
   refine Ev.seqJ (γ := Int × Int) (fun v => ⟨[(1, lP a1), (2, wP 10100), (5, wP 10101)], [(10100, eP 39 1 [[lP a0.Packages]]), (10101, eP 26 2 [[iP v.1, iP v.2]])], 2⟩) (fun v => law6_LockfileMakeMatchesSpec_j1 n a0 a1 v.1 v.2 = some r) ?_ ?_
   ·refine au h [1,1,8,8,5] ?_; intro h
    refine bs h (fun c16 h => ?_) fun c16 h => ?_
    ·refine au h [2,1,8,1] ?_; intro h
     refine cb h (ref5_ChosenFault_spec n _ _) fun r12 k17 h => ?_
     refine aw h [8] ?_; intro h
     exact lf (r12.Code, r12.Index) h
    ·refine au h [3,1] ?_; intro h
     exact lf (r3.Code, r3.Index) h
   ·intro ⟨b4, b5⟩ h
    try dsimp only at h ⊢
    unfold law6_LockfileMakeMatchesSpec_j1 at h
    refine au h [1,1,8,1] ?_; intro h
    refine cb h (lockfile_Make_spec n _ _) fun r6 k6 h => ?_
    refine aw h [1,5,5,5,1,8] ?_; intro h
    refine Ev.seqJ (γ := Bool) (fun v => ⟨[(4, .bool v)], [], 2⟩) (fun v => law6_LockfileMakeMatchesSpec_j2 n v = some r) ?_ ?_
    ·refine au h [1,8,8,5,1] ?_; intro h
     refine bs h (fun c7 h => ?_) fun c7 h => ?_
     ·refine aw h [2,8,2,8,2,5,2,1] ?_; intro h
      refine bs h (fun c8 h => ?_) fun c8 h => ?_
      ·refine aw h [2,1,2,5,2,5,2,2,2,1] ?_; intro h
       refine bs h (fun c9 h => ?_) fun c9 h => ?_
       ·refine aw h [3,3,3,3,4,4,4,4,4,3,2,2,2,1] ?_; intro h
        exact lf true h
       ·refine aw h [2,8,2,8,2,5,2,1] ?_; intro h
        refine bs h (fun c10 h => ?_) fun c10 h => ?_
        ·refine aw h [2,1,2,8,2,1,2] ?_; intro h
         refine cb h (ref6_Locked_spec n _ _) fun r8 k11 h => ?_
         refine W.guardT rfl c10 ?_
         refine cb h (ref6_SameLock_spec n _ _) fun r9 k12 h => ?_
         refine aw h [2,2,2,3,2,1] ?_; intro h
         exact lf r9 h
        ·refine aw h [3,3,3,3,3,2,3,2,3,2,1] ?_; intro h
         exact lf false h
      ·refine aw h [3,3,3,2,3,2,1,2,8,2,8,2,5,2,1] ?_; intro h
       refine bs h (fun c13 h => ?_) fun c13 h => ?_
       ·refine aw h [2,1,2,8,2,1,2] ?_; intro h
        refine cb h (ref6_Locked_spec n _ _) fun r10 k14 h => ?_
        refine W.guardT rfl c13 ?_
        refine cb h (ref6_SameLock_spec n _ _) fun r11 k15 h => ?_
        refine aw h [2,2,2,3,2,1] ?_; intro h
        exact lf r11 h
       ·refine aw h [3,3,3,3,3,2,3,2,3,2,1] ?_; intro h
        exact lf false h
     ·refine aw h [3,3,3,3,4,4,4,3,3,4,4,4,4,4,4,4,4,4,4,3,3,1] ?_; intro h
      exact lf false h
    ·intro x7 h
     try dsimp only at h ⊢
     unfold law6_LockfileMakeMatchesSpec_j2 at h
     refine Ev.ret ?_
     cases h
     exact ⟨_, rfl, .refl _⟩
end Go.Proofs.YtpcmhhbocifbcaaGreatDoor
namespace Go.Proofs.YtpcmhhbocifbcaaGreatDoor
open Go.PW Go
theorem ref5_Has_spec (n : Nat) (a0 : List Int) (a1 : Int) (r : Bool) (h : ref5_Has n a0 a1 = some r) : PSpec Tryz.prog 30 [lP a0, iP a1] (.bool r) := by
 unfold ref5_Has at h
 refine spec_of Tryz.c_ref5_Has (by simp) ?_
 unfold Tryz.l_ref5_Has
 refine au h [1,1,1,1,1,1,1,1] ?_; intro h
 refine Ev.loopW (β := Nat × Int) (fun v => ⟨[(0, lP a0), (1, iP a1), (5, iP v.2)], [], 2⟩) (fun v => ref5_Has_l1 n a0 a1 v.1 v.2 = some r) (fun v => v.1) (n, 0) (.nA) h ?_
 intro ⟨m1, x1⟩ h
 try dsimp only at h ⊢
 cases m1 with
 | zero => rw [ref5_Has_l1] at h; cases h
 | succ m1 =>
  rw [ref5_Has_l1] at h
  refine au h [1,1,1,1,1,5,5] ?_; intro h
  refine bs h (fun c1 h => ?_) fun c1 h => ?_
  ·refine au h [2,1,1,1,1,1,1,1,5,5,1,5] ?_; intro e2 k2 h
   refine bs h (fun c3 h => ?_) fun c3 h => ?_
   ·refine au h [2,1,1,1,1] ?_; intro h
    cases h
    exact ⟨_, rfl, .refl _⟩
   ·refine au h [3,1,1,1,7,1] ?_; intro x3 k4 h
    exact lb (m1, x3) h
  ·refine au h [3,1,1,1,1,1] ?_; intro h
   cases h
   exact ⟨_, rfl, .refl _⟩
set_option maxHeartbeats 4000000 in
theorem law6_LockfileDriftIsADistance_spec (n : Nat) (a0 : List SPackageVersionDigest) (a1 : List SPackageVersionDigest) (a2 : List SPackageVersionDigest) (r : Bool) (h : law6_LockfileDriftIsADistance n a0 a1 a2 = some r) : PSpec Tryz.prog 7 [lP a0, lP a1, lP a2] (.bool r) := by
 unfold law6_LockfileDriftIsADistance at h
 refine spec_of Tryz.c_law6_LockfileDriftIsADistance (by simp) ?_
 unfold Tryz.l_law6_LockfileDriftIsADistance
 refine au h [1,1,1,1,1,1] ?_; intro h
 refine cb h (law6_locks_spec n) fun r1 k1 h => ?_
 refine aw h [5] ?_; intro h
 refine bs h (fun c2 h => ?_) fun c2 h => ?_
 ·refine au h [2,1,1,1,1] ?_; intro h
  cases h
  exact ⟨_, rfl, .refl _⟩
 ·refine au h [3,1,1] ?_; intro h
  refine Ev.seqJ (γ := Bool) (fun v => ⟨[(0, lP a0), (1, lP a1), (2, lP a2), (27, .bool v)], [], 2⟩) (fun v => law6_LockfileDriftIsADistance_j1 n a0 a1 a2 v = some r) ?_ ?_
  ·refine au h [1,1] ?_; intro h
   refine cb h (law6_wideLock_spec n _) fun r18 k27 h => ?_
   refine W.mv rfl ?_
   refine bs h (fun c28 h => ?_) fun c28 h => ?_
   ·refine aw h [3,3,2,1,3,3,2] ?_; intro h
    exact lf true h
   ·refine aw h [2,1,2] ?_; intro h
    refine cb h (law6_wideLock_spec n _) fun r19 k29 h => ?_
    refine aw h [3,1] ?_; intro h
    refine bs h (fun c30 h => ?_) fun c30 h => ?_
    ·refine aw h [3,3,2] ?_; intro h
     exact lf true h
    ·refine aw h [2,1,2] ?_; intro h
     refine cb h (law6_wideLock_spec n _) fun r20 k31 h => ?_
     refine aw h [3] ?_; intro h
     exact lf r20 h
  ·intro x2 h
   try dsimp only at h ⊢
   unfold law6_LockfileDriftIsADistance_j1 at h
   refine bs h (fun c3 h => ?_) fun c3 h => ?_
   ·refine au h [2,1,1,1,1] ?_; intro h
    cases h
    exact ⟨_, rfl, .refl _⟩
   ·refine au h [3,1,1,1,1,1] ?_; intro h
    refine cb h (lockfile_Drift_spec n _ _) fun r3 k4 h => ?_
    refine ax 123 h [1,5,5,5,1,8,1,1,1,1] ?_; intro h
    refine cb h (lockfile_Drift_spec n _ _) fun r4 k5 h => ?_
    refine ax 123 h [1,5,5,5,1,8,1,1,1,1] ?_; intro h
    refine cb h (lockfile_Drift_spec n _ _) fun r5 k6 h => ?_
    refine ax 123 h [1,5,5,5,1,8,1,1,1,1] ?_; intro h
    refine cb h (lockfile_Drift_spec n _ _) fun r6 k7 h => ?_
    refine ax 123 h [1,5,5,5,1,8,1] ?_; intro h
    refine Ev.seqJ (γ := Bool) (fun v => ⟨[(0, lP a0), (1, lP a1), (7, lP r3.1), (8, wP 10200), (9, lP r4.1), (10, wP 10201), (11, lP r5.1), (12, wP 10202), (13, lP r6.1), (14, wP 10203), (59, .bool v)], [(10200, eP 26 2 [[iP r3.2.Code, iP r3.2.Index]]), (10201, eP 26 2 [[iP r4.2.Code, iP r4.2.Index]]), (10202, eP 26 2 [[iP r5.2.Code, iP r5.2.Index]]), (10203, eP 26 2 [[iP r6.2.Code, iP r6.2.Index]])], 2⟩) (fun v => law6_LockfileDriftIsADistance_j2 n a0 a1 r3 r4 r5 r6 v = some r) ?_ ?_
    ·refine au h [1,8,8,5,1] ?_; intro h
     refine bs h (fun c26 h => ?_) fun c26 h => ?_
     ·refine aw h [3,3,3,2] ?_; intro h
      exact lf true h
     ·refine aw h [2,8,2,8,2,5,3] ?_; intro h
      exact lf (decide (r5.2.Code ≠ 0)) h
    ·intro x7 h
     try dsimp only at h ⊢
     unfold law6_LockfileDriftIsADistance_j2 at h
     refine bs h (fun c8 h => ?_) fun c8 h => ?_
     ·refine Ev.condT rfl c8 ?_
      refine Ev.seqJ (γ := Bool) (fun v => ⟨[(6, .bool v)], [], 2⟩) (fun v => law6_LockfileDriftIsADistance_j3 n v = some r) ?_ ?_
      ·refine au h [1,8,8,5,1] ?_; intro h
       refine bs h (fun c9 h => ?_) fun c9 h => ?_
       ·refine aw h [3,3,3,2,1,2,8,2,8,2,5,2,1] ?_; intro h
        refine bs h (fun c10 h => ?_) fun c10 h => ?_
        ·refine aw h [3,3,3,2,2,2,1] ?_; intro h
         exact lf true h
        ·refine aw h [2,1,2,5,2,5,2,3,2,1] ?_; intro h
         exact lf (decide ((r5.1.length : Int) = 0)) h
       ·refine aw h [2,1,2,5,2,5,3,1] ?_; intro h
        refine bs h (fun c11 h => ?_) fun c11 h => ?_
        ·refine aw h [2,8,2,8,2,5,2,1] ?_; intro h
         refine bs h (fun c12 h => ?_) fun c12 h => ?_
         ·refine aw h [3,3,3,2,2,2,1] ?_; intro h
          exact lf true h
         ·refine aw h [2,1,2,5,2,5,2,3,2,1] ?_; intro h
          exact lf (decide ((r5.1.length : Int) = 0)) h
        ·refine aw h [3,3,3,3,4,4,4,3,3,1] ?_; intro h
         exact lf false h
      ·intro x8 h
       try dsimp only at h ⊢
       unfold law6_LockfileDriftIsADistance_j3 at h
       refine Ev.ret ?_
       cases h
       exact ⟨_, rfl, .refl _⟩
     ·refine au h [3,1,1] ?_; intro h
      refine Ev.seqJ (γ := Bool) (fun v => ⟨[(7, lP r3.1), (11, lP r5.1), (13, lP r6.1), (100, .bool v)], [], 2⟩) (fun v => law6_LockfileDriftIsADistance_j4 n r3 r5 r6 v = some r) ?_ ?_
      ·refine au h [1,8,8,5,1] ?_; intro h
       refine bs h (fun c21 h => ?_) fun c21 h => ?_
       ·refine aw h [3,3,3,2,1,3,3,3,3,2,1,3,3,3,3,3,3,3,2] ?_; intro h
        exact lf true h
       ·refine aw h [2,8,2,8,2,5,3,1] ?_; intro h
        refine bs h (fun c22 h => ?_) fun c22 h => ?_
        ·refine aw h [3,3,3,3,2,1,3,3,3,3,3,3,3,2] ?_; intro h
         exact lf true h
        ·refine aw h [2,1,2,1,2] ?_; intro h
         refine cb h (ref5_Ints_spec n _ _) fun r16 k23 h => ?_
         refine aw h [2,5,3,1] ?_; intro h
         refine bs h (fun c24 h => ?_) fun c24 h => ?_
         ·refine aw h [3,3,3,3,3,3,3,2] ?_; intro h
          exact lf true h
         ·refine aw h [2,1,2,5,2,5,2,1,2,1,2] ?_; intro h
          refine cb h (ref6_SameLock_spec n _ _) fun r17 k25 h => ?_
          refine aw h [2,5,3] ?_; intro h
          exact lf ((decide ((r3.1.length : Int) = 0)) != r17) h
      ·intro x9 h
       try dsimp only at h ⊢
       unfold law6_LockfileDriftIsADistance_j4 at h
       refine bs h (fun c13 h => ?_) fun c13 h => ?_
       ·refine au h [2,1,1,1,1] ?_; intro h
        cases h
        exact ⟨_, rfl, .refl _⟩
       ·refine au h [3,1,1,1,1,1,1] ?_; intro h
        refine Ev.loopW (β := Nat × Int) (fun v => ⟨[(7, lP r3.1), (11, lP r5.1), (13, lP r6.1), (15, iP v.2)], [], 2⟩) (fun v => law6_LockfileDriftIsADistance_l1 n r3 r5 r6 v.1 v.2 = some r) (fun v => v.1) (n, 0) (.nA) h ?_
        intro ⟨m1, x10⟩ h
        try dsimp only at h ⊢
        cases m1 with
        | zero => rw [law6_LockfileDriftIsADistance_l1] at h; cases h
        | succ m1 =>
         rw [law6_LockfileDriftIsADistance_l1] at h
         refine au h [1,1,1,1,1,5,5] ?_; intro h
         refine bs h (fun c14 h => ?_) fun c14 h => ?_
         ·refine au h [2,1,1,1] ?_; intro h
          refine Ev.seqJ (γ := Bool) (fun v => ⟨[(7, lP r3.1), (11, lP r5.1), (13, lP r6.1), (15, iP x10), (122, .bool v)], [], 2⟩) (fun v => law6_LockfileDriftIsADistance_j5 n x10 (law6_LockfileDriftIsADistance_l1 n r3 r5 r6 m1) v = some r) ?_ ?_
          ·refine au h [1,1,1,1,5,5] ?_; intro e13 k17 h
           refine cb h (ref5_Has_spec n _ _) fun r14 k18 h => ?_
           refine aw h [5,1] ?_; intro h
           refine bs h (fun c19 h => ?_) fun c19 h => ?_
           ·refine aw h [2,1,2,1,2,1,2,6,2,5,2] ?_; intro h
            refine cb h (ref5_Has_spec n _ _) fun r15 k20 h => ?_
            refine aw h [2,5,2] ?_; intro h
            exact lf (!r15) h
           ·refine aw h [3,3,3,3,3,3,3,3] ?_; intro h
            exact lf false h
          ·intro x11 h
           try dsimp only at h ⊢
           unfold law6_LockfileDriftIsADistance_j5 at h
           refine bs h (fun c15 h => ?_) fun c15 h => ?_
           ·refine au h [2,1,1,1,1] ?_; intro h
            cases h
            exact ⟨_, rfl, .refl _⟩
           ·refine au h [3,1,1,1,7,1] ?_; intro x12 k16 h
            exact lb (m1, x12) h
         ·refine au h [3,1,1,1,1,1] ?_; intro h
          cases h
          exact ⟨_, rfl, .refl _⟩
set_option maxHeartbeats 4000000 in
theorem law6_LockfileDriftOfSelections_spec (n : Nat) (a0 : SPackages) (a1 : List Int) (a2 : List Int) (r : Bool) (h : law6_LockfileDriftOfSelections n a0 a1 a2 = some r) : PSpec Tryz.prog 8 [.agg (SPackages.cells a0), lP a1, lP a2] (.bool r) := by
 unfold law6_LockfileDriftOfSelections at h
 refine spec_of Tryz.c_law6_LockfileDriftOfSelections (by simp) ?_
 unfold Tryz.l_law6_LockfileDriftOfSelections
 refine au h [1,1,5,1,1,1,1] ?_; intro h
 refine cb h (law6_locks_spec n) fun r1 k1 h => ?_
 refine aw h [5] ?_; intro h
 refine bs h (fun c2 h => ?_) fun c2 h => ?_
 ·refine au h [2,1,1,1,1] ?_; intro h
  cases h
  exact ⟨_, rfl, .refl _⟩
 ·refine au h [3,1,1,1,1,8] ?_; intro h
  obtain ⟨r2, k3, h⟩ := obind h
  refine W.call (law6_vast_spec n a0 ([] : List SPackageRange) r2 k3) rfl rfl (.cons (.refl _) (.cons (.nils 2) (.nil))) rfl (.inl rfl) rfl ?_
  refine W.nil ?_
  refine bs h (fun c4 h => ?_) fun c4 h => ?_
  ·refine au h [2,1,1,1,1] ?_; intro h
   cases h
   exact ⟨_, rfl, .refl _⟩
  ·refine au h [3,1,1,1,8,1] ?_; intro h
   refine cb h (lockfile_Make_spec n _ _) fun r3 k5 h => ?_
   refine ax 113 h [1,5,5,5,1,8,1,1,8,1] ?_; intro h
   refine cb h (lockfile_Make_spec n _ _) fun r4 k6 h => ?_
   refine ax 113 h [1,5,5,5,1,8,1] ?_; intro h
   refine Ev.seqJ (γ := Bool) (fun v => ⟨[(1, lP a1), (2, lP a2), (7, lP r3.1), (8, wP 10100), (9, lP r4.1), (10, wP 10101), (40, .bool v)], [(10100, eP 26 2 [[iP r3.2.Code, iP r3.2.Index]]), (10101, eP 26 2 [[iP r4.2.Code, iP r4.2.Index]])], 2⟩) (fun v => law6_LockfileDriftOfSelections_j1 n a1 a2 r3 r4 v = some r) ?_ ?_
   ·refine au h [1,8,8,5,1] ?_; intro h
    refine bs h (fun c25 h => ?_) fun c25 h => ?_
    ·refine aw h [3,3,3,2] ?_; intro h
     exact lf true h
    ·refine aw h [2,8,2,8,2,5,3] ?_; intro h
     exact lf (decide (r4.2.Code ≠ 0)) h
   ·intro x5 h
    try dsimp only at h ⊢
    unfold law6_LockfileDriftOfSelections_j1 at h
    refine bs h (fun c7 h => ?_) fun c7 h => ?_
    ·refine Ev.condT rfl c7 ?_
     refine Ev.seqJ (γ := Bool) (fun v => ⟨[(6, .bool v)], [], 2⟩) (fun v => law6_LockfileDriftOfSelections_j2 n v = some r) ?_ ?_
     ·refine au h [1,8,8,5,1] ?_; intro h
      refine bs h (fun c8 h => ?_) fun c8 h => ?_
      ·refine aw h [3,3,3,2,1,2,8,2,8,2,5,2,1] ?_; intro h
       refine bs h (fun c9 h => ?_) fun c9 h => ?_
       ·refine aw h [3,3,3,2,2,2,1] ?_; intro h
        exact lf true h
       ·refine aw h [2,1,2,5,2,5,2,3,2,1] ?_; intro h
        exact lf (decide ((r4.1.length : Int) = 0)) h
      ·refine aw h [2,1,2,5,2,5,3,1] ?_; intro h
       refine bs h (fun c10 h => ?_) fun c10 h => ?_
       ·refine aw h [2,8,2,8,2,5,2,1] ?_; intro h
        refine bs h (fun c11 h => ?_) fun c11 h => ?_
        ·refine aw h [3,3,3,2,2,2,1] ?_; intro h
         exact lf true h
        ·refine aw h [2,1,2,5,2,5,2,3,2,1] ?_; intro h
         exact lf (decide ((r4.1.length : Int) = 0)) h
       ·refine aw h [3,3,3,3,4,4,4,3,3,1] ?_; intro h
        exact lf false h
     ·intro x6 h
      try dsimp only at h ⊢
      unfold law6_LockfileDriftOfSelections_j2 at h
      refine Ev.ret ?_
      cases h
      exact ⟨_, rfl, .refl _⟩
    ·refine au h [3,1,1,1,1,1] ?_; intro h
     refine cb h (lockfile_Drift_spec n _ _) fun r7 k12 h => ?_
     refine ax 113 h [1,5,5,5,1,8,1,1,1] ?_; intro h
     refine cb h (lockfile_Corrupt_spec n _) fun r8 k13 h => ?_
     refine ax 113 h [1,5,5,5,1,8,1,1,1,1,1,1,1,1] ?_; intro h
     refine Ev.loopW (β := Nat × (List Int) × Int) (fun v => ⟨[(1, lP a1), (2, lP a2), (11, lP r7.1), (12, wP 10200), (13, lP r8.1), (14, wP 10201), (15, .own 10202 0), (16, iP v.2.2)], [(10200, eP 26 2 [[iP r7.2.Code, iP r7.2.Index]]), (10201, eP 26 2 [[iP r8.2.Code, iP r8.2.Index]]), (10202, eP 3 1 (mP v.2.1))], 2⟩) (fun v => law6_LockfileDriftOfSelections_l1 n a1 a2 r7 r8 v.1 v.2.1 v.2.2 = some r) (fun v => v.1) (n, ([] : List Int), 0) ((Wk.ownNil 15 30202 3 1 rfl rfl true).trans (.nA)) h ?_
     intro ⟨m1, w9, x10⟩ h
     try dsimp only at h ⊢
     cases m1 with
     | zero => rw [law6_LockfileDriftOfSelections_l1] at h; cases h
     | succ m1 =>
      rw [law6_LockfileDriftOfSelections_l1] at h
      refine Ev.seq ?_
      refine Ev.seqJ (γ := Bool) (fun v => ⟨[(1, lP a1), (2, lP a2), (11, lP r7.1), (12, wP 10300), (13, lP r8.1), (14, wP 10301), (15, .own 10302 0), (16, iP x10), (79, .bool v)], [(10300, eP 26 2 [[iP r7.2.Code, iP r7.2.Index]]), (10301, eP 26 2 [[iP r8.2.Code, iP r8.2.Index]]), (10302, eP 3 1 (mP w9))], 2⟩) (fun v => law6_LockfileDriftOfSelections_j3 n a1 a2 r7 r8 w9 x10 (law6_LockfileDriftOfSelections_l1 n a1 a2 r7 r8 m1) v = some r) ?_ ?_
      ·refine au h [1,1,1,5,5,1] ?_; intro h
       refine bs h (fun c24 h => ?_) fun c24 h => ?_
       ·refine aw h [2,1,2,1,2,5,2,5,2] ?_; intro h
        exact lf (decide (x10 < (a2.length : Int))) h
       ·refine aw h [3,3,3,3,3] ?_; intro h
        exact lf false h
      ·intro x11 h
       try dsimp only at h ⊢
       unfold law6_LockfileDriftOfSelections_j3 at h
       refine bs h (fun c14 h => ?_) fun c14 h => ?_
       ·refine au h [2,1] ?_; intro h
        refine Ev.seqJ (γ := List Int) (fun v => ⟨[(1, lP a1), (2, lP a2), (11, lP r7.1), (12, wP 10400), (13, lP r8.1), (14, wP 10401), (15, .own 10402 0), (16, iP x10)], [(10400, eP 26 2 [[iP r7.2.Code, iP r7.2.Index]]), (10401, eP 26 2 [[iP r8.2.Code, iP r8.2.Index]]), (10402, eP 3 1 (mP v))], 2⟩) (fun v => law6_LockfileDriftOfSelections_j4 n x10 (law6_LockfileDriftOfSelections_l1 n a1 a2 r7 r8 m1) v = some r) ?_ ?_
        ·refine au h [1,1,1,1,1,5,5,1,1,5,5,5] ?_; intro e14 k16 e15 k17 h
         refine bs h (fun c18 h => ?_) fun c18 h => ?_
         ·refine au h [2,1,1,1,5,7,1] ?_; intro w16 k19 h
          exact lf w16 h
         ·refine au h [3,1] ?_; intro h
          exact lf w9 h
        ·intro w12 h
         try dsimp only at h ⊢
         unfold law6_LockfileDriftOfSelections_j4 at h
         refine au h [1,1,7,1] ?_; intro x13 k15 h
         exact lb (m1, w12, x13) h
       ·refine au h [3,1] ?_; intro h
        refine Ev.seqJ (γ := Bool) (fun v => ⟨[(6, .bool v)], [], 2⟩) (fun v => law6_LockfileDriftOfSelections_j5 n v = some r) ?_ ?_
        ·refine au h [1,8,8,5,1] ?_; intro h
         refine bs h (fun c20 h => ?_) fun c20 h => ?_
         ·refine aw h [2,8,2,8,2,5,2,1] ?_; intro h
          refine bs h (fun c21 h => ?_) fun c21 h => ?_
          ·refine aw h [2,1,2,5,2,5,2,1] ?_; intro h
           refine bs h (fun c22 h => ?_) fun c22 h => ?_
           ·refine aw h [2,1,2,1,2] ?_; intro h
            refine cb h (ref5_Ints_spec n _ _) fun r18 k23 h => ?_
            refine aw h [2,1] ?_; intro h
            exact lf r18 h
           ·refine aw h [3,3,3,3,1] ?_; intro h
            exact lf false h
          ·refine aw h [3,3,3,3,1,3,3,3,3,1] ?_; intro h
           exact lf false h
         ·refine aw h [3,3,3,3,1,3,3,3,3,1,3,3,3,3,1] ?_; intro h
          exact lf false h
        ·intro x17 h
         try dsimp only at h ⊢
         unfold law6_LockfileDriftOfSelections_j5 at h
         refine Ev.ret ?_
         cases h
         exact ⟨_, rfl, .refl _⟩
end Go.Proofs.YtpcmhhbocifbcaaGreatDoor
