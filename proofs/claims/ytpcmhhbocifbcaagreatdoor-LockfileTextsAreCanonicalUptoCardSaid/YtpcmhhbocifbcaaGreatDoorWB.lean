/- The functions compute what the texts of D say. Laid by a program (wip/gen/dec.py). -/
import Derived.Test.YtpcmhhbocifbcaaGreatDoorPwAuto
import Derived.Test.YtpcmhhbocifbcaaGreatDoorD
import Derived.Test.YtpcmhhbocifbcaaGreatDoorWA
set_option linter.unusedVariables false
set_option linter.unusedSimpArgs false
namespace Go.Proofs.YtpcmhhbocifbcaaGreatDoor
open Go.PW Go
theorem law6_locks_spec (n : Nat) (r : Bool) (h : law6_locks n = some r) : PSpec Tryz.prog 9 [] (.bool r) := by
 unfold law6_locks at h
 refine spec_of Tryz.c_law6_locks (by simp) ?_
 unfold Tryz.l_law6_locks
 refine au h [1,1,1,1,1] ?_; intro h
 refine cb h (law6_lock_spec n) fun r1 k1 h => ?_
 refine cb h (lockfile_Write_spec n _) fun r2 k2 h => ?_
 refine ax 106 h [1,5,5,5,1,8,1] ?_; intro h
 refine Ev.regS rfl ?_
 refine Sq.w 1 nb ?_
 refine aw h [5] ?_; intro h
 refine Sq.weak (st' := ⟨[(1, lP r2.1), (2, wP 10000), (20, lP ([([48, 32, 49, 46, 50, 46, 51, 32, 55] : List UInt8)] : List (List UInt8)))], [(10000, eP 26 2 [[iP r2.2.Code, iP r2.2.Index]])], 2⟩) ?_ ((Wk.frz 20 2 rfl rfl).trans (.nA))
 refine Sq.wEnd nb ?_
 refine cb h (lockfile_Read_spec n _) fun r3 k3 h => ?_
 refine ax 106 h [1,5,5,5,1,8,1,1] ?_; intro h
 refine cb h (law6_lock_spec n) fun r4 k4 h => ?_
 obtain ⟨r5, k5, h⟩ := obind h
 refine W.call (lockfile_Drift_spec n r4 ([] : List SPackageVersionDigest) r5 k5) rfl rfl (.cons (.refl _) (.cons (.nils 6) (.nil))) rfl (.inl rfl) rfl ?_
 refine ax 106 h [1,5,5,5,1,8,1,1] ?_; intro h
 refine cb h (law6_lock_spec n) fun r6 k6 h => ?_
 refine cb h (lockfile_Corrupt_spec n _) fun r7 k7 h => ?_
 refine ax 106 h [1,5,5,5,1,8,1] ?_; intro h
 refine Ev.regS rfl ?_
 refine Sq.w 2 nb ?_
 refine cb h (law6_universe_spec n) fun r8 k8 h => ?_
 refine aw h [5] ?_; intro h
 refine Sq.weak (st' := ⟨[(1, lP r2.1), (2, wP 10000), (3, lP r3.1), (4, wP 10001), (5, lP r5.1), (6, wP 10002), (7, lP r7.1), (8, wP 10003), (35, .agg [lP r8.Packages]), (36, lP ([0, (-1)] : List Int))], [(10000, eP 26 2 [[iP r2.2.Code, iP r2.2.Index]]), (10001, eP 26 2 [[iP r3.2.Code, iP r3.2.Index]]), (10002, eP 26 2 [[iP r5.2.Code, iP r5.2.Index]]), (10003, eP 26 2 [[iP r7.2.Code, iP r7.2.Index]])], 2⟩) ?_ ((Wk.frz 36 2 rfl rfl).trans (.nA))
 refine Sq.wEnd nb ?_
 refine cb h (lockfile_Make_spec n _ _) fun r9 k9 h => ?_
 refine ax 106 h [1,5,5,5,1,8,1] ?_; intro h
 refine Ev.regS rfl ?_
 refine Sq.w 1 nb ?_
 refine aw h [5] ?_; intro h
 refine Sq.weak (st' := ⟨[(1, lP r2.1), (2, wP 10000), (3, lP r3.1), (4, wP 10001), (5, lP r5.1), (6, wP 10002), (7, lP r7.1), (8, wP 10003), (9, lP r9.1), (10, wP 10004), (41, lP ([([57, 32, 49, 46, 50, 46, 51, 32, 55] : List UInt8)] : List (List UInt8)))], [(10000, eP 26 2 [[iP r2.2.Code, iP r2.2.Index]]), (10001, eP 26 2 [[iP r3.2.Code, iP r3.2.Index]]), (10002, eP 26 2 [[iP r5.2.Code, iP r5.2.Index]]), (10003, eP 26 2 [[iP r7.2.Code, iP r7.2.Index]]), (10004, eP 26 2 [[iP r9.2.Code, iP r9.2.Index]])], 2⟩) ?_ ((Wk.frz 41 2 rfl rfl).trans (.nA))
 refine Sq.wEnd nb ?_
 refine cb h (lockfile_Read_spec n _) fun r10 k10 h => ?_
 refine aw h [1,5,5,5,1,8] ?_; intro h
 refine Ev.seqJ (γ := Bool) (fun v => ⟨[(1, lP r2.1), (3, lP r3.1), (5, lP r5.1), (7, lP r7.1), (9, lP r9.1), (13, .bool v)], [], 2⟩) (fun v => law6_locks_j1 n r2 r3 r5 r7 r9 v = some r) ?_ ?_
 ·refine au h [1,8,8,5,1] ?_; intro h
  refine bs h (fun c23 h => ?_) fun c23 h => ?_
  ·refine aw h [2,8,2,8,2,5,2,1] ?_; intro h
   refine bs h (fun c24 h => ?_) fun c24 h => ?_
   ·refine aw h [2,8,2,8,2,5,2,1] ?_; intro h
    refine bs h (fun c25 h => ?_) fun c25 h => ?_
    ·refine aw h [2,8,2,8,2,5,2,1] ?_; intro h
     refine bs h (fun c26 h => ?_) fun c26 h => ?_
     ·refine aw h [2,8,2,8,2,5,2,1] ?_; intro h
      refine bs h (fun c27 h => ?_) fun c27 h => ?_
      ·refine aw h [2,8,2] ?_; intro h
       refine cb h (law6_fault_spec n _ _) fun r19 k28 h => ?_
       refine aw h [2,5,2,1] ?_; intro h
       exact lf ((r10.2.Code == r19.Code && (r10.2.Index == r19.Index && true)) != false) h
      ·refine aw h [3,3,3,3,1] ?_; intro h
       exact lf false h
     ·refine aw h [3,3,3,3,1,3,3,3,3,1] ?_; intro h
      exact lf false h
    ·refine aw h [3,3,3,3,1,3,3,3,3,1,3,3,3,3,1] ?_; intro h
     exact lf false h
   ·refine aw h [3,3,3,3,1,3,3,3,3,1,3,3,3,3,1,3,3,3,3,1] ?_; intro h
    exact lf false h
  ·refine aw h [3,3,3,3,1,3,3,3,3,1,3,3,3,3,1,3,3,3,3,1,3,3,3,3,1] ?_; intro h
   exact lf false h
 ·intro x11 h
  try dsimp only at h ⊢
  unfold law6_locks_j1 at h
  refine Ev.seqJ (γ := Bool) (fun v => ⟨[(0, .bool v)], [], 2⟩) (fun v => law6_locks_j2 n v = some r) ?_ ?_
  ·refine au h [1,1,1] ?_; intro h
   refine bs h (fun c11 h => ?_) fun c11 h => ?_
   ·refine aw h [2,1,2,5,2] ?_; intro h
    refine cb h (ref6_Strings_spec n _ _) fun r13 k12 h => ?_
    refine aw h [2,1] ?_; intro h
    refine bs h (fun c13 h => ?_) fun c13 h => ?_
    ·refine aw h [2,1,2] ?_; intro h
     refine cb h (law6_lock_spec n) fun r14 k14 h => ?_
     refine W.guardT rfl c13 ?_
     refine cb h (ref6_SameLock_spec n _ _) fun r15 k15 h => ?_
     refine aw h [2,1] ?_; intro h
     refine bs h (fun c16 h => ?_) fun c16 h => ?_
     ·refine aw h [2,1,2,5,2] ?_; intro h
      refine cb h (ref5_Ints_spec n _ _) fun r16 k17 h => ?_
      refine aw h [2,1] ?_; intro h
      refine bs h (fun c18 h => ?_) fun c18 h => ?_
      ·refine aw h [2,1,2,5,2] ?_; intro h
       refine cb h (ref5_Ints_spec n _ _) fun r17 k19 h => ?_
       refine aw h [2,1] ?_; intro h
       refine bs h (fun c20 h => ?_) fun c20 h => ?_
       ·refine aw h [2,1,2,5,2,5,2,1] ?_; intro h
        refine bs h (fun c21 h => ?_) fun c21 h => ?_
        ·refine aw h [2,1,2,5,2,5,2,5,2,5,2,1] ?_; intro e18 k22 h
         exact lf (decide (e18.Package = 0)) h
        ·refine aw h [3,3,3,3,3,3,1] ?_; intro h
         exact lf false h
       ·refine aw h [3,3,3,3,1,3,3,3,3,3,3,1] ?_; intro h
        exact lf false h
      ·refine aw h [3,3,3,3,1,3,3,3,3,1,3,3,3,3,3,3,1] ?_; intro h
       exact lf false h
     ·refine aw h [3,3,3,3,1,3,3,3,3,1,3,3,3,3,1,3,3,3,3,3,3,1] ?_; intro h
      exact lf false h
    ·refine aw h [3,3,3,3,1,3,3,3,3,1,3,3,3,3,1,3,3,3,3,1,3,3,3,3,3,3,1] ?_; intro h
     exact lf false h
   ·refine aw h [3,3,3,3,1,3,3,3,3,1,3,3,3,3,1,3,3,3,3,1,3,3,3,3,1,3,3,3,3,3,3,1] ?_; intro h
    exact lf false h
  ·intro x12 h
   try dsimp only at h ⊢
   unfold law6_locks_j2 at h
   refine Ev.ret ?_
   cases h
   exact ⟨_, rfl, .refl _⟩
theorem law6_wideLock_spec (n : Nat) (a0 : List SPackageVersionDigest) (r : Bool) (h : law6_wideLock n a0 = some r) : PSpec Tryz.prog 10 [lP a0] (.bool r) := by
 unfold law6_wideLock at h
 refine spec_of Tryz.c_law6_wideLock (by simp) ?_
 unfold Tryz.l_law6_wideLock
 refine au h [1,1,1,1,1,1,1,1] ?_; intro h
 refine Ev.loopW (β := Nat × Int) (fun v => ⟨[(0, lP a0), (3, iP v.2)], [], 2⟩) (fun v => law6_wideLock_l1 n a0 v.1 v.2 = some r) (fun v => v.1) (n, 0) (.nA) h ?_
 intro ⟨m1, x1⟩ h
 try dsimp only at h ⊢
 cases m1 with
 | zero => rw [law6_wideLock_l1] at h; cases h
 | succ m1 =>
  rw [law6_wideLock_l1] at h
  refine Ev.seq ?_
  refine Ev.seqJ (γ := Bool) (fun v => ⟨[(0, lP a0), (3, iP x1), (11, .bool v)], [], 2⟩) (fun v => law6_wideLock_j1 n a0 x1 (law6_wideLock_l1 n a0 m1) v = some r) ?_ ?_
  ·refine au h [1,1,1,5,5,1] ?_; intro h
   refine bs h (fun c5 h => ?_) fun c5 h => ?_
   ·refine aw h [2,1,2,5,2] ?_; intro h
    exact lf (decide (x1 < 20)) h
   ·refine aw h [3,3,3] ?_; intro h
    exact lf false h
  ·intro x2 h
   try dsimp only at h ⊢
   unfold law6_wideLock_j1 at h
   refine bs h (fun c1 h => ?_) fun c1 h => ?_
   ·refine au h [2,1,1,1,1,1,1,1,5,5,5,5,5,5] ?_; intro e3 k2 h
    refine bs h (fun c3 h => ?_) fun c3 h => ?_
    ·refine au h [2,1,1,1,1] ?_; intro h
     cases h
     exact ⟨_, rfl, .refl _⟩
    ·refine au h [3,1,1,1,7,1] ?_; intro x4 k4 h
     exact lb (m1, x4) h
   ·refine au h [3,1,1,1,1,5,5,1,1] ?_; intro h
    cases h
    exact ⟨_, rfl, .refl _⟩
theorem ref6_fault_spec (n : Nat) (a0 : Int) (a1 : Int) (r : SCodeIndex) (h : ref6_fault n a0 a1 = some r) : PSpec Tryz.prog 33 [iP a0, iP a1] (.agg (SCodeIndex.cells r)) := by
 unfold ref6_fault at h
 refine spec_of Tryz.c_ref6_fault (by simp) ?_
 unfold Tryz.l_ref6_fault
 refine au h [1,1,5,1,1,1,1,5,8,1] ?_; intro h
 cases h
 exact ⟨_, rfl, .refl _⟩
theorem ref6_in_spec (n : Nat) (a0 : Int) (a1 : Int) (a2 : Int) (r : Bool) (h : ref6_in n a0 a1 a2 = some r) : PSpec Tryz.prog 34 [iP a0, iP a1, iP a2] (.bool r) := by
 unfold ref6_in at h
 refine spec_of Tryz.c_ref6_in (by simp) ?_
 unfold Tryz.l_ref6_in
 refine au h [1,1,1] ?_; intro h
 refine Ev.seqJ (γ := Bool) (fun v => ⟨[(6, .bool v)], [], 2⟩) (fun v => ref6_in_j1 n v = some r) ?_ ?_
 ·refine au h [1,1,1,5,1] ?_; intro h
  refine bs h (fun c1 h => ?_) fun c1 h => ?_
  ·refine aw h [2,1,2,1,2,5,2,1] ?_; intro h
   exact lf (decide (a0 ≤ a2)) h
  ·refine aw h [3,3,3,3,1] ?_; intro h
   exact lf false h
 ·intro x1 h
  try dsimp only at h ⊢
  unfold ref6_in_j1 at h
  refine Ev.ret ?_
  cases h
  exact ⟨_, rfl, .refl _⟩
theorem ref5_fault_spec (n : Nat) (a0 : Int) (a1 : Int) (r : SCodeIndex) (h : ref5_fault n a0 a1 = some r) : PSpec Tryz.prog 47 [iP a0, iP a1] (.agg (SCodeIndex.cells r)) := by
 unfold ref5_fault at h
 refine spec_of Tryz.c_ref5_fault (by simp) ?_
 unfold Tryz.l_ref5_fault
 refine au h [1,1,5,1,1,1,1,5,8,1] ?_; intro h
 cases h
 exact ⟨_, rfl, .refl _⟩
theorem ref5_in_spec (n : Nat) (a0 : Int) (a1 : Int) (a2 : Int) (r : Bool) (h : ref5_in n a0 a1 a2 = some r) : PSpec Tryz.prog 49 [iP a0, iP a1, iP a2] (.bool r) := by
 unfold ref5_in at h
 refine spec_of Tryz.c_ref5_in (by simp) ?_
 unfold Tryz.l_ref5_in
 refine au h [1,1,1] ?_; intro h
 refine Ev.seqJ (γ := Bool) (fun v => ⟨[(6, .bool v)], [], 2⟩) (fun v => ref5_in_j1 n v = some r) ?_ ?_
 ·refine au h [1,1,1,5,1] ?_; intro h
  refine bs h (fun c1 h => ?_) fun c1 h => ?_
  ·refine aw h [2,1,2,1,2,5,2,1] ?_; intro h
   exact lf (decide (a0 ≤ a2)) h
  ·refine aw h [3,3,3,3,1] ?_; intro h
   exact lf false h
 ·intro x1 h
  try dsimp only at h ⊢
  unfold ref5_in_j1 at h
  refine Ev.ret ?_
  cases h
  exact ⟨_, rfl, .refl _⟩
theorem ref5_Numeric_spec (n : Nat) (a0 : List UInt8) (r : Bool) (h : ref5_Numeric n a0 = some r) : PSpec Tryz.prog 82 [.str a0] (.bool r) := by
 unfold ref5_Numeric at h
 refine spec_of Tryz.c_ref5_Numeric (by simp) ?_
 unfold Tryz.l_ref5_Numeric
 refine au h [1,1,1,1,1,1,1,1] ?_; intro h
 refine Ev.loopW (β := Nat × Int) (fun v => ⟨[(0, .str a0), (3, iP v.2)], [], 2⟩) (fun v => ref5_Numeric_l1 n a0 v.1 v.2 = some r) (fun v => v.1) (n, 0) (.nA) h ?_
 intro ⟨m1, x1⟩ h
 try dsimp only at h ⊢
 cases m1 with
 | zero => rw [ref5_Numeric_l1] at h; cases h
 | succ m1 =>
  rw [ref5_Numeric_l1] at h
  refine au h [1,1,1,1,1,5,5] ?_; intro h
  refine bs h (fun c1 h => ?_) fun c1 h => ?_
  ·refine au h [2,1,1,1] ?_; intro h
   refine Ev.seqJ (γ := Bool) (fun v => ⟨[(0, .str a0), (3, iP x1), (19, .bool v)], [], 2⟩) (fun v => ref5_Numeric_j1 n x1 (ref5_Numeric_l1 n a0 m1) v = some r) ?_ ?_
   ·refine au h [1,1,1,5,5,1] ?_; intro y4 k4 h
    refine bs h (fun c5 h => ?_) fun c5 h => ?_
    ·refine aw h [3,3,3,3,2] ?_; intro h
     exact lf true h
    ·refine aw h [2,1,2,1,2,5,2,5,3] ?_; intro y5 k6 h
     exact lf (decide (57 < (y5.toNat : Int))) h
   ·intro x2 h
    try dsimp only at h ⊢
    unfold ref5_Numeric_j1 at h
    refine bs h (fun c2 h => ?_) fun c2 h => ?_
    ·refine au h [2,1,1,1,1] ?_; intro h
     cases h
     exact ⟨_, rfl, .refl _⟩
    ·refine au h [3,1,1,1,7,1] ?_; intro x3 k3 h
     exact lb (m1, x3) h
  ·refine au h [3,1,1,1,1,5,5,1,1] ?_; intro h
   cases h
   exact ⟨_, rfl, .refl _⟩
theorem ref5_Identifier_spec (n : Nat) (a0 : List UInt8) (r : Bool) (h : ref5_Identifier n a0 = some r) : PSpec Tryz.prog 63 [.str a0] (.bool r) := by
 unfold ref5_Identifier at h
 refine spec_of Tryz.c_ref5_Identifier (by simp) ?_
 unfold Tryz.l_ref5_Identifier
 refine au h [1,1,1,1] ?_; intro h
 refine Ev.seqJ (γ := Bool) (fun v => ⟨[(0, .str a0), (22, .bool v)], [], 2⟩) (fun v => ref5_Identifier_j1 n a0 v = some r) ?_ ?_
 ·refine au h [1,1,5] ?_; intro h
  refine cb h (ref5_in_spec n _ _ _) fun r9 k12 h => ?_
  refine aw h [5,1] ?_; intro h
  refine bs h (fun c13 h => ?_) fun c13 h => ?_
  ·refine aw h [3,3,3,4,4,4,3,3,4,4,4,3,2] ?_; intro h
   exact lf true h
  ·refine aw h [2,1,2] ?_; intro h
   refine cb h (ref5_Numeric_spec n _) fun r10 k14 h => ?_
   refine aw h [2,1] ?_; intro h
   refine bs h (fun c15 h => ?_) fun c15 h => ?_
   ·refine aw h [2,1,2,5,2,5,2,2,2,1] ?_; intro h
    refine bs h (fun c16 h => ?_) fun c16 h => ?_
    ·refine aw h [2,1,2,5,2,5,2,2,3] ?_; intro y11 k17 h
     exact lf (decide ((y11.toNat : Int) = 48)) h
    ·refine aw h [3,3,3,2,3,3] ?_; intro h
     exact lf false h
   ·refine aw h [3,3,3,2,3,2,1,3,3,3,2,3,3] ?_; intro h
    exact lf false h
 ·intro x1 h
  try dsimp only at h ⊢
  unfold ref5_Identifier_j1 at h
  refine bs h (fun c1 h => ?_) fun c1 h => ?_
  ·refine au h [2,1,1,1,1] ?_; intro h
   cases h
   exact ⟨_, rfl, .refl _⟩
  ·refine au h [3,1,1,1,1,1,1] ?_; intro h
   refine Ev.loopW (β := Nat × Int) (fun v => ⟨[(0, .str a0), (3, iP v.2)], [], 2⟩) (fun v => ref5_Identifier_l1 n a0 v.1 v.2 = some r) (fun v => v.1) (n, 0) (.nA) h ?_
   intro ⟨m1, x2⟩ h
   try dsimp only at h ⊢
   cases m1 with
   | zero => rw [ref5_Identifier_l1] at h; cases h
   | succ m1 =>
    rw [ref5_Identifier_l1] at h
    refine au h [1,1,1,1,1,5,5] ?_; intro h
    refine bs h (fun c2 h => ?_) fun c2 h => ?_
    ·refine au h [2,1,1,1,1,1,1,1,5,5,1] ?_; intro y3 k3 h
     refine Ev.seqJ (γ := Bool) (fun v => ⟨[(0, .str a0), (3, iP x2), (49, .bool v)], [], 2⟩) (fun v => ref5_Identifier_j2 n x2 (ref5_Identifier_l1 n a0 m1) v = some r) ?_ ?_
     ·refine au h [1,1] ?_; intro h
      refine cb h (ref5_in_spec n _ _ _) fun r6 k6 h => ?_
      refine aw h [5,1] ?_; intro h
      refine bs h (fun c7 h => ?_) fun c7 h => ?_
      ·refine aw h [2,1,2] ?_; intro h
       refine cb h (ref5_in_spec n _ _ _) fun r7 k8 h => ?_
       refine aw h [2,5,2,1] ?_; intro h
       refine bs h (fun c9 h => ?_) fun c9 h => ?_
       ·refine aw h [2,1,2] ?_; intro h
        refine cb h (ref5_in_spec n _ _ _) fun r8 k10 h => ?_
        refine aw h [2,5,2,1] ?_; intro h
        refine bs h (fun c11 h => ?_) fun c11 h => ?_
        ·refine aw h [2,1,2,5,2] ?_; intro h
         exact lf (decide ((IntKind.wrap .i64 (y3.toNat : Int)) ≠ 45)) h
        ·refine aw h [3,3,3] ?_; intro h
         exact lf false h
       ·refine aw h [3,3,3,3,1,3,3,3] ?_; intro h
        exact lf false h
      ·refine aw h [3,3,3,3,1,3,3,3,3,1,3,3,3] ?_; intro h
       exact lf false h
     ·intro x4 h
      try dsimp only at h ⊢
      unfold ref5_Identifier_j2 at h
      refine bs h (fun c4 h => ?_) fun c4 h => ?_
      ·refine au h [2,1,1,1,1] ?_; intro h
       cases h
       exact ⟨_, rfl, .refl _⟩
      ·refine au h [3,1,1,1,7,1] ?_; intro x5 k5 h
       exact lb (m1, x5) h
    ·refine au h [3,1,1,1,1,1] ?_; intro h
     cases h
     exact ⟨_, rfl, .refl _⟩
theorem ref5_VersionFault_spec (n : Nat) (a0 : SMajorMinorPatchPre) (r : SCodeIndex) (h : ref5_VersionFault n a0 = some r) : PSpec Tryz.prog 35 [.agg (SMajorMinorPatchPre.cells a0)] (.agg (SCodeIndex.cells r)) := by
 unfold ref5_VersionFault at h
 refine spec_of Tryz.c_ref5_VersionFault (by simp) ?_
 unfold Tryz.l_ref5_VersionFault
 refine au h [1,1,5,5,1,1,1,8,8] ?_; intro h
 refine cb h (ref5_in_spec n _ _ _) fun r1 k1 h => ?_
 refine aw h [5] ?_; intro h
 refine bs h (fun c2 h => ?_) fun c2 h => ?_
 ·refine au h [2,1,1] ?_; intro h
  refine cb h (ref5_fault_spec n _ _) fun r2 k3 h => ?_
  refine ax 41 h [8,1] ?_; intro h
  cases h
  exact ⟨_, rfl, .refl _⟩
 ·refine au h [3,1,1,1,1,8,8] ?_; intro h
  refine cb h (ref5_in_spec n _ _ _) fun r3 k4 h => ?_
  refine aw h [5] ?_; intro h
  refine bs h (fun c5 h => ?_) fun c5 h => ?_
  ·refine au h [2,1,1] ?_; intro h
   refine cb h (ref5_fault_spec n _ _) fun r4 k6 h => ?_
   refine ax 41 h [8,1] ?_; intro h
   cases h
   exact ⟨_, rfl, .refl _⟩
  ·refine au h [3,1,1,1,1,8,8] ?_; intro h
   refine cb h (ref5_in_spec n _ _ _) fun r5 k7 h => ?_
   refine aw h [5] ?_; intro h
   refine bs h (fun c8 h => ?_) fun c8 h => ?_
   ·refine au h [2,1,1] ?_; intro h
    refine cb h (ref5_fault_spec n _ _) fun r6 k9 h => ?_
    refine ax 41 h [8,1] ?_; intro h
    cases h
    exact ⟨_, rfl, .refl _⟩
   ·refine au h [3,1,1,1,1,8,8,5,5] ?_; intro h
    refine bs h (fun c10 h => ?_) fun c10 h => ?_
    ·refine au h [2,1,1] ?_; intro h
     refine cb h (ref5_fault_spec n _ _) fun r7 k11 h => ?_
     refine ax 41 h [8,1] ?_; intro h
     cases h
     exact ⟨_, rfl, .refl _⟩
    ·refine au h [3,1,1,1,1,1,1] ?_; intro h
     refine Ev.loopW (β := Nat × Int) (fun v => ⟨[(1, wP 10100), (2, wP 10101), (3, iP v.2)], [(10100, eP 60 4 [[iP a0.Major, iP a0.Minor, iP a0.Patch, lP a0.Pre]]), (10101, eP 26 2 [[iP 0, iP 0]])], 2⟩) (fun v => ref5_VersionFault_l1 n a0 v.1 v.2 = some r) (fun v => v.1) (n, 0) (.nA) h ?_
     intro ⟨m1, x8⟩ h
     try dsimp only at h ⊢
     cases m1 with
     | zero => rw [ref5_VersionFault_l1] at h; cases h
     | succ m1 =>
      rw [ref5_VersionFault_l1] at h
      refine au h [1,1,1,1,8,8,5,5] ?_; intro h
      refine bs h (fun c12 h => ?_) fun c12 h => ?_
      ·refine au h [2,1,1,1,1,1,8,8,1,5,5] ?_; intro e9 k13 h
       refine cb h (ref5_Identifier_spec n _) fun r10 k14 h => ?_
       refine aw h [5] ?_; intro h
       refine bs h (fun c15 h => ?_) fun c15 h => ?_
       ·refine au h [2,1,1,1] ?_; intro h
        refine cb h (ref5_fault_spec n _ _) fun r11 k16 h => ?_
        refine ax 41 h [8,1] ?_; intro h
        cases h
        exact ⟨_, rfl, .refl _⟩
       ·refine au h [3,1,1,1,7,1] ?_; intro x12 k17 h
        exact lb (m1, x12) h
      ·refine au h [3,1,1,1,5,8,1] ?_; intro h
       cases h
       exact ⟨_, rfl, .refl _⟩
theorem ref5_IsDigest_spec (n : Nat) (a0 : Int) (r : Bool) (h : ref5_IsDigest n a0 = some r) : PSpec Tryz.prog 36 [iP a0] (.bool r) := by
 unfold ref5_IsDigest at h
 refine spec_of Tryz.c_ref5_IsDigest (by simp) ?_
 unfold Tryz.l_ref5_IsDigest
 refine au h [1,1,1,1,1,1] ?_; intro h
 refine cb h (ref5_in_spec n _ _ _) fun r1 k1 h => ?_
 refine ax 5 h [1,1] ?_; intro h
 cases h
 exact ⟨_, rfl, .refl _⟩
theorem ref6_LockFault_spec (n : Nat) (a0 : List SPackageVersionDigest) (r : SCodeIndex) (h : ref6_LockFault n a0 = some r) : PSpec Tryz.prog 11 [lP a0] (.agg (SCodeIndex.cells r)) := by
 unfold ref6_LockFault at h
 refine spec_of Tryz.c_ref6_LockFault (by simp) ?_
 unfold Tryz.l_ref6_LockFault
 refine au h [1,1,5,1,1,1,1,5,5] ?_; intro h
 refine bs h (fun c1 h => ?_) fun c1 h => ?_
 ·refine au h [2,1,1] ?_; intro h
  refine cb h (ref6_fault_spec n _ _) fun r1 k2 h => ?_
  refine ax 65 h [8,1] ?_; intro h
  cases h
  exact ⟨_, rfl, .refl _⟩
 ·refine au h [3,1,1,1,1,1,1] ?_; intro h
  refine Ev.loopW (β := Nat × Int) (fun v => ⟨[(0, lP a0), (2, wP 10100), (3, iP v.2)], [(10100, eP 26 2 [[iP 0, iP 0]])], 2⟩) (fun v => ref6_LockFault_l1 n a0 v.1 v.2 = some r) (fun v => v.1) (n, 0) (.nA) h ?_
  intro ⟨m1, x2⟩ h
  try dsimp only at h ⊢
  cases m1 with
  | zero => rw [ref6_LockFault_l1] at h; cases h
  | succ m1 =>
   rw [ref6_LockFault_l1] at h
   refine au h [1,1,1,1,1,5,5] ?_; intro h
   refine bs h (fun c3 h => ?_) fun c3 h => ?_
   ·refine au h [2,1,1,1,1,1,1,1,1,5,5,5] ?_; intro e3 k4 h
    refine cb h (ref6_in_spec n _ _ _) fun r4 k5 h => ?_
    refine aw h [5] ?_; intro h
    refine bs h (fun c6 h => ?_) fun c6 h => ?_
    ·refine au h [2,1,1,1] ?_; intro h
     refine cb h (ref6_fault_spec n _ _) fun r5 k7 h => ?_
     refine ax 65 h [8,1] ?_; intro h
     cases h
     exact ⟨_, rfl, .refl _⟩
    ·refine au h [3,1,1,1,1,1,6,5,5] ?_; intro h
     refine cb h (ref5_VersionFault_spec n _) fun r6 k8 h => ?_
     refine ax 65 h [5,8,1,1,1,8,8,5] ?_; intro h
     refine bs h (fun c9 h => ?_) fun c9 h => ?_
     ·refine au h [2,1,1,8,8,1] ?_; intro h
      refine cb h (ref6_fault_spec n _ _) fun r7 k10 h => ?_
      refine ax 65 h [8,1] ?_; intro h
      cases h
      exact ⟨_, rfl, .refl _⟩
     ·refine au h [3,1,1,1,1,1,1,6,5,5] ?_; intro h
      refine cb h (ref5_IsDigest_spec n _) fun r8 k11 h => ?_
      refine aw h [5] ?_; intro h
      refine bs h (fun c12 h => ?_) fun c12 h => ?_
      ·refine au h [2,1,1,1] ?_; intro h
       refine cb h (ref6_fault_spec n _ _) fun r9 k13 h => ?_
       refine ax 65 h [8,1] ?_; intro h
       cases h
       exact ⟨_, rfl, .refl _⟩
      ·refine au h [3,1] ?_; intro h
       refine Ev.seqJ (γ := Bool) (fun v => ⟨[(0, lP a0), (2, wP 10200), (3, iP x2), (61, .bool v)], [(10200, eP 26 2 [[iP 0, iP 0]])], 2⟩) (fun v => ref6_LockFault_j1 n x2 (ref6_LockFault_l1 n a0 m1) v = some r) ?_ ?_
       ·refine au h [1,1,5,1] ?_; intro h
        refine bs h (fun c17 h => ?_) fun c17 h => ?_
        ·refine aw h [2,1,2,1,2,6,2,5,2,5,2,1,2,1,2,7,2,5,2,5,2,5,2,5,2] ?_; intro x13 k18 e14 k19 h
         exact lf (decide (e3.Package ≤ e14.Package)) h
        ·refine aw h [3,3,3,3,3,3,3,3,3,3,3,3,3] ?_; intro h
         exact lf false h
       ·intro x10 h
        try dsimp only at h ⊢
        unfold ref6_LockFault_j1 at h
        refine bs h (fun c14 h => ?_) fun c14 h => ?_
        ·refine au h [2,1,1,1] ?_; intro h
         refine cb h (ref6_fault_spec n _ _) fun r11 k15 h => ?_
         refine ax 65 h [8,1] ?_; intro h
         cases h
         exact ⟨_, rfl, .refl _⟩
        ·refine au h [3,1,1,1,7,1] ?_; intro x12 k16 h
         exact lb (m1, x12) h
   ·refine au h [3,1,1,1,5,8,1] ?_; intro h
    cases h
    exact ⟨_, rfl, .refl _⟩
end Go.Proofs.YtpcmhhbocifbcaaGreatDoor
namespace Go.Proofs.YtpcmhhbocifbcaaGreatDoor
open Go.PW Go
theorem ref5_Digits_spec : ∀ (n : Nat) (a0 : Int) (r : (List UInt8)) (h : ref5_Digits n a0 = some r), PSpec Tryz.prog 78 [iP a0] (.str r) := by
 intro n
 induction n with
 | zero => intro a0 r h; rw [ref5_Digits] at h; cases h
 | succ n ih =>
 intro a0 r h
 rw [ref5_Digits] at h
 refine spec_of Tryz.c_ref5_Digits (by simp) ?_
 unfold Tryz.l_ref5_Digits
 refine au h [1,1,1,1,1,1,1,5] ?_; intro h
 refine bs h (fun c1 h => ?_) fun c1 h => ?_
 ·refine au h [2,1,1,1,1,7,5,1,1] ?_; intro x1 k2 s2 k3 h
  cases h
  exact ⟨_, rfl, .refl _⟩
 ·refine au h [3,1,1,1,1,7] ?_; intro x3 k4 h
  refine cb h (ih _) fun r4 k5 h => ?_
  refine ax 19 h [1,7,1,7,7,5,8,1,1] ?_; intro x5 k6 x6 k7 x7 k8 s8 k9 s9 k10 h
  cases h
  exact ⟨_, rfl, .refl _⟩
theorem ref5_VersionText_spec (n : Nat) (a0 : SMajorMinorPatchPre) (r : (List UInt8)) (h : ref5_VersionText n a0 = some r) : PSpec Tryz.prog 67 [.agg (SMajorMinorPatchPre.cells a0)] (.str r) := by
 unfold ref5_VersionText at h
 refine spec_of Tryz.c_ref5_VersionText (by simp) ?_
 unfold Tryz.l_ref5_VersionText
 refine au h [1,1,5,1,1,1,8,8] ?_; intro h
 refine cb h (ref5_Digits_spec n _) fun r1 k1 h => ?_
 refine aw h [8,8,8] ?_; intro s2 k2 h
 refine cb h (ref5_Digits_spec n _) fun r3 k3 h => ?_
 refine aw h [8,8,8,8] ?_; intro s4 k4 s5 k5 h
 refine cb h (ref5_Digits_spec n _) fun r6 k6 h => ?_
 refine ax 39 h [8,1,1,1,1,1,1] ?_; intro s7 k7 h
 refine Ev.loopW (β := Nat × (List UInt8) × Int) (fun v => ⟨[(1, wP 10100), (3, .str v.2.1), (4, iP v.2.2)], [(10100, eP 60 4 [[iP a0.Major, iP a0.Minor, iP a0.Patch, lP a0.Pre]])], 2⟩) (fun v => ref5_VersionText_l1 n a0 v.1 v.2.1 v.2.2 = some r) (fun v => v.1) (n, s7, 0) (.nA) h ?_
 intro ⟨m1, x8, x9⟩ h
 try dsimp only at h ⊢
 cases m1 with
 | zero => rw [ref5_VersionText_l1] at h; cases h
 | succ m1 =>
  rw [ref5_VersionText_l1] at h
  refine au h [1,1,1,1,8,8,5,5] ?_; intro h
  refine bs h (fun c8 h => ?_) fun c8 h => ?_
  ·refine au h [2,1,1,1] ?_; intro h
   refine Ev.seqJ (γ := List UInt8) (fun v => ⟨[(1, wP 10200), (3, .str v), (4, iP x9)], [(10200, eP 60 4 [[iP a0.Major, iP a0.Minor, iP a0.Patch, lP a0.Pre]])], 2⟩) (fun v => ref5_VersionText_j1 n a0 x9 (ref5_VersionText_l1 n a0 m1) v = some r) ?_ ?_
   ·refine au h [1,1,1,5] ?_; intro h
    refine bs h (fun c12 h => ?_) fun c12 h => ?_
    ·refine au h [2,1,1,8,1] ?_; intro s14 k13 h
     exact lf s14 h
    ·refine au h [3,1,1,8,1] ?_; intro s15 k14 h
     exact lf s15 h
   ·intro x10 h
    try dsimp only at h ⊢
    unfold ref5_VersionText_j1 at h
    refine au h [1,1,8,8,1,5,5,8,1,1,1,7,1] ?_; intro e11 k9 s12 k10 x13 k11 h
    exact lb (m1, s12, x13) h
  ·refine au h [3,1,1,1,1,1,1] ?_; intro h
   cases h
   exact ⟨_, rfl, .refl _⟩
end Go.Proofs.YtpcmhhbocifbcaaGreatDoor
namespace Go.Proofs.YtpcmhhbocifbcaaGreatDoor
open Go.PW Go
theorem ref6_LockLine_spec (n : Nat) (a0 : SPackageVersionDigest) (r : (List UInt8)) (h : ref6_LockLine n a0 = some r) : PSpec Tryz.prog 56 [.agg (SPackageVersionDigest.cells a0)] (.str r) := by
 unfold ref6_LockLine at h
 refine spec_of Tryz.c_ref6_LockLine (by simp) ?_
 unfold Tryz.l_ref6_LockLine
 refine au h [1,1,5,1,1,1,8,8] ?_; intro h
 refine cb h (ref5_Digits_spec n _) fun r1 k1 h => ?_
 refine aw h [8,8,8] ?_; intro s2 k2 h
 refine cb h (ref5_VersionText_spec n _) fun r3 k3 h => ?_
 refine aw h [8,8,8,8] ?_; intro s4 k4 s5 k5 h
 refine cb h (ref5_Digits_spec n _) fun r6 k6 h => ?_
 refine ax 16 h [8,1,1] ?_; intro s7 k7 h
 cases h
 exact ⟨_, rfl, .refl _⟩
theorem ref6_LockLines_spec (n : Nat) (a0 : List SPackageVersionDigest) (r : (List (List UInt8))) (h : ref6_LockLines n a0 = some r) : PSpec Tryz.prog 27 [lP a0] (lP r) := by
 unfold ref6_LockLines at h
 refine spec_of Tryz.c_ref6_LockLines (by simp) ?_
 unfold Tryz.l_ref6_LockLines
 refine au h [1,1,1,1,1,1,1,1,1,1,1] ?_; intro h
 refine Ev.loopW (β := Nat × (List (List UInt8)) × Int) (fun v => ⟨[(0, lP a0), (3, .own 10100 0), (4, iP v.2.2)], [(10100, eP 9 1 (mP v.2.1))], 2⟩) (fun v => ref6_LockLines_l1 n a0 v.1 v.2.1 v.2.2 = some r) (fun v => v.1) (n, ([] : List (List UInt8)), 0) ((Wk.ownNil 3 30100 9 1 rfl rfl true).trans (.nA)) h ?_
 intro ⟨m1, w1, x2⟩ h
 try dsimp only at h ⊢
 cases m1 with
 | zero => rw [ref6_LockLines_l1] at h; cases h
 | succ m1 =>
  rw [ref6_LockLines_l1] at h
  refine au h [1,1,1,1,1,5,5] ?_; intro h
  refine bs h (fun c1 h => ?_) fun c1 h => ?_
  ·refine au h [2,1,1,1,1,1,1,1,5,5] ?_; intro e3 k2 h
   refine cb h (ref6_LockLine_spec n _) fun r4 k3 h => ?_
   refine ax 20 h [5,7,1,1,1,7,1] ?_; intro w5 k4 x6 k5 h
   exact lb (m1, w5, x6) h
  ·refine au h [3,1,1,1,1,1,1] ?_; intro h
   cases h
   exact ⟨_, rfl, .refl _⟩
theorem ref6_words_spec (n : Nat) (a0 : List UInt8) (r : (List (List UInt8))) (h : ref6_words n a0 = some r) : PSpec Tryz.prog 58 [.str a0] (lP r) := by
 unfold ref6_words at h
 refine spec_of Tryz.c_ref6_words (by simp) ?_
 unfold Tryz.l_ref6_words
 refine au h [1,1,1,1,1,1,1,1,1,1,1,1,1,1] ?_; intro h
 refine Ev.loopW (β := Nat × (List (List UInt8)) × Int × Int) (fun v => ⟨[(0, .str a0), (3, .own 10100 0), (4, iP v.2.2.1), (5, iP v.2.2.2)], [(10100, eP 9 1 (mP v.2.1))], 2⟩) (fun v => ref6_words_l1 n a0 v.1 v.2.1 v.2.2.1 v.2.2.2 = some r) (fun v => v.1) (n, ([] : List (List UInt8)), 0, 0) ((Wk.ownNil 3 30100 9 1 rfl rfl true).trans (.nA)) h ?_
 intro ⟨m1, w1, x2, x3⟩ h
 try dsimp only at h ⊢
 cases m1 with
 | zero => rw [ref6_words_l1] at h; cases h
 | succ m1 =>
  rw [ref6_words_l1] at h
  refine au h [1,1,1,1,1,5,5] ?_; intro h
  refine bs h (fun c1 h => ?_) fun c1 h => ?_
  ·refine au h [2,1] ?_; intro h
   refine Ev.seqJ (γ := (List (List UInt8)) × Int) (fun v => ⟨[(0, .str a0), (3, .own 10200 0), (4, iP v.2), (5, iP x3)], [(10200, eP 9 1 (mP v.1))], 2⟩) (fun v => ref6_words_j1 n x3 (ref6_words_l1 n a0 m1) v.1 v.2 = some r) ?_ ?_
   ·refine Ev.block ?_
    refine Ev.seqJ (γ := Bool) (fun v => ⟨[(0, .str a0), (3, .own 10300 0), (4, iP x2), (5, iP x3), (21, .bool v)], [(10300, eP 9 1 (mP w1))], 2⟩) (fun v => ref6_words_j2 n a0 w1 x2 x3 (ref6_words_l1 n a0 m1) v = some r) ?_ ?_
    ·refine au h [1,1,1,5,5,1] ?_; intro h
     refine bs h (fun c7 h => ?_) fun c7 h => ?_
     ·refine aw h [3,3,3,3,2] ?_; intro h
      exact lf true h
     ·refine aw h [2,1,2,1,2,5,2,5,3] ?_; intro y11 k8 h
      exact lf (decide ((y11.toNat : Int) = 32)) h
    ·intro x7 h
     try dsimp only at h ⊢
     unfold ref6_words_j2 at h
     refine bs h (fun c3 h => ?_) fun c3 h => ?_
     ·refine au h [2,1,1,1,1,1,1,5,5,7,1,1,1,7,1] ?_; intro s8 k4 w9 k5 x10 k6 h
      exact lf (w9, x10) h
     ·refine au h [3,1] ?_; intro h
      exact lf (w1, x2) h
   ·intro ⟨w4, x5⟩ h
    try dsimp only at h ⊢
    unfold ref6_words_j1 at h
    refine au h [1,1,7,1] ?_; intro x6 k2 h
    exact lb (m1, w4, x5, x6) h
  ·refine au h [3,1,1,1,1,1,1] ?_; intro h
   cases h
   exact ⟨_, rfl, .refl _⟩
end Go.Proofs.YtpcmhhbocifbcaaGreatDoor
namespace Go.Proofs.YtpcmhhbocifbcaaGreatDoor
open Go.PW Go
theorem ref5_NumberOf_spec (n : Nat) (a0 : List UInt8) (a1 : Int) (r : Int) (h : ref5_NumberOf n a0 a1 = some r) : PSpec Tryz.prog 59 [.str a0, iP a1] (iP r) := by
 unfold ref5_NumberOf at h
 refine spec_of Tryz.c_ref5_NumberOf (by simp) ?_
 unfold Tryz.l_ref5_NumberOf
 refine au h [1,1,1,1] ?_; intro h
 refine Ev.seqJ (γ := Bool) (fun v => ⟨[(0, .str a0), (1, iP a1), (25, .bool v)], [], 2⟩) (fun v => ref5_NumberOf_j1 n a0 a1 v = some r) ?_ ?_
 ·refine au h [1,1] ?_; intro h
  refine cb h (ref5_Numeric_spec n _) fun r10 k10 h => ?_
  refine aw h [5,1] ?_; intro h
  refine bs h (fun c11 h => ?_) fun c11 h => ?_
  ·refine aw h [3,3,3,2,1,3,3,3,3,4,4,4,3,2] ?_; intro h
   exact lf true h
  ·refine aw h [2,1,2,5,2,5,3,1] ?_; intro h
   refine bs h (fun c12 h => ?_) fun c12 h => ?_
   ·refine aw h [3,3,3,3,4,4,4,3,2] ?_; intro h
    exact lf true h
   ·refine aw h [2,1,2,5,2,5,2,1] ?_; intro h
    refine bs h (fun c13 h => ?_) fun c13 h => ?_
    ·refine aw h [2,1,2,5,2,5,2,2,3] ?_; intro y11 k14 h
     exact lf (decide ((y11.toNat : Int) = 48)) h
    ·refine aw h [3,3,3,2,3,3] ?_; intro h
     exact lf false h
 ·intro x1 h
  try dsimp only at h ⊢
  unfold ref5_NumberOf_j1 at h
  refine bs h (fun c1 h => ?_) fun c1 h => ?_
  ·refine au h [2,1,1,1,1] ?_; intro h
   cases h
   exact ⟨_, rfl, .refl _⟩
  ·refine au h [3,1,1,1,1,1,1,1,1,1] ?_; intro h
   refine Ev.loopW (β := Nat × Int × Int) (fun v => ⟨[(0, .str a0), (1, iP a1), (5, iP v.2.1), (6, iP v.2.2)], [], 2⟩) (fun v => ref5_NumberOf_l1 n a0 a1 v.1 v.2.1 v.2.2 = some r) (fun v => v.1) (n, 0, 0) (.nA) h ?_
   intro ⟨m1, x2, x3⟩ h
   try dsimp only at h ⊢
   cases m1 with
   | zero => rw [ref5_NumberOf_l1] at h; cases h
   | succ m1 =>
    rw [ref5_NumberOf_l1] at h
    refine au h [1,1,1,1,1,5,5] ?_; intro h
    refine bs h (fun c2 h => ?_) fun c2 h => ?_
    ·refine au h [2,1,1,1,1,1,1,1,5] ?_; intro y4 k3 h
     refine W.bin (z := .int .u8 (ksub .u8 (y4.toNat : Int) 48)) rfl rfl rfl ?_
     refine ax 48 h [5,1,1,1,1,1,1,1,7,7,5] ?_; intro x5 k4 x6 k5 h
     refine bs h (fun c6 h => ?_) fun c6 h => ?_
     ·refine au h [2,1,1,1,1] ?_; intro h
      cases h
      exact ⟨_, rfl, .refl _⟩
     ·refine au h [3,1,1,1,7,1,7,1,1,1,7,1] ?_; intro x7 k7 x8 k8 x9 k9 h
      exact lb (m1, x8, x9) h
    ·refine au h [3,1,1,1,1,1,1] ?_; intro h
     cases h
     exact ⟨_, rfl, .refl _⟩
theorem ref5_until_spec (n : Nat) (a0 : List UInt8) (a1 : Int) (a2 : Int) (r : ((List UInt8) × (List UInt8))) (h : ref5_until n a0 a1 a2 = some r) : PSpec Tryz.prog 83 [.str a0, .int .u8 a1, .int .u8 a2] (.tup [.str r.1, .str r.2]) := by
 unfold ref5_until at h
 refine spec_of Tryz.c_ref5_until (by simp) ?_
 unfold Tryz.l_ref5_until
 refine au h [1,1,1,1,1,1,1] ?_; intro h
 refine Ev.seqJ (γ := Int) (fun v => ⟨[(0, .str a0), (8, iP v)], [], 2⟩) (fun v => ref5_until_j1 n a0 v = some r) ?_ ?_
 ·refine Ev.block ?_
  refine Ev.loopW (β := Nat × Int) (fun v => ⟨[(0, .str a0), (1, .int .u8 a1), (2, .int .u8 a2), (8, iP v.2)], [], 2⟩) (fun v => ref5_until_l1 n a0 a1 a2 v.1 v.2 = some r) (fun v => v.1) (n, 0) (.nA) h ?_
  intro ⟨m1, x4⟩ h
  try dsimp only at h ⊢
  cases m1 with
  | zero => rw [ref5_until_l1] at h; cases h
  | succ m1 =>
   rw [ref5_until_l1] at h
   refine Ev.seq ?_
   refine Ev.seqJ (γ := Bool) (fun v => ⟨[(0, .str a0), (1, .int .u8 a1), (2, .int .u8 a2), (8, iP x4), (26, .bool v)], [], 2⟩) (fun v => ref5_until_j2 n a0 x4 (ref5_until_l1 n a0 a1 a2 m1) v = some r) ?_ ?_
   ·refine au h [1,1,1,5,5,1] ?_; intro h
    refine bs h (fun c5 h => ?_) fun c5 h => ?_
    ·refine aw h [2,1,2,1,2,5,2,1,2,5,2,1] ?_; intro y7 k6 h
     refine bs h (fun c7 h => ?_) fun c7 h => ?_
     ·refine aw h [2,1,2,1,2,5,2,1,2,5,2] ?_; intro y8 k8 h
      exact lf (decide ((y8.toNat : Int) ≠ a2)) h
     ·refine aw h [3,3,3,3,3,3] ?_; intro h
      exact lf false h
    ·refine aw h [3,3,3,3,3,3,1,3,3,3,3,3,3] ?_; intro h
     exact lf false h
   ·intro x5 h
    try dsimp only at h ⊢
    unfold ref5_until_j2 at h
    refine bs h (fun c3 h => ?_) fun c3 h => ?_
    ·refine au h [2,1,1,1,1,7,1] ?_; intro x6 k4 h
     exact lb (m1, x6) h
    ·refine au h [3,1] ?_; intro h
     exact lf x4 h
 ·intro x1 h
  try dsimp only at h ⊢
  unfold ref5_until_j1 at h
  refine au h [1,1,1,1,7,1,1,6,1,1,1] ?_; intro s2 k1 s3 k2 h
  cases h
  exact ⟨_, rfl, .refl _⟩
theorem ref5_VersionOf_spec (n : Nat) (a0 : List UInt8) (r : (SMajorMinorPatchPre × Bool)) (h : ref5_VersionOf n a0 = some r) : PSpec Tryz.prog 60 [.str a0] (.tup [.agg (SMajorMinorPatchPre.cells r.1), .bool r.2]) := by
 unfold ref5_VersionOf at h
 refine spec_of Tryz.c_ref5_VersionOf (by simp) ?_
 unfold Tryz.l_ref5_VersionOf
 refine au h [1,1,5,1,1,1,5,1,1,1] ?_; intro h
 refine cb h (ref5_until_spec n _ _ _) fun r1 k1 h => ?_
 refine ax 71 h [1,5,5,1,1,1,1,1,1,6] ?_; intro h
 refine bs h (fun c2 h => ?_) fun c2 h => ?_
 ·refine au h [2,1,1,8,8,1,1] ?_; intro h
  cases h
  exact ⟨_, rfl, Le.tups (.cons (Le.aggs (.cons (.refl _) (.cons (.refl _) (.cons (.refl _) (.cons (.nils 1) (.nil))))) rfl) (.cons (.refl _) (.nil)))⟩
 ·refine au h [3,1,1,1,1,6] ?_; intro s2 k3 h
  refine cb h (ref5_until_spec n _ _ _) fun r3 k4 h => ?_
  refine ax 71 h [1,5,5,1,1,1,1,1,1,6] ?_; intro h
  refine bs h (fun c5 h => ?_) fun c5 h => ?_
  ·refine au h [2,1,1,8,8,1,1] ?_; intro h
   cases h
   exact ⟨_, rfl, Le.tups (.cons (Le.aggs (.cons (.refl _) (.cons (.refl _) (.cons (.refl _) (.cons (.nils 1) (.nil))))) rfl) (.cons (.refl _) (.nil)))⟩
  ·refine au h [3,1,1,1,1,6] ?_; intro s4 k6 h
   refine cb h (ref5_until_spec n _ _ _) fun r5 k7 h => ?_
   refine ax 71 h [1,5,5,1,1,1,1,1] ?_; intro h
   refine cb h (ref5_NumberOf_spec n _ _) fun r6 k8 h => ?_
   refine ax 71 h [8,8,1,1,1] ?_; intro h
   refine cb h (ref5_NumberOf_spec n _ _) fun r7 k9 h => ?_
   refine ax 71 h [8,8,1,1,1] ?_; intro h
   refine cb h (ref5_NumberOf_spec n _ _) fun r8 k10 h => ?_
   refine ax 71 h [8,8,1] ?_; intro h
   refine Ev.seqJ (γ := Bool) (fun v => ⟨[(0, .str r5.2), (2, wP 10100), (4, wP 10101), (48, .bool v)], [(10100, eP 60 4 [[iP 0, iP 0, iP 0, .nils]]), (10101, eP 60 4 [[iP r6, iP r7, iP r8, .nils]])], 2⟩) (fun v => ref5_VersionOf_j1 n r5 r6 r7 r8 v = some r) ?_ ?_
   ·refine au h [1,1,6,1] ?_; intro h
    refine bs h (fun c18 h => ?_) fun c18 h => ?_
    ·refine aw h [2,1,2,5,2,5,2] ?_; intro y17 k19 h
     exact lf (decide ((y17.toNat : Int) = 46)) h
    ·refine aw h [3,3,3,3] ?_; intro h
     exact lf false h
   ·intro x9 h
    try dsimp only at h ⊢
    unfold ref5_VersionOf_j1 at h
    refine bs h (fun c11 h => ?_) fun c11 h => ?_
    ·refine au h [2,1,1,5,8,1,1] ?_; intro h
     cases h
     exact ⟨_, rfl, Le.tups (.cons (Le.aggs (.cons (.refl _) (.cons (.refl _) (.cons (.refl _) (.cons (.nils 1) (.nil))))) rfl) (.cons (.refl _) (.nil)))⟩
    ·refine au h [3,1] ?_; intro h
     refine Ev.seqJ (γ := List (List UInt8)) (fun v => ⟨[(2, wP 10200), (4, wP 10201)], [(10200, eP 60 4 [[iP 0, iP 0, iP 0, .nils]]), (10201, ⟨0, 60, 4, [[iP r6, iP r7, iP r8, .own 10202 0]], false, false, false⟩), (10202, eP 9 1 (mP v))], 2⟩) (fun v => ref5_VersionOf_j2 n r6 r7 r8 v = some r) ?_ ?_
     ·refine Ev.block ?_
      refine Ev.loopW (β := Nat × (List UInt8) × (List (List UInt8))) (fun v => ⟨[(0, .str v.2.1), (2, wP 10300), (4, wP 10301)], [(10300, eP 60 4 [[iP 0, iP 0, iP 0, .nils]]), (10301, ⟨0, 60, 4, [[iP r6, iP r7, iP r8, .own 10302 0]], false, false, false⟩), (10302, eP 9 1 (mP v.2.2))], 2⟩) (fun v => ref5_VersionOf_l1 n r6 r7 r8 v.1 v.2.1 v.2.2 = some r) (fun v => v.1) (n, r5.2, ([] : List (List UInt8))) ((Wk.ownNilCell 10101 0 3 30302 9 1 rfl rfl rfl rfl rfl (by simp) true).trans (.nA)) h ?_
      intro ⟨m1, x12, w13⟩ h
      try dsimp only at h ⊢
      cases m1 with
      | zero => rw [ref5_VersionOf_l1] at h; cases h
      | succ m1 =>
       rw [ref5_VersionOf_l1] at h
       refine au h [1,1,1,1,6] ?_; intro h
       refine bs h (fun c14 h => ?_) fun c14 h => ?_
       ·refine au h [2,1,1,1,1,1,6] ?_; intro s14 k15 h
        refine cb h (ref5_until_spec n _ _ _) fun r15 k16 h => ?_
        refine ax 71 h [1,5,5,1,1,1,1,8,8,1,5,7,8,8,1,1,1] ?_; intro w16 k17 h
        exact lb (m1, r15.2, w16) h
       ·refine au h [3,1] ?_; intro h
        exact lf w13 h
     ·intro w10 h
      try dsimp only at h ⊢
      unfold ref5_VersionOf_j2 at h
      refine au h [1,1] ?_; intro h
      refine Ev.weak ?_ (Wk.frz 10202 0 rfl rfl)
      refine au h [1,8] ?_; intro h
      refine cb h (ref5_VersionFault_spec n _) fun r11 k12 h => ?_
      refine aw h [5,5] ?_; intro h
      refine bs h (fun c13 h => ?_) fun c13 h => ?_
      ·refine au h [2,1,1,5,8,1,1] ?_; intro h
       cases h
       exact ⟨_, rfl, Le.tups (.cons (Le.aggs (.cons (.refl _) (.cons (.refl _) (.cons (.refl _) (.cons (.nils 1) (.nil))))) rfl) (.cons (.refl _) (.nil)))⟩
      ·refine au h [3,1,1,1,8,8,1,1] ?_; intro h
       cases h
       exact ⟨_, rfl, .refl _⟩
theorem ref6_LockOf_spec (n : Nat) (a0 : List (List UInt8)) (r : ((List SPackageVersionDigest) × SCodeIndex)) (h : ref6_LockOf n a0 = some r) : PSpec Tryz.prog 29 [lP a0] (.tup [lP r.1, .agg (SCodeIndex.cells r.2)]) := by
 unfold ref6_LockOf at h
 refine spec_of Tryz.c_ref6_LockOf (by simp) ?_
 unfold Tryz.l_ref6_LockOf
 refine au h [1,1,1,5,1,1,1,1,5,5] ?_; intro h
 refine bs h (fun c1 h => ?_) fun c1 h => ?_
 ·refine au h [2,1,1] ?_; intro h
  refine cb h (ref6_fault_spec n _ _) fun r1 k2 h => ?_
  refine ax 74 h [1,8,1] ?_; intro h
  cases h
  exact ⟨_, rfl, Le.tups (.cons (.nils 6) (.cons (.refl _) (.nil)))⟩
 ·refine au h [3,1,1,1,1,1,1,1,1,1] ?_; intro h
  refine Ev.loopW (β := Nat × (List SPackageVersionDigest) × Int) (fun v => ⟨[(0, lP a0), (3, wP 10100), (4, .own 10101 0), (5, iP v.2.2)], [(10100, eP 26 2 [[iP 0, iP 0]]), (10101, eP 62 6 (mP v.2.1))], 2⟩) (fun v => ref6_LockOf_l1 n a0 v.1 v.2.1 v.2.2 = some r) (fun v => v.1) (n, ([] : List SPackageVersionDigest), 0) ((Wk.ownNil 4 30101 62 6 rfl rfl true).trans (.nA)) h ?_
  intro ⟨m1, w2, x3⟩ h
  try dsimp only at h ⊢
  cases m1 with
  | zero => rw [ref6_LockOf_l1] at h; cases h
  | succ m1 =>
   rw [ref6_LockOf_l1] at h
   refine au h [1,1,1,1,1,5,5] ?_; intro h
   refine bs h (fun c3 h => ?_) fun c3 h => ?_
   ·refine au h [2,1,1,1,1,1,1,1,5,5] ?_; intro e4 k4 h
    refine cb h (ref6_words_spec n _) fun r5 k5 h => ?_
    refine ax 74 h [1,1,1,1,1,5,5] ?_; intro h
    refine bs h (fun c6 h => ?_) fun c6 h => ?_
    ·refine au h [2,1,1,1] ?_; intro h
     refine cb h (ref6_fault_spec n _ _) fun r6 k7 h => ?_
     refine ax 74 h [1,8,1] ?_; intro h
     cases h
     exact ⟨_, rfl, Le.tups (.cons (.nils 6) (.cons (.refl _) (.nil)))⟩
    ·refine au h [3,1,1,1,1,5,5] ?_; intro e7 k8 h
     refine cb h (ref5_NumberOf_spec n _ _) fun r8 k9 h => ?_
     refine ax 74 h [1,1,1,1,5,5] ?_; intro e9 k10 h
     refine cb h (ref5_VersionOf_spec n _) fun r10 k11 h => ?_
     refine ax 74 h [1,5,5,5,8,1,1,1,1,5,5] ?_; intro e11 k12 h
     refine cb h (ref5_NumberOf_spec n _ _) fun r12 k13 h => ?_
     refine ax 74 h [1,1] ?_; intro h
     refine Ev.seqJ (γ := Bool) (fun v => ⟨[(0, lP a0), (3, wP 10200), (4, .own 10201 0), (5, iP x3), (7, iP r8), (8, wP 10202), (10, iP r12), (56, .bool v)], [(10200, eP 26 2 [[iP 0, iP 0]]), (10201, eP 62 6 (mP w2)), (10202, eP 60 4 [[iP r10.1.Major, iP r10.1.Minor, iP r10.1.Patch, lP r10.1.Pre]])], 2⟩) (fun v => ref6_LockOf_j1 n w2 x3 (ref6_LockOf_l1 n a0 m1) r8 r10 r12 v = some r) ?_ ?_
     ·refine au h [1,1,5,1] ?_; intro h
      refine bs h (fun c18 h => ?_) fun c18 h => ?_
      ·refine aw h [3,3,2,1,3,3,2] ?_; intro h
       exact lf true h
      ·refine aw h [2,1,2,5,3,1] ?_; intro h
       refine bs h (fun c19 h => ?_) fun c19 h => ?_
       ·refine aw h [3,3,2] ?_; intro h
        exact lf true h
       ·refine aw h [2,1,2,5,3] ?_; intro h
        exact lf (decide (r12 < 0)) h
     ·intro x13 h
      try dsimp only at h ⊢
      unfold ref6_LockOf_j1 at h
      refine bs h (fun c14 h => ?_) fun c14 h => ?_
      ·refine au h [2,1,1,1] ?_; intro h
       refine cb h (ref6_fault_spec n _ _) fun r14 k15 h => ?_
       refine ax 74 h [1,8,1] ?_; intro h
       cases h
       exact ⟨_, rfl, Le.tups (.cons (.nils 6) (.cons (.refl _) (.nil)))⟩
      ·refine au h [3,1,1,1,1,8,1,5,5,7,1,1,1,7,1] ?_; intro w15 k16 x16 k17 h
       exact lb (m1, w15, x16) h
   ·refine au h [3,1,1,1,1] ?_; intro h
    refine cb h (ref6_LockFault_spec n _) fun r17 k20 h => ?_
    refine ax 74 h [5,8,1,1,1,8,8,5] ?_; intro h
    refine bs h (fun c21 h => ?_) fun c21 h => ?_
    ·refine au h [2,1,1,8,1,8,1] ?_; intro h
     cases h
     exact ⟨_, rfl, Le.tups (.cons (.nils 6) (.cons (.refl _) (.nil)))⟩
    ·refine au h [3,1,1,1,1,8,1,8,1] ?_; intro h
     cases h
     exact ⟨_, rfl, .refl _⟩
theorem law6_LockfileTextMatchesSpec_spec (n : Nat) (a0 : List SPackageVersionDigest) (a1 : List (List UInt8)) (r : Bool) (h : law6_LockfileTextMatchesSpec n a0 a1 = some r) : PSpec Tryz.prog 5 [lP a0, lP a1] (.bool r) := by
 unfold law6_LockfileTextMatchesSpec at h
 refine spec_of Tryz.c_law6_LockfileTextMatchesSpec (by simp) ?_
 unfold Tryz.l_law6_LockfileTextMatchesSpec
 refine au h [1,1,1,1,1,1] ?_; intro h
 refine cb h (law6_locks_spec n) fun r1 k1 h => ?_
 refine aw h [5] ?_; intro h
 refine bs h (fun c2 h => ?_) fun c2 h => ?_
 ·refine au h [2,1,1,1,1] ?_; intro h
  cases h
  exact ⟨_, rfl, .refl _⟩
 ·refine au h [3,1,1,1,1,1] ?_; intro h
  refine cb h (law6_wideLock_spec n _) fun r2 k3 h => ?_
  refine W.nil ?_
  refine bs h (fun c4 h => ?_) fun c4 h => ?_
  ·refine au h [2,1,1,1,1] ?_; intro h
   cases h
   exact ⟨_, rfl, .refl _⟩
  ·refine au h [3,1,1,1,1] ?_; intro h
   refine cb h (ref6_LockFault_spec n _) fun r3 k5 h => ?_
   refine ax 65 h [5,8,1,1,1] ?_; intro h
   refine cb h (lockfile_Write_spec n _) fun r4 k6 h => ?_
   refine ax 65 h [1,5,5,5,1,8,1] ?_; intro h
   refine Ev.seqJ (γ := Bool) (fun v => ⟨[(1, lP a1), (5, wP 10100), (46, .bool v)], [(10100, eP 26 2 [[iP r3.Code, iP r3.Index]])], 2⟩) (fun v => law6_LockfileTextMatchesSpec_j1 n a1 v = some r) ?_ ?_
   ·refine au h [1,8,8,5,1] ?_; intro h
    refine bs h (fun c12 h => ?_) fun c12 h => ?_
    ·refine aw h [3,3,3,3,4,4,4,3,2,1,3,3,3,3,4,4,4,4,4,3,2] ?_; intro h
     exact lf true h
    ·refine aw h [2,8,2,8,2,5,2,1] ?_; intro h
     refine bs h (fun c13 h => ?_) fun c13 h => ?_
     ·refine aw h [2,1,2,5,2,5,2,2,3,1] ?_; intro h
      refine bs h (fun c14 h => ?_) fun c14 h => ?_
      ·refine aw h [3,3,3,3,4,4,4,4,4,3,2] ?_; intro h
       exact lf true h
      ·refine aw h [2,8,2,8,2,5,2,1] ?_; intro h
       refine bs h (fun c15 h => ?_) fun c15 h => ?_
       ·refine aw h [2,1,2,1,2] ?_; intro h
        refine cb h (ref6_LockLines_spec n _) fun r10 k16 h => ?_
        refine W.guardT rfl c15 ?_
        refine cb h (ref6_Strings_spec n _ _) fun r11 k17 h => ?_
        refine aw h [2,5,2,2,3] ?_; intro h
        exact lf (!r11) h
       ·refine aw h [3,3,3,3,3,2,3,3] ?_; intro h
        exact lf false h
     ·refine aw h [3,3,3,2,3,3,1,2,8,2,8,2,5,2,1] ?_; intro h
      refine bs h (fun c18 h => ?_) fun c18 h => ?_
      ·refine aw h [2,1,2,1,2] ?_; intro h
       refine cb h (ref6_LockLines_spec n _) fun r12 k19 h => ?_
       refine W.guardT rfl c18 ?_
       refine cb h (ref6_Strings_spec n _ _) fun r13 k20 h => ?_
       refine aw h [2,5,2,2,3] ?_; intro h
       exact lf (!r13) h
      ·refine aw h [3,3,3,3,3,2,3,3] ?_; intro h
       exact lf false h
   ·intro x5 h
    try dsimp only at h ⊢
    unfold law6_LockfileTextMatchesSpec_j1 at h
    refine bs h (fun c7 h => ?_) fun c7 h => ?_
    ·refine au h [2,1,1,1,1] ?_; intro h
     cases h
     exact ⟨_, rfl, .refl _⟩
    ·refine au h [3,1,1,1,1] ?_; intro h
     refine cb h (lockfile_Read_spec n _) fun r6 k8 h => ?_
     refine ax 65 h [1,5,5,5,1,8,1,1,1] ?_; intro h
     refine cb h (ref6_LockOf_spec n _) fun r7 k9 h => ?_
     refine aw h [1,5,5,1,8] ?_; intro h
     refine Ev.seqJ (γ := Bool) (fun v => ⟨[(4, .bool v)], [], 2⟩) (fun v => law6_LockfileTextMatchesSpec_j2 n v = some r) ?_ ?_
     ·refine au h [1,8,8,5,1] ?_; intro h
      refine bs h (fun c10 h => ?_) fun c10 h => ?_
      ·refine aw h [2,1,2,1,2] ?_; intro h
       refine cb h (ref6_SameLock_spec n _ _) fun r9 k11 h => ?_
       refine aw h [2,1] ?_; intro h
       exact lf r9 h
      ·refine aw h [3,3,3,3,1] ?_; intro h
       exact lf false h
     ·intro x8 h
      try dsimp only at h ⊢
      unfold law6_LockfileTextMatchesSpec_j2 at h
      refine Ev.ret ?_
      cases h
      exact ⟨_, rfl, .refl _⟩
theorem law6_LockfileTextsAreCanonical_spec (n : Nat) (a0 : List SPackageVersionDigest) (a1 : List (List UInt8)) (r : Bool) (h : law6_LockfileTextsAreCanonical n a0 a1 = some r) : PSpec Tryz.prog 6 [lP a0, lP a1] (.bool r) := by
 unfold law6_LockfileTextsAreCanonical at h
 refine spec_of Tryz.c_law6_LockfileTextsAreCanonical (by simp) ?_
 unfold Tryz.l_law6_LockfileTextsAreCanonical
 refine au h [1,1,1,1,1,1] ?_; intro h
 refine cb h (law6_locks_spec n) fun r1 k1 h => ?_
 refine aw h [5] ?_; intro h
 refine bs h (fun c2 h => ?_) fun c2 h => ?_
 ·refine au h [2,1,1,1,1] ?_; intro h
  cases h
  exact ⟨_, rfl, .refl _⟩
 ·refine au h [3,1,1,1,1,1] ?_; intro h
  refine cb h (law6_wideLock_spec n _) fun r2 k3 h => ?_
  refine W.nil ?_
  refine bs h (fun c4 h => ?_) fun c4 h => ?_
  ·refine au h [2,1,1,1,1] ?_; intro h
   cases h
   exact ⟨_, rfl, .refl _⟩
  ·refine au h [3,1,1,1,1] ?_; intro h
   refine cb h (lockfile_Write_spec n _) fun r3 k5 h => ?_
   refine ax 64 h [1,5,5,5,1,8,1,1,1] ?_; intro h
   refine cb h (lockfile_Read_spec n _) fun r4 k6 h => ?_
   refine ax 64 h [1,5,5,5,1,8,1] ?_; intro h
   refine Ev.seqJ (γ := Bool) (fun v => ⟨[(1, lP a1), (40, .bool v)], [], 2⟩) (fun v => law6_LockfileTextsAreCanonical_j1 n a1 v = some r) ?_ ?_
   ·refine au h [1,8,8,5,1] ?_; intro h
    refine bs h (fun c13 h => ?_) fun c13 h => ?_
    ·refine aw h [2,8,2,8,2,5,2,1] ?_; intro h
     refine bs h (fun c14 h => ?_) fun c14 h => ?_
     ·refine aw h [3,3,3,3,2,2,2] ?_; intro h
      exact lf true h
     ·refine aw h [2,1,2,1,2] ?_; intro h
      refine cb h (ref6_SameLock_spec n _ _) fun r10 k15 h => ?_
      refine aw h [2,5,2,3,2] ?_; intro h
      exact lf (!r10) h
    ·refine aw h [3,3,3,3,4,4,4,4,3,3] ?_; intro h
     exact lf false h
   ·intro x5 h
    try dsimp only at h ⊢
    unfold law6_LockfileTextsAreCanonical_j1 at h
    refine bs h (fun c7 h => ?_) fun c7 h => ?_
    ·refine au h [2,1,1,1,1] ?_; intro h
     cases h
     exact ⟨_, rfl, .refl _⟩
    ·refine au h [3,1,1,1,1] ?_; intro h
     refine cb h (lockfile_Read_spec n _) fun r6 k8 h => ?_
     refine ax 64 h [1,5,5,5,1,8,1,1,1] ?_; intro h
     refine cb h (lockfile_Write_spec n _) fun r7 k9 h => ?_
     refine aw h [1,5,5,5,1,8] ?_; intro h
     refine Ev.seqJ (γ := Bool) (fun v => ⟨[(4, .bool v)], [], 2⟩) (fun v => law6_LockfileTextsAreCanonical_j2 n v = some r) ?_ ?_
     ·refine au h [1,8,8,5,1] ?_; intro h
      refine bs h (fun c10 h => ?_) fun c10 h => ?_
      ·refine aw h [3,3,3,3,4,4,4,3,2,1] ?_; intro h
       exact lf true h
      ·refine aw h [2,8,2,8,2,5,2,1] ?_; intro h
       refine bs h (fun c11 h => ?_) fun c11 h => ?_
       ·refine aw h [2,1,2,1,2] ?_; intro h
        refine cb h (ref6_Strings_spec n _ _) fun r9 k12 h => ?_
        refine aw h [2,2,3,1] ?_; intro h
        exact lf r9 h
       ·refine aw h [3,3,3,2,3,3,1] ?_; intro h
        exact lf false h
     ·intro x8 h
      try dsimp only at h ⊢
      unfold law6_LockfileTextsAreCanonical_j2 at h
      refine Ev.ret ?_
      cases h
      exact ⟨_, rfl, .refl _⟩
end Go.Proofs.YtpcmhhbocifbcaaGreatDoor
