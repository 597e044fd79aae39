/- The functions compute what the texts of D say. Laid by a program (wip/gen/dec.py). -/
import Derived.Test.YtlkknmhhefjmjaaGreatDoorPwAuto
import Derived.Test.YtlkknmhhefjmjaaGreatDoorD
import Derived.Test.YtlkknmhhefjmjaaGreatDoorWA
set_option linter.unusedVariables false
set_option linter.unusedSimpArgs false
namespace Go.Proofs.YtlkknmhhefjmjaaGreatDoor
open Go.PW Go
theorem ref1_At_spec (n : Nat) (a0 : Int) (a1 : Int) (r : SCodeIndex) (h : ref1_At n a0 a1 = some r) : PSpec Tryz.prog 103 [iP a0, iP a1] (.agg (SCodeIndex.cells r)) := by
 unfold ref1_At at h
 refine spec_of Tryz.c_ref1_At (by simp) ?_
 unfold Tryz.l_ref1_At
 refine au h [1,1,5,1,1,1,1,5,8,1] ?_; intro h
 cases h
 exact ⟨_, rfl, .refl _⟩
set_option maxHeartbeats 4000000 in
theorem ref2_pathByte_spec (n : Nat) (a0 : Int) (r : Bool) (h : ref2_pathByte n a0 = some r) : PSpec Tryz.prog 143 [.int .u8 a0] (.bool r) := by
 unfold ref2_pathByte at h
 refine spec_of Tryz.c_ref2_pathByte (by simp) ?_
 unfold Tryz.l_ref2_pathByte
 refine au h [1,1,1] ?_; intro h
 refine Ev.seqJ (γ := Bool) (fun v => ⟨[(2, .bool v)], [], 2⟩) (fun v => ref2_pathByte_j1 n v = some r) ?_ ?_
 ·refine au h [1,1,5,1] ?_; intro h
  refine bs h (fun c1 h => ?_) fun c1 h => ?_
  ·refine aw h [2,1,2,5,2,1] ?_; intro h
   refine bs h (fun c2 h => ?_) fun c2 h => ?_
   ·refine aw h [3,3,3,4,4,3,2,1,3,3,3,4,4,3,2,1,3,3,2,1,3,3,2,1,3,3,2,1] ?_; intro h
    exact lf true h
   ·refine aw h [2,1,2,5,2,1] ?_; intro h
    refine bs h (fun c3 h => ?_) fun c3 h => ?_
    ·refine aw h [2,1,2,5,2,2,3,1] ?_; intro h
     refine bs h (fun c4 h => ?_) fun c4 h => ?_
     ·refine aw h [3,3,3,4,4,3,2,1,3,3,2,1,3,3,2,1,3,3,2,1] ?_; intro h
      exact lf true h
     ·refine aw h [2,1,2,5,2,1] ?_; intro h
      refine bs h (fun c5 h => ?_) fun c5 h => ?_
      ·refine aw h [2,1,2,5,2,2,3,1] ?_; intro h
       refine bs h (fun c6 h => ?_) fun c6 h => ?_
       ·refine aw h [3,3,2,1,3,3,2,1,3,3,2,1] ?_; intro h
        exact lf true h
       ·refine aw h [2,1,2,5,3,1] ?_; intro h
        refine bs h (fun c7 h => ?_) fun c7 h => ?_
        ·refine aw h [3,3,2,1,3,3,2,1] ?_; intro h
         exact lf true h
        ·refine aw h [2,1,2,5,3,1] ?_; intro h
         refine bs h (fun c8 h => ?_) fun c8 h => ?_
         ·refine aw h [3,3,2,1] ?_; intro h
          exact lf true h
         ·refine aw h [2,1,2,5,3,1] ?_; intro h
          exact lf (decide (a0 = 45)) h
      ·refine aw h [3,3,2,3,3,1,2,1,2,5,3,1] ?_; intro h
       refine bs h (fun c9 h => ?_) fun c9 h => ?_
       ·refine aw h [3,3,2,1,3,3,2,1] ?_; intro h
        exact lf true h
       ·refine aw h [2,1,2,5,3,1] ?_; intro h
        refine bs h (fun c10 h => ?_) fun c10 h => ?_
        ·refine aw h [3,3,2,1] ?_; intro h
         exact lf true h
        ·refine aw h [2,1,2,5,3,1] ?_; intro h
         exact lf (decide (a0 = 45)) h
    ·refine aw h [3,3,2,3,3,1,2,1,2,5,2,1] ?_; intro h
     refine bs h (fun c11 h => ?_) fun c11 h => ?_
     ·refine aw h [2,1,2,5,2,2,3,1] ?_; intro h
      refine bs h (fun c12 h => ?_) fun c12 h => ?_
      ·refine aw h [3,3,2,1,3,3,2,1,3,3,2,1] ?_; intro h
       exact lf true h
      ·refine aw h [2,1,2,5,3,1] ?_; intro h
       refine bs h (fun c13 h => ?_) fun c13 h => ?_
       ·refine aw h [3,3,2,1,3,3,2,1] ?_; intro h
        exact lf true h
       ·refine aw h [2,1,2,5,3,1] ?_; intro h
        refine bs h (fun c14 h => ?_) fun c14 h => ?_
        ·refine aw h [3,3,2,1] ?_; intro h
         exact lf true h
        ·refine aw h [2,1,2,5,3,1] ?_; intro h
         exact lf (decide (a0 = 45)) h
     ·refine aw h [3,3,2,3,3,1,2,1,2,5,3,1] ?_; intro h
      refine bs h (fun c15 h => ?_) fun c15 h => ?_
      ·refine aw h [3,3,2,1,3,3,2,1] ?_; intro h
       exact lf true h
      ·refine aw h [2,1,2,5,3,1] ?_; intro h
       refine bs h (fun c16 h => ?_) fun c16 h => ?_
       ·refine aw h [3,3,2,1] ?_; intro h
        exact lf true h
       ·refine aw h [2,1,2,5,3,1] ?_; intro h
        exact lf (decide (a0 = 45)) h
  ·refine aw h [3,3,3,1,2,1,2,5,2,1] ?_; intro h
   refine bs h (fun c17 h => ?_) fun c17 h => ?_
   ·refine aw h [2,1,2,5,2,2,3,1] ?_; intro h
    refine bs h (fun c18 h => ?_) fun c18 h => ?_
    ·refine aw h [3,3,3,4,4,3,2,1,3,3,2,1,3,3,2,1,3,3,2,1] ?_; intro h
     exact lf true h
    ·refine aw h [2,1,2,5,2,1] ?_; intro h
     refine bs h (fun c19 h => ?_) fun c19 h => ?_
     ·refine aw h [2,1,2,5,2,2,3,1] ?_; intro h
      refine bs h (fun c20 h => ?_) fun c20 h => ?_
      ·refine aw h [3,3,2,1,3,3,2,1,3,3,2,1] ?_; intro h
       exact lf true h
      ·refine aw h [2,1,2,5,3,1] ?_; intro h
       refine bs h (fun c21 h => ?_) fun c21 h => ?_
       ·refine aw h [3,3,2,1,3,3,2,1] ?_; intro h
        exact lf true h
       ·refine aw h [2,1,2,5,3,1] ?_; intro h
        refine bs h (fun c22 h => ?_) fun c22 h => ?_
        ·refine aw h [3,3,2,1] ?_; intro h
         exact lf true h
        ·refine aw h [2,1,2,5,3,1] ?_; intro h
         exact lf (decide (a0 = 45)) h
     ·refine aw h [3,3,2,3,3,1,2,1,2,5,3,1] ?_; intro h
      refine bs h (fun c23 h => ?_) fun c23 h => ?_
      ·refine aw h [3,3,2,1,3,3,2,1] ?_; intro h
       exact lf true h
      ·refine aw h [2,1,2,5,3,1] ?_; intro h
       refine bs h (fun c24 h => ?_) fun c24 h => ?_
       ·refine aw h [3,3,2,1] ?_; intro h
        exact lf true h
       ·refine aw h [2,1,2,5,3,1] ?_; intro h
        exact lf (decide (a0 = 45)) h
   ·refine aw h [3,3,2,3,3,1,2,1,2,5,2,1] ?_; intro h
    refine bs h (fun c25 h => ?_) fun c25 h => ?_
    ·refine aw h [2,1,2,5,2,2,3,1] ?_; intro h
     refine bs h (fun c26 h => ?_) fun c26 h => ?_
     ·refine aw h [3,3,2,1,3,3,2,1,3,3,2,1] ?_; intro h
      exact lf true h
     ·refine aw h [2,1,2,5,3,1] ?_; intro h
      refine bs h (fun c27 h => ?_) fun c27 h => ?_
      ·refine aw h [3,3,2,1,3,3,2,1] ?_; intro h
       exact lf true h
      ·refine aw h [2,1,2,5,3,1] ?_; intro h
       refine bs h (fun c28 h => ?_) fun c28 h => ?_
       ·refine aw h [3,3,2,1] ?_; intro h
        exact lf true h
       ·refine aw h [2,1,2,5,3,1] ?_; intro h
        exact lf (decide (a0 = 45)) h
    ·refine aw h [3,3,2,3,3,1,2,1,2,5,3,1] ?_; intro h
     refine bs h (fun c29 h => ?_) fun c29 h => ?_
     ·refine aw h [3,3,2,1,3,3,2,1] ?_; intro h
      exact lf true h
     ·refine aw h [2,1,2,5,3,1] ?_; intro h
      refine bs h (fun c30 h => ?_) fun c30 h => ?_
      ·refine aw h [3,3,2,1] ?_; intro h
       exact lf true h
      ·refine aw h [2,1,2,5,3,1] ?_; intro h
       exact lf (decide (a0 = 45)) h
 ·intro x1 h
  try dsimp only at h ⊢
  unfold ref2_pathByte_j1 at h
  refine Ev.ret ?_
  cases h
  exact ⟨_, rfl, .refl _⟩
theorem ref2_PathValid_spec (n : Nat) (a0 : List UInt8) (r : Bool) (h : ref2_PathValid n a0 = some r) : PSpec Tryz.prog 104 [.str a0] (.bool r) := by
 unfold ref2_PathValid at h
 refine spec_of Tryz.c_ref2_PathValid (by simp) ?_
 unfold Tryz.l_ref2_PathValid
 refine au h [1,1,1,1,1,1,1,5,5] ?_; intro h
 refine bs h (fun c1 h => ?_) fun c1 h => ?_
 ·refine au h [2,1,1,1,1] ?_; intro h
  cases h
  exact ⟨_, rfl, .refl _⟩
 ·refine au h [3,1,1,1,1,5,1,1,1,1,1,5,7,1,1] ?_; intro x1 k2 h
  refine Ev.loopW (β := Nat × Int × Int) (fun v => ⟨[(0, .str a0), (3, iP v.2.1), (4, iP v.2.2)], [], 2⟩) (fun v => ref2_PathValid_l1 n a0 v.1 v.2.1 v.2.2 = some r) (fun v => v.1) (n, (a0.length : Int), x1) (.nA) h ?_
  intro ⟨m1, x2, x3⟩ h
  try dsimp only at h ⊢
  cases m1 with
  | zero => rw [ref2_PathValid_l1] at h; cases h
  | succ m1 =>
   rw [ref2_PathValid_l1] at h
   refine au h [1,1,1,1,5] ?_; intro h
   refine bs h (fun c3 h => ?_) fun c3 h => ?_
   ·refine au h [2,1] ?_; intro h
    refine Ev.seqJ (γ := Int) (fun v => ⟨[(0, .str a0), (3, iP v), (4, iP x3)], [], 2⟩) (fun v => ref2_PathValid_j1 n x3 (ref2_PathValid_l1 n a0 m1) v = some r) ?_ ?_
    ·refine au h [1,1] ?_; intro h
     refine Ev.seqJ (γ := Bool) (fun v => ⟨[(0, .str a0), (3, iP x2), (4, iP x3), (25, .bool v)], [], 2⟩) (fun v => ref2_PathValid_j2 n a0 x2 x3 (ref2_PathValid_l1 n a0 m1) v = some r) ?_ ?_
     ·refine au h [1,1,5,1] ?_; intro h
      refine bs h (fun c14 h => ?_) fun c14 h => ?_
      ·refine aw h [2,1,2,1,2,5,2,5,2] ?_; intro y12 k15 h
       exact lf (decide ((y12.toNat : Int) ≠ 47)) h
      ·refine aw h [3,3,3,3,3] ?_; intro h
       exact lf false h
     ·intro x6 h
      try dsimp only at h ⊢
      unfold ref2_PathValid_j2 at h
      refine bs h (fun c5 h => ?_) fun c5 h => ?_
      ·refine au h [2,1,1,1,1,1,5] ?_; intro y7 k6 h
       refine cb h (ref2_pathByte_spec n _) fun r8 k7 h => ?_
       refine aw h [5] ?_; intro h
       refine bs h (fun c8 h => ?_) fun c8 h => ?_
       ·refine au h [2,1,1,1,1] ?_; intro h
        cases h
        exact ⟨_, rfl, .refl _⟩
       ·refine au h [3,1,1] ?_; intro h
        exact lf x2 h
      ·refine au h [3,1,1,1,1,1,7,1,5,1,1] ?_; intro x9 k9 s10 k10 h
       refine Ev.seqJ (γ := Bool) (fun v => ⟨[(0, .str a0), (4, iP x3), (45, .bool v)], [], 2⟩) (fun v => ref2_PathValid_j3 n x3 (ref2_PathValid_l1 n a0 m1) v = some r) ?_ ?_
       ·refine au h [1,1,6,1] ?_; intro h
        refine bs h (fun c12 h => ?_) fun c12 h => ?_
        ·refine aw h [3,3,2,1,3,3,2] ?_; intro h
         exact lf true h
        ·refine aw h [2,1,2,6,3,1] ?_; intro h
         refine bs h (fun c13 h => ?_) fun c13 h => ?_
         ·refine aw h [3,3,2] ?_; intro h
          exact lf true h
         ·refine aw h [2,1,2,6,3] ?_; intro h
          exact lf (decide (s10 = ([46, 46] : List UInt8))) h
       ·intro x11 h
        try dsimp only at h ⊢
        unfold ref2_PathValid_j3 at h
        refine bs h (fun c11 h => ?_) fun c11 h => ?_
        ·refine au h [2,1,1,1,1] ?_; intro h
         cases h
         exact ⟨_, rfl, .refl _⟩
        ·refine au h [3,1,1,1,1] ?_; intro h
         exact lf x3 h
    ·intro x4 h
     try dsimp only at h ⊢
     unfold ref2_PathValid_j1 at h
     refine au h [1,1,7,1] ?_; intro x5 k4 h
     exact lb (m1, x4, x5) h
   ·refine au h [3,1,1,1,1,1] ?_; intro h
    cases h
    exact ⟨_, rfl, .refl _⟩
theorem ref2_Related_spec : ∀ (n : Nat) (a0 : List UInt8) (a1 : List UInt8) (r : Bool) (h : ref2_Related n a0 a1 = some r), PSpec Tryz.prog 105 [.str a0, .str a1] (.bool r) := by
 intro n
 induction n with
 | zero => intro a0 a1 r h; rw [ref2_Related] at h; cases h
 | succ n ih =>
 intro a0 a1 r h
 rw [ref2_Related] at h
 refine spec_of Tryz.c_ref2_Related (by simp) ?_
 unfold Tryz.l_ref2_Related
 refine au h [1,1,1,1,1,1,1,5,1,5,5] ?_; intro h
 refine bs h (fun c1 h => ?_) fun c1 h => ?_
 ·refine au h [2,1,1,1,1] ?_; intro h
  refine cb h (ih _ _) fun r1 k2 h => ?_
  refine ax 33 h [1,1] ?_; intro h
  cases h
  exact ⟨_, rfl, .refl _⟩
 ·refine au h [3,1] ?_; intro h
  refine Ev.seqJ (γ := Bool) (fun v => ⟨[(4, .bool v)], [], 2⟩) (fun v => ref2_Related_j1 n v = some r) ?_ ?_
  ·refine au h [1,1,1,5,7,1,6,1] ?_; intro s3 k3 h
   refine bs h (fun c4 h => ?_) fun c4 h => ?_
   ·refine aw h [2,1,2,5,2,1,2,5,2,5,2,1] ?_; intro h
    refine bs h (fun c5 h => ?_) fun c5 h => ?_
    ·refine aw h [3,3,3,3,3,2,2,2,1] ?_; intro h
     exact lf true h
    ·refine aw h [2,1,2,1,2,5,2,5,2,5,2,3,2,1] ?_; intro y4 k6 h
     exact lf (decide ((y4.toNat : Int) = 47)) h
   ·refine aw h [3,3,3,3,3,3,4,4,4,4,4,3,3,1] ?_; intro h
    exact lf false h
  ·intro x2 h
   try dsimp only at h ⊢
   unfold ref2_Related_j1 at h
   refine Ev.ret ?_
   cases h
   exact ⟨_, rfl, .refl _⟩
theorem ref1_LinesFault_spec (n : Nat) (a0 : List (List UInt8)) (r : SCodeIndex) (h : ref1_LinesFault n a0 = some r) : PSpec Tryz.prog 144 [lP a0] (.agg (SCodeIndex.cells r)) := by
 unfold ref1_LinesFault at h
 refine spec_of Tryz.c_ref1_LinesFault (by simp) ?_
 unfold Tryz.l_ref1_LinesFault
 refine au h [1,1,5,1,1,1,1,5,5] ?_; intro h
 refine bs h (fun c1 h => ?_) fun c1 h => ?_
 ·refine au h [2,1,1] ?_; intro h
  refine cb h (ref1_At_spec n _ _) fun r1 k2 h => ?_
  refine ax 42 h [8,1] ?_; intro h
  cases h
  exact ⟨_, rfl, .refl _⟩
 ·refine au h [3,1,1,1,1,1,1] ?_; intro h
  refine Ev.loopW (β := Nat × Int) (fun v => ⟨[(0, lP a0), (2, wP 10100), (3, iP v.2)], [(10100, eP 31 2 [[iP 0, iP 0]])], 2⟩) (fun v => ref1_LinesFault_l1 n a0 v.1 v.2 = some r) (fun v => v.1) (n, 0) (.nA) h ?_
  intro ⟨m1, x2⟩ h
  try dsimp only at h ⊢
  cases m1 with
  | zero => rw [ref1_LinesFault_l1] at h; cases h
  | succ m1 =>
   rw [ref1_LinesFault_l1] at h
   refine au h [1,1,1,1,1,5,5] ?_; intro h
   refine bs h (fun c3 h => ?_) fun c3 h => ?_
   ·refine au h [2,1,1,1,1,1,1,1,1,5,5,5,5] ?_; intro e3 k4 h
    refine bs h (fun c5 h => ?_) fun c5 h => ?_
    ·refine au h [2,1,1,1] ?_; intro h
     refine cb h (ref1_At_spec n _ _) fun r4 k6 h => ?_
     refine ax 42 h [8,1] ?_; intro h
     cases h
     exact ⟨_, rfl, .refl _⟩
    ·refine au h [3,1,1,1,1,1] ?_; intro h
     refine Ev.loopW (β := Nat × Int) (fun v => ⟨[(0, lP a0), (2, wP 10200), (3, iP x2), (4, iP v.2)], [(10200, eP 31 2 [[iP 0, iP 0]])], 2⟩) (fun v => ref1_LinesFault_l2 n x2 (ref1_LinesFault_l1 n a0 m1) e3 v.1 v.2 = some r) (fun v => v.1) (n, 0) (.nA) h ?_
     intro ⟨m2, x5⟩ h
     try dsimp only at h ⊢
     cases m2 with
     | zero => rw [ref1_LinesFault_l2] at h; cases h
     | succ m2 =>
      rw [ref1_LinesFault_l2] at h
      refine au h [1,1,1,1,1,1,6,5,5,5] ?_; intro h
      refine bs h (fun c7 h => ?_) fun c7 h => ?_
      ·refine au h [2,1,1,1,1,1,1,1,6,5,1,5,5] ?_; intro y6 k8 h
       refine bs h (fun c9 h => ?_) fun c9 h => ?_
       ·refine au h [2,1,1,1] ?_; intro h
        refine cb h (ref1_At_spec n _ _) fun r7 k10 h => ?_
        refine ax 42 h [8,1] ?_; intro h
        cases h
        exact ⟨_, rfl, .refl _⟩
       ·refine au h [3,1,1,1,7,1] ?_; intro x8 k11 h
        exact lb (m2, x8) h
      ·refine au h [3,1,1,1,7,1] ?_; intro x9 k12 h
       exact lb (m1, x9) h
   ·refine au h [3,1,1,1,5,8,1] ?_; intro h
    cases h
    exact ⟨_, rfl, .refl _⟩
theorem ref1_LinesCode_spec (n : Nat) (a0 : List (List UInt8)) (r : Int) (h : ref1_LinesCode n a0 = some r) : PSpec Tryz.prog 106 [lP a0] (iP r) := by
 unfold ref1_LinesCode at h
 refine spec_of Tryz.c_ref1_LinesCode (by simp) ?_
 unfold Tryz.l_ref1_LinesCode
 refine au h [1,1,1,1,1,1] ?_; intro h
 refine cb h (ref1_LinesFault_spec n _) fun r1 k1 h => ?_
 refine ax 6 h [5,1,1] ?_; intro h
 cases h
 exact ⟨_, rfl, .refl _⟩
theorem ref2_TreeFault_spec (n : Nat) (a0 : SFiles) (r : SCodeIndex) (h : ref2_TreeFault n a0 = some r) : PSpec Tryz.prog 50 [.agg (SFiles.cells a0)] (.agg (SCodeIndex.cells r)) := by
 unfold ref2_TreeFault at h
 refine spec_of Tryz.c_ref2_TreeFault (by simp) ?_
 unfold Tryz.l_ref2_TreeFault
 refine au h [1,1,5,5,1,1,1,8,8,5,5] ?_; intro h
 refine bs h (fun c1 h => ?_) fun c1 h => ?_
 ·refine au h [2,1,1] ?_; intro h
  refine cb h (ref1_At_spec n _ _) fun r1 k2 h => ?_
  refine ax 71 h [8,1] ?_; intro h
  cases h
  exact ⟨_, rfl, .refl _⟩
 ·refine au h [3,1,1,1,1,1,1] ?_; intro h
  refine Ev.loopW (β := Nat × Int) (fun v => ⟨[(1, wP 10100), (2, wP 10101), (3, iP v.2)], [(10100, eP 25 1 [[lP a0.Files]]), (10101, eP 31 2 [[iP 0, iP 0]])], 2⟩) (fun v => ref2_TreeFault_l1 n a0 v.1 v.2 = some r) (fun v => v.1) (n, 0) (.nA) h ?_
  intro ⟨m1, x2⟩ h
  try dsimp only at h ⊢
  cases m1 with
  | zero => rw [ref2_TreeFault_l1] at h; cases h
  | succ m1 =>
   rw [ref2_TreeFault_l1] at h
   refine au h [1,1,1,1,8,8,5,5] ?_; intro h
   refine bs h (fun c3 h => ?_) fun c3 h => ?_
   ·refine au h [2,1,1,1,1,1,8,8,1,5,5,5,8,1,1,1,8,8] ?_; intro e3 k4 h
    refine cb h (ref2_PathValid_spec n _) fun r4 k5 h => ?_
    refine aw h [5] ?_; intro h
    refine bs h (fun c6 h => ?_) fun c6 h => ?_
    ·refine au h [2,1,1,1] ?_; intro h
     refine cb h (ref1_At_spec n _ _) fun r5 k7 h => ?_
     refine ax 71 h [8,1] ?_; intro h
     cases h
     exact ⟨_, rfl, .refl _⟩
    ·refine au h [3,1,1] ?_; intro h
     refine Ev.seqJ (γ := Bool) (fun v => ⟨[(1, wP 10200), (2, wP 10201), (3, iP x2), (4, wP 10202), (43, .bool v)], [(10200, eP 25 1 [[lP a0.Files]]), (10201, eP 31 2 [[iP 0, iP 0]]), (10202, eP 37 2 [[.str e3.Path, lP e3.Lines]])], 2⟩) (fun v => ref2_TreeFault_j1 n a0 x2 (ref2_TreeFault_l1 n a0 m1) e3 v = some r) ?_ ?_
     ·refine au h [1,1,5,1] ?_; intro h
      refine bs h (fun c20 h => ?_) fun c20 h => ?_
      ·refine aw h [2,8,2,8,2,8,2,8,2,1,2,7,2,5,2,5,2,5,2,6,2] ?_; intro x16 k21 e17 k22 h
       exact lf (Op.bytesLess e3.Path e17.Path || e3.Path == e17.Path) h
      ·refine aw h [3,3,3,3,3,3,3,3,3,3,3] ?_; intro h
       exact lf false h
     ·intro x6 h
      try dsimp only at h ⊢
      unfold ref2_TreeFault_j1 at h
      refine bs h (fun c8 h => ?_) fun c8 h => ?_
      ·refine au h [2,1,1,1] ?_; intro h
       refine cb h (ref1_At_spec n _ _) fun r7 k9 h => ?_
       refine ax 71 h [8,1] ?_; intro h
       cases h
       exact ⟨_, rfl, .refl _⟩
      ·refine au h [3,1,1,1,1,1,1] ?_; intro h
       refine Ev.loopW (β := Nat × Int) (fun v => ⟨[(1, wP 10300), (2, wP 10301), (3, iP x2), (4, wP 10302), (5, iP v.2)], [(10300, eP 25 1 [[lP a0.Files]]), (10301, eP 31 2 [[iP 0, iP 0]]), (10302, eP 37 2 [[.str e3.Path, lP e3.Lines]])], 2⟩) (fun v => ref2_TreeFault_l2 n a0 x2 (ref2_TreeFault_l1 n a0 m1) e3 v.1 v.2 = some r) (fun v => v.1) (n, 0) (.nA) h ?_
       intro ⟨m2, x8⟩ h
       try dsimp only at h ⊢
       cases m2 with
       | zero => rw [ref2_TreeFault_l2] at h; cases h
       | succ m2 =>
        rw [ref2_TreeFault_l2] at h
        refine au h [1,1,1,1,1,5] ?_; intro h
        refine bs h (fun c10 h => ?_) fun c10 h => ?_
        ·refine au h [2,1,1,1,1,1,8,8,1,5,5,5,8,8] ?_; intro e9 k11 h
         refine cb h (ref2_Related_spec n _ _) fun r10 k12 h => ?_
         refine W.nil ⟨rfl, ?_⟩
         refine bs h (fun c13 h => ?_) fun c13 h => ?_
         ·refine au h [2,1,1,1] ?_; intro h
          refine cb h (ref1_At_spec n _ _) fun r11 k14 h => ?_
          refine ax 71 h [8,1] ?_; intro h
          cases h
          exact ⟨_, rfl, .refl _⟩
         ·refine au h [3,1,1,1,7,1] ?_; intro x12 k15 h
          exact lb (m2, x12) h
        ·refine au h [3,1,1,1,8,8] ?_; intro h
         refine cb h (ref1_LinesCode_spec n _) fun r13 k16 h => ?_
         refine ax 71 h [1,1,1,1,5] ?_; intro h
         refine bs h (fun c17 h => ?_) fun c17 h => ?_
         ·refine au h [2,1,1,1,1] ?_; intro h
          refine cb h (ref1_At_spec n _ _) fun r14 k18 h => ?_
          refine ax 71 h [8,1] ?_; intro h
          cases h
          exact ⟨_, rfl, .refl _⟩
         ·refine au h [3,1,1,1,7,1] ?_; intro x15 k19 h
          exact lb (m1, x15) h
   ·refine au h [3,1,1,1,5,8,1] ?_; intro h
    cases h
    exact ⟨_, rfl, .refl _⟩
theorem ref6_TreeAt_spec (n : Nat) (a0 : SFiles) (a1 : Int) (r : SCodeIndex) (h : ref6_TreeAt n a0 a1 = some r) : PSpec Tryz.prog 84 [.agg (SFiles.cells a0), iP a1] (.agg (SCodeIndex.cells r)) := by
 unfold ref6_TreeAt at h
 refine spec_of Tryz.c_ref6_TreeAt (by simp) ?_
 unfold Tryz.l_ref6_TreeAt
 refine au h [1,1,5,5,1,1,8] ?_; intro h
 refine cb h (ref2_TreeFault_spec n _) fun r1 k1 h => ?_
 refine aw h [5,8] ?_; intro h
 refine Ev.seqJ (γ := Int) (fun v => ⟨[(4, wP 10100), (5, wP 10101)], [(10100, eP 31 2 [[iP 0, iP 0]]), (10101, eP 31 2 [[iP r1.Code, iP v]])], 2⟩) (fun v => ref6_TreeAt_j1 n r1 v = some r) ?_ ?_
 ·refine au h [1,1,8,8,5] ?_; intro h
  refine bs h (fun c2 h => ?_) fun c2 h => ?_
  ·refine au h [2,1,1,8,8] ?_; intro h
   exact lf a1 h
  ·refine au h [3,1] ?_; intro h
   exact lf r1.Index h
 ·intro b2 h
  try dsimp only at h ⊢
  unfold ref6_TreeAt_j1 at h
  refine au h [1,1,8,8,1] ?_; intro h
  cases h
  exact ⟨_, rfl, .refl _⟩
theorem ref6_lineCode_spec (n : Nat) (a0 : List (List UInt8)) (r : Int) (h : ref6_lineCode n a0 = some r) : PSpec Tryz.prog 82 [lP a0] (iP r) := by
 unfold ref6_lineCode at h
 refine spec_of Tryz.c_ref6_lineCode (by simp) ?_
 unfold Tryz.l_ref6_lineCode
 refine au h [1,1,1,1,1,1,1,5,5] ?_; intro h
 refine bs h (fun c1 h => ?_) fun c1 h => ?_
 ·refine au h [2,1,1,1,1] ?_; intro h
  cases h
  exact ⟨_, rfl, .refl _⟩
 ·refine au h [3,1,1,1,1,1,1] ?_; intro h
  refine Ev.loopW (β := Nat × Int) (fun v => ⟨[(0, lP a0), (3, iP v.2)], [], 2⟩) (fun v => ref6_lineCode_l1 n a0 v.1 v.2 = some r) (fun v => v.1) (n, 0) (.nA) h ?_
  intro ⟨m1, x1⟩ h
  try dsimp only at h ⊢
  cases m1 with
  | zero => rw [ref6_lineCode_l1] at h; cases h
  | succ m1 =>
   rw [ref6_lineCode_l1] at h
   refine au h [1,1,1,1,1,5,5] ?_; intro h
   refine bs h (fun c2 h => ?_) fun c2 h => ?_
   ·refine au h [2,1,1,1,1,1,1,1,1,5,5,5,5] ?_; intro e2 k3 h
    refine bs h (fun c4 h => ?_) fun c4 h => ?_
    ·refine au h [2,1,1,1,1] ?_; intro h
     cases h
     exact ⟨_, rfl, .refl _⟩
    ·refine au h [3,1,1,1,1,1] ?_; intro h
     refine Ev.loopW (β := Nat × Int) (fun v => ⟨[(0, lP a0), (3, iP x1), (4, iP v.2)], [], 2⟩) (fun v => ref6_lineCode_l2 n x1 (ref6_lineCode_l1 n a0 m1) e2 v.1 v.2 = some r) (fun v => v.1) (n, 0) (.nA) h ?_
     intro ⟨m2, x3⟩ h
     try dsimp only at h ⊢
     cases m2 with
     | zero => rw [ref6_lineCode_l2] at h; cases h
     | succ m2 =>
      rw [ref6_lineCode_l2] at h
      refine au h [1,1,1,1,1,1,6,5,5,5] ?_; intro h
      refine bs h (fun c5 h => ?_) fun c5 h => ?_
      ·refine au h [2,1,1,1,1,1,1,1,6,5,1,5,5] ?_; intro y4 k6 h
       refine bs h (fun c7 h => ?_) fun c7 h => ?_
       ·refine au h [2,1,1,1,1] ?_; intro h
        cases h
        exact ⟨_, rfl, .refl _⟩
       ·refine au h [3,1,1,1,7,1] ?_; intro x5 k8 h
        exact lb (m2, x5) h
      ·refine au h [3,1,1,1,7,1] ?_; intro x6 k9 h
       exact lb (m1, x6) h
   ·refine au h [3,1,1,1,1,1] ?_; intro h
    cases h
    exact ⟨_, rfl, .refl _⟩
theorem ref6_opCode_spec (n : Nat) (a0 : SKindText) (r : Int) (h : ref6_opCode n a0 = some r) : PSpec Tryz.prog 132 [.agg (SKindText.cells a0)] (iP r) := by
 unfold ref6_opCode at h
 refine spec_of Tryz.c_ref6_opCode (by simp) ?_
 unfold Tryz.l_ref6_opCode
 refine au h [1,1,5,1,1] ?_; intro h
 refine Ev.seqJ (γ := Bool) (fun v => ⟨[(1, wP 10100), (10, .bool v)], [(10100, eP 109 2 [[iP a0.Kind, .str a0.Text]])], 2⟩) (fun v => ref6_opCode_j1 n a0 v = some r) ?_ ?_
 ·refine au h [1,8,8,5,1] ?_; intro h
  refine bs h (fun c9 h => ?_) fun c9 h => ?_
  ·refine aw h [3,3,3,2] ?_; intro h
   exact lf true h
  ·refine aw h [2,8,2,8,2,5,3] ?_; intro h
   exact lf (decide (a0.Kind = 2)) h
 ·intro x1 h
  try dsimp only at h ⊢
  unfold ref6_opCode_j1 at h
  refine bs h (fun c1 h => ?_) fun c1 h => ?_
  ·refine au h [2,1,1,1,8,8] ?_; intro h
   refine cb h (ref2_PathValid_spec n _) fun r2 k2 h => ?_
   refine aw h [5] ?_; intro h
   refine bs h (fun c3 h => ?_) fun c3 h => ?_
   ·refine au h [2,1,1,1,1] ?_; intro h
    cases h
    exact ⟨_, rfl, .refl _⟩
   ·refine au h [3,1,1,1,1,1] ?_; intro h
    cases h
    exact ⟨_, rfl, .refl _⟩
  ·refine au h [3,1,1,1,1,8,8,5] ?_; intro h
   refine bs h (fun c4 h => ?_) fun c4 h => ?_
   ·refine au h [2,1,1,8,8,5] ?_; intro h
    refine cb h (ref6_lineCode_spec n _) fun r3 k5 h => ?_
    refine ax 33 h [1,1] ?_; intro h
    cases h
    exact ⟨_, rfl, .refl _⟩
   ·refine au h [3,1,1] ?_; intro h
    refine Ev.seqJ (γ := Bool) (fun v => ⟨[(1, wP 10200), (29, .bool v)], [(10200, eP 109 2 [[iP a0.Kind, .str a0.Text]])], 2⟩) (fun v => ref6_opCode_j2 n a0 v = some r) ?_ ?_
    ·refine au h [1,8,8,5,1] ?_; intro h
     refine bs h (fun c8 h => ?_) fun c8 h => ?_
     ·refine aw h [3,3,3,2] ?_; intro h
      exact lf true h
     ·refine aw h [2,8,2,8,2,5,3] ?_; intro h
      exact lf (decide (a0.Kind = 5)) h
    ·intro x4 h
     try dsimp only at h ⊢
     unfold ref6_opCode_j2 at h
     refine bs h (fun c6 h => ?_) fun c6 h => ?_
     ·refine au h [2,1,1,1,8,8,6] ?_; intro h
      refine bs h (fun c7 h => ?_) fun c7 h => ?_
      ·refine au h [2,1,1,1,1] ?_; intro h
       cases h
       exact ⟨_, rfl, .refl _⟩
      ·refine au h [3,1,1,1,1,1] ?_; intro h
       cases h
       exact ⟨_, rfl, .refl _⟩
     ·refine au h [3,1,1,1,1,1] ?_; intro h
      cases h
      exact ⟨_, rfl, .refl _⟩
theorem ref6_ActionFault_spec (n : Nat) (a0 : SInputsOpsOutput) (r : SCodeIndex) (h : ref6_ActionFault n a0 = some r) : PSpec Tryz.prog 83 [.agg (SInputsOpsOutput.cells a0)] (.agg (SCodeIndex.cells r)) := by
 unfold ref6_ActionFault at h
 refine spec_of Tryz.c_ref6_ActionFault (by simp) ?_
 unfold Tryz.l_ref6_ActionFault
 refine au h [1,1,5,5,1] ?_; intro h
 refine Ev.seqJ (γ := Bool) (fun v => ⟨[(1, wP 10100), (2, wP 10101), (15, .bool v)], [(10100, eP 53 3 [[lP a0.Inputs, lP a0.Ops, .str a0.Output]]), (10101, eP 31 2 [[iP 0, iP 0]])], 2⟩) (fun v => ref6_ActionFault_j1 n a0 v = some r) ?_ ?_
 ·refine au h [1,8,8,5,5,1] ?_; intro h
  refine bs h (fun c24 h => ?_) fun c24 h => ?_
  ·refine aw h [3,3,3,3,2] ?_; intro h
   exact lf true h
  ·refine aw h [2,8,2,8,2,5,2,5,3] ?_; intro h
   exact lf (decide (16 < (a0.Ops.length : Int))) h
 ·intro x1 h
  try dsimp only at h ⊢
  unfold ref6_ActionFault_j1 at h
  refine bs h (fun c1 h => ?_) fun c1 h => ?_
  ·refine au h [2,1,1] ?_; intro h
   refine cb h (ref6_fault_spec n _ _) fun r2 k2 h => ?_
   refine ax 76 h [8,1] ?_; intro h
   cases h
   exact ⟨_, rfl, .refl _⟩
  ·refine au h [3,1,1,1,1,1,1] ?_; intro h
   refine Ev.loopW (β := Nat × Int) (fun v => ⟨[(1, wP 10200), (2, wP 10201), (3, iP v.2)], [(10200, eP 53 3 [[lP a0.Inputs, lP a0.Ops, .str a0.Output]]), (10201, eP 31 2 [[iP 0, iP 0]])], 2⟩) (fun v => ref6_ActionFault_l1 n a0 v.1 v.2 = some r) (fun v => v.1) (n, 0) (.nA) h ?_
   intro ⟨m1, x3⟩ h
   try dsimp only at h ⊢
   cases m1 with
   | zero => rw [ref6_ActionFault_l1] at h; cases h
   | succ m1 =>
    rw [ref6_ActionFault_l1] at h
    refine au h [1,1,1,1,8,8,5,5] ?_; intro h
    refine bs h (fun c3 h => ?_) fun c3 h => ?_
    ·refine au h [2,1,1,1,1,1,1,8,8,1,5,5] ?_; intro e4 k4 h
     refine cb h (ref2_PathValid_spec n _) fun r5 k5 h => ?_
     refine aw h [5] ?_; intro h
     refine bs h (fun c6 h => ?_) fun c6 h => ?_
     ·refine au h [2,1,1,1] ?_; intro h
      refine cb h (ref6_fault_spec n _ _) fun r6 k7 h => ?_
      refine ax 76 h [8,1] ?_; intro h
      cases h
      exact ⟨_, rfl, .refl _⟩
     ·refine au h [3,1] ?_; intro h
      refine Ev.seqJ (γ := Bool) (fun v => ⟨[(1, wP 10300), (2, wP 10301), (3, iP x3), (48, .bool v)], [(10300, eP 53 3 [[lP a0.Inputs, lP a0.Ops, .str a0.Output]]), (10301, eP 31 2 [[iP 0, iP 0]])], 2⟩) (fun v => ref6_ActionFault_j2 n x3 (ref6_ActionFault_l1 n a0 m1) v = some r) ?_ ?_
      ·refine au h [1,1,5,1] ?_; intro h
       refine bs h (fun c11 h => ?_) fun c11 h => ?_
       ·refine aw h [2,8,2,8,2,1,2,6,2,5,2,8,2,8,2,1,2,7,2,5,2,5,2,6,2] ?_; intro x10 k12 e11 k13 h
        exact lf (Op.bytesLess e4 e11 || e4 == e11) h
       ·refine aw h [3,3,3,3,3,3,3,3,3,3,3,3,3] ?_; intro h
        exact lf false h
      ·intro x7 h
       try dsimp only at h ⊢
       unfold ref6_ActionFault_j2 at h
       refine bs h (fun c8 h => ?_) fun c8 h => ?_
       ·refine au h [2,1,1,1] ?_; intro h
        refine cb h (ref6_fault_spec n _ _) fun r8 k9 h => ?_
        refine ax 76 h [8,1] ?_; intro h
        cases h
        exact ⟨_, rfl, .refl _⟩
       ·refine au h [3,1,1,1,7,1] ?_; intro x9 k10 h
        exact lb (m1, x9) h
    ·refine au h [3,1,1,1,1,8,8] ?_; intro h
     refine cb h (ref2_PathValid_spec n _) fun r12 k14 h => ?_
     refine aw h [5] ?_; intro h
     refine bs h (fun c15 h => ?_) fun c15 h => ?_
     ·refine au h [2,1,1] ?_; intro h
      refine cb h (ref6_fault_spec n _ _) fun r13 k16 h => ?_
      refine ax 76 h [8,1] ?_; intro h
      cases h
      exact ⟨_, rfl, .refl _⟩
     ·refine au h [3,1,1,1,1,1,1] ?_; intro h
      refine Ev.loopW (β := Nat × Int) (fun v => ⟨[(1, wP 10300), (2, wP 10301), (4, iP v.2)], [(10300, eP 53 3 [[lP a0.Inputs, lP a0.Ops, .str a0.Output]]), (10301, eP 31 2 [[iP 0, iP 0]])], 2⟩) (fun v => ref6_ActionFault_l2 n a0 v.1 v.2 = some r) (fun v => v.1) (n, 0) (.nA) h ?_
      intro ⟨m2, x14⟩ h
      try dsimp only at h ⊢
      cases m2 with
      | zero => rw [ref6_ActionFault_l2] at h; cases h
      | succ m2 =>
       rw [ref6_ActionFault_l2] at h
       refine au h [1,1,1,1,8,8,5,5] ?_; intro h
       refine bs h (fun c17 h => ?_) fun c17 h => ?_
       ·refine au h [2,1,1,1,1,1,8,8,1,5,5] ?_; intro e15 k18 h
        refine cb h (ref6_opCode_spec n _) fun r16 k19 h => ?_
        refine ax 76 h [1,1,1,1,5] ?_; intro h
        refine bs h (fun c20 h => ?_) fun c20 h => ?_
        ·refine au h [2,1,1,1,1,7] ?_; intro x17 k21 h
         refine cb h (ref6_fault_spec n _ _) fun r18 k22 h => ?_
         refine ax 76 h [8,1] ?_; intro h
         cases h
         exact ⟨_, rfl, .refl _⟩
        ·refine au h [3,1,1,1,7,1] ?_; intro x19 k23 h
         exact lb (m2, x19) h
       ·refine au h [3,1,1,1,5,8,1] ?_; intro h
        cases h
        exact ⟨_, rfl, .refl _⟩
theorem ref6_ActionsFault_spec (n : Nat) (a0 : List SInputsOpsOutput) (r : SCodeIndex) (h : ref6_ActionsFault n a0 = some r) : PSpec Tryz.prog 89 [lP a0] (.agg (SCodeIndex.cells r)) := by
 unfold ref6_ActionsFault at h
 refine spec_of Tryz.c_ref6_ActionsFault (by simp) ?_
 unfold Tryz.l_ref6_ActionsFault
 refine au h [1,1,5,1,1,1,1,5,5] ?_; intro h
 refine bs h (fun c1 h => ?_) fun c1 h => ?_
 ·refine au h [2,1,1] ?_; intro h
  refine cb h (ref6_fault_spec n _ _) fun r1 k2 h => ?_
  refine ax 28 h [8,1] ?_; intro h
  cases h
  exact ⟨_, rfl, .refl _⟩
 ·refine au h [3,1,1,1,1,1,1] ?_; intro h
  refine Ev.loopW (β := Nat × Int) (fun v => ⟨[(0, lP a0), (2, wP 10100), (3, iP v.2)], [(10100, eP 31 2 [[iP 0, iP 0]])], 2⟩) (fun v => ref6_ActionsFault_l1 n a0 v.1 v.2 = some r) (fun v => v.1) (n, 0) (.nA) h ?_
  intro ⟨m1, x2⟩ h
  try dsimp only at h ⊢
  cases m1 with
  | zero => rw [ref6_ActionsFault_l1] at h; cases h
  | succ m1 =>
   rw [ref6_ActionsFault_l1] at h
   refine au h [1,1,1,1,1,5,5] ?_; intro h
   refine bs h (fun c3 h => ?_) fun c3 h => ?_
   ·refine au h [2,1,1,1,1,1,1,1,5,5] ?_; intro e3 k4 h
    refine cb h (ref6_ActionFault_spec n _) fun r4 k5 h => ?_
    refine ax 28 h [5,8,1,1,8,8,5] ?_; intro h
    refine bs h (fun c6 h => ?_) fun c6 h => ?_
    ·refine au h [2,1,1,8,8,1] ?_; intro h
     refine cb h (ref6_fault_spec n _ _) fun r5 k7 h => ?_
     refine ax 28 h [8,1] ?_; intro h
     cases h
     exact ⟨_, rfl, .refl _⟩
    ·refine au h [3,1,1,1,7,1] ?_; intro x6 k8 h
     exact lb (m1, x6) h
   ·refine au h [3,1,1,1,5,8,1] ?_; intro h
    cases h
    exact ⟨_, rfl, .refl _⟩
end Go.Proofs.YtlkknmhhefjmjaaGreatDoor
namespace Go.Proofs.YtlkknmhhefjmjaaGreatDoor
open Go.PW Go
theorem ref5_in_spec (n : Nat) (a0 : Int) (a1 : Int) (a2 : Int) (r : Bool) (h : ref5_in n a0 a1 a2 = some r) : PSpec Tryz.prog 131 [iP a0, iP a1, iP a2] (.bool r) := by
 unfold ref5_in at h
 refine spec_of Tryz.c_ref5_in (by simp) ?_
 unfold Tryz.l_ref5_in
 refine au h [1,1,1] ?_; intro h
 refine Ev.seqJ (γ := Bool) (fun v => ⟨[(6, .bool v)], [], 2⟩) (fun v => ref5_in_j1 n v = some r) ?_ ?_
 ·refine au h [1,1,1,5,1] ?_; intro h
  refine bs h (fun c1 h => ?_) fun c1 h => ?_
  ·refine aw h [2,1,2,1,2,5,2,1] ?_; intro h
   exact lf (decide (a0 ≤ a2)) h
  ·refine aw h [3,3,3,3,1] ?_; intro h
   exact lf false h
 ·intro x1 h
  try dsimp only at h ⊢
  unfold ref5_in_j1 at h
  refine Ev.ret ?_
  cases h
  exact ⟨_, rfl, .refl _⟩
theorem ref5_IsDigest_spec (n : Nat) (a0 : Int) (r : Bool) (h : ref5_IsDigest n a0 = some r) : PSpec Tryz.prog 81 [iP a0] (.bool r) := by
 unfold ref5_IsDigest at h
 refine spec_of Tryz.c_ref5_IsDigest (by simp) ?_
 unfold Tryz.l_ref5_IsDigest
 refine au h [1,1,1,1,1,1] ?_; intro h
 refine cb h (ref5_in_spec n _ _ _) fun r1 k1 h => ?_
 refine ax 5 h [1,1] ?_; intro h
 cases h
 exact ⟨_, rfl, .refl _⟩
theorem ref6_PathsFault_spec (n : Nat) (a0 : List (List UInt8)) (r : SCodeIndex) (h : ref6_PathsFault n a0 = some r) : PSpec Tryz.prog 137 [lP a0] (.agg (SCodeIndex.cells r)) := by
 unfold ref6_PathsFault at h
 refine spec_of Tryz.c_ref6_PathsFault (by simp) ?_
 unfold Tryz.l_ref6_PathsFault
 refine au h [1,1,5,1,1,1,1,5,5] ?_; intro h
 refine bs h (fun c1 h => ?_) fun c1 h => ?_
 ·refine au h [2,1,1] ?_; intro h
  refine cb h (ref6_fault_spec n _ _) fun r1 k2 h => ?_
  refine ax 39 h [8,1] ?_; intro h
  cases h
  exact ⟨_, rfl, .refl _⟩
 ·refine au h [3,1,1,1,1,1,1] ?_; intro h
  refine Ev.loopW (β := Nat × Int) (fun v => ⟨[(0, lP a0), (2, wP 10100), (3, iP v.2)], [(10100, eP 31 2 [[iP 0, iP 0]])], 2⟩) (fun v => ref6_PathsFault_l1 n a0 v.1 v.2 = some r) (fun v => v.1) (n, 0) (.nA) h ?_
  intro ⟨m1, x2⟩ h
  try dsimp only at h ⊢
  cases m1 with
  | zero => rw [ref6_PathsFault_l1] at h; cases h
  | succ m1 =>
   rw [ref6_PathsFault_l1] at h
   refine au h [1,1,1,1,1,5,5] ?_; intro h
   refine bs h (fun c3 h => ?_) fun c3 h => ?_
   ·refine au h [2,1,1,1,1,1,1,1,1,5,5] ?_; intro e3 k4 h
    refine cb h (ref2_PathValid_spec n _) fun r4 k5 h => ?_
    refine aw h [5] ?_; intro h
    refine bs h (fun c6 h => ?_) fun c6 h => ?_
    ·refine au h [2,1,1,1] ?_; intro h
     refine cb h (ref6_fault_spec n _ _) fun r5 k7 h => ?_
     refine ax 39 h [8,1] ?_; intro h
     cases h
     exact ⟨_, rfl, .refl _⟩
    ·refine au h [3,1] ?_; intro h
     refine Ev.seqJ (γ := Bool) (fun v => ⟨[(0, lP a0), (2, wP 10200), (3, iP x2), (35, .bool v)], [(10200, eP 31 2 [[iP 0, iP 0]])], 2⟩) (fun v => ref6_PathsFault_j1 n x2 (ref6_PathsFault_l1 n a0 m1) v = some r) ?_ ?_
     ·refine au h [1,1,5,1] ?_; intro h
      refine bs h (fun c11 h => ?_) fun c11 h => ?_
      ·refine aw h [2,1,2,1,2,6,2,5,2,1,2,1,2,7,2,5,2,5,2,6,2] ?_; intro x9 k12 e10 k13 h
       exact lf (Op.bytesLess e3 e10 || e3 == e10) h
      ·refine aw h [3,3,3,3,3,3,3,3,3,3,3] ?_; intro h
       exact lf false h
     ·intro x6 h
      try dsimp only at h ⊢
      unfold ref6_PathsFault_j1 at h
      refine bs h (fun c8 h => ?_) fun c8 h => ?_
      ·refine au h [2,1,1,1] ?_; intro h
       refine cb h (ref6_fault_spec n _ _) fun r7 k9 h => ?_
       refine ax 39 h [8,1] ?_; intro h
       cases h
       exact ⟨_, rfl, .refl _⟩
      ·refine au h [3,1,1,1,7,1] ?_; intro x8 k10 h
       exact lb (m1, x8) h
   ·refine au h [3,1,1,1,5,8,1] ?_; intro h
    cases h
    exact ⟨_, rfl, .refl _⟩
theorem ref6_BomFault_spec (n : Nat) (a0 : List SPathDigest) (r : SCodeIndex) (h : ref6_BomFault n a0 = some r) : PSpec Tryz.prog 95 [lP a0] (.agg (SCodeIndex.cells r)) := by
 unfold ref6_BomFault at h
 refine spec_of Tryz.c_ref6_BomFault (by simp) ?_
 unfold Tryz.l_ref6_BomFault
 refine au h [1,1,5,1,1,1,1,1,1,1,1] ?_; intro h
 refine Ev.loopW (β := Nat × (List (List UInt8)) × Int) (fun v => ⟨[(0, lP a0), (2, wP 10100), (3, .own 10101 0), (4, iP v.2.2)], [(10100, eP 31 2 [[iP 0, iP 0]]), (10101, eP 9 1 (mP v.2.1))], 2⟩) (fun v => ref6_BomFault_l1 n a0 v.1 v.2.1 v.2.2 = some r) (fun v => v.1) (n + a0.length, ([] : List (List UInt8)), 0) ((Wk.ownNil 3 30101 9 1 rfl rfl true).trans (.nA)) h ?_
 intro ⟨m1, w1, x2⟩ h
 try dsimp only at h ⊢
 cases m1 with
 | zero => rw [ref6_BomFault_l1] at h; cases h
 | succ m1 =>
  rw [ref6_BomFault_l1] at h
  refine au h [1,1,1,1,1,5,5] ?_; intro h
  refine bs h (fun c1 h => ?_) fun c1 h => ?_
  ·refine au h [2,1,1,1,1,1,1,1,5,5,5,5,7,1,1,1,7,1] ?_; intro e3 k2 w4 k3 x5 k4 h
   exact lb (m1, w4, x5) h
  ·refine au h [3,1,1,1,1] ?_; intro h
   refine cb h (ref6_PathsFault_spec n _) fun r6 k5 h => ?_
   refine ax 52 h [5,8,1,1,1,1,1] ?_; intro h
   refine Ev.loopW (β := Nat × Int × Int × Int) (fun v => ⟨[(0, lP a0), (2, wP 10200), (5, wP 10201), (6, iP v.2.2.2)], [(10200, eP 31 2 [[iP 0, iP 0]]), (10201, eP 31 2 [[iP v.2.1, iP v.2.2.1]])], 2⟩) (fun v => ref6_BomFault_l2 n a0 v.1 v.2.1 v.2.2.1 v.2.2.2 = some r) (fun v => v.1) (n, r6.Code, r6.Index, 0) (.nA) h ?_
   intro ⟨m2, b7, b8, x9⟩ h
   try dsimp only at h ⊢
   cases m2 with
   | zero => rw [ref6_BomFault_l2] at h; cases h
   | succ m2 =>
    rw [ref6_BomFault_l2] at h
    refine Ev.seq ?_
    refine Ev.seqJ (γ := Bool) (fun v => ⟨[(0, lP a0), (2, wP 10300), (5, wP 10301), (6, iP x9), (31, .bool v)], [(10300, eP 31 2 [[iP 0, iP 0]]), (10301, eP 31 2 [[iP b7, iP b8]])], 2⟩) (fun v => ref6_BomFault_j1 n a0 b7 b8 x9 (ref6_BomFault_l2 n a0 m2) v = some r) ?_ ?_
    ·refine au h [1,1,1,5,5,1] ?_; intro h
     refine bs h (fun c13 h => ?_) fun c13 h => ?_
     ·refine aw h [2,8,2,8,2,5,2] ?_; intro h
      exact lf (decide (b7 = 0)) h
     ·refine aw h [3,3,3,3] ?_; intro h
      exact lf false h
    ·intro x10 h
     try dsimp only at h ⊢
     unfold ref6_BomFault_j1 at h
     refine bs h (fun c6 h => ?_) fun c6 h => ?_
     ·refine au h [2,1] ?_; intro h
      refine Ev.seqJ (γ := Int × Int) (fun v => ⟨[(0, lP a0), (2, wP 10400), (5, wP 10401), (6, iP x9)], [(10400, eP 31 2 [[iP 0, iP 0]]), (10401, eP 31 2 [[iP v.1, iP v.2]])], 2⟩) (fun v => ref6_BomFault_j2 n x9 (ref6_BomFault_l2 n a0 m2) v.1 v.2 = some r) ?_ ?_
      ·refine Ev.block ?_
       refine Ev.seqJ (γ := Bool) (fun v => ⟨[(0, lP a0), (2, wP 10500), (5, wP 10501), (6, iP x9), (48, .bool v)], [(10500, eP 31 2 [[iP 0, iP 0]]), (10501, eP 31 2 [[iP b7, iP b8]])], 2⟩) (fun v => ref6_BomFault_j3 n b7 b8 x9 (ref6_BomFault_l2 n a0 m2) v = some r) ?_ ?_
       ·refine au h [1,1,1,5,5,5,5,1] ?_; intro e16 k10 h
        refine bs h (fun c11 h => ?_) fun c11 h => ?_
        ·refine aw h [2,1,2,1,2,6,2,5,2,5,2] ?_; intro h
         refine cb h (ref5_IsDigest_spec n _) fun r17 k12 h => ?_
         refine aw h [2,5,2] ?_; intro h
         exact lf (!r17) h
        ·refine aw h [3,3,3,3,3,3,3,3] ?_; intro h
         exact lf false h
       ·intro x14 h
        try dsimp only at h ⊢
        unfold ref6_BomFault_j3 at h
        refine bs h (fun c8 h => ?_) fun c8 h => ?_
        ·refine au h [2,1,1] ?_; intro h
         refine cb h (ref6_fault_spec n _ _) fun r15 k9 h => ?_
         refine aw h [8] ?_; intro h
         exact lf (r15.Code, r15.Index) h
        ·refine au h [3,1] ?_; intro h
         exact lf (b7, b8) h
      ·intro ⟨b11, b12⟩ h
       try dsimp only at h ⊢
       unfold ref6_BomFault_j2 at h
       refine au h [1,1,7,1] ?_; intro x13 k7 h
       exact lb (m2, b11, b12, x13) h
     ·refine au h [3,1,1,1,8,8,1] ?_; intro h
      cases h
      exact ⟨_, rfl, .refl _⟩
theorem ref6_ProvenanceFault_spec (n : Nat) (a0 : SActionsMaterialsOutput) (r : SCodeIndex) (h : ref6_ProvenanceFault n a0 = some r) : PSpec Tryz.prog 44 [.agg (SActionsMaterialsOutput.cells a0)] (.agg (SCodeIndex.cells r)) := by
 unfold ref6_ProvenanceFault at h
 refine spec_of Tryz.c_ref6_ProvenanceFault (by simp) ?_
 unfold Tryz.l_ref6_ProvenanceFault
 refine au h [1,1,5,5,1,1,8,8] ?_; intro h
 refine cb h (ref6_ActionsFault_spec n _) fun r1 k1 h => ?_
 refine aw h [5,8] ?_; intro h
 refine Ev.seqJ (γ := Int × Int) (fun v => ⟨[(1, wP 10100), (2, wP 10101), (3, wP 10102)], [(10100, eP 29 3 [[lP a0.Actions, lP a0.Materials, lP a0.Output.Files]]), (10101, eP 31 2 [[iP 0, iP 0]]), (10102, eP 31 2 [[iP v.1, iP v.2]])], 2⟩) (fun v => ref6_ProvenanceFault_j1 n a0 v.1 v.2 = some r) ?_ ?_
 ·refine Ev.seqJ (γ := Bool) (fun v => ⟨[(1, wP 10200), (2, wP 10201), (3, wP 10202), (16, .bool v)], [(10200, eP 29 3 [[lP a0.Actions, lP a0.Materials, lP a0.Output.Files]]), (10201, eP 31 2 [[iP 0, iP 0]]), (10202, eP 31 2 [[iP r1.Code, iP r1.Index]])], 2⟩) (fun v => ref6_ProvenanceFault_j3 n a0 r1 v = some r) ?_ ?_
  ·refine au h [1,8,8,5,1] ?_; intro h
   refine bs h (fun c7 h => ?_) fun c7 h => ?_
   ·refine aw h [2,8,2,8,2] ?_; intro h
    refine cb h (ref6_BomFault_spec n _) fun r10 k8 h => ?_
    refine aw h [2,5,2,5,2] ?_; intro h
    exact lf (decide (r10.Code ≠ 0)) h
   ·refine aw h [3,3,3,3,3,3] ?_; intro h
    exact lf false h
  ·intro x7 h
   try dsimp only at h ⊢
   unfold ref6_ProvenanceFault_j3 at h
   refine bs h (fun c4 h => ?_) fun c4 h => ?_
   ·refine au h [2,1,8,8] ?_; intro h
    refine cb h (ref6_BomFault_spec n _) fun r8 k5 h => ?_
    refine W.field rfl rfl ?_
    refine cb h (ref6_fault_spec n _ _) fun r9 k6 h => ?_
    refine aw h [8] ?_; intro h
    exact lf (r9.Code, r9.Index) h
   ·refine au h [3,1] ?_; intro h
    exact lf (r1.Code, r1.Index) h
 ·intro ⟨b2, b3⟩ h
  try dsimp only at h ⊢
  unfold ref6_ProvenanceFault_j1 at h
  refine Ev.seqJ (γ := Int × Int) (fun v => ⟨[(2, wP 10200), (3, wP 10201)], [(10200, eP 31 2 [[iP 0, iP 0]]), (10201, eP 31 2 [[iP v.1, iP v.2]])], 2⟩) (fun v => ref6_ProvenanceFault_j2 n v.1 v.2 = some r) ?_ ?_
  ·refine au h [1,1,8,8,5] ?_; intro h
   refine bs h (fun c2 h => ?_) fun c2 h => ?_
   ·refine au h [2,1,8,8] ?_; intro h
    refine cb h (ref6_TreeAt_spec n _ _) fun r6 k3 h => ?_
    refine aw h [8] ?_; intro h
    exact lf (r6.Code, r6.Index) h
   ·refine au h [3,1] ?_; intro h
    exact lf (b2, b3) h
  ·intro ⟨b4, b5⟩ h
   try dsimp only at h ⊢
   unfold ref6_ProvenanceFault_j2 at h
   refine au h [1,1,8,8,1] ?_; intro h
   cases h
   exact ⟨_, rfl, .refl _⟩
theorem ref6_WithFile_spec (n : Nat) (a0 : SFiles) (a1 : List UInt8) (a2 : List (List UInt8)) (r : SFiles) (h : ref6_WithFile n a0 a1 a2 = some r) : PSpec Tryz.prog 15 [.agg (SFiles.cells a0), .str a1, lP a2] (.agg (SFiles.cells r)) := by
 unfold ref6_WithFile at h
 refine spec_of Tryz.c_ref6_WithFile (by simp) ?_
 unfold Tryz.l_ref6_WithFile
 refine au h [1,1,5,5,1,1,5,1,1,1,1,1] ?_; intro h
 refine Ev.loopW (β := Nat × (List SPathLines) × Int) (fun v => ⟨[(1, .str a1), (2, lP a2), (3, wP 10100), (6, wP 10101), (7, wP 10102), (8, iP v.2.2)], [(10100, eP 25 1 [[lP a0.Files]]), (10101, eP 25 1 [[.nils]]), (10102, ⟨0, 25, 1, [[.own 10103 0]], false, false, false⟩), (10103, eP 37 2 (mP v.2.1))], 2⟩) (fun v => ref6_WithFile_l1 n a0 a1 a2 v.1 v.2.1 v.2.2 = some r) (fun v => v.1) (n, ([] : List SPathLines), 0) ((Wk.ownNilCell 7 2 0 30103 37 2 rfl rfl rfl rfl rfl (by simp) true).trans (.nA)) h ?_
 intro ⟨m1, w1, x2⟩ h
 try dsimp only at h ⊢
 cases m1 with
 | zero => rw [ref6_WithFile_l1] at h; cases h
 | succ m1 =>
  rw [ref6_WithFile_l1] at h
  refine Ev.seq ?_
  refine Ev.seqJ (γ := Bool) (fun v => ⟨[(1, .str a1), (2, lP a2), (3, wP 10200), (6, wP 10201), (7, wP 10202), (8, iP x2), (24, .bool v)], [(10200, eP 25 1 [[lP a0.Files]]), (10201, eP 25 1 [[.nils]]), (10202, ⟨0, 25, 1, [[.own 10203 0]], false, false, false⟩), (10203, eP 37 2 (mP w1))], 2⟩) (fun v => ref6_WithFile_j1 n a0 a1 a2 w1 x2 (ref6_WithFile_l1 n a0 a1 a2 m1) v = some r) ?_ ?_
  ·refine au h [1,1,8,8,5,5,1] ?_; intro h
   refine bs h (fun c8 h => ?_) fun c8 h => ?_
   ·refine aw h [2,8,2,8,2,1,2,5,2,5,2,5,2,1,2,6,2] ?_; intro e10 k9 h
    exact lf (Op.bytesLess e10.Path a1) h
   ·refine aw h [3,3,3,3,3,3,3,3,3] ?_; intro h
    exact lf false h
  ·intro x3 h
   try dsimp only at h ⊢
   unfold ref6_WithFile_j1 at h
   refine bs h (fun c1 h => ?_) fun c1 h => ?_
   ·refine au h [2,1,1,1,1,8,8,8,8,1,5,5,5,7,8,8,1,1,7,1] ?_; intro e4 k2 w5 k3 x6 k4 h
    exact lb (m1, w5, x6) h
   ·refine au h [3,1,1,1,8,8,7,1,1,1,8,8,1,1,5,5,7,8,8,1,1,8,8,8,8,1,6,7,8,8,1,1,8,8] ?_; intro w7 k5 s8 k6 w9 k7 h
    refine Ev.weak ?_ (Wk.frz 54 2 rfl rfl)
    refine Ev.ret ?_
    cases h
    exact ⟨_, rfl, .refl _⟩
theorem ref6_HasString_spec (n : Nat) (a0 : List (List UInt8)) (a1 : List UInt8) (r : Bool) (h : ref6_HasString n a0 a1 = some r) : PSpec Tryz.prog 19 [lP a0, .str a1] (.bool r) := by
 unfold ref6_HasString at h
 refine spec_of Tryz.c_ref6_HasString (by simp) ?_
 unfold Tryz.l_ref6_HasString
 refine au h [1,1,1,1,1,1,1,1] ?_; intro h
 refine Ev.loopW (β := Nat × Int) (fun v => ⟨[(0, lP a0), (1, .str a1), (5, iP v.2)], [], 2⟩) (fun v => ref6_HasString_l1 n a0 a1 v.1 v.2 = some r) (fun v => v.1) (n, 0) (.nA) h ?_
 intro ⟨m1, x1⟩ h
 try dsimp only at h ⊢
 cases m1 with
 | zero => rw [ref6_HasString_l1] at h; cases h
 | succ m1 =>
  rw [ref6_HasString_l1] at h
  refine au h [1,1,1,1,1,5,5] ?_; intro h
  refine bs h (fun c1 h => ?_) fun c1 h => ?_
  ·refine au h [2,1,1,1,1,1,1,1,5,5,1,6] ?_; intro e2 k2 h
   refine bs h (fun c3 h => ?_) fun c3 h => ?_
   ·refine au h [2,1,1,1,1] ?_; intro h
    cases h
    exact ⟨_, rfl, .refl _⟩
   ·refine au h [3,1,1,1,7,1] ?_; intro x3 k4 h
    exact lb (m1, x3) h
  ·refine au h [3,1,1,1,1,1] ?_; intro h
   cases h
   exact ⟨_, rfl, .refl _⟩
theorem ref6_FileIn_spec (n : Nat) (a0 : SFiles) (a1 : List UInt8) (r : ((List (List UInt8)) × Bool)) (h : ref6_FileIn n a0 a1 = some r) : PSpec Tryz.prog 23 [.agg (SFiles.cells a0), .str a1] (.tup [lP r.1, .bool r.2]) := by
 unfold ref6_FileIn at h
 refine spec_of Tryz.c_ref6_FileIn (by simp) ?_
 unfold Tryz.l_ref6_FileIn
 refine au h [1,1,5,1,1,1,1,1,1,1] ?_; intro h
 refine Ev.loopW (β := Nat × Int) (fun v => ⟨[(1, .str a1), (2, wP 10100), (6, iP v.2)], [(10100, eP 25 1 [[lP a0.Files]])], 2⟩) (fun v => ref6_FileIn_l1 n a0 a1 v.1 v.2 = some r) (fun v => v.1) (n, 0) (.nA) h ?_
 intro ⟨m1, x1⟩ h
 try dsimp only at h ⊢
 cases m1 with
 | zero => rw [ref6_FileIn_l1] at h; cases h
 | succ m1 =>
  rw [ref6_FileIn_l1] at h
  refine au h [1,1,1,1,8,8,5,5] ?_; intro h
  refine bs h (fun c1 h => ?_) fun c1 h => ?_
  ·refine au h [2,1,1,1,1,1,8,8,1,5,5,5,1,6] ?_; intro e2 k2 h
   refine bs h (fun c3 h => ?_) fun c3 h => ?_
   ·refine au h [2,1,1,8,8,1,6,5,5,1,1,1] ?_; intro h
    cases h
    exact ⟨_, rfl, .refl _⟩
   ·refine au h [3,1,1,1,7,1] ?_; intro x3 k4 h
    exact lb (m1, x3) h
  ·refine au h [3,1,1,1,1,1,1] ?_; intro h
   cases h
   exact ⟨_, rfl, Le.tups (.cons (.nils 1) (.cons (.refl _) (.nil)))⟩
theorem ref6_firsts_spec (n : Nat) (a0 : List (List UInt8)) (r : (List (List UInt8))) (h : ref6_firsts n a0 = some r) : PSpec Tryz.prog 135 [lP a0] (lP r) := by
 unfold ref6_firsts at h
 refine spec_of Tryz.c_ref6_firsts (by simp) ?_
 unfold Tryz.l_ref6_firsts
 refine au h [1,1,1,1,1,1,1,1,1,1,1] ?_; intro h
 refine Ev.loopW (β := Nat × (List (List UInt8)) × Int) (fun v => ⟨[(0, lP a0), (3, .own 10100 0), (4, iP v.2.2)], [(10100, eP 9 1 (mP v.2.1))], 2⟩) (fun v => ref6_firsts_l1 n a0 v.1 v.2.1 v.2.2 = some r) (fun v => v.1) (n, ([] : List (List UInt8)), 0) ((Wk.ownNil 3 30100 9 1 rfl rfl true).trans (.nA)) h ?_
 intro ⟨m1, w1, x2⟩ h
 try dsimp only at h ⊢
 cases m1 with
 | zero => rw [ref6_firsts_l1] at h; cases h
 | succ m1 =>
  rw [ref6_firsts_l1] at h
  refine au h [1,1,1,1,1,5,5] ?_; intro h
  refine bs h (fun c1 h => ?_) fun c1 h => ?_
  ·refine au h [2,1] ?_; intro h
   refine Ev.seqJ (γ := List (List UInt8)) (fun v => ⟨[(0, lP a0), (3, .own 10200 0), (4, iP x2)], [(10200, eP 9 1 (mP v))], 2⟩) (fun v => ref6_firsts_j1 n x2 (ref6_firsts_l1 n a0 m1) v = some r) ?_ ?_
   ·refine au h [1,1,1,1,1,7,1,1,5,5] ?_; intro s5 k3 e6 k4 h
    refine cb h (ref6_HasString_spec n _ _) fun r7 k5 h => ?_
    refine aw h [5] ?_; intro h
    refine bs h (fun c6 h => ?_) fun c6 h => ?_
    ·refine au h [2,1,1,1,1,6,5,5,7,1] ?_; intro w8 k7 h
     exact lf w8 h
    ·refine au h [3,1] ?_; intro h
     exact lf w1 h
   ·intro w3 h
    try dsimp only at h ⊢
    unfold ref6_firsts_j1 at h
    refine au h [1,1,7,1] ?_; intro x4 k2 h
    exact lb (m1, w3, x4) h
  ·refine au h [3,1,1,1,1,1,1] ?_; intro h
   cases h
   exact ⟨_, rfl, .refl _⟩
theorem ref6_opResult_spec (n : Nat) (a0 : SInputsOpsOutput) (a1 : SFiles) (a2 : SKindText) (a3 : List (List UInt8)) (r : ((List (List UInt8)) × Int)) (h : ref6_opResult n a0 a1 a2 a3 = some r) : PSpec Tryz.prog 88 [.agg (SInputsOpsOutput.cells a0), .agg (SFiles.cells a1), .agg (SKindText.cells a2), lP a3] (.tup [lP r.1, iP r.2]) := by
 unfold ref6_opResult at h
 refine spec_of Tryz.c_ref6_opResult (by simp) ?_
 unfold Tryz.l_ref6_opResult
 refine au h [1,1,5,5,5,1,1,1,1,1,1,1,1,8,8,5] ?_; intro h
 refine bs h (fun c1 h => ?_) fun c1 h => ?_
 ·refine au h [2,1,1,1] ?_; intro h
  refine cb h (ref6_firsts_spec n _) fun r1 k2 h => ?_
  refine ax 92 h [1,1,1] ?_; intro h
  cases h
  exact ⟨_, rfl, .refl _⟩
 ·refine au h [3,1,1,1,1,8,8,5] ?_; intro h
  refine bs h (fun c3 h => ?_) fun c3 h => ?_
  ·refine au h [2,1,1,1,1,5,7,1,1] ?_; intro x2 k4 h
   refine Ev.loopW (β := Nat × (List (List UInt8)) × Int) (fun v => ⟨[(3, lP a3), (10, .own 10100 0), (11, iP v.2.2)], [(10100, eP 9 1 (mP v.2.1))], 2⟩) (fun v => ref6_opResult_l1 n a3 v.1 v.2.1 v.2.2 = some r) (fun v => v.1) (n, ([] : List (List UInt8)), x2) ((Wk.ownNil 10 30100 9 1 rfl rfl true).trans (.nA)) h ?_
   intro ⟨m1, w3, x4⟩ h
   try dsimp only at h ⊢
   cases m1 with
   | zero => rw [ref6_opResult_l1] at h; cases h
   | succ m1 =>
    rw [ref6_opResult_l1] at h
    refine au h [1,1,1,1,5] ?_; intro h
    refine bs h (fun c5 h => ?_) fun c5 h => ?_
    ·refine au h [2,1,1,1,1,1,1,1,5,5,5,7,1,1,1,7,1] ?_; intro e5 k6 w6 k7 x7 k8 h
     exact lb (m1, w6, x7) h
    ·refine au h [3,1,1,1,1,1,1,1] ?_; intro h
     cases h
     exact ⟨_, rfl, .refl _⟩
  ·refine au h [3,1,1,1,8,8,5,1] ?_; intro h
   refine Ev.seqJ (γ := List (List UInt8)) (fun v => ⟨[(3, lP a3), (10, .nils), (12, lP v)], [], 2⟩) (fun v => ref6_opResult_j1 n a3 v = some r) ?_ ?_
   ·refine au h [1,1,8,8,5] ?_; intro h
    refine bs h (fun c13 h => ?_) fun c13 h => ?_
    ·refine au h [2,1,1,1,8,8,8,8] ?_; intro h
     refine cb h (ref6_HasString_spec n _ _) fun r12 k14 h => ?_
     refine aw h [5] ?_; intro h
     refine bs h (fun c15 h => ?_) fun c15 h => ?_
     ·refine au h [2,1,1,1,1,1] ?_; intro h
      cases h
      exact ⟨_, rfl, Le.tups (.cons (.nils 1) (.cons (.refl _) (.nil)))⟩
     ·refine au h [3,1,1,1,8,8,8] ?_; intro h
      refine cb h (ref6_FileIn_spec n _ _) fun r13 k16 h => ?_
      refine ax 92 h [1,5,5,1,1,1] ?_; intro h
      refine Ev.seqJ (γ := Bool) (fun v => ⟨[(3, lP a3), (6, wP 10200), (10, .nils), (13, lP r13.1), (14, .bool r13.2), (63, .bool v)], [(10200, eP 109 2 [[iP a2.Kind, .str a2.Text]])], 2⟩) (fun v => ref6_opResult_j2 n a2 a3 r13 v = some r) ?_ ?_
      ·refine au h [1,8,8,5,1] ?_; intro h
       refine bs h (fun c22 h => ?_) fun c22 h => ?_
       ·refine aw h [2,1,2,5,2] ?_; intro h
        exact lf (!r13.2) h
       ·refine aw h [3,3,3] ?_; intro h
        exact lf false h
      ·intro x14 h
       try dsimp only at h ⊢
       unfold ref6_opResult_j2 at h
       refine bs h (fun c17 h => ?_) fun c17 h => ?_
       ·refine au h [2,1,1,1,1,1] ?_; intro h
        cases h
        exact ⟨_, rfl, Le.tups (.cons (.nils 1) (.cons (.refl _) (.nil)))⟩
       ·refine au h [3,1,1,1,1,1] ?_; intro h
        refine Ev.seqJ (γ := List (List UInt8)) (fun v => ⟨[(3, lP a3), (6, wP 10300), (10, .nils), (12, lP v), (14, .bool r13.2)], [(10300, eP 109 2 [[iP a2.Kind, .str a2.Text]])], 2⟩) (fun v => ref6_opResult_j3 n a2 a3 r13 v = some r) ?_ ?_
        ·refine Ev.seqJ (γ := Bool) (fun v => ⟨[(3, lP a3), (6, wP 10400), (10, .nils), (12, lP r13.1), (14, .bool r13.2), (70, .bool v)], [(10400, eP 109 2 [[iP a2.Kind, .str a2.Text]])], 2⟩) (fun v => ref6_opResult_j5 n a2 a3 r13 v = some r) ?_ ?_
         ·refine au h [1,8,8,5,1] ?_; intro h
          refine bs h (fun c21 h => ?_) fun c21 h => ?_
          ·refine aw h [2,1,2] ?_; intro h
           exact lf r13.2 h
          ·refine aw h [3,3] ?_; intro h
           exact lf false h
         ·intro x17 h
          try dsimp only at h ⊢
          unfold ref6_opResult_j5 at h
          refine bs h (fun c20 h => ?_) fun c20 h => ?_
          ·refine au h [2,1,5,1] ?_; intro h
           exact ⟨([([121, 101, 115] : List UInt8)] : List (List UInt8)), h, (Wk.frz 71 2 rfl rfl).trans (.nA)⟩
          ·refine au h [3,1] ?_; intro h
           exact lf r13.1 h
        ·intro x15 h
         try dsimp only at h ⊢
         unfold ref6_opResult_j3 at h
         refine Ev.seqJ (γ := Bool) (fun v => ⟨[(3, lP a3), (10, .nils), (12, lP x15), (78, .bool v)], [], 2⟩) (fun v => ref6_opResult_j4 n a3 x15 v = some r) ?_ ?_
         ·refine au h [1,8,8,5,1] ?_; intro h
          refine bs h (fun c19 h => ?_) fun c19 h => ?_
          ·refine aw h [2,1,2,5,2] ?_; intro h
           exact lf (!r13.2) h
          ·refine aw h [3,3,3] ?_; intro h
           exact lf false h
         ·intro x16 h
          try dsimp only at h ⊢
          unfold ref6_opResult_j4 at h
          refine bs h (fun c18 h => ?_) fun c18 h => ?_
          ·refine au h [2,1,5,1] ?_; intro h
           exact ⟨([([110, 111] : List UInt8)] : List (List UInt8)), h, (Wk.frz 79 2 rfl rfl).trans (.nA)⟩
          ·refine au h [3,1] ?_; intro h
           exact lf x15 h
    ·refine au h [3,1] ?_; intro h
     exact ⟨([a2.Text] : List (List UInt8)), h, (Wk.frz 40 2 rfl rfl).trans (.nA)⟩
   ·intro x8 h
    try dsimp only at h ⊢
    unfold ref6_opResult_j1 at h
    refine au h [1,1,1,1,5,1,5,7,5] ?_; intro x9 k9 h
    refine bs h (fun c10 h => ?_) fun c10 h => ?_
    ·refine au h [2,1,1,1,1,1] ?_; intro h
     cases h
     exact ⟨_, rfl, Le.tups (.cons (.nils 1) (.cons (.refl _) (.nil)))⟩
    ·refine au h [3,1,1,1,1,1,5,1,1,1,1,1,7,1,1,1] ?_; intro w10 k11 w11 k12 h
     cases h
     exact ⟨_, rfl, .refl _⟩
theorem ref6_Ran_spec (n : Nat) (a0 : SInputsOpsOutput) (a1 : SFiles) (r : ((List (List UInt8)) × SCodeIndex)) (h : ref6_Ran n a0 a1 = some r) : PSpec Tryz.prog 34 [.agg (SInputsOpsOutput.cells a0), .agg (SFiles.cells a1)] (.tup [lP r.1, .agg (SCodeIndex.cells r.2)]) := by
 unfold ref6_Ran at h
 refine spec_of Tryz.c_ref6_Ran (by simp) ?_
 unfold Tryz.l_ref6_Ran
 refine au h [1,1,5,5,1,5,1,1,1,1,1,1,1,1] ?_; intro h
 refine Ev.loopW (β := Nat × (List (List UInt8)) × Int) (fun v => ⟨[(2, wP 10100), (3, wP 10101), (5, wP 10102), (6, lP v.2.1), (7, iP v.2.2)], [(10100, eP 53 3 [[lP a0.Inputs, lP a0.Ops, .str a0.Output]]), (10101, eP 25 1 [[lP a1.Files]]), (10102, eP 31 2 [[iP 0, iP 0]])], 2⟩) (fun v => ref6_Ran_l1 n a0 a1 v.1 v.2.1 v.2.2 = some r) (fun v => v.1) (n, ([] : List (List UInt8)), 0) ((Wk.le (t := 6) rfl (.nils 1)).trans (.nA)) h ?_
 intro ⟨m1, x1, x2⟩ h
 try dsimp only at h ⊢
 cases m1 with
 | zero => rw [ref6_Ran_l1] at h; cases h
 | succ m1 =>
  rw [ref6_Ran_l1] at h
  refine au h [1,1,1,1,8,8,5,5] ?_; intro h
  refine bs h (fun c1 h => ?_) fun c1 h => ?_
  ·refine au h [2,1,1,1,1,1,8,8,8,8,1,5,5,1] ?_; intro e3 k2 h
   refine cb h (ref6_opResult_spec n _ _ _ _) fun r4 k3 h => ?_
   refine ax 38 h [1,5,5,1,1,1,1,1,1,5] ?_; intro h
   refine bs h (fun c4 h => ?_) fun c4 h => ?_
   ·refine au h [2,1,1,1,1,7] ?_; intro x5 k5 h
    refine cb h (ref6_fault_spec n _ _) fun r6 k6 h => ?_
    refine ax 38 h [1,8,1] ?_; intro h
    cases h
    exact ⟨_, rfl, Le.tups (.cons (.nils 1) (.cons (.refl _) (.nil)))⟩
   ·refine au h [3,1,1,1,1,1,1,7,1] ?_; intro x7 k7 h
    exact lb (m1, r4.1, x7) h
  ·refine au h [3,1,1,1,1,5,1,8,1] ?_; intro h
   cases h
   exact ⟨_, rfl, .refl _⟩
theorem ref5_Starts_spec (n : Nat) (a0 : List UInt8) (a1 : List UInt8) (r : Bool) (h : ref5_Starts n a0 a1 = some r) : PSpec Tryz.prog 136 [.str a0, .str a1] (.bool r) := by
 unfold ref5_Starts at h
 refine spec_of Tryz.c_ref5_Starts (by simp) ?_
 unfold Tryz.l_ref5_Starts
 refine au h [1,1,1] ?_; intro h
 refine Ev.seqJ (γ := Bool) (fun v => ⟨[(4, .bool v)], [], 2⟩) (fun v => ref5_Starts_j1 n v = some r) ?_ ?_
 ·refine au h [1,1,5,1,5,5,1] ?_; intro h
  refine bs h (fun c1 h => ?_) fun c1 h => ?_
  ·refine aw h [2,1,2,1,2,5,2,7,2,1,2,6,2,1] ?_; intro s2 k2 h
   exact lf (decide (s2 = a1)) h
  ·refine aw h [3,3,3,3,3,3,3,1] ?_; intro h
   exact lf false h
 ·intro x1 h
  try dsimp only at h ⊢
  unfold ref5_Starts_j1 at h
  refine Ev.ret ?_
  cases h
  exact ⟨_, rfl, .refl _⟩
end Go.Proofs.YtlkknmhhefjmjaaGreatDoor
namespace Go.Proofs.YtlkknmhhefjmjaaGreatDoor
open Go.PW Go
theorem ref6_related_spec (n : Nat) (a0 : List UInt8) (a1 : List UInt8) (r : Bool) (h : ref6_related n a0 a1 = some r) : PSpec Tryz.prog 90 [.str a0, .str a1] (.bool r) := by
 unfold ref6_related at h
 refine spec_of Tryz.c_ref6_related (by simp) ?_
 unfold Tryz.l_ref6_related
 refine au h [1,1,1] ?_; intro h
 refine Ev.seqJ (γ := Bool) (fun v => ⟨[(4, .bool v)], [], 2⟩) (fun v => ref6_related_j1 n v = some r) ?_ ?_
 ·refine au h [1,1,1,6,1] ?_; intro h
  refine bs h (fun c1 h => ?_) fun c1 h => ?_
  ·refine aw h [3,3,3,3,2,1,3,3,3,3,2,1] ?_; intro h
   exact lf true h
  ·refine aw h [2,1,2,1,2,8,2] ?_; intro s2 k2 h
   refine cb h (ref5_Starts_spec n _ _) fun r3 k3 h => ?_
   refine aw h [3,1] ?_; intro h
   refine bs h (fun c4 h => ?_) fun c4 h => ?_
   ·refine aw h [3,3,3,3,2,1] ?_; intro h
    exact lf true h
   ·refine aw h [2,1,2,1,2,8,2] ?_; intro s4 k5 h
    refine cb h (ref5_Starts_spec n _ _) fun r5 k6 h => ?_
    refine aw h [3,1] ?_; intro h
    exact lf r5 h
 ·intro x1 h
  try dsimp only at h ⊢
  unfold ref6_related_j1 at h
  refine Ev.ret ?_
  cases h
  exact ⟨_, rfl, .refl _⟩
theorem ref6_Built_spec (n : Nat) (a0 : List SInputsOpsOutput) (a1 : SFiles) (r : (SFiles × SCodeIndex)) (h : ref6_Built n a0 a1 = some r) : PSpec Tryz.prog 39 [lP a0, .agg (SFiles.cells a1)] (.tup [.agg (SFiles.cells r.1), .agg (SCodeIndex.cells r.2)]) := by
 unfold ref6_Built at h
 refine spec_of Tryz.c_ref6_Built (by simp) ?_
 unfold Tryz.l_ref6_Built
 refine au h [1,1,5,5,5,1,1,5,1,1,1,1,1] ?_; intro h
 refine Ev.loopW (β := Nat × (List SPathLines) × (List SPathLines) × Int) (fun v => ⟨[(0, lP a0), (3, wP 10100), (4, wP 10101), (5, wP 10102), (6, wP 10103), (7, iP v.2.2.2)], [(10100, eP 25 1 [[lP v.2.1]]), (10101, eP 25 1 [[.nils]]), (10102, eP 31 2 [[iP 0, iP 0]]), (10103, eP 25 1 [[lP v.2.2.1]])], 2⟩) (fun v => ref6_Built_l1 n a0 v.1 v.2.1 v.2.2.1 v.2.2.2 = some r) (fun v => v.1) (n, a1.Files, ([] : List SPathLines), 0) ((Wk.rowLe 6 2 (es' := [[lP ([] : List SPathLines)]]) rfl rfl (.cons (.cons (.nils 2) (.nil)) rfl .nil) rfl).trans (.nA)) h ?_
 intro ⟨m1, b1, b2, x3⟩ h
 try dsimp only at h ⊢
 cases m1 with
 | zero => rw [ref6_Built_l1] at h; cases h
 | succ m1 =>
  rw [ref6_Built_l1] at h
  refine au h [1,1,1,1,1,5,5] ?_; intro h
  refine bs h (fun c1 h => ?_) fun c1 h => ?_
  ·refine au h [2,1,1,1,1,1,1,1,1] ?_; intro h
   refine Ev.loopW (β := Nat × Int) (fun v => ⟨[(0, lP a0), (3, wP 10200), (4, wP 10201), (5, wP 10202), (6, wP 10203), (7, iP x3), (8, iP v.2)], [(10200, eP 25 1 [[lP b1]]), (10201, eP 25 1 [[.nils]]), (10202, eP 31 2 [[iP 0, iP 0]]), (10203, eP 25 1 [[lP b2]])], 2⟩) (fun v => ref6_Built_l2 n a0 b1 b2 x3 (ref6_Built_l1 n a0 m1) v.1 v.2 = some r) (fun v => v.1) (n, 0) (.nA) h ?_
   intro ⟨m2, x4⟩ h
   try dsimp only at h ⊢
   cases m2 with
   | zero => rw [ref6_Built_l2] at h; cases h
   | succ m2 =>
    rw [ref6_Built_l2] at h
    refine au h [1,1,1,1,8,8,5,5] ?_; intro h
    refine bs h (fun c2 h => ?_) fun c2 h => ?_
    ·refine au h [2,1,1,1,1,1,8,8,1,5,5,5,1,1,5,5,5] ?_; intro e5 k3 e6 k4 h
     refine cb h (ref6_related_spec n _ _) fun r7 k5 h => ?_
     refine W.nil ⟨rfl, ?_⟩
     refine bs h (fun c6 h => ?_) fun c6 h => ?_
     ·refine au h [2,1,1,5,1] ?_; intro h
      refine cb h (ref6_fault_spec n _ _) fun r8 k7 h => ?_
      refine ax 81 h [8,8,1] ?_; intro h
      cases h
      exact ⟨_, rfl, Le.tups (.cons (Le.aggs (.cons (.nils 2) (.nil)) rfl) (.cons (.refl _) (.nil)))⟩
     ·refine au h [3,1,1,1,7,1] ?_; intro x9 k8 h
      exact lb (m2, x9) h
    ·refine au h [3,1,1,1,1,8,8,5,5] ?_; intro h
     refine bs h (fun c9 h => ?_) fun c9 h => ?_
     ·refine au h [2,1,1,5,1] ?_; intro h
      refine cb h (ref6_fault_spec n _ _) fun r10 k10 h => ?_
      refine ax 81 h [8,8,1] ?_; intro h
      cases h
      exact ⟨_, rfl, Le.tups (.cons (Le.aggs (.cons (.nils 2) (.nil)) rfl) (.cons (.refl _) (.nil)))⟩
     ·refine au h [3,1,1,1,1,1,5,5,8] ?_; intro e11 k11 h
      refine cb h (ref6_Ran_spec n _ _) fun r12 k12 h => ?_
      refine ax 81 h [1,5,5,5,1,8,1,1,1,8,8,5] ?_; intro h
      refine bs h (fun c13 h => ?_) fun c13 h => ?_
      ·refine au h [2,1,1,5,8,8,1] ?_; intro h
       refine cb h (ref6_fault_spec n _ _) fun r13 k14 h => ?_
       refine ax 81 h [8,8,1] ?_; intro h
       cases h
       exact ⟨_, rfl, Le.tups (.cons (Le.aggs (.cons (.nils 2) (.nil)) rfl) (.cons (.refl _) (.nil)))⟩
      ·refine au h [3,1,1,1,8,1,1,6,5,5,1] ?_; intro h
       refine cb h (ref6_WithFile_spec n _ _ _) fun r14 k15 h => ?_
       refine ax 81 h [8,1,8,1,1,6,5,5,1] ?_; intro h
       refine cb h (ref6_WithFile_spec n _ _ _) fun r15 k16 h => ?_
       refine ax 81 h [8,1,1,7,1] ?_; intro x16 k17 h
       exact lb (m1, r14.Files, r15.Files, x16) h
  ·refine au h [3,1,1,1,8,5,8,8,1] ?_; intro h
   cases h
   exact ⟨_, rfl, .refl _⟩
theorem ref6_Restricted_spec (n : Nat) (a0 : SFiles) (a1 : List (List UInt8)) (r : SFiles) (h : ref6_Restricted n a0 a1 = some r) : PSpec Tryz.prog 49 [.agg (SFiles.cells a0), lP a1] (.agg (SFiles.cells r)) := by
 unfold ref6_Restricted at h
 refine spec_of Tryz.c_ref6_Restricted (by simp) ?_
 unfold Tryz.l_ref6_Restricted
 refine au h [1,1,5,5,1,1,5,1,1,1,1,1] ?_; intro h
 refine Ev.loopW (β := Nat × (List SPathLines) × Int) (fun v => ⟨[(1, lP a1), (2, wP 10100), (4, wP 10101), (5, wP 10102), (6, iP v.2.2)], [(10100, eP 25 1 [[lP a0.Files]]), (10101, eP 25 1 [[.nils]]), (10102, ⟨0, 25, 1, [[.own 10103 0]], false, false, false⟩), (10103, eP 37 2 (mP v.2.1))], 2⟩) (fun v => ref6_Restricted_l1 n a0 a1 v.1 v.2.1 v.2.2 = some r) (fun v => v.1) (n + a0.Files.length, ([] : List SPathLines), 0) ((Wk.ownNilCell 5 2 0 30103 37 2 rfl rfl rfl rfl rfl (by simp) true).trans (.nA)) h ?_
 intro ⟨m1, w1, x2⟩ h
 try dsimp only at h ⊢
 cases m1 with
 | zero => rw [ref6_Restricted_l1] at h; cases h
 | succ m1 =>
  rw [ref6_Restricted_l1] at h
  refine au h [1,1,1,1,8,8,5,5] ?_; intro h
  refine bs h (fun c1 h => ?_) fun c1 h => ?_
  ·refine au h [2,1] ?_; intro h
   refine Ev.seqJ (γ := List SPathLines) (fun v => ⟨[(1, lP a1), (2, wP 10200), (4, wP 10201), (5, wP 10202), (6, iP x2)], [(10200, eP 25 1 [[lP a0.Files]]), (10201, eP 25 1 [[.nils]]), (10202, ⟨0, 25, 1, [[.own 10203 0]], false, false, false⟩), (10203, eP 37 2 (mP v))], 2⟩) (fun v => ref6_Restricted_j1 n x2 (ref6_Restricted_l1 n a0 a1 m1) v = some r) ?_ ?_
   ·refine au h [1,1,1,1,8,8,1,5,5,5] ?_; intro e5 k3 h
    refine cb h (ref6_HasString_spec n _ _) fun r6 k4 h => ?_
    refine W.nil ?_
    refine bs h (fun c5 h => ?_) fun c5 h => ?_
    ·refine au h [2,1,8,8,8,8,1,6,5,5,7,8,8] ?_; intro w7 k6 h
     exact lf w7 h
    ·refine au h [3,1] ?_; intro h
     exact lf w1 h
   ·intro w3 h
    try dsimp only at h ⊢
    unfold ref6_Restricted_j1 at h
    refine au h [1,1,7,1] ?_; intro x4 k2 h
    exact lb (m1, w3, x4) h
  ·refine au h [3,1,1,1,8,8] ?_; intro h
   refine Ev.weak ?_ (Wk.frz 10103 0 rfl rfl)
   refine Ev.ret ?_
   cases h
   exact ⟨_, rfl, .refl _⟩
theorem ref1_times_spec (n : Nat) (a0 : Int) (a1 : Int) (r : Int) (h : ref1_times n a0 a1 = some r) : PSpec Tryz.prog 134 [iP a0, iP a1] (iP r) := by
 unfold ref1_times at h
 refine spec_of Tryz.c_ref1_times (by simp) ?_
 unfold Tryz.l_ref1_times
 refine au h [1,1,1,1,1,1] ?_; intro h
 refine Ev.seqJ (γ := Int) (fun v => ⟨[(5, iP v)], [], 2⟩) (fun v => ref1_times_j1 n v = some r) ?_ ?_
 ·refine Ev.block ?_
  refine Ev.loopW (β := Nat × Int × Int × Int) (fun v => ⟨[(0, iP v.2.1), (1, iP v.2.2.1), (5, iP v.2.2.2)], [], 2⟩) (fun v => ref1_times_l1 n v.1 v.2.1 v.2.2.1 v.2.2.2 = some r) (fun v => v.1) (n, a0, a1, 0) (.nA) h ?_
  intro ⟨m1, x2, x3, x4⟩ h
  try dsimp only at h ⊢
  cases m1 with
  | zero => rw [ref1_times_l1] at h; cases h
  | succ m1 =>
   rw [ref1_times_l1] at h
   refine au h [1,1,1,1,5] ?_; intro h
   refine bs h (fun c1 h => ?_) fun c1 h => ?_
   ·refine au h [2,1,1] ?_; intro h
    refine Ev.seqJ (γ := Int) (fun v => ⟨[(0, iP x2), (1, iP x3), (5, iP v)], [], 2⟩) (fun v => ref1_times_j2 n x2 x3 (ref1_times_l1 n m1) v = some r) ?_ ?_
    ·refine au h [1,1,1,7,5] ?_; intro x9 k5 h
     refine bs h (fun c6 h => ?_) fun c6 h => ?_
     ·refine au h [2,1,1,1,7,7,1] ?_; intro x10 k7 x11 k8 h
      exact lf x11 h
     ·refine au h [3,1] ?_; intro h
      exact lf x4 h
    ·intro x5 h
     try dsimp only at h ⊢
     unfold ref1_times_j2 at h
     refine au h [1,1,1,1,7,7,1,1,1,7,1] ?_; intro x6 k2 x7 k3 x8 k4 h
     exact lb (m1, x7, x8, x5) h
   ·refine au h [3,1] ?_; intro h
    exact lf x4 h
 ·intro x1 h
  try dsimp only at h ⊢
  unfold ref1_times_j1 at h
  refine au h [1,1,1,1,1] ?_; intro h
  cases h
  exact ⟨_, rfl, .refl _⟩
theorem ref1_DigestPair_spec (n : Nat) (a0 : Int) (a1 : Int) (r : Int) (h : ref1_DigestPair n a0 a1 = some r) : PSpec Tryz.prog 86 [iP a0, iP a1] (iP r) := by
 unfold ref1_DigestPair at h
 refine spec_of Tryz.c_ref1_DigestPair (by simp) ?_
 unfold Tryz.l_ref1_DigestPair
 refine au h [1,1,1,1,1,1] ?_; intro h
 refine cb h (ref1_times_spec n _ _) fun r1 k1 h => ?_
 refine W.mv rfl ?_
 refine cb h (ref1_times_spec n _ _) fun r2 k2 h => ?_
 refine ax 12 h [7,7,7,1,1] ?_; intro x3 k3 x4 k4 x5 k5 h
 cases h
 exact ⟨_, rfl, .refl _⟩
theorem ref1_DigestOf_spec (n : Nat) (a0 : List Int) (r : Int) (h : ref1_DigestOf n a0 = some r) : PSpec Tryz.prog 87 [.list 1 (List.map (cK .u8) a0)] (iP r) := by
 unfold ref1_DigestOf at h
 refine spec_of Tryz.c_ref1_DigestOf (by simp) ?_
 unfold Tryz.l_ref1_DigestOf
 refine au h [1,1,1,1,1,1,1,1,1,1,1] ?_; intro h
 refine Ev.loopW (β := Nat × Int × Int) (fun v => ⟨[(0, .list 1 (List.map (cK .u8) a0)), (3, iP v.2.1), (4, iP v.2.2)], [], 2⟩) (fun v => ref1_DigestOf_l1 n a0 v.1 v.2.1 v.2.2 = some r) (fun v => v.1) (n, 1, 0) (.nA) h ?_
 intro ⟨m1, x1, x2⟩ h
 try dsimp only at h ⊢
 cases m1 with
 | zero => rw [ref1_DigestOf_l1] at h; cases h
 | succ m1 =>
  rw [ref1_DigestOf_l1] at h
  refine au h [1,1,1,1,1,5,5] ?_; intro h
  refine bs h (fun c1 h => ?_) fun c1 h => ?_
  ·refine au h [2,1,1,1,1,1] ?_; intro h
   refine cb h (ref1_times_spec n _ _) fun r3 k2 h => ?_
   refine ax 22 h [1,1,5,5,5,7,7,7,1,1,1,7,1] ?_; intro e4 k3 x5 k4 x6 k5 x7 k6 x8 k7 h
   exact lb (m1, x7, x8) h
  ·refine au h [3,1,1,1,1,1,1] ?_; intro h
   cases h
   exact ⟨_, rfl, .refl _⟩
theorem ref1_DigestStrings_spec (n : Nat) (a0 : List (List UInt8)) (r : (Int × SCodeIndex)) (h : ref1_DigestStrings n a0 = some r) : PSpec Tryz.prog 133 [lP a0] (.tup [iP r.1, .agg (SCodeIndex.cells r.2)]) := by
 unfold ref1_DigestStrings at h
 refine spec_of Tryz.c_ref1_DigestStrings (by simp) ?_
 unfold Tryz.l_ref1_DigestStrings
 refine au h [1,1,1,5,1,1,1,1,5,5] ?_; intro h
 refine bs h (fun c1 h => ?_) fun c1 h => ?_
 ·refine au h [2,1,1] ?_; intro h
  refine cb h (ref1_At_spec n _ _) fun r1 k2 h => ?_
  refine ax 34 h [1,8,1] ?_; intro h
  cases h
  exact ⟨_, rfl, .refl _⟩
 ·refine au h [3,1,1,1,1,1,1,1,1,1] ?_; intro h
  refine Ev.loopW (β := Nat × Int × Int) (fun v => ⟨[(0, lP a0), (3, wP 10100), (4, iP v.2.1), (5, iP v.2.2)], [(10100, eP 31 2 [[iP 0, iP 0]])], 2⟩) (fun v => ref1_DigestStrings_l1 n a0 v.1 v.2.1 v.2.2 = some r) (fun v => v.1) (n, 2, 0) (.nA) h ?_
  intro ⟨m1, x2, x3⟩ h
  try dsimp only at h ⊢
  cases m1 with
  | zero => rw [ref1_DigestStrings_l1] at h; cases h
  | succ m1 =>
   rw [ref1_DigestStrings_l1] at h
   refine au h [1,1,1,1,1,5,5] ?_; intro h
   refine bs h (fun c3 h => ?_) fun c3 h => ?_
   ·refine au h [2,1,1,1,1,1,1,1,1,5,5,5,5] ?_; intro e4 k4 h
    refine bs h (fun c5 h => ?_) fun c5 h => ?_
    ·refine au h [2,1,1,1] ?_; intro h
     refine cb h (ref1_At_spec n _ _) fun r5 k6 h => ?_
     refine ax 34 h [1,8,1] ?_; intro h
     cases h
     exact ⟨_, rfl, .refl _⟩
    ·refine au h [3,1,1,1,1,1,6,5,5] ?_; intro h
     refine cb h (ref1_DigestOf_spec n _) fun r6 k7 h => ?_
     refine cb h (ref1_DigestPair_spec n _ _) fun r7 k8 h => ?_
     refine ax 34 h [1,1,1,7,1] ?_; intro x8 k9 h
     exact lb (m1, r7, x8) h
   ·refine au h [3,1,1,1,1,5,1,8,1] ?_; intro h
    cases h
    exact ⟨_, rfl, .refl _⟩
theorem ref6_stringsSum_spec (n : Nat) (a0 : List (List UInt8)) (r : Int) (h : ref6_stringsSum n a0 = some r) : PSpec Tryz.prog 85 [lP a0] (iP r) := by
 unfold ref6_stringsSum at h
 refine spec_of Tryz.c_ref6_stringsSum (by simp) ?_
 unfold Tryz.l_ref6_stringsSum
 refine au h [1,1,1,1,1,1] ?_; intro h
 refine cb h (ref1_DigestStrings_spec n _) fun r1 k1 h => ?_
 refine ax 11 h [1,5,5,5,1,8,1,1,1,1,1] ?_; intro h
 cases h
 exact ⟨_, rfl, .refl _⟩
theorem ref6_FileSum_spec (n : Nat) (a0 : SFiles) (a1 : List UInt8) (r : Int) (h : ref6_FileSum n a0 a1 = some r) : PSpec Tryz.prog 93 [.agg (SFiles.cells a0), .str a1] (iP r) := by
 unfold ref6_FileSum at h
 refine spec_of Tryz.c_ref6_FileSum (by simp) ?_
 unfold Tryz.l_ref6_FileSum
 refine au h [1,1,5,1,1,1,8,1] ?_; intro h
 refine cb h (ref6_FileIn_spec n _ _) fun r1 k1 h => ?_
 refine ax 17 h [1,5,5,1,1,1,1,1,1,5] ?_; intro h
 refine bs h (fun c2 h => ?_) fun c2 h => ?_
 ·refine au h [2,1,1,1,1] ?_; intro h
  cases h
  exact ⟨_, rfl, .refl _⟩
 ·refine au h [3,1,1,1,1] ?_; intro h
  refine cb h (ref6_stringsSum_spec n _) fun r2 k3 h => ?_
  refine ax 17 h [1,1] ?_; intro h
  cases h
  exact ⟨_, rfl, .refl _⟩
theorem ref6_Wrong_spec (n : Nat) (a0 : List SPathDigest) (a1 : SFiles) (r : (List Int)) (h : ref6_Wrong n a0 a1 = some r) : PSpec Tryz.prog 96 [lP a0, .agg (SFiles.cells a1)] (lP r) := by
 unfold ref6_Wrong at h
 refine spec_of Tryz.c_ref6_Wrong (by simp) ?_
 unfold Tryz.l_ref6_Wrong
 refine au h [1,1,5,1,1,1,1,1,1,1,1,1] ?_; intro h
 refine Ev.loopW (β := Nat × (List Int) × Int) (fun v => ⟨[(0, lP a0), (3, wP 10100), (5, .own 10101 0), (6, iP v.2.2)], [(10100, eP 25 1 [[lP a1.Files]]), (10101, eP 3 1 (mP v.2.1))], 2⟩) (fun v => ref6_Wrong_l1 n a0 a1 v.1 v.2.1 v.2.2 = some r) (fun v => v.1) (n, ([] : List Int), 0) ((Wk.ownNil 5 30101 3 1 rfl rfl true).trans (.nA)) h ?_
 intro ⟨m1, w1, x2⟩ h
 try dsimp only at h ⊢
 cases m1 with
 | zero => rw [ref6_Wrong_l1] at h; cases h
 | succ m1 =>
  rw [ref6_Wrong_l1] at h
  refine au h [1,1,1,1,1,5,5] ?_; intro h
  refine bs h (fun c1 h => ?_) fun c1 h => ?_
  ·refine au h [2,1] ?_; intro h
   refine Ev.seqJ (γ := List Int) (fun v => ⟨[(0, lP a0), (3, wP 10200), (5, .own 10201 0), (6, iP x2)], [(10200, eP 25 1 [[lP a1.Files]]), (10201, eP 3 1 (mP v))], 2⟩) (fun v => ref6_Wrong_j1 n x2 (ref6_Wrong_l1 n a0 a1 m1) v = some r) ?_ ?_
   ·refine au h [1,1,1,8,1,1,5,5,5] ?_; intro e5 k3 h
    refine cb h (ref6_FileSum_spec n _ _) fun r6 k4 h => ?_
    refine aw h [1,1,6,5,5,5] ?_; intro h
    refine bs h (fun c5 h => ?_) fun c5 h => ?_
    ·refine au h [2,1,1,1,5,7,1] ?_; intro w7 k6 h
     exact lf w7 h
    ·refine au h [3,1] ?_; intro h
     exact lf w1 h
   ·intro w3 h
    try dsimp only at h ⊢
    unfold ref6_Wrong_j1 at h
    refine au h [1,1,7,1] ?_; intro x4 k2 h
    exact lb (m1, w3, x4) h
  ·refine au h [3,1,1,1,1,1,1] ?_; intro h
   cases h
   exact ⟨_, rfl, .refl _⟩
theorem ref6_Rebuilt_spec (n : Nat) (a0 : SActionsMaterialsOutput) (a1 : SFiles) (r : (SFiles × SCodeIndex)) (h : ref6_Rebuilt n a0 a1 = some r) : PSpec Tryz.prog 45 [.agg (SActionsMaterialsOutput.cells a0), .agg (SFiles.cells a1)] (.tup [.agg (SFiles.cells r.1), .agg (SCodeIndex.cells r.2)]) := by
 unfold ref6_Rebuilt at h
 refine spec_of Tryz.c_ref6_Rebuilt (by simp) ?_
 unfold Tryz.l_ref6_Rebuilt
 refine au h [1,1,5,5,5,5,1,1,8] ?_; intro h
 refine cb h (ref6_ProvenanceFault_spec n _) fun r1 k1 h => ?_
 refine aw h [5,8] ?_; intro h
 refine Ev.seqJ (γ := Int × Int) (fun v => ⟨[(2, wP 10100), (3, wP 10101), (4, wP 10102), (5, wP 10103), (6, wP 10104)], [(10100, eP 29 3 [[lP a0.Actions, lP a0.Materials, lP a0.Output.Files]]), (10101, eP 25 1 [[lP a1.Files]]), (10102, eP 25 1 [[.nils]]), (10103, eP 31 2 [[iP 0, iP 0]]), (10104, eP 31 2 [[iP v.1, iP v.2]])], 2⟩) (fun v => ref6_Rebuilt_j1 n a0 a1 v.1 v.2 = some r) ?_ ?_
 ·refine au h [1,1,8,8,5] ?_; intro h
  refine bs h (fun c13 h => ?_) fun c13 h => ?_
  ·refine au h [2,1,8] ?_; intro h
   refine cb h (ref6_TreeAt_spec n _ _) fun r14 k14 h => ?_
   refine aw h [8] ?_; intro h
   exact lf (r14.Code, r14.Index) h
  ·refine au h [3,1] ?_; intro h
   exact lf (r1.Code, r1.Index) h
 ·intro ⟨b2, b3⟩ h
  try dsimp only at h ⊢
  unfold ref6_Rebuilt_j1 at h
  refine au h [1,1,1,8,8,5] ?_; intro h
  refine bs h (fun c2 h => ?_) fun c2 h => ?_
  ·refine au h [2,1,1,5,8,8,8,1] ?_; intro h
   cases h
   exact ⟨_, rfl, Le.tups (.cons (Le.aggs (.cons (.nils 2) (.nil)) rfl) (.cons (.refl _) (.nil)))⟩
  ·refine au h [3,1,1,1,8,8,8] ?_; intro h
   refine cb h (ref6_Wrong_spec n _ _) fun r4 k3 h => ?_
   refine ax 58 h [1,1,1,1,1,5,5] ?_; intro h
   refine bs h (fun c4 h => ?_) fun c4 h => ?_
   ·refine au h [2,1,1,5,1,5,5] ?_; intro e5 k5 h
    refine cb h (ref6_fault_spec n _ _) fun r6 k6 h => ?_
    refine ax 58 h [8,8,1] ?_; intro h
    cases h
    exact ⟨_, rfl, Le.tups (.cons (Le.aggs (.cons (.nils 2) (.nil)) rfl) (.cons (.refl _) (.nil)))⟩
   ·refine au h [3,1,1,1,1,1,1,1,1,1] ?_; intro h
    refine Ev.loopW (β := Nat × (List (List UInt8)) × Int) (fun v => ⟨[(2, wP 10200), (3, wP 10201), (4, wP 10202), (5, wP 10203), (8, .own 10204 0), (9, iP v.2.2)], [(10200, eP 29 3 [[lP a0.Actions, lP a0.Materials, lP a0.Output.Files]]), (10201, eP 25 1 [[lP a1.Files]]), (10202, eP 25 1 [[.nils]]), (10203, eP 31 2 [[iP 0, iP 0]]), (10204, eP 9 1 (mP v.2.1))], 2⟩) (fun v => ref6_Rebuilt_l1 n a0 a1 v.1 v.2.1 v.2.2 = some r) (fun v => v.1) (n, ([] : List (List UInt8)), 0) ((Wk.ownNil 8 30204 9 1 rfl rfl true).trans (.nA)) h ?_
    intro ⟨m1, w7, x8⟩ h
    try dsimp only at h ⊢
    cases m1 with
    | zero => rw [ref6_Rebuilt_l1] at h; cases h
    | succ m1 =>
     rw [ref6_Rebuilt_l1] at h
     refine au h [1,1,1,1,8,8,5,5] ?_; intro h
     refine bs h (fun c7 h => ?_) fun c7 h => ?_
     ·refine au h [2,1,1,1,1,1,8,8,1,5,5,5,5,7,1,1,1,7,1] ?_; intro e9 k8 w10 k9 x11 k10 h
      exact lb (m1, w10, x11) h
     ·refine au h [3,1,1,1,8,8,8,1] ?_; intro h
      obtain ⟨r12, k11, h⟩ := obind h
      refine W.callEat (args := [.agg (SFiles.cells a1)]) (ys := [.agg [lP a1.Files]]) (ref6_Restricted_spec n a1 w7 r12 k11) rfl (Les.refl _) rfl rfl rfl (fun _ => rfl) rfl rfl rfl ?_
      refine cb h (ref6_Built_spec n _ _) fun r13 k12 h => ?_
      refine ax 58 h [5,5,8,8,1] ?_; intro h
      cases h
      exact ⟨_, rfl, .refl _⟩
theorem law6_ReleaseRebuildMatchesSpec_spec (n : Nat) (a0 : SActionsMaterialsOutput) (a1 : SFiles) (r : Bool) (h : law6_ReleaseRebuildMatchesSpec n a0 a1 = some r) : PSpec Tryz.prog 8 [.agg (SActionsMaterialsOutput.cells a0), .agg (SFiles.cells a1)] (.bool r) := by
 unfold law6_ReleaseRebuildMatchesSpec at h
 refine spec_of Tryz.c_law6_ReleaseRebuildMatchesSpec (by simp) ?_
 unfold Tryz.l_law6_ReleaseRebuildMatchesSpec
 refine au h [1,1,5,5,1,1] ?_; intro h
 refine Ev.seqJ (γ := Bool) (fun v => ⟨[(2, wP 10100), (3, wP 10101), (19, .bool v)], [(10100, eP 29 3 [[lP a0.Actions, lP a0.Materials, lP a0.Output.Files]]), (10101, eP 25 1 [[lP a1.Files]])], 2⟩) (fun v => law6_ReleaseRebuildMatchesSpec_j1 n a0 a1 v = some r) ?_ ?_
 ·refine W.regD hm ?_
  refine cb h (law6_releases_spec n) fun r8 k11 h => ?_
  refine aw h [5,1] ?_; intro h
  refine bs h (fun c12 h => ?_) fun c12 h => ?_
  ·refine aw h [3,3,3,3,3,2] ?_; intro h
   exact lf true h
  ·refine aw h [2,8,2] ?_; intro h
   refine cb h (release_Validate_spec n _) fun r9 k13 h => ?_
   refine aw h [2,8,2] ?_; intro h
   refine cb h (ref6_ProvenanceFault_spec n _) fun r10 k14 h => ?_
   refine aw h [2,5,3] ?_; intro h
   exact lf ((r9.Code == r10.Code && (r9.Index == r10.Index && true)) != true) h
 ·intro x1 h
  try dsimp only at h ⊢
  unfold law6_ReleaseRebuildMatchesSpec_j1 at h
  refine bs h (fun c1 h => ?_) fun c1 h => ?_
  ·refine au h [2,1,1,1,1] ?_; intro h
   cases h
   exact ⟨_, rfl, .refl _⟩
  ·refine au h [3,1,1,1,8,8] ?_; intro h
   refine cb h (ref6_Rebuilt_spec n _ _) fun r2 k2 h => ?_
   refine ax 64 h [1,5,5,5,5,8,8,1,1,8,8] ?_; intro h
   refine cb h (release_Rebuild_spec n _ _) fun r3 k3 h => ?_
   refine ax 64 h [1,5,5,5,5,8,8,1,1,8,8] ?_; intro h
   refine cb h (release_Verify_spec n _ _) fun r4 k4 h => ?_
   refine aw h [1,5,5,5,1,8] ?_; intro h
   refine Ev.seqJ (γ := Bool) (fun v => ⟨[(4, .bool v)], [], 2⟩) (fun v => law6_ReleaseRebuildMatchesSpec_j2 n v = some r) ?_ ?_
   ·refine au h [1,8,8,5,1] ?_; intro h
    refine bs h (fun c5 h => ?_) fun c5 h => ?_
    ·refine aw h [2,8,2,8,2,5,2,1] ?_; intro h
     refine bs h (fun c6 h => ?_) fun c6 h => ?_
     ·refine aw h [2,8,2,8,2] ?_; intro h
      refine cb h (ref6_Trees_spec n _ _) fun r6 k7 h => ?_
      refine aw h [2,1] ?_; intro h
      refine bs h (fun c8 h => ?_) fun c8 h => ?_
      ·refine aw h [2,1,2,8,2,8,2,5,2,1] ?_; intro h
       refine bs h (fun c9 h => ?_) fun c9 h => ?_
       ·refine aw h [2,8,2,8,2,8,2] ?_; intro h
        refine cb h (ref6_Trees_spec n _ _) fun r7 k10 h => ?_
        refine aw h [2,2,2,5,2,1] ?_; intro h
        exact lf (r4.1 == r7) h
       ·refine aw h [3,3,3,3,2,3,2,5,2,1] ?_; intro h
        exact lf (r4.1 == false) h
      ·refine aw h [3,3,3,3,3,4,4,4,4,3,3,3,1] ?_; intro h
       exact lf false h
     ·refine aw h [3,3,3,3,1,3,3,3,3,3,4,4,4,4,3,3,3,1] ?_; intro h
      exact lf false h
    ·refine aw h [3,3,3,3,1,3,3,3,3,1,3,3,3,3,3,4,4,4,4,3,3,3,1] ?_; intro h
     exact lf false h
   ·intro x5 h
    try dsimp only at h ⊢
    unfold law6_ReleaseRebuildMatchesSpec_j2 at h
    refine Ev.ret ?_
    cases h
    exact ⟨_, rfl, .refl _⟩
end Go.Proofs.YtlkknmhhefjmjaaGreatDoor
