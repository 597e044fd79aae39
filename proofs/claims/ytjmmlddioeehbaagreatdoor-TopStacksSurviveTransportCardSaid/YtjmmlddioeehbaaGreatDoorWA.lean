/- The functions compute what the texts of D say. Laid by a program (wip/gen/dec.py). -/
import Derived.Test.YtjmmlddioeehbaaGreatDoorPwAuto
import Derived.Test.YtjmmlddioeehbaaGreatDoorD
import Derived.Test.YtjmmlddioeehbaaGreatDoorK
set_option linter.unusedVariables false
set_option linter.unusedSimpArgs false
namespace Go.Proofs.YtjmmlddioeehbaaGreatDoor
open Go.PW Go
instance : Cl SAtOldNew := ⟨3, SAtOldNew.cells⟩
instance : Cl SCodeIndex := ⟨2, SCodeIndex.cells⟩
instance : Cl SHunks := ⟨1, SHunks.cells⟩
instance : Cl SKindPathToLinesPatch := ⟨5, SKindPathToLinesPatch.cells⟩
instance : Cl SChanges := ⟨1, SChanges.cells⟩
instance : Cl SPathLines := ⟨2, SPathLines.cells⟩
instance : Cl SFiles := ⟨1, SFiles.cells⟩
theorem textpatch_End_spec (n : Nat) (a0 : SAtOldNew) (r : Int) (h : textpatch_End n a0 = some r) : PSpec Tryz.prog 11 [.agg (SAtOldNew.cells a0)] (iP r) := by
 unfold textpatch_End at h
 refine spec_of Tryz.c_textpatch_End (by simp) ?_
 unfold Tryz.l_textpatch_End
 refine au h [1,1,5,1,1,1,8,8,8,8,5,7,1,1] ?_; intro x1 k1 h
 cases h
 exact ⟨_, rfl, .refl _⟩
theorem strings_IndexByte_spec (n : Nat) (a0 : List UInt8) (a1 : Int) (r : Int) (h : strings_IndexByte n a0 a1 = some r) : PSpec Tryz.prog 60 [.str a0, .int .u8 a1] (.int .i64 r) := by
 unfold strings_IndexByte at h
 injection h with h
 subst h
 exact k_IndexByte a0 a1
theorem lines_Validate_spec (n : Nat) (a0 : List (List UInt8)) (r : SCodeIndex) (h : lines_Validate n a0 = some r) : PSpec Tryz.prog 42 [lP a0] (.agg (SCodeIndex.cells r)) := by
 unfold lines_Validate at h
 refine spec_of Tryz.c_lines_Validate (by simp) ?_
 unfold Tryz.l_lines_Validate
 refine au h [1,1,5,1,1,1,1,5,5] ?_; intro h
 refine bs h (fun c1 h => ?_) fun c1 h => ?_
 ·refine au h [2,1,1,5,8,1] ?_; intro h
  cases h
  exact ⟨_, rfl, .refl _⟩
 ·refine au h [3,1,1,1,1,1,5,1,1] ?_; intro h
  refine Ev.loopW (β := Nat × Int) (fun v => ⟨[(2, wP 10100), (9, lP a0), (10, iP (a0.length : Int)), (11, iP v.2)], [(10100, eP 25 2 [[iP 0, iP 0]])], 2⟩) (fun v => lines_Validate_l1 n a0 v.1 v.2 = some r) (fun v => v.1) (n, 0) (.nA) h ?_
  intro ⟨m1, x1⟩ h
  try dsimp only at h ⊢
  cases m1 with
  | zero => rw [lines_Validate_l1] at h; cases h
  | succ m1 =>
   rw [lines_Validate_l1] at h
   refine au h [1,1,5,1] ?_; intro h
   refine bs h (fun c2 h => ?_) fun c2 h => ?_
   ·refine au h [2,1,1,1,1,1,1,5,5,1,1,1,1,1,1,5,5] ?_; intro e2 k3 h
    refine bs h (fun c4 h => ?_) fun c4 h => ?_
    ·refine au h [2,1,1,1,5,8,1] ?_; intro h
     cases h
     exact ⟨_, rfl, .refl _⟩
    ·refine au h [3,1,1,1,1] ?_; intro h
     refine cb h (strings_IndexByte_spec n _ _) fun r3 k5 h => ?_
     refine aw h [5] ?_; intro h
     refine bs h (fun c6 h => ?_) fun c6 h => ?_
     ·refine au h [2,1,1,1,5,8,1] ?_; intro h
      cases h
      exact ⟨_, rfl, .refl _⟩
     ·refine au h [3,1,1,7,1] ?_; intro x4 k7 h
      exact lb (m1, x4) h
   ·refine au h [3,1,1,1,5,8,1] ?_; intro h
    cases h
    exact ⟨_, rfl, .refl _⟩
theorem textpatch_hunk_spec (n : Nat) (a0 : SAtOldNew) (a1 : Int) (r : Int) (h : textpatch_hunk n a0 a1 = some r) : PSpec Tryz.prog 41 [.agg (SAtOldNew.cells a0), iP a1] (iP r) := by
 unfold textpatch_hunk at h
 refine spec_of Tryz.c_textpatch_hunk (by simp) ?_
 unfold Tryz.l_textpatch_hunk
 refine au h [1,1,5,1,1] ?_; intro h
 refine Ev.seqJ (γ := Bool) (fun v => ⟨[(1, iP a1), (2, wP 10100), (15, .bool v)], [(10100, eP 45 3 [[iP a0.At, lP a0.Old, lP a0.New]])], 2⟩) (fun v => textpatch_hunk_j1 n a0 a1 v = some r) ?_ ?_
 ·refine au h [1,8,8,5,1] ?_; intro h
  refine bs h (fun c12 h => ?_) fun c12 h => ?_
  ·refine aw h [3,3,3,2] ?_; intro h
   exact lf true h
  ·refine aw h [2,8,2,8,2,5,3] ?_; intro h
   exact lf (decide (120 < a0.At)) h
 ·intro x1 h
  try dsimp only at h ⊢
  unfold textpatch_hunk_j1 at h
  refine bs h (fun c1 h => ?_) fun c1 h => ?_
  ·refine au h [2,1,1,1,1] ?_; intro h
   cases h
   exact ⟨_, rfl, .refl _⟩
  ·refine au h [3,1,1,1,1,8,8,8,8,5,1,1] ?_; intro h
   refine Ev.loopW (β := Nat × Int) (fun v => ⟨[(1, iP a1), (2, wP 10200), (20, .agg [lP a0.Old, lP a0.New]), (21, iP v.2)], [(10200, eP 45 3 [[iP a0.At, lP a0.Old, lP a0.New]])], 2⟩) (fun v => textpatch_hunk_l1 n a0 a1 v.1 v.2 = some r) (fun v => v.1) (n, 0) (.nA) h ?_
   intro ⟨m1, x2⟩ h
   try dsimp only at h ⊢
   cases m1 with
   | zero => rw [textpatch_hunk_l1] at h; cases h
   | succ m1 =>
    rw [textpatch_hunk_l1] at h
    refine au h [1,1,5,1] ?_; intro h
    refine bs h (fun c2 h => ?_) fun c2 h => ?_
    ·refine au h [2,1,1,1,1,1] ?_; intro h
     obtain ⟨i3, k3, h⟩ := obind h
     refine W.vidxG (p := lP (if i3 = 0 then a0.Old else a0.New)) rfl rfl k3 (by obtain ⟨_, q1, q2⟩ := garr_some k3; rcases (show i3 = 0 ∨ i3 = 1 by omega) with e | e <;> rw [e] <;> rfl) ?_
     refine ax 49 h [1,1,1,1] ?_; intro h
     refine cb h (lines_Validate_spec n _) fun r4 k4 h => ?_
     refine ax 49 h [5,8,1,1,8,5,5] ?_; intro h
     refine bs h (fun c5 h => ?_) fun c5 h => ?_
     ·refine au h [2,1,1,8,8,1,1] ?_; intro h
      cases h
      exact ⟨_, rfl, .refl _⟩
     ·refine au h [3,1,1,7,1] ?_; intro x5 k6 h
      exact lb (m1, x5) h
    ·refine au h [3,1,1] ?_; intro h
     refine Ev.seqJ (γ := Bool) (fun v => ⟨[(2, wP 10300), (45, .bool v)], [(10300, eP 45 3 [[iP a0.At, lP a0.Old, lP a0.New]])], 2⟩) (fun v => textpatch_hunk_j2 n a0 v = some r) ?_ ?_
     ·refine au h [1,8,8,5,8,8,5,7,5,1] ?_; intro x8 k10 h
      refine bs h (fun c11 h => ?_) fun c11 h => ?_
      ·refine aw h [3,3,3,3,2] ?_; intro h
       exact lf true h
      ·refine aw h [2,8,2,8,2,1,2,5,3] ?_; intro h
       exact lf (decide (a0.At ≤ a1)) h
     ·intro x6 h
      try dsimp only at h ⊢
      unfold textpatch_hunk_j2 at h
      refine bs h (fun c7 h => ?_) fun c7 h => ?_
      ·refine au h [2,1,1,1,1] ?_; intro h
       cases h
       exact ⟨_, rfl, .refl _⟩
      ·refine au h [3,1,1,1,1,8] ?_; intro h
       refine cb h (textpatch_End_spec n _) fun r7 k8 h => ?_
       refine aw h [5] ?_; intro h
       refine bs h (fun c9 h => ?_) fun c9 h => ?_
       ·refine au h [2,1,1,1,1] ?_; intro h
        cases h
        exact ⟨_, rfl, .refl _⟩
       ·refine au h [3,1,1,1,1,1] ?_; intro h
        cases h
        exact ⟨_, rfl, .refl _⟩
theorem textpatch_Validate_spec (n : Nat) (a0 : SHunks) (r : SCodeIndex) (h : textpatch_Validate n a0 = some r) : PSpec Tryz.prog 22 [.agg (SHunks.cells a0)] (.agg (SCodeIndex.cells r)) := by
 unfold textpatch_Validate at h
 refine spec_of Tryz.c_textpatch_Validate (by simp) ?_
 unfold Tryz.l_textpatch_Validate
 refine au h [1,1,5,5,1,1,1,8,8,5,5] ?_; intro h
 refine bs h (fun c1 h => ?_) fun c1 h => ?_
 ·refine au h [2,1,1,5,8,1] ?_; intro h
  cases h
  exact ⟨_, rfl, .refl _⟩
 ·refine au h [3,1,1,1,1,1,1,1,8,8,5,1,1] ?_; intro h
  refine Ev.loopW (β := Nat × Int × Int) (fun v => ⟨[(2, wP 10100), (3, iP v.2.1), (13, lP a0.Hunks), (14, iP (a0.Hunks.length : Int)), (15, iP v.2.2)], [(10100, eP 25 2 [[iP 0, iP 0]])], 2⟩) (fun v => textpatch_Validate_l1 n a0 v.1 v.2.1 v.2.2 = some r) (fun v => v.1) (n, (-1), 0) (.nA) h ?_
  intro ⟨m1, x1, x2⟩ h
  try dsimp only at h ⊢
  cases m1 with
  | zero => rw [textpatch_Validate_l1] at h; cases h
  | succ m1 =>
   rw [textpatch_Validate_l1] at h
   refine au h [1,1,5,1] ?_; intro h
   refine bs h (fun c2 h => ?_) fun c2 h => ?_
   ·refine au h [2,1,1,1,1,1,1,5,5,5,1,8,1,1,1,8,1] ?_; intro e3 k3 h
    refine cb h (textpatch_hunk_spec n _ _) fun r4 k4 h => ?_
    refine ax 32 h [1,1,1,1,5] ?_; intro h
    refine bs h (fun c5 h => ?_) fun c5 h => ?_
    ·refine au h [2,1,1,1,1,5,8,1] ?_; intro h
     cases h
     exact ⟨_, rfl, .refl _⟩
    ·refine au h [3,1,1,8] ?_; intro h
     refine cb h (textpatch_End_spec n _) fun r5 k6 h => ?_
     refine ax 32 h [1,1,7,1] ?_; intro x6 k7 h
     exact lb (m1, r5, x6) h
   ·refine au h [3,1,1,1,5,8,1] ?_; intro h
    cases h
    exact ⟨_, rfl, .refl _⟩
theorem lines_Second_spec (n : Nat) (a0 : List (List UInt8)) (a1 : Int) (r : SCodeIndex) (h : lines_Second n a0 a1 = some r) : PSpec Tryz.prog 23 [lP a0, iP a1] (.agg (SCodeIndex.cells r)) := by
 unfold lines_Second at h
 refine spec_of Tryz.c_lines_Second (by simp) ?_
 unfold Tryz.l_lines_Second
 refine au h [1,1,5,1,1,1,1] ?_; intro h
 refine cb h (lines_Validate_spec n _) fun r1 k1 h => ?_
 refine ax 16 h [5,8,1,1,8,5,5] ?_; intro h
 refine bs h (fun c2 h => ?_) fun c2 h => ?_
 ·refine au h [2,1,1,8,8,1,5,8,1] ?_; intro h
  cases h
  exact ⟨_, rfl, .refl _⟩
 ·refine au h [3,1,1,1,5,8,1] ?_; intro h
  cases h
  exact ⟨_, rfl, .refl _⟩
theorem slices_Equal_string_spec (n : Nat) (a0 : List (List UInt8)) (a1 : List (List UInt8)) (r : Bool) (h : slices_Equal_string n a0 a1 = some r) : PSpec Tryz.prog 43 [lP a0, lP a1] (.bool r) := by
 unfold slices_Equal_string at h
 refine spec_of Tryz.c_slices_Equal_string (by simp) ?_
 unfold Tryz.l_slices_Equal_string
 refine au h [1,1,1,1,1,1,1,5,1,5,5] ?_; intro h
 refine bs h (fun c1 h => ?_) fun c1 h => ?_
 ·refine au h [2,1,1,1,1] ?_; intro h
  cases h
  exact ⟨_, rfl, .refl _⟩
 ·refine au h [3,1,1,1,1,1,5,1,1] ?_; intro h
  refine Ev.loopW (β := Nat × Int) (fun v => ⟨[(0, lP a0), (1, lP a1), (12, iP (a0.length : Int)), (13, iP v.2)], [], 2⟩) (fun v => slices_Equal_string_l1 n a0 a1 v.1 v.2 = some r) (fun v => v.1) (n, 0) (.nA) h ?_
  intro ⟨m1, x1⟩ h
  try dsimp only at h ⊢
  cases m1 with
  | zero => rw [slices_Equal_string_l1] at h; cases h
  | succ m1 =>
   rw [slices_Equal_string_l1] at h
   refine au h [1,1,5,1] ?_; intro h
   refine bs h (fun c2 h => ?_) fun c2 h => ?_
   ·refine au h [2,1,1,1,1,1,1,1,1,1,1,1,5,5,1,1,5,5,6] ?_; intro e2 k3 e3 k4 h
    refine bs h (fun c5 h => ?_) fun c5 h => ?_
    ·refine au h [2,1,1,1,1] ?_; intro h
     cases h
     exact ⟨_, rfl, .refl _⟩
    ·refine au h [3,1,1,7,1] ?_; intro x4 k6 h
     exact lb (m1, x4) h
   ·refine au h [3,1,1,1,1,1] ?_; intro h
    cases h
    exact ⟨_, rfl, .refl _⟩
theorem lines_Occurs_spec (n : Nat) (a0 : List (List UInt8)) (a1 : List (List UInt8)) (a2 : Int) (r : Bool) (h : lines_Occurs n a0 a1 a2 = some r) : PSpec Tryz.prog 24 [lP a0, lP a1, iP a2] (.bool r) := by
 unfold lines_Occurs at h
 refine spec_of Tryz.c_lines_Occurs (by simp) ?_
 unfold Tryz.l_lines_Occurs
 refine au h [1,1,1] ?_; intro h
 refine Ev.seqJ (γ := Bool) (fun v => ⟨[(6, .bool v)], [], 2⟩) (fun v => lines_Occurs_j1 n v = some r) ?_ ?_
 ·refine au h [1,1,5,1] ?_; intro h
  refine bs h (fun c1 h => ?_) fun c1 h => ?_
  ·refine aw h [2,1,2,1,2,5,2,5,2,1] ?_; intro h
   refine bs h (fun c2 h => ?_) fun c2 h => ?_
   ·refine aw h [2,1,2,5,2,1,2,5,2,1,2,7,2,5,2,1] ?_; intro x2 k3 h
    refine bs h (fun c4 h => ?_) fun c4 h => ?_
    ·refine aw h [2,1,2,1,2,1,2,1,2,5,2,7,2,5,2,1,2] ?_; intro x3 k5 s4 k6 h
     refine cb h (slices_Equal_string_spec n _ _) fun r5 k7 h => ?_
     refine aw h [2,1] ?_; intro h
     exact lf r5 h
    ·refine aw h [3,3,3,3,3,3,3,3,3,3,1] ?_; intro h
     exact lf false h
   ·refine aw h [3,3,3,3,3,3,3,3,1,3,3,3,3,3,3,3,3,3,3,1] ?_; intro h
    exact lf false h
  ·refine aw h [3,3,3,3,3,1,3,3,3,3,3,3,3,3,1,3,3,3,3,3,3,3,3,3,3,1] ?_; intro h
   exact lf false h
 ·intro x1 h
  try dsimp only at h ⊢
  unfold lines_Occurs_j1 at h
  refine Ev.ret ?_
  cases h
  exact ⟨_, rfl, .refl _⟩
theorem textpatch_Raw_spec (n : Nat) (a0 : List SAtOldNew) (a1 : List (List UInt8)) (a2 : Int) (a3 : Int) (r : (List (List UInt8))) (h : textpatch_Raw n a0 a1 a2 a3 = some r) : PSpec Tryz.prog 25 [lP a0, lP a1, iP a2, iP a3] (lP r) := by
 unfold textpatch_Raw at h
 refine spec_of Tryz.c_textpatch_Raw (by simp) ?_
 unfold Tryz.l_textpatch_Raw
 refine au h [1,1,1,1,1,1,1,1,1,1,5,1,1] ?_; intro h
 refine Ev.loopW (β := Nat × Int × (List (List UInt8)) × Int) (fun v => ⟨[(1, lP a1), (2, iP v.2.1), (3, iP a3), (9, .own 10100 0), (12, lP a0), (13, iP (a0.length : Int)), (14, iP v.2.2.2)], [(10100, eP 9 1 (mP v.2.2.1))], 2⟩) (fun v => textpatch_Raw_l1 n a0 a1 a3 v.1 v.2.1 v.2.2.1 v.2.2.2 = some r) (fun v => v.1) (n, a2, ([] : List (List UInt8)), 0) ((Wk.ownNil 9 30100 9 1 rfl rfl true).trans (.nA)) h ?_
 intro ⟨m1, x1, w2, x3⟩ h
 try dsimp only at h ⊢
 cases m1 with
 | zero => rw [textpatch_Raw_l1] at h; cases h
 | succ m1 =>
  rw [textpatch_Raw_l1] at h
  refine au h [1,1,5,1] ?_; intro h
  refine bs h (fun c1 h => ?_) fun c1 h => ?_
  ·refine au h [2,1,1,1,1,1,5,5,5,8,1,1,1,1,1,8,8,5,7,8,8,7,1,1,8] ?_; intro e4 k2 s5 k3 w6 k4 w7 k5 h
   refine cb h (textpatch_End_spec n _) fun r8 k6 h => ?_
   refine ax 37 h [1,1,7,1] ?_; intro x9 k7 h
   exact lb (m1, r8, w7, x9) h
  ·refine au h [3,1,1,1,1,1,1,1,5,7,1,1] ?_; intro s10 k8 w11 k9 h
   cases h
   exact ⟨_, rfl, .refl _⟩
theorem textpatch_Apply_spec (n : Nat) (a0 : SHunks) (a1 : List (List UInt8)) (r : ((List (List UInt8)) × SCodeIndex)) (h : textpatch_Apply n a0 a1 = some r) : PSpec Tryz.prog 7 [.agg (SHunks.cells a0), lP a1] (.tup [lP r.1, .agg (SCodeIndex.cells r.2)]) := by
 unfold textpatch_Apply at h
 refine spec_of Tryz.c_textpatch_Apply (by simp) ?_
 unfold Tryz.l_textpatch_Apply
 refine au h [1,1,5,1,5,1,1,1,8] ?_; intro h
 refine cb h (textpatch_Validate_spec n _) fun r1 k1 h => ?_
 refine ax 53 h [5,8,1,1,8,5,5] ?_; intro h
 refine bs h (fun c2 h => ?_) fun c2 h => ?_
 ·refine au h [2,1,1,8,1,8,1] ?_; intro h
  cases h
  exact ⟨_, rfl, Le.tups (.cons (.nils 1) (.cons (.refl _) (.nil)))⟩
 ·refine au h [3,1,1,1,1,1] ?_; intro h
  refine cb h (lines_Second_spec n _ _) fun r2 k3 h => ?_
  refine ax 53 h [5,8,1,1,8,5,5] ?_; intro h
  refine bs h (fun c4 h => ?_) fun c4 h => ?_
  ·refine au h [2,1,1,8,1,8,1] ?_; intro h
   cases h
   exact ⟨_, rfl, Le.tups (.cons (.nils 1) (.cons (.refl _) (.nil)))⟩
  ·refine au h [3,1,1,1,1,8,8,5,1,1] ?_; intro h
   refine Ev.loopW (β := Nat × Int) (fun v => ⟨[(1, lP a1), (2, wP 10100), (5, wP 10101), (24, lP a0.Hunks), (25, iP (a0.Hunks.length : Int)), (26, iP v.2)], [(10100, eP 30 1 [[lP a0.Hunks]]), (10101, eP 25 2 [[iP 0, iP 0]])], 2⟩) (fun v => textpatch_Apply_l1 n a0 a1 v.1 v.2 = some r) (fun v => v.1) (n, 0) (.nA) h ?_
   intro ⟨m1, x3⟩ h
   try dsimp only at h ⊢
   cases m1 with
   | zero => rw [textpatch_Apply_l1] at h; cases h
   | succ m1 =>
    rw [textpatch_Apply_l1] at h
    refine au h [1,1,5,1] ?_; intro h
    refine bs h (fun c5 h => ?_) fun c5 h => ?_
    ·refine au h [2,1,1,1,1,1,1,5,5,5,1,8,1,1,1,8,8,8,8] ?_; intro e4 k6 h
     refine cb h (lines_Occurs_spec n _ _ _) fun r5 k7 h => ?_
     refine aw h [5] ?_; intro h
     refine bs h (fun c8 h => ?_) fun c8 h => ?_
     ·refine au h [2,1,1,1,5,1,8,1] ?_; intro h
      cases h
      exact ⟨_, rfl, Le.tups (.cons (.nils 1) (.cons (.refl _) (.nil)))⟩
     ·refine au h [3,1,1,7,1] ?_; intro x6 k9 h
      exact lb (m1, x6) h
    ·refine au h [3,1,1,1,8,8,1,1,5] ?_; intro h
     refine cb h (textpatch_Raw_spec n _ _ _ _) fun r7 k10 h => ?_
     refine ax 53 h [1,1,1,1,1,5,5] ?_; intro h
     refine bs h (fun c11 h => ?_) fun c11 h => ?_
     ·refine au h [2,1,1,5,1,8,1] ?_; intro h
      cases h
      exact ⟨_, rfl, Le.tups (.cons (.nils 1) (.cons (.refl _) (.nil)))⟩
     ·refine au h [3,1,1,1,1,5,1,8,1] ?_; intro h
      cases h
      exact ⟨_, rfl, .refl _⟩
theorem textpatch_Growth_spec (n : Nat) (a0 : SAtOldNew) (r : Int) (h : textpatch_Growth n a0 = some r) : PSpec Tryz.prog 28 [.agg (SAtOldNew.cells a0)] (iP r) := by
 unfold textpatch_Growth at h
 refine spec_of Tryz.c_textpatch_Growth (by simp) ?_
 unfold Tryz.l_textpatch_Growth
 refine au h [1,1,5,1,1,1,8,8,5,8,8,5,7,1,1] ?_; intro x1 k1 h
 cases h
 exact ⟨_, rfl, .refl _⟩
theorem strconv_Itoa_spec (n : Nat) (a0 : Int) (r : (List UInt8)) (h : strconv_Itoa n a0 = some r) : PSpec Tryz.prog 45 [.int .i64 a0] (.str r) := by
 unfold strconv_Itoa at h
 exact k_Itoa  h
end Go.Proofs.YtjmmlddioeehbaaGreatDoor
namespace Go.Proofs.YtjmmlddioeehbaaGreatDoor
open Go.PW Go
set_option maxHeartbeats 4000000 in
theorem unified_Format_spec (n : Nat) (a0 : List (List UInt8)) (a1 : SHunks) (a2 : Int) (r : ((List UInt8) × SCodeIndex)) (h : unified_Format n a0 a1 a2 = some r) : PSpec Tryz.prog 4 [lP a0, .agg (SHunks.cells a1), iP a2] (.tup [.str r.1, .agg (SCodeIndex.cells r.2)]) := by
 unfold unified_Format at h
 refine spec_of Tryz.c_unified_Format (by simp) ?_
 unfold Tryz.l_unified_Format
 refine au h [1,1,5,1,5,1,1,1,8,1] ?_; intro h
 refine cb h (textpatch_Apply_spec n _ _) fun r1 k1 h => ?_
 refine ax 79 h [1,5,5,5,1,8,1,1,8,5,5] ?_; intro h
 refine bs h (fun c2 h => ?_) fun c2 h => ?_
 ·refine au h [2,1,1,8,1,8,1] ?_; intro h
  cases h
  exact ⟨_, rfl, .refl _⟩
 ·refine au h [3,1,1] ?_; intro h
  refine Ev.seqJ (γ := Bool) (fun v => ⟨[(0, lP a0), (2, iP a2), (4, wP 10100), (7, wP 10101), (29, .bool v)], [(10100, eP 30 1 [[lP a1.Hunks]]), (10101, eP 25 2 [[iP 0, iP 0]])], 2⟩) (fun v => unified_Format_j1 n a0 a1 a2 v = some r) ?_ ?_
  ·refine au h [1,1,5,1] ?_; intro h
   refine bs h (fun c81 h => ?_) fun c81 h => ?_
   ·refine aw h [3,3,2] ?_; intro h
    exact lf true h
   ·refine aw h [2,1,2,5,3] ?_; intro h
    exact lf (decide (120 < a2)) h
  ·intro x2 h
   try dsimp only at h ⊢
   unfold unified_Format_j1 at h
   refine bs h (fun c3 h => ?_) fun c3 h => ?_
   ·refine au h [2,1,1,5,1,8,1] ?_; intro h
    cases h
    exact ⟨_, rfl, .refl _⟩
   ·refine au h [3,1,1,1] ?_; intro h
    refine W.allocB rfl (W.nil ?_)
    refine Ev.weak ?_ (Wk.ownNilCell 10 2 1 20010 5 1 rfl rfl rfl rfl rfl (by simp) true)
    refine au h [1,1,1,1,1,1,1,1] ?_; intro h
    refine Ev.loopW (β := Nat × (List Int) × Int × Int) (fun v => ⟨[(0, lP a0), (2, iP a2), (4, wP 10200), (7, wP 10201), (10, wP 10202), (11, iP v.2.2.1), (12, iP v.2.2.2)], [(10200, eP 30 1 [[lP a1.Hunks]]), (10201, eP 25 2 [[iP 0, iP 0]]), (10202, ⟨0, 43, 2, [[.pown 10202 0 BX BX, .own 10203 0]], false, false, false⟩), (10203, eP 5 1 (List.map (cK .u8) v.2.1))], 2⟩) (fun v => unified_Format_l1 n a0 a1 a2 v.1 v.2.1 v.2.2.1 v.2.2.2 = some r) (fun v => v.1) (n, ([] : List Int), 0, 0) (.nA) h ?_
    intro ⟨m1, w3, x4, x5⟩ h
    try dsimp only at h ⊢
    cases m1 with
    | zero => rw [unified_Format_l1] at h; cases h
    | succ m1 =>
     rw [unified_Format_l1] at h
     refine au h [1,1,1,1,8,8,5,5] ?_; intro h
     refine bs h (fun c4 h => ?_) fun c4 h => ?_
     ·refine au h [2,1,1,1,1,1,7,1] ?_; intro x6 k5 h
      refine Ev.seqJ (γ := Int) (fun v => ⟨[(0, lP a0), (2, iP a2), (4, wP 10300), (7, wP 10301), (10, wP 10302), (11, iP x4), (12, iP x5), (13, iP v)], [(10300, eP 30 1 [[lP a1.Hunks]]), (10301, eP 25 2 [[iP 0, iP 0]]), (10302, ⟨0, 43, 2, [[.pown 10302 0 BX BX, .own 10303 0]], false, false, false⟩), (10303, eP 5 1 (List.map (cK .u8) w3))], 2⟩) (fun v => unified_Format_j2 n a0 a1 a2 w3 x4 x5 (unified_Format_l1 n a0 a1 a2 m1) v = some r) ?_ ?_
      ·refine Ev.block ?_
       refine Ev.loopW (β := Nat × Int) (fun v => ⟨[(0, lP a0), (2, iP a2), (4, wP 10400), (7, wP 10401), (10, wP 10402), (11, iP x4), (12, iP x5), (13, iP v.2)], [(10400, eP 30 1 [[lP a1.Hunks]]), (10401, eP 25 2 [[iP 0, iP 0]]), (10402, ⟨0, 43, 2, [[.pown 10402 0 BX BX, .own 10403 0]], false, false, false⟩), (10403, eP 5 1 (List.map (cK .u8) w3))], 2⟩) (fun v => unified_Format_l8 n a0 a1 a2 w3 x4 x5 (unified_Format_l1 n a0 a1 a2 m1) v.1 v.2 = some r) (fun v => v.1) (n, x6) (.nA) h ?_
       intro ⟨m8, x87⟩ h
       try dsimp only at h ⊢
       cases m8 with
       | zero => rw [unified_Format_l8] at h; cases h
       | succ m8 =>
        rw [unified_Format_l8] at h
        refine Ev.seq ?_
        refine Ev.seqJ (γ := Bool) (fun v => ⟨[(0, lP a0), (2, iP a2), (4, wP 10500), (7, wP 10501), (10, wP 10502), (11, iP x4), (12, iP x5), (13, iP x87), (61, .bool v)], [(10500, eP 30 1 [[lP a1.Hunks]]), (10501, eP 25 2 [[iP 0, iP 0]]), (10502, ⟨0, 43, 2, [[.pown 10502 0 BX BX, .own 10503 0]], false, false, false⟩), (10503, eP 5 1 (List.map (cK .u8) w3))], 2⟩) (fun v => unified_Format_j12 n a0 a1 a2 w3 x4 x5 (unified_Format_l1 n a0 a1 a2 m1) x87 (unified_Format_l8 n a0 a1 a2 w3 x4 x5 (unified_Format_l1 n a0 a1 a2 m1) m8) v = some r) ?_ ?_
        ·refine au h [1,1,8,8,5,5,1] ?_; intro h
         refine bs h (fun c72 h => ?_) fun c72 h => ?_
         ·refine aw h [2,8,2,8,2,1,2,5,2,5,2,5,2,8,2,8,2,1,2,7,2,5,2,5,2] ?_; intro e90 k73 x91 k74 e92 k75 h
          refine cb h (textpatch_End_spec n _) fun r93 k76 h => ?_
          refine aw h [2,7,2,1,2,7,2,5,2] ?_; intro x94 k77 x95 k78 h
          exact lf (decide (x94 ≤ x95)) h
         ·refine aw h [3,3,3,3,3,3,3,3,3,3,3,3,3,3,3,3,3,3] ?_; intro h
          exact lf false h
        ·intro x88 h
         try dsimp only at h ⊢
         unfold unified_Format_j12 at h
         refine bs h (fun c70 h => ?_) fun c70 h => ?_
         ·refine au h [2,1,1,1,1,7,1] ?_; intro x89 k71 h
          exact lb (m8, x89) h
         ·refine au h [3,1] ?_; intro h
          exact lf x87 h
      ·intro x7 h
       try dsimp only at h ⊢
       unfold unified_Format_j2 at h
       refine Ev.seq ?_
       refine Ev.regS rfl ?_
       refine Sq.w 8 nb ?_
       refine aw h [1,8,8,1,1,5,1,1] ?_; intro s8 k6 h
       refine Sq.call rfl Tryz.c_unified_group ⟨_, rfl, nb, ?_⟩
       unfold Tryz.l_unified_group
       refine Ev.retJ (γ := Int × (List Int)) (fun v => ⟨[(10, iP v.1), (65536, lP a0), (65538, iP a2), (65540, wP 10400), (65543, wP 10401), (65546, wP 10402), (65547, iP x4), (65549, iP x7)], [(10400, eP 30 1 [[lP a1.Hunks]]), (10401, eP 25 2 [[iP 0, iP 0]]), (10402, ⟨0, 43, 2, [[.pown 10402 0 BX BX, .own 10403 0]], false, false, false⟩), (10403, eP 5 1 (List.map (cK .u8) v.2))], 2⟩) (fun v => unified_Format_j3 n (unified_Format_l1 n a0 a1 a2 m1) x7 v.1 v.2 = some r) ?_ ?_
       ·refine au h [1,1,1,1,1,1,5,5,5,1,7,5,1,1,1,1,1,5,7,5,5] ?_; intro e11 k7 x12 k8 x13 k9 e14 k10 h
        refine cb h (textpatch_End_spec n _) fun r15 k11 h => ?_
        refine ax 105 h [1,7,1,5,5,1,1,1,1,1,1,1,1,5,1,1] ?_; intro x16 k12 h
        refine Ev.loopW (β := Nat × Int × Int) (fun v => ⟨[(0, wP 10500), (1, lP a0), (2, lP s8), (4, iP x4), (11, iP (max x12 0)), (12, iP (min x16 (a0.length : Int))), (13, iP v.2.1), (38, lP s8), (39, iP (s8.length : Int)), (40, iP v.2.2), (65536, lP a0), (65538, iP a2), (65540, wP 10502), (65543, wP 10503), (65546, wP 10500), (65547, iP x4), (65549, iP x7)], [(10500, ⟨0, 43, 2, [[.pown 10500 0 BX BX, .own 10501 0]], false, false, false⟩), (10501, eP 5 1 (List.map (cK .u8) w3)), (10502, eP 30 1 [[lP a1.Hunks]]), (10503, eP 25 2 [[iP 0, iP 0]])], 2⟩) (fun v => unified_Format_l2 n a0 w3 x4 (unified_Format_l1 n a0 a1 a2 m1) x7 s8 x12 x16 v.1 v.2.1 v.2.2 = some r) (fun v => v.1) (n, 0, 0) (.nA) h ?_
        intro ⟨m2, x17, x18⟩ h
        try dsimp only at h ⊢
        cases m2 with
        | zero => rw [unified_Format_l2] at h; cases h
        | succ m2 =>
         rw [unified_Format_l2] at h
         refine au h [1,1,5,1] ?_; intro h
         refine bs h (fun c13 h => ?_) fun c13 h => ?_
         ·refine au h [2,1,1,1,1,1,5,5,5,8,1,1,8] ?_; intro e19 k14 h
          refine cb h (textpatch_Growth_spec n _) fun r20 k15 h => ?_
          refine ax 105 h [7,1,1,7,1] ?_; intro x21 k16 x22 k17 h
          exact lb (m2, x21, x22) h
         ·refine au h [3,1,1,1,1] ?_; intro h
          obtain ⟨w23, k18, h⟩ := obind h
          refine W.bwrite (k_BWriteString w3 ([64, 64, 32, 45] : List UInt8) w23 k18) rfl rfl rfl rfl rfl ⟨fun _ => rfl, fun _ => rfl⟩ rfl (by decide) (by decide) (by decide) ?_
          refine ax 105 h [1] ?_; intro h
          refine Ev.regS rfl ?_
          refine Sq.w 5 nb ?_
          refine aw h [1,1,1,1,7] ?_; intro x24 k19 h
          refine Sq.weak (st' := ⟨[(0, wP 10500), (1, lP a0), (2, lP s8), (4, iP x4), (11, iP (max x12 0)), (12, iP (min x16 (a0.length : Int))), (13, iP x17), (51, wP 10500), (52, iP (max x12 0)), (55, iP x24), (65536, lP a0), (65538, iP a2), (65540, wP 10502), (65543, wP 10503), (65546, wP 10500), (65547, iP x4), (65549, iP x7)], [(10500, ⟨0, 43, 2, [[.pown 10500 0 BX BX, .own 10501 0]], false, false, false⟩), (10501, eP 5 1 (List.map (cK .u8) w23)), (10502, eP 30 1 [[lP a1.Hunks]]), (10503, eP 25 2 [[iP 0, iP 0]])], 2⟩) ?_ (.nA)
          refine Sq.call rfl Tryz.c_unified_side ⟨_, rfl, nb, ?_⟩
          unfold Tryz.l_unified_side
          refine Ev.retJ (γ := List Int) (fun v => ⟨[(65536, wP 10600), (65537, lP a0), (65538, lP s8), (65540, iP x4), (65547, iP (max x12 0)), (65548, iP (min x16 (a0.length : Int))), (65549, iP x17), (131072, lP a0), (131074, iP a2), (131076, wP 10602), (131079, wP 10603), (131082, wP 10600), (131083, iP x4), (131085, iP x7)], [(10600, ⟨0, 43, 2, [[.pown 10600 0 BX BX, .own 10601 0]], false, false, false⟩), (10601, eP 5 1 (List.map (cK .u8) v)), (10602, eP 30 1 [[lP a1.Hunks]]), (10603, eP 25 2 [[iP 0, iP 0]])], 2⟩) (fun v => unified_Format_j4 n a0 x4 (unified_Format_l1 n a0 a1 a2 m1) x7 s8 x12 x16 x17 v = some r) ?_ ?_
          ·refine Ev.seqJ (γ := Int) (fun v => ⟨[(0, wP 10700), (1, iP v), (2, iP x24), (65536, wP 10700), (65537, lP a0), (65538, lP s8), (65540, iP x4), (65547, iP (max x12 0)), (65548, iP (min x16 (a0.length : Int))), (65549, iP x17), (131072, lP a0), (131074, iP a2), (131076, wP 10702), (131079, wP 10703), (131082, wP 10700), (131083, iP x4), (131085, iP x7)], [(10700, ⟨0, 43, 2, [[.pown 10700 0 BX BX, .own 10701 0]], false, false, false⟩), (10701, eP 5 1 (List.map (cK .u8) w23)), (10702, eP 30 1 [[lP a1.Hunks]]), (10703, eP 25 2 [[iP 0, iP 0]])], 2⟩) (fun v => unified_Format_j11 n a0 x4 (unified_Format_l1 n a0 a1 a2 m1) x7 s8 x12 x16 x17 w23 x24 v = some r) ?_ ?_
           ·refine au h [1,1,1,5] ?_; intro h
            refine bs h (fun c68 h => ?_) fun c68 h => ?_
            ·refine au h [2,1,1,7,1] ?_; intro x86 k69 h
             exact lf x86 h
            ·refine au h [3,1] ?_; intro h
             exact lf (max x12 0) h
           ·intro x80 h
            try dsimp only at h ⊢
            unfold unified_Format_j11 at h
            refine au h [1,1,1] ?_; intro h
            refine cb h (strconv_Itoa_spec n _) fun r81 k63 h => ?_
            refine aw h [8,1] ?_; intro s82 k64 h
            refine cb h (strconv_Itoa_spec n _) fun r83 k65 h => ?_
            refine aw h [8] ?_; intro s84 k66 h
            obtain ⟨w85, k67, h⟩ := obind h
            refine W.bwrite (k_BWriteString w23 s84 w85 k67) rfl rfl rfl rfl rfl ⟨fun _ => rfl, fun _ => rfl⟩ rfl (by decide) (by decide) (by decide) ?_
            refine W.nil ?_
            exact lf w85 h
          ·intro w25 h
           try dsimp only at h ⊢
           unfold unified_Format_j4 at h
           refine ⟨_, rfl, ?_⟩
           refine Sq.wEnd nb ?_
           refine ax 105 h [1,1,1] ?_; intro h
           obtain ⟨w26, k20, h⟩ := obind h
           refine W.bwrite (k_BWriteString w25 ([32, 43] : List UInt8) w26 k20) rfl rfl rfl rfl rfl ⟨fun _ => rfl, fun _ => rfl⟩ rfl (by decide) (by decide) (by decide) ?_
           refine ax 105 h [1] ?_; intro h
           refine Ev.regS rfl ?_
           refine Sq.w 9 nb ?_
           refine aw h [1,1,1,7,1,1,7,1,7] ?_; intro x27 k21 x28 k22 x29 k23 h
           refine Sq.weak (st' := ⟨[(0, wP 10600), (1, lP a0), (2, lP s8), (4, iP x4), (11, iP (max x12 0)), (12, iP (min x16 (a0.length : Int))), (13, iP x17), (59, wP 10600), (62, iP x27), (67, iP x29), (65536, lP a0), (65538, iP a2), (65540, wP 10602), (65543, wP 10603), (65546, wP 10600), (65547, iP x4), (65549, iP x7)], [(10600, ⟨0, 43, 2, [[.pown 10600 0 BX BX, .own 10601 0]], false, false, false⟩), (10601, eP 5 1 (List.map (cK .u8) w26)), (10602, eP 30 1 [[lP a1.Hunks]]), (10603, eP 25 2 [[iP 0, iP 0]])], 2⟩) ?_ (.nA)
           refine Sq.call rfl Tryz.c_unified_side ⟨_, rfl, nb, ?_⟩
           unfold Tryz.l_unified_side
           refine Ev.retJ (γ := List Int) (fun v => ⟨[(65536, wP 10700), (65537, lP a0), (65538, lP s8), (65540, iP x4), (65547, iP (max x12 0)), (65548, iP (min x16 (a0.length : Int))), (65549, iP x17), (131072, lP a0), (131074, iP a2), (131076, wP 10702), (131079, wP 10703), (131082, wP 10700), (131083, iP x4), (131085, iP x7)], [(10700, ⟨0, 43, 2, [[.pown 10700 0 BX BX, .own 10701 0]], false, false, false⟩), (10701, eP 5 1 (List.map (cK .u8) v)), (10702, eP 30 1 [[lP a1.Hunks]]), (10703, eP 25 2 [[iP 0, iP 0]])], 2⟩) (fun v => unified_Format_j5 n a0 x4 (unified_Format_l1 n a0 a1 a2 m1) x7 s8 x12 x16 x17 v = some r) ?_ ?_
           ·refine Ev.seqJ (γ := Int) (fun v => ⟨[(0, wP 10800), (1, iP v), (2, iP x29), (65536, wP 10800), (65537, lP a0), (65538, lP s8), (65540, iP x4), (65547, iP (max x12 0)), (65548, iP (min x16 (a0.length : Int))), (65549, iP x17), (131072, lP a0), (131074, iP a2), (131076, wP 10802), (131079, wP 10803), (131082, wP 10800), (131083, iP x4), (131085, iP x7)], [(10800, ⟨0, 43, 2, [[.pown 10800 0 BX BX, .own 10801 0]], false, false, false⟩), (10801, eP 5 1 (List.map (cK .u8) w26)), (10802, eP 30 1 [[lP a1.Hunks]]), (10803, eP 25 2 [[iP 0, iP 0]])], 2⟩) (fun v => unified_Format_j10 n a0 x4 (unified_Format_l1 n a0 a1 a2 m1) x7 s8 x12 x16 x17 w26 x29 v = some r) ?_ ?_
            ·refine au h [1,1,1,5] ?_; intro h
             refine bs h (fun c61 h => ?_) fun c61 h => ?_
             ·refine au h [2,1,1,7,1] ?_; intro x79 k62 h
              exact lf x79 h
             ·refine au h [3,1] ?_; intro h
              exact lf x27 h
            ·intro x73 h
             try dsimp only at h ⊢
             unfold unified_Format_j10 at h
             refine au h [1,1,1] ?_; intro h
             refine cb h (strconv_Itoa_spec n _) fun r74 k56 h => ?_
             refine aw h [8,1] ?_; intro s75 k57 h
             refine cb h (strconv_Itoa_spec n _) fun r76 k58 h => ?_
             refine aw h [8] ?_; intro s77 k59 h
             obtain ⟨w78, k60, h⟩ := obind h
             refine W.bwrite (k_BWriteString w26 s77 w78 k60) rfl rfl rfl rfl rfl ⟨fun _ => rfl, fun _ => rfl⟩ rfl (by decide) (by decide) (by decide) ?_
             refine W.nil ?_
             exact lf w78 h
           ·intro w30 h
            try dsimp only at h ⊢
            unfold unified_Format_j5 at h
            refine ⟨_, rfl, ?_⟩
            refine Sq.wEnd nb ?_
            refine ax 105 h [1,1,1] ?_; intro h
            obtain ⟨w31, k24, h⟩ := obind h
            refine W.bwrite (k_BWriteString w30 ([32, 64, 64, 10] : List UInt8) w31 k24) rfl rfl rfl rfl rfl ⟨fun _ => rfl, fun _ => rfl⟩ rfl (by decide) (by decide) (by decide) ?_
            refine ax 105 h [1,1,1,1,1,1,1,1,5,1,1] ?_; intro h
            refine Ev.loopW (β := Nat × (List Int) × Int × Int) (fun v => ⟨[(0, wP 10800), (1, lP a0), (4, iP x4), (12, iP (min x16 (a0.length : Int))), (13, iP x17), (16, iP v.2.2.1), (72, lP s8), (73, iP (s8.length : Int)), (74, iP v.2.2.2), (65536, lP a0), (65538, iP a2), (65540, wP 10802), (65543, wP 10803), (65546, wP 10800), (65547, iP x4), (65549, iP x7)], [(10800, ⟨0, 43, 2, [[.pown 10800 0 BX BX, .own 10801 0]], false, false, false⟩), (10801, eP 5 1 (List.map (cK .u8) v.2.1)), (10802, eP 30 1 [[lP a1.Hunks]]), (10803, eP 25 2 [[iP 0, iP 0]])], 2⟩) (fun v => unified_Format_l3 n a0 x4 (unified_Format_l1 n a0 a1 a2 m1) x7 s8 x16 x17 v.1 v.2.1 v.2.2.1 v.2.2.2 = some r) (fun v => v.1) (n, w31, (max x12 0), 0) (.nA) h ?_
            intro ⟨m3, w32, x33, x34⟩ h
            try dsimp only at h ⊢
            cases m3 with
            | zero => rw [unified_Format_l3] at h; cases h
            | succ m3 =>
             rw [unified_Format_l3] at h
             refine au h [1,1,5,1] ?_; intro h
             refine bs h (fun c25 h => ?_) fun c25 h => ?_
             ·refine au h [2,1,1,1,1,1,5,5,5,8,1] ?_; intro e35 k26 h
              refine Ev.regS rfl ?_
              refine Sq.w 6 nb ?_
              refine aw h [1,1,1,8,8,5] ?_; intro s36 k27 h
              refine Sq.weak (st' := ⟨[(0, wP 10800), (1, lP a0), (4, iP x4), (12, iP (min x16 (a0.length : Int))), (13, iP x17), (18, wP 10802), (72, lP s8), (73, iP (s8.length : Int)), (74, iP x34), (78, wP 10800), (83, lP s36), (65536, lP a0), (65538, iP a2), (65540, wP 10803), (65543, wP 10804), (65546, wP 10800), (65547, iP x4), (65549, iP x7)], [(10800, ⟨0, 43, 2, [[.pown 10800 0 BX BX, .own 10801 0]], false, false, false⟩), (10801, eP 5 1 (List.map (cK .u8) w32)), (10802, eP 45 3 [[iP e35.At, lP e35.Old, lP e35.New]]), (10803, eP 30 1 [[lP a1.Hunks]]), (10804, eP 25 2 [[iP 0, iP 0]])], 2⟩) ?_ (.nA)
              refine Sq.call rfl Tryz.c_unified_prefixed ⟨_, rfl, nb, ?_⟩
              unfold Tryz.l_unified_prefixed
              refine Ev.retJ (γ := List Int) (fun v => ⟨[(65536, wP 10900), (65537, lP a0), (65540, iP x4), (65548, iP (min x16 (a0.length : Int))), (65549, iP x17), (65554, wP 10902), (65608, lP s8), (65609, iP (s8.length : Int)), (65610, iP x34), (131072, lP a0), (131074, iP a2), (131076, wP 10903), (131079, wP 10904), (131082, wP 10900), (131083, iP x4), (131085, iP x7)], [(10900, ⟨0, 43, 2, [[.pown 10900 0 BX BX, .own 10901 0]], false, false, false⟩), (10901, eP 5 1 (List.map (cK .u8) v)), (10902, eP 45 3 [[iP e35.At, lP e35.Old, lP e35.New]]), (10903, eP 30 1 [[lP a1.Hunks]]), (10904, eP 25 2 [[iP 0, iP 0]])], 2⟩) (fun v => unified_Format_j6 n x34 (unified_Format_l3 n a0 x4 (unified_Format_l1 n a0 a1 a2 m1) x7 s8 x16 x17 m3) e35 v = some r) ?_ ?_
              ·refine au h [1,1,1,5,1,1] ?_; intro h
               refine Ev.loopW (β := Nat × (List Int) × Int) (fun v => ⟨[(0, wP 11000), (1, .int .u8 32), (8, lP s36), (9, iP (s36.length : Int)), (10, iP v.2.2), (65536, wP 11000), (65537, lP a0), (65540, iP x4), (65548, iP (min x16 (a0.length : Int))), (65549, iP x17), (65554, wP 11002), (65608, lP s8), (65609, iP (s8.length : Int)), (65610, iP x34), (131072, lP a0), (131074, iP a2), (131076, wP 11003), (131079, wP 11004), (131082, wP 11000), (131083, iP x4), (131085, iP x7)], [(11000, ⟨0, 43, 2, [[.pown 11000 0 BX BX, .own 11001 0]], false, false, false⟩), (11001, eP 5 1 (List.map (cK .u8) v.2.1)), (11002, eP 45 3 [[iP e35.At, lP e35.Old, lP e35.New]]), (11003, eP 30 1 [[lP a1.Hunks]]), (11004, eP 25 2 [[iP 0, iP 0]])], 2⟩) (fun v => unified_Format_l6 n x34 (unified_Format_l3 n a0 x4 (unified_Format_l1 n a0 a1 a2 m1) x7 s8 x16 x17 m3) e35 s36 v.1 v.2.1 v.2.2 = some r) (fun v => v.1) (n, w32, 0) (.nA) h ?_
               intro ⟨m6, w56, x57⟩ h
               try dsimp only at h ⊢
               cases m6 with
               | zero => rw [unified_Format_l6] at h; cases h
               | succ m6 =>
                rw [unified_Format_l6] at h
                refine au h [1,1,5,1] ?_; intro h
                refine bs h (fun c42 h => ?_) fun c42 h => ?_
                ·refine au h [2,1,1,1,1,1,5,5,1,1,1,1,1] ?_; intro e58 k43 h
                 obtain ⟨w59, k44, h⟩ := obind h
                 refine W.bwrite (k_BWriteByte w56 32 w59 k44) rfl rfl rfl rfl rfl ⟨fun _ => rfl, fun _ => rfl⟩ rfl (by decide) (by decide) (by decide) ?_
                 refine ax 23 h [1,1,1,1] ?_; intro h
                 obtain ⟨w60, k45, h⟩ := obind h
                 refine W.bwrite (k_BWriteString w59 e58 w60 k45) rfl rfl rfl rfl rfl ⟨fun _ => rfl, fun _ => rfl⟩ rfl (by decide) (by decide) (by decide) ?_
                 refine ax 23 h [1,1] ?_; intro h
                 obtain ⟨w61, k46, h⟩ := obind h
                 refine W.bwrite (k_BWriteByte w60 10 w61 k46) rfl rfl rfl rfl rfl ⟨fun _ => rfl, fun _ => rfl⟩ rfl (by decide) (by decide) (by decide) ?_
                 refine ax 23 h [1,7,1] ?_; intro x62 k47 h
                 exact lb (m6, w61, x62) h
                ·refine au h [3,1] ?_; intro h
                 exact lf w56 h
              ·intro w37 h
               try dsimp only at h ⊢
               unfold unified_Format_j6 at h
               refine ⟨_, rfl, ?_⟩
               refine Sq.wEnd nb ?_
               refine ax 105 h [1] ?_; intro h
               refine Ev.regS rfl ?_
               refine Sq.w 3 nb ?_
               refine aw h [1,8,8] ?_; intro h
               refine Sq.call rfl Tryz.c_unified_prefixed ⟨_, rfl, nb, ?_⟩
               unfold Tryz.l_unified_prefixed
               refine Ev.retJ (γ := List Int) (fun v => ⟨[(65536, wP 11000), (65537, lP a0), (65540, iP x4), (65548, iP (min x16 (a0.length : Int))), (65549, iP x17), (65554, wP 11002), (65608, lP s8), (65609, iP (s8.length : Int)), (65610, iP x34), (131072, lP a0), (131074, iP a2), (131076, wP 11003), (131079, wP 11004), (131082, wP 11000), (131083, iP x4), (131085, iP x7)], [(11000, ⟨0, 43, 2, [[.pown 11000 0 BX BX, .own 11001 0]], false, false, false⟩), (11001, eP 5 1 (List.map (cK .u8) v)), (11002, eP 45 3 [[iP e35.At, lP e35.Old, lP e35.New]]), (11003, eP 30 1 [[lP a1.Hunks]]), (11004, eP 25 2 [[iP 0, iP 0]])], 2⟩) (fun v => unified_Format_j7 n x34 (unified_Format_l3 n a0 x4 (unified_Format_l1 n a0 a1 a2 m1) x7 s8 x16 x17 m3) e35 v = some r) ?_ ?_
               ·refine au h [1,1,1,5,1,1] ?_; intro h
                refine Ev.loopW (β := Nat × (List Int) × Int) (fun v => ⟨[(0, wP 11100), (1, .int .u8 45), (8, lP e35.Old), (9, iP (e35.Old.length : Int)), (10, iP v.2.2), (65536, wP 11100), (65537, lP a0), (65540, iP x4), (65548, iP (min x16 (a0.length : Int))), (65549, iP x17), (65554, wP 11102), (65608, lP s8), (65609, iP (s8.length : Int)), (65610, iP x34), (131072, lP a0), (131074, iP a2), (131076, wP 11103), (131079, wP 11104), (131082, wP 11100), (131083, iP x4), (131085, iP x7)], [(11100, ⟨0, 43, 2, [[.pown 11100 0 BX BX, .own 11101 0]], false, false, false⟩), (11101, eP 5 1 (List.map (cK .u8) v.2.1)), (11102, eP 45 3 [[iP e35.At, lP e35.Old, lP e35.New]]), (11103, eP 30 1 [[lP a1.Hunks]]), (11104, eP 25 2 [[iP 0, iP 0]])], 2⟩) (fun v => unified_Format_l5 n x34 (unified_Format_l3 n a0 x4 (unified_Format_l1 n a0 a1 a2 m1) x7 s8 x16 x17 m3) e35 v.1 v.2.1 v.2.2 = some r) (fun v => v.1) (n, w37, 0) (.nA) h ?_
                intro ⟨m5, w49, x50⟩ h
                try dsimp only at h ⊢
                cases m5 with
                | zero => rw [unified_Format_l5] at h; cases h
                | succ m5 =>
                 rw [unified_Format_l5] at h
                 refine au h [1,1,5,1] ?_; intro h
                 refine bs h (fun c36 h => ?_) fun c36 h => ?_
                 ·refine au h [2,1,1,1,1,1,5,5,1,1,1,1,1] ?_; intro e51 k37 h
                  obtain ⟨w52, k38, h⟩ := obind h
                  refine W.bwrite (k_BWriteByte w49 45 w52 k38) rfl rfl rfl rfl rfl ⟨fun _ => rfl, fun _ => rfl⟩ rfl (by decide) (by decide) (by decide) ?_
                  refine ax 23 h [1,1,1,1] ?_; intro h
                  obtain ⟨w53, k39, h⟩ := obind h
                  refine W.bwrite (k_BWriteString w52 e51 w53 k39) rfl rfl rfl rfl rfl ⟨fun _ => rfl, fun _ => rfl⟩ rfl (by decide) (by decide) (by decide) ?_
                  refine ax 23 h [1,1] ?_; intro h
                  obtain ⟨w54, k40, h⟩ := obind h
                  refine W.bwrite (k_BWriteByte w53 10 w54 k40) rfl rfl rfl rfl rfl ⟨fun _ => rfl, fun _ => rfl⟩ rfl (by decide) (by decide) (by decide) ?_
                  refine ax 23 h [1,7,1] ?_; intro x55 k41 h
                  exact lb (m5, w54, x55) h
                 ·refine au h [3,1] ?_; intro h
                  exact lf w49 h
               ·intro w38 h
                try dsimp only at h ⊢
                unfold unified_Format_j7 at h
                refine ⟨_, rfl, ?_⟩
                refine Sq.wEnd nb ?_
                refine ax 105 h [1] ?_; intro h
                refine Ev.regS rfl ?_
                refine Sq.w 3 nb ?_
                refine aw h [1,8,8] ?_; intro h
                refine Sq.call rfl Tryz.c_unified_prefixed ⟨_, rfl, nb, ?_⟩
                unfold Tryz.l_unified_prefixed
                refine Ev.retJ (γ := List Int) (fun v => ⟨[(65536, wP 11100), (65537, lP a0), (65540, iP x4), (65548, iP (min x16 (a0.length : Int))), (65549, iP x17), (65554, wP 11102), (65608, lP s8), (65609, iP (s8.length : Int)), (65610, iP x34), (131072, lP a0), (131074, iP a2), (131076, wP 11103), (131079, wP 11104), (131082, wP 11100), (131083, iP x4), (131085, iP x7)], [(11100, ⟨0, 43, 2, [[.pown 11100 0 BX BX, .own 11101 0]], false, false, false⟩), (11101, eP 5 1 (List.map (cK .u8) v)), (11102, eP 45 3 [[iP e35.At, lP e35.Old, lP e35.New]]), (11103, eP 30 1 [[lP a1.Hunks]]), (11104, eP 25 2 [[iP 0, iP 0]])], 2⟩) (fun v => unified_Format_j8 n x34 (unified_Format_l3 n a0 x4 (unified_Format_l1 n a0 a1 a2 m1) x7 s8 x16 x17 m3) e35 v = some r) ?_ ?_
                ·refine au h [1,1,1,5,1,1] ?_; intro h
                 refine Ev.loopW (β := Nat × (List Int) × Int) (fun v => ⟨[(0, wP 11200), (1, .int .u8 43), (8, lP e35.New), (9, iP (e35.New.length : Int)), (10, iP v.2.2), (65536, wP 11200), (65537, lP a0), (65540, iP x4), (65548, iP (min x16 (a0.length : Int))), (65549, iP x17), (65554, wP 11202), (65608, lP s8), (65609, iP (s8.length : Int)), (65610, iP x34), (131072, lP a0), (131074, iP a2), (131076, wP 11203), (131079, wP 11204), (131082, wP 11200), (131083, iP x4), (131085, iP x7)], [(11200, ⟨0, 43, 2, [[.pown 11200 0 BX BX, .own 11201 0]], false, false, false⟩), (11201, eP 5 1 (List.map (cK .u8) v.2.1)), (11202, eP 45 3 [[iP e35.At, lP e35.Old, lP e35.New]]), (11203, eP 30 1 [[lP a1.Hunks]]), (11204, eP 25 2 [[iP 0, iP 0]])], 2⟩) (fun v => unified_Format_l4 n x34 (unified_Format_l3 n a0 x4 (unified_Format_l1 n a0 a1 a2 m1) x7 s8 x16 x17 m3) e35 v.1 v.2.1 v.2.2 = some r) (fun v => v.1) (n, w38, 0) (.nA) h ?_
                 intro ⟨m4, w42, x43⟩ h
                 try dsimp only at h ⊢
                 cases m4 with
                 | zero => rw [unified_Format_l4] at h; cases h
                 | succ m4 =>
                  rw [unified_Format_l4] at h
                  refine au h [1,1,5,1] ?_; intro h
                  refine bs h (fun c30 h => ?_) fun c30 h => ?_
                  ·refine au h [2,1,1,1,1,1,5,5,1,1,1,1,1] ?_; intro e44 k31 h
                   obtain ⟨w45, k32, h⟩ := obind h
                   refine W.bwrite (k_BWriteByte w42 43 w45 k32) rfl rfl rfl rfl rfl ⟨fun _ => rfl, fun _ => rfl⟩ rfl (by decide) (by decide) (by decide) ?_
                   refine ax 23 h [1,1,1,1] ?_; intro h
                   obtain ⟨w46, k33, h⟩ := obind h
                   refine W.bwrite (k_BWriteString w45 e44 w46 k33) rfl rfl rfl rfl rfl ⟨fun _ => rfl, fun _ => rfl⟩ rfl (by decide) (by decide) (by decide) ?_
                   refine ax 23 h [1,1] ?_; intro h
                   obtain ⟨w47, k34, h⟩ := obind h
                   refine W.bwrite (k_BWriteByte w46 10 w47 k34) rfl rfl rfl rfl rfl ⟨fun _ => rfl, fun _ => rfl⟩ rfl (by decide) (by decide) (by decide) ?_
                   refine ax 23 h [1,7,1] ?_; intro x48 k35 h
                   exact lb (m4, w47, x48) h
                  ·refine au h [3,1] ?_; intro h
                   exact lf w42 h
                ·intro w39 h
                 try dsimp only at h ⊢
                 unfold unified_Format_j8 at h
                 refine ⟨_, rfl, ?_⟩
                 refine Sq.wEnd nb ?_
                 refine ax 105 h [1,8] ?_; intro h
                 refine cb h (textpatch_End_spec n _) fun r40 k28 h => ?_
                 refine ax 105 h [1,1,7,1] ?_; intro x41 k29 h
                 exact lb (m3, w39, r40, x41) h
             ·refine au h [3,1,1] ?_; intro h
              refine Ev.regS rfl ?_
              refine Sq.w 5 nb ?_
              refine aw h [1,1,1,1,5] ?_; intro s63 k48 h
              refine Sq.call rfl Tryz.c_unified_prefixed ⟨_, rfl, nb, ?_⟩
              unfold Tryz.l_unified_prefixed
              refine Ev.retJ (γ := List Int) (fun v => ⟨[(65540, iP x4), (65549, iP x17), (131072, lP a0), (131074, iP a2), (131076, wP 10900), (131079, wP 10901), (131082, wP 10902), (131083, iP x4), (131085, iP x7)], [(10900, eP 30 1 [[lP a1.Hunks]]), (10901, eP 25 2 [[iP 0, iP 0]]), (10902, ⟨0, 43, 2, [[.pown 10902 0 BX BX, .own 10903 0]], false, false, false⟩), (10903, eP 5 1 (List.map (cK .u8) v))], 2⟩) (fun v => unified_Format_j9 n x4 (unified_Format_l1 n a0 a1 a2 m1) x7 x17 v = some r) ?_ ?_
              ·refine au h [1,1,1,5,1,1] ?_; intro h
               refine Ev.loopW (β := Nat × (List Int) × Int) (fun v => ⟨[(0, wP 11000), (1, .int .u8 32), (8, lP s63), (9, iP (s63.length : Int)), (10, iP v.2.2), (65540, iP x4), (65549, iP x17), (131072, lP a0), (131074, iP a2), (131076, wP 11002), (131079, wP 11003), (131082, wP 11000), (131083, iP x4), (131085, iP x7)], [(11000, ⟨0, 43, 2, [[.pown 11000 0 BX BX, .own 11001 0]], false, false, false⟩), (11001, eP 5 1 (List.map (cK .u8) v.2.1)), (11002, eP 30 1 [[lP a1.Hunks]]), (11003, eP 25 2 [[iP 0, iP 0]])], 2⟩) (fun v => unified_Format_l7 n x4 (unified_Format_l1 n a0 a1 a2 m1) x7 x17 s63 v.1 v.2.1 v.2.2 = some r) (fun v => v.1) (n, w32, 0) (.nA) h ?_
               intro ⟨m7, w66, x67⟩ h
               try dsimp only at h ⊢
               cases m7 with
               | zero => rw [unified_Format_l7] at h; cases h
               | succ m7 =>
                rw [unified_Format_l7] at h
                refine au h [1,1,5,1] ?_; intro h
                refine bs h (fun c50 h => ?_) fun c50 h => ?_
                ·refine au h [2,1,1,1,1,1,5,5,1,1,1,1,1] ?_; intro e68 k51 h
                 obtain ⟨w69, k52, h⟩ := obind h
                 refine W.bwrite (k_BWriteByte w66 32 w69 k52) rfl rfl rfl rfl rfl ⟨fun _ => rfl, fun _ => rfl⟩ rfl (by decide) (by decide) (by decide) ?_
                 refine ax 23 h [1,1,1,1] ?_; intro h
                 obtain ⟨w70, k53, h⟩ := obind h
                 refine W.bwrite (k_BWriteString w69 e68 w70 k53) rfl rfl rfl rfl rfl ⟨fun _ => rfl, fun _ => rfl⟩ rfl (by decide) (by decide) (by decide) ?_
                 refine ax 23 h [1,1] ?_; intro h
                 obtain ⟨w71, k54, h⟩ := obind h
                 refine W.bwrite (k_BWriteByte w70 10 w71 k54) rfl rfl rfl rfl rfl ⟨fun _ => rfl, fun _ => rfl⟩ rfl (by decide) (by decide) (by decide) ?_
                 refine ax 23 h [1,7,1] ?_; intro x72 k55 h
                 exact lb (m7, w71, x72) h
                ·refine au h [3,1] ?_; intro h
                 exact lf w66 h
              ·intro w64 h
               try dsimp only at h ⊢
               unfold unified_Format_j9 at h
               refine ⟨_, rfl, ?_⟩
               refine Sq.wEnd nb ?_
               refine ax 105 h [1,1,1,1,7,1,1] ?_; intro x65 k49 h
               exact lf (x65, w64) h
       ·intro ⟨x9, w10⟩ h
        try dsimp only at h ⊢
        unfold unified_Format_j3 at h
        refine ⟨_, rfl, ?_⟩
        refine Sq.wEnd nb ?_
        refine ax 79 h [1,1,1,1] ?_; intro h
        exact lb (m1, w10, x9, x7) h
     ·refine au h [3,1,1,1,1] ?_; intro h
      refine W.blen (k_BLen w3) rfl rfl rfl rfl (by decide) ?_
      refine aw h [5] ?_; intro h
      refine bs h (fun c79 h => ?_) fun c79 h => ?_
      ·refine au h [2,1,1,5,1,8,1] ?_; intro h
       cases h
       exact ⟨_, rfl, .refl _⟩
      ·refine au h [3,1,1,1] ?_; intro h
       obtain ⟨s96, k80, h⟩ := obind h
       refine W.bstring (k_BString s96) (libBString_some k80) rfl rfl rfl rfl (by decide) ?_
       refine ax 79 h [5,1,8,1] ?_; intro h
       cases h
       exact ⟨_, rfl, .refl _⟩
theorem equal_Strings_spec (n : Nat) (a0 : List (List UInt8)) (a1 : List (List UInt8)) (r : Bool) (h : equal_Strings n a0 a1 = some r) : PSpec Tryz.prog 10 [lP a0, lP a1] (.bool r) := by
 unfold equal_Strings at h
 refine spec_of Tryz.c_equal_Strings (by simp) ?_
 unfold Tryz.l_equal_Strings
 refine au h [1,1,1,1,1,1,1,5,1,5,5] ?_; intro h
 refine bs h (fun c1 h => ?_) fun c1 h => ?_
 ·refine au h [2,1,1,1,1] ?_; intro h
  cases h
  exact ⟨_, rfl, .refl _⟩
 ·refine au h [3,1,1,1,1,1,1] ?_; intro h
  refine Ev.loopW (β := Nat × Int) (fun v => ⟨[(0, lP a0), (1, lP a1), (5, iP v.2)], [], 2⟩) (fun v => equal_Strings_l1 n a0 a1 v.1 v.2 = some r) (fun v => v.1) (n, 0) (.nA) h ?_
  intro ⟨m1, x1⟩ h
  try dsimp only at h ⊢
  cases m1 with
  | zero => rw [equal_Strings_l1] at h; cases h
  | succ m1 =>
   rw [equal_Strings_l1] at h
   refine au h [1,1,1,1,1,5,5] ?_; intro h
   refine bs h (fun c2 h => ?_) fun c2 h => ?_
   ·refine au h [2,1,1,1,1,1,1,1,5,5,1,1,5,5,6] ?_; intro e2 k3 e3 k4 h
    refine bs h (fun c5 h => ?_) fun c5 h => ?_
    ·refine au h [2,1,1,1,1] ?_; intro h
     cases h
     exact ⟨_, rfl, .refl _⟩
    ·refine au h [3,1,1,1,7,1] ?_; intro x4 k6 h
     exact lb (m1, x4) h
   ·refine au h [3,1,1,1,1,1] ?_; intro h
    cases h
    exact ⟨_, rfl, .refl _⟩
theorem treepatch_ValidPath_spec (n : Nat) (a0 : List UInt8) (r : Bool) (h : treepatch_ValidPath n a0 = some r) : PSpec Tryz.prog 63 [.str a0] (.bool r) := by
 unfold treepatch_ValidPath at h
 injection h with h
 subst h
 exact k_ValidPath a0
theorem internal_stringslite_HasPrefix_spec (n : Nat) (a0 : List UInt8) (a1 : List UInt8) (r : Bool) (h : internal_stringslite_HasPrefix n a0 a1 = some r) : PSpec Tryz.prog 84 [.str a0, .str a1] (.bool r) := by
 unfold internal_stringslite_HasPrefix at h
 refine spec_of Tryz.c_internal_stringslite_HasPrefix (by simp) ?_
 unfold Tryz.l_internal_stringslite_HasPrefix
 refine au h [1,1,1] ?_; intro h
 refine Ev.seqJ (γ := Bool) (fun v => ⟨[(4, .bool v)], [], 2⟩) (fun v => internal_stringslite_HasPrefix_j1 n v = some r) ?_ ?_
 ·refine au h [1,1,5,1,5,5,1] ?_; intro h
  refine bs h (fun c1 h => ?_) fun c1 h => ?_
  ·refine aw h [2,1,2,1,2,5,2,7,2,1,2,6,2,1] ?_; intro s2 k2 h
   exact lf (decide (s2 = a1)) h
  ·refine aw h [3,3,3,3,3,3,3,1] ?_; intro h
   exact lf false h
 ·intro x1 h
  try dsimp only at h ⊢
  unfold internal_stringslite_HasPrefix_j1 at h
  refine Ev.ret ?_
  cases h
  exact ⟨_, rfl, .refl _⟩
theorem strings_HasPrefix_spec (n : Nat) (a0 : List UInt8) (a1 : List UInt8) (r : Bool) (h : strings_HasPrefix n a0 a1 = some r) : PSpec Tryz.prog 78 [.str a0, .str a1] (.bool r) := by
 unfold strings_HasPrefix at h
 refine spec_of Tryz.c_strings_HasPrefix (by simp) ?_
 unfold Tryz.l_strings_HasPrefix
 refine au h [1,1,1,1,1,1,1] ?_; intro h
 refine cb h (internal_stringslite_HasPrefix_spec n _ _) fun r1 k1 h => ?_
 refine ax 8 h [1,1] ?_; intro h
 cases h
 exact ⟨_, rfl, .refl _⟩
theorem treepatch_Related_spec (n : Nat) (a0 : List UInt8) (a1 : List UInt8) (r : Bool) (h : treepatch_Related n a0 a1 = some r) : PSpec Tryz.prog 64 [.str a0, .str a1] (.bool r) := by
 unfold treepatch_Related at h
 refine spec_of Tryz.c_treepatch_Related (by simp) ?_
 unfold Tryz.l_treepatch_Related
 refine au h [1,1,1] ?_; intro h
 refine Ev.seqJ (γ := Bool) (fun v => ⟨[(4, .bool v)], [], 2⟩) (fun v => treepatch_Related_j1 n v = some r) ?_ ?_
 ·refine au h [1,1,1,6,1] ?_; intro h
  refine bs h (fun c1 h => ?_) fun c1 h => ?_
  ·refine aw h [3,3,3,3,2,1,3,3,3,3,2,1] ?_; intro h
   exact lf true h
  ·refine aw h [2,1,2,1,2,8,2] ?_; intro s2 k2 h
   refine cb h (strings_HasPrefix_spec n _ _) fun r3 k3 h => ?_
   refine aw h [3,1] ?_; intro h
   refine bs h (fun c4 h => ?_) fun c4 h => ?_
   ·refine aw h [3,3,3,3,2,1] ?_; intro h
    exact lf true h
   ·refine aw h [2,1,2,1,2,8,2] ?_; intro s4 k5 h
    refine cb h (strings_HasPrefix_spec n _ _) fun r5 k6 h => ?_
    refine aw h [3,1] ?_; intro h
    exact lf r5 h
 ·intro x1 h
  try dsimp only at h ⊢
  unfold treepatch_Related_j1 at h
  refine Ev.ret ?_
  cases h
  exact ⟨_, rfl, .refl _⟩
theorem treepatch_check_spec (n : Nat) (a0 : SKindPathToLinesPatch) (r : Int) (h : treepatch_check n a0 = some r) : PSpec Tryz.prog 47 [.agg (SKindPathToLinesPatch.cells a0)] (iP r) := by
 unfold treepatch_check at h
 refine spec_of Tryz.c_treepatch_check (by simp) ?_
 unfold Tryz.l_treepatch_check
 refine au h [1,1,5,1,1,1,8,8,5,8,8,5,1,1,1,1] ?_; intro h
 refine Ev.seqJ (γ := Bool) (fun v => ⟨[(1, wP 10100), (3, .bool (decide (a0.Kind = 4))), (4, .bool (decide (a0.Kind = 3))), (12, .bool v)], [(10100, eP 88 5 [[iP a0.Kind, .str a0.Path, .str a0.To, lP a0.Lines, lP a0.Patch.Hunks]])], 2⟩) (fun v => treepatch_check_j1 n a0 v = some r) ?_ ?_
 ·refine au h [1,8,8,5,1] ?_; intro h
  refine bs h (fun c21 h => ?_) fun c21 h => ?_
  ·refine aw h [3,3,3,2,1] ?_; intro h
   exact lf true h
  ·refine aw h [2,8,2,8,2,5,3,1] ?_; intro h
   exact lf (decide (4 < a0.Kind)) h
 ·intro x1 h
  try dsimp only at h ⊢
  unfold treepatch_check_j1 at h
  refine bs h (fun c1 h => ?_) fun c1 h => ?_
  ·refine au h [2,1,1,1,1] ?_; intro h
   cases h
   exact ⟨_, rfl, .refl _⟩
  ·refine Ev.condF rfl c1 ?_
   refine Ev.seqJ (γ := Bool) (fun v => ⟨[(1, wP 10200), (3, .bool (decide (a0.Kind = 4))), (4, .bool (decide (a0.Kind = 3))), (21, .bool v)], [(10200, eP 88 5 [[iP a0.Kind, .str a0.Path, .str a0.To, lP a0.Lines, lP a0.Patch.Hunks]])], 2⟩) (fun v => treepatch_check_j2 n a0 v = some r) ?_ ?_
   ·refine au h [1,8,8] ?_; intro h
    refine cb h (treepatch_ValidPath_spec n _) fun r9 k17 h => ?_
    refine aw h [5,1] ?_; intro h
    refine bs h (fun c18 h => ?_) fun c18 h => ?_
    ·refine aw h [3,3,4,4,4,4,3,2,1] ?_; intro h
     exact lf true h
    ·refine aw h [2,1,2,1] ?_; intro h
     refine bs h (fun c19 h => ?_) fun c19 h => ?_
     ·refine aw h [2,8,2,8,2] ?_; intro h
      refine cb h (treepatch_ValidPath_spec n _) fun r10 k20 h => ?_
      refine aw h [2,5,2,2,3,1] ?_; intro h
      exact lf (!r10) h
     ·refine aw h [3,3,3,3,2,3,3,1] ?_; intro h
      exact lf false h
   ·intro x2 h
    try dsimp only at h ⊢
    unfold treepatch_check_j2 at h
    refine bs h (fun c2 h => ?_) fun c2 h => ?_
    ·refine au h [2,1,1,1,1] ?_; intro h
     cases h
     exact ⟨_, rfl, .refl _⟩
    ·refine Ev.condF rfl c2 ?_
     refine Ev.seqJ (γ := Bool) (fun v => ⟨[(1, wP 10300), (3, .bool (decide (a0.Kind = 4))), (4, .bool (decide (a0.Kind = 3))), (35, .bool v)], [(10300, eP 88 5 [[iP a0.Kind, .str a0.Path, .str a0.To, lP a0.Lines, lP a0.Patch.Hunks]])], 2⟩) (fun v => treepatch_check_j3 n a0 v = some r) ?_ ?_
     ·refine au h [1,1,5,1] ?_; intro h
      refine bs h (fun c11 h => ?_) fun c11 h => ?_
      ·refine aw h [2,8,2,8,2,6,2,1] ?_; intro h
       refine bs h (fun c12 h => ?_) fun c12 h => ?_
       ·refine aw h [3,3,4,4,4,4,4,3,2,1] ?_; intro h
        exact lf true h
       ·refine aw h [2,1,2,1] ?_; intro h
        refine bs h (fun c13 h => ?_) fun c13 h => ?_
        ·refine aw h [2,8,2,8,2,8,2,8,2] ?_; intro h
         refine cb h (treepatch_Related_spec n _ _) fun r7 k14 h => ?_
         refine aw h [2,2,3,1] ?_; intro h
         exact lf r7 h
        ·refine aw h [3,3,3,3,3,2,3,3,1] ?_; intro h
         exact lf false h
      ·refine aw h [3,3,3,3,1,2,1,2,1] ?_; intro h
       refine bs h (fun c15 h => ?_) fun c15 h => ?_
       ·refine aw h [2,8,2,8,2,8,2,8,2] ?_; intro h
        refine cb h (treepatch_Related_spec n _ _) fun r8 k16 h => ?_
        refine aw h [2,2,3,1] ?_; intro h
        exact lf r8 h
       ·refine aw h [3,3,3,3,3,2,3,3,1] ?_; intro h
        exact lf false h
     ·intro x3 h
      try dsimp only at h ⊢
      unfold treepatch_check_j3 at h
      refine bs h (fun c3 h => ?_) fun c3 h => ?_
      ·refine au h [2,1,1,1,1] ?_; intro h
       cases h
       exact ⟨_, rfl, .refl _⟩
      ·refine Ev.condF rfl c3 ?_
       refine Ev.seqJ (γ := Bool) (fun v => ⟨[(1, wP 10400), (3, .bool (decide (a0.Kind = 4))), (53, .bool v)], [(10400, eP 88 5 [[iP a0.Kind, .str a0.Path, .str a0.To, lP a0.Lines, lP a0.Patch.Hunks]])], 2⟩) (fun v => treepatch_check_j4 n a0 v = some r) ?_ ?_
       ·refine au h [1,8,8,5,5,1] ?_; intro h
        refine bs h (fun c9 h => ?_) fun c9 h => ?_
        ·refine aw h [2,1,2,1] ?_; intro h
         refine bs h (fun c10 h => ?_) fun c10 h => ?_
         ·refine aw h [3,2,2,2,1] ?_; intro h
          exact lf true h
         ·refine aw h [2,1,2,3,2,1] ?_; intro h
          exact lf (decide (a0.Kind = 3)) h
        ·refine aw h [3,3,4,3,3,1] ?_; intro h
         exact lf false h
       ·intro x4 h
        try dsimp only at h ⊢
        unfold treepatch_check_j4 at h
        refine bs h (fun c4 h => ?_) fun c4 h => ?_
        ·refine au h [2,1,1,1,1] ?_; intro h
         cases h
         exact ⟨_, rfl, .refl _⟩
        ·refine au h [3,1,1,1,8,8,8,5,5,5,1] ?_; intro h
         refine bs h (fun c5 h => ?_) fun c5 h => ?_
         ·refine au h [2,1,1,1,1] ?_; intro h
          cases h
          exact ⟨_, rfl, .refl _⟩
         ·refine au h [3,1,1,1,1,8,8] ?_; intro h
          refine cb h (lines_Validate_spec n _) fun r5 k6 h => ?_
          refine ax 84 h [5,8,1,1,8,5,5] ?_; intro h
          refine bs h (fun c7 h => ?_) fun c7 h => ?_
          ·refine au h [2,1,1,8,8,1,1] ?_; intro h
           cases h
           exact ⟨_, rfl, .refl _⟩
          ·refine au h [3,1,1,1,8,8] ?_; intro h
           refine cb h (textpatch_Validate_spec n _) fun r6 k8 h => ?_
           refine ax 84 h [5,1,1] ?_; intro h
           cases h
           exact ⟨_, rfl, .refl _⟩
theorem treepatch_ValidatePatch_spec (n : Nat) (a0 : SChanges) (r : SCodeIndex) (h : treepatch_ValidatePatch n a0 = some r) : PSpec Tryz.prog 32 [.agg (SChanges.cells a0)] (.agg (SCodeIndex.cells r)) := by
 unfold treepatch_ValidatePatch at h
 refine spec_of Tryz.c_treepatch_ValidatePatch (by simp) ?_
 unfold Tryz.l_treepatch_ValidatePatch
 refine au h [1,1,5,5,1,1,1,8,8,5,5] ?_; intro h
 refine bs h (fun c1 h => ?_) fun c1 h => ?_
 ·refine au h [2,1,1,5,8,1] ?_; intro h
  cases h
  exact ⟨_, rfl, .refl _⟩
 ·refine au h [3,1,1,1,1,8,8,5,1,1] ?_; intro h
  refine Ev.loopW (β := Nat × Int) (fun v => ⟨[(2, wP 10100), (12, lP a0.Changes), (13, iP (a0.Changes.length : Int)), (14, iP v.2)], [(10100, eP 25 2 [[iP 0, iP 0]])], 2⟩) (fun v => treepatch_ValidatePatch_l1 n a0 v.1 v.2 = some r) (fun v => v.1) (n, 0) (.nA) h ?_
  intro ⟨m1, x1⟩ h
  try dsimp only at h ⊢
  cases m1 with
  | zero => rw [treepatch_ValidatePatch_l1] at h; cases h
  | succ m1 =>
   rw [treepatch_ValidatePatch_l1] at h
   refine au h [1,1,5,1] ?_; intro h
   refine bs h (fun c2 h => ?_) fun c2 h => ?_
   ·refine au h [2,1,1,1,1,1,1,5,5,5,1,8,1,1,8] ?_; intro e2 k3 h
    refine cb h (treepatch_check_spec n _) fun r3 k4 h => ?_
    refine ax 28 h [1,1,1,1,5] ?_; intro h
    refine bs h (fun c5 h => ?_) fun c5 h => ?_
    ·refine au h [2,1,1,1,1,5,8,1] ?_; intro h
     cases h
     exact ⟨_, rfl, .refl _⟩
    ·refine au h [3,1,1,7,1] ?_; intro x4 k6 h
     exact lb (m1, x4) h
   ·refine au h [3,1,1,1,5,8,1] ?_; intro h
    cases h
    exact ⟨_, rfl, .refl _⟩
theorem treepatch_Clash_spec (n : Nat) (a0 : List SPathLines) (a1 : List UInt8) (a2 : Int) (r : Bool) (h : treepatch_Clash n a0 a1 a2 = some r) : PSpec Tryz.prog 51 [lP a0, .str a1, iP a2] (.bool r) := by
 unfold treepatch_Clash at h
 refine spec_of Tryz.c_treepatch_Clash (by simp) ?_
 unfold Tryz.l_treepatch_Clash
 refine au h [1,1,1,1,1,1,1,5,1,1] ?_; intro h
 refine Ev.loopW (β := Nat × Int) (fun v => ⟨[(1, .str a1), (2, iP a2), (9, lP a0), (10, iP (a0.length : Int)), (11, iP v.2)], [], 2⟩) (fun v => treepatch_Clash_l1 n a0 a1 a2 v.1 v.2 = some r) (fun v => v.1) (n, 0) (.nA) h ?_
 intro ⟨m1, x1⟩ h
 try dsimp only at h ⊢
 cases m1 with
 | zero => rw [treepatch_Clash_l1] at h; cases h
 | succ m1 =>
  rw [treepatch_Clash_l1] at h
  refine au h [1,1,5,1] ?_; intro h
  refine bs h (fun c1 h => ?_) fun c1 h => ?_
  ·refine au h [2,1,1,1,1,1,1,5,5,5,1,8] ?_; intro e2 k2 h
   refine Ev.seqJ (γ := Bool) (fun v => ⟨[(1, .str a1), (2, iP a2), (9, lP a0), (10, iP (a0.length : Int)), (11, iP x1), (24, .bool v)], [], 2⟩) (fun v => treepatch_Clash_j1 n x1 (treepatch_Clash_l1 n a0 a1 a2 m1) v = some r) ?_ ?_
   ·refine au h [1,1,1,5,1] ?_; intro h
    refine bs h (fun c5 h => ?_) fun c5 h => ?_
    ·refine aw h [2,8,2,8,2,1,2] ?_; intro h
     refine cb h (treepatch_Related_spec n _ _) fun r5 k6 h => ?_
     refine aw h [2] ?_; intro h
     exact lf r5 h
    ·refine aw h [3,3,3,3,3] ?_; intro h
     exact lf false h
   ·intro x3 h
    try dsimp only at h ⊢
    unfold treepatch_Clash_j1 at h
    refine bs h (fun c3 h => ?_) fun c3 h => ?_
    ·refine au h [2,1,1,1,1] ?_; intro h
     cases h
     exact ⟨_, rfl, .refl _⟩
    ·refine au h [3,1,1,7,1] ?_; intro x4 k4 h
     exact lb (m1, x4) h
  ·refine au h [3,1,1,1,1,1] ?_; intro h
   cases h
   exact ⟨_, rfl, .refl _⟩
theorem treepatch_Validate_spec (n : Nat) (a0 : SFiles) (r : SCodeIndex) (h : treepatch_Validate n a0 = some r) : PSpec Tryz.prog 48 [.agg (SFiles.cells a0)] (.agg (SCodeIndex.cells r)) := by
 unfold treepatch_Validate at h
 refine spec_of Tryz.c_treepatch_Validate (by simp) ?_
 unfold Tryz.l_treepatch_Validate
 refine au h [1,1,5,5,1,1,1,8,8,5,5] ?_; intro h
 refine bs h (fun c1 h => ?_) fun c1 h => ?_
 ·refine au h [2,1,1,5,8,1] ?_; intro h
  cases h
  exact ⟨_, rfl, .refl _⟩
 ·refine au h [3,1,1,1,1,8,8,5,1,1] ?_; intro h
  refine Ev.loopW (β := Nat × Int) (fun v => ⟨[(1, wP 10100), (2, wP 10101), (12, lP a0.Files), (13, iP (a0.Files.length : Int)), (14, iP v.2)], [(10100, eP 52 1 [[lP a0.Files]]), (10101, eP 25 2 [[iP 0, iP 0]])], 2⟩) (fun v => treepatch_Validate_l1 n a0 v.1 v.2 = some r) (fun v => v.1) (n, 0) (.nA) h ?_
  intro ⟨m1, x1⟩ h
  try dsimp only at h ⊢
  cases m1 with
  | zero => rw [treepatch_Validate_l1] at h; cases h
  | succ m1 =>
   rw [treepatch_Validate_l1] at h
   refine au h [1,1,5,1] ?_; intro h
   refine bs h (fun c2 h => ?_) fun c2 h => ?_
   ·refine au h [2,1,1,1,1,1,1,5,5,5,1,8,1,1,1,1,8,8] ?_; intro e2 k3 h
    refine cb h (treepatch_ValidPath_spec n _) fun r3 k4 h => ?_
    refine aw h [5,1] ?_; intro h
    refine bs h (fun c5 h => ?_) fun c5 h => ?_
    ·refine au h [2,1,1,1,5,8,1] ?_; intro h
     cases h
     exact ⟨_, rfl, .refl _⟩
    ·refine Ev.condF rfl c5 ?_
     refine Ev.seqJ (γ := Bool) (fun v => ⟨[(1, wP 10200), (2, wP 10201), (3, iP x1), (4, wP 10202), (12, lP a0.Files), (13, iP (a0.Files.length : Int)), (14, iP x1), (26, .bool v)], [(10200, eP 52 1 [[lP a0.Files]]), (10201, eP 25 2 [[iP 0, iP 0]]), (10202, eP 60 2 [[.str e2.Path, lP e2.Lines]])], 2⟩) (fun v => treepatch_Validate_j1 n a0 x1 (treepatch_Validate_l1 n a0 m1) e2 v = some r) ?_ ?_
     ·refine au h [1,1,5,1] ?_; intro h
      refine bs h (fun c13 h => ?_) fun c13 h => ?_
      ·refine aw h [2,8,2,8,2,8,2,8,2,1,2,7,2,5,2,5,2,5,2,6,2,1] ?_; intro x9 k14 e10 k15 h
       exact lf (Op.bytesLess e2.Path e10.Path || e2.Path == e10.Path) h
      ·refine aw h [3,3,3,3,3,3,3,3,3,3,3,1] ?_; intro h
       exact lf false h
     ·intro x4 h
      try dsimp only at h ⊢
      unfold treepatch_Validate_j1 at h
      refine bs h (fun c6 h => ?_) fun c6 h => ?_
      ·refine au h [2,1,1,1,5,8,1] ?_; intro h
       cases h
       exact ⟨_, rfl, .refl _⟩
      ·refine au h [3,1,1,8,8,1,7,8,8] ?_; intro s5 k7 h
       refine cb h (treepatch_Clash_spec n _ _ _) fun r6 k8 h => ?_
       refine aw h [1] ?_; intro h
       refine bs h (fun c9 h => ?_) fun c9 h => ?_
       ·refine au h [2,1,1,1,5,8,1] ?_; intro h
        cases h
        exact ⟨_, rfl, .refl _⟩
       ·refine au h [3,1,1,1,8,8,1] ?_; intro h
        refine cb h (lines_Second_spec n _ _) fun r7 k10 h => ?_
        refine ax 63 h [5,8,1,1,8,5,5] ?_; intro h
        refine bs h (fun c11 h => ?_) fun c11 h => ?_
        ·refine au h [2,1,1,8,8,1] ?_; intro h
         cases h
         exact ⟨_, rfl, .refl _⟩
        ·refine au h [3,1,1,7,1] ?_; intro x8 k12 h
         exact lb (m1, x8) h
   ·refine au h [3,1,1,1,5,8,1] ?_; intro h
    cases h
    exact ⟨_, rfl, .refl _⟩
theorem treepatch_Second_spec (n : Nat) (a0 : SFiles) (a1 : Int) (r : SCodeIndex) (h : treepatch_Second n a0 a1 = some r) : PSpec Tryz.prog 33 [.agg (SFiles.cells a0), iP a1] (.agg (SCodeIndex.cells r)) := by
 unfold treepatch_Second at h
 refine spec_of Tryz.c_treepatch_Second (by simp) ?_
 unfold Tryz.l_treepatch_Second
 refine au h [1,1,5,5,1,1,1,8] ?_; intro h
 refine cb h (treepatch_Validate_spec n _) fun r1 k1 h => ?_
 refine ax 16 h [5,8,1,1,8,5,5] ?_; intro h
 refine bs h (fun c2 h => ?_) fun c2 h => ?_
 ·refine au h [2,1,1,8,8,1,5,8,1] ?_; intro h
  cases h
  exact ⟨_, rfl, .refl _⟩
 ·refine au h [3,1,1,1,5,8,1] ?_; intro h
  cases h
  exact ⟨_, rfl, .refl _⟩
set_option maxHeartbeats 4000000 in
theorem slices_Clone_string_spec (n : Nat) (a0 : List (List UInt8)) (r : List (List UInt8)) (h : slices_Clone_string n a0 = some r) : PSpec Tryz.prog 49 [.list 1 (List.map cS a0)] (.list 1 (List.map cS r)) := by
 unfold slices_Clone_string at h
 refine spec_of Tryz.c_slices_Clone_string (by simp) ?_
 unfold Tryz.l_slices_Clone_string
 cases a0 with
 | nil =>
  refine Ev.nilSplit 0 1 rfl (by decide) ?_ ?_
  ·refine Ev.seq ?_
   refine W.reg hm ?_
   refine W.mv rfl (W.nil ?_)
   refine Ev.seq (Ev.seq ?_)
   refine W.reg hm ?_
   refine W.mv rfl (W.isnilN rfl ?_)
   refine W.nil ?_
   refine Ev.condT rfl rfl ?_
   refine Ev.seq ?_
   refine W.reg hm ?_
   refine W.mv rfl (W.nil ?_)
   obtain ⟨w9, k9, h⟩ := obind h
   injection h with h; subst h
   have e9 := (gapp_some k9).2
   simp only [List.nil_append] at e9
   subst e9
   refine Ev.ret ?_
   exact ⟨_, rfl, .nils 1⟩
  ·refine Ev.seq ?_
   refine W.reg hm ?_
   refine W.mv rfl (W.nil ?_)
   refine Ev.seq (Ev.seq ?_)
   refine W.reg hm ?_
   refine W.mv rfl (W.isnilZ rfl ?_)
   refine W.nil ?_
   refine Ev.condF rfl rfl ?_
   refine Ev.skip ?_
   refine Ev.seq ?_
   refine Ev.weak ?_ (Wk.le (t := 0) rfl (.nz 1))
   refine W.reg hm ?_
   refine W.mkSlice (dt := true) (es := []) rfl rfl rfl rfl rfl rfl ?_
   refine W.mv rfl ?_
   obtain ⟨w1, k1, h⟩ := obind h
   refine W.appR true (l := ([] : List (List UInt8))) (c := cS) (ys := ([] : List (List UInt8))) rfl rfl rfl rfl rfl rfl rfl rfl k1 rfl (by simp) ?_
   refine W.mv rfl (W.nil ?_)
   refine Ev.ret ?_
   cases h
   exact ⟨_, rfl, .refl _⟩
 | cons x9 xs9 =>
  refine Ev.seq ?_
  refine W.reg hm ?_
  refine W.mv rfl (W.nil ?_)
  refine Ev.seq (Ev.seq ?_)
  refine W.reg hm ?_
  refine W.mv rfl (W.isnilC rfl ?_)
  refine W.nil ?_
  refine Ev.condF rfl rfl ?_
  refine Ev.skip ?_
  refine Ev.seq ?_
  refine W.reg hm ?_
  refine W.mkSlice (dt := true) (es := []) rfl rfl rfl rfl rfl rfl ?_
  refine W.mv rfl ?_
  obtain ⟨w1, k1, h⟩ := obind h
  refine W.appR true (l := ([] : List (List UInt8))) (c := cS) (ys := (x9 :: xs9)) rfl rfl rfl rfl rfl rfl rfl rfl k1 rfl (by simp) ?_
  refine W.mv rfl (W.nil ?_)
  refine Ev.ret ?_
  cases h
  exact ⟨_, rfl, .refl _⟩
end Go.Proofs.YtjmmlddioeehbaaGreatDoor
namespace Go.Proofs.YtjmmlddioeehbaaGreatDoor
open Go.PW Go
theorem strings_Compare_spec (n : Nat) (a0 : List UInt8) (a1 : List UInt8) (r : Int) (h : strings_Compare n a0 a1 = some r) : PSpec Tryz.prog 67 [.str a0, .str a1] (.int .i64 r) := by
 unfold strings_Compare at h
 injection h with h
 subst h
 exact k_Compare a0 a1
theorem treepatch_Find_spec (n : Nat) (a0 : List SPathLines) (a1 : List UInt8) (r : (Int × Bool)) (h : treepatch_Find n a0 a1 = some r) : PSpec Tryz.prog 50 [lP a0, .str a1] (.tup [iP r.1, .bool r.2]) := by
 unfold treepatch_Find at h
 refine spec_of Tryz.c_treepatch_Find (by simp) ?_
 unfold Tryz.l_treepatch_Find
 refine au h [1,1,1,1,1] ?_; intro h
 refine Ev.regS rfl ?_
 refine Sq.w 2 nb ?_
 refine aw h [1,1] ?_; intro h
 refine Sq.call rfl Tryz.c_slices_BinarySearchFunc_api_File_api_File_string ⟨_, rfl, nb, ?_⟩
 unfold Tryz.l_slices_BinarySearchFunc_api_File_api_File_string
 refine Ev.retJ (γ := Int × Bool) (fun v => ⟨[(6, iP v.1), (7, .bool v.2), (65540, iP 0), (65541, .bool false)], [], 2⟩) (fun v => treepatch_Find_j1 n v.1 v.2 = some r) ?_ ?_
 ·refine au h [1,1,1,1,1,1,1,5,1,1,1,1,1,1] ?_; intro h
  refine Ev.seqJ (γ := Int) (fun v => ⟨[(0, lP a0), (1, .str a1), (2, .fn 66 [] []), (8, iP (a0.length : Int)), (9, iP v), (65540, iP 0), (65541, .bool false)], [], 2⟩) (fun v => treepatch_Find_j2 n a0 a1 v = some r) ?_ ?_
  ·refine Ev.block ?_
   refine Ev.loopW (β := Nat × Int × Int) (fun v => ⟨[(0, lP a0), (1, .str a1), (2, .fn 66 [] []), (8, iP (a0.length : Int)), (9, iP v.2.1), (10, iP v.2.2), (65540, iP 0), (65541, .bool false)], [], 2⟩) (fun v => treepatch_Find_l1 n a0 a1 v.1 v.2.1 v.2.2 = some r) (fun v => v.1) (n, 0, (a0.length : Int)) (.nA) h ?_
   intro ⟨m1, x8, x9⟩ h
   try dsimp only at h ⊢
   cases m1 with
   | zero => rw [treepatch_Find_l1] at h; cases h
   | succ m1 =>
    rw [treepatch_Find_l1] at h
    refine au h [1,1,1,1,1,5] ?_; intro h
    refine bs h (fun c4 h => ?_) fun c4 h => ?_
    ·refine au h [2,1,1,1,1,1,1,7,5] ?_; intro x10 k5 h
     refine W.shrC (n := 1) rfl rfl ?_
     refine ax 49 h [5,1,1] ?_; intro h
     refine Ev.regS rfl ?_
     refine Sq.w 6 nb ?_
     refine aw h [1,1,1,5,5,1] ?_; intro e11 k6 h
     refine Sq.callv (f := 66) rfl Tryz.b_treepatch_Find_1 Tryz.c_treepatch_Find_1 ⟨_, _, _, rfl, nb, ?_⟩
     unfold Tryz.l_treepatch_Find_1
     refine Ev.retJ (γ := Int) (fun v => ⟨[(4, iP v), (65536, lP a0), (65537, .str a1), (65538, .fn 66 [] []), (65544, iP (a0.length : Int)), (65545, iP x8), (65546, iP x9), (65547, iP (IntKind.wrap .i64 (kshr .u64 (IntKind.wrap .u64 x10) 1))), (131076, iP 0), (131077, .bool false)], [], 2⟩) (fun v => treepatch_Find_j5 n x8 x9 (treepatch_Find_l1 n a0 a1 m1) x10 v = some r) ?_ ?_
     ·refine au h [1,1,5,1,1,1,8,8,1] ?_; intro h
      refine cb h (strings_Compare_spec n _ _) fun r14 k9 h => ?_
      refine ax 9 h [1,1] ?_; intro h
      exact lf r14 h
     ·intro x12 h
      try dsimp only at h ⊢
      unfold treepatch_Find_j5 at h
      refine ⟨_, rfl, ?_⟩
      refine Sq.wEnd nb ?_
      refine aw h [5] ?_; intro h
      refine bs h (fun c7 h => ?_) fun c7 h => ?_
      ·refine au h [2,1,1,7,1] ?_; intro x13 k8 h
       exact lb (m1, x13, x9) h
      ·refine au h [3,1,1,1] ?_; intro h
       exact lb (m1, x8, (IntKind.wrap .i64 (kshr .u64 (IntKind.wrap .u64 x10) 1))) h
    ·refine au h [3,1] ?_; intro h
     exact lf x8 h
  ·intro x3 h
   try dsimp only at h ⊢
   unfold treepatch_Find_j2 at h
   refine Ev.seqJ (γ := Bool) (fun v => ⟨[(6, iP x3), (7, .bool v), (65540, iP 0), (65541, .bool false)], [], 2⟩) (fun v => treepatch_Find_j3 n x3 v = some r) ?_ ?_
   ·refine Ev.regS rfl ?_
    refine Sq.w 11 nb ?_
    refine aw h [1,1,1,5,1] ?_; intro h
    refine bs h (fun c1 h => ?_) fun c1 h => ?_
    ·refine aw h [2,1,2,1,2,1,2,5,2,5,2,1] ?_; intro e5 k2 h
     refine Sq.callvG (f := 66) rfl Tryz.b_treepatch_Find_1 Tryz.c_treepatch_Find_1 (lookT rfl c1) ⟨_, _, _, rfl, nb, ?_⟩
     unfold Tryz.l_treepatch_Find_1
     refine Ev.retJ (γ := Int) (fun v => ⟨[(4, iP v), (65571, iP x3), (65575, .bool (decide (x3 < (a0.length : Int)))), (131076, iP 0), (131077, .bool false)], [], 2⟩) (fun v => treepatch_Find_j4 n x3 v = some r) ?_ ?_
     ·refine au h [1,1,5,1,1,1,8,8,1] ?_; intro h
      refine cb h (strings_Compare_spec n _ _) fun r7 k3 h => ?_
      refine ax 9 h [1,1] ?_; intro h
      exact lf r7 h
     ·intro x6 h
      try dsimp only at h ⊢
      unfold treepatch_Find_j4 at h
      refine ⟨_, rfl, ?_⟩
      refine Sq.wEnd nb ?_
      refine aw h [2,5,2,1,1] ?_; intro h
      exact lf (decide (x6 = 0)) h
    ·refine aw h [3,3,3,3,3,3] ?_; intro h
     refine Sq.off rfl (.inl (lookT rfl c1)) ?_
     refine Sq.wEnd nb ?_
     refine aw h [3,3,1,1] ?_; intro h
     exact lf false h
   ·intro x4 h
    try dsimp only at h ⊢
    unfold treepatch_Find_j3 at h
    refine Ev.ret ?_
    exact lf (x3, x4) h
 ·intro ⟨x1, x2⟩ h
  try dsimp only at h ⊢
  unfold treepatch_Find_j1 at h
  refine ⟨_, rfl, ?_⟩
  refine Sq.wEnd nb ?_
  refine ax 11 h [5,5,1,1,1] ?_; intro h
  cases h
  exact ⟨_, rfl, .refl _⟩
set_option maxHeartbeats 4000000 in
theorem treepatch_Apply_spec (n : Nat) (a0 : SChanges) (a1 : SFiles) (r : (SFiles × SCodeIndex)) (h : treepatch_Apply n a0 a1 = some r) : PSpec Tryz.prog 15 [.agg (SChanges.cells a0), .agg (SFiles.cells a1)] (.tup [.agg (SFiles.cells r.1), .agg (SCodeIndex.cells r.2)]) := by
 unfold treepatch_Apply at h
 refine spec_of Tryz.c_treepatch_Apply (by simp) ?_
 unfold Tryz.l_treepatch_Apply
 refine au h [1,1,5,5,5,5,1,1,1,8] ?_; intro h
 refine cb h (treepatch_ValidatePatch_spec n _) fun r1 k1 h => ?_
 refine ax 47 h [5,8,1,1,8,5,5] ?_; intro h
 refine bs h (fun c2 h => ?_) fun c2 h => ?_
 ·refine au h [2,1,1,5,8,8,8,1] ?_; intro h
  cases h
  exact ⟨_, rfl, Le.tups (.cons (Le.aggs (.cons (.nils 2) (.nil)) rfl) (.cons (.refl _) (.nil)))⟩
 ·refine au h [3,1,1,1,1,8] ?_; intro h
  refine cb h (treepatch_Second_spec n _ _) fun r2 k3 h => ?_
  refine ax 47 h [5,8,1,1,8,5,5] ?_; intro h
  refine bs h (fun c4 h => ?_) fun c4 h => ?_
  ·refine au h [2,1,1,5,8,8,8,1] ?_; intro h
   cases h
   exact ⟨_, rfl, Le.tups (.cons (Le.aggs (.cons (.nils 2) (.nil)) rfl) (.cons (.refl _) (.nil)))⟩
  ·refine au h [3,1,1] ?_; intro h
   refine Ev.regS rfl ?_
   refine Sq.w 1 nb ?_
   refine aw h [8] ?_; intro h
   refine Sq.weak (st' := ⟨[(2, wP 10000), (4, wP 10001), (5, wP 10002), (26, .agg [lP a1.Files])], [(10000, eP 57 1 [[lP a0.Changes]]), (10001, eP 52 1 [[.nils]]), (10002, eP 25 2 [[iP 0, iP 0]])], 2⟩) ?_ (.nA)
   refine Sq.call rfl Tryz.c_treepatch_CopyTree ⟨_, rfl, nb, ?_⟩
   unfold Tryz.l_treepatch_CopyTree
   refine Ev.retJ (γ := List SPathLines) (fun v => ⟨[(2, wP 10100), (65538, wP 10102), (65540, wP 10103), (65541, wP 10104)], [(10100, ⟨0, 52, 1, [[.own 10101 0]], false, false, false⟩), (10101, eP 60 2 (mP v)), (10102, eP 57 1 [[lP a0.Changes]]), (10103, eP 52 1 [[.nils]]), (10104, eP 25 2 [[iP 0, iP 0]])], 2⟩) (fun v => treepatch_Apply_j1 n a0 v = some r) ?_ ?_
   ·refine au h [1,1,5,5,1,1,5,1,1,1,8,8,5,1,1] ?_; intro h
    refine Ev.loopW (β := Nat × (List SPathLines) × Int) (fun v => ⟨[(2, wP 10200), (3, wP 10201), (7, lP a1.Files), (8, iP (a1.Files.length : Int)), (9, iP v.2.2), (65538, wP 10203), (65540, wP 10204), (65541, wP 10205)], [(10200, eP 52 1 [[.nils]]), (10201, ⟨0, 52, 1, [[.own 10202 0]], false, false, false⟩), (10202, eP 60 2 (mP v.2.1)), (10203, eP 57 1 [[lP a0.Changes]]), (10204, eP 52 1 [[.nils]]), (10205, eP 25 2 [[iP 0, iP 0]])], 2⟩) (fun v => treepatch_Apply_l2 n a0 a1 v.1 v.2.1 v.2.2 = some r) (fun v => v.1) (n, ([] : List SPathLines), 0) ((Wk.ownNilCell 3 2 0 30202 60 2 rfl rfl rfl rfl rfl (by simp) true).trans (.nA)) h ?_
    intro ⟨m2, w18, x19⟩ h
    try dsimp only at h ⊢
    cases m2 with
    | zero => rw [treepatch_Apply_l2] at h; cases h
    | succ m2 =>
     rw [treepatch_Apply_l2] at h
     refine au h [1,1,5,1] ?_; intro h
     refine bs h (fun c26 h => ?_) fun c26 h => ?_
     ·refine au h [2,1,1,1,1,1,5,5,5,8,1,8,8,8,8,8,8] ?_; intro e20 k27 h
      refine cb h (slices_Clone_string_spec n _) fun r21 k28 h => ?_
      refine ax 26 h [5,5,7,8,8,1,7,1] ?_; intro w22 k29 x23 k30 h
      exact lb (m2, w22, x23) h
     ·refine au h [3,1,1,1,8,8,1] ?_; intro h
      exact lf w18 h
   ·intro w3 h
    try dsimp only at h ⊢
    unfold treepatch_Apply_j1 at h
    refine ⟨_, rfl, ?_⟩
    refine Sq.wEnd nb ?_
    refine ax 47 h [5,8,1,1,1,8,8,5,1,1] ?_; intro h
    refine Ev.loopW (β := Nat × (List SPathLines) × Int) (fun v => ⟨[(4, wP 10200), (5, wP 10201), (8, wP 10202), (29, lP a0.Changes), (30, iP (a0.Changes.length : Int)), (31, iP v.2.2)], [(10200, eP 52 1 [[.nils]]), (10201, eP 25 2 [[iP 0, iP 0]]), (10202, ⟨0, 52, 1, [[.own 10203 0]], false, false, false⟩), (10203, eP 60 2 (mP v.2.1))], 2⟩) (fun v => treepatch_Apply_l1 n a0 v.1 v.2.1 v.2.2 = some r) (fun v => v.1) (n, w3, 0) (.nA) h ?_
    intro ⟨m1, w4, x5⟩ h
    try dsimp only at h ⊢
    cases m1 with
    | zero => rw [treepatch_Apply_l1] at h; cases h
    | succ m1 =>
     rw [treepatch_Apply_l1] at h
     refine au h [1,1,5,1] ?_; intro h
     refine bs h (fun c5 h => ?_) fun c5 h => ?_
     ·refine au h [2,1,1,1,1,1,1,5,5,5,1,8,1] ?_; intro e6 k6 h
      refine Ev.regS rfl ?_
      refine Sq.w 1 nb ?_
      refine aw h [8] ?_; intro h
      refine Sq.weak (st' := ⟨[(4, wP 10200), (5, wP 10201), (8, wP 10202), (9, iP x5), (29, lP a0.Changes), (30, iP (a0.Changes.length : Int)), (31, iP x5), (36, .agg [iP e6.Kind, .str e6.Path, .str e6.To, lP e6.Lines, lP e6.Patch.Hunks])], [(10200, eP 52 1 [[.nils]]), (10201, eP 25 2 [[iP 0, iP 0]]), (10202, ⟨0, 52, 1, [[.own 10203 0]], false, false, false⟩), (10203, eP 60 2 (mP w4))], 2⟩) ?_ (.nA)
      refine Sq.call rfl Tryz.c_treepatch_make1 ⟨_, rfl, nb, ?_⟩
      unfold Tryz.l_treepatch_make1
      refine Ev.retJ (γ := Int × (List SPathLines)) (fun v => ⟨[(4, iP v.1), (65540, wP 10300), (65541, wP 10301), (65544, wP 10302), (65545, iP x5), (65565, lP a0.Changes), (65566, iP (a0.Changes.length : Int)), (65567, iP x5)], [(10300, eP 52 1 [[.nils]]), (10301, eP 25 2 [[iP 0, iP 0]]), (10302, ⟨0, 52, 1, [[.own 10303 0]], false, false, false⟩), (10303, eP 60 2 (mP v.2))], 2⟩) (fun v => treepatch_Apply_j2 n x5 (treepatch_Apply_l1 n a0 m1) v.1 v.2 = some r) ?_ ?_
      ·refine au h [1,1,5,1,1,1,1,8,8,8,8,8] ?_; intro h
       refine cb h (treepatch_Find_spec n _ _) fun r10 k9 h => ?_
       refine ax 120 h [1,5,5,1,1,1,1,1,1,8,8,5,1] ?_; intro h
       refine bs h (fun c10 h => ?_) fun c10 h => ?_
       ·refine au h [2,1,1,1,1,8,8,8,8,8] ?_; intro h
        refine cb h (treepatch_Clash_spec n _ _ _) fun r11 k11 h => ?_
        refine W.nil ⟨rfl, ?_⟩
        refine bs h (fun c12 h => ?_) fun c12 h => ?_
        ·refine au h [2,1,1,1,1] ?_; intro h
         exact lf (7, w4) h
        ·refine au h [3,1,1,1,1,1,8,8,8,7,5] ?_; intro h
         refine bs h (fun c13 h => ?_) fun c13 h => ?_
         ·refine au h [2,1,1,1,1] ?_; intro h
          exact lf (14, w4) h
         ·refine au h [3,1,1,1,1,8,8,8,8] ?_; intro h
          cases h
       ·refine au h [3,1,1,1,5,1] ?_; intro h
        refine bs h (fun c14 h => ?_) fun c14 h => ?_
        ·refine au h [2,1,1,1,1] ?_; intro h
         exact lf (6, w4) h
        ·refine au h [3,1,1,1,1,8,8,8,1,7,8,7,1,1,1,1,8,8,1,1,1,5,1] ?_; intro e12 k15 h
         refine bs h (fun c16 h => ?_) fun c16 h => ?_
         ·refine au h [2,1,1,1,1,8,8] ?_; intro h
          refine cb h (slices_Equal_string_spec n _ _) fun r13 k17 h => ?_
          refine aw h [5] ?_; intro h
          refine bs h (fun c18 h => ?_) fun c18 h => ?_
          ·refine au h [2,1,1,1,1] ?_; intro h
           exact lf (19, w4) h
          ·refine au h [3,1,1,1,1,8,8,8,1,1,7] ?_; intro x14 k19 h
           cases h
         ·refine au h [3,1,1,5,1] ?_; intro h
          refine bs h (fun c20 h => ?_) fun c20 h => ?_
          ·refine au h [2,1,1,1,1,8,8,8,8,8,1] ?_; intro h
           refine cb h (treepatch_Clash_spec n _ _ _) fun r15 k21 h => ?_
           refine W.nil ⟨rfl, ?_⟩
           refine bs h (fun c22 h => ?_) fun c22 h => ?_
           ·refine au h [2,1,1,1,1] ?_; intro h
            exact lf (7, w4) h
           ·refine au h [3,1,1,1,1,1,8,8,8,1,1,7] ?_; intro x16 k23 h
            cases h
          ·refine au h [3,1,1,8,8,1] ?_; intro h
           refine cb h (textpatch_Apply_spec n _ _) fun r17 k24 h => ?_
           refine ax 120 h [1,5,5,5,1,8,1,1,1,8,5,5] ?_; intro h
           refine bs h (fun c25 h => ?_) fun c25 h => ?_
           ·refine au h [2,1,1,8,8,1,1] ?_; intro h
            exact lf (r17.2.Code, w4) h
           ·refine au h [3,1,1,1,8,8,8,1,1,8,8] ?_; intro h
            refine W.storeR true (l := w4) (c := SPathLines.cells) (v := e12) (v' := (⟨e12.Path, r17.1⟩ : SPathLines)) rfl rfl rfl rfl (gidx_some k15).2 rfl (Nat.le_of_ble_eq_true rfl) rfl rfl rfl ?_
            refine ax 120 h [1,1,1,1] ?_; intro h
            exact lf (0, (gset w4 r10.1 (⟨e12.Path, r17.1⟩ : SPathLines))) h
      ·intro ⟨x7, w8⟩ h
       try dsimp only at h ⊢
       unfold treepatch_Apply_j2 at h
       refine ⟨_, rfl, ?_⟩
       refine Sq.wEnd nb ?_
       refine ax 47 h [1,1,1,1,5] ?_; intro h
       refine bs h (fun c7 h => ?_) fun c7 h => ?_
       ·refine au h [2,1,1,5,1,1,5,8,8,1] ?_; intro h
        cases h
        exact ⟨_, rfl, Le.tups (.cons (Le.aggs (.cons (.nils 2) (.nil)) rfl) (.cons (.refl _) (.nil)))⟩
       ·refine au h [3,1,1,7,1] ?_; intro x9 k8 h
        exact lb (m1, w8, x9) h
     ·refine au h [3,1,1,1,8,5,8,8] ?_; intro h
      refine Ev.weak ?_ (Wk.frz 10203 0 rfl rfl)
      refine Ev.ret ?_
      cases h
      exact ⟨_, rfl, .refl _⟩
theorem top_h11Edit_spec (n : Nat) (a0 : List UInt8) (a1 : SHunks) (r : SChanges) (h : top_h11Edit n a0 a1 = some r) : PSpec Tryz.prog 16 [.str a0, .agg (SHunks.cells a1)] (.agg (SChanges.cells r)) := by
 unfold top_h11Edit at h
 refine spec_of Tryz.c_top_h11Edit (by simp) ?_
 unfold Tryz.l_top_h11Edit
 refine au h [1,1,5,5,1,1,1,8,5,5,5,8] ?_; intro h
 refine Ev.weak ?_ (Wk.rowLe 8 2 (es' := [[iP 4, .str a0, .str ([] : List UInt8), lP ([] : List (List UInt8)), lP a1.Hunks]]) rfl rfl (.cons (.cons (.refl _) (.cons (.refl _) (.cons (.refl _) (.cons (.nils 1) (.cons (.refl _) (.nil)))))) rfl .nil) rfl)
 refine Ev.weak ?_ (Wk.frz 8 2 rfl rfl)
 refine Ev.ret ?_
 cases h
 exact ⟨_, rfl, .refl _⟩
theorem equal_Tree_spec (n : Nat) (a0 : SFiles) (a1 : SFiles) (r : Bool) (h : equal_Tree n a0 a1 = some r) : PSpec Tryz.prog 17 [.agg (SFiles.cells a0), .agg (SFiles.cells a1)] (.bool r) := by
 unfold equal_Tree at h
 refine spec_of Tryz.c_equal_Tree (by simp) ?_
 unfold Tryz.l_equal_Tree
 refine au h [1,1,5,5,1,1,1,1,8,8,5,8,8,5,5] ?_; intro h
 refine bs h (fun c1 h => ?_) fun c1 h => ?_
 ·refine au h [2,1,1,1,1] ?_; intro h
  cases h
  exact ⟨_, rfl, .refl _⟩
 ·refine au h [3,1,1,1,1,1,1] ?_; intro h
  refine Ev.loopW (β := Nat × Int) (fun v => ⟨[(2, wP 10100), (3, wP 10101), (5, iP v.2)], [(10100, eP 52 1 [[lP a0.Files]]), (10101, eP 52 1 [[lP a1.Files]])], 2⟩) (fun v => equal_Tree_l1 n a0 a1 v.1 v.2 = some r) (fun v => v.1) (n, 0) (.nA) h ?_
  intro ⟨m1, x1⟩ h
  try dsimp only at h ⊢
  cases m1 with
  | zero => rw [equal_Tree_l1] at h; cases h
  | succ m1 =>
   rw [equal_Tree_l1] at h
   refine au h [1,1,1,1,8,8,5,5] ?_; intro h
   refine bs h (fun c2 h => ?_) fun c2 h => ?_
   ·refine au h [2,1,1,1] ?_; intro h
    refine Ev.seqJ (γ := Bool) (fun v => ⟨[(2, wP 10200), (3, wP 10201), (5, iP x1), (48, .bool v)], [(10200, eP 52 1 [[lP a0.Files]]), (10201, eP 52 1 [[lP a1.Files]])], 2⟩) (fun v => equal_Tree_j1 n x1 (equal_Tree_l1 n a0 a1 m1) v = some r) ?_ ?_
    ·refine au h [1,8,8,1,5,5,5,8,8,1,5,5,5,6,1] ?_; intro e4 k5 e5 k6 h
     refine bs h (fun c7 h => ?_) fun c7 h => ?_
     ·refine aw h [3,3,3,3,3,3,3,3,3,3,3,3,3,3,2] ?_; intro h
      exact lf true h
     ·refine aw h [2,8,2,8,2,1,2,6,2,5,2,5,2,8,2,8,2,1,2,6,2,5,2,5,2] ?_; intro h
      refine cb h (equal_Strings_spec n _ _) fun r6 k8 h => ?_
      refine aw h [2,5,3] ?_; intro h
      exact lf (!r6) h
    ·intro x2 h
     try dsimp only at h ⊢
     unfold equal_Tree_j1 at h
     refine bs h (fun c3 h => ?_) fun c3 h => ?_
     ·refine au h [2,1,1,1,1] ?_; intro h
      cases h
      exact ⟨_, rfl, .refl _⟩
     ·refine au h [3,1,1,1,7,1] ?_; intro x3 k4 h
      exact lb (m1, x3) h
   ·refine au h [3,1,1,1,1,1] ?_; intro h
    cases h
    exact ⟨_, rfl, .refl _⟩
theorem top_h11Works_spec (n : Nat) (r : Bool) (h : top_h11Works n = some r) : PSpec Tryz.prog 5 [] (.bool r) := by
 unfold top_h11Works at h
 refine spec_of Tryz.c_top_h11Works (by simp) ?_
 unfold Tryz.l_top_h11Works
 refine au h [1,1,1,1,1,5,5,5,5,5,5,8,1] ?_; intro h
 refine Ev.weak ?_ (Wk.frz 6 2 rfl rfl)
 refine Ev.weak ?_ (Wk.frz 7 2 rfl rfl)
 refine Ev.weak ?_ (Wk.frz 9 2 rfl rfl)
 refine Ev.regS rfl ?_
 refine Sq.w 2 nb ?_
 refine aw h [8,5] ?_; intro h
 refine Sq.weak (st' := ⟨[(1, wP 10000), (12, .agg [lP ([(⟨0, ([([97] : List UInt8)] : List (List UInt8)), ([([98] : List UInt8)] : List (List UInt8))⟩ : SAtOldNew)] : List SAtOldNew)]), (13, lP ([([97] : List UInt8)] : List (List UInt8)))], [(10000, eP 30 1 [[lP ([(⟨0, ([([97] : List UInt8)] : List (List UInt8)), ([([98] : List UInt8)] : List (List UInt8))⟩ : SAtOldNew)] : List SAtOldNew)]])], 2⟩) ?_ ((Wk.frz 13 2 rfl rfl).trans (.nA))
 refine Sq.wEnd nb ?_
 refine cb h (textpatch_Apply_spec n _ _) fun r1 k1 h => ?_
 refine ax 48 h [1,5,5,5,1,8,1] ?_; intro h
 refine Ev.regS rfl ?_
 refine Sq.w 6 nb ?_
 refine aw h [8] ?_; intro h
 refine cb h (top_h11Edit_spec n _ _) fun r2 k2 h => ?_
 refine aw h [5,5,5,5] ?_; intro h
 refine Sq.weak (st' := ⟨[(2, lP r1.1), (3, wP 10000), (19, .agg [lP r2.Changes]), (23, .agg [lP ([(⟨([120] : List UInt8), ([([97] : List UInt8)] : List (List UInt8))⟩ : SPathLines)] : List SPathLines)])], [(10000, eP 25 2 [[iP r1.2.Code, iP r1.2.Index]])], 2⟩) ?_ ((Wk.frz 20 2 rfl rfl).trans ((Wk.frz 22 2 rfl rfl).trans (.nA)))
 refine Sq.wEnd nb ?_
 refine cb h (treepatch_Apply_spec n _ _) fun r3 k3 h => ?_
 refine aw h [1,5,5,5,5,8,8] ?_; intro h
 refine Ev.seqJ (γ := Bool) (fun v => ⟨[(0, .bool v)], [], 2⟩) (fun v => top_h11Works_j1 n v = some r) ?_ ?_
 ·refine Ev.regS rfl ?_
  refine Sq.w 19 nb ?_
  refine aw h [8,8,5,1] ?_; intro h
  refine bs h (fun c4 h => ?_) fun c4 h => ?_
  ·refine aw h [2,8,2,8,2,5,2,1] ?_; intro h
   refine bs h (fun c5 h => ?_) fun c5 h => ?_
   ·refine aw h [2,1,2,5,2] ?_; intro h
    refine cb h (equal_Strings_spec n _ _) fun r5 k6 h => ?_
    refine aw h [2,1] ?_; intro h
    refine bs h (fun c7 h => ?_) fun c7 h => ?_
    ·refine aw h [2,8,2,5,2,5,2,5,2,5] ?_; intro h
     refine Sq.weak (st' := ⟨[(40, .bool r5), (41, .agg [lP r3.1.Files]), (45, .agg [lP ([(⟨([120] : List UInt8), ([([98] : List UInt8)] : List (List UInt8))⟩ : SPathLines)] : List SPathLines)])], [], 2⟩) ?_ ((Wk.frz 42 2 rfl rfl).trans ((Wk.frz 44 2 rfl rfl).trans (.nA)))
     refine Sq.wEnd nb ?_
     refine W.guardT rfl c7 ?_
     refine cb h (equal_Tree_spec n _ _) fun r6 k8 h => ?_
     refine aw h [2,1] ?_; intro h
     exact lf r6 h
    ·refine aw h [3,3,3,3,3] ?_; intro h
     refine Sq.wEnd nb ?_
     refine aw h [3,3,1] ?_; intro h
     exact lf false h
   ·refine aw h [3,3,3,3,1,3,3,3,3,3] ?_; intro h
    refine Sq.wEnd nb ?_
    refine aw h [3,3,1] ?_; intro h
    exact lf false h
  ·refine aw h [3,3,3,3,1,3,3,3,3,1,3,3,3,3,3] ?_; intro h
   refine Sq.wEnd nb ?_
   refine aw h [3,3,1] ?_; intro h
   exact lf false h
 ·intro x4 h
  try dsimp only at h ⊢
  unfold top_h11Works_j1 at h
  refine Ev.ret ?_
  cases h
  exact ⟨_, rfl, .refl _⟩
theorem strings_Cut_spec (n : Nat) (a0 : List UInt8) (a1 : List UInt8) (r : ((List UInt8) × (List UInt8) × Bool)) (h : strings_Cut n a0 a1 = some r) : PSpec Tryz.prog 18 [.str a0, .str a1] (.tup [.str r.1, .str r.2.1, .bool r.2.2]) := by
 unfold strings_Cut at h
 exact k_Cut  h
theorem internal_stringslite_CutPrefix_spec (n : Nat) (a0 : List UInt8) (a1 : List UInt8) (r : ((List UInt8) × Bool)) (h : internal_stringslite_CutPrefix n a0 a1 = some r) : PSpec Tryz.prog 73 [.str a0, .str a1] (.tup [.str r.1, .bool r.2]) := by
 unfold internal_stringslite_CutPrefix at h
 refine spec_of Tryz.c_internal_stringslite_CutPrefix (by simp) ?_
 unfold Tryz.l_internal_stringslite_CutPrefix
 refine au h [1,1,1,1,1,1,1,1,1] ?_; intro h
 refine cb h (internal_stringslite_HasPrefix_spec n _ _) fun r1 k1 h => ?_
 refine aw h [5] ?_; intro h
 refine bs h (fun c2 h => ?_) fun c2 h => ?_
 ·refine au h [2,1,1,1,1,1,1] ?_; intro h
  cases h
  exact ⟨_, rfl, .refl _⟩
 ·refine au h [3,1,1,1,1,1,5,6,1,1,1] ?_; intro s2 k3 h
  cases h
  exact ⟨_, rfl, .refl _⟩
theorem strings_CutPrefix_spec (n : Nat) (a0 : List UInt8) (a1 : List UInt8) (r : ((List UInt8) × Bool)) (h : strings_CutPrefix n a0 a1 = some r) : PSpec Tryz.prog 55 [.str a0, .str a1] (.tup [.str r.1, .bool r.2]) := by
 unfold strings_CutPrefix at h
 refine spec_of Tryz.c_strings_CutPrefix (by simp) ?_
 unfold Tryz.l_strings_CutPrefix
 refine au h [1,1,1,1,1,1,1,1] ?_; intro h
 refine cb h (internal_stringslite_CutPrefix_spec n _ _) fun r1 k1 h => ?_
 refine ax 11 h [5,5,1,1,1] ?_; intro h
 cases h
 exact ⟨_, rfl, .refl _⟩
theorem strconv_Atoi_spec (n : Nat) (a0 : List UInt8) (r : (Int × Bool)) (h : strconv_Atoi n a0 = some r) : PSpec Tryz.prog 74 [.str a0] (.tup [.int .i64 r.1, .ifc r.2]) := by
 unfold strconv_Atoi at h
 exact k_Atoi  h
theorem unified_number_spec (n : Nat) (a0 : List UInt8) (a1 : List UInt8) (r : (Int × (List UInt8) × Bool)) (h : unified_number n a0 a1 = some r) : PSpec Tryz.prog 56 [.str a0, .str a1] (.tup [iP r.1, .str r.2.1, .bool r.2.2]) := by
 unfold unified_number at h
 refine spec_of Tryz.c_unified_number (by simp) ?_
 unfold Tryz.l_unified_number
 refine au h [1,1,1,1,1,1,1,1,1] ?_; intro h
 refine cb h (strings_Cut_spec n _ _) fun r1 k1 h => ?_
 refine ax 45 h [1,5,5,5,1,1,1,1,1,1] ?_; intro h
 refine cb h (strconv_Atoi_spec n _) fun r2 k2 h => ?_
 refine aw h [1,5,5,1,1] ?_; intro h
 refine Ev.seqJ (γ := Bool) (fun v => ⟨[(4, iP r2.1), (5, .str r1.2.1), (6, .bool v)], [], 2⟩) (fun v => unified_number_j1 n r1 r2 v = some r) ?_ ?_
 ·refine au h [1,1,1,1,1] ?_; intro h
  refine bs h (fun c3 h => ?_) fun c3 h => ?_
  ·refine aw h [2,1,2] ?_; intro h
   refine W.isnilI rfl ?_
   refine aw h [2,1] ?_; intro h
   refine bs h (fun c4 h => ?_) fun c4 h => ?_
   ·refine aw h [2,1,2] ?_; intro h
    refine cb h (strconv_Itoa_spec n _) fun r4 k5 h => ?_
    refine aw h [2,1,2,6,2,1] ?_; intro h
    refine bs h (fun c6 h => ?_) fun c6 h => ?_
    ·refine aw h [2,1,2,5,2,1] ?_; intro h
     refine bs h (fun c7 h => ?_) fun c7 h => ?_
     ·refine aw h [2,1,2,5,2,1,1,1] ?_; intro h
      exact lf (decide (r2.1 ≤ 121)) h
     ·refine aw h [3,3,3,1,1,1] ?_; intro h
      exact lf false h
    ·refine aw h [3,3,3,1,3,3,3,1,1,1] ?_; intro h
     exact lf false h
   ·refine aw h [3,3,3,3,3,1,3,3,3,1,3,3,3,1,1,1] ?_; intro h
    exact lf false h
  ·refine aw h [3,3,3,1,3,3,3,3,3,1,3,3,3,1,3,3,3,1,1,1] ?_; intro h
   exact lf false h
 ·intro x3 h
  try dsimp only at h ⊢
  unfold unified_number_j1 at h
  refine Ev.ret ?_
  cases h
  exact ⟨_, rfl, .refl _⟩
end Go.Proofs.YtjmmlddioeehbaaGreatDoor
