/- The functions compute what the texts of D say. Laid by a program (wip/gen/dec.py). -/
import Derived.Test.YtlkknmhhefjmjaaGreatDoorPwAuto
import Derived.Test.YtlkknmhhefjmjaaGreatDoorD
import Derived.Test.YtlkknmhhefjmjaaGreatDoorK
set_option linter.unusedVariables false
set_option linter.unusedSimpArgs false
namespace Go.Proofs.YtlkknmhhefjmjaaGreatDoor
open Go.PW Go
instance : Cl SPathLines := ⟨2, SPathLines.cells⟩
instance : Cl SCodeIndex := ⟨2, SCodeIndex.cells⟩
instance : Cl SFiles := ⟨1, SFiles.cells⟩
instance : Cl SA0A1 := ⟨2, SA0A1.cells⟩
instance : Cl SPathDigest := ⟨2, SPathDigest.cells⟩
instance : Cl SKindText := ⟨2, SKindText.cells⟩
instance : Cl SInputsOpsOutput := ⟨3, SInputsOpsOutput.cells⟩
instance : Cl SActionsMaterialsOutput := ⟨3, SActionsMaterialsOutput.cells⟩
instance : Cl SNeedStateReportsValues := ⟨4, SNeedStateReportsValues.cells⟩
instance : Cl SKindWorkerJobValue := ⟨4, SKindWorkerJobValue.cells⟩
theorem internal_stringslite_HasPrefix_spec (n : Nat) (a0 : List UInt8) (a1 : List UInt8) (r : Bool) (h : internal_stringslite_HasPrefix n a0 a1 = some r) : PSpec Tryz.prog 185 [.str a0, .str a1] (.bool r) := by
 unfold internal_stringslite_HasPrefix at h
 refine spec_of Tryz.c_internal_stringslite_HasPrefix (by simp) ?_
 unfold Tryz.l_internal_stringslite_HasPrefix
 refine au h [1,1,1] ?_; intro h
 refine Ev.seqJ (γ := Bool) (fun v => ⟨[(4, .bool v)], [], 2⟩) (fun v => internal_stringslite_HasPrefix_j1 n v = some r) ?_ ?_
 ·refine au h [1,1,5,1,5,5,1] ?_; intro h
  refine bs h (fun c1 h => ?_) fun c1 h => ?_
  ·refine aw h [2,1,2,1,2,5,2,7,2,1,2,6,2,1] ?_; intro s2 k2 h
   exact lf (decide (s2 = a1)) h
  ·refine aw h [3,3,3,3,3,3,3,1] ?_; intro h
   exact lf false h
 ·intro x1 h
  try dsimp only at h ⊢
  unfold internal_stringslite_HasPrefix_j1 at h
  refine Ev.ret ?_
  cases h
  exact ⟨_, rfl, .refl _⟩
theorem strings_HasPrefix_spec (n : Nat) (a0 : List UInt8) (a1 : List UInt8) (r : Bool) (h : strings_HasPrefix n a0 a1 = some r) : PSpec Tryz.prog 172 [.str a0, .str a1] (.bool r) := by
 unfold strings_HasPrefix at h
 refine spec_of Tryz.c_strings_HasPrefix (by simp) ?_
 unfold Tryz.l_strings_HasPrefix
 refine au h [1,1,1,1,1,1,1] ?_; intro h
 refine cb h (internal_stringslite_HasPrefix_spec n _ _) fun r1 k1 h => ?_
 refine ax 8 h [1,1] ?_; intro h
 cases h
 exact ⟨_, rfl, .refl _⟩
theorem treepatch_Related_spec (n : Nat) (a0 : List UInt8) (a1 : List UInt8) (r : Bool) (h : treepatch_Related n a0 a1 = some r) : PSpec Tryz.prog 149 [.str a0, .str a1] (.bool r) := by
 unfold treepatch_Related at h
 refine spec_of Tryz.c_treepatch_Related (by simp) ?_
 unfold Tryz.l_treepatch_Related
 refine au h [1,1,1] ?_; intro h
 refine Ev.seqJ (γ := Bool) (fun v => ⟨[(4, .bool v)], [], 2⟩) (fun v => treepatch_Related_j1 n v = some r) ?_ ?_
 ·refine au h [1,1,1,6,1] ?_; intro h
  refine bs h (fun c1 h => ?_) fun c1 h => ?_
  ·refine aw h [3,3,3,3,2,1,3,3,3,3,2,1] ?_; intro h
   exact lf true h
  ·refine aw h [2,1,2,1,2,8,2] ?_; intro s2 k2 h
   refine cb h (strings_HasPrefix_spec n _ _) fun r3 k3 h => ?_
   refine aw h [3,1] ?_; intro h
   refine bs h (fun c4 h => ?_) fun c4 h => ?_
   ·refine aw h [3,3,3,3,2,1] ?_; intro h
    exact lf true h
   ·refine aw h [2,1,2,1,2,8,2] ?_; intro s4 k5 h
    refine cb h (strings_HasPrefix_spec n _ _) fun r5 k6 h => ?_
    refine aw h [3,1] ?_; intro h
    exact lf r5 h
 ·intro x1 h
  try dsimp only at h ⊢
  unfold treepatch_Related_j1 at h
  refine Ev.ret ?_
  cases h
  exact ⟨_, rfl, .refl _⟩
theorem treepatch_Clash_spec (n : Nat) (a0 : List SPathLines) (a1 : List UInt8) (a2 : Int) (r : Bool) (h : treepatch_Clash n a0 a1 a2 = some r) : PSpec Tryz.prog 112 [lP a0, .str a1, iP a2] (.bool r) := by
 unfold treepatch_Clash at h
 refine spec_of Tryz.c_treepatch_Clash (by simp) ?_
 unfold Tryz.l_treepatch_Clash
 refine au h [1,1,1,1,1,1,1,5,1,1] ?_; intro h
 refine Ev.loopW (β := Nat × Int) (fun v => ⟨[(1, .str a1), (2, iP a2), (9, lP a0), (10, iP (a0.length : Int)), (11, iP v.2)], [], 2⟩) (fun v => treepatch_Clash_l1 n a0 a1 a2 v.1 v.2 = some r) (fun v => v.1) (n, 0) (.nA) h ?_
 intro ⟨m1, x1⟩ h
 try dsimp only at h ⊢
 cases m1 with
 | zero => rw [treepatch_Clash_l1] at h; cases h
 | succ m1 =>
  rw [treepatch_Clash_l1] at h
  refine au h [1,1,5,1] ?_; intro h
  refine bs h (fun c1 h => ?_) fun c1 h => ?_
  ·refine au h [2,1,1,1,1,1,1,5,5,5,1,8] ?_; intro e2 k2 h
   refine Ev.seqJ (γ := Bool) (fun v => ⟨[(1, .str a1), (2, iP a2), (9, lP a0), (10, iP (a0.length : Int)), (11, iP x1), (24, .bool v)], [], 2⟩) (fun v => treepatch_Clash_j1 n x1 (treepatch_Clash_l1 n a0 a1 a2 m1) v = some r) ?_ ?_
   ·refine au h [1,1,1,5,1] ?_; intro h
    refine bs h (fun c5 h => ?_) fun c5 h => ?_
    ·refine aw h [2,8,2,8,2,1,2] ?_; intro h
     refine cb h (treepatch_Related_spec n _ _) fun r5 k6 h => ?_
     refine aw h [2] ?_; intro h
     exact lf r5 h
    ·refine aw h [3,3,3,3,3] ?_; intro h
     exact lf false h
   ·intro x3 h
    try dsimp only at h ⊢
    unfold treepatch_Clash_j1 at h
    refine bs h (fun c3 h => ?_) fun c3 h => ?_
    ·refine au h [2,1,1,1,1] ?_; intro h
     cases h
     exact ⟨_, rfl, .refl _⟩
    ·refine au h [3,1,1,7,1] ?_; intro x4 k4 h
     exact lb (m1, x4) h
  ·refine au h [3,1,1,1,1,1] ?_; intro h
   cases h
   exact ⟨_, rfl, .refl _⟩
theorem treepatch_ValidPath_spec (n : Nat) (a0 : List UInt8) (r : Bool) (h : treepatch_ValidPath n a0 = some r) : PSpec Tryz.prog 115 [.str a0] (.bool r) := by
 unfold treepatch_ValidPath at h
 injection h with h
 subst h
 exact k_ValidPath a0
theorem strings_IndexByte_spec (n : Nat) (a0 : List UInt8) (a1 : Int) (r : Int) (h : strings_IndexByte n a0 a1 = some r) : PSpec Tryz.prog 177 [.str a0, .int .u8 a1] (.int .i64 r) := by
 unfold strings_IndexByte at h
 injection h with h
 subst h
 exact k_IndexByte a0 a1
theorem lines_Validate_spec (n : Nat) (a0 : List (List UInt8)) (r : SCodeIndex) (h : lines_Validate n a0 = some r) : PSpec Tryz.prog 156 [lP a0] (.agg (SCodeIndex.cells r)) := by
 unfold lines_Validate at h
 refine spec_of Tryz.c_lines_Validate (by simp) ?_
 unfold Tryz.l_lines_Validate
 refine au h [1,1,5,1,1,1,1,5,5] ?_; intro h
 refine bs h (fun c1 h => ?_) fun c1 h => ?_
 ·refine au h [2,1,1,5,8,1] ?_; intro h
  cases h
  exact ⟨_, rfl, .refl _⟩
 ·refine au h [3,1,1,1,1,1,5,1,1] ?_; intro h
  refine Ev.loopW (β := Nat × Int) (fun v => ⟨[(2, wP 10100), (9, lP a0), (10, iP (a0.length : Int)), (11, iP v.2)], [(10100, eP 31 2 [[iP 0, iP 0]])], 2⟩) (fun v => lines_Validate_l1 n a0 v.1 v.2 = some r) (fun v => v.1) (n, 0) (.nA) h ?_
  intro ⟨m1, x1⟩ h
  try dsimp only at h ⊢
  cases m1 with
  | zero => rw [lines_Validate_l1] at h; cases h
  | succ m1 =>
   rw [lines_Validate_l1] at h
   refine au h [1,1,5,1] ?_; intro h
   refine bs h (fun c2 h => ?_) fun c2 h => ?_
   ·refine au h [2,1,1,1,1,1,1,5,5,1,1,1,1,1,1,5,5] ?_; intro e2 k3 h
    refine bs h (fun c4 h => ?_) fun c4 h => ?_
    ·refine au h [2,1,1,1,5,8,1] ?_; intro h
     cases h
     exact ⟨_, rfl, .refl _⟩
    ·refine au h [3,1,1,1,1] ?_; intro h
     refine cb h (strings_IndexByte_spec n _ _) fun r3 k5 h => ?_
     refine aw h [5] ?_; intro h
     refine bs h (fun c6 h => ?_) fun c6 h => ?_
     ·refine au h [2,1,1,1,5,8,1] ?_; intro h
      cases h
      exact ⟨_, rfl, .refl _⟩
     ·refine au h [3,1,1,7,1] ?_; intro x4 k7 h
      exact lb (m1, x4) h
   ·refine au h [3,1,1,1,5,8,1] ?_; intro h
    cases h
    exact ⟨_, rfl, .refl _⟩
theorem lines_Second_spec (n : Nat) (a0 : List (List UInt8)) (a1 : Int) (r : SCodeIndex) (h : lines_Second n a0 a1 = some r) : PSpec Tryz.prog 122 [lP a0, iP a1] (.agg (SCodeIndex.cells r)) := by
 unfold lines_Second at h
 refine spec_of Tryz.c_lines_Second (by simp) ?_
 unfold Tryz.l_lines_Second
 refine au h [1,1,5,1,1,1,1] ?_; intro h
 refine cb h (lines_Validate_spec n _) fun r1 k1 h => ?_
 refine ax 16 h [5,8,1,1,8,5,5] ?_; intro h
 refine bs h (fun c2 h => ?_) fun c2 h => ?_
 ·refine au h [2,1,1,8,8,1,5,8,1] ?_; intro h
  cases h
  exact ⟨_, rfl, .refl _⟩
 ·refine au h [3,1,1,1,5,8,1] ?_; intro h
  cases h
  exact ⟨_, rfl, .refl _⟩
theorem treepatch_Validate_spec (n : Nat) (a0 : SFiles) (r : SCodeIndex) (h : treepatch_Validate n a0 = some r) : PSpec Tryz.prog 108 [.agg (SFiles.cells a0)] (.agg (SCodeIndex.cells r)) := by
 unfold treepatch_Validate at h
 refine spec_of Tryz.c_treepatch_Validate (by simp) ?_
 unfold Tryz.l_treepatch_Validate
 refine au h [1,1,5,5,1,1,1,8,8,5,5] ?_; intro h
 refine bs h (fun c1 h => ?_) fun c1 h => ?_
 ·refine au h [2,1,1,5,8,1] ?_; intro h
  cases h
  exact ⟨_, rfl, .refl _⟩
 ·refine au h [3,1,1,1,1,8,8,5,1,1] ?_; intro h
  refine Ev.loopW (β := Nat × Int) (fun v => ⟨[(1, wP 10100), (2, wP 10101), (12, lP a0.Files), (13, iP (a0.Files.length : Int)), (14, iP v.2)], [(10100, eP 25 1 [[lP a0.Files]]), (10101, eP 31 2 [[iP 0, iP 0]])], 2⟩) (fun v => treepatch_Validate_l1 n a0 v.1 v.2 = some r) (fun v => v.1) (n, 0) (.nA) h ?_
  intro ⟨m1, x1⟩ h
  try dsimp only at h ⊢
  cases m1 with
  | zero => rw [treepatch_Validate_l1] at h; cases h
  | succ m1 =>
   rw [treepatch_Validate_l1] at h
   refine au h [1,1,5,1] ?_; intro h
   refine bs h (fun c2 h => ?_) fun c2 h => ?_
   ·refine au h [2,1,1,1,1,1,1,5,5,5,1,8,1,1,1,1,8,8] ?_; intro e2 k3 h
    refine cb h (treepatch_ValidPath_spec n _) fun r3 k4 h => ?_
    refine aw h [5,1] ?_; intro h
    refine bs h (fun c5 h => ?_) fun c5 h => ?_
    ·refine au h [2,1,1,1,5,8,1] ?_; intro h
     cases h
     exact ⟨_, rfl, .refl _⟩
    ·refine Ev.condF rfl c5 ?_
     refine Ev.seqJ (γ := Bool) (fun v => ⟨[(1, wP 10200), (2, wP 10201), (3, iP x1), (4, wP 10202), (12, lP a0.Files), (13, iP (a0.Files.length : Int)), (14, iP x1), (26, .bool v)], [(10200, eP 25 1 [[lP a0.Files]]), (10201, eP 31 2 [[iP 0, iP 0]]), (10202, eP 37 2 [[.str e2.Path, lP e2.Lines]])], 2⟩) (fun v => treepatch_Validate_j1 n a0 x1 (treepatch_Validate_l1 n a0 m1) e2 v = some r) ?_ ?_
     ·refine au h [1,1,5,1] ?_; intro h
      refine bs h (fun c13 h => ?_) fun c13 h => ?_
      ·refine aw h [2,8,2,8,2,8,2,8,2,1,2,7,2,5,2,5,2,5,2,6,2,1] ?_; intro x9 k14 e10 k15 h
       exact lf (Op.bytesLess e2.Path e10.Path || e2.Path == e10.Path) h
      ·refine aw h [3,3,3,3,3,3,3,3,3,3,3,1] ?_; intro h
       exact lf false h
     ·intro x4 h
      try dsimp only at h ⊢
      unfold treepatch_Validate_j1 at h
      refine bs h (fun c6 h => ?_) fun c6 h => ?_
      ·refine au h [2,1,1,1,5,8,1] ?_; intro h
       cases h
       exact ⟨_, rfl, .refl _⟩
      ·refine au h [3,1,1,8,8,1,7,8,8] ?_; intro s5 k7 h
       refine cb h (treepatch_Clash_spec n _ _ _) fun r6 k8 h => ?_
       refine aw h [1] ?_; intro h
       refine bs h (fun c9 h => ?_) fun c9 h => ?_
       ·refine au h [2,1,1,1,5,8,1] ?_; intro h
        cases h
        exact ⟨_, rfl, .refl _⟩
       ·refine au h [3,1,1,1,8,8,1] ?_; intro h
        refine cb h (lines_Second_spec n _ _) fun r7 k10 h => ?_
        refine ax 63 h [5,8,1,1,8,5,5] ?_; intro h
        refine bs h (fun c11 h => ?_) fun c11 h => ?_
        ·refine au h [2,1,1,8,8,1] ?_; intro h
         cases h
         exact ⟨_, rfl, .refl _⟩
        ·refine au h [3,1,1,7,1] ?_; intro x8 k12 h
         exact lb (m1, x8) h
   ·refine au h [3,1,1,1,5,8,1] ?_; intro h
    cases h
    exact ⟨_, rfl, .refl _⟩
theorem treepatch_Second_spec (n : Nat) (a0 : SFiles) (a1 : Int) (r : SCodeIndex) (h : treepatch_Second n a0 a1 = some r) : PSpec Tryz.prog 55 [.agg (SFiles.cells a0), iP a1] (.agg (SCodeIndex.cells r)) := by
 unfold treepatch_Second at h
 refine spec_of Tryz.c_treepatch_Second (by simp) ?_
 unfold Tryz.l_treepatch_Second
 refine au h [1,1,5,5,1,1,1,8] ?_; intro h
 refine cb h (treepatch_Validate_spec n _) fun r1 k1 h => ?_
 refine ax 16 h [5,8,1,1,8,5,5] ?_; intro h
 refine bs h (fun c2 h => ?_) fun c2 h => ?_
 ·refine au h [2,1,1,8,8,1,5,8,1] ?_; intro h
  cases h
  exact ⟨_, rfl, .refl _⟩
 ·refine au h [3,1,1,1,5,8,1] ?_; intro h
  cases h
  exact ⟨_, rfl, .refl _⟩
theorem digest_mul_spec (n : Nat) (a0 : Int) (a1 : Int) (r : Int) (h : digest_mul n a0 a1 = some r) : PSpec Tryz.prog 153 [iP a0, iP a1] (iP r) := by
 unfold digest_mul at h
 refine spec_of Tryz.c_digest_mul (by simp) ?_
 unfold Tryz.l_digest_mul
 refine au h [1,1,1,1,1,1] ?_; intro h
 refine Ev.seqJ (γ := Int) (fun v => ⟨[(5, iP v)], [], 2⟩) (fun v => digest_mul_j1 n v = some r) ?_ ?_
 ·refine Ev.block ?_
  refine Ev.loopW (β := Nat × Int × Int × Int) (fun v => ⟨[(0, iP v.2.1), (1, iP v.2.2.1), (5, iP v.2.2.2)], [], 2⟩) (fun v => digest_mul_l1 n v.1 v.2.1 v.2.2.1 v.2.2.2 = some r) (fun v => v.1) (n, a0, a1, 0) (.nA) h ?_
  intro ⟨m1, x2, x3, x4⟩ h
  try dsimp only at h ⊢
  cases m1 with
  | zero => rw [digest_mul_l1] at h; cases h
  | succ m1 =>
   rw [digest_mul_l1] at h
   refine au h [1,1,1,1,5] ?_; intro h
   refine bs h (fun c1 h => ?_) fun c1 h => ?_
   ·refine au h [2,1,1,1] ?_; intro h
    refine Ev.seqJ (γ := Int) (fun v => ⟨[(0, iP x2), (1, iP x3), (5, iP v)], [], 2⟩) (fun v => digest_mul_j2 n x2 x3 (digest_mul_l1 n m1) v = some r) ?_ ?_
    ·refine au h [1,1,1] ?_; intro h
     refine W.bin (z := .int .i64 (kand .i64 x3 1)) rfl rfl rfl ?_
     refine aw h [5] ?_; intro h
     refine bs h (fun c4 h => ?_) fun c4 h => ?_
     ·refine au h [2,1,1,1,7,7,1] ?_; intro x8 k5 x9 k6 h
      exact lf x9 h
     ·refine au h [3,1] ?_; intro h
      exact lf x4 h
    ·intro x5 h
     try dsimp only at h ⊢
     unfold digest_mul_j2 at h
     refine au h [1,1,7,7,1,1,1] ?_; intro x6 k2 x7 k3 h
     refine W.shrC (n := 1) rfl rfl ?_
     refine aw h [1] ?_; intro h
     exact lb (m1, x7, (kshr .i64 x3 1), x5) h
   ·refine au h [3,1] ?_; intro h
    exact lf x4 h
 ·intro x1 h
  try dsimp only at h ⊢
  unfold digest_mul_j1 at h
  refine au h [1,1,1,1,1] ?_; intro h
  cases h
  exact ⟨_, rfl, .refl _⟩
theorem digest_next_spec (n : Nat) (a0 : SA0A1) (a1 : Int) (r : Int) (h : digest_next n a0 a1 = some r) : PSpec Tryz.prog 117 [.agg (SA0A1.cells a0), iP a1] (iP r) := by
 unfold digest_next at h
 refine spec_of Tryz.c_digest_next (by simp) ?_
 unfold Tryz.l_digest_next
 refine au h [1,1,5,1,1,1] ?_; intro h
 refine W.idxAO (n := 0) rfl rfl rfl (by decide) rfl (by decide) ?_
 refine aw h [8,1] ?_; intro h
 refine cb h (digest_mul_spec n _ _) fun r1 k1 h => ?_
 refine W.idxAO (n := 1) rfl rfl rfl (by decide) rfl (by decide) ?_
 refine ax 13 h [8,7,7,1,1] ?_; intro x2 k2 x3 k3 h
 cases h
 exact ⟨_, rfl, .refl _⟩
end Go.Proofs.YtlkknmhhefjmjaaGreatDoor
namespace Go.Proofs.YtlkknmhhefjmjaaGreatDoor
open Go.PW Go
theorem digest_Of_spec (n : Nat) (a0 : List Int) (r : (Int × SCodeIndex)) (h : digest_Of n a0 = some r) : PSpec Tryz.prog 65 [.list 1 (List.map (cK .u8) a0)] (.tup [iP r.1, .agg (SCodeIndex.cells r.2)]) := by
 unfold digest_Of at h
 refine spec_of Tryz.c_digest_Of (by simp) ?_
 unfold Tryz.l_digest_Of
 refine au h [1,1,1,5,1,1,1,1,5,5] ?_; intro h
 refine bs h (fun c1 h => ?_) fun c1 h => ?_
 ·refine au h [2,1,1,5,1,8,1] ?_; intro h
  cases h
  exact ⟨_, rfl, .refl _⟩
 ·refine au h [3,1,1,1,1,1,1,1,1,5,1,1] ?_; intro h
  refine Ev.loopW (β := Nat × Int × Int) (fun v => ⟨[(3, wP 10100), (4, iP v.2.1), (11, .list 1 (List.map (cK .u8) a0)), (12, iP (a0.length : Int)), (13, iP v.2.2)], [(10100, eP 31 2 [[iP 0, iP 0]])], 2⟩) (fun v => digest_Of_l1 n a0 v.1 v.2.1 v.2.2 = some r) (fun v => v.1) (n, 1, 0) (.nA) h ?_
  intro ⟨m1, x1, x2⟩ h
  try dsimp only at h ⊢
  cases m1 with
  | zero => rw [digest_Of_l1] at h; cases h
  | succ m1 =>
   rw [digest_Of_l1] at h
   refine au h [1,1,5,1] ?_; intro h
   refine bs h (fun c2 h => ?_) fun c2 h => ?_
   ·refine au h [2,1,1,1,1,1,5,5,1,1,1,1,5,7,5] ?_; intro e3 k3 x4 k4 h
    refine cb h (digest_next_spec n _ _) fun r5 k5 h => ?_
    refine ax 26 h [1,1,7,1] ?_; intro x6 k6 h
    exact lb (m1, r5, x6) h
   ·refine au h [3,1,1,1,1,5,1,8,1] ?_; intro h
    cases h
    exact ⟨_, rfl, .refl _⟩
theorem digest_pair_spec (n : Nat) (a0 : Int) (a1 : Int) (r : Int) (h : digest_pair n a0 a1 = some r) : PSpec Tryz.prog 75 [iP a0, iP a1] (iP r) := by
 unfold digest_pair at h
 refine spec_of Tryz.c_digest_pair (by simp) ?_
 unfold Tryz.l_digest_pair
 refine au h [1,1,1,1,1,1,1,5] ?_; intro h
 refine cb h (digest_next_spec n _ _) fun r1 k1 h => ?_
 refine aw h [5] ?_; intro h
 refine cb h (digest_next_spec n _ _) fun r2 k2 h => ?_
 refine ax 11 h [1,1] ?_; intro h
 cases h
 exact ⟨_, rfl, .refl _⟩
theorem digest_Strings_spec (n : Nat) (a0 : List (List UInt8)) (r : (Int × SCodeIndex)) (h : digest_Strings n a0 = some r) : PSpec Tryz.prog 26 [lP a0] (.tup [iP r.1, .agg (SCodeIndex.cells r.2)]) := by
 unfold digest_Strings at h
 refine spec_of Tryz.c_digest_Strings (by simp) ?_
 unfold Tryz.l_digest_Strings
 refine au h [1,1,1,5,1,1,1,1,5,5] ?_; intro h
 refine bs h (fun c1 h => ?_) fun c1 h => ?_
 ·refine au h [2,1,1,5,1,8,1] ?_; intro h
  cases h
  exact ⟨_, rfl, .refl _⟩
 ·refine au h [3,1,1,1,1,1,1,1,1,5,1,1] ?_; intro h
  refine Ev.loopW (β := Nat × Int × Int) (fun v => ⟨[(3, wP 10100), (4, iP v.2.1), (13, lP a0), (14, iP (a0.length : Int)), (15, iP v.2.2)], [(10100, eP 31 2 [[iP 0, iP 0]])], 2⟩) (fun v => digest_Strings_l1 n a0 v.1 v.2.1 v.2.2 = some r) (fun v => v.1) (n, 2, 0) (.nA) h ?_
  intro ⟨m1, x1, x2⟩ h
  try dsimp only at h ⊢
  cases m1 with
  | zero => rw [digest_Strings_l1] at h; cases h
  | succ m1 =>
   rw [digest_Strings_l1] at h
   refine au h [1,1,5,1] ?_; intro h
   refine bs h (fun c2 h => ?_) fun c2 h => ?_
   ·refine au h [2,1,1,1,1,1,1,5,5,1,1,1,1,1,5] ?_; intro e3 k3 h
    refine cb h (digest_Of_spec n _) fun r4 k4 h => ?_
    refine ax 39 h [1,5,5,5,1,8,1,1,1,8,5,5] ?_; intro h
    refine bs h (fun c5 h => ?_) fun c5 h => ?_
    ·refine au h [2,1,1,8,8,1,5,1,8,1] ?_; intro h
     cases h
     exact ⟨_, rfl, .refl _⟩
    ·refine au h [3,1,1,1,1] ?_; intro h
     refine cb h (digest_pair_spec n _ _) fun r5 k6 h => ?_
     refine ax 39 h [1,1,7,1] ?_; intro x6 k7 h
     exact lb (m1, r5, x6) h
   ·refine au h [3,1,1,1,1,5,1,8,1] ?_; intro h
    cases h
    exact ⟨_, rfl, .refl _⟩
theorem strings_Compare_spec (n : Nat) (a0 : List UInt8) (a1 : List UInt8) (r : Int) (h : strings_Compare n a0 a1 = some r) : PSpec Tryz.prog 120 [.str a0, .str a1] (.int .i64 r) := by
 unfold strings_Compare at h
 injection h with h
 subst h
 exact k_Compare a0 a1
theorem treepatch_Find_spec (n : Nat) (a0 : List SPathLines) (a1 : List UInt8) (r : (Int × Bool)) (h : treepatch_Find n a0 a1 = some r) : PSpec Tryz.prog 66 [lP a0, .str a1] (.tup [iP r.1, .bool r.2]) := by
 unfold treepatch_Find at h
 refine spec_of Tryz.c_treepatch_Find (by simp) ?_
 unfold Tryz.l_treepatch_Find
 refine au h [1,1,1,1,1] ?_; intro h
 refine Ev.regS rfl ?_
 refine Sq.w 2 nb ?_
 refine aw h [1,1] ?_; intro h
 refine Sq.call rfl Tryz.c_slices_BinarySearchFunc_api_File_api_File_string ⟨_, rfl, nb, ?_⟩
 unfold Tryz.l_slices_BinarySearchFunc_api_File_api_File_string
 refine Ev.retJ (γ := Int × Bool) (fun v => ⟨[(6, iP v.1), (7, .bool v.2), (65540, iP 0), (65541, .bool false)], [], 2⟩) (fun v => treepatch_Find_j1 n v.1 v.2 = some r) ?_ ?_
 ·refine au h [1,1,1,1,1,1,1,5,1,1,1,1,1,1] ?_; intro h
  refine Ev.seqJ (γ := Int) (fun v => ⟨[(0, lP a0), (1, .str a1), (2, .fn 119 [] []), (8, iP (a0.length : Int)), (9, iP v), (65540, iP 0), (65541, .bool false)], [], 2⟩) (fun v => treepatch_Find_j2 n a0 a1 v = some r) ?_ ?_
  ·refine Ev.block ?_
   refine Ev.loopW (β := Nat × Int × Int) (fun v => ⟨[(0, lP a0), (1, .str a1), (2, .fn 119 [] []), (8, iP (a0.length : Int)), (9, iP v.2.1), (10, iP v.2.2), (65540, iP 0), (65541, .bool false)], [], 2⟩) (fun v => treepatch_Find_l1 n a0 a1 v.1 v.2.1 v.2.2 = some r) (fun v => v.1) (n, 0, (a0.length : Int)) (.nA) h ?_
   intro ⟨m1, x8, x9⟩ h
   try dsimp only at h ⊢
   cases m1 with
   | zero => rw [treepatch_Find_l1] at h; cases h
   | succ m1 =>
    rw [treepatch_Find_l1] at h
    refine au h [1,1,1,1,1,5] ?_; intro h
    refine bs h (fun c4 h => ?_) fun c4 h => ?_
    ·refine au h [2,1,1,1,1,1,1,7,5] ?_; intro x10 k5 h
     refine W.shrC (n := 1) rfl rfl ?_
     refine ax 49 h [5,1,1] ?_; intro h
     refine Ev.regS rfl ?_
     refine Sq.w 6 nb ?_
     refine aw h [1,1,1,5,5,1] ?_; intro e11 k6 h
     refine Sq.callv (f := 119) rfl Tryz.b_treepatch_Find_1 Tryz.c_treepatch_Find_1 ⟨_, _, _, rfl, nb, ?_⟩
     unfold Tryz.l_treepatch_Find_1
     refine Ev.retJ (γ := Int) (fun v => ⟨[(4, iP v), (65536, lP a0), (65537, .str a1), (65538, .fn 119 [] []), (65544, iP (a0.length : Int)), (65545, iP x8), (65546, iP x9), (65547, iP (IntKind.wrap .i64 (kshr .u64 (IntKind.wrap .u64 x10) 1))), (131076, iP 0), (131077, .bool false)], [], 2⟩) (fun v => treepatch_Find_j5 n x8 x9 (treepatch_Find_l1 n a0 a1 m1) x10 v = some r) ?_ ?_
     ·refine au h [1,1,5,1,1,1,8,8,1] ?_; intro h
      refine cb h (strings_Compare_spec n _ _) fun r14 k9 h => ?_
      refine ax 9 h [1,1] ?_; intro h
      exact lf r14 h
     ·intro x12 h
      try dsimp only at h ⊢
      unfold treepatch_Find_j5 at h
      refine ⟨_, rfl, ?_⟩
      refine Sq.wEnd nb ?_
      refine aw h [5] ?_; intro h
      refine bs h (fun c7 h => ?_) fun c7 h => ?_
      ·refine au h [2,1,1,7,1] ?_; intro x13 k8 h
       exact lb (m1, x13, x9) h
      ·refine au h [3,1,1,1] ?_; intro h
       exact lb (m1, x8, (IntKind.wrap .i64 (kshr .u64 (IntKind.wrap .u64 x10) 1))) h
    ·refine au h [3,1] ?_; intro h
     exact lf x8 h
  ·intro x3 h
   try dsimp only at h ⊢
   unfold treepatch_Find_j2 at h
   refine Ev.seqJ (γ := Bool) (fun v => ⟨[(6, iP x3), (7, .bool v), (65540, iP 0), (65541, .bool false)], [], 2⟩) (fun v => treepatch_Find_j3 n x3 v = some r) ?_ ?_
   ·refine Ev.regS rfl ?_
    refine Sq.w 11 nb ?_
    refine aw h [1,1,1,5,1] ?_; intro h
    refine bs h (fun c1 h => ?_) fun c1 h => ?_
    ·refine aw h [2,1,2,1,2,1,2,5,2,5,2,1] ?_; intro e5 k2 h
     refine Sq.callvG (f := 119) rfl Tryz.b_treepatch_Find_1 Tryz.c_treepatch_Find_1 (lookT rfl c1) ⟨_, _, _, rfl, nb, ?_⟩
     unfold Tryz.l_treepatch_Find_1
     refine Ev.retJ (γ := Int) (fun v => ⟨[(4, iP v), (65571, iP x3), (65575, .bool (decide (x3 < (a0.length : Int)))), (131076, iP 0), (131077, .bool false)], [], 2⟩) (fun v => treepatch_Find_j4 n x3 v = some r) ?_ ?_
     ·refine au h [1,1,5,1,1,1,8,8,1] ?_; intro h
      refine cb h (strings_Compare_spec n _ _) fun r7 k3 h => ?_
      refine ax 9 h [1,1] ?_; intro h
      exact lf r7 h
     ·intro x6 h
      try dsimp only at h ⊢
      unfold treepatch_Find_j4 at h
      refine ⟨_, rfl, ?_⟩
      refine Sq.wEnd nb ?_
      refine aw h [2,5,2,1,1] ?_; intro h
      exact lf (decide (x6 = 0)) h
    ·refine aw h [3,3,3,3,3,3] ?_; intro h
     refine Sq.off rfl (.inl (lookT rfl c1)) ?_
     refine Sq.wEnd nb ?_
     refine aw h [3,3,1,1] ?_; intro h
     exact lf false h
   ·intro x4 h
    try dsimp only at h ⊢
    unfold treepatch_Find_j3 at h
    refine Ev.ret ?_
    exact lf (x3, x4) h
 ·intro ⟨x1, x2⟩ h
  try dsimp only at h ⊢
  unfold treepatch_Find_j1 at h
  refine ⟨_, rfl, ?_⟩
  refine Sq.wEnd nb ?_
  refine ax 11 h [5,5,1,1,1] ?_; intro h
  cases h
  exact ⟨_, rfl, .refl _⟩
theorem bom_describe_spec (n : Nat) (a0 : SFiles) (a1 : List UInt8) (r : Int) (h : bom_describe n a0 a1 = some r) : PSpec Tryz.prog 61 [.agg (SFiles.cells a0), .str a1] (iP r) := by
 unfold bom_describe at h
 refine spec_of Tryz.c_bom_describe (by simp) ?_
 unfold Tryz.l_bom_describe
 refine au h [1,1,5,1,1,1,8,8,1] ?_; intro h
 refine cb h (treepatch_Find_spec n _ _) fun r1 k1 h => ?_
 refine ax 29 h [1,5,5,1,1,1,1,1,1,5] ?_; intro h
 refine bs h (fun c2 h => ?_) fun c2 h => ?_
 ·refine au h [2,1,1,1,1] ?_; intro h
  cases h
  exact ⟨_, rfl, .refl _⟩
 ·refine au h [3,1,1,1,8,8,1,5,5,5] ?_; intro e2 k3 h
  refine cb h (digest_Strings_spec n _) fun r3 k4 h => ?_
  refine ax 29 h [1,5,5,5,1,8,1,1,1,1,1] ?_; intro h
  cases h
  exact ⟨_, rfl, .refl _⟩
set_option maxHeartbeats 4000000 in
theorem bom_Make_spec (n : Nat) (a0 : List (List UInt8)) (a1 : SFiles) (r : ((List SPathDigest) × SCodeIndex)) (h : bom_Make n a0 a1 = some r) : PSpec Tryz.prog 16 [lP a0, .agg (SFiles.cells a1)] (.tup [lP r.1, .agg (SCodeIndex.cells r.2)]) := by
 unfold bom_Make at h
 refine spec_of Tryz.c_bom_Make (by simp) ?_
 unfold Tryz.l_bom_Make
 refine au h [1,1,5,5,1,5,1,1] ?_; intro h
 refine Ev.regS rfl ?_
 refine Sq.w 3 nb ?_
 refine aw h [8,5] ?_; intro h
 refine W.mkfn rfl (W.nil ?_)
 refine Sq.weak (st' := ⟨[(2, wP 10000), (3, wP 10001), (5, wP 10002), (12, iP (a0.length : Int)), (13, .fn 60 [] [wP 10000])], [(10000, eP 34 1 [[lP a0]]), (10001, eP 25 1 [[lP a1.Files]]), (10002, eP 31 2 [[iP 0, iP 0]])], 2⟩) ?_ (.nA)
 refine Sq.call rfl Tryz.c_bom_checkPaths ⟨_, rfl, nb, ?_⟩
 unfold Tryz.l_bom_checkPaths
 refine Ev.retJ (γ := Int × Int) (fun v => ⟨[(4, wP 10100), (65538, wP 10101), (65539, wP 10102), (65541, wP 10103)], [(10100, eP 31 2 [[iP v.1, iP v.2]]), (10101, eP 34 1 [[lP a0]]), (10102, eP 25 1 [[lP a1.Files]]), (10103, eP 31 2 [[iP 0, iP 0]])], 2⟩) (fun v => bom_Make_j1 n a0 a1 v.1 v.2 = some r) ?_ ?_
 ·refine au h [1,1,5,1,1,1,1,5] ?_; intro h
  refine bs h (fun c9 h => ?_) fun c9 h => ?_
  ·refine au h [2,1,1,5,8,1] ?_; intro h
   exact lf (2, (-1)) h
  ·refine au h [3,1,1,1,1,1,1,1] ?_; intro h
   refine Ev.loopW (β := Nat × Int) (fun v => ⟨[(1, .fn 60 [] [wP 10200]), (4, wP 10201), (9, iP (a0.length : Int)), (10, iP v.2), (65538, wP 10200), (65539, wP 10202), (65541, wP 10203)], [(10200, eP 34 1 [[lP a0]]), (10201, eP 31 2 [[iP 0, iP 0]]), (10202, eP 25 1 [[lP a1.Files]]), (10203, eP 31 2 [[iP 0, iP 0]])], 2⟩) (fun v => bom_Make_l2 n a0 a1 v.1 v.2 = some r) (fun v => v.1) (n, 0) (.nA) h ?_
   intro ⟨m2, x10⟩ h
   try dsimp only at h ⊢
   cases m2 with
   | zero => rw [bom_Make_l2] at h; cases h
   | succ m2 =>
    rw [bom_Make_l2] at h
    refine au h [1,1,5,1] ?_; intro h
    refine bs h (fun c10 h => ?_) fun c10 h => ?_
    ·refine au h [2,1,1,1,1,1,1,1,1,1] ?_; intro h
     refine Ev.regS rfl ?_
     refine Sq.w 2 nb ?_
     refine aw h [1,1] ?_; intro h
     refine Sq.callv (f := 60) rfl Tryz.b_bom_Make_1 Tryz.c_bom_Make_1 ⟨_, _, _, rfl, nb, ?_⟩
     unfold Tryz.l_bom_Make_1
     refine Ev.retJ (γ := List UInt8) (fun v => ⟨[(3, .str v), (65537, .fn 60 [] [wP 10300]), (65540, wP 10301), (65541, iP x10), (65545, iP (a0.length : Int)), (65546, iP x10), (131074, wP 10300), (131075, wP 10302), (131077, wP 10303)], [(10300, eP 34 1 [[lP a0]]), (10301, eP 31 2 [[iP 0, iP 0]]), (10302, eP 25 1 [[lP a1.Files]]), (10303, eP 31 2 [[iP 0, iP 0]])], 2⟩) (fun v => bom_Make_j2 n a0 a1 x10 (bom_Make_l2 n a0 a1 m2) v = some r) ?_ ?_
     ·refine au h [1,1,1,1,1,8,1,5,5,1,1] ?_; intro e20 k19 h
      exact lf e20 h
     ·intro x11 h
      try dsimp only at h ⊢
      unfold bom_Make_j2 at h
      refine ⟨_, rfl, ?_⟩
      refine Sq.wEnd nb ?_
      refine cb h (treepatch_ValidPath_spec n _) fun r12 k11 h => ?_
      refine aw h [5] ?_; intro h
      refine bs h (fun c12 h => ?_) fun c12 h => ?_
      ·refine au h [2,1,1,1,5,8,1] ?_; intro h
       exact lf (12, x10) h
      ·refine au h [3,1] ?_; intro h
       refine Ev.seqJ (γ := Bool) (fun v => ⟨[(1, .fn 60 [] [wP 10400]), (4, wP 10401), (5, iP x10), (9, iP (a0.length : Int)), (10, iP x10), (31, .bool v), (65538, wP 10400), (65539, wP 10402), (65541, wP 10403)], [(10400, eP 34 1 [[lP a0]]), (10401, eP 31 2 [[iP 0, iP 0]]), (10402, eP 25 1 [[lP a1.Files]]), (10403, eP 31 2 [[iP 0, iP 0]])], 2⟩) (fun v => bom_Make_j3 n a0 a1 x10 (bom_Make_l2 n a0 a1 m2) v = some r) ?_ ?_
       ·refine Ev.regS rfl ?_
        refine Sq.w 5 nb ?_
        refine aw h [1,5,1] ?_; intro h
        refine bs h (fun c15 h => ?_) fun c15 h => ?_
        ·refine aw h [2,1,2,1] ?_; intro h
         refine Sq.callvG (f := 60) rfl Tryz.b_bom_Make_1 Tryz.c_bom_Make_1 (lookT rfl c15) ⟨_, _, _, rfl, nb, ?_⟩
         unfold Tryz.l_bom_Make_1
         refine Ev.retJ (γ := List UInt8) (fun v => ⟨[(3, .str v), (65537, .fn 60 [] [wP 10500]), (65540, wP 10501), (65541, iP x10), (65545, iP (a0.length : Int)), (65546, iP x10), (65558, .bool (decide (0 < x10))), (65559, .fn 60 [] [wP 10500]), (65560, iP x10), (131074, wP 10500), (131075, wP 10502), (131077, wP 10503)], [(10500, eP 34 1 [[lP a0]]), (10501, eP 31 2 [[iP 0, iP 0]]), (10502, eP 25 1 [[lP a1.Files]]), (10503, eP 31 2 [[iP 0, iP 0]])], 2⟩) (fun v => bom_Make_j4 n a0 a1 x10 (bom_Make_l2 n a0 a1 m2) v = some r) ?_ ?_
         ·refine au h [1,1,1,1,1,8,1,5,5,1,1] ?_; intro e19 k18 h
          exact lf e19 h
         ·intro x15 h
          try dsimp only at h ⊢
          unfold bom_Make_j4 at h
          refine ⟨_, rfl, ?_⟩
          refine Sq.w 3 nb ?_
          refine aw h [2,1,2,1,2,7] ?_; intro x16 k16 h
          refine Sq.callvG (f := 60) rfl Tryz.b_bom_Make_1 Tryz.c_bom_Make_1 (lookT rfl c15) ⟨_, _, _, rfl, nb, ?_⟩
          unfold Tryz.l_bom_Make_1
          refine Ev.retJ (γ := List UInt8) (fun v => ⟨[(3, .str v), (65537, .fn 60 [] [wP 10600]), (65540, wP 10601), (65541, iP x10), (65545, iP (a0.length : Int)), (65546, iP x10), (65558, .bool (decide (0 < x10))), (65559, .fn 60 [] [wP 10600]), (65560, iP x10), (65561, .str x15), (65562, .fn 60 [] [wP 10600]), (65563, iP x10), (65564, iP x16), (131074, wP 10600), (131075, wP 10602), (131077, wP 10603)], [(10600, eP 34 1 [[lP a0]]), (10601, eP 31 2 [[iP 0, iP 0]]), (10602, eP 25 1 [[lP a1.Files]]), (10603, eP 31 2 [[iP 0, iP 0]])], 2⟩) (fun v => bom_Make_j5 n a0 a1 x10 (bom_Make_l2 n a0 a1 m2) x15 v = some r) ?_ ?_
          ·refine au h [1,1,1,1,1,8,1,5,5,1,1] ?_; intro e18 k17 h
           exact lf e18 h
          ·intro x17 h
           try dsimp only at h ⊢
           unfold bom_Make_j5 at h
           refine ⟨_, rfl, ?_⟩
           refine Sq.wEnd nb ?_
           refine aw h [2,6,2] ?_; intro h
           exact lf (Op.bytesLess x15 x17 || x15 == x17) h
        ·refine aw h [3,3] ?_; intro h
         refine Sq.off rfl (.inl (lookT rfl c15)) ?_
         refine Sq.w 3 nb ?_
         refine aw h [3,3,3] ?_; intro h
         refine Sq.off rfl (.inl (lookT rfl c15)) ?_
         refine Sq.wEnd nb ?_
         refine aw h [3,3] ?_; intro h
         exact lf false h
       ·intro x13 h
        try dsimp only at h ⊢
        unfold bom_Make_j3 at h
        refine bs h (fun c13 h => ?_) fun c13 h => ?_
        ·refine au h [2,1,1,1,5,8,1] ?_; intro h
         exact lf (5, x10) h
        ·refine au h [3,1,1,7,1] ?_; intro x14 k14 h
         exact lb (m2, x14) h
    ·refine au h [3,1,1,1,5,8,1] ?_; intro h
     exact lf (0, 0) h
 ·intro ⟨b1, b2⟩ h
  try dsimp only at h ⊢
  unfold bom_Make_j1 at h
  refine ⟨_, rfl, ?_⟩
  refine Sq.wEnd nb ?_
  refine ax 42 h [5,8,1,1,8,5,5] ?_; intro h
  refine bs h (fun c1 h => ?_) fun c1 h => ?_
  ·refine au h [2,1,1,8,1,8,1] ?_; intro h
   cases h
   exact ⟨_, rfl, Le.tups (.cons (.nils 2) (.cons (.refl _) (.nil)))⟩
  ·refine au h [3,1,1,1,1,8] ?_; intro h
   refine cb h (treepatch_Second_spec n _ _) fun r3 k2 h => ?_
   refine ax 42 h [5,8,1,1,8,5,5] ?_; intro h
   refine bs h (fun c3 h => ?_) fun c3 h => ?_
   ·refine au h [2,1,1,8,1,8,1] ?_; intro h
    cases h
    exact ⟨_, rfl, Le.tups (.cons (.nils 2) (.cons (.refl _) (.nil)))⟩
   ·refine au h [3,1,1,1,1,1,1,1,8,5,1,1] ?_; intro h
    refine Ev.loopW (β := Nat × (List SPathDigest) × Int) (fun v => ⟨[(3, wP 10200), (5, wP 10201), (8, .own 10202 0), (25, lP a0), (26, iP (a0.length : Int)), (27, iP v.2.2)], [(10200, eP 25 1 [[lP a1.Files]]), (10201, eP 31 2 [[iP 0, iP 0]]), (10202, eP 46 2 (mP v.2.1))], 2⟩) (fun v => bom_Make_l1 n a0 a1 v.1 v.2.1 v.2.2 = some r) (fun v => v.1) (n, ([] : List SPathDigest), 0) ((Wk.ownNil 8 30202 46 2 rfl rfl true).trans (.nA)) h ?_
    intro ⟨m1, w4, x5⟩ h
    try dsimp only at h ⊢
    cases m1 with
    | zero => rw [bom_Make_l1] at h; cases h
    | succ m1 =>
     rw [bom_Make_l1] at h
     refine au h [1,1,5,1] ?_; intro h
     refine bs h (fun c4 h => ?_) fun c4 h => ?_
     ·refine au h [2,1,1,1,1,1,5,5,1,1,1,1,8,1] ?_; intro e6 k5 h
      refine cb h (bom_describe_spec n _ _) fun r7 k6 h => ?_
      refine ax 42 h [5,5,7,1,1,7,1] ?_; intro w8 k7 x9 k8 h
      exact lb (m1, w8, x9) h
     ·refine au h [3,1,1,1,1,5,1,8,1] ?_; intro h
      cases h
      exact ⟨_, rfl, .refl _⟩
theorem sandbox_checkOp_spec (n : Nat) (a0 : SKindText) (r : Int) (h : sandbox_checkOp n a0 = some r) : PSpec Tryz.prog 145 [.agg (SKindText.cells a0)] (iP r) := by
 unfold sandbox_checkOp at h
 refine spec_of Tryz.c_sandbox_checkOp (by simp) ?_
 unfold Tryz.l_sandbox_checkOp
 refine au h [1,1,5,1] ?_; intro h
 refine Ev.seqJ (γ := Unit) (fun v => ⟨[], [], 2⟩) (fun v => sandbox_checkOp_j1 n = some r) ?_ ?_
 ·refine au h [1,1,8,8,1] ?_; intro h
  refine Ev.seqJ (γ := Bool) (fun v => ⟨[(1, wP 10200), (4, iP a0.Kind), (5, .bool v)], [(10200, eP 109 2 [[iP a0.Kind, .str a0.Text]])], 2⟩) (fun v => sandbox_checkOp_j2 n a0 v = some r) ?_ ?_
  ·refine au h [1,1,5,1] ?_; intro h
   refine bs h (fun c9 h => ?_) fun c9 h => ?_
   ·refine au h [2,1] ?_; intro h
    exact lf (decide (a0.Kind = 1)) h
   ·refine au h [3,1,5,1] ?_; intro h
    exact lf (decide (a0.Kind = 2)) h
  ·intro x1 h
   try dsimp only at h ⊢
   unfold sandbox_checkOp_j2 at h
   refine bs h (fun c1 h => ?_) fun c1 h => ?_
   ·refine au h [2,1,1,8,8] ?_; intro h
    refine cb h (treepatch_ValidPath_spec n _) fun r2 k2 h => ?_
    refine aw h [5] ?_; intro h
    refine bs h (fun c3 h => ?_) fun c3 h => ?_
    ·refine au h [2,1,1,1,1] ?_; intro h
     cases h
     exact ⟨_, rfl, .refl _⟩
    ·refine au h [3,1] ?_; intro h
     exact lf () h
   ·refine au h [3,1,1,5,1] ?_; intro h
    refine bs h (fun c4 h => ?_) fun c4 h => ?_
    ·refine au h [2,1,1,8,8,5] ?_; intro h
     refine cb h (lines_Validate_spec n _) fun r3 k5 h => ?_
     refine ax 25 h [5,1,1] ?_; intro h
     cases h
     exact ⟨_, rfl, .refl _⟩
    ·refine Ev.condF rfl c4 ?_
     refine Ev.seqJ (γ := Bool) (fun v => ⟨[(1, wP 10300), (19, .bool v)], [(10300, eP 109 2 [[iP a0.Kind, .str a0.Text]])], 2⟩) (fun v => sandbox_checkOp_j3 n a0 v = some r) ?_ ?_
     ·refine au h [1,1,5,1] ?_; intro h
      refine bs h (fun c8 h => ?_) fun c8 h => ?_
      ·refine au h [2,1] ?_; intro h
       exact lf (decide (a0.Kind = 4)) h
      ·refine au h [3,1,5,1] ?_; intro h
       exact lf (decide (a0.Kind = 5)) h
     ·intro x4 h
      try dsimp only at h ⊢
      unfold sandbox_checkOp_j3 at h
      refine bs h (fun c6 h => ?_) fun c6 h => ?_
      ·refine au h [2,1,1,8,8,6] ?_; intro h
       refine bs h (fun c7 h => ?_) fun c7 h => ?_
       ·refine au h [2,1,1,1,1] ?_; intro h
        cases h
        exact ⟨_, rfl, .refl _⟩
       ·refine au h [3,1] ?_; intro h
        exact lf () h
      ·refine au h [3,1,1,1,1] ?_; intro h
       cases h
       exact ⟨_, rfl, .refl _⟩
 ·intro _ h
  try dsimp only at h ⊢
  unfold sandbox_checkOp_j1 at h
  refine au h [1,1,1,1] ?_; intro h
  cases h
  exact ⟨_, rfl, .refl _⟩
theorem sandbox_Validate_spec (n : Nat) (a0 : SInputsOpsOutput) (r : SCodeIndex) (h : sandbox_Validate n a0 = some r) : PSpec Tryz.prog 107 [.agg (SInputsOpsOutput.cells a0)] (.agg (SCodeIndex.cells r)) := by
 unfold sandbox_Validate at h
 refine spec_of Tryz.c_sandbox_Validate (by simp) ?_
 unfold Tryz.l_sandbox_Validate
 refine au h [1,1,5,5,1] ?_; intro h
 refine Ev.seqJ (γ := Bool) (fun v => ⟨[(1, wP 10100), (2, wP 10101), (17, .bool v)], [(10100, eP 53 3 [[lP a0.Inputs, lP a0.Ops, .str a0.Output]]), (10101, eP 31 2 [[iP 0, iP 0]])], 2⟩) (fun v => sandbox_Validate_j1 n a0 v = some r) ?_ ?_
 ·refine au h [1,8,8,5,5,1] ?_; intro h
  refine bs h (fun c19 h => ?_) fun c19 h => ?_
  ·refine aw h [3,3,3,3,2] ?_; intro h
   exact lf true h
  ·refine aw h [2,8,2,8,2,5,2,5,3] ?_; intro h
   exact lf (decide (16 < (a0.Ops.length : Int))) h
 ·intro x1 h
  try dsimp only at h ⊢
  unfold sandbox_Validate_j1 at h
  refine bs h (fun c1 h => ?_) fun c1 h => ?_
  ·refine au h [2,1,1,5,8,1] ?_; intro h
   cases h
   exact ⟨_, rfl, .refl _⟩
  ·refine au h [3,1,1,1,1,8,8,5,1,1] ?_; intro h
   refine Ev.loopW (β := Nat × Int) (fun v => ⟨[(1, wP 10200), (2, wP 10201), (20, lP a0.Inputs), (21, iP (a0.Inputs.length : Int)), (22, iP v.2)], [(10200, eP 53 3 [[lP a0.Inputs, lP a0.Ops, .str a0.Output]]), (10201, eP 31 2 [[iP 0, iP 0]])], 2⟩) (fun v => sandbox_Validate_l1 n a0 v.1 v.2 = some r) (fun v => v.1) (n, 0) (.nA) h ?_
   intro ⟨m1, x2⟩ h
   try dsimp only at h ⊢
   cases m1 with
   | zero => rw [sandbox_Validate_l1] at h; cases h
   | succ m1 =>
    rw [sandbox_Validate_l1] at h
    refine au h [1,1,5,1] ?_; intro h
    refine bs h (fun c2 h => ?_) fun c2 h => ?_
    ·refine au h [2,1,1,1,1,1,1,5,5,1,1,1,1,1,1] ?_; intro e3 k3 h
     refine cb h (treepatch_ValidPath_spec n _) fun r4 k4 h => ?_
     refine aw h [5] ?_; intro h
     refine bs h (fun c5 h => ?_) fun c5 h => ?_
     ·refine au h [2,1,1,1,5,8,1] ?_; intro h
      cases h
      exact ⟨_, rfl, .refl _⟩
     ·refine au h [3,1] ?_; intro h
      refine Ev.seqJ (γ := Bool) (fun v => ⟨[(1, wP 10300), (2, wP 10301), (3, iP x2), (20, lP a0.Inputs), (21, iP (a0.Inputs.length : Int)), (22, iP x2), (43, .bool v)], [(10300, eP 53 3 [[lP a0.Inputs, lP a0.Ops, .str a0.Output]]), (10301, eP 31 2 [[iP 0, iP 0]])], 2⟩) (fun v => sandbox_Validate_j2 n x2 (sandbox_Validate_l1 n a0 m1) v = some r) ?_ ?_
      ·refine au h [1,1,5,1] ?_; intro h
       refine bs h (fun c8 h => ?_) fun c8 h => ?_
       ·refine aw h [2,1,2,8,2,8,2,1,2,7,2,5,2,5,2,6,2] ?_; intro x7 k9 e8 k10 h
        exact lf (Op.bytesLess e3 e8 || e3 == e8) h
       ·refine aw h [3,3,3,3,3,3,3,3,3] ?_; intro h
        exact lf false h
      ·intro x5 h
       try dsimp only at h ⊢
       unfold sandbox_Validate_j2 at h
       refine bs h (fun c6 h => ?_) fun c6 h => ?_
       ·refine au h [2,1,1,1,5,8,1] ?_; intro h
        cases h
        exact ⟨_, rfl, .refl _⟩
       ·refine au h [3,1,1,7,1] ?_; intro x6 k7 h
        exact lb (m1, x6) h
    ·refine au h [3,1,1,1,1,8,8] ?_; intro h
     refine cb h (treepatch_ValidPath_spec n _) fun r9 k11 h => ?_
     refine aw h [5] ?_; intro h
     refine bs h (fun c12 h => ?_) fun c12 h => ?_
     ·refine au h [2,1,1,5,8,1] ?_; intro h
      cases h
      exact ⟨_, rfl, .refl _⟩
     ·refine au h [3,1,1,1,1,8,8,5,1,1] ?_; intro h
      refine Ev.loopW (β := Nat × Int) (fun v => ⟨[(2, wP 10300), (53, lP a0.Ops), (54, iP (a0.Ops.length : Int)), (55, iP v.2)], [(10300, eP 31 2 [[iP 0, iP 0]])], 2⟩) (fun v => sandbox_Validate_l2 n a0 v.1 v.2 = some r) (fun v => v.1) (n, 0) (.nA) h ?_
      intro ⟨m2, x10⟩ h
      try dsimp only at h ⊢
      cases m2 with
      | zero => rw [sandbox_Validate_l2] at h; cases h
      | succ m2 =>
       rw [sandbox_Validate_l2] at h
       refine au h [1,1,5,1] ?_; intro h
       refine bs h (fun c13 h => ?_) fun c13 h => ?_
       ·refine au h [2,1,1,1,1,1,1,5,5,5,1,8,1,1,8] ?_; intro e11 k14 h
        refine cb h (sandbox_checkOp_spec n _) fun r12 k15 h => ?_
        refine ax 70 h [1,1,1,1,5] ?_; intro h
        refine bs h (fun c16 h => ?_) fun c16 h => ?_
        ·refine au h [2,1,1,1,1,7,5,8,1] ?_; intro x13 k17 h
         cases h
         exact ⟨_, rfl, .refl _⟩
        ·refine au h [3,1,1,7,1] ?_; intro x14 k18 h
         exact lb (m2, x14) h
       ·refine au h [3,1,1,1,5,8,1] ?_; intro h
        cases h
        exact ⟨_, rfl, .refl _⟩
theorem release_checkActions_spec (n : Nat) (a0 : List SInputsOpsOutput) (r : SCodeIndex) (h : release_checkActions n a0 = some r) : PSpec Tryz.prog 54 [lP a0] (.agg (SCodeIndex.cells r)) := by
 unfold release_checkActions at h
 refine spec_of Tryz.c_release_checkActions (by simp) ?_
 unfold Tryz.l_release_checkActions
 refine au h [1,1,5,1,1,1,1,5,5] ?_; intro h
 refine bs h (fun c1 h => ?_) fun c1 h => ?_
 ·refine au h [2,1,1,5,8,1] ?_; intro h
  cases h
  exact ⟨_, rfl, .refl _⟩
 ·refine au h [3,1,1,1,1,1,5,1,1] ?_; intro h
  refine Ev.loopW (β := Nat × Int) (fun v => ⟨[(2, wP 10100), (10, lP a0), (11, iP (a0.length : Int)), (12, iP v.2)], [(10100, eP 31 2 [[iP 0, iP 0]])], 2⟩) (fun v => release_checkActions_l1 n a0 v.1 v.2 = some r) (fun v => v.1) (n, 0) (.nA) h ?_
  intro ⟨m1, x1⟩ h
  try dsimp only at h ⊢
  cases m1 with
  | zero => rw [release_checkActions_l1] at h; cases h
  | succ m1 =>
   rw [release_checkActions_l1] at h
   refine au h [1,1,5,1] ?_; intro h
   refine bs h (fun c2 h => ?_) fun c2 h => ?_
   ·refine au h [2,1,1,1,1,1,1,5,5,5,1,8,1,1,8] ?_; intro e2 k3 h
    refine cb h (sandbox_Validate_spec n _) fun r3 k4 h => ?_
    refine ax 28 h [5,8,1,1,8,5,5] ?_; intro h
    refine bs h (fun c5 h => ?_) fun c5 h => ?_
    ·refine au h [2,1,1,8,8,1,5,8,1] ?_; intro h
     cases h
     exact ⟨_, rfl, .refl _⟩
    ·refine au h [3,1,1,7,1] ?_; intro x4 k6 h
     exact lb (m1, x4) h
   ·refine au h [3,1,1,1,5,8,1] ?_; intro h
    cases h
    exact ⟨_, rfl, .refl _⟩
theorem slices_Index_string_spec (n : Nat) (a0 : List (List UInt8)) (a1 : List UInt8) (r : Int) (h : slices_Index_string n a0 a1 = some r) : PSpec Tryz.prog 146 [lP a0, .str a1] (iP r) := by
 unfold slices_Index_string at h
 refine spec_of Tryz.c_slices_Index_string (by simp) ?_
 unfold Tryz.l_slices_Index_string
 refine au h [1,1,1,1,1,1,1,5,1,1] ?_; intro h
 refine Ev.loopW (β := Nat × Int) (fun v => ⟨[(0, lP a0), (1, .str a1), (7, iP (a0.length : Int)), (8, iP v.2)], [], 2⟩) (fun v => slices_Index_string_l1 n a0 a1 v.1 v.2 = some r) (fun v => v.1) (n, 0) (.nA) h ?_
 intro ⟨m1, x1⟩ h
 try dsimp only at h ⊢
 cases m1 with
 | zero => rw [slices_Index_string_l1] at h; cases h
 | succ m1 =>
  rw [slices_Index_string_l1] at h
  refine au h [1,1,5,1] ?_; intro h
  refine bs h (fun c1 h => ?_) fun c1 h => ?_
  ·refine au h [2,1,1,1,1,1,1,1,1,1,1,1,1,5,5,6] ?_; intro e2 k2 h
   refine bs h (fun c3 h => ?_) fun c3 h => ?_
   ·refine au h [2,1,1,1,1,1] ?_; intro h
    cases h
    exact ⟨_, rfl, .refl _⟩
   ·refine au h [3,1,1,7,1] ?_; intro x3 k4 h
    exact lb (m1, x3) h
  ·refine au h [3,1,1,1,1,1] ?_; intro h
   cases h
   exact ⟨_, rfl, .refl _⟩
theorem slices_Contains_string_spec (n : Nat) (a0 : List (List UInt8)) (a1 : List UInt8) (r : Bool) (h : slices_Contains_string n a0 a1 = some r) : PSpec Tryz.prog 109 [lP a0, .str a1] (.bool r) := by
 unfold slices_Contains_string at h
 refine spec_of Tryz.c_slices_Contains_string (by simp) ?_
 unfold Tryz.l_slices_Contains_string
 refine au h [1,1,1,1,1,1,1] ?_; intro h
 refine cb h (slices_Index_string_spec n _ _) fun r1 k1 h => ?_
 refine ax 9 h [5,1,1] ?_; intro h
 cases h
 exact ⟨_, rfl, .refl _⟩
end Go.Proofs.YtlkknmhhefjmjaaGreatDoor
