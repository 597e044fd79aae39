/- The functions compute what the texts of D say. Laid by a program (wip/gen/dec.py). -/
import Derived.Test.YtlkknmhhefjmjaaGreatDoorPwAuto
import Derived.Test.YtlkknmhhefjmjaaGreatDoorD
import Derived.Test.YtlkknmhhefjmjaaGreatDoorK
set_option linter.unusedVariables false
set_option linter.unusedSimpArgs false
namespace Go.Proofs.YtlkknmhhefjmjaaGreatDoor
open Go.PW Go
instance : Cl SPathLines := ⟨2, SPathLines.cells⟩
instance : Cl SCodeIndex := ⟨2, SCodeIndex.cells⟩
instance : Cl SFiles := ⟨1, SFiles.cells⟩
instance : Cl SA0A1 := ⟨2, SA0A1.cells⟩
instance : Cl SPathDigest := ⟨2, SPathDigest.cells⟩
instance : Cl SKindText := ⟨2, SKindText.cells⟩
instance : Cl SInputsOpsOutput := ⟨3, SInputsOpsOutput.cells⟩
instance : Cl SActionsMaterialsOutput := ⟨3, SActionsMaterialsOutput.cells⟩
instance : Cl SKeyLines := ⟨2, SKeyLines.cells⟩
theorem internal_stringslite_HasPrefix_spec (n : Nat) (a0 : List UInt8) (a1 : List UInt8) (r : Bool) (h : internal_stringslite_HasPrefix n a0 a1 = some r) : PSpec Tryz.prog 185 [.str a0, .str a1] (.bool r) := by
 unfold internal_stringslite_HasPrefix at h
 refine spec_of Tryz.c_internal_stringslite_HasPrefix (by simp) ?_
 unfold Tryz.l_internal_stringslite_HasPrefix
 refine au h [1,1,1] ?_; intro h
 refine Ev.seqJ (γ := Bool) (fun v => ⟨[(4, .bool v)], [], 2⟩) (fun v => internal_stringslite_HasPrefix_j1 n v = some r) ?_ ?_
 ·refine au h [1,1,5,1,5,5,1] ?_; intro h
  refine bs h (fun c1 h => ?_) fun c1 h => ?_
  ·refine aw h [2,1,2,1,2,5,2,7,2,1,2,6,2,1] ?_; intro s2 k2 h
   exact lf (decide (s2 = a1)) h
  ·refine aw h [3,3,3,3,3,3,3,1] ?_; intro h
   exact lf false h
 ·intro x1 h
  try dsimp only at h ⊢
  unfold internal_stringslite_HasPrefix_j1 at h
  refine Ev.ret ?_
  cases h
  exact ⟨_, rfl, .refl _⟩
theorem strings_HasPrefix_spec (n : Nat) (a0 : List UInt8) (a1 : List UInt8) (r : Bool) (h : strings_HasPrefix n a0 a1 = some r) : PSpec Tryz.prog 172 [.str a0, .str a1] (.bool r) := by
 unfold strings_HasPrefix at h
 refine spec_of Tryz.c_strings_HasPrefix (by simp) ?_
 unfold Tryz.l_strings_HasPrefix
 refine au h [1,1,1,1,1,1,1] ?_; intro h
 refine cb h (internal_stringslite_HasPrefix_spec n _ _) fun r1 k1 h => ?_
 refine ax 8 h [1,1] ?_; intro h
 cases h
 exact ⟨_, rfl, .refl _⟩
theorem treepatch_Related_spec (n : Nat) (a0 : List UInt8) (a1 : List UInt8) (r : Bool) (h : treepatch_Related n a0 a1 = some r) : PSpec Tryz.prog 149 [.str a0, .str a1] (.bool r) := by
 unfold treepatch_Related at h
 refine spec_of Tryz.c_treepatch_Related (by simp) ?_
 unfold Tryz.l_treepatch_Related
 refine au h [1,1,1] ?_; intro h
 refine Ev.seqJ (γ := Bool) (fun v => ⟨[(4, .bool v)], [], 2⟩) (fun v => treepatch_Related_j1 n v = some r) ?_ ?_
 ·refine au h [1,1,1,6,1] ?_; intro h
  refine bs h (fun c1 h => ?_) fun c1 h => ?_
  ·refine aw h [3,3,3,3,2,1,3,3,3,3,2,1] ?_; intro h
   exact lf true h
  ·refine aw h [2,1,2,1,2,8,2] ?_; intro s2 k2 h
   refine cb h (strings_HasPrefix_spec n _ _) fun r3 k3 h => ?_
   refine aw h [3,1] ?_; intro h
   refine bs h (fun c4 h => ?_) fun c4 h => ?_
   ·refine aw h [3,3,3,3,2,1] ?_; intro h
    exact lf true h
   ·refine aw h [2,1,2,1,2,8,2] ?_; intro s4 k5 h
    refine cb h (strings_HasPrefix_spec n _ _) fun r5 k6 h => ?_
    refine aw h [3,1] ?_; intro h
    exact lf r5 h
 ·intro x1 h
  try dsimp only at h ⊢
  unfold treepatch_Related_j1 at h
  refine Ev.ret ?_
  cases h
  exact ⟨_, rfl, .refl _⟩
theorem treepatch_Clash_spec (n : Nat) (a0 : List SPathLines) (a1 : List UInt8) (a2 : Int) (r : Bool) (h : treepatch_Clash n a0 a1 a2 = some r) : PSpec Tryz.prog 112 [lP a0, .str a1, iP a2] (.bool r) := by
 unfold treepatch_Clash at h
 refine spec_of Tryz.c_treepatch_Clash (by simp) ?_
 unfold Tryz.l_treepatch_Clash
 refine au h [1,1,1,1,1,1,1,5,1,1] ?_; intro h
 refine Ev.loopW (β := Nat × Int) (fun v => ⟨[(1, .str a1), (2, iP a2), (9, lP a0), (10, iP (a0.length : Int)), (11, iP v.2)], [], 2⟩) (fun v => treepatch_Clash_l1 n a0 a1 a2 v.1 v.2 = some r) (fun v => v.1) (n, 0) (.nA) h ?_
 intro ⟨m1, x1⟩ h
 try dsimp only at h ⊢
 cases m1 with
 | zero => rw [treepatch_Clash_l1] at h; cases h
 | succ m1 =>
  rw [treepatch_Clash_l1] at h
  refine au h [1,1,5,1] ?_; intro h
  refine bs h (fun c1 h => ?_) fun c1 h => ?_
  ·refine au h [2,1,1,1,1,1,1,5,5,5,1,8] ?_; intro e2 k2 h
   refine Ev.seqJ (γ := Bool) (fun v => ⟨[(1, .str a1), (2, iP a2), (9, lP a0), (10, iP (a0.length : Int)), (11, iP x1), (24, .bool v)], [], 2⟩) (fun v => treepatch_Clash_j1 n x1 (treepatch_Clash_l1 n a0 a1 a2 m1) v = some r) ?_ ?_
   ·refine au h [1,1,1,5,1] ?_; intro h
    refine bs h (fun c5 h => ?_) fun c5 h => ?_
    ·refine aw h [2,8,2,8,2,1,2] ?_; intro h
     refine cb h (treepatch_Related_spec n _ _) fun r5 k6 h => ?_
     refine aw h [2] ?_; intro h
     exact lf r5 h
    ·refine aw h [3,3,3,3,3] ?_; intro h
     exact lf false h
   ·intro x3 h
    try dsimp only at h ⊢
    unfold treepatch_Clash_j1 at h
    refine bs h (fun c3 h => ?_) fun c3 h => ?_
    ·refine au h [2,1,1,1,1] ?_; intro h
     cases h
     exact ⟨_, rfl, .refl _⟩
    ·refine au h [3,1,1,7,1] ?_; intro x4 k4 h
     exact lb (m1, x4) h
  ·refine au h [3,1,1,1,1,1] ?_; intro h
   cases h
   exact ⟨_, rfl, .refl _⟩
theorem treepatch_ValidPath_spec (n : Nat) (a0 : List UInt8) (r : Bool) (h : treepatch_ValidPath n a0 = some r) : PSpec Tryz.prog 115 [.str a0] (.bool r) := by
 unfold treepatch_ValidPath at h
 injection h with h
 subst h
 exact k_ValidPath a0
theorem strings_IndexByte_spec (n : Nat) (a0 : List UInt8) (a1 : Int) (r : Int) (h : strings_IndexByte n a0 a1 = some r) : PSpec Tryz.prog 177 [.str a0, .int .u8 a1] (.int .i64 r) := by
 unfold strings_IndexByte at h
 injection h with h
 subst h
 exact k_IndexByte a0 a1
theorem lines_Validate_spec (n : Nat) (a0 : List (List UInt8)) (r : SCodeIndex) (h : lines_Validate n a0 = some r) : PSpec Tryz.prog 156 [lP a0] (.agg (SCodeIndex.cells r)) := by
 unfold lines_Validate at h
 refine spec_of Tryz.c_lines_Validate (by simp) ?_
 unfold Tryz.l_lines_Validate
 refine au h [1,1,5,1,1,1,1,5,5] ?_; intro h
 refine bs h (fun c1 h => ?_) fun c1 h => ?_
 ·refine au h [2,1,1,5,8,1] ?_; intro h
  cases h
  exact ⟨_, rfl, .refl _⟩
 ·refine au h [3,1,1,1,1,1,5,1,1] ?_; intro h
  refine Ev.loopW (β := Nat × Int) (fun v => ⟨[(2, wP 10100), (9, lP a0), (10, iP (a0.length : Int)), (11, iP v.2)], [(10100, eP 31 2 [[iP 0, iP 0]])], 2⟩) (fun v => lines_Validate_l1 n a0 v.1 v.2 = some r) (fun v => v.1) (n, 0) (.nA) h ?_
  intro ⟨m1, x1⟩ h
  try dsimp only at h ⊢
  cases m1 with
  | zero => rw [lines_Validate_l1] at h; cases h
  | succ m1 =>
   rw [lines_Validate_l1] at h
   refine au h [1,1,5,1] ?_; intro h
   refine bs h (fun c2 h => ?_) fun c2 h => ?_
   ·refine au h [2,1,1,1,1,1,1,5,5,1,1,1,1,1,1,5,5] ?_; intro e2 k3 h
    refine bs h (fun c4 h => ?_) fun c4 h => ?_
    ·refine au h [2,1,1,1,5,8,1] ?_; intro h
     cases h
     exact ⟨_, rfl, .refl _⟩
    ·refine au h [3,1,1,1,1] ?_; intro h
     refine cb h (strings_IndexByte_spec n _ _) fun r3 k5 h => ?_
     refine aw h [5] ?_; intro h
     refine bs h (fun c6 h => ?_) fun c6 h => ?_
     ·refine au h [2,1,1,1,5,8,1] ?_; intro h
      cases h
      exact ⟨_, rfl, .refl _⟩
     ·refine au h [3,1,1,7,1] ?_; intro x4 k7 h
      exact lb (m1, x4) h
   ·refine au h [3,1,1,1,5,8,1] ?_; intro h
    cases h
    exact ⟨_, rfl, .refl _⟩
theorem lines_Second_spec (n : Nat) (a0 : List (List UInt8)) (a1 : Int) (r : SCodeIndex) (h : lines_Second n a0 a1 = some r) : PSpec Tryz.prog 122 [lP a0, iP a1] (.agg (SCodeIndex.cells r)) := by
 unfold lines_Second at h
 refine spec_of Tryz.c_lines_Second (by simp) ?_
 unfold Tryz.l_lines_Second
 refine au h [1,1,5,1,1,1,1] ?_; intro h
 refine cb h (lines_Validate_spec n _) fun r1 k1 h => ?_
 refine ax 16 h [5,8,1,1,8,5,5] ?_; intro h
 refine bs h (fun c2 h => ?_) fun c2 h => ?_
 ·refine au h [2,1,1,8,8,1,5,8,1] ?_; intro h
  cases h
  exact ⟨_, rfl, .refl _⟩
 ·refine au h [3,1,1,1,5,8,1] ?_; intro h
  cases h
  exact ⟨_, rfl, .refl _⟩
theorem treepatch_Validate_spec (n : Nat) (a0 : SFiles) (r : SCodeIndex) (h : treepatch_Validate n a0 = some r) : PSpec Tryz.prog 108 [.agg (SFiles.cells a0)] (.agg (SCodeIndex.cells r)) := by
 unfold treepatch_Validate at h
 refine spec_of Tryz.c_treepatch_Validate (by simp) ?_
 unfold Tryz.l_treepatch_Validate
 refine au h [1,1,5,5,1,1,1,8,8,5,5] ?_; intro h
 refine bs h (fun c1 h => ?_) fun c1 h => ?_
 ·refine au h [2,1,1,5,8,1] ?_; intro h
  cases h
  exact ⟨_, rfl, .refl _⟩
 ·refine au h [3,1,1,1,1,8,8,5,1,1] ?_; intro h
  refine Ev.loopW (β := Nat × Int) (fun v => ⟨[(1, wP 10100), (2, wP 10101), (12, lP a0.Files), (13, iP (a0.Files.length : Int)), (14, iP v.2)], [(10100, eP 25 1 [[lP a0.Files]]), (10101, eP 31 2 [[iP 0, iP 0]])], 2⟩) (fun v => treepatch_Validate_l1 n a0 v.1 v.2 = some r) (fun v => v.1) (n, 0) (.nA) h ?_
  intro ⟨m1, x1⟩ h
  try dsimp only at h ⊢
  cases m1 with
  | zero => rw [treepatch_Validate_l1] at h; cases h
  | succ m1 =>
   rw [treepatch_Validate_l1] at h
   refine au h [1,1,5,1] ?_; intro h
   refine bs h (fun c2 h => ?_) fun c2 h => ?_
   ·refine au h [2,1,1,1,1,1,1,5,5,5,1,8,1,1,1,1,8,8] ?_; intro e2 k3 h
    refine cb h (treepatch_ValidPath_spec n _) fun r3 k4 h => ?_
    refine aw h [5,1] ?_; intro h
    refine bs h (fun c5 h => ?_) fun c5 h => ?_
    ·refine au h [2,1,1,1,5,8,1] ?_; intro h
     cases h
     exact ⟨_, rfl, .refl _⟩
    ·refine Ev.condF rfl c5 ?_
     refine Ev.seqJ (γ := Bool) (fun v => ⟨[(1, wP 10200), (2, wP 10201), (3, iP x1), (4, wP 10202), (12, lP a0.Files), (13, iP (a0.Files.length : Int)), (14, iP x1), (26, .bool v)], [(10200, eP 25 1 [[lP a0.Files]]), (10201, eP 31 2 [[iP 0, iP 0]]), (10202, eP 37 2 [[.str e2.Path, lP e2.Lines]])], 2⟩) (fun v => treepatch_Validate_j1 n a0 x1 (treepatch_Validate_l1 n a0 m1) e2 v = some r) ?_ ?_
     ·refine au h [1,1,5,1] ?_; intro h
      refine bs h (fun c13 h => ?_) fun c13 h => ?_
      ·refine aw h [2,8,2,8,2,8,2,8,2,1,2,7,2,5,2,5,2,5,2,6,2,1] ?_; intro x9 k14 e10 k15 h
       exact lf (Op.bytesLess e2.Path e10.Path || e2.Path == e10.Path) h
      ·refine aw h [3,3,3,3,3,3,3,3,3,3,3,1] ?_; intro h
       exact lf false h
     ·intro x4 h
      try dsimp only at h ⊢
      unfold treepatch_Validate_j1 at h
      refine bs h (fun c6 h => ?_) fun c6 h => ?_
      ·refine au h [2,1,1,1,5,8,1] ?_; intro h
       cases h
       exact ⟨_, rfl, .refl _⟩
      ·refine au h [3,1,1,8,8,1,7,8,8] ?_; intro s5 k7 h
       refine cb h (treepatch_Clash_spec n _ _ _) fun r6 k8 h => ?_
       refine aw h [1] ?_; intro h
       refine bs h (fun c9 h => ?_) fun c9 h => ?_
       ·refine au h [2,1,1,1,5,8,1] ?_; intro h
        cases h
        exact ⟨_, rfl, .refl _⟩
       ·refine au h [3,1,1,1,8,8,1] ?_; intro h
        refine cb h (lines_Second_spec n _ _) fun r7 k10 h => ?_
        refine ax 63 h [5,8,1,1,8,5,5] ?_; intro h
        refine bs h (fun c11 h => ?_) fun c11 h => ?_
        ·refine au h [2,1,1,8,8,1] ?_; intro h
         cases h
         exact ⟨_, rfl, .refl _⟩
        ·refine au h [3,1,1,7,1] ?_; intro x8 k12 h
         exact lb (m1, x8) h
   ·refine au h [3,1,1,1,5,8,1] ?_; intro h
    cases h
    exact ⟨_, rfl, .refl _⟩
theorem treepatch_Second_spec (n : Nat) (a0 : SFiles) (a1 : Int) (r : SCodeIndex) (h : treepatch_Second n a0 a1 = some r) : PSpec Tryz.prog 55 [.agg (SFiles.cells a0), iP a1] (.agg (SCodeIndex.cells r)) := by
 unfold treepatch_Second at h
 refine spec_of Tryz.c_treepatch_Second (by simp) ?_
 unfold Tryz.l_treepatch_Second
 refine au h [1,1,5,5,1,1,1,8] ?_; intro h
 refine cb h (treepatch_Validate_spec n _) fun r1 k1 h => ?_
 refine ax 16 h [5,8,1,1,8,5,5] ?_; intro h
 refine bs h (fun c2 h => ?_) fun c2 h => ?_
 ·refine au h [2,1,1,8,8,1,5,8,1] ?_; intro h
  cases h
  exact ⟨_, rfl, .refl _⟩
 ·refine au h [3,1,1,1,5,8,1] ?_; intro h
  cases h
  exact ⟨_, rfl, .refl _⟩
theorem digest_mul_spec (n : Nat) (a0 : Int) (a1 : Int) (r : Int) (h : digest_mul n a0 a1 = some r) : PSpec Tryz.prog 153 [iP a0, iP a1] (iP r) := by
 unfold digest_mul at h
 refine spec_of Tryz.c_digest_mul (by simp) ?_
 unfold Tryz.l_digest_mul
 refine au h [1,1,1,1,1,1] ?_; intro h
 refine Ev.seqJ (γ := Int) (fun v => ⟨[(5, iP v)], [], 2⟩) (fun v => digest_mul_j1 n v = some r) ?_ ?_
 ·refine Ev.block ?_
  refine Ev.loopW (β := Nat × Int × Int × Int) (fun v => ⟨[(0, iP v.2.1), (1, iP v.2.2.1), (5, iP v.2.2.2)], [], 2⟩) (fun v => digest_mul_l1 n v.1 v.2.1 v.2.2.1 v.2.2.2 = some r) (fun v => v.1) (n, a0, a1, 0) (.nA) h ?_
  intro ⟨m1, x2, x3, x4⟩ h
  try dsimp only at h ⊢
  cases m1 with
  | zero => rw [digest_mul_l1] at h; cases h
  | succ m1 =>
   rw [digest_mul_l1] at h
   refine au h [1,1,1,1,5] ?_; intro h
   refine bs h (fun c1 h => ?_) fun c1 h => ?_
   ·refine au h [2,1,1,1] ?_; intro h
    refine Ev.seqJ (γ := Int) (fun v => ⟨[(0, iP x2), (1, iP x3), (5, iP v)], [], 2⟩) (fun v => digest_mul_j2 n x2 x3 (digest_mul_l1 n m1) v = some r) ?_ ?_
    ·refine au h [1,1,1] ?_; intro h
     refine W.bin (z := .int .i64 (kand .i64 x3 1)) rfl rfl rfl ?_
     refine aw h [5] ?_; intro h
     refine bs h (fun c4 h => ?_) fun c4 h => ?_
     ·refine au h [2,1,1,1,7,7,1] ?_; intro x8 k5 x9 k6 h
      exact lf x9 h
     ·refine au h [3,1] ?_; intro h
      exact lf x4 h
    ·intro x5 h
     try dsimp only at h ⊢
     unfold digest_mul_j2 at h
     refine au h [1,1,7,7,1,1,1] ?_; intro x6 k2 x7 k3 h
     refine W.shrC (n := 1) rfl rfl ?_
     refine aw h [1] ?_; intro h
     exact lb (m1, x7, (kshr .i64 x3 1), x5) h
   ·refine au h [3,1] ?_; intro h
    exact lf x4 h
 ·intro x1 h
  try dsimp only at h ⊢
  unfold digest_mul_j1 at h
  refine au h [1,1,1,1,1] ?_; intro h
  cases h
  exact ⟨_, rfl, .refl _⟩
theorem digest_next_spec (n : Nat) (a0 : SA0A1) (a1 : Int) (r : Int) (h : digest_next n a0 a1 = some r) : PSpec Tryz.prog 117 [.agg (SA0A1.cells a0), iP a1] (iP r) := by
 unfold digest_next at h
 refine spec_of Tryz.c_digest_next (by simp) ?_
 unfold Tryz.l_digest_next
 refine au h [1,1,5,1,1,1] ?_; intro h
 refine W.idxAO (n := 0) rfl rfl rfl (by decide) rfl (by decide) ?_
 refine aw h [8,1] ?_; intro h
 refine cb h (digest_mul_spec n _ _) fun r1 k1 h => ?_
 refine W.idxAO (n := 1) rfl rfl rfl (by decide) rfl (by decide) ?_
 refine ax 13 h [8,7,7,1,1] ?_; intro x2 k2 x3 k3 h
 cases h
 exact ⟨_, rfl, .refl _⟩
end Go.Proofs.YtlkknmhhefjmjaaGreatDoor
namespace Go.Proofs.YtlkknmhhefjmjaaGreatDoor
open Go.PW Go
theorem digest_Of_spec (n : Nat) (a0 : List Int) (r : (Int × SCodeIndex)) (h : digest_Of n a0 = some r) : PSpec Tryz.prog 65 [.list 1 (List.map (cK .u8) a0)] (.tup [iP r.1, .agg (SCodeIndex.cells r.2)]) := by
 unfold digest_Of at h
 refine spec_of Tryz.c_digest_Of (by simp) ?_
 unfold Tryz.l_digest_Of
 refine au h [1,1,1,5,1,1,1,1,5,5] ?_; intro h
 refine bs h (fun c1 h => ?_) fun c1 h => ?_
 ·refine au h [2,1,1,5,1,8,1] ?_; intro h
  cases h
  exact ⟨_, rfl, .refl _⟩
 ·refine au h [3,1,1,1,1,1,1,1,1,5,1,1] ?_; intro h
  refine Ev.loopW (β := Nat × Int × Int) (fun v => ⟨[(3, wP 10100), (4, iP v.2.1), (11, .list 1 (List.map (cK .u8) a0)), (12, iP (a0.length : Int)), (13, iP v.2.2)], [(10100, eP 31 2 [[iP 0, iP 0]])], 2⟩) (fun v => digest_Of_l1 n a0 v.1 v.2.1 v.2.2 = some r) (fun v => v.1) (n, 1, 0) (.nA) h ?_
  intro ⟨m1, x1, x2⟩ h
  try dsimp only at h ⊢
  cases m1 with
  | zero => rw [digest_Of_l1] at h; cases h
  | succ m1 =>
   rw [digest_Of_l1] at h
   refine au h [1,1,5,1] ?_; intro h
   refine bs h (fun c2 h => ?_) fun c2 h => ?_
   ·refine au h [2,1,1,1,1,1,5,5,1,1,1,1,5,7,5] ?_; intro e3 k3 x4 k4 h
    refine cb h (digest_next_spec n _ _) fun r5 k5 h => ?_
    refine ax 26 h [1,1,7,1] ?_; intro x6 k6 h
    exact lb (m1, r5, x6) h
   ·refine au h [3,1,1,1,1,5,1,8,1] ?_; intro h
    cases h
    exact ⟨_, rfl, .refl _⟩
theorem digest_pair_spec (n : Nat) (a0 : Int) (a1 : Int) (r : Int) (h : digest_pair n a0 a1 = some r) : PSpec Tryz.prog 75 [iP a0, iP a1] (iP r) := by
 unfold digest_pair at h
 refine spec_of Tryz.c_digest_pair (by simp) ?_
 unfold Tryz.l_digest_pair
 refine au h [1,1,1,1,1,1,1,5] ?_; intro h
 refine cb h (digest_next_spec n _ _) fun r1 k1 h => ?_
 refine aw h [5] ?_; intro h
 refine cb h (digest_next_spec n _ _) fun r2 k2 h => ?_
 refine ax 11 h [1,1] ?_; intro h
 cases h
 exact ⟨_, rfl, .refl _⟩
theorem digest_Strings_spec (n : Nat) (a0 : List (List UInt8)) (r : (Int × SCodeIndex)) (h : digest_Strings n a0 = some r) : PSpec Tryz.prog 26 [lP a0] (.tup [iP r.1, .agg (SCodeIndex.cells r.2)]) := by
 unfold digest_Strings at h
 refine spec_of Tryz.c_digest_Strings (by simp) ?_
 unfold Tryz.l_digest_Strings
 refine au h [1,1,1,5,1,1,1,1,5,5] ?_; intro h
 refine bs h (fun c1 h => ?_) fun c1 h => ?_
 ·refine au h [2,1,1,5,1,8,1] ?_; intro h
  cases h
  exact ⟨_, rfl, .refl _⟩
 ·refine au h [3,1,1,1,1,1,1,1,1,5,1,1] ?_; intro h
  refine Ev.loopW (β := Nat × Int × Int) (fun v => ⟨[(3, wP 10100), (4, iP v.2.1), (13, lP a0), (14, iP (a0.length : Int)), (15, iP v.2.2)], [(10100, eP 31 2 [[iP 0, iP 0]])], 2⟩) (fun v => digest_Strings_l1 n a0 v.1 v.2.1 v.2.2 = some r) (fun v => v.1) (n, 2, 0) (.nA) h ?_
  intro ⟨m1, x1, x2⟩ h
  try dsimp only at h ⊢
  cases m1 with
  | zero => rw [digest_Strings_l1] at h; cases h
  | succ m1 =>
   rw [digest_Strings_l1] at h
   refine au h [1,1,5,1] ?_; intro h
   refine bs h (fun c2 h => ?_) fun c2 h => ?_
   ·refine au h [2,1,1,1,1,1,1,5,5,1,1,1,1,1,5] ?_; intro e3 k3 h
    refine cb h (digest_Of_spec n _) fun r4 k4 h => ?_
    refine ax 39 h [1,5,5,5,1,8,1,1,1,8,5,5] ?_; intro h
    refine bs h (fun c5 h => ?_) fun c5 h => ?_
    ·refine au h [2,1,1,8,8,1,5,1,8,1] ?_; intro h
     cases h
     exact ⟨_, rfl, .refl _⟩
    ·refine au h [3,1,1,1,1] ?_; intro h
     refine cb h (digest_pair_spec n _ _) fun r5 k6 h => ?_
     refine ax 39 h [1,1,7,1] ?_; intro x6 k7 h
     exact lb (m1, r5, x6) h
   ·refine au h [3,1,1,1,1,5,1,8,1] ?_; intro h
    cases h
    exact ⟨_, rfl, .refl _⟩
theorem strings_Compare_spec (n : Nat) (a0 : List UInt8) (a1 : List UInt8) (r : Int) (h : strings_Compare n a0 a1 = some r) : PSpec Tryz.prog 120 [.str a0, .str a1] (.int .i64 r) := by
 unfold strings_Compare at h
 injection h with h
 subst h
 exact k_Compare a0 a1
theorem treepatch_Find_spec (n : Nat) (a0 : List SPathLines) (a1 : List UInt8) (r : (Int × Bool)) (h : treepatch_Find n a0 a1 = some r) : PSpec Tryz.prog 66 [lP a0, .str a1] (.tup [iP r.1, .bool r.2]) := by
 unfold treepatch_Find at h
 refine spec_of Tryz.c_treepatch_Find (by simp) ?_
 unfold Tryz.l_treepatch_Find
 refine au h [1,1,1,1,1] ?_; intro h
 refine Ev.regS rfl ?_
 refine Sq.w 2 nb ?_
 refine aw h [1,1] ?_; intro h
 refine Sq.call rfl Tryz.c_slices_BinarySearchFunc_api_File_api_File_string ⟨_, rfl, nb, ?_⟩
 unfold Tryz.l_slices_BinarySearchFunc_api_File_api_File_string
 refine Ev.retJ (γ := Int × Bool) (fun v => ⟨[(6, iP v.1), (7, .bool v.2), (65540, iP 0), (65541, .bool false)], [], 2⟩) (fun v => treepatch_Find_j1 n v.1 v.2 = some r) ?_ ?_
 ·refine au h [1,1,1,1,1,1,1,5,1,1,1,1,1,1] ?_; intro h
  refine Ev.seqJ (γ := Int) (fun v => ⟨[(0, lP a0), (1, .str a1), (2, .fn 119 [] []), (8, iP (a0.length : Int)), (9, iP v), (65540, iP 0), (65541, .bool false)], [], 2⟩) (fun v => treepatch_Find_j2 n a0 a1 v = some r) ?_ ?_
  ·refine Ev.block ?_
   refine Ev.loopW (β := Nat × Int × Int) (fun v => ⟨[(0, lP a0), (1, .str a1), (2, .fn 119 [] []), (8, iP (a0.length : Int)), (9, iP v.2.1), (10, iP v.2.2), (65540, iP 0), (65541, .bool false)], [], 2⟩) (fun v => treepatch_Find_l1 n a0 a1 v.1 v.2.1 v.2.2 = some r) (fun v => v.1) (n, 0, (a0.length : Int)) (.nA) h ?_
   intro ⟨m1, x8, x9⟩ h
   try dsimp only at h ⊢
   cases m1 with
   | zero => rw [treepatch_Find_l1] at h; cases h
   | succ m1 =>
    rw [treepatch_Find_l1] at h
    refine au h [1,1,1,1,1,5] ?_; intro h
    refine bs h (fun c4 h => ?_) fun c4 h => ?_
    ·refine au h [2,1,1,1,1,1,1,7,5] ?_; intro x10 k5 h
     refine W.shrC (n := 1) rfl rfl ?_
     refine ax 49 h [5,1,1] ?_; intro h
     refine Ev.regS rfl ?_
     refine Sq.w 6 nb ?_
     refine aw h [1,1,1,5,5,1] ?_; intro e11 k6 h
     refine Sq.callv (f := 119) rfl Tryz.b_treepatch_Find_1 Tryz.c_treepatch_Find_1 ⟨_, _, _, rfl, nb, ?_⟩
     unfold Tryz.l_treepatch_Find_1
     refine Ev.retJ (γ := Int) (fun v => ⟨[(4, iP v), (65536, lP a0), (65537, .str a1), (65538, .fn 119 [] []), (65544, iP (a0.length : Int)), (65545, iP x8), (65546, iP x9), (65547, iP (IntKind.wrap .i64 (kshr .u64 (IntKind.wrap .u64 x10) 1))), (131076, iP 0), (131077, .bool false)], [], 2⟩) (fun v => treepatch_Find_j5 n x8 x9 (treepatch_Find_l1 n a0 a1 m1) x10 v = some r) ?_ ?_
     ·refine au h [1,1,5,1,1,1,8,8,1] ?_; intro h
      refine cb h (strings_Compare_spec n _ _) fun r14 k9 h => ?_
      refine ax 9 h [1,1] ?_; intro h
      exact lf r14 h
     ·intro x12 h
      try dsimp only at h ⊢
      unfold treepatch_Find_j5 at h
      refine ⟨_, rfl, ?_⟩
      refine Sq.wEnd nb ?_
      refine aw h [5] ?_; intro h
      refine bs h (fun c7 h => ?_) fun c7 h => ?_
      ·refine au h [2,1,1,7,1] ?_; intro x13 k8 h
       exact lb (m1, x13, x9) h
      ·refine au h [3,1,1,1] ?_; intro h
       exact lb (m1, x8, (IntKind.wrap .i64 (kshr .u64 (IntKind.wrap .u64 x10) 1))) h
    ·refine au h [3,1] ?_; intro h
     exact lf x8 h
  ·intro x3 h
   try dsimp only at h ⊢
   unfold treepatch_Find_j2 at h
   refine Ev.seqJ (γ := Bool) (fun v => ⟨[(6, iP x3), (7, .bool v), (65540, iP 0), (65541, .bool false)], [], 2⟩) (fun v => treepatch_Find_j3 n x3 v = some r) ?_ ?_
   ·refine Ev.regS rfl ?_
    refine Sq.w 11 nb ?_
    refine aw h [1,1,1,5,1] ?_; intro h
    refine bs h (fun c1 h => ?_) fun c1 h => ?_
    ·refine aw h [2,1,2,1,2,1,2,5,2,5,2,1] ?_; intro e5 k2 h
     refine Sq.callvG (f := 119) rfl Tryz.b_treepatch_Find_1 Tryz.c_treepatch_Find_1 (lookT rfl c1) ⟨_, _, _, rfl, nb, ?_⟩
     unfold Tryz.l_treepatch_Find_1
     refine Ev.retJ (γ := Int) (fun v => ⟨[(4, iP v), (65571, iP x3), (65575, .bool (decide (x3 < (a0.length : Int)))), (131076, iP 0), (131077, .bool false)], [], 2⟩) (fun v => treepatch_Find_j4 n x3 v = some r) ?_ ?_
     ·refine au h [1,1,5,1,1,1,8,8,1] ?_; intro h
      refine cb h (strings_Compare_spec n _ _) fun r7 k3 h => ?_
      refine ax 9 h [1,1] ?_; intro h
      exact lf r7 h
     ·intro x6 h
      try dsimp only at h ⊢
      unfold treepatch_Find_j4 at h
      refine ⟨_, rfl, ?_⟩
      refine Sq.wEnd nb ?_
      refine aw h [2,5,2,1,1] ?_; intro h
      exact lf (decide (x6 = 0)) h
    ·refine aw h [3,3,3,3,3,3] ?_; intro h
     refine Sq.off rfl (.inl (lookT rfl c1)) ?_
     refine Sq.wEnd nb ?_
     refine aw h [3,3,1,1] ?_; intro h
     exact lf false h
   ·intro x4 h
    try dsimp only at h ⊢
    unfold treepatch_Find_j3 at h
    refine Ev.ret ?_
    exact lf (x3, x4) h
 ·intro ⟨x1, x2⟩ h
  try dsimp only at h ⊢
  unfold treepatch_Find_j1 at h
  refine ⟨_, rfl, ?_⟩
  refine Sq.wEnd nb ?_
  refine ax 11 h [5,5,1,1,1] ?_; intro h
  cases h
  exact ⟨_, rfl, .refl _⟩
theorem bom_describe_spec (n : Nat) (a0 : SFiles) (a1 : List UInt8) (r : Int) (h : bom_describe n a0 a1 = some r) : PSpec Tryz.prog 61 [.agg (SFiles.cells a0), .str a1] (iP r) := by
 unfold bom_describe at h
 refine spec_of Tryz.c_bom_describe (by simp) ?_
 unfold Tryz.l_bom_describe
 refine au h [1,1,5,1,1,1,8,8,1] ?_; intro h
 refine cb h (treepatch_Find_spec n _ _) fun r1 k1 h => ?_
 refine ax 29 h [1,5,5,1,1,1,1,1,1,5] ?_; intro h
 refine bs h (fun c2 h => ?_) fun c2 h => ?_
 ·refine au h [2,1,1,1,1] ?_; intro h
  cases h
  exact ⟨_, rfl, .refl _⟩
 ·refine au h [3,1,1,1,8,8,1,5,5,5] ?_; intro e2 k3 h
  refine cb h (digest_Strings_spec n _) fun r3 k4 h => ?_
  refine ax 29 h [1,5,5,5,1,8,1,1,1,1,1] ?_; intro h
  cases h
  exact ⟨_, rfl, .refl _⟩
set_option maxHeartbeats 4000000 in
theorem bom_Make_spec (n : Nat) (a0 : List (List UInt8)) (a1 : SFiles) (r : ((List SPathDigest) × SCodeIndex)) (h : bom_Make n a0 a1 = some r) : PSpec Tryz.prog 16 [lP a0, .agg (SFiles.cells a1)] (.tup [lP r.1, .agg (SCodeIndex.cells r.2)]) := by
 unfold bom_Make at h
 refine spec_of Tryz.c_bom_Make (by simp) ?_
 unfold Tryz.l_bom_Make
 refine au h [1,1,5,5,1,5,1,1] ?_; intro h
 refine Ev.regS rfl ?_
 refine Sq.w 3 nb ?_
 refine aw h [8,5] ?_; intro h
 refine W.mkfn rfl (W.nil ?_)
 refine Sq.weak (st' := ⟨[(2, wP 10000), (3, wP 10001), (5, wP 10002), (12, iP (a0.length : Int)), (13, .fn 60 [] [wP 10000])], [(10000, eP 34 1 [[lP a0]]), (10001, eP 25 1 [[lP a1.Files]]), (10002, eP 31 2 [[iP 0, iP 0]])], 2⟩) ?_ (.nA)
 refine Sq.call rfl Tryz.c_bom_checkPaths ⟨_, rfl, nb, ?_⟩
 unfold Tryz.l_bom_checkPaths
 refine Ev.retJ (γ := Int × Int) (fun v => ⟨[(4, wP 10100), (65538, wP 10101), (65539, wP 10102), (65541, wP 10103)], [(10100, eP 31 2 [[iP v.1, iP v.2]]), (10101, eP 34 1 [[lP a0]]), (10102, eP 25 1 [[lP a1.Files]]), (10103, eP 31 2 [[iP 0, iP 0]])], 2⟩) (fun v => bom_Make_j1 n a0 a1 v.1 v.2 = some r) ?_ ?_
 ·refine au h [1,1,5,1,1,1,1,5] ?_; intro h
  refine bs h (fun c9 h => ?_) fun c9 h => ?_
  ·refine au h [2,1,1,5,8,1] ?_; intro h
   exact lf (2, (-1)) h
  ·refine au h [3,1,1,1,1,1,1,1] ?_; intro h
   refine Ev.loopW (β := Nat × Int) (fun v => ⟨[(1, .fn 60 [] [wP 10200]), (4, wP 10201), (9, iP (a0.length : Int)), (10, iP v.2), (65538, wP 10200), (65539, wP 10202), (65541, wP 10203)], [(10200, eP 34 1 [[lP a0]]), (10201, eP 31 2 [[iP 0, iP 0]]), (10202, eP 25 1 [[lP a1.Files]]), (10203, eP 31 2 [[iP 0, iP 0]])], 2⟩) (fun v => bom_Make_l2 n a0 a1 v.1 v.2 = some r) (fun v => v.1) (n, 0) (.nA) h ?_
   intro ⟨m2, x10⟩ h
   try dsimp only at h ⊢
   cases m2 with
   | zero => rw [bom_Make_l2] at h; cases h
   | succ m2 =>
    rw [bom_Make_l2] at h
    refine au h [1,1,5,1] ?_; intro h
    refine bs h (fun c10 h => ?_) fun c10 h => ?_
    ·refine au h [2,1,1,1,1,1,1,1,1,1] ?_; intro h
     refine Ev.regS rfl ?_
     refine Sq.w 2 nb ?_
     refine aw h [1,1] ?_; intro h
     refine Sq.callv (f := 60) rfl Tryz.b_bom_Make_1 Tryz.c_bom_Make_1 ⟨_, _, _, rfl, nb, ?_⟩
     unfold Tryz.l_bom_Make_1
     refine Ev.retJ (γ := List UInt8) (fun v => ⟨[(3, .str v), (65537, .fn 60 [] [wP 10300]), (65540, wP 10301), (65541, iP x10), (65545, iP (a0.length : Int)), (65546, iP x10), (131074, wP 10300), (131075, wP 10302), (131077, wP 10303)], [(10300, eP 34 1 [[lP a0]]), (10301, eP 31 2 [[iP 0, iP 0]]), (10302, eP 25 1 [[lP a1.Files]]), (10303, eP 31 2 [[iP 0, iP 0]])], 2⟩) (fun v => bom_Make_j2 n a0 a1 x10 (bom_Make_l2 n a0 a1 m2) v = some r) ?_ ?_
     ·refine au h [1,1,1,1,1,8,1,5,5,1,1] ?_; intro e20 k19 h
      exact lf e20 h
     ·intro x11 h
      try dsimp only at h ⊢
      unfold bom_Make_j2 at h
      refine ⟨_, rfl, ?_⟩
      refine Sq.wEnd nb ?_
      refine cb h (treepatch_ValidPath_spec n _) fun r12 k11 h => ?_
      refine aw h [5] ?_; intro h
      refine bs h (fun c12 h => ?_) fun c12 h => ?_
      ·refine au h [2,1,1,1,5,8,1] ?_; intro h
       exact lf (12, x10) h
      ·refine au h [3,1] ?_; intro h
       refine Ev.seqJ (γ := Bool) (fun v => ⟨[(1, .fn 60 [] [wP 10400]), (4, wP 10401), (5, iP x10), (9, iP (a0.length : Int)), (10, iP x10), (31, .bool v), (65538, wP 10400), (65539, wP 10402), (65541, wP 10403)], [(10400, eP 34 1 [[lP a0]]), (10401, eP 31 2 [[iP 0, iP 0]]), (10402, eP 25 1 [[lP a1.Files]]), (10403, eP 31 2 [[iP 0, iP 0]])], 2⟩) (fun v => bom_Make_j3 n a0 a1 x10 (bom_Make_l2 n a0 a1 m2) v = some r) ?_ ?_
       ·refine Ev.regS rfl ?_
        refine Sq.w 5 nb ?_
        refine aw h [1,5,1] ?_; intro h
        refine bs h (fun c15 h => ?_) fun c15 h => ?_
        ·refine aw h [2,1,2,1] ?_; intro h
         refine Sq.callvG (f := 60) rfl Tryz.b_bom_Make_1 Tryz.c_bom_Make_1 (lookT rfl c15) ⟨_, _, _, rfl, nb, ?_⟩
         unfold Tryz.l_bom_Make_1
         refine Ev.retJ (γ := List UInt8) (fun v => ⟨[(3, .str v), (65537, .fn 60 [] [wP 10500]), (65540, wP 10501), (65541, iP x10), (65545, iP (a0.length : Int)), (65546, iP x10), (65558, .bool (decide (0 < x10))), (65559, .fn 60 [] [wP 10500]), (65560, iP x10), (131074, wP 10500), (131075, wP 10502), (131077, wP 10503)], [(10500, eP 34 1 [[lP a0]]), (10501, eP 31 2 [[iP 0, iP 0]]), (10502, eP 25 1 [[lP a1.Files]]), (10503, eP 31 2 [[iP 0, iP 0]])], 2⟩) (fun v => bom_Make_j4 n a0 a1 x10 (bom_Make_l2 n a0 a1 m2) v = some r) ?_ ?_
         ·refine au h [1,1,1,1,1,8,1,5,5,1,1] ?_; intro e19 k18 h
          exact lf e19 h
         ·intro x15 h
          try dsimp only at h ⊢
          unfold bom_Make_j4 at h
          refine ⟨_, rfl, ?_⟩
          refine Sq.w 3 nb ?_
          refine aw h [2,1,2,1,2,7] ?_; intro x16 k16 h
          refine Sq.callvG (f := 60) rfl Tryz.b_bom_Make_1 Tryz.c_bom_Make_1 (lookT rfl c15) ⟨_, _, _, rfl, nb, ?_⟩
          unfold Tryz.l_bom_Make_1
          refine Ev.retJ (γ := List UInt8) (fun v => ⟨[(3, .str v), (65537, .fn 60 [] [wP 10600]), (65540, wP 10601), (65541, iP x10), (65545, iP (a0.length : Int)), (65546, iP x10), (65558, .bool (decide (0 < x10))), (65559, .fn 60 [] [wP 10600]), (65560, iP x10), (65561, .str x15), (65562, .fn 60 [] [wP 10600]), (65563, iP x10), (65564, iP x16), (131074, wP 10600), (131075, wP 10602), (131077, wP 10603)], [(10600, eP 34 1 [[lP a0]]), (10601, eP 31 2 [[iP 0, iP 0]]), (10602, eP 25 1 [[lP a1.Files]]), (10603, eP 31 2 [[iP 0, iP 0]])], 2⟩) (fun v => bom_Make_j5 n a0 a1 x10 (bom_Make_l2 n a0 a1 m2) x15 v = some r) ?_ ?_
          ·refine au h [1,1,1,1,1,8,1,5,5,1,1] ?_; intro e18 k17 h
           exact lf e18 h
          ·intro x17 h
           try dsimp only at h ⊢
           unfold bom_Make_j5 at h
           refine ⟨_, rfl, ?_⟩
           refine Sq.wEnd nb ?_
           refine aw h [2,6,2] ?_; intro h
           exact lf (Op.bytesLess x15 x17 || x15 == x17) h
        ·refine aw h [3,3] ?_; intro h
         refine Sq.off rfl (.inl (lookT rfl c15)) ?_
         refine Sq.w 3 nb ?_
         refine aw h [3,3,3] ?_; intro h
         refine Sq.off rfl (.inl (lookT rfl c15)) ?_
         refine Sq.wEnd nb ?_
         refine aw h [3,3] ?_; intro h
         exact lf false h
       ·intro x13 h
        try dsimp only at h ⊢
        unfold bom_Make_j3 at h
        refine bs h (fun c13 h => ?_) fun c13 h => ?_
        ·refine au h [2,1,1,1,5,8,1] ?_; intro h
         exact lf (5, x10) h
        ·refine au h [3,1,1,7,1] ?_; intro x14 k14 h
         exact lb (m2, x14) h
    ·refine au h [3,1,1,1,5,8,1] ?_; intro h
     exact lf (0, 0) h
 ·intro ⟨b1, b2⟩ h
  try dsimp only at h ⊢
  unfold bom_Make_j1 at h
  refine ⟨_, rfl, ?_⟩
  refine Sq.wEnd nb ?_
  refine ax 42 h [5,8,1,1,8,5,5] ?_; intro h
  refine bs h (fun c1 h => ?_) fun c1 h => ?_
  ·refine au h [2,1,1,8,1,8,1] ?_; intro h
   cases h
   exact ⟨_, rfl, Le.tups (.cons (.nils 2) (.cons (.refl _) (.nil)))⟩
  ·refine au h [3,1,1,1,1,8] ?_; intro h
   refine cb h (treepatch_Second_spec n _ _) fun r3 k2 h => ?_
   refine ax 42 h [5,8,1,1,8,5,5] ?_; intro h
   refine bs h (fun c3 h => ?_) fun c3 h => ?_
   ·refine au h [2,1,1,8,1,8,1] ?_; intro h
    cases h
    exact ⟨_, rfl, Le.tups (.cons (.nils 2) (.cons (.refl _) (.nil)))⟩
   ·refine au h [3,1,1,1,1,1,1,1,8,5,1,1] ?_; intro h
    refine Ev.loopW (β := Nat × (List SPathDigest) × Int) (fun v => ⟨[(3, wP 10200), (5, wP 10201), (8, .own 10202 0), (25, lP a0), (26, iP (a0.length : Int)), (27, iP v.2.2)], [(10200, eP 25 1 [[lP a1.Files]]), (10201, eP 31 2 [[iP 0, iP 0]]), (10202, eP 46 2 (mP v.2.1))], 2⟩) (fun v => bom_Make_l1 n a0 a1 v.1 v.2.1 v.2.2 = some r) (fun v => v.1) (n, ([] : List SPathDigest), 0) ((Wk.ownNil 8 30202 46 2 rfl rfl true).trans (.nA)) h ?_
    intro ⟨m1, w4, x5⟩ h
    try dsimp only at h ⊢
    cases m1 with
    | zero => rw [bom_Make_l1] at h; cases h
    | succ m1 =>
     rw [bom_Make_l1] at h
     refine au h [1,1,5,1] ?_; intro h
     refine bs h (fun c4 h => ?_) fun c4 h => ?_
     ·refine au h [2,1,1,1,1,1,5,5,1,1,1,1,8,1] ?_; intro e6 k5 h
      refine cb h (bom_describe_spec n _ _) fun r7 k6 h => ?_
      refine ax 42 h [5,5,7,1,1,7,1] ?_; intro w8 k7 x9 k8 h
      exact lb (m1, w8, x9) h
     ·refine au h [3,1,1,1,1,5,1,8,1] ?_; intro h
      cases h
      exact ⟨_, rfl, .refl _⟩
theorem sandbox_checkOp_spec (n : Nat) (a0 : SKindText) (r : Int) (h : sandbox_checkOp n a0 = some r) : PSpec Tryz.prog 145 [.agg (SKindText.cells a0)] (iP r) := by
 unfold sandbox_checkOp at h
 refine spec_of Tryz.c_sandbox_checkOp (by simp) ?_
 unfold Tryz.l_sandbox_checkOp
 refine au h [1,1,5,1] ?_; intro h
 refine Ev.seqJ (γ := Unit) (fun v => ⟨[], [], 2⟩) (fun v => sandbox_checkOp_j1 n = some r) ?_ ?_
 ·refine au h [1,1,8,8,1] ?_; intro h
  refine Ev.seqJ (γ := Bool) (fun v => ⟨[(1, wP 10200), (4, iP a0.Kind), (5, .bool v)], [(10200, eP 109 2 [[iP a0.Kind, .str a0.Text]])], 2⟩) (fun v => sandbox_checkOp_j2 n a0 v = some r) ?_ ?_
  ·refine au h [1,1,5,1] ?_; intro h
   refine bs h (fun c9 h => ?_) fun c9 h => ?_
   ·refine au h [2,1] ?_; intro h
    exact lf (decide (a0.Kind = 1)) h
   ·refine au h [3,1,5,1] ?_; intro h
    exact lf (decide (a0.Kind = 2)) h
  ·intro x1 h
   try dsimp only at h ⊢
   unfold sandbox_checkOp_j2 at h
   refine bs h (fun c1 h => ?_) fun c1 h => ?_
   ·refine au h [2,1,1,8,8] ?_; intro h
    refine cb h (treepatch_ValidPath_spec n _) fun r2 k2 h => ?_
    refine aw h [5] ?_; intro h
    refine bs h (fun c3 h => ?_) fun c3 h => ?_
    ·refine au h [2,1,1,1,1] ?_; intro h
     cases h
     exact ⟨_, rfl, .refl _⟩
    ·refine au h [3,1] ?_; intro h
     exact lf () h
   ·refine au h [3,1,1,5,1] ?_; intro h
    refine bs h (fun c4 h => ?_) fun c4 h => ?_
    ·refine au h [2,1,1,8,8,5] ?_; intro h
     refine cb h (lines_Validate_spec n _) fun r3 k5 h => ?_
     refine ax 25 h [5,1,1] ?_; intro h
     cases h
     exact ⟨_, rfl, .refl _⟩
    ·refine Ev.condF rfl c4 ?_
     refine Ev.seqJ (γ := Bool) (fun v => ⟨[(1, wP 10300), (19, .bool v)], [(10300, eP 109 2 [[iP a0.Kind, .str a0.Text]])], 2⟩) (fun v => sandbox_checkOp_j3 n a0 v = some r) ?_ ?_
     ·refine au h [1,1,5,1] ?_; intro h
      refine bs h (fun c8 h => ?_) fun c8 h => ?_
      ·refine au h [2,1] ?_; intro h
       exact lf (decide (a0.Kind = 4)) h
      ·refine au h [3,1,5,1] ?_; intro h
       exact lf (decide (a0.Kind = 5)) h
     ·intro x4 h
      try dsimp only at h ⊢
      unfold sandbox_checkOp_j3 at h
      refine bs h (fun c6 h => ?_) fun c6 h => ?_
      ·refine au h [2,1,1,8,8,6] ?_; intro h
       refine bs h (fun c7 h => ?_) fun c7 h => ?_
       ·refine au h [2,1,1,1,1] ?_; intro h
        cases h
        exact ⟨_, rfl, .refl _⟩
       ·refine au h [3,1] ?_; intro h
        exact lf () h
      ·refine au h [3,1,1,1,1] ?_; intro h
       cases h
       exact ⟨_, rfl, .refl _⟩
 ·intro _ h
  try dsimp only at h ⊢
  unfold sandbox_checkOp_j1 at h
  refine au h [1,1,1,1] ?_; intro h
  cases h
  exact ⟨_, rfl, .refl _⟩
theorem sandbox_Validate_spec (n : Nat) (a0 : SInputsOpsOutput) (r : SCodeIndex) (h : sandbox_Validate n a0 = some r) : PSpec Tryz.prog 107 [.agg (SInputsOpsOutput.cells a0)] (.agg (SCodeIndex.cells r)) := by
 unfold sandbox_Validate at h
 refine spec_of Tryz.c_sandbox_Validate (by simp) ?_
 unfold Tryz.l_sandbox_Validate
 refine au h [1,1,5,5,1] ?_; intro h
 refine Ev.seqJ (γ := Bool) (fun v => ⟨[(1, wP 10100), (2, wP 10101), (17, .bool v)], [(10100, eP 53 3 [[lP a0.Inputs, lP a0.Ops, .str a0.Output]]), (10101, eP 31 2 [[iP 0, iP 0]])], 2⟩) (fun v => sandbox_Validate_j1 n a0 v = some r) ?_ ?_
 ·refine au h [1,8,8,5,5,1] ?_; intro h
  refine bs h (fun c19 h => ?_) fun c19 h => ?_
  ·refine aw h [3,3,3,3,2] ?_; intro h
   exact lf true h
  ·refine aw h [2,8,2,8,2,5,2,5,3] ?_; intro h
   exact lf (decide (16 < (a0.Ops.length : Int))) h
 ·intro x1 h
  try dsimp only at h ⊢
  unfold sandbox_Validate_j1 at h
  refine bs h (fun c1 h => ?_) fun c1 h => ?_
  ·refine au h [2,1,1,5,8,1] ?_; intro h
   cases h
   exact ⟨_, rfl, .refl _⟩
  ·refine au h [3,1,1,1,1,8,8,5,1,1] ?_; intro h
   refine Ev.loopW (β := Nat × Int) (fun v => ⟨[(1, wP 10200), (2, wP 10201), (20, lP a0.Inputs), (21, iP (a0.Inputs.length : Int)), (22, iP v.2)], [(10200, eP 53 3 [[lP a0.Inputs, lP a0.Ops, .str a0.Output]]), (10201, eP 31 2 [[iP 0, iP 0]])], 2⟩) (fun v => sandbox_Validate_l1 n a0 v.1 v.2 = some r) (fun v => v.1) (n, 0) (.nA) h ?_
   intro ⟨m1, x2⟩ h
   try dsimp only at h ⊢
   cases m1 with
   | zero => rw [sandbox_Validate_l1] at h; cases h
   | succ m1 =>
    rw [sandbox_Validate_l1] at h
    refine au h [1,1,5,1] ?_; intro h
    refine bs h (fun c2 h => ?_) fun c2 h => ?_
    ·refine au h [2,1,1,1,1,1,1,5,5,1,1,1,1,1,1] ?_; intro e3 k3 h
     refine cb h (treepatch_ValidPath_spec n _) fun r4 k4 h => ?_
     refine aw h [5] ?_; intro h
     refine bs h (fun c5 h => ?_) fun c5 h => ?_
     ·refine au h [2,1,1,1,5,8,1] ?_; intro h
      cases h
      exact ⟨_, rfl, .refl _⟩
     ·refine au h [3,1] ?_; intro h
      refine Ev.seqJ (γ := Bool) (fun v => ⟨[(1, wP 10300), (2, wP 10301), (3, iP x2), (20, lP a0.Inputs), (21, iP (a0.Inputs.length : Int)), (22, iP x2), (43, .bool v)], [(10300, eP 53 3 [[lP a0.Inputs, lP a0.Ops, .str a0.Output]]), (10301, eP 31 2 [[iP 0, iP 0]])], 2⟩) (fun v => sandbox_Validate_j2 n x2 (sandbox_Validate_l1 n a0 m1) v = some r) ?_ ?_
      ·refine au h [1,1,5,1] ?_; intro h
       refine bs h (fun c8 h => ?_) fun c8 h => ?_
       ·refine aw h [2,1,2,8,2,8,2,1,2,7,2,5,2,5,2,6,2] ?_; intro x7 k9 e8 k10 h
        exact lf (Op.bytesLess e3 e8 || e3 == e8) h
       ·refine aw h [3,3,3,3,3,3,3,3,3] ?_; intro h
        exact lf false h
      ·intro x5 h
       try dsimp only at h ⊢
       unfold sandbox_Validate_j2 at h
       refine bs h (fun c6 h => ?_) fun c6 h => ?_
       ·refine au h [2,1,1,1,5,8,1] ?_; intro h
        cases h
        exact ⟨_, rfl, .refl _⟩
       ·refine au h [3,1,1,7,1] ?_; intro x6 k7 h
        exact lb (m1, x6) h
    ·refine au h [3,1,1,1,1,8,8] ?_; intro h
     refine cb h (treepatch_ValidPath_spec n _) fun r9 k11 h => ?_
     refine aw h [5] ?_; intro h
     refine bs h (fun c12 h => ?_) fun c12 h => ?_
     ·refine au h [2,1,1,5,8,1] ?_; intro h
      cases h
      exact ⟨_, rfl, .refl _⟩
     ·refine au h [3,1,1,1,1,8,8,5,1,1] ?_; intro h
      refine Ev.loopW (β := Nat × Int) (fun v => ⟨[(2, wP 10300), (53, lP a0.Ops), (54, iP (a0.Ops.length : Int)), (55, iP v.2)], [(10300, eP 31 2 [[iP 0, iP 0]])], 2⟩) (fun v => sandbox_Validate_l2 n a0 v.1 v.2 = some r) (fun v => v.1) (n, 0) (.nA) h ?_
      intro ⟨m2, x10⟩ h
      try dsimp only at h ⊢
      cases m2 with
      | zero => rw [sandbox_Validate_l2] at h; cases h
      | succ m2 =>
       rw [sandbox_Validate_l2] at h
       refine au h [1,1,5,1] ?_; intro h
       refine bs h (fun c13 h => ?_) fun c13 h => ?_
       ·refine au h [2,1,1,1,1,1,1,5,5,5,1,8,1,1,8] ?_; intro e11 k14 h
        refine cb h (sandbox_checkOp_spec n _) fun r12 k15 h => ?_
        refine ax 70 h [1,1,1,1,5] ?_; intro h
        refine bs h (fun c16 h => ?_) fun c16 h => ?_
        ·refine au h [2,1,1,1,1,7,5,8,1] ?_; intro x13 k17 h
         cases h
         exact ⟨_, rfl, .refl _⟩
        ·refine au h [3,1,1,7,1] ?_; intro x14 k18 h
         exact lb (m2, x14) h
       ·refine au h [3,1,1,1,5,8,1] ?_; intro h
        cases h
        exact ⟨_, rfl, .refl _⟩
theorem release_checkActions_spec (n : Nat) (a0 : List SInputsOpsOutput) (r : SCodeIndex) (h : release_checkActions n a0 = some r) : PSpec Tryz.prog 54 [lP a0] (.agg (SCodeIndex.cells r)) := by
 unfold release_checkActions at h
 refine spec_of Tryz.c_release_checkActions (by simp) ?_
 unfold Tryz.l_release_checkActions
 refine au h [1,1,5,1,1,1,1,5,5] ?_; intro h
 refine bs h (fun c1 h => ?_) fun c1 h => ?_
 ·refine au h [2,1,1,5,8,1] ?_; intro h
  cases h
  exact ⟨_, rfl, .refl _⟩
 ·refine au h [3,1,1,1,1,1,5,1,1] ?_; intro h
  refine Ev.loopW (β := Nat × Int) (fun v => ⟨[(2, wP 10100), (10, lP a0), (11, iP (a0.length : Int)), (12, iP v.2)], [(10100, eP 31 2 [[iP 0, iP 0]])], 2⟩) (fun v => release_checkActions_l1 n a0 v.1 v.2 = some r) (fun v => v.1) (n, 0) (.nA) h ?_
  intro ⟨m1, x1⟩ h
  try dsimp only at h ⊢
  cases m1 with
  | zero => rw [release_checkActions_l1] at h; cases h
  | succ m1 =>
   rw [release_checkActions_l1] at h
   refine au h [1,1,5,1] ?_; intro h
   refine bs h (fun c2 h => ?_) fun c2 h => ?_
   ·refine au h [2,1,1,1,1,1,1,5,5,5,1,8,1,1,8] ?_; intro e2 k3 h
    refine cb h (sandbox_Validate_spec n _) fun r3 k4 h => ?_
    refine ax 28 h [5,8,1,1,8,5,5] ?_; intro h
    refine bs h (fun c5 h => ?_) fun c5 h => ?_
    ·refine au h [2,1,1,8,8,1,5,8,1] ?_; intro h
     cases h
     exact ⟨_, rfl, .refl _⟩
    ·refine au h [3,1,1,7,1] ?_; intro x4 k6 h
     exact lb (m1, x4) h
   ·refine au h [3,1,1,1,5,8,1] ?_; intro h
    cases h
    exact ⟨_, rfl, .refl _⟩
theorem slices_Index_string_spec (n : Nat) (a0 : List (List UInt8)) (a1 : List UInt8) (r : Int) (h : slices_Index_string n a0 a1 = some r) : PSpec Tryz.prog 146 [lP a0, .str a1] (iP r) := by
 unfold slices_Index_string at h
 refine spec_of Tryz.c_slices_Index_string (by simp) ?_
 unfold Tryz.l_slices_Index_string
 refine au h [1,1,1,1,1,1,1,5,1,1] ?_; intro h
 refine Ev.loopW (β := Nat × Int) (fun v => ⟨[(0, lP a0), (1, .str a1), (7, iP (a0.length : Int)), (8, iP v.2)], [], 2⟩) (fun v => slices_Index_string_l1 n a0 a1 v.1 v.2 = some r) (fun v => v.1) (n, 0) (.nA) h ?_
 intro ⟨m1, x1⟩ h
 try dsimp only at h ⊢
 cases m1 with
 | zero => rw [slices_Index_string_l1] at h; cases h
 | succ m1 =>
  rw [slices_Index_string_l1] at h
  refine au h [1,1,5,1] ?_; intro h
  refine bs h (fun c1 h => ?_) fun c1 h => ?_
  ·refine au h [2,1,1,1,1,1,1,1,1,1,1,1,1,5,5,6] ?_; intro e2 k2 h
   refine bs h (fun c3 h => ?_) fun c3 h => ?_
   ·refine au h [2,1,1,1,1,1] ?_; intro h
    cases h
    exact ⟨_, rfl, .refl _⟩
   ·refine au h [3,1,1,7,1] ?_; intro x3 k4 h
    exact lb (m1, x3) h
  ·refine au h [3,1,1,1,1,1] ?_; intro h
   cases h
   exact ⟨_, rfl, .refl _⟩
theorem slices_Contains_string_spec (n : Nat) (a0 : List (List UInt8)) (a1 : List UInt8) (r : Bool) (h : slices_Contains_string n a0 a1 = some r) : PSpec Tryz.prog 109 [lP a0, .str a1] (.bool r) := by
 unfold slices_Contains_string at h
 refine spec_of Tryz.c_slices_Contains_string (by simp) ?_
 unfold Tryz.l_slices_Contains_string
 refine au h [1,1,1,1,1,1,1] ?_; intro h
 refine cb h (slices_Index_string_spec n _ _) fun r1 k1 h => ?_
 refine ax 9 h [5,1,1] ?_; intro h
 cases h
 exact ⟨_, rfl, .refl _⟩
end Go.Proofs.YtlkknmhhefjmjaaGreatDoor
namespace Go.Proofs.YtlkknmhhefjmjaaGreatDoor
open Go.PW Go
set_option maxHeartbeats 4000000 in
theorem release_sources_spec (n : Nat) (a0 : List SInputsOpsOutput) (r : (List (List UInt8))) (h : release_sources n a0 = some r) : PSpec Tryz.prog 56 [lP a0] (lP r) := by
 unfold release_sources at h
 refine spec_of Tryz.c_release_sources (by simp) ?_
 unfold Tryz.l_release_sources
 refine au h [1,1,1,1,1,1,1,1,1,1,1,5,1,1] ?_; intro h
 refine Ev.loopW (β := Nat × (List (List UInt8)) × (List (List UInt8)) × Int) (fun v => ⟨[(3, .own 10100 0), (4, .own 10101 0), (9, lP a0), (10, iP (a0.length : Int)), (11, iP v.2.2.2)], [(10100, eP 9 1 (mP v.2.1)), (10101, eP 9 1 (mP v.2.2.1))], 2⟩) (fun v => release_sources_l1 n a0 v.1 v.2.1 v.2.2.1 v.2.2.2 = some r) (fun v => v.1) (n, ([] : List (List UInt8)), ([] : List (List UInt8)), 0) ((Wk.ownNil 3 30100 9 1 rfl rfl true).trans ((Wk.ownNil 4 30101 9 1 rfl rfl true).trans (.nA))) h ?_
 intro ⟨m1, w1, w2, x3⟩ h
 try dsimp only at h ⊢
 cases m1 with
 | zero => rw [release_sources_l1] at h; cases h
 | succ m1 =>
  rw [release_sources_l1] at h
  refine au h [1,1,5,1] ?_; intro h
  refine bs h (fun c1 h => ?_) fun c1 h => ?_
  ·refine au h [2,1,1,1,1,1,5,5,5,8,1,1,1,8,8,5,1,1] ?_; intro e4 k2 h
   refine Ev.loopW (β := Nat × (List (List UInt8)) × Int) (fun v => ⟨[(3, .own 10200 0), (4, .own 10201 0), (6, wP 10202), (9, lP a0), (10, iP (a0.length : Int)), (11, iP x3), (16, lP e4.Inputs), (17, iP (e4.Inputs.length : Int)), (18, iP v.2.2)], [(10200, eP 9 1 (mP v.2.1)), (10201, eP 9 1 (mP w2)), (10202, eP 53 3 [[lP e4.Inputs, lP e4.Ops, .str e4.Output]])], 2⟩) (fun v => release_sources_l2 n w2 x3 (release_sources_l1 n a0 m1) e4 v.1 v.2.1 v.2.2 = some r) (fun v => v.1) (n, w1, 0) (.nA) h ?_
   intro ⟨m2, w5, x6⟩ h
   try dsimp only at h ⊢
   cases m2 with
   | zero => rw [release_sources_l2] at h; cases h
   | succ m2 =>
    rw [release_sources_l2] at h
    refine au h [1,1,5,1] ?_; intro h
    refine bs h (fun c3 h => ?_) fun c3 h => ?_
    ·refine au h [2,1] ?_; intro h
     refine Ev.seqJ (γ := List (List UInt8)) (fun v => ⟨[(3, .own 10300 0), (4, .own 10301 0), (6, wP 10302), (9, lP a0), (10, iP (a0.length : Int)), (11, iP x3), (16, lP e4.Inputs), (17, iP (e4.Inputs.length : Int)), (18, iP x6)], [(10300, eP 9 1 (mP v)), (10301, eP 9 1 (mP w2)), (10302, eP 53 3 [[lP e4.Inputs, lP e4.Ops, .str e4.Output]])], 2⟩) (fun v => release_sources_j1 n x6 (release_sources_l2 n w2 x3 (release_sources_l1 n a0 m1) e4 m2) v = some r) ?_ ?_
     ·refine au h [1,1,1,5,5,1,1,1,1,1] ?_; intro e9 k5 h
      refine cb h (slices_Contains_string_spec n _ _) fun r10 k6 h => ?_
      refine aw h [5] ?_; intro h
      refine bs h (fun c7 h => ?_) fun c7 h => ?_
      ·refine au h [2,1,1,1,5,7,1] ?_; intro w11 k8 h
       exact lf w11 h
      ·refine au h [3,1] ?_; intro h
       exact lf w5 h
     ·intro w7 h
      try dsimp only at h ⊢
      unfold release_sources_j1 at h
      refine au h [1,7,1] ?_; intro x8 k4 h
      exact lb (m2, w7, x8) h
    ·refine au h [3,1,1,1,8,8,5,7,1,1,7,1] ?_; intro w12 k9 x13 k10 h
     exact lb (m1, w5, w12, x13) h
  ·refine au h [3,1,1,1,1] ?_; intro h
   refine W.rowCall (k_SortS w1) rfl rfl (by simp [sortedS]) rfl ?_
   refine ax 41 h [1] ?_; intro h
   refine Ev.regS rfl ?_
   refine Sq.w 1 nb ?_
   refine aw h [1] ?_; intro h
   refine Sq.call rfl Tryz.c_slices_Compact_string ⟨_, rfl, nb, ?_⟩
   unfold Tryz.l_slices_Compact_string
   refine Ev.retJ (γ := List (List UInt8)) (fun v => ⟨[(2, lP v)], [], 2⟩) (fun v => release_sources_j2 n v = some r) ?_ ?_
   ·refine au h [1,1,1,1,1,1,1,7,5] ?_; intro h
    refine bs h (fun c11 h => ?_) fun c11 h => ?_
    ·refine au h [2,1,1,1,1] ?_; intro h
     refine Ev.weak ?_ (Wk.frz 10100 0 rfl rfl)
     refine Ev.ret ?_
     exact lf (sortedS w1) h
    ·refine au h [3,1,1,1,1,1,1] ?_; intro h
     refine Ev.loopW (β := Nat × Int) (fun v => ⟨[(0, .own 10300 0), (3, iP v.2)], [(10300, eP 9 1 (mP (sortedS w1)))], 2⟩) (fun v => release_sources_l3 n w1 v.1 v.2 = some r) (fun v => v.1) (n, 1) (.nA) h ?_
     intro ⟨m3, x15⟩ h
     try dsimp only at h ⊢
     cases m3 with
     | zero => rw [release_sources_l3] at h; cases h
     | succ m3 =>
      rw [release_sources_l3] at h
      refine au h [1,1,1,1,1,7,5] ?_; intro h
      refine bs h (fun c12 h => ?_) fun c12 h => ?_
      ·refine au h [2,1,1,1,1,1,1,1,7,7,1,1,7,7,7,6] ?_; intro e16 k13 x17 k14 e18 k15 h
       refine bs h (fun c16 h => ?_) fun c16 h => ?_
       ·refine au h [2,1,1,1,1,9,1,1,1,1,1,1] ?_; intro s19 k17 h
        refine Ev.loopW (β := Nat × (List (List UInt8)) × Int × Int) (fun v => ⟨[(0, .own 10400 0), (3, iP v.2.2.1), (4, .sub 10400 0 x15.toNat ((sortedS w1).length : Int).toNat), (5, iP v.2.2.2)], [(10400, eP 9 1 (mP v.2.1))], 2⟩) (fun v => release_sources_l4 n w1 x15 v.1 v.2.1 v.2.2.1 v.2.2.2 = some r) (fun v => v.1) (n, (sortedS w1), x15, 1) (.nA) h ?_
        intro ⟨m4, w20, x21, x22⟩ h
        try dsimp only at h ⊢
        cases m4 with
        | zero => rw [release_sources_l4] at h; cases h
        | succ m4 =>
         rw [release_sources_l4] at h
         refine au h [1,1] ?_; intro h
         obtain ⟨s23, k18, h⟩ := obind h
         refine au h [1,1,1] ?_; intro h
         refine W.lenS (t := s23) (c := cS) rfl rfl ((map_cut _ _ _ _).trans (congrArg _ (gcut_some k18).2.2.2.2)) ?_
         refine aw h [5] ?_; intro h
         refine bs h (fun c19 h => ?_) fun c19 h => ?_
         ·refine au h [2,1] ?_; intro h
          refine Ev.seqJ (γ := (List (List UInt8)) × Int) (fun v => ⟨[(0, .own 10500 0), (3, iP v.2), (4, .sub 10500 0 x15.toNat ((sortedS w1).length : Int).toNat), (5, iP x22)], [(10500, eP 9 1 (mP v.1))], 2⟩) (fun v => release_sources_j3 n x22 (release_sources_l4 n w1 x15 m4) v.1 v.2 = some r) ?_ ?_
          ·refine au h [1,1,1,1,1] ?_; intro h
           obtain ⟨e27, k21, h⟩ := obind h
           refine W.idxSR rfl rfl rfl rfl k18 k21 ?_
           obtain ⟨e28, k22, h⟩ := obind h
           refine W.loadR (l := w20) (c := cS) (v := e28) (p := .str e28) rfl rfl rfl (gidx_some k22).2 rfl ?_
           refine aw h [1,1,7] ?_; intro x29 k23 h
           obtain ⟨e30, k24, h⟩ := obind h
           refine W.idxSR rfl rfl rfl rfl k18 k24 ?_
           obtain ⟨e31, k25, h⟩ := obind h
           refine W.loadR (l := w20) (c := cS) (v := e31) (p := .str e31) rfl rfl rfl (gidx_some k25).2 rfl ?_
           refine aw h [6] ?_; intro h
           refine bs h (fun c26 h => ?_) fun c26 h => ?_
           ·refine au h [2,1,1,1,1,1,1] ?_; intro h
            refine W.idxSR rfl rfl rfl rfl k18 k21 ?_
            refine ax 61 h [7,7,7,1,1,7,1] ?_; intro e32 k27 x33 k28 h
            exact lf ((gset w20 x21 e28), x33) h
           ·refine au h [3,1] ?_; intro h
            exact lf (w20, x21) h
          ·intro ⟨w24, x25⟩ h
           try dsimp only at h ⊢
           unfold release_sources_j3 at h
           refine au h [1,1,7,1] ?_; intro x26 k20 h
           exact lb (m4, w24, x25, x26) h
         ·refine au h [3,1,1,1,1,1,9] ?_; intro s34 k29 h
          refine W.clearS (l := w20) (c := cS) ([] : List UInt8) rfl rfl rfl rfl k29 rfl rfl ?_
          refine ax 61 h [1,1,1,1,10,1] ?_; intro s35 k30 h
          refine Ev.weak ?_ (Wk.frz 10400 0 rfl rfl)
          refine Ev.weak ?_ (Wk.le (t := 2) rfl (Le.cut k30))
          refine Ev.weak ?_ (Wk.le (t := 59) rfl (Le.cut k30))
          refine Ev.ret ?_
          exact lf s35 h
       ·refine au h [3,1,1,1,7,1] ?_; intro x36 k31 h
        exact lb (m3, x36) h
      ·refine au h [3,1,1,1,1,1] ?_; intro h
       refine Ev.weak ?_ (Wk.frz 10300 0 rfl rfl)
       refine Ev.ret ?_
       exact lf (sortedS w1) h
   ·intro x14 h
    try dsimp only at h ⊢
    unfold release_sources_j2 at h
    refine ⟨_, rfl, ?_⟩
    refine Sq.wEnd nb ?_
    refine ax 41 h [1,1] ?_; intro h
    cases h
    exact ⟨_, rfl, .refl _⟩
theorem sandbox_Arguments_spec (n : Nat) (a0 : SInputsOpsOutput) (a1 : SFiles) (r : SCodeIndex) (h : sandbox_Arguments n a0 a1 = some r) : PSpec Tryz.prog 63 [.agg (SInputsOpsOutput.cells a0), .agg (SFiles.cells a1)] (.agg (SCodeIndex.cells r)) := by
 unfold sandbox_Arguments at h
 refine spec_of Tryz.c_sandbox_Arguments (by simp) ?_
 unfold Tryz.l_sandbox_Arguments
 refine au h [1,1,5,5,5,1,1,1,8] ?_; intro h
 refine cb h (sandbox_Validate_spec n _) fun r1 k1 h => ?_
 refine ax 14 h [5,8,1,1,8,5,5] ?_; intro h
 refine bs h (fun c2 h => ?_) fun c2 h => ?_
 ·refine au h [2,1,1,8,8,1] ?_; intro h
  cases h
  exact ⟨_, rfl, .refl _⟩
 ·refine au h [3,1,1,1,8] ?_; intro h
  refine cb h (treepatch_Second_spec n _ _) fun r2 k3 h => ?_
  refine ax 14 h [8,1] ?_; intro h
  cases h
  exact ⟨_, rfl, .refl _⟩
theorem sandbox_unique_spec (n : Nat) (a0 : List (List UInt8)) (r : (List (List UInt8))) (h : sandbox_unique n a0 = some r) : PMut Tryz.prog 128 [lP a0] [] (.own 70000 0) [(70000, ⟨0, 9, 1, List.map cS r, true, false, false⟩)] := by
 unfold sandbox_unique at h
 refine specMut_of Tryz.c_sandbox_unique (by simp) (by simp) ?_
 unfold Tryz.l_sandbox_unique
 refine au h [1,1,1,1,1,1,1,1,1,1,5,1,1] ?_; intro h
 refine Ev.loopW (β := Nat × (List (List UInt8)) × Int) (fun v => ⟨[(3, .own 10100 0), (6, lP a0), (7, iP (a0.length : Int)), (8, iP v.2.2)], [(10100, eP 9 1 (mP v.2.1))], 2⟩) (fun v => sandbox_unique_l1 n a0 v.1 v.2.1 v.2.2 = some r) (fun v => v.1) (n, ([] : List (List UInt8)), 0) ((Wk.ownNil 3 30100 9 1 rfl rfl true).trans (.nA)) h ?_
 intro ⟨m1, w1, x2⟩ h
 try dsimp only at h ⊢
 cases m1 with
 | zero => rw [sandbox_unique_l1] at h; cases h
 | succ m1 =>
  rw [sandbox_unique_l1] at h
  refine au h [1,1,5,1] ?_; intro h
  refine bs h (fun c1 h => ?_) fun c1 h => ?_
  ·refine au h [2,1] ?_; intro h
   refine Ev.seqJ (γ := List (List UInt8)) (fun v => ⟨[(3, .own 10200 0), (6, lP a0), (7, iP (a0.length : Int)), (8, iP x2)], [(10200, eP 9 1 (mP v))], 2⟩) (fun v => sandbox_unique_j1 n x2 (sandbox_unique_l1 n a0 m1) v = some r) ?_ ?_
   ·refine au h [1,1,1,5,5,1,1,1,1,1] ?_; intro e5 k3 h
    refine cb h (slices_Contains_string_spec n _ _) fun r6 k4 h => ?_
    refine aw h [5] ?_; intro h
    refine bs h (fun c5 h => ?_) fun c5 h => ?_
    ·refine au h [2,1,1,1,5,7,1] ?_; intro w7 k6 h
     exact lf w7 h
    ·refine au h [3,1] ?_; intro h
     exact lf w1 h
   ·intro w3 h
    try dsimp only at h ⊢
    unfold sandbox_unique_j1 at h
    refine au h [1,7,1] ?_; intro x4 k2 h
    exact lb (m1, w3, x4) h
  ·refine au h [3,1,1,1,1,1] ?_; intro h
   refine Ev.ret ?_
   injection h with h; subst h
   exact ⟨_, _, Wk.nrmTo [2] [(10100, 70000)] rfl rfl, rfl, rfl, rfl, .refl _, fun nm h => by simp [PW.look] at h⟩
set_option maxHeartbeats 4000000 in
theorem sandbox_Run_spec (n : Nat) (a0 : SInputsOpsOutput) (a1 : SFiles) (r : ((List (List UInt8)) × SCodeIndex)) (h : sandbox_Run n a0 a1 = some r) : PMut Tryz.prog 25 [.agg (SInputsOpsOutput.cells a0), .agg (SFiles.cells a1)] [] (.tup [.own 70000 0, .agg (SCodeIndex.cells r.2)]) [(70000, ⟨0, 9, 1, List.map cS r.1, true, false, false⟩)] := by
 unfold sandbox_Run at h
 refine specMut_of Tryz.c_sandbox_Run (by simp) (by simp) ?_
 unfold Tryz.l_sandbox_Run
 refine au h [1,1,5,5,1,5,1,1,1,8,8] ?_; intro h
 refine cb h (sandbox_Arguments_spec n _ _) fun r1 k1 h => ?_
 refine ax 45 h [5,8,1,1,8,5,5] ?_; intro h
 refine bs h (fun c2 h => ?_) fun c2 h => ?_
 ·refine au h [2,1,1,8,1,8] ?_; intro h
  refine Ev.weak ?_ (Wk.ownNil 4 69999 9 1 rfl rfl)
  refine Ev.weak ?_ (Wk.frz 5 2 rfl rfl)
  refine Ev.ret ?_
  injection h with h; subst h
  exact ⟨_, [.own 70000 0, .agg [iP r1.Code, iP r1.Index]], Wk.nrmTo [4, 5] [(69999, 70000)] rfl rfl, rfl, rfl, rfl, .refl _, fun nm h => by simp [PW.look] at h⟩
 ·refine au h [3,1,1,1,1,1,1,1,8,8,5,1,1] ?_; intro h
  refine Ev.loopW (β := Nat × (List (List UInt8)) × Int) (fun v => ⟨[(2, wP 10100), (3, wP 10101), (5, wP 10102), (7, .own 10103 0), (20, lP a0.Ops), (21, iP (a0.Ops.length : Int)), (22, iP v.2.2)], [(10100, eP 53 3 [[lP a0.Inputs, lP a0.Ops, .str a0.Output]]), (10101, eP 25 1 [[lP a1.Files]]), (10102, eP 31 2 [[iP 0, iP 0]]), (10103, eP 9 1 (mP v.2.1))], 2⟩) (fun v => sandbox_Run_l1 n a0 a1 v.1 v.2.1 v.2.2 = some r) (fun v => v.1) (n, ([] : List (List UInt8)), 0) ((Wk.ownNil 7 30103 9 1 rfl rfl true).trans (.nA)) h ?_
  intro ⟨m1, w2, x3⟩ h
  try dsimp only at h ⊢
  cases m1 with
  | zero => rw [sandbox_Run_l1] at h; cases h
  | succ m1 =>
   rw [sandbox_Run_l1] at h
   refine au h [1,1,5,1] ?_; intro h
   refine bs h (fun c3 h => ?_) fun c3 h => ?_
   ·refine au h [2,1,1,1,1,1,1,5,5,5,1,8,1] ?_; intro e4 k4 h
    refine Ev.regS rfl ?_
    refine Sq.w 4 nb ?_
    refine aw h [8,8,8,1] ?_; intro h
    refine Sq.weak (st' := ⟨[(2, wP 10100), (3, wP 10101), (5, wP 10102), (8, iP x3), (20, lP a0.Ops), (21, iP (a0.Ops.length : Int)), (22, iP x3), (28, .agg [lP a0.Inputs, lP a0.Ops, .str a0.Output]), (29, .agg [iP e4.Kind, .str e4.Text]), (30, .agg [lP a1.Files]), (31, .own 10103 0)], [(10100, eP 53 3 [[lP a0.Inputs, lP a0.Ops, .str a0.Output]]), (10101, eP 25 1 [[lP a1.Files]]), (10102, eP 31 2 [[iP 0, iP 0]]), (10103, eP 9 1 (mP w2))], 2⟩) ?_ (.nA)
    refine Sq.call rfl Tryz.c_sandbox_step ⟨_, rfl, nb, ?_⟩
    unfold Tryz.l_sandbox_step
    refine Ev.retJ (γ := (List (List UInt8)) × Int) (fun v => ⟨[(8, .own 10200 0), (9, iP v.2), (65538, wP 10201), (65539, wP 10202), (65541, wP 10203), (65544, iP x3), (65556, lP a0.Ops), (65557, iP (a0.Ops.length : Int)), (65558, iP x3)], [(10200, eP 9 1 (mP v.1)), (10201, eP 53 3 [[lP a0.Inputs, lP a0.Ops, .str a0.Output]]), (10202, eP 25 1 [[lP a1.Files]]), (10203, eP 31 2 [[iP 0, iP 0]])], 2⟩) (fun v => sandbox_Run_j1 n x3 (sandbox_Run_l1 n a0 a1 m1) v.1 v.2 = some r) ?_ ?_
    ·refine au h [1,1,5,5,5,5,1,1,1,1,8,8,8,8] ?_; intro h
     refine cb h (treepatch_Find_spec n _ _) fun r9 k8 h => ?_
     refine ax 83 h [1,5,5,1,1,1,1] ?_; intro h
     refine W.mkfn rfl ?_
     refine ax 83 h [1,1] ?_; intro h
     refine Ev.seqJ (γ := Bool) (fun v => ⟨[(5, wP 10300), (6, wP 10301), (7, wP 10302), (10, iP r9.1), (11, .bool r9.2), (12, .fn 126 [] [wP 10302]), (37, .bool v), (65538, wP 10304), (65539, wP 10305), (65541, wP 10306), (65544, iP x3), (65556, lP a0.Ops), (65557, iP (a0.Ops.length : Int)), (65558, iP x3)], [(10300, eP 109 2 [[iP e4.Kind, .str e4.Text]]), (10301, eP 25 1 [[lP a1.Files]]), (10302, ⟨0, 34, 1, [[.own 10303 0]], false, false, false⟩), (10303, eP 9 1 (mP w2)), (10304, eP 53 3 [[lP a0.Inputs, lP a0.Ops, .str a0.Output]]), (10305, eP 25 1 [[lP a1.Files]]), (10306, eP 31 2 [[iP 0, iP 0]])], 2⟩) (fun v => sandbox_Run_j2 n a1 w2 x3 (sandbox_Run_l1 n a0 a1 m1) e4 r9 v = some r) ?_ ?_
     ·refine au h [1,8,8,5,1] ?_; intro h
      refine bs h (fun c37 h => ?_) fun c37 h => ?_
      ·refine aw h [3,3,3,2,1,2,8,2,8,2,8,2,8,2] ?_; intro h
       refine cb h (slices_Contains_string_spec n _ _) fun r39 k38 h => ?_
       refine aw h [2,5,2] ?_; intro h
       exact lf (!r39) h
      ·refine aw h [2,8,2,8,2,5,3,1] ?_; intro h
       refine bs h (fun c39 h => ?_) fun c39 h => ?_
       ·refine aw h [2,8,2,8,2,8,2,8,2] ?_; intro h
        refine cb h (slices_Contains_string_spec n _ _) fun r40 k40 h => ?_
        refine aw h [2,5,2] ?_; intro h
        exact lf (!r40) h
       ·refine aw h [3,3,3,3,3,3,3] ?_; intro h
        exact lf false h
     ·intro x10 h
      try dsimp only at h ⊢
      unfold sandbox_Run_j2 at h
      refine bs h (fun c9 h => ?_) fun c9 h => ?_
      ·refine au h [2,1,1,1,1,1] ?_; intro h
       exact ⟨(([] : List (List UInt8)), 13), h, (Wk.ownNil 8 30200 9 1 rfl rfl true).trans (.nA)⟩
      ·refine au h [3,1,1,1,1,8,8,1,1,1,5,1] ?_; intro h
       refine bs h (fun c10 h => ?_) fun c10 h => ?_
       ·refine au h [2,1,1,1,1,5] ?_; intro h
        refine bs h (fun c11 h => ?_) fun c11 h => ?_
        ·refine au h [2,1,1,1,1,1] ?_; intro h
         exact ⟨(([] : List (List UInt8)), 6), h, (Wk.ownNil 8 30200 9 1 rfl rfl true).trans (.nA)⟩
        ·refine au h [3,1,1] ?_; intro h
         refine Ev.regS rfl ?_
         refine Sq.w 7 nb ?_
         refine aw h [1,8,8,1,5,5,5] ?_; intro e11 k12 h
         refine Sq.callv (f := 126) rfl Tryz.b_sandbox_step_1 Tryz.c_sandbox_step_1 ⟨_, _, _, rfl, nb, ?_⟩
         unfold Tryz.l_sandbox_step_1
         refine Ev.retJ (γ := (List (List UInt8)) × Int) (fun v => ⟨[(3, .own 10400 0), (4, iP v.2), (131074, wP 10401), (131075, wP 10402), (131077, wP 10403), (131080, iP x3), (131092, lP a0.Ops), (131093, iP (a0.Ops.length : Int)), (131094, iP x3)], [(10400, eP 9 1 (mP v.1)), (10401, eP 53 3 [[lP a0.Inputs, lP a0.Ops, .str a0.Output]]), (10402, eP 25 1 [[lP a1.Files]]), (10403, eP 31 2 [[iP 0, iP 0]])], 2⟩) (fun v => sandbox_Run_j3 n x3 (sandbox_Run_l1 n a0 a1 m1) v.1 v.2 = some r) ?_ ?_
         ·refine au h [1,1,1,1,1,1,1,8,7,1,5,7,5] ?_; intro x14 k13 h
          refine bs h (fun c14 h => ?_) fun c14 h => ?_
          ·refine au h [2,1,1,1,1,1] ?_; intro h
           exact ⟨(([] : List (List UInt8)), 10), h, (Wk.ownNil 3 30400 9 1 rfl rfl true).trans (.nA)⟩
          ·refine au h [3,1,1,1,8,1,7,1,1,1] ?_; intro w15 k15 h
           exact lf (w15, 0) h
         ·intro ⟨w12, x13⟩ h
          try dsimp only at h ⊢
          unfold sandbox_Run_j3 at h
          refine ⟨_, rfl, ?_⟩
          refine Sq.wEnd nb ?_
          refine ax 83 h [5,5,1,1,1] ?_; intro h
          exact lf (w12, x13) h
       ·refine au h [3,1,1,5,1] ?_; intro h
        refine bs h (fun c16 h => ?_) fun c16 h => ?_
        ·refine au h [2,1,1,1,1] ?_; intro h
         refine bs h (fun c17 h => ?_) fun c17 h => ?_
         ·refine au h [2,1] ?_; intro h
          refine Ev.regS rfl ?_
          refine Sq.w 2 nb ?_
          refine aw h [1,5] ?_; intro h
          refine Sq.weak (st' := ⟨[(57, .fn 126 [] [wP 10300]), (58, .own 10302 0), (65538, wP 10303), (65539, wP 10304), (65541, wP 10305), (65544, iP x3), (65556, lP a0.Ops), (65557, iP (a0.Ops.length : Int)), (65558, iP x3)], [(10300, ⟨0, 34, 1, [[.own 10301 0]], false, false, false⟩), (10301, eP 9 1 (mP w2)), (10302, eP 9 1 (mP ([([121, 101, 115] : List UInt8)] : List (List UInt8)))), (10303, eP 53 3 [[lP a0.Inputs, lP a0.Ops, .str a0.Output]]), (10304, eP 25 1 [[lP a1.Files]]), (10305, eP 31 2 [[iP 0, iP 0]])], 2⟩) ?_ (.nA)
          refine Sq.callv (f := 126) rfl Tryz.b_sandbox_step_1 Tryz.c_sandbox_step_1 ⟨_, _, _, rfl, nb, ?_⟩
          unfold Tryz.l_sandbox_step_1
          refine Ev.retJ (γ := (List (List UInt8)) × Int) (fun v => ⟨[(3, .own 10400 0), (4, iP v.2), (131074, wP 10401), (131075, wP 10402), (131077, wP 10403), (131080, iP x3), (131092, lP a0.Ops), (131093, iP (a0.Ops.length : Int)), (131094, iP x3)], [(10400, eP 9 1 (mP v.1)), (10401, eP 53 3 [[lP a0.Inputs, lP a0.Ops, .str a0.Output]]), (10402, eP 25 1 [[lP a1.Files]]), (10403, eP 31 2 [[iP 0, iP 0]])], 2⟩) (fun v => sandbox_Run_j4 n x3 (sandbox_Run_l1 n a0 a1 m1) v.1 v.2 = some r) ?_ ?_
          ·refine au h [1,1,1,1,1,1,1,8,7,1,7,7,5] ?_; intro x18 k18 h
           refine bs h (fun c19 h => ?_) fun c19 h => ?_
           ·refine au h [2,1,1,1,1,1] ?_; intro h
            exact ⟨(([] : List (List UInt8)), 10), h, (Wk.ownNil 3 30400 9 1 rfl rfl true).trans (.nA)⟩
           ·refine au h [3,1,1,1,8,1,7,1,1,1] ?_; intro w19 k20 h
            exact lf (w19, 0) h
          ·intro ⟨w16, x17⟩ h
           try dsimp only at h ⊢
           unfold sandbox_Run_j4 at h
           refine ⟨_, rfl, ?_⟩
           refine Sq.wEnd nb ?_
           refine ax 83 h [5,5,1,1,1] ?_; intro h
           exact lf (w16, x17) h
         ·refine au h [3,1,1] ?_; intro h
          refine Ev.regS rfl ?_
          refine Sq.w 2 nb ?_
          refine aw h [1,5] ?_; intro h
          refine Sq.weak (st' := ⟨[(62, .fn 126 [] [wP 10300]), (63, .own 10302 0), (65538, wP 10303), (65539, wP 10304), (65541, wP 10305), (65544, iP x3), (65556, lP a0.Ops), (65557, iP (a0.Ops.length : Int)), (65558, iP x3)], [(10300, ⟨0, 34, 1, [[.own 10301 0]], false, false, false⟩), (10301, eP 9 1 (mP w2)), (10302, eP 9 1 (mP ([([110, 111] : List UInt8)] : List (List UInt8)))), (10303, eP 53 3 [[lP a0.Inputs, lP a0.Ops, .str a0.Output]]), (10304, eP 25 1 [[lP a1.Files]]), (10305, eP 31 2 [[iP 0, iP 0]])], 2⟩) ?_ (.nA)
          refine Sq.callv (f := 126) rfl Tryz.b_sandbox_step_1 Tryz.c_sandbox_step_1 ⟨_, _, _, rfl, nb, ?_⟩
          unfold Tryz.l_sandbox_step_1
          refine Ev.retJ (γ := (List (List UInt8)) × Int) (fun v => ⟨[(3, .own 10400 0), (4, iP v.2), (131074, wP 10401), (131075, wP 10402), (131077, wP 10403), (131080, iP x3), (131092, lP a0.Ops), (131093, iP (a0.Ops.length : Int)), (131094, iP x3)], [(10400, eP 9 1 (mP v.1)), (10401, eP 53 3 [[lP a0.Inputs, lP a0.Ops, .str a0.Output]]), (10402, eP 25 1 [[lP a1.Files]]), (10403, eP 31 2 [[iP 0, iP 0]])], 2⟩) (fun v => sandbox_Run_j5 n x3 (sandbox_Run_l1 n a0 a1 m1) v.1 v.2 = some r) ?_ ?_
          ·refine au h [1,1,1,1,1,1,1,8,7,1,7,7,5] ?_; intro x22 k21 h
           refine bs h (fun c22 h => ?_) fun c22 h => ?_
           ·refine au h [2,1,1,1,1,1] ?_; intro h
            exact ⟨(([] : List (List UInt8)), 10), h, (Wk.ownNil 3 30400 9 1 rfl rfl true).trans (.nA)⟩
           ·refine au h [3,1,1,1,8,1,7,1,1,1] ?_; intro w23 k23 h
            exact lf (w23, 0) h
          ·intro ⟨w20, x21⟩ h
           try dsimp only at h ⊢
           unfold sandbox_Run_j5 at h
           refine ⟨_, rfl, ?_⟩
           refine Sq.wEnd nb ?_
           refine ax 83 h [5,5,1,1,1] ?_; intro h
           exact lf (w20, x21) h
        ·refine au h [3,1,1,5,1] ?_; intro h
         refine bs h (fun c24 h => ?_) fun c24 h => ?_
         ·refine au h [2,1] ?_; intro h
          refine Ev.regS rfl ?_
          refine Sq.w 4 nb ?_
          refine aw h [1,8,8,5] ?_; intro h
          refine Sq.weak (st' := ⟨[(69, .fn 126 [] [wP 10300]), (72, .own 10302 0), (65538, wP 10303), (65539, wP 10304), (65541, wP 10305), (65544, iP x3), (65556, lP a0.Ops), (65557, iP (a0.Ops.length : Int)), (65558, iP x3)], [(10300, ⟨0, 34, 1, [[.own 10301 0]], false, false, false⟩), (10301, eP 9 1 (mP w2)), (10302, eP 9 1 (mP ([e4.Text] : List (List UInt8)))), (10303, eP 53 3 [[lP a0.Inputs, lP a0.Ops, .str a0.Output]]), (10304, eP 25 1 [[lP a1.Files]]), (10305, eP 31 2 [[iP 0, iP 0]])], 2⟩) ?_ (.nA)
          refine Sq.callv (f := 126) rfl Tryz.b_sandbox_step_1 Tryz.c_sandbox_step_1 ⟨_, _, _, rfl, nb, ?_⟩
          unfold Tryz.l_sandbox_step_1
          refine Ev.retJ (γ := (List (List UInt8)) × Int) (fun v => ⟨[(3, .own 10400 0), (4, iP v.2), (131074, wP 10401), (131075, wP 10402), (131077, wP 10403), (131080, iP x3), (131092, lP a0.Ops), (131093, iP (a0.Ops.length : Int)), (131094, iP x3)], [(10400, eP 9 1 (mP v.1)), (10401, eP 53 3 [[lP a0.Inputs, lP a0.Ops, .str a0.Output]]), (10402, eP 25 1 [[lP a1.Files]]), (10403, eP 31 2 [[iP 0, iP 0]])], 2⟩) (fun v => sandbox_Run_j6 n x3 (sandbox_Run_l1 n a0 a1 m1) v.1 v.2 = some r) ?_ ?_
          ·refine au h [1,1,1,1,1,1,1,8,7,1,7,7,5] ?_; intro x26 k25 h
           refine bs h (fun c26 h => ?_) fun c26 h => ?_
           ·refine au h [2,1,1,1,1,1] ?_; intro h
            exact ⟨(([] : List (List UInt8)), 10), h, (Wk.ownNil 3 30400 9 1 rfl rfl true).trans (.nA)⟩
           ·refine au h [3,1,1,1,8,1,7,1,1,1] ?_; intro w27 k27 h
            exact lf (w27, 0) h
          ·intro ⟨w24, x25⟩ h
           try dsimp only at h ⊢
           unfold sandbox_Run_j6 at h
           refine ⟨_, rfl, ?_⟩
           refine Sq.wEnd nb ?_
           refine ax 83 h [5,5,1,1,1] ?_; intro h
           exact lf (w24, x25) h
         ·refine au h [3,1,1,5,1] ?_; intro h
          refine bs h (fun c28 h => ?_) fun c28 h => ?_
          ·refine au h [2,1] ?_; intro h
           refine Ev.regS rfl ?_
           refine Sq.w 1 nb ?_
           refine aw h [8] ?_; intro h
           refine Sq.call rfl Tryz.c_slices_Reverse_string ⟨_, rfl, nb, ?_⟩
           unfold Tryz.l_slices_Reverse_string
           refine Ev.retJ (γ := List (List UInt8)) (fun v => ⟨[(65543, wP 10400), (131074, wP 10402), (131075, wP 10403), (131077, wP 10404), (131080, iP x3), (131092, lP a0.Ops), (131093, iP (a0.Ops.length : Int)), (131094, iP x3)], [(10400, ⟨0, 34, 1, [[.own 10401 0]], false, false, false⟩), (10401, eP 9 1 (mP v)), (10402, eP 53 3 [[lP a0.Inputs, lP a0.Ops, .str a0.Output]]), (10403, eP 25 1 [[lP a1.Files]]), (10404, eP 31 2 [[iP 0, iP 0]])], 2⟩) (fun v => sandbox_Run_j7 n x3 (sandbox_Run_l1 n a0 a1 m1) v = some r) ?_ ?_
           ·refine au h [1,1,1,7,7,1,1,1] ?_; intro x29 k29 h
            refine Ev.loopW (β := Nat × (List (List UInt8)) × Int × Int) (fun v => ⟨[(0, .own 10500 0), (2, iP v.2.2.1), (3, iP v.2.2.2), (65543, wP 10501), (131074, wP 10502), (131075, wP 10503), (131077, wP 10504), (131080, iP x3), (131092, lP a0.Ops), (131093, iP (a0.Ops.length : Int)), (131094, iP x3)], [(10500, eP 9 1 (mP v.2.1)), (10501, ⟨0, 34, 1, [[.own 10500 0]], false, false, false⟩), (10502, eP 53 3 [[lP a0.Inputs, lP a0.Ops, .str a0.Output]]), (10503, eP 25 1 [[lP a1.Files]]), (10504, eP 31 2 [[iP 0, iP 0]])], 2⟩) (fun v => sandbox_Run_l2 n x3 (sandbox_Run_l1 n a0 a1 m1) v.1 v.2.1 v.2.2.1 v.2.2.2 = some r) (fun v => v.1) (n, w2, 0, x29) (.nA) h ?_
            intro ⟨m2, w30, x31, x32⟩ h
            try dsimp only at h ⊢
            cases m2 with
            | zero => rw [sandbox_Run_l2] at h; cases h
            | succ m2 =>
             rw [sandbox_Run_l2] at h
             refine au h [1,1,1,1,1,5] ?_; intro h
             refine bs h (fun c30 h => ?_) fun c30 h => ?_
             ·refine au h [2,1,1,1,1,1,1,1,1,1,1,7,7,1,1,7,7,8,7,7,7,1,1,7,1,7,1,1] ?_; intro e33 k31 e34 k32 e35 k33 x36 k34 x37 k35 h
              exact lb (m2, (gset (gset w30 x31 e33) x32 e34), x36, x37) h
             ·refine au h [3,1] ?_; intro h
              exact lf w30 h
           ·intro w28 h
            try dsimp only at h ⊢
            unfold sandbox_Run_j7 at h
            refine ⟨_, rfl, ?_⟩
            refine Sq.wEnd nb ?_
            refine ax 83 h [1,1,8,1,1,1] ?_; intro h
            exact lf (w28, 0) h
          ·refine au h [3,1,1] ?_; intro h
           refine Ev.weak ?_ (Wk.frz 10303 0 rfl rfl)
           refine au h [1,8] ?_; intro h
           obtain ⟨r38, k36, h⟩ := obind h
           refine W.callO (sandbox_unique_spec n w2 r38 k36) rfl (Les.refl _) rfl rfl rfl ?_
           refine ax 83 h [1,1,1] ?_; intro h
           exact lf (r38, 0) h
    ·intro ⟨w5, x6⟩ h
     try dsimp only at h ⊢
     unfold sandbox_Run_j1 at h
     refine ⟨_, rfl, ?_⟩
     refine Sq.wEnd nb ?_
     refine ax 45 h [1,5,5,1,1,1,1,1,1,5] ?_; intro h
     refine bs h (fun c5 h => ?_) fun c5 h => ?_
     ·refine au h [2,1,1,1,1,7,5,1,8] ?_; intro x7 k6 h
      refine Ev.weak ?_ (Wk.ownNil 4 69999 9 1 rfl rfl)
      refine Ev.weak ?_ (Wk.frz 10203 0 rfl rfl)
      refine Ev.ret ?_
      injection h with h; subst h
      exact ⟨_, [.own 70000 0, .agg [iP x6, iP x7]], Wk.nrmTo [4, 5] [(69999, 70000)] rfl rfl, rfl, rfl, rfl, .refl _, fun nm h => by simp [PW.look] at h⟩
     ·refine au h [3,1,1,1,1,1,7,1] ?_; intro x8 k7 h
      exact lb (m1, w5, x8) h
   ·refine au h [3,1,1,1,1,5,1,8] ?_; intro h
    refine Ev.weak ?_ (Wk.frz 10102 0 rfl rfl)
    refine Ev.ret ?_
    injection h with h; subst h
    exact ⟨_, [.own 70000 0, .agg [iP 0, iP 0]], Wk.nrmTo [4, 5] [(10103, 70000)] rfl rfl, rfl, rfl, rfl, .refl _, fun nm h => by simp [PW.look] at h⟩
set_option maxHeartbeats 4000000 in
theorem slices_Clone_string_spec (n : Nat) (a0 : List (List UInt8)) (r : List (List UInt8)) (h : slices_Clone_string n a0 = some r) : PSpec Tryz.prog 71 [.list 1 (List.map cS a0)] (.list 1 (List.map cS r)) := by
 unfold slices_Clone_string at h
 refine spec_of Tryz.c_slices_Clone_string (by simp) ?_
 unfold Tryz.l_slices_Clone_string
 cases a0 with
 | nil =>
  refine Ev.nilSplit 0 1 rfl (by decide) ?_ ?_
  ·refine Ev.seq ?_
   refine W.reg hm ?_
   refine W.mv rfl (W.nil ?_)
   refine Ev.seq (Ev.seq ?_)
   refine W.reg hm ?_
   refine W.mv rfl (W.isnilN rfl ?_)
   refine W.nil ?_
   refine Ev.condT rfl rfl ?_
   refine Ev.seq ?_
   refine W.reg hm ?_
   refine W.mv rfl (W.nil ?_)
   obtain ⟨w9, k9, h⟩ := obind h
   injection h with h; subst h
   have e9 := (gapp_some k9).2
   simp only [List.nil_append] at e9
   subst e9
   refine Ev.ret ?_
   exact ⟨_, rfl, .nils 1⟩
  ·refine Ev.seq ?_
   refine W.reg hm ?_
   refine W.mv rfl (W.nil ?_)
   refine Ev.seq (Ev.seq ?_)
   refine W.reg hm ?_
   refine W.mv rfl (W.isnilZ rfl ?_)
   refine W.nil ?_
   refine Ev.condF rfl rfl ?_
   refine Ev.skip ?_
   refine Ev.seq ?_
   refine Ev.weak ?_ (Wk.le (t := 0) rfl (.nz 1))
   refine W.reg hm ?_
   refine W.mkSlice (dt := true) (es := []) rfl rfl rfl rfl rfl rfl ?_
   refine W.mv rfl ?_
   obtain ⟨w1, k1, h⟩ := obind h
   refine W.appR true (l := ([] : List (List UInt8))) (c := cS) (ys := ([] : List (List UInt8))) rfl rfl rfl rfl rfl rfl rfl rfl k1 rfl (by simp) ?_
   refine W.mv rfl (W.nil ?_)
   refine Ev.ret ?_
   cases h
   exact ⟨_, rfl, .refl _⟩
 | cons x9 xs9 =>
  refine Ev.seq ?_
  refine W.reg hm ?_
  refine W.mv rfl (W.nil ?_)
  refine Ev.seq (Ev.seq ?_)
  refine W.reg hm ?_
  refine W.mv rfl (W.isnilC rfl ?_)
  refine W.nil ?_
  refine Ev.condF rfl rfl ?_
  refine Ev.skip ?_
  refine Ev.seq ?_
  refine W.reg hm ?_
  refine W.mkSlice (dt := true) (es := []) rfl rfl rfl rfl rfl rfl ?_
  refine W.mv rfl ?_
  obtain ⟨w1, k1, h⟩ := obind h
  refine W.appR true (l := ([] : List (List UInt8))) (c := cS) (ys := (x9 :: xs9)) rfl rfl rfl rfl rfl rfl rfl rfl k1 rfl (by simp) ?_
  refine W.mv rfl (W.nil ?_)
  refine Ev.ret ?_
  cases h
  exact ⟨_, rfl, .refl _⟩
theorem slices_Clone_string_own (n : Nat) (a0 : List (List UInt8)) (r : List (List UInt8)) (h : slices_Clone_string n a0 = some r) : PMut Tryz.prog 71 [.list 1 (List.map cS a0)] [] (.own 70000 0) [(70000, ⟨0, 9, 1, List.map cS r, true, false, false⟩)] := by
 unfold slices_Clone_string at h
 refine specMut_of Tryz.c_slices_Clone_string (by simp) (by simp) ?_
 unfold Tryz.l_slices_Clone_string
 cases a0 with
 | nil =>
  refine Ev.nilSplit 0 1 rfl (by decide) ?_ ?_
  ·refine Ev.seq ?_
   refine W.reg hm ?_
   refine W.mv rfl (W.nil ?_)
   refine Ev.seq (Ev.seq ?_)
   refine W.reg hm ?_
   refine W.mv rfl (W.isnilN rfl ?_)
   refine W.nil ?_
   refine Ev.condT rfl rfl ?_
   refine Ev.seq ?_
   refine W.reg hm ?_
   refine W.mv rfl (W.nil ?_)
   obtain ⟨w9, k9, h⟩ := obind h
   injection h with h; subst h
   have e9 := (gapp_some k9).2
   simp only [List.nil_append] at e9
   subst e9
   refine Ev.weak ?_ (Wk.ownNil 2 69999 9 1 rfl rfl)
   refine Ev.ret ?_
   exact ⟨_, _, Wk.nrmTo [2] [(69999, 70000)] rfl rfl, rfl, rfl, rfl, .refl _, fun nm h => by simp [PW.look] at h⟩
  ·refine Ev.seq ?_
   refine W.reg hm ?_
   refine W.mv rfl (W.nil ?_)
   refine Ev.seq (Ev.seq ?_)
   refine W.reg hm ?_
   refine W.mv rfl (W.isnilZ rfl ?_)
   refine W.nil ?_
   refine Ev.condF rfl rfl ?_
   refine Ev.skip ?_
   refine Ev.seq ?_
   refine Ev.weak ?_ (Wk.le (t := 0) rfl (.nz 1))
   refine W.reg hm ?_
   refine W.mkSlice (dt := true) (es := []) rfl rfl rfl rfl rfl rfl ?_
   refine W.mv rfl ?_
   obtain ⟨w1, k1, h⟩ := obind h
   refine W.appR true (l := ([] : List (List UInt8))) (c := cS) (ys := ([] : List (List UInt8))) rfl rfl rfl rfl rfl rfl rfl rfl k1 rfl (by simp) ?_
   refine W.mv rfl (W.nil ?_)
   refine Ev.ret ?_
   injection h with h; subst h
   exact ⟨_, _, Wk.nrmTo [2] [(7, 70000)] rfl rfl, rfl, rfl, rfl, .refl _, fun nm h => by simp [PW.look] at h⟩
 | cons x9 xs9 =>
  refine Ev.seq ?_
  refine W.reg hm ?_
  refine W.mv rfl (W.nil ?_)
  refine Ev.seq (Ev.seq ?_)
  refine W.reg hm ?_
  refine W.mv rfl (W.isnilC rfl ?_)
  refine W.nil ?_
  refine Ev.condF rfl rfl ?_
  refine Ev.skip ?_
  refine Ev.seq ?_
  refine W.reg hm ?_
  refine W.mkSlice (dt := true) (es := []) rfl rfl rfl rfl rfl rfl ?_
  refine W.mv rfl ?_
  obtain ⟨w1, k1, h⟩ := obind h
  refine W.appR true (l := ([] : List (List UInt8))) (c := cS) (ys := (x9 :: xs9)) rfl rfl rfl rfl rfl rfl rfl rfl k1 rfl (by simp) ?_
  refine W.mv rfl (W.nil ?_)
  refine Ev.ret ?_
  injection h with h; subst h
  exact ⟨_, _, Wk.nrmTo [2] [(7, 70000)] rfl rfl, rfl, rfl, rfl, .refl _, fun nm h => by simp [PW.look] at h⟩
set_option maxHeartbeats 4000000 in
theorem release_execute_spec (n : Nat) (a0 : List SInputsOpsOutput) (a1 : SFiles) (r : (SFiles × SCodeIndex)) (h : release_execute n a0 a1 = some r) : PSpec Tryz.prog 57 [lP a0, .agg (SFiles.cells a1)] (.tup [.agg (SFiles.cells r.1), .agg (SCodeIndex.cells r.2)]) := by
 unfold release_execute at h
 refine spec_of Tryz.c_release_execute (by simp) ?_
 unfold Tryz.l_release_execute
 refine au h [1,1,5,5,5,1] ?_; intro h
 refine Ev.regS rfl ?_
 refine Sq.w 1 nb ?_
 refine aw h [8] ?_; intro h
 refine Sq.weak (st' := ⟨[(0, lP a0), (4, wP 10000), (5, wP 10001), (12, .agg [lP a1.Files])], [(10000, eP 25 1 [[.nils]]), (10001, eP 31 2 [[iP 0, iP 0]])], 2⟩) ?_ (.nA)
 refine Sq.call rfl Tryz.c_treepatch_CopyTree ⟨_, rfl, nb, ?_⟩
 unfold Tryz.l_treepatch_CopyTree
 refine Ev.retJ (γ := List SPathLines) (fun v => ⟨[(2, wP 10100), (65536, lP a0), (65540, wP 10102), (65541, wP 10103)], [(10100, ⟨0, 25, 1, [[.own 10101 0]], false, false, false⟩), (10101, eP 37 2 (mP v)), (10102, eP 25 1 [[.nils]]), (10103, eP 31 2 [[iP 0, iP 0]])], 2⟩) (fun v => release_execute_j1 n a0 v = some r) ?_ ?_
 ·refine au h [1,1,5,5,1,1,5,1,1,1,8,8,5,1,1] ?_; intro h
  refine Ev.loopW (β := Nat × (List SPathLines) × Int) (fun v => ⟨[(2, wP 10200), (3, wP 10201), (7, lP a1.Files), (8, iP (a1.Files.length : Int)), (9, iP v.2.2), (65536, lP a0), (65540, wP 10203), (65541, wP 10204)], [(10200, eP 25 1 [[.nils]]), (10201, ⟨0, 25, 1, [[.own 10202 0]], false, false, false⟩), (10202, eP 37 2 (mP v.2.1)), (10203, eP 25 1 [[.nils]]), (10204, eP 31 2 [[iP 0, iP 0]])], 2⟩) (fun v => release_execute_l2 n a0 a1 v.1 v.2.1 v.2.2 = some r) (fun v => v.1) (n, ([] : List SPathLines), 0) ((Wk.ownNilCell 3 2 0 30202 37 2 rfl rfl rfl rfl rfl (by simp) true).trans (.nA)) h ?_
  intro ⟨m2, w21, x22⟩ h
  try dsimp only at h ⊢
  cases m2 with
  | zero => rw [release_execute_l2] at h; cases h
  | succ m2 =>
   rw [release_execute_l2] at h
   refine au h [1,1,5,1] ?_; intro h
   refine bs h (fun c19 h => ?_) fun c19 h => ?_
   ·refine au h [2,1,1,1,1,1,5,5,5,8,1,8,8,8,8,8,8] ?_; intro e23 k20 h
    refine cb h (slices_Clone_string_spec n _) fun r24 k21 h => ?_
    refine ax 26 h [5,5,7,8,8,1,7,1] ?_; intro w25 k22 x26 k23 h
    exact lb (m2, w25, x26) h
   ·refine au h [3,1,1,1,8,8,1] ?_; intro h
    exact lf w21 h
 ·intro w1 h
  try dsimp only at h ⊢
  unfold release_execute_j1 at h
  refine ⟨_, rfl, ?_⟩
  refine Sq.wEnd nb ?_
  refine ax 61 h [5,8,1,1,5,1,1,1,1,5,1,1] ?_; intro h
  refine Ev.loopW (β := Nat × (List SPathLines) × (List SPathLines) × Int) (fun v => ⟨[(4, wP 10200), (5, wP 10201), (6, wP 10202), (7, wP 10204), (14, lP a0), (15, iP (a0.length : Int)), (16, iP v.2.2.2)], [(10200, eP 25 1 [[.nils]]), (10201, eP 31 2 [[iP 0, iP 0]]), (10202, ⟨0, 25, 1, [[.own 10203 0]], false, false, false⟩), (10203, eP 37 2 (mP v.2.1)), (10204, ⟨0, 25, 1, [[.own 10205 0]], false, false, false⟩), (10205, eP 37 2 (mP v.2.2.1))], 2⟩) (fun v => release_execute_l1 n a0 v.1 v.2.1 v.2.2.1 v.2.2.2 = some r) (fun v => v.1) (n, w1, ([] : List SPathLines), 0) ((Wk.ownNilCell 7 2 0 30205 37 2 rfl rfl rfl rfl rfl (by simp) true).trans (.nA)) h ?_
  intro ⟨m1, w2, w3, x4⟩ h
  try dsimp only at h ⊢
  cases m1 with
  | zero => rw [release_execute_l1] at h; cases h
  | succ m1 =>
   rw [release_execute_l1] at h
   refine au h [1,1,5,1] ?_; intro h
   refine bs h (fun c1 h => ?_) fun c1 h => ?_
   ·refine au h [2,1,1,1,1,1,1,5,5,5,1,8,1,1,1,8,8,8,8] ?_; intro e5 k2 h
    refine cb h (treepatch_Clash_spec n _ _ _) fun r6 k3 h => ?_
    refine W.nil ?_
    refine bs h (fun c4 h => ?_) fun c4 h => ?_
    ·refine au h [2,1,1,5,1,5,8,8,1] ?_; intro h
     cases h
     exact ⟨_, rfl, Le.tups (.cons (Le.aggs (.cons (.nils 2) (.nil)) rfl) (.cons (.refl _) (.nil)))⟩
    ·refine au h [3,1,1,1,1,8,8,7,5] ?_; intro h
     refine bs h (fun c5 h => ?_) fun c5 h => ?_
     ·refine au h [2,1,1,5,1,5,8,8,1] ?_; intro h
      cases h
      exact ⟨_, rfl, Le.tups (.cons (Le.aggs (.cons (.nils 2) (.nil)) rfl) (.cons (.refl _) (.nil)))⟩
     ·refine au h [3,1,1,1,8,8] ?_; intro h
      obtain ⟨r7, k6, h⟩ := obind h
      refine W.callB (args := [.agg [lP e5.Inputs, lP e5.Ops, .str e5.Output], .agg [.own 1 0]]) (es := mP w2) (sz := 2) (elem := 37) (nm := 10203) (v := 0) (res' := .tup [.own 39 2, .agg [iP r7.2.Code, iP r7.2.Index]]) (sandbox_Run_spec n e5 (⟨w2⟩ : SFiles) r7 k6) rfl rfl rfl (flatS _) rfl rfl rfl rfl rfl (by decide) rfl rfl ?_
      refine ax 61 h [1,5,5,5,1,8,1,1,1,8,5,5] ?_; intro h
      refine bs h (fun c7 h => ?_) fun c7 h => ?_
      ·refine au h [2,1,1,5,8,8,1,5,8,8,1] ?_; intro h
       cases h
       exact ⟨_, rfl, Le.tups (.cons (Le.aggs (.cons (.nils 2) (.nil)) rfl) (.cons (.refl _) (.nil)))⟩
      ·refine au h [3,1,1] ?_; intro h
       refine Ev.regS rfl ?_
       refine Sq.w 3 nb ?_
       refine aw h [8,8,1] ?_; intro h
       refine Sq.weak (st' := ⟨[(4, wP 10200), (5, wP 10201), (6, wP 10202), (7, wP 10204), (9, wP 10206), (10, .own 10207 0), (14, lP a0), (15, iP (a0.length : Int)), (16, iP x4), (51, .str e5.Output), (52, .own 10207 0)], [(10200, eP 25 1 [[.nils]]), (10201, eP 31 2 [[iP 0, iP 0]]), (10202, ⟨0, 25, 1, [[.own 10203 0]], false, false, false⟩), (10203, eP 37 2 (mP w2)), (10204, ⟨0, 25, 1, [[.own 10205 0]], false, false, false⟩), (10205, eP 37 2 (mP w3)), (10206, eP 53 3 [[lP e5.Inputs, lP e5.Ops, .str e5.Output]]), (10207, eP 9 1 (mP r7.1))], 2⟩) ?_ (.nA)
       refine Sq.call rfl Tryz.c_treepatch_Put ⟨_, rfl, nb, ?_⟩
       unfold Tryz.l_treepatch_Put
       refine Ev.retJ (γ := List SPathLines) (fun v => ⟨[(65540, wP 10300), (65541, wP 10301), (65542, wP 10302), (65543, wP 10304), (65545, wP 10306), (65546, lP r7.1), (65550, lP a0), (65551, iP (a0.length : Int)), (65552, iP x4)], [(10300, eP 25 1 [[.nils]]), (10301, eP 31 2 [[iP 0, iP 0]]), (10302, ⟨0, 25, 1, [[.own 10303 0]], false, false, false⟩), (10303, eP 37 2 (mP v)), (10304, ⟨0, 25, 1, [[.own 10305 0]], false, false, false⟩), (10305, eP 37 2 (mP w3)), (10306, eP 53 3 [[lP e5.Inputs, lP e5.Ops, .str e5.Output]])], 2⟩) (fun v => release_execute_j2 n w3 x4 (release_execute_l1 n a0 m1) e5 r7 v = some r) ?_ ?_
       ·refine au h [1,1,1,8,8,8,1] ?_; intro h
        refine cb h (treepatch_Find_spec n _ _) fun r16 k14 h => ?_
        refine aw h [1,5,5,1,1] ?_; intro h
        refine Ev.seqJ (γ := List SPathLines) (fun v => ⟨[(0, wP 10400), (2, .own 10402 0), (6, iP r16.1), (65540, wP 10403), (65541, wP 10404), (65542, wP 10400), (65543, wP 10405), (65545, wP 10407), (65546, .own 10402 0), (65550, lP a0), (65551, iP (a0.length : Int)), (65552, iP x4)], [(10400, ⟨0, 25, 1, [[.own 10401 0]], false, false, false⟩), (10401, eP 37 2 (mP v)), (10402, eP 9 1 (mP r7.1)), (10403, eP 25 1 [[.nils]]), (10404, eP 31 2 [[iP 0, iP 0]]), (10405, ⟨0, 25, 1, [[.own 10406 0]], false, false, false⟩), (10406, eP 37 2 (mP w3)), (10407, eP 53 3 [[lP e5.Inputs, lP e5.Ops, .str e5.Output]])], 2⟩) (fun v => release_execute_j5 n w3 x4 (release_execute_l1 n a0 m1) e5 r7 r16 v = some r) ?_ ?_
        ·refine au h [1,1,1,5] ?_; intro h
         refine bs h (fun c17 h => ?_) fun c17 h => ?_
         ·refine au h [2,1,1,1,8,8,8,1,1,5,5] ?_; intro h
          obtain ⟨w20, k18, h⟩ := obind h
          refine W.insCall (l := w2) (c := SPathLines.cells) (z := (⟨e5.Output, ([] : List (List UInt8))⟩ : SPathLines)) (cs := [.str e5.Output, .nils]) (i := r16.1) k_InsFile rfl rfl rfl (by decide) rfl (by decide) (by decide) k18 rfl ?_
          refine aw h [8,8,8] ?_; intro h
          exact ⟨w20, h, (Wk.rowLe 28 2 (es' := List.map SPathLines.cells w20) rfl rfl (LesR.ins k18 (.cons (.refl _) (.cons (.nils 1) (.nil))) fun _ => rfl) rfl).trans (.nA)⟩
         ·refine au h [3,1] ?_; intro h
          exact lf w2 h
        ·intro w17 h
         try dsimp only at h ⊢
         unfold release_execute_j5 at h
         refine Ev.weak ?_ (Wk.frz 10402 0 rfl rfl)
         refine au h [1,1,8,8,8,1,1] ?_; intro h
         refine cb h (slices_Clone_string_spec n _) fun r18 k15 h => ?_
         refine aw h [7,8] ?_; intro e19 k16 h
         refine W.storeR true (l := w17) (c := SPathLines.cells) (v := e19) (v' := (⟨e19.Path, r18⟩ : SPathLines)) rfl rfl rfl rfl (gidx_some k16).2 rfl (Nat.le_of_ble_eq_true rfl) rfl rfl rfl ?_
         refine W.nil ⟨rfl, ?_⟩
         exact lf (gset w17 r16.1 (⟨e19.Path, r18⟩ : SPathLines)) h
       ·intro w8 h
        try dsimp only at h ⊢
        unfold release_execute_j2 at h
        refine ⟨_, rfl, ?_⟩
        refine Sq.wEnd nb ?_
        refine W.nil ?_
        refine Ev.regS rfl ?_
        refine Sq.w 3 nb ?_
        refine aw h [8,8,1] ?_; intro h
        refine Sq.call rfl Tryz.c_treepatch_Put ⟨_, rfl, nb, ?_⟩
        unfold Tryz.l_treepatch_Put
        refine Ev.retJ (γ := List SPathLines) (fun v => ⟨[(65540, wP 10400), (65541, wP 10401), (65542, wP 10402), (65543, wP 10404), (65550, lP a0), (65551, iP (a0.length : Int)), (65552, iP x4)], [(10400, eP 25 1 [[.nils]]), (10401, eP 31 2 [[iP 0, iP 0]]), (10402, ⟨0, 25, 1, [[.own 10403 0]], false, false, false⟩), (10403, eP 37 2 (mP w8)), (10404, ⟨0, 25, 1, [[.own 10405 0]], false, false, false⟩), (10405, eP 37 2 (mP v))], 2⟩) (fun v => release_execute_j3 n x4 (release_execute_l1 n a0 m1) w8 v = some r) ?_ ?_
        ·refine au h [1,1,1,8,8,8,1] ?_; intro h
         refine cb h (treepatch_Find_spec n _ _) fun r11 k9 h => ?_
         refine aw h [1,5,5,1,1] ?_; intro h
         refine Ev.seqJ (γ := List SPathLines) (fun v => ⟨[(0, wP 10500), (2, lP r7.1), (6, iP r11.1), (65540, wP 10502), (65541, wP 10503), (65542, wP 10504), (65543, wP 10500), (65550, lP a0), (65551, iP (a0.length : Int)), (65552, iP x4)], [(10500, ⟨0, 25, 1, [[.own 10501 0]], false, false, false⟩), (10501, eP 37 2 (mP v)), (10502, eP 25 1 [[.nils]]), (10503, eP 31 2 [[iP 0, iP 0]]), (10504, ⟨0, 25, 1, [[.own 10505 0]], false, false, false⟩), (10505, eP 37 2 (mP w8))], 2⟩) (fun v => release_execute_j4 n x4 (release_execute_l1 n a0 m1) r7 w8 r11 v = some r) ?_ ?_
         ·refine au h [1,1,1,5] ?_; intro h
          refine bs h (fun c12 h => ?_) fun c12 h => ?_
          ·refine au h [2,1,1,1,8,8,8,1,1,5,5] ?_; intro h
           obtain ⟨w15, k13, h⟩ := obind h
           refine W.insCall (l := w3) (c := SPathLines.cells) (z := (⟨e5.Output, ([] : List (List UInt8))⟩ : SPathLines)) (cs := [.str e5.Output, .nils]) (i := r11.1) k_InsFile rfl rfl rfl (by decide) rfl (by decide) (by decide) k13 rfl ?_
           refine aw h [8,8,8] ?_; intro h
           exact ⟨w15, h, (Wk.rowLe 28 2 (es' := List.map SPathLines.cells w15) rfl rfl (LesR.ins k13 (.cons (.refl _) (.cons (.nils 1) (.nil))) fun _ => rfl) rfl).trans (.nA)⟩
          ·refine au h [3,1] ?_; intro h
           exact lf w3 h
         ·intro w12 h
          try dsimp only at h ⊢
          unfold release_execute_j4 at h
          refine au h [1,1,8,8,8,1,1] ?_; intro h
          refine cb h (slices_Clone_string_spec n _) fun r13 k10 h => ?_
          refine aw h [7,8] ?_; intro e14 k11 h
          refine W.storeR true (l := w12) (c := SPathLines.cells) (v := e14) (v' := (⟨e14.Path, r13⟩ : SPathLines)) rfl rfl rfl rfl (gidx_some k11).2 rfl (Nat.le_of_ble_eq_true rfl) rfl rfl rfl ?_
          refine W.nil ⟨rfl, ?_⟩
          exact lf (gset w12 r11.1 (⟨e14.Path, r13⟩ : SPathLines)) h
        ·intro w9 h
         try dsimp only at h ⊢
         unfold release_execute_j3 at h
         refine ⟨_, rfl, ?_⟩
         refine Sq.wEnd nb ?_
         refine ax 61 h [1,7,1] ?_; intro x10 k8 h
         exact lb (m1, w8, w9, x10) h
   ·refine au h [3,1,1,1,8,5,8,8] ?_; intro h
    refine Ev.weak ?_ (Wk.frz 10205 0 rfl rfl)
    refine Ev.ret ?_
    cases h
    exact ⟨_, rfl, .refl _⟩
set_option maxHeartbeats 4000000 in
theorem slices_Clone_api_SandboxOp_api_SandboxOp_spec (n : Nat) (a0 : List SKindText) (r : List SKindText) (h : slices_Clone_api_SandboxOp_api_SandboxOp n a0 = some r) : PSpec Tryz.prog 114 [.list 2 (List.map SKindText.cells a0)] (.list 2 (List.map SKindText.cells r)) := by
 unfold slices_Clone_api_SandboxOp_api_SandboxOp at h
 refine spec_of Tryz.c_slices_Clone_api_SandboxOp_api_SandboxOp (by simp) ?_
 unfold Tryz.l_slices_Clone_api_SandboxOp_api_SandboxOp
 cases a0 with
 | nil =>
  refine Ev.nilSplit 0 2 rfl (by decide) ?_ ?_
  ·refine Ev.seq ?_
   refine W.reg hm ?_
   refine W.mv rfl (W.nil ?_)
   refine Ev.seq (Ev.seq ?_)
   refine W.reg hm ?_
   refine W.mv rfl (W.isnilN rfl ?_)
   refine W.nil ?_
   refine Ev.condT rfl rfl ?_
   refine Ev.seq ?_
   refine W.reg hm ?_
   refine W.mv rfl (W.nil ?_)
   obtain ⟨w9, k9, h⟩ := obind h
   injection h with h; subst h
   have e9 := (gapp_some k9).2
   simp only [List.nil_append] at e9
   subst e9
   refine Ev.ret ?_
   exact ⟨_, rfl, .nils 2⟩
  ·refine Ev.seq ?_
   refine W.reg hm ?_
   refine W.mv rfl (W.nil ?_)
   refine Ev.seq (Ev.seq ?_)
   refine W.reg hm ?_
   refine W.mv rfl (W.isnilZ rfl ?_)
   refine W.nil ?_
   refine Ev.condF rfl rfl ?_
   refine Ev.skip ?_
   refine Ev.seq ?_
   refine Ev.weak ?_ (Wk.le (t := 0) rfl (.nz 2))
   refine W.reg hm ?_
   refine W.mkSlice (dt := true) (es := []) rfl rfl rfl rfl rfl rfl ?_
   refine W.mv rfl ?_
   obtain ⟨w1, k1, h⟩ := obind h
   refine W.appR true (l := ([] : List SKindText)) (c := SKindText.cells) (ys := ([] : List SKindText)) rfl rfl rfl rfl rfl rfl rfl rfl k1 rfl (by simp) ?_
   refine W.mv rfl (W.nil ?_)
   refine Ev.ret ?_
   cases h
   exact ⟨_, rfl, .refl _⟩
 | cons x9 xs9 =>
  refine Ev.seq ?_
  refine W.reg hm ?_
  refine W.mv rfl (W.nil ?_)
  refine Ev.seq (Ev.seq ?_)
  refine W.reg hm ?_
  refine W.mv rfl (W.isnilC rfl ?_)
  refine W.nil ?_
  refine Ev.condF rfl rfl ?_
  refine Ev.skip ?_
  refine Ev.seq ?_
  refine W.reg hm ?_
  refine W.mkSlice (dt := true) (es := []) rfl rfl rfl rfl rfl rfl ?_
  refine W.mv rfl ?_
  obtain ⟨w1, k1, h⟩ := obind h
  refine W.appR true (l := ([] : List SKindText)) (c := SKindText.cells) (ys := (x9 :: xs9)) rfl rfl rfl rfl rfl rfl rfl rfl k1 rfl (by simp) ?_
  refine W.mv rfl (W.nil ?_)
  refine Ev.ret ?_
  cases h
  exact ⟨_, rfl, .refl _⟩
theorem release_clone_spec (n : Nat) (a0 : List SInputsOpsOutput) (r : (List SInputsOpsOutput)) (h : release_clone n a0 = some r) : PSpec Tryz.prog 58 [lP a0] (lP r) := by
 unfold release_clone at h
 refine spec_of Tryz.c_release_clone (by simp) ?_
 unfold Tryz.l_release_clone
 refine au h [1,1,1,1,1,1,1,1,1,1,5,1,1] ?_; intro h
 refine Ev.loopW (β := Nat × (List SInputsOpsOutput) × Int) (fun v => ⟨[(3, .own 10100 0), (6, lP a0), (7, iP (a0.length : Int)), (8, iP v.2.2)], [(10100, eP 53 3 (mP v.2.1))], 2⟩) (fun v => release_clone_l1 n a0 v.1 v.2.1 v.2.2 = some r) (fun v => v.1) (n, ([] : List SInputsOpsOutput), 0) ((Wk.ownNil 3 30100 53 3 rfl rfl true).trans (.nA)) h ?_
 intro ⟨m1, w1, x2⟩ h
 try dsimp only at h ⊢
 cases m1 with
 | zero => rw [release_clone_l1] at h; cases h
 | succ m1 =>
  rw [release_clone_l1] at h
  refine au h [1,1,5,1] ?_; intro h
  refine bs h (fun c1 h => ?_) fun c1 h => ?_
  ·refine au h [2,1,1,1,1,1,5,5,5,8,1,1,8,8] ?_; intro e3 k2 h
   refine cb h (slices_Clone_string_spec n _) fun r4 k3 h => ?_
   refine aw h [8,8] ?_; intro h
   refine cb h (slices_Clone_api_SandboxOp_api_SandboxOp_spec n _) fun r5 k4 h => ?_
   refine ax 26 h [8,8,5,5,7,1,1,7,1] ?_; intro w6 k5 x7 k6 h
   exact lb (m1, w6, x7) h
  ·refine au h [3,1,1,1,1,1,1] ?_; intro h
   cases h
   exact ⟨_, rfl, .refl _⟩
theorem release_Make_spec (n : Nat) (a0 : List SInputsOpsOutput) (a1 : SFiles) (r : (SActionsMaterialsOutput × SCodeIndex)) (h : release_Make n a0 a1 = some r) : PSpec Tryz.prog 14 [lP a0, .agg (SFiles.cells a1)] (.tup [.agg (SActionsMaterialsOutput.cells r.1), .agg (SCodeIndex.cells r.2)]) := by
 unfold release_Make at h
 refine spec_of Tryz.c_release_Make (by simp) ?_
 unfold Tryz.l_release_Make
 refine au h [1,1,5,5,5,1,1,1,1] ?_; intro h
 refine cb h (release_checkActions_spec n _) fun r1 k1 h => ?_
 refine ax 57 h [5,8,1,1,8,5,5] ?_; intro h
 refine bs h (fun c2 h => ?_) fun c2 h => ?_
 ·refine au h [2,1,1,5,8,8,8,1] ?_; intro h
  cases h
  exact ⟨_, rfl, Le.tups (.cons (Le.aggs (.cons (.nils 3) (.cons (.nils 2) (.cons (.nils 2) (.nil)))) rfl) (.cons (.refl _) (.nil)))⟩
 ·refine au h [3,1,1,1,1,8] ?_; intro h
  refine cb h (treepatch_Second_spec n _ _) fun r2 k3 h => ?_
  refine ax 57 h [5,8,1,1,8,5,5] ?_; intro h
  refine bs h (fun c4 h => ?_) fun c4 h => ?_
  ·refine au h [2,1,1,5,8,8,8,1] ?_; intro h
   cases h
   exact ⟨_, rfl, Le.tups (.cons (Le.aggs (.cons (.nils 3) (.cons (.nils 2) (.cons (.nils 2) (.nil)))) rfl) (.cons (.refl _) (.nil)))⟩
  ·refine au h [3,1,1,1,1] ?_; intro h
   refine cb h (release_sources_spec n _) fun r3 k5 h => ?_
   refine ax 57 h [1,1,1,1,1,5,5] ?_; intro h
   refine bs h (fun c6 h => ?_) fun c6 h => ?_
   ·refine au h [2,1,1,5,5,8,8,1] ?_; intro h
    cases h
    exact ⟨_, rfl, Le.tups (.cons (Le.aggs (.cons (.nils 3) (.cons (.nils 2) (.cons (.nils 2) (.nil)))) rfl) (.cons (.refl _) (.nil)))⟩
   ·refine au h [3,1,1,1,1,8] ?_; intro h
    refine cb h (release_execute_spec n _ _) fun r4 k7 h => ?_
    refine ax 57 h [1,5,5,5,5,8,8,1,1,1,8,5,5] ?_; intro h
    refine bs h (fun c8 h => ?_) fun c8 h => ?_
    ·refine au h [2,1,1,5,8,8,8,1] ?_; intro h
     cases h
     exact ⟨_, rfl, Le.tups (.cons (Le.aggs (.cons (.nils 3) (.cons (.nils 2) (.cons (.nils 2) (.nil)))) rfl) (.cons (.refl _) (.nil)))⟩
    ·refine au h [3,1,1,1,1,8] ?_; intro h
     refine cb h (bom_Make_spec n _ _) fun r5 k9 h => ?_
     refine ax 57 h [1,5,5,5,1,8,1,1,1] ?_; intro h
     refine cb h (release_clone_spec n _) fun r6 k10 h => ?_
     refine ax 57 h [1,8,5,5,8,8,1] ?_; intro h
     cases h
     exact ⟨_, rfl, .refl _⟩
theorem actioncache_Key_1_spec (n : Nat) (a0 : List UInt8) (r : Int) (h : actioncache_Key_1 n a0 = some r) : PSpec Tryz.prog 64 [.str a0] (iP r) := by
 unfold actioncache_Key_1 at h
 refine spec_of Tryz.c_actioncache_Key_1 (by simp) ?_
 unfold Tryz.l_actioncache_Key_1
 refine au h [1,1,1,1,1,1,5] ?_; intro h
 refine cb h (digest_Of_spec n _) fun r1 k1 h => ?_
 refine ax 12 h [1,5,5,5,1,8,1,1,1,1,1] ?_; intro h
 cases h
 exact ⟨_, rfl, .refl _⟩
theorem digest_is_spec (n : Nat) (a0 : Int) (r : Bool) (h : digest_is n a0 = some r) : PSpec Tryz.prog 155 [iP a0] (.bool r) := by
 unfold digest_is at h
 refine spec_of Tryz.c_digest_is (by simp) ?_
 unfold Tryz.l_digest_is
 refine au h [1,1,1] ?_; intro h
 refine Ev.seqJ (γ := Bool) (fun v => ⟨[(2, .bool v)], [], 2⟩) (fun v => digest_is_j1 n v = some r) ?_ ?_
 ·refine au h [1,1,5,1] ?_; intro h
  refine bs h (fun c1 h => ?_) fun c1 h => ?_
  ·refine aw h [2,1,2,5,2,1] ?_; intro h
   exact lf (decide (a0 < 2305843009213693951)) h
  ·refine aw h [3,3,3,1] ?_; intro h
   exact lf false h
 ·intro x1 h
  try dsimp only at h ⊢
  unfold digest_is_j1 at h
  refine Ev.ret ?_
  cases h
  exact ⟨_, rfl, .refl _⟩
theorem digest_Pair_spec (n : Nat) (a0 : Int) (a1 : Int) (r : (Int × SCodeIndex)) (h : digest_Pair n a0 a1 = some r) : PSpec Tryz.prog 121 [iP a0, iP a1] (.tup [iP r.1, .agg (SCodeIndex.cells r.2)]) := by
 unfold digest_Pair at h
 refine spec_of Tryz.c_digest_Pair (by simp) ?_
 unfold Tryz.l_digest_Pair
 refine au h [1,1,1,5,1,1,1,1,1,5,1,1] ?_; intro h
 refine Ev.loopW (β := Nat × Int) (fun v => ⟨[(0, iP a0), (1, iP a1), (5, wP 10100), (10, .agg [iP a0, iP a1]), (11, iP v.2)], [(10100, eP 31 2 [[iP 0, iP 0]])], 2⟩) (fun v => digest_Pair_l1 n a0 a1 v.1 v.2 = some r) (fun v => v.1) (n, 0) (.nA) h ?_
 intro ⟨m1, x1⟩ h
 try dsimp only at h ⊢
 cases m1 with
 | zero => rw [digest_Pair_l1] at h; cases h
 | succ m1 =>
  rw [digest_Pair_l1] at h
  refine au h [1,1,5,1] ?_; intro h
  refine bs h (fun c1 h => ?_) fun c1 h => ?_
  ·refine au h [2,1,1,1,1,1,1] ?_; intro h
   obtain ⟨i2, k2, h⟩ := obind h
   refine W.vidxG (p := iP (if i2 = 0 then a0 else a1)) rfl rfl k2 (by obtain ⟨_, q1, q2⟩ := garr_some k2; rcases (show i2 = 0 ∨ i2 = 1 by omega) with e | e <;> rw [e] <;> rfl) ?_
   refine ax 25 h [1,1,1,1,1] ?_; intro h
   refine cb h (digest_is_spec n _) fun r3 k3 h => ?_
   refine aw h [5] ?_; intro h
   refine bs h (fun c4 h => ?_) fun c4 h => ?_
   ·refine au h [2,1,1,1,5,1,8,1] ?_; intro h
    cases h
    exact ⟨_, rfl, .refl _⟩
   ·refine au h [3,1,1,7,1] ?_; intro x4 k5 h
    exact lb (m1, x4) h
  ·refine au h [3,1,1,1,1,1] ?_; intro h
   refine cb h (digest_pair_spec n _ _) fun r5 k6 h => ?_
   refine ax 25 h [5,1,8,1] ?_; intro h
   cases h
   exact ⟨_, rfl, .refl _⟩
end Go.Proofs.YtlkknmhhefjmjaaGreatDoor
