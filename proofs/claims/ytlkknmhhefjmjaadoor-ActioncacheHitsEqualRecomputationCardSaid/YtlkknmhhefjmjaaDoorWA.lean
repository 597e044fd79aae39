/- The functions compute what the texts of D say. Laid by a program (wip/gen/dec.py). -/
import Derived.Test.YtlkknmhhefjmjaaDoorD
import Derived.Test.YtlkknmhhefjmjaaDoorK
namespace Go.Proofs.YtlkknmhhefjmjaaDoor
open Go.PW Go
theorem ref6_fault_spec (n : Nat) (a0 : Int) (a1 : Int) (r : SCodeIndex) (h : ref6_fault n a0 a1 = some r) : PSpec Tryd.prog 48 [.int .i64 a0, .int .i64 a1] (.agg (SCodeIndex.cells r)) := by
 unfold ref6_fault at h
 refine spec_of Tryd.c_ref6_fault (by simp) ?_
 unfold Tryd.l_ref6_fault
 refine Ev.seq ?_
 refine W.reg hm ?_
 refine W.alloc (dt := true) rfl rfl rfl ?_
 refine W.nil ?_
 refine Ev.seq ?_
 refine W.reg hm ?_
 refine W.mv rfl (W.mv rfl ?_)
 refine W.build (cs := [.int .i64 a0, .int .i64 a1]) rfl rfl rfl ?_
 refine W.store (es' := [[.int .i64 a0, .int .i64 a1]]) (dt := true) rfl rfl rfl rfl rfl (Nat.le_of_ble_eq_true rfl) rfl rfl rfl rfl ?_
 refine W.nil ?_
 refine Ev.ret ?_
 injection h with h; subst h
 exact ⟨_, rfl, .refl _⟩
set_option maxHeartbeats 4000000 in
theorem ref6_lineCode_spec (n : Nat) (a0 : List (List UInt8)) (r : Int) (h : ref6_lineCode n a0 = some r) : PSpec Tryd.prog 49 [.list 1 (List.map cS a0)] (.int .i64 r) := by
 unfold ref6_lineCode at h
 refine spec_of Tryd.c_ref6_lineCode (by simp) ?_
 unfold Tryd.l_ref6_lineCode
 refine Ev.seq ?_
 refine W.reg hm ?_
 refine W.mv rfl (W.nil ?_)
 refine Ev.seq (Ev.seq ?_)
 refine W.reg hm ?_
 refine W.mv rfl ?_
 refine W.lenL (c := cS) rfl ?_
 refine W.gtr rfl rfl (W.nil ?_)
 refine Ev.cond rfl (fun c1 => ?_) (fun c1 => ?_)
 ·replace h := iteT h c1
  refine Ev.seq ?_
  refine W.reg hm ?_
  refine W.mv rfl (W.nil ?_)
  refine Ev.ret ?_
  injection h with h; subst h
  exact ⟨_, rfl, .refl _⟩
 ·replace h := iteF h c1
  refine Ev.skip ?_
  refine Ev.seq (Ev.seq ?_)
  refine W.reg hm ?_
  refine W.mv rfl (W.nil ?_)
  refine Ev.block ?_
  refine Ev.loopW (β := Nat × Int) (fun v => ⟨[(0, .list 1 (List.map cS a0)), (3, .int .i64 v.2)], [], 2⟩) (fun v => ref6_lineCode_l1 n a0 v.1 v.2 = some r) (fun v => v.1) (n, 0) (Wk.nrmTo [0, 3] [] rfl rfl) h ?_
  intro ⟨m1, x1⟩ h
  try dsimp only at h ⊢
  cases m1 with
  | zero => rw [ref6_lineCode_l1] at h; cases h
  | succ m1 =>
   rw [ref6_lineCode_l1] at h
   refine Ev.seq (Ev.seq ?_)
   refine W.reg hm ?_
   refine W.mv rfl (W.mv rfl ?_)
   refine W.lenL (c := cS) rfl ?_
   refine W.lss rfl rfl (W.nil ?_)
   refine Ev.cond rfl (fun c2 => ?_) (fun c2 => ?_)
   ·replace h := iteT h c2
    refine Ev.skip ?_
    refine Ev.seq ?_
    refine Ev.block ?_
    refine Ev.seq (Ev.seq ?_)
    refine W.reg hm ?_
    refine W.mv rfl (W.mv rfl ?_)
    obtain ⟨e2, k3, h⟩ := obind h
    refine W.idxL (c := cS) rfl rfl k3 ?_
    refine W.load rfl rfl (W.slen rfl ?_)
    refine W.gtr rfl rfl (W.nil ?_)
    refine Ev.cond rfl (fun c4 => ?_) (fun c4 => ?_)
    ·replace h := iteT h c4
     refine Ev.seq ?_
     refine W.reg hm ?_
     refine W.mv rfl (W.nil ?_)
     refine Ev.ret ?_
     injection h with h; subst h
     exact ⟨_, rfl, .refl _⟩
    ·replace h := iteF h c4
     refine Ev.skip ?_
     refine Ev.seq ?_
     refine W.reg hm ?_
     refine W.mv rfl (W.nil ?_)
     refine Ev.block ?_
     refine Ev.loopW (β := Nat × Int) (fun v => ⟨[(0, .list 1 (List.map cS a0)), (3, .int .i64 x1), (4, .int .i64 v.2)], [], 2⟩) (fun v => ref6_lineCode_l2 n x1 (ref6_lineCode_l1 n a0 m1) e2 v.1 v.2 = some r) (fun v => v.1) (n, 0) (Wk.nrmTo [0, 3, 4] [] rfl rfl) h ?_
     intro ⟨m2, x3⟩ h
     try dsimp only at h ⊢
     cases m2 with
     | zero => rw [ref6_lineCode_l2] at h; cases h
     | succ m2 =>
      rw [ref6_lineCode_l2] at h
      refine Ev.seq (Ev.seq ?_)
      refine W.reg hm ?_
      refine W.mv rfl (W.mv rfl ?_)
      refine W.mv rfl ?_
      refine W.idxL (c := cS) rfl rfl k3 ?_
      refine W.load rfl rfl (W.slen rfl ?_)
      refine W.lss rfl rfl (W.nil ?_)
      refine Ev.cond rfl (fun c5 => ?_) (fun c5 => ?_)
      ·replace h := iteT h c5
       refine Ev.skip ?_
       refine Ev.seq ?_
       refine Ev.block ?_
       refine Ev.seq ?_
       refine W.reg hm ?_
       refine W.mv rfl (W.mv rfl ?_)
       refine W.idxL (c := cS) rfl rfl k3 ?_
       refine W.load rfl rfl (W.mv rfl ?_)
       obtain ⟨y4, k6, h⟩ := obind h
       refine W.sidxG rfl rfl k6 ?_
       refine W.eql rfl rfl (W.nil ?_)
       refine Ev.cond rfl (fun c7 => ?_) (fun c7 => ?_)
       ·replace h := iteT h c7
        refine Ev.seq ?_
        refine W.reg hm ?_
        refine W.mv rfl (W.nil ?_)
        refine Ev.ret ?_
        injection h with h; subst h
        exact ⟨_, rfl, .refl _⟩
       ·replace h := iteF h c7
        refine Ev.skip ?_
        refine W.reg hm ?_
        refine W.mv rfl ?_
        obtain ⟨x5, k8, h⟩ := obind h
        refine W.addG rfl rfl k8 ?_
        refine W.mv rfl (W.nil ?_)
        exact ⟨(m2, x5), h, Nat.lt_succ_self _, Wk.nrmTo [0, 3, 4] [] rfl rfl⟩
      ·replace h := iteF h c5
       refine Ev.exit ?_
       refine W.reg hm ?_
       refine W.mv rfl ?_
       obtain ⟨x6, k9, h⟩ := obind h
       refine W.addG rfl rfl k9 ?_
       refine W.mv rfl (W.nil ?_)
       exact ⟨(m1, x6), h, Nat.lt_succ_self _, Wk.nrmTo [0, 3] [] rfl rfl⟩
   ·replace h := iteF h c2
    refine Ev.exit ?_
    refine Ev.seq ?_
    refine W.reg hm ?_
    refine W.mv rfl (W.nil ?_)
    refine Ev.ret ?_
    injection h with h; subst h
    exact ⟨_, rfl, .refl _⟩
theorem law6_fault_spec (n : Nat) (a0 : Int) (a1 : Int) (r : SCodeIndex) (h : law6_fault n a0 a1 = some r) : PSpec Tryd.prog 19 [.int .i64 a0, .int .i64 a1] (.agg (SCodeIndex.cells r)) := by
 unfold law6_fault at h
 refine spec_of Tryd.c_law6_fault (by simp) ?_
 unfold Tryd.l_law6_fault
 refine Ev.seq ?_
 refine W.reg hm ?_
 refine W.alloc (dt := true) rfl rfl rfl ?_
 refine W.nil ?_
 refine Ev.seq ?_
 refine W.reg hm ?_
 refine W.mv rfl (W.mv rfl ?_)
 refine W.build (cs := [.int .i64 a0, .int .i64 a1]) rfl rfl rfl ?_
 refine W.store (es' := [[.int .i64 a0, .int .i64 a1]]) (dt := true) rfl rfl rfl rfl rfl (Nat.le_of_ble_eq_true rfl) rfl rfl rfl rfl ?_
 refine W.nil ?_
 refine Ev.ret ?_
 injection h with h; subst h
 exact ⟨_, rfl, .refl _⟩
theorem signing_IsDigest_spec (n : Nat) (a0 : Int) (r : Bool) (h : signing_IsDigest n a0 = some r) : PSpec Tryd.prog 52 [.int .i64 a0] (.bool r) := by
 unfold signing_IsDigest at h
 refine spec_of Tryd.c_signing_IsDigest (by simp) ?_
 unfold Tryd.l_signing_IsDigest
 refine Ev.seq ?_
 refine W.reg hm ?_
 refine W.mv rfl (W.nil ?_)
 refine Ev.seqJ (γ := Bool) (fun v => ⟨[(2, .bool v)], [], 2⟩) (fun v => signing_IsDigest_j1 n v = some r) ?_ ?_
 ·refine W.reg hm ?_
  refine W.mv rfl (W.geq rfl rfl ?_)
  refine W.mv rfl ?_
  refine W.split 5 rfl (fun c1 => ?_) (fun c1 => ?_)
  ·replace h := iteT h c1
   refine W.guardT rfl c1 ?_
   refine W.mv rfl ?_
   refine W.guardT rfl c1 ?_
   refine W.lss rfl rfl ?_
   refine W.pickT rfl rfl rfl c1 ?_
   refine W.mv rfl (W.nil ?_)
   exact ⟨(decide (a0 < 2305843009213693951)), h, Wk.nrmTo [2] [] rfl rfl⟩
  ·replace h := iteF h c1
   refine W.guardF1 rfl c1 ?_
   refine W.guardF1 rfl c1 ?_
   refine W.pickN rfl rfl rfl c1 ?_
   refine W.mv rfl (W.nil ?_)
   exact ⟨false, h, Wk.nrmTo [2] [] rfl rfl⟩
 ·intro x1 h
  try dsimp only at h ⊢
  unfold signing_IsDigest_j1 at h
  refine Ev.ret ?_
  injection h with h; subst h
  exact ⟨_, rfl, .refl _⟩
theorem strings_IndexByte_spec (n : Nat) (a0 : List UInt8) (a1 : Int) (r : Int) (h : strings_IndexByte n a0 a1 = some r) : PSpec Tryd.prog 118 [.str a0, .int .u8 a1] (.int .i64 r) := by
 unfold strings_IndexByte at h
 injection h with h
 subst h
 exact k_IndexByte a0 a1
theorem lines_Validate_spec (n : Nat) (a0 : List (List UInt8)) (r : SCodeIndex) (h : lines_Validate n a0 = some r) : PSpec Tryd.prog 90 [.list 1 (List.map cS a0)] (.agg (SCodeIndex.cells r)) := by
 unfold lines_Validate at h
 refine spec_of Tryd.c_lines_Validate (by simp) ?_
 unfold Tryd.l_lines_Validate
 refine Ev.seq ?_
 refine W.reg hm ?_
 refine W.alloc (dt := true) rfl rfl rfl ?_
 refine W.nil ?_
 refine Ev.seq (Ev.seq ?_)
 refine W.reg hm ?_
 refine W.mv rfl ?_
 refine W.lenL (c := cS) rfl ?_
 refine W.gtr rfl rfl (W.nil ?_)
 refine Ev.cond rfl (fun c1 => ?_) (fun c1 => ?_)
 ·replace h := iteT h c1
  refine Ev.seq ?_
  refine W.reg hm ?_
  refine W.build (cs := [.int .i64 2, .int .i64 (-1)]) rfl rfl rfl ?_
  refine W.store (es' := [[.int .i64 2, .int .i64 (-1)]]) (dt := true) rfl rfl rfl rfl rfl (Nat.le_of_ble_eq_true rfl) rfl rfl rfl rfl ?_
  refine W.nil ?_
  refine Ev.ret ?_
  injection h with h; subst h
  exact ⟨_, rfl, .refl _⟩
 ·replace h := iteF h c1
  refine Ev.skip ?_
  refine Ev.seq (Ev.seq ?_)
  refine W.reg hm ?_
  refine W.mv rfl ?_
  refine W.lenL (c := cS) rfl ?_
  refine W.mv rfl (W.nil ?_)
  refine Ev.block ?_
  refine Ev.loopW (β := Nat × Int) (fun v => ⟨[(2, .pown 10100 0 0 0), (9, .list 1 (List.map cS a0)), (10, .int .i64 (a0.length : Int)), (11, .int .i64 v.2)], [(10100, ⟨0, 25, 2, [[.int .i64 0, .int .i64 0]], true, false, false⟩)], 2⟩) (fun v => lines_Validate_l1 n a0 v.1 v.2 = some r) (fun v => v.1) (n, 0) (Wk.nrmTo [2, 9, 10, 11] [(2, 10100)] rfl rfl) h ?_
  intro ⟨m1, x1⟩ h
  try dsimp only at h ⊢
  cases m1 with
  | zero => rw [lines_Validate_l1] at h; cases h
  | succ m1 =>
   rw [lines_Validate_l1] at h
   refine Ev.seq ?_
   refine W.reg hm ?_
   refine W.lss rfl rfl (W.nil ?_)
   refine Ev.seq ?_
   refine Ev.cond rfl (fun c2 => ?_) (fun c2 => ?_)
   ·replace h := iteT h c2
    refine Ev.skip ?_
    refine Ev.seq ?_
    refine Ev.block ?_
    refine Ev.seq ?_
    refine W.reg hm ?_
    refine W.mv rfl ?_
    obtain ⟨e2, k3, h⟩ := obind h
    refine W.idxL (c := cS) rfl rfl k3 ?_
    refine W.load rfl rfl (W.mv rfl ?_)
    refine W.mv rfl (W.nil ?_)
    refine Ev.seq (Ev.seq ?_)
    refine W.reg hm ?_
    refine W.mv rfl (W.slen rfl ?_)
    refine W.gtr rfl rfl (W.nil ?_)
    refine Ev.cond rfl (fun c4 => ?_) (fun c4 => ?_)
    ·replace h := iteT h c4
     refine Ev.seq ?_
     refine W.reg hm ?_
     refine W.mv rfl ?_
     refine W.build (cs := [.int .i64 2, .int .i64 x1]) rfl rfl rfl ?_
     refine W.store (es' := [[.int .i64 2, .int .i64 x1]]) (dt := true) rfl rfl rfl rfl rfl (Nat.le_of_ble_eq_true rfl) rfl rfl rfl rfl ?_
     refine W.nil ?_
     refine Ev.ret ?_
     injection h with h; subst h
     exact ⟨_, rfl, .refl _⟩
    ·replace h := iteF h c4
     refine Ev.skip ?_
     refine Ev.seq ?_
     refine W.reg hm ?_
     refine W.mv rfl ?_
     obtain ⟨r3, k5, h⟩ := obind h
     refine W.call (strings_IndexByte_spec n e2 10 r3 k5) rfl rfl (Les.refl _) rfl (.inl rfl) rfl ?_
     refine W.geq rfl rfl (W.nil ?_)
     refine Ev.cond rfl (fun c6 => ?_) (fun c6 => ?_)
     ·replace h := iteT h c6
      refine Ev.seq ?_
      refine W.reg hm ?_
      refine W.mv rfl ?_
      refine W.build (cs := [.int .i64 5, .int .i64 x1]) rfl rfl rfl ?_
      refine W.store (es' := [[.int .i64 5, .int .i64 x1]]) (dt := true) rfl rfl rfl rfl rfl (Nat.le_of_ble_eq_true rfl) rfl rfl rfl rfl ?_
      refine W.nil ?_
      refine Ev.ret ?_
      injection h with h; subst h
      exact ⟨_, rfl, .refl _⟩
     ·replace h := iteF h c6
      refine Ev.skip ?_
      refine W.reg hm ?_
      obtain ⟨x4, k7, h⟩ := obind h
      refine W.addG rfl rfl k7 ?_
      refine W.mv rfl (W.nil ?_)
      exact ⟨(m1, x4), h, Nat.lt_succ_self _, Wk.nrmTo [2, 9, 10, 11] [(10100, 10100)] rfl rfl⟩
   ·replace h := iteF h c2
    refine Ev.exit ?_
    refine Ev.seq ?_
    refine W.reg hm ?_
    refine W.build (cs := [.int .i64 0, .int .i64 0]) rfl rfl rfl ?_
    refine W.store (es' := [[.int .i64 0, .int .i64 0]]) (dt := true) rfl rfl rfl rfl rfl (Nat.le_of_ble_eq_true rfl) rfl rfl rfl rfl ?_
    refine W.nil ?_
    refine Ev.ret ?_
    injection h with h; subst h
    exact ⟨_, rfl, .refl _⟩
theorem lines_Second_spec (n : Nat) (a0 : List (List UInt8)) (a1 : Int) (r : SCodeIndex) (h : lines_Second n a0 a1 = some r) : PSpec Tryd.prog 53 [.list 1 (List.map cS a0), .int .i64 a1] (.agg (SCodeIndex.cells r)) := by
 unfold lines_Second at h
 refine spec_of Tryd.c_lines_Second (by simp) ?_
 unfold Tryd.l_lines_Second
 refine Ev.seq ?_
 refine W.reg hm ?_
 refine W.alloc (dt := true) rfl rfl rfl ?_
 refine W.nil ?_
 refine Ev.seq (Ev.seq ?_)
 refine W.reg hm ?_
 refine W.mv rfl ?_
 obtain ⟨r1, k1, h⟩ := obind h
 refine W.call (lines_Validate_spec n a0 r1 k1) rfl rfl (Les.refl _) rfl (.inl rfl) rfl ?_
 refine W.alloc (dt := true) rfl rfl rfl ?_
 refine W.store (es' := [[.int .i64 r1.Code, .int .i64 r1.Index]]) (dt := true) rfl rfl rfl rfl rfl (Nat.le_of_ble_eq_true rfl) rfl rfl rfl rfl ?_
 refine W.nil ?_
 refine Ev.seq ?_
 refine W.reg hm ?_
 refine W.loadO (p := .agg [.int .i64 r1.Code, .int .i64 r1.Index]) rfl rfl rfl rfl ?_
 refine W.build (cs := [.int .i64 0, .int .i64 0]) rfl rfl rfl ?_
 refine W.eqs rfl rfl rfl (W.nil ?_)
 refine Ev.cond rfl (fun c2 => ?_) (fun c2 => ?_)
 ·replace h := iteT h c2
  refine Ev.seq ?_
  refine W.reg hm ?_
  refine W.fieldAddrO rfl rfl ?_
  refine W.loadO (p := .int .i64 r1.Code) rfl rfl rfl rfl ?_
  refine W.mv rfl ?_
  refine W.build (cs := [.int .i64 r1.Code, .int .i64 a1]) rfl rfl rfl ?_
  refine W.store (es' := [[.int .i64 r1.Code, .int .i64 a1]]) (dt := true) rfl rfl rfl rfl rfl (Nat.le_of_ble_eq_true rfl) rfl rfl rfl rfl ?_
  refine W.nil ?_
  refine Ev.ret ?_
  injection h with h; subst h
  exact ⟨_, rfl, .refl _⟩
 ·replace h := iteF h c2
  refine Ev.skip ?_
  refine Ev.seq ?_
  refine W.reg hm ?_
  refine W.build (cs := [.int .i64 0, .int .i64 0]) rfl rfl rfl ?_
  refine W.store (es' := [[.int .i64 0, .int .i64 0]]) (dt := true) rfl rfl rfl rfl rfl (Nat.le_of_ble_eq_true rfl) rfl rfl rfl rfl ?_
  refine W.nil ?_
  refine Ev.ret ?_
  injection h with h; subst h
  exact ⟨_, rfl, .refl _⟩
set_option maxHeartbeats 4000000 in
theorem actioncache_Validate_spec (n : Nat) (a0 : List SKeyLines) (r : SCodeIndex) (h : actioncache_Validate n a0 = some r) : PSpec Tryd.prog 17 [.list 2 (List.map SKeyLines.cells a0)] (.agg (SCodeIndex.cells r)) := by
 unfold actioncache_Validate at h
 refine spec_of Tryd.c_actioncache_Validate (by simp) ?_
 unfold Tryd.l_actioncache_Validate
 refine Ev.seq ?_
 refine W.reg hm ?_
 refine W.alloc (dt := true) rfl rfl rfl ?_
 refine W.nil ?_
 refine Ev.seq (Ev.seq ?_)
 refine W.reg hm ?_
 refine W.mv rfl ?_
 refine W.lenL (c := SKeyLines.cells) rfl ?_
 refine W.gtr rfl rfl (W.nil ?_)
 refine Ev.cond rfl (fun c1 => ?_) (fun c1 => ?_)
 ·replace h := iteT h c1
  refine Ev.seq ?_
  refine W.reg hm ?_
  refine W.build (cs := [.int .i64 2, .int .i64 (-1)]) rfl rfl rfl ?_
  refine W.store (es' := [[.int .i64 2, .int .i64 (-1)]]) (dt := true) rfl rfl rfl rfl rfl (Nat.le_of_ble_eq_true rfl) rfl rfl rfl rfl ?_
  refine W.nil ?_
  refine Ev.ret ?_
  injection h with h; subst h
  exact ⟨_, rfl, .refl _⟩
 ·replace h := iteF h c1
  refine Ev.skip ?_
  refine Ev.seq (Ev.seq ?_)
  refine W.reg hm ?_
  refine W.mv rfl ?_
  refine W.lenL (c := SKeyLines.cells) rfl ?_
  refine W.mv rfl (W.nil ?_)
  refine Ev.block ?_
  refine Ev.loopW (β := Nat × Int) (fun v => ⟨[(0, .list 2 (List.map SKeyLines.cells a0)), (2, .pown 10100 0 0 0), (10, .list 2 (List.map SKeyLines.cells a0)), (11, .int .i64 (a0.length : Int)), (12, .int .i64 v.2)], [(10100, ⟨0, 25, 2, [[.int .i64 0, .int .i64 0]], true, false, false⟩)], 2⟩) (fun v => actioncache_Validate_l1 n a0 v.1 v.2 = some r) (fun v => v.1) (n, 0) (Wk.nrmTo [0, 2, 10, 11, 12] [(2, 10100)] rfl rfl) h ?_
  intro ⟨m1, x1⟩ h
  try dsimp only at h ⊢
  cases m1 with
  | zero => rw [actioncache_Validate_l1] at h; cases h
  | succ m1 =>
   rw [actioncache_Validate_l1] at h
   refine Ev.seq ?_
   refine W.reg hm ?_
   refine W.lss rfl rfl (W.nil ?_)
   refine Ev.seq ?_
   refine Ev.cond rfl (fun c2 => ?_) (fun c2 => ?_)
   ·replace h := iteT h c2
    refine Ev.skip ?_
    refine Ev.seq ?_
    refine Ev.block ?_
    refine Ev.seq ?_
    refine W.reg hm ?_
    refine W.mv rfl ?_
    obtain ⟨e2, k3, h⟩ := obind h
    refine W.idxL (c := SKeyLines.cells) rfl rfl k3 ?_
    refine W.load rfl rfl ?_
    refine W.alloc (dt := true) rfl rfl rfl ?_
    refine W.mv rfl ?_
    refine W.store (es' := [[.int .i64 e2.Key, .list 1 (List.map cS e2.Lines)]]) (dt := true) rfl rfl rfl rfl rfl (Nat.le_of_ble_eq_true rfl) rfl rfl rfl rfl ?_
    refine W.nil ?_
    refine Ev.seq (Ev.seq ?_)
    refine W.reg hm ?_
    refine W.fieldAddrO rfl rfl ?_
    refine W.loadO (p := .int .i64 e2.Key) rfl rfl rfl rfl ?_
    obtain ⟨r3, k4, h⟩ := obind h
    refine W.call (signing_IsDigest_spec n e2.Key r3 k4) rfl rfl (Les.refl _) rfl (.inl rfl) rfl ?_
    refine W.not rfl (W.nil ?_)
    refine Ev.cond rfl (fun c5 => ?_) (fun c5 => ?_)
    ·replace h := iteT h c5
     refine Ev.seq ?_
     refine W.reg hm ?_
     refine W.mv rfl ?_
     refine W.build (cs := [.int .i64 3, .int .i64 x1]) rfl rfl rfl ?_
     refine W.store (es' := [[.int .i64 3, .int .i64 x1]]) (dt := true) rfl rfl rfl rfl rfl (Nat.le_of_ble_eq_true rfl) rfl rfl rfl rfl ?_
     refine W.nil ?_
     refine Ev.ret ?_
     injection h with h; subst h
     exact ⟨_, rfl, .refl _⟩
    ·replace h := iteF h c5
     refine Ev.skip ?_
     refine Ev.seq ?_
     refine Ev.seqJ (γ := Bool) (fun v => ⟨[(0, .list 2 (List.map SKeyLines.cells a0)), (2, .pown 10200 0 0 0), (3, .int .i64 x1), (4, .pown 10201 0 0 0), (10, .list 2 (List.map SKeyLines.cells a0)), (11, .int .i64 (a0.length : Int)), (12, .int .i64 x1), (35, .bool v)], [(10200, ⟨0, 25, 2, [[.int .i64 0, .int .i64 0]], true, false, false⟩), (10201, ⟨0, 86, 2, [[.int .i64 e2.Key, .list 1 (List.map cS e2.Lines)]], true, false, false⟩)], 2⟩) (fun v => actioncache_Validate_j1 n x1 (actioncache_Validate_l1 n a0 m1) e2 v = some r) ?_ ?_
     ·refine W.regD hm ?_
      refine W.mv rfl (W.gtr rfl rfl ?_)
      refine W.mv rfl ?_
      refine W.split 25 rfl (fun c10 => ?_) (fun c10 => ?_)
      ·replace h := iteT h c10
       refine W.guardT rfl c10 ?_
       refine W.fieldAddrO rfl rfl ?_
       refine W.guardT rfl c10 ?_
       refine W.loadO (p := .int .i64 e2.Key) rfl rfl rfl rfl ?_
       refine W.guardT rfl c10 ?_
       refine W.mv rfl ?_
       refine W.guardT rfl c10 ?_
       refine W.mv rfl ?_
       refine W.guardT rfl c10 ?_
       obtain ⟨x7, k11, h⟩ := obind h
       refine W.subG rfl rfl k11 ?_
       refine W.guardT rfl c10 ?_
       obtain ⟨e8, k12, h⟩ := obind h
       refine W.idxL (c := SKeyLines.cells) rfl rfl k12 ?_
       refine W.guardT rfl c10 ?_
       refine W.fieldAddr rfl ?_
       refine W.guardT rfl c10 ?_
       refine W.load rfl rfl ?_
       refine W.guardT rfl c10 ?_
       refine W.leq rfl rfl ?_
       refine W.pickT rfl rfl rfl c10 ?_
       refine W.nil ⟨rfl, ?_⟩
       exact ⟨(decide (e2.Key ≤ e8.Key)), h, Wk.nrmTo [0, 2, 3, 4, 10, 11, 12, 35] [(10100, 10200), (4, 10201)] rfl rfl⟩
      ·replace h := iteF h c10
       refine W.guardF1 rfl c10 ?_
       refine W.guardF1 rfl c10 ?_
       refine W.guardF1 rfl c10 ?_
       refine W.guardF1 rfl c10 ?_
       refine W.guardF1 rfl c10 ?_
       refine W.guardF1 rfl c10 ?_
       refine W.guardF1 rfl c10 ?_
       refine W.guardF1 rfl c10 ?_
       refine W.guardF1 rfl c10 ?_
       refine W.pickN rfl rfl rfl c10 ?_
       refine W.nil ⟨rfl, ?_⟩
       exact ⟨false, h, Wk.nrmTo [0, 2, 3, 4, 10, 11, 12, 35] [(10100, 10200), (4, 10201)] rfl rfl⟩
     ·intro x4 h
      try dsimp only at h ⊢
      unfold actioncache_Validate_j1 at h
      refine Ev.cond rfl (fun c6 => ?_) (fun c6 => ?_)
      ·replace h := iteT h c6
       refine Ev.seq ?_
       refine W.reg hm ?_
       refine W.mv rfl ?_
       refine W.build (cs := [.int .i64 5, .int .i64 x1]) rfl rfl rfl ?_
       refine W.store (es' := [[.int .i64 5, .int .i64 x1]]) (dt := true) rfl rfl rfl rfl rfl (Nat.le_of_ble_eq_true rfl) rfl rfl rfl rfl ?_
       refine W.nil ?_
       refine Ev.ret ?_
       injection h with h; subst h
       exact ⟨_, rfl, .refl _⟩
      ·replace h := iteF h c6
       refine Ev.skip ?_
       refine Ev.seq ?_
       refine W.reg hm ?_
       refine W.fieldAddrO rfl rfl ?_
       refine W.loadO (p := .list 1 (List.map cS e2.Lines)) rfl rfl rfl rfl ?_
       refine W.mv rfl ?_
       obtain ⟨r5, k7, h⟩ := obind h
       refine W.call (lines_Second_spec n e2.Lines x1 r5 k7) rfl rfl (Les.refl _) rfl (.inl rfl) rfl ?_
       refine W.alloc (dt := true) rfl rfl rfl ?_
       refine W.store (es' := [[.int .i64 r5.Code, .int .i64 r5.Index]]) (dt := true) rfl rfl rfl rfl rfl (Nat.le_of_ble_eq_true rfl) rfl rfl rfl rfl ?_
       refine W.nil ?_
       refine Ev.seq ?_
       refine W.reg hm ?_
       refine W.loadO (p := .agg [.int .i64 r5.Code, .int .i64 r5.Index]) rfl rfl rfl rfl ?_
       refine W.build (cs := [.int .i64 0, .int .i64 0]) rfl rfl rfl ?_
       refine W.eqs rfl rfl rfl (W.nil ?_)
       refine Ev.cond rfl (fun c8 => ?_) (fun c8 => ?_)
       ·replace h := iteT h c8
        refine Ev.seq ?_
        refine W.reg hm ?_
        refine W.loadO (p := .agg [.int .i64 r5.Code, .int .i64 r5.Index]) rfl rfl rfl rfl ?_
        refine W.store (es' := [[.int .i64 r5.Code, .int .i64 r5.Index]]) (dt := true) rfl rfl rfl rfl rfl (Nat.le_of_ble_eq_true rfl) rfl rfl rfl rfl ?_
        refine W.nil ?_
        refine Ev.ret ?_
        injection h with h; subst h
        exact ⟨_, rfl, .refl _⟩
       ·replace h := iteF h c8
        refine Ev.skip ?_
        refine W.reg hm ?_
        obtain ⟨x6, k9, h⟩ := obind h
        refine W.addG rfl rfl k9 ?_
        refine W.mv rfl (W.nil ?_)
        exact ⟨(m1, x6), h, Nat.lt_succ_self _, Wk.nrmTo [0, 2, 10, 11, 12] [(10200, 10100)] rfl rfl⟩
   ·replace h := iteF h c2
    refine Ev.exit ?_
    refine Ev.seq ?_
    refine W.reg hm ?_
    refine W.build (cs := [.int .i64 0, .int .i64 0]) rfl rfl rfl ?_
    refine W.store (es' := [[.int .i64 0, .int .i64 0]]) (dt := true) rfl rfl rfl rfl rfl (Nat.le_of_ble_eq_true rfl) rfl rfl rfl rfl ?_
    refine W.nil ?_
    refine Ev.ret ?_
    injection h with h; subst h
    exact ⟨_, rfl, .refl _⟩
set_option maxHeartbeats 4000000 in
theorem actioncache_find_spec (n : Nat) (a0 : List SKeyLines) (a1 : Int) (r : (Int × Bool)) (h : actioncache_find n a0 a1 = some r) : PSpec Tryd.prog 55 [.list 2 (List.map SKeyLines.cells a0), .int .i64 a1] (.tup [.int .i64 r.1, .bool r.2]) := by
 unfold actioncache_find at h
 refine spec_of Tryd.c_actioncache_find (by simp) ?_
 unfold Tryd.l_actioncache_find
 refine Ev.seq ?_
 refine W.reg hm ?_
 refine W.mv rfl (W.mv rfl ?_)
 refine W.nil ?_
 refine Ev.seq ?_
 refine Ev.regS rfl ?_
 refine Sq.w 2 (Nat.le_of_ble_eq_true rfl) ?_
 refine W.mv rfl (W.mv rfl ?_)
 refine W.nil ?_
 refine Sq.call rfl Tryd.c_slices_BinarySearchFunc_api_CacheEntry_api_CacheEntry_int ⟨_, rfl, Nat.le_of_ble_eq_true rfl, ?_⟩
 unfold Tryd.l_slices_BinarySearchFunc_api_CacheEntry_api_CacheEntry_int
 refine Ev.retJ (γ := Int × Bool) (fun v => ⟨[(6, .int .i64 v.1), (7, .bool v.2), (65540, .int .i64 0), (65541, .bool false)], [], 2⟩) (fun v => actioncache_find_j1 n v.1 v.2 = some r) ?_ ?_
 ·refine Ev.seq ?_
  refine W.reg hm ?_
  refine W.mv rfl (W.mv rfl ?_)
  refine W.nil ?_
  refine Ev.seq ?_
  refine W.reg hm ?_
  refine W.mv rfl ?_
  refine W.lenL (c := SKeyLines.cells) rfl ?_
  refine W.mv rfl (W.nil ?_)
  refine Ev.seq ?_
  refine W.reg hm ?_
  refine W.mv rfl (W.mv rfl ?_)
  refine W.mv rfl (W.nil ?_)
  refine Ev.seqJ (γ := Int) (fun v => ⟨[(0, .list 2 (List.map SKeyLines.cells a0)), (1, .int .i64 a1), (2, .fn 92 [] []), (8, .int .i64 (a0.length : Int)), (9, .int .i64 v), (65540, .int .i64 0), (65541, .bool false)], [], 2⟩) (fun v => actioncache_find_j2 n a0 a1 v = some r) ?_ ?_
  ·refine Ev.block ?_
   refine Ev.loopW (β := Nat × Int × Int) (fun v => ⟨[(0, .list 2 (List.map SKeyLines.cells a0)), (1, .int .i64 a1), (2, .fn 92 [] []), (8, .int .i64 (a0.length : Int)), (9, .int .i64 v.2.1), (10, .int .i64 v.2.2), (65540, .int .i64 0), (65541, .bool false)], [], 2⟩) (fun v => actioncache_find_l1 n a0 a1 v.1 v.2.1 v.2.2 = some r) (fun v => v.1) (n, 0, (a0.length : Int)) (Wk.nrmTo [0, 1, 2, 8, 9, 10, 65540, 65541] [] rfl rfl) h ?_
   intro ⟨m1, x7, x8⟩ h
   try dsimp only at h ⊢
   cases m1 with
   | zero => rw [actioncache_find_l1] at h; cases h
   | succ m1 =>
    rw [actioncache_find_l1] at h
    refine Ev.seq (Ev.seq ?_)
    refine W.reg hm ?_
    refine W.mv rfl (W.mv rfl ?_)
    refine W.lss rfl rfl (W.nil ?_)
    refine Ev.cond rfl (fun c5 => ?_) (fun c5 => ?_)
    ·replace h := iteT h c5
     refine Ev.skip ?_
     refine Ev.block ?_
     refine Ev.seq ?_
     refine W.reg hm ?_
     refine W.mv rfl (W.mv rfl ?_)
     obtain ⟨x9, k6, h⟩ := obind h
     refine W.addG rfl rfl k6 ?_
     refine W.conv rfl rfl ?_
     refine W.shrC (n := 1) rfl rfl ?_
     refine W.conv rfl rfl (W.mv rfl ?_)
     refine W.nil ?_
     refine Ev.seq ?_
     refine Ev.regS rfl ?_
     refine Sq.w 6 (Nat.le_of_ble_eq_true rfl) ?_
     refine W.mv rfl (W.mv rfl ?_)
     refine W.mv rfl ?_
     obtain ⟨e10, k7, h⟩ := obind h
     refine W.idxL (c := SKeyLines.cells) rfl rfl k7 ?_
     refine W.load rfl rfl (W.mv rfl ?_)
     refine W.nil ?_
     refine Sq.callv (f := 92) rfl Tryd.b_actioncache_find_1 Tryd.c_actioncache_find_1 ⟨_, _, _, rfl, Nat.le_of_ble_eq_true rfl, ?_⟩
     unfold Tryd.l_actioncache_find_1
     refine Ev.retJ (γ := Int) (fun v => ⟨[(4, .int .i64 v), (65536, .list 2 (List.map SKeyLines.cells a0)), (65537, .int .i64 a1), (65538, .fn 92 [] []), (65544, .int .i64 (a0.length : Int)), (65545, .int .i64 x7), (65546, .int .i64 x8), (65547, .int .i64 (IntKind.wrap .i64 (kshr .u64 (IntKind.wrap .u64 x9) 1))), (131076, .int .i64 0), (131077, .bool false)], [], 2⟩) (fun v => actioncache_find_j5 n x7 x8 (actioncache_find_l1 n a0 a1 m1) x9 v = some r) ?_ ?_
     ·refine Ev.seq ?_
      refine W.reg hm ?_
      refine W.box (dt := true) (cs := [.int .i64 e10.Key, .list 1 (List.map cS e10.Lines)]) rfl rfl rfl rfl rfl rfl ?_
      refine W.mv rfl (W.nil ?_)
      refine Ev.seq ?_
      refine Ev.block ?_
      refine Ev.seq ?_
      refine W.reg hm ?_
      refine W.fieldAddrO rfl rfl ?_
      refine W.loadO (p := .int .i64 e10.Key) rfl rfl rfl rfl ?_
      refine W.mv rfl (W.lss rfl rfl ?_)
      refine W.mv rfl (W.nil ?_)
      refine Ev.cond rfl (fun c10 => ?_) (fun c10 => ?_)
      ·replace h := iteT h c10
       refine Ev.seq ?_
       refine W.reg hm ?_
       refine W.mv rfl (W.nil ?_)
       refine Ev.ret ?_
       exact ⟨(-1), h, Wk.nrmTo [4, 65536, 65537, 65538, 65544, 65545, 65546, 65547, 131076, 131077] [] rfl rfl⟩
      ·replace h := iteF h c10
       refine Ev.seq ?_
       refine W.reg hm ?_
       refine W.fieldAddrO rfl rfl ?_
       refine W.loadO (p := .int .i64 e10.Key) rfl rfl rfl rfl ?_
       refine W.mv rfl (W.gtr rfl rfl ?_)
       refine W.mv rfl (W.nil ?_)
       refine Ev.cond rfl (fun c11 => ?_) (fun c11 => ?_)
       ·replace h := iteT h c11
        refine Ev.seq ?_
        refine W.reg hm ?_
        refine W.mv rfl (W.nil ?_)
        refine Ev.ret ?_
        exact ⟨1, h, Wk.nrmTo [4, 65536, 65537, 65538, 65544, 65545, 65546, 65547, 131076, 131077] [] rfl rfl⟩
       ·replace h := iteF h c11
        refine Ev.skip ?_
        refine Ev.seq ?_
        refine W.reg hm ?_
        refine W.mv rfl (W.nil ?_)
        refine Ev.ret ?_
        exact ⟨0, h, Wk.nrmTo [4, 65536, 65537, 65538, 65544, 65545, 65546, 65547, 131076, 131077] [] rfl rfl⟩
     ·intro x11 h
      try dsimp only at h ⊢
      unfold actioncache_find_j5 at h
      refine ⟨_, rfl, ?_⟩
      refine Sq.wEnd (Nat.le_of_ble_eq_true rfl) ?_
      refine W.lss rfl rfl (W.nil ?_)
      refine Ev.cond rfl (fun c8 => ?_) (fun c8 => ?_)
      ·replace h := iteT h c8
       refine W.reg hm ?_
       refine W.mv rfl ?_
       obtain ⟨x12, k9, h⟩ := obind h
       refine W.addG rfl rfl k9 ?_
       refine W.mv rfl (W.nil ?_)
       exact ⟨(m1, x12, x8), h, Nat.lt_succ_self _, Wk.nrmTo [0, 1, 2, 8, 9, 10, 65540, 65541] [] rfl rfl⟩
      ·replace h := iteF h c8
       refine W.reg hm ?_
       refine W.mv rfl (W.mv rfl ?_)
       refine W.nil ?_
       exact ⟨(m1, x7, (IntKind.wrap .i64 (kshr .u64 (IntKind.wrap .u64 x9) 1))), h, Nat.lt_succ_self _, Wk.nrmTo [0, 1, 2, 8, 9, 10, 65540, 65541] [] rfl rfl⟩
    ·replace h := iteF h c5
     refine Ev.exit ?_
     exact ⟨x7, h, Wk.nrmTo [0, 1, 2, 8, 9, 65540, 65541] [] rfl rfl⟩
  ·intro x3 h
   try dsimp only at h ⊢
   unfold actioncache_find_j2 at h
   refine Ev.seqJ (γ := Bool) (fun v => ⟨[(6, .int .i64 x3), (7, .bool v), (65540, .int .i64 0), (65541, .bool false)], [], 2⟩) (fun v => actioncache_find_j3 n x3 v = some r) ?_ ?_
   ·refine Ev.regS rfl ?_
    refine Sq.w 11 (Nat.le_of_ble_eq_true rfl) ?_
    refine W.mv rfl (W.mv rfl ?_)
    refine W.mv rfl (W.lss rfl rfl ?_)
    refine W.mv rfl ?_
    refine W.split 39 rfl (fun c1 => ?_) (fun c1 => ?_)
    ·replace h := iteT h c1
     refine W.guardT rfl c1 ?_
     refine W.mv rfl ?_
     refine W.guardT rfl c1 ?_
     refine W.mv rfl ?_
     refine W.guardT rfl c1 ?_
     refine W.mv rfl ?_
     refine W.guardT rfl c1 ?_
     obtain ⟨e5, k2, h⟩ := obind h
     refine W.idxL (c := SKeyLines.cells) rfl rfl k2 ?_
     refine W.guardT rfl c1 ?_
     refine W.load rfl rfl ?_
     refine W.guardT rfl c1 ?_
     refine W.mv rfl (W.nil ?_)
     refine Sq.callvG (f := 92) rfl Tryd.b_actioncache_find_1 Tryd.c_actioncache_find_1 (lookT rfl c1) ⟨_, _, _, rfl, Nat.le_of_ble_eq_true rfl, ?_⟩
     unfold Tryd.l_actioncache_find_1
     refine Ev.retJ (γ := Int) (fun v => ⟨[(4, .int .i64 v), (65571, .int .i64 x3), (65575, .bool (decide (x3 < (a0.length : Int)))), (131076, .int .i64 0), (131077, .bool false)], [], 2⟩) (fun v => actioncache_find_j4 n x3 v = some r) ?_ ?_
     ·refine Ev.seq ?_
      refine W.reg hm ?_
      refine W.box (dt := true) (cs := [.int .i64 e5.Key, .list 1 (List.map cS e5.Lines)]) rfl rfl rfl rfl rfl rfl ?_
      refine W.mv rfl (W.nil ?_)
      refine Ev.seq ?_
      refine Ev.block ?_
      refine Ev.seq ?_
      refine W.reg hm ?_
      refine W.fieldAddrO rfl rfl ?_
      refine W.loadO (p := .int .i64 e5.Key) rfl rfl rfl rfl ?_
      refine W.mv rfl (W.lss rfl rfl ?_)
      refine W.mv rfl (W.nil ?_)
      refine Ev.cond rfl (fun c3 => ?_) (fun c3 => ?_)
      ·replace h := iteT h c3
       refine Ev.seq ?_
       refine W.reg hm ?_
       refine W.mv rfl (W.nil ?_)
       refine Ev.ret ?_
       exact ⟨(-1), h, Wk.nrmTo [4, 65571, 65575, 131076, 131077] [] rfl rfl⟩
      ·replace h := iteF h c3
       refine Ev.seq ?_
       refine W.reg hm ?_
       refine W.fieldAddrO rfl rfl ?_
       refine W.loadO (p := .int .i64 e5.Key) rfl rfl rfl rfl ?_
       refine W.mv rfl (W.gtr rfl rfl ?_)
       refine W.mv rfl (W.nil ?_)
       refine Ev.cond rfl (fun c4 => ?_) (fun c4 => ?_)
       ·replace h := iteT h c4
        refine Ev.seq ?_
        refine W.reg hm ?_
        refine W.mv rfl (W.nil ?_)
        refine Ev.ret ?_
        exact ⟨1, h, Wk.nrmTo [4, 65571, 65575, 131076, 131077] [] rfl rfl⟩
       ·replace h := iteF h c4
        refine Ev.skip ?_
        refine Ev.seq ?_
        refine W.reg hm ?_
        refine W.mv rfl (W.nil ?_)
        refine Ev.ret ?_
        exact ⟨0, h, Wk.nrmTo [4, 65571, 65575, 131076, 131077] [] rfl rfl⟩
     ·intro x6 h
      try dsimp only at h ⊢
      unfold actioncache_find_j4 at h
      refine ⟨_, rfl, ?_⟩
      refine Sq.wEnd (Nat.le_of_ble_eq_true rfl) ?_
      refine W.guardT rfl c1 ?_
      refine W.eql rfl rfl ?_
      refine W.pickT rfl rfl rfl c1 ?_
      refine W.mv rfl (W.mv rfl ?_)
      refine W.nil ?_
      exact ⟨(decide (x6 = 0)), h, Wk.nrmTo [6, 7, 65540, 65541] [] rfl rfl⟩
    ·replace h := iteF h c1
     refine W.guardF1 rfl c1 ?_
     refine W.guardF1 rfl c1 ?_
     refine W.guardF1 rfl c1 ?_
     refine W.guardF1 rfl c1 ?_
     refine W.guardF1 rfl c1 ?_
     refine W.guardF1 rfl c1 ?_
     refine W.nil ?_
     refine Sq.off rfl (.inl (lookT rfl c1)) ?_
     refine Sq.wEnd (Nat.le_of_ble_eq_true rfl) ?_
     refine W.guardF1 rfl c1 ?_
     refine W.pickN rfl rfl rfl c1 ?_
     refine W.mv rfl (W.mv rfl ?_)
     refine W.nil ?_
     exact ⟨false, h, Wk.nrmTo [6, 7, 65540, 65541] [] rfl rfl⟩
   ·intro x4 h
    try dsimp only at h ⊢
    unfold actioncache_find_j3 at h
    refine Ev.ret ?_
    exact ⟨(x3, x4), h, Wk.nrmTo [6, 7, 65540, 65541] [] rfl rfl⟩
 ·intro ⟨x1, x2⟩ h
  try dsimp only at h ⊢
  unfold actioncache_find_j1 at h
  refine ⟨_, rfl, ?_⟩
  refine Sq.wEnd (Nat.le_of_ble_eq_true rfl) ?_
  refine W.extract rfl rfl (W.extract rfl rfl ?_)
  refine W.mv rfl (W.mv rfl ?_)
  refine W.nil ?_
  refine Ev.ret ?_
  injection h with h; subst h
  exact ⟨_, rfl, .refl _⟩
end Go.Proofs.YtlkknmhhefjmjaaDoor
namespace Go.Proofs.YtlkknmhhefjmjaaDoor
open Go.PW Go
set_option maxHeartbeats 4000000 in
theorem slices_Clone_string_spec (n : Nat) (a0 : List (List UInt8)) (r : List (List UInt8)) (h : slices_Clone_string n a0 = some r) : PSpec Tryd.prog 56 [.list 1 (List.map cS a0)] (.list 1 (List.map cS r)) := by
 unfold slices_Clone_string at h
 refine spec_of Tryd.c_slices_Clone_string (by simp) ?_
 unfold Tryd.l_slices_Clone_string
 cases a0 with
 | nil =>
  refine Ev.nilSplit 0 1 rfl (by decide) ?_ ?_
  ·refine Ev.seq ?_
   refine W.reg hm ?_
   refine W.mv rfl (W.nil ?_)
   refine Ev.seq (Ev.seq ?_)
   refine W.reg hm ?_
   refine W.mv rfl (W.isnilN rfl ?_)
   refine W.nil ?_
   refine Ev.condT rfl rfl ?_
   refine Ev.seq ?_
   refine W.reg hm ?_
   refine W.mv rfl (W.nil ?_)
   obtain ⟨w9, k9, h⟩ := obind h
   injection h with h; subst h
   have e9 := (gapp_some k9).2
   simp only [List.nil_append] at e9
   subst e9
   refine Ev.ret ?_
   exact ⟨_, rfl, .nils 1⟩
  ·refine Ev.seq ?_
   refine W.reg hm ?_
   refine W.mv rfl (W.nil ?_)
   refine Ev.seq (Ev.seq ?_)
   refine W.reg hm ?_
   refine W.mv rfl (W.isnilZ rfl ?_)
   refine W.nil ?_
   refine Ev.condF rfl rfl ?_
   refine Ev.skip ?_
   refine Ev.seq ?_
   refine Ev.weak ?_ (Wk.le (t := 0) rfl (.nz 1))
   refine W.reg hm ?_
   refine W.mkSlice (dt := true) (es := []) rfl rfl rfl rfl rfl rfl ?_
   refine W.mv rfl ?_
   obtain ⟨w1, k1, h⟩ := obind h
   refine W.appR true (l := ([] : List (List UInt8))) (c := cS) (ys := ([] : List (List UInt8))) rfl rfl rfl rfl rfl rfl rfl rfl k1 rfl (by simp) ?_
   refine W.mv rfl (W.nil ?_)
   refine Ev.ret ?_
   injection h with h; subst h
   exact ⟨_, rfl, .refl _⟩
 | cons x9 xs9 =>
  refine Ev.seq ?_
  refine W.reg hm ?_
  refine W.mv rfl (W.nil ?_)
  refine Ev.seq (Ev.seq ?_)
  refine W.reg hm ?_
  refine W.mv rfl (W.isnilC rfl ?_)
  refine W.nil ?_
  refine Ev.condF rfl rfl ?_
  refine Ev.skip ?_
  refine Ev.seq ?_
  refine W.reg hm ?_
  refine W.mkSlice (dt := true) (es := []) rfl rfl rfl rfl rfl rfl ?_
  refine W.mv rfl ?_
  obtain ⟨w1, k1, h⟩ := obind h
  refine W.appR true (l := ([] : List (List UInt8))) (c := cS) (ys := (x9 :: xs9)) rfl rfl rfl rfl rfl rfl rfl rfl k1 rfl (by simp) ?_
  refine W.mv rfl (W.nil ?_)
  refine Ev.ret ?_
  injection h with h; subst h
  exact ⟨_, rfl, .refl _⟩
theorem slices_Clone_string_own (n : Nat) (a0 : List (List UInt8)) (r : List (List UInt8)) (h : slices_Clone_string n a0 = some r) : PMut Tryd.prog 56 [.list 1 (List.map cS a0)] [] (.own 70000 0) [(70000, ⟨0, 9, 1, List.map cS r, true, false, false⟩)] := by
 unfold slices_Clone_string at h
 refine specMut_of Tryd.c_slices_Clone_string (by simp) (by simp) ?_
 unfold Tryd.l_slices_Clone_string
 cases a0 with
 | nil =>
  refine Ev.nilSplit 0 1 rfl (by decide) ?_ ?_
  ·refine Ev.seq ?_
   refine W.reg hm ?_
   refine W.mv rfl (W.nil ?_)
   refine Ev.seq (Ev.seq ?_)
   refine W.reg hm ?_
   refine W.mv rfl (W.isnilN rfl ?_)
   refine W.nil ?_
   refine Ev.condT rfl rfl ?_
   refine Ev.seq ?_
   refine W.reg hm ?_
   refine W.mv rfl (W.nil ?_)
   obtain ⟨w9, k9, h⟩ := obind h
   injection h with h; subst h
   have e9 := (gapp_some k9).2
   simp only [List.nil_append] at e9
   subst e9
   refine Ev.weak ?_ (Wk.ownNil 2 69999 9 1 rfl rfl)
   refine Ev.ret ?_
   exact ⟨_, _, Wk.nrmTo [2] [(69999, 70000)] rfl rfl, rfl, rfl, rfl, .refl _, fun nm h => by simp [PW.look] at h⟩
  ·refine Ev.seq ?_
   refine W.reg hm ?_
   refine W.mv rfl (W.nil ?_)
   refine Ev.seq (Ev.seq ?_)
   refine W.reg hm ?_
   refine W.mv rfl (W.isnilZ rfl ?_)
   refine W.nil ?_
   refine Ev.condF rfl rfl ?_
   refine Ev.skip ?_
   refine Ev.seq ?_
   refine Ev.weak ?_ (Wk.le (t := 0) rfl (.nz 1))
   refine W.reg hm ?_
   refine W.mkSlice (dt := true) (es := []) rfl rfl rfl rfl rfl rfl ?_
   refine W.mv rfl ?_
   obtain ⟨w1, k1, h⟩ := obind h
   refine W.appR true (l := ([] : List (List UInt8))) (c := cS) (ys := ([] : List (List UInt8))) rfl rfl rfl rfl rfl rfl rfl rfl k1 rfl (by simp) ?_
   refine W.mv rfl (W.nil ?_)
   refine Ev.ret ?_
   injection h with h; subst h
   exact ⟨_, _, Wk.nrmTo [2] [(7, 70000)] rfl rfl, rfl, rfl, rfl, .refl _, fun nm h => by simp [PW.look] at h⟩
 | cons x9 xs9 =>
  refine Ev.seq ?_
  refine W.reg hm ?_
  refine W.mv rfl (W.nil ?_)
  refine Ev.seq (Ev.seq ?_)
  refine W.reg hm ?_
  refine W.mv rfl (W.isnilC rfl ?_)
  refine W.nil ?_
  refine Ev.condF rfl rfl ?_
  refine Ev.skip ?_
  refine Ev.seq ?_
  refine W.reg hm ?_
  refine W.mkSlice (dt := true) (es := []) rfl rfl rfl rfl rfl rfl ?_
  refine W.mv rfl ?_
  obtain ⟨w1, k1, h⟩ := obind h
  refine W.appR true (l := ([] : List (List UInt8))) (c := cS) (ys := (x9 :: xs9)) rfl rfl rfl rfl rfl rfl rfl rfl k1 rfl (by simp) ?_
  refine W.mv rfl (W.nil ?_)
  refine Ev.ret ?_
  injection h with h; subst h
  exact ⟨_, _, Wk.nrmTo [2] [(7, 70000)] rfl rfl, rfl, rfl, rfl, .refl _, fun nm h => by simp [PW.look] at h⟩
theorem actioncache_Lookup_spec (n : Nat) (a0 : List SKeyLines) (a1 : Int) (r : ((List (List UInt8)) × Bool × SCodeIndex)) (h : actioncache_Lookup n a0 a1 = some r) : PSpec Tryd.prog 21 [.list 2 (List.map SKeyLines.cells a0), .int .i64 a1] (.tup [.list 1 (List.map cS r.1), .bool r.2.1, .agg (SCodeIndex.cells r.2.2)]) := by
 unfold actioncache_Lookup at h
 refine spec_of Tryd.c_actioncache_Lookup (by simp) ?_
 unfold Tryd.l_actioncache_Lookup
 refine Ev.seq ?_
 refine W.reg hm ?_
 refine W.mv rfl (W.mv rfl ?_)
 refine W.alloc (dt := true) rfl rfl rfl ?_
 refine W.nil ?_
 refine Ev.seq (Ev.seq ?_)
 refine W.reg hm ?_
 refine W.mv rfl ?_
 obtain ⟨r1, k1, h⟩ := obind h
 refine W.call (actioncache_Validate_spec n a0 r1 k1) rfl rfl (Les.refl _) rfl (.inl rfl) rfl ?_
 refine W.alloc (dt := true) rfl rfl rfl ?_
 refine W.store (es' := [[.int .i64 r1.Code, .int .i64 r1.Index]]) (dt := true) rfl rfl rfl rfl rfl (Nat.le_of_ble_eq_true rfl) rfl rfl rfl rfl ?_
 refine W.nil ?_
 refine Ev.seq ?_
 refine W.reg hm ?_
 refine W.loadO (p := .agg [.int .i64 r1.Code, .int .i64 r1.Index]) rfl rfl rfl rfl ?_
 refine W.build (cs := [.int .i64 0, .int .i64 0]) rfl rfl rfl ?_
 refine W.eqs rfl rfl rfl (W.nil ?_)
 refine Ev.cond rfl (fun c2 => ?_) (fun c2 => ?_)
 ·replace h := iteT h c2
  refine Ev.seq ?_
  refine W.regD hm ?_
  refine W.loadO (p := .agg [.int .i64 r1.Code, .int .i64 r1.Index]) rfl rfl rfl rfl ?_
  refine W.mv rfl (W.mv rfl ?_)
  refine W.store (es' := [[.int .i64 r1.Code, .int .i64 r1.Index]]) (dt := true) rfl rfl rfl rfl rfl (Nat.le_of_ble_eq_true rfl) rfl rfl rfl rfl ?_
  refine W.nil ⟨rfl, ?_⟩
  refine Ev.ret ?_
  injection h with h; subst h
  exact ⟨_, rfl, Le.tups (.cons (.nils 1) (.cons (.refl _) (.cons (.refl _) (.nil))))⟩
 ·replace h := iteF h c2
  refine Ev.skip ?_
  refine Ev.seq (Ev.seq ?_)
  refine W.reg hm ?_
  refine W.mv rfl ?_
  obtain ⟨r2, k3, h⟩ := obind h
  refine W.call (signing_IsDigest_spec n a1 r2 k3) rfl rfl (Les.refl _) rfl (.inl rfl) rfl ?_
  refine W.not rfl (W.nil ?_)
  refine Ev.cond rfl (fun c4 => ?_) (fun c4 => ?_)
  ·replace h := iteT h c4
   refine Ev.seq ?_
   refine W.reg hm ?_
   refine W.build (cs := [.int .i64 3, .int .i64 (-2)]) rfl rfl rfl ?_
   refine W.mv rfl (W.mv rfl ?_)
   refine W.store (es' := [[.int .i64 3, .int .i64 (-2)]]) (dt := true) rfl rfl rfl rfl rfl (Nat.le_of_ble_eq_true rfl) rfl rfl rfl rfl ?_
   refine W.nil ?_
   refine Ev.ret ?_
   injection h with h; subst h
   exact ⟨_, rfl, Le.tups (.cons (.nils 1) (.cons (.refl _) (.cons (.refl _) (.nil))))⟩
  ·replace h := iteF h c4
   refine Ev.skip ?_
   refine Ev.seq ?_
   refine W.reg hm ?_
   refine W.mv rfl (W.mv rfl ?_)
   obtain ⟨r3, k5, h⟩ := obind h
   refine W.call (actioncache_find_spec n a0 a1 r3 k5) rfl rfl (Les.refl _) rfl (.inl rfl) rfl ?_
   refine W.mv rfl (W.extract rfl rfl ?_)
   refine W.extract rfl rfl (W.mv rfl ?_)
   refine W.mv rfl (W.nil ?_)
   refine Ev.seq (Ev.seq ?_)
   refine W.reg hm ?_
   refine W.mv rfl (W.not rfl ?_)
   refine W.nil ?_
   refine Ev.cond rfl (fun c6 => ?_) (fun c6 => ?_)
   ·replace h := iteT h c6
    refine Ev.seq ?_
    refine W.reg hm ?_
    refine W.build (cs := [.int .i64 0, .int .i64 0]) rfl rfl rfl ?_
    refine W.mv rfl (W.mv rfl ?_)
    refine W.store (es' := [[.int .i64 0, .int .i64 0]]) (dt := true) rfl rfl rfl rfl rfl (Nat.le_of_ble_eq_true rfl) rfl rfl rfl rfl ?_
    refine W.nil ?_
    refine Ev.ret ?_
    injection h with h; subst h
    exact ⟨_, rfl, Le.tups (.cons (.nils 1) (.cons (.refl _) (.cons (.refl _) (.nil))))⟩
   ·replace h := iteF h c6
    refine Ev.skip ?_
    refine Ev.seq ?_
    refine W.reg hm ?_
    refine W.mv rfl (W.mv rfl ?_)
    obtain ⟨e4, k7, h⟩ := obind h
    refine W.idxL (c := SKeyLines.cells) rfl rfl k7 ?_
    refine W.fieldAddr rfl (W.load rfl rfl ?_)
    obtain ⟨r5, k8, h⟩ := obind h
    refine W.callO (slices_Clone_string_own n e4.Lines r5 k8) rfl (Les.refl _) rfl rfl rfl ?_
    refine W.build (cs := [.int .i64 0, .int .i64 0]) rfl rfl rfl ?_
    refine W.mv rfl (W.mv rfl ?_)
    refine W.store (es' := [[.int .i64 0, .int .i64 0]]) (dt := true) rfl rfl rfl rfl rfl (Nat.le_of_ble_eq_true rfl) rfl rfl rfl rfl ?_
    refine W.nil ?_
    refine Ev.ret ?_
    injection h with h; subst h
    exact ⟨_, rfl, .refl _⟩
theorem ref6_Strings_spec (n : Nat) (a0 : List (List UInt8)) (a1 : List (List UInt8)) (r : Bool) (h : ref6_Strings n a0 a1 = some r) : PSpec Tryd.prog 22 [.list 1 (List.map cS a0), .list 1 (List.map cS a1)] (.bool r) := by
 unfold ref6_Strings at h
 refine spec_of Tryd.c_ref6_Strings (by simp) ?_
 unfold Tryd.l_ref6_Strings
 refine Ev.seq ?_
 refine W.reg hm ?_
 refine W.mv rfl (W.nil ?_)
 refine Ev.seq (Ev.seq ?_)
 refine W.reg hm ?_
 refine W.mv rfl ?_
 refine W.lenL (c := cS) rfl ?_
 refine W.mv rfl ?_
 refine W.lenL (c := cS) rfl ?_
 refine W.neq rfl rfl (W.nil ?_)
 refine Ev.cond rfl (fun c1 => ?_) (fun c1 => ?_)
 ·replace h := iteT h c1
  refine Ev.seq ?_
  refine W.reg hm ?_
  refine W.mv rfl (W.nil ?_)
  refine Ev.ret ?_
  injection h with h; subst h
  exact ⟨_, rfl, .refl _⟩
 ·replace h := iteF h c1
  refine Ev.skip ?_
  refine Ev.seq (Ev.seq ?_)
  refine W.reg hm ?_
  refine W.mv rfl (W.nil ?_)
  refine Ev.block ?_
  refine Ev.loopW (β := Nat × Int) (fun v => ⟨[(0, .list 1 (List.map cS a0)), (1, .list 1 (List.map cS a1)), (5, .int .i64 v.2)], [], 2⟩) (fun v => ref6_Strings_l1 n a0 a1 v.1 v.2 = some r) (fun v => v.1) (n, 0) (Wk.nrmTo [0, 1, 5] [] rfl rfl) h ?_
  intro ⟨m1, x1⟩ h
  try dsimp only at h ⊢
  cases m1 with
  | zero => rw [ref6_Strings_l1] at h; cases h
  | succ m1 =>
   rw [ref6_Strings_l1] at h
   refine Ev.seq (Ev.seq ?_)
   refine W.reg hm ?_
   refine W.mv rfl (W.mv rfl ?_)
   refine W.lenL (c := cS) rfl ?_
   refine W.lss rfl rfl (W.nil ?_)
   refine Ev.cond rfl (fun c2 => ?_) (fun c2 => ?_)
   ·replace h := iteT h c2
    refine Ev.skip ?_
    refine Ev.seq ?_
    refine Ev.block ?_
    refine Ev.seq ?_
    refine W.regD hm ?_
    refine W.mv rfl (W.mv rfl ?_)
    obtain ⟨e2, k3, h⟩ := obind h
    refine W.idxL (c := cS) rfl rfl k3 ?_
    refine W.load rfl rfl (W.mv rfl ?_)
    refine W.mv rfl ?_
    obtain ⟨e3, k4, h⟩ := obind h
    refine W.idxL (c := cS) rfl rfl k4 ?_
    refine W.load rfl rfl (W.sneq rfl rfl ?_)
    refine W.nil ⟨rfl, ?_⟩
    refine Ev.cond rfl (fun c5 => ?_) (fun c5 => ?_)
    ·replace h := iteT h c5
     refine Ev.seq ?_
     refine W.reg hm ?_
     refine W.mv rfl (W.nil ?_)
     refine Ev.ret ?_
     injection h with h; subst h
     exact ⟨_, rfl, .refl _⟩
    ·replace h := iteF h c5
     refine Ev.skip ?_
     refine W.reg hm ?_
     refine W.mv rfl ?_
     obtain ⟨x4, k6, h⟩ := obind h
     refine W.addG rfl rfl k6 ?_
     refine W.mv rfl (W.nil ?_)
     exact ⟨(m1, x4), h, Nat.lt_succ_self _, Wk.nrmTo [0, 1, 5] [] rfl rfl⟩
   ·replace h := iteF h c2
    refine Ev.exit ?_
    refine Ev.seq ?_
    refine W.reg hm ?_
    refine W.mv rfl (W.nil ?_)
    refine Ev.ret ?_
    injection h with h; subst h
    exact ⟨_, rfl, .refl _⟩
theorem actioncache_clone_spec (n : Nat) (a0 : List SKeyLines) (r : (List SKeyLines)) (h : actioncache_clone n a0 = some r) : PMut Tryd.prog 58 [.list 2 (List.map SKeyLines.cells a0)] [] (.own 70000 0) [(70000, ⟨0, 86, 2, List.map SKeyLines.cells r, true, false, false⟩)] := by
 unfold actioncache_clone at h
 refine specMut_of Tryd.c_actioncache_clone (by simp) (by simp) ?_
 unfold Tryd.l_actioncache_clone
 refine Ev.seq ?_
 refine W.reg hm ?_
 refine W.mv rfl (W.nil ?_)
 refine Ev.seq ?_
 refine W.reg hm ?_
 refine W.mv rfl (W.nil ?_)
 refine Ev.seq (Ev.seq ?_)
 refine W.reg hm ?_
 refine W.mv rfl ?_
 refine W.lenL (c := SKeyLines.cells) rfl ?_
 refine W.mv rfl (W.nil ?_)
 refine Ev.block ?_
 refine Ev.loopW (β := Nat × (List SKeyLines) × Int) (fun v => ⟨[(3, .own 10100 0), (6, .list 2 (List.map SKeyLines.cells a0)), (7, .int .i64 (a0.length : Int)), (8, .int .i64 v.2.2)], [(10100, ⟨0, 86, 2, List.map SKeyLines.cells v.2.1, true, false, false⟩)], 2⟩) (fun v => actioncache_clone_l1 n a0 v.1 v.2.1 v.2.2 = some r) (fun v => v.1) (n, ([] : List SKeyLines), 0) ((Wk.ownNil 3 30100 86 2 rfl rfl true).trans (Wk.nrmTo [3, 6, 7, 8] [(30100, 10100)] rfl rfl)) h ?_
 intro ⟨m1, w1, x2⟩ h
 try dsimp only at h ⊢
 cases m1 with
 | zero => rw [actioncache_clone_l1] at h; cases h
 | succ m1 =>
  rw [actioncache_clone_l1] at h
  refine Ev.seq ?_
  refine W.reg hm ?_
  refine W.lss rfl rfl (W.nil ?_)
  refine Ev.seq ?_
  refine Ev.cond rfl (fun c1 => ?_) (fun c1 => ?_)
  ·replace h := iteT h c1
   refine Ev.skip ?_
   refine Ev.seq ?_
   refine Ev.block ?_
   refine Ev.seq ?_
   refine W.reg hm ?_
   obtain ⟨e3, k2, h⟩ := obind h
   refine W.idxL (c := SKeyLines.cells) rfl rfl k2 ?_
   refine W.load rfl rfl ?_
   refine W.alloc (dt := true) rfl rfl rfl ?_
   refine W.store (es' := [[.int .i64 e3.Key, .list 1 (List.map cS e3.Lines)]]) (dt := true) rfl rfl rfl rfl rfl (Nat.le_of_ble_eq_true rfl) rfl rfl rfl rfl ?_
   refine W.nil ?_
   refine W.regD hm ?_
   refine W.mv rfl (W.fieldAddrO rfl rfl ?_)
   refine W.loadO (p := .int .i64 e3.Key) rfl rfl rfl rfl ?_
   refine W.fieldAddrO rfl rfl ?_
   refine W.loadO (p := .list 1 (List.map cS e3.Lines)) rfl rfl rfl rfl ?_
   obtain ⟨r4, k3, h⟩ := obind h
   refine W.call (slices_Clone_string_spec n e3.Lines r4 k3) rfl rfl (Les.refl _) rfl (.inl rfl) rfl ?_
   refine W.build (cs := [.int .i64 e3.Key, .list 1 (List.map cS r4)]) rfl rfl rfl ?_
   refine W.mkSlice (dt := true) (es := [[.int .i64 e3.Key, .list 1 (List.map cS r4)]]) rfl rfl rfl rfl rfl rfl ?_
   obtain ⟨w5, k4, h⟩ := obind h
   refine W.appR true (l := w1) (c := SKeyLines.cells) (ys := ([(⟨e3.Key, r4⟩ : SKeyLines)] : List SKeyLines)) rfl rfl rfl rfl rfl rfl rfl rfl k4 rfl (by simp) ?_
   refine W.mv rfl ?_
   refine W.nil ⟨rfl, ?_⟩
   refine W.reg hm ?_
   obtain ⟨x6, k5, h⟩ := obind h
   refine W.addG rfl rfl k5 ?_
   refine W.mv rfl (W.nil ?_)
   exact ⟨(m1, w5, x6), h, Nat.lt_succ_self _, Wk.nrmTo [3, 6, 7, 8] [(20, 10100)] rfl rfl⟩
  ·replace h := iteF h c1
   refine Ev.exit ?_
   refine Ev.seq ?_
   refine W.reg hm ?_
   refine W.mv rfl (W.mv rfl ?_)
   refine W.nil ?_
   refine Ev.ret ?_
   injection h with h; subst h
   exact ⟨_, _, Wk.nrmTo [2] [(10100, 70000)] rfl rfl, rfl, rfl, rfl, .refl _, fun nm h => by simp [PW.look] at h⟩
set_option maxHeartbeats 4000000 in
theorem actioncache_Store_spec (n : Nat) (a0 : List SKeyLines) (a1 : Int) (a2 : List (List UInt8)) (r : ((List SKeyLines) × SCodeIndex)) (h : actioncache_Store n a0 a1 a2 = some r) : PSpec Tryd.prog 24 [.list 2 (List.map SKeyLines.cells a0), .int .i64 a1, .list 1 (List.map cS a2)] (.tup [.list 2 (List.map SKeyLines.cells r.1), .agg (SCodeIndex.cells r.2)]) := by
 unfold actioncache_Store at h
 refine spec_of Tryd.c_actioncache_Store (by simp) ?_
 unfold Tryd.l_actioncache_Store
 refine Ev.seq ?_
 refine W.reg hm ?_
 refine W.mv rfl ?_
 refine W.alloc (dt := true) rfl rfl rfl ?_
 refine W.nil ?_
 refine Ev.seq ?_
 refine W.reg hm ?_
 refine W.mv rfl (W.mv rfl ?_)
 obtain ⟨r1, k1, h⟩ := obind h
 refine W.call (actioncache_Lookup_spec n a0 a1 r1 k1) rfl rfl (Les.refl _) rfl (.inl rfl) rfl ?_
 refine W.mv rfl (W.extract rfl rfl ?_)
 refine W.extract rfl rfl (W.extract rfl rfl ?_)
 refine W.alloc (dt := true) rfl rfl rfl ?_
 refine W.mv rfl (W.mv rfl ?_)
 refine W.store (es' := [[.int .i64 r1.2.2.Code, .int .i64 r1.2.2.Index]]) (dt := true) rfl rfl rfl rfl rfl (Nat.le_of_ble_eq_true rfl) rfl rfl rfl rfl ?_
 refine W.nil ?_
 refine Ev.seq (Ev.seq ?_)
 refine W.reg hm ?_
 refine W.loadO (p := .agg [.int .i64 r1.2.2.Code, .int .i64 r1.2.2.Index]) rfl rfl rfl rfl ?_
 refine W.build (cs := [.int .i64 0, .int .i64 0]) rfl rfl rfl ?_
 refine W.eqs rfl rfl rfl (W.nil ?_)
 refine Ev.cond rfl (fun c2 => ?_) (fun c2 => ?_)
 ·replace h := iteT h c2
  refine Ev.seq ?_
  refine W.regD hm ?_
  refine W.loadO (p := .agg [.int .i64 r1.2.2.Code, .int .i64 r1.2.2.Index]) rfl rfl rfl rfl ?_
  refine W.mv rfl ?_
  refine W.store (es' := [[.int .i64 r1.2.2.Code, .int .i64 r1.2.2.Index]]) (dt := true) rfl rfl rfl rfl rfl (Nat.le_of_ble_eq_true rfl) rfl rfl rfl rfl ?_
  refine W.nil ⟨rfl, ?_⟩
  refine Ev.ret ?_
  injection h with h; subst h
  exact ⟨_, rfl, Le.tups (.cons (.nils 2) (.cons (.refl _) (.nil)))⟩
 ·replace h := iteF h c2
  refine Ev.skip ?_
  refine Ev.seq (Ev.seq ?_)
  refine W.reg hm ?_
  refine W.mv rfl ?_
  obtain ⟨r2, k3, h⟩ := obind h
  refine W.call (lines_Second_spec n a2 (-3) r2 k3) rfl rfl (Les.refl _) rfl (.inl rfl) rfl ?_
  refine W.alloc (dt := true) rfl rfl rfl ?_
  refine W.store (es' := [[.int .i64 r2.Code, .int .i64 r2.Index]]) (dt := true) rfl rfl rfl rfl rfl (Nat.le_of_ble_eq_true rfl) rfl rfl rfl rfl ?_
  refine W.nil ?_
  refine Ev.seq ?_
  refine W.reg hm ?_
  refine W.loadO (p := .agg [.int .i64 r2.Code, .int .i64 r2.Index]) rfl rfl rfl rfl ?_
  refine W.build (cs := [.int .i64 0, .int .i64 0]) rfl rfl rfl ?_
  refine W.eqs rfl rfl rfl (W.nil ?_)
  refine Ev.cond rfl (fun c4 => ?_) (fun c4 => ?_)
  ·replace h := iteT h c4
   refine Ev.seq ?_
   refine W.regD hm ?_
   refine W.loadO (p := .agg [.int .i64 r2.Code, .int .i64 r2.Index]) rfl rfl rfl rfl ?_
   refine W.mv rfl ?_
   refine W.store (es' := [[.int .i64 r2.Code, .int .i64 r2.Index]]) (dt := true) rfl rfl rfl rfl rfl (Nat.le_of_ble_eq_true rfl) rfl rfl rfl rfl ?_
   refine W.nil ⟨rfl, ?_⟩
   refine Ev.ret ?_
   injection h with h; subst h
   exact ⟨_, rfl, Le.tups (.cons (.nils 2) (.cons (.refl _) (.nil)))⟩
  ·replace h := iteF h c4
   refine Ev.skip ?_
   refine Ev.seq ?_
   refine Ev.seqJ (γ := Bool) (fun v => ⟨[(0, .list 2 (List.map SKeyLines.cells a0)), (1, .int .i64 a1), (2, .list 1 (List.map cS a2)), (7, .pown 10100 0 0 0), (9, .bool r1.2.1), (38, .bool v)], [(10100, ⟨0, 25, 2, [[.int .i64 0, .int .i64 0]], true, false, false⟩)], 2⟩) (fun v => actioncache_Store_j1 n a0 a1 a2 r1 v = some r) ?_ ?_
   ·refine W.reg hm ?_
    refine W.mv rfl (W.not rfl ?_)
    refine W.mv rfl ?_
    refine W.split 34 rfl (fun c12 => ?_) (fun c12 => ?_)
    ·replace h := iteT h c12
     refine W.guardT rfl c12 ?_
     refine W.mv rfl ?_
     refine W.guardT rfl c12 ?_
     refine W.lenL (c := SKeyLines.cells) rfl ?_
     refine W.guardT rfl c12 ?_
     refine W.geq rfl rfl ?_
     refine W.pickT rfl rfl rfl c12 ?_
     refine W.nil ?_
     exact ⟨(decide (16 ≤ (a0.length : Int))), h, Wk.nrmTo [0, 1, 2, 7, 9, 38] [(7, 10100)] rfl rfl⟩
    ·replace h := iteF h c12
     refine W.guardF1 rfl c12 ?_
     refine W.guardF1 rfl c12 ?_
     refine W.guardF1 rfl c12 ?_
     refine W.pickN rfl rfl rfl c12 ?_
     refine W.nil ?_
     exact ⟨false, h, Wk.nrmTo [0, 1, 2, 7, 9, 38] [(7, 10100)] rfl rfl⟩
   ·intro x3 h
    try dsimp only at h ⊢
    unfold actioncache_Store_j1 at h
    refine Ev.cond rfl (fun c5 => ?_) (fun c5 => ?_)
    ·replace h := iteT h c5
     refine Ev.seq ?_
     refine W.reg hm ?_
     refine W.build (cs := [.int .i64 14, .int .i64 0]) rfl rfl rfl ?_
     refine W.mv rfl ?_
     refine W.store (es' := [[.int .i64 14, .int .i64 0]]) (dt := true) rfl rfl rfl rfl rfl (Nat.le_of_ble_eq_true rfl) rfl rfl rfl rfl ?_
     refine W.nil ?_
     refine Ev.ret ?_
     injection h with h; subst h
     exact ⟨_, rfl, Le.tups (.cons (.nils 2) (.cons (.refl _) (.nil)))⟩
    ·replace h := iteF h c5
     refine Ev.skip ?_
     refine Ev.seq ?_
     refine W.reg hm ?_
     refine W.mv rfl ?_
     obtain ⟨r4, k6, h⟩ := obind h
     refine W.callO (actioncache_clone_spec n a0 r4 k6) rfl (Les.refl _) rfl rfl rfl ?_
     refine W.mv rfl (W.nil ?_)
     refine Ev.seq ?_
     refine W.reg hm ?_
     refine W.mv rfl (W.mv rfl ?_)
     obtain ⟨r5, k7, h⟩ := obind h
     refine W.call (actioncache_find_spec n r4 a1 r5 k7) rfl rfl (Les.refl _) rfl (.inr rfl) rfl ?_
     refine W.mv rfl (W.extract rfl rfl ?_)
     refine W.extract rfl rfl (W.mv rfl ?_)
     refine W.mv rfl (W.nil ?_)
     refine Ev.seqJ (γ := List SKeyLines) (fun v => ⟨[(2, .list 1 (List.map cS a2)), (7, .pown 10200 0 0 0), (12, .own 10201 0), (13, .int .i64 r5.1)], [(10200, ⟨0, 25, 2, [[.int .i64 0, .int .i64 0]], true, false, false⟩), (10201, ⟨0, 86, 2, List.map SKeyLines.cells v, true, false, false⟩)], 2⟩) (fun v => actioncache_Store_j2 n a2 r5 v = some r) ?_ ?_
     ·refine Ev.seq ?_
      refine W.reg hm ?_
      refine W.mv rfl (W.not rfl ?_)
      refine W.nil ?_
      refine Ev.cond rfl (fun c10 => ?_) (fun c10 => ?_)
      ·replace h := iteT h c10
       refine W.reg hm ?_
       refine W.mv rfl (W.mv rfl ?_)
       refine W.mv rfl ?_
       refine W.build (cs := [.int .i64 a1, .nils]) rfl rfl rfl ?_
       refine W.mkSlice (dt := true) (es := [[.int .i64 a1, .nils]]) rfl rfl rfl rfl rfl rfl ?_
       obtain ⟨w9, k11, h⟩ := obind h
       refine W.insCall (l := r4) (c := SKeyLines.cells) (z := (⟨a1, ([] : List (List UInt8))⟩ : SKeyLines)) (cs := [.int .i64 a1, .nils]) (i := r5.1) k_InsCache rfl rfl rfl (by decide) rfl (by decide) (by decide) k11 rfl ?_
       refine W.mv rfl (W.nil ?_)
       exact ⟨w9, h, (Wk.rowLe 55 2 (es' := List.map SKeyLines.cells w9) rfl rfl (LesR.ins k11 (.cons (.refl _) (.cons (.nils 1) (.nil))) fun _ => rfl) rfl).trans (Wk.nrmTo [2, 7, 12, 13] [(10100, 10200), (55, 10201)] rfl rfl)⟩
      ·replace h := iteF h c10
       refine Ev.skip ?_
       exact ⟨r4, h, Wk.nrmTo [2, 7, 12, 13] [(10100, 10200), (41, 10201)] rfl rfl⟩
     ·intro w6 h
      try dsimp only at h ⊢
      unfold actioncache_Store_j2 at h
      refine Ev.seq ?_
      refine Ev.regS rfl ?_
      refine Sq.w 6 (Nat.le_of_ble_eq_true rfl) ?_
      refine W.mv rfl (W.mv rfl ?_)
      refine W.mv rfl ?_
      obtain ⟨r7, k8, h⟩ := obind h
      refine W.callO (slices_Clone_string_own n a2 r7 k8) rfl (Les.refl _) rfl rfl rfl ?_
      obtain ⟨e8, k9, h⟩ := obind h
      refine W.idxR (l := w6) (c := SKeyLines.cells) rfl rfl rfl rfl rfl k9 ?_
      refine W.fieldAddrO rfl rfl (W.nil ?_)
      refine Sq.weak (st' := ⟨[(7, .pown 10200 0 0 0), (12, .own 10201 0), (59, .list 1 (List.map cS r7)), (61, .pown 10201 0 r5.1.toNat 1)], [(10200, ⟨0, 25, 2, [[.int .i64 0, .int .i64 0]], true, false, false⟩), (10201, ⟨0, 86, 2, List.map SKeyLines.cells w6, true, false, false⟩)], 2⟩) ?_ ((Wk.frz 59 2 rfl rfl).trans (Wk.nrmTo [7, 12, 59, 61] [(10200, 10200), (10201, 10201)] rfl rfl))
      refine Sq.wEnd (Nat.le_of_ble_eq_true rfl) ?_
      refine W.storeR true (l := w6) (c := SKeyLines.cells) (v := e8) (v' := (⟨e8.Key, r7⟩ : SKeyLines)) rfl rfl rfl rfl (gidx_some k9).2 rfl (Nat.le_of_ble_eq_true rfl) rfl rfl rfl ?_
      refine W.nil ?_
      refine Ev.seq ?_
      refine W.reg hm ?_
      refine W.mv rfl ?_
      refine W.build (cs := [.int .i64 0, .int .i64 0]) rfl rfl rfl ?_
      refine W.mv rfl ?_
      refine W.store (es' := [[.int .i64 0, .int .i64 0]]) (dt := true) rfl rfl rfl rfl rfl (Nat.le_of_ble_eq_true rfl) rfl rfl rfl rfl ?_
      refine W.nil ?_
      refine Ev.ret ?_
      injection h with h; subst h
      exact ⟨_, rfl, .refl _⟩
theorem treepatch_ValidPath_spec (n : Nat) (a0 : List UInt8) (r : Bool) (h : treepatch_ValidPath n a0 = some r) : PSpec Tryd.prog 110 [.str a0] (.bool r) := by
 unfold treepatch_ValidPath at h
 injection h with h
 subst h
 exact k_ValidPath a0
theorem internal_stringslite_HasPrefix_spec (n : Nat) (a0 : List UInt8) (a1 : List UInt8) (r : Bool) (h : internal_stringslite_HasPrefix n a0 a1 = some r) : PSpec Tryd.prog 154 [.str a0, .str a1] (.bool r) := by
 unfold internal_stringslite_HasPrefix at h
 refine spec_of Tryd.c_internal_stringslite_HasPrefix (by simp) ?_
 unfold Tryd.l_internal_stringslite_HasPrefix
 refine Ev.seq ?_
 refine W.reg hm ?_
 refine W.mv rfl (W.nil ?_)
 refine Ev.seqJ (γ := Bool) (fun v => ⟨[(4, .bool v)], [], 2⟩) (fun v => internal_stringslite_HasPrefix_j1 n v = some r) ?_ ?_
 ·refine W.reg hm ?_
  refine W.mv rfl (W.slen rfl ?_)
  refine W.mv rfl (W.slen rfl ?_)
  refine W.geq rfl rfl (W.mv rfl ?_)
  refine W.split 10 rfl (fun c1 => ?_) (fun c1 => ?_)
  ·replace h := iteT h c1
   refine W.guardT rfl c1 ?_
   refine W.mv rfl ?_
   refine W.guardT rfl c1 ?_
   refine W.mv rfl ?_
   refine W.guardT rfl c1 ?_
   refine W.slen rfl ?_
   refine W.guardT rfl c1 ?_
   obtain ⟨s2, k2, h⟩ := obind h
   refine W.ssliceG rfl k2 (ix1 (gcut_some k2).2.2.2.1) ?_
   refine W.guardT rfl c1 ?_
   refine W.mv rfl ?_
   refine W.guardT rfl c1 ?_
   refine W.seql rfl rfl ?_
   refine W.pickT rfl rfl rfl c1 ?_
   refine W.mv rfl (W.nil ?_)
   exact ⟨(decide (s2 = a1)), h, Wk.nrmTo [4] [] rfl rfl⟩
  ·replace h := iteF h c1
   refine W.guardF1 rfl c1 ?_
   refine W.guardF1 rfl c1 ?_
   refine W.guardF1 rfl c1 ?_
   refine W.guardF1 rfl c1 ?_
   refine W.guardF1 rfl c1 ?_
   refine W.guardF1 rfl c1 ?_
   refine W.pickN rfl rfl rfl c1 ?_
   refine W.mv rfl (W.nil ?_)
   exact ⟨false, h, Wk.nrmTo [4] [] rfl rfl⟩
 ·intro x1 h
  try dsimp only at h ⊢
  unfold internal_stringslite_HasPrefix_j1 at h
  refine Ev.ret ?_
  injection h with h; subst h
  exact ⟨_, rfl, .refl _⟩
theorem strings_HasPrefix_spec (n : Nat) (a0 : List UInt8) (a1 : List UInt8) (r : Bool) (h : strings_HasPrefix n a0 a1 = some r) : PSpec Tryd.prog 150 [.str a0, .str a1] (.bool r) := by
 unfold strings_HasPrefix at h
 refine spec_of Tryd.c_strings_HasPrefix (by simp) ?_
 unfold Tryd.l_strings_HasPrefix
 refine Ev.seq ?_
 refine W.reg hm ?_
 refine W.mv rfl (W.nil ?_)
 refine Ev.seq ?_
 refine W.reg hm ?_
 refine W.mv rfl (W.mv rfl ?_)
 obtain ⟨r1, k1, h⟩ := obind h
 refine W.call (internal_stringslite_HasPrefix_spec n a0 a1 r1 k1) rfl rfl (Les.refl _) rfl (.inl rfl) rfl ?_
 refine W.mv rfl (W.nil ?_)
 refine Ev.ret ?_
 injection h with h; subst h
 exact ⟨_, rfl, .refl _⟩
theorem treepatch_Related_spec (n : Nat) (a0 : List UInt8) (a1 : List UInt8) (r : Bool) (h : treepatch_Related n a0 a1 = some r) : PSpec Tryd.prog 140 [.str a0, .str a1] (.bool r) := by
 unfold treepatch_Related at h
 refine spec_of Tryd.c_treepatch_Related (by simp) ?_
 unfold Tryd.l_treepatch_Related
 refine Ev.seq ?_
 refine W.reg hm ?_
 refine W.mv rfl (W.nil ?_)
 refine Ev.seqJ (γ := Bool) (fun v => ⟨[(4, .bool v)], [], 2⟩) (fun v => treepatch_Related_j1 n v = some r) ?_ ?_
 ·refine W.reg hm ?_
  refine W.mv rfl (W.mv rfl ?_)
  refine W.seql rfl rfl (W.mv rfl ?_)
  refine W.split 8 rfl (fun c1 => ?_) (fun c1 => ?_)
  ·replace h := iteT h c1
   refine W.guardF2 rfl c1 ?_
   refine W.guardF2 rfl c1 ?_
   refine W.guardF2 rfl c1 ?_
   refine W.guardF2 rfl c1 ?_
   refine W.pickT rfl rfl rfl c1 ?_
   refine W.mv rfl (W.guardF2 rfl rfl ?_)
   refine W.guardF2 rfl rfl (W.guardF2 rfl rfl ?_)
   refine W.guardF2 rfl rfl (W.pickT rfl rfl rfl rfl ?_)
   refine W.mv rfl (W.nil ?_)
   exact ⟨true, h, Wk.nrmTo [4] [] rfl rfl⟩
  ·replace h := iteF h c1
   refine W.guardT rfl c1 ?_
   refine W.mv rfl ?_
   refine W.guardT rfl c1 ?_
   refine W.mv rfl ?_
   refine W.guardT rfl c1 ?_
   obtain ⟨s2, k2, h⟩ := obind h
   refine W.catG rfl rfl k2 ?_
   refine W.guardT rfl c1 ?_
   obtain ⟨r3, k3, h⟩ := obind h
   refine W.call (strings_HasPrefix_spec n a0 s2 r3 k3) rfl rfl (Les.refl _) rfl (.inl rfl) rfl ?_
   refine W.pickN rfl rfl rfl c1 ?_
   refine W.mv rfl ?_
   refine W.split 14 rfl (fun c4 => ?_) (fun c4 => ?_)
   ·replace h := iteT h c4
    refine W.guardF2 rfl c4 ?_
    refine W.guardF2 rfl c4 ?_
    refine W.guardF2 rfl c4 ?_
    refine W.guardF2 rfl c4 ?_
    refine W.pickT rfl rfl rfl c4 ?_
    refine W.mv rfl (W.nil ?_)
    exact ⟨true, h, Wk.nrmTo [4] [] rfl rfl⟩
   ·replace h := iteF h c4
    refine W.guardT rfl c4 ?_
    refine W.mv rfl ?_
    refine W.guardT rfl c4 ?_
    refine W.mv rfl ?_
    refine W.guardT rfl c4 ?_
    obtain ⟨s4, k5, h⟩ := obind h
    refine W.catG rfl rfl k5 ?_
    refine W.guardT rfl c4 ?_
    obtain ⟨r5, k6, h⟩ := obind h
    refine W.call (strings_HasPrefix_spec n a1 s4 r5 k6) rfl rfl (Les.refl _) rfl (.inl rfl) rfl ?_
    refine W.pickN rfl rfl rfl c4 ?_
    refine W.mv rfl (W.nil ?_)
    exact ⟨r5, h, Wk.nrmTo [4] [] rfl rfl⟩
 ·intro x1 h
  try dsimp only at h ⊢
  unfold treepatch_Related_j1 at h
  refine Ev.ret ?_
  injection h with h; subst h
  exact ⟨_, rfl, .refl _⟩
theorem treepatch_Clash_spec (n : Nat) (a0 : List SPathLines) (a1 : List UInt8) (a2 : Int) (r : Bool) (h : treepatch_Clash n a0 a1 a2 = some r) : PSpec Tryd.prog 125 [.list 2 (List.map SPathLines.cells a0), .str a1, .int .i64 a2] (.bool r) := by
 unfold treepatch_Clash at h
 refine spec_of Tryd.c_treepatch_Clash (by simp) ?_
 unfold Tryd.l_treepatch_Clash
 refine Ev.seq ?_
 refine W.reg hm ?_
 refine W.mv rfl (W.nil ?_)
 refine Ev.seq (Ev.seq ?_)
 refine W.reg hm ?_
 refine W.mv rfl ?_
 refine W.lenL (c := SPathLines.cells) rfl ?_
 refine W.mv rfl (W.nil ?_)
 refine Ev.block ?_
 refine Ev.loopW (β := Nat × Int) (fun v => ⟨[(1, .str a1), (2, .int .i64 a2), (9, .list 2 (List.map SPathLines.cells a0)), (10, .int .i64 (a0.length : Int)), (11, .int .i64 v.2)], [], 2⟩) (fun v => treepatch_Clash_l1 n a0 a1 a2 v.1 v.2 = some r) (fun v => v.1) (n, 0) (Wk.nrmTo [1, 2, 9, 10, 11] [] rfl rfl) h ?_
 intro ⟨m1, x1⟩ h
 try dsimp only at h ⊢
 cases m1 with
 | zero => rw [treepatch_Clash_l1] at h; cases h
 | succ m1 =>
  rw [treepatch_Clash_l1] at h
  refine Ev.seq ?_
  refine W.reg hm ?_
  refine W.lss rfl rfl (W.nil ?_)
  refine Ev.seq ?_
  refine Ev.cond rfl (fun c1 => ?_) (fun c1 => ?_)
  ·replace h := iteT h c1
   refine Ev.skip ?_
   refine Ev.seq ?_
   refine Ev.block ?_
   refine Ev.seq ?_
   refine W.reg hm ?_
   refine W.mv rfl ?_
   obtain ⟨e2, k2, h⟩ := obind h
   refine W.idxL (c := SPathLines.cells) rfl rfl k2 ?_
   refine W.load rfl rfl ?_
   refine W.alloc (dt := true) rfl rfl rfl ?_
   refine W.mv rfl ?_
   refine W.store (es' := [[.str e2.Path, .list 1 (List.map cS e2.Lines)]]) (dt := true) rfl rfl rfl rfl rfl (Nat.le_of_ble_eq_true rfl) rfl rfl rfl rfl ?_
   refine W.nil ?_
   refine Ev.seqJ (γ := Bool) (fun v => ⟨[(1, .str a1), (2, .int .i64 a2), (9, .list 2 (List.map SPathLines.cells a0)), (10, .int .i64 (a0.length : Int)), (11, .int .i64 x1), (24, .bool v)], [], 2⟩) (fun v => treepatch_Clash_j1 n x1 (treepatch_Clash_l1 n a0 a1 a2 m1) v = some r) ?_ ?_
   ·refine W.reg hm ?_
    refine W.mv rfl (W.mv rfl ?_)
    refine W.neq rfl rfl (W.mv rfl ?_)
    refine W.split 19 rfl (fun c5 => ?_) (fun c5 => ?_)
    ·replace h := iteT h c5
     refine W.guardT rfl c5 ?_
     refine W.fieldAddrO rfl rfl ?_
     refine W.guardT rfl c5 ?_
     refine W.loadO (p := .str e2.Path) rfl rfl rfl rfl ?_
     refine W.guardT rfl c5 ?_
     refine W.mv rfl ?_
     refine W.guardT rfl c5 ?_
     obtain ⟨r5, k6, h⟩ := obind h
     refine W.call (treepatch_Related_spec n e2.Path a1 r5 k6) rfl rfl (Les.refl _) rfl (.inl rfl) rfl ?_
     refine W.pickT rfl rfl rfl c5 ?_
     refine W.nil ?_
     exact ⟨r5, h, Wk.nrmTo [1, 2, 9, 10, 11, 24] [] rfl rfl⟩
    ·replace h := iteF h c5
     refine W.guardF1 rfl c5 ?_
     refine W.guardF1 rfl c5 ?_
     refine W.guardF1 rfl c5 ?_
     refine W.guardF1 rfl c5 ?_
     refine W.pickN rfl rfl rfl c5 ?_
     refine W.nil ?_
     exact ⟨false, h, Wk.nrmTo [1, 2, 9, 10, 11, 24] [] rfl rfl⟩
   ·intro x3 h
    try dsimp only at h ⊢
    unfold treepatch_Clash_j1 at h
    refine Ev.cond rfl (fun c3 => ?_) (fun c3 => ?_)
    ·replace h := iteT h c3
     refine Ev.seq ?_
     refine W.reg hm ?_
     refine W.mv rfl (W.nil ?_)
     refine Ev.ret ?_
     injection h with h; subst h
     exact ⟨_, rfl, .refl _⟩
    ·replace h := iteF h c3
     refine Ev.skip ?_
     refine W.reg hm ?_
     obtain ⟨x4, k4, h⟩ := obind h
     refine W.addG rfl rfl k4 ?_
     refine W.mv rfl (W.nil ?_)
     exact ⟨(m1, x4), h, Nat.lt_succ_self _, Wk.nrmTo [1, 2, 9, 10, 11] [] rfl rfl⟩
  ·replace h := iteF h c1
   refine Ev.exit ?_
   refine Ev.seq ?_
   refine W.reg hm ?_
   refine W.mv rfl (W.nil ?_)
   refine Ev.ret ?_
   injection h with h; subst h
   exact ⟨_, rfl, .refl _⟩
set_option maxHeartbeats 4000000 in
theorem treepatch_Validate_spec (n : Nat) (a0 : SFiles) (r : SCodeIndex) (h : treepatch_Validate n a0 = some r) : PSpec Tryd.prog 112 [.agg (SFiles.cells a0)] (.agg (SCodeIndex.cells r)) := by
 unfold treepatch_Validate at h
 refine spec_of Tryd.c_treepatch_Validate (by simp) ?_
 unfold Tryd.l_treepatch_Validate
 refine Ev.seq ?_
 refine W.reg hm ?_
 refine W.box (dt := true) (cs := [.list 2 (List.map SPathLines.cells a0.Files)]) rfl rfl rfl rfl rfl rfl ?_
 refine W.alloc (dt := true) rfl rfl rfl ?_
 refine W.nil ?_
 refine Ev.seq (Ev.seq ?_)
 refine W.reg hm ?_
 refine W.fieldAddrO rfl rfl ?_
 refine W.loadO (p := .list 2 (List.map SPathLines.cells a0.Files)) rfl rfl rfl rfl ?_
 refine W.lenL (c := SPathLines.cells) rfl ?_
 refine W.gtr rfl rfl (W.nil ?_)
 refine Ev.cond rfl (fun c1 => ?_) (fun c1 => ?_)
 ·replace h := iteT h c1
  refine Ev.seq ?_
  refine W.reg hm ?_
  refine W.build (cs := [.int .i64 2, .int .i64 (-1)]) rfl rfl rfl ?_
  refine W.store (es' := [[.int .i64 2, .int .i64 (-1)]]) (dt := true) rfl rfl rfl rfl rfl (Nat.le_of_ble_eq_true rfl) rfl rfl rfl rfl ?_
  refine W.nil ?_
  refine Ev.ret ?_
  injection h with h; subst h
  exact ⟨_, rfl, .refl _⟩
 ·replace h := iteF h c1
  refine Ev.skip ?_
  refine Ev.seq (Ev.seq ?_)
  refine W.reg hm ?_
  refine W.fieldAddrO rfl rfl ?_
  refine W.loadO (p := .list 2 (List.map SPathLines.cells a0.Files)) rfl rfl rfl rfl ?_
  refine W.lenL (c := SPathLines.cells) rfl ?_
  refine W.mv rfl (W.nil ?_)
  refine Ev.block ?_
  refine Ev.loopW (β := Nat × Int) (fun v => ⟨[(1, .pown 10100 0 0 0), (2, .pown 10101 0 0 0), (12, .list 2 (List.map SPathLines.cells a0.Files)), (13, .int .i64 (a0.Files.length : Int)), (14, .int .i64 v.2)], [(10100, ⟨0, 46, 1, [[.list 2 (List.map SPathLines.cells a0.Files)]], true, false, false⟩), (10101, ⟨0, 25, 2, [[.int .i64 0, .int .i64 0]], true, false, false⟩)], 2⟩) (fun v => treepatch_Validate_l1 n a0 v.1 v.2 = some r) (fun v => v.1) (n, 0) (Wk.nrmTo [1, 2, 12, 13, 14] [(1, 10100), (2, 10101)] rfl rfl) h ?_
  intro ⟨m1, x1⟩ h
  try dsimp only at h ⊢
  cases m1 with
  | zero => rw [treepatch_Validate_l1] at h; cases h
  | succ m1 =>
   rw [treepatch_Validate_l1] at h
   refine Ev.seq ?_
   refine W.reg hm ?_
   refine W.lss rfl rfl (W.nil ?_)
   refine Ev.seq ?_
   refine Ev.cond rfl (fun c2 => ?_) (fun c2 => ?_)
   ·replace h := iteT h c2
    refine Ev.skip ?_
    refine Ev.seq ?_
    refine Ev.block ?_
    refine Ev.seq ?_
    refine W.reg hm ?_
    refine W.mv rfl ?_
    obtain ⟨e2, k3, h⟩ := obind h
    refine W.idxL (c := SPathLines.cells) rfl rfl k3 ?_
    refine W.load rfl rfl ?_
    refine W.alloc (dt := true) rfl rfl rfl ?_
    refine W.mv rfl ?_
    refine W.store (es' := [[.str e2.Path, .list 1 (List.map cS e2.Lines)]]) (dt := true) rfl rfl rfl rfl rfl (Nat.le_of_ble_eq_true rfl) rfl rfl rfl rfl ?_
    refine W.nil ?_
    refine Ev.seq ?_
    refine Ev.block ?_
    refine Ev.seq ?_
    refine W.reg hm ?_
    refine W.fieldAddrO rfl rfl ?_
    refine W.loadO (p := .str e2.Path) rfl rfl rfl rfl ?_
    obtain ⟨r3, k4, h⟩ := obind h
    refine W.call (treepatch_ValidPath_spec n e2.Path r3 k4) rfl rfl (Les.refl _) rfl (.inl rfl) rfl ?_
    refine W.not rfl (W.mv rfl ?_)
    refine W.nil ?_
    refine Ev.cond rfl (fun c5 => ?_) (fun c5 => ?_)
    ·replace h := iteT h c5
     refine Ev.seq ?_
     refine W.reg hm ?_
     refine W.mv rfl ?_
     refine W.build (cs := [.int .i64 12, .int .i64 x1]) rfl rfl rfl ?_
     refine W.store (es' := [[.int .i64 12, .int .i64 x1]]) (dt := true) rfl rfl rfl rfl rfl (Nat.le_of_ble_eq_true rfl) rfl rfl rfl rfl ?_
     refine W.nil ?_
     refine Ev.ret ?_
     injection h with h; subst h
     exact ⟨_, rfl, .refl _⟩
    ·replace h := iteF h c5
     refine Ev.seqJ (γ := Bool) (fun v => ⟨[(1, .pown 10200 0 0 0), (2, .pown 10201 0 0 0), (3, .int .i64 x1), (4, .pown 10202 0 0 0), (12, .list 2 (List.map SPathLines.cells a0.Files)), (13, .int .i64 (a0.Files.length : Int)), (14, .int .i64 x1), (26, .bool v)], [(10200, ⟨0, 46, 1, [[.list 2 (List.map SPathLines.cells a0.Files)]], true, false, false⟩), (10201, ⟨0, 25, 2, [[.int .i64 0, .int .i64 0]], true, false, false⟩), (10202, ⟨0, 103, 2, [[.str e2.Path, .list 1 (List.map cS e2.Lines)]], true, false, false⟩)], 2⟩) (fun v => treepatch_Validate_j1 n a0 x1 (treepatch_Validate_l1 n a0 m1) e2 v = some r) ?_ ?_
     ·refine W.regD hm ?_
      refine W.mv rfl (W.gtr rfl rfl ?_)
      refine W.mv rfl ?_
      refine W.split 29 rfl (fun c13 => ?_) (fun c13 => ?_)
      ·replace h := iteT h c13
       refine W.guardT rfl c13 ?_
       refine W.fieldAddrO rfl rfl ?_
       refine W.guardT rfl c13 ?_
       refine W.loadO (p := .str e2.Path) rfl rfl rfl rfl ?_
       refine W.guardT rfl c13 ?_
       refine W.fieldAddrO rfl rfl ?_
       refine W.guardT rfl c13 ?_
       refine W.loadO (p := .list 2 (List.map SPathLines.cells a0.Files)) rfl rfl rfl rfl ?_
       refine W.guardT rfl c13 ?_
       refine W.mv rfl ?_
       refine W.guardT rfl c13 ?_
       obtain ⟨x9, k14, h⟩ := obind h
       refine W.subG rfl rfl k14 ?_
       refine W.guardT rfl c13 ?_
       obtain ⟨e10, k15, h⟩ := obind h
       refine W.idxL (c := SPathLines.cells) rfl rfl k15 ?_
       refine W.guardT rfl c13 ?_
       refine W.fieldAddr rfl ?_
       refine W.guardT rfl c13 ?_
       refine W.load rfl rfl ?_
       refine W.guardT rfl c13 ?_
       refine W.sleq rfl rfl ?_
       refine W.pickT rfl rfl rfl c13 ?_
       refine W.mv rfl ?_
       refine W.nil ⟨rfl, ?_⟩
       exact ⟨(Op.bytesLess e2.Path e10.Path || e2.Path == e10.Path), h, Wk.nrmTo [1, 2, 3, 4, 12, 13, 14, 26] [(10100, 10200), (10101, 10201), (4, 10202)] rfl rfl⟩
      ·replace h := iteF h c13
       refine W.guardF1 rfl c13 ?_
       refine W.guardF1 rfl c13 ?_
       refine W.guardF1 rfl c13 ?_
       refine W.guardF1 rfl c13 ?_
       refine W.guardF1 rfl c13 ?_
       refine W.guardF1 rfl c13 ?_
       refine W.guardF1 rfl c13 ?_
       refine W.guardF1 rfl c13 ?_
       refine W.guardF1 rfl c13 ?_
       refine W.guardF1 rfl c13 ?_
       refine W.pickN rfl rfl rfl c13 ?_
       refine W.mv rfl ?_
       refine W.nil ⟨rfl, ?_⟩
       exact ⟨false, h, Wk.nrmTo [1, 2, 3, 4, 12, 13, 14, 26] [(10100, 10200), (10101, 10201), (4, 10202)] rfl rfl⟩
     ·intro x4 h
      try dsimp only at h ⊢
      unfold treepatch_Validate_j1 at h
      refine Ev.cond rfl (fun c6 => ?_) (fun c6 => ?_)
      ·replace h := iteT h c6
       refine Ev.seq ?_
       refine W.reg hm ?_
       refine W.mv rfl ?_
       refine W.build (cs := [.int .i64 5, .int .i64 x1]) rfl rfl rfl ?_
       refine W.store (es' := [[.int .i64 5, .int .i64 x1]]) (dt := true) rfl rfl rfl rfl rfl (Nat.le_of_ble_eq_true rfl) rfl rfl rfl rfl ?_
       refine W.nil ?_
       refine Ev.ret ?_
       injection h with h; subst h
       exact ⟨_, rfl, .refl _⟩
      ·replace h := iteF h c6
       refine Ev.seq ?_
       refine W.regD hm ?_
       refine W.fieldAddrO rfl rfl ?_
       refine W.loadO (p := .list 2 (List.map SPathLines.cells a0.Files)) rfl rfl rfl rfl ?_
       refine W.mv rfl ?_
       obtain ⟨s5, k7, h⟩ := obind h
       refine W.sliceL (c := SPathLines.cells) rfl k7 (ix1 (gcut_some k7).2.2.2.1) ?_
       refine W.fieldAddrO rfl rfl ?_
       refine W.loadO (p := .str e2.Path) rfl rfl rfl rfl ?_
       obtain ⟨r6, k8, h⟩ := obind h
       refine W.call (treepatch_Clash_spec n s5 e2.Path (-1) r6 k8) rfl rfl (Les.refl _) rfl (.inl rfl) rfl ?_
       refine W.mv rfl ?_
       refine W.nil ⟨rfl, ?_⟩
       refine Ev.cond rfl (fun c9 => ?_) (fun c9 => ?_)
       ·replace h := iteT h c9
        refine Ev.seq ?_
        refine W.reg hm ?_
        refine W.mv rfl ?_
        refine W.build (cs := [.int .i64 7, .int .i64 x1]) rfl rfl rfl ?_
        refine W.store (es' := [[.int .i64 7, .int .i64 x1]]) (dt := true) rfl rfl rfl rfl rfl (Nat.le_of_ble_eq_true rfl) rfl rfl rfl rfl ?_
        refine W.nil ?_
        refine Ev.ret ?_
        injection h with h; subst h
        exact ⟨_, rfl, .refl _⟩
       ·replace h := iteF h c9
        refine Ev.skip ?_
        refine Ev.seq ?_
        refine W.reg hm ?_
        refine W.fieldAddrO rfl rfl ?_
        refine W.loadO (p := .list 1 (List.map cS e2.Lines)) rfl rfl rfl rfl ?_
        refine W.mv rfl ?_
        obtain ⟨r7, k10, h⟩ := obind h
        refine W.call (lines_Second_spec n e2.Lines x1 r7 k10) rfl rfl (Les.refl _) rfl (.inl rfl) rfl ?_
        refine W.alloc (dt := true) rfl rfl rfl ?_
        refine W.store (es' := [[.int .i64 r7.Code, .int .i64 r7.Index]]) (dt := true) rfl rfl rfl rfl rfl (Nat.le_of_ble_eq_true rfl) rfl rfl rfl rfl ?_
        refine W.nil ?_
        refine Ev.seq ?_
        refine W.reg hm ?_
        refine W.loadO (p := .agg [.int .i64 r7.Code, .int .i64 r7.Index]) rfl rfl rfl rfl ?_
        refine W.build (cs := [.int .i64 0, .int .i64 0]) rfl rfl rfl ?_
        refine W.eqs rfl rfl rfl (W.nil ?_)
        refine Ev.cond rfl (fun c11 => ?_) (fun c11 => ?_)
        ·replace h := iteT h c11
         refine Ev.seq ?_
         refine W.reg hm ?_
         refine W.loadO (p := .agg [.int .i64 r7.Code, .int .i64 r7.Index]) rfl rfl rfl rfl ?_
         refine W.store (es' := [[.int .i64 r7.Code, .int .i64 r7.Index]]) (dt := true) rfl rfl rfl rfl rfl (Nat.le_of_ble_eq_true rfl) rfl rfl rfl rfl ?_
         refine W.nil ?_
         refine Ev.ret ?_
         injection h with h; subst h
         exact ⟨_, rfl, .refl _⟩
        ·replace h := iteF h c11
         refine Ev.skip ?_
         refine W.reg hm ?_
         obtain ⟨x8, k12, h⟩ := obind h
         refine W.addG rfl rfl k12 ?_
         refine W.mv rfl (W.nil ?_)
         exact ⟨(m1, x8), h, Nat.lt_succ_self _, Wk.nrmTo [1, 2, 12, 13, 14] [(10200, 10100), (10201, 10101)] rfl rfl⟩
   ·replace h := iteF h c2
    refine Ev.exit ?_
    refine Ev.seq ?_
    refine W.reg hm ?_
    refine W.build (cs := [.int .i64 0, .int .i64 0]) rfl rfl rfl ?_
    refine W.store (es' := [[.int .i64 0, .int .i64 0]]) (dt := true) rfl rfl rfl rfl rfl (Nat.le_of_ble_eq_true rfl) rfl rfl rfl rfl ?_
    refine W.nil ?_
    refine Ev.ret ?_
    injection h with h; subst h
    exact ⟨_, rfl, .refl _⟩
theorem treepatch_Second_spec (n : Nat) (a0 : SFiles) (a1 : Int) (r : SCodeIndex) (h : treepatch_Second n a0 a1 = some r) : PSpec Tryd.prog 79 [.agg (SFiles.cells a0), .int .i64 a1] (.agg (SCodeIndex.cells r)) := by
 unfold treepatch_Second at h
 refine spec_of Tryd.c_treepatch_Second (by simp) ?_
 unfold Tryd.l_treepatch_Second
 refine Ev.seq ?_
 refine W.reg hm ?_
 refine W.box (dt := true) (cs := [.list 2 (List.map SPathLines.cells a0.Files)]) rfl rfl rfl rfl rfl rfl ?_
 refine W.alloc (dt := true) rfl rfl rfl ?_
 refine W.nil ?_
 refine Ev.seq (Ev.seq ?_)
 refine W.reg hm ?_
 refine W.loadO (p := .agg [.list 2 (List.map SPathLines.cells a0.Files)]) rfl rfl rfl rfl ?_
 obtain ⟨r1, k1, h⟩ := obind h
 refine W.call (treepatch_Validate_spec n a0 r1 k1) rfl rfl (Les.refl _) rfl (.inl rfl) rfl ?_
 refine W.alloc (dt := true) rfl rfl rfl ?_
 refine W.store (es' := [[.int .i64 r1.Code, .int .i64 r1.Index]]) (dt := true) rfl rfl rfl rfl rfl (Nat.le_of_ble_eq_true rfl) rfl rfl rfl rfl ?_
 refine W.nil ?_
 refine Ev.seq ?_
 refine W.reg hm ?_
 refine W.loadO (p := .agg [.int .i64 r1.Code, .int .i64 r1.Index]) rfl rfl rfl rfl ?_
 refine W.build (cs := [.int .i64 0, .int .i64 0]) rfl rfl rfl ?_
 refine W.eqs rfl rfl rfl (W.nil ?_)
 refine Ev.cond rfl (fun c2 => ?_) (fun c2 => ?_)
 ·replace h := iteT h c2
  refine Ev.seq ?_
  refine W.reg hm ?_
  refine W.fieldAddrO rfl rfl ?_
  refine W.loadO (p := .int .i64 r1.Code) rfl rfl rfl rfl ?_
  refine W.mv rfl ?_
  refine W.build (cs := [.int .i64 r1.Code, .int .i64 a1]) rfl rfl rfl ?_
  refine W.store (es' := [[.int .i64 r1.Code, .int .i64 a1]]) (dt := true) rfl rfl rfl rfl rfl (Nat.le_of_ble_eq_true rfl) rfl rfl rfl rfl ?_
  refine W.nil ?_
  refine Ev.ret ?_
  injection h with h; subst h
  exact ⟨_, rfl, .refl _⟩
 ·replace h := iteF h c2
  refine Ev.skip ?_
  refine Ev.seq ?_
  refine W.reg hm ?_
  refine W.build (cs := [.int .i64 0, .int .i64 0]) rfl rfl rfl ?_
  refine W.store (es' := [[.int .i64 0, .int .i64 0]]) (dt := true) rfl rfl rfl rfl rfl (Nat.le_of_ble_eq_true rfl) rfl rfl rfl rfl ?_
  refine W.nil ?_
  refine Ev.ret ?_
  injection h with h; subst h
  exact ⟨_, rfl, .refl _⟩
end Go.Proofs.YtlkknmhhefjmjaaDoor
namespace Go.Proofs.YtlkknmhhefjmjaaDoor
open Go.PW Go
set_option maxHeartbeats 4000000 in
theorem sandbox_checkOp_spec (n : Nat) (a0 : SKindText) (r : Int) (h : sandbox_checkOp n a0 = some r) : PSpec Tryd.prog 120 [.agg (SKindText.cells a0)] (.int .i64 r) := by
 unfold sandbox_checkOp at h
 refine spec_of Tryd.c_sandbox_checkOp (by simp) ?_
 unfold Tryd.l_sandbox_checkOp
 refine Ev.seq ?_
 refine W.reg hm ?_
 refine W.box (dt := true) (cs := [.int .i64 a0.Kind, .str a0.Text]) rfl rfl rfl rfl rfl rfl ?_
 refine W.mv rfl (W.nil ?_)
 refine Ev.seqJ (γ := Unit) (fun v => ⟨[], [], 2⟩) (fun v => sandbox_checkOp_j1 n = some r) ?_ ?_
 ·refine Ev.seq ?_
  refine W.reg hm ?_
  refine W.fieldAddrO rfl rfl ?_
  refine W.loadO (p := .int .i64 a0.Kind) rfl rfl rfl rfl ?_
  refine W.nil ?_
  refine Ev.block ?_
  refine Ev.seqJ (γ := Bool) (fun v => ⟨[(1, .pown 10200 0 0 0), (4, .int .i64 a0.Kind), (5, .bool v)], [(10200, ⟨0, 106, 2, [[.int .i64 a0.Kind, .str a0.Text]], true, false, false⟩)], 2⟩) (fun v => sandbox_checkOp_j2 n a0 v = some r) ?_ ?_
  ·refine Ev.seq ?_
   refine W.reg hm ?_
   refine W.eql rfl rfl (W.mv rfl ?_)
   refine W.nil ?_
   refine Ev.cond rfl (fun c9 => ?_) (fun c9 => ?_)
   ·replace h := iteT h c9
    refine Ev.skip ?_
    exact ⟨(decide (a0.Kind = 1)), h, Wk.nrmTo [1, 4, 5] [(1, 10200)] rfl rfl⟩
   ·replace h := iteF h c9
    refine W.reg hm ?_
    refine W.eql rfl rfl (W.mv rfl ?_)
    refine W.nil ?_
    exact ⟨(decide (a0.Kind = 2)), h, Wk.nrmTo [1, 4, 5] [(1, 10200)] rfl rfl⟩
  ·intro x1 h
   try dsimp only at h ⊢
   unfold sandbox_checkOp_j2 at h
   refine Ev.cond rfl (fun c1 => ?_) (fun c1 => ?_)
   ·replace h := iteT h c1
    refine Ev.seq ?_
    refine W.reg hm ?_
    refine W.fieldAddrO rfl rfl ?_
    refine W.loadO (p := .str a0.Text) rfl rfl rfl rfl ?_
    obtain ⟨r2, k2, h⟩ := obind h
    refine W.call (treepatch_ValidPath_spec n a0.Text r2 k2) rfl rfl (Les.refl _) rfl (.inl rfl) rfl ?_
    refine W.not rfl (W.nil ?_)
    refine Ev.cond rfl (fun c3 => ?_) (fun c3 => ?_)
    ·replace h := iteT h c3
     refine Ev.seq ?_
     refine W.reg hm ?_
     refine W.mv rfl (W.nil ?_)
     refine Ev.ret ?_
     injection h with h; subst h
     exact ⟨_, rfl, .refl _⟩
    ·replace h := iteF h c3
     refine Ev.skip ?_
     exact ⟨(), h, Wk.nrmTo [] [] rfl rfl⟩
   ·replace h := iteF h c1
    refine Ev.seq ?_
    refine W.reg hm ?_
    refine W.eql rfl rfl (W.mv rfl ?_)
    refine W.nil ?_
    refine Ev.cond rfl (fun c4 => ?_) (fun c4 => ?_)
    ·replace h := iteT h c4
     refine Ev.seq ?_
     refine W.reg hm ?_
     refine W.fieldAddrO rfl rfl ?_
     refine W.loadO (p := .str a0.Text) rfl rfl rfl rfl ?_
     refine W.mkSlice (dt := true) (es := [[.str a0.Text]]) rfl rfl rfl rfl rfl rfl ?_
     obtain ⟨r3, k5, h⟩ := obind h
     refine W.call (lines_Validate_spec n ([a0.Text] : List (List UInt8)) r3 k5) rfl rfl (Les.refl _) rfl (.inr rfl) rfl ?_
     refine W.field rfl rfl (W.mv rfl ?_)
     refine W.nil ?_
     refine Ev.ret ?_
     injection h with h; subst h
     exact ⟨_, rfl, .refl _⟩
    ·replace h := iteF h c4
     refine Ev.seqJ (γ := Bool) (fun v => ⟨[(1, .pown 10300 0 0 0), (19, .bool v)], [(10300, ⟨0, 106, 2, [[.int .i64 a0.Kind, .str a0.Text]], true, false, false⟩)], 2⟩) (fun v => sandbox_checkOp_j3 n a0 v = some r) ?_ ?_
     ·refine Ev.seq ?_
      refine W.reg hm ?_
      refine W.eql rfl rfl (W.mv rfl ?_)
      refine W.nil ?_
      refine Ev.cond rfl (fun c8 => ?_) (fun c8 => ?_)
      ·replace h := iteT h c8
       refine Ev.skip ?_
       exact ⟨(decide (a0.Kind = 4)), h, Wk.nrmTo [1, 19] [(10200, 10300)] rfl rfl⟩
      ·replace h := iteF h c8
       refine W.reg hm ?_
       refine W.eql rfl rfl (W.mv rfl ?_)
       refine W.nil ?_
       exact ⟨(decide (a0.Kind = 5)), h, Wk.nrmTo [1, 19] [(10200, 10300)] rfl rfl⟩
     ·intro x4 h
      try dsimp only at h ⊢
      unfold sandbox_checkOp_j3 at h
      refine Ev.cond rfl (fun c6 => ?_) (fun c6 => ?_)
      ·replace h := iteT h c6
       refine Ev.seq ?_
       refine W.reg hm ?_
       refine W.fieldAddrO rfl rfl ?_
       refine W.loadO (p := .str a0.Text) rfl rfl rfl rfl ?_
       refine W.sneq rfl rfl (W.nil ?_)
       refine Ev.cond rfl (fun c7 => ?_) (fun c7 => ?_)
       ·replace h := iteT h c7
        refine Ev.seq ?_
        refine W.reg hm ?_
        refine W.mv rfl (W.nil ?_)
        refine Ev.ret ?_
        injection h with h; subst h
        exact ⟨_, rfl, .refl _⟩
       ·replace h := iteF h c7
        refine Ev.skip ?_
        exact ⟨(), h, Wk.nrmTo [] [] rfl rfl⟩
      ·replace h := iteF h c6
       refine Ev.seq ?_
       refine W.reg hm ?_
       refine W.mv rfl (W.nil ?_)
       refine Ev.ret ?_
       injection h with h; subst h
       exact ⟨_, rfl, .refl _⟩
 ·intro _ h
  try dsimp only at h ⊢
  unfold sandbox_checkOp_j1 at h
  refine Ev.seq ?_
  refine W.reg hm ?_
  refine W.mv rfl (W.nil ?_)
  refine Ev.ret ?_
  injection h with h; subst h
  exact ⟨_, rfl, .refl _⟩
set_option maxHeartbeats 4000000 in
theorem sandbox_Validate_spec (n : Nat) (a0 : SInputsOpsOutput) (r : SCodeIndex) (h : sandbox_Validate n a0 = some r) : PSpec Tryd.prog 97 [.agg (SInputsOpsOutput.cells a0)] (.agg (SCodeIndex.cells r)) := by
 unfold sandbox_Validate at h
 refine spec_of Tryd.c_sandbox_Validate (by simp) ?_
 unfold Tryd.l_sandbox_Validate
 refine Ev.seq ?_
 refine W.reg hm ?_
 refine W.box (dt := true) (cs := [.list 1 (List.map cS a0.Inputs), .list 2 (List.map SKindText.cells a0.Ops), .str a0.Output]) rfl rfl rfl rfl rfl rfl ?_
 refine W.alloc (dt := true) rfl rfl rfl ?_
 refine W.nil ?_
 refine Ev.seq ?_
 refine Ev.seqJ (γ := Bool) (fun v => ⟨[(1, .pown 10100 0 0 0), (2, .pown 10101 0 0 0), (17, .bool v)], [(10100, ⟨0, 43, 3, [[.list 1 (List.map cS a0.Inputs), .list 2 (List.map SKindText.cells a0.Ops), .str a0.Output]], true, false, false⟩), (10101, ⟨0, 25, 2, [[.int .i64 0, .int .i64 0]], true, false, false⟩)], 2⟩) (fun v => sandbox_Validate_j1 n a0 v = some r) ?_ ?_
 ·refine W.reg hm ?_
  refine W.fieldAddrO rfl rfl ?_
  refine W.loadO (p := .list 1 (List.map cS a0.Inputs)) rfl rfl rfl rfl ?_
  refine W.lenL (c := cS) rfl ?_
  refine W.gtr rfl rfl (W.mv rfl ?_)
  refine W.split 12 rfl (fun c19 => ?_) (fun c19 => ?_)
  ·replace h := iteT h c19
   refine W.guardF2 rfl c19 ?_
   refine W.guardF2 rfl c19 ?_
   refine W.guardF2 rfl c19 ?_
   refine W.guardF2 rfl c19 ?_
   refine W.pickT rfl rfl rfl c19 ?_
   refine W.nil ?_
   exact ⟨true, h, Wk.nrmTo [1, 2, 17] [(1, 10100), (2, 10101)] rfl rfl⟩
  ·replace h := iteF h c19
   refine W.guardT rfl c19 ?_
   refine W.fieldAddrO rfl rfl ?_
   refine W.guardT rfl c19 ?_
   refine W.loadO (p := .list 2 (List.map SKindText.cells a0.Ops)) rfl rfl rfl rfl ?_
   refine W.guardT rfl c19 ?_
   refine W.lenL (c := SKindText.cells) rfl ?_
   refine W.guardT rfl c19 ?_
   refine W.gtr rfl rfl ?_
   refine W.pickN rfl rfl rfl c19 ?_
   refine W.nil ?_
   exact ⟨(decide (16 < (a0.Ops.length : Int))), h, Wk.nrmTo [1, 2, 17] [(1, 10100), (2, 10101)] rfl rfl⟩
 ·intro x1 h
  try dsimp only at h ⊢
  unfold sandbox_Validate_j1 at h
  refine Ev.cond rfl (fun c1 => ?_) (fun c1 => ?_)
  ·replace h := iteT h c1
   refine Ev.seq ?_
   refine W.reg hm ?_
   refine W.build (cs := [.int .i64 2, .int .i64 (-1)]) rfl rfl rfl ?_
   refine W.store (es' := [[.int .i64 2, .int .i64 (-1)]]) (dt := true) rfl rfl rfl rfl rfl (Nat.le_of_ble_eq_true rfl) rfl rfl rfl rfl ?_
   refine W.nil ?_
   refine Ev.ret ?_
   injection h with h; subst h
   exact ⟨_, rfl, .refl _⟩
  ·replace h := iteF h c1
   refine Ev.skip ?_
   refine Ev.seq (Ev.seq ?_)
   refine W.reg hm ?_
   refine W.fieldAddrO rfl rfl ?_
   refine W.loadO (p := .list 1 (List.map cS a0.Inputs)) rfl rfl rfl rfl ?_
   refine W.lenL (c := cS) rfl ?_
   refine W.mv rfl (W.nil ?_)
   refine Ev.block ?_
   refine Ev.loopW (β := Nat × Int) (fun v => ⟨[(1, .pown 10200 0 0 0), (2, .pown 10201 0 0 0), (20, .list 1 (List.map cS a0.Inputs)), (21, .int .i64 (a0.Inputs.length : Int)), (22, .int .i64 v.2)], [(10200, ⟨0, 43, 3, [[.list 1 (List.map cS a0.Inputs), .list 2 (List.map SKindText.cells a0.Ops), .str a0.Output]], true, false, false⟩), (10201, ⟨0, 25, 2, [[.int .i64 0, .int .i64 0]], true, false, false⟩)], 2⟩) (fun v => sandbox_Validate_l1 n a0 v.1 v.2 = some r) (fun v => v.1) (n, 0) (Wk.nrmTo [1, 2, 20, 21, 22] [(10100, 10200), (10101, 10201)] rfl rfl) h ?_
   intro ⟨m1, x2⟩ h
   try dsimp only at h ⊢
   cases m1 with
   | zero => rw [sandbox_Validate_l1] at h; cases h
   | succ m1 =>
    rw [sandbox_Validate_l1] at h
    refine Ev.seq ?_
    refine W.reg hm ?_
    refine W.lss rfl rfl (W.nil ?_)
    refine Ev.seq ?_
    refine Ev.cond rfl (fun c2 => ?_) (fun c2 => ?_)
    ·replace h := iteT h c2
     refine Ev.skip ?_
     refine Ev.seq ?_
     refine Ev.block ?_
     refine Ev.seq ?_
     refine W.reg hm ?_
     refine W.mv rfl ?_
     obtain ⟨e3, k3, h⟩ := obind h
     refine W.idxL (c := cS) rfl rfl k3 ?_
     refine W.load rfl rfl (W.mv rfl ?_)
     refine W.mv rfl (W.nil ?_)
     refine Ev.seq (Ev.seq ?_)
     refine W.reg hm ?_
     refine W.mv rfl ?_
     obtain ⟨r4, k4, h⟩ := obind h
     refine W.call (treepatch_ValidPath_spec n e3 r4 k4) rfl rfl (Les.refl _) rfl (.inl rfl) rfl ?_
     refine W.not rfl (W.nil ?_)
     refine Ev.cond rfl (fun c5 => ?_) (fun c5 => ?_)
     ·replace h := iteT h c5
      refine Ev.seq ?_
      refine W.reg hm ?_
      refine W.mv rfl ?_
      refine W.build (cs := [.int .i64 12, .int .i64 x2]) rfl rfl rfl ?_
      refine W.store (es' := [[.int .i64 12, .int .i64 x2]]) (dt := true) rfl rfl rfl rfl rfl (Nat.le_of_ble_eq_true rfl) rfl rfl rfl rfl ?_
      refine W.nil ?_
      refine Ev.ret ?_
      injection h with h; subst h
      exact ⟨_, rfl, .refl _⟩
     ·replace h := iteF h c5
      refine Ev.skip ?_
      refine Ev.seqJ (γ := Bool) (fun v => ⟨[(1, .pown 10300 0 0 0), (2, .pown 10301 0 0 0), (3, .int .i64 x2), (20, .list 1 (List.map cS a0.Inputs)), (21, .int .i64 (a0.Inputs.length : Int)), (22, .int .i64 x2), (43, .bool v)], [(10300, ⟨0, 43, 3, [[.list 1 (List.map cS a0.Inputs), .list 2 (List.map SKindText.cells a0.Ops), .str a0.Output]], true, false, false⟩), (10301, ⟨0, 25, 2, [[.int .i64 0, .int .i64 0]], true, false, false⟩)], 2⟩) (fun v => sandbox_Validate_j2 n x2 (sandbox_Validate_l1 n a0 m1) v = some r) ?_ ?_
      ·refine W.reg hm ?_
       refine W.mv rfl (W.gtr rfl rfl ?_)
       refine W.mv rfl ?_
       refine W.split 34 rfl (fun c8 => ?_) (fun c8 => ?_)
       ·replace h := iteT h c8
        refine W.guardT rfl c8 ?_
        refine W.mv rfl ?_
        refine W.guardT rfl c8 ?_
        refine W.fieldAddrO rfl rfl ?_
        refine W.guardT rfl c8 ?_
        refine W.loadO (p := .list 1 (List.map cS a0.Inputs)) rfl rfl rfl rfl ?_
        refine W.guardT rfl c8 ?_
        refine W.mv rfl ?_
        refine W.guardT rfl c8 ?_
        obtain ⟨x7, k9, h⟩ := obind h
        refine W.subG rfl rfl k9 ?_
        refine W.guardT rfl c8 ?_
        obtain ⟨e8, k10, h⟩ := obind h
        refine W.idxL (c := cS) rfl rfl k10 ?_
        refine W.guardT rfl c8 ?_
        refine W.load rfl rfl ?_
        refine W.guardT rfl c8 ?_
        refine W.sleq rfl rfl ?_
        refine W.pickT rfl rfl rfl c8 ?_
        refine W.nil ?_
        exact ⟨(Op.bytesLess e3 e8 || e3 == e8), h, Wk.nrmTo [1, 2, 3, 20, 21, 22, 43] [(10200, 10300), (10201, 10301)] rfl rfl⟩
       ·replace h := iteF h c8
        refine W.guardF1 rfl c8 ?_
        refine W.guardF1 rfl c8 ?_
        refine W.guardF1 rfl c8 ?_
        refine W.guardF1 rfl c8 ?_
        refine W.guardF1 rfl c8 ?_
        refine W.guardF1 rfl c8 ?_
        refine W.guardF1 rfl c8 ?_
        refine W.guardF1 rfl c8 ?_
        refine W.pickN rfl rfl rfl c8 ?_
        refine W.nil ?_
        exact ⟨false, h, Wk.nrmTo [1, 2, 3, 20, 21, 22, 43] [(10200, 10300), (10201, 10301)] rfl rfl⟩
      ·intro x5 h
       try dsimp only at h ⊢
       unfold sandbox_Validate_j2 at h
       refine Ev.cond rfl (fun c6 => ?_) (fun c6 => ?_)
       ·replace h := iteT h c6
        refine Ev.seq ?_
        refine W.reg hm ?_
        refine W.mv rfl ?_
        refine W.build (cs := [.int .i64 5, .int .i64 x2]) rfl rfl rfl ?_
        refine W.store (es' := [[.int .i64 5, .int .i64 x2]]) (dt := true) rfl rfl rfl rfl rfl (Nat.le_of_ble_eq_true rfl) rfl rfl rfl rfl ?_
        refine W.nil ?_
        refine Ev.ret ?_
        injection h with h; subst h
        exact ⟨_, rfl, .refl _⟩
       ·replace h := iteF h c6
        refine Ev.skip ?_
        refine W.reg hm ?_
        obtain ⟨x6, k7, h⟩ := obind h
        refine W.addG rfl rfl k7 ?_
        refine W.mv rfl (W.nil ?_)
        exact ⟨(m1, x6), h, Nat.lt_succ_self _, Wk.nrmTo [1, 2, 20, 21, 22] [(10300, 10200), (10301, 10201)] rfl rfl⟩
    ·replace h := iteF h c2
     refine Ev.exit ?_
     refine Ev.seq (Ev.seq ?_)
     refine W.reg hm ?_
     refine W.fieldAddrO rfl rfl ?_
     refine W.loadO (p := .str a0.Output) rfl rfl rfl rfl ?_
     obtain ⟨r9, k11, h⟩ := obind h
     refine W.call (treepatch_ValidPath_spec n a0.Output r9 k11) rfl rfl (Les.refl _) rfl (.inl rfl) rfl ?_
     refine W.not rfl (W.nil ?_)
     refine Ev.cond rfl (fun c12 => ?_) (fun c12 => ?_)
     ·replace h := iteT h c12
      refine Ev.seq ?_
      refine W.reg hm ?_
      refine W.build (cs := [.int .i64 12, .int .i64 (-2)]) rfl rfl rfl ?_
      refine W.store (es' := [[.int .i64 12, .int .i64 (-2)]]) (dt := true) rfl rfl rfl rfl rfl (Nat.le_of_ble_eq_true rfl) rfl rfl rfl rfl ?_
      refine W.nil ?_
      refine Ev.ret ?_
      injection h with h; subst h
      exact ⟨_, rfl, .refl _⟩
     ·replace h := iteF h c12
      refine Ev.skip ?_
      refine Ev.seq (Ev.seq ?_)
      refine W.reg hm ?_
      refine W.fieldAddrO rfl rfl ?_
      refine W.loadO (p := .list 2 (List.map SKindText.cells a0.Ops)) rfl rfl rfl rfl ?_
      refine W.lenL (c := SKindText.cells) rfl ?_
      refine W.mv rfl (W.nil ?_)
      refine Ev.block ?_
      refine Ev.loopW (β := Nat × Int) (fun v => ⟨[(2, .pown 10300 0 0 0), (53, .list 2 (List.map SKindText.cells a0.Ops)), (54, .int .i64 (a0.Ops.length : Int)), (55, .int .i64 v.2)], [(10300, ⟨0, 25, 2, [[.int .i64 0, .int .i64 0]], true, false, false⟩)], 2⟩) (fun v => sandbox_Validate_l2 n a0 v.1 v.2 = some r) (fun v => v.1) (n, 0) (Wk.nrmTo [2, 53, 54, 55] [(10201, 10300)] rfl rfl) h ?_
      intro ⟨m2, x10⟩ h
      try dsimp only at h ⊢
      cases m2 with
      | zero => rw [sandbox_Validate_l2] at h; cases h
      | succ m2 =>
       rw [sandbox_Validate_l2] at h
       refine Ev.seq ?_
       refine W.reg hm ?_
       refine W.lss rfl rfl (W.nil ?_)
       refine Ev.seq ?_
       refine Ev.cond rfl (fun c13 => ?_) (fun c13 => ?_)
       ·replace h := iteT h c13
        refine Ev.skip ?_
        refine Ev.seq ?_
        refine Ev.block ?_
        refine Ev.seq ?_
        refine W.reg hm ?_
        refine W.mv rfl ?_
        obtain ⟨e11, k14, h⟩ := obind h
        refine W.idxL (c := SKindText.cells) rfl rfl k14 ?_
        refine W.load rfl rfl ?_
        refine W.alloc (dt := true) rfl rfl rfl ?_
        refine W.mv rfl ?_
        refine W.store (es' := [[.int .i64 e11.Kind, .str e11.Text]]) (dt := true) rfl rfl rfl rfl rfl (Nat.le_of_ble_eq_true rfl) rfl rfl rfl rfl ?_
        refine W.nil ?_
        refine Ev.seq ?_
        refine W.reg hm ?_
        refine W.loadO (p := .agg [.int .i64 e11.Kind, .str e11.Text]) rfl rfl rfl rfl ?_
        obtain ⟨r12, k15, h⟩ := obind h
        refine W.call (sandbox_checkOp_spec n e11 r12 k15) rfl rfl (Les.refl _) rfl (.inl rfl) rfl ?_
        refine W.mv rfl (W.nil ?_)
        refine Ev.seq ?_
        refine W.reg hm ?_
        refine W.mv rfl (W.neq rfl rfl ?_)
        refine W.nil ?_
        refine Ev.cond rfl (fun c16 => ?_) (fun c16 => ?_)
        ·replace h := iteT h c16
         refine Ev.seq ?_
         refine W.reg hm ?_
         refine W.mv rfl (W.mv rfl ?_)
         obtain ⟨x13, k17, h⟩ := obind h
         refine W.subG rfl rfl k17 ?_
         refine W.build (cs := [.int .i64 r12, .int .i64 x13]) rfl rfl rfl ?_
         refine W.store (es' := [[.int .i64 r12, .int .i64 x13]]) (dt := true) rfl rfl rfl rfl rfl (Nat.le_of_ble_eq_true rfl) rfl rfl rfl rfl ?_
         refine W.nil ?_
         refine Ev.ret ?_
         injection h with h; subst h
         exact ⟨_, rfl, .refl _⟩
        ·replace h := iteF h c16
         refine Ev.skip ?_
         refine W.reg hm ?_
         obtain ⟨x14, k18, h⟩ := obind h
         refine W.addG rfl rfl k18 ?_
         refine W.mv rfl (W.nil ?_)
         exact ⟨(m2, x14), h, Nat.lt_succ_self _, Wk.nrmTo [2, 53, 54, 55] [(10300, 10300)] rfl rfl⟩
       ·replace h := iteF h c13
        refine Ev.exit ?_
        refine Ev.seq ?_
        refine W.reg hm ?_
        refine W.build (cs := [.int .i64 0, .int .i64 0]) rfl rfl rfl ?_
        refine W.store (es' := [[.int .i64 0, .int .i64 0]]) (dt := true) rfl rfl rfl rfl rfl (Nat.le_of_ble_eq_true rfl) rfl rfl rfl rfl ?_
        refine W.nil ?_
        refine Ev.ret ?_
        injection h with h; subst h
        exact ⟨_, rfl, .refl _⟩
theorem sandbox_Arguments_spec (n : Nat) (a0 : SInputsOpsOutput) (a1 : SFiles) (r : SCodeIndex) (h : sandbox_Arguments n a0 a1 = some r) : PSpec Tryd.prog 61 [.agg (SInputsOpsOutput.cells a0), .agg (SFiles.cells a1)] (.agg (SCodeIndex.cells r)) := by
 unfold sandbox_Arguments at h
 refine spec_of Tryd.c_sandbox_Arguments (by simp) ?_
 unfold Tryd.l_sandbox_Arguments
 refine Ev.seq ?_
 refine W.reg hm ?_
 refine W.box (dt := true) (cs := [.list 1 (List.map cS a0.Inputs), .list 2 (List.map SKindText.cells a0.Ops), .str a0.Output]) rfl rfl rfl rfl rfl rfl ?_
 refine W.box (dt := true) (cs := [.list 2 (List.map SPathLines.cells a1.Files)]) rfl rfl rfl rfl rfl rfl ?_
 refine W.alloc (dt := true) rfl rfl rfl ?_
 refine W.nil ?_
 refine Ev.seq (Ev.seq ?_)
 refine W.reg hm ?_
 refine W.loadO (p := .agg [.list 1 (List.map cS a0.Inputs), .list 2 (List.map SKindText.cells a0.Ops), .str a0.Output]) rfl rfl rfl rfl ?_
 obtain ⟨r1, k1, h⟩ := obind h
 refine W.call (sandbox_Validate_spec n a0 r1 k1) rfl rfl (Les.refl _) rfl (.inl rfl) rfl ?_
 refine W.alloc (dt := true) rfl rfl rfl ?_
 refine W.store (es' := [[.int .i64 r1.Code, .int .i64 r1.Index]]) (dt := true) rfl rfl rfl rfl rfl (Nat.le_of_ble_eq_true rfl) rfl rfl rfl rfl ?_
 refine W.nil ?_
 refine Ev.seq ?_
 refine W.reg hm ?_
 refine W.loadO (p := .agg [.int .i64 r1.Code, .int .i64 r1.Index]) rfl rfl rfl rfl ?_
 refine W.build (cs := [.int .i64 0, .int .i64 0]) rfl rfl rfl ?_
 refine W.eqs rfl rfl rfl (W.nil ?_)
 refine Ev.cond rfl (fun c2 => ?_) (fun c2 => ?_)
 ·replace h := iteT h c2
  refine Ev.seq ?_
  refine W.reg hm ?_
  refine W.loadO (p := .agg [.int .i64 r1.Code, .int .i64 r1.Index]) rfl rfl rfl rfl ?_
  refine W.store (es' := [[.int .i64 r1.Code, .int .i64 r1.Index]]) (dt := true) rfl rfl rfl rfl rfl (Nat.le_of_ble_eq_true rfl) rfl rfl rfl rfl ?_
  refine W.nil ?_
  refine Ev.ret ?_
  injection h with h; subst h
  exact ⟨_, rfl, .refl _⟩
 ·replace h := iteF h c2
  refine Ev.skip ?_
  refine Ev.seq ?_
  refine W.reg hm ?_
  refine W.loadO (p := .agg [.list 2 (List.map SPathLines.cells a1.Files)]) rfl rfl rfl rfl ?_
  obtain ⟨r2, k3, h⟩ := obind h
  refine W.call (treepatch_Second_spec n a1 (-20) r2 k3) rfl rfl (Les.refl _) rfl (.inl rfl) rfl ?_
  refine W.store (es' := [[.int .i64 r2.Code, .int .i64 r2.Index]]) (dt := true) rfl rfl rfl rfl rfl (Nat.le_of_ble_eq_true rfl) rfl rfl rfl rfl ?_
  refine W.nil ?_
  refine Ev.ret ?_
  injection h with h; subst h
  exact ⟨_, rfl, .refl _⟩
theorem digest_mul_spec (n : Nat) (a0 : Int) (a1 : Int) (r : Int) (h : digest_mul n a0 a1 = some r) : PSpec Tryd.prog 121 [.int .i64 a0, .int .i64 a1] (.int .i64 r) := by
 unfold digest_mul at h
 refine spec_of Tryd.c_digest_mul (by simp) ?_
 unfold Tryd.l_digest_mul
 refine Ev.seq ?_
 refine W.reg hm ?_
 refine W.mv rfl (W.nil ?_)
 refine Ev.seq ?_
 refine W.reg hm ?_
 refine W.mv rfl (W.nil ?_)
 refine Ev.seqJ (γ := Int) (fun v => ⟨[(5, .int .i64 v)], [], 2⟩) (fun v => digest_mul_j1 n v = some r) ?_ ?_
 ·refine Ev.block ?_
  refine Ev.loopW (β := Nat × Int × Int × Int) (fun v => ⟨[(0, .int .i64 v.2.1), (1, .int .i64 v.2.2.1), (5, .int .i64 v.2.2.2)], [], 2⟩) (fun v => digest_mul_l1 n v.1 v.2.1 v.2.2.1 v.2.2.2 = some r) (fun v => v.1) (n, a0, a1, 0) (Wk.nrmTo [0, 1, 5] [] rfl rfl) h ?_
  intro ⟨m1, x2, x3, x4⟩ h
  try dsimp only at h ⊢
  cases m1 with
  | zero => rw [digest_mul_l1] at h; cases h
  | succ m1 =>
   rw [digest_mul_l1] at h
   refine Ev.seq (Ev.seq ?_)
   refine W.reg hm ?_
   refine W.mv rfl (W.gtr rfl rfl ?_)
   refine W.nil ?_
   refine Ev.cond rfl (fun c1 => ?_) (fun c1 => ?_)
   ·replace h := iteT h c1
    refine Ev.skip ?_
    refine Ev.seq ?_
    refine Ev.block ?_
    refine Ev.seqJ (γ := Int) (fun v => ⟨[(0, .int .i64 x2), (1, .int .i64 x3), (5, .int .i64 v)], [], 2⟩) (fun v => digest_mul_j2 n x2 x3 (digest_mul_l1 n m1) v = some r) ?_ ?_
    ·refine Ev.seq ?_
     refine W.reg hm ?_
     refine W.mv rfl ?_
     refine W.bin (z := .int .i64 (kand .i64 x3 1)) rfl rfl rfl ?_
     refine W.eql rfl rfl (W.nil ?_)
     refine Ev.cond rfl (fun c4 => ?_) (fun c4 => ?_)
     ·replace h := iteT h c4
      refine W.reg hm ?_
      refine W.mv rfl (W.mv rfl ?_)
      obtain ⟨x8, k5, h⟩ := obind h
      refine W.addG rfl rfl k5 ?_
      obtain ⟨x9, k6, h⟩ := obind h
      refine W.remG rfl rfl k6 ?_
      refine W.mv rfl (W.nil ?_)
      exact ⟨x9, h, Wk.nrmTo [0, 1, 5] [] rfl rfl⟩
     ·replace h := iteF h c4
      refine Ev.skip ?_
      exact ⟨x4, h, Wk.nrmTo [0, 1, 5] [] rfl rfl⟩
    ·intro x5 h
     try dsimp only at h ⊢
     unfold digest_mul_j2 at h
     refine W.reg hm ?_
     refine W.mv rfl ?_
     obtain ⟨x6, k2, h⟩ := obind h
     refine W.mulG rfl rfl k2 ?_
     obtain ⟨x7, k3, h⟩ := obind h
     refine W.remG rfl rfl k3 ?_
     refine W.mv rfl (W.nil ?_)
     refine W.reg hm ?_
     refine W.mv rfl ?_
     refine W.shrC (n := 1) rfl rfl ?_
     refine W.mv rfl (W.nil ?_)
     exact ⟨(m1, x7, (kshr .i64 x3 1), x5), h, Nat.lt_succ_self _, Wk.nrmTo [0, 1, 5] [] rfl rfl⟩
   ·replace h := iteF h c1
    refine Ev.exit ?_
    exact ⟨x4, h, Wk.nrmTo [5] [] rfl rfl⟩
 ·intro x1 h
  try dsimp only at h ⊢
  unfold digest_mul_j1 at h
  refine Ev.seq ?_
  refine W.reg hm ?_
  refine W.mv rfl (W.mv rfl ?_)
  refine W.nil ?_
  refine Ev.ret ?_
  injection h with h; subst h
  exact ⟨_, rfl, .refl _⟩
theorem digest_next_spec (n : Nat) (a0 : SA0A1) (a1 : Int) (r : Int) (h : digest_next n a0 a1 = some r) : PSpec Tryd.prog 98 [.agg (SA0A1.cells a0), .int .i64 a1] (.int .i64 r) := by
 unfold digest_next at h
 refine spec_of Tryd.c_digest_next (by simp) ?_
 unfold Tryd.l_digest_next
 refine Ev.seq ?_
 refine W.reg hm ?_
 refine W.box (dt := true) (cs := [.int .i64 a0.A0, .int .i64 a0.A1]) rfl rfl rfl rfl rfl rfl ?_
 refine W.mv rfl (W.nil ?_)
 refine Ev.seq ?_
 refine W.regD hm ?_
 refine W.idxAO (n := 0) rfl rfl rfl (by decide) rfl (by decide) ?_
 refine W.loadO (p := .int .i64 a0.A0) rfl rfl rfl rfl ?_
 refine W.mv rfl ?_
 obtain ⟨r1, k1, h⟩ := obind h
 refine W.call (digest_mul_spec n a0.A0 a1 r1 k1) rfl rfl (Les.refl _) rfl (.inl rfl) rfl ?_
 refine W.idxAO (n := 1) rfl rfl rfl (by decide) rfl (by decide) ?_
 refine W.loadO (p := .int .i64 a0.A1) rfl rfl rfl rfl ?_
 obtain ⟨x2, k2, h⟩ := obind h
 refine W.addG rfl rfl k2 ?_
 obtain ⟨x3, k3, h⟩ := obind h
 refine W.remG rfl rfl k3 ?_
 refine W.mv rfl ?_
 refine W.nil ⟨rfl, ?_⟩
 refine Ev.ret ?_
 injection h with h; subst h
 exact ⟨_, rfl, .refl _⟩
theorem digest_Of_spec (n : Nat) (a0 : List Int) (r : (Int × SCodeIndex)) (h : digest_Of n a0 = some r) : PSpec Tryd.prog 63 [.list 1 (List.map (cK .u8) a0)] (.tup [.int .i64 r.1, .agg (SCodeIndex.cells r.2)]) := by
 unfold digest_Of at h
 refine spec_of Tryd.c_digest_Of (by simp) ?_
 unfold Tryd.l_digest_Of
 refine Ev.seq ?_
 refine W.reg hm ?_
 refine W.mv rfl ?_
 refine W.alloc (dt := true) rfl rfl rfl ?_
 refine W.nil ?_
 refine Ev.seq (Ev.seq ?_)
 refine W.reg hm ?_
 refine W.mv rfl ?_
 refine W.lenL (c := (cK .u8)) rfl ?_
 refine W.gtr rfl rfl (W.nil ?_)
 refine Ev.cond rfl (fun c1 => ?_) (fun c1 => ?_)
 ·replace h := iteT h c1
  refine Ev.seq ?_
  refine W.reg hm ?_
  refine W.build (cs := [.int .i64 2, .int .i64 0]) rfl rfl rfl ?_
  refine W.mv rfl ?_
  refine W.store (es' := [[.int .i64 2, .int .i64 0]]) (dt := true) rfl rfl rfl rfl rfl (Nat.le_of_ble_eq_true rfl) rfl rfl rfl rfl ?_
  refine W.nil ?_
  refine Ev.ret ?_
  injection h with h; subst h
  exact ⟨_, rfl, .refl _⟩
 ·replace h := iteF h c1
  refine Ev.skip ?_
  refine Ev.seq ?_
  refine W.reg hm ?_
  refine W.mv rfl (W.nil ?_)
  refine Ev.seq (Ev.seq ?_)
  refine W.reg hm ?_
  refine W.mv rfl ?_
  refine W.lenL (c := (cK .u8)) rfl ?_
  refine W.mv rfl (W.nil ?_)
  refine Ev.block ?_
  refine Ev.loopW (β := Nat × Int × Int) (fun v => ⟨[(3, .pown 10100 0 0 0), (4, .int .i64 v.2.1), (11, .list 1 (List.map (cK .u8) a0)), (12, .int .i64 (a0.length : Int)), (13, .int .i64 v.2.2)], [(10100, ⟨0, 25, 2, [[.int .i64 0, .int .i64 0]], true, false, false⟩)], 2⟩) (fun v => digest_Of_l1 n a0 v.1 v.2.1 v.2.2 = some r) (fun v => v.1) (n, 1, 0) (Wk.nrmTo [3, 4, 11, 12, 13] [(3, 10100)] rfl rfl) h ?_
  intro ⟨m1, x1, x2⟩ h
  try dsimp only at h ⊢
  cases m1 with
  | zero => rw [digest_Of_l1] at h; cases h
  | succ m1 =>
   rw [digest_Of_l1] at h
   refine Ev.seq ?_
   refine W.reg hm ?_
   refine W.lss rfl rfl (W.nil ?_)
   refine Ev.seq ?_
   refine Ev.cond rfl (fun c2 => ?_) (fun c2 => ?_)
   ·replace h := iteT h c2
    refine Ev.skip ?_
    refine Ev.seq ?_
    refine Ev.block ?_
    refine Ev.seq ?_
    refine W.reg hm ?_
    obtain ⟨e3, k3, h⟩ := obind h
    refine W.idxL (c := (cK .u8)) rfl rfl k3 ?_
    refine W.load rfl rfl (W.mv rfl ?_)
    refine W.nil ?_
    refine W.reg hm ?_
    refine W.mv rfl (W.mv rfl ?_)
    refine W.conv rfl rfl ?_
    obtain ⟨x4, k4, h⟩ := obind h
    refine W.addG rfl rfl k4 ?_
    refine W.build (cs := [.int .i64 x1, .int .i64 x4]) rfl rfl rfl ?_
    obtain ⟨r5, k5, h⟩ := obind h
    refine W.call (digest_next_spec n (⟨x1, x4⟩ : SA0A1) 257 r5 k5) rfl rfl (Les.refl _) rfl (.inl rfl) rfl ?_
    refine W.mv rfl (W.nil ?_)
    refine W.reg hm ?_
    obtain ⟨x6, k6, h⟩ := obind h
    refine W.addG rfl rfl k6 ?_
    refine W.mv rfl (W.nil ?_)
    exact ⟨(m1, r5, x6), h, Nat.lt_succ_self _, Wk.nrmTo [3, 4, 11, 12, 13] [(10100, 10100)] rfl rfl⟩
   ·replace h := iteF h c2
    refine Ev.exit ?_
    refine Ev.seq ?_
    refine W.reg hm ?_
    refine W.mv rfl ?_
    refine W.build (cs := [.int .i64 0, .int .i64 0]) rfl rfl rfl ?_
    refine W.mv rfl ?_
    refine W.store (es' := [[.int .i64 0, .int .i64 0]]) (dt := true) rfl rfl rfl rfl rfl (Nat.le_of_ble_eq_true rfl) rfl rfl rfl rfl ?_
    refine W.nil ?_
    refine Ev.ret ?_
    injection h with h; subst h
    exact ⟨_, rfl, .refl _⟩
theorem actioncache_Key_1_spec (n : Nat) (a0 : List UInt8) (r : Int) (h : actioncache_Key_1 n a0 = some r) : PSpec Tryd.prog 62 [.str a0] (.int .i64 r) := by
 unfold actioncache_Key_1 at h
 refine spec_of Tryd.c_actioncache_Key_1 (by simp) ?_
 unfold Tryd.l_actioncache_Key_1
 refine Ev.seq ?_
 refine W.reg hm ?_
 refine W.mv rfl (W.nil ?_)
 refine Ev.seq ?_
 refine W.reg hm ?_
 refine W.mv rfl (W.toBytes rfl ?_)
 obtain ⟨r1, k1, h⟩ := obind h
 refine W.call (digest_Of_spec n (bts a0) r1 k1) rfl rfl (Les.refl _) rfl (.inl rfl) rfl ?_
 refine W.mv rfl (W.extract rfl rfl ?_)
 refine W.extract rfl rfl ?_
 refine W.alloc (dt := true) rfl rfl rfl ?_
 refine W.mv rfl ?_
 refine W.store (es' := [[.int .i64 r1.2.Code, .int .i64 r1.2.Index]]) (dt := true) rfl rfl rfl rfl rfl (Nat.le_of_ble_eq_true rfl) rfl rfl rfl rfl ?_
 refine W.nil ?_
 refine Ev.seq ?_
 refine W.reg hm ?_
 refine W.mv rfl (W.mv rfl ?_)
 refine W.nil ?_
 refine Ev.ret ?_
 injection h with h; subst h
 exact ⟨_, rfl, .refl _⟩
theorem digest_pair_spec (n : Nat) (a0 : Int) (a1 : Int) (r : Int) (h : digest_pair n a0 a1 = some r) : PSpec Tryd.prog 99 [.int .i64 a0, .int .i64 a1] (.int .i64 r) := by
 unfold digest_pair at h
 refine spec_of Tryd.c_digest_pair (by simp) ?_
 unfold Tryd.l_digest_pair
 refine Ev.seq ?_
 refine W.reg hm ?_
 refine W.mv rfl (W.nil ?_)
 refine Ev.seq ?_
 refine W.reg hm ?_
 refine W.mv rfl (W.mv rfl ?_)
 refine W.build (cs := [.int .i64 a1, .int .i64 7]) rfl rfl rfl ?_
 obtain ⟨r1, k1, h⟩ := obind h
 refine W.call (digest_next_spec n (⟨a1, 7⟩ : SA0A1) 31 r1 k1) rfl rfl (Les.refl _) rfl (.inl rfl) rfl ?_
 refine W.build (cs := [.int .i64 a0, .int .i64 r1]) rfl rfl rfl ?_
 obtain ⟨r2, k2, h⟩ := obind h
 refine W.call (digest_next_spec n (⟨a0, r1⟩ : SA0A1) 1000003 r2 k2) rfl rfl (Les.refl _) rfl (.inl rfl) rfl ?_
 refine W.mv rfl (W.nil ?_)
 refine Ev.ret ?_
 injection h with h; subst h
 exact ⟨_, rfl, .refl _⟩
set_option maxHeartbeats 4000000 in
theorem digest_Strings_spec (n : Nat) (a0 : List (List UInt8)) (r : (Int × SCodeIndex)) (h : digest_Strings n a0 = some r) : PSpec Tryd.prog 64 [.list 1 (List.map cS a0)] (.tup [.int .i64 r.1, .agg (SCodeIndex.cells r.2)]) := by
 unfold digest_Strings at h
 refine spec_of Tryd.c_digest_Strings (by simp) ?_
 unfold Tryd.l_digest_Strings
 refine Ev.seq ?_
 refine W.reg hm ?_
 refine W.mv rfl ?_
 refine W.alloc (dt := true) rfl rfl rfl ?_
 refine W.nil ?_
 refine Ev.seq (Ev.seq ?_)
 refine W.reg hm ?_
 refine W.mv rfl ?_
 refine W.lenL (c := cS) rfl ?_
 refine W.gtr rfl rfl (W.nil ?_)
 refine Ev.cond rfl (fun c1 => ?_) (fun c1 => ?_)
 ·replace h := iteT h c1
  refine Ev.seq ?_
  refine W.reg hm ?_
  refine W.build (cs := [.int .i64 2, .int .i64 (-1)]) rfl rfl rfl ?_
  refine W.mv rfl ?_
  refine W.store (es' := [[.int .i64 2, .int .i64 (-1)]]) (dt := true) rfl rfl rfl rfl rfl (Nat.le_of_ble_eq_true rfl) rfl rfl rfl rfl ?_
  refine W.nil ?_
  refine Ev.ret ?_
  injection h with h; subst h
  exact ⟨_, rfl, .refl _⟩
 ·replace h := iteF h c1
  refine Ev.skip ?_
  refine Ev.seq ?_
  refine W.reg hm ?_
  refine W.mv rfl (W.nil ?_)
  refine Ev.seq (Ev.seq ?_)
  refine W.reg hm ?_
  refine W.mv rfl ?_
  refine W.lenL (c := cS) rfl ?_
  refine W.mv rfl (W.nil ?_)
  refine Ev.block ?_
  refine Ev.loopW (β := Nat × Int × Int) (fun v => ⟨[(3, .pown 10100 0 0 0), (4, .int .i64 v.2.1), (13, .list 1 (List.map cS a0)), (14, .int .i64 (a0.length : Int)), (15, .int .i64 v.2.2)], [(10100, ⟨0, 25, 2, [[.int .i64 0, .int .i64 0]], true, false, false⟩)], 2⟩) (fun v => digest_Strings_l1 n a0 v.1 v.2.1 v.2.2 = some r) (fun v => v.1) (n, 2, 0) (Wk.nrmTo [3, 4, 13, 14, 15] [(3, 10100)] rfl rfl) h ?_
  intro ⟨m1, x1, x2⟩ h
  try dsimp only at h ⊢
  cases m1 with
  | zero => rw [digest_Strings_l1] at h; cases h
  | succ m1 =>
   rw [digest_Strings_l1] at h
   refine Ev.seq ?_
   refine W.reg hm ?_
   refine W.lss rfl rfl (W.nil ?_)
   refine Ev.seq ?_
   refine Ev.cond rfl (fun c2 => ?_) (fun c2 => ?_)
   ·replace h := iteT h c2
    refine Ev.skip ?_
    refine Ev.seq ?_
    refine Ev.block ?_
    refine Ev.seq ?_
    refine W.reg hm ?_
    refine W.mv rfl ?_
    obtain ⟨e3, k3, h⟩ := obind h
    refine W.idxL (c := cS) rfl rfl k3 ?_
    refine W.load rfl rfl (W.mv rfl ?_)
    refine W.mv rfl (W.nil ?_)
    refine Ev.seq ?_
    refine W.reg hm ?_
    refine W.mv rfl (W.toBytes rfl ?_)
    obtain ⟨r4, k4, h⟩ := obind h
    refine W.call (digest_Of_spec n (bts e3) r4 k4) rfl rfl (Les.refl _) rfl (.inl rfl) rfl ?_
    refine W.mv rfl (W.extract rfl rfl ?_)
    refine W.extract rfl rfl ?_
    refine W.alloc (dt := true) rfl rfl rfl ?_
    refine W.mv rfl ?_
    refine W.store (es' := [[.int .i64 r4.2.Code, .int .i64 r4.2.Index]]) (dt := true) rfl rfl rfl rfl rfl (Nat.le_of_ble_eq_true rfl) rfl rfl rfl rfl ?_
    refine W.nil ?_
    refine Ev.seq (Ev.seq ?_)
    refine W.reg hm ?_
    refine W.loadO (p := .agg [.int .i64 r4.2.Code, .int .i64 r4.2.Index]) rfl rfl rfl rfl ?_
    refine W.build (cs := [.int .i64 0, .int .i64 0]) rfl rfl rfl ?_
    refine W.eqs rfl rfl rfl (W.nil ?_)
    refine Ev.cond rfl (fun c5 => ?_) (fun c5 => ?_)
    ·replace h := iteT h c5
     refine Ev.seq ?_
     refine W.regD hm ?_
     refine W.fieldAddrO rfl rfl ?_
     refine W.loadO (p := .int .i64 r4.2.Code) rfl rfl rfl rfl ?_
     refine W.mv rfl ?_
     refine W.build (cs := [.int .i64 r4.2.Code, .int .i64 x2]) rfl rfl rfl ?_
     refine W.mv rfl ?_
     refine W.store (es' := [[.int .i64 r4.2.Code, .int .i64 x2]]) (dt := true) rfl rfl rfl rfl rfl (Nat.le_of_ble_eq_true rfl) rfl rfl rfl rfl ?_
     refine W.nil ⟨rfl, ?_⟩
     refine Ev.ret ?_
     injection h with h; subst h
     exact ⟨_, rfl, .refl _⟩
    ·replace h := iteF h c5
     refine Ev.skip ?_
     refine W.reg hm ?_
     refine W.mv rfl (W.mv rfl ?_)
     obtain ⟨r5, k6, h⟩ := obind h
     refine W.call (digest_pair_spec n x1 r4.1 r5 k6) rfl rfl (Les.refl _) rfl (.inl rfl) rfl ?_
     refine W.mv rfl (W.nil ?_)
     refine W.reg hm ?_
     obtain ⟨x6, k7, h⟩ := obind h
     refine W.addG rfl rfl k7 ?_
     refine W.mv rfl (W.nil ?_)
     exact ⟨(m1, r5, x6), h, Nat.lt_succ_self _, Wk.nrmTo [3, 4, 13, 14, 15] [(10100, 10100)] rfl rfl⟩
   ·replace h := iteF h c2
    refine Ev.exit ?_
    refine Ev.seq ?_
    refine W.reg hm ?_
    refine W.mv rfl ?_
    refine W.build (cs := [.int .i64 0, .int .i64 0]) rfl rfl rfl ?_
    refine W.mv rfl ?_
    refine W.store (es' := [[.int .i64 0, .int .i64 0]]) (dt := true) rfl rfl rfl rfl rfl (Nat.le_of_ble_eq_true rfl) rfl rfl rfl rfl ?_
    refine W.nil ?_
    refine Ev.ret ?_
    injection h with h; subst h
    exact ⟨_, rfl, .refl _⟩
theorem strings_Compare_spec (n : Nat) (a0 : List UInt8) (a1 : List UInt8) (r : Int) (h : strings_Compare n a0 a1 = some r) : PSpec Tryd.prog 87 [.str a0, .str a1] (.int .i64 r) := by
 unfold strings_Compare at h
 injection h with h
 subst h
 exact k_Compare a0 a1
set_option maxHeartbeats 4000000 in
theorem treepatch_Find_spec (n : Nat) (a0 : List SPathLines) (a1 : List UInt8) (r : (Int × Bool)) (h : treepatch_Find n a0 a1 = some r) : PSpec Tryd.prog 65 [.list 2 (List.map SPathLines.cells a0), .str a1] (.tup [.int .i64 r.1, .bool r.2]) := by
 unfold treepatch_Find at h
 refine spec_of Tryd.c_treepatch_Find (by simp) ?_
 unfold Tryd.l_treepatch_Find
 refine Ev.seq ?_
 refine W.reg hm ?_
 refine W.mv rfl (W.mv rfl ?_)
 refine W.nil ?_
 refine Ev.seq ?_
 refine Ev.regS rfl ?_
 refine Sq.w 2 (Nat.le_of_ble_eq_true rfl) ?_
 refine W.mv rfl (W.mv rfl ?_)
 refine W.nil ?_
 refine Sq.call rfl Tryd.c_slices_BinarySearchFunc_api_File_api_File_string ⟨_, rfl, Nat.le_of_ble_eq_true rfl, ?_⟩
 unfold Tryd.l_slices_BinarySearchFunc_api_File_api_File_string
 refine Ev.retJ (γ := Int × Bool) (fun v => ⟨[(6, .int .i64 v.1), (7, .bool v.2), (65540, .int .i64 0), (65541, .bool false)], [], 2⟩) (fun v => treepatch_Find_j1 n v.1 v.2 = some r) ?_ ?_
 ·refine Ev.seq ?_
  refine W.reg hm ?_
  refine W.mv rfl (W.mv rfl ?_)
  refine W.nil ?_
  refine Ev.seq ?_
  refine W.reg hm ?_
  refine W.mv rfl ?_
  refine W.lenL (c := SPathLines.cells) rfl ?_
  refine W.mv rfl (W.nil ?_)
  refine Ev.seq ?_
  refine W.reg hm ?_
  refine W.mv rfl (W.mv rfl ?_)
  refine W.mv rfl (W.nil ?_)
  refine Ev.seqJ (γ := Int) (fun v => ⟨[(0, .list 2 (List.map SPathLines.cells a0)), (1, .str a1), (2, .fn 101 [] []), (8, .int .i64 (a0.length : Int)), (9, .int .i64 v), (65540, .int .i64 0), (65541, .bool false)], [], 2⟩) (fun v => treepatch_Find_j2 n a0 a1 v = some r) ?_ ?_
  ·refine Ev.block ?_
   refine Ev.loopW (β := Nat × Int × Int) (fun v => ⟨[(0, .list 2 (List.map SPathLines.cells a0)), (1, .str a1), (2, .fn 101 [] []), (8, .int .i64 (a0.length : Int)), (9, .int .i64 v.2.1), (10, .int .i64 v.2.2), (65540, .int .i64 0), (65541, .bool false)], [], 2⟩) (fun v => treepatch_Find_l1 n a0 a1 v.1 v.2.1 v.2.2 = some r) (fun v => v.1) (n, 0, (a0.length : Int)) (Wk.nrmTo [0, 1, 2, 8, 9, 10, 65540, 65541] [] rfl rfl) h ?_
   intro ⟨m1, x8, x9⟩ h
   try dsimp only at h ⊢
   cases m1 with
   | zero => rw [treepatch_Find_l1] at h; cases h
   | succ m1 =>
    rw [treepatch_Find_l1] at h
    refine Ev.seq (Ev.seq ?_)
    refine W.reg hm ?_
    refine W.mv rfl (W.mv rfl ?_)
    refine W.lss rfl rfl (W.nil ?_)
    refine Ev.cond rfl (fun c4 => ?_) (fun c4 => ?_)
    ·replace h := iteT h c4
     refine Ev.skip ?_
     refine Ev.block ?_
     refine Ev.seq ?_
     refine W.reg hm ?_
     refine W.mv rfl (W.mv rfl ?_)
     obtain ⟨x10, k5, h⟩ := obind h
     refine W.addG rfl rfl k5 ?_
     refine W.conv rfl rfl ?_
     refine W.shrC (n := 1) rfl rfl ?_
     refine W.conv rfl rfl (W.mv rfl ?_)
     refine W.nil ?_
     refine Ev.seq ?_
     refine Ev.regS rfl ?_
     refine Sq.w 6 (Nat.le_of_ble_eq_true rfl) ?_
     refine W.mv rfl (W.mv rfl ?_)
     refine W.mv rfl ?_
     obtain ⟨e11, k6, h⟩ := obind h
     refine W.idxL (c := SPathLines.cells) rfl rfl k6 ?_
     refine W.load rfl rfl (W.mv rfl ?_)
     refine W.nil ?_
     refine Sq.callv (f := 101) rfl Tryd.b_treepatch_Find_1 Tryd.c_treepatch_Find_1 ⟨_, _, _, rfl, Nat.le_of_ble_eq_true rfl, ?_⟩
     unfold Tryd.l_treepatch_Find_1
     refine Ev.retJ (γ := Int) (fun v => ⟨[(4, .int .i64 v), (65536, .list 2 (List.map SPathLines.cells a0)), (65537, .str a1), (65538, .fn 101 [] []), (65544, .int .i64 (a0.length : Int)), (65545, .int .i64 x8), (65546, .int .i64 x9), (65547, .int .i64 (IntKind.wrap .i64 (kshr .u64 (IntKind.wrap .u64 x10) 1))), (131076, .int .i64 0), (131077, .bool false)], [], 2⟩) (fun v => treepatch_Find_j5 n x8 x9 (treepatch_Find_l1 n a0 a1 m1) x10 v = some r) ?_ ?_
     ·refine Ev.seq ?_
      refine W.reg hm ?_
      refine W.box (dt := true) (cs := [.str e11.Path, .list 1 (List.map cS e11.Lines)]) rfl rfl rfl rfl rfl rfl ?_
      refine W.mv rfl (W.nil ?_)
      refine Ev.seq ?_
      refine W.reg hm ?_
      refine W.fieldAddrO rfl rfl ?_
      refine W.loadO (p := .str e11.Path) rfl rfl rfl rfl ?_
      refine W.mv rfl ?_
      obtain ⟨r14, k9, h⟩ := obind h
      refine W.call (strings_Compare_spec n e11.Path a1 r14 k9) rfl rfl (Les.refl _) rfl (.inl rfl) rfl ?_
      refine W.mv rfl (W.nil ?_)
      refine Ev.ret ?_
      exact ⟨r14, h, Wk.nrmTo [4, 65536, 65537, 65538, 65544, 65545, 65546, 65547, 131076, 131077] [] rfl rfl⟩
     ·intro x12 h
      try dsimp only at h ⊢
      unfold treepatch_Find_j5 at h
      refine ⟨_, rfl, ?_⟩
      refine Sq.wEnd (Nat.le_of_ble_eq_true rfl) ?_
      refine W.lss rfl rfl (W.nil ?_)
      refine Ev.cond rfl (fun c7 => ?_) (fun c7 => ?_)
      ·replace h := iteT h c7
       refine W.reg hm ?_
       refine W.mv rfl ?_
       obtain ⟨x13, k8, h⟩ := obind h
       refine W.addG rfl rfl k8 ?_
       refine W.mv rfl (W.nil ?_)
       exact ⟨(m1, x13, x9), h, Nat.lt_succ_self _, Wk.nrmTo [0, 1, 2, 8, 9, 10, 65540, 65541] [] rfl rfl⟩
      ·replace h := iteF h c7
       refine W.reg hm ?_
       refine W.mv rfl (W.mv rfl ?_)
       refine W.nil ?_
       exact ⟨(m1, x8, (IntKind.wrap .i64 (kshr .u64 (IntKind.wrap .u64 x10) 1))), h, Nat.lt_succ_self _, Wk.nrmTo [0, 1, 2, 8, 9, 10, 65540, 65541] [] rfl rfl⟩
    ·replace h := iteF h c4
     refine Ev.exit ?_
     exact ⟨x8, h, Wk.nrmTo [0, 1, 2, 8, 9, 65540, 65541] [] rfl rfl⟩
  ·intro x3 h
   try dsimp only at h ⊢
   unfold treepatch_Find_j2 at h
   refine Ev.seqJ (γ := Bool) (fun v => ⟨[(6, .int .i64 x3), (7, .bool v), (65540, .int .i64 0), (65541, .bool false)], [], 2⟩) (fun v => treepatch_Find_j3 n x3 v = some r) ?_ ?_
   ·refine Ev.regS rfl ?_
    refine Sq.w 11 (Nat.le_of_ble_eq_true rfl) ?_
    refine W.mv rfl (W.mv rfl ?_)
    refine W.mv rfl (W.lss rfl rfl ?_)
    refine W.mv rfl ?_
    refine W.split 39 rfl (fun c1 => ?_) (fun c1 => ?_)
    ·replace h := iteT h c1
     refine W.guardT rfl c1 ?_
     refine W.mv rfl ?_
     refine W.guardT rfl c1 ?_
     refine W.mv rfl ?_
     refine W.guardT rfl c1 ?_
     refine W.mv rfl ?_
     refine W.guardT rfl c1 ?_
     obtain ⟨e5, k2, h⟩ := obind h
     refine W.idxL (c := SPathLines.cells) rfl rfl k2 ?_
     refine W.guardT rfl c1 ?_
     refine W.load rfl rfl ?_
     refine W.guardT rfl c1 ?_
     refine W.mv rfl (W.nil ?_)
     refine Sq.callvG (f := 101) rfl Tryd.b_treepatch_Find_1 Tryd.c_treepatch_Find_1 (lookT rfl c1) ⟨_, _, _, rfl, Nat.le_of_ble_eq_true rfl, ?_⟩
     unfold Tryd.l_treepatch_Find_1
     refine Ev.retJ (γ := Int) (fun v => ⟨[(4, .int .i64 v), (65571, .int .i64 x3), (65575, .bool (decide (x3 < (a0.length : Int)))), (131076, .int .i64 0), (131077, .bool false)], [], 2⟩) (fun v => treepatch_Find_j4 n x3 v = some r) ?_ ?_
     ·refine Ev.seq ?_
      refine W.reg hm ?_
      refine W.box (dt := true) (cs := [.str e5.Path, .list 1 (List.map cS e5.Lines)]) rfl rfl rfl rfl rfl rfl ?_
      refine W.mv rfl (W.nil ?_)
      refine Ev.seq ?_
      refine W.reg hm ?_
      refine W.fieldAddrO rfl rfl ?_
      refine W.loadO (p := .str e5.Path) rfl rfl rfl rfl ?_
      refine W.mv rfl ?_
      obtain ⟨r7, k3, h⟩ := obind h
      refine W.call (strings_Compare_spec n e5.Path a1 r7 k3) rfl rfl (Les.refl _) rfl (.inl rfl) rfl ?_
      refine W.mv rfl (W.nil ?_)
      refine Ev.ret ?_
      exact ⟨r7, h, Wk.nrmTo [4, 65571, 65575, 131076, 131077] [] rfl rfl⟩
     ·intro x6 h
      try dsimp only at h ⊢
      unfold treepatch_Find_j4 at h
      refine ⟨_, rfl, ?_⟩
      refine Sq.wEnd (Nat.le_of_ble_eq_true rfl) ?_
      refine W.guardT rfl c1 ?_
      refine W.eql rfl rfl ?_
      refine W.pickT rfl rfl rfl c1 ?_
      refine W.mv rfl (W.mv rfl ?_)
      refine W.nil ?_
      exact ⟨(decide (x6 = 0)), h, Wk.nrmTo [6, 7, 65540, 65541] [] rfl rfl⟩
    ·replace h := iteF h c1
     refine W.guardF1 rfl c1 ?_
     refine W.guardF1 rfl c1 ?_
     refine W.guardF1 rfl c1 ?_
     refine W.guardF1 rfl c1 ?_
     refine W.guardF1 rfl c1 ?_
     refine W.guardF1 rfl c1 ?_
     refine W.nil ?_
     refine Sq.off rfl (.inl (lookT rfl c1)) ?_
     refine Sq.wEnd (Nat.le_of_ble_eq_true rfl) ?_
     refine W.guardF1 rfl c1 ?_
     refine W.pickN rfl rfl rfl c1 ?_
     refine W.mv rfl (W.mv rfl ?_)
     refine W.nil ?_
     exact ⟨false, h, Wk.nrmTo [6, 7, 65540, 65541] [] rfl rfl⟩
   ·intro x4 h
    try dsimp only at h ⊢
    unfold treepatch_Find_j3 at h
    refine Ev.ret ?_
    exact ⟨(x3, x4), h, Wk.nrmTo [6, 7, 65540, 65541] [] rfl rfl⟩
 ·intro ⟨x1, x2⟩ h
  try dsimp only at h ⊢
  unfold treepatch_Find_j1 at h
  refine ⟨_, rfl, ?_⟩
  refine Sq.wEnd (Nat.le_of_ble_eq_true rfl) ?_
  refine W.extract rfl rfl (W.extract rfl rfl ?_)
  refine W.mv rfl (W.mv rfl ?_)
  refine W.nil ?_
  refine Ev.ret ?_
  injection h with h; subst h
  exact ⟨_, rfl, .refl _⟩
theorem digest_is_spec (n : Nat) (a0 : Int) (r : Bool) (h : digest_is n a0 = some r) : PSpec Tryd.prog 122 [.int .i64 a0] (.bool r) := by
 unfold digest_is at h
 refine spec_of Tryd.c_digest_is (by simp) ?_
 unfold Tryd.l_digest_is
 refine Ev.seq ?_
 refine W.reg hm ?_
 refine W.mv rfl (W.nil ?_)
 refine Ev.seqJ (γ := Bool) (fun v => ⟨[(2, .bool v)], [], 2⟩) (fun v => digest_is_j1 n v = some r) ?_ ?_
 ·refine W.reg hm ?_
  refine W.mv rfl (W.geq rfl rfl ?_)
  refine W.mv rfl ?_
  refine W.split 5 rfl (fun c1 => ?_) (fun c1 => ?_)
  ·replace h := iteT h c1
   refine W.guardT rfl c1 ?_
   refine W.mv rfl ?_
   refine W.guardT rfl c1 ?_
   refine W.lss rfl rfl ?_
   refine W.pickT rfl rfl rfl c1 ?_
   refine W.mv rfl (W.nil ?_)
   exact ⟨(decide (a0 < 2305843009213693951)), h, Wk.nrmTo [2] [] rfl rfl⟩
  ·replace h := iteF h c1
   refine W.guardF1 rfl c1 ?_
   refine W.guardF1 rfl c1 ?_
   refine W.pickN rfl rfl rfl c1 ?_
   refine W.mv rfl (W.nil ?_)
   exact ⟨false, h, Wk.nrmTo [2] [] rfl rfl⟩
 ·intro x1 h
  try dsimp only at h ⊢
  unfold digest_is_j1 at h
  refine Ev.ret ?_
  injection h with h; subst h
  exact ⟨_, rfl, .refl _⟩
end Go.Proofs.YtlkknmhhefjmjaaDoor
