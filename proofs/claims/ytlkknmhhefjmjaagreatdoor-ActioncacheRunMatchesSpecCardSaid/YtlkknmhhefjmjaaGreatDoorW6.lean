/- The functions compute what the texts of D say. Laid by a program (wip/gen/dec.py). -/
import Derived.Test.YtlkknmhhefjmjaaGreatDoorD
import Derived.Test.YtlkknmhhefjmjaaGreatDoorW5
namespace Go.Proofs.YtlkknmhhefjmjaaGreatDoor
open Go.PW Go
theorem ref1_DigestPair_spec (n : Nat) (a0 : Int) (a1 : Int) (r : Int) (h : ref1_DigestPair n a0 a1 = some r) : PSpec Tryz.prog 86 [.int .i64 a0, .int .i64 a1] (.int .i64 r) := by
 unfold ref1_DigestPair at h
 refine spec_of Tryz.c_ref1_DigestPair (by simp) ?_
 unfold Tryz.l_ref1_DigestPair
 refine Ev.seq ?_
 refine W.reg hm ?_
 refine W.mv rfl (W.nil ?_)
 refine Ev.seq ?_
 refine W.reg hm ?_
 refine W.mv rfl ?_
 obtain ⟨r1, k1, h⟩ := obind h
 refine W.call (ref1_times_spec n a0 1000003 r1 k1) rfl rfl (Les.refl _) rfl (.inl rfl) rfl ?_
 refine W.mv rfl ?_
 obtain ⟨r2, k2, h⟩ := obind h
 refine W.call (ref1_times_spec n a1 31 r2 k2) rfl rfl (Les.refl _) rfl (.inl rfl) rfl ?_
 obtain ⟨x3, k3, h⟩ := obind h
 refine W.addG rfl rfl k3 ?_
 obtain ⟨x4, k4, h⟩ := obind h
 refine W.addG rfl rfl k4 ?_
 obtain ⟨x5, k5, h⟩ := obind h
 refine W.remG rfl rfl k5 ?_
 refine W.mv rfl (W.nil ?_)
 refine Ev.ret ?_
 injection h with h; subst h
 exact ⟨_, rfl, .refl _⟩
theorem ref1_DigestOf_spec (n : Nat) (a0 : List Int) (r : Int) (h : ref1_DigestOf n a0 = some r) : PSpec Tryz.prog 87 [.list 1 (List.map (cK .u8) a0)] (.int .i64 r) := by
 unfold ref1_DigestOf at h
 refine spec_of Tryz.c_ref1_DigestOf (by simp) ?_
 unfold Tryz.l_ref1_DigestOf
 refine Ev.seq ?_
 refine W.reg hm ?_
 refine W.mv rfl (W.nil ?_)
 refine Ev.seq ?_
 refine W.reg hm ?_
 refine W.mv rfl (W.nil ?_)
 refine Ev.seq (Ev.seq ?_)
 refine W.reg hm ?_
 refine W.mv rfl (W.nil ?_)
 refine Ev.block ?_
 refine Ev.loopW (β := Nat × Int × Int) (fun v => ⟨[(0, .list 1 (List.map (cK .u8) a0)), (3, .int .i64 v.2.1), (4, .int .i64 v.2.2)], [], 2⟩) (fun v => ref1_DigestOf_l1 n a0 v.1 v.2.1 v.2.2 = some r) (fun v => v.1) (n, 1, 0) (Wk.nrmTo [0, 3, 4] [] rfl rfl) h ?_
 intro ⟨m1, x1, x2⟩ h
 try dsimp only at h ⊢
 cases m1 with
 | zero => rw [ref1_DigestOf_l1] at h; cases h
 | succ m1 =>
  rw [ref1_DigestOf_l1] at h
  refine Ev.seq (Ev.seq ?_)
  refine W.reg hm ?_
  refine W.mv rfl (W.mv rfl ?_)
  refine W.lenL (c := (cK .u8)) rfl ?_
  refine W.lss rfl rfl (W.nil ?_)
  refine Ev.cond rfl (fun c1 => ?_) (fun c1 => ?_)
  ·replace h := iteT h c1
   refine Ev.skip ?_
   refine Ev.seq ?_
   refine Ev.block ?_
   refine W.regD hm ?_
   refine W.mv rfl ?_
   obtain ⟨r3, k2, h⟩ := obind h
   refine W.call (ref1_times_spec n x1 257 r3 k2) rfl rfl (Les.refl _) rfl (.inl rfl) rfl ?_
   refine W.mv rfl (W.mv rfl ?_)
   obtain ⟨e4, k3, h⟩ := obind h
   refine W.idxL (c := (cK .u8)) rfl rfl k3 ?_
   refine W.load rfl rfl (W.conv rfl rfl ?_)
   obtain ⟨x5, k4, h⟩ := obind h
   refine W.addG rfl rfl k4 ?_
   obtain ⟨x6, k5, h⟩ := obind h
   refine W.addG rfl rfl k5 ?_
   obtain ⟨x7, k6, h⟩ := obind h
   refine W.remG rfl rfl k6 ?_
   refine W.mv rfl ?_
   refine W.nil ⟨rfl, ?_⟩
   refine W.reg hm ?_
   refine W.mv rfl ?_
   obtain ⟨x8, k7, h⟩ := obind h
   refine W.addG rfl rfl k7 ?_
   refine W.mv rfl (W.nil ?_)
   exact ⟨(m1, x7, x8), h, Nat.lt_succ_self _, Wk.nrmTo [0, 3, 4] [] rfl rfl⟩
  ·replace h := iteF h c1
   refine Ev.exit ?_
   refine Ev.seq ?_
   refine W.reg hm ?_
   refine W.mv rfl (W.mv rfl ?_)
   refine W.nil ?_
   refine Ev.ret ?_
   injection h with h; subst h
   exact ⟨_, rfl, .refl _⟩
theorem ref1_DigestStrings_spec (n : Nat) (a0 : List (List UInt8)) (r : (Int × SCodeIndex)) (h : ref1_DigestStrings n a0 = some r) : PSpec Tryz.prog 133 [.list 1 (List.map cS a0)] (.tup [.int .i64 r.1, .agg (SCodeIndex.cells r.2)]) := by
 unfold ref1_DigestStrings at h
 refine spec_of Tryz.c_ref1_DigestStrings (by simp) ?_
 unfold Tryz.l_ref1_DigestStrings
 refine Ev.seq ?_
 refine W.reg hm ?_
 refine W.mv rfl ?_
 refine W.alloc (dt := true) rfl rfl rfl ?_
 refine W.nil ?_
 refine Ev.seq (Ev.seq ?_)
 refine W.reg hm ?_
 refine W.mv rfl ?_
 refine W.lenL (c := cS) rfl ?_
 refine W.gtr rfl rfl (W.nil ?_)
 refine Ev.cond rfl (fun c1 => ?_) (fun c1 => ?_)
 ·replace h := iteT h c1
  refine Ev.seq ?_
  refine W.reg hm ?_
  obtain ⟨r1, k2, h⟩ := obind h
  refine W.call (ref1_At_spec n 2 (-1) r1 k2) rfl rfl (Les.refl _) rfl (.inl rfl) rfl ?_
  refine W.mv rfl ?_
  refine W.store (es' := [[.int .i64 r1.Code, .int .i64 r1.Index]]) (dt := true) rfl rfl rfl rfl rfl (Nat.le_of_ble_eq_true rfl) rfl rfl rfl rfl ?_
  refine W.nil ?_
  refine Ev.ret ?_
  injection h with h; subst h
  exact ⟨_, rfl, .refl _⟩
 ·replace h := iteF h c1
  refine Ev.skip ?_
  refine Ev.seq ?_
  refine W.reg hm ?_
  refine W.mv rfl (W.nil ?_)
  refine Ev.seq (Ev.seq ?_)
  refine W.reg hm ?_
  refine W.mv rfl (W.nil ?_)
  refine Ev.block ?_
  refine Ev.loopW (β := Nat × Int × Int) (fun v => ⟨[(0, .list 1 (List.map cS a0)), (3, .pown 10100 0 0 0), (4, .int .i64 v.2.1), (5, .int .i64 v.2.2)], [(10100, ⟨0, 31, 2, [[.int .i64 0, .int .i64 0]], true, false, false⟩)], 2⟩) (fun v => ref1_DigestStrings_l1 n a0 v.1 v.2.1 v.2.2 = some r) (fun v => v.1) (n, 2, 0) (Wk.nrmTo [0, 3, 4, 5] [(3, 10100)] rfl rfl) h ?_
  intro ⟨m1, x2, x3⟩ h
  try dsimp only at h ⊢
  cases m1 with
  | zero => rw [ref1_DigestStrings_l1] at h; cases h
  | succ m1 =>
   rw [ref1_DigestStrings_l1] at h
   refine Ev.seq (Ev.seq ?_)
   refine W.reg hm ?_
   refine W.mv rfl (W.mv rfl ?_)
   refine W.lenL (c := cS) rfl ?_
   refine W.lss rfl rfl (W.nil ?_)
   refine Ev.cond rfl (fun c3 => ?_) (fun c3 => ?_)
   ·replace h := iteT h c3
    refine Ev.skip ?_
    refine Ev.seq ?_
    refine Ev.block ?_
    refine Ev.seq (Ev.seq ?_)
    refine W.reg hm ?_
    refine W.mv rfl (W.mv rfl ?_)
    obtain ⟨e4, k4, h⟩ := obind h
    refine W.idxL (c := cS) rfl rfl k4 ?_
    refine W.load rfl rfl (W.slen rfl ?_)
    refine W.gtr rfl rfl (W.nil ?_)
    refine Ev.cond rfl (fun c5 => ?_) (fun c5 => ?_)
    ·replace h := iteT h c5
     refine Ev.seq ?_
     refine W.reg hm ?_
     refine W.mv rfl ?_
     obtain ⟨r5, k6, h⟩ := obind h
     refine W.call (ref1_At_spec n 2 x3 r5 k6) rfl rfl (Les.refl _) rfl (.inl rfl) rfl ?_
     refine W.mv rfl ?_
     refine W.store (es' := [[.int .i64 r5.Code, .int .i64 r5.Index]]) (dt := true) rfl rfl rfl rfl rfl (Nat.le_of_ble_eq_true rfl) rfl rfl rfl rfl ?_
     refine W.nil ?_
     refine Ev.ret ?_
     injection h with h; subst h
     exact ⟨_, rfl, .refl _⟩
    ·replace h := iteF h c5
     refine Ev.skip ?_
     refine W.reg hm ?_
     refine W.mv rfl (W.mv rfl ?_)
     refine W.mv rfl ?_
     refine W.idxL (c := cS) rfl rfl k4 ?_
     refine W.load rfl rfl (W.toBytes rfl ?_)
     obtain ⟨r6, k7, h⟩ := obind h
     refine W.call (ref1_DigestOf_spec n (bts e4) r6 k7) rfl rfl (Les.refl _) rfl (.inl rfl) rfl ?_
     obtain ⟨r7, k8, h⟩ := obind h
     refine W.call (ref1_DigestPair_spec n x2 r6 r7 k8) rfl rfl (Les.refl _) rfl (.inl rfl) rfl ?_
     refine W.mv rfl (W.nil ?_)
     refine W.reg hm ?_
     refine W.mv rfl ?_
     obtain ⟨x8, k9, h⟩ := obind h
     refine W.addG rfl rfl k9 ?_
     refine W.mv rfl (W.nil ?_)
     exact ⟨(m1, r7, x8), h, Nat.lt_succ_self _, Wk.nrmTo [0, 3, 4, 5] [(10100, 10100)] rfl rfl⟩
   ·replace h := iteF h c3
    refine Ev.exit ?_
    refine Ev.seq ?_
    refine W.reg hm ?_
    refine W.mv rfl ?_
    refine W.build (cs := [.int .i64 0, .int .i64 0]) rfl rfl rfl ?_
    refine W.mv rfl ?_
    refine W.store (es' := [[.int .i64 0, .int .i64 0]]) (dt := true) rfl rfl rfl rfl rfl (Nat.le_of_ble_eq_true rfl) rfl rfl rfl rfl ?_
    refine W.nil ?_
    refine Ev.ret ?_
    injection h with h; subst h
    exact ⟨_, rfl, .refl _⟩
theorem ref6_stringsSum_spec (n : Nat) (a0 : List (List UInt8)) (r : Int) (h : ref6_stringsSum n a0 = some r) : PSpec Tryz.prog 85 [.list 1 (List.map cS a0)] (.int .i64 r) := by
 unfold ref6_stringsSum at h
 refine spec_of Tryz.c_ref6_stringsSum (by simp) ?_
 unfold Tryz.l_ref6_stringsSum
 refine Ev.seq ?_
 refine W.reg hm ?_
 refine W.mv rfl (W.nil ?_)
 refine Ev.seq ?_
 refine W.reg hm ?_
 refine W.mv rfl ?_
 obtain ⟨r1, k1, h⟩ := obind h
 refine W.call (ref1_DigestStrings_spec n a0 r1 k1) rfl rfl (Les.refl _) rfl (.inl rfl) rfl ?_
 refine W.mv rfl (W.extract rfl rfl ?_)
 refine W.extract rfl rfl ?_
 refine W.alloc (dt := true) rfl rfl rfl ?_
 refine W.mv rfl ?_
 refine W.store (es' := [[.int .i64 r1.2.Code, .int .i64 r1.2.Index]]) (dt := true) rfl rfl rfl rfl rfl (Nat.le_of_ble_eq_true rfl) rfl rfl rfl rfl ?_
 refine W.nil ?_
 refine Ev.seq ?_
 refine W.reg hm ?_
 refine W.mv rfl (W.mv rfl ?_)
 refine W.nil ?_
 refine Ev.ret ?_
 injection h with h; subst h
 exact ⟨_, rfl, .refl _⟩
set_option maxHeartbeats 4000000 in
theorem ref6_ActionKey_spec (n : Nat) (a0 : SInputsOpsOutput) (a1 : SFiles) (r : Int) (h : ref6_ActionKey n a0 a1 = some r) : PSpec Tryz.prog 32 [.agg (SInputsOpsOutput.cells a0), .agg (SFiles.cells a1)] (.int .i64 r) := by
 unfold ref6_ActionKey at h
 refine spec_of Tryz.c_ref6_ActionKey (by simp) ?_
 unfold Tryz.l_ref6_ActionKey
 refine Ev.seq ?_
 refine W.reg hm ?_
 refine W.box (dt := true) (cs := [.list 1 (List.map cS a0.Inputs), .list 2 (List.map SKindText.cells a0.Ops), .str a0.Output]) rfl rfl rfl rfl rfl rfl ?_
 refine W.box (dt := true) (cs := [.list 2 (List.map SPathLines.cells a1.Files)]) rfl rfl rfl rfl rfl rfl ?_
 refine W.mv rfl (W.nil ?_)
 refine Ev.seq ?_
 refine W.reg hm ?_
 refine W.fieldAddrO rfl rfl ?_
 refine W.loadO (p := .list 1 (List.map cS a0.Inputs)) rfl rfl rfl rfl ?_
 obtain ⟨r1, k1, h⟩ := obind h
 refine W.call (ref6_stringsSum_spec n a0.Inputs r1 k1) rfl rfl (Les.refl _) rfl (.inl rfl) rfl ?_
 refine W.mv rfl (W.nil ?_)
 refine Ev.seq (Ev.seq ?_)
 refine W.reg hm ?_
 refine W.mv rfl (W.nil ?_)
 refine Ev.block ?_
 refine Ev.loopW (β := Nat × Int × Int) (fun v => ⟨[(2, .pown 10100 0 0 0), (3, .pown 10101 0 0 0), (5, .int .i64 v.2.1), (6, .int .i64 v.2.2)], [(10100, ⟨0, 53, 3, [[.list 1 (List.map cS a0.Inputs), .list 2 (List.map SKindText.cells a0.Ops), .str a0.Output]], true, false, false⟩), (10101, ⟨0, 25, 1, [[.list 2 (List.map SPathLines.cells a1.Files)]], true, false, false⟩)], 2⟩) (fun v => ref6_ActionKey_l1 n a0 a1 v.1 v.2.1 v.2.2 = some r) (fun v => v.1) (n, r1, 0) (Wk.nrmTo [2, 3, 5, 6] [(2, 10100), (3, 10101)] rfl rfl) h ?_
 intro ⟨m1, x2, x3⟩ h
 try dsimp only at h ⊢
 cases m1 with
 | zero => rw [ref6_ActionKey_l1] at h; cases h
 | succ m1 =>
  rw [ref6_ActionKey_l1] at h
  refine Ev.seq (Ev.seq ?_)
  refine W.reg hm ?_
  refine W.mv rfl (W.fieldAddrO rfl rfl ?_)
  refine W.loadO (p := .list 1 (List.map cS a0.Inputs)) rfl rfl rfl rfl ?_
  refine W.lenL (c := cS) rfl ?_
  refine W.lss rfl rfl (W.nil ?_)
  refine Ev.cond rfl (fun c2 => ?_) (fun c2 => ?_)
  ·replace h := iteT h c2
   refine Ev.skip ?_
   refine Ev.seq ?_
   refine Ev.block ?_
   refine Ev.seq ?_
   refine W.regD hm ?_
   refine W.loadO (p := .agg [.list 2 (List.map SPathLines.cells a1.Files)]) rfl rfl rfl rfl ?_
   refine W.fieldAddrO rfl rfl ?_
   refine W.loadO (p := .list 1 (List.map cS a0.Inputs)) rfl rfl rfl rfl ?_
   refine W.mv rfl ?_
   obtain ⟨e4, k3, h⟩ := obind h
   refine W.idxL (c := cS) rfl rfl k3 ?_
   refine W.load rfl rfl ?_
   obtain ⟨r5, k4, h⟩ := obind h
   refine W.call (ref6_FileIn_spec n a1 e4 r5 k4) rfl rfl (Les.refl _) rfl (.inl rfl) rfl ?_
   refine W.mv rfl (W.extract rfl rfl ?_)
   refine W.extract rfl rfl (W.mv rfl ?_)
   refine W.mv rfl ?_
   refine W.nil ⟨rfl, ?_⟩
   refine Ev.seq ?_
   refine W.reg hm ?_
   refine W.mv rfl (W.nil ?_)
   refine Ev.seqJ (γ := Int) (fun v => ⟨[(2, .pown 10200 0 0 0), (3, .pown 10201 0 0 0), (5, .int .i64 x2), (6, .int .i64 x3), (9, .int .i64 v)], [(10200, ⟨0, 53, 3, [[.list 1 (List.map cS a0.Inputs), .list 2 (List.map SKindText.cells a0.Ops), .str a0.Output]], true, false, false⟩), (10201, ⟨0, 25, 1, [[.list 2 (List.map SPathLines.cells a1.Files)]], true, false, false⟩)], 2⟩) (fun v => ref6_ActionKey_j1 n x2 x3 (ref6_ActionKey_l1 n a0 a1 m1) v = some r) ?_ ?_
   ·refine Ev.seq ?_
    refine W.reg hm ?_
    refine W.mv rfl (W.nil ?_)
    refine Ev.cond rfl (fun c7 => ?_) (fun c7 => ?_)
    ·replace h := iteT h c7
     refine W.reg hm ?_
     refine W.mv rfl ?_
     obtain ⟨r9, k8, h⟩ := obind h
     refine W.call (ref6_stringsSum_spec n r5.1 r9 k8) rfl rfl (Les.refl _) rfl (.inl rfl) rfl ?_
     refine W.mv rfl (W.nil ?_)
     exact ⟨r9, h, Wk.nrmTo [2, 3, 5, 6, 9] [(10100, 10200), (10101, 10201)] rfl rfl⟩
    ·replace h := iteF h c7
     refine Ev.skip ?_
     exact ⟨0, h, Wk.nrmTo [2, 3, 5, 6, 9] [(10100, 10200), (10101, 10201)] rfl rfl⟩
   ·intro x6 h
    try dsimp only at h ⊢
    unfold ref6_ActionKey_j1 at h
    refine W.reg hm ?_
    refine W.mv rfl (W.mv rfl ?_)
    obtain ⟨r7, k5, h⟩ := obind h
    refine W.call (ref1_DigestPair_spec n x2 x6 r7 k5) rfl rfl (Les.refl _) rfl (.inl rfl) rfl ?_
    refine W.mv rfl (W.nil ?_)
    refine W.reg hm ?_
    refine W.mv rfl ?_
    obtain ⟨x8, k6, h⟩ := obind h
    refine W.addG rfl rfl k6 ?_
    refine W.mv rfl (W.nil ?_)
    exact ⟨(m1, r7, x8), h, Nat.lt_succ_self _, Wk.nrmTo [2, 3, 5, 6] [(10200, 10100), (10201, 10101)] rfl rfl⟩
  ·replace h := iteF h c2
   refine Ev.exit ?_
   refine Ev.seq (Ev.seq ?_)
   refine W.reg hm ?_
   refine W.mv rfl (W.nil ?_)
   refine Ev.block ?_
   refine Ev.loopW (β := Nat × Int × Int) (fun v => ⟨[(2, .pown 10200 0 0 0), (5, .int .i64 v.2.1), (10, .int .i64 v.2.2)], [(10200, ⟨0, 53, 3, [[.list 1 (List.map cS a0.Inputs), .list 2 (List.map SKindText.cells a0.Ops), .str a0.Output]], true, false, false⟩)], 2⟩) (fun v => ref6_ActionKey_l2 n a0 v.1 v.2.1 v.2.2 = some r) (fun v => v.1) (n, x2, 0) (Wk.nrmTo [2, 5, 10] [(10100, 10200)] rfl rfl) h ?_
   intro ⟨m2, x10, x11⟩ h
   try dsimp only at h ⊢
   cases m2 with
   | zero => rw [ref6_ActionKey_l2] at h; cases h
   | succ m2 =>
    rw [ref6_ActionKey_l2] at h
    refine Ev.seq (Ev.seq ?_)
    refine W.reg hm ?_
    refine W.mv rfl (W.fieldAddrO rfl rfl ?_)
    refine W.loadO (p := .list 2 (List.map SKindText.cells a0.Ops)) rfl rfl rfl rfl ?_
    refine W.lenL (c := SKindText.cells) rfl ?_
    refine W.lss rfl rfl (W.nil ?_)
    refine Ev.cond rfl (fun c9 => ?_) (fun c9 => ?_)
    ·replace h := iteT h c9
     refine Ev.skip ?_
     refine Ev.seq ?_
     refine Ev.block ?_
     refine W.regD hm ?_
     refine W.mv rfl (W.fieldAddrO rfl rfl ?_)
     refine W.loadO (p := .list 2 (List.map SKindText.cells a0.Ops)) rfl rfl rfl rfl ?_
     refine W.mv rfl ?_
     obtain ⟨e12, k10, h⟩ := obind h
     refine W.idxL (c := SKindText.cells) rfl rfl k10 ?_
     refine W.fieldAddr rfl (W.load rfl rfl ?_)
     refine W.fieldAddrO rfl rfl ?_
     refine W.loadO (p := .list 2 (List.map SKindText.cells a0.Ops)) rfl rfl rfl rfl ?_
     refine W.mv rfl ?_
     refine W.idxL (c := SKindText.cells) rfl rfl k10 ?_
     refine W.fieldAddr rfl (W.load rfl rfl ?_)
     refine W.toBytes rfl ?_
     obtain ⟨r13, k11, h⟩ := obind h
     refine W.call (ref1_DigestOf_spec n (bts e12.Text) r13 k11) rfl rfl (Les.refl _) rfl (.inl rfl) rfl ?_
     obtain ⟨r14, k12, h⟩ := obind h
     refine W.call (ref1_DigestPair_spec n e12.Kind r13 r14 k12) rfl rfl (Les.refl _) rfl (.inl rfl) rfl ?_
     obtain ⟨r15, k13, h⟩ := obind h
     refine W.call (ref1_DigestPair_spec n x10 r14 r15 k13) rfl rfl (Les.refl _) rfl (.inl rfl) rfl ?_
     refine W.mv rfl ?_
     refine W.nil ⟨rfl, ?_⟩
     refine W.reg hm ?_
     refine W.mv rfl ?_
     obtain ⟨x16, k14, h⟩ := obind h
     refine W.addG rfl rfl k14 ?_
     refine W.mv rfl (W.nil ?_)
     exact ⟨(m2, r15, x16), h, Nat.lt_succ_self _, Wk.nrmTo [2, 5, 10] [(10200, 10200)] rfl rfl⟩
    ·replace h := iteF h c9
     refine Ev.exit ?_
     refine Ev.seq ?_
     refine W.reg hm ?_
     refine W.mv rfl (W.fieldAddrO rfl rfl ?_)
     refine W.loadO (p := .str a0.Output) rfl rfl rfl rfl ?_
     refine W.toBytes rfl ?_
     obtain ⟨r17, k15, h⟩ := obind h
     refine W.call (ref1_DigestOf_spec n (bts a0.Output) r17 k15) rfl rfl (Les.refl _) rfl (.inl rfl) rfl ?_
     obtain ⟨r18, k16, h⟩ := obind h
     refine W.call (ref1_DigestPair_spec n x10 r17 r18 k16) rfl rfl (Les.refl _) rfl (.inl rfl) rfl ?_
     refine W.mv rfl (W.nil ?_)
     refine Ev.ret ?_
     injection h with h; subst h
     exact ⟨_, rfl, .refl _⟩
theorem ref6_LinesAt_spec (n : Nat) (a0 : List SKeyLines) (a1 : Int) (r : ((List (List UInt8)) × Bool)) (h : ref6_LinesAt n a0 a1 = some r) : PSpec Tryz.prog 33 [.list 2 (List.map SKeyLines.cells a0), .int .i64 a1] (.tup [.list 1 (List.map cS r.1), .bool r.2]) := by
 unfold ref6_LinesAt at h
 refine spec_of Tryz.c_ref6_LinesAt (by simp) ?_
 unfold Tryz.l_ref6_LinesAt
 refine Ev.seq ?_
 refine W.reg hm ?_
 refine W.mv rfl (W.mv rfl ?_)
 refine W.nil ?_
 refine Ev.seq (Ev.seq ?_)
 refine W.reg hm ?_
 refine W.mv rfl (W.nil ?_)
 refine Ev.block ?_
 refine Ev.loopW (β := Nat × Int) (fun v => ⟨[(0, .list 2 (List.map SKeyLines.cells a0)), (1, .int .i64 a1), (6, .int .i64 v.2)], [], 2⟩) (fun v => ref6_LinesAt_l1 n a0 a1 v.1 v.2 = some r) (fun v => v.1) (n, 0) (Wk.nrmTo [0, 1, 6] [] rfl rfl) h ?_
 intro ⟨m1, x1⟩ h
 try dsimp only at h ⊢
 cases m1 with
 | zero => rw [ref6_LinesAt_l1] at h; cases h
 | succ m1 =>
  rw [ref6_LinesAt_l1] at h
  refine Ev.seq (Ev.seq ?_)
  refine W.reg hm ?_
  refine W.mv rfl (W.mv rfl ?_)
  refine W.lenL (c := SKeyLines.cells) rfl ?_
  refine W.lss rfl rfl (W.nil ?_)
  refine Ev.cond rfl (fun c1 => ?_) (fun c1 => ?_)
  ·replace h := iteT h c1
   refine Ev.skip ?_
   refine Ev.seq ?_
   refine Ev.block ?_
   refine Ev.seq ?_
   refine W.reg hm ?_
   refine W.mv rfl (W.mv rfl ?_)
   obtain ⟨e2, k2, h⟩ := obind h
   refine W.idxL (c := SKeyLines.cells) rfl rfl k2 ?_
   refine W.fieldAddr rfl (W.load rfl rfl ?_)
   refine W.mv rfl (W.eql rfl rfl ?_)
   refine W.nil ?_
   refine Ev.cond rfl (fun c3 => ?_) (fun c3 => ?_)
   ·replace h := iteT h c3
    refine Ev.seq ?_
    refine W.reg hm ?_
    refine W.mv rfl (W.mv rfl ?_)
    refine W.idxL (c := SKeyLines.cells) rfl rfl k2 ?_
    refine W.fieldAddr rfl (W.load rfl rfl ?_)
    refine W.mv rfl (W.mv rfl ?_)
    refine W.nil ?_
    refine Ev.ret ?_
    injection h with h; subst h
    exact ⟨_, rfl, .refl _⟩
   ·replace h := iteF h c3
    refine Ev.skip ?_
    refine W.reg hm ?_
    refine W.mv rfl ?_
    obtain ⟨x3, k4, h⟩ := obind h
    refine W.addG rfl rfl k4 ?_
    refine W.mv rfl (W.nil ?_)
    exact ⟨(m1, x3), h, Nat.lt_succ_self _, Wk.nrmTo [0, 1, 6] [] rfl rfl⟩
  ·replace h := iteF h c1
   refine Ev.exit ?_
   refine Ev.seq ?_
   refine W.reg hm ?_
   refine W.mv rfl (W.mv rfl ?_)
   refine W.nil ?_
   refine Ev.ret ?_
   injection h with h; subst h
   exact ⟨_, rfl, Le.tups (.cons (.nils 1) (.cons (.refl _) (.nil)))⟩
theorem ref6_HasString_spec (n : Nat) (a0 : List (List UInt8)) (a1 : List UInt8) (r : Bool) (h : ref6_HasString n a0 a1 = some r) : PSpec Tryz.prog 19 [.list 1 (List.map cS a0), .str a1] (.bool r) := by
 unfold ref6_HasString at h
 refine spec_of Tryz.c_ref6_HasString (by simp) ?_
 unfold Tryz.l_ref6_HasString
 refine Ev.seq ?_
 refine W.reg hm ?_
 refine W.mv rfl (W.nil ?_)
 refine Ev.seq (Ev.seq ?_)
 refine W.reg hm ?_
 refine W.mv rfl (W.nil ?_)
 refine Ev.block ?_
 refine Ev.loopW (β := Nat × Int) (fun v => ⟨[(0, .list 1 (List.map cS a0)), (1, .str a1), (5, .int .i64 v.2)], [], 2⟩) (fun v => ref6_HasString_l1 n a0 a1 v.1 v.2 = some r) (fun v => v.1) (n, 0) (Wk.nrmTo [0, 1, 5] [] rfl rfl) h ?_
 intro ⟨m1, x1⟩ h
 try dsimp only at h ⊢
 cases m1 with
 | zero => rw [ref6_HasString_l1] at h; cases h
 | succ m1 =>
  rw [ref6_HasString_l1] at h
  refine Ev.seq (Ev.seq ?_)
  refine W.reg hm ?_
  refine W.mv rfl (W.mv rfl ?_)
  refine W.lenL (c := cS) rfl ?_
  refine W.lss rfl rfl (W.nil ?_)
  refine Ev.cond rfl (fun c1 => ?_) (fun c1 => ?_)
  ·replace h := iteT h c1
   refine Ev.skip ?_
   refine Ev.seq ?_
   refine Ev.block ?_
   refine Ev.seq ?_
   refine W.reg hm ?_
   refine W.mv rfl (W.mv rfl ?_)
   obtain ⟨e2, k2, h⟩ := obind h
   refine W.idxL (c := cS) rfl rfl k2 ?_
   refine W.load rfl rfl (W.mv rfl ?_)
   refine W.seql rfl rfl (W.nil ?_)
   refine Ev.cond rfl (fun c3 => ?_) (fun c3 => ?_)
   ·replace h := iteT h c3
    refine Ev.seq ?_
    refine W.reg hm ?_
    refine W.mv rfl (W.nil ?_)
    refine Ev.ret ?_
    injection h with h; subst h
    exact ⟨_, rfl, .refl _⟩
   ·replace h := iteF h c3
    refine Ev.skip ?_
    refine W.reg hm ?_
    refine W.mv rfl ?_
    obtain ⟨x3, k4, h⟩ := obind h
    refine W.addG rfl rfl k4 ?_
    refine W.mv rfl (W.nil ?_)
    exact ⟨(m1, x3), h, Nat.lt_succ_self _, Wk.nrmTo [0, 1, 5] [] rfl rfl⟩
  ·replace h := iteF h c1
   refine Ev.exit ?_
   refine Ev.seq ?_
   refine W.reg hm ?_
   refine W.mv rfl (W.nil ?_)
   refine Ev.ret ?_
   injection h with h; subst h
   exact ⟨_, rfl, .refl _⟩
theorem ref6_firsts_spec (n : Nat) (a0 : List (List UInt8)) (r : (List (List UInt8))) (h : ref6_firsts n a0 = some r) : PSpec Tryz.prog 135 [.list 1 (List.map cS a0)] (.list 1 (List.map cS r)) := by
 unfold ref6_firsts at h
 refine spec_of Tryz.c_ref6_firsts (by simp) ?_
 unfold Tryz.l_ref6_firsts
 refine Ev.seq ?_
 refine W.reg hm ?_
 refine W.mv rfl (W.nil ?_)
 refine Ev.seq ?_
 refine W.reg hm ?_
 refine W.mv rfl (W.nil ?_)
 refine Ev.seq (Ev.seq ?_)
 refine W.reg hm ?_
 refine W.mv rfl (W.nil ?_)
 refine Ev.block ?_
 refine Ev.loopW (β := Nat × (List (List UInt8)) × Int) (fun v => ⟨[(0, .list 1 (List.map cS a0)), (3, .own 10100 0), (4, .int .i64 v.2.2)], [(10100, ⟨0, 9, 1, List.map cS v.2.1, true, false, false⟩)], 2⟩) (fun v => ref6_firsts_l1 n a0 v.1 v.2.1 v.2.2 = some r) (fun v => v.1) (n, ([] : List (List UInt8)), 0) ((Wk.ownNil 3 30100 9 1 rfl rfl true).trans (Wk.nrmTo [0, 3, 4] [(30100, 10100)] rfl rfl)) h ?_
 intro ⟨m1, w1, x2⟩ h
 try dsimp only at h ⊢
 cases m1 with
 | zero => rw [ref6_firsts_l1] at h; cases h
 | succ m1 =>
  rw [ref6_firsts_l1] at h
  refine Ev.seq (Ev.seq ?_)
  refine W.reg hm ?_
  refine W.mv rfl (W.mv rfl ?_)
  refine W.lenL (c := cS) rfl ?_
  refine W.lss rfl rfl (W.nil ?_)
  refine Ev.cond rfl (fun c1 => ?_) (fun c1 => ?_)
  ·replace h := iteT h c1
   refine Ev.skip ?_
   refine Ev.seqJ (γ := List (List UInt8)) (fun v => ⟨[(0, .list 1 (List.map cS a0)), (3, .own 10200 0), (4, .int .i64 x2)], [(10200, ⟨0, 9, 1, List.map cS v, true, false, false⟩)], 2⟩) (fun v => ref6_firsts_j1 n x2 (ref6_firsts_l1 n a0 m1) v = some r) ?_ ?_
   ·refine Ev.block ?_
    refine Ev.seq ?_
    refine W.regD hm ?_
    refine W.mv rfl (W.mv rfl ?_)
    obtain ⟨s5, k3, h⟩ := obind h
    refine W.sliceL (c := cS) rfl k3 (ix1 (gcut_some k3).2.2.2.1) ?_
    refine W.mv rfl (W.mv rfl ?_)
    obtain ⟨e6, k4, h⟩ := obind h
    refine W.idxL (c := cS) rfl rfl k4 ?_
    refine W.load rfl rfl ?_
    obtain ⟨r7, k5, h⟩ := obind h
    refine W.call (ref6_HasString_spec n s5 e6 r7 k5) rfl rfl (Les.refl _) rfl (.inl rfl) rfl ?_
    refine W.not rfl ?_
    refine W.nil ⟨rfl, ?_⟩
    refine Ev.cond rfl (fun c6 => ?_) (fun c6 => ?_)
    ·replace h := iteT h c6
     refine W.reg hm ?_
     refine W.mv rfl (W.mv rfl ?_)
     refine W.mv rfl ?_
     refine W.idxL (c := cS) rfl rfl k4 ?_
     refine W.load rfl rfl ?_
     refine W.mkSlice (dt := true) (es := [[.str e6]]) rfl rfl rfl rfl rfl rfl ?_
     obtain ⟨w8, k7, h⟩ := obind h
     refine W.appR true (l := w1) (c := cS) (ys := ([e6] : List (List UInt8))) rfl rfl rfl rfl rfl rfl rfl rfl k7 rfl (by simp) ?_
     refine W.mv rfl (W.nil ?_)
     exact ⟨w8, h, Wk.nrmTo [0, 3, 4] [(26, 10200)] rfl rfl⟩
    ·replace h := iteF h c6
     refine Ev.skip ?_
     exact ⟨w1, h, Wk.nrmTo [0, 3, 4] [(10100, 10200)] rfl rfl⟩
   ·intro w3 h
    try dsimp only at h ⊢
    unfold ref6_firsts_j1 at h
    refine W.reg hm ?_
    refine W.mv rfl ?_
    obtain ⟨x4, k2, h⟩ := obind h
    refine W.addG rfl rfl k2 ?_
    refine W.mv rfl (W.nil ?_)
    exact ⟨(m1, w3, x4), h, Nat.lt_succ_self _, Wk.nrmTo [0, 3, 4] [(10200, 10100)] rfl rfl⟩
  ·replace h := iteF h c1
   refine Ev.exit ?_
   refine Ev.seq ?_
   refine W.reg hm ?_
   refine W.mv rfl (W.mv rfl ?_)
   refine W.nil ?_
   refine Ev.ret ?_
   injection h with h; subst h
   exact ⟨_, rfl, .refl _⟩
set_option maxHeartbeats 4000000 in
theorem ref6_opResult_spec (n : Nat) (a0 : SInputsOpsOutput) (a1 : SFiles) (a2 : SKindText) (a3 : List (List UInt8)) (r : ((List (List UInt8)) × Int)) (h : ref6_opResult n a0 a1 a2 a3 = some r) : PSpec Tryz.prog 88 [.agg (SInputsOpsOutput.cells a0), .agg (SFiles.cells a1), .agg (SKindText.cells a2), .list 1 (List.map cS a3)] (.tup [.list 1 (List.map cS r.1), .int .i64 r.2]) := by
 unfold ref6_opResult at h
 refine spec_of Tryz.c_ref6_opResult (by simp) ?_
 unfold Tryz.l_ref6_opResult
 refine Ev.seq ?_
 refine W.reg hm ?_
 refine W.box (dt := true) (cs := [.list 1 (List.map cS a0.Inputs), .list 2 (List.map SKindText.cells a0.Ops), .str a0.Output]) rfl rfl rfl rfl rfl rfl ?_
 refine W.box (dt := true) (cs := [.list 2 (List.map SPathLines.cells a1.Files)]) rfl rfl rfl rfl rfl rfl ?_
 refine W.box (dt := true) (cs := [.int .i64 a2.Kind, .str a2.Text]) rfl rfl rfl rfl rfl rfl ?_
 refine W.mv rfl (W.mv rfl ?_)
 refine W.nil ?_
 refine Ev.seq ?_
 refine W.reg hm ?_
 refine W.mv rfl (W.nil ?_)
 refine Ev.seq (Ev.seq ?_)
 refine W.reg hm ?_
 refine W.fieldAddrO rfl rfl ?_
 refine W.loadO (p := .int .i64 a2.Kind) rfl rfl rfl rfl ?_
 refine W.eql rfl rfl (W.nil ?_)
 refine Ev.cond rfl (fun c1 => ?_) (fun c1 => ?_)
 ·replace h := iteT h c1
  refine Ev.seq ?_
  refine W.reg hm ?_
  refine W.mv rfl ?_
  obtain ⟨r1, k2, h⟩ := obind h
  refine W.call (ref6_firsts_spec n a3 r1 k2) rfl rfl (Les.refl _) rfl (.inl rfl) rfl ?_
  refine W.mv rfl (W.mv rfl ?_)
  refine W.nil ?_
  refine Ev.ret ?_
  injection h with h; subst h
  exact ⟨_, rfl, .refl _⟩
 ·replace h := iteF h c1
  refine Ev.skip ?_
  refine Ev.seq (Ev.seq ?_)
  refine W.reg hm ?_
  refine W.fieldAddrO rfl rfl ?_
  refine W.loadO (p := .int .i64 a2.Kind) rfl rfl rfl rfl ?_
  refine W.eql rfl rfl (W.nil ?_)
  refine Ev.cond rfl (fun c3 => ?_) (fun c3 => ?_)
  ·replace h := iteT h c3
   refine Ev.seq (Ev.seq ?_)
   refine W.reg hm ?_
   refine W.mv rfl ?_
   refine W.lenL (c := cS) rfl ?_
   obtain ⟨x2, k4, h⟩ := obind h
   refine W.subG rfl rfl k4 ?_
   refine W.mv rfl (W.nil ?_)
   refine Ev.block ?_
   refine Ev.loopW (β := Nat × (List (List UInt8)) × Int) (fun v => ⟨[(3, .list 1 (List.map cS a3)), (10, .own 10100 0), (11, .int .i64 v.2.2)], [(10100, ⟨0, 9, 1, List.map cS v.2.1, true, false, false⟩)], 2⟩) (fun v => ref6_opResult_l1 n a3 v.1 v.2.1 v.2.2 = some r) (fun v => v.1) (n, ([] : List (List UInt8)), x2) ((Wk.ownNil 10 30100 9 1 rfl rfl true).trans (Wk.nrmTo [3, 10, 11] [(30100, 10100)] rfl rfl)) h ?_
   intro ⟨m1, w3, x4⟩ h
   try dsimp only at h ⊢
   cases m1 with
   | zero => rw [ref6_opResult_l1] at h; cases h
   | succ m1 =>
    rw [ref6_opResult_l1] at h
    refine Ev.seq (Ev.seq ?_)
    refine W.reg hm ?_
    refine W.mv rfl (W.geq rfl rfl ?_)
    refine W.nil ?_
    refine Ev.cond rfl (fun c5 => ?_) (fun c5 => ?_)
    ·replace h := iteT h c5
     refine Ev.skip ?_
     refine Ev.seq ?_
     refine Ev.block ?_
     refine W.reg hm ?_
     refine W.mv rfl (W.mv rfl ?_)
     refine W.mv rfl ?_
     obtain ⟨e5, k6, h⟩ := obind h
     refine W.idxL (c := cS) rfl rfl k6 ?_
     refine W.load rfl rfl ?_
     refine W.mkSlice (dt := true) (es := [[.str e5]]) rfl rfl rfl rfl rfl rfl ?_
     obtain ⟨w6, k7, h⟩ := obind h
     refine W.appR true (l := w3) (c := cS) (ys := ([e5] : List (List UInt8))) rfl rfl rfl rfl rfl rfl rfl rfl k7 rfl (by simp) ?_
     refine W.mv rfl (W.nil ?_)
     refine W.reg hm ?_
     refine W.mv rfl ?_
     obtain ⟨x7, k8, h⟩ := obind h
     refine W.subG rfl rfl k8 ?_
     refine W.mv rfl (W.nil ?_)
     exact ⟨(m1, w6, x7), h, Nat.lt_succ_self _, Wk.nrmTo [3, 10, 11] [(36, 10100)] rfl rfl⟩
    ·replace h := iteF h c5
     refine Ev.exit ?_
     refine Ev.seq ?_
     refine W.reg hm ?_
     refine W.mv rfl (W.mv rfl ?_)
     refine W.mv rfl (W.nil ?_)
     refine Ev.ret ?_
     injection h with h; subst h
     exact ⟨_, rfl, .refl _⟩
  ·replace h := iteF h c3
   refine Ev.skip ?_
   refine Ev.seq ?_
   refine W.reg hm ?_
   refine W.fieldAddrO rfl rfl ?_
   refine W.loadO (p := .str a2.Text) rfl rfl rfl rfl ?_
   refine W.mkSlice (dt := true) (es := [[.str a2.Text]]) rfl rfl rfl rfl rfl rfl ?_
   refine W.mv rfl (W.nil ?_)
   refine Ev.seqJ (γ := List (List UInt8)) (fun v => ⟨[(3, .list 1 (List.map cS a3)), (10, .nils), (12, .list 1 (List.map cS v))], [], 2⟩) (fun v => ref6_opResult_j1 n a3 v = some r) ?_ ?_
   ·refine Ev.seq ?_
    refine W.reg hm ?_
    refine W.fieldAddrO rfl rfl ?_
    refine W.loadO (p := .int .i64 a2.Kind) rfl rfl rfl rfl ?_
    refine W.neq rfl rfl (W.nil ?_)
    refine Ev.cond rfl (fun c13 => ?_) (fun c13 => ?_)
    ·replace h := iteT h c13
     refine Ev.seq (Ev.seq ?_)
     refine W.reg hm ?_
     refine W.fieldAddrO rfl rfl ?_
     refine W.loadO (p := .list 1 (List.map cS a0.Inputs)) rfl rfl rfl rfl ?_
     refine W.fieldAddrO rfl rfl ?_
     refine W.loadO (p := .str a2.Text) rfl rfl rfl rfl ?_
     obtain ⟨r12, k14, h⟩ := obind h
     refine W.call (ref6_HasString_spec n a0.Inputs a2.Text r12 k14) rfl rfl (Les.refl _) rfl (.inl rfl) rfl ?_
     refine W.not rfl (W.nil ?_)
     refine Ev.cond rfl (fun c15 => ?_) (fun c15 => ?_)
     ·replace h := iteT h c15
      refine Ev.seq ?_
      refine W.reg hm ?_
      refine W.mv rfl (W.mv rfl ?_)
      refine W.nil ?_
      refine Ev.ret ?_
      injection h with h; subst h
      exact ⟨_, rfl, Le.tups (.cons (.nils 1) (.cons (.refl _) (.nil)))⟩
     ·replace h := iteF h c15
      refine Ev.skip ?_
      refine Ev.seq ?_
      refine W.reg hm ?_
      refine W.loadO (p := .agg [.list 2 (List.map SPathLines.cells a1.Files)]) rfl rfl rfl rfl ?_
      refine W.fieldAddrO rfl rfl ?_
      refine W.loadO (p := .str a2.Text) rfl rfl rfl rfl ?_
      obtain ⟨r13, k16, h⟩ := obind h
      refine W.call (ref6_FileIn_spec n a1 a2.Text r13 k16) rfl rfl (Les.refl _) rfl (.inl rfl) rfl ?_
      refine W.mv rfl (W.extract rfl rfl ?_)
      refine W.extract rfl rfl (W.mv rfl ?_)
      refine W.mv rfl (W.nil ?_)
      refine Ev.seq ?_
      refine Ev.seqJ (γ := Bool) (fun v => ⟨[(3, .list 1 (List.map cS a3)), (6, .pown 10200 0 0 0), (10, .nils), (13, .list 1 (List.map cS r13.1)), (14, .bool r13.2), (63, .bool v)], [(10200, ⟨0, 109, 2, [[.int .i64 a2.Kind, .str a2.Text]], true, false, false⟩)], 2⟩) (fun v => ref6_opResult_j2 n a2 a3 r13 v = some r) ?_ ?_
      ·refine W.reg hm ?_
       refine W.fieldAddrO rfl rfl ?_
       refine W.loadO (p := .int .i64 a2.Kind) rfl rfl rfl rfl ?_
       refine W.eql rfl rfl (W.mv rfl ?_)
       refine W.split 60 rfl (fun c22 => ?_) (fun c22 => ?_)
       ·replace h := iteT h c22
        refine W.guardT rfl c22 ?_
        refine W.mv rfl ?_
        refine W.guardT rfl c22 ?_
        refine W.not rfl ?_
        refine W.pickT rfl rfl rfl c22 ?_
        refine W.nil ?_
        exact ⟨(!r13.2), h, Wk.nrmTo [3, 6, 10, 13, 14, 63] [(6, 10200)] rfl rfl⟩
       ·replace h := iteF h c22
        refine W.guardF1 rfl c22 ?_
        refine W.guardF1 rfl c22 ?_
        refine W.pickN rfl rfl rfl c22 ?_
        refine W.nil ?_
        exact ⟨false, h, Wk.nrmTo [3, 6, 10, 13, 14, 63] [(6, 10200)] rfl rfl⟩
      ·intro x14 h
       try dsimp only at h ⊢
       unfold ref6_opResult_j2 at h
       refine Ev.cond rfl (fun c17 => ?_) (fun c17 => ?_)
       ·replace h := iteT h c17
        refine Ev.seq ?_
        refine W.reg hm ?_
        refine W.mv rfl (W.mv rfl ?_)
        refine W.nil ?_
        refine Ev.ret ?_
        injection h with h; subst h
        exact ⟨_, rfl, Le.tups (.cons (.nils 1) (.cons (.refl _) (.nil)))⟩
       ·replace h := iteF h c17
        refine Ev.skip ?_
        refine Ev.seq ?_
        refine W.reg hm ?_
        refine W.mv rfl (W.mv rfl ?_)
        refine W.nil ?_
        refine Ev.seqJ (γ := List (List UInt8)) (fun v => ⟨[(3, .list 1 (List.map cS a3)), (6, .pown 10300 0 0 0), (10, .nils), (12, .list 1 (List.map cS v)), (14, .bool r13.2)], [(10300, ⟨0, 109, 2, [[.int .i64 a2.Kind, .str a2.Text]], true, false, false⟩)], 2⟩) (fun v => ref6_opResult_j3 n a2 a3 r13 v = some r) ?_ ?_
        ·refine Ev.seqJ (γ := Bool) (fun v => ⟨[(3, .list 1 (List.map cS a3)), (6, .pown 10400 0 0 0), (10, .nils), (12, .list 1 (List.map cS r13.1)), (14, .bool r13.2), (70, .bool v)], [(10400, ⟨0, 109, 2, [[.int .i64 a2.Kind, .str a2.Text]], true, false, false⟩)], 2⟩) (fun v => ref6_opResult_j5 n a2 a3 r13 v = some r) ?_ ?_
         ·refine W.reg hm ?_
          refine W.fieldAddrO rfl rfl ?_
          refine W.loadO (p := .int .i64 a2.Kind) rfl rfl rfl rfl ?_
          refine W.eql rfl rfl (W.mv rfl ?_)
          refine W.split 68 rfl (fun c21 => ?_) (fun c21 => ?_)
          ·replace h := iteT h c21
           refine W.guardT rfl c21 ?_
           refine W.mv rfl ?_
           refine W.pickT rfl rfl rfl c21 ?_
           refine W.nil ?_
           exact ⟨r13.2, h, Wk.nrmTo [3, 6, 10, 12, 14, 70] [(10200, 10400)] rfl rfl⟩
          ·replace h := iteF h c21
           refine W.guardF1 rfl c21 ?_
           refine W.pickN rfl rfl rfl c21 ?_
           refine W.nil ?_
           exact ⟨false, h, Wk.nrmTo [3, 6, 10, 12, 14, 70] [(10200, 10400)] rfl rfl⟩
         ·intro x17 h
          try dsimp only at h ⊢
          unfold ref6_opResult_j5 at h
          refine Ev.cond rfl (fun c20 => ?_) (fun c20 => ?_)
          ·replace h := iteT h c20
           refine W.reg hm ?_
           refine W.mkSlice (dt := true) (es := [[.str ([121, 101, 115] : List UInt8)]]) rfl rfl rfl rfl rfl rfl ?_
           refine W.mv rfl (W.nil ?_)
           exact ⟨([([121, 101, 115] : List UInt8)] : List (List UInt8)), h, (Wk.frz 71 2 rfl rfl).trans (Wk.nrmTo [3, 6, 10, 12, 14] [(10400, 10300)] rfl rfl)⟩
          ·replace h := iteF h c20
           refine Ev.skip ?_
           exact ⟨r13.1, h, Wk.nrmTo [3, 6, 10, 12, 14] [(10400, 10300)] rfl rfl⟩
        ·intro x15 h
         try dsimp only at h ⊢
         unfold ref6_opResult_j3 at h
         refine Ev.seqJ (γ := Bool) (fun v => ⟨[(3, .list 1 (List.map cS a3)), (10, .nils), (12, .list 1 (List.map cS x15)), (78, .bool v)], [], 2⟩) (fun v => ref6_opResult_j4 n a3 x15 v = some r) ?_ ?_
         ·refine W.reg hm ?_
          refine W.fieldAddrO rfl rfl ?_
          refine W.loadO (p := .int .i64 a2.Kind) rfl rfl rfl rfl ?_
          refine W.eql rfl rfl (W.mv rfl ?_)
          refine W.split 75 rfl (fun c19 => ?_) (fun c19 => ?_)
          ·replace h := iteT h c19
           refine W.guardT rfl c19 ?_
           refine W.mv rfl ?_
           refine W.guardT rfl c19 ?_
           refine W.not rfl ?_
           refine W.pickT rfl rfl rfl c19 ?_
           refine W.nil ?_
           exact ⟨(!r13.2), h, Wk.nrmTo [3, 10, 12, 78] [] rfl rfl⟩
          ·replace h := iteF h c19
           refine W.guardF1 rfl c19 ?_
           refine W.guardF1 rfl c19 ?_
           refine W.pickN rfl rfl rfl c19 ?_
           refine W.nil ?_
           exact ⟨false, h, Wk.nrmTo [3, 10, 12, 78] [] rfl rfl⟩
         ·intro x16 h
          try dsimp only at h ⊢
          unfold ref6_opResult_j4 at h
          refine Ev.cond rfl (fun c18 => ?_) (fun c18 => ?_)
          ·replace h := iteT h c18
           refine W.reg hm ?_
           refine W.mkSlice (dt := true) (es := [[.str ([110, 111] : List UInt8)]]) rfl rfl rfl rfl rfl rfl ?_
           refine W.mv rfl (W.nil ?_)
           exact ⟨([([110, 111] : List UInt8)] : List (List UInt8)), h, (Wk.frz 79 2 rfl rfl).trans (Wk.nrmTo [3, 10, 12] [] rfl rfl)⟩
          ·replace h := iteF h c18
           refine Ev.skip ?_
           exact ⟨x15, h, Wk.nrmTo [3, 10, 12] [] rfl rfl⟩
    ·replace h := iteF h c13
     refine Ev.skip ?_
     exact ⟨([a2.Text] : List (List UInt8)), h, (Wk.frz 40 2 rfl rfl).trans (Wk.nrmTo [3, 10, 12] [] rfl rfl)⟩
   ·intro x8 h
    try dsimp only at h ⊢
    unfold ref6_opResult_j1 at h
    refine Ev.seq (Ev.seq ?_)
    refine W.reg hm ?_
    refine W.mv rfl ?_
    refine W.lenL (c := cS) rfl ?_
    refine W.mv rfl ?_
    refine W.lenL (c := cS) rfl ?_
    obtain ⟨x9, k9, h⟩ := obind h
    refine W.addG rfl rfl k9 ?_
    refine W.gtr rfl rfl (W.nil ?_)
    refine Ev.cond rfl (fun c10 => ?_) (fun c10 => ?_)
    ·replace h := iteT h c10
     refine Ev.seq ?_
     refine W.reg hm ?_
     refine W.mv rfl (W.mv rfl ?_)
     refine W.nil ?_
     refine Ev.ret ?_
     injection h with h; subst h
     exact ⟨_, rfl, Le.tups (.cons (.nils 1) (.cons (.refl _) (.nil)))⟩
    ·replace h := iteF h c10
     refine Ev.skip ?_
     refine Ev.seq ?_
     refine W.reg hm ?_
     refine W.mv rfl (W.mv rfl ?_)
     obtain ⟨w10, k11, h⟩ := obind h
     refine W.appN true (c := cS) (ys := a3) rfl rfl rfl rfl k11 rfl ?_
     refine W.mv rfl (W.nil ?_)
     refine Ev.seq ?_
     refine W.reg hm ?_
     refine W.mv rfl (W.mv rfl ?_)
     obtain ⟨w11, k12, h⟩ := obind h
     refine W.appR true (l := w10) (c := cS) (ys := x8) rfl rfl rfl rfl rfl rfl rfl rfl k12 rfl (by simp) ?_
     refine W.mv rfl (W.mv rfl ?_)
     refine W.nil ?_
     refine Ev.ret ?_
     injection h with h; subst h
     exact ⟨_, rfl, .refl _⟩
theorem ref6_Ran_spec (n : Nat) (a0 : SInputsOpsOutput) (a1 : SFiles) (r : ((List (List UInt8)) × SCodeIndex)) (h : ref6_Ran n a0 a1 = some r) : PSpec Tryz.prog 34 [.agg (SInputsOpsOutput.cells a0), .agg (SFiles.cells a1)] (.tup [.list 1 (List.map cS r.1), .agg (SCodeIndex.cells r.2)]) := by
 unfold ref6_Ran at h
 refine spec_of Tryz.c_ref6_Ran (by simp) ?_
 unfold Tryz.l_ref6_Ran
 refine Ev.seq ?_
 refine W.reg hm ?_
 refine W.box (dt := true) (cs := [.list 1 (List.map cS a0.Inputs), .list 2 (List.map SKindText.cells a0.Ops), .str a0.Output]) rfl rfl rfl rfl rfl rfl ?_
 refine W.box (dt := true) (cs := [.list 2 (List.map SPathLines.cells a1.Files)]) rfl rfl rfl rfl rfl rfl ?_
 refine W.mv rfl ?_
 refine W.alloc (dt := true) rfl rfl rfl ?_
 refine W.nil ?_
 refine Ev.seq ?_
 refine W.reg hm ?_
 refine W.mv rfl (W.nil ?_)
 refine Ev.seq (Ev.seq ?_)
 refine W.reg hm ?_
 refine W.mv rfl (W.nil ?_)
 refine Ev.block ?_
 refine Ev.loopW (β := Nat × (List (List UInt8)) × Int) (fun v => ⟨[(2, .pown 10100 0 0 0), (3, .pown 10101 0 0 0), (5, .pown 10102 0 0 0), (6, .list 1 (List.map cS v.2.1)), (7, .int .i64 v.2.2)], [(10100, ⟨0, 53, 3, [[.list 1 (List.map cS a0.Inputs), .list 2 (List.map SKindText.cells a0.Ops), .str a0.Output]], true, false, false⟩), (10101, ⟨0, 25, 1, [[.list 2 (List.map SPathLines.cells a1.Files)]], true, false, false⟩), (10102, ⟨0, 31, 2, [[.int .i64 0, .int .i64 0]], true, false, false⟩)], 2⟩) (fun v => ref6_Ran_l1 n a0 a1 v.1 v.2.1 v.2.2 = some r) (fun v => v.1) (n, ([] : List (List UInt8)), 0) ((Wk.le (t := 6) rfl (.nils 1)).trans (Wk.nrmTo [2, 3, 5, 6, 7] [(2, 10100), (3, 10101), (5, 10102)] rfl rfl)) h ?_
 intro ⟨m1, x1, x2⟩ h
 try dsimp only at h ⊢
 cases m1 with
 | zero => rw [ref6_Ran_l1] at h; cases h
 | succ m1 =>
  rw [ref6_Ran_l1] at h
  refine Ev.seq (Ev.seq ?_)
  refine W.reg hm ?_
  refine W.mv rfl (W.fieldAddrO rfl rfl ?_)
  refine W.loadO (p := .list 2 (List.map SKindText.cells a0.Ops)) rfl rfl rfl rfl ?_
  refine W.lenL (c := SKindText.cells) rfl ?_
  refine W.lss rfl rfl (W.nil ?_)
  refine Ev.cond rfl (fun c1 => ?_) (fun c1 => ?_)
  ·replace h := iteT h c1
   refine Ev.skip ?_
   refine Ev.seq ?_
   refine Ev.block ?_
   refine Ev.seq ?_
   refine W.regD hm ?_
   refine W.loadO (p := .agg [.list 1 (List.map cS a0.Inputs), .list 2 (List.map SKindText.cells a0.Ops), .str a0.Output]) rfl rfl rfl rfl ?_
   refine W.loadO (p := .agg [.list 2 (List.map SPathLines.cells a1.Files)]) rfl rfl rfl rfl ?_
   refine W.fieldAddrO rfl rfl ?_
   refine W.loadO (p := .list 2 (List.map SKindText.cells a0.Ops)) rfl rfl rfl rfl ?_
   refine W.mv rfl ?_
   obtain ⟨e3, k2, h⟩ := obind h
   refine W.idxL (c := SKindText.cells) rfl rfl k2 ?_
   refine W.load rfl rfl (W.mv rfl ?_)
   obtain ⟨r4, k3, h⟩ := obind h
   refine W.call (ref6_opResult_spec n a0 a1 e3 x1 r4 k3) rfl rfl (Les.refl _) rfl (.inl rfl) rfl ?_
   refine W.mv rfl (W.extract rfl rfl ?_)
   refine W.extract rfl rfl (W.mv rfl ?_)
   refine W.mv rfl ?_
   refine W.nil ⟨rfl, ?_⟩
   refine Ev.seq (Ev.seq ?_)
   refine W.reg hm ?_
   refine W.mv rfl (W.neq rfl rfl ?_)
   refine W.nil ?_
   refine Ev.cond rfl (fun c4 => ?_) (fun c4 => ?_)
   ·replace h := iteT h c4
    refine Ev.seq ?_
    refine W.reg hm ?_
    refine W.mv rfl (W.mv rfl ?_)
    obtain ⟨x5, k5, h⟩ := obind h
    refine W.subG rfl rfl k5 ?_
    obtain ⟨r6, k6, h⟩ := obind h
    refine W.call (ref6_fault_spec n r4.2 x5 r6 k6) rfl rfl (Les.refl _) rfl (.inl rfl) rfl ?_
    refine W.mv rfl ?_
    refine W.store (es' := [[.int .i64 r6.Code, .int .i64 r6.Index]]) (dt := true) rfl rfl rfl rfl rfl (Nat.le_of_ble_eq_true rfl) rfl rfl rfl rfl ?_
    refine W.nil ?_
    refine Ev.ret ?_
    injection h with h; subst h
    exact ⟨_, rfl, Le.tups (.cons (.nils 1) (.cons (.refl _) (.nil)))⟩
   ·replace h := iteF h c4
    refine Ev.skip ?_
    refine W.reg hm ?_
    refine W.mv rfl (W.mv rfl ?_)
    refine W.nil ?_
    refine W.reg hm ?_
    refine W.mv rfl ?_
    obtain ⟨x7, k7, h⟩ := obind h
    refine W.addG rfl rfl k7 ?_
    refine W.mv rfl (W.nil ?_)
    exact ⟨(m1, r4.1, x7), h, Nat.lt_succ_self _, Wk.nrmTo [2, 3, 5, 6, 7] [(10100, 10100), (10101, 10101), (10102, 10102)] rfl rfl⟩
  ·replace h := iteF h c1
   refine Ev.exit ?_
   refine Ev.seq ?_
   refine W.reg hm ?_
   refine W.mv rfl ?_
   refine W.build (cs := [.int .i64 0, .int .i64 0]) rfl rfl rfl ?_
   refine W.mv rfl ?_
   refine W.store (es' := [[.int .i64 0, .int .i64 0]]) (dt := true) rfl rfl rfl rfl rfl (Nat.le_of_ble_eq_true rfl) rfl rfl rfl rfl ?_
   refine W.nil ?_
   refine Ev.ret ?_
   injection h with h; subst h
   exact ⟨_, rfl, .refl _⟩
set_option maxHeartbeats 4000000 in
theorem ref6_Stored_spec (n : Nat) (a0 : List SKeyLines) (a1 : Int) (a2 : List (List UInt8)) (r : (List SKeyLines)) (h : ref6_Stored n a0 a1 a2 = some r) : PSpec Tryz.prog 35 [.list 2 (List.map SKeyLines.cells a0), .int .i64 a1, .list 1 (List.map cS a2)] (.list 2 (List.map SKeyLines.cells r)) := by
 unfold ref6_Stored at h
 refine spec_of Tryz.c_ref6_Stored (by simp) ?_
 unfold Tryz.l_ref6_Stored
 refine Ev.seq ?_
 refine W.reg hm ?_
 refine W.mv rfl (W.nil ?_)
 refine Ev.seq ?_
 refine W.reg hm ?_
 refine W.mv rfl (W.nil ?_)
 refine Ev.seq (Ev.seq ?_)
 refine W.reg hm ?_
 refine W.mv rfl (W.nil ?_)
 refine Ev.block ?_
 refine Ev.loopW (β := Nat × (List SKeyLines) × Int) (fun v => ⟨[(0, .list 2 (List.map SKeyLines.cells a0)), (1, .int .i64 a1), (2, .list 1 (List.map cS a2)), (7, .own 10100 0), (8, .int .i64 v.2.2)], [(10100, ⟨0, 114, 2, List.map SKeyLines.cells v.2.1, true, false, false⟩)], 2⟩) (fun v => ref6_Stored_l1 n a0 a1 a2 v.1 v.2.1 v.2.2 = some r) (fun v => v.1) (n, ([] : List SKeyLines), 0) ((Wk.ownNil 7 30100 114 2 rfl rfl true).trans (Wk.nrmTo [0, 1, 2, 7, 8] [(30100, 10100)] rfl rfl)) h ?_
 intro ⟨m1, w1, x2⟩ h
 try dsimp only at h ⊢
 cases m1 with
 | zero => rw [ref6_Stored_l1] at h; cases h
 | succ m1 =>
  rw [ref6_Stored_l1] at h
  refine Ev.seq ?_
  refine Ev.seqJ (γ := Bool) (fun v => ⟨[(0, .list 2 (List.map SKeyLines.cells a0)), (1, .int .i64 a1), (2, .list 1 (List.map cS a2)), (7, .own 10200 0), (8, .int .i64 x2), (22, .bool v)], [(10200, ⟨0, 114, 2, List.map SKeyLines.cells w1, true, false, false⟩)], 2⟩) (fun v => ref6_Stored_j1 n a0 a1 a2 w1 x2 (ref6_Stored_l1 n a0 a1 a2 m1) v = some r) ?_ ?_
  ·refine W.reg hm ?_
   refine W.mv rfl (W.mv rfl ?_)
   refine W.lenL (c := SKeyLines.cells) rfl ?_
   refine W.lss rfl rfl (W.mv rfl ?_)
   refine W.split 14 rfl (fun c12 => ?_) (fun c12 => ?_)
   ·replace h := iteT h c12
    refine W.guardT rfl c12 ?_
    refine W.mv rfl ?_
    refine W.guardT rfl c12 ?_
    refine W.mv rfl ?_
    refine W.guardT rfl c12 ?_
    obtain ⟨e14, k13, h⟩ := obind h
    refine W.idxL (c := SKeyLines.cells) rfl rfl k13 ?_
    refine W.guardT rfl c12 ?_
    refine W.fieldAddr rfl ?_
    refine W.guardT rfl c12 ?_
    refine W.load rfl rfl ?_
    refine W.guardT rfl c12 ?_
    refine W.mv rfl ?_
    refine W.guardT rfl c12 ?_
    refine W.lss rfl rfl ?_
    refine W.pickT rfl rfl rfl c12 ?_
    refine W.nil ?_
    exact ⟨(decide (e14.Key < a1)), h, Wk.nrmTo [0, 1, 2, 7, 8, 22] [(10100, 10200)] rfl rfl⟩
   ·replace h := iteF h c12
    refine W.guardF1 rfl c12 ?_
    refine W.guardF1 rfl c12 ?_
    refine W.guardF1 rfl c12 ?_
    refine W.guardF1 rfl c12 ?_
    refine W.guardF1 rfl c12 ?_
    refine W.guardF1 rfl c12 ?_
    refine W.guardF1 rfl c12 ?_
    refine W.pickN rfl rfl rfl c12 ?_
    refine W.nil ?_
    exact ⟨false, h, Wk.nrmTo [0, 1, 2, 7, 8, 22] [(10100, 10200)] rfl rfl⟩
  ·intro x3 h
   try dsimp only at h ⊢
   unfold ref6_Stored_j1 at h
   refine Ev.cond rfl (fun c1 => ?_) (fun c1 => ?_)
   ·replace h := iteT h c1
    refine Ev.skip ?_
    refine Ev.seq ?_
    refine Ev.block ?_
    refine W.reg hm ?_
    refine W.mv rfl (W.mv rfl ?_)
    refine W.mv rfl ?_
    obtain ⟨e4, k2, h⟩ := obind h
    refine W.idxL (c := SKeyLines.cells) rfl rfl k2 ?_
    refine W.load rfl rfl ?_
    refine W.mkSlice (dt := true) (es := [[.int .i64 e4.Key, .list 1 (List.map cS e4.Lines)]]) rfl rfl rfl rfl rfl rfl ?_
    obtain ⟨w5, k3, h⟩ := obind h
    refine W.appR true (l := w1) (c := SKeyLines.cells) (ys := ([e4] : List SKeyLines)) rfl rfl rfl rfl rfl rfl rfl rfl k3 rfl (by simp) ?_
    refine W.mv rfl (W.nil ?_)
    refine W.reg hm ?_
    refine W.mv rfl ?_
    obtain ⟨x6, k4, h⟩ := obind h
    refine W.addG rfl rfl k4 ?_
    refine W.mv rfl (W.nil ?_)
    exact ⟨(m1, w5, x6), h, Nat.lt_succ_self _, Wk.nrmTo [0, 1, 2, 7, 8] [(31, 10100)] rfl rfl⟩
   ·replace h := iteF h c1
    refine Ev.exit ?_
    refine Ev.seq ?_
    refine W.reg hm ?_
    refine W.mv rfl ?_
    refine W.lenO (l := w1) (c := SKeyLines.cells) rfl rfl rfl ?_
    refine W.mv rfl (W.nil ?_)
    refine Ev.seq ?_
    refine W.reg hm ?_
    refine W.mv rfl (W.mv rfl ?_)
    refine W.mv rfl ?_
    refine W.build (cs := [.int .i64 a1, .list 1 (List.map cS a2)]) rfl rfl rfl ?_
    refine W.mkSlice (dt := true) (es := [[.int .i64 a1, .list 1 (List.map cS a2)]]) rfl rfl rfl rfl rfl rfl ?_
    obtain ⟨w7, k5, h⟩ := obind h
    refine W.appR true (l := w1) (c := SKeyLines.cells) (ys := ([(⟨a1, a2⟩ : SKeyLines)] : List SKeyLines)) rfl rfl rfl rfl rfl rfl rfl rfl k5 rfl (by simp) ?_
    refine W.mv rfl (W.nil ?_)
    refine Ev.seqJ (γ := Int) (fun v => ⟨[(0, .list 2 (List.map SKeyLines.cells a0)), (7, .own 10300 0), (9, .int .i64 v)], [(10300, ⟨0, 114, 2, List.map SKeyLines.cells w7, true, false, false⟩)], 2⟩) (fun v => ref6_Stored_j2 n a0 w7 v = some r) ?_ ?_
    ·refine Ev.seqJ (γ := Bool) (fun v => ⟨[(0, .list 2 (List.map SKeyLines.cells a0)), (7, .own 10400 0), (9, .int .i64 (w1.length : Int)), (52, .bool v)], [(10400, ⟨0, 114, 2, List.map SKeyLines.cells w7, true, false, false⟩)], 2⟩) (fun v => ref6_Stored_j3 n a0 w1 w7 v = some r) ?_ ?_
     ·refine W.reg hm ?_
      refine W.mv rfl (W.mv rfl ?_)
      refine W.lenL (c := SKeyLines.cells) rfl ?_
      refine W.lss rfl rfl (W.mv rfl ?_)
      refine W.split 44 rfl (fun c10 => ?_) (fun c10 => ?_)
      ·replace h := iteT h c10
       refine W.guardT rfl c10 ?_
       refine W.mv rfl ?_
       refine W.guardT rfl c10 ?_
       refine W.mv rfl ?_
       refine W.guardT rfl c10 ?_
       obtain ⟨e13, k11, h⟩ := obind h
       refine W.idxL (c := SKeyLines.cells) rfl rfl k11 ?_
       refine W.guardT rfl c10 ?_
       refine W.fieldAddr rfl ?_
       refine W.guardT rfl c10 ?_
       refine W.load rfl rfl ?_
       refine W.guardT rfl c10 ?_
       refine W.mv rfl ?_
       refine W.guardT rfl c10 ?_
       refine W.eql rfl rfl ?_
       refine W.pickT rfl rfl rfl c10 ?_
       refine W.nil ?_
       exact ⟨(decide (e13.Key = a1)), h, Wk.nrmTo [0, 7, 9, 52] [(39, 10400)] rfl rfl⟩
      ·replace h := iteF h c10
       refine W.guardF1 rfl c10 ?_
       refine W.guardF1 rfl c10 ?_
       refine W.guardF1 rfl c10 ?_
       refine W.guardF1 rfl c10 ?_
       refine W.guardF1 rfl c10 ?_
       refine W.guardF1 rfl c10 ?_
       refine W.guardF1 rfl c10 ?_
       refine W.pickN rfl rfl rfl c10 ?_
       refine W.nil ?_
       exact ⟨false, h, Wk.nrmTo [0, 7, 9, 52] [(39, 10400)] rfl rfl⟩
     ·intro x11 h
      try dsimp only at h ⊢
      unfold ref6_Stored_j3 at h
      refine Ev.cond rfl (fun c8 => ?_) (fun c8 => ?_)
      ·replace h := iteT h c8
       refine W.reg hm ?_
       refine W.mv rfl ?_
       obtain ⟨x12, k9, h⟩ := obind h
       refine W.addG rfl rfl k9 ?_
       refine W.mv rfl (W.nil ?_)
       exact ⟨x12, h, Wk.nrmTo [0, 7, 9] [(10400, 10300)] rfl rfl⟩
      ·replace h := iteF h c8
       refine Ev.skip ?_
       exact ⟨(w1.length : Int), h, Wk.nrmTo [0, 7, 9] [(10400, 10300)] rfl rfl⟩
    ·intro x8 h
     try dsimp only at h ⊢
     unfold ref6_Stored_j2 at h
     refine Ev.seq ?_
     refine W.reg hm ?_
     refine W.mv rfl (W.mv rfl ?_)
     refine W.mv rfl ?_
     obtain ⟨s9, k6, h⟩ := obind h
     refine W.sliceL (c := SKeyLines.cells) rfl k6 (by rw [List.length_map]; exact ix0 (gcut_some k6).1) ?_
     obtain ⟨w10, k7, h⟩ := obind h
     refine W.appR true (l := w7) (c := SKeyLines.cells) (ys := s9) rfl rfl rfl rfl rfl rfl rfl rfl k7 rfl (by simp) ?_
     refine W.mv rfl (W.nil ?_)
     refine Ev.ret ?_
     injection h with h; subst h
     exact ⟨_, rfl, .refl _⟩
set_option maxHeartbeats 4000000 in
theorem ref6_SameCache_spec (n : Nat) (a0 : List SKeyLines) (a1 : List SKeyLines) (r : Bool) (h : ref6_SameCache n a0 a1 = some r) : PSpec Tryz.prog 36 [.list 2 (List.map SKeyLines.cells a0), .list 2 (List.map SKeyLines.cells a1)] (.bool r) := by
 unfold ref6_SameCache at h
 refine spec_of Tryz.c_ref6_SameCache (by simp) ?_
 unfold Tryz.l_ref6_SameCache
 refine Ev.seq ?_
 refine W.reg hm ?_
 refine W.mv rfl (W.nil ?_)
 refine Ev.seq (Ev.seq ?_)
 refine W.reg hm ?_
 refine W.mv rfl ?_
 refine W.lenL (c := SKeyLines.cells) rfl ?_
 refine W.mv rfl ?_
 refine W.lenL (c := SKeyLines.cells) rfl ?_
 refine W.neq rfl rfl (W.nil ?_)
 refine Ev.cond rfl (fun c1 => ?_) (fun c1 => ?_)
 ·replace h := iteT h c1
  refine Ev.seq ?_
  refine W.reg hm ?_
  refine W.mv rfl (W.nil ?_)
  refine Ev.ret ?_
  injection h with h; subst h
  exact ⟨_, rfl, .refl _⟩
 ·replace h := iteF h c1
  refine Ev.skip ?_
  refine Ev.seq (Ev.seq ?_)
  refine W.reg hm ?_
  refine W.mv rfl (W.nil ?_)
  refine Ev.block ?_
  refine Ev.loopW (β := Nat × Int) (fun v => ⟨[(0, .list 2 (List.map SKeyLines.cells a0)), (1, .list 2 (List.map SKeyLines.cells a1)), (5, .int .i64 v.2)], [], 2⟩) (fun v => ref6_SameCache_l1 n a0 a1 v.1 v.2 = some r) (fun v => v.1) (n, 0) (Wk.nrmTo [0, 1, 5] [] rfl rfl) h ?_
  intro ⟨m1, x1⟩ h
  try dsimp only at h ⊢
  cases m1 with
  | zero => rw [ref6_SameCache_l1] at h; cases h
  | succ m1 =>
   rw [ref6_SameCache_l1] at h
   refine Ev.seq (Ev.seq ?_)
   refine W.reg hm ?_
   refine W.mv rfl (W.mv rfl ?_)
   refine W.lenL (c := SKeyLines.cells) rfl ?_
   refine W.lss rfl rfl (W.nil ?_)
   refine Ev.cond rfl (fun c2 => ?_) (fun c2 => ?_)
   ·replace h := iteT h c2
    refine Ev.skip ?_
    refine Ev.seq ?_
    refine Ev.block ?_
    refine Ev.seqJ (γ := Bool) (fun v => ⟨[(0, .list 2 (List.map SKeyLines.cells a0)), (1, .list 2 (List.map SKeyLines.cells a1)), (5, .int .i64 x1), (41, .bool v)], [], 2⟩) (fun v => ref6_SameCache_j1 n x1 (ref6_SameCache_l1 n a0 a1 m1) v = some r) ?_ ?_
    ·refine W.regD hm ?_
     refine W.mv rfl (W.mv rfl ?_)
     obtain ⟨e4, k5, h⟩ := obind h
     refine W.idxL (c := SKeyLines.cells) rfl rfl k5 ?_
     refine W.fieldAddr rfl (W.load rfl rfl ?_)
     refine W.mv rfl (W.mv rfl ?_)
     obtain ⟨e5, k6, h⟩ := obind h
     refine W.idxL (c := SKeyLines.cells) rfl rfl k6 ?_
     refine W.fieldAddr rfl (W.load rfl rfl ?_)
     refine W.neq rfl rfl (W.mv rfl ?_)
     refine W.split 28 rfl (fun c7 => ?_) (fun c7 => ?_)
     ·replace h := iteT h c7
      refine W.guardF2 rfl c7 ?_
      refine W.guardF2 rfl c7 ?_
      refine W.guardF2 rfl c7 ?_
      refine W.guardF2 rfl c7 ?_
      refine W.guardF2 rfl c7 ?_
      refine W.guardF2 rfl c7 ?_
      refine W.guardF2 rfl c7 ?_
      refine W.guardF2 rfl c7 ?_
      refine W.guardF2 rfl c7 ?_
      refine W.guardF2 rfl c7 ?_
      refine W.guardF2 rfl c7 ?_
      refine W.guardF2 rfl c7 ?_
      refine W.pickT rfl rfl rfl c7 ?_
      refine W.nil ⟨rfl, ?_⟩
      exact ⟨true, h, Wk.nrmTo [0, 1, 5, 41] [] rfl rfl⟩
     ·replace h := iteF h c7
      refine W.guardT rfl c7 ?_
      refine W.mv rfl ?_
      refine W.guardT rfl c7 ?_
      refine W.mv rfl ?_
      refine W.guardT rfl c7 ?_
      refine W.idxL (c := SKeyLines.cells) rfl rfl k5 ?_
      refine W.guardT rfl c7 ?_
      refine W.fieldAddr rfl ?_
      refine W.guardT rfl c7 ?_
      refine W.load rfl rfl ?_
      refine W.guardT rfl c7 ?_
      refine W.mv rfl ?_
      refine W.guardT rfl c7 ?_
      refine W.mv rfl ?_
      refine W.guardT rfl c7 ?_
      refine W.idxL (c := SKeyLines.cells) rfl rfl k6 ?_
      refine W.guardT rfl c7 ?_
      refine W.fieldAddr rfl ?_
      refine W.guardT rfl c7 ?_
      refine W.load rfl rfl ?_
      refine W.guardT rfl c7 ?_
      obtain ⟨r6, k8, h⟩ := obind h
      refine W.call (ref6_Strings_spec n e4.Lines e5.Lines r6 k8) rfl rfl (Les.refl _) rfl (.inl rfl) rfl ?_
      refine W.guardT rfl c7 ?_
      refine W.not rfl ?_
      refine W.pickN rfl rfl rfl c7 ?_
      refine W.nil ⟨rfl, ?_⟩
      exact ⟨(!r6), h, Wk.nrmTo [0, 1, 5, 41] [] rfl rfl⟩
    ·intro x2 h
     try dsimp only at h ⊢
     unfold ref6_SameCache_j1 at h
     refine Ev.cond rfl (fun c3 => ?_) (fun c3 => ?_)
     ·replace h := iteT h c3
      refine Ev.seq ?_
      refine W.reg hm ?_
      refine W.mv rfl (W.nil ?_)
      refine Ev.ret ?_
      injection h with h; subst h
      exact ⟨_, rfl, .refl _⟩
     ·replace h := iteF h c3
      refine Ev.skip ?_
      refine W.reg hm ?_
      refine W.mv rfl ?_
      obtain ⟨x3, k4, h⟩ := obind h
      refine W.addG rfl rfl k4 ?_
      refine W.mv rfl (W.nil ?_)
      exact ⟨(m1, x3), h, Nat.lt_succ_self _, Wk.nrmTo [0, 1, 5] [] rfl rfl⟩
   ·replace h := iteF h c2
    refine Ev.exit ?_
    refine Ev.seq ?_
    refine W.reg hm ?_
    refine W.mv rfl (W.nil ?_)
    refine Ev.ret ?_
    injection h with h; subst h
    exact ⟨_, rfl, .refl _⟩
end Go.Proofs.YtlkknmhhefjmjaaGreatDoor
