/- The functions compute what the texts of D say. Laid by a program (wip/gen/dec.py). -/
import Derived.Test.YtlkknmhhefjmjaaDoorD
import Derived.Test.YtlkknmhhefjmjaaDoorW5
namespace Go.Proofs.YtlkknmhhefjmjaaDoor
open Go.PW Go
set_option maxHeartbeats 4000000 in
theorem ref6_ActionFault_spec (n : Nat) (a0 : SInputsOpsOutput) (r : SCodeIndex) (h : ref6_ActionFault n a0 = some r) : PSpec Tryd.prog 60 [.agg (SInputsOpsOutput.cells a0)] (.agg (SCodeIndex.cells r)) := by
 unfold ref6_ActionFault at h
 refine spec_of Tryd.c_ref6_ActionFault (by simp) ?_
 unfold Tryd.l_ref6_ActionFault
 refine Ev.seq ?_
 refine W.reg hm ?_
 refine W.box (dt := true) (cs := [.list 1 (List.map cS a0.Inputs), .list 2 (List.map SKindText.cells a0.Ops), .str a0.Output]) rfl rfl rfl rfl rfl rfl ?_
 refine W.alloc (dt := true) rfl rfl rfl ?_
 refine W.nil ?_
 refine Ev.seq ?_
 refine Ev.seqJ (γ := Bool) (fun v => ⟨[(1, .pown 10100 0 0 0), (2, .pown 10101 0 0 0), (15, .bool v)], [(10100, ⟨0, 43, 3, [[.list 1 (List.map cS a0.Inputs), .list 2 (List.map SKindText.cells a0.Ops), .str a0.Output]], true, false, false⟩), (10101, ⟨0, 25, 2, [[.int .i64 0, .int .i64 0]], true, false, false⟩)], 2⟩) (fun v => ref6_ActionFault_j1 n a0 v = some r) ?_ ?_
 ·refine W.reg hm ?_
  refine W.fieldAddrO rfl rfl ?_
  refine W.loadO (p := .list 1 (List.map cS a0.Inputs)) rfl rfl rfl rfl ?_
  refine W.lenL (c := cS) rfl ?_
  refine W.gtr rfl rfl (W.mv rfl ?_)
  refine W.split 10 rfl (fun c24 => ?_) (fun c24 => ?_)
  ·replace h := iteT h c24
   refine W.guardF2 rfl c24 ?_
   refine W.guardF2 rfl c24 ?_
   refine W.guardF2 rfl c24 ?_
   refine W.guardF2 rfl c24 ?_
   refine W.pickT rfl rfl rfl c24 ?_
   refine W.nil ?_
   exact ⟨true, h, Wk.nrmTo [1, 2, 15] [(1, 10100), (2, 10101)] rfl rfl⟩
  ·replace h := iteF h c24
   refine W.guardT rfl c24 ?_
   refine W.fieldAddrO rfl rfl ?_
   refine W.guardT rfl c24 ?_
   refine W.loadO (p := .list 2 (List.map SKindText.cells a0.Ops)) rfl rfl rfl rfl ?_
   refine W.guardT rfl c24 ?_
   refine W.lenL (c := SKindText.cells) rfl ?_
   refine W.guardT rfl c24 ?_
   refine W.gtr rfl rfl ?_
   refine W.pickN rfl rfl rfl c24 ?_
   refine W.nil ?_
   exact ⟨(decide (16 < (a0.Ops.length : Int))), h, Wk.nrmTo [1, 2, 15] [(1, 10100), (2, 10101)] rfl rfl⟩
 ·intro x1 h
  try dsimp only at h ⊢
  unfold ref6_ActionFault_j1 at h
  refine Ev.cond rfl (fun c1 => ?_) (fun c1 => ?_)
  ·replace h := iteT h c1
   refine Ev.seq ?_
   refine W.reg hm ?_
   obtain ⟨r2, k2, h⟩ := obind h
   refine W.call (ref6_fault_spec n 2 (-1) r2 k2) rfl rfl (Les.refl _) rfl (.inl rfl) rfl ?_
   refine W.store (es' := [[.int .i64 r2.Code, .int .i64 r2.Index]]) (dt := true) rfl rfl rfl rfl rfl (Nat.le_of_ble_eq_true rfl) rfl rfl rfl rfl ?_
   refine W.nil ?_
   refine Ev.ret ?_
   injection h with h; subst h
   exact ⟨_, rfl, .refl _⟩
  ·replace h := iteF h c1
   refine Ev.skip ?_
   refine Ev.seq (Ev.seq ?_)
   refine W.reg hm ?_
   refine W.mv rfl (W.nil ?_)
   refine Ev.block ?_
   refine Ev.loopW (β := Nat × Int) (fun v => ⟨[(1, .pown 10200 0 0 0), (2, .pown 10201 0 0 0), (3, .int .i64 v.2)], [(10200, ⟨0, 43, 3, [[.list 1 (List.map cS a0.Inputs), .list 2 (List.map SKindText.cells a0.Ops), .str a0.Output]], true, false, false⟩), (10201, ⟨0, 25, 2, [[.int .i64 0, .int .i64 0]], true, false, false⟩)], 2⟩) (fun v => ref6_ActionFault_l1 n a0 v.1 v.2 = some r) (fun v => v.1) (n, 0) (Wk.nrmTo [1, 2, 3] [(10100, 10200), (10101, 10201)] rfl rfl) h ?_
   intro ⟨m1, x3⟩ h
   try dsimp only at h ⊢
   cases m1 with
   | zero => rw [ref6_ActionFault_l1] at h; cases h
   | succ m1 =>
    rw [ref6_ActionFault_l1] at h
    refine Ev.seq (Ev.seq ?_)
    refine W.reg hm ?_
    refine W.mv rfl (W.fieldAddrO rfl rfl ?_)
    refine W.loadO (p := .list 1 (List.map cS a0.Inputs)) rfl rfl rfl rfl ?_
    refine W.lenL (c := cS) rfl ?_
    refine W.lss rfl rfl (W.nil ?_)
    refine Ev.cond rfl (fun c3 => ?_) (fun c3 => ?_)
    ·replace h := iteT h c3
     refine Ev.skip ?_
     refine Ev.seq ?_
     refine Ev.block ?_
     refine Ev.seq (Ev.seq ?_)
     refine W.reg hm ?_
     refine W.fieldAddrO rfl rfl ?_
     refine W.loadO (p := .list 1 (List.map cS a0.Inputs)) rfl rfl rfl rfl ?_
     refine W.mv rfl ?_
     obtain ⟨e4, k4, h⟩ := obind h
     refine W.idxL (c := cS) rfl rfl k4 ?_
     refine W.load rfl rfl ?_
     obtain ⟨r5, k5, h⟩ := obind h
     refine W.call (ref2_PathValid_spec n e4 r5 k5) rfl rfl (Les.refl _) rfl (.inl rfl) rfl ?_
     refine W.not rfl (W.nil ?_)
     refine Ev.cond rfl (fun c6 => ?_) (fun c6 => ?_)
     ·replace h := iteT h c6
      refine Ev.seq ?_
      refine W.reg hm ?_
      refine W.mv rfl ?_
      obtain ⟨r6, k7, h⟩ := obind h
      refine W.call (ref6_fault_spec n 12 x3 r6 k7) rfl rfl (Les.refl _) rfl (.inl rfl) rfl ?_
      refine W.store (es' := [[.int .i64 r6.Code, .int .i64 r6.Index]]) (dt := true) rfl rfl rfl rfl rfl (Nat.le_of_ble_eq_true rfl) rfl rfl rfl rfl ?_
      refine W.nil ?_
      refine Ev.ret ?_
      injection h with h; subst h
      exact ⟨_, rfl, .refl _⟩
     ·replace h := iteF h c6
      refine Ev.skip ?_
      refine Ev.seqJ (γ := Bool) (fun v => ⟨[(1, .pown 10300 0 0 0), (2, .pown 10301 0 0 0), (3, .int .i64 x3), (48, .bool v)], [(10300, ⟨0, 43, 3, [[.list 1 (List.map cS a0.Inputs), .list 2 (List.map SKindText.cells a0.Ops), .str a0.Output]], true, false, false⟩), (10301, ⟨0, 25, 2, [[.int .i64 0, .int .i64 0]], true, false, false⟩)], 2⟩) (fun v => ref6_ActionFault_j2 n x3 (ref6_ActionFault_l1 n a0 m1) v = some r) ?_ ?_
      ·refine W.regD hm ?_
       refine W.mv rfl (W.gtr rfl rfl ?_)
       refine W.mv rfl ?_
       refine W.split 35 rfl (fun c11 => ?_) (fun c11 => ?_)
       ·replace h := iteT h c11
        refine W.guardT rfl c11 ?_
        refine W.fieldAddrO rfl rfl ?_
        refine W.guardT rfl c11 ?_
        refine W.loadO (p := .list 1 (List.map cS a0.Inputs)) rfl rfl rfl rfl ?_
        refine W.guardT rfl c11 ?_
        refine W.mv rfl ?_
        refine W.guardT rfl c11 ?_
        refine W.idxL (c := cS) rfl rfl k4 ?_
        refine W.guardT rfl c11 ?_
        refine W.load rfl rfl ?_
        refine W.guardT rfl c11 ?_
        refine W.fieldAddrO rfl rfl ?_
        refine W.guardT rfl c11 ?_
        refine W.loadO (p := .list 1 (List.map cS a0.Inputs)) rfl rfl rfl rfl ?_
        refine W.guardT rfl c11 ?_
        refine W.mv rfl ?_
        refine W.guardT rfl c11 ?_
        obtain ⟨x10, k12, h⟩ := obind h
        refine W.subG rfl rfl k12 ?_
        refine W.guardT rfl c11 ?_
        obtain ⟨e11, k13, h⟩ := obind h
        refine W.idxL (c := cS) rfl rfl k13 ?_
        refine W.guardT rfl c11 ?_
        refine W.load rfl rfl ?_
        refine W.guardT rfl c11 ?_
        refine W.sleq rfl rfl ?_
        refine W.pickT rfl rfl rfl c11 ?_
        refine W.nil ⟨rfl, ?_⟩
        exact ⟨(Op.bytesLess e4 e11 || e4 == e11), h, Wk.nrmTo [1, 2, 3, 48] [(10200, 10300), (10201, 10301)] rfl rfl⟩
       ·replace h := iteF h c11
        refine W.guardF1 rfl c11 ?_
        refine W.guardF1 rfl c11 ?_
        refine W.guardF1 rfl c11 ?_
        refine W.guardF1 rfl c11 ?_
        refine W.guardF1 rfl c11 ?_
        refine W.guardF1 rfl c11 ?_
        refine W.guardF1 rfl c11 ?_
        refine W.guardF1 rfl c11 ?_
        refine W.guardF1 rfl c11 ?_
        refine W.guardF1 rfl c11 ?_
        refine W.guardF1 rfl c11 ?_
        refine W.guardF1 rfl c11 ?_
        refine W.pickN rfl rfl rfl c11 ?_
        refine W.nil ⟨rfl, ?_⟩
        exact ⟨false, h, Wk.nrmTo [1, 2, 3, 48] [(10200, 10300), (10201, 10301)] rfl rfl⟩
      ·intro x7 h
       try dsimp only at h ⊢
       unfold ref6_ActionFault_j2 at h
       refine Ev.cond rfl (fun c8 => ?_) (fun c8 => ?_)
       ·replace h := iteT h c8
        refine Ev.seq ?_
        refine W.reg hm ?_
        refine W.mv rfl ?_
        obtain ⟨r8, k9, h⟩ := obind h
        refine W.call (ref6_fault_spec n 5 x3 r8 k9) rfl rfl (Les.refl _) rfl (.inl rfl) rfl ?_
        refine W.store (es' := [[.int .i64 r8.Code, .int .i64 r8.Index]]) (dt := true) rfl rfl rfl rfl rfl (Nat.le_of_ble_eq_true rfl) rfl rfl rfl rfl ?_
        refine W.nil ?_
        refine Ev.ret ?_
        injection h with h; subst h
        exact ⟨_, rfl, .refl _⟩
       ·replace h := iteF h c8
        refine Ev.skip ?_
        refine W.reg hm ?_
        refine W.mv rfl ?_
        obtain ⟨x9, k10, h⟩ := obind h
        refine W.addG rfl rfl k10 ?_
        refine W.mv rfl (W.nil ?_)
        exact ⟨(m1, x9), h, Nat.lt_succ_self _, Wk.nrmTo [1, 2, 3] [(10300, 10200), (10301, 10201)] rfl rfl⟩
    ·replace h := iteF h c3
     refine Ev.exit ?_
     refine Ev.seq (Ev.seq ?_)
     refine W.reg hm ?_
     refine W.fieldAddrO rfl rfl ?_
     refine W.loadO (p := .str a0.Output) rfl rfl rfl rfl ?_
     obtain ⟨r12, k14, h⟩ := obind h
     refine W.call (ref2_PathValid_spec n a0.Output r12 k14) rfl rfl (Les.refl _) rfl (.inl rfl) rfl ?_
     refine W.not rfl (W.nil ?_)
     refine Ev.cond rfl (fun c15 => ?_) (fun c15 => ?_)
     ·replace h := iteT h c15
      refine Ev.seq ?_
      refine W.reg hm ?_
      obtain ⟨r13, k16, h⟩ := obind h
      refine W.call (ref6_fault_spec n 12 (-2) r13 k16) rfl rfl (Les.refl _) rfl (.inl rfl) rfl ?_
      refine W.store (es' := [[.int .i64 r13.Code, .int .i64 r13.Index]]) (dt := true) rfl rfl rfl rfl rfl (Nat.le_of_ble_eq_true rfl) rfl rfl rfl rfl ?_
      refine W.nil ?_
      refine Ev.ret ?_
      injection h with h; subst h
      exact ⟨_, rfl, .refl _⟩
     ·replace h := iteF h c15
      refine Ev.skip ?_
      refine Ev.seq (Ev.seq ?_)
      refine W.reg hm ?_
      refine W.mv rfl (W.nil ?_)
      refine Ev.block ?_
      refine Ev.loopW (β := Nat × Int) (fun v => ⟨[(1, .pown 10300 0 0 0), (2, .pown 10301 0 0 0), (4, .int .i64 v.2)], [(10300, ⟨0, 43, 3, [[.list 1 (List.map cS a0.Inputs), .list 2 (List.map SKindText.cells a0.Ops), .str a0.Output]], true, false, false⟩), (10301, ⟨0, 25, 2, [[.int .i64 0, .int .i64 0]], true, false, false⟩)], 2⟩) (fun v => ref6_ActionFault_l2 n a0 v.1 v.2 = some r) (fun v => v.1) (n, 0) (Wk.nrmTo [1, 2, 4] [(10200, 10300), (10201, 10301)] rfl rfl) h ?_
      intro ⟨m2, x14⟩ h
      try dsimp only at h ⊢
      cases m2 with
      | zero => rw [ref6_ActionFault_l2] at h; cases h
      | succ m2 =>
       rw [ref6_ActionFault_l2] at h
       refine Ev.seq (Ev.seq ?_)
       refine W.reg hm ?_
       refine W.mv rfl (W.fieldAddrO rfl rfl ?_)
       refine W.loadO (p := .list 2 (List.map SKindText.cells a0.Ops)) rfl rfl rfl rfl ?_
       refine W.lenL (c := SKindText.cells) rfl ?_
       refine W.lss rfl rfl (W.nil ?_)
       refine Ev.cond rfl (fun c17 => ?_) (fun c17 => ?_)
       ·replace h := iteT h c17
        refine Ev.skip ?_
        refine Ev.seq ?_
        refine Ev.block ?_
        refine Ev.seq ?_
        refine W.reg hm ?_
        refine W.fieldAddrO rfl rfl ?_
        refine W.loadO (p := .list 2 (List.map SKindText.cells a0.Ops)) rfl rfl rfl rfl ?_
        refine W.mv rfl ?_
        obtain ⟨e15, k18, h⟩ := obind h
        refine W.idxL (c := SKindText.cells) rfl rfl k18 ?_
        refine W.load rfl rfl ?_
        obtain ⟨r16, k19, h⟩ := obind h
        refine W.call (ref6_opCode_spec n e15 r16 k19) rfl rfl (Les.refl _) rfl (.inl rfl) rfl ?_
        refine W.mv rfl (W.nil ?_)
        refine Ev.seq ?_
        refine W.reg hm ?_
        refine W.mv rfl (W.neq rfl rfl ?_)
        refine W.nil ?_
        refine Ev.cond rfl (fun c20 => ?_) (fun c20 => ?_)
        ·replace h := iteT h c20
         refine Ev.seq ?_
         refine W.reg hm ?_
         refine W.mv rfl (W.mv rfl ?_)
         obtain ⟨x17, k21, h⟩ := obind h
         refine W.subG rfl rfl k21 ?_
         obtain ⟨r18, k22, h⟩ := obind h
         refine W.call (ref6_fault_spec n r16 x17 r18 k22) rfl rfl (Les.refl _) rfl (.inl rfl) rfl ?_
         refine W.store (es' := [[.int .i64 r18.Code, .int .i64 r18.Index]]) (dt := true) rfl rfl rfl rfl rfl (Nat.le_of_ble_eq_true rfl) rfl rfl rfl rfl ?_
         refine W.nil ?_
         refine Ev.ret ?_
         injection h with h; subst h
         exact ⟨_, rfl, .refl _⟩
        ·replace h := iteF h c20
         refine Ev.skip ?_
         refine W.reg hm ?_
         refine W.mv rfl ?_
         obtain ⟨x19, k23, h⟩ := obind h
         refine W.addG rfl rfl k23 ?_
         refine W.mv rfl (W.nil ?_)
         exact ⟨(m2, x19), h, Nat.lt_succ_self _, Wk.nrmTo [1, 2, 4] [(10300, 10300), (10301, 10301)] rfl rfl⟩
       ·replace h := iteF h c17
        refine Ev.exit ?_
        refine Ev.seq ?_
        refine W.reg hm ?_
        refine W.build (cs := [.int .i64 0, .int .i64 0]) rfl rfl rfl ?_
        refine W.store (es' := [[.int .i64 0, .int .i64 0]]) (dt := true) rfl rfl rfl rfl rfl (Nat.le_of_ble_eq_true rfl) rfl rfl rfl rfl ?_
        refine W.nil ?_
        refine Ev.ret ?_
        injection h with h; subst h
        exact ⟨_, rfl, .refl _⟩
theorem ref6_RunFault_spec (n : Nat) (a0 : SInputsOpsOutput) (a1 : SFiles) (r : SCodeIndex) (h : ref6_RunFault n a0 a1 = some r) : PSpec Tryd.prog 27 [.agg (SInputsOpsOutput.cells a0), .agg (SFiles.cells a1)] (.agg (SCodeIndex.cells r)) := by
 unfold ref6_RunFault at h
 refine spec_of Tryd.c_ref6_RunFault (by simp) ?_
 unfold Tryd.l_ref6_RunFault
 refine Ev.seq ?_
 refine W.reg hm ?_
 refine W.box (dt := true) (cs := [.list 1 (List.map cS a0.Inputs), .list 2 (List.map SKindText.cells a0.Ops), .str a0.Output]) rfl rfl rfl rfl rfl rfl ?_
 refine W.box (dt := true) (cs := [.list 2 (List.map SPathLines.cells a1.Files)]) rfl rfl rfl rfl rfl rfl ?_
 refine W.alloc (dt := true) rfl rfl rfl ?_
 refine W.nil ?_
 refine Ev.seq ?_
 refine W.reg hm ?_
 refine W.loadO (p := .agg [.list 1 (List.map cS a0.Inputs), .list 2 (List.map SKindText.cells a0.Ops), .str a0.Output]) rfl rfl rfl rfl ?_
 obtain ⟨r1, k1, h⟩ := obind h
 refine W.call (ref6_ActionFault_spec n a0 r1 k1) rfl rfl (Les.refl _) rfl (.inl rfl) rfl ?_
 refine W.alloc (dt := true) rfl rfl rfl ?_
 refine W.store (es' := [[.int .i64 r1.Code, .int .i64 r1.Index]]) (dt := true) rfl rfl rfl rfl rfl (Nat.le_of_ble_eq_true rfl) rfl rfl rfl rfl ?_
 refine W.nil ?_
 refine Ev.seqJ (γ := Int × Int) (fun v => ⟨[(4, .pown 10100 0 0 0), (5, .pown 10101 0 0 0)], [(10100, ⟨0, 25, 2, [[.int .i64 0, .int .i64 0]], true, false, false⟩), (10101, ⟨0, 25, 2, [[.int .i64 v.1, .int .i64 v.2]], true, false, false⟩)], 2⟩) (fun v => ref6_RunFault_j1 n v.1 v.2 = some r) ?_ ?_
 ·refine Ev.seq ?_
  refine W.reg hm ?_
  refine W.fieldAddrO rfl rfl ?_
  refine W.loadO (p := .int .i64 r1.Code) rfl rfl rfl rfl ?_
  refine W.eql rfl rfl (W.nil ?_)
  refine Ev.cond rfl (fun c2 => ?_) (fun c2 => ?_)
  ·replace h := iteT h c2
   refine W.reg hm ?_
   refine W.loadO (p := .agg [.list 2 (List.map SPathLines.cells a1.Files)]) rfl rfl rfl rfl ?_
   obtain ⟨r4, k3, h⟩ := obind h
   refine W.call (ref6_TreeAt_spec n a1 (-20) r4 k3) rfl rfl (Les.refl _) rfl (.inl rfl) rfl ?_
   refine W.store (es' := [[.int .i64 r4.Code, .int .i64 r4.Index]]) (dt := true) rfl rfl rfl rfl rfl (Nat.le_of_ble_eq_true rfl) rfl rfl rfl rfl ?_
   refine W.nil ?_
   exact ⟨(r4.Code, r4.Index), h, Wk.nrmTo [4, 5] [(4, 10100), (5, 10101)] rfl rfl⟩
  ·replace h := iteF h c2
   refine Ev.skip ?_
   exact ⟨(r1.Code, r1.Index), h, Wk.nrmTo [4, 5] [(4, 10100), (5, 10101)] rfl rfl⟩
 ·intro ⟨b2, b3⟩ h
  try dsimp only at h ⊢
  unfold ref6_RunFault_j1 at h
  refine Ev.seq ?_
  refine W.reg hm ?_
  refine W.loadO (p := .agg [.int .i64 b2, .int .i64 b3]) rfl rfl rfl rfl ?_
  refine W.store (es' := [[.int .i64 b2, .int .i64 b3]]) (dt := true) rfl rfl rfl rfl rfl (Nat.le_of_ble_eq_true rfl) rfl rfl rfl rfl ?_
  refine W.nil ?_
  refine Ev.ret ?_
  injection h with h; subst h
  exact ⟨_, rfl, .refl _⟩
theorem ref1_times_spec (n : Nat) (a0 : Int) (a1 : Int) (r : Int) (h : ref1_times n a0 a1 = some r) : PSpec Tryd.prog 104 [.int .i64 a0, .int .i64 a1] (.int .i64 r) := by
 unfold ref1_times at h
 refine spec_of Tryd.c_ref1_times (by simp) ?_
 unfold Tryd.l_ref1_times
 refine Ev.seq ?_
 refine W.reg hm ?_
 refine W.mv rfl (W.nil ?_)
 refine Ev.seq ?_
 refine W.reg hm ?_
 refine W.mv rfl (W.nil ?_)
 refine Ev.seqJ (γ := Int) (fun v => ⟨[(5, .int .i64 v)], [], 2⟩) (fun v => ref1_times_j1 n v = some r) ?_ ?_
 ·refine Ev.block ?_
  refine Ev.loopW (β := Nat × Int × Int × Int) (fun v => ⟨[(0, .int .i64 v.2.1), (1, .int .i64 v.2.2.1), (5, .int .i64 v.2.2.2)], [], 2⟩) (fun v => ref1_times_l1 n v.1 v.2.1 v.2.2.1 v.2.2.2 = some r) (fun v => v.1) (n, a0, a1, 0) (Wk.nrmTo [0, 1, 5] [] rfl rfl) h ?_
  intro ⟨m1, x2, x3, x4⟩ h
  try dsimp only at h ⊢
  cases m1 with
  | zero => rw [ref1_times_l1] at h; cases h
  | succ m1 =>
   rw [ref1_times_l1] at h
   refine Ev.seq (Ev.seq ?_)
   refine W.reg hm ?_
   refine W.mv rfl (W.gtr rfl rfl ?_)
   refine W.nil ?_
   refine Ev.cond rfl (fun c1 => ?_) (fun c1 => ?_)
   ·replace h := iteT h c1
    refine Ev.skip ?_
    refine Ev.block ?_
    refine Ev.seqJ (γ := Int) (fun v => ⟨[(0, .int .i64 x2), (1, .int .i64 x3), (5, .int .i64 v)], [], 2⟩) (fun v => ref1_times_j2 n x2 x3 (ref1_times_l1 n m1) v = some r) ?_ ?_
    ·refine Ev.seq ?_
     refine W.reg hm ?_
     refine W.mv rfl ?_
     obtain ⟨x9, k5, h⟩ := obind h
     refine W.remG rfl rfl k5 ?_
     refine W.eql rfl rfl (W.nil ?_)
     refine Ev.cond rfl (fun c6 => ?_) (fun c6 => ?_)
     ·replace h := iteT h c6
      refine W.reg hm ?_
      refine W.mv rfl (W.mv rfl ?_)
      obtain ⟨x10, k7, h⟩ := obind h
      refine W.addG rfl rfl k7 ?_
      obtain ⟨x11, k8, h⟩ := obind h
      refine W.remG rfl rfl k8 ?_
      refine W.mv rfl (W.nil ?_)
      exact ⟨x11, h, Wk.nrmTo [0, 1, 5] [] rfl rfl⟩
     ·replace h := iteF h c6
      refine Ev.skip ?_
      exact ⟨x4, h, Wk.nrmTo [0, 1, 5] [] rfl rfl⟩
    ·intro x5 h
     try dsimp only at h ⊢
     unfold ref1_times_j2 at h
     refine Ev.seq ?_
     refine W.reg hm ?_
     refine W.mv rfl (W.mv rfl ?_)
     obtain ⟨x6, k2, h⟩ := obind h
     refine W.addG rfl rfl k2 ?_
     obtain ⟨x7, k3, h⟩ := obind h
     refine W.remG rfl rfl k3 ?_
     refine W.mv rfl (W.nil ?_)
     refine W.reg hm ?_
     refine W.mv rfl ?_
     obtain ⟨x8, k4, h⟩ := obind h
     refine W.quoG rfl rfl k4 ?_
     refine W.mv rfl (W.nil ?_)
     exact ⟨(m1, x7, x8, x5), h, Nat.lt_succ_self _, Wk.nrmTo [0, 1, 5] [] rfl rfl⟩
   ·replace h := iteF h c1
    refine Ev.exit ?_
    exact ⟨x4, h, Wk.nrmTo [5] [] rfl rfl⟩
 ·intro x1 h
  try dsimp only at h ⊢
  unfold ref1_times_j1 at h
  refine Ev.seq ?_
  refine W.reg hm ?_
  refine W.mv rfl (W.mv rfl ?_)
  refine W.nil ?_
  refine Ev.ret ?_
  injection h with h; subst h
  exact ⟨_, rfl, .refl _⟩
theorem ref1_DigestPair_spec (n : Nat) (a0 : Int) (a1 : Int) (r : Int) (h : ref1_DigestPair n a0 a1 = some r) : PSpec Tryd.prog 69 [.int .i64 a0, .int .i64 a1] (.int .i64 r) := by
 unfold ref1_DigestPair at h
 refine spec_of Tryd.c_ref1_DigestPair (by simp) ?_
 unfold Tryd.l_ref1_DigestPair
 refine Ev.seq ?_
 refine W.reg hm ?_
 refine W.mv rfl (W.nil ?_)
 refine Ev.seq ?_
 refine W.reg hm ?_
 refine W.mv rfl ?_
 obtain ⟨r1, k1, h⟩ := obind h
 refine W.call (ref1_times_spec n a0 1000003 r1 k1) rfl rfl (Les.refl _) rfl (.inl rfl) rfl ?_
 refine W.mv rfl ?_
 obtain ⟨r2, k2, h⟩ := obind h
 refine W.call (ref1_times_spec n a1 31 r2 k2) rfl rfl (Les.refl _) rfl (.inl rfl) rfl ?_
 obtain ⟨x3, k3, h⟩ := obind h
 refine W.addG rfl rfl k3 ?_
 obtain ⟨x4, k4, h⟩ := obind h
 refine W.addG rfl rfl k4 ?_
 obtain ⟨x5, k5, h⟩ := obind h
 refine W.remG rfl rfl k5 ?_
 refine W.mv rfl (W.nil ?_)
 refine Ev.ret ?_
 injection h with h; subst h
 exact ⟨_, rfl, .refl _⟩
theorem ref1_DigestOf_spec (n : Nat) (a0 : List Int) (r : Int) (h : ref1_DigestOf n a0 = some r) : PSpec Tryd.prog 70 [.list 1 (List.map (cK .u8) a0)] (.int .i64 r) := by
 unfold ref1_DigestOf at h
 refine spec_of Tryd.c_ref1_DigestOf (by simp) ?_
 unfold Tryd.l_ref1_DigestOf
 refine Ev.seq ?_
 refine W.reg hm ?_
 refine W.mv rfl (W.nil ?_)
 refine Ev.seq ?_
 refine W.reg hm ?_
 refine W.mv rfl (W.nil ?_)
 refine Ev.seq (Ev.seq ?_)
 refine W.reg hm ?_
 refine W.mv rfl (W.nil ?_)
 refine Ev.block ?_
 refine Ev.loopW (β := Nat × Int × Int) (fun v => ⟨[(0, .list 1 (List.map (cK .u8) a0)), (3, .int .i64 v.2.1), (4, .int .i64 v.2.2)], [], 2⟩) (fun v => ref1_DigestOf_l1 n a0 v.1 v.2.1 v.2.2 = some r) (fun v => v.1) (n, 1, 0) (Wk.nrmTo [0, 3, 4] [] rfl rfl) h ?_
 intro ⟨m1, x1, x2⟩ h
 try dsimp only at h ⊢
 cases m1 with
 | zero => rw [ref1_DigestOf_l1] at h; cases h
 | succ m1 =>
  rw [ref1_DigestOf_l1] at h
  refine Ev.seq (Ev.seq ?_)
  refine W.reg hm ?_
  refine W.mv rfl (W.mv rfl ?_)
  refine W.lenL (c := (cK .u8)) rfl ?_
  refine W.lss rfl rfl (W.nil ?_)
  refine Ev.cond rfl (fun c1 => ?_) (fun c1 => ?_)
  ·replace h := iteT h c1
   refine Ev.skip ?_
   refine Ev.seq ?_
   refine Ev.block ?_
   refine W.regD hm ?_
   refine W.mv rfl ?_
   obtain ⟨r3, k2, h⟩ := obind h
   refine W.call (ref1_times_spec n x1 257 r3 k2) rfl rfl (Les.refl _) rfl (.inl rfl) rfl ?_
   refine W.mv rfl (W.mv rfl ?_)
   obtain ⟨e4, k3, h⟩ := obind h
   refine W.idxL (c := (cK .u8)) rfl rfl k3 ?_
   refine W.load rfl rfl (W.conv rfl rfl ?_)
   obtain ⟨x5, k4, h⟩ := obind h
   refine W.addG rfl rfl k4 ?_
   obtain ⟨x6, k5, h⟩ := obind h
   refine W.addG rfl rfl k5 ?_
   obtain ⟨x7, k6, h⟩ := obind h
   refine W.remG rfl rfl k6 ?_
   refine W.mv rfl ?_
   refine W.nil ⟨rfl, ?_⟩
   refine W.reg hm ?_
   refine W.mv rfl ?_
   obtain ⟨x8, k7, h⟩ := obind h
   refine W.addG rfl rfl k7 ?_
   refine W.mv rfl (W.nil ?_)
   exact ⟨(m1, x7, x8), h, Nat.lt_succ_self _, Wk.nrmTo [0, 3, 4] [] rfl rfl⟩
  ·replace h := iteF h c1
   refine Ev.exit ?_
   refine Ev.seq ?_
   refine W.reg hm ?_
   refine W.mv rfl (W.mv rfl ?_)
   refine W.nil ?_
   refine Ev.ret ?_
   injection h with h; subst h
   exact ⟨_, rfl, .refl _⟩
theorem ref1_DigestStrings_spec (n : Nat) (a0 : List (List UInt8)) (r : (Int × SCodeIndex)) (h : ref1_DigestStrings n a0 = some r) : PSpec Tryd.prog 103 [.list 1 (List.map cS a0)] (.tup [.int .i64 r.1, .agg (SCodeIndex.cells r.2)]) := by
 unfold ref1_DigestStrings at h
 refine spec_of Tryd.c_ref1_DigestStrings (by simp) ?_
 unfold Tryd.l_ref1_DigestStrings
 refine Ev.seq ?_
 refine W.reg hm ?_
 refine W.mv rfl ?_
 refine W.alloc (dt := true) rfl rfl rfl ?_
 refine W.nil ?_
 refine Ev.seq (Ev.seq ?_)
 refine W.reg hm ?_
 refine W.mv rfl ?_
 refine W.lenL (c := cS) rfl ?_
 refine W.gtr rfl rfl (W.nil ?_)
 refine Ev.cond rfl (fun c1 => ?_) (fun c1 => ?_)
 ·replace h := iteT h c1
  refine Ev.seq ?_
  refine W.reg hm ?_
  obtain ⟨r1, k2, h⟩ := obind h
  refine W.call (ref1_At_spec n 2 (-1) r1 k2) rfl rfl (Les.refl _) rfl (.inl rfl) rfl ?_
  refine W.mv rfl ?_
  refine W.store (es' := [[.int .i64 r1.Code, .int .i64 r1.Index]]) (dt := true) rfl rfl rfl rfl rfl (Nat.le_of_ble_eq_true rfl) rfl rfl rfl rfl ?_
  refine W.nil ?_
  refine Ev.ret ?_
  injection h with h; subst h
  exact ⟨_, rfl, .refl _⟩
 ·replace h := iteF h c1
  refine Ev.skip ?_
  refine Ev.seq ?_
  refine W.reg hm ?_
  refine W.mv rfl (W.nil ?_)
  refine Ev.seq (Ev.seq ?_)
  refine W.reg hm ?_
  refine W.mv rfl (W.nil ?_)
  refine Ev.block ?_
  refine Ev.loopW (β := Nat × Int × Int) (fun v => ⟨[(0, .list 1 (List.map cS a0)), (3, .pown 10100 0 0 0), (4, .int .i64 v.2.1), (5, .int .i64 v.2.2)], [(10100, ⟨0, 25, 2, [[.int .i64 0, .int .i64 0]], true, false, false⟩)], 2⟩) (fun v => ref1_DigestStrings_l1 n a0 v.1 v.2.1 v.2.2 = some r) (fun v => v.1) (n, 2, 0) (Wk.nrmTo [0, 3, 4, 5] [(3, 10100)] rfl rfl) h ?_
  intro ⟨m1, x2, x3⟩ h
  try dsimp only at h ⊢
  cases m1 with
  | zero => rw [ref1_DigestStrings_l1] at h; cases h
  | succ m1 =>
   rw [ref1_DigestStrings_l1] at h
   refine Ev.seq (Ev.seq ?_)
   refine W.reg hm ?_
   refine W.mv rfl (W.mv rfl ?_)
   refine W.lenL (c := cS) rfl ?_
   refine W.lss rfl rfl (W.nil ?_)
   refine Ev.cond rfl (fun c3 => ?_) (fun c3 => ?_)
   ·replace h := iteT h c3
    refine Ev.skip ?_
    refine Ev.seq ?_
    refine Ev.block ?_
    refine Ev.seq (Ev.seq ?_)
    refine W.reg hm ?_
    refine W.mv rfl (W.mv rfl ?_)
    obtain ⟨e4, k4, h⟩ := obind h
    refine W.idxL (c := cS) rfl rfl k4 ?_
    refine W.load rfl rfl (W.slen rfl ?_)
    refine W.gtr rfl rfl (W.nil ?_)
    refine Ev.cond rfl (fun c5 => ?_) (fun c5 => ?_)
    ·replace h := iteT h c5
     refine Ev.seq ?_
     refine W.reg hm ?_
     refine W.mv rfl ?_
     obtain ⟨r5, k6, h⟩ := obind h
     refine W.call (ref1_At_spec n 2 x3 r5 k6) rfl rfl (Les.refl _) rfl (.inl rfl) rfl ?_
     refine W.mv rfl ?_
     refine W.store (es' := [[.int .i64 r5.Code, .int .i64 r5.Index]]) (dt := true) rfl rfl rfl rfl rfl (Nat.le_of_ble_eq_true rfl) rfl rfl rfl rfl ?_
     refine W.nil ?_
     refine Ev.ret ?_
     injection h with h; subst h
     exact ⟨_, rfl, .refl _⟩
    ·replace h := iteF h c5
     refine Ev.skip ?_
     refine W.reg hm ?_
     refine W.mv rfl (W.mv rfl ?_)
     refine W.mv rfl ?_
     refine W.idxL (c := cS) rfl rfl k4 ?_
     refine W.load rfl rfl (W.toBytes rfl ?_)
     obtain ⟨r6, k7, h⟩ := obind h
     refine W.call (ref1_DigestOf_spec n (bts e4) r6 k7) rfl rfl (Les.refl _) rfl (.inl rfl) rfl ?_
     obtain ⟨r7, k8, h⟩ := obind h
     refine W.call (ref1_DigestPair_spec n x2 r6 r7 k8) rfl rfl (Les.refl _) rfl (.inl rfl) rfl ?_
     refine W.mv rfl (W.nil ?_)
     refine W.reg hm ?_
     refine W.mv rfl ?_
     obtain ⟨x8, k9, h⟩ := obind h
     refine W.addG rfl rfl k9 ?_
     refine W.mv rfl (W.nil ?_)
     exact ⟨(m1, r7, x8), h, Nat.lt_succ_self _, Wk.nrmTo [0, 3, 4, 5] [(10100, 10100)] rfl rfl⟩
   ·replace h := iteF h c3
    refine Ev.exit ?_
    refine Ev.seq ?_
    refine W.reg hm ?_
    refine W.mv rfl ?_
    refine W.build (cs := [.int .i64 0, .int .i64 0]) rfl rfl rfl ?_
    refine W.mv rfl ?_
    refine W.store (es' := [[.int .i64 0, .int .i64 0]]) (dt := true) rfl rfl rfl rfl rfl (Nat.le_of_ble_eq_true rfl) rfl rfl rfl rfl ?_
    refine W.nil ?_
    refine Ev.ret ?_
    injection h with h; subst h
    exact ⟨_, rfl, .refl _⟩
theorem ref6_stringsSum_spec (n : Nat) (a0 : List (List UInt8)) (r : Int) (h : ref6_stringsSum n a0 = some r) : PSpec Tryd.prog 67 [.list 1 (List.map cS a0)] (.int .i64 r) := by
 unfold ref6_stringsSum at h
 refine spec_of Tryd.c_ref6_stringsSum (by simp) ?_
 unfold Tryd.l_ref6_stringsSum
 refine Ev.seq ?_
 refine W.reg hm ?_
 refine W.mv rfl (W.nil ?_)
 refine Ev.seq ?_
 refine W.reg hm ?_
 refine W.mv rfl ?_
 obtain ⟨r1, k1, h⟩ := obind h
 refine W.call (ref1_DigestStrings_spec n a0 r1 k1) rfl rfl (Les.refl _) rfl (.inl rfl) rfl ?_
 refine W.mv rfl (W.extract rfl rfl ?_)
 refine W.extract rfl rfl ?_
 refine W.alloc (dt := true) rfl rfl rfl ?_
 refine W.mv rfl ?_
 refine W.store (es' := [[.int .i64 r1.2.Code, .int .i64 r1.2.Index]]) (dt := true) rfl rfl rfl rfl rfl (Nat.le_of_ble_eq_true rfl) rfl rfl rfl rfl ?_
 refine W.nil ?_
 refine Ev.seq ?_
 refine W.reg hm ?_
 refine W.mv rfl (W.mv rfl ?_)
 refine W.nil ?_
 refine Ev.ret ?_
 injection h with h; subst h
 exact ⟨_, rfl, .refl _⟩
theorem ref6_FileIn_spec (n : Nat) (a0 : SFiles) (a1 : List UInt8) (r : ((List (List UInt8)) × Bool)) (h : ref6_FileIn n a0 a1 = some r) : PSpec Tryd.prog 68 [.agg (SFiles.cells a0), .str a1] (.tup [.list 1 (List.map cS r.1), .bool r.2]) := by
 unfold ref6_FileIn at h
 refine spec_of Tryd.c_ref6_FileIn (by simp) ?_
 unfold Tryd.l_ref6_FileIn
 refine Ev.seq ?_
 refine W.reg hm ?_
 refine W.box (dt := true) (cs := [.list 2 (List.map SPathLines.cells a0.Files)]) rfl rfl rfl rfl rfl rfl ?_
 refine W.mv rfl (W.mv rfl ?_)
 refine W.nil ?_
 refine Ev.seq (Ev.seq ?_)
 refine W.reg hm ?_
 refine W.mv rfl (W.nil ?_)
 refine Ev.block ?_
 refine Ev.loopW (β := Nat × Int) (fun v => ⟨[(1, .str a1), (2, .pown 10100 0 0 0), (6, .int .i64 v.2)], [(10100, ⟨0, 46, 1, [[.list 2 (List.map SPathLines.cells a0.Files)]], true, false, false⟩)], 2⟩) (fun v => ref6_FileIn_l1 n a0 a1 v.1 v.2 = some r) (fun v => v.1) (n, 0) (Wk.nrmTo [1, 2, 6] [(2, 10100)] rfl rfl) h ?_
 intro ⟨m1, x1⟩ h
 try dsimp only at h ⊢
 cases m1 with
 | zero => rw [ref6_FileIn_l1] at h; cases h
 | succ m1 =>
  rw [ref6_FileIn_l1] at h
  refine Ev.seq (Ev.seq ?_)
  refine W.reg hm ?_
  refine W.mv rfl (W.fieldAddrO rfl rfl ?_)
  refine W.loadO (p := .list 2 (List.map SPathLines.cells a0.Files)) rfl rfl rfl rfl ?_
  refine W.lenL (c := SPathLines.cells) rfl ?_
  refine W.lss rfl rfl (W.nil ?_)
  refine Ev.cond rfl (fun c1 => ?_) (fun c1 => ?_)
  ·replace h := iteT h c1
   refine Ev.skip ?_
   refine Ev.seq ?_
   refine Ev.block ?_
   refine Ev.seq ?_
   refine W.reg hm ?_
   refine W.fieldAddrO rfl rfl ?_
   refine W.loadO (p := .list 2 (List.map SPathLines.cells a0.Files)) rfl rfl rfl rfl ?_
   refine W.mv rfl ?_
   obtain ⟨e2, k2, h⟩ := obind h
   refine W.idxL (c := SPathLines.cells) rfl rfl k2 ?_
   refine W.fieldAddr rfl (W.load rfl rfl ?_)
   refine W.mv rfl (W.seql rfl rfl ?_)
   refine W.nil ?_
   refine Ev.cond rfl (fun c3 => ?_) (fun c3 => ?_)
   ·replace h := iteT h c3
    refine Ev.seq ?_
    refine W.reg hm ?_
    refine W.fieldAddrO rfl rfl ?_
    refine W.loadO (p := .list 2 (List.map SPathLines.cells a0.Files)) rfl rfl rfl rfl ?_
    refine W.mv rfl ?_
    refine W.idxL (c := SPathLines.cells) rfl rfl k2 ?_
    refine W.fieldAddr rfl (W.load rfl rfl ?_)
    refine W.mv rfl (W.mv rfl ?_)
    refine W.nil ?_
    refine Ev.ret ?_
    injection h with h; subst h
    exact ⟨_, rfl, .refl _⟩
   ·replace h := iteF h c3
    refine Ev.skip ?_
    refine W.reg hm ?_
    refine W.mv rfl ?_
    obtain ⟨x3, k4, h⟩ := obind h
    refine W.addG rfl rfl k4 ?_
    refine W.mv rfl (W.nil ?_)
    exact ⟨(m1, x3), h, Nat.lt_succ_self _, Wk.nrmTo [1, 2, 6] [(10100, 10100)] rfl rfl⟩
  ·replace h := iteF h c1
   refine Ev.exit ?_
   refine Ev.seq ?_
   refine W.reg hm ?_
   refine W.mv rfl (W.mv rfl ?_)
   refine W.nil ?_
   refine Ev.ret ?_
   injection h with h; subst h
   exact ⟨_, rfl, Le.tups (.cons (.nils 1) (.cons (.refl _) (.nil)))⟩
set_option maxHeartbeats 4000000 in
theorem ref6_ActionKey_spec (n : Nat) (a0 : SInputsOpsOutput) (a1 : SFiles) (r : Int) (h : ref6_ActionKey n a0 a1 = some r) : PSpec Tryd.prog 29 [.agg (SInputsOpsOutput.cells a0), .agg (SFiles.cells a1)] (.int .i64 r) := by
 unfold ref6_ActionKey at h
 refine spec_of Tryd.c_ref6_ActionKey (by simp) ?_
 unfold Tryd.l_ref6_ActionKey
 refine Ev.seq ?_
 refine W.reg hm ?_
 refine W.box (dt := true) (cs := [.list 1 (List.map cS a0.Inputs), .list 2 (List.map SKindText.cells a0.Ops), .str a0.Output]) rfl rfl rfl rfl rfl rfl ?_
 refine W.box (dt := true) (cs := [.list 2 (List.map SPathLines.cells a1.Files)]) rfl rfl rfl rfl rfl rfl ?_
 refine W.mv rfl (W.nil ?_)
 refine Ev.seq ?_
 refine W.reg hm ?_
 refine W.fieldAddrO rfl rfl ?_
 refine W.loadO (p := .list 1 (List.map cS a0.Inputs)) rfl rfl rfl rfl ?_
 obtain ⟨r1, k1, h⟩ := obind h
 refine W.call (ref6_stringsSum_spec n a0.Inputs r1 k1) rfl rfl (Les.refl _) rfl (.inl rfl) rfl ?_
 refine W.mv rfl (W.nil ?_)
 refine Ev.seq (Ev.seq ?_)
 refine W.reg hm ?_
 refine W.mv rfl (W.nil ?_)
 refine Ev.block ?_
 refine Ev.loopW (β := Nat × Int × Int) (fun v => ⟨[(2, .pown 10100 0 0 0), (3, .pown 10101 0 0 0), (5, .int .i64 v.2.1), (6, .int .i64 v.2.2)], [(10100, ⟨0, 43, 3, [[.list 1 (List.map cS a0.Inputs), .list 2 (List.map SKindText.cells a0.Ops), .str a0.Output]], true, false, false⟩), (10101, ⟨0, 46, 1, [[.list 2 (List.map SPathLines.cells a1.Files)]], true, false, false⟩)], 2⟩) (fun v => ref6_ActionKey_l1 n a0 a1 v.1 v.2.1 v.2.2 = some r) (fun v => v.1) (n, r1, 0) (Wk.nrmTo [2, 3, 5, 6] [(2, 10100), (3, 10101)] rfl rfl) h ?_
 intro ⟨m1, x2, x3⟩ h
 try dsimp only at h ⊢
 cases m1 with
 | zero => rw [ref6_ActionKey_l1] at h; cases h
 | succ m1 =>
  rw [ref6_ActionKey_l1] at h
  refine Ev.seq (Ev.seq ?_)
  refine W.reg hm ?_
  refine W.mv rfl (W.fieldAddrO rfl rfl ?_)
  refine W.loadO (p := .list 1 (List.map cS a0.Inputs)) rfl rfl rfl rfl ?_
  refine W.lenL (c := cS) rfl ?_
  refine W.lss rfl rfl (W.nil ?_)
  refine Ev.cond rfl (fun c2 => ?_) (fun c2 => ?_)
  ·replace h := iteT h c2
   refine Ev.skip ?_
   refine Ev.seq ?_
   refine Ev.block ?_
   refine Ev.seq ?_
   refine W.regD hm ?_
   refine W.loadO (p := .agg [.list 2 (List.map SPathLines.cells a1.Files)]) rfl rfl rfl rfl ?_
   refine W.fieldAddrO rfl rfl ?_
   refine W.loadO (p := .list 1 (List.map cS a0.Inputs)) rfl rfl rfl rfl ?_
   refine W.mv rfl ?_
   obtain ⟨e4, k3, h⟩ := obind h
   refine W.idxL (c := cS) rfl rfl k3 ?_
   refine W.load rfl rfl ?_
   obtain ⟨r5, k4, h⟩ := obind h
   refine W.call (ref6_FileIn_spec n a1 e4 r5 k4) rfl rfl (Les.refl _) rfl (.inl rfl) rfl ?_
   refine W.mv rfl (W.extract rfl rfl ?_)
   refine W.extract rfl rfl (W.mv rfl ?_)
   refine W.mv rfl ?_
   refine W.nil ⟨rfl, ?_⟩
   refine Ev.seq ?_
   refine W.reg hm ?_
   refine W.mv rfl (W.nil ?_)
   refine Ev.seqJ (γ := Int) (fun v => ⟨[(2, .pown 10200 0 0 0), (3, .pown 10201 0 0 0), (5, .int .i64 x2), (6, .int .i64 x3), (9, .int .i64 v)], [(10200, ⟨0, 43, 3, [[.list 1 (List.map cS a0.Inputs), .list 2 (List.map SKindText.cells a0.Ops), .str a0.Output]], true, false, false⟩), (10201, ⟨0, 46, 1, [[.list 2 (List.map SPathLines.cells a1.Files)]], true, false, false⟩)], 2⟩) (fun v => ref6_ActionKey_j1 n x2 x3 (ref6_ActionKey_l1 n a0 a1 m1) v = some r) ?_ ?_
   ·refine Ev.seq ?_
    refine W.reg hm ?_
    refine W.mv rfl (W.nil ?_)
    refine Ev.cond rfl (fun c7 => ?_) (fun c7 => ?_)
    ·replace h := iteT h c7
     refine W.reg hm ?_
     refine W.mv rfl ?_
     obtain ⟨r9, k8, h⟩ := obind h
     refine W.call (ref6_stringsSum_spec n r5.1 r9 k8) rfl rfl (Les.refl _) rfl (.inl rfl) rfl ?_
     refine W.mv rfl (W.nil ?_)
     exact ⟨r9, h, Wk.nrmTo [2, 3, 5, 6, 9] [(10100, 10200), (10101, 10201)] rfl rfl⟩
    ·replace h := iteF h c7
     refine Ev.skip ?_
     exact ⟨0, h, Wk.nrmTo [2, 3, 5, 6, 9] [(10100, 10200), (10101, 10201)] rfl rfl⟩
   ·intro x6 h
    try dsimp only at h ⊢
    unfold ref6_ActionKey_j1 at h
    refine W.reg hm ?_
    refine W.mv rfl (W.mv rfl ?_)
    obtain ⟨r7, k5, h⟩ := obind h
    refine W.call (ref1_DigestPair_spec n x2 x6 r7 k5) rfl rfl (Les.refl _) rfl (.inl rfl) rfl ?_
    refine W.mv rfl (W.nil ?_)
    refine W.reg hm ?_
    refine W.mv rfl ?_
    obtain ⟨x8, k6, h⟩ := obind h
    refine W.addG rfl rfl k6 ?_
    refine W.mv rfl (W.nil ?_)
    exact ⟨(m1, r7, x8), h, Nat.lt_succ_self _, Wk.nrmTo [2, 3, 5, 6] [(10200, 10100), (10201, 10101)] rfl rfl⟩
  ·replace h := iteF h c2
   refine Ev.exit ?_
   refine Ev.seq (Ev.seq ?_)
   refine W.reg hm ?_
   refine W.mv rfl (W.nil ?_)
   refine Ev.block ?_
   refine Ev.loopW (β := Nat × Int × Int) (fun v => ⟨[(2, .pown 10200 0 0 0), (5, .int .i64 v.2.1), (10, .int .i64 v.2.2)], [(10200, ⟨0, 43, 3, [[.list 1 (List.map cS a0.Inputs), .list 2 (List.map SKindText.cells a0.Ops), .str a0.Output]], true, false, false⟩)], 2⟩) (fun v => ref6_ActionKey_l2 n a0 v.1 v.2.1 v.2.2 = some r) (fun v => v.1) (n, x2, 0) (Wk.nrmTo [2, 5, 10] [(10100, 10200)] rfl rfl) h ?_
   intro ⟨m2, x10, x11⟩ h
   try dsimp only at h ⊢
   cases m2 with
   | zero => rw [ref6_ActionKey_l2] at h; cases h
   | succ m2 =>
    rw [ref6_ActionKey_l2] at h
    refine Ev.seq (Ev.seq ?_)
    refine W.reg hm ?_
    refine W.mv rfl (W.fieldAddrO rfl rfl ?_)
    refine W.loadO (p := .list 2 (List.map SKindText.cells a0.Ops)) rfl rfl rfl rfl ?_
    refine W.lenL (c := SKindText.cells) rfl ?_
    refine W.lss rfl rfl (W.nil ?_)
    refine Ev.cond rfl (fun c9 => ?_) (fun c9 => ?_)
    ·replace h := iteT h c9
     refine Ev.skip ?_
     refine Ev.seq ?_
     refine Ev.block ?_
     refine W.regD hm ?_
     refine W.mv rfl (W.fieldAddrO rfl rfl ?_)
     refine W.loadO (p := .list 2 (List.map SKindText.cells a0.Ops)) rfl rfl rfl rfl ?_
     refine W.mv rfl ?_
     obtain ⟨e12, k10, h⟩ := obind h
     refine W.idxL (c := SKindText.cells) rfl rfl k10 ?_
     refine W.fieldAddr rfl (W.load rfl rfl ?_)
     refine W.fieldAddrO rfl rfl ?_
     refine W.loadO (p := .list 2 (List.map SKindText.cells a0.Ops)) rfl rfl rfl rfl ?_
     refine W.mv rfl ?_
     refine W.idxL (c := SKindText.cells) rfl rfl k10 ?_
     refine W.fieldAddr rfl (W.load rfl rfl ?_)
     refine W.toBytes rfl ?_
     obtain ⟨r13, k11, h⟩ := obind h
     refine W.call (ref1_DigestOf_spec n (bts e12.Text) r13 k11) rfl rfl (Les.refl _) rfl (.inl rfl) rfl ?_
     obtain ⟨r14, k12, h⟩ := obind h
     refine W.call (ref1_DigestPair_spec n e12.Kind r13 r14 k12) rfl rfl (Les.refl _) rfl (.inl rfl) rfl ?_
     obtain ⟨r15, k13, h⟩ := obind h
     refine W.call (ref1_DigestPair_spec n x10 r14 r15 k13) rfl rfl (Les.refl _) rfl (.inl rfl) rfl ?_
     refine W.mv rfl ?_
     refine W.nil ⟨rfl, ?_⟩
     refine W.reg hm ?_
     refine W.mv rfl ?_
     obtain ⟨x16, k14, h⟩ := obind h
     refine W.addG rfl rfl k14 ?_
     refine W.mv rfl (W.nil ?_)
     exact ⟨(m2, r15, x16), h, Nat.lt_succ_self _, Wk.nrmTo [2, 5, 10] [(10200, 10200)] rfl rfl⟩
    ·replace h := iteF h c9
     refine Ev.exit ?_
     refine Ev.seq ?_
     refine W.reg hm ?_
     refine W.mv rfl (W.fieldAddrO rfl rfl ?_)
     refine W.loadO (p := .str a0.Output) rfl rfl rfl rfl ?_
     refine W.toBytes rfl ?_
     obtain ⟨r17, k15, h⟩ := obind h
     refine W.call (ref1_DigestOf_spec n (bts a0.Output) r17 k15) rfl rfl (Les.refl _) rfl (.inl rfl) rfl ?_
     obtain ⟨r18, k16, h⟩ := obind h
     refine W.call (ref1_DigestPair_spec n x10 r17 r18 k16) rfl rfl (Les.refl _) rfl (.inl rfl) rfl ?_
     refine W.mv rfl (W.nil ?_)
     refine Ev.ret ?_
     injection h with h; subst h
     exact ⟨_, rfl, .refl _⟩
set_option maxHeartbeats 4000000 in
theorem law6_ActioncacheKeyMatchesSpec_spec (n : Nat) (a0 : SInputsOpsOutput) (a1 : SFiles) (r : Bool) (h : law6_ActioncacheKeyMatchesSpec n a0 a1 = some r) : PSpec Tryd.prog 4 [.agg (SInputsOpsOutput.cells a0), .agg (SFiles.cells a1)] (.bool r) := by
 unfold law6_ActioncacheKeyMatchesSpec at h
 refine spec_of Tryd.c_law6_ActioncacheKeyMatchesSpec (by simp) ?_
 unfold Tryd.l_law6_ActioncacheKeyMatchesSpec
 refine Ev.seq ?_
 refine W.reg hm ?_
 refine W.box (dt := true) (cs := [.list 1 (List.map cS a0.Inputs), .list 2 (List.map SKindText.cells a0.Ops), .str a0.Output]) rfl rfl rfl rfl rfl rfl ?_
 refine W.box (dt := true) (cs := [.list 2 (List.map SPathLines.cells a1.Files)]) rfl rfl rfl rfl rfl rfl ?_
 refine W.mv rfl (W.nil ?_)
 refine Ev.seq ?_
 refine W.reg hm ?_
 refine W.loadO (p := .agg [.list 1 (List.map cS a0.Inputs), .list 2 (List.map SKindText.cells a0.Ops), .str a0.Output]) rfl rfl rfl rfl ?_
 refine W.loadO (p := .agg [.list 2 (List.map SPathLines.cells a1.Files)]) rfl rfl rfl rfl ?_
 obtain ⟨r1, k1, h⟩ := obind h
 refine W.call (ref6_RunFault_spec n a0 a1 r1 k1) rfl rfl (Les.refl _) rfl (.inl rfl) rfl ?_
 refine W.alloc (dt := true) rfl rfl rfl ?_
 refine W.store (es' := [[.int .i64 r1.Code, .int .i64 r1.Index]]) (dt := true) rfl rfl rfl rfl rfl (Nat.le_of_ble_eq_true rfl) rfl rfl rfl rfl ?_
 refine W.nil ?_
 refine Ev.seq ?_
 refine W.reg hm ?_
 refine W.loadO (p := .agg [.list 1 (List.map cS a0.Inputs), .list 2 (List.map SKindText.cells a0.Ops), .str a0.Output]) rfl rfl rfl rfl ?_
 refine W.loadO (p := .agg [.list 2 (List.map SPathLines.cells a1.Files)]) rfl rfl rfl rfl ?_
 obtain ⟨r2, k2, h⟩ := obind h
 refine W.call (actioncache_Key_spec n a0 a1 r2 k2) rfl rfl (Les.refl _) rfl (.inl rfl) rfl ?_
 refine W.mv rfl (W.extract rfl rfl ?_)
 refine W.extract rfl rfl ?_
 refine W.alloc (dt := true) rfl rfl rfl ?_
 refine W.mv rfl ?_
 refine W.store (es' := [[.int .i64 r2.2.Code, .int .i64 r2.2.Index]]) (dt := true) rfl rfl rfl rfl rfl (Nat.le_of_ble_eq_true rfl) rfl rfl rfl rfl ?_
 refine W.nil ?_
 refine Ev.seqJ (γ := Bool) (fun v => ⟨[(4, .bool v)], [], 2⟩) (fun v => law6_ActioncacheKeyMatchesSpec_j1 n v = some r) ?_ ?_
 ·refine W.reg hm ?_
  obtain ⟨r4, k3, h⟩ := obind h
  refine W.call (law6_caches_spec n r4 k3) rfl rfl (Les.refl _) rfl (.inl rfl) rfl ?_
  refine W.mv rfl ?_
  refine W.split 18 rfl (fun c4 => ?_) (fun c4 => ?_)
  ·replace h := iteT h c4
   refine W.guardT rfl c4 ?_
   refine W.loadO (p := .agg [.int .i64 r2.2.Code, .int .i64 r2.2.Index]) rfl rfl rfl rfl ?_
   refine W.guardT rfl c4 ?_
   refine W.loadO (p := .agg [.int .i64 r1.Code, .int .i64 r1.Index]) rfl rfl rfl rfl ?_
   refine W.guardT rfl c4 ?_
   refine W.eqs rfl rfl rfl ?_
   refine W.pickT rfl rfl rfl c4 ?_
   refine W.mv rfl ?_
   refine W.split 23 rfl (fun c5 => ?_) (fun c5 => ?_)
   ·replace h := iteT h c5
    refine W.guardT rfl c5 ?_
    refine W.fieldAddrO rfl rfl ?_
    refine W.guardT rfl c5 ?_
    refine W.loadO (p := .int .i64 r1.Code) rfl rfl rfl rfl ?_
    refine W.guardT rfl c5 ?_
    refine W.neq rfl rfl ?_
    refine W.guardT rfl c5 ?_
    refine W.mv rfl ?_
    refine W.split 27 rfl (fun c6 => ?_) (fun c6 => ?_)
    ·replace h := iteT h c6
     refine W.guardT rfl c6 ?_
     refine W.mv rfl ?_
     refine W.guardT rfl c6 ?_
     refine W.eql rfl rfl ?_
     refine W.guardT rfl c5 ?_
     refine W.pickT rfl rfl rfl c6 ?_
     refine W.guardT rfl c5 ?_
     refine W.mv rfl ?_
     refine W.split 31 rfl (fun c7 => ?_) (fun c7 => ?_)
     ·replace h := iteT h c7
      refine W.guardF2 rfl c7 ?_
      refine W.guardF2 rfl c7 ?_
      refine W.guardF2 rfl c7 ?_
      refine W.guardF2 rfl c7 ?_
      refine W.guardU rfl (W.guardU rfl ?_)
      refine W.guardU rfl (W.guardU rfl ?_)
      refine W.guardU rfl ?_
      refine W.guardF2 rfl c7 ?_
      refine W.guardT rfl c5 ?_
      refine W.pickT rfl rfl rfl c7 ?_
      refine W.pickT rfl rfl rfl c5 ?_
      refine W.mv rfl (W.nil ?_)
      exact ⟨true, h, Wk.nrmTo [4] [] rfl rfl⟩
     ·replace h := iteF h c7
      refine W.guardT rfl c7 ?_
      refine W.fieldAddrO rfl rfl ?_
      refine W.guardT rfl c7 ?_
      refine W.loadO (p := .int .i64 r1.Code) rfl rfl rfl rfl ?_
      refine W.guardT rfl c7 ?_
      refine W.eql rfl rfl ?_
      refine W.guardT rfl c7 ?_
      refine W.mv rfl ?_
      refine W.split 35 rfl (fun c8 => ?_) (fun c8 => ?_)
      ·replace h := iteT h c8
       refine W.guardT rfl c8 ?_
       refine W.mv rfl ?_
       refine W.guardT rfl c8 ?_
       refine W.loadO (p := .agg [.list 1 (List.map cS a0.Inputs), .list 2 (List.map SKindText.cells a0.Ops), .str a0.Output]) rfl rfl rfl rfl ?_
       refine W.guardT rfl c8 ?_
       refine W.loadO (p := .agg [.list 2 (List.map SPathLines.cells a1.Files)]) rfl rfl rfl rfl ?_
       refine W.guardT rfl c8 ?_
       obtain ⟨r5, k9, h⟩ := obind h
       refine W.call (ref6_ActionKey_spec n a0 a1 r5 k9) rfl rfl (Les.refl _) rfl (.inl rfl) rfl ?_
       refine W.guardT rfl c8 ?_
       refine W.eql rfl rfl ?_
       refine W.guardT rfl c7 ?_
       refine W.pickT rfl rfl rfl c8 ?_
       refine W.guardT rfl c5 ?_
       refine W.pickN rfl rfl rfl c7 ?_
       refine W.pickT rfl rfl rfl c5 ?_
       refine W.mv rfl (W.nil ?_)
       exact ⟨(decide (r2.1 = r5)), h, Wk.nrmTo [4] [] rfl rfl⟩
      ·replace h := iteF h c8
       refine W.guardF1 rfl c8 ?_
       refine W.guardF1 rfl c8 ?_
       refine W.guardF1 rfl c8 ?_
       refine W.guardF1 rfl c8 ?_
       refine W.guardF1 rfl c8 ?_
       refine W.guardT rfl c7 ?_
       refine W.pickN rfl rfl rfl c8 ?_
       refine W.guardT rfl c5 ?_
       refine W.pickN rfl rfl rfl c7 ?_
       refine W.pickT rfl rfl rfl c5 ?_
       refine W.mv rfl (W.nil ?_)
       exact ⟨false, h, Wk.nrmTo [4] [] rfl rfl⟩
    ·replace h := iteF h c6
     refine W.guardF1 rfl c6 ?_
     refine W.guardF1 rfl c6 ?_
     refine W.guardT rfl c5 ?_
     refine W.pickN rfl rfl rfl c6 ?_
     refine W.guardT rfl c5 ?_
     refine W.mv rfl (W.guardT rfl rfl ?_)
     refine W.fieldAddrO rfl rfl (W.guardT rfl rfl ?_)
     refine W.loadO (p := .int .i64 r1.Code) rfl rfl rfl rfl ?_
     refine W.guardT rfl rfl (W.eql rfl rfl ?_)
     refine W.guardT rfl rfl (W.mv rfl ?_)
     refine W.split 35 rfl (fun c10 => ?_) (fun c10 => ?_)
     ·replace h := iteT h c10
      refine W.guardT rfl c10 ?_
      refine W.mv rfl ?_
      refine W.guardT rfl c10 ?_
      refine W.loadO (p := .agg [.list 1 (List.map cS a0.Inputs), .list 2 (List.map SKindText.cells a0.Ops), .str a0.Output]) rfl rfl rfl rfl ?_
      refine W.guardT rfl c10 ?_
      refine W.loadO (p := .agg [.list 2 (List.map SPathLines.cells a1.Files)]) rfl rfl rfl rfl ?_
      refine W.guardT rfl c10 ?_
      obtain ⟨r6, k11, h⟩ := obind h
      refine W.call (ref6_ActionKey_spec n a0 a1 r6 k11) rfl rfl (Les.refl _) rfl (.inl rfl) rfl ?_
      refine W.guardT rfl c10 ?_
      refine W.eql rfl rfl (W.guardT rfl rfl ?_)
      refine W.pickT rfl rfl rfl c10 ?_
      refine W.guardT rfl c5 ?_
      refine W.pickN rfl rfl rfl rfl ?_
      refine W.pickT rfl rfl rfl c5 ?_
      refine W.mv rfl (W.nil ?_)
      exact ⟨(decide (r2.1 = r6)), h, Wk.nrmTo [4] [] rfl rfl⟩
     ·replace h := iteF h c10
      refine W.guardF1 rfl c10 ?_
      refine W.guardF1 rfl c10 ?_
      refine W.guardF1 rfl c10 ?_
      refine W.guardF1 rfl c10 ?_
      refine W.guardF1 rfl c10 ?_
      refine W.guardT rfl rfl ?_
      refine W.pickN rfl rfl rfl c10 ?_
      refine W.guardT rfl c5 ?_
      refine W.pickN rfl rfl rfl rfl ?_
      refine W.pickT rfl rfl rfl c5 ?_
      refine W.mv rfl (W.nil ?_)
      exact ⟨false, h, Wk.nrmTo [4] [] rfl rfl⟩
   ·replace h := iteF h c5
    refine W.guardF1 rfl c5 ?_
    refine W.guardF1 rfl c5 ?_
    refine W.guardF1 rfl c5 ?_
    refine W.guardF1 rfl c5 ?_
    refine W.guardU rfl (W.guardU rfl ?_)
    refine W.guardF1 rfl c5 ?_
    refine W.guardF1 rfl c5 ?_
    refine W.guardU rfl (W.guardU rfl ?_)
    refine W.guardU rfl (W.guardU rfl ?_)
    refine W.guardU rfl (W.guardU rfl ?_)
    refine W.guardU rfl (W.guardU rfl ?_)
    refine W.guardU rfl (W.guardU rfl ?_)
    refine W.guardF1 rfl c5 ?_
    refine W.pickN rfl rfl rfl c5 ?_
    refine W.mv rfl (W.nil ?_)
    exact ⟨false, h, Wk.nrmTo [4] [] rfl rfl⟩
  ·replace h := iteF h c4
   refine W.guardF1 rfl c4 ?_
   refine W.guardF1 rfl c4 ?_
   refine W.guardF1 rfl c4 ?_
   refine W.pickN rfl rfl rfl c4 ?_
   refine W.mv rfl (W.guardF1 rfl rfl ?_)
   refine W.guardF1 rfl rfl (W.guardF1 rfl rfl ?_)
   refine W.guardF1 rfl rfl (W.guardU rfl ?_)
   refine W.guardU rfl (W.guardF1 rfl rfl ?_)
   refine W.guardF1 rfl rfl (W.guardU rfl ?_)
   refine W.guardU rfl (W.guardU rfl ?_)
   refine W.guardU rfl (W.guardU rfl ?_)
   refine W.guardU rfl (W.guardU rfl ?_)
   refine W.guardU rfl (W.guardU rfl ?_)
   refine W.guardU rfl (W.guardF1 rfl rfl ?_)
   refine W.pickN rfl rfl rfl rfl (W.mv rfl ?_)
   refine W.nil ?_
   exact ⟨false, h, Wk.nrmTo [4] [] rfl rfl⟩
 ·intro x3 h
  try dsimp only at h ⊢
  unfold law6_ActioncacheKeyMatchesSpec_j1 at h
  refine Ev.ret ?_
  injection h with h; subst h
  exact ⟨_, rfl, .refl _⟩
set_option maxHeartbeats 4000000 in
theorem ref6_SameActions_spec (n : Nat) (a0 : List SInputsOpsOutput) (a1 : List SInputsOpsOutput) (r : Bool) (h : ref6_SameActions n a0 a1 = some r) : PSpec Tryd.prog 30 [.list 3 (List.map SInputsOpsOutput.cells a0), .list 3 (List.map SInputsOpsOutput.cells a1)] (.bool r) := by
 unfold ref6_SameActions at h
 refine spec_of Tryd.c_ref6_SameActions (by simp) ?_
 unfold Tryd.l_ref6_SameActions
 refine Ev.seq ?_
 refine W.reg hm ?_
 refine W.mv rfl (W.nil ?_)
 refine Ev.seq (Ev.seq ?_)
 refine W.reg hm ?_
 refine W.mv rfl ?_
 refine W.lenL (c := SInputsOpsOutput.cells) rfl ?_
 refine W.mv rfl ?_
 refine W.lenL (c := SInputsOpsOutput.cells) rfl ?_
 refine W.neq rfl rfl (W.nil ?_)
 refine Ev.cond rfl (fun c1 => ?_) (fun c1 => ?_)
 ·replace h := iteT h c1
  refine Ev.seq ?_
  refine W.reg hm ?_
  refine W.mv rfl (W.nil ?_)
  refine Ev.ret ?_
  injection h with h; subst h
  exact ⟨_, rfl, .refl _⟩
 ·replace h := iteF h c1
  refine Ev.skip ?_
  refine Ev.seq (Ev.seq ?_)
  refine W.reg hm ?_
  refine W.mv rfl (W.nil ?_)
  refine Ev.block ?_
  refine Ev.loopW (β := Nat × Int) (fun v => ⟨[(0, .list 3 (List.map SInputsOpsOutput.cells a0)), (1, .list 3 (List.map SInputsOpsOutput.cells a1)), (5, .int .i64 v.2)], [], 2⟩) (fun v => ref6_SameActions_l1 n a0 a1 v.1 v.2 = some r) (fun v => v.1) (n, 0) (Wk.nrmTo [0, 1, 5] [] rfl rfl) h ?_
  intro ⟨m1, x1⟩ h
  try dsimp only at h ⊢
  cases m1 with
  | zero => rw [ref6_SameActions_l1] at h; cases h
  | succ m1 =>
   rw [ref6_SameActions_l1] at h
   refine Ev.seq (Ev.seq ?_)
   refine W.reg hm ?_
   refine W.mv rfl (W.mv rfl ?_)
   refine W.lenL (c := SInputsOpsOutput.cells) rfl ?_
   refine W.lss rfl rfl (W.nil ?_)
   refine Ev.cond rfl (fun c2 => ?_) (fun c2 => ?_)
   ·replace h := iteT h c2
    refine Ev.skip ?_
    refine Ev.seq ?_
    refine Ev.block ?_
    refine Ev.seq ?_
    refine Ev.seqJ (γ := Bool) (fun v => ⟨[(0, .list 3 (List.map SInputsOpsOutput.cells a0)), (1, .list 3 (List.map SInputsOpsOutput.cells a1)), (5, .int .i64 x1), (57, .bool v)], [], 2⟩) (fun v => ref6_SameActions_j1 n a0 a1 x1 (ref6_SameActions_l1 n a0 a1 m1) v = some r) ?_ ?_
    ·refine W.regD hm ?_
     refine W.mv rfl (W.mv rfl ?_)
     obtain ⟨e10, k12, h⟩ := obind h
     refine W.idxL (c := SInputsOpsOutput.cells) rfl rfl k12 ?_
     refine W.fieldAddr rfl (W.load rfl rfl ?_)
     refine W.mv rfl (W.mv rfl ?_)
     obtain ⟨e11, k13, h⟩ := obind h
     refine W.idxL (c := SInputsOpsOutput.cells) rfl rfl k13 ?_
     refine W.fieldAddr rfl (W.load rfl rfl ?_)
     refine W.sneq rfl rfl (W.mv rfl ?_)
     refine W.split 29 rfl (fun c14 => ?_) (fun c14 => ?_)
     ·replace h := iteT h c14
      refine W.guardF2 rfl c14 ?_
      refine W.guardF2 rfl c14 ?_
      refine W.guardF2 rfl c14 ?_
      refine W.guardF2 rfl c14 ?_
      refine W.guardF2 rfl c14 ?_
      refine W.guardF2 rfl c14 ?_
      refine W.guardF2 rfl c14 ?_
      refine W.guardF2 rfl c14 ?_
      refine W.guardF2 rfl c14 ?_
      refine W.guardF2 rfl c14 ?_
      refine W.guardF2 rfl c14 ?_
      refine W.guardF2 rfl c14 ?_
      refine W.pickT rfl rfl rfl c14 ?_
      refine W.mv rfl (W.guardF2 rfl rfl ?_)
      refine W.guardF2 rfl rfl (W.guardF2 rfl rfl ?_)
      refine W.guardF2 rfl rfl (W.guardF2 rfl rfl ?_)
      refine W.guardF2 rfl rfl (W.guardF2 rfl rfl ?_)
      refine W.guardF2 rfl rfl (W.guardF2 rfl rfl ?_)
      refine W.guardF2 rfl rfl (W.guardF2 rfl rfl ?_)
      refine W.guardF2 rfl rfl (W.guardF2 rfl rfl ?_)
      refine W.pickT rfl rfl rfl rfl ?_
      refine W.nil ⟨rfl, ?_⟩
      exact ⟨true, h, Wk.nrmTo [0, 1, 5, 57] [] rfl rfl⟩
     ·replace h := iteF h c14
      refine W.guardT rfl c14 ?_
      refine W.mv rfl ?_
      refine W.guardT rfl c14 ?_
      refine W.mv rfl ?_
      refine W.guardT rfl c14 ?_
      refine W.idxL (c := SInputsOpsOutput.cells) rfl rfl k12 ?_
      refine W.guardT rfl c14 ?_
      refine W.fieldAddr rfl ?_
      refine W.guardT rfl c14 ?_
      refine W.load rfl rfl ?_
      refine W.guardT rfl c14 ?_
      refine W.mv rfl ?_
      refine W.guardT rfl c14 ?_
      refine W.mv rfl ?_
      refine W.guardT rfl c14 ?_
      refine W.idxL (c := SInputsOpsOutput.cells) rfl rfl k13 ?_
      refine W.guardT rfl c14 ?_
      refine W.fieldAddr rfl ?_
      refine W.guardT rfl c14 ?_
      refine W.load rfl rfl ?_
      refine W.guardT rfl c14 ?_
      obtain ⟨r12, k15, h⟩ := obind h
      refine W.call (ref6_Strings_spec n e10.Inputs e11.Inputs r12 k15) rfl rfl (Les.refl _) rfl (.inl rfl) rfl ?_
      refine W.guardT rfl c14 ?_
      refine W.not rfl ?_
      refine W.pickN rfl rfl rfl c14 ?_
      refine W.mv rfl ?_
      refine W.split 43 rfl (fun c16 => ?_) (fun c16 => ?_)
      ·replace h := iteT h c16
       refine W.guardF2 rfl c16 ?_
       refine W.guardF2 rfl c16 ?_
       refine W.guardF2 rfl c16 ?_
       refine W.guardF2 rfl c16 ?_
       refine W.guardF2 rfl c16 ?_
       refine W.guardF2 rfl c16 ?_
       refine W.guardF2 rfl c16 ?_
       refine W.guardF2 rfl c16 ?_
       refine W.guardF2 rfl c16 ?_
       refine W.guardF2 rfl c16 ?_
       refine W.guardF2 rfl c16 ?_
       refine W.guardF2 rfl c16 ?_
       refine W.guardF2 rfl c16 ?_
       refine W.pickT rfl rfl rfl c16 ?_
       refine W.nil ⟨rfl, ?_⟩
       exact ⟨true, h, Wk.nrmTo [0, 1, 5, 57] [] rfl rfl⟩
      ·replace h := iteF h c16
       refine W.guardT rfl c16 ?_
       refine W.mv rfl ?_
       refine W.guardT rfl c16 ?_
       refine W.mv rfl ?_
       refine W.guardT rfl c16 ?_
       refine W.idxL (c := SInputsOpsOutput.cells) rfl rfl k12 ?_
       refine W.guardT rfl c16 ?_
       refine W.fieldAddr rfl ?_
       refine W.guardT rfl c16 ?_
       refine W.load rfl rfl ?_
       refine W.guardT rfl c16 ?_
       refine W.lenL (c := SKindText.cells) rfl ?_
       refine W.guardT rfl c16 ?_
       refine W.mv rfl ?_
       refine W.guardT rfl c16 ?_
       refine W.mv rfl ?_
       refine W.guardT rfl c16 ?_
       refine W.idxL (c := SInputsOpsOutput.cells) rfl rfl k13 ?_
       refine W.guardT rfl c16 ?_
       refine W.fieldAddr rfl ?_
       refine W.guardT rfl c16 ?_
       refine W.load rfl rfl ?_
       refine W.guardT rfl c16 ?_
       refine W.lenL (c := SKindText.cells) rfl ?_
       refine W.guardT rfl c16 ?_
       refine W.neq rfl rfl ?_
       refine W.pickN rfl rfl rfl c16 ?_
       refine W.nil ⟨rfl, ?_⟩
       exact ⟨(decide ((e10.Ops.length : Int) ≠ (e11.Ops.length : Int))), h, Wk.nrmTo [0, 1, 5, 57] [] rfl rfl⟩
    ·intro x2 h
     try dsimp only at h ⊢
     unfold ref6_SameActions_j1 at h
     refine Ev.cond rfl (fun c3 => ?_) (fun c3 => ?_)
     ·replace h := iteT h c3
      refine Ev.seq ?_
      refine W.reg hm ?_
      refine W.mv rfl (W.nil ?_)
      refine Ev.ret ?_
      injection h with h; subst h
      exact ⟨_, rfl, .refl _⟩
     ·replace h := iteF h c3
      refine Ev.skip ?_
      refine Ev.seq ?_
      refine W.reg hm ?_
      refine W.mv rfl (W.nil ?_)
      refine Ev.block ?_
      refine Ev.loopW (β := Nat × Int) (fun v => ⟨[(0, .list 3 (List.map SInputsOpsOutput.cells a0)), (1, .list 3 (List.map SInputsOpsOutput.cells a1)), (5, .int .i64 x1), (6, .int .i64 v.2)], [], 2⟩) (fun v => ref6_SameActions_l2 n a0 a1 x1 (ref6_SameActions_l1 n a0 a1 m1) v.1 v.2 = some r) (fun v => v.1) (n, 0) (Wk.nrmTo [0, 1, 5, 6] [] rfl rfl) h ?_
      intro ⟨m2, x3⟩ h
      try dsimp only at h ⊢
      cases m2 with
      | zero => rw [ref6_SameActions_l2] at h; cases h
      | succ m2 =>
       rw [ref6_SameActions_l2] at h
       refine Ev.seq (Ev.seq ?_)
       refine W.reg hm ?_
       refine W.mv rfl (W.mv rfl ?_)
       refine W.mv rfl ?_
       obtain ⟨e4, k4, h⟩ := obind h
       refine W.idxL (c := SInputsOpsOutput.cells) rfl rfl k4 ?_
       refine W.fieldAddr rfl (W.load rfl rfl ?_)
       refine W.lenL (c := SKindText.cells) rfl ?_
       refine W.lss rfl rfl (W.nil ?_)
       refine Ev.cond rfl (fun c5 => ?_) (fun c5 => ?_)
       ·replace h := iteT h c5
        refine Ev.skip ?_
        refine Ev.seq ?_
        refine Ev.block ?_
        refine Ev.seq ?_
        refine W.regD hm ?_
        refine W.mv rfl (W.mv rfl ?_)
        refine W.idxL (c := SInputsOpsOutput.cells) rfl rfl k4 ?_
        refine W.fieldAddr rfl (W.load rfl rfl ?_)
        refine W.mv rfl ?_
        obtain ⟨e5, k6, h⟩ := obind h
        refine W.idxL (c := SKindText.cells) rfl rfl k6 ?_
        refine W.load rfl rfl (W.mv rfl ?_)
        refine W.mv rfl ?_
        obtain ⟨e6, k7, h⟩ := obind h
        refine W.idxL (c := SInputsOpsOutput.cells) rfl rfl k7 ?_
        refine W.fieldAddr rfl (W.load rfl rfl ?_)
        refine W.mv rfl ?_
        obtain ⟨e7, k8, h⟩ := obind h
        refine W.idxL (c := SKindText.cells) rfl rfl k8 ?_
        refine W.load rfl rfl (W.eqs rfl rfl rfl ?_)
        refine W.nil ⟨rfl, ?_⟩
        refine Ev.cond rfl (fun c9 => ?_) (fun c9 => ?_)
        ·replace h := iteT h c9
         refine Ev.seq ?_
         refine W.reg hm ?_
         refine W.mv rfl (W.nil ?_)
         refine Ev.ret ?_
         injection h with h; subst h
         exact ⟨_, rfl, .refl _⟩
        ·replace h := iteF h c9
         refine Ev.skip ?_
         refine W.reg hm ?_
         refine W.mv rfl ?_
         obtain ⟨x8, k10, h⟩ := obind h
         refine W.addG rfl rfl k10 ?_
         refine W.mv rfl (W.nil ?_)
         exact ⟨(m2, x8), h, Nat.lt_succ_self _, Wk.nrmTo [0, 1, 5, 6] [] rfl rfl⟩
       ·replace h := iteF h c5
        refine Ev.exit ?_
        refine W.reg hm ?_
        refine W.mv rfl ?_
        obtain ⟨x9, k11, h⟩ := obind h
        refine W.addG rfl rfl k11 ?_
        refine W.mv rfl (W.nil ?_)
        exact ⟨(m1, x9), h, Nat.lt_succ_self _, Wk.nrmTo [0, 1, 5] [] rfl rfl⟩
   ·replace h := iteF h c2
    refine Ev.exit ?_
    refine Ev.seq ?_
    refine W.reg hm ?_
    refine W.mv rfl (W.nil ?_)
    refine Ev.ret ?_
    injection h with h; subst h
    exact ⟨_, rfl, .refl _⟩
end Go.Proofs.YtlkknmhhefjmjaaDoor
