/- The functions compute what the texts of D say. Laid by a program (wip/gen/dec.py). -/
import Derived.Test.YtlkknmhhefjmjaaDoorD
import Derived.Test.YtlkknmhhefjmjaaDoorW6
namespace Go.Proofs.YtlkknmhhefjmjaaDoor
open Go.PW Go
set_option maxHeartbeats 4000000 in
theorem law6_ActioncacheHitsEqualRecomputation_spec (n : Nat) (a0 : List SInputsOpsOutput) (a1 : SInputsOpsOutput) (a2 : SFiles) (r : Bool) (h : law6_ActioncacheHitsEqualRecomputation n a0 a1 a2 = some r) : PSpec Tryd.prog 6 [.list 3 (List.map SInputsOpsOutput.cells a0), .agg (SInputsOpsOutput.cells a1), .agg (SFiles.cells a2)] (.bool r) := by
 unfold law6_ActioncacheHitsEqualRecomputation at h
 refine spec_of Tryd.c_law6_ActioncacheHitsEqualRecomputation (by simp) ?_
 unfold Tryd.l_law6_ActioncacheHitsEqualRecomputation
 refine Ev.seq ?_
 refine W.reg hm ?_
 refine W.box (dt := true) (cs := [.list 1 (List.map cS a1.Inputs), .list 2 (List.map SKindText.cells a1.Ops), .str a1.Output]) rfl rfl rfl rfl rfl rfl ?_
 refine W.box (dt := true) (cs := [.list 2 (List.map SPathLines.cells a2.Files)]) rfl rfl rfl rfl rfl rfl ?_
 refine W.mv rfl (W.nil ?_)
 refine Ev.seq (Ev.seq ?_)
 refine W.reg hm ?_
 obtain ⟨r1, k1, h⟩ := obind h
 refine W.call (law6_caches_spec n r1 k1) rfl rfl (Les.refl _) rfl (.inl rfl) rfl ?_
 refine W.not rfl (W.nil ?_)
 refine Ev.cond rfl (fun c2 => ?_) (fun c2 => ?_)
 ·replace h := iteT h c2
  refine Ev.seq ?_
  refine W.reg hm ?_
  refine W.mv rfl (W.nil ?_)
  refine Ev.ret ?_
  injection h with h; subst h
  exact ⟨_, rfl, .refl _⟩
 ·replace h := iteF h c2
  refine Ev.skip ?_
  refine Ev.seq (Ev.seq ?_)
  refine W.reg hm ?_
  refine W.mv rfl ?_
  refine W.lenL (c := SInputsOpsOutput.cells) rfl ?_
  refine W.gtr rfl rfl (W.nil ?_)
  refine Ev.cond rfl (fun c3 => ?_) (fun c3 => ?_)
  ·replace h := iteT h c3
   refine Ev.seq ?_
   refine W.reg hm ?_
   refine W.mv rfl (W.nil ?_)
   refine Ev.ret ?_
   injection h with h; subst h
   exact ⟨_, rfl, .refl _⟩
  ·replace h := iteF h c3
   refine Ev.skip ?_
   refine Ev.seq ?_
   refine W.reg hm ?_
   refine W.loadO (p := .agg [.list 1 (List.map cS a1.Inputs), .list 2 (List.map SKindText.cells a1.Ops), .str a1.Output]) rfl rfl rfl rfl ?_
   refine W.loadO (p := .agg [.list 2 (List.map SPathLines.cells a2.Files)]) rfl rfl rfl rfl ?_
   obtain ⟨r2, k4, h⟩ := obind h
   refine W.call (actioncache_Key_spec n a1 a2 r2 k4) rfl rfl (Les.refl _) rfl (.inl rfl) rfl ?_
   refine W.mv rfl (W.extract rfl rfl ?_)
   refine W.extract rfl rfl ?_
   refine W.alloc (dt := true) rfl rfl rfl ?_
   refine W.mv rfl ?_
   refine W.store (es' := [[.int .i64 r2.2.Code, .int .i64 r2.2.Index]]) (dt := true) rfl rfl rfl rfl rfl (Nat.le_of_ble_eq_true rfl) rfl rfl rfl rfl ?_
   refine W.nil ?_
   refine Ev.seq (Ev.seq ?_)
   refine W.reg hm ?_
   refine W.fieldAddrO rfl rfl ?_
   refine W.loadO (p := .int .i64 r2.2.Code) rfl rfl rfl rfl ?_
   refine W.neq rfl rfl (W.nil ?_)
   refine Ev.cond rfl (fun c5 => ?_) (fun c5 => ?_)
   ·replace h := iteT h c5
    refine Ev.seq ?_
    refine W.reg hm ?_
    refine W.mv rfl (W.eql rfl rfl ?_)
    refine W.mv rfl (W.nil ?_)
    refine Ev.ret ?_
    injection h with h; subst h
    exact ⟨_, rfl, .refl _⟩
   ·replace h := iteF h c5
    refine Ev.skip ?_
    refine Ev.seq ?_
    refine W.reg hm ?_
    refine W.mv rfl (W.nil ?_)
    refine Ev.seq (Ev.seq ?_)
    refine W.reg hm ?_
    refine W.mv rfl (W.nil ?_)
    refine Ev.block ?_
    refine Ev.loopW (β := Nat × (List SKeyLines) × Int) (fun v => ⟨[(0, .list 3 (List.map SInputsOpsOutput.cells a0)), (4, .pown 10100 0 0 0), (5, .pown 10101 0 0 0), (7, .int .i64 r2.1), (9, .list 2 (List.map SKeyLines.cells v.2.1)), (10, .int .i64 v.2.2)], [(10100, ⟨0, 43, 3, [[.list 1 (List.map cS a1.Inputs), .list 2 (List.map SKindText.cells a1.Ops), .str a1.Output]], true, false, false⟩), (10101, ⟨0, 46, 1, [[.list 2 (List.map SPathLines.cells a2.Files)]], true, false, false⟩)], 2⟩) (fun v => law6_ActioncacheHitsEqualRecomputation_l1 n a0 a1 a2 r2 v.1 v.2.1 v.2.2 = some r) (fun v => v.1) (n, ([] : List SKeyLines), 0) ((Wk.le (t := 9) rfl (.nils 2)).trans (Wk.nrmTo [0, 4, 5, 7, 9, 10] [(4, 10100), (5, 10101)] rfl rfl)) h ?_
    intro ⟨m1, x3, x4⟩ h
    try dsimp only at h ⊢
    cases m1 with
    | zero => rw [law6_ActioncacheHitsEqualRecomputation_l1] at h; cases h
    | succ m1 =>
     rw [law6_ActioncacheHitsEqualRecomputation_l1] at h
     refine Ev.seq (Ev.seq ?_)
     refine W.reg hm ?_
     refine W.mv rfl (W.mv rfl ?_)
     refine W.lenL (c := SInputsOpsOutput.cells) rfl ?_
     refine W.lss rfl rfl (W.nil ?_)
     refine Ev.cond rfl (fun c6 => ?_) (fun c6 => ?_)
     ·replace h := iteT h c6
      refine Ev.skip ?_
      refine Ev.seqJ (γ := List SKeyLines) (fun v => ⟨[(0, .list 3 (List.map SInputsOpsOutput.cells a0)), (4, .pown 10200 0 0 0), (5, .pown 10201 0 0 0), (7, .int .i64 r2.1), (9, .list 2 (List.map SKeyLines.cells v)), (10, .int .i64 x4)], [(10200, ⟨0, 43, 3, [[.list 1 (List.map cS a1.Inputs), .list 2 (List.map SKindText.cells a1.Ops), .str a1.Output]], true, false, false⟩), (10201, ⟨0, 46, 1, [[.list 2 (List.map SPathLines.cells a2.Files)]], true, false, false⟩)], 2⟩) (fun v => law6_ActioncacheHitsEqualRecomputation_j1 n x4 (law6_ActioncacheHitsEqualRecomputation_l1 n a0 a1 a2 r2 m1) v = some r) ?_ ?_
      ·refine Ev.block ?_
       refine Ev.seq ?_
       refine W.regD hm ?_
       refine W.mv rfl (W.mv rfl ?_)
       obtain ⟨e7, k8, h⟩ := obind h
       refine W.idxL (c := SInputsOpsOutput.cells) rfl rfl k8 ?_
       refine W.load rfl rfl ?_
       refine W.loadO (p := .agg [.list 2 (List.map SPathLines.cells a2.Files)]) rfl rfl rfl rfl ?_
       obtain ⟨r8, k9, h⟩ := obind h
       refine W.call (actioncache_Key_spec n e7 a2 r8 k9) rfl rfl (Les.refl _) rfl (.inl rfl) rfl ?_
       refine W.mv rfl (W.extract rfl rfl ?_)
       refine W.extract rfl rfl ?_
       refine W.alloc (dt := true) rfl rfl rfl ?_
       refine W.mv rfl ?_
       refine W.store (es' := [[.int .i64 r8.2.Code, .int .i64 r8.2.Index]]) (dt := true) rfl rfl rfl rfl rfl (Nat.le_of_ble_eq_true rfl) rfl rfl rfl rfl ?_
       refine W.nil ⟨rfl, ?_⟩
       refine Ev.seq ?_
       refine Ev.seqJ (γ := Bool) (fun v => ⟨[(0, .list 3 (List.map SInputsOpsOutput.cells a0)), (4, .pown 10300 0 0 0), (5, .pown 10301 0 0 0), (7, .int .i64 r2.1), (9, .list 2 (List.map SKeyLines.cells x3)), (10, .int .i64 x4), (75, .bool v)], [(10300, ⟨0, 43, 3, [[.list 1 (List.map cS a1.Inputs), .list 2 (List.map SKindText.cells a1.Ops), .str a1.Output]], true, false, false⟩), (10301, ⟨0, 46, 1, [[.list 2 (List.map SPathLines.cells a2.Files)]], true, false, false⟩)], 2⟩) (fun v => law6_ActioncacheHitsEqualRecomputation_j2 n a2 x3 x4 (law6_ActioncacheHitsEqualRecomputation_l1 n a0 a1 a2 r2 m1) e7 v = some r) ?_ ?_
       ·refine W.regD hm ?_
        refine W.fieldAddrO rfl rfl ?_
        refine W.loadO (p := .int .i64 r8.2.Code) rfl rfl rfl rfl ?_
        refine W.neq rfl rfl (W.mv rfl ?_)
        refine W.split 60 rfl (fun c13 => ?_) (fun c13 => ?_)
        ·replace h := iteT h c13
         refine W.guardF2 rfl c13 ?_
         refine W.guardF2 rfl c13 ?_
         refine W.guardF2 rfl c13 ?_
         refine W.guardF2 rfl c13 ?_
         refine W.guardU rfl (W.guardU rfl ?_)
         refine W.guardU rfl (W.guardU rfl ?_)
         refine W.guardU rfl (W.guardU rfl ?_)
         refine W.guardU rfl (W.guardU rfl ?_)
         refine W.guardU rfl ?_
         refine W.guardF2 rfl c13 ?_
         refine W.pickT rfl rfl rfl c13 ?_
         refine W.nil ⟨rfl, ?_⟩
         exact ⟨true, h, Wk.nrmTo [0, 4, 5, 7, 9, 10, 75] [(10100, 10300), (10101, 10301)] rfl rfl⟩
        ·replace h := iteF h c13
         refine W.guardT rfl c13 ?_
         refine W.mv rfl ?_
         refine W.guardT rfl c13 ?_
         refine W.mv rfl ?_
         refine W.guardT rfl c13 ?_
         refine W.eql rfl rfl ?_
         refine W.guardT rfl c13 ?_
         refine W.mv rfl ?_
         refine W.split 64 rfl (fun c14 => ?_) (fun c14 => ?_)
         ·replace h := iteT h c14
          refine W.guardT rfl c14 ?_
          refine W.mv rfl ?_
          refine W.guardT rfl c14 ?_
          refine W.mv rfl ?_
          refine W.guardT rfl c14 ?_
          refine W.mv rfl ?_
          refine W.guardT rfl c14 ?_
          obtain ⟨x11, k15, h⟩ := obind h
          refine W.addG rfl rfl k15 ?_
          refine W.guardT rfl c14 ?_
          obtain ⟨s12, k16, h⟩ := obind h
          refine W.sliceL (c := SInputsOpsOutput.cells) rfl k16 (ix2 (gcut_some k16).1 (gcut_some k16).2.2.2.1) ?_
          refine W.guardT rfl c14 ?_
          refine W.loadO (p := .agg [.list 1 (List.map cS a1.Inputs), .list 2 (List.map SKindText.cells a1.Ops), .str a1.Output]) rfl rfl rfl rfl ?_
          refine W.guardT rfl c14 ?_
          refine W.mkSlice (dt := true) (es := [[.list 1 (List.map cS a1.Inputs), .list 2 (List.map SKindText.cells a1.Ops), .str a1.Output]]) rfl rfl rfl rfl rfl rfl ?_
          refine W.guardT rfl c14 ?_
          obtain ⟨r13, k17, h⟩ := obind h
          refine W.call (ref6_SameActions_spec n s12 ([a1] : List SInputsOpsOutput) r13 k17) rfl rfl (Les.refl _) rfl (.inr rfl) rfl ?_
          refine W.guardT rfl c14 ?_
          refine W.not rfl ?_
          refine W.guardT rfl c13 ?_
          refine W.pickT rfl rfl rfl c14 ?_
          refine W.pickN rfl rfl rfl c13 ?_
          refine W.nil ⟨rfl, ?_⟩
          exact ⟨(!r13), h, Wk.nrmTo [0, 4, 5, 7, 9, 10, 75] [(10100, 10300), (10101, 10301)] rfl rfl⟩
         ·replace h := iteF h c14
          refine W.guardF1 rfl c14 ?_
          refine W.guardF1 rfl c14 ?_
          refine W.guardF1 rfl c14 ?_
          refine W.guardF1 rfl c14 ?_
          refine W.guardF1 rfl c14 ?_
          refine W.guardF1 rfl c14 ?_
          refine W.guardF1 rfl c14 ?_
          refine W.guardF1 rfl c14 ?_
          refine W.guardF1 rfl c14 ?_
          refine W.guardT rfl c13 ?_
          refine W.pickN rfl rfl rfl c14 ?_
          refine W.pickN rfl rfl rfl c13 ?_
          refine W.nil ⟨rfl, ?_⟩
          exact ⟨false, h, Wk.nrmTo [0, 4, 5, 7, 9, 10, 75] [(10100, 10300), (10101, 10301)] rfl rfl⟩
       ·intro x9 h
        try dsimp only at h ⊢
        unfold law6_ActioncacheHitsEqualRecomputation_j2 at h
        refine Ev.cond rfl (fun c10 => ?_) (fun c10 => ?_)
        ·replace h := iteT h c10
         refine Ev.exit ?_
         exact ⟨x3, h, Wk.nrmTo [0, 4, 5, 7, 9, 10] [(10300, 10200), (10301, 10201)] rfl rfl⟩
        ·replace h := iteF h c10
         refine Ev.skip ?_
         refine Ev.seq ?_
         refine W.regD hm ?_
         refine W.mv rfl (W.mv rfl ?_)
         refine W.mv rfl ?_
         refine W.idxL (c := SInputsOpsOutput.cells) rfl rfl k8 ?_
         refine W.load rfl rfl ?_
         refine W.loadO (p := .agg [.list 2 (List.map SPathLines.cells a2.Files)]) rfl rfl rfl rfl ?_
         obtain ⟨r10, k11, h⟩ := obind h
         refine W.call (actioncache_Run_spec n x3 e7 a2 r10 k11) rfl rfl (Les.refl _) rfl (.inl rfl) rfl ?_
         refine W.mv rfl (W.extract rfl rfl ?_)
         refine W.extract rfl rfl (W.extract rfl rfl ?_)
         refine W.extract rfl rfl ?_
         refine W.alloc (dt := true) rfl rfl rfl ?_
         refine W.mv rfl (W.mv rfl ?_)
         refine W.mv rfl ?_
         refine W.store (es' := [[.int .i64 r10.2.2.2.Code, .int .i64 r10.2.2.2.Index]]) (dt := true) rfl rfl rfl rfl rfl (Nat.le_of_ble_eq_true rfl) rfl rfl rfl rfl ?_
         refine W.nil ⟨rfl, ?_⟩
         refine Ev.seq ?_
         refine W.reg hm ?_
         refine W.fieldAddrO rfl rfl ?_
         refine W.loadO (p := .int .i64 r10.2.2.2.Code) rfl rfl rfl rfl ?_
         refine W.eql rfl rfl (W.nil ?_)
         refine Ev.cond rfl (fun c12 => ?_) (fun c12 => ?_)
         ·replace h := iteT h c12
          refine W.reg hm ?_
          refine W.mv rfl (W.mv rfl ?_)
          refine W.nil ?_
          exact ⟨r10.2.1, h, Wk.nrmTo [0, 4, 5, 7, 9, 10] [(10300, 10200), (10301, 10201)] rfl rfl⟩
         ·replace h := iteF h c12
          refine Ev.skip ?_
          exact ⟨x3, h, Wk.nrmTo [0, 4, 5, 7, 9, 10] [(10300, 10200), (10301, 10201)] rfl rfl⟩
      ·intro x5 h
       try dsimp only at h ⊢
       unfold law6_ActioncacheHitsEqualRecomputation_j1 at h
       refine W.reg hm ?_
       refine W.mv rfl ?_
       obtain ⟨x6, k7, h⟩ := obind h
       refine W.addG rfl rfl k7 ?_
       refine W.mv rfl (W.nil ?_)
       exact ⟨(m1, x5, x6), h, Nat.lt_succ_self _, Wk.nrmTo [0, 4, 5, 7, 9, 10] [(10200, 10100), (10201, 10101)] rfl rfl⟩
     ·replace h := iteF h c6
      refine Ev.exit ?_
      refine Ev.seq ?_
      refine W.reg hm ?_
      refine W.loadO (p := .agg [.list 1 (List.map cS a1.Inputs), .list 2 (List.map SKindText.cells a1.Ops), .str a1.Output]) rfl rfl rfl rfl ?_
      refine W.loadO (p := .agg [.list 2 (List.map SPathLines.cells a2.Files)]) rfl rfl rfl rfl ?_
      obtain ⟨r14, k18, h⟩ := obind h
      refine W.callOT (res' := .tup [.own 95 2, .agg [.int .i64 r14.2.Code, .int .i64 r14.2.Index]]) (sandbox_Run_spec n a1 a2 r14 k18) rfl (Les.refl _) rfl rfl rfl rfl rfl ?_
      refine W.mv rfl (W.extract rfl rfl ?_)
      refine W.extract rfl rfl ?_
      refine W.alloc (dt := true) rfl rfl rfl ?_
      refine W.mv rfl ?_
      refine W.store (es' := [[.int .i64 r14.2.Code, .int .i64 r14.2.Index]]) (dt := true) rfl rfl rfl rfl rfl (Nat.le_of_ble_eq_true rfl) rfl rfl rfl rfl ?_
      refine W.nil ?_
      refine Ev.seq ?_
      refine W.reg hm ?_
      refine W.mv rfl ?_
      refine W.loadO (p := .agg [.list 1 (List.map cS a1.Inputs), .list 2 (List.map SKindText.cells a1.Ops), .str a1.Output]) rfl rfl rfl rfl ?_
      refine W.loadO (p := .agg [.list 2 (List.map SPathLines.cells a2.Files)]) rfl rfl rfl rfl ?_
      obtain ⟨r15, k19, h⟩ := obind h
      refine W.call (actioncache_Run_spec n x3 a1 a2 r15 k19) rfl rfl (Les.refl _) rfl (.inl rfl) rfl ?_
      refine W.mv rfl (W.extract rfl rfl ?_)
      refine W.extract rfl rfl (W.extract rfl rfl ?_)
      refine W.extract rfl rfl ?_
      refine W.alloc (dt := true) rfl rfl rfl ?_
      refine W.mv rfl (W.mv rfl ?_)
      refine W.mv rfl ?_
      refine W.store (es' := [[.int .i64 r15.2.2.2.Code, .int .i64 r15.2.2.2.Index]]) (dt := true) rfl rfl rfl rfl rfl (Nat.le_of_ble_eq_true rfl) rfl rfl rfl rfl ?_
      refine W.nil ?_
      refine Ev.seq (Ev.seq ?_)
      refine W.reg hm ?_
      refine W.fieldAddrO rfl rfl ?_
      refine W.loadO (p := .int .i64 r14.2.Code) rfl rfl rfl rfl ?_
      refine W.neq rfl rfl (W.nil ?_)
      refine Ev.cond rfl (fun c20 => ?_) (fun c20 => ?_)
      ·replace h := iteT h c20
       refine Ev.seqJ (γ := Bool) (fun v => ⟨[(6, .bool v)], [], 2⟩) (fun v => law6_ActioncacheHitsEqualRecomputation_j3 n v = some r) ?_ ?_
       ·refine W.reg hm ?_
        refine W.loadO (p := .agg [.int .i64 r15.2.2.2.Code, .int .i64 r15.2.2.2.Index]) rfl rfl rfl rfl ?_
        refine W.loadO (p := .agg [.int .i64 r14.2.Code, .int .i64 r14.2.Index]) rfl rfl rfl rfl ?_
        refine W.eqs rfl rfl rfl (W.mv rfl ?_)
        refine W.split 113 rfl (fun c21 => ?_) (fun c21 => ?_)
        ·replace h := iteT h c21
         refine W.guardT rfl c21 ?_
         refine W.mv rfl ?_
         refine W.guardT rfl c21 ?_
         refine W.not rfl ?_
         refine W.pickT rfl rfl rfl c21 ?_
         refine W.mv rfl ?_
         refine W.split 117 rfl (fun c22 => ?_) (fun c22 => ?_)
         ·replace h := iteT h c22
          refine W.guardT rfl c22 ?_
          refine W.mv rfl ?_
          refine W.guardT rfl c22 ?_
          refine W.lenL (c := cS) rfl ?_
          refine W.guardT rfl c22 ?_
          refine W.eql rfl rfl ?_
          refine W.pickT rfl rfl rfl c22 ?_
          refine W.mv rfl (W.nil ?_)
          exact ⟨(decide ((r15.1.length : Int) = 0)), h, Wk.nrmTo [6] [] rfl rfl⟩
         ·replace h := iteF h c22
          refine W.guardF1 rfl c22 ?_
          refine W.guardF1 rfl c22 ?_
          refine W.guardF1 rfl c22 ?_
          refine W.pickN rfl rfl rfl c22 ?_
          refine W.mv rfl (W.nil ?_)
          exact ⟨false, h, Wk.nrmTo [6] [] rfl rfl⟩
        ·replace h := iteF h c21
         refine W.guardF1 rfl c21 ?_
         refine W.guardF1 rfl c21 ?_
         refine W.pickN rfl rfl rfl c21 ?_
         refine W.mv rfl (W.guardF1 rfl rfl ?_)
         refine W.guardF1 rfl rfl (W.guardF1 rfl rfl ?_)
         refine W.pickN rfl rfl rfl rfl (W.mv rfl ?_)
         refine W.nil ?_
         exact ⟨false, h, Wk.nrmTo [6] [] rfl rfl⟩
       ·intro x16 h
        try dsimp only at h ⊢
        unfold law6_ActioncacheHitsEqualRecomputation_j3 at h
        refine Ev.ret ?_
        injection h with h; subst h
        exact ⟨_, rfl, .refl _⟩
      ·replace h := iteF h c20
       refine Ev.skip ?_
       refine Ev.seq ?_
       refine W.reg hm ?_
       refine W.mv rfl (W.mv rfl ?_)
       obtain ⟨r17, k23, h⟩ := obind h
       refine W.call (actioncache_Lookup_spec n r15.2.1 r2.1 r17 k23) rfl rfl (Les.refl _) rfl (.inl rfl) rfl ?_
       refine W.mv rfl (W.extract rfl rfl ?_)
       refine W.extract rfl rfl (W.extract rfl rfl ?_)
       refine W.alloc (dt := true) rfl rfl rfl ?_
       refine W.mv rfl (W.mv rfl ?_)
       refine W.store (es' := [[.int .i64 r17.2.2.Code, .int .i64 r17.2.2.Index]]) (dt := true) rfl rfl rfl rfl rfl (Nat.le_of_ble_eq_true rfl) rfl rfl rfl rfl ?_
       refine W.nil ?_
       refine Ev.seqJ (γ := Bool) (fun v => ⟨[(6, .bool v)], [], 2⟩) (fun v => law6_ActioncacheHitsEqualRecomputation_j4 n v = some r) ?_ ?_
       ·refine W.reg hm ?_
        refine W.fieldAddrO rfl rfl ?_
        refine W.loadO (p := .int .i64 r15.2.2.2.Code) rfl rfl rfl rfl ?_
        refine W.eql rfl rfl (W.mv rfl ?_)
        refine W.split 132 rfl (fun c24 => ?_) (fun c24 => ?_)
        ·replace h := iteT h c24
         refine W.guardT rfl c24 ?_
         refine W.fieldAddrO rfl rfl ?_
         refine W.guardT rfl c24 ?_
         refine W.loadO (p := .int .i64 r17.2.2.Code) rfl rfl rfl rfl ?_
         refine W.guardT rfl c24 ?_
         refine W.eql rfl rfl ?_
         refine W.pickT rfl rfl rfl c24 ?_
         refine W.mv rfl ?_
         refine W.split 137 rfl (fun c25 => ?_) (fun c25 => ?_)
         ·replace h := iteT h c25
          refine W.guardT rfl c25 ?_
          refine W.mv rfl ?_
          refine W.guardT rfl c25 ?_
          refine W.mv rfl ?_
          refine W.guardT rfl c25 ?_
          obtain ⟨r19, k26, h⟩ := obind h
          refine W.call (ref6_Strings_spec n r14.1 r15.1 r19 k26) rfl rfl (Les.refl _) rfl (.inr rfl) rfl ?_
          refine W.pickT rfl rfl rfl c25 ?_
          refine W.mv rfl ?_
          refine W.split 142 rfl (fun c27 => ?_) (fun c27 => ?_)
          ·replace h := iteT h c27
           refine W.guardT rfl c27 ?_
           refine W.mv rfl ?_
           refine W.guardT rfl c27 ?_
           refine W.mv rfl ?_
           refine W.split 144 rfl (fun c28 => ?_) (fun c28 => ?_)
           ·replace h := iteT h c28
            refine W.guardT rfl c28 ?_
            refine W.mv rfl ?_
            refine W.guardT rfl c28 ?_
            refine W.mv rfl ?_
            refine W.guardT rfl c28 ?_
            obtain ⟨r20, k29, h⟩ := obind h
            refine W.call (ref6_Strings_spec n r17.1 r14.1 r20 k29) rfl rfl (Les.refl _) rfl (.inr rfl) rfl ?_
            refine W.guardT rfl c27 ?_
            refine W.pickT rfl rfl rfl c28 ?_
            refine W.guardT rfl c27 ?_
            refine W.mv rfl ?_
            refine W.split 149 rfl (fun c30 => ?_) (fun c30 => ?_)
            ·replace h := iteT h c30
             refine W.guardF2 rfl c30 ?_
             refine W.guardF2 rfl c30 ?_
             refine W.guardF2 rfl c30 ?_
             refine W.guardU rfl (W.guardU rfl ?_)
             refine W.guardU rfl ?_
             refine W.guardF2 rfl c30 ?_
             refine W.guardT rfl c27 ?_
             refine W.pickT rfl rfl rfl c30 ?_
             refine W.pickT rfl rfl rfl c27 ?_
             refine W.mv rfl (W.nil ?_)
             exact ⟨true, h, Wk.nrmTo [6] [] rfl rfl⟩
            ·replace h := iteF h c30
             refine W.guardT rfl c30 ?_
             refine W.mv rfl ?_
             refine W.guardT rfl c30 ?_
             refine W.not rfl ?_
             refine W.guardT rfl c30 ?_
             refine W.mv rfl ?_
             refine W.split 152 rfl (fun c31 => ?_) (fun c31 => ?_)
             ·replace h := iteT h c31
              refine W.guardT rfl c31 ?_
              refine W.mv rfl ?_
              refine W.guardT rfl c31 ?_
              refine W.lenL (c := SKeyLines.cells) rfl ?_
              refine W.guardT rfl c31 ?_
              refine W.eql rfl rfl ?_
              refine W.guardT rfl c30 ?_
              refine W.pickT rfl rfl rfl c31 ?_
              refine W.guardT rfl c27 ?_
              refine W.pickN rfl rfl rfl c30 ?_
              refine W.pickT rfl rfl rfl c27 ?_
              refine W.mv rfl (W.nil ?_)
              exact ⟨(decide ((x3.length : Int) = 16)), h, Wk.nrmTo [6] [] rfl rfl⟩
             ·replace h := iteF h c31
              refine W.guardF1 rfl c31 ?_
              refine W.guardF1 rfl c31 ?_
              refine W.guardF1 rfl c31 ?_
              refine W.guardT rfl c30 ?_
              refine W.pickN rfl rfl rfl c31 ?_
              refine W.guardT rfl c27 ?_
              refine W.pickN rfl rfl rfl c30 ?_
              refine W.pickT rfl rfl rfl c27 ?_
              refine W.mv rfl (W.nil ?_)
              exact ⟨false, h, Wk.nrmTo [6] [] rfl rfl⟩
           ·replace h := iteF h c28
            refine W.guardF1 rfl c28 ?_
            refine W.guardF1 rfl c28 ?_
            refine W.guardF1 rfl c28 ?_
            refine W.guardT rfl c27 ?_
            refine W.pickN rfl rfl rfl c28 ?_
            refine W.guardT rfl c27 ?_
            refine W.mv rfl (W.guardT rfl rfl ?_)
            refine W.mv rfl (W.guardT rfl rfl ?_)
            refine W.not rfl (W.guardT rfl rfl ?_)
            refine W.mv rfl ?_
            refine W.split 152 rfl (fun c32 => ?_) (fun c32 => ?_)
            ·replace h := iteT h c32
             refine W.guardT rfl c32 ?_
             refine W.mv rfl ?_
             refine W.guardT rfl c32 ?_
             refine W.lenL (c := SKeyLines.cells) rfl ?_
             refine W.guardT rfl c32 ?_
             refine W.eql rfl rfl (W.guardT rfl rfl ?_)
             refine W.pickT rfl rfl rfl c32 ?_
             refine W.guardT rfl c27 ?_
             refine W.pickN rfl rfl rfl rfl ?_
             refine W.pickT rfl rfl rfl c27 ?_
             refine W.mv rfl (W.nil ?_)
             exact ⟨(decide ((x3.length : Int) = 16)), h, Wk.nrmTo [6] [] rfl rfl⟩
            ·replace h := iteF h c32
             refine W.guardF1 rfl c32 ?_
             refine W.guardF1 rfl c32 ?_
             refine W.guardF1 rfl c32 ?_
             refine W.guardT rfl rfl ?_
             refine W.pickN rfl rfl rfl c32 ?_
             refine W.guardT rfl c27 ?_
             refine W.pickN rfl rfl rfl rfl ?_
             refine W.pickT rfl rfl rfl c27 ?_
             refine W.mv rfl (W.nil ?_)
             exact ⟨false, h, Wk.nrmTo [6] [] rfl rfl⟩
          ·replace h := iteF h c27
           refine W.guardF1 rfl c27 ?_
           refine W.guardF1 rfl c27 ?_
           refine W.guardU rfl (W.guardU rfl ?_)
           refine W.guardU rfl ?_
           refine W.guardF1 rfl c27 ?_
           refine W.guardF1 rfl c27 ?_
           refine W.guardU rfl (W.guardU rfl ?_)
           refine W.guardU rfl (W.guardU rfl ?_)
           refine W.guardU rfl (W.guardU rfl ?_)
           refine W.guardU rfl ?_
           refine W.guardF1 rfl c27 ?_
           refine W.pickN rfl rfl rfl c27 ?_
           refine W.mv rfl (W.nil ?_)
           exact ⟨false, h, Wk.nrmTo [6] [] rfl rfl⟩
         ·replace h := iteF h c25
          refine W.guardF1 rfl c25 ?_
          refine W.guardF1 rfl c25 ?_
          refine W.guardF1 rfl c25 ?_
          refine W.pickN rfl rfl rfl c25 ?_
          refine W.mv rfl (W.guardF1 rfl rfl ?_)
          refine W.guardF1 rfl rfl (W.guardU rfl ?_)
          refine W.guardU rfl (W.guardU rfl ?_)
          refine W.guardF1 rfl rfl (W.guardF1 rfl rfl ?_)
          refine W.guardU rfl (W.guardU rfl ?_)
          refine W.guardU rfl (W.guardU rfl ?_)
          refine W.guardU rfl (W.guardU rfl ?_)
          refine W.guardU rfl (W.guardF1 rfl rfl ?_)
          refine W.pickN rfl rfl rfl rfl (W.mv rfl ?_)
          refine W.nil ?_
          exact ⟨false, h, Wk.nrmTo [6] [] rfl rfl⟩
        ·replace h := iteF h c24
         refine W.guardF1 rfl c24 ?_
         refine W.guardF1 rfl c24 ?_
         refine W.guardF1 rfl c24 ?_
         refine W.pickN rfl rfl rfl c24 ?_
         refine W.mv rfl (W.guardF1 rfl rfl ?_)
         refine W.guardF1 rfl rfl (W.guardF1 rfl rfl ?_)
         refine W.pickN rfl rfl rfl rfl (W.mv rfl ?_)
         refine W.guardF1 rfl rfl (W.guardF1 rfl rfl ?_)
         refine W.guardU rfl (W.guardU rfl ?_)
         refine W.guardU rfl (W.guardF1 rfl rfl ?_)
         refine W.guardF1 rfl rfl (W.guardU rfl ?_)
         refine W.guardU rfl (W.guardU rfl ?_)
         refine W.guardU rfl (W.guardU rfl ?_)
         refine W.guardU rfl (W.guardU rfl ?_)
         refine W.guardF1 rfl rfl (W.pickN rfl rfl rfl rfl ?_)
         refine W.mv rfl (W.nil ?_)
         exact ⟨false, h, Wk.nrmTo [6] [] rfl rfl⟩
       ·intro x18 h
        try dsimp only at h ⊢
        unfold law6_ActioncacheHitsEqualRecomputation_j4 at h
        refine Ev.ret ?_
        injection h with h; subst h
        exact ⟨_, rfl, .refl _⟩
end Go.Proofs.YtlkknmhhefjmjaaDoor
