/- The functions compute what the texts of D say. Laid by a program (wip/gen/dec.py). -/
import Derived.Test.YtadeoaglhaaimaaDoorD
import Derived.Test.YtadeoaglhaaimaaDoorW4
namespace Go.Proofs.YtadeoaglhaaimaaDoor
open Go.PW Go
set_option maxHeartbeats 4000000 in
theorem law6_SandboxExecutionsStopAtTheFirstError_spec (n : Nat) (a0 : SInputsOpsOutput) (a1 : SFiles) (a2 : Int) (r : Bool) (h : law6_SandboxExecutionsStopAtTheFirstError n a0 a1 a2 = some r) : PSpec Tryd.prog 8 [.agg (SInputsOpsOutput.cells a0), .agg (SFiles.cells a1), .int .i64 a2] (.bool r) := by
  unfold law6_SandboxExecutionsStopAtTheFirstError at h
  refine spec_of Tryd.c_law6_SandboxExecutionsStopAtTheFirstError (by simp) ?_
  unfold Tryd.l_law6_SandboxExecutionsStopAtTheFirstError
  refine Ev.seq ?_
  refine W.reg hm ?_
  refine W.box (dt := true) (cs := [.list 1 (List.map cS a0.Inputs), .list 2 (List.map SKindText.cells a0.Ops), .str a0.Output]) rfl rfl rfl rfl rfl rfl ?_
  refine W.box (dt := true) (cs := [.list 2 (List.map SPathLines.cells a1.Files)]) rfl rfl rfl rfl rfl rfl ?_
  refine W.mv rfl ?_
  refine W.nil ?_
  refine Ev.seq ?_
  refine W.reg hm ?_
  refine W.loadO (p := .agg [.list 1 (List.map cS a0.Inputs), .list 2 (List.map SKindText.cells a0.Ops), .str a0.Output]) rfl rfl rfl rfl ?_
  refine W.loadO (p := .agg [.list 2 (List.map SPathLines.cells a1.Files)]) rfl rfl rfl rfl ?_
  obtain ⟨r1, k1, h⟩ := obind h
  refine W.call (sandbox_Run_spec n a0 a1 r1 k1) rfl rfl (Les.refl _) rfl (.inl rfl) rfl ?_
  refine W.mv rfl ?_
  refine W.extract rfl rfl ?_
  refine W.extract rfl rfl ?_
  refine W.alloc (dt := true) rfl rfl rfl ?_
  refine W.mv rfl ?_
  refine W.store (es' := [[.int .i64 r1.2.Code, .int .i64 r1.2.Index]]) (dt := true) rfl rfl rfl rfl rfl (Nat.le_of_ble_eq_true rfl) rfl rfl rfl rfl ?_
  refine W.nil ?_
  refine Ev.seq ?_
  refine Ev.seqJ (γ := Bool) (fun v => ⟨[(2, .int .i64 a2), (3, .pown 10100 0 0 0), (4, .pown 10101 0 0 0), (8, .pown 10102 0 0 0), (29, .bool v)], [(10100, ⟨0, 25, 3, [[.list 1 (List.map cS a0.Inputs), .list 2 (List.map SKindText.cells a0.Ops), .str a0.Output]], true, false, false⟩), (10101, ⟨0, 28, 1, [[.list 2 (List.map SPathLines.cells a1.Files)]], true, false, false⟩), (10102, ⟨0, 30, 2, [[.int .i64 r1.2.Code, .int .i64 r1.2.Index]], true, false, false⟩)], 2⟩) (fun v => law6_SandboxExecutionsStopAtTheFirstError_j1 n a0 a1 a2 r1 v = some r) ?_ ?_
  · refine W.reg hm ?_
    obtain ⟨r10, k12, h⟩ := obind h
    refine W.call (law6_runs_spec n r10 k12) rfl rfl (Les.refl _) rfl (.inl rfl) rfl ?_
    refine W.not rfl ?_
    refine W.mv rfl ?_
    refine W.split 20 rfl (fun c13 => ?_) (fun c13 => ?_)
    · replace h := iteT h c13
      refine W.guardF2 rfl c13 ?_
      refine W.guardF2 rfl c13 ?_
      refine W.guardF2 rfl c13 ?_
      refine W.guardF2 rfl c13 ?_
      refine W.guardU rfl ?_
      refine W.guardU rfl ?_
      refine W.guardU rfl ?_
      refine W.guardF2 rfl c13 ?_
      refine W.pickT rfl rfl rfl c13 ?_
      refine W.nil ?_
      exact ⟨true, h, Wk.nrmTo [2, 3, 4, 8, 29] [(3, 10100), (4, 10101), (8, 10102)] rfl rfl⟩
    · replace h := iteF h c13
      refine W.guardT rfl c13 ?_
      refine W.fieldAddrO rfl rfl ?_
      refine W.guardT rfl c13 ?_
      refine W.loadO (p := .int .i64 r1.2.Code) rfl rfl rfl rfl ?_
      refine W.guardT rfl c13 ?_
      refine W.neq rfl rfl ?_
      refine W.guardT rfl c13 ?_
      refine W.mv rfl ?_
      refine W.split 24 rfl (fun c14 => ?_) (fun c14 => ?_)
      · replace h := iteT h c14
        refine W.guardT rfl c14 ?_
        refine W.mv rfl ?_
        refine W.guardT rfl c14 ?_
        refine W.lenL (c := cS) rfl ?_
        refine W.guardT rfl c14 ?_
        refine W.gtr rfl rfl ?_
        refine W.guardT rfl c13 ?_
        refine W.pickT rfl rfl rfl c14 ?_
        refine W.pickN rfl rfl rfl c13 ?_
        refine W.nil ?_
        exact ⟨(decide (0 < (r1.1.length : Int))), h, Wk.nrmTo [2, 3, 4, 8, 29] [(3, 10100), (4, 10101), (8, 10102)] rfl rfl⟩
      · replace h := iteF h c14
        refine W.guardF1 rfl c14 ?_
        refine W.guardF1 rfl c14 ?_
        refine W.guardF1 rfl c14 ?_
        refine W.guardT rfl c13 ?_
        refine W.pickN rfl rfl rfl c14 ?_
        refine W.pickN rfl rfl rfl c13 ?_
        refine W.nil ?_
        exact ⟨false, h, Wk.nrmTo [2, 3, 4, 8, 29] [(3, 10100), (4, 10101), (8, 10102)] rfl rfl⟩
  · intro x2 h
    try dsimp only at h ⊢
    unfold law6_SandboxExecutionsStopAtTheFirstError_j1 at h
    refine Ev.cond rfl (fun c2 => ?_) (fun c2 => ?_)
    · replace h := iteT h c2
      refine Ev.seq ?_
      refine W.reg hm ?_
      refine W.mv rfl ?_
      refine W.nil ?_
      refine Ev.ret ?_
      injection h with h; subst h
      exact ⟨_, rfl, .refl _⟩
    · replace h := iteF h c2
      refine Ev.skip ?_
      refine Ev.seq ?_
      refine Ev.seqJ (γ := Bool) (fun v => ⟨[(2, .int .i64 a2), (3, .pown 10200 0 0 0), (4, .pown 10201 0 0 0), (8, .pown 10202 0 0 0), (42, .bool v)], [(10200, ⟨0, 25, 3, [[.list 1 (List.map cS a0.Inputs), .list 2 (List.map SKindText.cells a0.Ops), .str a0.Output]], true, false, false⟩), (10201, ⟨0, 28, 1, [[.list 2 (List.map SPathLines.cells a1.Files)]], true, false, false⟩), (10202, ⟨0, 30, 2, [[.int .i64 r1.2.Code, .int .i64 r1.2.Index]], true, false, false⟩)], 2⟩) (fun v => law6_SandboxExecutionsStopAtTheFirstError_j2 n a0 a1 a2 r1 v = some r) ?_ ?_
      · refine W.reg hm ?_
        refine W.mv rfl ?_
        refine W.fieldAddrO rfl rfl ?_
        refine W.loadO (p := .list 2 (List.map SKindText.cells a0.Ops)) rfl rfl rfl rfl ?_
        refine W.lenL (c := SKindText.cells) rfl ?_
        obtain ⟨r8, k9, h⟩ := obind h
        refine W.call (law6_in_spec n a2 0 (a0.Ops.length : Int) r8 k9) rfl rfl (Les.refl _) rfl (.inl rfl) rfl ?_
        refine W.not rfl ?_
        refine W.mv rfl ?_
        refine W.split 36 rfl (fun c10 => ?_) (fun c10 => ?_)
        · replace h := iteT h c10
          refine W.guardF2 rfl c10 ?_
          refine W.guardF2 rfl c10 ?_
          refine W.guardF2 rfl c10 ?_
          refine W.guardF2 rfl c10 ?_
          refine W.guardF2 rfl c10 ?_
          refine W.pickT rfl rfl rfl c10 ?_
          refine W.nil ?_
          exact ⟨true, h, Wk.nrmTo [2, 3, 4, 8, 42] [(10100, 10200), (10101, 10201), (10102, 10202)] rfl rfl⟩
        · replace h := iteF h c10
          refine W.guardT rfl c10 ?_
          refine W.loadO (p := .agg [.list 1 (List.map cS a0.Inputs), .list 2 (List.map SKindText.cells a0.Ops), .str a0.Output]) rfl rfl rfl rfl ?_
          refine W.guardT rfl c10 ?_
          refine W.loadO (p := .agg [.list 2 (List.map SPathLines.cells a1.Files)]) rfl rfl rfl rfl ?_
          refine W.guardT rfl c10 ?_
          obtain ⟨r9, k11, h⟩ := obind h
          refine W.call (ref6_RunFault_spec n a0 a1 r9 k11) rfl rfl (Les.refl _) rfl (.inl rfl) rfl ?_
          refine W.guardT rfl c10 ?_
          refine W.field rfl rfl ?_
          refine W.guardT rfl c10 ?_
          refine W.neq rfl rfl ?_
          refine W.pickN rfl rfl rfl c10 ?_
          refine W.nil ?_
          exact ⟨(decide (r9.Code ≠ 0)), h, Wk.nrmTo [2, 3, 4, 8, 42] [(10100, 10200), (10101, 10201), (10102, 10202)] rfl rfl⟩
      · intro x3 h
        try dsimp only at h ⊢
        unfold law6_SandboxExecutionsStopAtTheFirstError_j2 at h
        refine Ev.cond rfl (fun c3 => ?_) (fun c3 => ?_)
        · replace h := iteT h c3
          refine Ev.seq ?_
          refine W.reg hm ?_
          refine W.mv rfl ?_
          refine W.nil ?_
          refine Ev.ret ?_
          injection h with h; subst h
          exact ⟨_, rfl, .refl _⟩
        · replace h := iteF h c3
          refine Ev.skip ?_
          refine Ev.seq ?_
          refine W.reg hm ?_
          refine W.loadO (p := .agg [.list 1 (List.map cS a0.Inputs), .list 2 (List.map SKindText.cells a0.Ops), .str a0.Output]) rfl rfl rfl rfl ?_
          refine W.alloc (dt := true) rfl rfl rfl ?_
          refine W.store (es' := [[.list 1 (List.map cS a0.Inputs), .list 2 (List.map SKindText.cells a0.Ops), .str a0.Output]]) (dt := true) rfl rfl rfl rfl rfl (Nat.le_of_ble_eq_true rfl) rfl rfl rfl rfl ?_
          refine W.nil ?_
          refine Ev.seq ?_
          refine W.reg hm ?_
          refine W.fieldAddrO rfl rfl ?_
          refine W.loadO (p := .list 2 (List.map SKindText.cells a0.Ops)) rfl rfl rfl rfl ?_
          refine W.mv rfl ?_
          obtain ⟨s4, k4, h⟩ := obind h
          refine W.sliceL (c := SKindText.cells) rfl k4 (ix1 (gcut_some k4).2.2.2.1) ?_
          refine W.fieldAddrO rfl rfl ?_
          refine W.store (es' := [[.list 1 (List.map cS a0.Inputs), .list 2 (List.map SKindText.cells s4), .str a0.Output]]) (dt := true) rfl rfl rfl rfl rfl (Nat.le_of_ble_eq_true rfl) rfl rfl rfl rfl ?_
          refine W.nil ?_
          refine Ev.seq ?_
          refine W.reg hm ?_
          refine W.loadO (p := .agg [.list 1 (List.map cS a0.Inputs), .list 2 (List.map SKindText.cells s4), .str a0.Output]) rfl rfl rfl rfl ?_
          refine W.loadO (p := .agg [.list 2 (List.map SPathLines.cells a1.Files)]) rfl rfl rfl rfl ?_
          obtain ⟨r5, k5, h⟩ := obind h
          refine W.call (sandbox_Run_spec n (⟨a0.Inputs, s4, a0.Output⟩ : SInputsOpsOutput) a1 r5 k5) rfl rfl (Les.refl _) rfl (.inl rfl) rfl ?_
          refine W.mv rfl ?_
          refine W.extract rfl rfl ?_
          refine W.extract rfl rfl ?_
          refine W.alloc (dt := true) rfl rfl rfl ?_
          refine W.mv rfl ?_
          refine W.store (es' := [[.int .i64 r5.2.Code, .int .i64 r5.2.Index]]) (dt := true) rfl rfl rfl rfl rfl (Nat.le_of_ble_eq_true rfl) rfl rfl rfl rfl ?_
          refine W.nil ?_
          refine Ev.seq ?_
          refine Ev.seqJ (γ := Bool) (fun v => ⟨[(8, .pown 10300 0 0 0), (11, .pown 10301 0 0 0), (64, .bool v)], [(10300, ⟨0, 30, 2, [[.int .i64 r1.2.Code, .int .i64 r1.2.Index]], true, false, false⟩), (10301, ⟨0, 30, 2, [[.int .i64 r5.2.Code, .int .i64 r5.2.Index]], true, false, false⟩)], 2⟩) (fun v => law6_SandboxExecutionsStopAtTheFirstError_j3 n r1 r5 v = some r) ?_ ?_
          · refine W.reg hm ?_
            refine W.fieldAddrO rfl rfl ?_
            refine W.loadO (p := .int .i64 r1.2.Code) rfl rfl rfl rfl ?_
            refine W.eql rfl rfl ?_
            refine W.mv rfl ?_
            refine W.split 58 rfl (fun c7 => ?_) (fun c7 => ?_)
            · replace h := iteT h c7
              refine W.guardF2 rfl c7 ?_
              refine W.guardF2 rfl c7 ?_
              refine W.guardF2 rfl c7 ?_
              refine W.guardF2 rfl c7 ?_
              refine W.guardF2 rfl c7 ?_
              refine W.pickT rfl rfl rfl c7 ?_
              refine W.nil ?_
              exact ⟨true, h, Wk.nrmTo [8, 11, 64] [(10202, 10300), (11, 10301)] rfl rfl⟩
            · replace h := iteF h c7
              refine W.guardT rfl c7 ?_
              refine W.fieldAddrO rfl rfl ?_
              refine W.guardT rfl c7 ?_
              refine W.loadO (p := .int .i64 r1.2.Index) rfl rfl rfl rfl ?_
              refine W.guardT rfl c7 ?_
              obtain ⟨x7, k8, h⟩ := obind h
              refine W.subG rfl rfl k8 ?_
              refine W.guardT rfl c7 ?_
              refine W.mv rfl ?_
              refine W.guardT rfl c7 ?_
              refine W.geq rfl rfl ?_
              refine W.pickN rfl rfl rfl c7 ?_
              refine W.nil ?_
              exact ⟨(decide (a2 ≤ x7)), h, Wk.nrmTo [8, 11, 64] [(10202, 10300), (11, 10301)] rfl rfl⟩
          · intro x6 h
            try dsimp only at h ⊢
            unfold law6_SandboxExecutionsStopAtTheFirstError_j3 at h
            refine Ev.cond rfl (fun c6 => ?_) (fun c6 => ?_)
            · replace h := iteT h c6
              refine Ev.seq ?_
              refine W.reg hm ?_
              refine W.fieldAddrO rfl rfl ?_
              refine W.loadO (p := .int .i64 r5.2.Code) rfl rfl rfl rfl ?_
              refine W.eql rfl rfl ?_
              refine W.mv rfl ?_
              refine W.nil ?_
              refine Ev.ret ?_
              injection h with h; subst h
              exact ⟨_, rfl, .refl _⟩
            · replace h := iteF h c6
              refine Ev.skip ?_
              refine Ev.seq ?_
              refine W.reg hm ?_
              refine W.loadO (p := .agg [.int .i64 r5.2.Code, .int .i64 r5.2.Index]) rfl rfl rfl rfl ?_
              refine W.loadO (p := .agg [.int .i64 r1.2.Code, .int .i64 r1.2.Index]) rfl rfl rfl rfl ?_
              refine W.eqs rfl rfl rfl ?_
              refine W.mv rfl ?_
              refine W.nil ?_
              refine Ev.ret ?_
              injection h with h; subst h
              exact ⟨_, rfl, .refl _⟩
end Go.Proofs.YtadeoaglhaaimaaDoor
