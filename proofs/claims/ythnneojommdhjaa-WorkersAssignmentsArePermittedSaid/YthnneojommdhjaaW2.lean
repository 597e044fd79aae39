/- The functions compute what the texts of D say. Laid by a program (wip/gen/dec.py). -/
import Derived.Test.YthnneojommdhjaaD
import Derived.Test.YthnneojommdhjaaW1
namespace Go.Proofs.Ythnneojommdhjaa
open Go.PW Go
theorem ref6_WorkingOn_spec (n : Nat) (a0 : List SKindWorkerJobValue) (a1 : Int) (r : Int) (h : ref6_WorkingOn n a0 a1 = some r) : PSpec Try.prog 20 [.list 4 (List.map SKindWorkerJobValue.cells a0), .int .i64 a1] (.int .i64 r) := by
  unfold ref6_WorkingOn at h
  refine spec_of Try.c_ref6_WorkingOn (by simp) ?_
  unfold Try.l_ref6_WorkingOn
  refine Ev.seq ?_
  refine W.reg hm ?_
  refine W.mv rfl ?_
  refine W.nil ?_
  refine Ev.seq ?_
  refine W.reg hm ?_
  refine W.mv rfl ?_
  refine W.nil ?_
  refine Ev.seq ?_
  refine Ev.seq ?_
  refine W.reg hm ?_
  refine W.mv rfl ?_
  refine W.nil ?_
  refine Ev.block ?_
  refine Ev.loopW (β := Nat × Int × Int) (fun v => ⟨[(0, .list 4 (List.map SKindWorkerJobValue.cells a0)), (1, .int .i64 a1), (5, .int .i64 v.2.1), (6, .int .i64 v.2.2)], [], 2⟩) (fun v => ref6_WorkingOn_l1 n a0 a1 v.1 v.2.1 v.2.2 = some r) (fun v => v.1) (n, (-1), 0) (Wk.nrmTo [0, 1, 5, 6] [] rfl rfl) h ?_
  intro ⟨m1, x1, x2⟩ h
  try dsimp only at h ⊢
  cases m1 with
  | zero => rw [ref6_WorkingOn_l1] at h; cases h
  | succ m1 =>
    rw [ref6_WorkingOn_l1] at h
    refine Ev.seq ?_
    refine Ev.seq ?_
    refine W.reg hm ?_
    refine W.mv rfl ?_
    refine W.mv rfl ?_
    refine W.lenL (c := SKindWorkerJobValue.cells) rfl ?_
    refine W.lss rfl rfl ?_
    refine W.nil ?_
    refine Ev.cond rfl (fun c1 => ?_) (fun c1 => ?_)
    · replace h := iteT h c1
      refine Ev.skip ?_
      refine Ev.seqJ (γ := Int) (fun v => ⟨[(0, .list 4 (List.map SKindWorkerJobValue.cells a0)), (1, .int .i64 a1), (5, .int .i64 v), (6, .int .i64 x2)], [], 2⟩) (fun v => ref6_WorkingOn_j1 n x2 (ref6_WorkingOn_l1 n a0 a1 m1) v = some r) ?_ ?_
      · refine Ev.block ?_
        refine Ev.seq ?_
        refine W.reg hm ?_
        refine W.mv rfl ?_
        refine W.mv rfl ?_
        obtain ⟨e5, k3, h⟩ := obind h
        refine W.idxL (c := SKindWorkerJobValue.cells) rfl rfl k3 ?_
        refine W.load rfl rfl ?_
        refine W.alloc (dt := true) rfl rfl rfl ?_
        refine W.store (es' := [[.int .i64 e5.Kind, .int .i64 e5.Worker, .int .i64 e5.Job, .int .i64 e5.Value]]) (dt := true) rfl rfl rfl rfl rfl (Nat.le_of_ble_eq_true rfl) rfl rfl rfl rfl ?_
        refine W.nil ?_
        refine Ev.seq ?_
        refine Ev.seq ?_
        refine W.reg hm ?_
        refine W.fieldAddrO rfl rfl ?_
        refine W.loadO (p := .int .i64 e5.Worker) rfl rfl rfl rfl ?_
        refine W.mv rfl ?_
        refine W.neq rfl rfl ?_
        refine W.nil ?_
        refine Ev.cond rfl (fun c4 => ?_) (fun c4 => ?_)
        · replace h := iteT h c4
          refine Ev.exit ?_
          exact ⟨x1, h, Wk.nrmTo [0, 1, 5, 6] [] rfl rfl⟩
        · replace h := iteF h c4
          refine Ev.skip ?_
          refine Ev.seq ?_
          refine W.reg hm ?_
          refine W.fieldAddrO rfl rfl ?_
          refine W.loadO (p := .int .i64 e5.Kind) rfl rfl rfl rfl ?_
          refine W.nil ?_
          refine Ev.block ?_
          refine Ev.seq ?_
          refine W.reg hm ?_
          refine W.eql rfl rfl ?_
          refine W.mv rfl ?_
          refine W.nil ?_
          refine Ev.cond rfl (fun c5 => ?_) (fun c5 => ?_)
          · replace h := iteT h c5
            refine W.reg hm ?_
            refine W.fieldAddrO rfl rfl ?_
            refine W.loadO (p := .int .i64 e5.Job) rfl rfl rfl rfl ?_
            refine W.mv rfl ?_
            refine W.nil ?_
            exact ⟨e5.Job, h, Wk.nrmTo [0, 1, 5, 6] [] rfl rfl⟩
          · replace h := iteF h c5
            refine Ev.seq ?_
            refine W.reg hm ?_
            refine W.eql rfl rfl ?_
            refine W.mv rfl ?_
            refine W.nil ?_
            refine Ev.cond rfl (fun c6 => ?_) (fun c6 => ?_)
            · replace h := iteT h c6
              refine W.reg hm ?_
              refine W.mv rfl ?_
              refine W.nil ?_
              exact ⟨(-2), h, Wk.nrmTo [0, 1, 5, 6] [] rfl rfl⟩
            · replace h := iteF h c6
              refine W.reg hm ?_
              refine W.mv rfl ?_
              refine W.nil ?_
              exact ⟨(-1), h, Wk.nrmTo [0, 1, 5, 6] [] rfl rfl⟩
      · intro x3 h
        try dsimp only at h ⊢
        unfold ref6_WorkingOn_j1 at h
        refine W.reg hm ?_
        refine W.mv rfl ?_
        obtain ⟨x4, k2, h⟩ := obind h
        refine W.addG rfl rfl k2 ?_
        refine W.mv rfl ?_
        refine W.nil ?_
        exact ⟨(m1, x3, x4), h, Nat.lt_succ_self _, Wk.nrmTo [0, 1, 5, 6] [] rfl rfl⟩
    · replace h := iteF h c1
      refine Ev.exit ?_
      refine Ev.seq ?_
      refine W.reg hm ?_
      refine W.mv rfl ?_
      refine W.mv rfl ?_
      refine W.nil ?_
      refine Ev.ret ?_
      injection h with h; subst h
      exact ⟨_, rfl, .refl _⟩

theorem ref6_Reported_spec (n : Nat) (a0 : List SKindWorkerJobValue) (a1 : Int) (a2 : Int) (r : Int) (h : ref6_Reported n a0 a1 a2 = some r) : PSpec Try.prog 16 [.list 4 (List.map SKindWorkerJobValue.cells a0), .int .i64 a1, .int .i64 a2] (.int .i64 r) := by
  unfold ref6_Reported at h
  refine spec_of Try.c_ref6_Reported (by simp) ?_
  unfold Try.l_ref6_Reported
  refine Ev.seq ?_
  refine W.reg hm ?_
  refine W.mv rfl ?_
  refine W.nil ?_
  refine Ev.seq ?_
  refine Ev.seq ?_
  refine W.reg hm ?_
  refine W.mv rfl ?_
  refine W.nil ?_
  refine Ev.block ?_
  refine Ev.loopW (β := Nat × Int) (fun v => ⟨[(0, .list 4 (List.map SKindWorkerJobValue.cells a0)), (1, .int .i64 a1), (2, .int .i64 a2), (7, .int .i64 v.2)], [], 2⟩) (fun v => ref6_Reported_l1 n a0 a1 a2 v.1 v.2 = some r) (fun v => v.1) (n, 0) (Wk.nrmTo [0, 1, 2, 7] [] rfl rfl) h ?_
  intro ⟨m1, x1⟩ h
  try dsimp only at h ⊢
  cases m1 with
  | zero => rw [ref6_Reported_l1] at h; cases h
  | succ m1 =>
    rw [ref6_Reported_l1] at h
    refine Ev.seq ?_
    refine Ev.seq ?_
    refine W.reg hm ?_
    refine W.mv rfl ?_
    refine W.mv rfl ?_
    refine W.lenL (c := SKindWorkerJobValue.cells) rfl ?_
    refine W.lss rfl rfl ?_
    refine W.nil ?_
    refine Ev.cond rfl (fun c1 => ?_) (fun c1 => ?_)
    · replace h := iteT h c1
      refine Ev.skip ?_
      refine Ev.seq ?_
      refine Ev.block ?_
      refine Ev.seqJ (γ := Bool) (fun v => ⟨[(0, .list 4 (List.map SKindWorkerJobValue.cells a0)), (1, .int .i64 a1), (2, .int .i64 a2), (7, .int .i64 x1), (37, .bool v)], [], 2⟩) (fun v => ref6_Reported_j1 n a0 x1 (ref6_Reported_l1 n a0 a1 a2 m1) v = some r) ?_ ?_
      · refine W.reg hm ?_
        refine W.mv rfl ?_
        refine W.mv rfl ?_
        obtain ⟨e5, k5, h⟩ := obind h
        refine W.idxL (c := SKindWorkerJobValue.cells) rfl rfl k5 ?_
        refine W.fieldAddr rfl ?_
        refine W.load rfl rfl ?_
        refine W.eql rfl rfl ?_
        refine W.mv rfl ?_
        refine W.split 20 rfl (fun c6 => ?_) (fun c6 => ?_)
        · replace h := iteT h c6
          refine W.guardT rfl c6 ?_
          refine W.mv rfl ?_
          refine W.guardT rfl c6 ?_
          refine W.mv rfl ?_
          refine W.guardT rfl c6 ?_
          refine W.idxL (c := SKindWorkerJobValue.cells) rfl rfl k5 ?_
          refine W.guardT rfl c6 ?_
          refine W.fieldAddr rfl ?_
          refine W.guardT rfl c6 ?_
          refine W.load rfl rfl ?_
          refine W.guardT rfl c6 ?_
          refine W.mv rfl ?_
          refine W.guardT rfl c6 ?_
          refine W.eql rfl rfl ?_
          refine W.pickT rfl rfl rfl c6 ?_
          refine W.mv rfl ?_
          refine W.split 29 rfl (fun c7 => ?_) (fun c7 => ?_)
          · replace h := iteT h c7
            refine W.guardT rfl c7 ?_
            refine W.mv rfl ?_
            refine W.guardT rfl c7 ?_
            refine W.mv rfl ?_
            refine W.guardT rfl c7 ?_
            obtain ⟨s6, k8, h⟩ := obind h
            refine W.sliceL (c := SKindWorkerJobValue.cells) rfl k8 (ix1 (gcut_some k8).2.2.2.1) ?_
            refine W.guardT rfl c7 ?_
            refine W.mv rfl ?_
            refine W.guardT rfl c7 ?_
            obtain ⟨r7, k9, h⟩ := obind h
            refine W.call (ref6_WorkingOn_spec n s6 a1 r7 k9) rfl rfl (Les.refl _) rfl (.inl rfl) rfl ?_
            refine W.guardT rfl c7 ?_
            refine W.mv rfl ?_
            refine W.guardT rfl c7 ?_
            refine W.eql rfl rfl ?_
            refine W.pickT rfl rfl rfl c7 ?_
            refine W.nil ?_
            exact ⟨(decide (r7 = a2)), h, Wk.nrmTo [0, 1, 2, 7, 37] [] rfl rfl⟩
          · replace h := iteF h c7
            refine W.guardF1 rfl c7 ?_
            refine W.guardF1 rfl c7 ?_
            refine W.guardF1 rfl c7 ?_
            refine W.guardF1 rfl c7 ?_
            refine W.guardF1 rfl c7 ?_
            refine W.guardF1 rfl c7 ?_
            refine W.guardF1 rfl c7 ?_
            refine W.pickN rfl rfl rfl c7 ?_
            refine W.nil ?_
            exact ⟨false, h, Wk.nrmTo [0, 1, 2, 7, 37] [] rfl rfl⟩
        · replace h := iteF h c6
          refine W.guardF1 rfl c6 ?_
          refine W.guardF1 rfl c6 ?_
          refine W.guardF1 rfl c6 ?_
          refine W.guardF1 rfl c6 ?_
          refine W.guardF1 rfl c6 ?_
          refine W.guardF1 rfl c6 ?_
          refine W.guardF1 rfl c6 ?_
          refine W.pickN rfl rfl rfl c6 ?_
          refine W.mv rfl ?_
          refine W.guardF1 rfl rfl ?_
          refine W.guardF1 rfl rfl ?_
          refine W.guardF1 rfl rfl ?_
          refine W.guardF1 rfl rfl ?_
          refine W.guardF1 rfl rfl ?_
          refine W.guardF1 rfl rfl ?_
          refine W.guardF1 rfl rfl ?_
          refine W.pickN rfl rfl rfl rfl ?_
          refine W.nil ?_
          exact ⟨false, h, Wk.nrmTo [0, 1, 2, 7, 37] [] rfl rfl⟩
      · intro x2 h
        try dsimp only at h ⊢
        unfold ref6_Reported_j1 at h
        refine Ev.cond rfl (fun c2 => ?_) (fun c2 => ?_)
        · replace h := iteT h c2
          refine Ev.seq ?_
          refine W.reg hm ?_
          refine W.mv rfl ?_
          refine W.mv rfl ?_
          obtain ⟨e3, k3, h⟩ := obind h
          refine W.idxL (c := SKindWorkerJobValue.cells) rfl rfl k3 ?_
          refine W.fieldAddr rfl ?_
          refine W.load rfl rfl ?_
          refine W.mv rfl ?_
          refine W.nil ?_
          refine Ev.ret ?_
          injection h with h; subst h
          exact ⟨_, rfl, .refl _⟩
        · replace h := iteF h c2
          refine Ev.skip ?_
          refine W.reg hm ?_
          refine W.mv rfl ?_
          obtain ⟨x4, k4, h⟩ := obind h
          refine W.addG rfl rfl k4 ?_
          refine W.mv rfl ?_
          refine W.nil ?_
          exact ⟨(m1, x4), h, Nat.lt_succ_self _, Wk.nrmTo [0, 1, 2, 7] [] rfl rfl⟩
    · replace h := iteF h c1
      refine Ev.exit ?_
      refine Ev.seq ?_
      refine W.reg hm ?_
      refine W.mv rfl ?_
      refine W.nil ?_
      refine Ev.ret ?_
      injection h with h; subst h
      exact ⟨_, rfl, .refl _⟩

theorem ref6_eventCode_spec (n : Nat) (a0 : Int) (a1 : Int) (a2 : List SKindWorkerJobValue) (a3 : Int) (r : Int) (h : ref6_eventCode n a0 a1 a2 a3 = some r) : PSpec Try.prog 25 [.int .i64 a0, .int .i64 a1, .list 4 (List.map SKindWorkerJobValue.cells a2), .int .i64 a3] (.int .i64 r) := by
  unfold ref6_eventCode at h
  refine spec_of Try.c_ref6_eventCode (by simp) ?_
  unfold Try.l_ref6_eventCode
  refine Ev.seq ?_
  refine W.reg hm ?_
  refine W.mv rfl ?_
  refine W.nil ?_
  refine Ev.seq ?_
  refine W.reg hm ?_
  refine W.mv rfl ?_
  refine W.mv rfl ?_
  obtain ⟨e1, k1, h⟩ := obind h
  refine W.idxL (c := SKindWorkerJobValue.cells) rfl rfl k1 ?_
  refine W.load rfl rfl ?_
  refine W.alloc (dt := true) rfl rfl rfl ?_
  refine W.store (es' := [[.int .i64 e1.Kind, .int .i64 e1.Worker, .int .i64 e1.Job, .int .i64 e1.Value]]) (dt := true) rfl rfl rfl rfl rfl (Nat.le_of_ble_eq_true rfl) rfl rfl rfl rfl ?_
  refine W.nil ?_
  refine Ev.seq ?_
  refine Ev.seq ?_
  refine W.reg hm ?_
  refine W.fieldAddrO rfl rfl ?_
  refine W.loadO (p := .int .i64 e1.Kind) rfl rfl rfl rfl ?_
  obtain ⟨r2, k2, h⟩ := obind h
  refine W.call (ref6_in_spec n e1.Kind 1 4 r2 k2) rfl rfl (Les.refl _) rfl (.inl rfl) rfl ?_
  refine W.not rfl ?_
  refine W.nil ?_
  refine Ev.cond rfl (fun c3 => ?_) (fun c3 => ?_)
  · replace h := iteT h c3
    refine Ev.seq ?_
    refine W.reg hm ?_
    refine W.mv rfl ?_
    refine W.nil ?_
    refine Ev.ret ?_
    injection h with h; subst h
    exact ⟨_, rfl, .refl _⟩
  · replace h := iteF h c3
    refine Ev.skip ?_
    refine Ev.seq ?_
    refine Ev.seq ?_
    refine W.reg hm ?_
    refine W.fieldAddrO rfl rfl ?_
    refine W.loadO (p := .int .i64 e1.Worker) rfl rfl rfl rfl ?_
    refine W.mv rfl ?_
    obtain ⟨x3, k4, h⟩ := obind h
    refine W.subG rfl rfl k4 ?_
    obtain ⟨r4, k5, h⟩ := obind h
    refine W.call (ref6_in_spec n e1.Worker 0 x3 r4 k5) rfl rfl (Les.refl _) rfl (.inl rfl) rfl ?_
    refine W.not rfl ?_
    refine W.nil ?_
    refine Ev.cond rfl (fun c6 => ?_) (fun c6 => ?_)
    · replace h := iteT h c6
      refine Ev.seq ?_
      refine W.reg hm ?_
      refine W.mv rfl ?_
      refine W.nil ?_
      refine Ev.ret ?_
      injection h with h; subst h
      exact ⟨_, rfl, .refl _⟩
    · replace h := iteF h c6
      refine Ev.skip ?_
      refine Ev.seq ?_
      refine Ev.seqJ (γ := Bool) (fun v => ⟨[(0, .int .i64 a0), (2, .list 4 (List.map SKindWorkerJobValue.cells a2)), (3, .int .i64 a3), (9, .pown 10100 0 0 0), (42, .bool v)], [(10100, ⟨0, 44, 4, [[.int .i64 e1.Kind, .int .i64 e1.Worker, .int .i64 e1.Job, .int .i64 e1.Value]], true, false, false⟩)], 2⟩) (fun v => ref6_eventCode_j1 n a0 a2 a3 e1 v = some r) ?_ ?_
      · refine W.reg hm ?_
        refine W.fieldAddrO rfl rfl ?_
        refine W.loadO (p := .int .i64 e1.Kind) rfl rfl rfl rfl ?_
        refine W.neq rfl rfl ?_
        refine W.mv rfl ?_
        refine W.split 28 rfl (fun c46 => ?_) (fun c46 => ?_)
        · replace h := iteT h c46
          refine W.guardT rfl c46 ?_
          refine W.fieldAddrO rfl rfl ?_
          refine W.guardT rfl c46 ?_
          refine W.loadO (p := .int .i64 e1.Job) rfl rfl rfl rfl ?_
          refine W.guardT rfl c46 ?_
          refine W.neq rfl rfl ?_
          refine W.pickT rfl rfl rfl c46 ?_
          refine W.mv rfl ?_
          refine W.split 33 rfl (fun c47 => ?_) (fun c47 => ?_)
          · replace h := iteT h c47
            refine W.guardF2 rfl c47 ?_
            refine W.guardF2 rfl c47 ?_
            refine W.guardF2 rfl c47 ?_
            refine W.guardF2 rfl c47 ?_
            refine W.guardU rfl ?_
            refine W.guardU rfl ?_
            refine W.guardU rfl ?_
            refine W.guardF2 rfl c47 ?_
            refine W.pickT rfl rfl rfl c47 ?_
            refine W.nil ?_
            exact ⟨true, h, Wk.nrmTo [0, 2, 3, 9, 42] [(9, 10100)] rfl rfl⟩
          · replace h := iteF h c47
            refine W.guardT rfl c47 ?_
            refine W.fieldAddrO rfl rfl ?_
            refine W.guardT rfl c47 ?_
            refine W.loadO (p := .int .i64 e1.Kind) rfl rfl rfl rfl ?_
            refine W.guardT rfl c47 ?_
            refine W.neq rfl rfl ?_
            refine W.guardT rfl c47 ?_
            refine W.mv rfl ?_
            refine W.split 37 rfl (fun c48 => ?_) (fun c48 => ?_)
            · replace h := iteT h c48
              refine W.guardT rfl c48 ?_
              refine W.fieldAddrO rfl rfl ?_
              refine W.guardT rfl c48 ?_
              refine W.loadO (p := .int .i64 e1.Value) rfl rfl rfl rfl ?_
              refine W.guardT rfl c48 ?_
              refine W.neq rfl rfl ?_
              refine W.guardT rfl c47 ?_
              refine W.pickT rfl rfl rfl c48 ?_
              refine W.pickN rfl rfl rfl c47 ?_
              refine W.nil ?_
              exact ⟨(decide (e1.Value ≠ 0)), h, Wk.nrmTo [0, 2, 3, 9, 42] [(9, 10100)] rfl rfl⟩
            · replace h := iteF h c48
              refine W.guardF1 rfl c48 ?_
              refine W.guardF1 rfl c48 ?_
              refine W.guardF1 rfl c48 ?_
              refine W.guardT rfl c47 ?_
              refine W.pickN rfl rfl rfl c48 ?_
              refine W.pickN rfl rfl rfl c47 ?_
              refine W.nil ?_
              exact ⟨false, h, Wk.nrmTo [0, 2, 3, 9, 42] [(9, 10100)] rfl rfl⟩
        · replace h := iteF h c46
          refine W.guardF1 rfl c46 ?_
          refine W.guardF1 rfl c46 ?_
          refine W.guardF1 rfl c46 ?_
          refine W.pickN rfl rfl rfl c46 ?_
          refine W.mv rfl ?_
          refine W.guardT rfl rfl ?_
          refine W.fieldAddrO rfl rfl ?_
          refine W.guardT rfl rfl ?_
          refine W.loadO (p := .int .i64 e1.Kind) rfl rfl rfl rfl ?_
          refine W.guardT rfl rfl ?_
          refine W.neq rfl rfl ?_
          refine W.guardT rfl rfl ?_
          refine W.mv rfl ?_
          refine W.split 37 rfl (fun c49 => ?_) (fun c49 => ?_)
          · replace h := iteT h c49
            refine W.guardT rfl c49 ?_
            refine W.fieldAddrO rfl rfl ?_
            refine W.guardT rfl c49 ?_
            refine W.loadO (p := .int .i64 e1.Value) rfl rfl rfl rfl ?_
            refine W.guardT rfl c49 ?_
            refine W.neq rfl rfl ?_
            refine W.guardT rfl rfl ?_
            refine W.pickT rfl rfl rfl c49 ?_
            refine W.pickN rfl rfl rfl rfl ?_
            refine W.nil ?_
            exact ⟨(decide (e1.Value ≠ 0)), h, Wk.nrmTo [0, 2, 3, 9, 42] [(9, 10100)] rfl rfl⟩
          · replace h := iteF h c49
            refine W.guardF1 rfl c49 ?_
            refine W.guardF1 rfl c49 ?_
            refine W.guardF1 rfl c49 ?_
            refine W.guardT rfl rfl ?_
            refine W.pickN rfl rfl rfl c49 ?_
            refine W.pickN rfl rfl rfl rfl ?_
            refine W.nil ?_
            exact ⟨false, h, Wk.nrmTo [0, 2, 3, 9, 42] [(9, 10100)] rfl rfl⟩
      · intro x5 h
        try dsimp only at h ⊢
        unfold ref6_eventCode_j1 at h
        refine Ev.cond rfl (fun c7 => ?_) (fun c7 => ?_)
        · replace h := iteT h c7
          refine Ev.seq ?_
          refine W.reg hm ?_
          refine W.mv rfl ?_
          refine W.nil ?_
          refine Ev.ret ?_
          injection h with h; subst h
          exact ⟨_, rfl, .refl _⟩
        · replace h := iteF h c7
          refine Ev.skip ?_
          refine Ev.seq ?_
          refine Ev.seqJ (γ := Bool) (fun v => ⟨[(2, .list 4 (List.map SKindWorkerJobValue.cells a2)), (3, .int .i64 a3), (9, .pown 10200 0 0 0), (64, .bool v)], [(10200, ⟨0, 44, 4, [[.int .i64 e1.Kind, .int .i64 e1.Worker, .int .i64 e1.Job, .int .i64 e1.Value]], true, false, false⟩)], 2⟩) (fun v => ref6_eventCode_j2 n a2 a3 e1 v = some r) ?_ ?_
          · refine W.reg hm ?_
            refine W.fieldAddrO rfl rfl ?_
            refine W.loadO (p := .int .i64 e1.Kind) rfl rfl rfl rfl ?_
            refine W.eql rfl rfl ?_
            refine W.mv rfl ?_
            refine W.split 46 rfl (fun c38 => ?_) (fun c38 => ?_)
            · replace h := iteT h c38
              refine W.guardT rfl c38 ?_
              refine W.fieldAddrO rfl rfl ?_
              refine W.guardT rfl c38 ?_
              refine W.loadO (p := .int .i64 e1.Job) rfl rfl rfl rfl ?_
              refine W.guardT rfl c38 ?_
              refine W.mv rfl ?_
              refine W.guardT rfl c38 ?_
              obtain ⟨x13, k39, h⟩ := obind h
              refine W.subG rfl rfl k39 ?_
              refine W.guardT rfl c38 ?_
              obtain ⟨r14, k40, h⟩ := obind h
              refine W.call (ref6_in_spec n e1.Job 0 x13 r14 k40) rfl rfl (Les.refl _) rfl (.inl rfl) rfl ?_
              refine W.guardT rfl c38 ?_
              refine W.not rfl ?_
              refine W.pickT rfl rfl rfl c38 ?_
              refine W.mv rfl ?_
              refine W.split 54 rfl (fun c41 => ?_) (fun c41 => ?_)
              · replace h := iteT h c41
                refine W.guardF2 rfl c41 ?_
                refine W.guardF2 rfl c41 ?_
                refine W.guardF2 rfl c41 ?_
                refine W.guardF2 rfl c41 ?_
                refine W.guardU rfl ?_
                refine W.guardU rfl ?_
                refine W.guardU rfl ?_
                refine W.guardU rfl ?_
                refine W.guardF2 rfl c41 ?_
                refine W.pickT rfl rfl rfl c41 ?_
                refine W.nil ?_
                exact ⟨true, h, Wk.nrmTo [2, 3, 9, 64] [(10100, 10200)] rfl rfl⟩
              · replace h := iteF h c41
                refine W.guardT rfl c41 ?_
                refine W.fieldAddrO rfl rfl ?_
                refine W.guardT rfl c41 ?_
                refine W.loadO (p := .int .i64 e1.Kind) rfl rfl rfl rfl ?_
                refine W.guardT rfl c41 ?_
                refine W.eql rfl rfl ?_
                refine W.guardT rfl c41 ?_
                refine W.mv rfl ?_
                refine W.split 58 rfl (fun c42 => ?_) (fun c42 => ?_)
                · replace h := iteT h c42
                  refine W.guardT rfl c42 ?_
                  refine W.fieldAddrO rfl rfl ?_
                  refine W.guardT rfl c42 ?_
                  refine W.loadO (p := .int .i64 e1.Value) rfl rfl rfl rfl ?_
                  refine W.guardT rfl c42 ?_
                  obtain ⟨r15, k43, h⟩ := obind h
                  refine W.call (ref6_in_spec n e1.Value 0 1000000000 r15 k43) rfl rfl (Les.refl _) rfl (.inl rfl) rfl ?_
                  refine W.guardT rfl c42 ?_
                  refine W.not rfl ?_
                  refine W.guardT rfl c41 ?_
                  refine W.pickT rfl rfl rfl c42 ?_
                  refine W.pickN rfl rfl rfl c41 ?_
                  refine W.nil ?_
                  exact ⟨(!r15), h, Wk.nrmTo [2, 3, 9, 64] [(10100, 10200)] rfl rfl⟩
                · replace h := iteF h c42
                  refine W.guardF1 rfl c42 ?_
                  refine W.guardF1 rfl c42 ?_
                  refine W.guardF1 rfl c42 ?_
                  refine W.guardF1 rfl c42 ?_
                  refine W.guardT rfl c41 ?_
                  refine W.pickN rfl rfl rfl c42 ?_
                  refine W.pickN rfl rfl rfl c41 ?_
                  refine W.nil ?_
                  exact ⟨false, h, Wk.nrmTo [2, 3, 9, 64] [(10100, 10200)] rfl rfl⟩
            · replace h := iteF h c38
              refine W.guardF1 rfl c38 ?_
              refine W.guardF1 rfl c38 ?_
              refine W.guardF1 rfl c38 ?_
              refine W.guardF1 rfl c38 ?_
              refine W.guardF1 rfl c38 ?_
              refine W.guardF1 rfl c38 ?_
              refine W.pickN rfl rfl rfl c38 ?_
              refine W.mv rfl ?_
              refine W.guardT rfl rfl ?_
              refine W.fieldAddrO rfl rfl ?_
              refine W.guardT rfl rfl ?_
              refine W.loadO (p := .int .i64 e1.Kind) rfl rfl rfl rfl ?_
              refine W.guardT rfl rfl ?_
              refine W.eql rfl rfl ?_
              refine W.guardT rfl rfl ?_
              refine W.mv rfl ?_
              refine W.split 58 rfl (fun c44 => ?_) (fun c44 => ?_)
              · replace h := iteT h c44
                refine W.guardT rfl c44 ?_
                refine W.fieldAddrO rfl rfl ?_
                refine W.guardT rfl c44 ?_
                refine W.loadO (p := .int .i64 e1.Value) rfl rfl rfl rfl ?_
                refine W.guardT rfl c44 ?_
                obtain ⟨r16, k45, h⟩ := obind h
                refine W.call (ref6_in_spec n e1.Value 0 1000000000 r16 k45) rfl rfl (Les.refl _) rfl (.inl rfl) rfl ?_
                refine W.guardT rfl c44 ?_
                refine W.not rfl ?_
                refine W.guardT rfl rfl ?_
                refine W.pickT rfl rfl rfl c44 ?_
                refine W.pickN rfl rfl rfl rfl ?_
                refine W.nil ?_
                exact ⟨(!r16), h, Wk.nrmTo [2, 3, 9, 64] [(10100, 10200)] rfl rfl⟩
              · replace h := iteF h c44
                refine W.guardF1 rfl c44 ?_
                refine W.guardF1 rfl c44 ?_
                refine W.guardF1 rfl c44 ?_
                refine W.guardF1 rfl c44 ?_
                refine W.guardT rfl rfl ?_
                refine W.pickN rfl rfl rfl c44 ?_
                refine W.pickN rfl rfl rfl rfl ?_
                refine W.nil ?_
                exact ⟨false, h, Wk.nrmTo [2, 3, 9, 64] [(10100, 10200)] rfl rfl⟩
          · intro x6 h
            try dsimp only at h ⊢
            unfold ref6_eventCode_j2 at h
            refine Ev.cond rfl (fun c8 => ?_) (fun c8 => ?_)
            · replace h := iteT h c8
              refine Ev.seq ?_
              refine W.reg hm ?_
              refine W.mv rfl ?_
              refine W.nil ?_
              refine Ev.ret ?_
              injection h with h; subst h
              exact ⟨_, rfl, .refl _⟩
            · replace h := iteF h c8
              refine Ev.skip ?_
              refine Ev.seq ?_
              refine W.regD hm ?_
              refine W.mv rfl ?_
              refine W.mv rfl ?_
              obtain ⟨s7, k9, h⟩ := obind h
              refine W.sliceL (c := SKindWorkerJobValue.cells) rfl k9 (ix1 (gcut_some k9).2.2.2.1) ?_
              refine W.fieldAddrO rfl rfl ?_
              refine W.loadO (p := .int .i64 e1.Worker) rfl rfl rfl rfl ?_
              obtain ⟨r8, k10, h⟩ := obind h
              refine W.call (ref6_WorkingOn_spec n s7 e1.Worker r8 k10) rfl rfl (Les.refl _) rfl (.inl rfl) rfl ?_
              refine W.mv rfl ?_
              refine W.nil ⟨rfl, ?_⟩
              refine Ev.seq ?_
              refine Ev.seqJ (γ := Bool) (fun v => ⟨[(2, .list 4 (List.map SKindWorkerJobValue.cells a2)), (3, .int .i64 a3), (9, .pown 10300 0 0 0), (104, .bool v)], [(10300, ⟨0, 44, 4, [[.int .i64 e1.Kind, .int .i64 e1.Worker, .int .i64 e1.Job, .int .i64 e1.Value]], true, false, false⟩)], 2⟩) (fun v => ref6_eventCode_j3 n a2 a3 e1 v = some r) ?_ ?_
              · refine W.reg hm ?_
                refine W.fieldAddrO rfl rfl ?_
                refine W.loadO (p := .int .i64 e1.Kind) rfl rfl rfl rfl ?_
                refine W.eql rfl rfl ?_
                refine W.mv rfl ?_
                refine W.split 74 rfl (fun c16 => ?_) (fun c16 => ?_)
                · replace h := iteT h c16
                  refine W.guardT rfl c16 ?_
                  refine W.mv rfl ?_
                  refine W.guardT rfl c16 ?_
                  refine W.neq rfl rfl ?_
                  refine W.pickT rfl rfl rfl c16 ?_
                  refine W.mv rfl ?_
                  refine W.split 78 rfl (fun c17 => ?_) (fun c17 => ?_)
                  · replace h := iteT h c17
                    refine W.guardF2 rfl c17 ?_
                    refine W.guardF2 rfl c17 ?_
                    refine W.guardF2 rfl c17 ?_
                    refine W.guardF2 rfl c17 ?_
                    refine W.guardU rfl ?_
                    refine W.guardU rfl ?_
                    refine W.guardF2 rfl c17 ?_
                    refine W.pickT rfl rfl rfl c17 ?_
                    refine W.mv rfl ?_
                    refine W.guardF2 rfl rfl ?_
                    refine W.guardF2 rfl rfl ?_
                    refine W.guardF2 rfl rfl ?_
                    refine W.guardF2 rfl rfl ?_
                    refine W.guardU rfl ?_
                    refine W.guardU rfl ?_
                    refine W.guardF2 rfl rfl ?_
                    refine W.pickT rfl rfl rfl rfl ?_
                    refine W.mv rfl ?_
                    refine W.guardF2 rfl rfl ?_
                    refine W.guardF2 rfl rfl ?_
                    refine W.guardF2 rfl rfl ?_
                    refine W.guardF2 rfl rfl ?_
                    refine W.guardU rfl ?_
                    refine W.guardU rfl ?_
                    refine W.guardF2 rfl rfl ?_
                    refine W.pickT rfl rfl rfl rfl ?_
                    refine W.nil ?_
                    exact ⟨true, h, Wk.nrmTo [2, 3, 9, 104] [(10200, 10300)] rfl rfl⟩
                  · replace h := iteF h c17
                    refine W.guardT rfl c17 ?_
                    refine W.fieldAddrO rfl rfl ?_
                    refine W.guardT rfl c17 ?_
                    refine W.loadO (p := .int .i64 e1.Kind) rfl rfl rfl rfl ?_
                    refine W.guardT rfl c17 ?_
                    refine W.eql rfl rfl ?_
                    refine W.guardT rfl c17 ?_
                    refine W.mv rfl ?_
                    refine W.split 82 rfl (fun c18 => ?_) (fun c18 => ?_)
                    · replace h := iteT h c18
                      refine W.guardT rfl c18 ?_
                      refine W.mv rfl ?_
                      refine W.guardT rfl c18 ?_
                      refine W.lss rfl rfl ?_
                      refine W.guardT rfl c17 ?_
                      refine W.pickT rfl rfl rfl c18 ?_
                      refine W.pickN rfl rfl rfl c17 ?_
                      refine W.mv rfl ?_
                      refine W.split 87 rfl (fun c19 => ?_) (fun c19 => ?_)
                      · replace h := iteT h c19
                        refine W.guardF2 rfl c19 ?_
                        refine W.guardF2 rfl c19 ?_
                        refine W.guardF2 rfl c19 ?_
                        refine W.guardF2 rfl c19 ?_
                        refine W.guardU rfl ?_
                        refine W.guardU rfl ?_
                        refine W.guardF2 rfl c19 ?_
                        refine W.pickT rfl rfl rfl c19 ?_
                        refine W.mv rfl ?_
                        refine W.guardF2 rfl rfl ?_
                        refine W.guardF2 rfl rfl ?_
                        refine W.guardF2 rfl rfl ?_
                        refine W.guardF2 rfl rfl ?_
                        refine W.guardU rfl ?_
                        refine W.guardU rfl ?_
                        refine W.guardF2 rfl rfl ?_
                        refine W.pickT rfl rfl rfl rfl ?_
                        refine W.nil ?_
                        exact ⟨true, h, Wk.nrmTo [2, 3, 9, 104] [(10200, 10300)] rfl rfl⟩
                      · replace h := iteF h c19
                        refine W.guardT rfl c19 ?_
                        refine W.fieldAddrO rfl rfl ?_
                        refine W.guardT rfl c19 ?_
                        refine W.loadO (p := .int .i64 e1.Kind) rfl rfl rfl rfl ?_
                        refine W.guardT rfl c19 ?_
                        refine W.eql rfl rfl ?_
                        refine W.guardT rfl c19 ?_
                        refine W.mv rfl ?_
                        refine W.split 91 rfl (fun c20 => ?_) (fun c20 => ?_)
                        · replace h := iteT h c20
                          refine W.guardT rfl c20 ?_
                          refine W.mv rfl ?_
                          refine W.guardT rfl c20 ?_
                          refine W.eql rfl rfl ?_
                          refine W.guardT rfl c19 ?_
                          refine W.pickT rfl rfl rfl c20 ?_
                          refine W.pickN rfl rfl rfl c19 ?_
                          refine W.mv rfl ?_
                          refine W.split 96 rfl (fun c21 => ?_) (fun c21 => ?_)
                          · replace h := iteT h c21
                            refine W.guardF2 rfl c21 ?_
                            refine W.guardF2 rfl c21 ?_
                            refine W.guardF2 rfl c21 ?_
                            refine W.guardF2 rfl c21 ?_
                            refine W.guardU rfl ?_
                            refine W.guardU rfl ?_
                            refine W.guardF2 rfl c21 ?_
                            refine W.pickT rfl rfl rfl c21 ?_
                            refine W.nil ?_
                            exact ⟨true, h, Wk.nrmTo [2, 3, 9, 104] [(10200, 10300)] rfl rfl⟩
                          · replace h := iteF h c21
                            refine W.guardT rfl c21 ?_
                            refine W.fieldAddrO rfl rfl ?_
                            refine W.guardT rfl c21 ?_
                            refine W.loadO (p := .int .i64 e1.Kind) rfl rfl rfl rfl ?_
                            refine W.guardT rfl c21 ?_
                            refine W.eql rfl rfl ?_
                            refine W.guardT rfl c21 ?_
                            refine W.mv rfl ?_
                            refine W.split 100 rfl (fun c22 => ?_) (fun c22 => ?_)
                            · replace h := iteT h c22
                              refine W.guardT rfl c22 ?_
                              refine W.mv rfl ?_
                              refine W.guardT rfl c22 ?_
                              refine W.neq rfl rfl ?_
                              refine W.guardT rfl c21 ?_
                              refine W.pickT rfl rfl rfl c22 ?_
                              refine W.pickN rfl rfl rfl c21 ?_
                              refine W.nil ?_
                              exact ⟨(decide (r8 ≠ (-2))), h, Wk.nrmTo [2, 3, 9, 104] [(10200, 10300)] rfl rfl⟩
                            · replace h := iteF h c22
                              refine W.guardF1 rfl c22 ?_
                              refine W.guardF1 rfl c22 ?_
                              refine W.guardT rfl c21 ?_
                              refine W.pickN rfl rfl rfl c22 ?_
                              refine W.pickN rfl rfl rfl c21 ?_
                              refine W.nil ?_
                              exact ⟨false, h, Wk.nrmTo [2, 3, 9, 104] [(10200, 10300)] rfl rfl⟩
                        · replace h := iteF h c20
                          refine W.guardF1 rfl c20 ?_
                          refine W.guardF1 rfl c20 ?_
                          refine W.guardT rfl c19 ?_
                          refine W.pickN rfl rfl rfl c20 ?_
                          refine W.pickN rfl rfl rfl c19 ?_
                          refine W.mv rfl ?_
                          refine W.guardT rfl rfl ?_
                          refine W.fieldAddrO rfl rfl ?_
                          refine W.guardT rfl rfl ?_
                          refine W.loadO (p := .int .i64 e1.Kind) rfl rfl rfl rfl ?_
                          refine W.guardT rfl rfl ?_
                          refine W.eql rfl rfl ?_
                          refine W.guardT rfl rfl ?_
                          refine W.mv rfl ?_
                          refine W.split 100 rfl (fun c23 => ?_) (fun c23 => ?_)
                          · replace h := iteT h c23
                            refine W.guardT rfl c23 ?_
                            refine W.mv rfl ?_
                            refine W.guardT rfl c23 ?_
                            refine W.neq rfl rfl ?_
                            refine W.guardT rfl rfl ?_
                            refine W.pickT rfl rfl rfl c23 ?_
                            refine W.pickN rfl rfl rfl rfl ?_
                            refine W.nil ?_
                            exact ⟨(decide (r8 ≠ (-2))), h, Wk.nrmTo [2, 3, 9, 104] [(10200, 10300)] rfl rfl⟩
                          · replace h := iteF h c23
                            refine W.guardF1 rfl c23 ?_
                            refine W.guardF1 rfl c23 ?_
                            refine W.guardT rfl rfl ?_
                            refine W.pickN rfl rfl rfl c23 ?_
                            refine W.pickN rfl rfl rfl rfl ?_
                            refine W.nil ?_
                            exact ⟨false, h, Wk.nrmTo [2, 3, 9, 104] [(10200, 10300)] rfl rfl⟩
                    · replace h := iteF h c18
                      refine W.guardF1 rfl c18 ?_
                      refine W.guardF1 rfl c18 ?_
                      refine W.guardT rfl c17 ?_
                      refine W.pickN rfl rfl rfl c18 ?_
                      refine W.pickN rfl rfl rfl c17 ?_
                      refine W.mv rfl ?_
                      refine W.guardT rfl rfl ?_
                      refine W.fieldAddrO rfl rfl ?_
                      refine W.guardT rfl rfl ?_
                      refine W.loadO (p := .int .i64 e1.Kind) rfl rfl rfl rfl ?_
                      refine W.guardT rfl rfl ?_
                      refine W.eql rfl rfl ?_
                      refine W.guardT rfl rfl ?_
                      refine W.mv rfl ?_
                      refine W.split 91 rfl (fun c24 => ?_) (fun c24 => ?_)
                      · replace h := iteT h c24
                        refine W.guardT rfl c24 ?_
                        refine W.mv rfl ?_
                        refine W.guardT rfl c24 ?_
                        refine W.eql rfl rfl ?_
                        refine W.guardT rfl rfl ?_
                        refine W.pickT rfl rfl rfl c24 ?_
                        refine W.pickN rfl rfl rfl rfl ?_
                        refine W.mv rfl ?_
                        refine W.split 96 rfl (fun c25 => ?_) (fun c25 => ?_)
                        · replace h := iteT h c25
                          refine W.guardF2 rfl c25 ?_
                          refine W.guardF2 rfl c25 ?_
                          refine W.guardF2 rfl c25 ?_
                          refine W.guardF2 rfl c25 ?_
                          refine W.guardU rfl ?_
                          refine W.guardU rfl ?_
                          refine W.guardF2 rfl c25 ?_
                          refine W.pickT rfl rfl rfl c25 ?_
                          refine W.nil ?_
                          exact ⟨true, h, Wk.nrmTo [2, 3, 9, 104] [(10200, 10300)] rfl rfl⟩
                        · replace h := iteF h c25
                          refine W.guardT rfl c25 ?_
                          refine W.fieldAddrO rfl rfl ?_
                          refine W.guardT rfl c25 ?_
                          refine W.loadO (p := .int .i64 e1.Kind) rfl rfl rfl rfl ?_
                          refine W.guardT rfl c25 ?_
                          refine W.eql rfl rfl ?_
                          refine W.guardT rfl c25 ?_
                          refine W.mv rfl ?_
                          refine W.split 100 rfl (fun c26 => ?_) (fun c26 => ?_)
                          · replace h := iteT h c26
                            refine W.guardT rfl c26 ?_
                            refine W.mv rfl ?_
                            refine W.guardT rfl c26 ?_
                            refine W.neq rfl rfl ?_
                            refine W.guardT rfl c25 ?_
                            refine W.pickT rfl rfl rfl c26 ?_
                            refine W.pickN rfl rfl rfl c25 ?_
                            refine W.nil ?_
                            exact ⟨(decide (r8 ≠ (-2))), h, Wk.nrmTo [2, 3, 9, 104] [(10200, 10300)] rfl rfl⟩
                          · replace h := iteF h c26
                            refine W.guardF1 rfl c26 ?_
                            refine W.guardF1 rfl c26 ?_
                            refine W.guardT rfl c25 ?_
                            refine W.pickN rfl rfl rfl c26 ?_
                            refine W.pickN rfl rfl rfl c25 ?_
                            refine W.nil ?_
                            exact ⟨false, h, Wk.nrmTo [2, 3, 9, 104] [(10200, 10300)] rfl rfl⟩
                      · replace h := iteF h c24
                        refine W.guardF1 rfl c24 ?_
                        refine W.guardF1 rfl c24 ?_
                        refine W.guardT rfl rfl ?_
                        refine W.pickN rfl rfl rfl c24 ?_
                        refine W.pickN rfl rfl rfl rfl ?_
                        refine W.mv rfl ?_
                        refine W.guardT rfl rfl ?_
                        refine W.fieldAddrO rfl rfl ?_
                        refine W.guardT rfl rfl ?_
                        refine W.loadO (p := .int .i64 e1.Kind) rfl rfl rfl rfl ?_
                        refine W.guardT rfl rfl ?_
                        refine W.eql rfl rfl ?_
                        refine W.guardT rfl rfl ?_
                        refine W.mv rfl ?_
                        refine W.split 100 rfl (fun c27 => ?_) (fun c27 => ?_)
                        · replace h := iteT h c27
                          refine W.guardT rfl c27 ?_
                          refine W.mv rfl ?_
                          refine W.guardT rfl c27 ?_
                          refine W.neq rfl rfl ?_
                          refine W.guardT rfl rfl ?_
                          refine W.pickT rfl rfl rfl c27 ?_
                          refine W.pickN rfl rfl rfl rfl ?_
                          refine W.nil ?_
                          exact ⟨(decide (r8 ≠ (-2))), h, Wk.nrmTo [2, 3, 9, 104] [(10200, 10300)] rfl rfl⟩
                        · replace h := iteF h c27
                          refine W.guardF1 rfl c27 ?_
                          refine W.guardF1 rfl c27 ?_
                          refine W.guardT rfl rfl ?_
                          refine W.pickN rfl rfl rfl c27 ?_
                          refine W.pickN rfl rfl rfl rfl ?_
                          refine W.nil ?_
                          exact ⟨false, h, Wk.nrmTo [2, 3, 9, 104] [(10200, 10300)] rfl rfl⟩
                · replace h := iteF h c16
                  refine W.guardF1 rfl c16 ?_
                  refine W.guardF1 rfl c16 ?_
                  refine W.pickN rfl rfl rfl c16 ?_
                  refine W.mv rfl ?_
                  refine W.guardT rfl rfl ?_
                  refine W.fieldAddrO rfl rfl ?_
                  refine W.guardT rfl rfl ?_
                  refine W.loadO (p := .int .i64 e1.Kind) rfl rfl rfl rfl ?_
                  refine W.guardT rfl rfl ?_
                  refine W.eql rfl rfl ?_
                  refine W.guardT rfl rfl ?_
                  refine W.mv rfl ?_
                  refine W.split 82 rfl (fun c28 => ?_) (fun c28 => ?_)
                  · replace h := iteT h c28
                    refine W.guardT rfl c28 ?_
                    refine W.mv rfl ?_
                    refine W.guardT rfl c28 ?_
                    refine W.lss rfl rfl ?_
                    refine W.guardT rfl rfl ?_
                    refine W.pickT rfl rfl rfl c28 ?_
                    refine W.pickN rfl rfl rfl rfl ?_
                    refine W.mv rfl ?_
                    refine W.split 87 rfl (fun c29 => ?_) (fun c29 => ?_)
                    · replace h := iteT h c29
                      refine W.guardF2 rfl c29 ?_
                      refine W.guardF2 rfl c29 ?_
                      refine W.guardF2 rfl c29 ?_
                      refine W.guardF2 rfl c29 ?_
                      refine W.guardU rfl ?_
                      refine W.guardU rfl ?_
                      refine W.guardF2 rfl c29 ?_
                      refine W.pickT rfl rfl rfl c29 ?_
                      refine W.mv rfl ?_
                      refine W.guardF2 rfl rfl ?_
                      refine W.guardF2 rfl rfl ?_
                      refine W.guardF2 rfl rfl ?_
                      refine W.guardF2 rfl rfl ?_
                      refine W.guardU rfl ?_
                      refine W.guardU rfl ?_
                      refine W.guardF2 rfl rfl ?_
                      refine W.pickT rfl rfl rfl rfl ?_
                      refine W.nil ?_
                      exact ⟨true, h, Wk.nrmTo [2, 3, 9, 104] [(10200, 10300)] rfl rfl⟩
                    · replace h := iteF h c29
                      refine W.guardT rfl c29 ?_
                      refine W.fieldAddrO rfl rfl ?_
                      refine W.guardT rfl c29 ?_
                      refine W.loadO (p := .int .i64 e1.Kind) rfl rfl rfl rfl ?_
                      refine W.guardT rfl c29 ?_
                      refine W.eql rfl rfl ?_
                      refine W.guardT rfl c29 ?_
                      refine W.mv rfl ?_
                      refine W.split 91 rfl (fun c30 => ?_) (fun c30 => ?_)
                      · replace h := iteT h c30
                        refine W.guardT rfl c30 ?_
                        refine W.mv rfl ?_
                        refine W.guardT rfl c30 ?_
                        refine W.eql rfl rfl ?_
                        refine W.guardT rfl c29 ?_
                        refine W.pickT rfl rfl rfl c30 ?_
                        refine W.pickN rfl rfl rfl c29 ?_
                        refine W.mv rfl ?_
                        refine W.split 96 rfl (fun c31 => ?_) (fun c31 => ?_)
                        · replace h := iteT h c31
                          refine W.guardF2 rfl c31 ?_
                          refine W.guardF2 rfl c31 ?_
                          refine W.guardF2 rfl c31 ?_
                          refine W.guardF2 rfl c31 ?_
                          refine W.guardU rfl ?_
                          refine W.guardU rfl ?_
                          refine W.guardF2 rfl c31 ?_
                          refine W.pickT rfl rfl rfl c31 ?_
                          refine W.nil ?_
                          exact ⟨true, h, Wk.nrmTo [2, 3, 9, 104] [(10200, 10300)] rfl rfl⟩
                        · replace h := iteF h c31
                          refine W.guardT rfl c31 ?_
                          refine W.fieldAddrO rfl rfl ?_
                          refine W.guardT rfl c31 ?_
                          refine W.loadO (p := .int .i64 e1.Kind) rfl rfl rfl rfl ?_
                          refine W.guardT rfl c31 ?_
                          refine W.eql rfl rfl ?_
                          refine W.guardT rfl c31 ?_
                          refine W.mv rfl ?_
                          refine W.split 100 rfl (fun c32 => ?_) (fun c32 => ?_)
                          · replace h := iteT h c32
                            refine W.guardT rfl c32 ?_
                            refine W.mv rfl ?_
                            refine W.guardT rfl c32 ?_
                            refine W.neq rfl rfl ?_
                            refine W.guardT rfl c31 ?_
                            refine W.pickT rfl rfl rfl c32 ?_
                            refine W.pickN rfl rfl rfl c31 ?_
                            refine W.nil ?_
                            exact ⟨(decide (r8 ≠ (-2))), h, Wk.nrmTo [2, 3, 9, 104] [(10200, 10300)] rfl rfl⟩
                          · replace h := iteF h c32
                            refine W.guardF1 rfl c32 ?_
                            refine W.guardF1 rfl c32 ?_
                            refine W.guardT rfl c31 ?_
                            refine W.pickN rfl rfl rfl c32 ?_
                            refine W.pickN rfl rfl rfl c31 ?_
                            refine W.nil ?_
                            exact ⟨false, h, Wk.nrmTo [2, 3, 9, 104] [(10200, 10300)] rfl rfl⟩
                      · replace h := iteF h c30
                        refine W.guardF1 rfl c30 ?_
                        refine W.guardF1 rfl c30 ?_
                        refine W.guardT rfl c29 ?_
                        refine W.pickN rfl rfl rfl c30 ?_
                        refine W.pickN rfl rfl rfl c29 ?_
                        refine W.mv rfl ?_
                        refine W.guardT rfl rfl ?_
                        refine W.fieldAddrO rfl rfl ?_
                        refine W.guardT rfl rfl ?_
                        refine W.loadO (p := .int .i64 e1.Kind) rfl rfl rfl rfl ?_
                        refine W.guardT rfl rfl ?_
                        refine W.eql rfl rfl ?_
                        refine W.guardT rfl rfl ?_
                        refine W.mv rfl ?_
                        refine W.split 100 rfl (fun c33 => ?_) (fun c33 => ?_)
                        · replace h := iteT h c33
                          refine W.guardT rfl c33 ?_
                          refine W.mv rfl ?_
                          refine W.guardT rfl c33 ?_
                          refine W.neq rfl rfl ?_
                          refine W.guardT rfl rfl ?_
                          refine W.pickT rfl rfl rfl c33 ?_
                          refine W.pickN rfl rfl rfl rfl ?_
                          refine W.nil ?_
                          exact ⟨(decide (r8 ≠ (-2))), h, Wk.nrmTo [2, 3, 9, 104] [(10200, 10300)] rfl rfl⟩
                        · replace h := iteF h c33
                          refine W.guardF1 rfl c33 ?_
                          refine W.guardF1 rfl c33 ?_
                          refine W.guardT rfl rfl ?_
                          refine W.pickN rfl rfl rfl c33 ?_
                          refine W.pickN rfl rfl rfl rfl ?_
                          refine W.nil ?_
                          exact ⟨false, h, Wk.nrmTo [2, 3, 9, 104] [(10200, 10300)] rfl rfl⟩
                  · replace h := iteF h c28
                    refine W.guardF1 rfl c28 ?_
                    refine W.guardF1 rfl c28 ?_
                    refine W.guardT rfl rfl ?_
                    refine W.pickN rfl rfl rfl c28 ?_
                    refine W.pickN rfl rfl rfl rfl ?_
                    refine W.mv rfl ?_
                    refine W.guardT rfl rfl ?_
                    refine W.fieldAddrO rfl rfl ?_
                    refine W.guardT rfl rfl ?_
                    refine W.loadO (p := .int .i64 e1.Kind) rfl rfl rfl rfl ?_
                    refine W.guardT rfl rfl ?_
                    refine W.eql rfl rfl ?_
                    refine W.guardT rfl rfl ?_
                    refine W.mv rfl ?_
                    refine W.split 91 rfl (fun c34 => ?_) (fun c34 => ?_)
                    · replace h := iteT h c34
                      refine W.guardT rfl c34 ?_
                      refine W.mv rfl ?_
                      refine W.guardT rfl c34 ?_
                      refine W.eql rfl rfl ?_
                      refine W.guardT rfl rfl ?_
                      refine W.pickT rfl rfl rfl c34 ?_
                      refine W.pickN rfl rfl rfl rfl ?_
                      refine W.mv rfl ?_
                      refine W.split 96 rfl (fun c35 => ?_) (fun c35 => ?_)
                      · replace h := iteT h c35
                        refine W.guardF2 rfl c35 ?_
                        refine W.guardF2 rfl c35 ?_
                        refine W.guardF2 rfl c35 ?_
                        refine W.guardF2 rfl c35 ?_
                        refine W.guardU rfl ?_
                        refine W.guardU rfl ?_
                        refine W.guardF2 rfl c35 ?_
                        refine W.pickT rfl rfl rfl c35 ?_
                        refine W.nil ?_
                        exact ⟨true, h, Wk.nrmTo [2, 3, 9, 104] [(10200, 10300)] rfl rfl⟩
                      · replace h := iteF h c35
                        refine W.guardT rfl c35 ?_
                        refine W.fieldAddrO rfl rfl ?_
                        refine W.guardT rfl c35 ?_
                        refine W.loadO (p := .int .i64 e1.Kind) rfl rfl rfl rfl ?_
                        refine W.guardT rfl c35 ?_
                        refine W.eql rfl rfl ?_
                        refine W.guardT rfl c35 ?_
                        refine W.mv rfl ?_
                        refine W.split 100 rfl (fun c36 => ?_) (fun c36 => ?_)
                        · replace h := iteT h c36
                          refine W.guardT rfl c36 ?_
                          refine W.mv rfl ?_
                          refine W.guardT rfl c36 ?_
                          refine W.neq rfl rfl ?_
                          refine W.guardT rfl c35 ?_
                          refine W.pickT rfl rfl rfl c36 ?_
                          refine W.pickN rfl rfl rfl c35 ?_
                          refine W.nil ?_
                          exact ⟨(decide (r8 ≠ (-2))), h, Wk.nrmTo [2, 3, 9, 104] [(10200, 10300)] rfl rfl⟩
                        · replace h := iteF h c36
                          refine W.guardF1 rfl c36 ?_
                          refine W.guardF1 rfl c36 ?_
                          refine W.guardT rfl c35 ?_
                          refine W.pickN rfl rfl rfl c36 ?_
                          refine W.pickN rfl rfl rfl c35 ?_
                          refine W.nil ?_
                          exact ⟨false, h, Wk.nrmTo [2, 3, 9, 104] [(10200, 10300)] rfl rfl⟩
                    · replace h := iteF h c34
                      refine W.guardF1 rfl c34 ?_
                      refine W.guardF1 rfl c34 ?_
                      refine W.guardT rfl rfl ?_
                      refine W.pickN rfl rfl rfl c34 ?_
                      refine W.pickN rfl rfl rfl rfl ?_
                      refine W.mv rfl ?_
                      refine W.guardT rfl rfl ?_
                      refine W.fieldAddrO rfl rfl ?_
                      refine W.guardT rfl rfl ?_
                      refine W.loadO (p := .int .i64 e1.Kind) rfl rfl rfl rfl ?_
                      refine W.guardT rfl rfl ?_
                      refine W.eql rfl rfl ?_
                      refine W.guardT rfl rfl ?_
                      refine W.mv rfl ?_
                      refine W.split 100 rfl (fun c37 => ?_) (fun c37 => ?_)
                      · replace h := iteT h c37
                        refine W.guardT rfl c37 ?_
                        refine W.mv rfl ?_
                        refine W.guardT rfl c37 ?_
                        refine W.neq rfl rfl ?_
                        refine W.guardT rfl rfl ?_
                        refine W.pickT rfl rfl rfl c37 ?_
                        refine W.pickN rfl rfl rfl rfl ?_
                        refine W.nil ?_
                        exact ⟨(decide (r8 ≠ (-2))), h, Wk.nrmTo [2, 3, 9, 104] [(10200, 10300)] rfl rfl⟩
                      · replace h := iteF h c37
                        refine W.guardF1 rfl c37 ?_
                        refine W.guardF1 rfl c37 ?_
                        refine W.guardT rfl rfl ?_
                        refine W.pickN rfl rfl rfl c37 ?_
                        refine W.pickN rfl rfl rfl rfl ?_
                        refine W.nil ?_
                        exact ⟨false, h, Wk.nrmTo [2, 3, 9, 104] [(10200, 10300)] rfl rfl⟩
              · intro x9 h
                try dsimp only at h ⊢
                unfold ref6_eventCode_j3 at h
                refine Ev.cond rfl (fun c11 => ?_) (fun c11 => ?_)
                · replace h := iteT h c11
                  refine Ev.seq ?_
                  refine W.reg hm ?_
                  refine W.mv rfl ?_
                  refine W.nil ?_
                  refine Ev.ret ?_
                  injection h with h; subst h
                  exact ⟨_, rfl, .refl _⟩
                · replace h := iteF h c11
                  refine Ev.skip ?_
                  refine Ev.seq ?_
                  refine Ev.seqJ (γ := Bool) (fun v => ⟨[(118, .bool v)], [], 2⟩) (fun v => ref6_eventCode_j4 n v = some r) ?_ ?_
                  · refine W.regD hm ?_
                    refine W.fieldAddrO rfl rfl ?_
                    refine W.loadO (p := .int .i64 e1.Kind) rfl rfl rfl rfl ?_
                    refine W.eql rfl rfl ?_
                    refine W.mv rfl ?_
                    refine W.split 108 rfl (fun c13 => ?_) (fun c13 => ?_)
                    · replace h := iteT h c13
                      refine W.guardT rfl c13 ?_
                      refine W.mv rfl ?_
                      refine W.guardT rfl c13 ?_
                      refine W.mv rfl ?_
                      refine W.guardT rfl c13 ?_
                      obtain ⟨s11, k14, h⟩ := obind h
                      refine W.sliceL (c := SKindWorkerJobValue.cells) rfl k14 (ix1 (gcut_some k14).2.2.2.1) ?_
                      refine W.guardT rfl c13 ?_
                      refine W.fieldAddrO rfl rfl ?_
                      refine W.guardT rfl c13 ?_
                      refine W.loadO (p := .int .i64 e1.Worker) rfl rfl rfl rfl ?_
                      refine W.guardT rfl c13 ?_
                      refine W.fieldAddrO rfl rfl ?_
                      refine W.guardT rfl c13 ?_
                      refine W.loadO (p := .int .i64 e1.Job) rfl rfl rfl rfl ?_
                      refine W.guardT rfl c13 ?_
                      obtain ⟨r12, k15, h⟩ := obind h
                      refine W.call (ref6_Reported_spec n s11 e1.Worker e1.Job r12 k15) rfl rfl (Les.refl _) rfl (.inl rfl) rfl ?_
                      refine W.guardT rfl c13 ?_
                      refine W.geq rfl rfl ?_
                      refine W.pickT rfl rfl rfl c13 ?_
                      refine W.nil ⟨rfl, ?_⟩
                      exact ⟨(decide (0 ≤ r12)), h, Wk.nrmTo [118] [] rfl rfl⟩
                    · replace h := iteF h c13
                      refine W.guardF1 rfl c13 ?_
                      refine W.guardF1 rfl c13 ?_
                      refine W.guardF1 rfl c13 ?_
                      refine W.guardF1 rfl c13 ?_
                      refine W.guardF1 rfl c13 ?_
                      refine W.guardF1 rfl c13 ?_
                      refine W.guardF1 rfl c13 ?_
                      refine W.guardF1 rfl c13 ?_
                      refine W.guardF1 rfl c13 ?_
                      refine W.pickN rfl rfl rfl c13 ?_
                      refine W.nil ⟨rfl, ?_⟩
                      exact ⟨false, h, Wk.nrmTo [118] [] rfl rfl⟩
                  · intro x10 h
                    try dsimp only at h ⊢
                    unfold ref6_eventCode_j4 at h
                    refine Ev.cond rfl (fun c12 => ?_) (fun c12 => ?_)
                    · replace h := iteT h c12
                      refine Ev.seq ?_
                      refine W.reg hm ?_
                      refine W.mv rfl ?_
                      refine W.nil ?_
                      refine Ev.ret ?_
                      injection h with h; subst h
                      exact ⟨_, rfl, .refl _⟩
                    · replace h := iteF h c12
                      refine Ev.skip ?_
                      refine Ev.seq ?_
                      refine W.reg hm ?_
                      refine W.mv rfl ?_
                      refine W.nil ?_
                      refine Ev.ret ?_
                      injection h with h; subst h
                      exact ⟨_, rfl, .refl _⟩

theorem ref6_EventsFault_spec (n : Nat) (a0 : Int) (a1 : Int) (a2 : Int) (a3 : List SKindWorkerJobValue) (r : SCodeIndex) (h : ref6_EventsFault n a0 a1 a2 a3 = some r) : PSpec Try.prog 10 [.int .i64 a0, .int .i64 a1, .int .i64 a2, .list 4 (List.map SKindWorkerJobValue.cells a3)] (.agg (SCodeIndex.cells r)) := by
  unfold ref6_EventsFault at h
  refine spec_of Try.c_ref6_EventsFault (by simp) ?_
  unfold Try.l_ref6_EventsFault
  refine Ev.seq ?_
  refine W.reg hm ?_
  refine W.alloc (dt := true) rfl rfl rfl ?_
  refine W.nil ?_
  refine Ev.seq ?_
  refine W.reg hm ?_
  refine W.mv rfl ?_
  refine W.mv rfl ?_
  refine W.mv rfl ?_
  obtain ⟨r1, k1, h⟩ := obind h
  refine W.call (ref6_FarmFault_spec n a0 a1 a2 r1 k1) rfl rfl (Les.refl _) rfl (.inl rfl) rfl ?_
  refine W.alloc (dt := true) rfl rfl rfl ?_
  refine W.store (es' := [[.int .i64 r1.Code, .int .i64 r1.Index]]) (dt := true) rfl rfl rfl rfl rfl (Nat.le_of_ble_eq_true rfl) rfl rfl rfl rfl ?_
  refine W.nil ?_
  refine Ev.seq ?_
  refine Ev.seq ?_
  refine W.reg hm ?_
  refine W.fieldAddrO rfl rfl ?_
  refine W.loadO (p := .int .i64 r1.Code) rfl rfl rfl rfl ?_
  refine W.neq rfl rfl ?_
  refine W.nil ?_
  refine Ev.cond rfl (fun c2 => ?_) (fun c2 => ?_)
  · replace h := iteT h c2
    refine Ev.seq ?_
    refine W.reg hm ?_
    refine W.loadO (p := .agg [.int .i64 r1.Code, .int .i64 r1.Index]) rfl rfl rfl rfl ?_
    refine W.store (es' := [[.int .i64 r1.Code, .int .i64 r1.Index]]) (dt := true) rfl rfl rfl rfl rfl (Nat.le_of_ble_eq_true rfl) rfl rfl rfl rfl ?_
    refine W.nil ?_
    refine Ev.ret ?_
    injection h with h; subst h
    exact ⟨_, rfl, .refl _⟩
  · replace h := iteF h c2
    refine Ev.skip ?_
    refine Ev.seq ?_
    refine Ev.seq ?_
    refine W.reg hm ?_
    refine W.mv rfl ?_
    refine W.lenL (c := SKindWorkerJobValue.cells) rfl ?_
    refine W.gtr rfl rfl ?_
    refine W.nil ?_
    refine Ev.cond rfl (fun c3 => ?_) (fun c3 => ?_)
    · replace h := iteT h c3
      refine Ev.seq ?_
      refine W.reg hm ?_
      obtain ⟨r2, k4, h⟩ := obind h
      refine W.call (ref6_fault_spec n 2 (-1) r2 k4) rfl rfl (Les.refl _) rfl (.inl rfl) rfl ?_
      refine W.store (es' := [[.int .i64 r2.Code, .int .i64 r2.Index]]) (dt := true) rfl rfl rfl rfl rfl (Nat.le_of_ble_eq_true rfl) rfl rfl rfl rfl ?_
      refine W.nil ?_
      refine Ev.ret ?_
      injection h with h; subst h
      exact ⟨_, rfl, .refl _⟩
    · replace h := iteF h c3
      refine Ev.skip ?_
      refine Ev.seq ?_
      refine Ev.seq ?_
      refine W.reg hm ?_
      refine W.mv rfl ?_
      refine W.nil ?_
      refine Ev.block ?_
      refine Ev.loopW (β := Nat × Int) (fun v => ⟨[(0, .int .i64 a0), (1, .int .i64 a1), (3, .list 4 (List.map SKindWorkerJobValue.cells a3)), (8, .pown 10100 0 0 0), (10, .int .i64 v.2)], [(10100, ⟨0, 25, 2, [[.int .i64 0, .int .i64 0]], true, false, false⟩)], 2⟩) (fun v => ref6_EventsFault_l1 n a0 a1 a3 v.1 v.2 = some r) (fun v => v.1) (n, 0) (Wk.nrmTo [0, 1, 3, 8, 10] [(8, 10100)] rfl rfl) h ?_
      intro ⟨m1, x3⟩ h
      try dsimp only at h ⊢
      cases m1 with
      | zero => rw [ref6_EventsFault_l1] at h; cases h
      | succ m1 =>
        rw [ref6_EventsFault_l1] at h
        refine Ev.seq ?_
        refine Ev.seq ?_
        refine W.reg hm ?_
        refine W.mv rfl ?_
        refine W.mv rfl ?_
        refine W.lenL (c := SKindWorkerJobValue.cells) rfl ?_
        refine W.lss rfl rfl ?_
        refine W.nil ?_
        refine Ev.cond rfl (fun c5 => ?_) (fun c5 => ?_)
        · replace h := iteT h c5
          refine Ev.skip ?_
          refine Ev.seq ?_
          refine Ev.block ?_
          refine Ev.seq ?_
          refine W.reg hm ?_
          refine W.mv rfl ?_
          refine W.mv rfl ?_
          refine W.mv rfl ?_
          refine W.mv rfl ?_
          obtain ⟨r4, k6, h⟩ := obind h
          refine W.call (ref6_eventCode_spec n a0 a1 a3 x3 r4 k6) rfl rfl (Les.refl _) rfl (.inl rfl) rfl ?_
          refine W.mv rfl ?_
          refine W.nil ?_
          refine Ev.seq ?_
          refine W.reg hm ?_
          refine W.mv rfl ?_
          refine W.neq rfl rfl ?_
          refine W.nil ?_
          refine Ev.cond rfl (fun c7 => ?_) (fun c7 => ?_)
          · replace h := iteT h c7
            refine Ev.seq ?_
            refine W.reg hm ?_
            refine W.mv rfl ?_
            refine W.mv rfl ?_
            obtain ⟨r5, k8, h⟩ := obind h
            refine W.call (ref6_fault_spec n r4 x3 r5 k8) rfl rfl (Les.refl _) rfl (.inl rfl) rfl ?_
            refine W.store (es' := [[.int .i64 r5.Code, .int .i64 r5.Index]]) (dt := true) rfl rfl rfl rfl rfl (Nat.le_of_ble_eq_true rfl) rfl rfl rfl rfl ?_
            refine W.nil ?_
            refine Ev.ret ?_
            injection h with h; subst h
            exact ⟨_, rfl, .refl _⟩
          · replace h := iteF h c7
            refine Ev.skip ?_
            refine W.reg hm ?_
            refine W.mv rfl ?_
            obtain ⟨x6, k9, h⟩ := obind h
            refine W.addG rfl rfl k9 ?_
            refine W.mv rfl ?_
            refine W.nil ?_
            exact ⟨(m1, x6), h, Nat.lt_succ_self _, Wk.nrmTo [0, 1, 3, 8, 10] [(10100, 10100)] rfl rfl⟩
        · replace h := iteF h c5
          refine Ev.exit ?_
          refine Ev.seq ?_
          refine W.reg hm ?_
          refine W.build (cs := [.int .i64 0, .int .i64 0]) rfl rfl rfl ?_
          refine W.store (es' := [[.int .i64 0, .int .i64 0]]) (dt := true) rfl rfl rfl rfl rfl (Nat.le_of_ble_eq_true rfl) rfl rfl rfl rfl ?_
          refine W.nil ?_
          refine Ev.ret ?_
          injection h with h; subst h
          exact ⟨_, rfl, .refl _⟩

theorem ref6_Accepted_spec (n : Nat) (a0 : List SKindWorkerJobValue) (a1 : Int) (a2 : Int) (a3 : Int) (r : Int) (h : ref6_Accepted n a0 a1 a2 a3 = some r) : PSpec Try.prog 12 [.list 4 (List.map SKindWorkerJobValue.cells a0), .int .i64 a1, .int .i64 a2, .int .i64 a3] (.int .i64 r) := by
  unfold ref6_Accepted at h
  refine spec_of Try.c_ref6_Accepted (by simp) ?_
  unfold Try.l_ref6_Accepted
  refine Ev.seq ?_
  refine W.reg hm ?_
  refine W.mv rfl ?_
  refine W.nil ?_
  refine Ev.seq ?_
  refine Ev.seq ?_
  refine W.reg hm ?_
  refine W.mv rfl ?_
  refine W.nil ?_
  refine Ev.block ?_
  refine Ev.loopW (β := Nat × Int) (fun v => ⟨[(0, .list 4 (List.map SKindWorkerJobValue.cells a0)), (1, .int .i64 a1), (2, .int .i64 a2), (3, .int .i64 a3), (9, .int .i64 v.2)], [], 2⟩) (fun v => ref6_Accepted_l1 n a0 a1 a2 a3 v.1 v.2 = some r) (fun v => v.1) (n, 0) (Wk.nrmTo [0, 1, 2, 3, 9] [] rfl rfl) h ?_
  intro ⟨m1, x1⟩ h
  try dsimp only at h ⊢
  cases m1 with
  | zero => rw [ref6_Accepted_l1] at h; cases h
  | succ m1 =>
    rw [ref6_Accepted_l1] at h
    refine Ev.seq ?_
    refine Ev.seq ?_
    refine W.reg hm ?_
    refine W.mv rfl ?_
    refine W.mv rfl ?_
    refine W.lenL (c := SKindWorkerJobValue.cells) rfl ?_
    refine W.lss rfl rfl ?_
    refine W.nil ?_
    refine Ev.cond rfl (fun c1 => ?_) (fun c1 => ?_)
    · replace h := iteT h c1
      refine Ev.skip ?_
      refine Ev.seqJ (γ := Unit) (fun v => ⟨[(0, .list 4 (List.map SKindWorkerJobValue.cells a0)), (1, .int .i64 a1), (2, .int .i64 a2), (3, .int .i64 a3), (9, .int .i64 x1)], [], 2⟩) (fun v => ref6_Accepted_j1 n x1 (ref6_Accepted_l1 n a0 a1 a2 a3 m1) = some r) ?_ ?_
      · refine Ev.block ?_
        refine Ev.seq ?_
        refine Ev.seqJ (γ := Bool) (fun v => ⟨[(0, .list 4 (List.map SKindWorkerJobValue.cells a0)), (1, .int .i64 a1), (2, .int .i64 a2), (3, .int .i64 a3), (9, .int .i64 x1), (36, .bool v)], [], 2⟩) (fun v => ref6_Accepted_j2 n a0 a1 a2 a3 x1 (ref6_Accepted_l1 n a0 a1 a2 a3 m1) v = some r) ?_ ?_
        · refine W.regD hm ?_
          refine W.mv rfl ?_
          refine W.mv rfl ?_
          obtain ⟨e14, k14, h⟩ := obind h
          refine W.idxL (c := SKindWorkerJobValue.cells) rfl rfl k14 ?_
          refine W.fieldAddr rfl ?_
          refine W.load rfl rfl ?_
          refine W.neq rfl rfl ?_
          refine W.mv rfl ?_
          refine W.split 24 rfl (fun c15 => ?_) (fun c15 => ?_)
          · replace h := iteT h c15
            refine W.guardF2 rfl c15 ?_
            refine W.guardF2 rfl c15 ?_
            refine W.guardF2 rfl c15 ?_
            refine W.guardF2 rfl c15 ?_
            refine W.guardF2 rfl c15 ?_
            refine W.guardF2 rfl c15 ?_
            refine W.guardF2 rfl c15 ?_
            refine W.guardF2 rfl c15 ?_
            refine W.guardF2 rfl c15 ?_
            refine W.guardF2 rfl c15 ?_
            refine W.guardF2 rfl c15 ?_
            refine W.pickT rfl rfl rfl c15 ?_
            refine W.nil ⟨rfl, ?_⟩
            exact ⟨true, h, Wk.nrmTo [0, 1, 2, 3, 9, 36] [] rfl rfl⟩
          · replace h := iteF h c15
            refine W.guardT rfl c15 ?_
            refine W.mv rfl ?_
            refine W.guardT rfl c15 ?_
            refine W.mv rfl ?_
            refine W.guardT rfl c15 ?_
            obtain ⟨s15, k16, h⟩ := obind h
            refine W.sliceL (c := SKindWorkerJobValue.cells) rfl k16 (ix1 (gcut_some k16).2.2.2.1) ?_
            refine W.guardT rfl c15 ?_
            refine W.mv rfl ?_
            refine W.guardT rfl c15 ?_
            refine W.mv rfl ?_
            refine W.guardT rfl c15 ?_
            refine W.idxL (c := SKindWorkerJobValue.cells) rfl rfl k14 ?_
            refine W.guardT rfl c15 ?_
            refine W.fieldAddr rfl ?_
            refine W.guardT rfl c15 ?_
            refine W.load rfl rfl ?_
            refine W.guardT rfl c15 ?_
            obtain ⟨r16, k17, h⟩ := obind h
            refine W.call (ref6_WorkingOn_spec n s15 e14.Worker r16 k17) rfl rfl (Les.refl _) rfl (.inl rfl) rfl ?_
            refine W.guardT rfl c15 ?_
            refine W.mv rfl ?_
            refine W.guardT rfl c15 ?_
            refine W.neq rfl rfl ?_
            refine W.pickN rfl rfl rfl c15 ?_
            refine W.nil ⟨rfl, ?_⟩
            exact ⟨(decide (r16 ≠ a3)), h, Wk.nrmTo [0, 1, 2, 3, 9, 36] [] rfl rfl⟩
        · intro x3 h
          try dsimp only at h ⊢
          unfold ref6_Accepted_j2 at h
          refine Ev.cond rfl (fun c3 => ?_) (fun c3 => ?_)
          · replace h := iteT h c3
            refine Ev.exit ?_
            exact ⟨(), h, Wk.nrmTo [0, 1, 2, 3, 9] [] rfl rfl⟩
          · replace h := iteF h c3
            refine Ev.skip ?_
            refine Ev.seq ?_
            refine W.reg hm ?_
            refine W.mv rfl ?_
            refine W.nil ?_
            refine Ev.seq ?_
            refine Ev.seq ?_
            refine W.reg hm ?_
            refine W.mv rfl ?_
            refine W.nil ?_
            refine Ev.block ?_
            refine Ev.loopW (β := Nat × Int × Int) (fun v => ⟨[(0, .list 4 (List.map SKindWorkerJobValue.cells a0)), (1, .int .i64 a1), (2, .int .i64 a2), (3, .int .i64 a3), (9, .int .i64 x1), (10, .int .i64 v.2.1), (11, .int .i64 v.2.2)], [], 2⟩) (fun v => ref6_Accepted_l2 n a0 a1 a2 a3 x1 (ref6_Accepted_l1 n a0 a1 a2 a3 m1) v.1 v.2.1 v.2.2 = some r) (fun v => v.1) (n, 0, 0) (Wk.nrmTo [0, 1, 2, 3, 9, 10, 11] [] rfl rfl) h ?_
            intro ⟨m2, x4, x5⟩ h
            try dsimp only at h ⊢
            cases m2 with
            | zero => rw [ref6_Accepted_l2] at h; cases h
            | succ m2 =>
              rw [ref6_Accepted_l2] at h
              refine Ev.seq ?_
              refine Ev.seq ?_
              refine W.reg hm ?_
              refine W.mv rfl ?_
              refine W.mv rfl ?_
              refine W.lss rfl rfl ?_
              refine W.nil ?_
              refine Ev.cond rfl (fun c4 => ?_) (fun c4 => ?_)
              · replace h := iteT h c4
                refine Ev.skip ?_
                refine Ev.seqJ (γ := Int) (fun v => ⟨[(0, .list 4 (List.map SKindWorkerJobValue.cells a0)), (1, .int .i64 a1), (2, .int .i64 a2), (3, .int .i64 a3), (9, .int .i64 x1), (10, .int .i64 v), (11, .int .i64 x5)], [], 2⟩) (fun v => ref6_Accepted_j3 n x5 (ref6_Accepted_l2 n a0 a1 a2 a3 x1 (ref6_Accepted_l1 n a0 a1 a2 a3 m1) m2) v = some r) ?_ ?_
                · refine Ev.block ?_
                  refine Ev.seq ?_
                  refine W.regD hm ?_
                  refine W.mv rfl ?_
                  refine W.mv rfl ?_
                  obtain ⟨x8, k6, h⟩ := obind h
                  refine W.addG rfl rfl k6 ?_
                  obtain ⟨s9, k7, h⟩ := obind h
                  refine W.sliceL (c := SKindWorkerJobValue.cells) rfl k7 (ix1 (gcut_some k7).2.2.2.1) ?_
                  refine W.mv rfl ?_
                  refine W.mv rfl ?_
                  obtain ⟨r10, k8, h⟩ := obind h
                  refine W.call (ref6_Reported_spec n s9 x5 a3 r10 k8) rfl rfl (Les.refl _) rfl (.inl rfl) rfl ?_
                  refine W.mv rfl ?_
                  refine W.mv rfl ?_
                  obtain ⟨e11, k9, h⟩ := obind h
                  refine W.idxL (c := SKindWorkerJobValue.cells) rfl rfl k9 ?_
                  refine W.fieldAddr rfl ?_
                  refine W.load rfl rfl ?_
                  refine W.eql rfl rfl ?_
                  refine W.nil ⟨rfl, ?_⟩
                  refine Ev.cond rfl (fun c10 => ?_) (fun c10 => ?_)
                  · replace h := iteT h c10
                    refine W.reg hm ?_
                    refine W.mv rfl ?_
                    obtain ⟨x12, k11, h⟩ := obind h
                    refine W.addG rfl rfl k11 ?_
                    refine W.mv rfl ?_
                    refine W.nil ?_
                    exact ⟨x12, h, Wk.nrmTo [0, 1, 2, 3, 9, 10, 11] [] rfl rfl⟩
                  · replace h := iteF h c10
                    refine Ev.skip ?_
                    exact ⟨x4, h, Wk.nrmTo [0, 1, 2, 3, 9, 10, 11] [] rfl rfl⟩
                · intro x6 h
                  try dsimp only at h ⊢
                  unfold ref6_Accepted_j3 at h
                  refine W.reg hm ?_
                  refine W.mv rfl ?_
                  obtain ⟨x7, k5, h⟩ := obind h
                  refine W.addG rfl rfl k5 ?_
                  refine W.mv rfl ?_
                  refine W.nil ?_
                  exact ⟨(m2, x6, x7), h, Nat.lt_succ_self _, Wk.nrmTo [0, 1, 2, 3, 9, 10, 11] [] rfl rfl⟩
              · replace h := iteF h c4
                refine Ev.exit ?_
                refine Ev.seq ?_
                refine W.reg hm ?_
                refine W.mv rfl ?_
                refine W.mv rfl ?_
                refine W.geq rfl rfl ?_
                refine W.nil ?_
                refine Ev.cond rfl (fun c12 => ?_) (fun c12 => ?_)
                · replace h := iteT h c12
                  refine Ev.seq ?_
                  refine W.reg hm ?_
                  refine W.mv rfl ?_
                  refine W.mv rfl ?_
                  obtain ⟨e13, k13, h⟩ := obind h
                  refine W.idxL (c := SKindWorkerJobValue.cells) rfl rfl k13 ?_
                  refine W.fieldAddr rfl ?_
                  refine W.load rfl rfl ?_
                  refine W.mv rfl ?_
                  refine W.nil ?_
                  refine Ev.ret ?_
                  injection h with h; subst h
                  exact ⟨_, rfl, .refl _⟩
                · replace h := iteF h c12
                  refine Ev.skip ?_
                  exact ⟨(), h, Wk.nrmTo [0, 1, 2, 3, 9] [] rfl rfl⟩
      · intro _ h
        try dsimp only at h ⊢
        unfold ref6_Accepted_j1 at h
        refine W.reg hm ?_
        refine W.mv rfl ?_
        obtain ⟨x2, k2, h⟩ := obind h
        refine W.addG rfl rfl k2 ?_
        refine W.mv rfl ?_
        refine W.nil ?_
        exact ⟨(m1, x2), h, Nat.lt_succ_self _, Wk.nrmTo [0, 1, 2, 3, 9] [] rfl rfl⟩
    · replace h := iteF h c1
      refine Ev.exit ?_
      refine Ev.seq ?_
      refine W.reg hm ?_
      refine W.mv rfl ?_
      refine W.nil ?_
      refine Ev.ret ?_
      injection h with h; subst h
      exact ⟨_, rfl, .refl _⟩

theorem law6_in_spec (n : Nat) (a0 : Int) (a1 : Int) (a2 : Int) (r : Bool) (h : law6_in n a0 a1 a2 = some r) : PSpec Try.prog 13 [.int .i64 a0, .int .i64 a1, .int .i64 a2] (.bool r) := by
  unfold law6_in at h
  refine spec_of Try.c_law6_in (by simp) ?_
  unfold Try.l_law6_in
  refine Ev.seq ?_
  refine W.reg hm ?_
  refine W.mv rfl ?_
  refine W.nil ?_
  refine Ev.seqJ (γ := Bool) (fun v => ⟨[(6, .bool v)], [], 2⟩) (fun v => law6_in_j1 n v = some r) ?_ ?_
  · refine W.reg hm ?_
    refine W.mv rfl ?_
    refine W.mv rfl ?_
    refine W.geq rfl rfl ?_
    refine W.mv rfl ?_
    refine W.split 10 rfl (fun c1 => ?_) (fun c1 => ?_)
    · replace h := iteT h c1
      refine W.guardT rfl c1 ?_
      refine W.mv rfl ?_
      refine W.guardT rfl c1 ?_
      refine W.mv rfl ?_
      refine W.guardT rfl c1 ?_
      refine W.leq rfl rfl ?_
      refine W.pickT rfl rfl rfl c1 ?_
      refine W.mv rfl ?_
      refine W.nil ?_
      exact ⟨(decide (a0 ≤ a2)), h, Wk.nrmTo [6] [] rfl rfl⟩
    · replace h := iteF h c1
      refine W.guardF1 rfl c1 ?_
      refine W.guardF1 rfl c1 ?_
      refine W.guardF1 rfl c1 ?_
      refine W.pickN rfl rfl rfl c1 ?_
      refine W.mv rfl ?_
      refine W.nil ?_
      exact ⟨false, h, Wk.nrmTo [6] [] rfl rfl⟩
  · intro x1 h
    try dsimp only at h ⊢
    unfold law6_in_j1 at h
    refine Ev.ret ?_
    injection h with h; subst h
    exact ⟨_, rfl, .refl _⟩

theorem law6_WorkersMatchSpec_spec (n : Nat) (a0 : Int) (a1 : Int) (a2 : Int) (a3 : List SKindWorkerJobValue) (a4 : Int) (r : Bool) (h : law6_WorkersMatchSpec n a0 a1 a2 a3 a4 = some r) : PSpec Try.prog 3 [.int .i64 a0, .int .i64 a1, .int .i64 a2, .list 4 (List.map SKindWorkerJobValue.cells a3), .int .i64 a4] (.bool r) := by
  unfold law6_WorkersMatchSpec at h
  refine spec_of Try.c_law6_WorkersMatchSpec (by simp) ?_
  unfold Try.l_law6_WorkersMatchSpec
  refine Ev.seq ?_
  refine W.reg hm ?_
  refine W.mv rfl ?_
  refine W.nil ?_
  refine Ev.seq ?_
  refine Ev.seq ?_
  refine W.reg hm ?_
  obtain ⟨r1, k1, h⟩ := obind h
  refine W.call (law6_farms_spec n r1 k1) rfl rfl (Les.refl _) rfl (.inl rfl) rfl ?_
  refine W.not rfl ?_
  refine W.nil ?_
  refine Ev.cond rfl (fun c2 => ?_) (fun c2 => ?_)
  · replace h := iteT h c2
    refine Ev.seq ?_
    refine W.reg hm ?_
    refine W.mv rfl ?_
    refine W.nil ?_
    refine Ev.ret ?_
    injection h with h; subst h
    exact ⟨_, rfl, .refl _⟩
  · replace h := iteF h c2
    refine Ev.skip ?_
    refine Ev.seq ?_
    refine W.reg hm ?_
    refine W.mv rfl ?_
    refine W.mv rfl ?_
    refine W.mv rfl ?_
    refine W.mv rfl ?_
    obtain ⟨r2, k3, h⟩ := obind h
    refine W.call (ref6_EventsFault_spec n a0 a1 a2 a3 r2 k3) rfl rfl (Les.refl _) rfl (.inl rfl) rfl ?_
    refine W.alloc (dt := true) rfl rfl rfl ?_
    refine W.store (es' := [[.int .i64 r2.Code, .int .i64 r2.Index]]) (dt := true) rfl rfl rfl rfl rfl (Nat.le_of_ble_eq_true rfl) rfl rfl rfl rfl ?_
    refine W.nil ?_
    refine Ev.seq ?_
    refine W.reg hm ?_
    refine W.mv rfl ?_
    refine W.mv rfl ?_
    refine W.mv rfl ?_
    refine W.mv rfl ?_
    obtain ⟨r3, k4, h⟩ := obind h
    refine W.call (workers_Play_spec n a0 a1 a2 a3 r3 k4) rfl rfl (Les.refl _) rfl (.inl rfl) rfl ?_
    refine W.mv rfl ?_
    refine W.extract rfl rfl ?_
    refine W.extract rfl rfl ?_
    refine W.alloc (dt := true) rfl rfl rfl ?_
    refine W.mv rfl ?_
    refine W.store (es' := [[.int .i64 r3.2.Code, .int .i64 r3.2.Index]]) (dt := true) rfl rfl rfl rfl rfl (Nat.le_of_ble_eq_true rfl) rfl rfl rfl rfl ?_
    refine W.nil ?_
    refine Ev.seq ?_
    refine Ev.seqJ (γ := Bool) (fun v => ⟨[(0, .int .i64 a0), (1, .int .i64 a1), (2, .int .i64 a2), (3, .list 4 (List.map SKindWorkerJobValue.cells a3)), (4, .int .i64 a4), (11, .pown 10100 0 0 0), (12, .list 1 (List.map cI r3.1)), (13, .pown 10101 0 0 0), (55, .bool v)], [(10100, ⟨0, 25, 2, [[.int .i64 r2.Code, .int .i64 r2.Index]], true, false, false⟩), (10101, ⟨0, 25, 2, [[.int .i64 r3.2.Code, .int .i64 r3.2.Index]], true, false, false⟩)], 2⟩) (fun v => law6_WorkersMatchSpec_j1 n a0 a1 a2 a3 a4 r2 r3 v = some r) ?_ ?_
    · refine W.reg hm ?_
      refine W.loadO (p := .agg [.int .i64 r3.2.Code, .int .i64 r3.2.Index]) rfl rfl rfl rfl ?_
      refine W.loadO (p := .agg [.int .i64 r2.Code, .int .i64 r2.Index]) rfl rfl rfl rfl ?_
      refine W.eqs rfl rfl rfl ?_
      refine W.mv rfl ?_
      refine W.split 35 rfl (fun c25 => ?_) (fun c25 => ?_)
      · replace h := iteT h c25
        refine W.guardF2 rfl c25 ?_
        refine W.guardF2 rfl c25 ?_
        refine W.guardF2 rfl c25 ?_
        refine W.guardF2 rfl c25 ?_
        refine W.guardU rfl ?_
        refine W.guardU rfl ?_
        refine W.guardU rfl ?_
        refine W.guardF2 rfl c25 ?_
        refine W.pickT rfl rfl rfl c25 ?_
        refine W.mv rfl ?_
        refine W.guardF2 rfl rfl ?_
        refine W.guardF2 rfl rfl ?_
        refine W.guardF2 rfl rfl ?_
        refine W.guardF2 rfl rfl ?_
        refine W.guardU rfl ?_
        refine W.guardU rfl ?_
        refine W.guardU rfl ?_
        refine W.guardU rfl ?_
        refine W.guardF2 rfl rfl ?_
        refine W.pickT rfl rfl rfl rfl ?_
        refine W.nil ?_
        exact ⟨true, h, Wk.nrmTo [0, 1, 2, 3, 4, 11, 12, 13, 55] [(11, 10100), (13, 10101)] rfl rfl⟩
      · replace h := iteF h c25
        refine W.guardT rfl c25 ?_
        refine W.fieldAddrO rfl rfl ?_
        refine W.guardT rfl c25 ?_
        refine W.loadO (p := .int .i64 r2.Code) rfl rfl rfl rfl ?_
        refine W.guardT rfl c25 ?_
        refine W.neq rfl rfl ?_
        refine W.guardT rfl c25 ?_
        refine W.mv rfl ?_
        refine W.split 39 rfl (fun c26 => ?_) (fun c26 => ?_)
        · replace h := iteT h c26
          refine W.guardT rfl c26 ?_
          refine W.mv rfl ?_
          refine W.guardT rfl c26 ?_
          refine W.lenL (c := cI) rfl ?_
          refine W.guardT rfl c26 ?_
          refine W.gtr rfl rfl ?_
          refine W.guardT rfl c25 ?_
          refine W.pickT rfl rfl rfl c26 ?_
          refine W.pickN rfl rfl rfl c25 ?_
          refine W.mv rfl ?_
          refine W.split 45 rfl (fun c27 => ?_) (fun c27 => ?_)
          · replace h := iteT h c27
            refine W.guardF2 rfl c27 ?_
            refine W.guardF2 rfl c27 ?_
            refine W.guardF2 rfl c27 ?_
            refine W.guardF2 rfl c27 ?_
            refine W.guardU rfl ?_
            refine W.guardU rfl ?_
            refine W.guardU rfl ?_
            refine W.guardU rfl ?_
            refine W.guardF2 rfl c27 ?_
            refine W.pickT rfl rfl rfl c27 ?_
            refine W.nil ?_
            exact ⟨true, h, Wk.nrmTo [0, 1, 2, 3, 4, 11, 12, 13, 55] [(11, 10100), (13, 10101)] rfl rfl⟩
          · replace h := iteF h c27
            refine W.guardT rfl c27 ?_
            refine W.fieldAddrO rfl rfl ?_
            refine W.guardT rfl c27 ?_
            refine W.loadO (p := .int .i64 r2.Code) rfl rfl rfl rfl ?_
            refine W.guardT rfl c27 ?_
            refine W.eql rfl rfl ?_
            refine W.guardT rfl c27 ?_
            refine W.mv rfl ?_
            refine W.split 49 rfl (fun c28 => ?_) (fun c28 => ?_)
            · replace h := iteT h c28
              refine W.guardT rfl c28 ?_
              refine W.mv rfl ?_
              refine W.guardT rfl c28 ?_
              refine W.lenL (c := cI) rfl ?_
              refine W.guardT rfl c28 ?_
              refine W.mv rfl ?_
              refine W.guardT rfl c28 ?_
              refine W.neq rfl rfl ?_
              refine W.guardT rfl c27 ?_
              refine W.pickT rfl rfl rfl c28 ?_
              refine W.pickN rfl rfl rfl c27 ?_
              refine W.nil ?_
              exact ⟨(decide ((r3.1.length : Int) ≠ a0)), h, Wk.nrmTo [0, 1, 2, 3, 4, 11, 12, 13, 55] [(11, 10100), (13, 10101)] rfl rfl⟩
            · replace h := iteF h c28
              refine W.guardF1 rfl c28 ?_
              refine W.guardF1 rfl c28 ?_
              refine W.guardF1 rfl c28 ?_
              refine W.guardF1 rfl c28 ?_
              refine W.guardT rfl c27 ?_
              refine W.pickN rfl rfl rfl c28 ?_
              refine W.pickN rfl rfl rfl c27 ?_
              refine W.nil ?_
              exact ⟨false, h, Wk.nrmTo [0, 1, 2, 3, 4, 11, 12, 13, 55] [(11, 10100), (13, 10101)] rfl rfl⟩
        · replace h := iteF h c26
          refine W.guardF1 rfl c26 ?_
          refine W.guardF1 rfl c26 ?_
          refine W.guardF1 rfl c26 ?_
          refine W.guardT rfl c25 ?_
          refine W.pickN rfl rfl rfl c26 ?_
          refine W.pickN rfl rfl rfl c25 ?_
          refine W.mv rfl ?_
          refine W.guardT rfl rfl ?_
          refine W.fieldAddrO rfl rfl ?_
          refine W.guardT rfl rfl ?_
          refine W.loadO (p := .int .i64 r2.Code) rfl rfl rfl rfl ?_
          refine W.guardT rfl rfl ?_
          refine W.eql rfl rfl ?_
          refine W.guardT rfl rfl ?_
          refine W.mv rfl ?_
          refine W.split 49 rfl (fun c29 => ?_) (fun c29 => ?_)
          · replace h := iteT h c29
            refine W.guardT rfl c29 ?_
            refine W.mv rfl ?_
            refine W.guardT rfl c29 ?_
            refine W.lenL (c := cI) rfl ?_
            refine W.guardT rfl c29 ?_
            refine W.mv rfl ?_
            refine W.guardT rfl c29 ?_
            refine W.neq rfl rfl ?_
            refine W.guardT rfl rfl ?_
            refine W.pickT rfl rfl rfl c29 ?_
            refine W.pickN rfl rfl rfl rfl ?_
            refine W.nil ?_
            exact ⟨(decide ((r3.1.length : Int) ≠ a0)), h, Wk.nrmTo [0, 1, 2, 3, 4, 11, 12, 13, 55] [(11, 10100), (13, 10101)] rfl rfl⟩
          · replace h := iteF h c29
            refine W.guardF1 rfl c29 ?_
            refine W.guardF1 rfl c29 ?_
            refine W.guardF1 rfl c29 ?_
            refine W.guardF1 rfl c29 ?_
            refine W.guardT rfl rfl ?_
            refine W.pickN rfl rfl rfl c29 ?_
            refine W.pickN rfl rfl rfl rfl ?_
            refine W.nil ?_
            exact ⟨false, h, Wk.nrmTo [0, 1, 2, 3, 4, 11, 12, 13, 55] [(11, 10100), (13, 10101)] rfl rfl⟩
    · intro x4 h
      try dsimp only at h ⊢
      unfold law6_WorkersMatchSpec_j1 at h
      refine Ev.cond rfl (fun c5 => ?_) (fun c5 => ?_)
      · replace h := iteT h c5
        refine Ev.seq ?_
        refine W.reg hm ?_
        refine W.mv rfl ?_
        refine W.nil ?_
        refine Ev.ret ?_
        injection h with h; subst h
        exact ⟨_, rfl, .refl _⟩
      · replace h := iteF h c5
        refine Ev.skip ?_
        refine Ev.seq ?_
        refine Ev.seq ?_
        refine W.reg hm ?_
        refine W.mv rfl ?_
        refine W.nil ?_
        refine Ev.block ?_
        refine Ev.loopW (β := Nat × Int) (fun v => ⟨[(0, .int .i64 a0), (1, .int .i64 a1), (2, .int .i64 a2), (3, .list 4 (List.map SKindWorkerJobValue.cells a3)), (4, .int .i64 a4), (11, .pown 10200 0 0 0), (12, .list 1 (List.map cI r3.1)), (13, .pown 10201 0 0 0), (14, .int .i64 v.2)], [(10200, ⟨0, 25, 2, [[.int .i64 r2.Code, .int .i64 r2.Index]], true, false, false⟩), (10201, ⟨0, 25, 2, [[.int .i64 r3.2.Code, .int .i64 r3.2.Index]], true, false, false⟩)], 2⟩) (fun v => law6_WorkersMatchSpec_l1 n a0 a1 a2 a3 a4 r2 r3 v.1 v.2 = some r) (fun v => v.1) (n, 0) (Wk.nrmTo [0, 1, 2, 3, 4, 11, 12, 13, 14] [(10100, 10200), (10101, 10201)] rfl rfl) h ?_
        intro ⟨m1, x5⟩ h
        try dsimp only at h ⊢
        cases m1 with
        | zero => rw [law6_WorkersMatchSpec_l1] at h; cases h
        | succ m1 =>
          rw [law6_WorkersMatchSpec_l1] at h
          refine Ev.seq ?_
          refine Ev.seq ?_
          refine W.reg hm ?_
          refine W.mv rfl ?_
          refine W.mv rfl ?_
          refine W.lenL (c := cI) rfl ?_
          refine W.lss rfl rfl ?_
          refine W.nil ?_
          refine Ev.cond rfl (fun c6 => ?_) (fun c6 => ?_)
          · replace h := iteT h c6
            refine Ev.skip ?_
            refine Ev.seq ?_
            refine Ev.block ?_
            refine Ev.seq ?_
            refine W.regD hm ?_
            refine W.mv rfl ?_
            refine W.mv rfl ?_
            obtain ⟨e6, k7, h⟩ := obind h
            refine W.idxL (c := cI) rfl rfl k7 ?_
            refine W.load rfl rfl ?_
            refine W.mv rfl ?_
            refine W.mv rfl ?_
            refine W.mv rfl ?_
            refine W.mv rfl ?_
            obtain ⟨r7, k8, h⟩ := obind h
            refine W.call (ref6_Accepted_spec n a3 a1 a2 x5 r7 k8) rfl rfl (Les.refl _) rfl (.inl rfl) rfl ?_
            refine W.neq rfl rfl ?_
            refine W.nil ⟨rfl, ?_⟩
            refine Ev.cond rfl (fun c9 => ?_) (fun c9 => ?_)
            · replace h := iteT h c9
              refine Ev.seq ?_
              refine W.reg hm ?_
              refine W.mv rfl ?_
              refine W.nil ?_
              refine Ev.ret ?_
              injection h with h; subst h
              exact ⟨_, rfl, .refl _⟩
            · replace h := iteF h c9
              refine Ev.skip ?_
              refine W.reg hm ?_
              refine W.mv rfl ?_
              obtain ⟨x8, k10, h⟩ := obind h
              refine W.addG rfl rfl k10 ?_
              refine W.mv rfl ?_
              refine W.nil ?_
              exact ⟨(m1, x8), h, Nat.lt_succ_self _, Wk.nrmTo [0, 1, 2, 3, 4, 11, 12, 13, 14] [(10200, 10200), (10201, 10201)] rfl rfl⟩
          · replace h := iteF h c6
            refine Ev.exit ?_
            refine Ev.seqJ (γ := Int × Int) (fun v => ⟨[(0, .int .i64 a0), (1, .int .i64 a1), (2, .int .i64 a2), (3, .list 4 (List.map SKindWorkerJobValue.cells a3)), (4, .int .i64 a4), (11, .pown 10300 0 0 0), (13, .pown 10301 0 0 0)], [(10300, ⟨0, 25, 2, [[.int .i64 v.1, .int .i64 v.2]], true, false, false⟩), (10301, ⟨0, 25, 2, [[.int .i64 r3.2.Code, .int .i64 r3.2.Index]], true, false, false⟩)], 2⟩) (fun v => law6_WorkersMatchSpec_j2 n a0 a1 a2 a3 a4 v.1 v.2 = some r) ?_ ?_
            · refine Ev.seqJ (γ := Bool) (fun v => ⟨[(0, .int .i64 a0), (1, .int .i64 a1), (2, .int .i64 a2), (3, .list 4 (List.map SKindWorkerJobValue.cells a3)), (4, .int .i64 a4), (11, .pown 10400 0 0 0), (13, .pown 10401 0 0 0), (81, .bool v)], [(10400, ⟨0, 25, 2, [[.int .i64 r2.Code, .int .i64 r2.Index]], true, false, false⟩), (10401, ⟨0, 25, 2, [[.int .i64 r3.2.Code, .int .i64 r3.2.Index]], true, false, false⟩)], 2⟩) (fun v => law6_WorkersMatchSpec_j5 n a0 a1 a2 a3 a4 r2 v = some r) ?_ ?_
              · refine W.reg hm ?_
                refine W.fieldAddrO rfl rfl ?_
                refine W.loadO (p := .int .i64 r2.Code) rfl rfl rfl rfl ?_
                refine W.eql rfl rfl ?_
                refine W.mv rfl ?_
                refine W.split 75 rfl (fun c22 => ?_) (fun c22 => ?_)
                · replace h := iteT h c22
                  refine W.guardT rfl c22 ?_
                  refine W.mv rfl ?_
                  refine W.guardT rfl c22 ?_
                  refine W.mv rfl ?_
                  refine W.guardT rfl c22 ?_
                  obtain ⟨x20, k23, h⟩ := obind h
                  refine W.subG rfl rfl k23 ?_
                  refine W.guardT rfl c22 ?_
                  obtain ⟨r21, k24, h⟩ := obind h
                  refine W.call (law6_in_spec n a4 0 x20 r21 k24) rfl rfl (Les.refl _) rfl (.inl rfl) rfl ?_
                  refine W.guardT rfl c22 ?_
                  refine W.not rfl ?_
                  refine W.pickT rfl rfl rfl c22 ?_
                  refine W.nil ?_
                  exact ⟨(!r21), h, Wk.nrmTo [0, 1, 2, 3, 4, 11, 13, 81] [(10200, 10400), (10201, 10401)] rfl rfl⟩
                · replace h := iteF h c22
                  refine W.guardF1 rfl c22 ?_
                  refine W.guardF1 rfl c22 ?_
                  refine W.guardF1 rfl c22 ?_
                  refine W.guardF1 rfl c22 ?_
                  refine W.guardF1 rfl c22 ?_
                  refine W.pickN rfl rfl rfl c22 ?_
                  refine W.nil ?_
                  exact ⟨false, h, Wk.nrmTo [0, 1, 2, 3, 4, 11, 13, 81] [(10200, 10400), (10201, 10401)] rfl rfl⟩
              · intro x18 h
                try dsimp only at h ⊢
                unfold law6_WorkersMatchSpec_j5 at h
                refine Ev.cond rfl (fun c20 => ?_) (fun c20 => ?_)
                · replace h := iteT h c20
                  refine W.reg hm ?_
                  obtain ⟨r19, k21, h⟩ := obind h
                  refine W.call (law6_fault_spec n 3 (-2) r19 k21) rfl rfl (Les.refl _) rfl (.inl rfl) rfl ?_
                  refine W.store (es' := [[.int .i64 r19.Code, .int .i64 r19.Index]]) (dt := true) rfl rfl rfl rfl rfl (Nat.le_of_ble_eq_true rfl) rfl rfl rfl rfl ?_
                  refine W.nil ?_
                  exact ⟨(r19.Code, r19.Index), h, Wk.nrmTo [0, 1, 2, 3, 4, 11, 13] [(10400, 10300), (10401, 10301)] rfl rfl⟩
                · replace h := iteF h c20
                  refine Ev.skip ?_
                  exact ⟨(r2.Code, r2.Index), h, Wk.nrmTo [0, 1, 2, 3, 4, 11, 13] [(10400, 10300), (10401, 10301)] rfl rfl⟩
            · intro ⟨b9, b10⟩ h
              try dsimp only at h ⊢
              unfold law6_WorkersMatchSpec_j2 at h
              refine Ev.seq ?_
              refine W.reg hm ?_
              refine W.mv rfl ?_
              refine W.mv rfl ?_
              refine W.mv rfl ?_
              refine W.mv rfl ?_
              refine W.mv rfl ?_
              obtain ⟨r11, k11, h⟩ := obind h
              refine W.call (workers_Reports_spec n a0 a1 a2 a3 a4 r11 k11) rfl rfl (Les.refl _) rfl (.inl rfl) rfl ?_
              refine W.mv rfl ?_
              refine W.extract rfl rfl ?_
              refine W.extract rfl rfl ?_
              refine W.mv rfl ?_
              refine W.store (es' := [[.int .i64 r11.2.Code, .int .i64 r11.2.Index]]) (dt := true) rfl rfl rfl rfl rfl (Nat.le_of_ble_eq_true rfl) rfl rfl rfl rfl ?_
              refine W.nil ?_
              refine Ev.seq ?_
              refine Ev.seqJ (γ := Bool) (fun v => ⟨[(1, .int .i64 a1), (3, .list 4 (List.map SKindWorkerJobValue.cells a3)), (4, .int .i64 a4), (11, .pown 10400 0 0 0), (13, .pown 10401 0 0 0), (15, .list 1 (List.map cI r11.1)), (99, .bool v)], [(10400, ⟨0, 25, 2, [[.int .i64 b9, .int .i64 b10]], true, false, false⟩), (10401, ⟨0, 25, 2, [[.int .i64 r11.2.Code, .int .i64 r11.2.Index]], true, false, false⟩)], 2⟩) (fun v => law6_WorkersMatchSpec_j3 n a1 a3 a4 b9 b10 r11 v = some r) ?_ ?_
              · refine W.reg hm ?_
                refine W.loadO (p := .agg [.int .i64 r11.2.Code, .int .i64 r11.2.Index]) rfl rfl rfl rfl ?_
                refine W.loadO (p := .agg [.int .i64 b9, .int .i64 b10]) rfl rfl rfl rfl ?_
                refine W.eqs rfl rfl rfl ?_
                refine W.mv rfl ?_
                refine W.split 95 rfl (fun c19 => ?_) (fun c19 => ?_)
                · replace h := iteT h c19
                  refine W.guardF2 rfl c19 ?_
                  refine W.guardF2 rfl c19 ?_
                  refine W.guardF2 rfl c19 ?_
                  refine W.pickT rfl rfl rfl c19 ?_
                  refine W.nil ?_
                  exact ⟨true, h, Wk.nrmTo [1, 3, 4, 11, 13, 15, 99] [(10300, 10400), (10301, 10401)] rfl rfl⟩
                · replace h := iteF h c19
                  refine W.guardT rfl c19 ?_
                  refine W.fieldAddrO rfl rfl ?_
                  refine W.guardT rfl c19 ?_
                  refine W.loadO (p := .int .i64 b9) rfl rfl rfl rfl ?_
                  refine W.guardT rfl c19 ?_
                  refine W.neq rfl rfl ?_
                  refine W.pickN rfl rfl rfl c19 ?_
                  refine W.nil ?_
                  exact ⟨(decide (b9 ≠ 0)), h, Wk.nrmTo [1, 3, 4, 11, 13, 15, 99] [(10300, 10400), (10301, 10401)] rfl rfl⟩
              · intro x12 h
                try dsimp only at h ⊢
                unfold law6_WorkersMatchSpec_j3 at h
                refine Ev.cond rfl (fun c12 => ?_) (fun c12 => ?_)
                · replace h := iteT h c12
                  refine Ev.seqJ (γ := Bool) (fun v => ⟨[(10, .bool v)], [], 2⟩) (fun v => law6_WorkersMatchSpec_j4 n v = some r) ?_ ?_
                  · refine W.reg hm ?_
                    refine W.loadO (p := .agg [.int .i64 r11.2.Code, .int .i64 r11.2.Index]) rfl rfl rfl rfl ?_
                    refine W.loadO (p := .agg [.int .i64 b9, .int .i64 b10]) rfl rfl rfl rfl ?_
                    refine W.eqs rfl rfl rfl ?_
                    refine W.mv rfl ?_
                    refine W.split 103 rfl (fun c13 => ?_) (fun c13 => ?_)
                    · replace h := iteT h c13
                      refine W.guardT rfl c13 ?_
                      refine W.mv rfl ?_
                      refine W.guardT rfl c13 ?_
                      refine W.lenL (c := cI) rfl ?_
                      refine W.guardT rfl c13 ?_
                      refine W.eql rfl rfl ?_
                      refine W.pickT rfl rfl rfl c13 ?_
                      refine W.mv rfl ?_
                      refine W.nil ?_
                      exact ⟨(decide ((r11.1.length : Int) = 0)), h, Wk.nrmTo [10] [] rfl rfl⟩
                    · replace h := iteF h c13
                      refine W.guardF1 rfl c13 ?_
                      refine W.guardF1 rfl c13 ?_
                      refine W.guardF1 rfl c13 ?_
                      refine W.pickN rfl rfl rfl c13 ?_
                      refine W.mv rfl ?_
                      refine W.nil ?_
                      exact ⟨false, h, Wk.nrmTo [10] [] rfl rfl⟩
                  · intro x13 h
                    try dsimp only at h ⊢
                    unfold law6_WorkersMatchSpec_j4 at h
                    refine Ev.ret ?_
                    injection h with h; subst h
                    exact ⟨_, rfl, .refl _⟩
                · replace h := iteF h c12
                  refine Ev.skip ?_
                  refine Ev.seq ?_
                  refine Ev.seq ?_
                  refine W.reg hm ?_
                  refine W.mv rfl ?_
                  refine W.nil ?_
                  refine Ev.block ?_
                  refine Ev.loopW (β := Nat × Int) (fun v => ⟨[(1, .int .i64 a1), (3, .list 4 (List.map SKindWorkerJobValue.cells a3)), (4, .int .i64 a4), (15, .list 1 (List.map cI r11.1)), (16, .int .i64 v.2)], [], 2⟩) (fun v => law6_WorkersMatchSpec_l2 n a1 a3 a4 r11 v.1 v.2 = some r) (fun v => v.1) (n, 0) (Wk.nrmTo [1, 3, 4, 15, 16] [] rfl rfl) h ?_
                  intro ⟨m2, x14⟩ h
                  try dsimp only at h ⊢
                  cases m2 with
                  | zero => rw [law6_WorkersMatchSpec_l2] at h; cases h
                  | succ m2 =>
                    rw [law6_WorkersMatchSpec_l2] at h
                    refine Ev.seq ?_
                    refine Ev.seq ?_
                    refine W.reg hm ?_
                    refine W.mv rfl ?_
                    refine W.mv rfl ?_
                    refine W.lenL (c := cI) rfl ?_
                    refine W.lss rfl rfl ?_
                    refine W.nil ?_
                    refine Ev.cond rfl (fun c14 => ?_) (fun c14 => ?_)
                    · replace h := iteT h c14
                      refine Ev.skip ?_
                      refine Ev.seq ?_
                      refine Ev.block ?_
                      refine Ev.seq ?_
                      refine W.regD hm ?_
                      refine W.mv rfl ?_
                      refine W.mv rfl ?_
                      obtain ⟨e15, k15, h⟩ := obind h
                      refine W.idxL (c := cI) rfl rfl k15 ?_
                      refine W.load rfl rfl ?_
                      refine W.mv rfl ?_
                      refine W.mv rfl ?_
                      refine W.mv rfl ?_
                      obtain ⟨r16, k16, h⟩ := obind h
                      refine W.call (ref6_Reported_spec n a3 x14 a4 r16 k16) rfl rfl (Les.refl _) rfl (.inl rfl) rfl ?_
                      refine W.neq rfl rfl ?_
                      refine W.nil ⟨rfl, ?_⟩
                      refine Ev.cond rfl (fun c17 => ?_) (fun c17 => ?_)
                      · replace h := iteT h c17
                        refine Ev.seq ?_
                        refine W.reg hm ?_
                        refine W.mv rfl ?_
                        refine W.nil ?_
                        refine Ev.ret ?_
                        injection h with h; subst h
                        exact ⟨_, rfl, .refl _⟩
                      · replace h := iteF h c17
                        refine Ev.skip ?_
                        refine W.reg hm ?_
                        refine W.mv rfl ?_
                        obtain ⟨x17, k18, h⟩ := obind h
                        refine W.addG rfl rfl k18 ?_
                        refine W.mv rfl ?_
                        refine W.nil ?_
                        exact ⟨(m2, x17), h, Nat.lt_succ_self _, Wk.nrmTo [1, 3, 4, 15, 16] [] rfl rfl⟩
                    · replace h := iteF h c14
                      refine Ev.exit ?_
                      refine Ev.seq ?_
                      refine W.reg hm ?_
                      refine W.mv rfl ?_
                      refine W.lenL (c := cI) rfl ?_
                      refine W.mv rfl ?_
                      refine W.eql rfl rfl ?_
                      refine W.mv rfl ?_
                      refine W.nil ?_
                      refine Ev.ret ?_
                      injection h with h; subst h
                      exact ⟨_, rfl, .refl _⟩

theorem law6_free_spec (n : Nat) (a0 : List SKindWorkerJobValue) (a1 : Int) (a2 : Int) (r : Bool) (h : law6_free n a0 a1 a2 = some r) : PSpec Try.prog 18 [.list 4 (List.map SKindWorkerJobValue.cells a0), .int .i64 a1, .int .i64 a2] (.bool r) := by
  unfold law6_free at h
  refine spec_of Try.c_law6_free (by simp) ?_
  unfold Try.l_law6_free
  refine Ev.seq ?_
  refine W.reg hm ?_
  refine W.mv rfl ?_
  refine W.nil ?_
  refine Ev.seqJ (γ := Bool) (fun v => ⟨[(6, .bool v)], [], 2⟩) (fun v => law6_free_j1 n v = some r) ?_ ?_
  · refine W.reg hm ?_
    refine W.mv rfl ?_
    refine W.mv rfl ?_
    obtain ⟨r2, k1, h⟩ := obind h
    refine W.call (ref6_WorkingOn_spec n a0 a1 r2 k1) rfl rfl (Les.refl _) rfl (.inl rfl) rfl ?_
    refine W.eql rfl rfl ?_
    refine W.mv rfl ?_
    refine W.split 11 rfl (fun c2 => ?_) (fun c2 => ?_)
    · replace h := iteT h c2
      refine W.guardT rfl c2 ?_
      refine W.mv rfl ?_
      refine W.guardT rfl c2 ?_
      refine W.mv rfl ?_
      refine W.guardT rfl c2 ?_
      refine W.mv rfl ?_
      refine W.guardT rfl c2 ?_
      obtain ⟨r3, k3, h⟩ := obind h
      refine W.call (ref6_Reported_spec n a0 a1 a2 r3 k3) rfl rfl (Les.refl _) rfl (.inl rfl) rfl ?_
      refine W.guardT rfl c2 ?_
      refine W.lss rfl rfl ?_
      refine W.pickT rfl rfl rfl c2 ?_
      refine W.mv rfl ?_
      refine W.nil ?_
      exact ⟨(decide (r3 < 0)), h, Wk.nrmTo [6] [] rfl rfl⟩
    · replace h := iteF h c2
      refine W.guardF1 rfl c2 ?_
      refine W.guardF1 rfl c2 ?_
      refine W.guardF1 rfl c2 ?_
      refine W.guardF1 rfl c2 ?_
      refine W.guardF1 rfl c2 ?_
      refine W.pickN rfl rfl rfl c2 ?_
      refine W.mv rfl ?_
      refine W.nil ?_
      exact ⟨false, h, Wk.nrmTo [6] [] rfl rfl⟩
  · intro x1 h
    try dsimp only at h ⊢
    unfold law6_free_j1 at h
    refine Ev.ret ?_
    injection h with h; subst h
    exact ⟨_, rfl, .refl _⟩

theorem law6_WorkersNextMatchesSpec_spec (n : Nat) (a0 : Int) (a1 : Int) (a2 : Int) (a3 : List SKindWorkerJobValue) (r : Bool) (h : law6_WorkersNextMatchesSpec n a0 a1 a2 a3 = some r) : PSpec Try.prog 4 [.int .i64 a0, .int .i64 a1, .int .i64 a2, .list 4 (List.map SKindWorkerJobValue.cells a3)] (.bool r) := by
  unfold law6_WorkersNextMatchesSpec at h
  refine spec_of Try.c_law6_WorkersNextMatchesSpec (by simp) ?_
  unfold Try.l_law6_WorkersNextMatchesSpec
  refine Ev.seq ?_
  refine W.reg hm ?_
  refine W.mv rfl ?_
  refine W.nil ?_
  refine Ev.seq ?_
  refine W.reg hm ?_
  refine W.mv rfl ?_
  refine W.mv rfl ?_
  refine W.mv rfl ?_
  refine W.mv rfl ?_
  obtain ⟨r1, k1, h⟩ := obind h
  refine W.call (ref6_EventsFault_spec n a0 a1 a2 a3 r1 k1) rfl rfl (Les.refl _) rfl (.inl rfl) rfl ?_
  refine W.alloc (dt := true) rfl rfl rfl ?_
  refine W.store (es' := [[.int .i64 r1.Code, .int .i64 r1.Index]]) (dt := true) rfl rfl rfl rfl rfl (Nat.le_of_ble_eq_true rfl) rfl rfl rfl rfl ?_
  refine W.nil ?_
  refine Ev.seq ?_
  refine W.reg hm ?_
  refine W.mv rfl ?_
  refine W.mv rfl ?_
  refine W.mv rfl ?_
  refine W.mv rfl ?_
  obtain ⟨r2, k2, h⟩ := obind h
  refine W.call (workers_Next_spec n a0 a1 a2 a3 r2 k2) rfl rfl (Les.refl _) rfl (.inl rfl) rfl ?_
  refine W.mv rfl ?_
  refine W.extract rfl rfl ?_
  refine W.extract rfl rfl ?_
  refine W.extract rfl rfl ?_
  refine W.extract rfl rfl ?_
  refine W.alloc (dt := true) rfl rfl rfl ?_
  refine W.mv rfl ?_
  refine W.mv rfl ?_
  refine W.mv rfl ?_
  refine W.store (es' := [[.int .i64 r2.2.2.2.Code, .int .i64 r2.2.2.2.Index]]) (dt := true) rfl rfl rfl rfl rfl (Nat.le_of_ble_eq_true rfl) rfl rfl rfl rfl ?_
  refine W.nil ?_
  refine Ev.seq ?_
  refine Ev.seqJ (γ := Bool) (fun v => ⟨[(0, .int .i64 a0), (1, .int .i64 a1), (2, .int .i64 a2), (3, .list 4 (List.map SKindWorkerJobValue.cells a3)), (9, .pown 10100 0 0 0), (10, .int .i64 r2.1), (11, .int .i64 r2.2.1), (12, .bool r2.2.2.1), (49, .bool v)], [(10100, ⟨0, 25, 2, [[.int .i64 r1.Code, .int .i64 r1.Index]], true, false, false⟩)], 2⟩) (fun v => law6_WorkersNextMatchesSpec_j1 n a0 a1 a2 a3 r1 r2 v = some r) ?_ ?_
  · refine W.reg hm ?_
    obtain ⟨r13, k15, h⟩ := obind h
    refine W.call (law6_farms_spec n r13 k15) rfl rfl (Les.refl _) rfl (.inl rfl) rfl ?_
    refine W.not rfl ?_
    refine W.mv rfl ?_
    refine W.split 33 rfl (fun c16 => ?_) (fun c16 => ?_)
    · replace h := iteT h c16
      refine W.guardF2 rfl c16 ?_
      refine W.guardF2 rfl c16 ?_
      refine W.guardF2 rfl c16 ?_
      refine W.pickT rfl rfl rfl c16 ?_
      refine W.mv rfl ?_
      refine W.guardF2 rfl rfl ?_
      refine W.guardF2 rfl rfl ?_
      refine W.guardF2 rfl rfl ?_
      refine W.guardU rfl ?_
      refine W.guardU rfl ?_
      refine W.guardU rfl ?_
      refine W.guardU rfl ?_
      refine W.guardU rfl ?_
      refine W.guardU rfl ?_
      refine W.guardF2 rfl rfl ?_
      refine W.pickT rfl rfl rfl rfl ?_
      refine W.nil ?_
      exact ⟨true, h, Wk.nrmTo [0, 1, 2, 3, 9, 10, 11, 12, 49] [(9, 10100)] rfl rfl⟩
    · replace h := iteF h c16
      refine W.guardT rfl c16 ?_
      refine W.loadO (p := .agg [.int .i64 r2.2.2.2.Code, .int .i64 r2.2.2.2.Index]) rfl rfl rfl rfl ?_
      refine W.guardT rfl c16 ?_
      refine W.loadO (p := .agg [.int .i64 r1.Code, .int .i64 r1.Index]) rfl rfl rfl rfl ?_
      refine W.guardT rfl c16 ?_
      refine W.eqs rfl rfl rfl ?_
      refine W.pickN rfl rfl rfl c16 ?_
      refine W.mv rfl ?_
      refine W.split 38 rfl (fun c17 => ?_) (fun c17 => ?_)
      · replace h := iteT h c17
        refine W.guardF2 rfl c17 ?_
        refine W.guardF2 rfl c17 ?_
        refine W.guardF2 rfl c17 ?_
        refine W.guardU rfl ?_
        refine W.guardU rfl ?_
        refine W.guardU rfl ?_
        refine W.guardU rfl ?_
        refine W.guardU rfl ?_
        refine W.guardU rfl ?_
        refine W.guardF2 rfl c17 ?_
        refine W.pickT rfl rfl rfl c17 ?_
        refine W.nil ?_
        exact ⟨true, h, Wk.nrmTo [0, 1, 2, 3, 9, 10, 11, 12, 49] [(9, 10100)] rfl rfl⟩
      · replace h := iteF h c17
        refine W.guardT rfl c17 ?_
        refine W.mv rfl ?_
        refine W.guardT rfl c17 ?_
        refine W.not rfl ?_
        refine W.guardT rfl c17 ?_
        refine W.mv rfl ?_
        refine W.split 41 rfl (fun c18 => ?_) (fun c18 => ?_)
        · replace h := iteT h c18
          refine W.guardT rfl c18 ?_
          refine W.mv rfl ?_
          refine W.guardT rfl c18 ?_
          refine W.neq rfl rfl ?_
          refine W.guardT rfl c18 ?_
          refine W.mv rfl ?_
          refine W.split 44 rfl (fun c19 => ?_) (fun c19 => ?_)
          · replace h := iteT h c19
            refine W.guardF2 rfl c19 ?_
            refine W.guardF2 rfl c19 ?_
            refine W.guardT rfl c18 ?_
            refine W.pickT rfl rfl rfl c19 ?_
            refine W.guardT rfl c17 ?_
            refine W.pickT rfl rfl rfl c18 ?_
            refine W.pickN rfl rfl rfl c17 ?_
            refine W.nil ?_
            exact ⟨true, h, Wk.nrmTo [0, 1, 2, 3, 9, 10, 11, 12, 49] [(9, 10100)] rfl rfl⟩
          · replace h := iteF h c19
            refine W.guardT rfl c19 ?_
            refine W.mv rfl ?_
            refine W.guardT rfl c19 ?_
            refine W.neq rfl rfl ?_
            refine W.guardT rfl c18 ?_
            refine W.pickN rfl rfl rfl c19 ?_
            refine W.guardT rfl c17 ?_
            refine W.pickT rfl rfl rfl c18 ?_
            refine W.pickN rfl rfl rfl c17 ?_
            refine W.nil ?_
            exact ⟨(decide (r2.2.1 ≠ 0)), h, Wk.nrmTo [0, 1, 2, 3, 9, 10, 11, 12, 49] [(9, 10100)] rfl rfl⟩
        · replace h := iteF h c18
          refine W.guardF1 rfl c18 ?_
          refine W.guardF1 rfl c18 ?_
          refine W.guardF1 rfl c18 ?_
          refine W.guardU rfl ?_
          refine W.guardU rfl ?_
          refine W.guardF1 rfl c18 ?_
          refine W.guardT rfl c17 ?_
          refine W.pickN rfl rfl rfl c18 ?_
          refine W.pickN rfl rfl rfl c17 ?_
          refine W.nil ?_
          exact ⟨false, h, Wk.nrmTo [0, 1, 2, 3, 9, 10, 11, 12, 49] [(9, 10100)] rfl rfl⟩
  · intro x3 h
    try dsimp only at h ⊢
    unfold law6_WorkersNextMatchesSpec_j1 at h
    refine Ev.cond rfl (fun c3 => ?_) (fun c3 => ?_)
    · replace h := iteT h c3
      refine Ev.seq ?_
      refine W.reg hm ?_
      refine W.mv rfl ?_
      refine W.nil ?_
      refine Ev.ret ?_
      injection h with h; subst h
      exact ⟨_, rfl, .refl _⟩
    · replace h := iteF h c3
      refine Ev.skip ?_
      refine Ev.seq ?_
      refine Ev.seq ?_
      refine W.reg hm ?_
      refine W.mv rfl ?_
      refine W.nil ?_
      refine Ev.block ?_
      refine Ev.loopW (β := Nat × Int) (fun v => ⟨[(0, .int .i64 a0), (1, .int .i64 a1), (2, .int .i64 a2), (3, .list 4 (List.map SKindWorkerJobValue.cells a3)), (9, .pown 10200 0 0 0), (10, .int .i64 r2.1), (11, .int .i64 r2.2.1), (12, .bool r2.2.2.1), (14, .int .i64 v.2)], [(10200, ⟨0, 25, 2, [[.int .i64 r1.Code, .int .i64 r1.Index]], true, false, false⟩)], 2⟩) (fun v => law6_WorkersNextMatchesSpec_l1 n a0 a1 a2 a3 r1 r2 v.1 v.2 = some r) (fun v => v.1) (n, 0) (Wk.nrmTo [0, 1, 2, 3, 9, 10, 11, 12, 14] [(10100, 10200)] rfl rfl) h ?_
      intro ⟨m1, x4⟩ h
      try dsimp only at h ⊢
      cases m1 with
      | zero => rw [law6_WorkersNextMatchesSpec_l1] at h; cases h
      | succ m1 =>
        rw [law6_WorkersNextMatchesSpec_l1] at h
        refine Ev.seq ?_
        refine Ev.seqJ (γ := Bool) (fun v => ⟨[(0, .int .i64 a0), (1, .int .i64 a1), (2, .int .i64 a2), (3, .list 4 (List.map SKindWorkerJobValue.cells a3)), (9, .pown 10300 0 0 0), (10, .int .i64 r2.1), (11, .int .i64 r2.2.1), (12, .bool r2.2.2.1), (14, .int .i64 x4), (57, .bool v)], [(10300, ⟨0, 25, 2, [[.int .i64 r1.Code, .int .i64 r1.Index]], true, false, false⟩)], 2⟩) (fun v => law6_WorkersNextMatchesSpec_j2 n a1 a2 a3 r2 x4 (law6_WorkersNextMatchesSpec_l1 n a0 a1 a2 a3 r1 r2 m1) v = some r) ?_ ?_
        · refine W.reg hm ?_
          refine W.fieldAddrO rfl rfl ?_
          refine W.loadO (p := .int .i64 r1.Code) rfl rfl rfl rfl ?_
          refine W.eql rfl rfl ?_
          refine W.mv rfl ?_
          refine W.split 53 rfl (fun c14 => ?_) (fun c14 => ?_)
          · replace h := iteT h c14
            refine W.guardT rfl c14 ?_
            refine W.mv rfl ?_
            refine W.guardT rfl c14 ?_
            refine W.mv rfl ?_
            refine W.guardT rfl c14 ?_
            refine W.lss rfl rfl ?_
            refine W.pickT rfl rfl rfl c14 ?_
            refine W.nil ?_
            exact ⟨(decide (x4 < a0)), h, Wk.nrmTo [0, 1, 2, 3, 9, 10, 11, 12, 14, 57] [(10200, 10300)] rfl rfl⟩
          · replace h := iteF h c14
            refine W.guardF1 rfl c14 ?_
            refine W.guardF1 rfl c14 ?_
            refine W.guardF1 rfl c14 ?_
            refine W.pickN rfl rfl rfl c14 ?_
            refine W.nil ?_
            exact ⟨false, h, Wk.nrmTo [0, 1, 2, 3, 9, 10, 11, 12, 14, 57] [(10200, 10300)] rfl rfl⟩
        · intro x5 h
          try dsimp only at h ⊢
          unfold law6_WorkersNextMatchesSpec_j2 at h
          refine Ev.cond rfl (fun c4 => ?_) (fun c4 => ?_)
          · replace h := iteT h c4
            refine Ev.skip ?_
            refine Ev.seq ?_
            refine Ev.block ?_
            refine Ev.seq ?_
            refine W.reg hm ?_
            refine W.mv rfl ?_
            refine W.nil ?_
            refine Ev.block ?_
            refine Ev.loopW (β := Nat × Int) (fun v => ⟨[(0, .int .i64 a0), (1, .int .i64 a1), (2, .int .i64 a2), (3, .list 4 (List.map SKindWorkerJobValue.cells a3)), (9, .pown 10400 0 0 0), (10, .int .i64 r2.1), (11, .int .i64 r2.2.1), (12, .bool r2.2.2.1), (14, .int .i64 x4), (15, .int .i64 v.2)], [(10400, ⟨0, 25, 2, [[.int .i64 r1.Code, .int .i64 r1.Index]], true, false, false⟩)], 2⟩) (fun v => law6_WorkersNextMatchesSpec_l2 n a1 a2 a3 r2 x4 (law6_WorkersNextMatchesSpec_l1 n a0 a1 a2 a3 r1 r2 m1) v.1 v.2 = some r) (fun v => v.1) (n, 0) (Wk.nrmTo [0, 1, 2, 3, 9, 10, 11, 12, 14, 15] [(10300, 10400)] rfl rfl) h ?_
            intro ⟨m2, x6⟩ h
            try dsimp only at h ⊢
            cases m2 with
            | zero => rw [law6_WorkersNextMatchesSpec_l2] at h; cases h
            | succ m2 =>
              rw [law6_WorkersNextMatchesSpec_l2] at h
              refine Ev.seq ?_
              refine Ev.seq ?_
              refine W.reg hm ?_
              refine W.mv rfl ?_
              refine W.mv rfl ?_
              refine W.lss rfl rfl ?_
              refine W.nil ?_
              refine Ev.cond rfl (fun c5 => ?_) (fun c5 => ?_)
              · replace h := iteT h c5
                refine Ev.skip ?_
                refine Ev.seq ?_
                refine Ev.block ?_
                refine Ev.seqJ (γ := Bool) (fun v => ⟨[(0, .int .i64 a0), (1, .int .i64 a1), (2, .int .i64 a2), (3, .list 4 (List.map SKindWorkerJobValue.cells a3)), (9, .pown 10500 0 0 0), (10, .int .i64 r2.1), (11, .int .i64 r2.2.1), (12, .bool r2.2.2.1), (14, .int .i64 x4), (15, .int .i64 x6), (76, .bool v)], [(10500, ⟨0, 25, 2, [[.int .i64 r1.Code, .int .i64 r1.Index]], true, false, false⟩)], 2⟩) (fun v => law6_WorkersNextMatchesSpec_j3 n r2 x4 x6 (law6_WorkersNextMatchesSpec_l2 n a1 a2 a3 r2 x4 (law6_WorkersNextMatchesSpec_l1 n a0 a1 a2 a3 r1 r2 m1) m2) v = some r) ?_ ?_
                · refine W.reg hm ?_
                  refine W.mv rfl ?_
                  refine W.mv rfl ?_
                  refine W.mv rfl ?_
                  refine W.mv rfl ?_
                  obtain ⟨r10, k10, h⟩ := obind h
                  refine W.call (ref6_Accepted_spec n a3 a1 a2 x4 r10 k10) rfl rfl (Les.refl _) rfl (.inl rfl) rfl ?_
                  refine W.lss rfl rfl ?_
                  refine W.mv rfl ?_
                  refine W.split 71 rfl (fun c11 => ?_) (fun c11 => ?_)
                  · replace h := iteT h c11
                    refine W.guardT rfl c11 ?_
                    refine W.mv rfl ?_
                    refine W.guardT rfl c11 ?_
                    refine W.mv rfl ?_
                    refine W.guardT rfl c11 ?_
                    refine W.mv rfl ?_
                    refine W.guardT rfl c11 ?_
                    obtain ⟨r11, k12, h⟩ := obind h
                    refine W.call (law6_free_spec n a3 x6 x4 r11 k12) rfl rfl (Les.refl _) rfl (.inl rfl) rfl ?_
                    refine W.pickT rfl rfl rfl c11 ?_
                    refine W.nil ?_
                    exact ⟨r11, h, Wk.nrmTo [0, 1, 2, 3, 9, 10, 11, 12, 14, 15, 76] [(10400, 10500)] rfl rfl⟩
                  · replace h := iteF h c11
                    refine W.guardF1 rfl c11 ?_
                    refine W.guardF1 rfl c11 ?_
                    refine W.guardF1 rfl c11 ?_
                    refine W.guardF1 rfl c11 ?_
                    refine W.pickN rfl rfl rfl c11 ?_
                    refine W.nil ?_
                    exact ⟨false, h, Wk.nrmTo [0, 1, 2, 3, 9, 10, 11, 12, 14, 15, 76] [(10400, 10500)] rfl rfl⟩
                · intro x7 h
                  try dsimp only at h ⊢
                  unfold law6_WorkersNextMatchesSpec_j3 at h
                  refine Ev.cond rfl (fun c6 => ?_) (fun c6 => ?_)
                  · replace h := iteT h c6
                    refine Ev.seqJ (γ := Bool) (fun v => ⟨[(8, .bool v)], [], 2⟩) (fun v => law6_WorkersNextMatchesSpec_j4 n v = some r) ?_ ?_
                    · refine W.reg hm ?_
                      refine W.mv rfl ?_
                      refine W.mv rfl ?_
                      refine W.split 78 rfl (fun c7 => ?_) (fun c7 => ?_)
                      · replace h := iteT h c7
                        refine W.guardT rfl c7 ?_
                        refine W.mv rfl ?_
                        refine W.guardT rfl c7 ?_
                        refine W.mv rfl ?_
                        refine W.guardT rfl c7 ?_
                        refine W.eql rfl rfl ?_
                        refine W.pickT rfl rfl rfl c7 ?_
                        refine W.mv rfl ?_
                        refine W.split 83 rfl (fun c8 => ?_) (fun c8 => ?_)
                        · replace h := iteT h c8
                          refine W.guardT rfl c8 ?_
                          refine W.mv rfl ?_
                          refine W.guardT rfl c8 ?_
                          refine W.mv rfl ?_
                          refine W.guardT rfl c8 ?_
                          refine W.eql rfl rfl ?_
                          refine W.pickT rfl rfl rfl c8 ?_
                          refine W.mv rfl ?_
                          refine W.nil ?_
                          exact ⟨(decide (r2.2.1 = x6)), h, Wk.nrmTo [8] [] rfl rfl⟩
                        · replace h := iteF h c8
                          refine W.guardF1 rfl c8 ?_
                          refine W.guardF1 rfl c8 ?_
                          refine W.guardF1 rfl c8 ?_
                          refine W.pickN rfl rfl rfl c8 ?_
                          refine W.mv rfl ?_
                          refine W.nil ?_
                          exact ⟨false, h, Wk.nrmTo [8] [] rfl rfl⟩
                      · replace h := iteF h c7
                        refine W.guardF1 rfl c7 ?_
                        refine W.guardF1 rfl c7 ?_
                        refine W.guardF1 rfl c7 ?_
                        refine W.pickN rfl rfl rfl c7 ?_
                        refine W.mv rfl ?_
                        refine W.guardF1 rfl rfl ?_
                        refine W.guardF1 rfl rfl ?_
                        refine W.guardF1 rfl rfl ?_
                        refine W.pickN rfl rfl rfl rfl ?_
                        refine W.mv rfl ?_
                        refine W.nil ?_
                        exact ⟨false, h, Wk.nrmTo [8] [] rfl rfl⟩
                    · intro x8 h
                      try dsimp only at h ⊢
                      unfold law6_WorkersNextMatchesSpec_j4 at h
                      refine Ev.ret ?_
                      injection h with h; subst h
                      exact ⟨_, rfl, .refl _⟩
                  · replace h := iteF h c6
                    refine Ev.skip ?_
                    refine W.reg hm ?_
                    refine W.mv rfl ?_
                    obtain ⟨x9, k9, h⟩ := obind h
                    refine W.addG rfl rfl k9 ?_
                    refine W.mv rfl ?_
                    refine W.nil ?_
                    exact ⟨(m2, x9), h, Nat.lt_succ_self _, Wk.nrmTo [0, 1, 2, 3, 9, 10, 11, 12, 14, 15] [(10500, 10400)] rfl rfl⟩
              · replace h := iteF h c5
                refine Ev.exit ?_
                refine W.reg hm ?_
                refine W.mv rfl ?_
                obtain ⟨x12, k13, h⟩ := obind h
                refine W.addG rfl rfl k13 ?_
                refine W.mv rfl ?_
                refine W.nil ?_
                exact ⟨(m1, x12), h, Nat.lt_succ_self _, Wk.nrmTo [0, 1, 2, 3, 9, 10, 11, 12, 14] [(10400, 10200)] rfl rfl⟩
          · replace h := iteF h c4
            refine Ev.exit ?_
            refine Ev.seq ?_
            refine W.reg hm ?_
            refine W.mv rfl ?_
            refine W.not rfl ?_
            refine W.mv rfl ?_
            refine W.nil ?_
            refine Ev.ret ?_
            injection h with h; subst h
            exact ⟨_, rfl, .refl _⟩

theorem law6_WorkersLiarsAreOutvoted_spec (n : Nat) (a0 : Int) (a1 : Int) (a2 : Int) (a3 : List SKindWorkerJobValue) (a4 : Int) (a5 : Int) (r : Bool) (h : law6_WorkersLiarsAreOutvoted n a0 a1 a2 a3 a4 a5 = some r) : PSpec Try.prog 5 [.int .i64 a0, .int .i64 a1, .int .i64 a2, .list 4 (List.map SKindWorkerJobValue.cells a3), .int .i64 a4, .int .i64 a5] (.bool r) := by
  unfold law6_WorkersLiarsAreOutvoted at h
  refine spec_of Try.c_law6_WorkersLiarsAreOutvoted (by simp) ?_
  unfold Try.l_law6_WorkersLiarsAreOutvoted
  refine Ev.seq ?_
  refine W.reg hm ?_
  refine W.mv rfl ?_
  refine W.nil ?_
  refine Ev.seq ?_
  refine W.reg hm ?_
  refine W.mv rfl ?_
  refine W.mv rfl ?_
  refine W.mv rfl ?_
  refine W.mv rfl ?_
  obtain ⟨r1, k1, h⟩ := obind h
  refine W.call (workers_Play_spec n a0 a1 a2 a3 r1 k1) rfl rfl (Les.refl _) rfl (.inl rfl) rfl ?_
  refine W.mv rfl ?_
  refine W.extract rfl rfl ?_
  refine W.extract rfl rfl ?_
  refine W.alloc (dt := true) rfl rfl rfl ?_
  refine W.mv rfl ?_
  refine W.store (es' := [[.int .i64 r1.2.Code, .int .i64 r1.2.Index]]) (dt := true) rfl rfl rfl rfl rfl (Nat.le_of_ble_eq_true rfl) rfl rfl rfl rfl ?_
  refine W.nil ?_
  refine Ev.seq ?_
  refine W.reg hm ?_
  refine W.mv rfl ?_
  refine W.mv rfl ?_
  refine W.mv rfl ?_
  refine W.mv rfl ?_
  refine W.mv rfl ?_
  obtain ⟨r2, k2, h⟩ := obind h
  refine W.call (workers_Reports_spec n a0 a1 a2 a3 a4 r2 k2) rfl rfl (Les.refl _) rfl (.inl rfl) rfl ?_
  refine W.mv rfl ?_
  refine W.extract rfl rfl ?_
  refine W.extract rfl rfl ?_
  refine W.alloc (dt := true) rfl rfl rfl ?_
  refine W.mv rfl ?_
  refine W.store (es' := [[.int .i64 r2.2.Code, .int .i64 r2.2.Index]]) (dt := true) rfl rfl rfl rfl rfl (Nat.le_of_ble_eq_true rfl) rfl rfl rfl rfl ?_
  refine W.nil ?_
  refine Ev.seq ?_
  refine Ev.seqJ (γ := Bool) (fun v => ⟨[(2, .int .i64 a2), (4, .int .i64 a4), (5, .int .i64 a5), (13, .list 1 (List.map cI r1.1)), (14, .pown 10100 0 0 0), (15, .list 1 (List.map cI r2.1)), (16, .pown 10101 0 0 0), (47, .bool v)], [(10100, ⟨0, 25, 2, [[.int .i64 r1.2.Code, .int .i64 r1.2.Index]], true, false, false⟩), (10101, ⟨0, 25, 2, [[.int .i64 r2.2.Code, .int .i64 r2.2.Index]], true, false, false⟩)], 2⟩) (fun v => law6_WorkersLiarsAreOutvoted_j1 n a2 a4 a5 r1 r2 v = some r) ?_ ?_
  · refine W.reg hm ?_
    obtain ⟨r17, k22, h⟩ := obind h
    refine W.call (law6_farms_spec n r17 k22) rfl rfl (Les.refl _) rfl (.inl rfl) rfl ?_
    refine W.not rfl ?_
    refine W.mv rfl ?_
    refine W.split 38 rfl (fun c23 => ?_) (fun c23 => ?_)
    · replace h := iteT h c23
      refine W.guardF2 rfl c23 ?_
      refine W.guardF2 rfl c23 ?_
      refine W.guardF2 rfl c23 ?_
      refine W.pickT rfl rfl rfl c23 ?_
      refine W.mv rfl ?_
      refine W.guardF2 rfl rfl ?_
      refine W.guardF2 rfl rfl ?_
      refine W.guardF2 rfl rfl ?_
      refine W.pickT rfl rfl rfl rfl ?_
      refine W.nil ?_
      exact ⟨true, h, Wk.nrmTo [2, 4, 5, 13, 14, 15, 16, 47] [(14, 10100), (16, 10101)] rfl rfl⟩
    · replace h := iteF h c23
      refine W.guardT rfl c23 ?_
      refine W.fieldAddrO rfl rfl ?_
      refine W.guardT rfl c23 ?_
      refine W.loadO (p := .int .i64 r1.2.Code) rfl rfl rfl rfl ?_
      refine W.guardT rfl c23 ?_
      refine W.neq rfl rfl ?_
      refine W.pickN rfl rfl rfl c23 ?_
      refine W.mv rfl ?_
      refine W.split 43 rfl (fun c24 => ?_) (fun c24 => ?_)
      · replace h := iteT h c24
        refine W.guardF2 rfl c24 ?_
        refine W.guardF2 rfl c24 ?_
        refine W.guardF2 rfl c24 ?_
        refine W.pickT rfl rfl rfl c24 ?_
        refine W.nil ?_
        exact ⟨true, h, Wk.nrmTo [2, 4, 5, 13, 14, 15, 16, 47] [(14, 10100), (16, 10101)] rfl rfl⟩
      · replace h := iteF h c24
        refine W.guardT rfl c24 ?_
        refine W.fieldAddrO rfl rfl ?_
        refine W.guardT rfl c24 ?_
        refine W.loadO (p := .int .i64 r2.2.Code) rfl rfl rfl rfl ?_
        refine W.guardT rfl c24 ?_
        refine W.neq rfl rfl ?_
        refine W.pickN rfl rfl rfl c24 ?_
        refine W.nil ?_
        exact ⟨(decide (r2.2.Code ≠ 0)), h, Wk.nrmTo [2, 4, 5, 13, 14, 15, 16, 47] [(14, 10100), (16, 10101)] rfl rfl⟩
  · intro x3 h
    try dsimp only at h ⊢
    unfold law6_WorkersLiarsAreOutvoted_j1 at h
    refine Ev.cond rfl (fun c3 => ?_) (fun c3 => ?_)
    · replace h := iteT h c3
      refine Ev.seqJ (γ := Bool) (fun v => ⟨[(12, .bool v)], [], 2⟩) (fun v => law6_WorkersLiarsAreOutvoted_j2 n v = some r) ?_ ?_
      · refine W.reg hm ?_
        obtain ⟨r5, k4, h⟩ := obind h
        refine W.call (law6_farms_spec n r5 k4) rfl rfl (Les.refl _) rfl (.inl rfl) rfl ?_
        refine W.mv rfl ?_
        refine W.split 49 rfl (fun c5 => ?_) (fun c5 => ?_)
        · replace h := iteT h c5
          refine W.guardT rfl c5 ?_
          refine W.fieldAddrO rfl rfl ?_
          refine W.guardT rfl c5 ?_
          refine W.loadO (p := .int .i64 r1.2.Code) rfl rfl rfl rfl ?_
          refine W.guardT rfl c5 ?_
          refine W.eql rfl rfl ?_
          refine W.guardT rfl c5 ?_
          refine W.mv rfl ?_
          refine W.split 53 rfl (fun c6 => ?_) (fun c6 => ?_)
          · replace h := iteT h c6
            refine W.guardF2 rfl c6 ?_
            refine W.guardF2 rfl c6 ?_
            refine W.guardF2 rfl c6 ?_
            refine W.guardT rfl c5 ?_
            refine W.pickT rfl rfl rfl c6 ?_
            refine W.pickT rfl rfl rfl c5 ?_
            refine W.mv rfl ?_
            refine W.guardT rfl rfl ?_
            refine W.fieldAddrO rfl rfl ?_
            refine W.guardT rfl rfl ?_
            refine W.loadO (p := .int .i64 r2.2.Code) rfl rfl rfl rfl ?_
            refine W.guardT rfl rfl ?_
            refine W.eql rfl rfl ?_
            refine W.guardT rfl rfl ?_
            refine W.mv rfl ?_
            refine W.split 63 rfl (fun c7 => ?_) (fun c7 => ?_)
            · replace h := iteT h c7
              refine W.guardF2 rfl c7 ?_
              refine W.guardF2 rfl c7 ?_
              refine W.guardF2 rfl c7 ?_
              refine W.guardT rfl rfl ?_
              refine W.pickT rfl rfl rfl c7 ?_
              refine W.pickT rfl rfl rfl rfl ?_
              refine W.mv rfl ?_
              refine W.nil ?_
              exact ⟨true, h, Wk.nrmTo [12] [] rfl rfl⟩
            · replace h := iteF h c7
              refine W.guardT rfl c7 ?_
              refine W.mv rfl ?_
              refine W.guardT rfl c7 ?_
              refine W.lenL (c := cI) rfl ?_
              refine W.guardT rfl c7 ?_
              refine W.eql rfl rfl ?_
              refine W.guardT rfl rfl ?_
              refine W.pickN rfl rfl rfl c7 ?_
              refine W.pickT rfl rfl rfl rfl ?_
              refine W.mv rfl ?_
              refine W.nil ?_
              exact ⟨(decide ((r2.1.length : Int) = 0)), h, Wk.nrmTo [12] [] rfl rfl⟩
          · replace h := iteF h c6
            refine W.guardT rfl c6 ?_
            refine W.mv rfl ?_
            refine W.guardT rfl c6 ?_
            refine W.lenL (c := cI) rfl ?_
            refine W.guardT rfl c6 ?_
            refine W.eql rfl rfl ?_
            refine W.guardT rfl c5 ?_
            refine W.pickN rfl rfl rfl c6 ?_
            refine W.pickT rfl rfl rfl c5 ?_
            refine W.mv rfl ?_
            refine W.split 59 rfl (fun c8 => ?_) (fun c8 => ?_)
            · replace h := iteT h c8
              refine W.guardT rfl c8 ?_
              refine W.fieldAddrO rfl rfl ?_
              refine W.guardT rfl c8 ?_
              refine W.loadO (p := .int .i64 r2.2.Code) rfl rfl rfl rfl ?_
              refine W.guardT rfl c8 ?_
              refine W.eql rfl rfl ?_
              refine W.guardT rfl c8 ?_
              refine W.mv rfl ?_
              refine W.split 63 rfl (fun c9 => ?_) (fun c9 => ?_)
              · replace h := iteT h c9
                refine W.guardF2 rfl c9 ?_
                refine W.guardF2 rfl c9 ?_
                refine W.guardF2 rfl c9 ?_
                refine W.guardT rfl c8 ?_
                refine W.pickT rfl rfl rfl c9 ?_
                refine W.pickT rfl rfl rfl c8 ?_
                refine W.mv rfl ?_
                refine W.nil ?_
                exact ⟨true, h, Wk.nrmTo [12] [] rfl rfl⟩
              · replace h := iteF h c9
                refine W.guardT rfl c9 ?_
                refine W.mv rfl ?_
                refine W.guardT rfl c9 ?_
                refine W.lenL (c := cI) rfl ?_
                refine W.guardT rfl c9 ?_
                refine W.eql rfl rfl ?_
                refine W.guardT rfl c8 ?_
                refine W.pickN rfl rfl rfl c9 ?_
                refine W.pickT rfl rfl rfl c8 ?_
                refine W.mv rfl ?_
                refine W.nil ?_
                exact ⟨(decide ((r2.1.length : Int) = 0)), h, Wk.nrmTo [12] [] rfl rfl⟩
            · replace h := iteF h c8
              refine W.guardF1 rfl c8 ?_
              refine W.guardF1 rfl c8 ?_
              refine W.guardF1 rfl c8 ?_
              refine W.guardF1 rfl c8 ?_
              refine W.guardU rfl ?_
              refine W.guardU rfl ?_
              refine W.guardU rfl ?_
              refine W.guardF1 rfl c8 ?_
              refine W.pickN rfl rfl rfl c8 ?_
              refine W.mv rfl ?_
              refine W.nil ?_
              exact ⟨false, h, Wk.nrmTo [12] [] rfl rfl⟩
        · replace h := iteF h c5
          refine W.guardF1 rfl c5 ?_
          refine W.guardF1 rfl c5 ?_
          refine W.guardF1 rfl c5 ?_
          refine W.guardF1 rfl c5 ?_
          refine W.guardU rfl ?_
          refine W.guardU rfl ?_
          refine W.guardU rfl ?_
          refine W.guardF1 rfl c5 ?_
          refine W.pickN rfl rfl rfl c5 ?_
          refine W.mv rfl ?_
          refine W.guardF1 rfl rfl ?_
          refine W.guardF1 rfl rfl ?_
          refine W.guardF1 rfl rfl ?_
          refine W.guardF1 rfl rfl ?_
          refine W.guardU rfl ?_
          refine W.guardU rfl ?_
          refine W.guardU rfl ?_
          refine W.guardF1 rfl rfl ?_
          refine W.pickN rfl rfl rfl rfl ?_
          refine W.mv rfl ?_
          refine W.nil ?_
          exact ⟨false, h, Wk.nrmTo [12] [] rfl rfl⟩
      · intro x4 h
        try dsimp only at h ⊢
        unfold law6_WorkersLiarsAreOutvoted_j2 at h
        refine Ev.ret ?_
        injection h with h; subst h
        exact ⟨_, rfl, .refl _⟩
    · replace h := iteF h c3
      refine Ev.skip ?_
      refine Ev.seq ?_
      refine W.reg hm ?_
      refine W.mv rfl ?_
      refine W.nil ?_
      refine Ev.seq ?_
      refine Ev.seq ?_
      refine W.reg hm ?_
      refine W.mv rfl ?_
      refine W.nil ?_
      refine Ev.block ?_
      refine Ev.loopW (β := Nat × Int × Int) (fun v => ⟨[(2, .int .i64 a2), (4, .int .i64 a4), (5, .int .i64 a5), (13, .list 1 (List.map cI r1.1)), (15, .list 1 (List.map cI r2.1)), (17, .int .i64 v.2.1), (18, .int .i64 v.2.2)], [], 2⟩) (fun v => law6_WorkersLiarsAreOutvoted_l1 n a2 a4 a5 r1 r2 v.1 v.2.1 v.2.2 = some r) (fun v => v.1) (n, 0, 0) (Wk.nrmTo [2, 4, 5, 13, 15, 17, 18] [] rfl rfl) h ?_
      intro ⟨m1, x6, x7⟩ h
      try dsimp only at h ⊢
      cases m1 with
      | zero => rw [law6_WorkersLiarsAreOutvoted_l1] at h; cases h
      | succ m1 =>
        rw [law6_WorkersLiarsAreOutvoted_l1] at h
        refine Ev.seq ?_
        refine Ev.seq ?_
        refine W.reg hm ?_
        refine W.mv rfl ?_
        refine W.mv rfl ?_
        refine W.lenL (c := cI) rfl ?_
        refine W.lss rfl rfl ?_
        refine W.nil ?_
        refine Ev.cond rfl (fun c10 => ?_) (fun c10 => ?_)
        · replace h := iteT h c10
          refine Ev.skip ?_
          refine Ev.seqJ (γ := Int) (fun v => ⟨[(2, .int .i64 a2), (4, .int .i64 a4), (5, .int .i64 a5), (13, .list 1 (List.map cI r1.1)), (15, .list 1 (List.map cI r2.1)), (17, .int .i64 v), (18, .int .i64 x7)], [], 2⟩) (fun v => law6_WorkersLiarsAreOutvoted_j3 n x7 (law6_WorkersLiarsAreOutvoted_l1 n a2 a4 a5 r1 r2 m1) v = some r) ?_ ?_
          · refine Ev.block ?_
            refine Ev.seqJ (γ := Bool) (fun v => ⟨[(2, .int .i64 a2), (4, .int .i64 a4), (5, .int .i64 a5), (13, .list 1 (List.map cI r1.1)), (15, .list 1 (List.map cI r2.1)), (17, .int .i64 x6), (18, .int .i64 x7), (87, .bool v)], [], 2⟩) (fun v => law6_WorkersLiarsAreOutvoted_j4 n x6 x7 (law6_WorkersLiarsAreOutvoted_l1 n a2 a4 a5 r1 r2 m1) v = some r) ?_ ?_
            · refine W.reg hm ?_
              refine W.mv rfl ?_
              refine W.mv rfl ?_
              obtain ⟨e12, k14, h⟩ := obind h
              refine W.idxL (c := cI) rfl rfl k14 ?_
              refine W.load rfl rfl ?_
              refine W.geq rfl rfl ?_
              refine W.mv rfl ?_
              refine W.split 80 rfl (fun c15 => ?_) (fun c15 => ?_)
              · replace h := iteT h c15
                refine W.guardT rfl c15 ?_
                refine W.mv rfl ?_
                refine W.guardT rfl c15 ?_
                refine W.mv rfl ?_
                refine W.guardT rfl c15 ?_
                refine W.idxL (c := cI) rfl rfl k14 ?_
                refine W.guardT rfl c15 ?_
                refine W.load rfl rfl ?_
                refine W.guardT rfl c15 ?_
                refine W.mv rfl ?_
                refine W.guardT rfl c15 ?_
                refine W.neq rfl rfl ?_
                refine W.pickT rfl rfl rfl c15 ?_
                refine W.nil ?_
                exact ⟨(decide (e12 ≠ a5)), h, Wk.nrmTo [2, 4, 5, 13, 15, 17, 18, 87] [] rfl rfl⟩
              · replace h := iteF h c15
                refine W.guardF1 rfl c15 ?_
                refine W.guardF1 rfl c15 ?_
                refine W.guardF1 rfl c15 ?_
                refine W.guardF1 rfl c15 ?_
                refine W.guardF1 rfl c15 ?_
                refine W.guardF1 rfl c15 ?_
                refine W.pickN rfl rfl rfl c15 ?_
                refine W.nil ?_
                exact ⟨false, h, Wk.nrmTo [2, 4, 5, 13, 15, 17, 18, 87] [] rfl rfl⟩
            · intro x10 h
              try dsimp only at h ⊢
              unfold law6_WorkersLiarsAreOutvoted_j4 at h
              refine Ev.cond rfl (fun c12 => ?_) (fun c12 => ?_)
              · replace h := iteT h c12
                refine W.reg hm ?_
                refine W.mv rfl ?_
                obtain ⟨x11, k13, h⟩ := obind h
                refine W.addG rfl rfl k13 ?_
                refine W.mv rfl ?_
                refine W.nil ?_
                exact ⟨x11, h, Wk.nrmTo [2, 4, 5, 13, 15, 17, 18] [] rfl rfl⟩
              · replace h := iteF h c12
                refine Ev.skip ?_
                exact ⟨x6, h, Wk.nrmTo [2, 4, 5, 13, 15, 17, 18] [] rfl rfl⟩
          · intro x8 h
            try dsimp only at h ⊢
            unfold law6_WorkersLiarsAreOutvoted_j3 at h
            refine W.reg hm ?_
            refine W.mv rfl ?_
            obtain ⟨x9, k11, h⟩ := obind h
            refine W.addG rfl rfl k11 ?_
            refine W.mv rfl ?_
            refine W.nil ?_
            exact ⟨(m1, x8, x9), h, Nat.lt_succ_self _, Wk.nrmTo [2, 4, 5, 13, 15, 17, 18] [] rfl rfl⟩
        · replace h := iteF h c10
          refine Ev.exit ?_
          refine Ev.seq ?_
          refine Ev.seq ?_
          refine W.reg hm ?_
          refine W.mv rfl ?_
          refine W.mv rfl ?_
          refine W.lenL (c := cI) rfl ?_
          obtain ⟨x13, k16, h⟩ := obind h
          refine W.subG rfl rfl k16 ?_
          obtain ⟨r14, k17, h⟩ := obind h
          refine W.call (law6_in_spec n a4 0 x13 r14 k17) rfl rfl (Les.refl _) rfl (.inl rfl) rfl ?_
          refine W.not rfl ?_
          refine W.nil ?_
          refine Ev.cond rfl (fun c18 => ?_) (fun c18 => ?_)
          · replace h := iteT h c18
            refine Ev.seq ?_
            refine W.reg hm ?_
            refine W.mv rfl ?_
            refine W.nil ?_
            refine Ev.ret ?_
            injection h with h; subst h
            exact ⟨_, rfl, .refl _⟩
          · replace h := iteF h c18
            refine Ev.skip ?_
            refine Ev.seqJ (γ := Bool) (fun v => ⟨[(12, .bool v)], [], 2⟩) (fun v => law6_WorkersLiarsAreOutvoted_j5 n v = some r) ?_ ?_
            · refine W.reg hm ?_
              refine W.mv rfl ?_
              refine W.mv rfl ?_
              refine W.geq rfl rfl ?_
              refine W.mv rfl ?_
              refine W.split 99 rfl (fun c19 => ?_) (fun c19 => ?_)
              · replace h := iteT h c19
                refine W.guardF2 rfl c19 ?_
                refine W.guardF2 rfl c19 ?_
                refine W.guardF2 rfl c19 ?_
                refine W.guardF2 rfl c19 ?_
                refine W.guardF2 rfl c19 ?_
                refine W.pickT rfl rfl rfl c19 ?_
                refine W.mv rfl ?_
                refine W.guardF2 rfl rfl ?_
                refine W.guardF2 rfl rfl ?_
                refine W.guardF2 rfl rfl ?_
                refine W.guardF2 rfl rfl ?_
                refine W.guardF2 rfl rfl ?_
                refine W.guardF2 rfl rfl ?_
                refine W.pickT rfl rfl rfl rfl ?_
                refine W.mv rfl ?_
                refine W.nil ?_
                exact ⟨true, h, Wk.nrmTo [12] [] rfl rfl⟩
              · replace h := iteF h c19
                refine W.guardT rfl c19 ?_
                refine W.mv rfl ?_
                refine W.guardT rfl c19 ?_
                refine W.mv rfl ?_
                refine W.guardT rfl c19 ?_
                obtain ⟨e16, k20, h⟩ := obind h
                refine W.idxL (c := cI) rfl rfl k20 ?_
                refine W.guardT rfl c19 ?_
                refine W.load rfl rfl ?_
                refine W.guardT rfl c19 ?_
                refine W.eql rfl rfl ?_
                refine W.pickN rfl rfl rfl c19 ?_
                refine W.mv rfl ?_
                refine W.split 106 rfl (fun c21 => ?_) (fun c21 => ?_)
                · replace h := iteT h c21
                  refine W.guardF2 rfl c21 ?_
                  refine W.guardF2 rfl c21 ?_
                  refine W.guardF2 rfl c21 ?_
                  refine W.guardF2 rfl c21 ?_
                  refine W.guardF2 rfl c21 ?_
                  refine W.guardF2 rfl c21 ?_
                  refine W.pickT rfl rfl rfl c21 ?_
                  refine W.mv rfl ?_
                  refine W.nil ?_
                  exact ⟨true, h, Wk.nrmTo [12] [] rfl rfl⟩
                · replace h := iteF h c21
                  refine W.guardT rfl c21 ?_
                  refine W.mv rfl ?_
                  refine W.guardT rfl c21 ?_
                  refine W.mv rfl ?_
                  refine W.guardT rfl c21 ?_
                  refine W.idxL (c := cI) rfl rfl k20 ?_
                  refine W.guardT rfl c21 ?_
                  refine W.load rfl rfl ?_
                  refine W.guardT rfl c21 ?_
                  refine W.mv rfl ?_
                  refine W.guardT rfl c21 ?_
                  refine W.eql rfl rfl ?_
                  refine W.pickN rfl rfl rfl c21 ?_
                  refine W.mv rfl ?_
                  refine W.nil ?_
                  exact ⟨(decide (e16 = a5)), h, Wk.nrmTo [12] [] rfl rfl⟩
            · intro x15 h
              try dsimp only at h ⊢
              unfold law6_WorkersLiarsAreOutvoted_j5 at h
              refine Ev.ret ?_
              injection h with h; subst h
              exact ⟨_, rfl, .refl _⟩

theorem ref5_Has_spec (n : Nat) (a0 : List Int) (a1 : Int) (r : Bool) (h : ref5_Has n a0 a1 = some r) : PSpec Try.prog 19 [.list 1 (List.map cI a0), .int .i64 a1] (.bool r) := by
  unfold ref5_Has at h
  refine spec_of Try.c_ref5_Has (by simp) ?_
  unfold Try.l_ref5_Has
  refine Ev.seq ?_
  refine W.reg hm ?_
  refine W.mv rfl ?_
  refine W.nil ?_
  refine Ev.seq ?_
  refine Ev.seq ?_
  refine W.reg hm ?_
  refine W.mv rfl ?_
  refine W.nil ?_
  refine Ev.block ?_
  refine Ev.loopW (β := Nat × Int) (fun v => ⟨[(0, .list 1 (List.map cI a0)), (1, .int .i64 a1), (5, .int .i64 v.2)], [], 2⟩) (fun v => ref5_Has_l1 n a0 a1 v.1 v.2 = some r) (fun v => v.1) (n, 0) (Wk.nrmTo [0, 1, 5] [] rfl rfl) h ?_
  intro ⟨m1, x1⟩ h
  try dsimp only at h ⊢
  cases m1 with
  | zero => rw [ref5_Has_l1] at h; cases h
  | succ m1 =>
    rw [ref5_Has_l1] at h
    refine Ev.seq ?_
    refine Ev.seq ?_
    refine W.reg hm ?_
    refine W.mv rfl ?_
    refine W.mv rfl ?_
    refine W.lenL (c := cI) rfl ?_
    refine W.lss rfl rfl ?_
    refine W.nil ?_
    refine Ev.cond rfl (fun c1 => ?_) (fun c1 => ?_)
    · replace h := iteT h c1
      refine Ev.skip ?_
      refine Ev.seq ?_
      refine Ev.block ?_
      refine Ev.seq ?_
      refine W.reg hm ?_
      refine W.mv rfl ?_
      refine W.mv rfl ?_
      obtain ⟨e2, k2, h⟩ := obind h
      refine W.idxL (c := cI) rfl rfl k2 ?_
      refine W.load rfl rfl ?_
      refine W.mv rfl ?_
      refine W.eql rfl rfl ?_
      refine W.nil ?_
      refine Ev.cond rfl (fun c3 => ?_) (fun c3 => ?_)
      · replace h := iteT h c3
        refine Ev.seq ?_
        refine W.reg hm ?_
        refine W.mv rfl ?_
        refine W.nil ?_
        refine Ev.ret ?_
        injection h with h; subst h
        exact ⟨_, rfl, .refl _⟩
      · replace h := iteF h c3
        refine Ev.skip ?_
        refine W.reg hm ?_
        refine W.mv rfl ?_
        obtain ⟨x3, k4, h⟩ := obind h
        refine W.addG rfl rfl k4 ?_
        refine W.mv rfl ?_
        refine W.nil ?_
        exact ⟨(m1, x3), h, Nat.lt_succ_self _, Wk.nrmTo [0, 1, 5] [] rfl rfl⟩
    · replace h := iteF h c1
      refine Ev.exit ?_
      refine Ev.seq ?_
      refine W.reg hm ?_
      refine W.mv rfl ?_
      refine W.nil ?_
      refine Ev.ret ?_
      injection h with h; subst h
      exact ⟨_, rfl, .refl _⟩

theorem law6_WorkersResultsHaveAQuorum_spec (n : Nat) (a0 : Int) (a1 : Int) (a2 : Int) (a3 : List SKindWorkerJobValue) (a4 : Int) (r : Bool) (h : law6_WorkersResultsHaveAQuorum n a0 a1 a2 a3 a4 = some r) : PSpec Try.prog 6 [.int .i64 a0, .int .i64 a1, .int .i64 a2, .list 4 (List.map SKindWorkerJobValue.cells a3), .int .i64 a4] (.bool r) := by
  unfold law6_WorkersResultsHaveAQuorum at h
  refine spec_of Try.c_law6_WorkersResultsHaveAQuorum (by simp) ?_
  unfold Try.l_law6_WorkersResultsHaveAQuorum
  refine Ev.seq ?_
  refine W.reg hm ?_
  refine W.mv rfl ?_
  refine W.nil ?_
  refine Ev.seq ?_
  refine W.reg hm ?_
  refine W.mv rfl ?_
  refine W.mv rfl ?_
  refine W.mv rfl ?_
  refine W.mv rfl ?_
  obtain ⟨r1, k1, h⟩ := obind h
  refine W.call (workers_Play_spec n a0 a1 a2 a3 r1 k1) rfl rfl (Les.refl _) rfl (.inl rfl) rfl ?_
  refine W.mv rfl ?_
  refine W.extract rfl rfl ?_
  refine W.extract rfl rfl ?_
  refine W.alloc (dt := true) rfl rfl rfl ?_
  refine W.mv rfl ?_
  refine W.store (es' := [[.int .i64 r1.2.Code, .int .i64 r1.2.Index]]) (dt := true) rfl rfl rfl rfl rfl (Nat.le_of_ble_eq_true rfl) rfl rfl rfl rfl ?_
  refine W.nil ?_
  refine Ev.seq ?_
  refine W.reg hm ?_
  refine W.mv rfl ?_
  refine W.mv rfl ?_
  refine W.mv rfl ?_
  refine W.mv rfl ?_
  refine W.mv rfl ?_
  obtain ⟨r2, k2, h⟩ := obind h
  refine W.call (workers_Reports_spec n a0 a1 a2 a3 a4 r2 k2) rfl rfl (Les.refl _) rfl (.inl rfl) rfl ?_
  refine W.mv rfl ?_
  refine W.extract rfl rfl ?_
  refine W.extract rfl rfl ?_
  refine W.alloc (dt := true) rfl rfl rfl ?_
  refine W.mv rfl ?_
  refine W.store (es' := [[.int .i64 r2.2.Code, .int .i64 r2.2.Index]]) (dt := true) rfl rfl rfl rfl rfl (Nat.le_of_ble_eq_true rfl) rfl rfl rfl rfl ?_
  refine W.nil ?_
  refine Ev.seq ?_
  refine Ev.seqJ (γ := Bool) (fun v => ⟨[(2, .int .i64 a2), (4, .int .i64 a4), (11, .list 1 (List.map cI r1.1)), (12, .pown 10100 0 0 0), (13, .list 1 (List.map cI r2.1)), (14, .pown 10101 0 0 0), (47, .bool v)], [(10100, ⟨0, 25, 2, [[.int .i64 r1.2.Code, .int .i64 r1.2.Index]], true, false, false⟩), (10101, ⟨0, 25, 2, [[.int .i64 r2.2.Code, .int .i64 r2.2.Index]], true, false, false⟩)], 2⟩) (fun v => law6_WorkersResultsHaveAQuorum_j1 n a2 a4 r1 r2 v = some r) ?_ ?_
  · refine W.reg hm ?_
    obtain ⟨r26, k33, h⟩ := obind h
    refine W.call (law6_farms_spec n r26 k33) rfl rfl (Les.refl _) rfl (.inl rfl) rfl ?_
    refine W.not rfl ?_
    refine W.mv rfl ?_
    refine W.split 38 rfl (fun c34 => ?_) (fun c34 => ?_)
    · replace h := iteT h c34
      refine W.guardF2 rfl c34 ?_
      refine W.guardF2 rfl c34 ?_
      refine W.guardF2 rfl c34 ?_
      refine W.pickT rfl rfl rfl c34 ?_
      refine W.mv rfl ?_
      refine W.guardF2 rfl rfl ?_
      refine W.guardF2 rfl rfl ?_
      refine W.guardF2 rfl rfl ?_
      refine W.pickT rfl rfl rfl rfl ?_
      refine W.nil ?_
      exact ⟨true, h, Wk.nrmTo [2, 4, 11, 12, 13, 14, 47] [(12, 10100), (14, 10101)] rfl rfl⟩
    · replace h := iteF h c34
      refine W.guardT rfl c34 ?_
      refine W.fieldAddrO rfl rfl ?_
      refine W.guardT rfl c34 ?_
      refine W.loadO (p := .int .i64 r1.2.Code) rfl rfl rfl rfl ?_
      refine W.guardT rfl c34 ?_
      refine W.neq rfl rfl ?_
      refine W.pickN rfl rfl rfl c34 ?_
      refine W.mv rfl ?_
      refine W.split 43 rfl (fun c35 => ?_) (fun c35 => ?_)
      · replace h := iteT h c35
        refine W.guardF2 rfl c35 ?_
        refine W.guardF2 rfl c35 ?_
        refine W.guardF2 rfl c35 ?_
        refine W.pickT rfl rfl rfl c35 ?_
        refine W.nil ?_
        exact ⟨true, h, Wk.nrmTo [2, 4, 11, 12, 13, 14, 47] [(12, 10100), (14, 10101)] rfl rfl⟩
      · replace h := iteF h c35
        refine W.guardT rfl c35 ?_
        refine W.fieldAddrO rfl rfl ?_
        refine W.guardT rfl c35 ?_
        refine W.loadO (p := .int .i64 r2.2.Code) rfl rfl rfl rfl ?_
        refine W.guardT rfl c35 ?_
        refine W.neq rfl rfl ?_
        refine W.pickN rfl rfl rfl c35 ?_
        refine W.nil ?_
        exact ⟨(decide (r2.2.Code ≠ 0)), h, Wk.nrmTo [2, 4, 11, 12, 13, 14, 47] [(12, 10100), (14, 10101)] rfl rfl⟩
  · intro x3 h
    try dsimp only at h ⊢
    unfold law6_WorkersResultsHaveAQuorum_j1 at h
    refine Ev.cond rfl (fun c3 => ?_) (fun c3 => ?_)
    · replace h := iteT h c3
      refine Ev.seqJ (γ := Bool) (fun v => ⟨[(10, .bool v)], [], 2⟩) (fun v => law6_WorkersResultsHaveAQuorum_j2 n v = some r) ?_ ?_
      · refine W.reg hm ?_
        obtain ⟨r5, k4, h⟩ := obind h
        refine W.call (law6_farms_spec n r5 k4) rfl rfl (Les.refl _) rfl (.inl rfl) rfl ?_
        refine W.mv rfl ?_
        refine W.split 49 rfl (fun c5 => ?_) (fun c5 => ?_)
        · replace h := iteT h c5
          refine W.guardT rfl c5 ?_
          refine W.fieldAddrO rfl rfl ?_
          refine W.guardT rfl c5 ?_
          refine W.loadO (p := .int .i64 r1.2.Code) rfl rfl rfl rfl ?_
          refine W.guardT rfl c5 ?_
          refine W.eql rfl rfl ?_
          refine W.guardT rfl c5 ?_
          refine W.mv rfl ?_
          refine W.split 53 rfl (fun c6 => ?_) (fun c6 => ?_)
          · replace h := iteT h c6
            refine W.guardF2 rfl c6 ?_
            refine W.guardF2 rfl c6 ?_
            refine W.guardF2 rfl c6 ?_
            refine W.guardT rfl c5 ?_
            refine W.pickT rfl rfl rfl c6 ?_
            refine W.pickT rfl rfl rfl c5 ?_
            refine W.mv rfl ?_
            refine W.guardT rfl rfl ?_
            refine W.fieldAddrO rfl rfl ?_
            refine W.guardT rfl rfl ?_
            refine W.loadO (p := .int .i64 r2.2.Code) rfl rfl rfl rfl ?_
            refine W.guardT rfl rfl ?_
            refine W.eql rfl rfl ?_
            refine W.guardT rfl rfl ?_
            refine W.mv rfl ?_
            refine W.split 63 rfl (fun c7 => ?_) (fun c7 => ?_)
            · replace h := iteT h c7
              refine W.guardF2 rfl c7 ?_
              refine W.guardF2 rfl c7 ?_
              refine W.guardF2 rfl c7 ?_
              refine W.guardT rfl rfl ?_
              refine W.pickT rfl rfl rfl c7 ?_
              refine W.pickT rfl rfl rfl rfl ?_
              refine W.mv rfl ?_
              refine W.nil ?_
              exact ⟨true, h, Wk.nrmTo [10] [] rfl rfl⟩
            · replace h := iteF h c7
              refine W.guardT rfl c7 ?_
              refine W.mv rfl ?_
              refine W.guardT rfl c7 ?_
              refine W.lenL (c := cI) rfl ?_
              refine W.guardT rfl c7 ?_
              refine W.eql rfl rfl ?_
              refine W.guardT rfl rfl ?_
              refine W.pickN rfl rfl rfl c7 ?_
              refine W.pickT rfl rfl rfl rfl ?_
              refine W.mv rfl ?_
              refine W.nil ?_
              exact ⟨(decide ((r2.1.length : Int) = 0)), h, Wk.nrmTo [10] [] rfl rfl⟩
          · replace h := iteF h c6
            refine W.guardT rfl c6 ?_
            refine W.mv rfl ?_
            refine W.guardT rfl c6 ?_
            refine W.lenL (c := cI) rfl ?_
            refine W.guardT rfl c6 ?_
            refine W.eql rfl rfl ?_
            refine W.guardT rfl c5 ?_
            refine W.pickN rfl rfl rfl c6 ?_
            refine W.pickT rfl rfl rfl c5 ?_
            refine W.mv rfl ?_
            refine W.split 59 rfl (fun c8 => ?_) (fun c8 => ?_)
            · replace h := iteT h c8
              refine W.guardT rfl c8 ?_
              refine W.fieldAddrO rfl rfl ?_
              refine W.guardT rfl c8 ?_
              refine W.loadO (p := .int .i64 r2.2.Code) rfl rfl rfl rfl ?_
              refine W.guardT rfl c8 ?_
              refine W.eql rfl rfl ?_
              refine W.guardT rfl c8 ?_
              refine W.mv rfl ?_
              refine W.split 63 rfl (fun c9 => ?_) (fun c9 => ?_)
              · replace h := iteT h c9
                refine W.guardF2 rfl c9 ?_
                refine W.guardF2 rfl c9 ?_
                refine W.guardF2 rfl c9 ?_
                refine W.guardT rfl c8 ?_
                refine W.pickT rfl rfl rfl c9 ?_
                refine W.pickT rfl rfl rfl c8 ?_
                refine W.mv rfl ?_
                refine W.nil ?_
                exact ⟨true, h, Wk.nrmTo [10] [] rfl rfl⟩
              · replace h := iteF h c9
                refine W.guardT rfl c9 ?_
                refine W.mv rfl ?_
                refine W.guardT rfl c9 ?_
                refine W.lenL (c := cI) rfl ?_
                refine W.guardT rfl c9 ?_
                refine W.eql rfl rfl ?_
                refine W.guardT rfl c8 ?_
                refine W.pickN rfl rfl rfl c9 ?_
                refine W.pickT rfl rfl rfl c8 ?_
                refine W.mv rfl ?_
                refine W.nil ?_
                exact ⟨(decide ((r2.1.length : Int) = 0)), h, Wk.nrmTo [10] [] rfl rfl⟩
            · replace h := iteF h c8
              refine W.guardF1 rfl c8 ?_
              refine W.guardF1 rfl c8 ?_
              refine W.guardF1 rfl c8 ?_
              refine W.guardF1 rfl c8 ?_
              refine W.guardU rfl ?_
              refine W.guardU rfl ?_
              refine W.guardU rfl ?_
              refine W.guardF1 rfl c8 ?_
              refine W.pickN rfl rfl rfl c8 ?_
              refine W.mv rfl ?_
              refine W.nil ?_
              exact ⟨false, h, Wk.nrmTo [10] [] rfl rfl⟩
        · replace h := iteF h c5
          refine W.guardF1 rfl c5 ?_
          refine W.guardF1 rfl c5 ?_
          refine W.guardF1 rfl c5 ?_
          refine W.guardF1 rfl c5 ?_
          refine W.guardU rfl ?_
          refine W.guardU rfl ?_
          refine W.guardU rfl ?_
          refine W.guardF1 rfl c5 ?_
          refine W.pickN rfl rfl rfl c5 ?_
          refine W.mv rfl ?_
          refine W.guardF1 rfl rfl ?_
          refine W.guardF1 rfl rfl ?_
          refine W.guardF1 rfl rfl ?_
          refine W.guardF1 rfl rfl ?_
          refine W.guardU rfl ?_
          refine W.guardU rfl ?_
          refine W.guardU rfl ?_
          refine W.guardF1 rfl rfl ?_
          refine W.pickN rfl rfl rfl rfl ?_
          refine W.mv rfl ?_
          refine W.nil ?_
          exact ⟨false, h, Wk.nrmTo [10] [] rfl rfl⟩
      · intro x4 h
        try dsimp only at h ⊢
        unfold law6_WorkersResultsHaveAQuorum_j2 at h
        refine Ev.ret ?_
        injection h with h; subst h
        exact ⟨_, rfl, .refl _⟩
    · replace h := iteF h c3
      refine Ev.skip ?_
      refine Ev.seq ?_
      refine Ev.seq ?_
      refine W.reg hm ?_
      refine W.mv rfl ?_
      refine W.mv rfl ?_
      refine W.lenL (c := cI) rfl ?_
      obtain ⟨x6, k10, h⟩ := obind h
      refine W.subG rfl rfl k10 ?_
      obtain ⟨r7, k11, h⟩ := obind h
      refine W.call (law6_in_spec n a4 0 x6 r7 k11) rfl rfl (Les.refl _) rfl (.inl rfl) rfl ?_
      refine W.not rfl ?_
      refine W.nil ?_
      refine Ev.cond rfl (fun c12 => ?_) (fun c12 => ?_)
      · replace h := iteT h c12
        refine Ev.seq ?_
        refine W.reg hm ?_
        refine W.mv rfl ?_
        refine W.nil ?_
        refine Ev.ret ?_
        injection h with h; subst h
        exact ⟨_, rfl, .refl _⟩
      · replace h := iteF h c12
        refine Ev.skip ?_
        refine Ev.seq ?_
        refine W.reg hm ?_
        refine W.mv rfl ?_
        refine W.nil ?_
        refine Ev.seq ?_
        refine Ev.seq ?_
        refine W.reg hm ?_
        refine W.mv rfl ?_
        refine W.nil ?_
        refine Ev.block ?_
        refine Ev.loopW (β := Nat × Bool × Int) (fun v => ⟨[(2, .int .i64 a2), (4, .int .i64 a4), (11, .list 1 (List.map cI r1.1)), (13, .list 1 (List.map cI r2.1)), (15, .bool v.2.1), (16, .int .i64 v.2.2)], [], 2⟩) (fun v => law6_WorkersResultsHaveAQuorum_l1 n a2 a4 r1 r2 v.1 v.2.1 v.2.2 = some r) (fun v => v.1) (n, false, 0) (Wk.nrmTo [2, 4, 11, 13, 15, 16] [] rfl rfl) h ?_
        intro ⟨m1, x8, x9⟩ h
        try dsimp only at h ⊢
        cases m1 with
        | zero => rw [law6_WorkersResultsHaveAQuorum_l1] at h; cases h
        | succ m1 =>
          rw [law6_WorkersResultsHaveAQuorum_l1] at h
          refine Ev.seq ?_
          refine Ev.seq ?_
          refine W.reg hm ?_
          refine W.mv rfl ?_
          refine W.mv rfl ?_
          refine W.lenL (c := cI) rfl ?_
          refine W.lss rfl rfl ?_
          refine W.nil ?_
          refine Ev.cond rfl (fun c13 => ?_) (fun c13 => ?_)
          · replace h := iteT h c13
            refine Ev.skip ?_
            refine Ev.seq ?_
            refine Ev.block ?_
            refine Ev.seq ?_
            refine W.reg hm ?_
            refine W.mv rfl ?_
            refine W.nil ?_
            refine Ev.seq ?_
            refine Ev.seq ?_
            refine W.reg hm ?_
            refine W.mv rfl ?_
            refine W.nil ?_
            refine Ev.block ?_
            refine Ev.loopW (β := Nat × Int × Int) (fun v => ⟨[(2, .int .i64 a2), (4, .int .i64 a4), (11, .list 1 (List.map cI r1.1)), (13, .list 1 (List.map cI r2.1)), (15, .bool x8), (16, .int .i64 x9), (17, .int .i64 v.2.1), (18, .int .i64 v.2.2)], [], 2⟩) (fun v => law6_WorkersResultsHaveAQuorum_l2 n a2 a4 r1 r2 x8 x9 (law6_WorkersResultsHaveAQuorum_l1 n a2 a4 r1 r2 m1) v.1 v.2.1 v.2.2 = some r) (fun v => v.1) (n, 0, 0) (Wk.nrmTo [2, 4, 11, 13, 15, 16, 17, 18] [] rfl rfl) h ?_
            intro ⟨m2, x10, x11⟩ h
            try dsimp only at h ⊢
            cases m2 with
            | zero => rw [law6_WorkersResultsHaveAQuorum_l2] at h; cases h
            | succ m2 =>
              rw [law6_WorkersResultsHaveAQuorum_l2] at h
              refine Ev.seq ?_
              refine Ev.seq ?_
              refine W.reg hm ?_
              refine W.mv rfl ?_
              refine W.mv rfl ?_
              refine W.lenL (c := cI) rfl ?_
              refine W.lss rfl rfl ?_
              refine W.nil ?_
              refine Ev.cond rfl (fun c14 => ?_) (fun c14 => ?_)
              · replace h := iteT h c14
                refine Ev.skip ?_
                refine Ev.seqJ (γ := Int) (fun v => ⟨[(2, .int .i64 a2), (4, .int .i64 a4), (11, .list 1 (List.map cI r1.1)), (13, .list 1 (List.map cI r2.1)), (15, .bool x8), (16, .int .i64 x9), (17, .int .i64 v), (18, .int .i64 x11)], [], 2⟩) (fun v => law6_WorkersResultsHaveAQuorum_j3 n x11 (law6_WorkersResultsHaveAQuorum_l2 n a2 a4 r1 r2 x8 x9 (law6_WorkersResultsHaveAQuorum_l1 n a2 a4 r1 r2 m1) m2) v = some r) ?_ ?_
                · refine Ev.block ?_
                  refine Ev.seq ?_
                  refine W.regD hm ?_
                  refine W.mv rfl ?_
                  refine W.mv rfl ?_
                  obtain ⟨e14, k16, h⟩ := obind h
                  refine W.idxL (c := cI) rfl rfl k16 ?_
                  refine W.load rfl rfl ?_
                  refine W.mv rfl ?_
                  refine W.mv rfl ?_
                  obtain ⟨e15, k17, h⟩ := obind h
                  refine W.idxL (c := cI) rfl rfl k17 ?_
                  refine W.load rfl rfl ?_
                  refine W.eql rfl rfl ?_
                  refine W.nil ⟨rfl, ?_⟩
                  refine Ev.cond rfl (fun c18 => ?_) (fun c18 => ?_)
                  · replace h := iteT h c18
                    refine W.reg hm ?_
                    refine W.mv rfl ?_
                    obtain ⟨x16, k19, h⟩ := obind h
                    refine W.addG rfl rfl k19 ?_
                    refine W.mv rfl ?_
                    refine W.nil ?_
                    exact ⟨x16, h, Wk.nrmTo [2, 4, 11, 13, 15, 16, 17, 18] [] rfl rfl⟩
                  · replace h := iteF h c18
                    refine Ev.skip ?_
                    exact ⟨x10, h, Wk.nrmTo [2, 4, 11, 13, 15, 16, 17, 18] [] rfl rfl⟩
                · intro x12 h
                  try dsimp only at h ⊢
                  unfold law6_WorkersResultsHaveAQuorum_j3 at h
                  refine W.reg hm ?_
                  refine W.mv rfl ?_
                  obtain ⟨x13, k15, h⟩ := obind h
                  refine W.addG rfl rfl k15 ?_
                  refine W.mv rfl ?_
                  refine W.nil ?_
                  exact ⟨(m2, x12, x13), h, Nat.lt_succ_self _, Wk.nrmTo [2, 4, 11, 13, 15, 16, 17, 18] [] rfl rfl⟩
              · replace h := iteF h c14
                refine Ev.exit ?_
                refine Ev.seqJ (γ := Bool) (fun v => ⟨[(2, .int .i64 a2), (4, .int .i64 a4), (11, .list 1 (List.map cI r1.1)), (13, .list 1 (List.map cI r2.1)), (15, .bool v), (16, .int .i64 x9), (17, .int .i64 x10)], [], 2⟩) (fun v => law6_WorkersResultsHaveAQuorum_j4 n a2 a4 r1 r2 x9 (law6_WorkersResultsHaveAQuorum_l1 n a2 a4 r1 r2 m1) x10 v = some r) ?_ ?_
                · refine W.reg hm ?_
                  refine W.mv rfl ?_
                  refine W.mv rfl ?_
                  refine W.split 99 rfl (fun c26 => ?_) (fun c26 => ?_)
                  · replace h := iteT h c26
                    refine W.guardF2 rfl c26 ?_
                    refine W.guardF2 rfl c26 ?_
                    refine W.guardF2 rfl c26 ?_
                    refine W.guardF2 rfl c26 ?_
                    refine W.guardF2 rfl c26 ?_
                    refine W.guardF2 rfl c26 ?_
                    refine W.guardU rfl ?_
                    refine W.guardU rfl ?_
                    refine W.guardU rfl ?_
                    refine W.guardF2 rfl c26 ?_
                    refine W.pickT rfl rfl rfl c26 ?_
                    refine W.mv rfl ?_
                    refine W.nil ?_
                    exact ⟨true, h, Wk.nrmTo [2, 4, 11, 13, 15, 16, 17] [] rfl rfl⟩
                  · replace h := iteF h c26
                    refine W.guardT rfl c26 ?_
                    refine W.mv rfl ?_
                    refine W.guardT rfl c26 ?_
                    refine W.mv rfl ?_
                    refine W.guardT rfl c26 ?_
                    obtain ⟨e22, k27, h⟩ := obind h
                    refine W.idxL (c := cI) rfl rfl k27 ?_
                    refine W.guardT rfl c26 ?_
                    refine W.load rfl rfl ?_
                    refine W.guardT rfl c26 ?_
                    refine W.geq rfl rfl ?_
                    refine W.guardT rfl c26 ?_
                    refine W.mv rfl ?_
                    refine W.split 105 rfl (fun c28 => ?_) (fun c28 => ?_)
                    · replace h := iteT h c28
                      refine W.guardT rfl c28 ?_
                      refine W.mv rfl ?_
                      refine W.guardT rfl c28 ?_
                      refine W.mv rfl ?_
                      refine W.guardT rfl c28 ?_
                      refine W.geq rfl rfl ?_
                      refine W.guardT rfl c26 ?_
                      refine W.pickT rfl rfl rfl c28 ?_
                      refine W.pickN rfl rfl rfl c26 ?_
                      refine W.mv rfl ?_
                      refine W.nil ?_
                      exact ⟨(decide (a2 ≤ x10)), h, Wk.nrmTo [2, 4, 11, 13, 15, 16, 17] [] rfl rfl⟩
                    · replace h := iteF h c28
                      refine W.guardF1 rfl c28 ?_
                      refine W.guardF1 rfl c28 ?_
                      refine W.guardF1 rfl c28 ?_
                      refine W.guardT rfl c26 ?_
                      refine W.pickN rfl rfl rfl c28 ?_
                      refine W.pickN rfl rfl rfl c26 ?_
                      refine W.mv rfl ?_
                      refine W.nil ?_
                      exact ⟨false, h, Wk.nrmTo [2, 4, 11, 13, 15, 16, 17] [] rfl rfl⟩
                · intro x17 h
                  try dsimp only at h ⊢
                  unfold law6_WorkersResultsHaveAQuorum_j4 at h
                  refine Ev.seqJ (γ := Bool) (fun v => ⟨[(2, .int .i64 a2), (4, .int .i64 a4), (11, .list 1 (List.map cI r1.1)), (13, .list 1 (List.map cI r2.1)), (15, .bool x17), (16, .int .i64 x9), (131, .bool v)], [], 2⟩) (fun v => law6_WorkersResultsHaveAQuorum_j5 n x9 (law6_WorkersResultsHaveAQuorum_l1 n a2 a4 r1 r2 m1) x17 v = some r) ?_ ?_
                  · refine W.regD hm ?_
                    refine W.mv rfl ?_
                    refine W.mv rfl ?_
                    obtain ⟨e20, k22, h⟩ := obind h
                    refine W.idxL (c := cI) rfl rfl k22 ?_
                    refine W.load rfl rfl ?_
                    refine W.geq rfl rfl ?_
                    refine W.mv rfl ?_
                    refine W.split 116 rfl (fun c23 => ?_) (fun c23 => ?_)
                    · replace h := iteT h c23
                      refine W.guardT rfl c23 ?_
                      refine W.mv rfl ?_
                      refine W.guardT rfl c23 ?_
                      refine W.mv rfl ?_
                      refine W.guardT rfl c23 ?_
                      obtain ⟨e21, k24, h⟩ := obind h
                      refine W.idxL (c := cI) rfl rfl k24 ?_
                      refine W.guardT rfl c23 ?_
                      refine W.load rfl rfl ?_
                      refine W.guardT rfl c23 ?_
                      refine W.mv rfl ?_
                      refine W.guardT rfl c23 ?_
                      refine W.mv rfl ?_
                      refine W.guardT rfl c23 ?_
                      refine W.idxL (c := cI) rfl rfl k22 ?_
                      refine W.guardT rfl c23 ?_
                      refine W.load rfl rfl ?_
                      refine W.guardT rfl c23 ?_
                      refine W.eql rfl rfl ?_
                      refine W.pickT rfl rfl rfl c23 ?_
                      refine W.mv rfl ?_
                      refine W.split 127 rfl (fun c25 => ?_) (fun c25 => ?_)
                      · replace h := iteT h c25
                        refine W.guardT rfl c25 ?_
                        refine W.mv rfl ?_
                        refine W.guardT rfl c25 ?_
                        refine W.mv rfl ?_
                        refine W.guardT rfl c25 ?_
                        refine W.lss rfl rfl ?_
                        refine W.pickT rfl rfl rfl c25 ?_
                        refine W.nil ⟨rfl, ?_⟩
                        exact ⟨(decide (x10 < a2)), h, Wk.nrmTo [2, 4, 11, 13, 15, 16, 131] [] rfl rfl⟩
                      · replace h := iteF h c25
                        refine W.guardF1 rfl c25 ?_
                        refine W.guardF1 rfl c25 ?_
                        refine W.guardF1 rfl c25 ?_
                        refine W.pickN rfl rfl rfl c25 ?_
                        refine W.nil ⟨rfl, ?_⟩
                        exact ⟨false, h, Wk.nrmTo [2, 4, 11, 13, 15, 16, 131] [] rfl rfl⟩
                    · replace h := iteF h c23
                      refine W.guardF1 rfl c23 ?_
                      refine W.guardF1 rfl c23 ?_
                      refine W.guardF1 rfl c23 ?_
                      refine W.guardF1 rfl c23 ?_
                      refine W.guardF1 rfl c23 ?_
                      refine W.guardF1 rfl c23 ?_
                      refine W.guardF1 rfl c23 ?_
                      refine W.guardF1 rfl c23 ?_
                      refine W.guardF1 rfl c23 ?_
                      refine W.pickN rfl rfl rfl c23 ?_
                      refine W.mv rfl ?_
                      refine W.guardF1 rfl rfl ?_
                      refine W.guardF1 rfl rfl ?_
                      refine W.guardF1 rfl rfl ?_
                      refine W.pickN rfl rfl rfl rfl ?_
                      refine W.nil ⟨rfl, ?_⟩
                      exact ⟨false, h, Wk.nrmTo [2, 4, 11, 13, 15, 16, 131] [] rfl rfl⟩
                  · intro x18 h
                    try dsimp only at h ⊢
                    unfold law6_WorkersResultsHaveAQuorum_j5 at h
                    refine Ev.cond rfl (fun c20 => ?_) (fun c20 => ?_)
                    · replace h := iteT h c20
                      refine Ev.seq ?_
                      refine W.reg hm ?_
                      refine W.mv rfl ?_
                      refine W.nil ?_
                      refine Ev.ret ?_
                      injection h with h; subst h
                      exact ⟨_, rfl, .refl _⟩
                    · replace h := iteF h c20
                      refine Ev.skip ?_
                      refine W.reg hm ?_
                      refine W.mv rfl ?_
                      obtain ⟨x19, k21, h⟩ := obind h
                      refine W.addG rfl rfl k21 ?_
                      refine W.mv rfl ?_
                      refine W.nil ?_
                      exact ⟨(m1, x17, x19), h, Nat.lt_succ_self _, Wk.nrmTo [2, 4, 11, 13, 15, 16] [] rfl rfl⟩
          · replace h := iteF h c13
            refine Ev.exit ?_
            refine Ev.seqJ (γ := Bool) (fun v => ⟨[(10, .bool v)], [], 2⟩) (fun v => law6_WorkersResultsHaveAQuorum_j6 n v = some r) ?_ ?_
            · refine W.reg hm ?_
              refine W.mv rfl ?_
              refine W.mv rfl ?_
              refine W.mv rfl ?_
              obtain ⟨e24, k29, h⟩ := obind h
              refine W.idxL (c := cI) rfl rfl k29 ?_
              refine W.load rfl rfl ?_
              refine W.geq rfl rfl ?_
              refine W.beql rfl rfl ?_
              refine W.mv rfl ?_
              refine W.split 139 rfl (fun c30 => ?_) (fun c30 => ?_)
              · replace h := iteT h c30
                refine W.guardT rfl c30 ?_
                refine W.mv rfl ?_
                refine W.guardT rfl c30 ?_
                refine W.mv rfl ?_
                refine W.guardT rfl c30 ?_
                refine W.idxL (c := cI) rfl rfl k29 ?_
                refine W.guardT rfl c30 ?_
                refine W.load rfl rfl ?_
                refine W.guardT rfl c30 ?_
                refine W.lss rfl rfl ?_
                refine W.guardT rfl c30 ?_
                refine W.mv rfl ?_
                refine W.split 145 rfl (fun c31 => ?_) (fun c31 => ?_)
                · replace h := iteT h c31
                  refine W.guardF2 rfl c31 ?_
                  refine W.guardF2 rfl c31 ?_
                  refine W.guardF2 rfl c31 ?_
                  refine W.guardF2 rfl c31 ?_
                  refine W.guardF2 rfl c31 ?_
                  refine W.guardF2 rfl c31 ?_
                  refine W.guardT rfl c30 ?_
                  refine W.pickT rfl rfl rfl c31 ?_
                  refine W.pickT rfl rfl rfl c30 ?_
                  refine W.mv rfl ?_
                  refine W.nil ?_
                  exact ⟨true, h, Wk.nrmTo [10] [] rfl rfl⟩
                · replace h := iteF h c31
                  refine W.guardT rfl c31 ?_
                  refine W.mv rfl ?_
                  refine W.guardT rfl c31 ?_
                  refine W.mv rfl ?_
                  refine W.guardT rfl c31 ?_
                  refine W.mv rfl ?_
                  refine W.guardT rfl c31 ?_
                  refine W.idxL (c := cI) rfl rfl k29 ?_
                  refine W.guardT rfl c31 ?_
                  refine W.load rfl rfl ?_
                  refine W.guardT rfl c31 ?_
                  obtain ⟨r25, k32, h⟩ := obind h
                  refine W.call (ref5_Has_spec n r2.1 e24 r25 k32) rfl rfl (Les.refl _) rfl (.inl rfl) rfl ?_
                  refine W.guardT rfl c30 ?_
                  refine W.pickN rfl rfl rfl c31 ?_
                  refine W.pickT rfl rfl rfl c30 ?_
                  refine W.mv rfl ?_
                  refine W.nil ?_
                  exact ⟨r25, h, Wk.nrmTo [10] [] rfl rfl⟩
              · replace h := iteF h c30
                refine W.guardF1 rfl c30 ?_
                refine W.guardF1 rfl c30 ?_
                refine W.guardF1 rfl c30 ?_
                refine W.guardF1 rfl c30 ?_
                refine W.guardF1 rfl c30 ?_
                refine W.guardF1 rfl c30 ?_
                refine W.guardU rfl ?_
                refine W.guardU rfl ?_
                refine W.guardU rfl ?_
                refine W.guardU rfl ?_
                refine W.guardU rfl ?_
                refine W.guardU rfl ?_
                refine W.guardF1 rfl c30 ?_
                refine W.pickN rfl rfl rfl c30 ?_
                refine W.mv rfl ?_
                refine W.nil ?_
                exact ⟨false, h, Wk.nrmTo [10] [] rfl rfl⟩
            · intro x23 h
              try dsimp only at h ⊢
              unfold law6_WorkersResultsHaveAQuorum_j6 at h
              refine Ev.ret ?_
              injection h with h; subst h
              exact ⟨_, rfl, .refl _⟩
end Go.Proofs.Ythnneojommdhjaa
