/- The functions compute what the texts of D say. Laid by a program (wip/gen/dec.py). -/
import Derived.Test.YtpbfobgbpdbiaaaD
import Derived.Test.YtpbfobgbpdbiaaaC
namespace Go.Proofs.Ytpbfobgbpdbiaaa
open Go.PW Go
theorem ref6_fault_spec (n : Nat) (a0 : Int) (a1 : Int) (r : SCodeIndex) (h : ref6_fault n a0 a1 = some r) : PSpec Try.prog 28 [.int .i64 a0, .int .i64 a1] (.agg (SCodeIndex.cells r)) := by
  unfold ref6_fault at h
  refine spec_of Try.c_ref6_fault (by simp) ?_
  unfold Try.l_ref6_fault
  refine Ev.seq ?_
  refine W.reg hm ?_
  refine W.alloc (dt := true) rfl rfl rfl ?_
  refine W.nil ?_
  refine Ev.seq ?_
  refine W.reg hm ?_
  refine W.mv rfl ?_
  refine W.mv rfl ?_
  refine W.build (cs := [.int .i64 a0, .int .i64 a1]) rfl rfl rfl ?_
  refine W.store (es' := [[.int .i64 a0, .int .i64 a1]]) (dt := true) rfl rfl rfl rfl rfl (Nat.le_of_ble_eq_true rfl) rfl rfl rfl rfl ?_
  refine W.nil ?_
  refine Ev.ret ?_
  injection h with h; subst h
  exact ⟨_, rfl, .refl _⟩

theorem ref6_in_spec (n : Nat) (a0 : Int) (a1 : Int) (a2 : Int) (r : Bool) (h : ref6_in n a0 a1 a2 = some r) : PSpec Try.prog 37 [.int .i64 a0, .int .i64 a1, .int .i64 a2] (.bool r) := by
  unfold ref6_in at h
  refine spec_of Try.c_ref6_in (by simp) ?_
  unfold Try.l_ref6_in
  refine Ev.seq ?_
  refine W.reg hm ?_
  refine W.mv rfl ?_
  refine W.nil ?_
  refine Ev.seqJ (γ := Bool) (fun v => ⟨[(6, .bool v)], [], 2⟩) (fun v => ref6_in_j1 n v = some r) ?_ ?_
  · refine W.reg hm ?_
    refine W.mv rfl ?_
    refine W.mv rfl ?_
    refine W.geq rfl rfl ?_
    refine W.mv rfl ?_
    refine W.split 10 rfl (fun c1 => ?_) (fun c1 => ?_)
    · replace h := iteT h c1
      refine W.guardT rfl c1 ?_
      refine W.mv rfl ?_
      refine W.guardT rfl c1 ?_
      refine W.mv rfl ?_
      refine W.guardT rfl c1 ?_
      refine W.leq rfl rfl ?_
      refine W.pickT rfl rfl rfl c1 ?_
      refine W.mv rfl ?_
      refine W.nil ?_
      exact ⟨(decide (a0 ≤ a2)), h, Wk.nrmTo [6] [] rfl rfl⟩
    · replace h := iteF h c1
      refine W.guardF1 rfl c1 ?_
      refine W.guardF1 rfl c1 ?_
      refine W.guardF1 rfl c1 ?_
      refine W.pickN rfl rfl rfl c1 ?_
      refine W.mv rfl ?_
      refine W.nil ?_
      exact ⟨false, h, Wk.nrmTo [6] [] rfl rfl⟩
  · intro x1 h
    try dsimp only at h ⊢
    unfold ref6_in_j1 at h
    refine Ev.ret ?_
    injection h with h; subst h
    exact ⟨_, rfl, .refl _⟩

set_option maxHeartbeats 4000000 in
theorem ref6_nodesCode_spec (n : Nat) (a0 : Int) (a1 : List Int) (r : Int) (h : ref6_nodesCode n a0 a1 = some r) : PSpec Try.prog 29 [.int .i64 a0, .list 1 (List.map cI a1)] (.int .i64 r) := by
  unfold ref6_nodesCode at h
  refine spec_of Try.c_ref6_nodesCode (by simp) ?_
  unfold Try.l_ref6_nodesCode
  refine Ev.seq ?_
  refine W.reg hm ?_
  refine W.mv rfl ?_
  refine W.nil ?_
  refine Ev.seq ?_
  refine Ev.seq ?_
  refine W.reg hm ?_
  refine W.mv rfl ?_
  refine W.nil ?_
  refine Ev.block ?_
  refine Ev.loopW (β := Nat × Int) (fun v => ⟨[(0, .int .i64 a0), (1, .list 1 (List.map cI a1)), (5, .int .i64 v.2)], [], 2⟩) (fun v => ref6_nodesCode_l1 n a0 a1 v.1 v.2 = some r) (fun v => v.1) (n, 0) (Wk.nrmTo [0, 1, 5] [] rfl rfl) h ?_
  intro ⟨m1, x1⟩ h
  try dsimp only at h ⊢
  cases m1 with
  | zero => rw [ref6_nodesCode_l1] at h; cases h
  | succ m1 =>
    rw [ref6_nodesCode_l1] at h
    refine Ev.seq ?_
    refine Ev.seq ?_
    refine W.reg hm ?_
    refine W.mv rfl ?_
    refine W.mv rfl ?_
    refine W.lenL (c := cI) rfl ?_
    refine W.lss rfl rfl ?_
    refine W.nil ?_
    refine Ev.cond rfl (fun c1 => ?_) (fun c1 => ?_)
    · replace h := iteT h c1
      refine Ev.skip ?_
      refine Ev.seq ?_
      refine Ev.block ?_
      refine Ev.seq ?_
      refine Ev.seq ?_
      refine W.reg hm ?_
      refine W.mv rfl ?_
      refine W.mv rfl ?_
      obtain ⟨e2, k2, h⟩ := obind h
      refine W.idxL (c := cI) rfl rfl k2 ?_
      refine W.load rfl rfl ?_
      refine W.mv rfl ?_
      obtain ⟨x3, k3, h⟩ := obind h
      refine W.subG rfl rfl k3 ?_
      obtain ⟨r4, k4, h⟩ := obind h
      refine W.call (ref6_in_spec n e2 0 x3 r4 k4) rfl rfl (Les.refl _) rfl (.inl rfl) rfl ?_
      refine W.not rfl ?_
      refine W.nil ?_
      refine Ev.cond rfl (fun c5 => ?_) (fun c5 => ?_)
      · replace h := iteT h c5
        refine Ev.seq ?_
        refine W.reg hm ?_
        refine W.mv rfl ?_
        refine W.nil ?_
        refine Ev.ret ?_
        injection h with h; subst h
        exact ⟨_, rfl, .refl _⟩
      · replace h := iteF h c5
        refine Ev.skip ?_
        refine Ev.seqJ (γ := Bool) (fun v => ⟨[(0, .int .i64 a0), (1, .list 1 (List.map cI a1)), (5, .int .i64 x1), (33, .bool v)], [], 2⟩) (fun v => ref6_nodesCode_j1 n x1 (ref6_nodesCode_l1 n a0 a1 m1) v = some r) ?_ ?_
        · refine W.regD hm ?_
          refine W.mv rfl ?_
          refine W.gtr rfl rfl ?_
          refine W.mv rfl ?_
          refine W.split 22 rfl (fun c8 => ?_) (fun c8 => ?_)
          · replace h := iteT h c8
            refine W.guardT rfl c8 ?_
            refine W.mv rfl ?_
            refine W.guardT rfl c8 ?_
            refine W.mv rfl ?_
            refine W.guardT rfl c8 ?_
            refine W.idxL (c := cI) rfl rfl k2 ?_
            refine W.guardT rfl c8 ?_
            refine W.load rfl rfl ?_
            refine W.guardT rfl c8 ?_
            refine W.mv rfl ?_
            refine W.guardT rfl c8 ?_
            refine W.mv rfl ?_
            refine W.guardT rfl c8 ?_
            obtain ⟨x7, k9, h⟩ := obind h
            refine W.subG rfl rfl k9 ?_
            refine W.guardT rfl c8 ?_
            obtain ⟨e8, k10, h⟩ := obind h
            refine W.idxL (c := cI) rfl rfl k10 ?_
            refine W.guardT rfl c8 ?_
            refine W.load rfl rfl ?_
            refine W.guardT rfl c8 ?_
            refine W.leq rfl rfl ?_
            refine W.pickT rfl rfl rfl c8 ?_
            refine W.nil ⟨rfl, ?_⟩
            exact ⟨(decide (e2 ≤ e8)), h, Wk.nrmTo [0, 1, 5, 33] [] rfl rfl⟩
          · replace h := iteF h c8
            refine W.guardF1 rfl c8 ?_
            refine W.guardF1 rfl c8 ?_
            refine W.guardF1 rfl c8 ?_
            refine W.guardF1 rfl c8 ?_
            refine W.guardF1 rfl c8 ?_
            refine W.guardF1 rfl c8 ?_
            refine W.guardF1 rfl c8 ?_
            refine W.guardF1 rfl c8 ?_
            refine W.guardF1 rfl c8 ?_
            refine W.guardF1 rfl c8 ?_
            refine W.pickN rfl rfl rfl c8 ?_
            refine W.nil ⟨rfl, ?_⟩
            exact ⟨false, h, Wk.nrmTo [0, 1, 5, 33] [] rfl rfl⟩
        · intro x5 h
          try dsimp only at h ⊢
          unfold ref6_nodesCode_j1 at h
          refine Ev.cond rfl (fun c6 => ?_) (fun c6 => ?_)
          · replace h := iteT h c6
            refine Ev.seq ?_
            refine W.reg hm ?_
            refine W.mv rfl ?_
            refine W.nil ?_
            refine Ev.ret ?_
            injection h with h; subst h
            exact ⟨_, rfl, .refl _⟩
          · replace h := iteF h c6
            refine Ev.skip ?_
            refine W.reg hm ?_
            refine W.mv rfl ?_
            obtain ⟨x6, k7, h⟩ := obind h
            refine W.addG rfl rfl k7 ?_
            refine W.mv rfl ?_
            refine W.nil ?_
            exact ⟨(m1, x6), h, Nat.lt_succ_self _, Wk.nrmTo [0, 1, 5] [] rfl rfl⟩
    · replace h := iteF h c1
      refine Ev.exit ?_
      refine Ev.seq ?_
      refine W.reg hm ?_
      refine W.mv rfl ?_
      refine W.nil ?_
      refine Ev.ret ?_
      injection h with h; subst h
      exact ⟨_, rfl, .refl _⟩

theorem ref6_GraphFault_spec (n : Nat) (a0 : List (List Int)) (r : SCodeIndex) (h : ref6_GraphFault n a0 = some r) : PSpec Try.prog 9 [.list 1 (List.map (cL 1 cI) a0)] (.agg (SCodeIndex.cells r)) := by
  unfold ref6_GraphFault at h
  refine spec_of Try.c_ref6_GraphFault (by simp) ?_
  unfold Try.l_ref6_GraphFault
  refine Ev.seq ?_
  refine W.reg hm ?_
  refine W.alloc (dt := true) rfl rfl rfl ?_
  refine W.nil ?_
  refine Ev.seq ?_
  refine Ev.seq ?_
  refine W.reg hm ?_
  refine W.mv rfl ?_
  refine W.lenL (c := (cL 1 cI)) rfl ?_
  refine W.gtr rfl rfl ?_
  refine W.nil ?_
  refine Ev.cond rfl (fun c1 => ?_) (fun c1 => ?_)
  · replace h := iteT h c1
    refine Ev.seq ?_
    refine W.reg hm ?_
    obtain ⟨r1, k2, h⟩ := obind h
    refine W.call (ref6_fault_spec n 2 (-1) r1 k2) rfl rfl (Les.refl _) rfl (.inl rfl) rfl ?_
    refine W.store (es' := [[.int .i64 r1.Code, .int .i64 r1.Index]]) (dt := true) rfl rfl rfl rfl rfl (Nat.le_of_ble_eq_true rfl) rfl rfl rfl rfl ?_
    refine W.nil ?_
    refine Ev.ret ?_
    injection h with h; subst h
    exact ⟨_, rfl, .refl _⟩
  · replace h := iteF h c1
    refine Ev.skip ?_
    refine Ev.seq ?_
    refine Ev.seq ?_
    refine W.reg hm ?_
    refine W.mv rfl ?_
    refine W.nil ?_
    refine Ev.block ?_
    refine Ev.loopW (β := Nat × Int) (fun v => ⟨[(0, .list 1 (List.map (cL 1 cI) a0)), (2, .pown 10100 0 0 0), (3, .int .i64 v.2)], [(10100, ⟨0, 25, 2, [[.int .i64 0, .int .i64 0]], true, false, false⟩)], 2⟩) (fun v => ref6_GraphFault_l1 n a0 v.1 v.2 = some r) (fun v => v.1) (n, 0) (Wk.nrmTo [0, 2, 3] [(2, 10100)] rfl rfl) h ?_
    intro ⟨m1, x2⟩ h
    try dsimp only at h ⊢
    cases m1 with
    | zero => rw [ref6_GraphFault_l1] at h; cases h
    | succ m1 =>
      rw [ref6_GraphFault_l1] at h
      refine Ev.seq ?_
      refine Ev.seq ?_
      refine W.reg hm ?_
      refine W.mv rfl ?_
      refine W.mv rfl ?_
      refine W.lenL (c := (cL 1 cI)) rfl ?_
      refine W.lss rfl rfl ?_
      refine W.nil ?_
      refine Ev.cond rfl (fun c3 => ?_) (fun c3 => ?_)
      · replace h := iteT h c3
        refine Ev.skip ?_
        refine Ev.seq ?_
        refine Ev.block ?_
        refine Ev.seq ?_
        refine W.reg hm ?_
        refine W.mv rfl ?_
        refine W.lenL (c := (cL 1 cI)) rfl ?_
        refine W.mv rfl ?_
        refine W.mv rfl ?_
        obtain ⟨e3, k4, h⟩ := obind h
        refine W.idxL (c := (cL 1 cI)) rfl rfl k4 ?_
        refine W.load rfl rfl ?_
        obtain ⟨r4, k5, h⟩ := obind h
        refine W.call (ref6_nodesCode_spec n (a0.length : Int) e3 r4 k5) rfl rfl (Les.refl _) rfl (.inl rfl) rfl ?_
        refine W.mv rfl ?_
        refine W.nil ?_
        refine Ev.seq ?_
        refine W.reg hm ?_
        refine W.mv rfl ?_
        refine W.neq rfl rfl ?_
        refine W.nil ?_
        refine Ev.cond rfl (fun c6 => ?_) (fun c6 => ?_)
        · replace h := iteT h c6
          refine Ev.seq ?_
          refine W.reg hm ?_
          refine W.mv rfl ?_
          refine W.mv rfl ?_
          obtain ⟨r5, k7, h⟩ := obind h
          refine W.call (ref6_fault_spec n r4 x2 r5 k7) rfl rfl (Les.refl _) rfl (.inl rfl) rfl ?_
          refine W.store (es' := [[.int .i64 r5.Code, .int .i64 r5.Index]]) (dt := true) rfl rfl rfl rfl rfl (Nat.le_of_ble_eq_true rfl) rfl rfl rfl rfl ?_
          refine W.nil ?_
          refine Ev.ret ?_
          injection h with h; subst h
          exact ⟨_, rfl, .refl _⟩
        · replace h := iteF h c6
          refine Ev.skip ?_
          refine W.reg hm ?_
          refine W.mv rfl ?_
          obtain ⟨x6, k8, h⟩ := obind h
          refine W.addG rfl rfl k8 ?_
          refine W.mv rfl ?_
          refine W.nil ?_
          exact ⟨(m1, x6), h, Nat.lt_succ_self _, Wk.nrmTo [0, 2, 3] [(10100, 10100)] rfl rfl⟩
      · replace h := iteF h c3
        refine Ev.exit ?_
        refine Ev.seq ?_
        refine W.reg hm ?_
        refine W.build (cs := [.int .i64 0, .int .i64 0]) rfl rfl rfl ?_
        refine W.store (es' := [[.int .i64 0, .int .i64 0]]) (dt := true) rfl rfl rfl rfl rfl (Nat.le_of_ble_eq_true rfl) rfl rfl rfl rfl ?_
        refine W.nil ?_
        refine Ev.ret ?_
        injection h with h; subst h
        exact ⟨_, rfl, .refl _⟩

set_option maxHeartbeats 4000000 in
theorem depgraph_list_spec (n : Nat) (a0 : List Int) (a1 : Int) (r : Int) (h : depgraph_list n a0 a1 = some r) : PSpec Try.prog 30 [.list 1 (List.map cI a0), .int .i64 a1] (.int .i64 r) := by
  unfold depgraph_list at h
  refine spec_of Try.c_depgraph_list (by simp) ?_
  unfold Try.l_depgraph_list
  refine Ev.seq ?_
  refine W.reg hm ?_
  refine W.mv rfl ?_
  refine W.nil ?_
  refine Ev.seq ?_
  refine Ev.seq ?_
  refine W.reg hm ?_
  refine W.mv rfl ?_
  refine W.lenL (c := cI) rfl ?_
  refine W.mv rfl ?_
  refine W.nil ?_
  refine Ev.block ?_
  refine Ev.loopW (β := Nat × Int) (fun v => ⟨[(0, .list 1 (List.map cI a0)), (1, .int .i64 a1), (7, .list 1 (List.map cI a0)), (8, .int .i64 (a0.length : Int)), (9, .int .i64 v.2)], [], 2⟩) (fun v => depgraph_list_l1 n a0 a1 v.1 v.2 = some r) (fun v => v.1) (n, 0) (Wk.nrmTo [0, 1, 7, 8, 9] [] rfl rfl) h ?_
  intro ⟨m1, x1⟩ h
  try dsimp only at h ⊢
  cases m1 with
  | zero => rw [depgraph_list_l1] at h; cases h
  | succ m1 =>
    rw [depgraph_list_l1] at h
    refine Ev.seq ?_
    refine W.reg hm ?_
    refine W.lss rfl rfl ?_
    refine W.nil ?_
    refine Ev.seq ?_
    refine Ev.cond rfl (fun c1 => ?_) (fun c1 => ?_)
    · replace h := iteT h c1
      refine Ev.skip ?_
      refine Ev.seq ?_
      refine Ev.block ?_
      refine Ev.seq ?_
      refine W.reg hm ?_
      refine W.mv rfl ?_
      obtain ⟨e2, k2, h⟩ := obind h
      refine W.idxL (c := cI) rfl rfl k2 ?_
      refine W.load rfl rfl ?_
      refine W.mv rfl ?_
      refine W.mv rfl ?_
      refine W.nil ?_
      refine Ev.seq ?_
      refine Ev.seqJ (γ := Bool) (fun v => ⟨[(0, .list 1 (List.map cI a0)), (1, .int .i64 a1), (5, .int .i64 x1), (6, .int .i64 e2), (7, .list 1 (List.map cI a0)), (8, .int .i64 (a0.length : Int)), (9, .int .i64 x1), (20, .bool v)], [], 2⟩) (fun v => depgraph_list_j1 n a0 x1 (depgraph_list_l1 n a0 a1 m1) e2 v = some r) ?_ ?_
      · refine W.reg hm ?_
        refine W.mv rfl ?_
        refine W.lss rfl rfl ?_
        refine W.mv rfl ?_
        refine W.split 16 rfl (fun c9 => ?_) (fun c9 => ?_)
        · replace h := iteT h c9
          refine W.guardF2 rfl c9 ?_
          refine W.guardF2 rfl c9 ?_
          refine W.guardF2 rfl c9 ?_
          refine W.pickT rfl rfl rfl c9 ?_
          refine W.nil ?_
          exact ⟨true, h, Wk.nrmTo [0, 1, 5, 6, 7, 8, 9, 20] [] rfl rfl⟩
        · replace h := iteF h c9
          refine W.guardT rfl c9 ?_
          refine W.mv rfl ?_
          refine W.guardT rfl c9 ?_
          refine W.mv rfl ?_
          refine W.guardT rfl c9 ?_
          refine W.geq rfl rfl ?_
          refine W.pickN rfl rfl rfl c9 ?_
          refine W.nil ?_
          exact ⟨(decide (a1 ≤ e2)), h, Wk.nrmTo [0, 1, 5, 6, 7, 8, 9, 20] [] rfl rfl⟩
      · intro x3 h
        try dsimp only at h ⊢
        unfold depgraph_list_j1 at h
        refine Ev.cond rfl (fun c3 => ?_) (fun c3 => ?_)
        · replace h := iteT h c3
          refine Ev.seq ?_
          refine W.reg hm ?_
          refine W.mv rfl ?_
          refine W.nil ?_
          refine Ev.ret ?_
          injection h with h; subst h
          exact ⟨_, rfl, .refl _⟩
        · replace h := iteF h c3
          refine Ev.skip ?_
          refine Ev.seqJ (γ := Bool) (fun v => ⟨[(0, .list 1 (List.map cI a0)), (1, .int .i64 a1), (7, .list 1 (List.map cI a0)), (8, .int .i64 (a0.length : Int)), (9, .int .i64 x1), (31, .bool v)], [], 2⟩) (fun v => depgraph_list_j2 n x1 (depgraph_list_l1 n a0 a1 m1) v = some r) ?_ ?_
          · refine W.reg hm ?_
            refine W.mv rfl ?_
            refine W.gtr rfl rfl ?_
            refine W.mv rfl ?_
            refine W.split 23 rfl (fun c6 => ?_) (fun c6 => ?_)
            · replace h := iteT h c6
              refine W.guardT rfl c6 ?_
              refine W.mv rfl ?_
              refine W.guardT rfl c6 ?_
              refine W.mv rfl ?_
              refine W.guardT rfl c6 ?_
              refine W.mv rfl ?_
              refine W.guardT rfl c6 ?_
              obtain ⟨x6, k7, h⟩ := obind h
              refine W.subG rfl rfl k7 ?_
              refine W.guardT rfl c6 ?_
              obtain ⟨e7, k8, h⟩ := obind h
              refine W.idxL (c := cI) rfl rfl k8 ?_
              refine W.guardT rfl c6 ?_
              refine W.load rfl rfl ?_
              refine W.guardT rfl c6 ?_
              refine W.leq rfl rfl ?_
              refine W.pickT rfl rfl rfl c6 ?_
              refine W.nil ?_
              exact ⟨(decide (e2 ≤ e7)), h, Wk.nrmTo [0, 1, 7, 8, 9, 31] [] rfl rfl⟩
            · replace h := iteF h c6
              refine W.guardF1 rfl c6 ?_
              refine W.guardF1 rfl c6 ?_
              refine W.guardF1 rfl c6 ?_
              refine W.guardF1 rfl c6 ?_
              refine W.guardF1 rfl c6 ?_
              refine W.guardF1 rfl c6 ?_
              refine W.guardF1 rfl c6 ?_
              refine W.pickN rfl rfl rfl c6 ?_
              refine W.nil ?_
              exact ⟨false, h, Wk.nrmTo [0, 1, 7, 8, 9, 31] [] rfl rfl⟩
          · intro x4 h
            try dsimp only at h ⊢
            unfold depgraph_list_j2 at h
            refine Ev.cond rfl (fun c4 => ?_) (fun c4 => ?_)
            · replace h := iteT h c4
              refine Ev.seq ?_
              refine W.reg hm ?_
              refine W.mv rfl ?_
              refine W.nil ?_
              refine Ev.ret ?_
              injection h with h; subst h
              exact ⟨_, rfl, .refl _⟩
            · replace h := iteF h c4
              refine Ev.skip ?_
              refine W.reg hm ?_
              obtain ⟨x5, k5, h⟩ := obind h
              refine W.addG rfl rfl k5 ?_
              refine W.mv rfl ?_
              refine W.nil ?_
              exact ⟨(m1, x5), h, Nat.lt_succ_self _, Wk.nrmTo [0, 1, 7, 8, 9] [] rfl rfl⟩
    · replace h := iteF h c1
      refine Ev.exit ?_
      refine Ev.seq ?_
      refine W.reg hm ?_
      refine W.mv rfl ?_
      refine W.nil ?_
      refine Ev.ret ?_
      injection h with h; subst h
      exact ⟨_, rfl, .refl _⟩

theorem depgraph_Validate_spec (n : Nat) (a0 : List (List Int)) (r : SCodeIndex) (h : depgraph_Validate n a0 = some r) : PSpec Try.prog 11 [.list 1 (List.map (cL 1 cI) a0)] (.agg (SCodeIndex.cells r)) := by
  unfold depgraph_Validate at h
  refine spec_of Try.c_depgraph_Validate (by simp) ?_
  unfold Try.l_depgraph_Validate
  refine Ev.seq ?_
  refine W.reg hm ?_
  refine W.alloc (dt := true) rfl rfl rfl ?_
  refine W.nil ?_
  refine Ev.seq ?_
  refine Ev.seq ?_
  refine W.reg hm ?_
  refine W.mv rfl ?_
  refine W.lenL (c := (cL 1 cI)) rfl ?_
  refine W.gtr rfl rfl ?_
  refine W.nil ?_
  refine Ev.cond rfl (fun c1 => ?_) (fun c1 => ?_)
  · replace h := iteT h c1
    refine Ev.seq ?_
    refine W.reg hm ?_
    refine W.build (cs := [.int .i64 2, .int .i64 (-1)]) rfl rfl rfl ?_
    refine W.store (es' := [[.int .i64 2, .int .i64 (-1)]]) (dt := true) rfl rfl rfl rfl rfl (Nat.le_of_ble_eq_true rfl) rfl rfl rfl rfl ?_
    refine W.nil ?_
    refine Ev.ret ?_
    injection h with h; subst h
    exact ⟨_, rfl, .refl _⟩
  · replace h := iteF h c1
    refine Ev.skip ?_
    refine Ev.seq ?_
    refine Ev.seq ?_
    refine W.reg hm ?_
    refine W.mv rfl ?_
    refine W.lenL (c := (cL 1 cI)) rfl ?_
    refine W.mv rfl ?_
    refine W.nil ?_
    refine Ev.block ?_
    refine Ev.loopW (β := Nat × Int) (fun v => ⟨[(0, .list 1 (List.map (cL 1 cI) a0)), (2, .pown 10100 0 0 0), (10, .list 1 (List.map (cL 1 cI) a0)), (11, .int .i64 (a0.length : Int)), (12, .int .i64 v.2)], [(10100, ⟨0, 25, 2, [[.int .i64 0, .int .i64 0]], true, false, false⟩)], 2⟩) (fun v => depgraph_Validate_l1 n a0 v.1 v.2 = some r) (fun v => v.1) (n, 0) (Wk.nrmTo [0, 2, 10, 11, 12] [(2, 10100)] rfl rfl) h ?_
    intro ⟨m1, x1⟩ h
    try dsimp only at h ⊢
    cases m1 with
    | zero => rw [depgraph_Validate_l1] at h; cases h
    | succ m1 =>
      rw [depgraph_Validate_l1] at h
      refine Ev.seq ?_
      refine W.reg hm ?_
      refine W.lss rfl rfl ?_
      refine W.nil ?_
      refine Ev.seq ?_
      refine Ev.cond rfl (fun c2 => ?_) (fun c2 => ?_)
      · replace h := iteT h c2
        refine Ev.skip ?_
        refine Ev.seq ?_
        refine Ev.block ?_
        refine Ev.seq ?_
        refine W.reg hm ?_
        refine W.mv rfl ?_
        obtain ⟨e2, k3, h⟩ := obind h
        refine W.idxL (c := (cL 1 cI)) rfl rfl k3 ?_
        refine W.load rfl rfl ?_
        refine W.mv rfl ?_
        refine W.mv rfl ?_
        refine W.nil ?_
        refine Ev.seq ?_
        refine W.reg hm ?_
        refine W.mv rfl ?_
        refine W.mv rfl ?_
        refine W.lenL (c := (cL 1 cI)) rfl ?_
        obtain ⟨r3, k4, h⟩ := obind h
        refine W.call (depgraph_list_spec n e2 (a0.length : Int) r3 k4) rfl rfl (Les.refl _) rfl (.inl rfl) rfl ?_
        refine W.mv rfl ?_
        refine W.nil ?_
        refine Ev.seq ?_
        refine W.reg hm ?_
        refine W.mv rfl ?_
        refine W.neq rfl rfl ?_
        refine W.nil ?_
        refine Ev.cond rfl (fun c5 => ?_) (fun c5 => ?_)
        · replace h := iteT h c5
          refine Ev.seq ?_
          refine W.reg hm ?_
          refine W.mv rfl ?_
          refine W.mv rfl ?_
          refine W.build (cs := [.int .i64 r3, .int .i64 x1]) rfl rfl rfl ?_
          refine W.store (es' := [[.int .i64 r3, .int .i64 x1]]) (dt := true) rfl rfl rfl rfl rfl (Nat.le_of_ble_eq_true rfl) rfl rfl rfl rfl ?_
          refine W.nil ?_
          refine Ev.ret ?_
          injection h with h; subst h
          exact ⟨_, rfl, .refl _⟩
        · replace h := iteF h c5
          refine Ev.skip ?_
          refine W.reg hm ?_
          obtain ⟨x4, k6, h⟩ := obind h
          refine W.addG rfl rfl k6 ?_
          refine W.mv rfl ?_
          refine W.nil ?_
          exact ⟨(m1, x4), h, Nat.lt_succ_self _, Wk.nrmTo [0, 2, 10, 11, 12] [(10100, 10100)] rfl rfl⟩
      · replace h := iteF h c2
        refine Ev.exit ?_
        refine Ev.seq ?_
        refine W.reg hm ?_
        refine W.build (cs := [.int .i64 0, .int .i64 0]) rfl rfl rfl ?_
        refine W.store (es' := [[.int .i64 0, .int .i64 0]]) (dt := true) rfl rfl rfl rfl rfl (Nat.le_of_ble_eq_true rfl) rfl rfl rfl rfl ?_
        refine W.nil ?_
        refine Ev.ret ?_
        injection h with h; subst h
        exact ⟨_, rfl, .refl _⟩

theorem math_bits_Mul32_spec (n : Nat) (a0 : Int) (a1 : Int) (r : (Int × Int)) (h : math_bits_Mul32 n a0 a1 = some r) : PSpec Try.prog 41 [.int .u32 a0, .int .u32 a1] (.tup [.int .u32 r.1, .int .u32 r.2]) := by
  unfold math_bits_Mul32 at h
  refine spec_of Try.c_math_bits_Mul32 (by simp) ?_
  unfold Try.l_math_bits_Mul32
  refine Ev.seq ?_
  refine W.reg hm ?_
  refine W.mv rfl ?_
  refine W.mv rfl ?_
  refine W.nil ?_
  refine Ev.seq ?_
  refine W.reg hm ?_
  refine W.mv rfl ?_
  refine W.conv rfl rfl ?_
  refine W.mv rfl ?_
  refine W.conv rfl rfl ?_
  refine W.bin (z := .int .u64 (kmul .u64 (IntKind.wrap .u64 a0) (IntKind.wrap .u64 a1))) rfl rfl rfl ?_
  refine W.mv rfl ?_
  refine W.nil ?_
  refine Ev.seq ?_
  refine W.reg hm ?_
  refine W.mv rfl ?_
  refine W.shrC (n := 32) rfl rfl ?_
  refine W.conv rfl rfl ?_
  refine W.mv rfl ?_
  refine W.conv rfl rfl ?_
  refine W.mv rfl ?_
  refine W.mv rfl ?_
  refine W.nil ?_
  refine Ev.ret ?_
  injection h with h; subst h
  exact ⟨_, rfl, .refl _⟩

theorem math_bits_Mul64_spec (n : Nat) (a0 : Int) (a1 : Int) (r : (Int × Int)) (h : math_bits_Mul64 n a0 a1 = some r) : PSpec Try.prog 42 [.int .u64 a0, .int .u64 a1] (.tup [.int .u64 r.1, .int .u64 r.2]) := by
  unfold math_bits_Mul64 at h
  refine spec_of Try.c_math_bits_Mul64 (by simp) ?_
  unfold Try.l_math_bits_Mul64
  refine Ev.seq ?_
  refine W.reg hm ?_
  refine W.mv rfl ?_
  refine W.mv rfl ?_
  refine W.nil ?_
  refine Ev.seq ?_
  refine W.reg hm ?_
  refine W.mv rfl ?_
  refine W.bin (z := .int .u64 (kand .u64 a0 4294967295)) rfl rfl rfl ?_
  refine W.mv rfl ?_
  refine W.nil ?_
  refine Ev.seq ?_
  refine W.reg hm ?_
  refine W.mv rfl ?_
  refine W.shrC (n := 32) rfl rfl ?_
  refine W.mv rfl ?_
  refine W.nil ?_
  refine Ev.seq ?_
  refine W.reg hm ?_
  refine W.mv rfl ?_
  refine W.bin (z := .int .u64 (kand .u64 a1 4294967295)) rfl rfl rfl ?_
  refine W.mv rfl ?_
  refine W.nil ?_
  refine Ev.seq ?_
  refine W.reg hm ?_
  refine W.mv rfl ?_
  refine W.shrC (n := 32) rfl rfl ?_
  refine W.mv rfl ?_
  refine W.nil ?_
  refine Ev.seq ?_
  refine W.reg hm ?_
  refine W.mv rfl ?_
  refine W.mv rfl ?_
  refine W.bin (z := .int .u64 (kmul .u64 (kand .u64 a0 4294967295) (kand .u64 a1 4294967295))) rfl rfl rfl ?_
  refine W.mv rfl ?_
  refine W.nil ?_
  refine Ev.seq ?_
  refine W.reg hm ?_
  refine W.mv rfl ?_
  refine W.mv rfl ?_
  refine W.bin (z := .int .u64 (kmul .u64 (kshr .u64 a0 32) (kand .u64 a1 4294967295))) rfl rfl rfl ?_
  refine W.mv rfl ?_
  refine W.shrC (n := 32) rfl rfl ?_
  refine W.bin (z := .int .u64 (kadd .u64 (kmul .u64 (kshr .u64 a0 32) (kand .u64 a1 4294967295)) (kshr .u64 (kmul .u64 (kand .u64 a0 4294967295) (kand .u64 a1 4294967295)) 32))) rfl rfl rfl ?_
  refine W.mv rfl ?_
  refine W.nil ?_
  refine Ev.seq ?_
  refine W.reg hm ?_
  refine W.mv rfl ?_
  refine W.bin (z := .int .u64 (kand .u64 (kadd .u64 (kmul .u64 (kshr .u64 a0 32) (kand .u64 a1 4294967295)) (kshr .u64 (kmul .u64 (kand .u64 a0 4294967295) (kand .u64 a1 4294967295)) 32)) 4294967295)) rfl rfl rfl ?_
  refine W.mv rfl ?_
  refine W.nil ?_
  refine Ev.seq ?_
  refine W.reg hm ?_
  refine W.mv rfl ?_
  refine W.shrC (n := 32) rfl rfl ?_
  refine W.mv rfl ?_
  refine W.nil ?_
  refine Ev.seq ?_
  refine W.reg hm ?_
  refine W.mv rfl ?_
  refine W.mv rfl ?_
  refine W.mv rfl ?_
  refine W.bin (z := .int .u64 (kmul .u64 (kand .u64 a0 4294967295) (kshr .u64 a1 32))) rfl rfl rfl ?_
  refine W.bin (z := .int .u64 (kadd .u64 (kand .u64 (kadd .u64 (kmul .u64 (kshr .u64 a0 32) (kand .u64 a1 4294967295)) (kshr .u64 (kmul .u64 (kand .u64 a0 4294967295) (kand .u64 a1 4294967295)) 32)) 4294967295) (kmul .u64 (kand .u64 a0 4294967295) (kshr .u64 a1 32)))) rfl rfl rfl ?_
  refine W.mv rfl ?_
  refine W.nil ?_
  refine Ev.seq ?_
  refine W.reg hm ?_
  refine W.mv rfl ?_
  refine W.mv rfl ?_
  refine W.bin (z := .int .u64 (kmul .u64 (kshr .u64 a0 32) (kshr .u64 a1 32))) rfl rfl rfl ?_
  refine W.mv rfl ?_
  refine W.bin (z := .int .u64 (kadd .u64 (kmul .u64 (kshr .u64 a0 32) (kshr .u64 a1 32)) (kshr .u64 (kadd .u64 (kmul .u64 (kshr .u64 a0 32) (kand .u64 a1 4294967295)) (kshr .u64 (kmul .u64 (kand .u64 a0 4294967295) (kand .u64 a1 4294967295)) 32)) 32))) rfl rfl rfl ?_
  refine W.mv rfl ?_
  refine W.shrC (n := 32) rfl rfl ?_
  refine W.bin (z := .int .u64 (kadd .u64 (kadd .u64 (kmul .u64 (kshr .u64 a0 32) (kshr .u64 a1 32)) (kshr .u64 (kadd .u64 (kmul .u64 (kshr .u64 a0 32) (kand .u64 a1 4294967295)) (kshr .u64 (kmul .u64 (kand .u64 a0 4294967295) (kand .u64 a1 4294967295)) 32)) 32)) (kshr .u64 (kadd .u64 (kand .u64 (kadd .u64 (kmul .u64 (kshr .u64 a0 32) (kand .u64 a1 4294967295)) (kshr .u64 (kmul .u64 (kand .u64 a0 4294967295) (kand .u64 a1 4294967295)) 32)) 4294967295) (kmul .u64 (kand .u64 a0 4294967295) (kshr .u64 a1 32))) 32))) rfl rfl rfl ?_
  refine W.mv rfl ?_
  refine W.nil ?_
  refine Ev.seq ?_
  refine W.reg hm ?_
  refine W.mv rfl ?_
  refine W.mv rfl ?_
  refine W.bin (z := .int .u64 (kmul .u64 a0 a1)) rfl rfl rfl ?_
  refine W.mv rfl ?_
  refine W.nil ?_
  refine Ev.ret ?_
  injection h with h; subst h
  exact ⟨_, rfl, .refl _⟩

theorem math_bits_Mul_spec (n : Nat) (a0 : Int) (a1 : Int) (r : (Int × Int)) (h : math_bits_Mul n a0 a1 = some r) : PSpec Try.prog 40 [.int .u64 a0, .int .u64 a1] (.tup [.int .u64 r.1, .int .u64 r.2]) := by
  unfold math_bits_Mul at h
  refine spec_of Try.c_math_bits_Mul (by simp) ?_
  unfold Try.l_math_bits_Mul
  refine Ev.seq ?_
  refine W.reg hm ?_
  refine W.mv rfl ?_
  refine W.mv rfl ?_
  refine W.nil ?_
  refine Ev.seq ?_
  refine Ev.condF rfl rfl ?_
  refine Ev.skip ?_
  refine Ev.seq ?_
  refine W.reg hm ?_
  refine W.mv rfl ?_
  refine W.mv rfl ?_
  obtain ⟨r1, k1, h⟩ := obind h
  refine W.call (math_bits_Mul64_spec n a0 a1 r1 k1) rfl rfl (Les.refl _) rfl (.inl rfl) rfl ?_
  refine W.mv rfl ?_
  refine W.extract rfl rfl ?_
  refine W.extract rfl rfl ?_
  refine W.mv rfl ?_
  refine W.mv rfl ?_
  refine W.nil ?_
  refine Ev.seq ?_
  refine W.reg hm ?_
  refine W.mv rfl ?_
  refine W.mv rfl ?_
  refine W.mv rfl ?_
  refine W.mv rfl ?_
  refine W.nil ?_
  refine Ev.ret ?_
  injection h with h; subst h
  exact ⟨_, rfl, .refl _⟩

set_option maxHeartbeats 4000000 in
theorem depgraph_distances_spec (n : Nat) (a0 : List (List Int)) (a1 : Int) (r : (List Int)) (h : depgraph_distances n a0 a1 = some r) : PSpec Try.prog 32 [.list 1 (List.map (cL 1 cI) a0), .int .i64 a1] (.list 1 (List.map cI r)) := by
  unfold depgraph_distances at h
  refine spec_of Try.c_depgraph_distances (by simp) ?_
  unfold Try.l_depgraph_distances
  refine Ev.seq ?_
  refine W.reg hm ?_
  refine W.mv rfl ?_
  refine W.nil ?_
  refine Ev.seq ?_
  refine Ev.regS rfl ?_
  refine Sq.w 3 (Nat.le_of_ble_eq_true rfl) ?_
  refine W.mkSlice (dt := true) (es := [[.int .i64 1000]]) rfl rfl rfl rfl rfl rfl ?_
  refine W.mv rfl ?_
  refine W.lenL (c := (cL 1 cI)) rfl ?_
  refine W.nil ?_
  refine Sq.weak (st' := ⟨[(0, .list 1 (List.map (cL 1 cI) a0)), (1, .int .i64 a1), (12, .own 10000 0), (14, .int .i64 (a0.length : Int))], [(10000, ⟨0, 3, 1, List.map cI ([1000] : List Int), true, false, false⟩)], 2⟩) ?_ (Wk.nrmTo [0, 1, 12, 14] [(12, 10000)] rfl rfl)
  refine Sq.call rfl Try.c_slices_Repeat_int ⟨_, rfl, Nat.le_of_ble_eq_true rfl, ?_⟩
  unfold Try.l_slices_Repeat_int
  refine Ev.retJ (γ := List Int) (fun v => ⟨[(4, .own 10100 0), (65536, .list 1 (List.map (cL 1 cI) a0)), (65537, .int .i64 a1)], [(10100, ⟨0, 3, 1, List.map cI v, true, false, false⟩)], 2⟩) (fun v => depgraph_distances_j1 n a0 a1 v = some r) ?_ ?_
  · refine Ev.seq ?_
    refine W.reg hm ?_
    refine W.mv rfl ?_
    refine W.nil ?_
    refine Ev.seq ?_
    refine Ev.seq ?_
    refine W.reg hm ?_
    refine W.mv rfl ?_
    refine W.lss rfl rfl ?_
    refine W.nil ?_
    refine Ev.cond rfl (fun c13 => ?_) (fun c13 => ?_)
    · replace h := iteT h c13
      refine W.reg hm ?_
      cases h
    · replace h := iteF h c13
      refine Ev.skip ?_
      refine Ev.seq ?_
      refine W.reg hm ?_
      refine W.mv rfl ?_
      refine W.lenO (l := ([1000] : List Int)) (c := cI) rfl rfl rfl ?_
      refine W.conv rfl rfl ?_
      refine W.mv rfl ?_
      refine W.conv rfl rfl ?_
      obtain ⟨r20, k14, h⟩ := obind h
      refine W.call (math_bits_Mul_spec n (IntKind.wrap .u64 (([1000] : List Int).length : Int)) (IntKind.wrap .u64 (a0.length : Int)) r20 k14) rfl rfl (Les.refl _) rfl (.inl rfl) rfl ?_
      refine W.mv rfl ?_
      refine W.extract rfl rfl ?_
      refine W.extract rfl rfl ?_
      refine W.mv rfl ?_
      refine W.mv rfl ?_
      refine W.nil ?_
      refine Ev.seq ?_
      refine Ev.seqJ (γ := Bool) (fun v => ⟨[(0, .own 10200 0), (6, .int .u64 r20.2), (26, .bool v), (65536, .list 1 (List.map (cL 1 cI) a0)), (65537, .int .i64 a1)], [(10200, ⟨0, 3, 1, List.map cI ([1000] : List Int), true, false, false⟩)], 2⟩) (fun v => depgraph_distances_j4 n a0 a1 r20 v = some r) ?_ ?_
      · refine W.reg hm ?_
        refine W.mv rfl ?_
        refine W.gtr rfl rfl ?_
        refine W.mv rfl ?_
        refine W.split 23 rfl (fun c21 => ?_) (fun c21 => ?_)
        · replace h := iteT h c21
          refine W.guardF2 rfl c21 ?_
          refine W.guardF2 rfl c21 ?_
          refine W.pickT rfl rfl rfl c21 ?_
          refine W.nil ?_
          exact ⟨true, h, Wk.nrmTo [0, 6, 26, 65536, 65537] [(10000, 10200)] rfl rfl⟩
        · replace h := iteF h c21
          refine W.guardT rfl c21 ?_
          refine W.mv rfl ?_
          refine W.guardT rfl c21 ?_
          refine W.gtr rfl rfl ?_
          refine W.pickN rfl rfl rfl c21 ?_
          refine W.nil ?_
          exact ⟨(decide (9223372036854775807 < r20.2)), h, Wk.nrmTo [0, 6, 26, 65536, 65537] [(10000, 10200)] rfl rfl⟩
      · intro x21 h
        try dsimp only at h ⊢
        unfold depgraph_distances_j4 at h
        refine Ev.cond rfl (fun c15 => ?_) (fun c15 => ?_)
        · replace h := iteT h c15
          refine W.reg hm ?_
          cases h
        · replace h := iteF h c15
          refine Ev.skip ?_
          refine Ev.seq ?_
          refine W.reg hm ?_
          refine W.mv rfl ?_
          refine W.conv rfl rfl ?_
          obtain ⟨w22, k16, h⟩ := obind h
          refine W.makeG true (c := cI) rfl rfl k16 rfl rfl ?_
          refine W.mv rfl ?_
          refine W.nil ?_
          refine Ev.seq ?_
          refine W.reg hm ?_
          refine W.mv rfl ?_
          refine W.mv rfl ?_
          refine W.copyR (l := w22) (c := cI) (ys := ([1000] : List Int)) rfl rfl rfl rfl rfl rfl rfl ?_
          refine W.mv rfl ?_
          refine W.nil ?_
          refine Ev.seqJ (γ := List Int) (fun v => ⟨[(7, .own 10300 0), (65536, .list 1 (List.map (cL 1 cI) a0)), (65537, .int .i64 a1)], [(10300, ⟨0, 3, 1, List.map cI v, true, false, false⟩)], 2⟩) (fun v => depgraph_distances_j5 n a0 a1 v = some r) ?_ ?_
          · refine Ev.block ?_
            refine Ev.loopW (β := Nat × (List Int) × Int) (fun v => ⟨[(7, .own 10400 0), (8, .int .i64 v.2.2), (65536, .list 1 (List.map (cL 1 cI) a0)), (65537, .int .i64 a1)], [(10400, ⟨0, 3, 1, List.map cI v.2.1, true, false, false⟩)], 2⟩) (fun v => depgraph_distances_l4 n a0 a1 v.1 v.2.1 v.2.2 = some r) (fun v => v.1) (n, (gcopy w22 0 w22.length ([1000] : List Int)), ((min ([1000] : List Int).length (w22.length - 0) : Nat) : Int)) (Wk.nrmTo [7, 8, 65536, 65537] [(30, 10400)] rfl rfl) h ?_
            intro ⟨m4, w24, x25⟩ h
            try dsimp only at h ⊢
            cases m4 with
            | zero => rw [depgraph_distances_l4] at h; cases h
            | succ m4 =>
              rw [depgraph_distances_l4] at h
              refine Ev.seq ?_
              refine Ev.seq ?_
              refine W.reg hm ?_
              refine W.mv rfl ?_
              refine W.mv rfl ?_
              refine W.lenO (l := w24) (c := cI) rfl rfl rfl ?_
              refine W.lss rfl rfl ?_
              refine W.nil ?_
              refine Ev.cond rfl (fun c17 => ?_) (fun c17 => ?_)
              · replace h := iteT h c17
                refine Ev.skip ?_
                refine Ev.block ?_
                refine W.regD hm ?_
                refine W.mv rfl ?_
                refine W.mv rfl ?_
                refine W.mv rfl ?_
                obtain ⟨s26, k18, h⟩ := obind h
                refine W.sliceR (l := w24) (c := cI) rfl rfl rfl rfl k18 (by rw [List.length_map]; exact ix0 (gcut_some k18).1) ?_
                refine W.mv rfl ?_
                refine W.mv rfl ?_
                obtain ⟨s27, k19, h⟩ := obind h
                refine W.sliceR (l := w24) (c := cI) rfl rfl rfl rfl k19 (ix1 (gcut_some k19).2.2.2.1) ?_
                refine W.copyS (l := w24) (c := cI) (ys := s27) rfl rfl rfl rfl k18 rfl (srcSub2 rfl rfl rfl k19) rfl ?_
                obtain ⟨x28, k20, h⟩ := obind h
                refine W.addG rfl rfl k20 ?_
                refine W.mv rfl ?_
                refine W.nil ⟨rfl, ?_⟩
                exact ⟨(m4, (gcopy w24 x25.toNat ((w24.length : Int).toNat) s27), x28), h, Nat.lt_succ_self _, Wk.nrmTo [7, 8, 65536, 65537] [(10400, 10400)] rfl rfl⟩
              · replace h := iteF h c17
                refine Ev.exit ?_
                exact ⟨w24, h, Wk.nrmTo [7, 65536, 65537] [(10400, 10300)] rfl rfl⟩
          · intro w23 h
            try dsimp only at h ⊢
            unfold depgraph_distances_j5 at h
            refine Ev.seq ?_
            refine W.reg hm ?_
            refine W.mv rfl ?_
            refine W.mv rfl ?_
            refine W.nil ?_
            refine Ev.ret ?_
            exact ⟨w23, h, Wk.nrmTo [4, 65536, 65537] [(10300, 10100)] rfl rfl⟩
  · intro w1 h
    try dsimp only at h ⊢
    unfold depgraph_distances_j1 at h
    refine ⟨_, rfl, ?_⟩
    refine Sq.wEnd (Nat.le_of_ble_eq_true rfl) ?_
    refine W.mv rfl ?_
    refine W.nil ?_
    refine Ev.seq ?_
    refine Ev.seq ?_
    refine W.reg hm ?_
    refine W.mv rfl ?_
    refine W.nil ?_
    refine Ev.block ?_
    refine Ev.loopW (β := Nat × (List Int) × Bool) (fun v => ⟨[(0, .list 1 (List.map (cL 1 cI) a0)), (1, .int .i64 a1), (5, .own 10200 0), (6, .bool v.2.2)], [(10200, ⟨0, 3, 1, List.map cI v.2.1, true, false, false⟩)], 2⟩) (fun v => depgraph_distances_l1 n a0 a1 v.1 v.2.1 v.2.2 = some r) (fun v => v.1) (n, w1, true) (Wk.nrmTo [0, 1, 5, 6] [(10100, 10200)] rfl rfl) h ?_
    intro ⟨m1, w2, x3⟩ h
    try dsimp only at h ⊢
    cases m1 with
    | zero => rw [depgraph_distances_l1] at h; cases h
    | succ m1 =>
      rw [depgraph_distances_l1] at h
      refine Ev.seq ?_
      refine Ev.seq ?_
      refine W.reg hm ?_
      refine W.mv rfl ?_
      refine W.nil ?_
      refine Ev.cond rfl (fun c1 => ?_) (fun c1 => ?_)
      · replace h := iteT h c1
        refine Ev.skip ?_
        refine Ev.block ?_
        refine Ev.seq ?_
        refine W.reg hm ?_
        refine W.mv rfl ?_
        refine W.nil ?_
        refine Ev.seq ?_
        refine W.reg hm ?_
        refine W.mv rfl ?_
        refine W.lenL (c := (cL 1 cI)) rfl ?_
        refine W.mv rfl ?_
        refine W.nil ?_
        refine Ev.block ?_
        refine Ev.loopW (β := Nat × (List Int) × Bool × Int) (fun v => ⟨[(0, .list 1 (List.map (cL 1 cI) a0)), (1, .int .i64 a1), (5, .own 10300 0), (6, .bool v.2.2.1), (17, .list 1 (List.map (cL 1 cI) a0)), (18, .int .i64 (a0.length : Int)), (19, .int .i64 v.2.2.2)], [(10300, ⟨0, 3, 1, List.map cI v.2.1, true, false, false⟩)], 2⟩) (fun v => depgraph_distances_l2 n a0 a1 (depgraph_distances_l1 n a0 a1 m1) v.1 v.2.1 v.2.2.1 v.2.2.2 = some r) (fun v => v.1) (n, w2, false, 0) (Wk.nrmTo [0, 1, 5, 6, 17, 18, 19] [(10200, 10300)] rfl rfl) h ?_
        intro ⟨m2, w4, x5, x6⟩ h
        try dsimp only at h ⊢
        cases m2 with
        | zero => rw [depgraph_distances_l2] at h; cases h
        | succ m2 =>
          rw [depgraph_distances_l2] at h
          refine Ev.seq ?_
          refine W.reg hm ?_
          refine W.lss rfl rfl ?_
          refine W.nil ?_
          refine Ev.seq ?_
          refine Ev.cond rfl (fun c2 => ?_) (fun c2 => ?_)
          · replace h := iteT h c2
            refine Ev.skip ?_
            refine Ev.seq ?_
            refine Ev.block ?_
            refine Ev.seq ?_
            refine W.reg hm ?_
            refine W.mv rfl ?_
            obtain ⟨e7, k3, h⟩ := obind h
            refine W.idxL (c := (cL 1 cI)) rfl rfl k3 ?_
            refine W.load rfl rfl ?_
            refine W.mv rfl ?_
            refine W.mv rfl ?_
            refine W.nil ?_
            refine Ev.seq ?_
            refine W.reg hm ?_
            refine W.mv rfl ?_
            refine W.lenL (c := cI) rfl ?_
            refine W.mv rfl ?_
            refine W.nil ?_
            refine Ev.block ?_
            refine Ev.loopW (β := Nat × (List Int) × Bool × Int) (fun v => ⟨[(0, .list 1 (List.map (cL 1 cI) a0)), (1, .int .i64 a1), (5, .own 10400 0), (6, .bool v.2.2.1), (7, .int .i64 x6), (17, .list 1 (List.map (cL 1 cI) a0)), (18, .int .i64 (a0.length : Int)), (19, .int .i64 x6), (24, .list 1 (List.map cI e7)), (25, .int .i64 (e7.length : Int)), (26, .int .i64 v.2.2.2)], [(10400, ⟨0, 3, 1, List.map cI v.2.1, true, false, false⟩)], 2⟩) (fun v => depgraph_distances_l3 n a1 x6 (depgraph_distances_l2 n a0 a1 (depgraph_distances_l1 n a0 a1 m1) m2) e7 v.1 v.2.1 v.2.2.1 v.2.2.2 = some r) (fun v => v.1) (n, w4, x5, 0) (Wk.nrmTo [0, 1, 5, 6, 7, 17, 18, 19, 24, 25, 26] [(10300, 10400)] rfl rfl) h ?_
            intro ⟨m3, w8, x9, x10⟩ h
            try dsimp only at h ⊢
            cases m3 with
            | zero => rw [depgraph_distances_l3] at h; cases h
            | succ m3 =>
              rw [depgraph_distances_l3] at h
              refine Ev.seq ?_
              refine W.reg hm ?_
              refine W.lss rfl rfl ?_
              refine W.nil ?_
              refine Ev.seq ?_
              refine Ev.cond rfl (fun c4 => ?_) (fun c4 => ?_)
              · replace h := iteT h c4
                refine Ev.skip ?_
                refine Ev.seqJ (γ := (List Int) × Bool) (fun v => ⟨[(0, .list 1 (List.map (cL 1 cI) a0)), (1, .int .i64 a1), (5, .own 10500 0), (6, .bool v.2), (7, .int .i64 x6), (17, .list 1 (List.map (cL 1 cI) a0)), (18, .int .i64 (a0.length : Int)), (19, .int .i64 x6), (24, .list 1 (List.map cI e7)), (25, .int .i64 (e7.length : Int)), (26, .int .i64 x10)], [(10500, ⟨0, 3, 1, List.map cI v.1, true, false, false⟩)], 2⟩) (fun v => depgraph_distances_j2 n x10 (depgraph_distances_l3 n a1 x6 (depgraph_distances_l2 n a0 a1 (depgraph_distances_l1 n a0 a1 m1) m2) e7 m3) v.1 v.2 = some r) ?_ ?_
                · refine Ev.block ?_
                  refine Ev.seq ?_
                  refine W.reg hm ?_
                  obtain ⟨e14, k6, h⟩ := obind h
                  refine W.idxL (c := cI) rfl rfl k6 ?_
                  refine W.load rfl rfl ?_
                  refine W.mv rfl ?_
                  refine W.nil ?_
                  refine Ev.seq ?_
                  refine W.reg hm ?_
                  refine W.mv rfl ?_
                  refine W.mv rfl ?_
                  obtain ⟨e15, k7, h⟩ := obind h
                  refine W.idxR (l := w8) (c := cI) rfl rfl rfl rfl rfl k7 ?_
                  refine W.loadR (l := w8) (c := cI) (v := e15) (p := .int .i64 e15) rfl rfl rfl (gidx_some k7).2 rfl ?_
                  obtain ⟨x16, k8, h⟩ := obind h
                  refine W.addG rfl rfl k8 ?_
                  refine W.mv rfl ?_
                  refine W.nil ?_
                  refine Ev.seqJ (γ := Int) (fun v => ⟨[(0, .list 1 (List.map (cL 1 cI) a0)), (1, .int .i64 a1), (5, .own 10600 0), (6, .bool x9), (7, .int .i64 x6), (11, .int .i64 v), (17, .list 1 (List.map (cL 1 cI) a0)), (18, .int .i64 (a0.length : Int)), (19, .int .i64 x6), (24, .list 1 (List.map cI e7)), (25, .int .i64 (e7.length : Int)), (26, .int .i64 x10)], [(10600, ⟨0, 3, 1, List.map cI w8, true, false, false⟩)], 2⟩) (fun v => depgraph_distances_j3 n x6 w8 x9 x10 (depgraph_distances_l3 n a1 x6 (depgraph_distances_l2 n a0 a1 (depgraph_distances_l1 n a0 a1 m1) m2) e7 m3) v = some r) ?_ ?_
                  · refine Ev.seq ?_
                    refine W.reg hm ?_
                    refine W.mv rfl ?_
                    refine W.mv rfl ?_
                    refine W.eql rfl rfl ?_
                    refine W.nil ?_
                    refine Ev.cond rfl (fun c11 => ?_) (fun c11 => ?_)
                    · replace h := iteT h c11
                      refine W.reg hm ?_
                      refine W.mv rfl ?_
                      refine W.nil ?_
                      exact ⟨1, h, Wk.nrmTo [0, 1, 5, 6, 7, 11, 17, 18, 19, 24, 25, 26] [(10400, 10600)] rfl rfl⟩
                    · replace h := iteF h c11
                      refine Ev.skip ?_
                      exact ⟨x16, h, Wk.nrmTo [0, 1, 5, 6, 7, 11, 17, 18, 19, 24, 25, 26] [(10400, 10600)] rfl rfl⟩
                  · intro x17 h
                    try dsimp only at h ⊢
                    unfold depgraph_distances_j3 at h
                    refine Ev.seq ?_
                    refine W.reg hm ?_
                    refine W.mv rfl ?_
                    refine W.mv rfl ?_
                    refine W.mv rfl ?_
                    obtain ⟨e18, k9, h⟩ := obind h
                    refine W.idxR (l := w8) (c := cI) rfl rfl rfl rfl rfl k9 ?_
                    refine W.loadR (l := w8) (c := cI) (v := e18) (p := .int .i64 e18) rfl rfl rfl (gidx_some k9).2 rfl ?_
                    refine W.lss rfl rfl ?_
                    refine W.nil ?_
                    refine Ev.cond rfl (fun c10 => ?_) (fun c10 => ?_)
                    · replace h := iteT h c10
                      refine W.reg hm ?_
                      refine W.mv rfl ?_
                      refine W.mv rfl ?_
                      refine W.mv rfl ?_
                      refine W.idxR (l := w8) (c := cI) rfl rfl rfl rfl rfl k9 ?_
                      refine W.storeR true (l := w8) (c := cI) (v := e18) (v' := x17) rfl rfl rfl rfl (gidx_some k9).2 rfl (Nat.le_of_ble_eq_true rfl) rfl rfl rfl ?_
                      refine W.mv rfl ?_
                      refine W.nil ?_
                      exact ⟨((gset w8 x6 x17), true), h, Wk.nrmTo [0, 1, 5, 6, 7, 17, 18, 19, 24, 25, 26] [(10600, 10500)] rfl rfl⟩
                    · replace h := iteF h c10
                      refine Ev.skip ?_
                      exact ⟨(w8, x9), h, Wk.nrmTo [0, 1, 5, 6, 7, 17, 18, 19, 24, 25, 26] [(10600, 10500)] rfl rfl⟩
                · intro ⟨w11, x12⟩ h
                  try dsimp only at h ⊢
                  unfold depgraph_distances_j2 at h
                  refine W.reg hm ?_
                  obtain ⟨x13, k5, h⟩ := obind h
                  refine W.addG rfl rfl k5 ?_
                  refine W.mv rfl ?_
                  refine W.nil ?_
                  exact ⟨(m3, w11, x12, x13), h, Nat.lt_succ_self _, Wk.nrmTo [0, 1, 5, 6, 7, 17, 18, 19, 24, 25, 26] [(10500, 10400)] rfl rfl⟩
              · replace h := iteF h c4
                refine Ev.exit ?_
                refine W.reg hm ?_
                obtain ⟨x19, k12, h⟩ := obind h
                refine W.addG rfl rfl k12 ?_
                refine W.mv rfl ?_
                refine W.nil ?_
                exact ⟨(m2, w8, x9, x19), h, Nat.lt_succ_self _, Wk.nrmTo [0, 1, 5, 6, 17, 18, 19] [(10400, 10300)] rfl rfl⟩
          · replace h := iteF h c2
            refine Ev.exit ?_
            exact ⟨(m1, w4, x5), h, Nat.lt_succ_self _, Wk.nrmTo [0, 1, 5, 6] [(10300, 10200)] rfl rfl⟩
      · replace h := iteF h c1
        refine Ev.exit ?_
        refine Ev.seq ?_
        refine W.reg hm ?_
        refine W.mv rfl ?_
        refine W.mv rfl ?_
        refine W.nil ?_
        refine Ev.ret ?_
        injection h with h; subst h
        exact ⟨_, rfl, .refl _⟩

theorem depgraph_cyclic_spec (n : Nat) (a0 : List (List Int)) (r : Int) (h : depgraph_cyclic n a0 = some r) : PSpec Try.prog 31 [.list 1 (List.map (cL 1 cI) a0)] (.int .i64 r) := by
  unfold depgraph_cyclic at h
  refine spec_of Try.c_depgraph_cyclic (by simp) ?_
  unfold Try.l_depgraph_cyclic
  refine Ev.seq ?_
  refine W.reg hm ?_
  refine W.mv rfl ?_
  refine W.nil ?_
  refine Ev.seq ?_
  refine Ev.seq ?_
  refine W.reg hm ?_
  refine W.mv rfl ?_
  refine W.lenL (c := (cL 1 cI)) rfl ?_
  refine W.mv rfl ?_
  refine W.nil ?_
  refine Ev.block ?_
  refine Ev.loopW (β := Nat × Int) (fun v => ⟨[(0, .list 1 (List.map (cL 1 cI) a0)), (5, .int .i64 (a0.length : Int)), (6, .int .i64 v.2)], [], 2⟩) (fun v => depgraph_cyclic_l1 n a0 v.1 v.2 = some r) (fun v => v.1) (n, 0) (Wk.nrmTo [0, 5, 6] [] rfl rfl) h ?_
  intro ⟨m1, x1⟩ h
  try dsimp only at h ⊢
  cases m1 with
  | zero => rw [depgraph_cyclic_l1] at h; cases h
  | succ m1 =>
    rw [depgraph_cyclic_l1] at h
    refine Ev.seq ?_
    refine W.reg hm ?_
    refine W.lss rfl rfl ?_
    refine W.nil ?_
    refine Ev.seq ?_
    refine Ev.cond rfl (fun c1 => ?_) (fun c1 => ?_)
    · replace h := iteT h c1
      refine Ev.skip ?_
      refine Ev.seq ?_
      refine Ev.block ?_
      refine Ev.seq ?_
      refine W.reg hm ?_
      refine W.mv rfl ?_
      refine W.mv rfl ?_
      refine W.nil ?_
      refine Ev.seq ?_
      refine W.reg hm ?_
      refine W.mv rfl ?_
      refine W.mv rfl ?_
      obtain ⟨r2, k2, h⟩ := obind h
      refine W.call (depgraph_distances_spec n a0 x1 r2 k2) rfl rfl (Les.refl _) rfl (.inl rfl) rfl ?_
      refine W.mv rfl ?_
      obtain ⟨e3, k3, h⟩ := obind h
      refine W.idxL (c := cI) rfl rfl k3 ?_
      refine W.load rfl rfl ?_
      refine W.lss rfl rfl ?_
      refine W.nil ?_
      refine Ev.cond rfl (fun c4 => ?_) (fun c4 => ?_)
      · replace h := iteT h c4
        refine Ev.seq ?_
        refine W.reg hm ?_
        refine W.mv rfl ?_
        refine W.mv rfl ?_
        refine W.nil ?_
        refine Ev.ret ?_
        injection h with h; subst h
        exact ⟨_, rfl, .refl _⟩
      · replace h := iteF h c4
        refine Ev.skip ?_
        refine W.reg hm ?_
        obtain ⟨x4, k5, h⟩ := obind h
        refine W.addG rfl rfl k5 ?_
        refine W.mv rfl ?_
        refine W.nil ?_
        exact ⟨(m1, x4), h, Nat.lt_succ_self _, Wk.nrmTo [0, 5, 6] [] rfl rfl⟩
    · replace h := iteF h c1
      refine Ev.exit ?_
      refine Ev.seq ?_
      refine W.reg hm ?_
      refine W.mv rfl ?_
      refine W.nil ?_
      refine Ev.ret ?_
      injection h with h; subst h
      exact ⟨_, rfl, .refl _⟩

set_option maxHeartbeats 4000000 in
theorem depgraph_Cycle_spec (n : Nat) (a0 : List (List Int)) (r : ((List Int) × Bool × SCodeIndex)) (h : depgraph_Cycle n a0 = some r) : PSpec Try.prog 12 [.list 1 (List.map (cL 1 cI) a0)] (.tup [.list 1 (List.map cI r.1), .bool r.2.1, .agg (SCodeIndex.cells r.2.2)]) := by
  unfold depgraph_Cycle at h
  refine spec_of Try.c_depgraph_Cycle (by simp) ?_
  unfold Try.l_depgraph_Cycle
  refine Ev.seq ?_
  refine W.reg hm ?_
  refine W.mv rfl ?_
  refine W.mv rfl ?_
  refine W.alloc (dt := true) rfl rfl rfl ?_
  refine W.nil ?_
  refine Ev.seq ?_
  refine Ev.seq ?_
  refine W.reg hm ?_
  refine W.mv rfl ?_
  obtain ⟨r1, k1, h⟩ := obind h
  refine W.call (depgraph_Validate_spec n a0 r1 k1) rfl rfl (Les.refl _) rfl (.inl rfl) rfl ?_
  refine W.alloc (dt := true) rfl rfl rfl ?_
  refine W.store (es' := [[.int .i64 r1.Code, .int .i64 r1.Index]]) (dt := true) rfl rfl rfl rfl rfl (Nat.le_of_ble_eq_true rfl) rfl rfl rfl rfl ?_
  refine W.nil ?_
  refine Ev.seq ?_
  refine W.reg hm ?_
  refine W.loadO (p := .agg [.int .i64 r1.Code, .int .i64 r1.Index]) rfl rfl rfl rfl ?_
  refine W.build (cs := [.int .i64 0, .int .i64 0]) rfl rfl rfl ?_
  refine W.eqs rfl rfl rfl ?_
  refine W.nil ?_
  refine Ev.cond rfl (fun c2 => ?_) (fun c2 => ?_)
  · replace h := iteT h c2
    refine Ev.seq ?_
    refine W.regD hm ?_
    refine W.loadO (p := .agg [.int .i64 r1.Code, .int .i64 r1.Index]) rfl rfl rfl rfl ?_
    refine W.mv rfl ?_
    refine W.mv rfl ?_
    refine W.store (es' := [[.int .i64 r1.Code, .int .i64 r1.Index]]) (dt := true) rfl rfl rfl rfl rfl (Nat.le_of_ble_eq_true rfl) rfl rfl rfl rfl ?_
    refine W.nil ⟨rfl, ?_⟩
    refine Ev.ret ?_
    injection h with h; subst h
    exact ⟨_, rfl, Le.tups (.cons (.nils 1) (.cons (.refl _) (.cons (.refl _) (.nil))))⟩
  · replace h := iteF h c2
    refine Ev.skip ?_
    refine Ev.seq ?_
    refine W.reg hm ?_
    refine W.mv rfl ?_
    obtain ⟨r2, k3, h⟩ := obind h
    refine W.call (depgraph_cyclic_spec n a0 r2 k3) rfl rfl (Les.refl _) rfl (.inl rfl) rfl ?_
    refine W.mv rfl ?_
    refine W.nil ?_
    refine Ev.seq ?_
    refine Ev.seq ?_
    refine W.reg hm ?_
    refine W.mv rfl ?_
    refine W.lss rfl rfl ?_
    refine W.nil ?_
    refine Ev.cond rfl (fun c4 => ?_) (fun c4 => ?_)
    · replace h := iteT h c4
      refine Ev.seq ?_
      refine W.reg hm ?_
      refine W.build (cs := [.int .i64 0, .int .i64 0]) rfl rfl rfl ?_
      refine W.mv rfl ?_
      refine W.mv rfl ?_
      refine W.store (es' := [[.int .i64 0, .int .i64 0]]) (dt := true) rfl rfl rfl rfl rfl (Nat.le_of_ble_eq_true rfl) rfl rfl rfl rfl ?_
      refine W.nil ?_
      refine Ev.ret ?_
      injection h with h; subst h
      exact ⟨_, rfl, Le.tups (.cons (.nils 1) (.cons (.refl _) (.cons (.refl _) (.nil))))⟩
    · replace h := iteF h c4
      refine Ev.skip ?_
      refine Ev.seq ?_
      refine W.reg hm ?_
      refine W.mv rfl ?_
      refine W.mv rfl ?_
      obtain ⟨r3, k5, h⟩ := obind h
      refine W.call (depgraph_distances_spec n a0 r2 r3 k5) rfl rfl (Les.refl _) rfl (.inl rfl) rfl ?_
      refine W.mv rfl ?_
      refine W.nil ?_
      refine Ev.seq ?_
      refine W.reg hm ?_
      refine W.mv rfl ?_
      refine W.mkSlice (dt := true) (es := [[.int .i64 r2]]) rfl rfl rfl rfl rfl rfl ?_
      refine W.mv rfl ?_
      refine W.nil ?_
      refine Ev.seq ?_
      refine Ev.seq ?_
      refine W.reg hm ?_
      refine W.mv rfl ?_
      refine W.mv rfl ?_
      refine W.nil ?_
      refine Ev.block ?_
      refine Ev.loopW (β := Nat × (List Int) × Int) (fun v => ⟨[(0, .list 1 (List.map (cL 1 cI) a0)), (4, .pown 10100 0 0 0), (7, .list 1 (List.map cI r3)), (8, .own 10101 0), (9, .int .i64 v.2.2)], [(10100, ⟨0, 25, 2, [[.int .i64 0, .int .i64 0]], true, false, false⟩), (10101, ⟨0, 3, 1, List.map cI v.2.1, true, false, false⟩)], 2⟩) (fun v => depgraph_Cycle_l1 n a0 r3 v.1 v.2.1 v.2.2 = some r) (fun v => v.1) (n, ([r2] : List Int), r2) (Wk.nrmTo [0, 4, 7, 8, 9] [(4, 10100), (27, 10101)] rfl rfl) h ?_
      intro ⟨m1, w4, x5⟩ h
      try dsimp only at h ⊢
      cases m1 with
      | zero => rw [depgraph_Cycle_l1] at h; cases h
      | succ m1 =>
        rw [depgraph_Cycle_l1] at h
        refine Ev.seq ?_
        refine Ev.seq ?_
        refine W.reg hm ?_
        refine W.mv rfl ?_
        refine W.mv rfl ?_
        obtain ⟨e6, k6, h⟩ := obind h
        refine W.idxL (c := cI) rfl rfl k6 ?_
        refine W.load rfl rfl ?_
        refine W.gtr rfl rfl ?_
        refine W.nil ?_
        refine Ev.cond rfl (fun c7 => ?_) (fun c7 => ?_)
        · replace h := iteT h c7
          refine Ev.skip ?_
          refine Ev.block ?_
          refine Ev.seqJ (γ := Int) (fun v => ⟨[(0, .list 1 (List.map (cL 1 cI) a0)), (4, .pown 10200 0 0 0), (7, .list 1 (List.map cI r3)), (8, .own 10201 0), (9, .int .i64 v)], [(10200, ⟨0, 25, 2, [[.int .i64 0, .int .i64 0]], true, false, false⟩), (10201, ⟨0, 3, 1, List.map cI w4, true, false, false⟩)], 2⟩) (fun v => depgraph_Cycle_j1 n w4 (depgraph_Cycle_l1 n a0 r3 m1) v = some r) ?_ ?_
          · refine Ev.seq ?_
            refine W.reg hm ?_
            refine W.mv rfl ?_
            refine W.mv rfl ?_
            obtain ⟨e9, k9, h⟩ := obind h
            refine W.idxL (c := (cL 1 cI)) rfl rfl k9 ?_
            refine W.load rfl rfl ?_
            refine W.lenL (c := cI) rfl ?_
            refine W.mv rfl ?_
            refine W.nil ?_
            refine Ev.block ?_
            refine Ev.loopW (β := Nat × Int) (fun v => ⟨[(0, .list 1 (List.map (cL 1 cI) a0)), (4, .pown 10300 0 0 0), (7, .list 1 (List.map cI r3)), (8, .own 10301 0), (9, .int .i64 x5), (37, .list 1 (List.map cI e9)), (38, .int .i64 (e9.length : Int)), (39, .int .i64 v.2)], [(10300, ⟨0, 25, 2, [[.int .i64 0, .int .i64 0]], true, false, false⟩), (10301, ⟨0, 3, 1, List.map cI w4, true, false, false⟩)], 2⟩) (fun v => depgraph_Cycle_l2 n r3 w4 x5 (depgraph_Cycle_l1 n a0 r3 m1) e6 e9 v.1 v.2 = some r) (fun v => v.1) (n, 0) (Wk.nrmTo [0, 4, 7, 8, 9, 37, 38, 39] [(10100, 10300), (10101, 10301)] rfl rfl) h ?_
            intro ⟨m2, x10⟩ h
            try dsimp only at h ⊢
            cases m2 with
            | zero => rw [depgraph_Cycle_l2] at h; cases h
            | succ m2 =>
              rw [depgraph_Cycle_l2] at h
              refine Ev.seq ?_
              refine W.reg hm ?_
              refine W.lss rfl rfl ?_
              refine W.nil ?_
              refine Ev.seq ?_
              refine Ev.cond rfl (fun c10 => ?_) (fun c10 => ?_)
              · replace h := iteT h c10
                refine Ev.skip ?_
                refine Ev.seq ?_
                refine Ev.block ?_
                refine Ev.seq ?_
                refine W.reg hm ?_
                obtain ⟨e11, k11, h⟩ := obind h
                refine W.idxL (c := cI) rfl rfl k11 ?_
                refine W.load rfl rfl ?_
                refine W.mv rfl ?_
                refine W.nil ?_
                refine Ev.seq ?_
                refine W.regD hm ?_
                refine W.mv rfl ?_
                refine W.mv rfl ?_
                obtain ⟨e12, k12, h⟩ := obind h
                refine W.idxL (c := cI) rfl rfl k12 ?_
                refine W.load rfl rfl ?_
                refine W.mv rfl ?_
                refine W.mv rfl ?_
                refine W.idxL (c := cI) rfl rfl k6 ?_
                refine W.load rfl rfl ?_
                obtain ⟨x13, k13, h⟩ := obind h
                refine W.subG rfl rfl k13 ?_
                refine W.eql rfl rfl ?_
                refine W.nil ⟨rfl, ?_⟩
                refine Ev.cond rfl (fun c14 => ?_) (fun c14 => ?_)
                · replace h := iteT h c14
                  refine Ev.seq ?_
                  refine W.reg hm ?_
                  refine W.mv rfl ?_
                  refine W.mv rfl ?_
                  refine W.nil ?_
                  refine Ev.exit ?_
                  exact ⟨e11, h, Wk.nrmTo [0, 4, 7, 8, 9] [(10300, 10200), (10301, 10201)] rfl rfl⟩
                · replace h := iteF h c14
                  refine Ev.skip ?_
                  refine W.reg hm ?_
                  obtain ⟨x14, k15, h⟩ := obind h
                  refine W.addG rfl rfl k15 ?_
                  refine W.mv rfl ?_
                  refine W.nil ?_
                  exact ⟨(m2, x14), h, Nat.lt_succ_self _, Wk.nrmTo [0, 4, 7, 8, 9, 37, 38, 39] [(10300, 10300), (10301, 10301)] rfl rfl⟩
              · replace h := iteF h c10
                refine Ev.exit ?_
                exact ⟨x5, h, Wk.nrmTo [0, 4, 7, 8, 9] [(10300, 10200), (10301, 10201)] rfl rfl⟩
          · intro x7 h
            try dsimp only at h ⊢
            unfold depgraph_Cycle_j1 at h
            refine W.reg hm ?_
            refine W.mv rfl ?_
            refine W.mv rfl ?_
            refine W.mkSlice (dt := true) (es := [[.int .i64 x7]]) rfl rfl rfl rfl rfl rfl ?_
            obtain ⟨w8, k8, h⟩ := obind h
            refine W.appR true (l := w4) (c := cI) (ys := ([x7] : List Int)) rfl rfl rfl rfl rfl rfl rfl rfl k8 rfl (by simp) ?_
            refine W.mv rfl ?_
            refine W.nil ?_
            exact ⟨(m1, w8, x7), h, Nat.lt_succ_self _, Wk.nrmTo [0, 4, 7, 8, 9] [(10200, 10100), (58, 10101)] rfl rfl⟩
        · replace h := iteF h c7
          refine Ev.exit ?_
          refine Ev.seq ?_
          refine W.reg hm ?_
          refine W.mv rfl ?_
          refine W.build (cs := [.int .i64 0, .int .i64 0]) rfl rfl rfl ?_
          refine W.mv rfl ?_
          refine W.mv rfl ?_
          refine W.store (es' := [[.int .i64 0, .int .i64 0]]) (dt := true) rfl rfl rfl rfl rfl (Nat.le_of_ble_eq_true rfl) rfl rfl rfl rfl ?_
          refine W.nil ?_
          refine Ev.ret ?_
          injection h with h; subst h
          exact ⟨_, rfl, .refl _⟩
end Go.Proofs.Ytpbfobgbpdbiaaa
