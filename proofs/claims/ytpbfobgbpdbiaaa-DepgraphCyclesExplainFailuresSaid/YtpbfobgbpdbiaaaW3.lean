/- The functions compute what the texts of D say. Laid by a program (wip/gen/dec.py). -/
import Derived.Test.YtpbfobgbpdbiaaaD
import Derived.Test.YtpbfobgbpdbiaaaW2
namespace Go.Proofs.Ytpbfobgbpdbiaaa
open Go.PW Go
set_option maxHeartbeats 4000000 in
theorem ref6_Affected_spec (n : Nat) (a0 : List (List Int)) (a1 : List Int) (r : (List Int)) (h : ref6_Affected n a0 a1 = some r) : PSpec Try.prog 18 [.list 1 (List.map (cL 1 cI) a0), .list 1 (List.map cI a1)] (.list 1 (List.map cI r)) := by
  unfold ref6_Affected at h
  refine spec_of Try.c_ref6_Affected (by simp) ?_
  unfold Try.l_ref6_Affected
  refine Ev.seq ?_
  refine W.reg hm ?_
  refine W.mv rfl ?_
  refine W.nil ?_
  refine Ev.seq ?_
  refine W.reg hm ?_
  refine W.mv rfl ?_
  obtain ⟨r1, k1, h⟩ := obind h
  refine W.call (ref6_Distance_spec n a0 r1 k1) rfl rfl (Les.refl _) rfl (.inl rfl) rfl ?_
  refine W.mv rfl ?_
  refine W.nil ?_
  refine Ev.seq ?_
  refine W.reg hm ?_
  refine W.mv rfl ?_
  refine W.nil ?_
  refine Ev.seq ?_
  refine Ev.seq ?_
  refine W.reg hm ?_
  refine W.mv rfl ?_
  refine W.nil ?_
  refine Ev.block ?_
  refine Ev.loopW (β := Nat × (List Int) × Int) (fun v => ⟨[(0, .list 1 (List.map (cL 1 cI) a0)), (1, .list 1 (List.map cI a1)), (5, .list 1 (List.map (cL 1 cI) r1)), (6, .own 10100 0), (7, .int .i64 v.2.2)], [(10100, ⟨0, 3, 1, List.map cI v.2.1, true, false, false⟩)], 2⟩) (fun v => ref6_Affected_l1 n a0 a1 r1 v.1 v.2.1 v.2.2 = some r) (fun v => v.1) (n, ([] : List Int), 0) ((Wk.ownNil 6 30100 3 1 rfl rfl true).trans (Wk.nrmTo [0, 1, 5, 6, 7] [(30100, 10100)] rfl rfl)) h ?_
  intro ⟨m1, w2, x3⟩ h
  try dsimp only at h ⊢
  cases m1 with
  | zero => rw [ref6_Affected_l1] at h; cases h
  | succ m1 =>
    rw [ref6_Affected_l1] at h
    refine Ev.seq ?_
    refine Ev.seq ?_
    refine W.reg hm ?_
    refine W.mv rfl ?_
    refine W.mv rfl ?_
    refine W.lenL (c := (cL 1 cI)) rfl ?_
    refine W.lss rfl rfl ?_
    refine W.nil ?_
    refine Ev.cond rfl (fun c2 => ?_) (fun c2 => ?_)
    · replace h := iteT h c2
      refine Ev.skip ?_
      refine Ev.seqJ (γ := List Int) (fun v => ⟨[(0, .list 1 (List.map (cL 1 cI) a0)), (1, .list 1 (List.map cI a1)), (5, .list 1 (List.map (cL 1 cI) r1)), (6, .own 10200 0), (7, .int .i64 x3)], [(10200, ⟨0, 3, 1, List.map cI v, true, false, false⟩)], 2⟩) (fun v => ref6_Affected_j1 n x3 (ref6_Affected_l1 n a0 a1 r1 m1) v = some r) ?_ ?_
      · refine Ev.block ?_
        refine Ev.seq ?_
        refine W.reg hm ?_
        refine W.mv rfl ?_
        refine W.mv rfl ?_
        obtain ⟨r6, k4, h⟩ := obind h
        refine W.call (ref5_Has_spec n a1 x3 r6 k4) rfl rfl (Les.refl _) rfl (.inl rfl) rfl ?_
        refine W.mv rfl ?_
        refine W.nil ?_
        refine Ev.seq ?_
        refine Ev.seq ?_
        refine W.reg hm ?_
        refine W.mv rfl ?_
        refine W.nil ?_
        refine Ev.block ?_
        refine Ev.loopW (β := Nat × Bool × Int) (fun v => ⟨[(0, .list 1 (List.map (cL 1 cI) a0)), (1, .list 1 (List.map cI a1)), (5, .list 1 (List.map (cL 1 cI) r1)), (6, .own 10300 0), (7, .int .i64 x3), (8, .bool v.2.1), (9, .int .i64 v.2.2)], [(10300, ⟨0, 3, 1, List.map cI w2, true, false, false⟩)], 2⟩) (fun v => ref6_Affected_l2 n a1 r1 w2 x3 (ref6_Affected_l1 n a0 a1 r1 m1) v.1 v.2.1 v.2.2 = some r) (fun v => v.1) (n, r6, 0) (Wk.nrmTo [0, 1, 5, 6, 7, 8, 9] [(10100, 10300)] rfl rfl) h ?_
        intro ⟨m2, x7, x8⟩ h
        try dsimp only at h ⊢
        cases m2 with
        | zero => rw [ref6_Affected_l2] at h; cases h
        | succ m2 =>
          rw [ref6_Affected_l2] at h
          refine Ev.seq ?_
          refine Ev.seq ?_
          refine W.reg hm ?_
          refine W.mv rfl ?_
          refine W.mv rfl ?_
          refine W.lenL (c := cI) rfl ?_
          refine W.lss rfl rfl ?_
          refine W.nil ?_
          refine Ev.cond rfl (fun c5 => ?_) (fun c5 => ?_)
          · replace h := iteT h c5
            refine Ev.skip ?_
            refine Ev.seqJ (γ := Bool) (fun v => ⟨[(0, .list 1 (List.map (cL 1 cI) a0)), (1, .list 1 (List.map cI a1)), (5, .list 1 (List.map (cL 1 cI) r1)), (6, .own 10400 0), (7, .int .i64 x3), (8, .bool v), (9, .int .i64 x8)], [(10400, ⟨0, 3, 1, List.map cI w2, true, false, false⟩)], 2⟩) (fun v => ref6_Affected_j2 n x8 (ref6_Affected_l2 n a1 r1 w2 x3 (ref6_Affected_l1 n a0 a1 r1 m1) m2) v = some r) ?_ ?_
            · refine Ev.block ?_
              refine W.regD hm ?_
              refine W.mv rfl ?_
              refine W.mv rfl ?_
              refine W.split 28 rfl (fun c7 => ?_) (fun c7 => ?_)
              · replace h := iteT h c7
                refine W.guardF2 rfl c7 ?_
                refine W.guardF2 rfl c7 ?_
                refine W.guardF2 rfl c7 ?_
                refine W.guardF2 rfl c7 ?_
                refine W.guardF2 rfl c7 ?_
                refine W.guardF2 rfl c7 ?_
                refine W.guardF2 rfl c7 ?_
                refine W.guardF2 rfl c7 ?_
                refine W.guardF2 rfl c7 ?_
                refine W.guardF2 rfl c7 ?_
                refine W.guardF2 rfl c7 ?_
                refine W.pickT rfl rfl rfl c7 ?_
                refine W.mv rfl ?_
                refine W.nil ⟨rfl, ?_⟩
                exact ⟨true, h, Wk.nrmTo [0, 1, 5, 6, 7, 8, 9] [(10300, 10400)] rfl rfl⟩
              · replace h := iteF h c7
                refine W.guardT rfl c7 ?_
                refine W.mv rfl ?_
                refine W.guardT rfl c7 ?_
                refine W.mv rfl ?_
                refine W.guardT rfl c7 ?_
                obtain ⟨e11, k8, h⟩ := obind h
                refine W.idxL (c := (cL 1 cI)) rfl rfl k8 ?_
                refine W.guardT rfl c7 ?_
                refine W.load rfl rfl ?_
                refine W.guardT rfl c7 ?_
                refine W.mv rfl ?_
                refine W.guardT rfl c7 ?_
                refine W.mv rfl ?_
                refine W.guardT rfl c7 ?_
                obtain ⟨e12, k9, h⟩ := obind h
                refine W.idxL (c := cI) rfl rfl k9 ?_
                refine W.guardT rfl c7 ?_
                refine W.load rfl rfl ?_
                refine W.guardT rfl c7 ?_
                obtain ⟨e13, k10, h⟩ := obind h
                refine W.idxL (c := cI) rfl rfl k10 ?_
                refine W.guardT rfl c7 ?_
                refine W.load rfl rfl ?_
                refine W.guardT rfl c7 ?_
                refine W.lss rfl rfl ?_
                refine W.pickN rfl rfl rfl c7 ?_
                refine W.mv rfl ?_
                refine W.nil ⟨rfl, ?_⟩
                exact ⟨(decide (e13 < 1000)), h, Wk.nrmTo [0, 1, 5, 6, 7, 8, 9] [(10300, 10400)] rfl rfl⟩
            · intro x9 h
              try dsimp only at h ⊢
              unfold ref6_Affected_j2 at h
              refine W.reg hm ?_
              refine W.mv rfl ?_
              obtain ⟨x10, k6, h⟩ := obind h
              refine W.addG rfl rfl k6 ?_
              refine W.mv rfl ?_
              refine W.nil ?_
              exact ⟨(m2, x9, x10), h, Nat.lt_succ_self _, Wk.nrmTo [0, 1, 5, 6, 7, 8, 9] [(10400, 10300)] rfl rfl⟩
          · replace h := iteF h c5
            refine Ev.exit ?_
            refine Ev.seq ?_
            refine W.reg hm ?_
            refine W.mv rfl ?_
            refine W.nil ?_
            refine Ev.cond rfl (fun c11 => ?_) (fun c11 => ?_)
            · replace h := iteT h c11
              refine W.reg hm ?_
              refine W.mv rfl ?_
              refine W.mv rfl ?_
              refine W.mkSlice (dt := true) (es := [[.int .i64 x3]]) rfl rfl rfl rfl rfl rfl ?_
              obtain ⟨w14, k12, h⟩ := obind h
              refine W.appR true (l := w2) (c := cI) (ys := ([x3] : List Int)) rfl rfl rfl rfl rfl rfl rfl rfl k12 rfl (by simp) ?_
              refine W.mv rfl ?_
              refine W.nil ?_
              exact ⟨w14, h, Wk.nrmTo [0, 1, 5, 6, 7] [(45, 10200)] rfl rfl⟩
            · replace h := iteF h c11
              refine Ev.skip ?_
              exact ⟨w2, h, Wk.nrmTo [0, 1, 5, 6, 7] [(10300, 10200)] rfl rfl⟩
      · intro w4 h
        try dsimp only at h ⊢
        unfold ref6_Affected_j1 at h
        refine W.reg hm ?_
        refine W.mv rfl ?_
        obtain ⟨x5, k3, h⟩ := obind h
        refine W.addG rfl rfl k3 ?_
        refine W.mv rfl ?_
        refine W.nil ?_
        exact ⟨(m1, w4, x5), h, Nat.lt_succ_self _, Wk.nrmTo [0, 1, 5, 6, 7] [(10200, 10100)] rfl rfl⟩
    · replace h := iteF h c2
      refine Ev.exit ?_
      refine Ev.seq ?_
      refine W.reg hm ?_
      refine W.mv rfl ?_
      refine W.mv rfl ?_
      refine W.nil ?_
      refine Ev.ret ?_
      injection h with h; subst h
      exact ⟨_, rfl, .refl _⟩

set_option maxHeartbeats 4000000 in
theorem law6_DepgraphMatchesSpec_spec (n : Nat) (a0 : List (List Int)) (a1 : List Int) (r : Bool) (h : law6_DepgraphMatchesSpec n a0 a1 = some r) : PSpec Try.prog 3 [.list 1 (List.map (cL 1 cI) a0), .list 1 (List.map cI a1)] (.bool r) := by
  unfold law6_DepgraphMatchesSpec at h
  refine spec_of Try.c_law6_DepgraphMatchesSpec (by simp) ?_
  unfold Try.l_law6_DepgraphMatchesSpec
  refine Ev.seq ?_
  refine W.reg hm ?_
  refine W.mv rfl ?_
  refine W.nil ?_
  refine Ev.seq ?_
  refine W.reg hm ?_
  refine W.mv rfl ?_
  obtain ⟨r1, k1, h⟩ := obind h
  refine W.call (ref6_GraphFault_spec n a0 r1 k1) rfl rfl (Les.refl _) rfl (.inl rfl) rfl ?_
  refine W.alloc (dt := true) rfl rfl rfl ?_
  refine W.store (es' := [[.int .i64 r1.Code, .int .i64 r1.Index]]) (dt := true) rfl rfl rfl rfl rfl (Nat.le_of_ble_eq_true rfl) rfl rfl rfl rfl ?_
  refine W.nil ?_
  refine Ev.seq ?_
  refine Ev.seqJ (γ := Bool) (fun v => ⟨[(0, .list 1 (List.map (cL 1 cI) a0)), (1, .list 1 (List.map cI a1)), (5, .pown 10100 0 0 0), (20, .bool v)], [(10100, ⟨0, 25, 2, [[.int .i64 r1.Code, .int .i64 r1.Index]], true, false, false⟩)], 2⟩) (fun v => law6_DepgraphMatchesSpec_j1 n a0 a1 r1 v = some r) ?_ ?_
  · refine W.regD hm ?_
    obtain ⟨r18, k31, h⟩ := obind h
    refine W.call (law6_graphs_spec n r18 k31) rfl rfl (Les.refl _) rfl (.inl rfl) rfl ?_
    refine W.not rfl ?_
    refine W.mv rfl ?_
    refine W.split 15 rfl (fun c32 => ?_) (fun c32 => ?_)
    · replace h := iteT h c32
      refine W.guardF2 rfl c32 ?_
      refine W.guardF2 rfl c32 ?_
      refine W.guardF2 rfl c32 ?_
      refine W.guardF2 rfl c32 ?_
      refine W.pickT rfl rfl rfl c32 ?_
      refine W.nil ⟨rfl, ?_⟩
      exact ⟨true, h, Wk.nrmTo [0, 1, 5, 20] [(5, 10100)] rfl rfl⟩
    · replace h := iteF h c32
      refine W.guardT rfl c32 ?_
      refine W.mv rfl ?_
      refine W.guardT rfl c32 ?_
      obtain ⟨r19, k33, h⟩ := obind h
      refine W.call (depgraph_Validate_spec n a0 r19 k33) rfl rfl (Les.refl _) rfl (.inl rfl) rfl ?_
      refine W.guardT rfl c32 ?_
      refine W.loadO (p := .agg [.int .i64 r1.Code, .int .i64 r1.Index]) rfl rfl rfl rfl ?_
      refine W.guardT rfl c32 ?_
      refine W.eqs rfl rfl rfl ?_
      refine W.pickN rfl rfl rfl c32 ?_
      refine W.nil ⟨rfl, ?_⟩
      exact ⟨((r19.Code == r1.Code && (r19.Index == r1.Index && true)) != true), h, Wk.nrmTo [0, 1, 5, 20] [(5, 10100)] rfl rfl⟩
  · intro x2 h
    try dsimp only at h ⊢
    unfold law6_DepgraphMatchesSpec_j1 at h
    refine Ev.cond rfl (fun c2 => ?_) (fun c2 => ?_)
    · replace h := iteT h c2
      refine Ev.seq ?_
      refine W.reg hm ?_
      refine W.mv rfl ?_
      refine W.nil ?_
      refine Ev.ret ?_
      injection h with h; subst h
      exact ⟨_, rfl, .refl _⟩
    · replace h := iteF h c2
      refine Ev.skip ?_
      refine Ev.seq ?_
      refine W.reg hm ?_
      refine W.mv rfl ?_
      obtain ⟨r3, k3, h⟩ := obind h
      refine W.call (depgraph_Cycle_spec n a0 r3 k3) rfl rfl (Les.refl _) rfl (.inl rfl) rfl ?_
      refine W.mv rfl ?_
      refine W.extract rfl rfl ?_
      refine W.extract rfl rfl ?_
      refine W.extract rfl rfl ?_
      refine W.alloc (dt := true) rfl rfl rfl ?_
      refine W.mv rfl ?_
      refine W.mv rfl ?_
      refine W.store (es' := [[.int .i64 r3.2.2.Code, .int .i64 r3.2.2.Index]]) (dt := true) rfl rfl rfl rfl rfl (Nat.le_of_ble_eq_true rfl) rfl rfl rfl rfl ?_
      refine W.nil ?_
      refine Ev.seq ?_
      refine Ev.seqJ (γ := Bool) (fun v => ⟨[(0, .list 1 (List.map (cL 1 cI) a0)), (1, .list 1 (List.map cI a1)), (5, .pown 10200 0 0 0), (6, .list 1 (List.map cI r3.1)), (7, .bool r3.2.1), (8, .pown 10201 0 0 0), (42, .bool v)], [(10200, ⟨0, 25, 2, [[.int .i64 r1.Code, .int .i64 r1.Index]], true, false, false⟩), (10201, ⟨0, 25, 2, [[.int .i64 r3.2.2.Code, .int .i64 r3.2.2.Index]], true, false, false⟩)], 2⟩) (fun v => law6_DepgraphMatchesSpec_j2 n a0 a1 r1 r3 v = some r) ?_ ?_
      · refine W.reg hm ?_
        refine W.loadO (p := .agg [.int .i64 r3.2.2.Code, .int .i64 r3.2.2.Index]) rfl rfl rfl rfl ?_
        refine W.loadO (p := .agg [.int .i64 r1.Code, .int .i64 r1.Index]) rfl rfl rfl rfl ?_
        refine W.eqs rfl rfl rfl ?_
        refine W.mv rfl ?_
        refine W.split 30 rfl (fun c28 => ?_) (fun c28 => ?_)
        · replace h := iteT h c28
          refine W.guardF2 rfl c28 ?_
          refine W.guardF2 rfl c28 ?_
          refine W.guardF2 rfl c28 ?_
          refine W.guardF2 rfl c28 ?_
          refine W.guardU rfl ?_
          refine W.guardU rfl ?_
          refine W.guardU rfl ?_
          refine W.guardU rfl ?_
          refine W.guardU rfl ?_
          refine W.guardU rfl ?_
          refine W.guardF2 rfl c28 ?_
          refine W.pickT rfl rfl rfl c28 ?_
          refine W.nil ?_
          exact ⟨true, h, Wk.nrmTo [0, 1, 5, 6, 7, 8, 42] [(10100, 10200), (8, 10201)] rfl rfl⟩
        · replace h := iteF h c28
          refine W.guardT rfl c28 ?_
          refine W.fieldAddrO rfl rfl ?_
          refine W.guardT rfl c28 ?_
          refine W.loadO (p := .int .i64 r1.Code) rfl rfl rfl rfl ?_
          refine W.guardT rfl c28 ?_
          refine W.neq rfl rfl ?_
          refine W.guardT rfl c28 ?_
          refine W.mv rfl ?_
          refine W.split 34 rfl (fun c29 => ?_) (fun c29 => ?_)
          · replace h := iteT h c29
            refine W.guardT rfl c29 ?_
            refine W.mv rfl ?_
            refine W.guardT rfl c29 ?_
            refine W.mv rfl ?_
            refine W.split 36 rfl (fun c30 => ?_) (fun c30 => ?_)
            · replace h := iteT h c30
              refine W.guardF2 rfl c30 ?_
              refine W.guardF2 rfl c30 ?_
              refine W.guardF2 rfl c30 ?_
              refine W.guardT rfl c29 ?_
              refine W.pickT rfl rfl rfl c30 ?_
              refine W.guardT rfl c28 ?_
              refine W.pickT rfl rfl rfl c29 ?_
              refine W.pickN rfl rfl rfl c28 ?_
              refine W.nil ?_
              exact ⟨true, h, Wk.nrmTo [0, 1, 5, 6, 7, 8, 42] [(10100, 10200), (8, 10201)] rfl rfl⟩
            · replace h := iteF h c30
              refine W.guardT rfl c30 ?_
              refine W.mv rfl ?_
              refine W.guardT rfl c30 ?_
              refine W.lenL (c := cI) rfl ?_
              refine W.guardT rfl c30 ?_
              refine W.gtr rfl rfl ?_
              refine W.guardT rfl c29 ?_
              refine W.pickN rfl rfl rfl c30 ?_
              refine W.guardT rfl c28 ?_
              refine W.pickT rfl rfl rfl c29 ?_
              refine W.pickN rfl rfl rfl c28 ?_
              refine W.nil ?_
              exact ⟨(decide (0 < (r3.1.length : Int))), h, Wk.nrmTo [0, 1, 5, 6, 7, 8, 42] [(10100, 10200), (8, 10201)] rfl rfl⟩
          · replace h := iteF h c29
            refine W.guardF1 rfl c29 ?_
            refine W.guardF1 rfl c29 ?_
            refine W.guardU rfl ?_
            refine W.guardU rfl ?_
            refine W.guardU rfl ?_
            refine W.guardF1 rfl c29 ?_
            refine W.guardT rfl c28 ?_
            refine W.pickN rfl rfl rfl c29 ?_
            refine W.pickN rfl rfl rfl c28 ?_
            refine W.nil ?_
            exact ⟨false, h, Wk.nrmTo [0, 1, 5, 6, 7, 8, 42] [(10100, 10200), (8, 10201)] rfl rfl⟩
      · intro x4 h
        try dsimp only at h ⊢
        unfold law6_DepgraphMatchesSpec_j2 at h
        refine Ev.cond rfl (fun c4 => ?_) (fun c4 => ?_)
        · replace h := iteT h c4
          refine Ev.seq ?_
          refine W.reg hm ?_
          refine W.mv rfl ?_
          refine W.nil ?_
          refine Ev.ret ?_
          injection h with h; subst h
          exact ⟨_, rfl, .refl _⟩
        · replace h := iteF h c4
          refine Ev.skip ?_
          refine Ev.seqJ (γ := Unit) (fun v => ⟨[(0, .list 1 (List.map (cL 1 cI) a0)), (1, .list 1 (List.map cI a1)), (5, .pown 10300 0 0 0), (8, .pown 10301 0 0 0)], [(10300, ⟨0, 25, 2, [[.int .i64 r1.Code, .int .i64 r1.Index]], true, false, false⟩), (10301, ⟨0, 25, 2, [[.int .i64 r3.2.2.Code, .int .i64 r3.2.2.Index]], true, false, false⟩)], 2⟩) (fun v => law6_DepgraphMatchesSpec_j3 n a0 a1 = some r) ?_ ?_
          · refine Ev.seq ?_
            refine W.reg hm ?_
            refine W.fieldAddrO rfl rfl ?_
            refine W.loadO (p := .int .i64 r1.Code) rfl rfl rfl rfl ?_
            refine W.eql rfl rfl ?_
            refine W.nil ?_
            refine Ev.cond rfl (fun c16 => ?_) (fun c16 => ?_)
            · replace h := iteT h c16
              refine Ev.seq ?_
              refine W.reg hm ?_
              refine W.mv rfl ?_
              obtain ⟨r12, k17, h⟩ := obind h
              refine W.call (ref6_FirstOnCycle_spec n a0 r12 k17) rfl rfl (Les.refl _) rfl (.inl rfl) rfl ?_
              refine W.mv rfl ?_
              refine W.nil ?_
              refine Ev.seqJ (γ := Bool) (fun v => ⟨[(0, .list 1 (List.map (cL 1 cI) a0)), (1, .list 1 (List.map cI a1)), (5, .pown 10400 0 0 0), (8, .pown 10401 0 0 0), (71, .bool v)], [(10400, ⟨0, 25, 2, [[.int .i64 r1.Code, .int .i64 r1.Index]], true, false, false⟩), (10401, ⟨0, 25, 2, [[.int .i64 r3.2.2.Code, .int .i64 r3.2.2.Index]], true, false, false⟩)], 2⟩) (fun v => law6_DepgraphMatchesSpec_j5 n a0 a1 v = some r) ?_ ?_
              · refine W.reg hm ?_
                refine W.mv rfl ?_
                refine W.mv rfl ?_
                refine W.geq rfl rfl ?_
                refine W.bneq rfl rfl ?_
                refine W.mv rfl ?_
                refine W.split 52 rfl (fun c19 => ?_) (fun c19 => ?_)
                · replace h := iteT h c19
                  refine W.guardF2 rfl c19 ?_
                  refine W.guardF2 rfl c19 ?_
                  refine W.guardF2 rfl c19 ?_
                  refine W.guardU rfl ?_
                  refine W.guardU rfl ?_
                  refine W.guardU rfl ?_
                  refine W.guardF2 rfl c19 ?_
                  refine W.pickT rfl rfl rfl c19 ?_
                  refine W.mv rfl ?_
                  refine W.guardF2 rfl rfl ?_
                  refine W.guardF2 rfl rfl ?_
                  refine W.guardU rfl ?_
                  refine W.guardU rfl ?_
                  refine W.guardU rfl ?_
                  refine W.guardU rfl ?_
                  refine W.guardU rfl ?_
                  refine W.guardU rfl ?_
                  refine W.guardF2 rfl rfl ?_
                  refine W.pickT rfl rfl rfl rfl ?_
                  refine W.nil ?_
                  exact ⟨true, h, Wk.nrmTo [0, 1, 5, 8, 71] [(10200, 10400), (10201, 10401)] rfl rfl⟩
                · replace h := iteF h c19
                  refine W.guardT rfl c19 ?_
                  refine W.mv rfl ?_
                  refine W.guardT rfl c19 ?_
                  refine W.not rfl ?_
                  refine W.guardT rfl c19 ?_
                  refine W.mv rfl ?_
                  refine W.split 55 rfl (fun c20 => ?_) (fun c20 => ?_)
                  · replace h := iteT h c20
                    refine W.guardT rfl c20 ?_
                    refine W.mv rfl ?_
                    refine W.guardT rfl c20 ?_
                    refine W.lenL (c := cI) rfl ?_
                    refine W.guardT rfl c20 ?_
                    refine W.gtr rfl rfl ?_
                    refine W.guardT rfl c19 ?_
                    refine W.pickT rfl rfl rfl c20 ?_
                    refine W.pickN rfl rfl rfl c19 ?_
                    refine W.mv rfl ?_
                    refine W.split 61 rfl (fun c21 => ?_) (fun c21 => ?_)
                    · replace h := iteT h c21
                      refine W.guardF2 rfl c21 ?_
                      refine W.guardF2 rfl c21 ?_
                      refine W.guardU rfl ?_
                      refine W.guardU rfl ?_
                      refine W.guardU rfl ?_
                      refine W.guardU rfl ?_
                      refine W.guardU rfl ?_
                      refine W.guardU rfl ?_
                      refine W.guardF2 rfl c21 ?_
                      refine W.pickT rfl rfl rfl c21 ?_
                      refine W.nil ?_
                      exact ⟨true, h, Wk.nrmTo [0, 1, 5, 8, 71] [(10200, 10400), (10201, 10401)] rfl rfl⟩
                    · replace h := iteF h c21
                      refine W.guardT rfl c21 ?_
                      refine W.mv rfl ?_
                      refine W.guardT rfl c21 ?_
                      refine W.mv rfl ?_
                      refine W.split 63 rfl (fun c22 => ?_) (fun c22 => ?_)
                      · replace h := iteT h c22
                        refine W.guardT rfl c22 ?_
                        refine W.mv rfl ?_
                        refine W.guardT rfl c22 ?_
                        refine W.mv rfl ?_
                        refine W.guardT rfl c22 ?_
                        refine W.mv rfl ?_
                        refine W.guardT rfl c22 ?_
                        obtain ⟨r14, k23, h⟩ := obind h
                        refine W.call (ref6_ShortestCycle_spec n a0 r12 r14 k23) rfl rfl (Les.refl _) rfl (.inl rfl) rfl ?_
                        refine W.guardT rfl c22 ?_
                        obtain ⟨r15, k24, h⟩ := obind h
                        refine W.call (ref5_Ints_spec n r3.1 r14 r15 k24) rfl rfl (Les.refl _) rfl (.inl rfl) rfl ?_
                        refine W.guardT rfl c22 ?_
                        refine W.not rfl ?_
                        refine W.guardT rfl c21 ?_
                        refine W.pickT rfl rfl rfl c22 ?_
                        refine W.pickN rfl rfl rfl c21 ?_
                        refine W.nil ?_
                        exact ⟨(!r15), h, Wk.nrmTo [0, 1, 5, 8, 71] [(10200, 10400), (10201, 10401)] rfl rfl⟩
                      · replace h := iteF h c22
                        refine W.guardF1 rfl c22 ?_
                        refine W.guardF1 rfl c22 ?_
                        refine W.guardF1 rfl c22 ?_
                        refine W.guardF1 rfl c22 ?_
                        refine W.guardF1 rfl c22 ?_
                        refine W.guardF1 rfl c22 ?_
                        refine W.guardT rfl c21 ?_
                        refine W.pickN rfl rfl rfl c22 ?_
                        refine W.pickN rfl rfl rfl c21 ?_
                        refine W.nil ?_
                        exact ⟨false, h, Wk.nrmTo [0, 1, 5, 8, 71] [(10200, 10400), (10201, 10401)] rfl rfl⟩
                  · replace h := iteF h c20
                    refine W.guardF1 rfl c20 ?_
                    refine W.guardF1 rfl c20 ?_
                    refine W.guardF1 rfl c20 ?_
                    refine W.guardT rfl c19 ?_
                    refine W.pickN rfl rfl rfl c20 ?_
                    refine W.pickN rfl rfl rfl c19 ?_
                    refine W.mv rfl ?_
                    refine W.guardT rfl rfl ?_
                    refine W.mv rfl ?_
                    refine W.guardT rfl rfl ?_
                    refine W.mv rfl ?_
                    refine W.split 63 rfl (fun c25 => ?_) (fun c25 => ?_)
                    · replace h := iteT h c25
                      refine W.guardT rfl c25 ?_
                      refine W.mv rfl ?_
                      refine W.guardT rfl c25 ?_
                      refine W.mv rfl ?_
                      refine W.guardT rfl c25 ?_
                      refine W.mv rfl ?_
                      refine W.guardT rfl c25 ?_
                      obtain ⟨r16, k26, h⟩ := obind h
                      refine W.call (ref6_ShortestCycle_spec n a0 r12 r16 k26) rfl rfl (Les.refl _) rfl (.inl rfl) rfl ?_
                      refine W.guardT rfl c25 ?_
                      obtain ⟨r17, k27, h⟩ := obind h
                      refine W.call (ref5_Ints_spec n r3.1 r16 r17 k27) rfl rfl (Les.refl _) rfl (.inl rfl) rfl ?_
                      refine W.guardT rfl c25 ?_
                      refine W.not rfl ?_
                      refine W.guardT rfl rfl ?_
                      refine W.pickT rfl rfl rfl c25 ?_
                      refine W.pickN rfl rfl rfl rfl ?_
                      refine W.nil ?_
                      exact ⟨(!r17), h, Wk.nrmTo [0, 1, 5, 8, 71] [(10200, 10400), (10201, 10401)] rfl rfl⟩
                    · replace h := iteF h c25
                      refine W.guardF1 rfl c25 ?_
                      refine W.guardF1 rfl c25 ?_
                      refine W.guardF1 rfl c25 ?_
                      refine W.guardF1 rfl c25 ?_
                      refine W.guardF1 rfl c25 ?_
                      refine W.guardF1 rfl c25 ?_
                      refine W.guardT rfl rfl ?_
                      refine W.pickN rfl rfl rfl c25 ?_
                      refine W.pickN rfl rfl rfl rfl ?_
                      refine W.nil ?_
                      exact ⟨false, h, Wk.nrmTo [0, 1, 5, 8, 71] [(10200, 10400), (10201, 10401)] rfl rfl⟩
              · intro x13 h
                try dsimp only at h ⊢
                unfold law6_DepgraphMatchesSpec_j5 at h
                refine Ev.cond rfl (fun c18 => ?_) (fun c18 => ?_)
                · replace h := iteT h c18
                  refine Ev.seq ?_
                  refine W.reg hm ?_
                  refine W.mv rfl ?_
                  refine W.nil ?_
                  refine Ev.ret ?_
                  injection h with h; subst h
                  exact ⟨_, rfl, .refl _⟩
                · replace h := iteF h c18
                  refine Ev.skip ?_
                  exact ⟨(), h, Wk.nrmTo [0, 1, 5, 8] [(10400, 10300), (10401, 10301)] rfl rfl⟩
            · replace h := iteF h c16
              refine Ev.skip ?_
              exact ⟨(), h, Wk.nrmTo [0, 1, 5, 8] [(10200, 10300), (10201, 10301)] rfl rfl⟩
          · intro _ h
            try dsimp only at h ⊢
            unfold law6_DepgraphMatchesSpec_j3 at h
            refine Ev.seq ?_
            refine W.reg hm ?_
            refine W.mv rfl ?_
            refine W.mv rfl ?_
            obtain ⟨r5, k5, h⟩ := obind h
            refine W.call (ref6_ChangedFault_spec n a0 a1 r5 k5) rfl rfl (Les.refl _) rfl (.inl rfl) rfl ?_
            refine W.store (es' := [[.int .i64 r5.Code, .int .i64 r5.Index]]) (dt := true) rfl rfl rfl rfl rfl (Nat.le_of_ble_eq_true rfl) rfl rfl rfl rfl ?_
            refine W.nil ?_
            refine Ev.seq ?_
            refine W.reg hm ?_
            refine W.mv rfl ?_
            refine W.mv rfl ?_
            obtain ⟨r6, k6, h⟩ := obind h
            refine W.call (depgraph_Affected_spec n a0 a1 r6 k6) rfl rfl (Les.refl _) rfl (.inl rfl) rfl ?_
            refine W.mv rfl ?_
            refine W.extract rfl rfl ?_
            refine W.extract rfl rfl ?_
            refine W.mv rfl ?_
            refine W.store (es' := [[.int .i64 r6.2.Code, .int .i64 r6.2.Index]]) (dt := true) rfl rfl rfl rfl rfl (Nat.le_of_ble_eq_true rfl) rfl rfl rfl rfl ?_
            refine W.nil ?_
            refine Ev.seqJ (γ := Bool) (fun v => ⟨[(4, .bool v)], [], 2⟩) (fun v => law6_DepgraphMatchesSpec_j4 n v = some r) ?_ ?_
            · refine W.reg hm ?_
              refine W.loadO (p := .agg [.int .i64 r6.2.Code, .int .i64 r6.2.Index]) rfl rfl rfl rfl ?_
              refine W.loadO (p := .agg [.int .i64 r5.Code, .int .i64 r5.Index]) rfl rfl rfl rfl ?_
              refine W.eqs rfl rfl rfl ?_
              refine W.mv rfl ?_
              refine W.split 84 rfl (fun c7 => ?_) (fun c7 => ?_)
              · replace h := iteT h c7
                refine W.guardT rfl c7 ?_
                refine W.fieldAddrO rfl rfl ?_
                refine W.guardT rfl c7 ?_
                refine W.loadO (p := .int .i64 r5.Code) rfl rfl rfl rfl ?_
                refine W.guardT rfl c7 ?_
                refine W.neq rfl rfl ?_
                refine W.guardT rfl c7 ?_
                refine W.mv rfl ?_
                refine W.split 88 rfl (fun c8 => ?_) (fun c8 => ?_)
                · replace h := iteT h c8
                  refine W.guardT rfl c8 ?_
                  refine W.mv rfl ?_
                  refine W.guardT rfl c8 ?_
                  refine W.lenL (c := cI) rfl ?_
                  refine W.guardT rfl c8 ?_
                  refine W.eql rfl rfl ?_
                  refine W.guardT rfl c7 ?_
                  refine W.pickT rfl rfl rfl c8 ?_
                  refine W.guardT rfl c7 ?_
                  refine W.mv rfl ?_
                  refine W.split 93 rfl (fun c9 => ?_) (fun c9 => ?_)
                  · replace h := iteT h c9
                    refine W.guardF2 rfl c9 ?_
                    refine W.guardF2 rfl c9 ?_
                    refine W.guardF2 rfl c9 ?_
                    refine W.guardF2 rfl c9 ?_
                    refine W.guardU rfl ?_
                    refine W.guardU rfl ?_
                    refine W.guardU rfl ?_
                    refine W.guardU rfl ?_
                    refine W.guardU rfl ?_
                    refine W.guardF2 rfl c9 ?_
                    refine W.guardT rfl c7 ?_
                    refine W.pickT rfl rfl rfl c9 ?_
                    refine W.pickT rfl rfl rfl c7 ?_
                    refine W.mv rfl ?_
                    refine W.nil ?_
                    exact ⟨true, h, Wk.nrmTo [4] [] rfl rfl⟩
                  · replace h := iteF h c9
                    refine W.guardT rfl c9 ?_
                    refine W.fieldAddrO rfl rfl ?_
                    refine W.guardT rfl c9 ?_
                    refine W.loadO (p := .int .i64 r5.Code) rfl rfl rfl rfl ?_
                    refine W.guardT rfl c9 ?_
                    refine W.eql rfl rfl ?_
                    refine W.guardT rfl c9 ?_
                    refine W.mv rfl ?_
                    refine W.split 97 rfl (fun c10 => ?_) (fun c10 => ?_)
                    · replace h := iteT h c10
                      refine W.guardT rfl c10 ?_
                      refine W.mv rfl ?_
                      refine W.guardT rfl c10 ?_
                      refine W.mv rfl ?_
                      refine W.guardT rfl c10 ?_
                      refine W.mv rfl ?_
                      refine W.guardT rfl c10 ?_
                      obtain ⟨r8, k11, h⟩ := obind h
                      refine W.call (ref6_Affected_spec n a0 a1 r8 k11) rfl rfl (Les.refl _) rfl (.inl rfl) rfl ?_
                      refine W.guardT rfl c10 ?_
                      obtain ⟨r9, k12, h⟩ := obind h
                      refine W.call (ref5_Ints_spec n r6.1 r8 r9 k12) rfl rfl (Les.refl _) rfl (.inl rfl) rfl ?_
                      refine W.guardT rfl c9 ?_
                      refine W.pickT rfl rfl rfl c10 ?_
                      refine W.guardT rfl c7 ?_
                      refine W.pickN rfl rfl rfl c9 ?_
                      refine W.pickT rfl rfl rfl c7 ?_
                      refine W.mv rfl ?_
                      refine W.nil ?_
                      exact ⟨r9, h, Wk.nrmTo [4] [] rfl rfl⟩
                    · replace h := iteF h c10
                      refine W.guardF1 rfl c10 ?_
                      refine W.guardF1 rfl c10 ?_
                      refine W.guardF1 rfl c10 ?_
                      refine W.guardF1 rfl c10 ?_
                      refine W.guardF1 rfl c10 ?_
                      refine W.guardT rfl c9 ?_
                      refine W.pickN rfl rfl rfl c10 ?_
                      refine W.guardT rfl c7 ?_
                      refine W.pickN rfl rfl rfl c9 ?_
                      refine W.pickT rfl rfl rfl c7 ?_
                      refine W.mv rfl ?_
                      refine W.nil ?_
                      exact ⟨false, h, Wk.nrmTo [4] [] rfl rfl⟩
                · replace h := iteF h c8
                  refine W.guardF1 rfl c8 ?_
                  refine W.guardF1 rfl c8 ?_
                  refine W.guardF1 rfl c8 ?_
                  refine W.guardT rfl c7 ?_
                  refine W.pickN rfl rfl rfl c8 ?_
                  refine W.guardT rfl c7 ?_
                  refine W.mv rfl ?_
                  refine W.guardT rfl rfl ?_
                  refine W.fieldAddrO rfl rfl ?_
                  refine W.guardT rfl rfl ?_
                  refine W.loadO (p := .int .i64 r5.Code) rfl rfl rfl rfl ?_
                  refine W.guardT rfl rfl ?_
                  refine W.eql rfl rfl ?_
                  refine W.guardT rfl rfl ?_
                  refine W.mv rfl ?_
                  refine W.split 97 rfl (fun c13 => ?_) (fun c13 => ?_)
                  · replace h := iteT h c13
                    refine W.guardT rfl c13 ?_
                    refine W.mv rfl ?_
                    refine W.guardT rfl c13 ?_
                    refine W.mv rfl ?_
                    refine W.guardT rfl c13 ?_
                    refine W.mv rfl ?_
                    refine W.guardT rfl c13 ?_
                    obtain ⟨r10, k14, h⟩ := obind h
                    refine W.call (ref6_Affected_spec n a0 a1 r10 k14) rfl rfl (Les.refl _) rfl (.inl rfl) rfl ?_
                    refine W.guardT rfl c13 ?_
                    obtain ⟨r11, k15, h⟩ := obind h
                    refine W.call (ref5_Ints_spec n r6.1 r10 r11 k15) rfl rfl (Les.refl _) rfl (.inl rfl) rfl ?_
                    refine W.guardT rfl rfl ?_
                    refine W.pickT rfl rfl rfl c13 ?_
                    refine W.guardT rfl c7 ?_
                    refine W.pickN rfl rfl rfl rfl ?_
                    refine W.pickT rfl rfl rfl c7 ?_
                    refine W.mv rfl ?_
                    refine W.nil ?_
                    exact ⟨r11, h, Wk.nrmTo [4] [] rfl rfl⟩
                  · replace h := iteF h c13
                    refine W.guardF1 rfl c13 ?_
                    refine W.guardF1 rfl c13 ?_
                    refine W.guardF1 rfl c13 ?_
                    refine W.guardF1 rfl c13 ?_
                    refine W.guardF1 rfl c13 ?_
                    refine W.guardT rfl rfl ?_
                    refine W.pickN rfl rfl rfl c13 ?_
                    refine W.guardT rfl c7 ?_
                    refine W.pickN rfl rfl rfl rfl ?_
                    refine W.pickT rfl rfl rfl c7 ?_
                    refine W.mv rfl ?_
                    refine W.nil ?_
                    exact ⟨false, h, Wk.nrmTo [4] [] rfl rfl⟩
              · replace h := iteF h c7
                refine W.guardF1 rfl c7 ?_
                refine W.guardF1 rfl c7 ?_
                refine W.guardF1 rfl c7 ?_
                refine W.guardF1 rfl c7 ?_
                refine W.guardU rfl ?_
                refine W.guardU rfl ?_
                refine W.guardU rfl ?_
                refine W.guardF1 rfl c7 ?_
                refine W.guardF1 rfl c7 ?_
                refine W.guardU rfl ?_
                refine W.guardU rfl ?_
                refine W.guardU rfl ?_
                refine W.guardU rfl ?_
                refine W.guardU rfl ?_
                refine W.guardU rfl ?_
                refine W.guardU rfl ?_
                refine W.guardU rfl ?_
                refine W.guardU rfl ?_
                refine W.guardU rfl ?_
                refine W.guardF1 rfl c7 ?_
                refine W.pickN rfl rfl rfl c7 ?_
                refine W.mv rfl ?_
                refine W.nil ?_
                exact ⟨false, h, Wk.nrmTo [4] [] rfl rfl⟩
            · intro x7 h
              try dsimp only at h ⊢
              unfold law6_DepgraphMatchesSpec_j4 at h
              refine Ev.ret ?_
              injection h with h; subst h
              exact ⟨_, rfl, .refl _⟩

set_option maxHeartbeats 4000000 in
theorem ref6_Topological_spec (n : Nat) (a0 : List (List Int)) (r : (List Int)) (h : ref6_Topological n a0 = some r) : PSpec Try.prog 22 [.list 1 (List.map (cL 1 cI) a0)] (.list 1 (List.map cI r)) := by
  unfold ref6_Topological at h
  refine spec_of Try.c_ref6_Topological (by simp) ?_
  unfold Try.l_ref6_Topological
  refine Ev.seq ?_
  refine W.reg hm ?_
  refine W.mv rfl ?_
  refine W.nil ?_
  refine Ev.seq ?_
  refine W.reg hm ?_
  refine W.mv rfl ?_
  refine W.nil ?_
  refine Ev.seqJ (γ := List Int) (fun v => ⟨[(3, .own 10100 0)], [(10100, ⟨0, 3, 1, List.map cI v, true, false, false⟩)], 2⟩) (fun v => ref6_Topological_j1 n v = some r) ?_ ?_
  · refine Ev.block ?_
    refine Ev.loopW (β := Nat × (List Int)) (fun v => ⟨[(0, .list 1 (List.map (cL 1 cI) a0)), (3, .own 10200 0)], [(10200, ⟨0, 3, 1, List.map cI v.2, true, false, false⟩)], 2⟩) (fun v => ref6_Topological_l1 n a0 v.1 v.2 = some r) (fun v => v.1) (n, ([] : List Int)) ((Wk.ownNil 3 30200 3 1 rfl rfl true).trans (Wk.nrmTo [0, 3] [(30200, 10200)] rfl rfl)) h ?_
    intro ⟨m1, w2⟩ h
    try dsimp only at h ⊢
    cases m1 with
    | zero => rw [ref6_Topological_l1] at h; cases h
    | succ m1 =>
      rw [ref6_Topological_l1] at h
      refine Ev.seq ?_
      refine Ev.seq ?_
      refine W.reg hm ?_
      refine W.mv rfl ?_
      refine W.lenO (l := w2) (c := cI) rfl rfl rfl ?_
      refine W.mv rfl ?_
      refine W.lenL (c := (cL 1 cI)) rfl ?_
      refine W.lss rfl rfl ?_
      refine W.nil ?_
      refine Ev.cond rfl (fun c1 => ?_) (fun c1 => ?_)
      · replace h := iteT h c1
        refine Ev.skip ?_
        refine Ev.block ?_
        refine Ev.seq ?_
        refine W.reg hm ?_
        refine W.mv rfl ?_
        refine W.nil ?_
        refine Ev.seq ?_
        refine Ev.seq ?_
        refine W.reg hm ?_
        refine W.mv rfl ?_
        refine W.lenL (c := (cL 1 cI)) rfl ?_
        obtain ⟨x3, k2, h⟩ := obind h
        refine W.subG rfl rfl k2 ?_
        refine W.mv rfl ?_
        refine W.nil ?_
        refine Ev.block ?_
        refine Ev.loopW (β := Nat × Int × Int) (fun v => ⟨[(0, .list 1 (List.map (cL 1 cI) a0)), (3, .own 10300 0), (4, .int .i64 v.2.1), (5, .int .i64 v.2.2)], [(10300, ⟨0, 3, 1, List.map cI w2, true, false, false⟩)], 2⟩) (fun v => ref6_Topological_l2 n a0 w2 (ref6_Topological_l1 n a0 m1) v.1 v.2.1 v.2.2 = some r) (fun v => v.1) (n, (-1), x3) (Wk.nrmTo [0, 3, 4, 5] [(10200, 10300)] rfl rfl) h ?_
        intro ⟨m2, x4, x5⟩ h
        try dsimp only at h ⊢
        cases m2 with
        | zero => rw [ref6_Topological_l2] at h; cases h
        | succ m2 =>
          rw [ref6_Topological_l2] at h
          refine Ev.seq ?_
          refine Ev.seq ?_
          refine W.reg hm ?_
          refine W.mv rfl ?_
          refine W.geq rfl rfl ?_
          refine W.nil ?_
          refine Ev.cond rfl (fun c3 => ?_) (fun c3 => ?_)
          · replace h := iteT h c3
            refine Ev.skip ?_
            refine Ev.seqJ (γ := Int) (fun v => ⟨[(0, .list 1 (List.map (cL 1 cI) a0)), (3, .own 10400 0), (4, .int .i64 v), (5, .int .i64 x5)], [(10400, ⟨0, 3, 1, List.map cI w2, true, false, false⟩)], 2⟩) (fun v => ref6_Topological_j2 n x5 (ref6_Topological_l2 n a0 w2 (ref6_Topological_l1 n a0 m1) m2) v = some r) ?_ ?_
            · refine Ev.block ?_
              refine Ev.seq ?_
              refine W.reg hm ?_
              refine W.mv rfl ?_
              refine W.mv rfl ?_
              obtain ⟨r8, k5, h⟩ := obind h
              refine W.call (ref5_Has_spec n w2 x5 r8 k5) rfl rfl (Les.refl _) rfl (.inr rfl) rfl ?_
              refine W.not rfl ?_
              refine W.mv rfl ?_
              refine W.nil ?_
              refine Ev.seq ?_
              refine Ev.seq ?_
              refine W.reg hm ?_
              refine W.mv rfl ?_
              refine W.nil ?_
              refine Ev.block ?_
              refine Ev.loopW (β := Nat × Bool × Int) (fun v => ⟨[(0, .list 1 (List.map (cL 1 cI) a0)), (3, .own 10500 0), (4, .int .i64 x4), (5, .int .i64 x5), (6, .bool v.2.1), (7, .int .i64 v.2.2)], [(10500, ⟨0, 3, 1, List.map cI w2, true, false, false⟩)], 2⟩) (fun v => ref6_Topological_l3 n a0 w2 x4 x5 (ref6_Topological_l2 n a0 w2 (ref6_Topological_l1 n a0 m1) m2) v.1 v.2.1 v.2.2 = some r) (fun v => v.1) (n, (!r8), 0) (Wk.nrmTo [0, 3, 4, 5, 6, 7] [(10300, 10500)] rfl rfl) h ?_
              intro ⟨m3, x9, x10⟩ h
              try dsimp only at h ⊢
              cases m3 with
              | zero => rw [ref6_Topological_l3] at h; cases h
              | succ m3 =>
                rw [ref6_Topological_l3] at h
                refine Ev.seq ?_
                refine Ev.seq ?_
                refine W.reg hm ?_
                refine W.mv rfl ?_
                refine W.mv rfl ?_
                refine W.mv rfl ?_
                obtain ⟨e11, k6, h⟩ := obind h
                refine W.idxL (c := (cL 1 cI)) rfl rfl k6 ?_
                refine W.load rfl rfl ?_
                refine W.lenL (c := cI) rfl ?_
                refine W.lss rfl rfl ?_
                refine W.nil ?_
                refine Ev.cond rfl (fun c7 => ?_) (fun c7 => ?_)
                · replace h := iteT h c7
                  refine Ev.skip ?_
                  refine Ev.seqJ (γ := Bool) (fun v => ⟨[(0, .list 1 (List.map (cL 1 cI) a0)), (3, .own 10600 0), (4, .int .i64 x4), (5, .int .i64 x5), (6, .bool v), (7, .int .i64 x10)], [(10600, ⟨0, 3, 1, List.map cI w2, true, false, false⟩)], 2⟩) (fun v => ref6_Topological_j3 n x10 (ref6_Topological_l3 n a0 w2 x4 x5 (ref6_Topological_l2 n a0 w2 (ref6_Topological_l1 n a0 m1) m2) m3) v = some r) ?_ ?_
                  · refine Ev.block ?_
                    refine W.reg hm ?_
                    refine W.mv rfl ?_
                    refine W.mv rfl ?_
                    refine W.split 34 rfl (fun c9 => ?_) (fun c9 => ?_)
                    · replace h := iteT h c9
                      refine W.guardT rfl c9 ?_
                      refine W.mv rfl ?_
                      refine W.guardT rfl c9 ?_
                      refine W.mv rfl ?_
                      refine W.guardT rfl c9 ?_
                      refine W.mv rfl ?_
                      refine W.guardT rfl c9 ?_
                      refine W.idxL (c := (cL 1 cI)) rfl rfl k6 ?_
                      refine W.guardT rfl c9 ?_
                      refine W.load rfl rfl ?_
                      refine W.guardT rfl c9 ?_
                      refine W.mv rfl ?_
                      refine W.guardT rfl c9 ?_
                      obtain ⟨e14, k10, h⟩ := obind h
                      refine W.idxL (c := cI) rfl rfl k10 ?_
                      refine W.guardT rfl c9 ?_
                      refine W.load rfl rfl ?_
                      refine W.guardT rfl c9 ?_
                      obtain ⟨r15, k11, h⟩ := obind h
                      refine W.call (ref5_Has_spec n w2 e14 r15 k11) rfl rfl (Les.refl _) rfl (.inr rfl) rfl ?_
                      refine W.pickT rfl rfl rfl c9 ?_
                      refine W.mv rfl ?_
                      refine W.nil ?_
                      exact ⟨r15, h, Wk.nrmTo [0, 3, 4, 5, 6, 7] [(10500, 10600)] rfl rfl⟩
                    · replace h := iteF h c9
                      refine W.guardF1 rfl c9 ?_
                      refine W.guardF1 rfl c9 ?_
                      refine W.guardF1 rfl c9 ?_
                      refine W.guardF1 rfl c9 ?_
                      refine W.guardF1 rfl c9 ?_
                      refine W.guardF1 rfl c9 ?_
                      refine W.guardF1 rfl c9 ?_
                      refine W.guardF1 rfl c9 ?_
                      refine W.guardF1 rfl c9 ?_
                      refine W.pickN rfl rfl rfl c9 ?_
                      refine W.mv rfl ?_
                      refine W.nil ?_
                      exact ⟨false, h, Wk.nrmTo [0, 3, 4, 5, 6, 7] [(10500, 10600)] rfl rfl⟩
                  · intro x12 h
                    try dsimp only at h ⊢
                    unfold ref6_Topological_j3 at h
                    refine W.reg hm ?_
                    refine W.mv rfl ?_
                    obtain ⟨x13, k8, h⟩ := obind h
                    refine W.addG rfl rfl k8 ?_
                    refine W.mv rfl ?_
                    refine W.nil ?_
                    exact ⟨(m3, x12, x13), h, Nat.lt_succ_self _, Wk.nrmTo [0, 3, 4, 5, 6, 7] [(10600, 10500)] rfl rfl⟩
                · replace h := iteF h c7
                  refine Ev.exit ?_
                  refine Ev.seq ?_
                  refine W.reg hm ?_
                  refine W.mv rfl ?_
                  refine W.nil ?_
                  refine Ev.cond rfl (fun c12 => ?_) (fun c12 => ?_)
                  · replace h := iteT h c12
                    refine W.reg hm ?_
                    refine W.mv rfl ?_
                    refine W.mv rfl ?_
                    refine W.nil ?_
                    exact ⟨x5, h, Wk.nrmTo [0, 3, 4, 5] [(10500, 10400)] rfl rfl⟩
                  · replace h := iteF h c12
                    refine Ev.skip ?_
                    exact ⟨x4, h, Wk.nrmTo [0, 3, 4, 5] [(10500, 10400)] rfl rfl⟩
            · intro x6 h
              try dsimp only at h ⊢
              unfold ref6_Topological_j2 at h
              refine W.reg hm ?_
              refine W.mv rfl ?_
              obtain ⟨x7, k4, h⟩ := obind h
              refine W.subG rfl rfl k4 ?_
              refine W.mv rfl ?_
              refine W.nil ?_
              exact ⟨(m2, x6, x7), h, Nat.lt_succ_self _, Wk.nrmTo [0, 3, 4, 5] [(10400, 10300)] rfl rfl⟩
          · replace h := iteF h c3
            refine Ev.exit ?_
            refine W.reg hm ?_
            refine W.mv rfl ?_
            refine W.mv rfl ?_
            refine W.mkSlice (dt := true) (es := [[.int .i64 x4]]) rfl rfl rfl rfl rfl rfl ?_
            obtain ⟨w16, k13, h⟩ := obind h
            refine W.appR true (l := w2) (c := cI) (ys := ([x4] : List Int)) rfl rfl rfl rfl rfl rfl rfl rfl k13 rfl (by simp) ?_
            refine W.mv rfl ?_
            refine W.nil ?_
            exact ⟨(m1, w16), h, Nat.lt_succ_self _, Wk.nrmTo [0, 3] [(50, 10200)] rfl rfl⟩
      · replace h := iteF h c1
        refine Ev.exit ?_
        exact ⟨w2, h, Wk.nrmTo [3] [(10200, 10100)] rfl rfl⟩
  · intro w1 h
    try dsimp only at h ⊢
    unfold ref6_Topological_j1 at h
    refine Ev.seq ?_
    refine W.reg hm ?_
    refine W.mv rfl ?_
    refine W.mv rfl ?_
    refine W.nil ?_
    refine Ev.ret ?_
    injection h with h; subst h
    exact ⟨_, rfl, .refl _⟩

set_option maxHeartbeats 4000000 in
theorem ref6_Levels_spec (n : Nat) (a0 : List (List Int)) (r : (List Int)) (h : ref6_Levels n a0 = some r) : PSpec Try.prog 23 [.list 1 (List.map (cL 1 cI) a0)] (.list 1 (List.map cI r)) := by
  unfold ref6_Levels at h
  refine spec_of Try.c_ref6_Levels (by simp) ?_
  unfold Try.l_ref6_Levels
  refine Ev.seq ?_
  refine W.reg hm ?_
  refine W.mv rfl ?_
  refine W.nil ?_
  refine Ev.seq ?_
  refine W.reg hm ?_
  refine W.mv rfl ?_
  refine W.lenL (c := (cL 1 cI)) rfl ?_
  obtain ⟨w1, k1, h⟩ := obind h
  refine W.makeG true (c := cI) rfl rfl k1 rfl rfl ?_
  refine W.mv rfl ?_
  refine W.nil ?_
  refine Ev.seq ?_
  refine Ev.seq ?_
  refine W.reg hm ?_
  refine W.mv rfl ?_
  refine W.nil ?_
  refine Ev.block ?_
  refine Ev.loopW (β := Nat × (List Int) × Int) (fun v => ⟨[(0, .list 1 (List.map (cL 1 cI) a0)), (3, .own 10100 0), (4, .int .i64 v.2.2)], [(10100, ⟨0, 3, 1, List.map cI v.2.1, true, false, false⟩)], 2⟩) (fun v => ref6_Levels_l1 n a0 v.1 v.2.1 v.2.2 = some r) (fun v => v.1) (n, w1, 0) (Wk.nrmTo [0, 3, 4] [(9, 10100)] rfl rfl) h ?_
  intro ⟨m1, w2, x3⟩ h
  try dsimp only at h ⊢
  cases m1 with
  | zero => rw [ref6_Levels_l1] at h; cases h
  | succ m1 =>
    rw [ref6_Levels_l1] at h
    refine Ev.seq ?_
    refine Ev.seq ?_
    refine W.reg hm ?_
    refine W.mv rfl ?_
    refine W.mv rfl ?_
    refine W.lenL (c := (cL 1 cI)) rfl ?_
    refine W.lss rfl rfl ?_
    refine W.nil ?_
    refine Ev.cond rfl (fun c2 => ?_) (fun c2 => ?_)
    · replace h := iteT h c2
      refine Ev.skip ?_
      refine Ev.seq ?_
      refine Ev.block ?_
      refine Ev.seq ?_
      refine W.reg hm ?_
      refine W.mv rfl ?_
      refine W.nil ?_
      refine Ev.block ?_
      refine Ev.loopW (β := Nat × (List Int) × Int) (fun v => ⟨[(0, .list 1 (List.map (cL 1 cI) a0)), (3, .own 10200 0), (4, .int .i64 x3), (5, .int .i64 v.2.2)], [(10200, ⟨0, 3, 1, List.map cI v.2.1, true, false, false⟩)], 2⟩) (fun v => ref6_Levels_l2 n a0 x3 (ref6_Levels_l1 n a0 m1) v.1 v.2.1 v.2.2 = some r) (fun v => v.1) (n, w2, 0) (Wk.nrmTo [0, 3, 4, 5] [(10100, 10200)] rfl rfl) h ?_
      intro ⟨m2, w4, x5⟩ h
      try dsimp only at h ⊢
      cases m2 with
      | zero => rw [ref6_Levels_l2] at h; cases h
      | succ m2 =>
        rw [ref6_Levels_l2] at h
        refine Ev.seq ?_
        refine Ev.seq ?_
        refine W.reg hm ?_
        refine W.mv rfl ?_
        refine W.mv rfl ?_
        refine W.lenL (c := (cL 1 cI)) rfl ?_
        refine W.lss rfl rfl ?_
        refine W.nil ?_
        refine Ev.cond rfl (fun c3 => ?_) (fun c3 => ?_)
        · replace h := iteT h c3
          refine Ev.skip ?_
          refine Ev.seq ?_
          refine Ev.block ?_
          refine Ev.seq ?_
          refine W.reg hm ?_
          refine W.mv rfl ?_
          refine W.nil ?_
          refine Ev.block ?_
          refine Ev.loopW (β := Nat × (List Int) × Int) (fun v => ⟨[(0, .list 1 (List.map (cL 1 cI) a0)), (3, .own 10300 0), (4, .int .i64 x3), (5, .int .i64 x5), (6, .int .i64 v.2.2)], [(10300, ⟨0, 3, 1, List.map cI v.2.1, true, false, false⟩)], 2⟩) (fun v => ref6_Levels_l3 n a0 x5 (ref6_Levels_l2 n a0 x3 (ref6_Levels_l1 n a0 m1) m2) v.1 v.2.1 v.2.2 = some r) (fun v => v.1) (n, w4, 0) (Wk.nrmTo [0, 3, 4, 5, 6] [(10200, 10300)] rfl rfl) h ?_
          intro ⟨m3, w6, x7⟩ h
          try dsimp only at h ⊢
          cases m3 with
          | zero => rw [ref6_Levels_l3] at h; cases h
          | succ m3 =>
            rw [ref6_Levels_l3] at h
            refine Ev.seq ?_
            refine Ev.seq ?_
            refine W.reg hm ?_
            refine W.mv rfl ?_
            refine W.mv rfl ?_
            refine W.mv rfl ?_
            obtain ⟨e8, k4, h⟩ := obind h
            refine W.idxL (c := (cL 1 cI)) rfl rfl k4 ?_
            refine W.load rfl rfl ?_
            refine W.lenL (c := cI) rfl ?_
            refine W.lss rfl rfl ?_
            refine W.nil ?_
            refine Ev.cond rfl (fun c5 => ?_) (fun c5 => ?_)
            · replace h := iteT h c5
              refine Ev.skip ?_
              refine Ev.seqJ (γ := List Int) (fun v => ⟨[(0, .list 1 (List.map (cL 1 cI) a0)), (3, .own 10400 0), (4, .int .i64 x3), (5, .int .i64 x5), (6, .int .i64 x7)], [(10400, ⟨0, 3, 1, List.map cI v, true, false, false⟩)], 2⟩) (fun v => ref6_Levels_j1 n x7 (ref6_Levels_l3 n a0 x5 (ref6_Levels_l2 n a0 x3 (ref6_Levels_l1 n a0 m1) m2) m3) v = some r) ?_ ?_
              · refine Ev.block ?_
                refine Ev.seq ?_
                refine W.regD hm ?_
                refine W.mv rfl ?_
                refine W.mv rfl ?_
                obtain ⟨e11, k7, h⟩ := obind h
                refine W.idxR (l := w6) (c := cI) rfl rfl rfl rfl rfl k7 ?_
                refine W.loadR (l := w6) (c := cI) (v := e11) (p := .int .i64 e11) rfl rfl rfl (gidx_some k7).2 rfl ?_
                refine W.mv rfl ?_
                refine W.mv rfl ?_
                refine W.mv rfl ?_
                refine W.idxL (c := (cL 1 cI)) rfl rfl k4 ?_
                refine W.load rfl rfl ?_
                refine W.mv rfl ?_
                obtain ⟨e12, k8, h⟩ := obind h
                refine W.idxL (c := cI) rfl rfl k8 ?_
                refine W.load rfl rfl ?_
                obtain ⟨e13, k9, h⟩ := obind h
                refine W.idxR (l := w6) (c := cI) rfl rfl rfl rfl rfl k9 ?_
                refine W.loadR (l := w6) (c := cI) (v := e13) (p := .int .i64 e13) rfl rfl rfl (gidx_some k9).2 rfl ?_
                obtain ⟨x14, k10, h⟩ := obind h
                refine W.addG rfl rfl k10 ?_
                refine W.lss rfl rfl ?_
                refine W.nil ⟨rfl, ?_⟩
                refine Ev.cond rfl (fun c11 => ?_) (fun c11 => ?_)
                · replace h := iteT h c11
                  refine W.reg hm ?_
                  refine W.mv rfl ?_
                  refine W.mv rfl ?_
                  refine W.mv rfl ?_
                  refine W.mv rfl ?_
                  refine W.mv rfl ?_
                  refine W.idxL (c := (cL 1 cI)) rfl rfl k4 ?_
                  refine W.load rfl rfl ?_
                  refine W.mv rfl ?_
                  refine W.idxL (c := cI) rfl rfl k8 ?_
                  refine W.load rfl rfl ?_
                  refine W.idxR (l := w6) (c := cI) rfl rfl rfl rfl rfl k9 ?_
                  refine W.loadR (l := w6) (c := cI) (v := e13) (p := .int .i64 e13) rfl rfl rfl (gidx_some k9).2 rfl ?_
                  obtain ⟨x15, k12, h⟩ := obind h
                  refine W.addG rfl rfl k12 ?_
                  refine W.idxR (l := w6) (c := cI) rfl rfl rfl rfl rfl k7 ?_
                  refine W.storeR true (l := w6) (c := cI) (v := e11) (v' := x15) rfl rfl rfl rfl (gidx_some k7).2 rfl (Nat.le_of_ble_eq_true rfl) rfl rfl rfl ?_
                  refine W.nil ?_
                  exact ⟨(gset w6 x5 x15), h, Wk.nrmTo [0, 3, 4, 5, 6] [(10300, 10400)] rfl rfl⟩
                · replace h := iteF h c11
                  refine Ev.skip ?_
                  exact ⟨w6, h, Wk.nrmTo [0, 3, 4, 5, 6] [(10300, 10400)] rfl rfl⟩
              · intro w9 h
                try dsimp only at h ⊢
                unfold ref6_Levels_j1 at h
                refine W.reg hm ?_
                refine W.mv rfl ?_
                obtain ⟨x10, k6, h⟩ := obind h
                refine W.addG rfl rfl k6 ?_
                refine W.mv rfl ?_
                refine W.nil ?_
                exact ⟨(m3, w9, x10), h, Nat.lt_succ_self _, Wk.nrmTo [0, 3, 4, 5, 6] [(10400, 10300)] rfl rfl⟩
            · replace h := iteF h c5
              refine Ev.exit ?_
              refine W.reg hm ?_
              refine W.mv rfl ?_
              obtain ⟨x16, k13, h⟩ := obind h
              refine W.addG rfl rfl k13 ?_
              refine W.mv rfl ?_
              refine W.nil ?_
              exact ⟨(m2, w6, x16), h, Nat.lt_succ_self _, Wk.nrmTo [0, 3, 4, 5] [(10300, 10200)] rfl rfl⟩
        · replace h := iteF h c3
          refine Ev.exit ?_
          refine W.reg hm ?_
          refine W.mv rfl ?_
          obtain ⟨x17, k14, h⟩ := obind h
          refine W.addG rfl rfl k14 ?_
          refine W.mv rfl ?_
          refine W.nil ?_
          exact ⟨(m1, w4, x17), h, Nat.lt_succ_self _, Wk.nrmTo [0, 3, 4] [(10200, 10100)] rfl rfl⟩
    · replace h := iteF h c2
      refine Ev.exit ?_
      refine Ev.seq ?_
      refine W.reg hm ?_
      refine W.mv rfl ?_
      refine W.mv rfl ?_
      refine W.nil ?_
      refine Ev.ret ?_
      injection h with h; subst h
      exact ⟨_, rfl, .refl _⟩

set_option maxHeartbeats 4000000 in
theorem law6_DepgraphOrderMatchesSpec_spec (n : Nat) (a0 : List (List Int)) (r : Bool) (h : law6_DepgraphOrderMatchesSpec n a0 = some r) : PSpec Try.prog 4 [.list 1 (List.map (cL 1 cI) a0)] (.bool r) := by
  unfold law6_DepgraphOrderMatchesSpec at h
  refine spec_of Try.c_law6_DepgraphOrderMatchesSpec (by simp) ?_
  unfold Try.l_law6_DepgraphOrderMatchesSpec
  refine Ev.seq ?_
  refine W.reg hm ?_
  refine W.mv rfl ?_
  refine W.nil ?_
  refine Ev.seq ?_
  refine W.reg hm ?_
  refine W.mv rfl ?_
  obtain ⟨r1, k1, h⟩ := obind h
  refine W.call (ref6_GraphFault_spec n a0 r1 k1) rfl rfl (Les.refl _) rfl (.inl rfl) rfl ?_
  refine W.alloc (dt := true) rfl rfl rfl ?_
  refine W.store (es' := [[.int .i64 r1.Code, .int .i64 r1.Index]]) (dt := true) rfl rfl rfl rfl rfl (Nat.le_of_ble_eq_true rfl) rfl rfl rfl rfl ?_
  refine W.nil ?_
  refine Ev.seqJ (γ := Int × Int) (fun v => ⟨[(0, .list 1 (List.map (cL 1 cI) a0)), (3, .pown 10100 0 0 0)], [(10100, ⟨0, 25, 2, [[.int .i64 v.1, .int .i64 v.2]], true, false, false⟩)], 2⟩) (fun v => law6_DepgraphOrderMatchesSpec_j1 n a0 v.1 v.2 = some r) ?_ ?_
  · refine Ev.seqJ (γ := Bool) (fun v => ⟨[(0, .list 1 (List.map (cL 1 cI) a0)), (3, .pown 10200 0 0 0), (17, .bool v)], [(10200, ⟨0, 25, 2, [[.int .i64 r1.Code, .int .i64 r1.Index]], true, false, false⟩)], 2⟩) (fun v => law6_DepgraphOrderMatchesSpec_j5 n a0 r1 v = some r) ?_ ?_
    · refine W.reg hm ?_
      refine W.fieldAddrO rfl rfl ?_
      refine W.loadO (p := .int .i64 r1.Code) rfl rfl rfl rfl ?_
      refine W.eql rfl rfl ?_
      refine W.mv rfl ?_
      refine W.split 13 rfl (fun c22 => ?_) (fun c22 => ?_)
      · replace h := iteT h c22
        refine W.guardT rfl c22 ?_
        refine W.mv rfl ?_
        refine W.guardT rfl c22 ?_
        obtain ⟨r18, k23, h⟩ := obind h
        refine W.call (ref6_FirstOnCycle_spec n a0 r18 k23) rfl rfl (Les.refl _) rfl (.inl rfl) rfl ?_
        refine W.guardT rfl c22 ?_
        refine W.geq rfl rfl ?_
        refine W.pickT rfl rfl rfl c22 ?_
        refine W.nil ?_
        exact ⟨(decide (0 ≤ r18)), h, Wk.nrmTo [0, 3, 17] [(3, 10200)] rfl rfl⟩
      · replace h := iteF h c22
        refine W.guardF1 rfl c22 ?_
        refine W.guardF1 rfl c22 ?_
        refine W.guardF1 rfl c22 ?_
        refine W.pickN rfl rfl rfl c22 ?_
        refine W.nil ?_
        exact ⟨false, h, Wk.nrmTo [0, 3, 17] [(3, 10200)] rfl rfl⟩
    · intro x15 h
      try dsimp only at h ⊢
      unfold law6_DepgraphOrderMatchesSpec_j5 at h
      refine Ev.cond rfl (fun c19 => ?_) (fun c19 => ?_)
      · replace h := iteT h c19
        refine W.reg hm ?_
        refine W.mv rfl ?_
        obtain ⟨r16, k20, h⟩ := obind h
        refine W.call (ref6_FirstOnCycle_spec n a0 r16 k20) rfl rfl (Les.refl _) rfl (.inl rfl) rfl ?_
        obtain ⟨r17, k21, h⟩ := obind h
        refine W.call (law6_fault_spec n 20 r16 r17 k21) rfl rfl (Les.refl _) rfl (.inl rfl) rfl ?_
        refine W.store (es' := [[.int .i64 r17.Code, .int .i64 r17.Index]]) (dt := true) rfl rfl rfl rfl rfl (Nat.le_of_ble_eq_true rfl) rfl rfl rfl rfl ?_
        refine W.nil ?_
        exact ⟨(r17.Code, r17.Index), h, Wk.nrmTo [0, 3] [(10200, 10100)] rfl rfl⟩
      · replace h := iteF h c19
        refine Ev.skip ?_
        exact ⟨(r1.Code, r1.Index), h, Wk.nrmTo [0, 3] [(10200, 10100)] rfl rfl⟩
  · intro ⟨b2, b3⟩ h
    try dsimp only at h ⊢
    unfold law6_DepgraphOrderMatchesSpec_j1 at h
    refine Ev.seq ?_
    refine W.reg hm ?_
    refine W.mv rfl ?_
    obtain ⟨r4, k2, h⟩ := obind h
    refine W.call (depgraph_Order_spec n a0 r4 k2) rfl rfl (Les.refl _) rfl (.inl rfl) rfl ?_
    refine W.mv rfl ?_
    refine W.extract rfl rfl ?_
    refine W.extract rfl rfl ?_
    refine W.alloc (dt := true) rfl rfl rfl ?_
    refine W.mv rfl ?_
    refine W.store (es' := [[.int .i64 r4.2.Code, .int .i64 r4.2.Index]]) (dt := true) rfl rfl rfl rfl rfl (Nat.le_of_ble_eq_true rfl) rfl rfl rfl rfl ?_
    refine W.nil ?_
    refine Ev.seq ?_
    refine W.reg hm ?_
    refine W.mv rfl ?_
    obtain ⟨r5, k3, h⟩ := obind h
    refine W.call (depgraph_Levels_spec n a0 r5 k3) rfl rfl (Les.refl _) rfl (.inl rfl) rfl ?_
    refine W.mv rfl ?_
    refine W.extract rfl rfl ?_
    refine W.extract rfl rfl ?_
    refine W.alloc (dt := true) rfl rfl rfl ?_
    refine W.mv rfl ?_
    refine W.store (es' := [[.int .i64 r5.2.Code, .int .i64 r5.2.Index]]) (dt := true) rfl rfl rfl rfl rfl (Nat.le_of_ble_eq_true rfl) rfl rfl rfl rfl ?_
    refine W.nil ?_
    refine Ev.seq ?_
    refine Ev.seqJ (γ := Bool) (fun v => ⟨[(0, .list 1 (List.map (cL 1 cI) a0)), (3, .pown 10200 0 0 0), (4, .list 1 (List.map cI r4.1)), (5, .pown 10201 0 0 0), (6, .list 1 (List.map cI r5.1)), (7, .pown 10202 0 0 0), (47, .bool v)], [(10200, ⟨0, 25, 2, [[.int .i64 b2, .int .i64 b3]], true, false, false⟩), (10201, ⟨0, 25, 2, [[.int .i64 r4.2.Code, .int .i64 r4.2.Index]], true, false, false⟩), (10202, ⟨0, 25, 2, [[.int .i64 r5.2.Code, .int .i64 r5.2.Index]], true, false, false⟩)], 2⟩) (fun v => law6_DepgraphOrderMatchesSpec_j2 n a0 b2 b3 r4 r5 v = some r) ?_ ?_
    · refine W.reg hm ?_
      obtain ⟨r14, k15, h⟩ := obind h
      refine W.call (law6_graphs_spec n r14 k15) rfl rfl (Les.refl _) rfl (.inl rfl) rfl ?_
      refine W.not rfl ?_
      refine W.mv rfl ?_
      refine W.split 33 rfl (fun c16 => ?_) (fun c16 => ?_)
      · replace h := iteT h c16
        refine W.guardF2 rfl c16 ?_
        refine W.guardF2 rfl c16 ?_
        refine W.guardF2 rfl c16 ?_
        refine W.pickT rfl rfl rfl c16 ?_
        refine W.mv rfl ?_
        refine W.guardF2 rfl rfl ?_
        refine W.guardF2 rfl rfl ?_
        refine W.guardF2 rfl rfl ?_
        refine W.pickT rfl rfl rfl rfl ?_
        refine W.mv rfl ?_
        refine W.guardF2 rfl rfl ?_
        refine W.guardF2 rfl rfl ?_
        refine W.guardF2 rfl rfl ?_
        refine W.pickT rfl rfl rfl rfl ?_
        refine W.nil ?_
        exact ⟨true, h, Wk.nrmTo [0, 3, 4, 5, 6, 7, 47] [(10100, 10200), (5, 10201), (7, 10202)] rfl rfl⟩
      · replace h := iteF h c16
        refine W.guardT rfl c16 ?_
        refine W.loadO (p := .agg [.int .i64 r4.2.Code, .int .i64 r4.2.Index]) rfl rfl rfl rfl ?_
        refine W.guardT rfl c16 ?_
        refine W.loadO (p := .agg [.int .i64 b2, .int .i64 b3]) rfl rfl rfl rfl ?_
        refine W.guardT rfl c16 ?_
        refine W.eqs rfl rfl rfl ?_
        refine W.pickN rfl rfl rfl c16 ?_
        refine W.mv rfl ?_
        refine W.split 38 rfl (fun c17 => ?_) (fun c17 => ?_)
        · replace h := iteT h c17
          refine W.guardF2 rfl c17 ?_
          refine W.guardF2 rfl c17 ?_
          refine W.guardF2 rfl c17 ?_
          refine W.pickT rfl rfl rfl c17 ?_
          refine W.mv rfl ?_
          refine W.guardF2 rfl rfl ?_
          refine W.guardF2 rfl rfl ?_
          refine W.guardF2 rfl rfl ?_
          refine W.pickT rfl rfl rfl rfl ?_
          refine W.nil ?_
          exact ⟨true, h, Wk.nrmTo [0, 3, 4, 5, 6, 7, 47] [(10100, 10200), (5, 10201), (7, 10202)] rfl rfl⟩
        · replace h := iteF h c17
          refine W.guardT rfl c17 ?_
          refine W.loadO (p := .agg [.int .i64 r5.2.Code, .int .i64 r5.2.Index]) rfl rfl rfl rfl ?_
          refine W.guardT rfl c17 ?_
          refine W.loadO (p := .agg [.int .i64 b2, .int .i64 b3]) rfl rfl rfl rfl ?_
          refine W.guardT rfl c17 ?_
          refine W.eqs rfl rfl rfl ?_
          refine W.pickN rfl rfl rfl c17 ?_
          refine W.mv rfl ?_
          refine W.split 43 rfl (fun c18 => ?_) (fun c18 => ?_)
          · replace h := iteT h c18
            refine W.guardF2 rfl c18 ?_
            refine W.guardF2 rfl c18 ?_
            refine W.guardF2 rfl c18 ?_
            refine W.pickT rfl rfl rfl c18 ?_
            refine W.nil ?_
            exact ⟨true, h, Wk.nrmTo [0, 3, 4, 5, 6, 7, 47] [(10100, 10200), (5, 10201), (7, 10202)] rfl rfl⟩
          · replace h := iteF h c18
            refine W.guardT rfl c18 ?_
            refine W.fieldAddrO rfl rfl ?_
            refine W.guardT rfl c18 ?_
            refine W.loadO (p := .int .i64 b2) rfl rfl rfl rfl ?_
            refine W.guardT rfl c18 ?_
            refine W.neq rfl rfl ?_
            refine W.pickN rfl rfl rfl c18 ?_
            refine W.nil ?_
            exact ⟨(decide (b2 ≠ 0)), h, Wk.nrmTo [0, 3, 4, 5, 6, 7, 47] [(10100, 10200), (5, 10201), (7, 10202)] rfl rfl⟩
    · intro x6 h
      try dsimp only at h ⊢
      unfold law6_DepgraphOrderMatchesSpec_j2 at h
      refine Ev.cond rfl (fun c4 => ?_) (fun c4 => ?_)
      · replace h := iteT h c4
        refine Ev.seqJ (γ := Bool) (fun v => ⟨[(2, .bool v)], [], 2⟩) (fun v => law6_DepgraphOrderMatchesSpec_j3 n v = some r) ?_ ?_
        · refine W.reg hm ?_
          obtain ⟨r8, k5, h⟩ := obind h
          refine W.call (law6_graphs_spec n r8 k5) rfl rfl (Les.refl _) rfl (.inl rfl) rfl ?_
          refine W.mv rfl ?_
          refine W.split 49 rfl (fun c6 => ?_) (fun c6 => ?_)
          · replace h := iteT h c6
            refine W.guardT rfl c6 ?_
            refine W.loadO (p := .agg [.int .i64 r4.2.Code, .int .i64 r4.2.Index]) rfl rfl rfl rfl ?_
            refine W.guardT rfl c6 ?_
            refine W.loadO (p := .agg [.int .i64 b2, .int .i64 b3]) rfl rfl rfl rfl ?_
            refine W.guardT rfl c6 ?_
            refine W.eqs rfl rfl rfl ?_
            refine W.pickT rfl rfl rfl c6 ?_
            refine W.mv rfl ?_
            refine W.split 54 rfl (fun c7 => ?_) (fun c7 => ?_)
            · replace h := iteT h c7
              refine W.guardT rfl c7 ?_
              refine W.loadO (p := .agg [.int .i64 r5.2.Code, .int .i64 r5.2.Index]) rfl rfl rfl rfl ?_
              refine W.guardT rfl c7 ?_
              refine W.loadO (p := .agg [.int .i64 b2, .int .i64 b3]) rfl rfl rfl rfl ?_
              refine W.guardT rfl c7 ?_
              refine W.eqs rfl rfl rfl ?_
              refine W.pickT rfl rfl rfl c7 ?_
              refine W.mv rfl ?_
              refine W.split 59 rfl (fun c8 => ?_) (fun c8 => ?_)
              · replace h := iteT h c8
                refine W.guardT rfl c8 ?_
                refine W.mv rfl ?_
                refine W.guardT rfl c8 ?_
                refine W.lenL (c := cI) rfl ?_
                refine W.guardT rfl c8 ?_
                refine W.eql rfl rfl ?_
                refine W.pickT rfl rfl rfl c8 ?_
                refine W.mv rfl ?_
                refine W.split 64 rfl (fun c9 => ?_) (fun c9 => ?_)
                · replace h := iteT h c9
                  refine W.guardT rfl c9 ?_
                  refine W.mv rfl ?_
                  refine W.guardT rfl c9 ?_
                  refine W.lenL (c := cI) rfl ?_
                  refine W.guardT rfl c9 ?_
                  refine W.eql rfl rfl ?_
                  refine W.pickT rfl rfl rfl c9 ?_
                  refine W.mv rfl ?_
                  refine W.nil ?_
                  exact ⟨(decide ((r5.1.length : Int) = 0)), h, Wk.nrmTo [2] [] rfl rfl⟩
                · replace h := iteF h c9
                  refine W.guardF1 rfl c9 ?_
                  refine W.guardF1 rfl c9 ?_
                  refine W.guardF1 rfl c9 ?_
                  refine W.pickN rfl rfl rfl c9 ?_
                  refine W.mv rfl ?_
                  refine W.nil ?_
                  exact ⟨false, h, Wk.nrmTo [2] [] rfl rfl⟩
              · replace h := iteF h c8
                refine W.guardF1 rfl c8 ?_
                refine W.guardF1 rfl c8 ?_
                refine W.guardF1 rfl c8 ?_
                refine W.pickN rfl rfl rfl c8 ?_
                refine W.mv rfl ?_
                refine W.guardF1 rfl rfl ?_
                refine W.guardF1 rfl rfl ?_
                refine W.guardF1 rfl rfl ?_
                refine W.pickN rfl rfl rfl rfl ?_
                refine W.mv rfl ?_
                refine W.nil ?_
                exact ⟨false, h, Wk.nrmTo [2] [] rfl rfl⟩
            · replace h := iteF h c7
              refine W.guardF1 rfl c7 ?_
              refine W.guardF1 rfl c7 ?_
              refine W.guardF1 rfl c7 ?_
              refine W.pickN rfl rfl rfl c7 ?_
              refine W.mv rfl ?_
              refine W.guardF1 rfl rfl ?_
              refine W.guardF1 rfl rfl ?_
              refine W.guardF1 rfl rfl ?_
              refine W.pickN rfl rfl rfl rfl ?_
              refine W.mv rfl ?_
              refine W.guardF1 rfl rfl ?_
              refine W.guardF1 rfl rfl ?_
              refine W.guardF1 rfl rfl ?_
              refine W.pickN rfl rfl rfl rfl ?_
              refine W.mv rfl ?_
              refine W.nil ?_
              exact ⟨false, h, Wk.nrmTo [2] [] rfl rfl⟩
          · replace h := iteF h c6
            refine W.guardF1 rfl c6 ?_
            refine W.guardF1 rfl c6 ?_
            refine W.guardF1 rfl c6 ?_
            refine W.pickN rfl rfl rfl c6 ?_
            refine W.mv rfl ?_
            refine W.guardF1 rfl rfl ?_
            refine W.guardF1 rfl rfl ?_
            refine W.guardF1 rfl rfl ?_
            refine W.pickN rfl rfl rfl rfl ?_
            refine W.mv rfl ?_
            refine W.guardF1 rfl rfl ?_
            refine W.guardF1 rfl rfl ?_
            refine W.guardF1 rfl rfl ?_
            refine W.pickN rfl rfl rfl rfl ?_
            refine W.mv rfl ?_
            refine W.guardF1 rfl rfl ?_
            refine W.guardF1 rfl rfl ?_
            refine W.guardF1 rfl rfl ?_
            refine W.pickN rfl rfl rfl rfl ?_
            refine W.mv rfl ?_
            refine W.nil ?_
            exact ⟨false, h, Wk.nrmTo [2] [] rfl rfl⟩
        · intro x7 h
          try dsimp only at h ⊢
          unfold law6_DepgraphOrderMatchesSpec_j3 at h
          refine Ev.ret ?_
          injection h with h; subst h
          exact ⟨_, rfl, .refl _⟩
      · replace h := iteF h c4
        refine Ev.skip ?_
        refine Ev.seqJ (γ := Bool) (fun v => ⟨[(2, .bool v)], [], 2⟩) (fun v => law6_DepgraphOrderMatchesSpec_j4 n v = some r) ?_ ?_
        · refine W.reg hm ?_
          refine W.mv rfl ?_
          refine W.mv rfl ?_
          obtain ⟨r10, k10, h⟩ := obind h
          refine W.call (ref6_Topological_spec n a0 r10 k10) rfl rfl (Les.refl _) rfl (.inl rfl) rfl ?_
          obtain ⟨r11, k11, h⟩ := obind h
          refine W.call (ref5_Ints_spec n r4.1 r10 r11 k11) rfl rfl (Les.refl _) rfl (.inl rfl) rfl ?_
          refine W.mv rfl ?_
          refine W.split 73 rfl (fun c12 => ?_) (fun c12 => ?_)
          · replace h := iteT h c12
            refine W.guardT rfl c12 ?_
            refine W.mv rfl ?_
            refine W.guardT rfl c12 ?_
            refine W.mv rfl ?_
            refine W.guardT rfl c12 ?_
            obtain ⟨r12, k13, h⟩ := obind h
            refine W.call (ref6_Levels_spec n a0 r12 k13) rfl rfl (Les.refl _) rfl (.inl rfl) rfl ?_
            refine W.guardT rfl c12 ?_
            obtain ⟨r13, k14, h⟩ := obind h
            refine W.call (ref5_Ints_spec n r5.1 r12 r13 k14) rfl rfl (Les.refl _) rfl (.inl rfl) rfl ?_
            refine W.pickT rfl rfl rfl c12 ?_
            refine W.mv rfl ?_
            refine W.nil ?_
            exact ⟨r13, h, Wk.nrmTo [2] [] rfl rfl⟩
          · replace h := iteF h c12
            refine W.guardF1 rfl c12 ?_
            refine W.guardF1 rfl c12 ?_
            refine W.guardF1 rfl c12 ?_
            refine W.guardF1 rfl c12 ?_
            refine W.pickN rfl rfl rfl c12 ?_
            refine W.mv rfl ?_
            refine W.nil ?_
            exact ⟨false, h, Wk.nrmTo [2] [] rfl rfl⟩
        · intro x9 h
          try dsimp only at h ⊢
          unfold law6_DepgraphOrderMatchesSpec_j4 at h
          refine Ev.ret ?_
          injection h with h; subst h
          exact ⟨_, rfl, .refl _⟩

theorem law6_position_spec (n : Nat) (a0 : List Int) (a1 : Int) (r : Int) (h : law6_position n a0 a1 = some r) : PSpec Try.prog 24 [.list 1 (List.map cI a0), .int .i64 a1] (.int .i64 r) := by
  unfold law6_position at h
  refine spec_of Try.c_law6_position (by simp) ?_
  unfold Try.l_law6_position
  refine Ev.seq ?_
  refine W.reg hm ?_
  refine W.mv rfl ?_
  refine W.nil ?_
  refine Ev.seq ?_
  refine Ev.seq ?_
  refine W.reg hm ?_
  refine W.mv rfl ?_
  refine W.nil ?_
  refine Ev.block ?_
  refine Ev.loopW (β := Nat × Int) (fun v => ⟨[(0, .list 1 (List.map cI a0)), (1, .int .i64 a1), (5, .int .i64 v.2)], [], 2⟩) (fun v => law6_position_l1 n a0 a1 v.1 v.2 = some r) (fun v => v.1) (n, 0) (Wk.nrmTo [0, 1, 5] [] rfl rfl) h ?_
  intro ⟨m1, x1⟩ h
  try dsimp only at h ⊢
  cases m1 with
  | zero => rw [law6_position_l1] at h; cases h
  | succ m1 =>
    rw [law6_position_l1] at h
    refine Ev.seq ?_
    refine Ev.seq ?_
    refine W.reg hm ?_
    refine W.mv rfl ?_
    refine W.mv rfl ?_
    refine W.lenL (c := cI) rfl ?_
    refine W.lss rfl rfl ?_
    refine W.nil ?_
    refine Ev.cond rfl (fun c1 => ?_) (fun c1 => ?_)
    · replace h := iteT h c1
      refine Ev.skip ?_
      refine Ev.seq ?_
      refine Ev.block ?_
      refine Ev.seq ?_
      refine W.reg hm ?_
      refine W.mv rfl ?_
      refine W.mv rfl ?_
      obtain ⟨e2, k2, h⟩ := obind h
      refine W.idxL (c := cI) rfl rfl k2 ?_
      refine W.load rfl rfl ?_
      refine W.mv rfl ?_
      refine W.eql rfl rfl ?_
      refine W.nil ?_
      refine Ev.cond rfl (fun c3 => ?_) (fun c3 => ?_)
      · replace h := iteT h c3
        refine Ev.seq ?_
        refine W.reg hm ?_
        refine W.mv rfl ?_
        refine W.mv rfl ?_
        refine W.nil ?_
        refine Ev.ret ?_
        injection h with h; subst h
        exact ⟨_, rfl, .refl _⟩
      · replace h := iteF h c3
        refine Ev.skip ?_
        refine W.reg hm ?_
        refine W.mv rfl ?_
        obtain ⟨x3, k4, h⟩ := obind h
        refine W.addG rfl rfl k4 ?_
        refine W.mv rfl ?_
        refine W.nil ?_
        exact ⟨(m1, x3), h, Nat.lt_succ_self _, Wk.nrmTo [0, 1, 5] [] rfl rfl⟩
    · replace h := iteF h c1
      refine Ev.exit ?_
      refine Ev.seq ?_
      refine W.reg hm ?_
      refine W.mv rfl ?_
      refine W.nil ?_
      refine Ev.ret ?_
      injection h with h; subst h
      exact ⟨_, rfl, .refl _⟩

theorem law6_in_spec (n : Nat) (a0 : Int) (a1 : Int) (a2 : Int) (r : Bool) (h : law6_in n a0 a1 a2 = some r) : PSpec Try.prog 25 [.int .i64 a0, .int .i64 a1, .int .i64 a2] (.bool r) := by
  unfold law6_in at h
  refine spec_of Try.c_law6_in (by simp) ?_
  unfold Try.l_law6_in
  refine Ev.seq ?_
  refine W.reg hm ?_
  refine W.mv rfl ?_
  refine W.nil ?_
  refine Ev.seqJ (γ := Bool) (fun v => ⟨[(6, .bool v)], [], 2⟩) (fun v => law6_in_j1 n v = some r) ?_ ?_
  · refine W.reg hm ?_
    refine W.mv rfl ?_
    refine W.mv rfl ?_
    refine W.geq rfl rfl ?_
    refine W.mv rfl ?_
    refine W.split 10 rfl (fun c1 => ?_) (fun c1 => ?_)
    · replace h := iteT h c1
      refine W.guardT rfl c1 ?_
      refine W.mv rfl ?_
      refine W.guardT rfl c1 ?_
      refine W.mv rfl ?_
      refine W.guardT rfl c1 ?_
      refine W.leq rfl rfl ?_
      refine W.pickT rfl rfl rfl c1 ?_
      refine W.mv rfl ?_
      refine W.nil ?_
      exact ⟨(decide (a0 ≤ a2)), h, Wk.nrmTo [6] [] rfl rfl⟩
    · replace h := iteF h c1
      refine W.guardF1 rfl c1 ?_
      refine W.guardF1 rfl c1 ?_
      refine W.guardF1 rfl c1 ?_
      refine W.pickN rfl rfl rfl c1 ?_
      refine W.mv rfl ?_
      refine W.nil ?_
      exact ⟨false, h, Wk.nrmTo [6] [] rfl rfl⟩
  · intro x1 h
    try dsimp only at h ⊢
    unfold law6_in_j1 at h
    refine Ev.ret ?_
    injection h with h; subst h
    exact ⟨_, rfl, .refl _⟩

set_option maxHeartbeats 4000000 in
theorem law6_DepgraphOrdersRespectDependencies_spec (n : Nat) (a0 : List (List Int)) (r : Bool) (h : law6_DepgraphOrdersRespectDependencies n a0 = some r) : PSpec Try.prog 5 [.list 1 (List.map (cL 1 cI) a0)] (.bool r) := by
  unfold law6_DepgraphOrdersRespectDependencies at h
  refine spec_of Try.c_law6_DepgraphOrdersRespectDependencies (by simp) ?_
  unfold Try.l_law6_DepgraphOrdersRespectDependencies
  refine Ev.seq ?_
  refine W.reg hm ?_
  refine W.mv rfl ?_
  refine W.nil ?_
  refine Ev.seq ?_
  refine W.reg hm ?_
  refine W.mv rfl ?_
  obtain ⟨r1, k1, h⟩ := obind h
  refine W.call (depgraph_Order_spec n a0 r1 k1) rfl rfl (Les.refl _) rfl (.inl rfl) rfl ?_
  refine W.mv rfl ?_
  refine W.extract rfl rfl ?_
  refine W.extract rfl rfl ?_
  refine W.alloc (dt := true) rfl rfl rfl ?_
  refine W.mv rfl ?_
  refine W.store (es' := [[.int .i64 r1.2.Code, .int .i64 r1.2.Index]]) (dt := true) rfl rfl rfl rfl rfl (Nat.le_of_ble_eq_true rfl) rfl rfl rfl rfl ?_
  refine W.nil ?_
  refine Ev.seq ?_
  refine W.reg hm ?_
  refine W.mv rfl ?_
  obtain ⟨r2, k2, h⟩ := obind h
  refine W.call (depgraph_Levels_spec n a0 r2 k2) rfl rfl (Les.refl _) rfl (.inl rfl) rfl ?_
  refine W.mv rfl ?_
  refine W.extract rfl rfl ?_
  refine W.extract rfl rfl ?_
  refine W.alloc (dt := true) rfl rfl rfl ?_
  refine W.mv rfl ?_
  refine W.store (es' := [[.int .i64 r2.2.Code, .int .i64 r2.2.Index]]) (dt := true) rfl rfl rfl rfl rfl (Nat.le_of_ble_eq_true rfl) rfl rfl rfl rfl ?_
  refine W.nil ?_
  refine Ev.seq ?_
  refine Ev.seqJ (γ := Bool) (fun v => ⟨[(0, .list 1 (List.map (cL 1 cI) a0)), (3, .list 1 (List.map cI r1.1)), (4, .pown 10100 0 0 0), (5, .list 1 (List.map cI r2.1)), (27, .bool v)], [(10100, ⟨0, 25, 2, [[.int .i64 r1.2.Code, .int .i64 r1.2.Index]], true, false, false⟩)], 2⟩) (fun v => law6_DepgraphOrdersRespectDependencies_j1 n a0 r1 r2 v = some r) ?_ ?_
  · refine W.reg hm ?_
    obtain ⟨r29, k35, h⟩ := obind h
    refine W.call (law6_graphs_spec n r29 k35) rfl rfl (Les.refl _) rfl (.inl rfl) rfl ?_
    refine W.not rfl ?_
    refine W.mv rfl ?_
    refine W.split 23 rfl (fun c36 => ?_) (fun c36 => ?_)
    · replace h := iteT h c36
      refine W.guardF2 rfl c36 ?_
      refine W.guardF2 rfl c36 ?_
      refine W.guardF2 rfl c36 ?_
      refine W.pickT rfl rfl rfl c36 ?_
      refine W.nil ?_
      exact ⟨true, h, Wk.nrmTo [0, 3, 4, 5, 27] [(4, 10100)] rfl rfl⟩
    · replace h := iteF h c36
      refine W.guardT rfl c36 ?_
      refine W.loadO (p := .agg [.int .i64 r1.2.Code, .int .i64 r1.2.Index]) rfl rfl rfl rfl ?_
      refine W.guardT rfl c36 ?_
      refine W.loadO (p := .agg [.int .i64 r2.2.Code, .int .i64 r2.2.Index]) rfl rfl rfl rfl ?_
      refine W.guardT rfl c36 ?_
      refine W.eqs rfl rfl rfl ?_
      refine W.pickN rfl rfl rfl c36 ?_
      refine W.nil ?_
      exact ⟨((r1.2.Code == r2.2.Code && (r1.2.Index == r2.2.Index && true)) != true), h, Wk.nrmTo [0, 3, 4, 5, 27] [(4, 10100)] rfl rfl⟩
  · intro x3 h
    try dsimp only at h ⊢
    unfold law6_DepgraphOrdersRespectDependencies_j1 at h
    refine Ev.cond rfl (fun c3 => ?_) (fun c3 => ?_)
    · replace h := iteT h c3
      refine Ev.seq ?_
      refine W.reg hm ?_
      refine W.mv rfl ?_
      refine W.nil ?_
      refine Ev.ret ?_
      injection h with h; subst h
      exact ⟨_, rfl, .refl _⟩
    · replace h := iteF h c3
      refine Ev.skip ?_
      refine Ev.seq ?_
      refine Ev.seq ?_
      refine W.reg hm ?_
      refine W.fieldAddrO rfl rfl ?_
      refine W.loadO (p := .int .i64 r1.2.Code) rfl rfl rfl rfl ?_
      refine W.neq rfl rfl ?_
      refine W.nil ?_
      refine Ev.cond rfl (fun c4 => ?_) (fun c4 => ?_)
      · replace h := iteT h c4
        refine Ev.seqJ (γ := Bool) (fun v => ⟨[(2, .bool v)], [], 2⟩) (fun v => law6_DepgraphOrdersRespectDependencies_j2 n v = some r) ?_ ?_
        · refine W.reg hm ?_
          refine W.mv rfl ?_
          refine W.lenL (c := cI) rfl ?_
          refine W.eql rfl rfl ?_
          refine W.mv rfl ?_
          refine W.split 34 rfl (fun c5 => ?_) (fun c5 => ?_)
          · replace h := iteT h c5
            refine W.guardT rfl c5 ?_
            refine W.mv rfl ?_
            refine W.guardT rfl c5 ?_
            refine W.lenL (c := cI) rfl ?_
            refine W.guardT rfl c5 ?_
            refine W.eql rfl rfl ?_
            refine W.pickT rfl rfl rfl c5 ?_
            refine W.mv rfl ?_
            refine W.nil ?_
            exact ⟨(decide ((r2.1.length : Int) = 0)), h, Wk.nrmTo [2] [] rfl rfl⟩
          · replace h := iteF h c5
            refine W.guardF1 rfl c5 ?_
            refine W.guardF1 rfl c5 ?_
            refine W.guardF1 rfl c5 ?_
            refine W.pickN rfl rfl rfl c5 ?_
            refine W.mv rfl ?_
            refine W.nil ?_
            exact ⟨false, h, Wk.nrmTo [2] [] rfl rfl⟩
        · intro x4 h
          try dsimp only at h ⊢
          unfold law6_DepgraphOrdersRespectDependencies_j2 at h
          refine Ev.ret ?_
          injection h with h; subst h
          exact ⟨_, rfl, .refl _⟩
      · replace h := iteF h c4
        refine Ev.skip ?_
        refine Ev.seq ?_
        refine Ev.seqJ (γ := Bool) (fun v => ⟨[(0, .list 1 (List.map (cL 1 cI) a0)), (3, .list 1 (List.map cI r1.1)), (5, .list 1 (List.map cI r2.1)), (50, .bool v)], [], 2⟩) (fun v => law6_DepgraphOrdersRespectDependencies_j3 n a0 r1 r2 v = some r) ?_ ?_
        · refine W.reg hm ?_
          refine W.mv rfl ?_
          refine W.lenL (c := cI) rfl ?_
          refine W.mv rfl ?_
          refine W.lenL (c := (cL 1 cI)) rfl ?_
          refine W.neq rfl rfl ?_
          refine W.mv rfl ?_
          refine W.split 44 rfl (fun c34 => ?_) (fun c34 => ?_)
          · replace h := iteT h c34
            refine W.guardF2 rfl c34 ?_
            refine W.guardF2 rfl c34 ?_
            refine W.guardF2 rfl c34 ?_
            refine W.guardF2 rfl c34 ?_
            refine W.guardF2 rfl c34 ?_
            refine W.pickT rfl rfl rfl c34 ?_
            refine W.nil ?_
            exact ⟨true, h, Wk.nrmTo [0, 3, 5, 50] [] rfl rfl⟩
          · replace h := iteF h c34
            refine W.guardT rfl c34 ?_
            refine W.mv rfl ?_
            refine W.guardT rfl c34 ?_
            refine W.lenL (c := cI) rfl ?_
            refine W.guardT rfl c34 ?_
            refine W.mv rfl ?_
            refine W.guardT rfl c34 ?_
            refine W.lenL (c := (cL 1 cI)) rfl ?_
            refine W.guardT rfl c34 ?_
            refine W.neq rfl rfl ?_
            refine W.pickN rfl rfl rfl c34 ?_
            refine W.nil ?_
            exact ⟨(decide ((r2.1.length : Int) ≠ (a0.length : Int))), h, Wk.nrmTo [0, 3, 5, 50] [] rfl rfl⟩
        · intro x5 h
          try dsimp only at h ⊢
          unfold law6_DepgraphOrdersRespectDependencies_j3 at h
          refine Ev.cond rfl (fun c6 => ?_) (fun c6 => ?_)
          · replace h := iteT h c6
            refine Ev.seq ?_
            refine W.reg hm ?_
            refine W.mv rfl ?_
            refine W.nil ?_
            refine Ev.ret ?_
            injection h with h; subst h
            exact ⟨_, rfl, .refl _⟩
          · replace h := iteF h c6
            refine Ev.skip ?_
            refine Ev.seq ?_
            refine Ev.seq ?_
            refine W.reg hm ?_
            refine W.mv rfl ?_
            refine W.nil ?_
            refine Ev.block ?_
            refine Ev.loopW (β := Nat × Int) (fun v => ⟨[(0, .list 1 (List.map (cL 1 cI) a0)), (3, .list 1 (List.map cI r1.1)), (5, .list 1 (List.map cI r2.1)), (7, .int .i64 v.2)], [], 2⟩) (fun v => law6_DepgraphOrdersRespectDependencies_l1 n a0 r1 r2 v.1 v.2 = some r) (fun v => v.1) (n, 0) (Wk.nrmTo [0, 3, 5, 7] [] rfl rfl) h ?_
            intro ⟨m1, x6⟩ h
            try dsimp only at h ⊢
            cases m1 with
            | zero => rw [law6_DepgraphOrdersRespectDependencies_l1] at h; cases h
            | succ m1 =>
              rw [law6_DepgraphOrdersRespectDependencies_l1] at h
              refine Ev.seq ?_
              refine Ev.seq ?_
              refine W.reg hm ?_
              refine W.mv rfl ?_
              refine W.mv rfl ?_
              refine W.lenL (c := (cL 1 cI)) rfl ?_
              refine W.lss rfl rfl ?_
              refine W.nil ?_
              refine Ev.cond rfl (fun c7 => ?_) (fun c7 => ?_)
              · replace h := iteT h c7
                refine Ev.skip ?_
                refine Ev.seq ?_
                refine Ev.block ?_
                refine Ev.seq ?_
                refine Ev.seqJ (γ := Bool) (fun v => ⟨[(0, .list 1 (List.map (cL 1 cI) a0)), (3, .list 1 (List.map cI r1.1)), (5, .list 1 (List.map cI r2.1)), (7, .int .i64 x6), (75, .bool v)], [], 2⟩) (fun v => law6_DepgraphOrdersRespectDependencies_j4 n a0 r1 r2 x6 (law6_DepgraphOrdersRespectDependencies_l1 n a0 r1 r2 m1) v = some r) ?_ ?_
                · refine W.reg hm ?_
                  refine W.mv rfl ?_
                  refine W.mv rfl ?_
                  obtain ⟨r26, k29, h⟩ := obind h
                  refine W.call (law6_position_spec n r1.1 x6 r26 k29) rfl rfl (Les.refl _) rfl (.inl rfl) rfl ?_
                  refine W.lss rfl rfl ?_
                  refine W.mv rfl ?_
                  refine W.split 61 rfl (fun c30 => ?_) (fun c30 => ?_)
                  · replace h := iteT h c30
                    refine W.guardF2 rfl c30 ?_
                    refine W.guardF2 rfl c30 ?_
                    refine W.guardF2 rfl c30 ?_
                    refine W.guardF2 rfl c30 ?_
                    refine W.guardF2 rfl c30 ?_
                    refine W.guardF2 rfl c30 ?_
                    refine W.guardF2 rfl c30 ?_
                    refine W.guardU rfl ?_
                    refine W.guardU rfl ?_
                    refine W.guardU rfl ?_
                    refine W.guardU rfl ?_
                    refine W.guardU rfl ?_
                    refine W.guardF2 rfl c30 ?_
                    refine W.pickT rfl rfl rfl c30 ?_
                    refine W.nil ?_
                    exact ⟨true, h, Wk.nrmTo [0, 3, 5, 7, 75] [] rfl rfl⟩
                  · replace h := iteF h c30
                    refine W.guardT rfl c30 ?_
                    refine W.mv rfl ?_
                    refine W.guardT rfl c30 ?_
                    refine W.mv rfl ?_
                    refine W.guardT rfl c30 ?_
                    obtain ⟨e27, k31, h⟩ := obind h
                    refine W.idxL (c := (cL 1 cI)) rfl rfl k31 ?_
                    refine W.guardT rfl c30 ?_
                    refine W.load rfl rfl ?_
                    refine W.guardT rfl c30 ?_
                    refine W.lenL (c := cI) rfl ?_
                    refine W.guardT rfl c30 ?_
                    refine W.eql rfl rfl ?_
                    refine W.guardT rfl c30 ?_
                    refine W.mv rfl ?_
                    refine W.split 68 rfl (fun c32 => ?_) (fun c32 => ?_)
                    · replace h := iteT h c32
                      refine W.guardT rfl c32 ?_
                      refine W.mv rfl ?_
                      refine W.guardT rfl c32 ?_
                      refine W.mv rfl ?_
                      refine W.guardT rfl c32 ?_
                      obtain ⟨e28, k33, h⟩ := obind h
                      refine W.idxL (c := cI) rfl rfl k33 ?_
                      refine W.guardT rfl c32 ?_
                      refine W.load rfl rfl ?_
                      refine W.guardT rfl c32 ?_
                      refine W.neq rfl rfl ?_
                      refine W.guardT rfl c30 ?_
                      refine W.pickT rfl rfl rfl c32 ?_
                      refine W.pickN rfl rfl rfl c30 ?_
                      refine W.nil ?_
                      exact ⟨(decide (e28 ≠ 0)), h, Wk.nrmTo [0, 3, 5, 7, 75] [] rfl rfl⟩
                    · replace h := iteF h c32
                      refine W.guardF1 rfl c32 ?_
                      refine W.guardF1 rfl c32 ?_
                      refine W.guardF1 rfl c32 ?_
                      refine W.guardF1 rfl c32 ?_
                      refine W.guardF1 rfl c32 ?_
                      refine W.guardT rfl c30 ?_
                      refine W.pickN rfl rfl rfl c32 ?_
                      refine W.pickN rfl rfl rfl c30 ?_
                      refine W.nil ?_
                      exact ⟨false, h, Wk.nrmTo [0, 3, 5, 7, 75] [] rfl rfl⟩
                · intro x7 h
                  try dsimp only at h ⊢
                  unfold law6_DepgraphOrdersRespectDependencies_j4 at h
                  refine Ev.cond rfl (fun c8 => ?_) (fun c8 => ?_)
                  · replace h := iteT h c8
                    refine Ev.seq ?_
                    refine W.reg hm ?_
                    refine W.mv rfl ?_
                    refine W.nil ?_
                    refine Ev.ret ?_
                    injection h with h; subst h
                    exact ⟨_, rfl, .refl _⟩
                  · replace h := iteF h c8
                    refine Ev.skip ?_
                    refine Ev.seq ?_
                    refine W.reg hm ?_
                    refine W.mv rfl ?_
                    refine W.nil ?_
                    refine Ev.seq ?_
                    refine Ev.seq ?_
                    refine W.reg hm ?_
                    refine W.mv rfl ?_
                    refine W.nil ?_
                    refine Ev.block ?_
                    refine Ev.loopW (β := Nat × Bool × Int) (fun v => ⟨[(0, .list 1 (List.map (cL 1 cI) a0)), (3, .list 1 (List.map cI r1.1)), (5, .list 1 (List.map cI r2.1)), (7, .int .i64 x6), (8, .bool v.2.1), (9, .int .i64 v.2.2)], [], 2⟩) (fun v => law6_DepgraphOrdersRespectDependencies_l2 n a0 r1 r2 x6 (law6_DepgraphOrdersRespectDependencies_l1 n a0 r1 r2 m1) v.1 v.2.1 v.2.2 = some r) (fun v => v.1) (n, false, 0) (Wk.nrmTo [0, 3, 5, 7, 8, 9] [] rfl rfl) h ?_
                    intro ⟨m2, x8, x9⟩ h
                    try dsimp only at h ⊢
                    cases m2 with
                    | zero => rw [law6_DepgraphOrdersRespectDependencies_l2] at h; cases h
                    | succ m2 =>
                      rw [law6_DepgraphOrdersRespectDependencies_l2] at h
                      refine Ev.seq ?_
                      refine Ev.seq ?_
                      refine W.reg hm ?_
                      refine W.mv rfl ?_
                      refine W.mv rfl ?_
                      refine W.mv rfl ?_
                      obtain ⟨e10, k9, h⟩ := obind h
                      refine W.idxL (c := (cL 1 cI)) rfl rfl k9 ?_
                      refine W.load rfl rfl ?_
                      refine W.lenL (c := cI) rfl ?_
                      refine W.lss rfl rfl ?_
                      refine W.nil ?_
                      refine Ev.cond rfl (fun c10 => ?_) (fun c10 => ?_)
                      · replace h := iteT h c10
                        refine Ev.skip ?_
                        refine Ev.seqJ (γ := Bool) (fun v => ⟨[(0, .list 1 (List.map (cL 1 cI) a0)), (3, .list 1 (List.map cI r1.1)), (5, .list 1 (List.map cI r2.1)), (7, .int .i64 x6), (8, .bool v), (9, .int .i64 x9)], [], 2⟩) (fun v => law6_DepgraphOrdersRespectDependencies_j5 n x9 (law6_DepgraphOrdersRespectDependencies_l2 n a0 r1 r2 x6 (law6_DepgraphOrdersRespectDependencies_l1 n a0 r1 r2 m1) m2) v = some r) ?_ ?_
                        · refine Ev.block ?_
                          refine Ev.seq ?_
                          refine W.reg hm ?_
                          refine W.mv rfl ?_
                          refine W.mv rfl ?_
                          refine W.idxL (c := (cL 1 cI)) rfl rfl k9 ?_
                          refine W.load rfl rfl ?_
                          refine W.mv rfl ?_
                          obtain ⟨e13, k12, h⟩ := obind h
                          refine W.idxL (c := cI) rfl rfl k12 ?_
                          refine W.load rfl rfl ?_
                          refine W.mv rfl ?_
                          refine W.nil ?_
                          refine Ev.seq ?_
                          refine Ev.seqJ (γ := Bool) (fun v => ⟨[(0, .list 1 (List.map (cL 1 cI) a0)), (3, .list 1 (List.map cI r1.1)), (5, .list 1 (List.map cI r2.1)), (7, .int .i64 x6), (8, .bool x8), (9, .int .i64 x9), (10, .int .i64 e13), (117, .bool v)], [], 2⟩) (fun v => law6_DepgraphOrdersRespectDependencies_j6 n r2 x6 x8 x9 (law6_DepgraphOrdersRespectDependencies_l2 n a0 r1 r2 x6 (law6_DepgraphOrdersRespectDependencies_l1 n a0 r1 r2 m1) m2) e13 v = some r) ?_ ?_
                          · refine W.regD hm ?_
                            refine W.mv rfl ?_
                            refine W.mv rfl ?_
                            refine W.lenL (c := cI) rfl ?_
                            obtain ⟨x18, k18, h⟩ := obind h
                            refine W.subG rfl rfl k18 ?_
                            obtain ⟨r19, k19, h⟩ := obind h
                            refine W.call (law6_in_spec n e13 0 x18 r19 k19) rfl rfl (Les.refl _) rfl (.inl rfl) rfl ?_
                            refine W.not rfl ?_
                            refine W.mv rfl ?_
                            refine W.split 98 rfl (fun c20 => ?_) (fun c20 => ?_)
                            · replace h := iteT h c20
                              refine W.guardF2 rfl c20 ?_
                              refine W.guardF2 rfl c20 ?_
                              refine W.guardF2 rfl c20 ?_
                              refine W.guardF2 rfl c20 ?_
                              refine W.guardF2 rfl c20 ?_
                              refine W.guardF2 rfl c20 ?_
                              refine W.guardF2 rfl c20 ?_
                              refine W.pickT rfl rfl rfl c20 ?_
                              refine W.mv rfl ?_
                              refine W.guardF2 rfl rfl ?_
                              refine W.guardF2 rfl rfl ?_
                              refine W.guardF2 rfl rfl ?_
                              refine W.guardF2 rfl rfl ?_
                              refine W.guardF2 rfl rfl ?_
                              refine W.guardF2 rfl rfl ?_
                              refine W.guardF2 rfl rfl ?_
                              refine W.guardF2 rfl rfl ?_
                              refine W.guardF2 rfl rfl ?_
                              refine W.pickT rfl rfl rfl rfl ?_
                              refine W.nil ⟨rfl, ?_⟩
                              exact ⟨true, h, Wk.nrmTo [0, 3, 5, 7, 8, 9, 10, 117] [] rfl rfl⟩
                            · replace h := iteF h c20
                              refine W.guardT rfl c20 ?_
                              refine W.mv rfl ?_
                              refine W.guardT rfl c20 ?_
                              refine W.mv rfl ?_
                              refine W.guardT rfl c20 ?_
                              obtain ⟨r20, k21, h⟩ := obind h
                              refine W.call (law6_position_spec n r1.1 e13 r20 k21) rfl rfl (Les.refl _) rfl (.inl rfl) rfl ?_
                              refine W.guardT rfl c20 ?_
                              refine W.mv rfl ?_
                              refine W.guardT rfl c20 ?_
                              refine W.mv rfl ?_
                              refine W.guardT rfl c20 ?_
                              obtain ⟨r21, k22, h⟩ := obind h
                              refine W.call (law6_position_spec n r1.1 x6 r21 k22) rfl rfl (Les.refl _) rfl (.inl rfl) rfl ?_
                              refine W.guardT rfl c20 ?_
                              refine W.geq rfl rfl ?_
                              refine W.pickN rfl rfl rfl c20 ?_
                              refine W.mv rfl ?_
                              refine W.split 107 rfl (fun c23 => ?_) (fun c23 => ?_)
                              · replace h := iteT h c23
                                refine W.guardF2 rfl c23 ?_
                                refine W.guardF2 rfl c23 ?_
                                refine W.guardF2 rfl c23 ?_
                                refine W.guardF2 rfl c23 ?_
                                refine W.guardF2 rfl c23 ?_
                                refine W.guardF2 rfl c23 ?_
                                refine W.guardF2 rfl c23 ?_
                                refine W.guardF2 rfl c23 ?_
                                refine W.guardF2 rfl c23 ?_
                                refine W.pickT rfl rfl rfl c23 ?_
                                refine W.nil ⟨rfl, ?_⟩
                                exact ⟨true, h, Wk.nrmTo [0, 3, 5, 7, 8, 9, 10, 117] [] rfl rfl⟩
                              · replace h := iteF h c23
                                refine W.guardT rfl c23 ?_
                                refine W.mv rfl ?_
                                refine W.guardT rfl c23 ?_
                                refine W.mv rfl ?_
                                refine W.guardT rfl c23 ?_
                                obtain ⟨e22, k24, h⟩ := obind h
                                refine W.idxL (c := cI) rfl rfl k24 ?_
                                refine W.guardT rfl c23 ?_
                                refine W.load rfl rfl ?_
                                refine W.guardT rfl c23 ?_
                                refine W.mv rfl ?_
                                refine W.guardT rfl c23 ?_
                                refine W.mv rfl ?_
                                refine W.guardT rfl c23 ?_
                                obtain ⟨e23, k25, h⟩ := obind h
                                refine W.idxL (c := cI) rfl rfl k25 ?_
                                refine W.guardT rfl c23 ?_
                                refine W.load rfl rfl ?_
                                refine W.guardT rfl c23 ?_
                                refine W.geq rfl rfl ?_
                                refine W.pickN rfl rfl rfl c23 ?_
                                refine W.nil ⟨rfl, ?_⟩
                                exact ⟨(decide (e23 ≤ e22)), h, Wk.nrmTo [0, 3, 5, 7, 8, 9, 10, 117] [] rfl rfl⟩
                          · intro x14 h
                            try dsimp only at h ⊢
                            unfold law6_DepgraphOrdersRespectDependencies_j6 at h
                            refine Ev.cond rfl (fun c13 => ?_) (fun c13 => ?_)
                            · replace h := iteT h c13
                              refine Ev.seq ?_
                              refine W.reg hm ?_
                              refine W.mv rfl ?_
                              refine W.nil ?_
                              refine Ev.ret ?_
                              injection h with h; subst h
                              exact ⟨_, rfl, .refl _⟩
                            · replace h := iteF h c13
                              refine Ev.skip ?_
                              refine W.regD hm ?_
                              refine W.mv rfl ?_
                              refine W.mv rfl ?_
                              refine W.split 119 rfl (fun c14 => ?_) (fun c14 => ?_)
                              · replace h := iteT h c14
                                refine W.guardF2 rfl c14 ?_
                                refine W.guardF2 rfl c14 ?_
                                refine W.guardF2 rfl c14 ?_
                                refine W.guardF2 rfl c14 ?_
                                refine W.guardF2 rfl c14 ?_
                                refine W.guardF2 rfl c14 ?_
                                refine W.guardF2 rfl c14 ?_
                                refine W.guardF2 rfl c14 ?_
                                refine W.guardF2 rfl c14 ?_
                                refine W.guardF2 rfl c14 ?_
                                refine W.pickT rfl rfl rfl c14 ?_
                                refine W.mv rfl ?_
                                refine W.nil ⟨rfl, ?_⟩
                                exact ⟨true, h, Wk.nrmTo [0, 3, 5, 7, 8, 9] [] rfl rfl⟩
                              · replace h := iteF h c14
                                refine W.guardT rfl c14 ?_
                                refine W.mv rfl ?_
                                refine W.guardT rfl c14 ?_
                                refine W.mv rfl ?_
                                refine W.guardT rfl c14 ?_
                                obtain ⟨e15, k15, h⟩ := obind h
                                refine W.idxL (c := cI) rfl rfl k15 ?_
                                refine W.guardT rfl c14 ?_
                                refine W.load rfl rfl ?_
                                refine W.guardT rfl c14 ?_
                                refine W.mv rfl ?_
                                refine W.guardT rfl c14 ?_
                                refine W.mv rfl ?_
                                refine W.guardT rfl c14 ?_
                                obtain ⟨e16, k16, h⟩ := obind h
                                refine W.idxL (c := cI) rfl rfl k16 ?_
                                refine W.guardT rfl c14 ?_
                                refine W.load rfl rfl ?_
                                refine W.guardT rfl c14 ?_
                                obtain ⟨x17, k17, h⟩ := obind h
                                refine W.subG rfl rfl k17 ?_
                                refine W.guardT rfl c14 ?_
                                refine W.eql rfl rfl ?_
                                refine W.pickN rfl rfl rfl c14 ?_
                                refine W.mv rfl ?_
                                refine W.nil ⟨rfl, ?_⟩
                                exact ⟨(decide (e15 = x17)), h, Wk.nrmTo [0, 3, 5, 7, 8, 9] [] rfl rfl⟩
                        · intro x11 h
                          try dsimp only at h ⊢
                          unfold law6_DepgraphOrdersRespectDependencies_j5 at h
                          refine W.reg hm ?_
                          refine W.mv rfl ?_
                          obtain ⟨x12, k11, h⟩ := obind h
                          refine W.addG rfl rfl k11 ?_
                          refine W.mv rfl ?_
                          refine W.nil ?_
                          exact ⟨(m2, x11, x12), h, Nat.lt_succ_self _, Wk.nrmTo [0, 3, 5, 7, 8, 9] [] rfl rfl⟩
                      · replace h := iteF h c10
                        refine Ev.exit ?_
                        refine Ev.seqJ (γ := Bool) (fun v => ⟨[(0, .list 1 (List.map (cL 1 cI) a0)), (3, .list 1 (List.map cI r1.1)), (5, .list 1 (List.map cI r2.1)), (7, .int .i64 x6), (140, .bool v)], [], 2⟩) (fun v => law6_DepgraphOrdersRespectDependencies_j7 n x6 (law6_DepgraphOrdersRespectDependencies_l1 n a0 r1 r2 m1) v = some r) ?_ ?_
                        · refine W.reg hm ?_
                          refine W.mv rfl ?_
                          refine W.mv rfl ?_
                          refine W.idxL (c := (cL 1 cI)) rfl rfl k9 ?_
                          refine W.load rfl rfl ?_
                          refine W.lenL (c := cI) rfl ?_
                          refine W.gtr rfl rfl ?_
                          refine W.mv rfl ?_
                          refine W.split 137 rfl (fun c28 => ?_) (fun c28 => ?_)
                          · replace h := iteT h c28
                            refine W.guardT rfl c28 ?_
                            refine W.mv rfl ?_
                            refine W.guardT rfl c28 ?_
                            refine W.not rfl ?_
                            refine W.pickT rfl rfl rfl c28 ?_
                            refine W.nil ?_
                            exact ⟨(!x8), h, Wk.nrmTo [0, 3, 5, 7, 140] [] rfl rfl⟩
                          · replace h := iteF h c28
                            refine W.guardF1 rfl c28 ?_
                            refine W.guardF1 rfl c28 ?_
                            refine W.pickN rfl rfl rfl c28 ?_
                            refine W.nil ?_
                            exact ⟨false, h, Wk.nrmTo [0, 3, 5, 7, 140] [] rfl rfl⟩
                        · intro x24 h
                          try dsimp only at h ⊢
                          unfold law6_DepgraphOrdersRespectDependencies_j7 at h
                          refine Ev.cond rfl (fun c26 => ?_) (fun c26 => ?_)
                          · replace h := iteT h c26
                            refine Ev.seq ?_
                            refine W.reg hm ?_
                            refine W.mv rfl ?_
                            refine W.nil ?_
                            refine Ev.ret ?_
                            injection h with h; subst h
                            exact ⟨_, rfl, .refl _⟩
                          · replace h := iteF h c26
                            refine Ev.skip ?_
                            refine W.reg hm ?_
                            refine W.mv rfl ?_
                            obtain ⟨x25, k27, h⟩ := obind h
                            refine W.addG rfl rfl k27 ?_
                            refine W.mv rfl ?_
                            refine W.nil ?_
                            exact ⟨(m1, x25), h, Nat.lt_succ_self _, Wk.nrmTo [0, 3, 5, 7] [] rfl rfl⟩
              · replace h := iteF h c7
                refine Ev.exit ?_
                refine Ev.seq ?_
                refine W.reg hm ?_
                refine W.mv rfl ?_
                refine W.nil ?_
                refine Ev.ret ?_
                injection h with h; subst h
                exact ⟨_, rfl, .refl _⟩

set_option maxHeartbeats 4000000 in
theorem law6_DepgraphCyclesExplainFailures_spec (n : Nat) (a0 : List (List Int)) (r : Bool) (h : law6_DepgraphCyclesExplainFailures n a0 = some r) : PSpec Try.prog 6 [.list 1 (List.map (cL 1 cI) a0)] (.bool r) := by
  unfold law6_DepgraphCyclesExplainFailures at h
  refine spec_of Try.c_law6_DepgraphCyclesExplainFailures (by simp) ?_
  unfold Try.l_law6_DepgraphCyclesExplainFailures
  refine Ev.seq ?_
  refine W.reg hm ?_
  refine W.mv rfl ?_
  refine W.nil ?_
  refine Ev.seq ?_
  refine W.reg hm ?_
  refine W.mv rfl ?_
  obtain ⟨r1, k1, h⟩ := obind h
  refine W.call (depgraph_Order_spec n a0 r1 k1) rfl rfl (Les.refl _) rfl (.inl rfl) rfl ?_
  refine W.mv rfl ?_
  refine W.extract rfl rfl ?_
  refine W.extract rfl rfl ?_
  refine W.alloc (dt := true) rfl rfl rfl ?_
  refine W.mv rfl ?_
  refine W.store (es' := [[.int .i64 r1.2.Code, .int .i64 r1.2.Index]]) (dt := true) rfl rfl rfl rfl rfl (Nat.le_of_ble_eq_true rfl) rfl rfl rfl rfl ?_
  refine W.nil ?_
  refine Ev.seq ?_
  refine W.reg hm ?_
  refine W.mv rfl ?_
  obtain ⟨r2, k2, h⟩ := obind h
  refine W.call (depgraph_Cycle_spec n a0 r2 k2) rfl rfl (Les.refl _) rfl (.inl rfl) rfl ?_
  refine W.mv rfl ?_
  refine W.extract rfl rfl ?_
  refine W.extract rfl rfl ?_
  refine W.extract rfl rfl ?_
  refine W.alloc (dt := true) rfl rfl rfl ?_
  refine W.mv rfl ?_
  refine W.mv rfl ?_
  refine W.store (es' := [[.int .i64 r2.2.2.Code, .int .i64 r2.2.2.Index]]) (dt := true) rfl rfl rfl rfl rfl (Nat.le_of_ble_eq_true rfl) rfl rfl rfl rfl ?_
  refine W.nil ?_
  refine Ev.seq ?_
  refine Ev.seqJ (γ := Bool) (fun v => ⟨[(0, .list 1 (List.map (cL 1 cI) a0)), (4, .pown 10100 0 0 0), (5, .list 1 (List.map cI r2.1)), (6, .bool r2.2.1), (7, .pown 10101 0 0 0), (26, .bool v)], [(10100, ⟨0, 25, 2, [[.int .i64 r1.2.Code, .int .i64 r1.2.Index]], true, false, false⟩), (10101, ⟨0, 25, 2, [[.int .i64 r2.2.2.Code, .int .i64 r2.2.2.Index]], true, false, false⟩)], 2⟩) (fun v => law6_DepgraphCyclesExplainFailures_j1 n a0 r1 r2 v = some r) ?_ ?_
  · refine W.reg hm ?_
    obtain ⟨r24, k31, h⟩ := obind h
    refine W.call (law6_graphs_spec n r24 k31) rfl rfl (Les.refl _) rfl (.inl rfl) rfl ?_
    refine W.not rfl ?_
    refine W.mv rfl ?_
    refine W.split 22 rfl (fun c32 => ?_) (fun c32 => ?_)
    · replace h := iteT h c32
      refine W.guardF2 rfl c32 ?_
      refine W.guardF2 rfl c32 ?_
      refine W.guardF2 rfl c32 ?_
      refine W.pickT rfl rfl rfl c32 ?_
      refine W.nil ?_
      exact ⟨true, h, Wk.nrmTo [0, 4, 5, 6, 7, 26] [(4, 10100), (7, 10101)] rfl rfl⟩
    · replace h := iteF h c32
      refine W.guardT rfl c32 ?_
      refine W.fieldAddrO rfl rfl ?_
      refine W.guardT rfl c32 ?_
      refine W.loadO (p := .int .i64 r2.2.2.Code) rfl rfl rfl rfl ?_
      refine W.guardT rfl c32 ?_
      refine W.neq rfl rfl ?_
      refine W.pickN rfl rfl rfl c32 ?_
      refine W.nil ?_
      exact ⟨(decide (r2.2.2.Code ≠ 0)), h, Wk.nrmTo [0, 4, 5, 6, 7, 26] [(4, 10100), (7, 10101)] rfl rfl⟩
  · intro x3 h
    try dsimp only at h ⊢
    unfold law6_DepgraphCyclesExplainFailures_j1 at h
    refine Ev.cond rfl (fun c3 => ?_) (fun c3 => ?_)
    · replace h := iteT h c3
      refine Ev.seqJ (γ := Bool) (fun v => ⟨[(2, .bool v)], [], 2⟩) (fun v => law6_DepgraphCyclesExplainFailures_j2 n v = some r) ?_ ?_
      · refine W.reg hm ?_
        obtain ⟨r5, k4, h⟩ := obind h
        refine W.call (law6_graphs_spec n r5 k4) rfl rfl (Les.refl _) rfl (.inl rfl) rfl ?_
        refine W.mv rfl ?_
        refine W.split 28 rfl (fun c5 => ?_) (fun c5 => ?_)
        · replace h := iteT h c5
          refine W.guardT rfl c5 ?_
          refine W.mv rfl ?_
          refine W.guardT rfl c5 ?_
          refine W.not rfl ?_
          refine W.pickT rfl rfl rfl c5 ?_
          refine W.mv rfl ?_
          refine W.split 32 rfl (fun c6 => ?_) (fun c6 => ?_)
          · replace h := iteT h c6
            refine W.guardT rfl c6 ?_
            refine W.mv rfl ?_
            refine W.guardT rfl c6 ?_
            refine W.lenL (c := cI) rfl ?_
            refine W.guardT rfl c6 ?_
            refine W.eql rfl rfl ?_
            refine W.pickT rfl rfl rfl c6 ?_
            refine W.mv rfl ?_
            refine W.split 37 rfl (fun c7 => ?_) (fun c7 => ?_)
            · replace h := iteT h c7
              refine W.guardT rfl c7 ?_
              refine W.loadO (p := .agg [.int .i64 r1.2.Code, .int .i64 r1.2.Index]) rfl rfl rfl rfl ?_
              refine W.guardT rfl c7 ?_
              refine W.loadO (p := .agg [.int .i64 r2.2.2.Code, .int .i64 r2.2.2.Index]) rfl rfl rfl rfl ?_
              refine W.guardT rfl c7 ?_
              refine W.eqs rfl rfl rfl ?_
              refine W.pickT rfl rfl rfl c7 ?_
              refine W.mv rfl ?_
              refine W.nil ?_
              exact ⟨((r1.2.Code == r2.2.2.Code && (r1.2.Index == r2.2.2.Index && true)) != false), h, Wk.nrmTo [2] [] rfl rfl⟩
            · replace h := iteF h c7
              refine W.guardF1 rfl c7 ?_
              refine W.guardF1 rfl c7 ?_
              refine W.guardF1 rfl c7 ?_
              refine W.pickN rfl rfl rfl c7 ?_
              refine W.mv rfl ?_
              refine W.nil ?_
              exact ⟨false, h, Wk.nrmTo [2] [] rfl rfl⟩
          · replace h := iteF h c6
            refine W.guardF1 rfl c6 ?_
            refine W.guardF1 rfl c6 ?_
            refine W.guardF1 rfl c6 ?_
            refine W.pickN rfl rfl rfl c6 ?_
            refine W.mv rfl ?_
            refine W.guardF1 rfl rfl ?_
            refine W.guardF1 rfl rfl ?_
            refine W.guardF1 rfl rfl ?_
            refine W.pickN rfl rfl rfl rfl ?_
            refine W.mv rfl ?_
            refine W.nil ?_
            exact ⟨false, h, Wk.nrmTo [2] [] rfl rfl⟩
        · replace h := iteF h c5
          refine W.guardF1 rfl c5 ?_
          refine W.guardF1 rfl c5 ?_
          refine W.pickN rfl rfl rfl c5 ?_
          refine W.mv rfl ?_
          refine W.guardF1 rfl rfl ?_
          refine W.guardF1 rfl rfl ?_
          refine W.guardF1 rfl rfl ?_
          refine W.pickN rfl rfl rfl rfl ?_
          refine W.mv rfl ?_
          refine W.guardF1 rfl rfl ?_
          refine W.guardF1 rfl rfl ?_
          refine W.guardF1 rfl rfl ?_
          refine W.pickN rfl rfl rfl rfl ?_
          refine W.mv rfl ?_
          refine W.nil ?_
          exact ⟨false, h, Wk.nrmTo [2] [] rfl rfl⟩
      · intro x4 h
        try dsimp only at h ⊢
        unfold law6_DepgraphCyclesExplainFailures_j2 at h
        refine Ev.ret ?_
        injection h with h; subst h
        exact ⟨_, rfl, .refl _⟩
    · replace h := iteF h c3
      refine Ev.skip ?_
      refine Ev.seq ?_
      refine Ev.seq ?_
      refine W.reg hm ?_
      refine W.mv rfl ?_
      refine W.not rfl ?_
      refine W.nil ?_
      refine Ev.cond rfl (fun c8 => ?_) (fun c8 => ?_)
      · replace h := iteT h c8
        refine Ev.seqJ (γ := Bool) (fun v => ⟨[(2, .bool v)], [], 2⟩) (fun v => law6_DepgraphCyclesExplainFailures_j3 n v = some r) ?_ ?_
        · refine W.reg hm ?_
          refine W.fieldAddrO rfl rfl ?_
          refine W.loadO (p := .int .i64 r1.2.Code) rfl rfl rfl rfl ?_
          refine W.eql rfl rfl ?_
          refine W.mv rfl ?_
          refine W.split 47 rfl (fun c9 => ?_) (fun c9 => ?_)
          · replace h := iteT h c9
            refine W.guardT rfl c9 ?_
            refine W.mv rfl ?_
            refine W.guardT rfl c9 ?_
            refine W.lenL (c := cI) rfl ?_
            refine W.guardT rfl c9 ?_
            refine W.eql rfl rfl ?_
            refine W.pickT rfl rfl rfl c9 ?_
            refine W.mv rfl ?_
            refine W.nil ?_
            exact ⟨(decide ((r2.1.length : Int) = 0)), h, Wk.nrmTo [2] [] rfl rfl⟩
          · replace h := iteF h c9
            refine W.guardF1 rfl c9 ?_
            refine W.guardF1 rfl c9 ?_
            refine W.guardF1 rfl c9 ?_
            refine W.pickN rfl rfl rfl c9 ?_
            refine W.mv rfl ?_
            refine W.nil ?_
            exact ⟨false, h, Wk.nrmTo [2] [] rfl rfl⟩
        · intro x6 h
          try dsimp only at h ⊢
          unfold law6_DepgraphCyclesExplainFailures_j3 at h
          refine Ev.ret ?_
          injection h with h; subst h
          exact ⟨_, rfl, .refl _⟩
      · replace h := iteF h c8
        refine Ev.skip ?_
        refine Ev.seq ?_
        refine Ev.seqJ (γ := Bool) (fun v => ⟨[(0, .list 1 (List.map (cL 1 cI) a0)), (5, .list 1 (List.map cI r2.1)), (62, .bool v)], [], 2⟩) (fun v => law6_DepgraphCyclesExplainFailures_j4 n a0 r2 v = some r) ?_ ?_
        · refine W.regD hm ?_
          refine W.mv rfl ?_
          refine W.lenL (c := cI) rfl ?_
          refine W.eql rfl rfl ?_
          refine W.mv rfl ?_
          refine W.split 55 rfl (fun c28 => ?_) (fun c28 => ?_)
          · replace h := iteT h c28
            refine W.guardF2 rfl c28 ?_
            refine W.guardF2 rfl c28 ?_
            refine W.guardF2 rfl c28 ?_
            refine W.guardF2 rfl c28 ?_
            refine W.guardF2 rfl c28 ?_
            refine W.guardF2 rfl c28 ?_
            refine W.pickT rfl rfl rfl c28 ?_
            refine W.nil ⟨rfl, ?_⟩
            exact ⟨true, h, Wk.nrmTo [0, 5, 62] [] rfl rfl⟩
          · replace h := iteF h c28
            refine W.guardT rfl c28 ?_
            refine W.loadO (p := .agg [.int .i64 r1.2.Code, .int .i64 r1.2.Index]) rfl rfl rfl rfl ?_
            refine W.guardT rfl c28 ?_
            refine W.mv rfl ?_
            refine W.guardT rfl c28 ?_
            obtain ⟨e22, k29, h⟩ := obind h
            refine W.idxL (c := cI) rfl rfl k29 ?_
            refine W.guardT rfl c28 ?_
            refine W.load rfl rfl ?_
            refine W.guardT rfl c28 ?_
            obtain ⟨r23, k30, h⟩ := obind h
            refine W.call (law6_fault_spec n 20 e22 r23 k30) rfl rfl (Les.refl _) rfl (.inl rfl) rfl ?_
            refine W.guardT rfl c28 ?_
            refine W.eqs rfl rfl rfl ?_
            refine W.pickN rfl rfl rfl c28 ?_
            refine W.nil ⟨rfl, ?_⟩
            exact ⟨((r1.2.Code == r23.Code && (r1.2.Index == r23.Index && true)) != true), h, Wk.nrmTo [0, 5, 62] [] rfl rfl⟩
        · intro x7 h
          try dsimp only at h ⊢
          unfold law6_DepgraphCyclesExplainFailures_j4 at h
          refine Ev.cond rfl (fun c10 => ?_) (fun c10 => ?_)
          · replace h := iteT h c10
            refine Ev.seq ?_
            refine W.reg hm ?_
            refine W.mv rfl ?_
            refine W.nil ?_
            refine Ev.ret ?_
            injection h with h; subst h
            exact ⟨_, rfl, .refl _⟩
          · replace h := iteF h c10
            refine Ev.skip ?_
            refine Ev.seq ?_
            refine Ev.seq ?_
            refine W.reg hm ?_
            refine W.mv rfl ?_
            refine W.nil ?_
            refine Ev.block ?_
            refine Ev.loopW (β := Nat × Int) (fun v => ⟨[(0, .list 1 (List.map (cL 1 cI) a0)), (5, .list 1 (List.map cI r2.1)), (8, .int .i64 v.2)], [], 2⟩) (fun v => law6_DepgraphCyclesExplainFailures_l1 n a0 r2 v.1 v.2 = some r) (fun v => v.1) (n, 0) (Wk.nrmTo [0, 5, 8] [] rfl rfl) h ?_
            intro ⟨m1, x8⟩ h
            try dsimp only at h ⊢
            cases m1 with
            | zero => rw [law6_DepgraphCyclesExplainFailures_l1] at h; cases h
            | succ m1 =>
              rw [law6_DepgraphCyclesExplainFailures_l1] at h
              refine Ev.seq ?_
              refine Ev.seq ?_
              refine W.reg hm ?_
              refine W.mv rfl ?_
              refine W.mv rfl ?_
              refine W.lenL (c := cI) rfl ?_
              refine W.lss rfl rfl ?_
              refine W.nil ?_
              refine Ev.cond rfl (fun c11 => ?_) (fun c11 => ?_)
              · replace h := iteT h c11
                refine Ev.skip ?_
                refine Ev.seq ?_
                refine Ev.block ?_
                refine Ev.seq ?_
                refine Ev.seqJ (γ := Bool) (fun v => ⟨[(0, .list 1 (List.map (cL 1 cI) a0)), (5, .list 1 (List.map cI r2.1)), (8, .int .i64 x8), (97, .bool v)], [], 2⟩) (fun v => law6_DepgraphCyclesExplainFailures_j5 n a0 r2 x8 (law6_DepgraphCyclesExplainFailures_l1 n a0 r2 m1) v = some r) ?_ ?_
                · refine W.regD hm ?_
                  refine W.mv rfl ?_
                  refine W.mv rfl ?_
                  obtain ⟨e17, k21, h⟩ := obind h
                  refine W.idxL (c := cI) rfl rfl k21 ?_
                  refine W.load rfl rfl ?_
                  refine W.mv rfl ?_
                  refine W.lenL (c := (cL 1 cI)) rfl ?_
                  obtain ⟨x18, k22, h⟩ := obind h
                  refine W.subG rfl rfl k22 ?_
                  obtain ⟨r19, k23, h⟩ := obind h
                  refine W.call (law6_in_spec n e17 0 x18 r19 k23) rfl rfl (Les.refl _) rfl (.inl rfl) rfl ?_
                  refine W.not rfl ?_
                  refine W.mv rfl ?_
                  refine W.split 78 rfl (fun c24 => ?_) (fun c24 => ?_)
                  · replace h := iteT h c24
                    refine W.guardF2 rfl c24 ?_
                    refine W.guardF2 rfl c24 ?_
                    refine W.guardF2 rfl c24 ?_
                    refine W.guardF2 rfl c24 ?_
                    refine W.guardF2 rfl c24 ?_
                    refine W.guardF2 rfl c24 ?_
                    refine W.guardF2 rfl c24 ?_
                    refine W.guardF2 rfl c24 ?_
                    refine W.pickT rfl rfl rfl c24 ?_
                    refine W.mv rfl ?_
                    refine W.guardF2 rfl rfl ?_
                    refine W.guardF2 rfl rfl ?_
                    refine W.guardF2 rfl rfl ?_
                    refine W.guardF2 rfl rfl ?_
                    refine W.guardF2 rfl rfl ?_
                    refine W.guardF2 rfl rfl ?_
                    refine W.guardF2 rfl rfl ?_
                    refine W.guardF2 rfl rfl ?_
                    refine W.pickT rfl rfl rfl rfl ?_
                    refine W.nil ⟨rfl, ?_⟩
                    exact ⟨true, h, Wk.nrmTo [0, 5, 8, 97] [] rfl rfl⟩
                  · replace h := iteF h c24
                    refine W.guardT rfl c24 ?_
                    refine W.mv rfl ?_
                    refine W.guardT rfl c24 ?_
                    refine W.mv rfl ?_
                    refine W.guardT rfl c24 ?_
                    refine W.mv rfl ?_
                    refine W.guardT rfl c24 ?_
                    refine W.idxL (c := cI) rfl rfl k21 ?_
                    refine W.guardT rfl c24 ?_
                    refine W.load rfl rfl ?_
                    refine W.guardT rfl c24 ?_
                    obtain ⟨r20, k25, h⟩ := obind h
                    refine W.call (law6_position_spec n r2.1 e17 r20 k25) rfl rfl (Les.refl _) rfl (.inl rfl) rfl ?_
                    refine W.guardT rfl c24 ?_
                    refine W.mv rfl ?_
                    refine W.guardT rfl c24 ?_
                    refine W.neq rfl rfl ?_
                    refine W.pickN rfl rfl rfl c24 ?_
                    refine W.mv rfl ?_
                    refine W.split 88 rfl (fun c26 => ?_) (fun c26 => ?_)
                    · replace h := iteT h c26
                      refine W.guardF2 rfl c26 ?_
                      refine W.guardF2 rfl c26 ?_
                      refine W.guardF2 rfl c26 ?_
                      refine W.guardF2 rfl c26 ?_
                      refine W.guardF2 rfl c26 ?_
                      refine W.guardF2 rfl c26 ?_
                      refine W.guardF2 rfl c26 ?_
                      refine W.guardF2 rfl c26 ?_
                      refine W.pickT rfl rfl rfl c26 ?_
                      refine W.nil ⟨rfl, ?_⟩
                      exact ⟨true, h, Wk.nrmTo [0, 5, 8, 97] [] rfl rfl⟩
                    · replace h := iteF h c26
                      refine W.guardT rfl c26 ?_
                      refine W.mv rfl ?_
                      refine W.guardT rfl c26 ?_
                      refine W.mv rfl ?_
                      refine W.guardT rfl c26 ?_
                      refine W.idxL (c := cI) rfl rfl k21 ?_
                      refine W.guardT rfl c26 ?_
                      refine W.load rfl rfl ?_
                      refine W.guardT rfl c26 ?_
                      refine W.mv rfl ?_
                      refine W.guardT rfl c26 ?_
                      obtain ⟨e21, k27, h⟩ := obind h
                      refine W.idxL (c := cI) rfl rfl k27 ?_
                      refine W.guardT rfl c26 ?_
                      refine W.load rfl rfl ?_
                      refine W.guardT rfl c26 ?_
                      refine W.lss rfl rfl ?_
                      refine W.pickN rfl rfl rfl c26 ?_
                      refine W.nil ⟨rfl, ?_⟩
                      exact ⟨(decide (e17 < e21)), h, Wk.nrmTo [0, 5, 8, 97] [] rfl rfl⟩
                · intro x9 h
                  try dsimp only at h ⊢
                  unfold law6_DepgraphCyclesExplainFailures_j5 at h
                  refine Ev.cond rfl (fun c12 => ?_) (fun c12 => ?_)
                  · replace h := iteT h c12
                    refine Ev.seq ?_
                    refine W.reg hm ?_
                    refine W.mv rfl ?_
                    refine W.nil ?_
                    refine Ev.ret ?_
                    injection h with h; subst h
                    exact ⟨_, rfl, .refl _⟩
                  · replace h := iteF h c12
                    refine Ev.skip ?_
                    refine Ev.seq ?_
                    refine W.regD hm ?_
                    refine W.mv rfl ?_
                    refine W.mv rfl ?_
                    refine W.mv rfl ?_
                    obtain ⟨e10, k13, h⟩ := obind h
                    refine W.idxL (c := cI) rfl rfl k13 ?_
                    refine W.load rfl rfl ?_
                    obtain ⟨e11, k14, h⟩ := obind h
                    refine W.idxL (c := (cL 1 cI)) rfl rfl k14 ?_
                    refine W.load rfl rfl ?_
                    refine W.mv rfl ?_
                    refine W.mv rfl ?_
                    obtain ⟨x12, k15, h⟩ := obind h
                    refine W.addG rfl rfl k15 ?_
                    refine W.mv rfl ?_
                    refine W.lenL (c := cI) rfl ?_
                    obtain ⟨x13, k16, h⟩ := obind h
                    refine W.remG rfl rfl k16 ?_
                    obtain ⟨e14, k17, h⟩ := obind h
                    refine W.idxL (c := cI) rfl rfl k17 ?_
                    refine W.load rfl rfl ?_
                    obtain ⟨r15, k18, h⟩ := obind h
                    refine W.call (ref5_Has_spec n e11 e14 r15 k18) rfl rfl (Les.refl _) rfl (.inl rfl) rfl ?_
                    refine W.not rfl ?_
                    refine W.nil ⟨rfl, ?_⟩
                    refine Ev.cond rfl (fun c19 => ?_) (fun c19 => ?_)
                    · replace h := iteT h c19
                      refine Ev.seq ?_
                      refine W.reg hm ?_
                      refine W.mv rfl ?_
                      refine W.nil ?_
                      refine Ev.ret ?_
                      injection h with h; subst h
                      exact ⟨_, rfl, .refl _⟩
                    · replace h := iteF h c19
                      refine Ev.skip ?_
                      refine W.reg hm ?_
                      refine W.mv rfl ?_
                      obtain ⟨x16, k20, h⟩ := obind h
                      refine W.addG rfl rfl k20 ?_
                      refine W.mv rfl ?_
                      refine W.nil ?_
                      exact ⟨(m1, x16), h, Nat.lt_succ_self _, Wk.nrmTo [0, 5, 8] [] rfl rfl⟩
              · replace h := iteF h c11
                refine Ev.exit ?_
                refine Ev.seq ?_
                refine W.reg hm ?_
                refine W.mv rfl ?_
                refine W.nil ?_
                refine Ev.ret ?_
                injection h with h; subst h
                exact ⟨_, rfl, .refl _⟩

theorem law6_joined_spec (n : Nat) (a0 : List Int) (a1 : List Int) (r : (List Int)) (h : law6_joined n a0 a1 = some r) : PSpec Try.prog 27 [.list 1 (List.map cI a0), .list 1 (List.map cI a1)] (.list 1 (List.map cI r)) := by
  unfold law6_joined at h
  refine spec_of Try.c_law6_joined (by simp) ?_
  unfold Try.l_law6_joined
  refine Ev.seq ?_
  refine W.reg hm ?_
  refine W.mv rfl ?_
  refine W.nil ?_
  refine Ev.seq ?_
  refine W.reg hm ?_
  refine W.mv rfl ?_
  refine W.nil ?_
  refine Ev.seq ?_
  refine Ev.seq ?_
  refine W.reg hm ?_
  refine W.mv rfl ?_
  refine W.nil ?_
  refine Ev.block ?_
  refine Ev.loopW (β := Nat × (List Int) × Int) (fun v => ⟨[(0, .list 1 (List.map cI a0)), (1, .list 1 (List.map cI a1)), (5, .own 10100 0), (6, .int .i64 v.2.2)], [(10100, ⟨0, 3, 1, List.map cI v.2.1, true, false, false⟩)], 2⟩) (fun v => law6_joined_l1 n a0 a1 v.1 v.2.1 v.2.2 = some r) (fun v => v.1) (n, ([] : List Int), 0) ((Wk.ownNil 5 30100 3 1 rfl rfl true).trans (Wk.nrmTo [0, 1, 5, 6] [(30100, 10100)] rfl rfl)) h ?_
  intro ⟨m1, w1, x2⟩ h
  try dsimp only at h ⊢
  cases m1 with
  | zero => rw [law6_joined_l1] at h; cases h
  | succ m1 =>
    rw [law6_joined_l1] at h
    refine Ev.seq ?_
    refine Ev.seq ?_
    refine W.reg hm ?_
    refine W.mv rfl ?_
    refine W.lss rfl rfl ?_
    refine W.nil ?_
    refine Ev.cond rfl (fun c1 => ?_) (fun c1 => ?_)
    · replace h := iteT h c1
      refine Ev.skip ?_
      refine Ev.seqJ (γ := List Int) (fun v => ⟨[(0, .list 1 (List.map cI a0)), (1, .list 1 (List.map cI a1)), (5, .own 10200 0), (6, .int .i64 x2)], [(10200, ⟨0, 3, 1, List.map cI v, true, false, false⟩)], 2⟩) (fun v => law6_joined_j1 n x2 (law6_joined_l1 n a0 a1 m1) v = some r) ?_ ?_
      · refine Ev.block ?_
        refine Ev.seqJ (γ := Bool) (fun v => ⟨[(0, .list 1 (List.map cI a0)), (1, .list 1 (List.map cI a1)), (5, .own 10300 0), (6, .int .i64 x2), (18, .bool v)], [(10300, ⟨0, 3, 1, List.map cI w1, true, false, false⟩)], 2⟩) (fun v => law6_joined_j2 n w1 x2 (law6_joined_l1 n a0 a1 m1) v = some r) ?_ ?_
        · refine W.reg hm ?_
          refine W.mv rfl ?_
          refine W.mv rfl ?_
          obtain ⟨r7, k5, h⟩ := obind h
          refine W.call (ref5_Has_spec n a0 x2 r7 k5) rfl rfl (Les.refl _) rfl (.inl rfl) rfl ?_
          refine W.mv rfl ?_
          refine W.split 14 rfl (fun c6 => ?_) (fun c6 => ?_)
          · replace h := iteT h c6
            refine W.guardF2 rfl c6 ?_
            refine W.guardF2 rfl c6 ?_
            refine W.guardF2 rfl c6 ?_
            refine W.pickT rfl rfl rfl c6 ?_
            refine W.nil ?_
            exact ⟨true, h, Wk.nrmTo [0, 1, 5, 6, 18] [(10100, 10300)] rfl rfl⟩
          · replace h := iteF h c6
            refine W.guardT rfl c6 ?_
            refine W.mv rfl ?_
            refine W.guardT rfl c6 ?_
            refine W.mv rfl ?_
            refine W.guardT rfl c6 ?_
            obtain ⟨r8, k7, h⟩ := obind h
            refine W.call (ref5_Has_spec n a1 x2 r8 k7) rfl rfl (Les.refl _) rfl (.inl rfl) rfl ?_
            refine W.pickN rfl rfl rfl c6 ?_
            refine W.nil ?_
            exact ⟨r8, h, Wk.nrmTo [0, 1, 5, 6, 18] [(10100, 10300)] rfl rfl⟩
        · intro x5 h
          try dsimp only at h ⊢
          unfold law6_joined_j2 at h
          refine Ev.cond rfl (fun c3 => ?_) (fun c3 => ?_)
          · replace h := iteT h c3
            refine W.reg hm ?_
            refine W.mv rfl ?_
            refine W.mv rfl ?_
            refine W.mkSlice (dt := true) (es := [[.int .i64 x2]]) rfl rfl rfl rfl rfl rfl ?_
            obtain ⟨w6, k4, h⟩ := obind h
            refine W.appR true (l := w1) (c := cI) (ys := ([x2] : List Int)) rfl rfl rfl rfl rfl rfl rfl rfl k4 rfl (by simp) ?_
            refine W.mv rfl ?_
            refine W.nil ?_
            exact ⟨w6, h, Wk.nrmTo [0, 1, 5, 6] [(22, 10200)] rfl rfl⟩
          · replace h := iteF h c3
            refine Ev.skip ?_
            exact ⟨w1, h, Wk.nrmTo [0, 1, 5, 6] [(10300, 10200)] rfl rfl⟩
      · intro w3 h
        try dsimp only at h ⊢
        unfold law6_joined_j1 at h
        refine W.reg hm ?_
        refine W.mv rfl ?_
        obtain ⟨x4, k2, h⟩ := obind h
        refine W.addG rfl rfl k2 ?_
        refine W.mv rfl ?_
        refine W.nil ?_
        exact ⟨(m1, w3, x4), h, Nat.lt_succ_self _, Wk.nrmTo [0, 1, 5, 6] [(10200, 10100)] rfl rfl⟩
    · replace h := iteF h c1
      refine Ev.exit ?_
      refine Ev.seq ?_
      refine W.reg hm ?_
      refine W.mv rfl ?_
      refine W.mv rfl ?_
      refine W.nil ?_
      refine Ev.ret ?_
      injection h with h; subst h
      exact ⟨_, rfl, .refl _⟩

set_option maxHeartbeats 4000000 in
theorem law6_DepgraphAffectedIsAClosure_spec (n : Nat) (a0 : List (List Int)) (a1 : List Int) (a2 : List Int) (r : Bool) (h : law6_DepgraphAffectedIsAClosure n a0 a1 a2 = some r) : PSpec Try.prog 7 [.list 1 (List.map (cL 1 cI) a0), .list 1 (List.map cI a1), .list 1 (List.map cI a2)] (.bool r) := by
  unfold law6_DepgraphAffectedIsAClosure at h
  refine spec_of Try.c_law6_DepgraphAffectedIsAClosure (by simp) ?_
  unfold Try.l_law6_DepgraphAffectedIsAClosure
  refine Ev.seq ?_
  refine W.reg hm ?_
  refine W.mv rfl ?_
  refine W.nil ?_
  refine Ev.seq ?_
  refine W.reg hm ?_
  refine W.mv rfl ?_
  refine W.mv rfl ?_
  obtain ⟨r1, k1, h⟩ := obind h
  refine W.call (depgraph_Affected_spec n a0 a1 r1 k1) rfl rfl (Les.refl _) rfl (.inl rfl) rfl ?_
  refine W.mv rfl ?_
  refine W.extract rfl rfl ?_
  refine W.extract rfl rfl ?_
  refine W.alloc (dt := true) rfl rfl rfl ?_
  refine W.mv rfl ?_
  refine W.store (es' := [[.int .i64 r1.2.Code, .int .i64 r1.2.Index]]) (dt := true) rfl rfl rfl rfl rfl (Nat.le_of_ble_eq_true rfl) rfl rfl rfl rfl ?_
  refine W.nil ?_
  refine Ev.seq ?_
  refine W.reg hm ?_
  refine W.mv rfl ?_
  refine W.mv rfl ?_
  obtain ⟨r2, k2, h⟩ := obind h
  refine W.call (depgraph_Affected_spec n a0 a2 r2 k2) rfl rfl (Les.refl _) rfl (.inl rfl) rfl ?_
  refine W.mv rfl ?_
  refine W.extract rfl rfl ?_
  refine W.extract rfl rfl ?_
  refine W.alloc (dt := true) rfl rfl rfl ?_
  refine W.mv rfl ?_
  refine W.store (es' := [[.int .i64 r2.2.Code, .int .i64 r2.2.Index]]) (dt := true) rfl rfl rfl rfl rfl (Nat.le_of_ble_eq_true rfl) rfl rfl rfl rfl ?_
  refine W.nil ?_
  refine Ev.seq ?_
  refine Ev.seq ?_
  refine W.reg hm ?_
  obtain ⟨r3, k3, h⟩ := obind h
  refine W.call (law6_graphs_spec n r3 k3) rfl rfl (Les.refl _) rfl (.inl rfl) rfl ?_
  refine W.not rfl ?_
  refine W.nil ?_
  refine Ev.cond rfl (fun c4 => ?_) (fun c4 => ?_)
  · replace h := iteT h c4
    refine Ev.seq ?_
    refine W.reg hm ?_
    refine W.mv rfl ?_
    refine W.nil ?_
    refine Ev.ret ?_
    injection h with h; subst h
    exact ⟨_, rfl, .refl _⟩
  · replace h := iteF h c4
    refine Ev.skip ?_
    refine Ev.seq ?_
    refine Ev.seqJ (γ := Bool) (fun v => ⟨[(0, .list 1 (List.map (cL 1 cI) a0)), (1, .list 1 (List.map cI a1)), (2, .list 1 (List.map cI a2)), (7, .list 1 (List.map cI r1.1)), (8, .pown 10100 0 0 0), (9, .list 1 (List.map cI r2.1)), (10, .pown 10101 0 0 0), (36, .bool v)], [(10100, ⟨0, 25, 2, [[.int .i64 r1.2.Code, .int .i64 r1.2.Index]], true, false, false⟩), (10101, ⟨0, 25, 2, [[.int .i64 r2.2.Code, .int .i64 r2.2.Index]], true, false, false⟩)], 2⟩) (fun v => law6_DepgraphAffectedIsAClosure_j1 n a0 a1 a2 r1 r2 v = some r) ?_ ?_
    · refine W.reg hm ?_
      refine W.fieldAddrO rfl rfl ?_
      refine W.loadO (p := .int .i64 r1.2.Code) rfl rfl rfl rfl ?_
      refine W.neq rfl rfl ?_
      refine W.mv rfl ?_
      refine W.split 32 rfl (fun c22 => ?_) (fun c22 => ?_)
      · replace h := iteT h c22
        refine W.guardF2 rfl c22 ?_
        refine W.guardF2 rfl c22 ?_
        refine W.guardF2 rfl c22 ?_
        refine W.pickT rfl rfl rfl c22 ?_
        refine W.nil ?_
        exact ⟨true, h, Wk.nrmTo [0, 1, 2, 7, 8, 9, 10, 36] [(8, 10100), (10, 10101)] rfl rfl⟩
      · replace h := iteF h c22
        refine W.guardT rfl c22 ?_
        refine W.fieldAddrO rfl rfl ?_
        refine W.guardT rfl c22 ?_
        refine W.loadO (p := .int .i64 r2.2.Code) rfl rfl rfl rfl ?_
        refine W.guardT rfl c22 ?_
        refine W.neq rfl rfl ?_
        refine W.pickN rfl rfl rfl c22 ?_
        refine W.nil ?_
        exact ⟨(decide (r2.2.Code ≠ 0)), h, Wk.nrmTo [0, 1, 2, 7, 8, 9, 10, 36] [(8, 10100), (10, 10101)] rfl rfl⟩
    · intro x4 h
      try dsimp only at h ⊢
      unfold law6_DepgraphAffectedIsAClosure_j1 at h
      refine Ev.cond rfl (fun c5 => ?_) (fun c5 => ?_)
      · replace h := iteT h c5
        refine Ev.seqJ (γ := Bool) (fun v => ⟨[(6, .bool v)], [], 2⟩) (fun v => law6_DepgraphAffectedIsAClosure_j2 n v = some r) ?_ ?_
        · refine W.reg hm ?_
          refine W.fieldAddrO rfl rfl ?_
          refine W.loadO (p := .int .i64 r1.2.Code) rfl rfl rfl rfl ?_
          refine W.eql rfl rfl ?_
          refine W.mv rfl ?_
          refine W.split 40 rfl (fun c6 => ?_) (fun c6 => ?_)
          · replace h := iteT h c6
            refine W.guardF2 rfl c6 ?_
            refine W.guardF2 rfl c6 ?_
            refine W.guardF2 rfl c6 ?_
            refine W.pickT rfl rfl rfl c6 ?_
            refine W.mv rfl ?_
            refine W.guardT rfl rfl ?_
            refine W.fieldAddrO rfl rfl ?_
            refine W.guardT rfl rfl ?_
            refine W.loadO (p := .int .i64 r2.2.Code) rfl rfl rfl rfl ?_
            refine W.guardT rfl rfl ?_
            refine W.eql rfl rfl ?_
            refine W.guardT rfl rfl ?_
            refine W.mv rfl ?_
            refine W.split 49 rfl (fun c7 => ?_) (fun c7 => ?_)
            · replace h := iteT h c7
              refine W.guardF2 rfl c7 ?_
              refine W.guardF2 rfl c7 ?_
              refine W.guardF2 rfl c7 ?_
              refine W.guardT rfl rfl ?_
              refine W.pickT rfl rfl rfl c7 ?_
              refine W.pickT rfl rfl rfl rfl ?_
              refine W.mv rfl ?_
              refine W.nil ?_
              exact ⟨true, h, Wk.nrmTo [6] [] rfl rfl⟩
            · replace h := iteF h c7
              refine W.guardT rfl c7 ?_
              refine W.mv rfl ?_
              refine W.guardT rfl c7 ?_
              refine W.lenL (c := cI) rfl ?_
              refine W.guardT rfl c7 ?_
              refine W.eql rfl rfl ?_
              refine W.guardT rfl rfl ?_
              refine W.pickN rfl rfl rfl c7 ?_
              refine W.pickT rfl rfl rfl rfl ?_
              refine W.mv rfl ?_
              refine W.nil ?_
              exact ⟨(decide ((r2.1.length : Int) = 0)), h, Wk.nrmTo [6] [] rfl rfl⟩
          · replace h := iteF h c6
            refine W.guardT rfl c6 ?_
            refine W.mv rfl ?_
            refine W.guardT rfl c6 ?_
            refine W.lenL (c := cI) rfl ?_
            refine W.guardT rfl c6 ?_
            refine W.eql rfl rfl ?_
            refine W.pickN rfl rfl rfl c6 ?_
            refine W.mv rfl ?_
            refine W.split 45 rfl (fun c8 => ?_) (fun c8 => ?_)
            · replace h := iteT h c8
              refine W.guardT rfl c8 ?_
              refine W.fieldAddrO rfl rfl ?_
              refine W.guardT rfl c8 ?_
              refine W.loadO (p := .int .i64 r2.2.Code) rfl rfl rfl rfl ?_
              refine W.guardT rfl c8 ?_
              refine W.eql rfl rfl ?_
              refine W.guardT rfl c8 ?_
              refine W.mv rfl ?_
              refine W.split 49 rfl (fun c9 => ?_) (fun c9 => ?_)
              · replace h := iteT h c9
                refine W.guardF2 rfl c9 ?_
                refine W.guardF2 rfl c9 ?_
                refine W.guardF2 rfl c9 ?_
                refine W.guardT rfl c8 ?_
                refine W.pickT rfl rfl rfl c9 ?_
                refine W.pickT rfl rfl rfl c8 ?_
                refine W.mv rfl ?_
                refine W.nil ?_
                exact ⟨true, h, Wk.nrmTo [6] [] rfl rfl⟩
              · replace h := iteF h c9
                refine W.guardT rfl c9 ?_
                refine W.mv rfl ?_
                refine W.guardT rfl c9 ?_
                refine W.lenL (c := cI) rfl ?_
                refine W.guardT rfl c9 ?_
                refine W.eql rfl rfl ?_
                refine W.guardT rfl c8 ?_
                refine W.pickN rfl rfl rfl c9 ?_
                refine W.pickT rfl rfl rfl c8 ?_
                refine W.mv rfl ?_
                refine W.nil ?_
                exact ⟨(decide ((r2.1.length : Int) = 0)), h, Wk.nrmTo [6] [] rfl rfl⟩
            · replace h := iteF h c8
              refine W.guardF1 rfl c8 ?_
              refine W.guardF1 rfl c8 ?_
              refine W.guardF1 rfl c8 ?_
              refine W.guardF1 rfl c8 ?_
              refine W.guardU rfl ?_
              refine W.guardU rfl ?_
              refine W.guardU rfl ?_
              refine W.guardF1 rfl c8 ?_
              refine W.pickN rfl rfl rfl c8 ?_
              refine W.mv rfl ?_
              refine W.nil ?_
              exact ⟨false, h, Wk.nrmTo [6] [] rfl rfl⟩
        · intro x5 h
          try dsimp only at h ⊢
          unfold law6_DepgraphAffectedIsAClosure_j2 at h
          refine Ev.ret ?_
          injection h with h; subst h
          exact ⟨_, rfl, .refl _⟩
      · replace h := iteF h c5
        refine Ev.skip ?_
        refine Ev.seq ?_
        refine W.reg hm ?_
        refine W.mv rfl ?_
        refine W.mv rfl ?_
        obtain ⟨r6, k10, h⟩ := obind h
        refine W.call (depgraph_Affected_spec n a0 r1.1 r6 k10) rfl rfl (Les.refl _) rfl (.inl rfl) rfl ?_
        refine W.mv rfl ?_
        refine W.extract rfl rfl ?_
        refine W.extract rfl rfl ?_
        refine W.alloc (dt := true) rfl rfl rfl ?_
        refine W.mv rfl ?_
        refine W.store (es' := [[.int .i64 r6.2.Code, .int .i64 r6.2.Index]]) (dt := true) rfl rfl rfl rfl rfl (Nat.le_of_ble_eq_true rfl) rfl rfl rfl rfl ?_
        refine W.nil ?_
        refine Ev.seq ?_
        refine W.reg hm ?_
        refine W.mv rfl ?_
        refine W.mv rfl ?_
        refine W.mv rfl ?_
        obtain ⟨r7, k11, h⟩ := obind h
        refine W.call (law6_joined_spec n a1 a2 r7 k11) rfl rfl (Les.refl _) rfl (.inl rfl) rfl ?_
        obtain ⟨r8, k12, h⟩ := obind h
        refine W.call (depgraph_Affected_spec n a0 r7 r8 k12) rfl rfl (Les.refl _) rfl (.inl rfl) rfl ?_
        refine W.mv rfl ?_
        refine W.extract rfl rfl ?_
        refine W.extract rfl rfl ?_
        refine W.alloc (dt := true) rfl rfl rfl ?_
        refine W.mv rfl ?_
        refine W.store (es' := [[.int .i64 r8.2.Code, .int .i64 r8.2.Index]]) (dt := true) rfl rfl rfl rfl rfl (Nat.le_of_ble_eq_true rfl) rfl rfl rfl rfl ?_
        refine W.nil ?_
        refine Ev.seqJ (γ := Bool) (fun v => ⟨[(6, .bool v)], [], 2⟩) (fun v => law6_DepgraphAffectedIsAClosure_j3 n v = some r) ?_ ?_
        · refine W.reg hm ?_
          refine W.fieldAddrO rfl rfl ?_
          refine W.loadO (p := .int .i64 r6.2.Code) rfl rfl rfl rfl ?_
          refine W.eql rfl rfl ?_
          refine W.mv rfl ?_
          refine W.split 72 rfl (fun c13 => ?_) (fun c13 => ?_)
          · replace h := iteT h c13
            refine W.guardT rfl c13 ?_
            refine W.fieldAddrO rfl rfl ?_
            refine W.guardT rfl c13 ?_
            refine W.loadO (p := .int .i64 r8.2.Code) rfl rfl rfl rfl ?_
            refine W.guardT rfl c13 ?_
            refine W.eql rfl rfl ?_
            refine W.pickT rfl rfl rfl c13 ?_
            refine W.mv rfl ?_
            refine W.split 77 rfl (fun c14 => ?_) (fun c14 => ?_)
            · replace h := iteT h c14
              refine W.guardT rfl c14 ?_
              refine W.mv rfl ?_
              refine W.guardT rfl c14 ?_
              refine W.mv rfl ?_
              refine W.guardT rfl c14 ?_
              obtain ⟨r10, k15, h⟩ := obind h
              refine W.call (ref5_Ints_spec n r6.1 r1.1 r10 k15) rfl rfl (Les.refl _) rfl (.inl rfl) rfl ?_
              refine W.pickT rfl rfl rfl c14 ?_
              refine W.mv rfl ?_
              refine W.split 82 rfl (fun c16 => ?_) (fun c16 => ?_)
              · replace h := iteT h c16
                refine W.guardT rfl c16 ?_
                refine W.mv rfl ?_
                refine W.guardT rfl c16 ?_
                refine W.mv rfl ?_
                refine W.guardT rfl c16 ?_
                obtain ⟨r11, k17, h⟩ := obind h
                refine W.call (law6_joined_spec n a1 r1.1 r11 k17) rfl rfl (Les.refl _) rfl (.inl rfl) rfl ?_
                refine W.guardT rfl c16 ?_
                refine W.mv rfl ?_
                refine W.guardT rfl c16 ?_
                obtain ⟨r12, k18, h⟩ := obind h
                refine W.call (ref5_Ints_spec n r11 r1.1 r12 k18) rfl rfl (Les.refl _) rfl (.inl rfl) rfl ?_
                refine W.pickT rfl rfl rfl c16 ?_
                refine W.mv rfl ?_
                refine W.split 89 rfl (fun c19 => ?_) (fun c19 => ?_)
                · replace h := iteT h c19
                  refine W.guardT rfl c19 ?_
                  refine W.mv rfl ?_
                  refine W.guardT rfl c19 ?_
                  refine W.mv rfl ?_
                  refine W.guardT rfl c19 ?_
                  refine W.mv rfl ?_
                  refine W.guardT rfl c19 ?_
                  obtain ⟨r13, k20, h⟩ := obind h
                  refine W.call (law6_joined_spec n r1.1 r2.1 r13 k20) rfl rfl (Les.refl _) rfl (.inl rfl) rfl ?_
                  refine W.guardT rfl c19 ?_
                  obtain ⟨r14, k21, h⟩ := obind h
                  refine W.call (ref5_Ints_spec n r8.1 r13 r14 k21) rfl rfl (Les.refl _) rfl (.inl rfl) rfl ?_
                  refine W.pickT rfl rfl rfl c19 ?_
                  refine W.mv rfl ?_
                  refine W.nil ?_
                  exact ⟨r14, h, Wk.nrmTo [6] [] rfl rfl⟩
                · replace h := iteF h c19
                  refine W.guardF1 rfl c19 ?_
                  refine W.guardF1 rfl c19 ?_
                  refine W.guardF1 rfl c19 ?_
                  refine W.guardF1 rfl c19 ?_
                  refine W.guardF1 rfl c19 ?_
                  refine W.pickN rfl rfl rfl c19 ?_
                  refine W.mv rfl ?_
                  refine W.nil ?_
                  exact ⟨false, h, Wk.nrmTo [6] [] rfl rfl⟩
              · replace h := iteF h c16
                refine W.guardF1 rfl c16 ?_
                refine W.guardF1 rfl c16 ?_
                refine W.guardF1 rfl c16 ?_
                refine W.guardF1 rfl c16 ?_
                refine W.guardF1 rfl c16 ?_
                refine W.pickN rfl rfl rfl c16 ?_
                refine W.mv rfl ?_
                refine W.guardF1 rfl rfl ?_
                refine W.guardF1 rfl rfl ?_
                refine W.guardF1 rfl rfl ?_
                refine W.guardF1 rfl rfl ?_
                refine W.guardF1 rfl rfl ?_
                refine W.pickN rfl rfl rfl rfl ?_
                refine W.mv rfl ?_
                refine W.nil ?_
                exact ⟨false, h, Wk.nrmTo [6] [] rfl rfl⟩
            · replace h := iteF h c14
              refine W.guardF1 rfl c14 ?_
              refine W.guardF1 rfl c14 ?_
              refine W.guardF1 rfl c14 ?_
              refine W.pickN rfl rfl rfl c14 ?_
              refine W.mv rfl ?_
              refine W.guardF1 rfl rfl ?_
              refine W.guardF1 rfl rfl ?_
              refine W.guardF1 rfl rfl ?_
              refine W.guardF1 rfl rfl ?_
              refine W.guardF1 rfl rfl ?_
              refine W.pickN rfl rfl rfl rfl ?_
              refine W.mv rfl ?_
              refine W.guardF1 rfl rfl ?_
              refine W.guardF1 rfl rfl ?_
              refine W.guardF1 rfl rfl ?_
              refine W.guardF1 rfl rfl ?_
              refine W.guardF1 rfl rfl ?_
              refine W.pickN rfl rfl rfl rfl ?_
              refine W.mv rfl ?_
              refine W.nil ?_
              exact ⟨false, h, Wk.nrmTo [6] [] rfl rfl⟩
          · replace h := iteF h c13
            refine W.guardF1 rfl c13 ?_
            refine W.guardF1 rfl c13 ?_
            refine W.guardF1 rfl c13 ?_
            refine W.pickN rfl rfl rfl c13 ?_
            refine W.mv rfl ?_
            refine W.guardF1 rfl rfl ?_
            refine W.guardF1 rfl rfl ?_
            refine W.guardF1 rfl rfl ?_
            refine W.pickN rfl rfl rfl rfl ?_
            refine W.mv rfl ?_
            refine W.guardF1 rfl rfl ?_
            refine W.guardF1 rfl rfl ?_
            refine W.guardF1 rfl rfl ?_
            refine W.guardF1 rfl rfl ?_
            refine W.guardF1 rfl rfl ?_
            refine W.pickN rfl rfl rfl rfl ?_
            refine W.mv rfl ?_
            refine W.guardF1 rfl rfl ?_
            refine W.guardF1 rfl rfl ?_
            refine W.guardF1 rfl rfl ?_
            refine W.guardF1 rfl rfl ?_
            refine W.guardF1 rfl rfl ?_
            refine W.pickN rfl rfl rfl rfl ?_
            refine W.mv rfl ?_
            refine W.nil ?_
            exact ⟨false, h, Wk.nrmTo [6] [] rfl rfl⟩
        · intro x9 h
          try dsimp only at h ⊢
          unfold law6_DepgraphAffectedIsAClosure_j3 at h
          refine Ev.ret ?_
          injection h with h; subst h
          exact ⟨_, rfl, .refl _⟩

set_option maxHeartbeats 4000000 in
theorem law6_DepgraphAffectedNodesDepend_spec (n : Nat) (a0 : List (List Int)) (a1 : List Int) (r : Bool) (h : law6_DepgraphAffectedNodesDepend n a0 a1 = some r) : PSpec Try.prog 8 [.list 1 (List.map (cL 1 cI) a0), .list 1 (List.map cI a1)] (.bool r) := by
  unfold law6_DepgraphAffectedNodesDepend at h
  refine spec_of Try.c_law6_DepgraphAffectedNodesDepend (by simp) ?_
  unfold Try.l_law6_DepgraphAffectedNodesDepend
  refine Ev.seq ?_
  refine W.reg hm ?_
  refine W.mv rfl ?_
  refine W.nil ?_
  refine Ev.seq ?_
  refine W.reg hm ?_
  refine W.mv rfl ?_
  refine W.mv rfl ?_
  obtain ⟨r1, k1, h⟩ := obind h
  refine W.call (depgraph_Affected_spec n a0 a1 r1 k1) rfl rfl (Les.refl _) rfl (.inl rfl) rfl ?_
  refine W.mv rfl ?_
  refine W.extract rfl rfl ?_
  refine W.extract rfl rfl ?_
  refine W.alloc (dt := true) rfl rfl rfl ?_
  refine W.mv rfl ?_
  refine W.store (es' := [[.int .i64 r1.2.Code, .int .i64 r1.2.Index]]) (dt := true) rfl rfl rfl rfl rfl (Nat.le_of_ble_eq_true rfl) rfl rfl rfl rfl ?_
  refine W.nil ?_
  refine Ev.seq ?_
  refine Ev.seqJ (γ := Bool) (fun v => ⟨[(0, .list 1 (List.map (cL 1 cI) a0)), (1, .list 1 (List.map cI a1)), (5, .list 1 (List.map cI r1.1)), (22, .bool v)], [], 2⟩) (fun v => law6_DepgraphAffectedNodesDepend_j1 n a0 a1 r1 v = some r) ?_ ?_
  · refine W.reg hm ?_
    obtain ⟨r17, k17, h⟩ := obind h
    refine W.call (law6_graphs_spec n r17 k17) rfl rfl (Les.refl _) rfl (.inl rfl) rfl ?_
    refine W.not rfl ?_
    refine W.mv rfl ?_
    refine W.split 18 rfl (fun c18 => ?_) (fun c18 => ?_)
    · replace h := iteT h c18
      refine W.guardF2 rfl c18 ?_
      refine W.guardF2 rfl c18 ?_
      refine W.guardF2 rfl c18 ?_
      refine W.pickT rfl rfl rfl c18 ?_
      refine W.nil ?_
      exact ⟨true, h, Wk.nrmTo [0, 1, 5, 22] [] rfl rfl⟩
    · replace h := iteF h c18
      refine W.guardT rfl c18 ?_
      refine W.fieldAddrO rfl rfl ?_
      refine W.guardT rfl c18 ?_
      refine W.loadO (p := .int .i64 r1.2.Code) rfl rfl rfl rfl ?_
      refine W.guardT rfl c18 ?_
      refine W.neq rfl rfl ?_
      refine W.pickN rfl rfl rfl c18 ?_
      refine W.nil ?_
      exact ⟨(decide (r1.2.Code ≠ 0)), h, Wk.nrmTo [0, 1, 5, 22] [] rfl rfl⟩
  · intro x2 h
    try dsimp only at h ⊢
    unfold law6_DepgraphAffectedNodesDepend_j1 at h
    refine Ev.cond rfl (fun c2 => ?_) (fun c2 => ?_)
    · replace h := iteT h c2
      refine Ev.seqJ (γ := Bool) (fun v => ⟨[(4, .bool v)], [], 2⟩) (fun v => law6_DepgraphAffectedNodesDepend_j2 n v = some r) ?_ ?_
      · refine W.reg hm ?_
        obtain ⟨r4, k3, h⟩ := obind h
        refine W.call (law6_graphs_spec n r4 k3) rfl rfl (Les.refl _) rfl (.inl rfl) rfl ?_
        refine W.mv rfl ?_
        refine W.split 24 rfl (fun c4 => ?_) (fun c4 => ?_)
        · replace h := iteT h c4
          refine W.guardT rfl c4 ?_
          refine W.mv rfl ?_
          refine W.guardT rfl c4 ?_
          refine W.lenL (c := cI) rfl ?_
          refine W.guardT rfl c4 ?_
          refine W.eql rfl rfl ?_
          refine W.pickT rfl rfl rfl c4 ?_
          refine W.mv rfl ?_
          refine W.nil ?_
          exact ⟨(decide ((r1.1.length : Int) = 0)), h, Wk.nrmTo [4] [] rfl rfl⟩
        · replace h := iteF h c4
          refine W.guardF1 rfl c4 ?_
          refine W.guardF1 rfl c4 ?_
          refine W.guardF1 rfl c4 ?_
          refine W.pickN rfl rfl rfl c4 ?_
          refine W.mv rfl ?_
          refine W.nil ?_
          exact ⟨false, h, Wk.nrmTo [4] [] rfl rfl⟩
      · intro x3 h
        try dsimp only at h ⊢
        unfold law6_DepgraphAffectedNodesDepend_j2 at h
        refine Ev.ret ?_
        injection h with h; subst h
        exact ⟨_, rfl, .refl _⟩
    · replace h := iteF h c2
      refine Ev.skip ?_
      refine Ev.seq ?_
      refine Ev.seq ?_
      refine W.reg hm ?_
      refine W.mv rfl ?_
      refine W.nil ?_
      refine Ev.block ?_
      refine Ev.loopW (β := Nat × Int) (fun v => ⟨[(0, .list 1 (List.map (cL 1 cI) a0)), (1, .list 1 (List.map cI a1)), (5, .list 1 (List.map cI r1.1)), (7, .int .i64 v.2)], [], 2⟩) (fun v => law6_DepgraphAffectedNodesDepend_l1 n a0 a1 r1 v.1 v.2 = some r) (fun v => v.1) (n, 0) (Wk.nrmTo [0, 1, 5, 7] [] rfl rfl) h ?_
      intro ⟨m1, x5⟩ h
      try dsimp only at h ⊢
      cases m1 with
      | zero => rw [law6_DepgraphAffectedNodesDepend_l1] at h; cases h
      | succ m1 =>
        rw [law6_DepgraphAffectedNodesDepend_l1] at h
        refine Ev.seq ?_
        refine Ev.seq ?_
        refine W.reg hm ?_
        refine W.mv rfl ?_
        refine W.mv rfl ?_
        refine W.lenL (c := (cL 1 cI)) rfl ?_
        refine W.lss rfl rfl ?_
        refine W.nil ?_
        refine Ev.cond rfl (fun c5 => ?_) (fun c5 => ?_)
        · replace h := iteT h c5
          refine Ev.skip ?_
          refine Ev.seq ?_
          refine Ev.block ?_
          refine Ev.seq ?_
          refine W.reg hm ?_
          refine W.mv rfl ?_
          refine W.nil ?_
          refine Ev.seq ?_
          refine Ev.seq ?_
          refine W.reg hm ?_
          refine W.mv rfl ?_
          refine W.nil ?_
          refine Ev.block ?_
          refine Ev.loopW (β := Nat × Bool × Int) (fun v => ⟨[(0, .list 1 (List.map (cL 1 cI) a0)), (1, .list 1 (List.map cI a1)), (5, .list 1 (List.map cI r1.1)), (7, .int .i64 x5), (8, .bool v.2.1), (9, .int .i64 v.2.2)], [], 2⟩) (fun v => law6_DepgraphAffectedNodesDepend_l2 n a0 a1 r1 x5 (law6_DepgraphAffectedNodesDepend_l1 n a0 a1 r1 m1) v.1 v.2.1 v.2.2 = some r) (fun v => v.1) (n, false, 0) (Wk.nrmTo [0, 1, 5, 7, 8, 9] [] rfl rfl) h ?_
          intro ⟨m2, x6, x7⟩ h
          try dsimp only at h ⊢
          cases m2 with
          | zero => rw [law6_DepgraphAffectedNodesDepend_l2] at h; cases h
          | succ m2 =>
            rw [law6_DepgraphAffectedNodesDepend_l2] at h
            refine Ev.seq ?_
            refine Ev.seq ?_
            refine W.reg hm ?_
            refine W.mv rfl ?_
            refine W.mv rfl ?_
            refine W.mv rfl ?_
            obtain ⟨e8, k6, h⟩ := obind h
            refine W.idxL (c := (cL 1 cI)) rfl rfl k6 ?_
            refine W.load rfl rfl ?_
            refine W.lenL (c := cI) rfl ?_
            refine W.lss rfl rfl ?_
            refine W.nil ?_
            refine Ev.cond rfl (fun c7 => ?_) (fun c7 => ?_)
            · replace h := iteT h c7
              refine Ev.skip ?_
              refine Ev.seqJ (γ := Bool) (fun v => ⟨[(0, .list 1 (List.map (cL 1 cI) a0)), (1, .list 1 (List.map cI a1)), (5, .list 1 (List.map cI r1.1)), (7, .int .i64 x5), (8, .bool v), (9, .int .i64 x7)], [], 2⟩) (fun v => law6_DepgraphAffectedNodesDepend_j3 n x7 (law6_DepgraphAffectedNodesDepend_l2 n a0 a1 r1 x5 (law6_DepgraphAffectedNodesDepend_l1 n a0 a1 r1 m1) m2) v = some r) ?_ ?_
              · refine Ev.block ?_
                refine W.reg hm ?_
                refine W.mv rfl ?_
                refine W.mv rfl ?_
                refine W.split 45 rfl (fun c9 => ?_) (fun c9 => ?_)
                · replace h := iteT h c9
                  refine W.guardF2 rfl c9 ?_
                  refine W.guardF2 rfl c9 ?_
                  refine W.guardF2 rfl c9 ?_
                  refine W.guardF2 rfl c9 ?_
                  refine W.guardF2 rfl c9 ?_
                  refine W.guardF2 rfl c9 ?_
                  refine W.guardF2 rfl c9 ?_
                  refine W.guardF2 rfl c9 ?_
                  refine W.guardF2 rfl c9 ?_
                  refine W.pickT rfl rfl rfl c9 ?_
                  refine W.mv rfl ?_
                  refine W.nil ?_
                  exact ⟨true, h, Wk.nrmTo [0, 1, 5, 7, 8, 9] [] rfl rfl⟩
                · replace h := iteF h c9
                  refine W.guardT rfl c9 ?_
                  refine W.mv rfl ?_
                  refine W.guardT rfl c9 ?_
                  refine W.mv rfl ?_
                  refine W.guardT rfl c9 ?_
                  refine W.mv rfl ?_
                  refine W.guardT rfl c9 ?_
                  refine W.idxL (c := (cL 1 cI)) rfl rfl k6 ?_
                  refine W.guardT rfl c9 ?_
                  refine W.load rfl rfl ?_
                  refine W.guardT rfl c9 ?_
                  refine W.mv rfl ?_
                  refine W.guardT rfl c9 ?_
                  obtain ⟨e11, k10, h⟩ := obind h
                  refine W.idxL (c := cI) rfl rfl k10 ?_
                  refine W.guardT rfl c9 ?_
                  refine W.load rfl rfl ?_
                  refine W.guardT rfl c9 ?_
                  obtain ⟨r12, k11, h⟩ := obind h
                  refine W.call (ref5_Has_spec n r1.1 e11 r12 k11) rfl rfl (Les.refl _) rfl (.inl rfl) rfl ?_
                  refine W.pickN rfl rfl rfl c9 ?_
                  refine W.mv rfl ?_
                  refine W.nil ?_
                  exact ⟨r12, h, Wk.nrmTo [0, 1, 5, 7, 8, 9] [] rfl rfl⟩
              · intro x9 h
                try dsimp only at h ⊢
                unfold law6_DepgraphAffectedNodesDepend_j3 at h
                refine W.reg hm ?_
                refine W.mv rfl ?_
                obtain ⟨x10, k8, h⟩ := obind h
                refine W.addG rfl rfl k8 ?_
                refine W.mv rfl ?_
                refine W.nil ?_
                exact ⟨(m2, x9, x10), h, Nat.lt_succ_self _, Wk.nrmTo [0, 1, 5, 7, 8, 9] [] rfl rfl⟩
            · replace h := iteF h c7
              refine Ev.exit ?_
              refine Ev.seqJ (γ := Bool) (fun v => ⟨[(0, .list 1 (List.map (cL 1 cI) a0)), (1, .list 1 (List.map cI a1)), (5, .list 1 (List.map cI r1.1)), (7, .int .i64 x5), (65, .bool v)], [], 2⟩) (fun v => law6_DepgraphAffectedNodesDepend_j4 n x5 (law6_DepgraphAffectedNodesDepend_l1 n a0 a1 r1 m1) v = some r) ?_ ?_
              · refine W.reg hm ?_
                refine W.mv rfl ?_
                refine W.mv rfl ?_
                obtain ⟨r15, k14, h⟩ := obind h
                refine W.call (ref5_Has_spec n r1.1 x5 r15 k14) rfl rfl (Les.refl _) rfl (.inl rfl) rfl ?_
                refine W.mv rfl ?_
                refine W.mv rfl ?_
                refine W.split 60 rfl (fun c15 => ?_) (fun c15 => ?_)
                · replace h := iteT h c15
                  refine W.guardF2 rfl c15 ?_
                  refine W.guardF2 rfl c15 ?_
                  refine W.guardF2 rfl c15 ?_
                  refine W.pickT rfl rfl rfl c15 ?_
                  refine W.bneq rfl rfl ?_
                  refine W.nil ?_
                  exact ⟨(r15 != true), h, Wk.nrmTo [0, 1, 5, 7, 65] [] rfl rfl⟩
                · replace h := iteF h c15
                  refine W.guardT rfl c15 ?_
                  refine W.mv rfl ?_
                  refine W.guardT rfl c15 ?_
                  refine W.mv rfl ?_
                  refine W.guardT rfl c15 ?_
                  obtain ⟨r16, k16, h⟩ := obind h
                  refine W.call (ref5_Has_spec n a1 x5 r16 k16) rfl rfl (Les.refl _) rfl (.inl rfl) rfl ?_
                  refine W.pickN rfl rfl rfl c15 ?_
                  refine W.bneq rfl rfl ?_
                  refine W.nil ?_
                  exact ⟨(r15 != r16), h, Wk.nrmTo [0, 1, 5, 7, 65] [] rfl rfl⟩
              · intro x13 h
                try dsimp only at h ⊢
                unfold law6_DepgraphAffectedNodesDepend_j4 at h
                refine Ev.cond rfl (fun c12 => ?_) (fun c12 => ?_)
                · replace h := iteT h c12
                  refine Ev.seq ?_
                  refine W.reg hm ?_
                  refine W.mv rfl ?_
                  refine W.nil ?_
                  refine Ev.ret ?_
                  injection h with h; subst h
                  exact ⟨_, rfl, .refl _⟩
                · replace h := iteF h c12
                  refine Ev.skip ?_
                  refine W.reg hm ?_
                  refine W.mv rfl ?_
                  obtain ⟨x14, k13, h⟩ := obind h
                  refine W.addG rfl rfl k13 ?_
                  refine W.mv rfl ?_
                  refine W.nil ?_
                  exact ⟨(m1, x14), h, Nat.lt_succ_self _, Wk.nrmTo [0, 1, 5, 7] [] rfl rfl⟩
        · replace h := iteF h c5
          refine Ev.exit ?_
          refine Ev.seq ?_
          refine W.reg hm ?_
          refine W.mv rfl ?_
          refine W.nil ?_
          refine Ev.ret ?_
          injection h with h; subst h
          exact ⟨_, rfl, .refl _⟩
end Go.Proofs.Ytpbfobgbpdbiaaa
