/- The functions compute what the texts of D say. Laid by a program (wip/gen/dec.py). -/
import Derived.Test.YthnneojommdhjaaD
import Derived.Test.YthnneojommdhjaaW2
namespace Go.Proofs.Ythnneojommdhjaa
open Go.PW Go
theorem law6_WorkersResultsAreFinal_spec (n : Nat) (a0 : Int) (a1 : Int) (a2 : Int) (a3 : List SKindWorkerJobValue) (a4 : List SKindWorkerJobValue) (a5 : Int) (r : Bool) (h : law6_WorkersResultsAreFinal n a0 a1 a2 a3 a4 a5 = some r) : PSpec Try.prog 7 [.int .i64 a0, .int .i64 a1, .int .i64 a2, .list 4 (List.map SKindWorkerJobValue.cells a3), .list 4 (List.map SKindWorkerJobValue.cells a4), .int .i64 a5] (.bool r) := by
  unfold law6_WorkersResultsAreFinal at h
  refine spec_of Try.c_law6_WorkersResultsAreFinal (by simp) ?_
  unfold Try.l_law6_WorkersResultsAreFinal
  refine Ev.seq ?_
  refine W.reg hm ?_
  refine W.mv rfl ?_
  refine W.nil ?_
  refine Ev.seq ?_
  refine Ev.seq ?_
  refine W.reg hm ?_
  obtain ⟨r1, k1, h⟩ := obind h
  refine W.call (law6_farms_spec n r1 k1) rfl rfl (Les.refl _) rfl (.inl rfl) rfl ?_
  refine W.not rfl ?_
  refine W.nil ?_
  refine Ev.cond rfl (fun c2 => ?_) (fun c2 => ?_)
  · replace h := iteT h c2
    refine Ev.seq ?_
    refine W.reg hm ?_
    refine W.mv rfl ?_
    refine W.nil ?_
    refine Ev.ret ?_
    injection h with h; subst h
    exact ⟨_, rfl, .refl _⟩
  · replace h := iteF h c2
    refine Ev.skip ?_
    refine Ev.seq ?_
    refine Ev.seqJ (γ := Bool) (fun v => ⟨[(0, .int .i64 a0), (1, .int .i64 a1), (2, .int .i64 a2), (3, .list 4 (List.map SKindWorkerJobValue.cells a3)), (4, .list 4 (List.map SKindWorkerJobValue.cells a4)), (5, .int .i64 a5), (33, .bool v)], [], 2⟩) (fun v => law6_WorkersResultsAreFinal_j1 n a0 a1 a2 a3 a4 a5 v = some r) ?_ ?_
    · refine W.reg hm ?_
      refine W.mv rfl ?_
      refine W.lenL (c := SKindWorkerJobValue.cells) rfl ?_
      refine W.gtr rfl rfl ?_
      refine W.mv rfl ?_
      refine W.split 29 rfl (fun c30 => ?_) (fun c30 => ?_)
      · replace h := iteT h c30
        refine W.guardF2 rfl c30 ?_
        refine W.guardF2 rfl c30 ?_
        refine W.guardF2 rfl c30 ?_
        refine W.pickT rfl rfl rfl c30 ?_
        refine W.nil ?_
        exact ⟨true, h, Wk.nrmTo [0, 1, 2, 3, 4, 5, 33] [] rfl rfl⟩
      · replace h := iteF h c30
        refine W.guardT rfl c30 ?_
        refine W.mv rfl ?_
        refine W.guardT rfl c30 ?_
        refine W.lenL (c := SKindWorkerJobValue.cells) rfl ?_
        refine W.guardT rfl c30 ?_
        refine W.gtr rfl rfl ?_
        refine W.pickN rfl rfl rfl c30 ?_
        refine W.nil ?_
        exact ⟨(decide (40 < (a4.length : Int))), h, Wk.nrmTo [0, 1, 2, 3, 4, 5, 33] [] rfl rfl⟩
    · intro x2 h
      try dsimp only at h ⊢
      unfold law6_WorkersResultsAreFinal_j1 at h
      refine Ev.cond rfl (fun c3 => ?_) (fun c3 => ?_)
      · replace h := iteT h c3
        refine Ev.seq ?_
        refine W.reg hm ?_
        refine W.mv rfl ?_
        refine W.nil ?_
        refine Ev.ret ?_
        injection h with h; subst h
        exact ⟨_, rfl, .refl _⟩
      · replace h := iteF h c3
        refine Ev.skip ?_
        refine Ev.seq ?_
        refine W.reg hm ?_
        refine W.mv rfl ?_
        refine W.nil ?_
        refine Ev.seq ?_
        refine W.reg hm ?_
        refine W.mv rfl ?_
        refine W.mv rfl ?_
        obtain ⟨w3, k4, h⟩ := obind h
        refine W.appN true (c := SKindWorkerJobValue.cells) (ys := a3) rfl rfl rfl rfl k4 rfl ?_
        refine W.mv rfl ?_
        refine W.nil ?_
        refine Ev.seq ?_
        refine W.reg hm ?_
        refine W.mv rfl ?_
        refine W.mv rfl ?_
        obtain ⟨w4, k5, h⟩ := obind h
        refine W.appR true (l := w3) (c := SKindWorkerJobValue.cells) (ys := a4) rfl rfl rfl rfl rfl rfl rfl rfl k5 rfl (by simp) ?_
        refine W.mv rfl ?_
        refine W.nil ?_
        refine Ev.seq ?_
        refine W.reg hm ?_
        refine W.mv rfl ?_
        refine W.mv rfl ?_
        refine W.mv rfl ?_
        refine W.mv rfl ?_
        obtain ⟨r5, k6, h⟩ := obind h
        refine W.call (workers_Play_spec n a0 a1 a2 a3 r5 k6) rfl rfl (Les.refl _) rfl (.inl rfl) rfl ?_
        refine W.mv rfl ?_
        refine W.extract rfl rfl ?_
        refine W.extract rfl rfl ?_
        refine W.alloc (dt := true) rfl rfl rfl ?_
        refine W.mv rfl ?_
        refine W.store (es' := [[.int .i64 r5.2.Code, .int .i64 r5.2.Index]]) (dt := true) rfl rfl rfl rfl rfl (Nat.le_of_ble_eq_true rfl) rfl rfl rfl rfl ?_
        refine W.nil ?_
        refine Ev.seq ?_
        refine Ev.weak ?_ (Wk.frz 39 2 rfl rfl)
        refine W.reg hm ?_
        refine W.mv rfl ?_
        refine W.mv rfl ?_
        refine W.mv rfl ?_
        refine W.mv rfl ?_
        obtain ⟨r6, k7, h⟩ := obind h
        refine W.call (workers_Play_spec n a0 a1 a2 w4 r6 k7) rfl rfl (Les.refl _) rfl (.inl rfl) rfl ?_
        refine W.mv rfl ?_
        refine W.extract rfl rfl ?_
        refine W.extract rfl rfl ?_
        refine W.alloc (dt := true) rfl rfl rfl ?_
        refine W.mv rfl ?_
        refine W.store (es' := [[.int .i64 r6.2.Code, .int .i64 r6.2.Index]]) (dt := true) rfl rfl rfl rfl rfl (Nat.le_of_ble_eq_true rfl) rfl rfl rfl rfl ?_
        refine W.nil ?_
        refine Ev.seq ?_
        refine W.reg hm ?_
        refine W.mv rfl ?_
        refine W.mv rfl ?_
        refine W.mv rfl ?_
        refine W.mv rfl ?_
        refine W.mv rfl ?_
        obtain ⟨r7, k8, h⟩ := obind h
        refine W.call (workers_Reports_spec n a0 a1 a2 a3 a5 r7 k8) rfl rfl (Les.refl _) rfl (.inl rfl) rfl ?_
        refine W.mv rfl ?_
        refine W.extract rfl rfl ?_
        refine W.extract rfl rfl ?_
        refine W.alloc (dt := true) rfl rfl rfl ?_
        refine W.mv rfl ?_
        refine W.store (es' := [[.int .i64 r7.2.Code, .int .i64 r7.2.Index]]) (dt := true) rfl rfl rfl rfl rfl (Nat.le_of_ble_eq_true rfl) rfl rfl rfl rfl ?_
        refine W.nil ?_
        refine Ev.seq ?_
        refine W.reg hm ?_
        refine W.mv rfl ?_
        refine W.mv rfl ?_
        refine W.mv rfl ?_
        refine W.mv rfl ?_
        refine W.mv rfl ?_
        obtain ⟨r8, k9, h⟩ := obind h
        refine W.call (workers_Reports_spec n a0 a1 a2 w4 a5 r8 k9) rfl rfl (Les.refl _) rfl (.inl rfl) rfl ?_
        refine W.mv rfl ?_
        refine W.extract rfl rfl ?_
        refine W.extract rfl rfl ?_
        refine W.alloc (dt := true) rfl rfl rfl ?_
        refine W.mv rfl ?_
        refine W.store (es' := [[.int .i64 r8.2.Code, .int .i64 r8.2.Index]]) (dt := true) rfl rfl rfl rfl rfl (Nat.le_of_ble_eq_true rfl) rfl rfl rfl rfl ?_
        refine W.nil ?_
        refine Ev.seq ?_
        refine Ev.seqJ (γ := Bool) (fun v => ⟨[(14, .list 1 (List.map cI r5.1)), (15, .pown 10200 0 0 0), (16, .list 1 (List.map cI r6.1)), (17, .pown 10201 0 0 0), (18, .list 1 (List.map cI r7.1)), (19, .pown 10202 0 0 0), (20, .list 1 (List.map cI r8.1)), (81, .bool v)], [(10200, ⟨0, 25, 2, [[.int .i64 r5.2.Code, .int .i64 r5.2.Index]], true, false, false⟩), (10201, ⟨0, 25, 2, [[.int .i64 r6.2.Code, .int .i64 r6.2.Index]], true, false, false⟩), (10202, ⟨0, 25, 2, [[.int .i64 r7.2.Code, .int .i64 r7.2.Index]], true, false, false⟩)], 2⟩) (fun v => law6_WorkersResultsAreFinal_j2 n r5 r6 r7 r8 v = some r) ?_ ?_
        · refine W.reg hm ?_
          refine W.fieldAddrO rfl rfl ?_
          refine W.loadO (p := .int .i64 r6.2.Code) rfl rfl rfl rfl ?_
          refine W.neq rfl rfl ?_
          refine W.mv rfl ?_
          refine W.split 77 rfl (fun c29 => ?_) (fun c29 => ?_)
          · replace h := iteT h c29
            refine W.guardF2 rfl c29 ?_
            refine W.guardF2 rfl c29 ?_
            refine W.guardF2 rfl c29 ?_
            refine W.pickT rfl rfl rfl c29 ?_
            refine W.nil ?_
            exact ⟨true, h, Wk.nrmTo [14, 15, 16, 17, 18, 19, 20, 81] [(15, 10200), (17, 10201), (19, 10202)] rfl rfl⟩
          · replace h := iteF h c29
            refine W.guardT rfl c29 ?_
            refine W.fieldAddrO rfl rfl ?_
            refine W.guardT rfl c29 ?_
            refine W.loadO (p := .int .i64 r8.2.Code) rfl rfl rfl rfl ?_
            refine W.guardT rfl c29 ?_
            refine W.neq rfl rfl ?_
            refine W.pickN rfl rfl rfl c29 ?_
            refine W.nil ?_
            exact ⟨(decide (r8.2.Code ≠ 0)), h, Wk.nrmTo [14, 15, 16, 17, 18, 19, 20, 81] [(15, 10200), (17, 10201), (19, 10202)] rfl rfl⟩
        · intro x9 h
          try dsimp only at h ⊢
          unfold law6_WorkersResultsAreFinal_j2 at h
          refine Ev.cond rfl (fun c10 => ?_) (fun c10 => ?_)
          · replace h := iteT h c10
            refine Ev.seqJ (γ := Bool) (fun v => ⟨[(12, .bool v)], [], 2⟩) (fun v => law6_WorkersResultsAreFinal_j3 n v = some r) ?_ ?_
            · refine W.reg hm ?_
              refine W.fieldAddrO rfl rfl ?_
              refine W.loadO (p := .int .i64 r6.2.Code) rfl rfl rfl rfl ?_
              refine W.eql rfl rfl ?_
              refine W.mv rfl ?_
              refine W.split 85 rfl (fun c11 => ?_) (fun c11 => ?_)
              · replace h := iteT h c11
                refine W.guardF2 rfl c11 ?_
                refine W.guardF2 rfl c11 ?_
                refine W.guardF2 rfl c11 ?_
                refine W.pickT rfl rfl rfl c11 ?_
                refine W.mv rfl ?_
                refine W.guardT rfl rfl ?_
                refine W.mv rfl ?_
                refine W.guardT rfl rfl ?_
                refine W.lenL (c := cI) rfl ?_
                refine W.guardT rfl rfl ?_
                refine W.eql rfl rfl ?_
                refine W.pickT rfl rfl rfl rfl ?_
                refine W.mv rfl ?_
                refine W.nil ?_
                exact ⟨(decide ((r8.1.length : Int) = 0)), h, Wk.nrmTo [12] [] rfl rfl⟩
              · replace h := iteF h c11
                refine W.guardT rfl c11 ?_
                refine W.mv rfl ?_
                refine W.guardT rfl c11 ?_
                refine W.lenL (c := cI) rfl ?_
                refine W.guardT rfl c11 ?_
                refine W.eql rfl rfl ?_
                refine W.pickN rfl rfl rfl c11 ?_
                refine W.mv rfl ?_
                refine W.split 90 rfl (fun c12 => ?_) (fun c12 => ?_)
                · replace h := iteT h c12
                  refine W.guardT rfl c12 ?_
                  refine W.mv rfl ?_
                  refine W.guardT rfl c12 ?_
                  refine W.lenL (c := cI) rfl ?_
                  refine W.guardT rfl c12 ?_
                  refine W.eql rfl rfl ?_
                  refine W.pickT rfl rfl rfl c12 ?_
                  refine W.mv rfl ?_
                  refine W.nil ?_
                  exact ⟨(decide ((r8.1.length : Int) = 0)), h, Wk.nrmTo [12] [] rfl rfl⟩
                · replace h := iteF h c12
                  refine W.guardF1 rfl c12 ?_
                  refine W.guardF1 rfl c12 ?_
                  refine W.guardF1 rfl c12 ?_
                  refine W.pickN rfl rfl rfl c12 ?_
                  refine W.mv rfl ?_
                  refine W.nil ?_
                  exact ⟨false, h, Wk.nrmTo [12] [] rfl rfl⟩
            · intro x10 h
              try dsimp only at h ⊢
              unfold law6_WorkersResultsAreFinal_j3 at h
              refine Ev.ret ?_
              injection h with h; subst h
              exact ⟨_, rfl, .refl _⟩
          · replace h := iteF h c10
            refine Ev.skip ?_
            refine Ev.seq ?_
            refine Ev.seqJ (γ := Bool) (fun v => ⟨[(14, .list 1 (List.map cI r5.1)), (16, .list 1 (List.map cI r6.1)), (18, .list 1 (List.map cI r7.1)), (20, .list 1 (List.map cI r8.1)), (116, .bool v)], [], 2⟩) (fun v => law6_WorkersResultsAreFinal_j4 n r5 r6 r7 r8 v = some r) ?_ ?_
            · refine W.reg hm ?_
              refine W.fieldAddrO rfl rfl ?_
              refine W.loadO (p := .int .i64 r5.2.Code) rfl rfl rfl rfl ?_
              refine W.neq rfl rfl ?_
              refine W.mv rfl ?_
              refine W.split 98 rfl (fun c26 => ?_) (fun c26 => ?_)
              · replace h := iteT h c26
                refine W.guardF2 rfl c26 ?_
                refine W.guardF2 rfl c26 ?_
                refine W.guardF2 rfl c26 ?_
                refine W.pickT rfl rfl rfl c26 ?_
                refine W.mv rfl ?_
                refine W.guardF2 rfl rfl ?_
                refine W.guardF2 rfl rfl ?_
                refine W.guardF2 rfl rfl ?_
                refine W.guardF2 rfl rfl ?_
                refine W.guardF2 rfl rfl ?_
                refine W.pickT rfl rfl rfl rfl ?_
                refine W.mv rfl ?_
                refine W.guardF2 rfl rfl ?_
                refine W.guardF2 rfl rfl ?_
                refine W.guardF2 rfl rfl ?_
                refine W.guardF2 rfl rfl ?_
                refine W.guardF2 rfl rfl ?_
                refine W.pickT rfl rfl rfl rfl ?_
                refine W.nil ?_
                exact ⟨true, h, Wk.nrmTo [14, 16, 18, 20, 116] [] rfl rfl⟩
              · replace h := iteF h c26
                refine W.guardT rfl c26 ?_
                refine W.fieldAddrO rfl rfl ?_
                refine W.guardT rfl c26 ?_
                refine W.loadO (p := .int .i64 r7.2.Code) rfl rfl rfl rfl ?_
                refine W.guardT rfl c26 ?_
                refine W.neq rfl rfl ?_
                refine W.pickN rfl rfl rfl c26 ?_
                refine W.mv rfl ?_
                refine W.split 103 rfl (fun c27 => ?_) (fun c27 => ?_)
                · replace h := iteT h c27
                  refine W.guardF2 rfl c27 ?_
                  refine W.guardF2 rfl c27 ?_
                  refine W.guardF2 rfl c27 ?_
                  refine W.guardF2 rfl c27 ?_
                  refine W.guardF2 rfl c27 ?_
                  refine W.pickT rfl rfl rfl c27 ?_
                  refine W.mv rfl ?_
                  refine W.guardF2 rfl rfl ?_
                  refine W.guardF2 rfl rfl ?_
                  refine W.guardF2 rfl rfl ?_
                  refine W.guardF2 rfl rfl ?_
                  refine W.guardF2 rfl rfl ?_
                  refine W.pickT rfl rfl rfl rfl ?_
                  refine W.nil ?_
                  exact ⟨true, h, Wk.nrmTo [14, 16, 18, 20, 116] [] rfl rfl⟩
                · replace h := iteF h c27
                  refine W.guardT rfl c27 ?_
                  refine W.mv rfl ?_
                  refine W.guardT rfl c27 ?_
                  refine W.lenL (c := cI) rfl ?_
                  refine W.guardT rfl c27 ?_
                  refine W.mv rfl ?_
                  refine W.guardT rfl c27 ?_
                  refine W.lenL (c := cI) rfl ?_
                  refine W.guardT rfl c27 ?_
                  refine W.neq rfl rfl ?_
                  refine W.pickN rfl rfl rfl c27 ?_
                  refine W.mv rfl ?_
                  refine W.split 110 rfl (fun c28 => ?_) (fun c28 => ?_)
                  · replace h := iteT h c28
                    refine W.guardF2 rfl c28 ?_
                    refine W.guardF2 rfl c28 ?_
                    refine W.guardF2 rfl c28 ?_
                    refine W.guardF2 rfl c28 ?_
                    refine W.guardF2 rfl c28 ?_
                    refine W.pickT rfl rfl rfl c28 ?_
                    refine W.nil ?_
                    exact ⟨true, h, Wk.nrmTo [14, 16, 18, 20, 116] [] rfl rfl⟩
                  · replace h := iteF h c28
                    refine W.guardT rfl c28 ?_
                    refine W.mv rfl ?_
                    refine W.guardT rfl c28 ?_
                    refine W.lenL (c := cI) rfl ?_
                    refine W.guardT rfl c28 ?_
                    refine W.mv rfl ?_
                    refine W.guardT rfl c28 ?_
                    refine W.lenL (c := cI) rfl ?_
                    refine W.guardT rfl c28 ?_
                    refine W.neq rfl rfl ?_
                    refine W.pickN rfl rfl rfl c28 ?_
                    refine W.nil ?_
                    exact ⟨(decide ((r7.1.length : Int) ≠ (r8.1.length : Int))), h, Wk.nrmTo [14, 16, 18, 20, 116] [] rfl rfl⟩
            · intro x11 h
              try dsimp only at h ⊢
              unfold law6_WorkersResultsAreFinal_j4 at h
              refine Ev.cond rfl (fun c13 => ?_) (fun c13 => ?_)
              · replace h := iteT h c13
                refine Ev.seq ?_
                refine W.reg hm ?_
                refine W.mv rfl ?_
                refine W.nil ?_
                refine Ev.ret ?_
                injection h with h; subst h
                exact ⟨_, rfl, .refl _⟩
              · replace h := iteF h c13
                refine Ev.skip ?_
                refine Ev.seq ?_
                refine Ev.seq ?_
                refine W.reg hm ?_
                refine W.mv rfl ?_
                refine W.nil ?_
                refine Ev.block ?_
                refine Ev.loopW (β := Nat × Int) (fun v => ⟨[(14, .list 1 (List.map cI r5.1)), (16, .list 1 (List.map cI r6.1)), (18, .list 1 (List.map cI r7.1)), (20, .list 1 (List.map cI r8.1)), (22, .int .i64 v.2)], [], 2⟩) (fun v => law6_WorkersResultsAreFinal_l1 n r5 r6 r7 r8 v.1 v.2 = some r) (fun v => v.1) (n, 0) (Wk.nrmTo [14, 16, 18, 20, 22] [] rfl rfl) h ?_
                intro ⟨m1, x12⟩ h
                try dsimp only at h ⊢
                cases m1 with
                | zero => rw [law6_WorkersResultsAreFinal_l1] at h; cases h
                | succ m1 =>
                  rw [law6_WorkersResultsAreFinal_l1] at h
                  refine Ev.seq ?_
                  refine Ev.seq ?_
                  refine W.reg hm ?_
                  refine W.mv rfl ?_
                  refine W.mv rfl ?_
                  refine W.lenL (c := cI) rfl ?_
                  refine W.lss rfl rfl ?_
                  refine W.nil ?_
                  refine Ev.cond rfl (fun c14 => ?_) (fun c14 => ?_)
                  · replace h := iteT h c14
                    refine Ev.skip ?_
                    refine Ev.seq ?_
                    refine Ev.block ?_
                    refine Ev.seqJ (γ := Bool) (fun v => ⟨[(14, .list 1 (List.map cI r5.1)), (16, .list 1 (List.map cI r6.1)), (18, .list 1 (List.map cI r7.1)), (20, .list 1 (List.map cI r8.1)), (22, .int .i64 x12), (138, .bool v)], [], 2⟩) (fun v => law6_WorkersResultsAreFinal_j5 n x12 (law6_WorkersResultsAreFinal_l1 n r5 r6 r7 r8 m1) v = some r) ?_ ?_
                    · refine W.regD hm ?_
                      refine W.mv rfl ?_
                      refine W.mv rfl ?_
                      obtain ⟨e15, k17, h⟩ := obind h
                      refine W.idxL (c := cI) rfl rfl k17 ?_
                      refine W.load rfl rfl ?_
                      refine W.geq rfl rfl ?_
                      refine W.mv rfl ?_
                      refine W.split 128 rfl (fun c18 => ?_) (fun c18 => ?_)
                      · replace h := iteT h c18
                        refine W.guardT rfl c18 ?_
                        refine W.mv rfl ?_
                        refine W.guardT rfl c18 ?_
                        refine W.mv rfl ?_
                        refine W.guardT rfl c18 ?_
                        obtain ⟨e16, k19, h⟩ := obind h
                        refine W.idxL (c := cI) rfl rfl k19 ?_
                        refine W.guardT rfl c18 ?_
                        refine W.load rfl rfl ?_
                        refine W.guardT rfl c18 ?_
                        refine W.mv rfl ?_
                        refine W.guardT rfl c18 ?_
                        refine W.mv rfl ?_
                        refine W.guardT rfl c18 ?_
                        refine W.idxL (c := cI) rfl rfl k17 ?_
                        refine W.guardT rfl c18 ?_
                        refine W.load rfl rfl ?_
                        refine W.guardT rfl c18 ?_
                        refine W.neq rfl rfl ?_
                        refine W.pickT rfl rfl rfl c18 ?_
                        refine W.nil ⟨rfl, ?_⟩
                        exact ⟨(decide (e16 ≠ e15)), h, Wk.nrmTo [14, 16, 18, 20, 22, 138] [] rfl rfl⟩
                      · replace h := iteF h c18
                        refine W.guardF1 rfl c18 ?_
                        refine W.guardF1 rfl c18 ?_
                        refine W.guardF1 rfl c18 ?_
                        refine W.guardF1 rfl c18 ?_
                        refine W.guardF1 rfl c18 ?_
                        refine W.guardF1 rfl c18 ?_
                        refine W.guardF1 rfl c18 ?_
                        refine W.guardF1 rfl c18 ?_
                        refine W.guardF1 rfl c18 ?_
                        refine W.pickN rfl rfl rfl c18 ?_
                        refine W.nil ⟨rfl, ?_⟩
                        exact ⟨false, h, Wk.nrmTo [14, 16, 18, 20, 22, 138] [] rfl rfl⟩
                    · intro x13 h
                      try dsimp only at h ⊢
                      unfold law6_WorkersResultsAreFinal_j5 at h
                      refine Ev.cond rfl (fun c15 => ?_) (fun c15 => ?_)
                      · replace h := iteT h c15
                        refine Ev.seq ?_
                        refine W.reg hm ?_
                        refine W.mv rfl ?_
                        refine W.nil ?_
                        refine Ev.ret ?_
                        injection h with h; subst h
                        exact ⟨_, rfl, .refl _⟩
                      · replace h := iteF h c15
                        refine Ev.skip ?_
                        refine W.reg hm ?_
                        refine W.mv rfl ?_
                        obtain ⟨x14, k16, h⟩ := obind h
                        refine W.addG rfl rfl k16 ?_
                        refine W.mv rfl ?_
                        refine W.nil ?_
                        exact ⟨(m1, x14), h, Nat.lt_succ_self _, Wk.nrmTo [14, 16, 18, 20, 22] [] rfl rfl⟩
                  · replace h := iteF h c14
                    refine Ev.exit ?_
                    refine Ev.seq ?_
                    refine Ev.seq ?_
                    refine W.reg hm ?_
                    refine W.mv rfl ?_
                    refine W.nil ?_
                    refine Ev.block ?_
                    refine Ev.loopW (β := Nat × Int) (fun v => ⟨[(18, .list 1 (List.map cI r7.1)), (20, .list 1 (List.map cI r8.1)), (23, .int .i64 v.2)], [], 2⟩) (fun v => law6_WorkersResultsAreFinal_l2 n r7 r8 v.1 v.2 = some r) (fun v => v.1) (n, 0) (Wk.nrmTo [18, 20, 23] [] rfl rfl) h ?_
                    intro ⟨m2, x17⟩ h
                    try dsimp only at h ⊢
                    cases m2 with
                    | zero => rw [law6_WorkersResultsAreFinal_l2] at h; cases h
                    | succ m2 =>
                      rw [law6_WorkersResultsAreFinal_l2] at h
                      refine Ev.seq ?_
                      refine Ev.seq ?_
                      refine W.reg hm ?_
                      refine W.mv rfl ?_
                      refine W.mv rfl ?_
                      refine W.lenL (c := cI) rfl ?_
                      refine W.lss rfl rfl ?_
                      refine W.nil ?_
                      refine Ev.cond rfl (fun c20 => ?_) (fun c20 => ?_)
                      · replace h := iteT h c20
                        refine Ev.skip ?_
                        refine Ev.seq ?_
                        refine Ev.block ?_
                        refine Ev.seqJ (γ := Bool) (fun v => ⟨[(18, .list 1 (List.map cI r7.1)), (20, .list 1 (List.map cI r8.1)), (23, .int .i64 x17), (160, .bool v)], [], 2⟩) (fun v => law6_WorkersResultsAreFinal_j6 n x17 (law6_WorkersResultsAreFinal_l2 n r7 r8 m2) v = some r) ?_ ?_
                        · refine W.regD hm ?_
                          refine W.mv rfl ?_
                          refine W.mv rfl ?_
                          obtain ⟨e20, k23, h⟩ := obind h
                          refine W.idxL (c := cI) rfl rfl k23 ?_
                          refine W.load rfl rfl ?_
                          refine W.geq rfl rfl ?_
                          refine W.mv rfl ?_
                          refine W.split 150 rfl (fun c24 => ?_) (fun c24 => ?_)
                          · replace h := iteT h c24
                            refine W.guardT rfl c24 ?_
                            refine W.mv rfl ?_
                            refine W.guardT rfl c24 ?_
                            refine W.mv rfl ?_
                            refine W.guardT rfl c24 ?_
                            obtain ⟨e21, k25, h⟩ := obind h
                            refine W.idxL (c := cI) rfl rfl k25 ?_
                            refine W.guardT rfl c24 ?_
                            refine W.load rfl rfl ?_
                            refine W.guardT rfl c24 ?_
                            refine W.mv rfl ?_
                            refine W.guardT rfl c24 ?_
                            refine W.mv rfl ?_
                            refine W.guardT rfl c24 ?_
                            refine W.idxL (c := cI) rfl rfl k23 ?_
                            refine W.guardT rfl c24 ?_
                            refine W.load rfl rfl ?_
                            refine W.guardT rfl c24 ?_
                            refine W.neq rfl rfl ?_
                            refine W.pickT rfl rfl rfl c24 ?_
                            refine W.nil ⟨rfl, ?_⟩
                            exact ⟨(decide (e21 ≠ e20)), h, Wk.nrmTo [18, 20, 23, 160] [] rfl rfl⟩
                          · replace h := iteF h c24
                            refine W.guardF1 rfl c24 ?_
                            refine W.guardF1 rfl c24 ?_
                            refine W.guardF1 rfl c24 ?_
                            refine W.guardF1 rfl c24 ?_
                            refine W.guardF1 rfl c24 ?_
                            refine W.guardF1 rfl c24 ?_
                            refine W.guardF1 rfl c24 ?_
                            refine W.guardF1 rfl c24 ?_
                            refine W.guardF1 rfl c24 ?_
                            refine W.pickN rfl rfl rfl c24 ?_
                            refine W.nil ⟨rfl, ?_⟩
                            exact ⟨false, h, Wk.nrmTo [18, 20, 23, 160] [] rfl rfl⟩
                        · intro x18 h
                          try dsimp only at h ⊢
                          unfold law6_WorkersResultsAreFinal_j6 at h
                          refine Ev.cond rfl (fun c21 => ?_) (fun c21 => ?_)
                          · replace h := iteT h c21
                            refine Ev.seq ?_
                            refine W.reg hm ?_
                            refine W.mv rfl ?_
                            refine W.nil ?_
                            refine Ev.ret ?_
                            injection h with h; subst h
                            exact ⟨_, rfl, .refl _⟩
                          · replace h := iteF h c21
                            refine Ev.skip ?_
                            refine W.reg hm ?_
                            refine W.mv rfl ?_
                            obtain ⟨x19, k22, h⟩ := obind h
                            refine W.addG rfl rfl k22 ?_
                            refine W.mv rfl ?_
                            refine W.nil ?_
                            exact ⟨(m2, x19), h, Nat.lt_succ_self _, Wk.nrmTo [18, 20, 23] [] rfl rfl⟩
                      · replace h := iteF h c20
                        refine Ev.exit ?_
                        refine Ev.seq ?_
                        refine W.reg hm ?_
                        refine W.mv rfl ?_
                        refine W.nil ?_
                        refine Ev.ret ?_
                        injection h with h; subst h
                        exact ⟨_, rfl, .refl _⟩

theorem law6_WorkersAssignmentsArePermitted_spec (n : Nat) (a0 : Int) (a1 : Int) (a2 : Int) (a3 : List SKindWorkerJobValue) (r : Bool) (h : law6_WorkersAssignmentsArePermitted n a0 a1 a2 a3 = some r) : PSpec Try.prog 8 [.int .i64 a0, .int .i64 a1, .int .i64 a2, .list 4 (List.map SKindWorkerJobValue.cells a3)] (.bool r) := by
  unfold law6_WorkersAssignmentsArePermitted at h
  refine spec_of Try.c_law6_WorkersAssignmentsArePermitted (by simp) ?_
  unfold Try.l_law6_WorkersAssignmentsArePermitted
  refine Ev.seq ?_
  refine W.reg hm ?_
  refine W.mv rfl ?_
  refine W.nil ?_
  refine Ev.seq ?_
  refine W.reg hm ?_
  refine W.mv rfl ?_
  refine W.mv rfl ?_
  refine W.mv rfl ?_
  refine W.mv rfl ?_
  obtain ⟨r1, k1, h⟩ := obind h
  refine W.call (workers_Next_spec n a0 a1 a2 a3 r1 k1) rfl rfl (Les.refl _) rfl (.inl rfl) rfl ?_
  refine W.mv rfl ?_
  refine W.extract rfl rfl ?_
  refine W.extract rfl rfl ?_
  refine W.extract rfl rfl ?_
  refine W.extract rfl rfl ?_
  refine W.alloc (dt := true) rfl rfl rfl ?_
  refine W.mv rfl ?_
  refine W.mv rfl ?_
  refine W.mv rfl ?_
  refine W.store (es' := [[.int .i64 r1.2.2.2.Code, .int .i64 r1.2.2.2.Index]]) (dt := true) rfl rfl rfl rfl rfl (Nat.le_of_ble_eq_true rfl) rfl rfl rfl rfl ?_
  refine W.nil ?_
  refine Ev.seq ?_
  refine Ev.seqJ (γ := Bool) (fun v => ⟨[(0, .int .i64 a0), (1, .int .i64 a1), (2, .int .i64 a2), (3, .list 4 (List.map SKindWorkerJobValue.cells a3)), (9, .int .i64 r1.1), (10, .int .i64 r1.2.1), (11, .bool r1.2.2.1), (38, .bool v)], [], 2⟩) (fun v => law6_WorkersAssignmentsArePermitted_j1 n a0 a1 a2 a3 r1 v = some r) ?_ ?_
  · refine W.reg hm ?_
    obtain ⟨r22, k28, h⟩ := obind h
    refine W.call (law6_farms_spec n r22 k28) rfl rfl (Les.refl _) rfl (.inl rfl) rfl ?_
    refine W.not rfl ?_
    refine W.mv rfl ?_
    refine W.split 34 rfl (fun c29 => ?_) (fun c29 => ?_)
    · replace h := iteT h c29
      refine W.guardF2 rfl c29 ?_
      refine W.guardF2 rfl c29 ?_
      refine W.guardF2 rfl c29 ?_
      refine W.pickT rfl rfl rfl c29 ?_
      refine W.nil ?_
      exact ⟨true, h, Wk.nrmTo [0, 1, 2, 3, 9, 10, 11, 38] [] rfl rfl⟩
    · replace h := iteF h c29
      refine W.guardT rfl c29 ?_
      refine W.fieldAddrO rfl rfl ?_
      refine W.guardT rfl c29 ?_
      refine W.loadO (p := .int .i64 r1.2.2.2.Code) rfl rfl rfl rfl ?_
      refine W.guardT rfl c29 ?_
      refine W.neq rfl rfl ?_
      refine W.pickN rfl rfl rfl c29 ?_
      refine W.nil ?_
      exact ⟨(decide (r1.2.2.2.Code ≠ 0)), h, Wk.nrmTo [0, 1, 2, 3, 9, 10, 11, 38] [] rfl rfl⟩
  · intro x2 h
    try dsimp only at h ⊢
    unfold law6_WorkersAssignmentsArePermitted_j1 at h
    refine Ev.cond rfl (fun c2 => ?_) (fun c2 => ?_)
    · replace h := iteT h c2
      refine Ev.seqJ (γ := Bool) (fun v => ⟨[(8, .bool v)], [], 2⟩) (fun v => law6_WorkersAssignmentsArePermitted_j2 n v = some r) ?_ ?_
      · refine W.reg hm ?_
        obtain ⟨r4, k3, h⟩ := obind h
        refine W.call (law6_farms_spec n r4 k3) rfl rfl (Les.refl _) rfl (.inl rfl) rfl ?_
        refine W.mv rfl ?_
        refine W.split 40 rfl (fun c4 => ?_) (fun c4 => ?_)
        · replace h := iteT h c4
          refine W.guardT rfl c4 ?_
          refine W.mv rfl ?_
          refine W.guardT rfl c4 ?_
          refine W.not rfl ?_
          refine W.pickT rfl rfl rfl c4 ?_
          refine W.mv rfl ?_
          refine W.nil ?_
          exact ⟨(!r1.2.2.1), h, Wk.nrmTo [8] [] rfl rfl⟩
        · replace h := iteF h c4
          refine W.guardF1 rfl c4 ?_
          refine W.guardF1 rfl c4 ?_
          refine W.pickN rfl rfl rfl c4 ?_
          refine W.mv rfl ?_
          refine W.nil ?_
          exact ⟨false, h, Wk.nrmTo [8] [] rfl rfl⟩
      · intro x3 h
        try dsimp only at h ⊢
        unfold law6_WorkersAssignmentsArePermitted_j2 at h
        refine Ev.ret ?_
        injection h with h; subst h
        exact ⟨_, rfl, .refl _⟩
    · replace h := iteF h c2
      refine Ev.skip ?_
      refine Ev.seq ?_
      refine Ev.seq ?_
      refine W.reg hm ?_
      refine W.mv rfl ?_
      refine W.lenL (c := SKindWorkerJobValue.cells) rfl ?_
      refine W.gtr rfl rfl ?_
      refine W.nil ?_
      refine Ev.cond rfl (fun c5 => ?_) (fun c5 => ?_)
      · replace h := iteT h c5
        refine Ev.seq ?_
        refine W.reg hm ?_
        refine W.mv rfl ?_
        refine W.lenL (c := SKindWorkerJobValue.cells) rfl ?_
        refine W.eql rfl rfl ?_
        refine W.mv rfl ?_
        refine W.nil ?_
        refine Ev.ret ?_
        injection h with h; subst h
        exact ⟨_, rfl, .refl _⟩
      · replace h := iteF h c5
        refine Ev.skip ?_
        refine Ev.seq ?_
        refine Ev.seq ?_
        refine W.reg hm ?_
        refine W.mv rfl ?_
        refine W.nil ?_
        refine Ev.cond rfl (fun c6 => ?_) (fun c6 => ?_)
        · replace h := iteT h c6
          refine Ev.seq ?_
          refine W.reg hm ?_
          refine W.mv rfl ?_
          refine W.nil ?_
          refine Ev.seq ?_
          refine W.reg hm ?_
          refine W.mv rfl ?_
          refine W.mv rfl ?_
          obtain ⟨w5, k7, h⟩ := obind h
          refine W.appN true (c := SKindWorkerJobValue.cells) (ys := a3) rfl rfl rfl rfl k7 rfl ?_
          refine W.mv rfl ?_
          refine W.nil ?_
          refine Ev.seq ?_
          refine W.reg hm ?_
          refine W.mv rfl ?_
          refine W.mv rfl ?_
          refine W.mv rfl ?_
          refine W.build (cs := [.int .i64 1, .int .i64 r1.2.1, .int .i64 r1.1, .int .i64 0]) rfl rfl rfl ?_
          refine W.mkSlice (dt := true) (es := [[.int .i64 1, .int .i64 r1.2.1, .int .i64 r1.1, .int .i64 0]]) rfl rfl rfl rfl rfl rfl ?_
          obtain ⟨w6, k8, h⟩ := obind h
          refine W.appR true (l := w5) (c := SKindWorkerJobValue.cells) (ys := ([(⟨1, r1.2.1, r1.1, 0⟩ : SKindWorkerJobValue)] : List SKindWorkerJobValue)) rfl rfl rfl rfl rfl rfl rfl rfl k8 rfl (by simp) ?_
          refine W.mv rfl ?_
          refine W.nil ?_
          refine Ev.seq ?_
          refine Ev.weak ?_ (Wk.frz 59 2 rfl rfl)
          refine W.reg hm ?_
          refine W.mv rfl ?_
          refine W.mv rfl ?_
          refine W.mv rfl ?_
          refine W.mv rfl ?_
          obtain ⟨r7, k9, h⟩ := obind h
          refine W.call (workers_Play_spec n a0 a1 a2 w6 r7 k9) rfl rfl (Les.refl _) rfl (.inl rfl) rfl ?_
          refine W.mv rfl ?_
          refine W.extract rfl rfl ?_
          refine W.extract rfl rfl ?_
          refine W.alloc (dt := true) rfl rfl rfl ?_
          refine W.mv rfl ?_
          refine W.store (es' := [[.int .i64 r7.2.Code, .int .i64 r7.2.Index]]) (dt := true) rfl rfl rfl rfl rfl (Nat.le_of_ble_eq_true rfl) rfl rfl rfl rfl ?_
          refine W.nil ?_
          refine Ev.seqJ (γ := Bool) (fun v => ⟨[(8, .bool v)], [], 2⟩) (fun v => law6_WorkersAssignmentsArePermitted_j3 n v = some r) ?_ ?_
          · refine W.reg hm ?_
            refine W.fieldAddrO rfl rfl ?_
            refine W.loadO (p := .int .i64 r7.2.Code) rfl rfl rfl rfl ?_
            refine W.eql rfl rfl ?_
            refine W.mv rfl ?_
            refine W.split 71 rfl (fun c10 => ?_) (fun c10 => ?_)
            · replace h := iteT h c10
              refine W.guardT rfl c10 ?_
              refine W.mv rfl ?_
              refine W.guardT rfl c10 ?_
              refine W.mv rfl ?_
              refine W.guardT rfl c10 ?_
              refine W.lenL (c := cI) rfl ?_
              refine W.guardT rfl c10 ?_
              obtain ⟨x9, k11, h⟩ := obind h
              refine W.subG rfl rfl k11 ?_
              refine W.guardT rfl c10 ?_
              obtain ⟨r10, k12, h⟩ := obind h
              refine W.call (law6_in_spec n r1.1 0 x9 r10 k12) rfl rfl (Les.refl _) rfl (.inl rfl) rfl ?_
              refine W.pickT rfl rfl rfl c10 ?_
              refine W.mv rfl ?_
              refine W.split 78 rfl (fun c13 => ?_) (fun c13 => ?_)
              · replace h := iteT h c13
                refine W.guardT rfl c13 ?_
                refine W.mv rfl ?_
                refine W.guardT rfl c13 ?_
                refine W.mv rfl ?_
                refine W.guardT rfl c13 ?_
                obtain ⟨e11, k14, h⟩ := obind h
                refine W.idxL (c := cI) rfl rfl k14 ?_
                refine W.guardT rfl c13 ?_
                refine W.load rfl rfl ?_
                refine W.guardT rfl c13 ?_
                refine W.eql rfl rfl ?_
                refine W.pickT rfl rfl rfl c13 ?_
                refine W.mv rfl ?_
                refine W.nil ?_
                exact ⟨(decide (e11 = (-1))), h, Wk.nrmTo [8] [] rfl rfl⟩
              · replace h := iteF h c13
                refine W.guardF1 rfl c13 ?_
                refine W.guardF1 rfl c13 ?_
                refine W.guardF1 rfl c13 ?_
                refine W.guardF1 rfl c13 ?_
                refine W.guardF1 rfl c13 ?_
                refine W.pickN rfl rfl rfl c13 ?_
                refine W.mv rfl ?_
                refine W.nil ?_
                exact ⟨false, h, Wk.nrmTo [8] [] rfl rfl⟩
            · replace h := iteF h c10
              refine W.guardF1 rfl c10 ?_
              refine W.guardF1 rfl c10 ?_
              refine W.guardF1 rfl c10 ?_
              refine W.guardF1 rfl c10 ?_
              refine W.guardF1 rfl c10 ?_
              refine W.pickN rfl rfl rfl c10 ?_
              refine W.mv rfl ?_
              refine W.guardF1 rfl rfl ?_
              refine W.guardF1 rfl rfl ?_
              refine W.guardF1 rfl rfl ?_
              refine W.guardF1 rfl rfl ?_
              refine W.guardF1 rfl rfl ?_
              refine W.pickN rfl rfl rfl rfl ?_
              refine W.mv rfl ?_
              refine W.nil ?_
              exact ⟨false, h, Wk.nrmTo [8] [] rfl rfl⟩
          · intro x8 h
            try dsimp only at h ⊢
            unfold law6_WorkersAssignmentsArePermitted_j3 at h
            refine Ev.ret ?_
            injection h with h; subst h
            exact ⟨_, rfl, .refl _⟩
        · replace h := iteF h c6
          refine Ev.skip ?_
          refine Ev.seq ?_
          refine W.reg hm ?_
          refine W.mv rfl ?_
          refine W.mv rfl ?_
          refine W.mv rfl ?_
          refine W.mv rfl ?_
          obtain ⟨r12, k15, h⟩ := obind h
          refine W.call (workers_Play_spec n a0 a1 a2 a3 r12 k15) rfl rfl (Les.refl _) rfl (.inl rfl) rfl ?_
          refine W.mv rfl ?_
          refine W.extract rfl rfl ?_
          refine W.extract rfl rfl ?_
          refine W.alloc (dt := true) rfl rfl rfl ?_
          refine W.mv rfl ?_
          refine W.store (es' := [[.int .i64 r12.2.Code, .int .i64 r12.2.Index]]) (dt := true) rfl rfl rfl rfl rfl (Nat.le_of_ble_eq_true rfl) rfl rfl rfl rfl ?_
          refine W.nil ?_
          refine Ev.seq ?_
          refine Ev.seq ?_
          refine W.reg hm ?_
          refine W.mv rfl ?_
          refine W.nil ?_
          refine Ev.block ?_
          refine Ev.loopW (β := Nat × Int) (fun v => ⟨[(0, .int .i64 a0), (1, .int .i64 a1), (2, .int .i64 a2), (3, .list 4 (List.map SKindWorkerJobValue.cells a3)), (16, .list 1 (List.map cI r12.1)), (17, .pown 10200 0 0 0), (18, .int .i64 v.2)], [(10200, ⟨0, 25, 2, [[.int .i64 r12.2.Code, .int .i64 r12.2.Index]], true, false, false⟩)], 2⟩) (fun v => law6_WorkersAssignmentsArePermitted_l1 n a0 a1 a2 a3 r12 v.1 v.2 = some r) (fun v => v.1) (n, 0) (Wk.nrmTo [0, 1, 2, 3, 16, 17, 18] [(17, 10200)] rfl rfl) h ?_
          intro ⟨m1, x13⟩ h
          try dsimp only at h ⊢
          cases m1 with
          | zero => rw [law6_WorkersAssignmentsArePermitted_l1] at h; cases h
          | succ m1 =>
            rw [law6_WorkersAssignmentsArePermitted_l1] at h
            refine Ev.seq ?_
            refine Ev.seq ?_
            refine W.reg hm ?_
            refine W.mv rfl ?_
            refine W.mv rfl ?_
            refine W.lenL (c := cI) rfl ?_
            refine W.lss rfl rfl ?_
            refine W.nil ?_
            refine Ev.cond rfl (fun c16 => ?_) (fun c16 => ?_)
            · replace h := iteT h c16
              refine Ev.skip ?_
              refine Ev.seq ?_
              refine Ev.block ?_
              refine Ev.seq ?_
              refine W.reg hm ?_
              refine W.mv rfl ?_
              refine W.mv rfl ?_
              refine W.mv rfl ?_
              refine W.mv rfl ?_
              refine W.mv rfl ?_
              obtain ⟨r14, k17, h⟩ := obind h
              refine W.call (workers_Reports_spec n a0 a1 a2 a3 x13 r14 k17) rfl rfl (Les.refl _) rfl (.inl rfl) rfl ?_
              refine W.mv rfl ?_
              refine W.extract rfl rfl ?_
              refine W.extract rfl rfl ?_
              refine W.alloc (dt := true) rfl rfl rfl ?_
              refine W.mv rfl ?_
              refine W.store (es' := [[.int .i64 r14.2.Code, .int .i64 r14.2.Index]]) (dt := true) rfl rfl rfl rfl rfl (Nat.le_of_ble_eq_true rfl) rfl rfl rfl rfl ?_
              refine W.nil ?_
              refine Ev.seq ?_
              refine Ev.seq ?_
              refine W.reg hm ?_
              refine W.mv rfl ?_
              refine W.nil ?_
              refine Ev.block ?_
              refine Ev.loopW (β := Nat × Int) (fun v => ⟨[(0, .int .i64 a0), (1, .int .i64 a1), (2, .int .i64 a2), (3, .list 4 (List.map SKindWorkerJobValue.cells a3)), (16, .list 1 (List.map cI r12.1)), (17, .pown 10300 0 0 0), (18, .int .i64 x13), (19, .list 1 (List.map cI r14.1)), (20, .pown 10301 0 0 0), (21, .int .i64 v.2)], [(10300, ⟨0, 25, 2, [[.int .i64 r12.2.Code, .int .i64 r12.2.Index]], true, false, false⟩), (10301, ⟨0, 25, 2, [[.int .i64 r14.2.Code, .int .i64 r14.2.Index]], true, false, false⟩)], 2⟩) (fun v => law6_WorkersAssignmentsArePermitted_l2 n a3 r12 x13 (law6_WorkersAssignmentsArePermitted_l1 n a0 a1 a2 a3 r12 m1) r14 v.1 v.2 = some r) (fun v => v.1) (n, 0) (Wk.nrmTo [0, 1, 2, 3, 16, 17, 18, 19, 20, 21] [(10200, 10300), (20, 10301)] rfl rfl) h ?_
              intro ⟨m2, x15⟩ h
              try dsimp only at h ⊢
              cases m2 with
              | zero => rw [law6_WorkersAssignmentsArePermitted_l2] at h; cases h
              | succ m2 =>
                rw [law6_WorkersAssignmentsArePermitted_l2] at h
                refine Ev.seq ?_
                refine Ev.seq ?_
                refine W.reg hm ?_
                refine W.mv rfl ?_
                refine W.mv rfl ?_
                refine W.lenL (c := cI) rfl ?_
                refine W.lss rfl rfl ?_
                refine W.nil ?_
                refine Ev.cond rfl (fun c18 => ?_) (fun c18 => ?_)
                · replace h := iteT h c18
                  refine Ev.skip ?_
                  refine Ev.seq ?_
                  refine Ev.block ?_
                  refine Ev.seqJ (γ := Bool) (fun v => ⟨[(0, .int .i64 a0), (1, .int .i64 a1), (2, .int .i64 a2), (3, .list 4 (List.map SKindWorkerJobValue.cells a3)), (16, .list 1 (List.map cI r12.1)), (17, .pown 10400 0 0 0), (18, .int .i64 x13), (19, .list 1 (List.map cI r14.1)), (20, .pown 10401 0 0 0), (21, .int .i64 x15), (131, .bool v)], [(10400, ⟨0, 25, 2, [[.int .i64 r12.2.Code, .int .i64 r12.2.Index]], true, false, false⟩), (10401, ⟨0, 25, 2, [[.int .i64 r14.2.Code, .int .i64 r14.2.Index]], true, false, false⟩)], 2⟩) (fun v => law6_WorkersAssignmentsArePermitted_j4 n x15 (law6_WorkersAssignmentsArePermitted_l2 n a3 r12 x13 (law6_WorkersAssignmentsArePermitted_l1 n a0 a1 a2 a3 r12 m1) r14 m2) v = some r) ?_ ?_
                  · refine W.reg hm ?_
                    refine W.mv rfl ?_
                    refine W.mv rfl ?_
                    obtain ⟨e18, k21, h⟩ := obind h
                    refine W.idxL (c := cI) rfl rfl k21 ?_
                    refine W.load rfl rfl ?_
                    refine W.lss rfl rfl ?_
                    refine W.mv rfl ?_
                    refine W.split 119 rfl (fun c22 => ?_) (fun c22 => ?_)
                    · replace h := iteT h c22
                      refine W.guardT rfl c22 ?_
                      refine W.mv rfl ?_
                      refine W.guardT rfl c22 ?_
                      refine W.mv rfl ?_
                      refine W.guardT rfl c22 ?_
                      obtain ⟨e19, k23, h⟩ := obind h
                      refine W.idxL (c := cI) rfl rfl k23 ?_
                      refine W.guardT rfl c22 ?_
                      refine W.load rfl rfl ?_
                      refine W.guardT rfl c22 ?_
                      refine W.lss rfl rfl ?_
                      refine W.pickT rfl rfl rfl c22 ?_
                      refine W.mv rfl ?_
                      refine W.split 126 rfl (fun c24 => ?_) (fun c24 => ?_)
                      · replace h := iteT h c24
                        refine W.guardT rfl c24 ?_
                        refine W.mv rfl ?_
                        refine W.guardT rfl c24 ?_
                        refine W.mv rfl ?_
                        refine W.guardT rfl c24 ?_
                        obtain ⟨r20, k25, h⟩ := obind h
                        refine W.call (ref6_WorkingOn_spec n a3 x15 r20 k25) rfl rfl (Les.refl _) rfl (.inl rfl) rfl ?_
                        refine W.guardT rfl c24 ?_
                        refine W.eql rfl rfl ?_
                        refine W.pickT rfl rfl rfl c24 ?_
                        refine W.nil ?_
                        exact ⟨(decide (r20 = (-1))), h, Wk.nrmTo [0, 1, 2, 3, 16, 17, 18, 19, 20, 21, 131] [(10300, 10400), (10301, 10401)] rfl rfl⟩
                      · replace h := iteF h c24
                        refine W.guardF1 rfl c24 ?_
                        refine W.guardF1 rfl c24 ?_
                        refine W.guardF1 rfl c24 ?_
                        refine W.guardF1 rfl c24 ?_
                        refine W.pickN rfl rfl rfl c24 ?_
                        refine W.nil ?_
                        exact ⟨false, h, Wk.nrmTo [0, 1, 2, 3, 16, 17, 18, 19, 20, 21, 131] [(10300, 10400), (10301, 10401)] rfl rfl⟩
                    · replace h := iteF h c22
                      refine W.guardF1 rfl c22 ?_
                      refine W.guardF1 rfl c22 ?_
                      refine W.guardF1 rfl c22 ?_
                      refine W.guardF1 rfl c22 ?_
                      refine W.guardF1 rfl c22 ?_
                      refine W.pickN rfl rfl rfl c22 ?_
                      refine W.mv rfl ?_
                      refine W.guardF1 rfl rfl ?_
                      refine W.guardF1 rfl rfl ?_
                      refine W.guardF1 rfl rfl ?_
                      refine W.guardF1 rfl rfl ?_
                      refine W.pickN rfl rfl rfl rfl ?_
                      refine W.nil ?_
                      exact ⟨false, h, Wk.nrmTo [0, 1, 2, 3, 16, 17, 18, 19, 20, 21, 131] [(10300, 10400), (10301, 10401)] rfl rfl⟩
                  · intro x16 h
                    try dsimp only at h ⊢
                    unfold law6_WorkersAssignmentsArePermitted_j4 at h
                    refine Ev.cond rfl (fun c19 => ?_) (fun c19 => ?_)
                    · replace h := iteT h c19
                      refine Ev.seq ?_
                      refine W.reg hm ?_
                      refine W.mv rfl ?_
                      refine W.nil ?_
                      refine Ev.ret ?_
                      injection h with h; subst h
                      exact ⟨_, rfl, .refl _⟩
                    · replace h := iteF h c19
                      refine Ev.skip ?_
                      refine W.reg hm ?_
                      refine W.mv rfl ?_
                      obtain ⟨x17, k20, h⟩ := obind h
                      refine W.addG rfl rfl k20 ?_
                      refine W.mv rfl ?_
                      refine W.nil ?_
                      exact ⟨(m2, x17), h, Nat.lt_succ_self _, Wk.nrmTo [0, 1, 2, 3, 16, 17, 18, 19, 20, 21] [(10400, 10300), (10401, 10301)] rfl rfl⟩
                · replace h := iteF h c18
                  refine Ev.exit ?_
                  refine Ev.seq ?_
                  refine W.reg hm ?_
                  refine W.fieldAddrO rfl rfl ?_
                  refine W.loadO (p := .int .i64 r14.2.Code) rfl rfl rfl rfl ?_
                  refine W.neq rfl rfl ?_
                  refine W.nil ?_
                  refine Ev.cond rfl (fun c26 => ?_) (fun c26 => ?_)
                  · replace h := iteT h c26
                    refine Ev.seq ?_
                    refine W.reg hm ?_
                    refine W.mv rfl ?_
                    refine W.nil ?_
                    refine Ev.ret ?_
                    injection h with h; subst h
                    exact ⟨_, rfl, .refl _⟩
                  · replace h := iteF h c26
                    refine Ev.skip ?_
                    refine W.reg hm ?_
                    refine W.mv rfl ?_
                    obtain ⟨x21, k27, h⟩ := obind h
                    refine W.addG rfl rfl k27 ?_
                    refine W.mv rfl ?_
                    refine W.nil ?_
                    exact ⟨(m1, x21), h, Nat.lt_succ_self _, Wk.nrmTo [0, 1, 2, 3, 16, 17, 18] [(10300, 10200)] rfl rfl⟩
            · replace h := iteF h c16
              refine Ev.exit ?_
              refine Ev.seq ?_
              refine W.reg hm ?_
              refine W.fieldAddrO rfl rfl ?_
              refine W.loadO (p := .int .i64 r12.2.Code) rfl rfl rfl rfl ?_
              refine W.eql rfl rfl ?_
              refine W.mv rfl ?_
              refine W.nil ?_
              refine Ev.ret ?_
              injection h with h; subst h
              exact ⟨_, rfl, .refl _⟩
end Go.Proofs.Ythnneojommdhjaa
