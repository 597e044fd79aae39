/- The functions compute what the texts of D say. Laid by a program (wip/gen/dec.py). -/
import Derived.Test.YtadeoaglhaaimaaDoorD
import Derived.Test.YtadeoaglhaaimaaDoorW4
namespace Go.Proofs.YtadeoaglhaaimaaDoor
open Go.PW Go
set_option maxHeartbeats 4000000 in
theorem ref6_opResult_spec (n : Nat) (a0 : SInputsOpsOutput) (a1 : SFiles) (a2 : SKindText) (a3 : List (List UInt8)) (r : ((List (List UInt8)) × Int)) (h : ref6_opResult n a0 a1 a2 a3 = some r) : PSpec Tryd.prog 41 [.agg (SInputsOpsOutput.cells a0), .agg (SFiles.cells a1), .agg (SKindText.cells a2), .list 1 (List.map cS a3)] (.tup [.list 1 (List.map cS r.1), .int .i64 r.2]) := by
  unfold ref6_opResult at h
  refine spec_of Tryd.c_ref6_opResult (by simp) ?_
  unfold Tryd.l_ref6_opResult
  refine Ev.seq ?_
  refine W.reg hm ?_
  refine W.box (dt := true) (cs := [.list 1 (List.map cS a0.Inputs), .list 2 (List.map SKindText.cells a0.Ops), .str a0.Output]) rfl rfl rfl rfl rfl rfl ?_
  refine W.box (dt := true) (cs := [.list 2 (List.map SPathLines.cells a1.Files)]) rfl rfl rfl rfl rfl rfl ?_
  refine W.box (dt := true) (cs := [.int .i64 a2.Kind, .str a2.Text]) rfl rfl rfl rfl rfl rfl ?_
  refine W.mv rfl ?_
  refine W.mv rfl ?_
  refine W.nil ?_
  refine Ev.seq ?_
  refine W.reg hm ?_
  refine W.mv rfl ?_
  refine W.nil ?_
  refine Ev.seq ?_
  refine Ev.seq ?_
  refine W.reg hm ?_
  refine W.fieldAddrO rfl rfl ?_
  refine W.loadO (p := .int .i64 a2.Kind) rfl rfl rfl rfl ?_
  refine W.eql rfl rfl ?_
  refine W.nil ?_
  refine Ev.cond rfl (fun c1 => ?_) (fun c1 => ?_)
  · replace h := iteT h c1
    refine Ev.seq ?_
    refine W.reg hm ?_
    refine W.mv rfl ?_
    obtain ⟨r1, k2, h⟩ := obind h
    refine W.call (ref6_firsts_spec n a3 r1 k2) rfl rfl (Les.refl _) rfl (.inl rfl) rfl ?_
    refine W.mv rfl ?_
    refine W.mv rfl ?_
    refine W.nil ?_
    refine Ev.ret ?_
    injection h with h; subst h
    exact ⟨_, rfl, .refl _⟩
  · replace h := iteF h c1
    refine Ev.skip ?_
    refine Ev.seq ?_
    refine Ev.seq ?_
    refine W.reg hm ?_
    refine W.fieldAddrO rfl rfl ?_
    refine W.loadO (p := .int .i64 a2.Kind) rfl rfl rfl rfl ?_
    refine W.eql rfl rfl ?_
    refine W.nil ?_
    refine Ev.cond rfl (fun c3 => ?_) (fun c3 => ?_)
    · replace h := iteT h c3
      refine Ev.seq ?_
      refine Ev.seq ?_
      refine W.reg hm ?_
      refine W.mv rfl ?_
      refine W.lenL (c := cS) rfl ?_
      obtain ⟨x2, k4, h⟩ := obind h
      refine W.subG rfl rfl k4 ?_
      refine W.mv rfl ?_
      refine W.nil ?_
      refine Ev.block ?_
      refine Ev.loopW (β := Nat × (List (List UInt8)) × Int) (fun v => ⟨[(3, .list 1 (List.map cS a3)), (10, .own 10100 0), (11, .int .i64 v.2.2)], [(10100, ⟨0, 9, 1, List.map cS v.2.1, true, false, false⟩)], 2⟩) (fun v => ref6_opResult_l1 n a3 v.1 v.2.1 v.2.2 = some r) (fun v => v.1) (n, ([] : List (List UInt8)), x2) ((Wk.ownNil 10 30100 9 1 rfl rfl true).trans (Wk.nrmTo [3, 10, 11] [(30100, 10100)] rfl rfl)) h ?_
      intro ⟨m1, w3, x4⟩ h
      try dsimp only at h ⊢
      cases m1 with
      | zero => rw [ref6_opResult_l1] at h; cases h
      | succ m1 =>
        rw [ref6_opResult_l1] at h
        refine Ev.seq ?_
        refine Ev.seq ?_
        refine W.reg hm ?_
        refine W.mv rfl ?_
        refine W.geq rfl rfl ?_
        refine W.nil ?_
        refine Ev.cond rfl (fun c5 => ?_) (fun c5 => ?_)
        · replace h := iteT h c5
          refine Ev.skip ?_
          refine Ev.seq ?_
          refine Ev.block ?_
          refine W.reg hm ?_
          refine W.mv rfl ?_
          refine W.mv rfl ?_
          refine W.mv rfl ?_
          obtain ⟨e5, k6, h⟩ := obind h
          refine W.idxL (c := cS) rfl rfl k6 ?_
          refine W.load rfl rfl ?_
          refine W.mkSlice (dt := true) (es := [[.str e5]]) rfl rfl rfl rfl rfl rfl ?_
          obtain ⟨w6, k7, h⟩ := obind h
          refine W.appR true (l := w3) (c := cS) (ys := ([e5] : List (List UInt8))) rfl rfl rfl rfl rfl rfl rfl rfl k7 rfl (by simp) ?_
          refine W.mv rfl ?_
          refine W.nil ?_
          refine W.reg hm ?_
          refine W.mv rfl ?_
          obtain ⟨x7, k8, h⟩ := obind h
          refine W.subG rfl rfl k8 ?_
          refine W.mv rfl ?_
          refine W.nil ?_
          exact ⟨(m1, w6, x7), h, Nat.lt_succ_self _, Wk.nrmTo [3, 10, 11] [(36, 10100)] rfl rfl⟩
        · replace h := iteF h c5
          refine Ev.exit ?_
          refine Ev.seq ?_
          refine W.reg hm ?_
          refine W.mv rfl ?_
          refine W.mv rfl ?_
          refine W.mv rfl ?_
          refine W.nil ?_
          refine Ev.ret ?_
          injection h with h; subst h
          exact ⟨_, rfl, .refl _⟩
    · replace h := iteF h c3
      refine Ev.skip ?_
      refine Ev.seq ?_
      refine W.reg hm ?_
      refine W.fieldAddrO rfl rfl ?_
      refine W.loadO (p := .str a2.Text) rfl rfl rfl rfl ?_
      refine W.mkSlice (dt := true) (es := [[.str a2.Text]]) rfl rfl rfl rfl rfl rfl ?_
      refine W.mv rfl ?_
      refine W.nil ?_
      refine Ev.seqJ (γ := List (List UInt8)) (fun v => ⟨[(3, .list 1 (List.map cS a3)), (10, .nils), (12, .list 1 (List.map cS v))], [], 2⟩) (fun v => ref6_opResult_j1 n a3 v = some r) ?_ ?_
      · refine Ev.seq ?_
        refine W.reg hm ?_
        refine W.fieldAddrO rfl rfl ?_
        refine W.loadO (p := .int .i64 a2.Kind) rfl rfl rfl rfl ?_
        refine W.neq rfl rfl ?_
        refine W.nil ?_
        refine Ev.cond rfl (fun c13 => ?_) (fun c13 => ?_)
        · replace h := iteT h c13
          refine Ev.seq ?_
          refine Ev.seq ?_
          refine W.reg hm ?_
          refine W.fieldAddrO rfl rfl ?_
          refine W.loadO (p := .list 1 (List.map cS a0.Inputs)) rfl rfl rfl rfl ?_
          refine W.fieldAddrO rfl rfl ?_
          refine W.loadO (p := .str a2.Text) rfl rfl rfl rfl ?_
          obtain ⟨r12, k14, h⟩ := obind h
          refine W.call (ref6_HasString_spec n a0.Inputs a2.Text r12 k14) rfl rfl (Les.refl _) rfl (.inl rfl) rfl ?_
          refine W.not rfl ?_
          refine W.nil ?_
          refine Ev.cond rfl (fun c15 => ?_) (fun c15 => ?_)
          · replace h := iteT h c15
            refine Ev.seq ?_
            refine W.reg hm ?_
            refine W.mv rfl ?_
            refine W.mv rfl ?_
            refine W.nil ?_
            refine Ev.ret ?_
            injection h with h; subst h
            exact ⟨_, rfl, Le.tups (.cons (.nils 1) (.cons (.refl _) (.nil)))⟩
          · replace h := iteF h c15
            refine Ev.skip ?_
            refine Ev.seq ?_
            refine W.reg hm ?_
            refine W.loadO (p := .agg [.list 2 (List.map SPathLines.cells a1.Files)]) rfl rfl rfl rfl ?_
            refine W.fieldAddrO rfl rfl ?_
            refine W.loadO (p := .str a2.Text) rfl rfl rfl rfl ?_
            obtain ⟨r13, k16, h⟩ := obind h
            refine W.call (ref6_FileIn_spec n a1 a2.Text r13 k16) rfl rfl (Les.refl _) rfl (.inl rfl) rfl ?_
            refine W.mv rfl ?_
            refine W.extract rfl rfl ?_
            refine W.extract rfl rfl ?_
            refine W.mv rfl ?_
            refine W.mv rfl ?_
            refine W.nil ?_
            refine Ev.seq ?_
            refine Ev.seqJ (γ := Bool) (fun v => ⟨[(3, .list 1 (List.map cS a3)), (6, .pown 10200 0 0 0), (10, .nils), (13, .list 1 (List.map cS r13.1)), (14, .bool r13.2), (63, .bool v)], [(10200, ⟨0, 47, 2, [[.int .i64 a2.Kind, .str a2.Text]], true, false, false⟩)], 2⟩) (fun v => ref6_opResult_j2 n a2 a3 r13 v = some r) ?_ ?_
            · refine W.reg hm ?_
              refine W.fieldAddrO rfl rfl ?_
              refine W.loadO (p := .int .i64 a2.Kind) rfl rfl rfl rfl ?_
              refine W.eql rfl rfl ?_
              refine W.mv rfl ?_
              refine W.split 60 rfl (fun c22 => ?_) (fun c22 => ?_)
              · replace h := iteT h c22
                refine W.guardT rfl c22 ?_
                refine W.mv rfl ?_
                refine W.guardT rfl c22 ?_
                refine W.not rfl ?_
                refine W.pickT rfl rfl rfl c22 ?_
                refine W.nil ?_
                exact ⟨(!r13.2), h, Wk.nrmTo [3, 6, 10, 13, 14, 63] [(6, 10200)] rfl rfl⟩
              · replace h := iteF h c22
                refine W.guardF1 rfl c22 ?_
                refine W.guardF1 rfl c22 ?_
                refine W.pickN rfl rfl rfl c22 ?_
                refine W.nil ?_
                exact ⟨false, h, Wk.nrmTo [3, 6, 10, 13, 14, 63] [(6, 10200)] rfl rfl⟩
            · intro x14 h
              try dsimp only at h ⊢
              unfold ref6_opResult_j2 at h
              refine Ev.cond rfl (fun c17 => ?_) (fun c17 => ?_)
              · replace h := iteT h c17
                refine Ev.seq ?_
                refine W.reg hm ?_
                refine W.mv rfl ?_
                refine W.mv rfl ?_
                refine W.nil ?_
                refine Ev.ret ?_
                injection h with h; subst h
                exact ⟨_, rfl, Le.tups (.cons (.nils 1) (.cons (.refl _) (.nil)))⟩
              · replace h := iteF h c17
                refine Ev.skip ?_
                refine Ev.seq ?_
                refine W.reg hm ?_
                refine W.mv rfl ?_
                refine W.mv rfl ?_
                refine W.nil ?_
                refine Ev.seqJ (γ := List (List UInt8)) (fun v => ⟨[(3, .list 1 (List.map cS a3)), (6, .pown 10300 0 0 0), (10, .nils), (12, .list 1 (List.map cS v)), (14, .bool r13.2)], [(10300, ⟨0, 47, 2, [[.int .i64 a2.Kind, .str a2.Text]], true, false, false⟩)], 2⟩) (fun v => ref6_opResult_j3 n a2 a3 r13 v = some r) ?_ ?_
                · refine Ev.seqJ (γ := Bool) (fun v => ⟨[(3, .list 1 (List.map cS a3)), (6, .pown 10400 0 0 0), (10, .nils), (12, .list 1 (List.map cS r13.1)), (14, .bool r13.2), (70, .bool v)], [(10400, ⟨0, 47, 2, [[.int .i64 a2.Kind, .str a2.Text]], true, false, false⟩)], 2⟩) (fun v => ref6_opResult_j5 n a2 a3 r13 v = some r) ?_ ?_
                  · refine W.reg hm ?_
                    refine W.fieldAddrO rfl rfl ?_
                    refine W.loadO (p := .int .i64 a2.Kind) rfl rfl rfl rfl ?_
                    refine W.eql rfl rfl ?_
                    refine W.mv rfl ?_
                    refine W.split 68 rfl (fun c21 => ?_) (fun c21 => ?_)
                    · replace h := iteT h c21
                      refine W.guardT rfl c21 ?_
                      refine W.mv rfl ?_
                      refine W.pickT rfl rfl rfl c21 ?_
                      refine W.nil ?_
                      exact ⟨r13.2, h, Wk.nrmTo [3, 6, 10, 12, 14, 70] [(10200, 10400)] rfl rfl⟩
                    · replace h := iteF h c21
                      refine W.guardF1 rfl c21 ?_
                      refine W.pickN rfl rfl rfl c21 ?_
                      refine W.nil ?_
                      exact ⟨false, h, Wk.nrmTo [3, 6, 10, 12, 14, 70] [(10200, 10400)] rfl rfl⟩
                  · intro x17 h
                    try dsimp only at h ⊢
                    unfold ref6_opResult_j5 at h
                    refine Ev.cond rfl (fun c20 => ?_) (fun c20 => ?_)
                    · replace h := iteT h c20
                      refine W.reg hm ?_
                      refine W.mkSlice (dt := true) (es := [[.str ([121, 101, 115] : List UInt8)]]) rfl rfl rfl rfl rfl rfl ?_
                      refine W.mv rfl ?_
                      refine W.nil ?_
                      exact ⟨([([121, 101, 115] : List UInt8)] : List (List UInt8)), h, (Wk.frz 71 2 rfl rfl).trans (Wk.nrmTo [3, 6, 10, 12, 14] [(10400, 10300)] rfl rfl)⟩
                    · replace h := iteF h c20
                      refine Ev.skip ?_
                      exact ⟨r13.1, h, Wk.nrmTo [3, 6, 10, 12, 14] [(10400, 10300)] rfl rfl⟩
                · intro x15 h
                  try dsimp only at h ⊢
                  unfold ref6_opResult_j3 at h
                  refine Ev.seqJ (γ := Bool) (fun v => ⟨[(3, .list 1 (List.map cS a3)), (10, .nils), (12, .list 1 (List.map cS x15)), (78, .bool v)], [], 2⟩) (fun v => ref6_opResult_j4 n a3 x15 v = some r) ?_ ?_
                  · refine W.reg hm ?_
                    refine W.fieldAddrO rfl rfl ?_
                    refine W.loadO (p := .int .i64 a2.Kind) rfl rfl rfl rfl ?_
                    refine W.eql rfl rfl ?_
                    refine W.mv rfl ?_
                    refine W.split 75 rfl (fun c19 => ?_) (fun c19 => ?_)
                    · replace h := iteT h c19
                      refine W.guardT rfl c19 ?_
                      refine W.mv rfl ?_
                      refine W.guardT rfl c19 ?_
                      refine W.not rfl ?_
                      refine W.pickT rfl rfl rfl c19 ?_
                      refine W.nil ?_
                      exact ⟨(!r13.2), h, Wk.nrmTo [3, 10, 12, 78] [] rfl rfl⟩
                    · replace h := iteF h c19
                      refine W.guardF1 rfl c19 ?_
                      refine W.guardF1 rfl c19 ?_
                      refine W.pickN rfl rfl rfl c19 ?_
                      refine W.nil ?_
                      exact ⟨false, h, Wk.nrmTo [3, 10, 12, 78] [] rfl rfl⟩
                  · intro x16 h
                    try dsimp only at h ⊢
                    unfold ref6_opResult_j4 at h
                    refine Ev.cond rfl (fun c18 => ?_) (fun c18 => ?_)
                    · replace h := iteT h c18
                      refine W.reg hm ?_
                      refine W.mkSlice (dt := true) (es := [[.str ([110, 111] : List UInt8)]]) rfl rfl rfl rfl rfl rfl ?_
                      refine W.mv rfl ?_
                      refine W.nil ?_
                      exact ⟨([([110, 111] : List UInt8)] : List (List UInt8)), h, (Wk.frz 79 2 rfl rfl).trans (Wk.nrmTo [3, 10, 12] [] rfl rfl)⟩
                    · replace h := iteF h c18
                      refine Ev.skip ?_
                      exact ⟨x15, h, Wk.nrmTo [3, 10, 12] [] rfl rfl⟩
        · replace h := iteF h c13
          refine Ev.skip ?_
          exact ⟨([a2.Text] : List (List UInt8)), h, (Wk.frz 40 2 rfl rfl).trans (Wk.nrmTo [3, 10, 12] [] rfl rfl)⟩
      · intro x8 h
        try dsimp only at h ⊢
        unfold ref6_opResult_j1 at h
        refine Ev.seq ?_
        refine Ev.seq ?_
        refine W.reg hm ?_
        refine W.mv rfl ?_
        refine W.lenL (c := cS) rfl ?_
        refine W.mv rfl ?_
        refine W.lenL (c := cS) rfl ?_
        obtain ⟨x9, k9, h⟩ := obind h
        refine W.addG rfl rfl k9 ?_
        refine W.gtr rfl rfl ?_
        refine W.nil ?_
        refine Ev.cond rfl (fun c10 => ?_) (fun c10 => ?_)
        · replace h := iteT h c10
          refine Ev.seq ?_
          refine W.reg hm ?_
          refine W.mv rfl ?_
          refine W.mv rfl ?_
          refine W.nil ?_
          refine Ev.ret ?_
          injection h with h; subst h
          exact ⟨_, rfl, Le.tups (.cons (.nils 1) (.cons (.refl _) (.nil)))⟩
        · replace h := iteF h c10
          refine Ev.skip ?_
          refine Ev.seq ?_
          refine W.reg hm ?_
          refine W.mv rfl ?_
          refine W.mv rfl ?_
          obtain ⟨w10, k11, h⟩ := obind h
          refine W.appN true (c := cS) (ys := a3) rfl rfl rfl rfl k11 rfl ?_
          refine W.mv rfl ?_
          refine W.nil ?_
          refine Ev.seq ?_
          refine W.reg hm ?_
          refine W.mv rfl ?_
          refine W.mv rfl ?_
          obtain ⟨w11, k12, h⟩ := obind h
          refine W.appR true (l := w10) (c := cS) (ys := x8) rfl rfl rfl rfl rfl rfl rfl rfl k12 rfl (by simp) ?_
          refine W.mv rfl ?_
          refine W.mv rfl ?_
          refine W.nil ?_
          refine Ev.ret ?_
          injection h with h; subst h
          exact ⟨_, rfl, .refl _⟩

theorem ref6_Ran_spec (n : Nat) (a0 : SInputsOpsOutput) (a1 : SFiles) (r : ((List (List UInt8)) × SCodeIndex)) (h : ref6_Ran n a0 a1 = some r) : PSpec Tryd.prog 19 [.agg (SInputsOpsOutput.cells a0), .agg (SFiles.cells a1)] (.tup [.list 1 (List.map cS r.1), .agg (SCodeIndex.cells r.2)]) := by
  unfold ref6_Ran at h
  refine spec_of Tryd.c_ref6_Ran (by simp) ?_
  unfold Tryd.l_ref6_Ran
  refine Ev.seq ?_
  refine W.reg hm ?_
  refine W.box (dt := true) (cs := [.list 1 (List.map cS a0.Inputs), .list 2 (List.map SKindText.cells a0.Ops), .str a0.Output]) rfl rfl rfl rfl rfl rfl ?_
  refine W.box (dt := true) (cs := [.list 2 (List.map SPathLines.cells a1.Files)]) rfl rfl rfl rfl rfl rfl ?_
  refine W.mv rfl ?_
  refine W.alloc (dt := true) rfl rfl rfl ?_
  refine W.nil ?_
  refine Ev.seq ?_
  refine W.reg hm ?_
  refine W.mv rfl ?_
  refine W.nil ?_
  refine Ev.seq ?_
  refine Ev.seq ?_
  refine W.reg hm ?_
  refine W.mv rfl ?_
  refine W.nil ?_
  refine Ev.block ?_
  refine Ev.loopW (β := Nat × (List (List UInt8)) × Int) (fun v => ⟨[(2, .pown 10100 0 0 0), (3, .pown 10101 0 0 0), (5, .pown 10102 0 0 0), (6, .list 1 (List.map cS v.2.1)), (7, .int .i64 v.2.2)], [(10100, ⟨0, 25, 3, [[.list 1 (List.map cS a0.Inputs), .list 2 (List.map SKindText.cells a0.Ops), .str a0.Output]], true, false, false⟩), (10101, ⟨0, 28, 1, [[.list 2 (List.map SPathLines.cells a1.Files)]], true, false, false⟩), (10102, ⟨0, 30, 2, [[.int .i64 0, .int .i64 0]], true, false, false⟩)], 2⟩) (fun v => ref6_Ran_l1 n a0 a1 v.1 v.2.1 v.2.2 = some r) (fun v => v.1) (n, ([] : List (List UInt8)), 0) ((Wk.le (t := 6) rfl (.nils 1)).trans (Wk.nrmTo [2, 3, 5, 6, 7] [(2, 10100), (3, 10101), (5, 10102)] rfl rfl)) h ?_
  intro ⟨m1, x1, x2⟩ h
  try dsimp only at h ⊢
  cases m1 with
  | zero => rw [ref6_Ran_l1] at h; cases h
  | succ m1 =>
    rw [ref6_Ran_l1] at h
    refine Ev.seq ?_
    refine Ev.seq ?_
    refine W.reg hm ?_
    refine W.mv rfl ?_
    refine W.fieldAddrO rfl rfl ?_
    refine W.loadO (p := .list 2 (List.map SKindText.cells a0.Ops)) rfl rfl rfl rfl ?_
    refine W.lenL (c := SKindText.cells) rfl ?_
    refine W.lss rfl rfl ?_
    refine W.nil ?_
    refine Ev.cond rfl (fun c1 => ?_) (fun c1 => ?_)
    · replace h := iteT h c1
      refine Ev.skip ?_
      refine Ev.seq ?_
      refine Ev.block ?_
      refine Ev.seq ?_
      refine W.regD hm ?_
      refine W.loadO (p := .agg [.list 1 (List.map cS a0.Inputs), .list 2 (List.map SKindText.cells a0.Ops), .str a0.Output]) rfl rfl rfl rfl ?_
      refine W.loadO (p := .agg [.list 2 (List.map SPathLines.cells a1.Files)]) rfl rfl rfl rfl ?_
      refine W.fieldAddrO rfl rfl ?_
      refine W.loadO (p := .list 2 (List.map SKindText.cells a0.Ops)) rfl rfl rfl rfl ?_
      refine W.mv rfl ?_
      obtain ⟨e3, k2, h⟩ := obind h
      refine W.idxL (c := SKindText.cells) rfl rfl k2 ?_
      refine W.load rfl rfl ?_
      refine W.mv rfl ?_
      obtain ⟨r4, k3, h⟩ := obind h
      refine W.call (ref6_opResult_spec n a0 a1 e3 x1 r4 k3) rfl rfl (Les.refl _) rfl (.inl rfl) rfl ?_
      refine W.mv rfl ?_
      refine W.extract rfl rfl ?_
      refine W.extract rfl rfl ?_
      refine W.mv rfl ?_
      refine W.mv rfl ?_
      refine W.nil ⟨rfl, ?_⟩
      refine Ev.seq ?_
      refine Ev.seq ?_
      refine W.reg hm ?_
      refine W.mv rfl ?_
      refine W.neq rfl rfl ?_
      refine W.nil ?_
      refine Ev.cond rfl (fun c4 => ?_) (fun c4 => ?_)
      · replace h := iteT h c4
        refine Ev.seq ?_
        refine W.reg hm ?_
        refine W.mv rfl ?_
        refine W.mv rfl ?_
        obtain ⟨x5, k5, h⟩ := obind h
        refine W.subG rfl rfl k5 ?_
        obtain ⟨r6, k6, h⟩ := obind h
        refine W.call (ref6_fault_spec n r4.2 x5 r6 k6) rfl rfl (Les.refl _) rfl (.inl rfl) rfl ?_
        refine W.mv rfl ?_
        refine W.store (es' := [[.int .i64 r6.Code, .int .i64 r6.Index]]) (dt := true) rfl rfl rfl rfl rfl (Nat.le_of_ble_eq_true rfl) rfl rfl rfl rfl ?_
        refine W.nil ?_
        refine Ev.ret ?_
        injection h with h; subst h
        exact ⟨_, rfl, Le.tups (.cons (.nils 1) (.cons (.refl _) (.nil)))⟩
      · replace h := iteF h c4
        refine Ev.skip ?_
        refine W.reg hm ?_
        refine W.mv rfl ?_
        refine W.mv rfl ?_
        refine W.nil ?_
        refine W.reg hm ?_
        refine W.mv rfl ?_
        obtain ⟨x7, k7, h⟩ := obind h
        refine W.addG rfl rfl k7 ?_
        refine W.mv rfl ?_
        refine W.nil ?_
        exact ⟨(m1, r4.1, x7), h, Nat.lt_succ_self _, Wk.nrmTo [2, 3, 5, 6, 7] [(10100, 10100), (10101, 10101), (10102, 10102)] rfl rfl⟩
    · replace h := iteF h c1
      refine Ev.exit ?_
      refine Ev.seq ?_
      refine W.reg hm ?_
      refine W.mv rfl ?_
      refine W.build (cs := [.int .i64 0, .int .i64 0]) rfl rfl rfl ?_
      refine W.mv rfl ?_
      refine W.store (es' := [[.int .i64 0, .int .i64 0]]) (dt := true) rfl rfl rfl rfl rfl (Nat.le_of_ble_eq_true rfl) rfl rfl rfl rfl ?_
      refine W.nil ?_
      refine Ev.ret ?_
      injection h with h; subst h
      exact ⟨_, rfl, .refl _⟩

theorem law6_SandboxRunMatchesSpec_spec (n : Nat) (a0 : SInputsOpsOutput) (a1 : SFiles) (r : Bool) (h : law6_SandboxRunMatchesSpec n a0 a1 = some r) : PSpec Tryd.prog 4 [.agg (SInputsOpsOutput.cells a0), .agg (SFiles.cells a1)] (.bool r) := by
  unfold law6_SandboxRunMatchesSpec at h
  refine spec_of Tryd.c_law6_SandboxRunMatchesSpec (by simp) ?_
  unfold Tryd.l_law6_SandboxRunMatchesSpec
  refine Ev.seq ?_
  refine W.reg hm ?_
  refine W.box (dt := true) (cs := [.list 1 (List.map cS a0.Inputs), .list 2 (List.map SKindText.cells a0.Ops), .str a0.Output]) rfl rfl rfl rfl rfl rfl ?_
  refine W.box (dt := true) (cs := [.list 2 (List.map SPathLines.cells a1.Files)]) rfl rfl rfl rfl rfl rfl ?_
  refine W.mv rfl ?_
  refine W.nil ?_
  refine Ev.seq ?_
  refine Ev.seq ?_
  refine W.reg hm ?_
  obtain ⟨r1, k1, h⟩ := obind h
  refine W.call (law6_runs_spec n r1 k1) rfl rfl (Les.refl _) rfl (.inl rfl) rfl ?_
  refine W.not rfl ?_
  refine W.nil ?_
  refine Ev.cond rfl (fun c2 => ?_) (fun c2 => ?_)
  · replace h := iteT h c2
    refine Ev.seq ?_
    refine W.reg hm ?_
    refine W.mv rfl ?_
    refine W.nil ?_
    refine Ev.ret ?_
    injection h with h; subst h
    exact ⟨_, rfl, .refl _⟩
  · replace h := iteF h c2
    refine Ev.skip ?_
    refine Ev.seq ?_
    refine W.reg hm ?_
    refine W.mv rfl ?_
    refine W.nil ?_
    refine Ev.seq ?_
    refine W.reg hm ?_
    refine W.loadO (p := .agg [.list 1 (List.map cS a0.Inputs), .list 2 (List.map SKindText.cells a0.Ops), .str a0.Output]) rfl rfl rfl rfl ?_
    refine W.loadO (p := .agg [.list 2 (List.map SPathLines.cells a1.Files)]) rfl rfl rfl rfl ?_
    obtain ⟨r2, k3, h⟩ := obind h
    refine W.call (ref6_RunFault_spec n a0 a1 r2 k3) rfl rfl (Les.refl _) rfl (.inl rfl) rfl ?_
    refine W.alloc (dt := true) rfl rfl rfl ?_
    refine W.store (es' := [[.int .i64 r2.Code, .int .i64 r2.Index]]) (dt := true) rfl rfl rfl rfl rfl (Nat.le_of_ble_eq_true rfl) rfl rfl rfl rfl ?_
    refine W.nil ?_
    refine Ev.seqJ (γ := (List (List UInt8)) × Int × Int) (fun v => ⟨[(2, .pown 10100 0 0 0), (3, .pown 10101 0 0 0), (5, .list 1 (List.map cS v.1)), (6, .pown 10102 0 0 0)], [(10100, ⟨0, 25, 3, [[.list 1 (List.map cS a0.Inputs), .list 2 (List.map SKindText.cells a0.Ops), .str a0.Output]], true, false, false⟩), (10101, ⟨0, 28, 1, [[.list 2 (List.map SPathLines.cells a1.Files)]], true, false, false⟩), (10102, ⟨0, 30, 2, [[.int .i64 v.2.1, .int .i64 v.2.2]], true, false, false⟩)], 2⟩) (fun v => law6_SandboxRunMatchesSpec_j1 n a0 a1 v.1 v.2.1 v.2.2 = some r) ?_ ?_
    · refine Ev.seq ?_
      refine W.reg hm ?_
      refine W.fieldAddrO rfl rfl ?_
      refine W.loadO (p := .int .i64 r2.Code) rfl rfl rfl rfl ?_
      refine W.eql rfl rfl ?_
      refine W.nil ?_
      refine Ev.cond rfl (fun c7 => ?_) (fun c7 => ?_)
      · replace h := iteT h c7
        refine W.reg hm ?_
        refine W.loadO (p := .agg [.list 1 (List.map cS a0.Inputs), .list 2 (List.map SKindText.cells a0.Ops), .str a0.Output]) rfl rfl rfl rfl ?_
        refine W.loadO (p := .agg [.list 2 (List.map SPathLines.cells a1.Files)]) rfl rfl rfl rfl ?_
        obtain ⟨r9, k8, h⟩ := obind h
        refine W.call (ref6_Ran_spec n a0 a1 r9 k8) rfl rfl (Les.refl _) rfl (.inl rfl) rfl ?_
        refine W.mv rfl ?_
        refine W.extract rfl rfl ?_
        refine W.extract rfl rfl ?_
        refine W.mv rfl ?_
        refine W.store (es' := [[.int .i64 r9.2.Code, .int .i64 r9.2.Index]]) (dt := true) rfl rfl rfl rfl rfl (Nat.le_of_ble_eq_true rfl) rfl rfl rfl rfl ?_
        refine W.nil ?_
        exact ⟨(r9.1, r9.2.Code, r9.2.Index), h, Wk.nrmTo [2, 3, 5, 6] [(2, 10100), (3, 10101), (6, 10102)] rfl rfl⟩
      · replace h := iteF h c7
        refine Ev.skip ?_
        exact ⟨(([] : List (List UInt8)), r2.Code, r2.Index), h, (Wk.le (t := 5) rfl (.nils 1)).trans (Wk.nrmTo [2, 3, 5, 6] [(2, 10100), (3, 10101), (6, 10102)] rfl rfl)⟩
    · intro ⟨x3, b4, b5⟩ h
      try dsimp only at h ⊢
      unfold law6_SandboxRunMatchesSpec_j1 at h
      refine Ev.seq ?_
      refine W.reg hm ?_
      refine W.loadO (p := .agg [.list 1 (List.map cS a0.Inputs), .list 2 (List.map SKindText.cells a0.Ops), .str a0.Output]) rfl rfl rfl rfl ?_
      refine W.loadO (p := .agg [.list 2 (List.map SPathLines.cells a1.Files)]) rfl rfl rfl rfl ?_
      obtain ⟨r6, k4, h⟩ := obind h
      refine W.call (sandbox_Run_spec n a0 a1 r6 k4) rfl rfl (Les.refl _) rfl (.inl rfl) rfl ?_
      refine W.mv rfl ?_
      refine W.extract rfl rfl ?_
      refine W.extract rfl rfl ?_
      refine W.alloc (dt := true) rfl rfl rfl ?_
      refine W.mv rfl ?_
      refine W.store (es' := [[.int .i64 r6.2.Code, .int .i64 r6.2.Index]]) (dt := true) rfl rfl rfl rfl rfl (Nat.le_of_ble_eq_true rfl) rfl rfl rfl rfl ?_
      refine W.nil ?_
      refine Ev.seqJ (γ := Bool) (fun v => ⟨[(4, .bool v)], [], 2⟩) (fun v => law6_SandboxRunMatchesSpec_j2 n v = some r) ?_ ?_
      · refine W.reg hm ?_
        refine W.loadO (p := .agg [.int .i64 r6.2.Code, .int .i64 r6.2.Index]) rfl rfl rfl rfl ?_
        refine W.loadO (p := .agg [.int .i64 b4, .int .i64 b5]) rfl rfl rfl rfl ?_
        refine W.eqs rfl rfl rfl ?_
        refine W.mv rfl ?_
        refine W.split 32 rfl (fun c5 => ?_) (fun c5 => ?_)
        · replace h := iteT h c5
          refine W.guardT rfl c5 ?_
          refine W.mv rfl ?_
          refine W.guardT rfl c5 ?_
          refine W.mv rfl ?_
          refine W.guardT rfl c5 ?_
          obtain ⟨r8, k6, h⟩ := obind h
          refine W.call (ref6_Strings_spec n r6.1 x3 r8 k6) rfl rfl (Les.refl _) rfl (.inl rfl) rfl ?_
          refine W.pickT rfl rfl rfl c5 ?_
          refine W.mv rfl ?_
          refine W.nil ?_
          exact ⟨r8, h, Wk.nrmTo [4] [] rfl rfl⟩
        · replace h := iteF h c5
          refine W.guardF1 rfl c5 ?_
          refine W.guardF1 rfl c5 ?_
          refine W.guardF1 rfl c5 ?_
          refine W.pickN rfl rfl rfl c5 ?_
          refine W.mv rfl ?_
          refine W.nil ?_
          exact ⟨false, h, Wk.nrmTo [4] [] rfl rfl⟩
      · intro x7 h
        try dsimp only at h ⊢
        unfold law6_SandboxRunMatchesSpec_j2 at h
        refine Ev.ret ?_
        injection h with h; subst h
        exact ⟨_, rfl, .refl _⟩

set_option maxHeartbeats 4000000 in
theorem law6_SandboxRunsAreHermetic_spec (n : Nat) (a0 : SInputsOpsOutput) (a1 : SFiles) (r : Bool) (h : law6_SandboxRunsAreHermetic n a0 a1 = some r) : PSpec Tryd.prog 5 [.agg (SInputsOpsOutput.cells a0), .agg (SFiles.cells a1)] (.bool r) := by
  unfold law6_SandboxRunsAreHermetic at h
  refine spec_of Tryd.c_law6_SandboxRunsAreHermetic (by simp) ?_
  unfold Tryd.l_law6_SandboxRunsAreHermetic
  refine Ev.seq ?_
  refine W.reg hm ?_
  refine W.box (dt := true) (cs := [.list 1 (List.map cS a0.Inputs), .list 2 (List.map SKindText.cells a0.Ops), .str a0.Output]) rfl rfl rfl rfl rfl rfl ?_
  refine W.box (dt := true) (cs := [.list 2 (List.map SPathLines.cells a1.Files)]) rfl rfl rfl rfl rfl rfl ?_
  refine W.mv rfl ?_
  refine W.nil ?_
  refine Ev.seq ?_
  refine W.reg hm ?_
  refine W.loadO (p := .agg [.list 1 (List.map cS a0.Inputs), .list 2 (List.map SKindText.cells a0.Ops), .str a0.Output]) rfl rfl rfl rfl ?_
  refine W.loadO (p := .agg [.list 2 (List.map SPathLines.cells a1.Files)]) rfl rfl rfl rfl ?_
  obtain ⟨r1, k1, h⟩ := obind h
  refine W.call (sandbox_Restrict_spec n a0 a1 r1 k1) rfl rfl (Les.refl _) rfl (.inl rfl) rfl ?_
  refine W.mv rfl ?_
  refine W.extract rfl rfl ?_
  refine W.extract rfl rfl ?_
  refine W.alloc (dt := true) rfl rfl rfl ?_
  refine W.alloc (dt := true) rfl rfl rfl ?_
  refine W.store (es' := [[.list 2 (List.map SPathLines.cells r1.1.Files)]]) (dt := true) rfl rfl rfl rfl rfl (Nat.le_of_ble_eq_true rfl) rfl rfl rfl rfl ?_
  refine W.store (es' := [[.int .i64 r1.2.Code, .int .i64 r1.2.Index]]) (dt := true) rfl rfl rfl rfl rfl (Nat.le_of_ble_eq_true rfl) rfl rfl rfl rfl ?_
  refine W.nil ?_
  refine Ev.seq ?_
  refine Ev.seqJ (γ := Bool) (fun v => ⟨[(2, .pown 10100 0 0 0), (3, .pown 10101 0 0 0), (5, .pown 10102 0 0 0), (25, .bool v)], [(10100, ⟨0, 25, 3, [[.list 1 (List.map cS a0.Inputs), .list 2 (List.map SKindText.cells a0.Ops), .str a0.Output]], true, false, false⟩), (10101, ⟨0, 28, 1, [[.list 2 (List.map SPathLines.cells a1.Files)]], true, false, false⟩), (10102, ⟨0, 28, 1, [[.list 2 (List.map SPathLines.cells r1.1.Files)]], true, false, false⟩)], 2⟩) (fun v => law6_SandboxRunsAreHermetic_j1 n a0 a1 r1 v = some r) ?_ ?_
  · refine W.reg hm ?_
    obtain ⟨r11, k13, h⟩ := obind h
    refine W.call (law6_runs_spec n r11 k13) rfl rfl (Les.refl _) rfl (.inl rfl) rfl ?_
    refine W.not rfl ?_
    refine W.mv rfl ?_
    refine W.split 21 rfl (fun c14 => ?_) (fun c14 => ?_)
    · replace h := iteT h c14
      refine W.guardF2 rfl c14 ?_
      refine W.guardF2 rfl c14 ?_
      refine W.guardF2 rfl c14 ?_
      refine W.pickT rfl rfl rfl c14 ?_
      refine W.nil ?_
      exact ⟨true, h, Wk.nrmTo [2, 3, 5, 25] [(2, 10100), (3, 10101), (5, 10102)] rfl rfl⟩
    · replace h := iteF h c14
      refine W.guardT rfl c14 ?_
      refine W.fieldAddrO rfl rfl ?_
      refine W.guardT rfl c14 ?_
      refine W.loadO (p := .int .i64 r1.2.Code) rfl rfl rfl rfl ?_
      refine W.guardT rfl c14 ?_
      refine W.neq rfl rfl ?_
      refine W.pickN rfl rfl rfl c14 ?_
      refine W.nil ?_
      exact ⟨(decide (r1.2.Code ≠ 0)), h, Wk.nrmTo [2, 3, 5, 25] [(2, 10100), (3, 10101), (5, 10102)] rfl rfl⟩
  · intro x2 h
    try dsimp only at h ⊢
    unfold law6_SandboxRunsAreHermetic_j1 at h
    refine Ev.cond rfl (fun c2 => ?_) (fun c2 => ?_)
    · replace h := iteT h c2
      refine Ev.seqJ (γ := Bool) (fun v => ⟨[(4, .bool v)], [], 2⟩) (fun v => law6_SandboxRunsAreHermetic_j2 n v = some r) ?_ ?_
      · refine W.reg hm ?_
        obtain ⟨r4, k3, h⟩ := obind h
        refine W.call (law6_runs_spec n r4 k3) rfl rfl (Les.refl _) rfl (.inl rfl) rfl ?_
        refine W.mv rfl ?_
        refine W.split 27 rfl (fun c4 => ?_) (fun c4 => ?_)
        · replace h := iteT h c4
          refine W.guardT rfl c4 ?_
          refine W.fieldAddrO rfl rfl ?_
          refine W.guardT rfl c4 ?_
          refine W.loadO (p := .list 2 (List.map SPathLines.cells r1.1.Files)) rfl rfl rfl rfl ?_
          refine W.guardT rfl c4 ?_
          refine W.lenL (c := SPathLines.cells) rfl ?_
          refine W.guardT rfl c4 ?_
          refine W.eql rfl rfl ?_
          refine W.pickT rfl rfl rfl c4 ?_
          refine W.mv rfl ?_
          refine W.nil ?_
          exact ⟨(decide ((r1.1.Files.length : Int) = 0)), h, Wk.nrmTo [4] [] rfl rfl⟩
        · replace h := iteF h c4
          refine W.guardF1 rfl c4 ?_
          refine W.guardF1 rfl c4 ?_
          refine W.guardF1 rfl c4 ?_
          refine W.guardF1 rfl c4 ?_
          refine W.pickN rfl rfl rfl c4 ?_
          refine W.mv rfl ?_
          refine W.nil ?_
          exact ⟨false, h, Wk.nrmTo [4] [] rfl rfl⟩
      · intro x3 h
        try dsimp only at h ⊢
        unfold law6_SandboxRunsAreHermetic_j2 at h
        refine Ev.ret ?_
        injection h with h; subst h
        exact ⟨_, rfl, .refl _⟩
    · replace h := iteF h c2
      refine Ev.skip ?_
      refine Ev.seq ?_
      refine W.reg hm ?_
      refine W.loadO (p := .agg [.list 1 (List.map cS a0.Inputs), .list 2 (List.map SKindText.cells a0.Ops), .str a0.Output]) rfl rfl rfl rfl ?_
      refine W.loadO (p := .agg [.list 2 (List.map SPathLines.cells a1.Files)]) rfl rfl rfl rfl ?_
      obtain ⟨r5, k5, h⟩ := obind h
      refine W.call (sandbox_Run_spec n a0 a1 r5 k5) rfl rfl (Les.refl _) rfl (.inl rfl) rfl ?_
      refine W.mv rfl ?_
      refine W.extract rfl rfl ?_
      refine W.extract rfl rfl ?_
      refine W.alloc (dt := true) rfl rfl rfl ?_
      refine W.mv rfl ?_
      refine W.store (es' := [[.int .i64 r5.2.Code, .int .i64 r5.2.Index]]) (dt := true) rfl rfl rfl rfl rfl (Nat.le_of_ble_eq_true rfl) rfl rfl rfl rfl ?_
      refine W.nil ?_
      refine Ev.seq ?_
      refine W.reg hm ?_
      refine W.loadO (p := .agg [.list 1 (List.map cS a0.Inputs), .list 2 (List.map SKindText.cells a0.Ops), .str a0.Output]) rfl rfl rfl rfl ?_
      refine W.loadO (p := .agg [.list 2 (List.map SPathLines.cells r1.1.Files)]) rfl rfl rfl rfl ?_
      obtain ⟨r6, k6, h⟩ := obind h
      refine W.call (sandbox_Run_spec n a0 (⟨r1.1.Files⟩ : SFiles) r6 k6) rfl rfl (Les.refl _) rfl (.inl rfl) rfl ?_
      refine W.mv rfl ?_
      refine W.extract rfl rfl ?_
      refine W.extract rfl rfl ?_
      refine W.alloc (dt := true) rfl rfl rfl ?_
      refine W.mv rfl ?_
      refine W.store (es' := [[.int .i64 r6.2.Code, .int .i64 r6.2.Index]]) (dt := true) rfl rfl rfl rfl rfl (Nat.le_of_ble_eq_true rfl) rfl rfl rfl rfl ?_
      refine W.nil ?_
      refine Ev.seq ?_
      refine W.reg hm ?_
      refine W.loadO (p := .agg [.list 1 (List.map cS a0.Inputs), .list 2 (List.map SKindText.cells a0.Ops), .str a0.Output]) rfl rfl rfl rfl ?_
      refine W.loadO (p := .agg [.list 2 (List.map SPathLines.cells r1.1.Files)]) rfl rfl rfl rfl ?_
      obtain ⟨r7, k7, h⟩ := obind h
      refine W.call (sandbox_Restrict_spec n a0 (⟨r1.1.Files⟩ : SFiles) r7 k7) rfl rfl (Les.refl _) rfl (.inl rfl) rfl ?_
      refine W.mv rfl ?_
      refine W.extract rfl rfl ?_
      refine W.extract rfl rfl ?_
      refine W.alloc (dt := true) rfl rfl rfl ?_
      refine W.alloc (dt := true) rfl rfl rfl ?_
      refine W.store (es' := [[.list 2 (List.map SPathLines.cells r7.1.Files)]]) (dt := true) rfl rfl rfl rfl rfl (Nat.le_of_ble_eq_true rfl) rfl rfl rfl rfl ?_
      refine W.store (es' := [[.int .i64 r7.2.Code, .int .i64 r7.2.Index]]) (dt := true) rfl rfl rfl rfl rfl (Nat.le_of_ble_eq_true rfl) rfl rfl rfl rfl ?_
      refine W.nil ?_
      refine Ev.seqJ (γ := Bool) (fun v => ⟨[(4, .bool v)], [], 2⟩) (fun v => law6_SandboxRunsAreHermetic_j3 n v = some r) ?_ ?_
      · refine W.reg hm ?_
        refine W.loadO (p := .agg [.int .i64 r5.2.Code, .int .i64 r5.2.Index]) rfl rfl rfl rfl ?_
        refine W.loadO (p := .agg [.int .i64 r6.2.Code, .int .i64 r6.2.Index]) rfl rfl rfl rfl ?_
        refine W.eqs rfl rfl rfl ?_
        refine W.mv rfl ?_
        refine W.split 54 rfl (fun c8 => ?_) (fun c8 => ?_)
        · replace h := iteT h c8
          refine W.guardT rfl c8 ?_
          refine W.mv rfl ?_
          refine W.guardT rfl c8 ?_
          refine W.mv rfl ?_
          refine W.guardT rfl c8 ?_
          obtain ⟨r9, k9, h⟩ := obind h
          refine W.call (ref6_Strings_spec n r5.1 r6.1 r9 k9) rfl rfl (Les.refl _) rfl (.inl rfl) rfl ?_
          refine W.pickT rfl rfl rfl c8 ?_
          refine W.mv rfl ?_
          refine W.split 59 rfl (fun c10 => ?_) (fun c10 => ?_)
          · replace h := iteT h c10
            refine W.guardT rfl c10 ?_
            refine W.fieldAddrO rfl rfl ?_
            refine W.guardT rfl c10 ?_
            refine W.loadO (p := .int .i64 r7.2.Code) rfl rfl rfl rfl ?_
            refine W.guardT rfl c10 ?_
            refine W.eql rfl rfl ?_
            refine W.pickT rfl rfl rfl c10 ?_
            refine W.mv rfl ?_
            refine W.split 64 rfl (fun c11 => ?_) (fun c11 => ?_)
            · replace h := iteT h c11
              refine W.guardT rfl c11 ?_
              refine W.loadO (p := .agg [.list 2 (List.map SPathLines.cells r7.1.Files)]) rfl rfl rfl rfl ?_
              refine W.guardT rfl c11 ?_
              refine W.loadO (p := .agg [.list 2 (List.map SPathLines.cells r1.1.Files)]) rfl rfl rfl rfl ?_
              refine W.guardT rfl c11 ?_
              obtain ⟨r10, k12, h⟩ := obind h
              refine W.call (ref6_Trees_spec n (⟨r7.1.Files⟩ : SFiles) (⟨r1.1.Files⟩ : SFiles) r10 k12) rfl rfl (Les.refl _) rfl (.inl rfl) rfl ?_
              refine W.pickT rfl rfl rfl c11 ?_
              refine W.mv rfl ?_
              refine W.nil ?_
              exact ⟨r10, h, Wk.nrmTo [4] [] rfl rfl⟩
            · replace h := iteF h c11
              refine W.guardF1 rfl c11 ?_
              refine W.guardF1 rfl c11 ?_
              refine W.guardF1 rfl c11 ?_
              refine W.pickN rfl rfl rfl c11 ?_
              refine W.mv rfl ?_
              refine W.nil ?_
              exact ⟨false, h, Wk.nrmTo [4] [] rfl rfl⟩
          · replace h := iteF h c10
            refine W.guardF1 rfl c10 ?_
            refine W.guardF1 rfl c10 ?_
            refine W.guardF1 rfl c10 ?_
            refine W.pickN rfl rfl rfl c10 ?_
            refine W.mv rfl ?_
            refine W.guardF1 rfl rfl ?_
            refine W.guardF1 rfl rfl ?_
            refine W.guardF1 rfl rfl ?_
            refine W.pickN rfl rfl rfl rfl ?_
            refine W.mv rfl ?_
            refine W.nil ?_
            exact ⟨false, h, Wk.nrmTo [4] [] rfl rfl⟩
        · replace h := iteF h c8
          refine W.guardF1 rfl c8 ?_
          refine W.guardF1 rfl c8 ?_
          refine W.guardF1 rfl c8 ?_
          refine W.pickN rfl rfl rfl c8 ?_
          refine W.mv rfl ?_
          refine W.guardF1 rfl rfl ?_
          refine W.guardF1 rfl rfl ?_
          refine W.guardF1 rfl rfl ?_
          refine W.pickN rfl rfl rfl rfl ?_
          refine W.mv rfl ?_
          refine W.guardF1 rfl rfl ?_
          refine W.guardF1 rfl rfl ?_
          refine W.guardF1 rfl rfl ?_
          refine W.pickN rfl rfl rfl rfl ?_
          refine W.mv rfl ?_
          refine W.nil ?_
          exact ⟨false, h, Wk.nrmTo [4] [] rfl rfl⟩
      · intro x8 h
        try dsimp only at h ⊢
        unfold law6_SandboxRunsAreHermetic_j3 at h
        refine Ev.ret ?_
        injection h with h; subst h
        exact ⟨_, rfl, .refl _⟩

set_option maxHeartbeats 4000000 in
theorem law6_SandboxUndeclaredReadsAreDenied_spec (n : Nat) (a0 : SInputsOpsOutput) (a1 : SFiles) (r : Bool) (h : law6_SandboxUndeclaredReadsAreDenied n a0 a1 = some r) : PSpec Tryd.prog 6 [.agg (SInputsOpsOutput.cells a0), .agg (SFiles.cells a1)] (.bool r) := by
  unfold law6_SandboxUndeclaredReadsAreDenied at h
  refine spec_of Tryd.c_law6_SandboxUndeclaredReadsAreDenied (by simp) ?_
  unfold Tryd.l_law6_SandboxUndeclaredReadsAreDenied
  refine Ev.seq ?_
  refine W.reg hm ?_
  refine W.box (dt := true) (cs := [.list 1 (List.map cS a0.Inputs), .list 2 (List.map SKindText.cells a0.Ops), .str a0.Output]) rfl rfl rfl rfl rfl rfl ?_
  refine W.box (dt := true) (cs := [.list 2 (List.map SPathLines.cells a1.Files)]) rfl rfl rfl rfl rfl rfl ?_
  refine W.mv rfl ?_
  refine W.nil ?_
  refine Ev.seq ?_
  refine W.reg hm ?_
  refine W.loadO (p := .agg [.list 1 (List.map cS a0.Inputs), .list 2 (List.map SKindText.cells a0.Ops), .str a0.Output]) rfl rfl rfl rfl ?_
  refine W.loadO (p := .agg [.list 2 (List.map SPathLines.cells a1.Files)]) rfl rfl rfl rfl ?_
  obtain ⟨r1, k1, h⟩ := obind h
  refine W.call (sandbox_Run_spec n a0 a1 r1 k1) rfl rfl (Les.refl _) rfl (.inl rfl) rfl ?_
  refine W.mv rfl ?_
  refine W.extract rfl rfl ?_
  refine W.extract rfl rfl ?_
  refine W.alloc (dt := true) rfl rfl rfl ?_
  refine W.mv rfl ?_
  refine W.store (es' := [[.int .i64 r1.2.Code, .int .i64 r1.2.Index]]) (dt := true) rfl rfl rfl rfl rfl (Nat.le_of_ble_eq_true rfl) rfl rfl rfl rfl ?_
  refine W.nil ?_
  refine Ev.seq ?_
  refine W.reg hm ?_
  refine W.loadO (p := .agg [.list 1 (List.map cS a0.Inputs), .list 2 (List.map SKindText.cells a0.Ops), .str a0.Output]) rfl rfl rfl rfl ?_
  obtain ⟨r2, k2, h⟩ := obind h
  refine W.call (sandbox_Reads_spec n a0 r2 k2) rfl rfl (Les.refl _) rfl (.inl rfl) rfl ?_
  refine W.mv rfl ?_
  refine W.extract rfl rfl ?_
  refine W.extract rfl rfl ?_
  refine W.alloc (dt := true) rfl rfl rfl ?_
  refine W.mv rfl ?_
  refine W.store (es' := [[.int .i64 r2.2.Code, .int .i64 r2.2.Index]]) (dt := true) rfl rfl rfl rfl rfl (Nat.le_of_ble_eq_true rfl) rfl rfl rfl rfl ?_
  refine W.nil ?_
  refine Ev.seq ?_
  refine Ev.seqJ (γ := Bool) (fun v => ⟨[(2, .pown 10100 0 0 0), (5, .list 1 (List.map cS r1.1)), (7, .list 1 (List.map cS r2.1)), (8, .pown 10101 0 0 0), (27, .bool v)], [(10100, ⟨0, 25, 3, [[.list 1 (List.map cS a0.Inputs), .list 2 (List.map SKindText.cells a0.Ops), .str a0.Output]], true, false, false⟩), (10101, ⟨0, 30, 2, [[.int .i64 r2.2.Code, .int .i64 r2.2.Index]], true, false, false⟩)], 2⟩) (fun v => law6_SandboxUndeclaredReadsAreDenied_j1 n a0 r1 r2 v = some r) ?_ ?_
  · refine W.reg hm ?_
    obtain ⟨r10, k11, h⟩ := obind h
    refine W.call (law6_runs_spec n r10 k11) rfl rfl (Les.refl _) rfl (.inl rfl) rfl ?_
    refine W.not rfl ?_
    refine W.mv rfl ?_
    refine W.split 23 rfl (fun c12 => ?_) (fun c12 => ?_)
    · replace h := iteT h c12
      refine W.guardF2 rfl c12 ?_
      refine W.guardF2 rfl c12 ?_
      refine W.guardF2 rfl c12 ?_
      refine W.pickT rfl rfl rfl c12 ?_
      refine W.nil ?_
      exact ⟨true, h, Wk.nrmTo [2, 5, 7, 8, 27] [(2, 10100), (8, 10101)] rfl rfl⟩
    · replace h := iteF h c12
      refine W.guardT rfl c12 ?_
      refine W.fieldAddrO rfl rfl ?_
      refine W.guardT rfl c12 ?_
      refine W.loadO (p := .int .i64 r1.2.Code) rfl rfl rfl rfl ?_
      refine W.guardT rfl c12 ?_
      refine W.neq rfl rfl ?_
      refine W.pickN rfl rfl rfl c12 ?_
      refine W.nil ?_
      exact ⟨(decide (r1.2.Code ≠ 0)), h, Wk.nrmTo [2, 5, 7, 8, 27] [(2, 10100), (8, 10101)] rfl rfl⟩
  · intro x3 h
    try dsimp only at h ⊢
    unfold law6_SandboxUndeclaredReadsAreDenied_j1 at h
    refine Ev.cond rfl (fun c3 => ?_) (fun c3 => ?_)
    · replace h := iteT h c3
      refine Ev.seqJ (γ := Bool) (fun v => ⟨[(4, .bool v)], [], 2⟩) (fun v => law6_SandboxUndeclaredReadsAreDenied_j2 n v = some r) ?_ ?_
      · refine W.reg hm ?_
        obtain ⟨r5, k4, h⟩ := obind h
        refine W.call (law6_runs_spec n r5 k4) rfl rfl (Les.refl _) rfl (.inl rfl) rfl ?_
        refine W.mv rfl ?_
        refine W.split 29 rfl (fun c5 => ?_) (fun c5 => ?_)
        · replace h := iteT h c5
          refine W.guardT rfl c5 ?_
          refine W.mv rfl ?_
          refine W.guardT rfl c5 ?_
          refine W.lenL (c := cS) rfl ?_
          refine W.guardT rfl c5 ?_
          refine W.eql rfl rfl ?_
          refine W.pickT rfl rfl rfl c5 ?_
          refine W.mv rfl ?_
          refine W.nil ?_
          exact ⟨(decide ((r1.1.length : Int) = 0)), h, Wk.nrmTo [4] [] rfl rfl⟩
        · replace h := iteF h c5
          refine W.guardF1 rfl c5 ?_
          refine W.guardF1 rfl c5 ?_
          refine W.guardF1 rfl c5 ?_
          refine W.pickN rfl rfl rfl c5 ?_
          refine W.mv rfl ?_
          refine W.nil ?_
          exact ⟨false, h, Wk.nrmTo [4] [] rfl rfl⟩
      · intro x4 h
        try dsimp only at h ⊢
        unfold law6_SandboxUndeclaredReadsAreDenied_j2 at h
        refine Ev.ret ?_
        injection h with h; subst h
        exact ⟨_, rfl, .refl _⟩
    · replace h := iteF h c3
      refine Ev.skip ?_
      refine Ev.seq ?_
      refine Ev.seq ?_
      refine W.reg hm ?_
      refine W.mv rfl ?_
      refine W.nil ?_
      refine Ev.block ?_
      refine Ev.loopW (β := Nat × Int) (fun v => ⟨[(2, .pown 10200 0 0 0), (7, .list 1 (List.map cS r2.1)), (8, .pown 10201 0 0 0), (9, .int .i64 v.2)], [(10200, ⟨0, 25, 3, [[.list 1 (List.map cS a0.Inputs), .list 2 (List.map SKindText.cells a0.Ops), .str a0.Output]], true, false, false⟩), (10201, ⟨0, 30, 2, [[.int .i64 r2.2.Code, .int .i64 r2.2.Index]], true, false, false⟩)], 2⟩) (fun v => law6_SandboxUndeclaredReadsAreDenied_l1 n a0 r2 v.1 v.2 = some r) (fun v => v.1) (n, 0) (Wk.nrmTo [2, 7, 8, 9] [(10100, 10200), (10101, 10201)] rfl rfl) h ?_
      intro ⟨m1, x6⟩ h
      try dsimp only at h ⊢
      cases m1 with
      | zero => rw [law6_SandboxUndeclaredReadsAreDenied_l1] at h; cases h
      | succ m1 =>
        rw [law6_SandboxUndeclaredReadsAreDenied_l1] at h
        refine Ev.seq ?_
        refine Ev.seq ?_
        refine W.reg hm ?_
        refine W.mv rfl ?_
        refine W.mv rfl ?_
        refine W.lenL (c := cS) rfl ?_
        refine W.lss rfl rfl ?_
        refine W.nil ?_
        refine Ev.cond rfl (fun c6 => ?_) (fun c6 => ?_)
        · replace h := iteT h c6
          refine Ev.skip ?_
          refine Ev.seq ?_
          refine Ev.block ?_
          refine Ev.seq ?_
          refine W.regD hm ?_
          refine W.fieldAddrO rfl rfl ?_
          refine W.loadO (p := .list 1 (List.map cS a0.Inputs)) rfl rfl rfl rfl ?_
          refine W.mv rfl ?_
          refine W.mv rfl ?_
          obtain ⟨e7, k7, h⟩ := obind h
          refine W.idxL (c := cS) rfl rfl k7 ?_
          refine W.load rfl rfl ?_
          obtain ⟨r8, k8, h⟩ := obind h
          refine W.call (ref6_HasString_spec n a0.Inputs e7 r8 k8) rfl rfl (Les.refl _) rfl (.inl rfl) rfl ?_
          refine W.not rfl ?_
          refine W.nil ⟨rfl, ?_⟩
          refine Ev.cond rfl (fun c9 => ?_) (fun c9 => ?_)
          · replace h := iteT h c9
            refine Ev.seq ?_
            refine W.reg hm ?_
            refine W.mv rfl ?_
            refine W.nil ?_
            refine Ev.ret ?_
            injection h with h; subst h
            exact ⟨_, rfl, .refl _⟩
          · replace h := iteF h c9
            refine Ev.skip ?_
            refine W.reg hm ?_
            refine W.mv rfl ?_
            obtain ⟨x9, k10, h⟩ := obind h
            refine W.addG rfl rfl k10 ?_
            refine W.mv rfl ?_
            refine W.nil ?_
            exact ⟨(m1, x9), h, Nat.lt_succ_self _, Wk.nrmTo [2, 7, 8, 9] [(10200, 10200), (10201, 10201)] rfl rfl⟩
        · replace h := iteF h c6
          refine Ev.exit ?_
          refine Ev.seq ?_
          refine W.reg hm ?_
          refine W.fieldAddrO rfl rfl ?_
          refine W.loadO (p := .int .i64 r2.2.Code) rfl rfl rfl rfl ?_
          refine W.eql rfl rfl ?_
          refine W.mv rfl ?_
          refine W.nil ?_
          refine Ev.ret ?_
          injection h with h; subst h
          exact ⟨_, rfl, .refl _⟩

theorem law6_with_spec (n : Nat) (a0 : SInputsOpsOutput) (a1 : List SKindText) (r : SInputsOpsOutput) (h : law6_with n a0 a1 = some r) : PSpec Tryd.prog 22 [.agg (SInputsOpsOutput.cells a0), .list 2 (List.map SKindText.cells a1)] (.agg (SInputsOpsOutput.cells r)) := by
  unfold law6_with at h
  refine spec_of Tryd.c_law6_with (by simp) ?_
  unfold Tryd.l_law6_with
  refine Ev.seq ?_
  refine W.reg hm ?_
  refine W.box (dt := true) (cs := [.list 1 (List.map cS a0.Inputs), .list 2 (List.map SKindText.cells a0.Ops), .str a0.Output]) rfl rfl rfl rfl rfl rfl ?_
  refine W.alloc (dt := true) rfl rfl rfl ?_
  refine W.nil ?_
  refine Ev.seq ?_
  refine W.reg hm ?_
  refine W.mv rfl ?_
  refine W.nil ?_
  refine Ev.seq ?_
  refine W.reg hm ?_
  refine W.mv rfl ?_
  refine W.fieldAddrO rfl rfl ?_
  refine W.loadO (p := .list 2 (List.map SKindText.cells a0.Ops)) rfl rfl rfl rfl ?_
  obtain ⟨w1, k1, h⟩ := obind h
  refine W.appN true (c := SKindText.cells) (ys := a0.Ops) rfl rfl rfl rfl k1 rfl ?_
  refine W.mv rfl ?_
  refine W.nil ?_
  refine Ev.seq ?_
  refine W.reg hm ?_
  refine W.mv rfl ?_
  refine W.mv rfl ?_
  obtain ⟨w2, k2, h⟩ := obind h
  refine W.appR true (l := w1) (c := SKindText.cells) (ys := a1) rfl rfl rfl rfl rfl rfl rfl rfl k2 rfl (by simp) ?_
  refine W.fieldAddrO rfl rfl ?_
  refine W.store (es' := [[.list 1 (List.map cS a0.Inputs), .own 12 2, .str a0.Output]]) (dt := false) rfl rfl rfl rfl rfl (Nat.le_of_ble_eq_true rfl) rfl rfl rfl rfl ?_
  refine W.nil ?_
  refine Ev.seq ?_
  refine W.reg hm ?_
  refine W.loadO (p := .agg [.list 1 (List.map cS a0.Inputs), .own 12 2, .str a0.Output]) rfl rfl rfl rfl ?_
  refine W.store (es' := [[.list 1 (List.map cS a0.Inputs), .own 12 2, .str a0.Output]]) (dt := false) rfl rfl rfl rfl rfl (Nat.le_of_ble_eq_true rfl) rfl rfl rfl rfl ?_
  refine W.nil ?_
  refine Ev.weak ?_ (Wk.frz 12 2 rfl rfl)
  refine Ev.ret ?_
  injection h with h; subst h
  exact ⟨_, rfl, .refl _⟩

theorem law6_in_spec (n : Nat) (a0 : Int) (a1 : Int) (a2 : Int) (r : Bool) (h : law6_in n a0 a1 a2 = some r) : PSpec Tryd.prog 23 [.int .i64 a0, .int .i64 a1, .int .i64 a2] (.bool r) := by
  unfold law6_in at h
  refine spec_of Tryd.c_law6_in (by simp) ?_
  unfold Tryd.l_law6_in
  refine Ev.seq ?_
  refine W.reg hm ?_
  refine W.mv rfl ?_
  refine W.nil ?_
  refine Ev.seqJ (γ := Bool) (fun v => ⟨[(6, .bool v)], [], 2⟩) (fun v => law6_in_j1 n v = some r) ?_ ?_
  · refine W.reg hm ?_
    refine W.mv rfl ?_
    refine W.mv rfl ?_
    refine W.geq rfl rfl ?_
    refine W.mv rfl ?_
    refine W.split 10 rfl (fun c1 => ?_) (fun c1 => ?_)
    · replace h := iteT h c1
      refine W.guardT rfl c1 ?_
      refine W.mv rfl ?_
      refine W.guardT rfl c1 ?_
      refine W.mv rfl ?_
      refine W.guardT rfl c1 ?_
      refine W.leq rfl rfl ?_
      refine W.pickT rfl rfl rfl c1 ?_
      refine W.mv rfl ?_
      refine W.nil ?_
      exact ⟨(decide (a0 ≤ a2)), h, Wk.nrmTo [6] [] rfl rfl⟩
    · replace h := iteF h c1
      refine W.guardF1 rfl c1 ?_
      refine W.guardF1 rfl c1 ?_
      refine W.guardF1 rfl c1 ?_
      refine W.pickN rfl rfl rfl c1 ?_
      refine W.mv rfl ?_
      refine W.nil ?_
      exact ⟨false, h, Wk.nrmTo [6] [] rfl rfl⟩
  · intro x1 h
    try dsimp only at h ⊢
    unfold law6_in_j1 at h
    refine Ev.ret ?_
    injection h with h; subst h
    exact ⟨_, rfl, .refl _⟩

set_option maxHeartbeats 4000000 in
theorem law6_SandboxExecutionsStopAtTheFirstError_spec (n : Nat) (a0 : SInputsOpsOutput) (a1 : SFiles) (a2 : Int) (r : Bool) (h : law6_SandboxExecutionsStopAtTheFirstError n a0 a1 a2 = some r) : PSpec Tryd.prog 8 [.agg (SInputsOpsOutput.cells a0), .agg (SFiles.cells a1), .int .i64 a2] (.bool r) := by
  unfold law6_SandboxExecutionsStopAtTheFirstError at h
  refine spec_of Tryd.c_law6_SandboxExecutionsStopAtTheFirstError (by simp) ?_
  unfold Tryd.l_law6_SandboxExecutionsStopAtTheFirstError
  refine Ev.seq ?_
  refine W.reg hm ?_
  refine W.box (dt := true) (cs := [.list 1 (List.map cS a0.Inputs), .list 2 (List.map SKindText.cells a0.Ops), .str a0.Output]) rfl rfl rfl rfl rfl rfl ?_
  refine W.box (dt := true) (cs := [.list 2 (List.map SPathLines.cells a1.Files)]) rfl rfl rfl rfl rfl rfl ?_
  refine W.mv rfl ?_
  refine W.nil ?_
  refine Ev.seq ?_
  refine W.reg hm ?_
  refine W.loadO (p := .agg [.list 1 (List.map cS a0.Inputs), .list 2 (List.map SKindText.cells a0.Ops), .str a0.Output]) rfl rfl rfl rfl ?_
  refine W.loadO (p := .agg [.list 2 (List.map SPathLines.cells a1.Files)]) rfl rfl rfl rfl ?_
  obtain ⟨r1, k1, h⟩ := obind h
  refine W.call (sandbox_Run_spec n a0 a1 r1 k1) rfl rfl (Les.refl _) rfl (.inl rfl) rfl ?_
  refine W.mv rfl ?_
  refine W.extract rfl rfl ?_
  refine W.extract rfl rfl ?_
  refine W.alloc (dt := true) rfl rfl rfl ?_
  refine W.mv rfl ?_
  refine W.store (es' := [[.int .i64 r1.2.Code, .int .i64 r1.2.Index]]) (dt := true) rfl rfl rfl rfl rfl (Nat.le_of_ble_eq_true rfl) rfl rfl rfl rfl ?_
  refine W.nil ?_
  refine Ev.seq ?_
  refine Ev.seqJ (γ := Bool) (fun v => ⟨[(2, .int .i64 a2), (3, .pown 10100 0 0 0), (4, .pown 10101 0 0 0), (8, .pown 10102 0 0 0), (29, .bool v)], [(10100, ⟨0, 25, 3, [[.list 1 (List.map cS a0.Inputs), .list 2 (List.map SKindText.cells a0.Ops), .str a0.Output]], true, false, false⟩), (10101, ⟨0, 28, 1, [[.list 2 (List.map SPathLines.cells a1.Files)]], true, false, false⟩), (10102, ⟨0, 30, 2, [[.int .i64 r1.2.Code, .int .i64 r1.2.Index]], true, false, false⟩)], 2⟩) (fun v => law6_SandboxExecutionsStopAtTheFirstError_j1 n a0 a1 a2 r1 v = some r) ?_ ?_
  · refine W.reg hm ?_
    obtain ⟨r10, k12, h⟩ := obind h
    refine W.call (law6_runs_spec n r10 k12) rfl rfl (Les.refl _) rfl (.inl rfl) rfl ?_
    refine W.not rfl ?_
    refine W.mv rfl ?_
    refine W.split 20 rfl (fun c13 => ?_) (fun c13 => ?_)
    · replace h := iteT h c13
      refine W.guardF2 rfl c13 ?_
      refine W.guardF2 rfl c13 ?_
      refine W.guardF2 rfl c13 ?_
      refine W.guardF2 rfl c13 ?_
      refine W.guardU rfl ?_
      refine W.guardU rfl ?_
      refine W.guardU rfl ?_
      refine W.guardF2 rfl c13 ?_
      refine W.pickT rfl rfl rfl c13 ?_
      refine W.nil ?_
      exact ⟨true, h, Wk.nrmTo [2, 3, 4, 8, 29] [(3, 10100), (4, 10101), (8, 10102)] rfl rfl⟩
    · replace h := iteF h c13
      refine W.guardT rfl c13 ?_
      refine W.fieldAddrO rfl rfl ?_
      refine W.guardT rfl c13 ?_
      refine W.loadO (p := .int .i64 r1.2.Code) rfl rfl rfl rfl ?_
      refine W.guardT rfl c13 ?_
      refine W.neq rfl rfl ?_
      refine W.guardT rfl c13 ?_
      refine W.mv rfl ?_
      refine W.split 24 rfl (fun c14 => ?_) (fun c14 => ?_)
      · replace h := iteT h c14
        refine W.guardT rfl c14 ?_
        refine W.mv rfl ?_
        refine W.guardT rfl c14 ?_
        refine W.lenL (c := cS) rfl ?_
        refine W.guardT rfl c14 ?_
        refine W.gtr rfl rfl ?_
        refine W.guardT rfl c13 ?_
        refine W.pickT rfl rfl rfl c14 ?_
        refine W.pickN rfl rfl rfl c13 ?_
        refine W.nil ?_
        exact ⟨(decide (0 < (r1.1.length : Int))), h, Wk.nrmTo [2, 3, 4, 8, 29] [(3, 10100), (4, 10101), (8, 10102)] rfl rfl⟩
      · replace h := iteF h c14
        refine W.guardF1 rfl c14 ?_
        refine W.guardF1 rfl c14 ?_
        refine W.guardF1 rfl c14 ?_
        refine W.guardT rfl c13 ?_
        refine W.pickN rfl rfl rfl c14 ?_
        refine W.pickN rfl rfl rfl c13 ?_
        refine W.nil ?_
        exact ⟨false, h, Wk.nrmTo [2, 3, 4, 8, 29] [(3, 10100), (4, 10101), (8, 10102)] rfl rfl⟩
  · intro x2 h
    try dsimp only at h ⊢
    unfold law6_SandboxExecutionsStopAtTheFirstError_j1 at h
    refine Ev.cond rfl (fun c2 => ?_) (fun c2 => ?_)
    · replace h := iteT h c2
      refine Ev.seq ?_
      refine W.reg hm ?_
      refine W.mv rfl ?_
      refine W.nil ?_
      refine Ev.ret ?_
      injection h with h; subst h
      exact ⟨_, rfl, .refl _⟩
    · replace h := iteF h c2
      refine Ev.skip ?_
      refine Ev.seq ?_
      refine Ev.seqJ (γ := Bool) (fun v => ⟨[(2, .int .i64 a2), (3, .pown 10200 0 0 0), (4, .pown 10201 0 0 0), (8, .pown 10202 0 0 0), (42, .bool v)], [(10200, ⟨0, 25, 3, [[.list 1 (List.map cS a0.Inputs), .list 2 (List.map SKindText.cells a0.Ops), .str a0.Output]], true, false, false⟩), (10201, ⟨0, 28, 1, [[.list 2 (List.map SPathLines.cells a1.Files)]], true, false, false⟩), (10202, ⟨0, 30, 2, [[.int .i64 r1.2.Code, .int .i64 r1.2.Index]], true, false, false⟩)], 2⟩) (fun v => law6_SandboxExecutionsStopAtTheFirstError_j2 n a0 a1 a2 r1 v = some r) ?_ ?_
      · refine W.reg hm ?_
        refine W.mv rfl ?_
        refine W.fieldAddrO rfl rfl ?_
        refine W.loadO (p := .list 2 (List.map SKindText.cells a0.Ops)) rfl rfl rfl rfl ?_
        refine W.lenL (c := SKindText.cells) rfl ?_
        obtain ⟨r8, k9, h⟩ := obind h
        refine W.call (law6_in_spec n a2 0 (a0.Ops.length : Int) r8 k9) rfl rfl (Les.refl _) rfl (.inl rfl) rfl ?_
        refine W.not rfl ?_
        refine W.mv rfl ?_
        refine W.split 36 rfl (fun c10 => ?_) (fun c10 => ?_)
        · replace h := iteT h c10
          refine W.guardF2 rfl c10 ?_
          refine W.guardF2 rfl c10 ?_
          refine W.guardF2 rfl c10 ?_
          refine W.guardF2 rfl c10 ?_
          refine W.guardF2 rfl c10 ?_
          refine W.pickT rfl rfl rfl c10 ?_
          refine W.nil ?_
          exact ⟨true, h, Wk.nrmTo [2, 3, 4, 8, 42] [(10100, 10200), (10101, 10201), (10102, 10202)] rfl rfl⟩
        · replace h := iteF h c10
          refine W.guardT rfl c10 ?_
          refine W.loadO (p := .agg [.list 1 (List.map cS a0.Inputs), .list 2 (List.map SKindText.cells a0.Ops), .str a0.Output]) rfl rfl rfl rfl ?_
          refine W.guardT rfl c10 ?_
          refine W.loadO (p := .agg [.list 2 (List.map SPathLines.cells a1.Files)]) rfl rfl rfl rfl ?_
          refine W.guardT rfl c10 ?_
          obtain ⟨r9, k11, h⟩ := obind h
          refine W.call (ref6_RunFault_spec n a0 a1 r9 k11) rfl rfl (Les.refl _) rfl (.inl rfl) rfl ?_
          refine W.guardT rfl c10 ?_
          refine W.field rfl rfl ?_
          refine W.guardT rfl c10 ?_
          refine W.neq rfl rfl ?_
          refine W.pickN rfl rfl rfl c10 ?_
          refine W.nil ?_
          exact ⟨(decide (r9.Code ≠ 0)), h, Wk.nrmTo [2, 3, 4, 8, 42] [(10100, 10200), (10101, 10201), (10102, 10202)] rfl rfl⟩
      · intro x3 h
        try dsimp only at h ⊢
        unfold law6_SandboxExecutionsStopAtTheFirstError_j2 at h
        refine Ev.cond rfl (fun c3 => ?_) (fun c3 => ?_)
        · replace h := iteT h c3
          refine Ev.seq ?_
          refine W.reg hm ?_
          refine W.mv rfl ?_
          refine W.nil ?_
          refine Ev.ret ?_
          injection h with h; subst h
          exact ⟨_, rfl, .refl _⟩
        · replace h := iteF h c3
          refine Ev.skip ?_
          refine Ev.seq ?_
          refine W.reg hm ?_
          refine W.loadO (p := .agg [.list 1 (List.map cS a0.Inputs), .list 2 (List.map SKindText.cells a0.Ops), .str a0.Output]) rfl rfl rfl rfl ?_
          refine W.alloc (dt := true) rfl rfl rfl ?_
          refine W.store (es' := [[.list 1 (List.map cS a0.Inputs), .list 2 (List.map SKindText.cells a0.Ops), .str a0.Output]]) (dt := true) rfl rfl rfl rfl rfl (Nat.le_of_ble_eq_true rfl) rfl rfl rfl rfl ?_
          refine W.nil ?_
          refine Ev.seq ?_
          refine W.reg hm ?_
          refine W.fieldAddrO rfl rfl ?_
          refine W.loadO (p := .list 2 (List.map SKindText.cells a0.Ops)) rfl rfl rfl rfl ?_
          refine W.mv rfl ?_
          obtain ⟨s4, k4, h⟩ := obind h
          refine W.sliceL (c := SKindText.cells) rfl k4 (ix1 (gcut_some k4).2.2.2.1) ?_
          refine W.fieldAddrO rfl rfl ?_
          refine W.store (es' := [[.list 1 (List.map cS a0.Inputs), .list 2 (List.map SKindText.cells s4), .str a0.Output]]) (dt := true) rfl rfl rfl rfl rfl (Nat.le_of_ble_eq_true rfl) rfl rfl rfl rfl ?_
          refine W.nil ?_
          refine Ev.seq ?_
          refine W.reg hm ?_
          refine W.loadO (p := .agg [.list 1 (List.map cS a0.Inputs), .list 2 (List.map SKindText.cells s4), .str a0.Output]) rfl rfl rfl rfl ?_
          refine W.loadO (p := .agg [.list 2 (List.map SPathLines.cells a1.Files)]) rfl rfl rfl rfl ?_
          obtain ⟨r5, k5, h⟩ := obind h
          refine W.call (sandbox_Run_spec n (⟨a0.Inputs, s4, a0.Output⟩ : SInputsOpsOutput) a1 r5 k5) rfl rfl (Les.refl _) rfl (.inl rfl) rfl ?_
          refine W.mv rfl ?_
          refine W.extract rfl rfl ?_
          refine W.extract rfl rfl ?_
          refine W.alloc (dt := true) rfl rfl rfl ?_
          refine W.mv rfl ?_
          refine W.store (es' := [[.int .i64 r5.2.Code, .int .i64 r5.2.Index]]) (dt := true) rfl rfl rfl rfl rfl (Nat.le_of_ble_eq_true rfl) rfl rfl rfl rfl ?_
          refine W.nil ?_
          refine Ev.seq ?_
          refine Ev.seqJ (γ := Bool) (fun v => ⟨[(8, .pown 10300 0 0 0), (11, .pown 10301 0 0 0), (64, .bool v)], [(10300, ⟨0, 30, 2, [[.int .i64 r1.2.Code, .int .i64 r1.2.Index]], true, false, false⟩), (10301, ⟨0, 30, 2, [[.int .i64 r5.2.Code, .int .i64 r5.2.Index]], true, false, false⟩)], 2⟩) (fun v => law6_SandboxExecutionsStopAtTheFirstError_j3 n r1 r5 v = some r) ?_ ?_
          · refine W.reg hm ?_
            refine W.fieldAddrO rfl rfl ?_
            refine W.loadO (p := .int .i64 r1.2.Code) rfl rfl rfl rfl ?_
            refine W.eql rfl rfl ?_
            refine W.mv rfl ?_
            refine W.split 58 rfl (fun c7 => ?_) (fun c7 => ?_)
            · replace h := iteT h c7
              refine W.guardF2 rfl c7 ?_
              refine W.guardF2 rfl c7 ?_
              refine W.guardF2 rfl c7 ?_
              refine W.guardF2 rfl c7 ?_
              refine W.guardF2 rfl c7 ?_
              refine W.pickT rfl rfl rfl c7 ?_
              refine W.nil ?_
              exact ⟨true, h, Wk.nrmTo [8, 11, 64] [(10202, 10300), (11, 10301)] rfl rfl⟩
            · replace h := iteF h c7
              refine W.guardT rfl c7 ?_
              refine W.fieldAddrO rfl rfl ?_
              refine W.guardT rfl c7 ?_
              refine W.loadO (p := .int .i64 r1.2.Index) rfl rfl rfl rfl ?_
              refine W.guardT rfl c7 ?_
              obtain ⟨x7, k8, h⟩ := obind h
              refine W.subG rfl rfl k8 ?_
              refine W.guardT rfl c7 ?_
              refine W.mv rfl ?_
              refine W.guardT rfl c7 ?_
              refine W.geq rfl rfl ?_
              refine W.pickN rfl rfl rfl c7 ?_
              refine W.nil ?_
              exact ⟨(decide (a2 ≤ x7)), h, Wk.nrmTo [8, 11, 64] [(10202, 10300), (11, 10301)] rfl rfl⟩
          · intro x6 h
            try dsimp only at h ⊢
            unfold law6_SandboxExecutionsStopAtTheFirstError_j3 at h
            refine Ev.cond rfl (fun c6 => ?_) (fun c6 => ?_)
            · replace h := iteT h c6
              refine Ev.seq ?_
              refine W.reg hm ?_
              refine W.fieldAddrO rfl rfl ?_
              refine W.loadO (p := .int .i64 r5.2.Code) rfl rfl rfl rfl ?_
              refine W.eql rfl rfl ?_
              refine W.mv rfl ?_
              refine W.nil ?_
              refine Ev.ret ?_
              injection h with h; subst h
              exact ⟨_, rfl, .refl _⟩
            · replace h := iteF h c6
              refine Ev.skip ?_
              refine Ev.seq ?_
              refine W.reg hm ?_
              refine W.loadO (p := .agg [.int .i64 r5.2.Code, .int .i64 r5.2.Index]) rfl rfl rfl rfl ?_
              refine W.loadO (p := .agg [.int .i64 r1.2.Code, .int .i64 r1.2.Index]) rfl rfl rfl rfl ?_
              refine W.eqs rfl rfl rfl ?_
              refine W.mv rfl ?_
              refine W.nil ?_
              refine Ev.ret ?_
              injection h with h; subst h
              exact ⟨_, rfl, .refl _⟩
end Go.Proofs.YtadeoaglhaaimaaDoor
