/- The functions compute what the texts of D say. Laid by a program (wip/gen/dec.py). -/
import Derived.Test.YtpbfobgbpdbiaaaD
import Derived.Test.YtpbfobgbpdbiaaaW1
namespace Go.Proofs.Ytpbfobgbpdbiaaa
open Go.PW Go
theorem ref5_Ints_spec (n : Nat) (a0 : List Int) (a1 : List Int) (r : Bool) (h : ref5_Ints n a0 a1 = some r) : PSpec Try.prog 14 [.list 1 (List.map cI a0), .list 1 (List.map cI a1)] (.bool r) := by
  unfold ref5_Ints at h
  refine spec_of Try.c_ref5_Ints (by simp) ?_
  unfold Try.l_ref5_Ints
  refine Ev.seq ?_
  refine W.reg hm ?_
  refine W.mv rfl ?_
  refine W.nil ?_
  refine Ev.seq ?_
  refine Ev.seq ?_
  refine W.reg hm ?_
  refine W.mv rfl ?_
  refine W.lenL (c := cI) rfl ?_
  refine W.mv rfl ?_
  refine W.lenL (c := cI) rfl ?_
  refine W.neq rfl rfl ?_
  refine W.nil ?_
  refine Ev.cond rfl (fun c1 => ?_) (fun c1 => ?_)
  · replace h := iteT h c1
    refine Ev.seq ?_
    refine W.reg hm ?_
    refine W.mv rfl ?_
    refine W.nil ?_
    refine Ev.ret ?_
    injection h with h; subst h
    exact ⟨_, rfl, .refl _⟩
  · replace h := iteF h c1
    refine Ev.skip ?_
    refine Ev.seq ?_
    refine Ev.seq ?_
    refine W.reg hm ?_
    refine W.mv rfl ?_
    refine W.nil ?_
    refine Ev.block ?_
    refine Ev.loopW (β := Nat × Int) (fun v => ⟨[(0, .list 1 (List.map cI a0)), (1, .list 1 (List.map cI a1)), (5, .int .i64 v.2)], [], 2⟩) (fun v => ref5_Ints_l1 n a0 a1 v.1 v.2 = some r) (fun v => v.1) (n, 0) (Wk.nrmTo [0, 1, 5] [] rfl rfl) h ?_
    intro ⟨m1, x1⟩ h
    try dsimp only at h ⊢
    cases m1 with
    | zero => rw [ref5_Ints_l1] at h; cases h
    | succ m1 =>
      rw [ref5_Ints_l1] at h
      refine Ev.seq ?_
      refine Ev.seq ?_
      refine W.reg hm ?_
      refine W.mv rfl ?_
      refine W.mv rfl ?_
      refine W.lenL (c := cI) rfl ?_
      refine W.lss rfl rfl ?_
      refine W.nil ?_
      refine Ev.cond rfl (fun c2 => ?_) (fun c2 => ?_)
      · replace h := iteT h c2
        refine Ev.skip ?_
        refine Ev.seq ?_
        refine Ev.block ?_
        refine Ev.seq ?_
        refine W.regD hm ?_
        refine W.mv rfl ?_
        refine W.mv rfl ?_
        obtain ⟨e2, k3, h⟩ := obind h
        refine W.idxL (c := cI) rfl rfl k3 ?_
        refine W.load rfl rfl ?_
        refine W.mv rfl ?_
        refine W.mv rfl ?_
        obtain ⟨e3, k4, h⟩ := obind h
        refine W.idxL (c := cI) rfl rfl k4 ?_
        refine W.load rfl rfl ?_
        refine W.neq rfl rfl ?_
        refine W.nil ⟨rfl, ?_⟩
        refine Ev.cond rfl (fun c5 => ?_) (fun c5 => ?_)
        · replace h := iteT h c5
          refine Ev.seq ?_
          refine W.reg hm ?_
          refine W.mv rfl ?_
          refine W.nil ?_
          refine Ev.ret ?_
          injection h with h; subst h
          exact ⟨_, rfl, .refl _⟩
        · replace h := iteF h c5
          refine Ev.skip ?_
          refine W.reg hm ?_
          refine W.mv rfl ?_
          obtain ⟨x4, k6, h⟩ := obind h
          refine W.addG rfl rfl k6 ?_
          refine W.mv rfl ?_
          refine W.nil ?_
          exact ⟨(m1, x4), h, Nat.lt_succ_self _, Wk.nrmTo [0, 1, 5] [] rfl rfl⟩
      · replace h := iteF h c2
        refine Ev.exit ?_
        refine Ev.seq ?_
        refine W.reg hm ?_
        refine W.mv rfl ?_
        refine W.nil ?_
        refine Ev.ret ?_
        injection h with h; subst h
        exact ⟨_, rfl, .refl _⟩

set_option maxHeartbeats 4000000 in
theorem depgraph_Affected_spec (n : Nat) (a0 : List (List Int)) (a1 : List Int) (r : ((List Int) × SCodeIndex)) (h : depgraph_Affected n a0 a1 = some r) : PSpec Try.prog 17 [.list 1 (List.map (cL 1 cI) a0), .list 1 (List.map cI a1)] (.tup [.list 1 (List.map cI r.1), .agg (SCodeIndex.cells r.2)]) := by
  unfold depgraph_Affected at h
  refine spec_of Try.c_depgraph_Affected (by simp) ?_
  unfold Try.l_depgraph_Affected
  refine Ev.seq ?_
  refine W.reg hm ?_
  refine W.mv rfl ?_
  refine W.alloc (dt := true) rfl rfl rfl ?_
  refine W.nil ?_
  refine Ev.seq ?_
  refine Ev.seq ?_
  refine W.reg hm ?_
  refine W.mv rfl ?_
  obtain ⟨r1, k1, h⟩ := obind h
  refine W.call (depgraph_Validate_spec n a0 r1 k1) rfl rfl (Les.refl _) rfl (.inl rfl) rfl ?_
  refine W.alloc (dt := true) rfl rfl rfl ?_
  refine W.store (es' := [[.int .i64 r1.Code, .int .i64 r1.Index]]) (dt := true) rfl rfl rfl rfl rfl (Nat.le_of_ble_eq_true rfl) rfl rfl rfl rfl ?_
  refine W.nil ?_
  refine Ev.seq ?_
  refine W.reg hm ?_
  refine W.loadO (p := .agg [.int .i64 r1.Code, .int .i64 r1.Index]) rfl rfl rfl rfl ?_
  refine W.build (cs := [.int .i64 0, .int .i64 0]) rfl rfl rfl ?_
  refine W.eqs rfl rfl rfl ?_
  refine W.nil ?_
  refine Ev.cond rfl (fun c2 => ?_) (fun c2 => ?_)
  · replace h := iteT h c2
    refine Ev.seq ?_
    refine W.regD hm ?_
    refine W.loadO (p := .agg [.int .i64 r1.Code, .int .i64 r1.Index]) rfl rfl rfl rfl ?_
    refine W.mv rfl ?_
    refine W.store (es' := [[.int .i64 r1.Code, .int .i64 r1.Index]]) (dt := true) rfl rfl rfl rfl rfl (Nat.le_of_ble_eq_true rfl) rfl rfl rfl rfl ?_
    refine W.nil ⟨rfl, ?_⟩
    refine Ev.ret ?_
    injection h with h; subst h
    exact ⟨_, rfl, Le.tups (.cons (.nils 1) (.cons (.refl _) (.nil)))⟩
  · replace h := iteF h c2
    refine Ev.skip ?_
    refine Ev.seq ?_
    refine Ev.seq ?_
    refine W.reg hm ?_
    refine W.mv rfl ?_
    refine W.mv rfl ?_
    refine W.lenL (c := (cL 1 cI)) rfl ?_
    obtain ⟨r2, k3, h⟩ := obind h
    refine W.call (depgraph_list_spec n a1 (a0.length : Int) r2 k3) rfl rfl (Les.refl _) rfl (.inl rfl) rfl ?_
    refine W.mv rfl ?_
    refine W.nil ?_
    refine Ev.seq ?_
    refine W.reg hm ?_
    refine W.mv rfl ?_
    refine W.neq rfl rfl ?_
    refine W.nil ?_
    refine Ev.cond rfl (fun c4 => ?_) (fun c4 => ?_)
    · replace h := iteT h c4
      refine Ev.seq ?_
      refine W.reg hm ?_
      refine W.mv rfl ?_
      refine W.build (cs := [.int .i64 r2, .int .i64 (-2)]) rfl rfl rfl ?_
      refine W.mv rfl ?_
      refine W.store (es' := [[.int .i64 r2, .int .i64 (-2)]]) (dt := true) rfl rfl rfl rfl rfl (Nat.le_of_ble_eq_true rfl) rfl rfl rfl rfl ?_
      refine W.nil ?_
      refine Ev.ret ?_
      injection h with h; subst h
      exact ⟨_, rfl, Le.tups (.cons (.nils 1) (.cons (.refl _) (.nil)))⟩
    · replace h := iteF h c4
      refine Ev.skip ?_
      refine Ev.seq ?_
      refine W.reg hm ?_
      refine W.mv rfl ?_
      refine W.lenL (c := (cL 1 cI)) rfl ?_
      obtain ⟨w3, k5, h⟩ := obind h
      refine W.makeG true (c := cB) rfl rfl k5 rfl rfl ?_
      refine W.mv rfl ?_
      refine W.nil ?_
      refine Ev.seq ?_
      refine Ev.seq ?_
      refine W.reg hm ?_
      refine W.mv rfl ?_
      refine W.lenL (c := cI) rfl ?_
      refine W.mv rfl ?_
      refine W.nil ?_
      refine Ev.block ?_
      refine Ev.loopW (β := Nat × (List Bool) × Int) (fun v => ⟨[(0, .list 1 (List.map (cL 1 cI) a0)), (5, .pown 10100 0 0 0), (8, .own 10101 0), (33, .list 1 (List.map cI a1)), (34, .int .i64 (a1.length : Int)), (35, .int .i64 v.2.2)], [(10100, ⟨0, 25, 2, [[.int .i64 0, .int .i64 0]], true, false, false⟩), (10101, ⟨0, 4, 1, List.map cB v.2.1, true, false, false⟩)], 2⟩) (fun v => depgraph_Affected_l1 n a0 a1 v.1 v.2.1 v.2.2 = some r) (fun v => v.1) (n, w3, 0) (Wk.nrmTo [0, 5, 8, 33, 34, 35] [(5, 10100), (32, 10101)] rfl rfl) h ?_
      intro ⟨m1, w4, x5⟩ h
      try dsimp only at h ⊢
      cases m1 with
      | zero => rw [depgraph_Affected_l1] at h; cases h
      | succ m1 =>
        rw [depgraph_Affected_l1] at h
        refine Ev.seq ?_
        refine W.reg hm ?_
        refine W.lss rfl rfl ?_
        refine W.nil ?_
        refine Ev.seq ?_
        refine Ev.cond rfl (fun c6 => ?_) (fun c6 => ?_)
        · replace h := iteT h c6
          refine Ev.skip ?_
          refine Ev.seq ?_
          refine Ev.block ?_
          refine Ev.seq ?_
          refine W.reg hm ?_
          obtain ⟨e6, k7, h⟩ := obind h
          refine W.idxL (c := cI) rfl rfl k7 ?_
          refine W.load rfl rfl ?_
          refine W.mv rfl ?_
          refine W.nil ?_
          refine Ev.seq ?_
          refine W.reg hm ?_
          refine W.mv rfl ?_
          refine W.mv rfl ?_
          obtain ⟨r7, k8, h⟩ := obind h
          refine W.call (depgraph_distances_spec n a0 e6 r7 k8) rfl rfl (Les.refl _) rfl (.inl rfl) rfl ?_
          refine W.lenL (c := cI) rfl ?_
          refine W.mv rfl ?_
          refine W.nil ?_
          refine Ev.block ?_
          refine Ev.loopW (β := Nat × (List Bool) × Int) (fun v => ⟨[(0, .list 1 (List.map (cL 1 cI) a0)), (5, .pown 10200 0 0 0), (8, .own 10201 0), (10, .int .i64 e6), (33, .list 1 (List.map cI a1)), (34, .int .i64 (a1.length : Int)), (35, .int .i64 x5), (41, .list 1 (List.map cI r7)), (42, .int .i64 (r7.length : Int)), (43, .int .i64 v.2.2)], [(10200, ⟨0, 25, 2, [[.int .i64 0, .int .i64 0]], true, false, false⟩), (10201, ⟨0, 4, 1, List.map cB v.2.1, true, false, false⟩)], 2⟩) (fun v => depgraph_Affected_l2 n x5 (depgraph_Affected_l1 n a0 a1 m1) e6 r7 v.1 v.2.1 v.2.2 = some r) (fun v => v.1) (n, w4, 0) (Wk.nrmTo [0, 5, 8, 10, 33, 34, 35, 41, 42, 43] [(10100, 10200), (10101, 10201)] rfl rfl) h ?_
          intro ⟨m2, w8, x9⟩ h
          try dsimp only at h ⊢
          cases m2 with
          | zero => rw [depgraph_Affected_l2] at h; cases h
          | succ m2 =>
            rw [depgraph_Affected_l2] at h
            refine Ev.seq ?_
            refine W.reg hm ?_
            refine W.lss rfl rfl ?_
            refine W.nil ?_
            refine Ev.seq ?_
            refine Ev.cond rfl (fun c9 => ?_) (fun c9 => ?_)
            · replace h := iteT h c9
              refine Ev.skip ?_
              refine Ev.seqJ (γ := List Bool) (fun v => ⟨[(0, .list 1 (List.map (cL 1 cI) a0)), (5, .pown 10300 0 0 0), (8, .own 10301 0), (10, .int .i64 e6), (33, .list 1 (List.map cI a1)), (34, .int .i64 (a1.length : Int)), (35, .int .i64 x5), (41, .list 1 (List.map cI r7)), (42, .int .i64 (r7.length : Int)), (43, .int .i64 x9)], [(10300, ⟨0, 25, 2, [[.int .i64 0, .int .i64 0]], true, false, false⟩), (10301, ⟨0, 4, 1, List.map cB v, true, false, false⟩)], 2⟩) (fun v => depgraph_Affected_j1 n x9 (depgraph_Affected_l2 n x5 (depgraph_Affected_l1 n a0 a1 m1) e6 r7 m2) v = some r) ?_ ?_
              · refine Ev.block ?_
                refine Ev.seq ?_
                refine W.reg hm ?_
                refine W.mv rfl ?_
                obtain ⟨e12, k11, h⟩ := obind h
                refine W.idxL (c := cI) rfl rfl k11 ?_
                refine W.load rfl rfl ?_
                refine W.mv rfl ?_
                refine W.mv rfl ?_
                refine W.nil ?_
                refine W.reg hm ?_
                refine W.mv rfl ?_
                refine W.mv rfl ?_
                refine W.mv rfl ?_
                refine W.mv rfl ?_
                obtain ⟨e13, k12, h⟩ := obind h
                refine W.idxR (l := w8) (c := cB) rfl rfl rfl rfl rfl k12 ?_
                refine W.loadR (l := w8) (c := cB) (v := e13) (p := .bool e13) rfl rfl rfl (gidx_some k12).2 rfl ?_
                refine W.mv rfl ?_
                refine W.split 54 rfl (fun c13 => ?_) (fun c13 => ?_)
                · replace h := iteT h c13
                  refine W.guardF2 rfl c13 ?_
                  refine W.guardF2 rfl c13 ?_
                  refine W.guardF2 rfl c13 ?_
                  refine W.pickT rfl rfl rfl c13 ?_
                  refine W.mv rfl ?_
                  refine W.guardF2 rfl rfl ?_
                  refine W.guardF2 rfl rfl ?_
                  refine W.pickT rfl rfl rfl rfl ?_
                  refine W.idxR (l := w8) (c := cB) rfl rfl rfl rfl rfl k12 ?_
                  refine W.storeR true (l := w8) (c := cB) (v := e13) (v' := true) rfl rfl rfl rfl (gidx_some k12).2 rfl (Nat.le_of_ble_eq_true rfl) rfl rfl rfl ?_
                  refine W.nil ?_
                  exact ⟨(gset w8 x9 true), h, Wk.nrmTo [0, 5, 8, 10, 33, 34, 35, 41, 42, 43] [(10200, 10300), (10201, 10301)] rfl rfl⟩
                · replace h := iteF h c13
                  refine W.guardT rfl c13 ?_
                  refine W.mv rfl ?_
                  refine W.guardT rfl c13 ?_
                  refine W.mv rfl ?_
                  refine W.guardT rfl c13 ?_
                  refine W.eql rfl rfl ?_
                  refine W.pickN rfl rfl rfl c13 ?_
                  refine W.mv rfl ?_
                  refine W.split 59 rfl (fun c14 => ?_) (fun c14 => ?_)
                  · replace h := iteT h c14
                    refine W.guardF2 rfl c14 ?_
                    refine W.guardF2 rfl c14 ?_
                    refine W.pickT rfl rfl rfl c14 ?_
                    refine W.idxR (l := w8) (c := cB) rfl rfl rfl rfl rfl k12 ?_
                    refine W.storeR true (l := w8) (c := cB) (v := e13) (v' := true) rfl rfl rfl rfl (gidx_some k12).2 rfl (Nat.le_of_ble_eq_true rfl) rfl rfl rfl ?_
                    refine W.nil ?_
                    exact ⟨(gset w8 x9 true), h, Wk.nrmTo [0, 5, 8, 10, 33, 34, 35, 41, 42, 43] [(10200, 10300), (10201, 10301)] rfl rfl⟩
                  · replace h := iteF h c14
                    refine W.guardT rfl c14 ?_
                    refine W.mv rfl ?_
                    refine W.guardT rfl c14 ?_
                    refine W.lss rfl rfl ?_
                    refine W.pickN rfl rfl rfl c14 ?_
                    refine W.idxR (l := w8) (c := cB) rfl rfl rfl rfl rfl k12 ?_
                    refine W.storeR true (l := w8) (c := cB) (v := e13) (v' := (decide (e12 < 1000))) rfl rfl rfl rfl (gidx_some k12).2 rfl (Nat.le_of_ble_eq_true rfl) rfl rfl rfl ?_
                    refine W.nil ?_
                    exact ⟨(gset w8 x9 (decide (e12 < 1000))), h, Wk.nrmTo [0, 5, 8, 10, 33, 34, 35, 41, 42, 43] [(10200, 10300), (10201, 10301)] rfl rfl⟩
              · intro w10 h
                try dsimp only at h ⊢
                unfold depgraph_Affected_j1 at h
                refine W.reg hm ?_
                obtain ⟨x11, k10, h⟩ := obind h
                refine W.addG rfl rfl k10 ?_
                refine W.mv rfl ?_
                refine W.nil ?_
                exact ⟨(m2, w10, x11), h, Nat.lt_succ_self _, Wk.nrmTo [0, 5, 8, 10, 33, 34, 35, 41, 42, 43] [(10300, 10200), (10301, 10201)] rfl rfl⟩
            · replace h := iteF h c9
              refine Ev.exit ?_
              refine W.reg hm ?_
              obtain ⟨x14, k15, h⟩ := obind h
              refine W.addG rfl rfl k15 ?_
              refine W.mv rfl ?_
              refine W.nil ?_
              exact ⟨(m1, w8, x14), h, Nat.lt_succ_self _, Wk.nrmTo [0, 5, 8, 33, 34, 35] [(10200, 10100), (10201, 10101)] rfl rfl⟩
        · replace h := iteF h c6
          refine Ev.exit ?_
          refine Ev.seq ?_
          refine W.reg hm ?_
          refine W.mv rfl ?_
          refine W.nil ?_
          refine Ev.seq ?_
          refine Ev.seq ?_
          refine W.reg hm ?_
          refine W.mv rfl ?_
          refine W.lenO (l := w4) (c := cB) rfl rfl rfl ?_
          refine W.mv rfl ?_
          refine W.nil ?_
          refine Ev.block ?_
          refine Ev.loopW (β := Nat × (List Int) × Int) (fun v => ⟨[(5, .pown 10200 0 0 0), (13, .own 10201 0), (66, .own 10202 0), (67, .int .i64 (w4.length : Int)), (68, .int .i64 v.2.2)], [(10200, ⟨0, 25, 2, [[.int .i64 0, .int .i64 0]], true, false, false⟩), (10201, ⟨0, 3, 1, List.map cI v.2.1, true, false, false⟩), (10202, ⟨0, 4, 1, List.map cB w4, true, false, false⟩)], 2⟩) (fun v => depgraph_Affected_l3 n w4 v.1 v.2.1 v.2.2 = some r) (fun v => v.1) (n, ([] : List Int), 0) ((Wk.ownNil 13 30201 3 1 rfl rfl true).trans (Wk.nrmTo [5, 13, 66, 67, 68] [(10100, 10200), (30201, 10201), (10101, 10202)] rfl rfl)) h ?_
          intro ⟨m3, w15, x16⟩ h
          try dsimp only at h ⊢
          cases m3 with
          | zero => rw [depgraph_Affected_l3] at h; cases h
          | succ m3 =>
            rw [depgraph_Affected_l3] at h
            refine Ev.seq ?_
            refine W.reg hm ?_
            refine W.lss rfl rfl ?_
            refine W.nil ?_
            refine Ev.seq ?_
            refine Ev.cond rfl (fun c16 => ?_) (fun c16 => ?_)
            · replace h := iteT h c16
              refine Ev.skip ?_
              refine Ev.seqJ (γ := List Int) (fun v => ⟨[(5, .pown 10300 0 0 0), (13, .own 10301 0), (66, .own 10302 0), (67, .int .i64 (w4.length : Int)), (68, .int .i64 x16)], [(10300, ⟨0, 25, 2, [[.int .i64 0, .int .i64 0]], true, false, false⟩), (10301, ⟨0, 3, 1, List.map cI v, true, false, false⟩), (10302, ⟨0, 4, 1, List.map cB w4, true, false, false⟩)], 2⟩) (fun v => depgraph_Affected_j2 n x16 (depgraph_Affected_l3 n w4 m3) v = some r) ?_ ?_
              · refine Ev.block ?_
                refine Ev.seq ?_
                refine W.reg hm ?_
                refine W.mv rfl ?_
                obtain ⟨e19, k18, h⟩ := obind h
                refine W.idxR (l := w4) (c := cB) rfl rfl rfl rfl rfl k18 ?_
                refine W.loadR (l := w4) (c := cB) (v := e19) (p := .bool e19) rfl rfl rfl (gidx_some k18).2 rfl ?_
                refine W.mv rfl ?_
                refine W.mv rfl ?_
                refine W.nil ?_
                refine Ev.seq ?_
                refine W.reg hm ?_
                refine W.mv rfl ?_
                refine W.nil ?_
                refine Ev.cond rfl (fun c19 => ?_) (fun c19 => ?_)
                · replace h := iteT h c19
                  refine W.reg hm ?_
                  refine W.mv rfl ?_
                  refine W.mv rfl ?_
                  refine W.mkSlice (dt := true) (es := [[.int .i64 x16]]) rfl rfl rfl rfl rfl rfl ?_
                  obtain ⟨w20, k20, h⟩ := obind h
                  refine W.appR true (l := w15) (c := cI) (ys := ([x16] : List Int)) rfl rfl rfl rfl rfl rfl rfl rfl k20 rfl (by simp) ?_
                  refine W.mv rfl ?_
                  refine W.nil ?_
                  exact ⟨w20, h, Wk.nrmTo [5, 13, 66, 67, 68] [(10200, 10300), (77, 10301), (10202, 10302)] rfl rfl⟩
                · replace h := iteF h c19
                  refine Ev.skip ?_
                  exact ⟨w15, h, Wk.nrmTo [5, 13, 66, 67, 68] [(10200, 10300), (10201, 10301), (10202, 10302)] rfl rfl⟩
              · intro w17 h
                try dsimp only at h ⊢
                unfold depgraph_Affected_j2 at h
                refine W.reg hm ?_
                obtain ⟨x18, k17, h⟩ := obind h
                refine W.addG rfl rfl k17 ?_
                refine W.mv rfl ?_
                refine W.nil ?_
                exact ⟨(m3, w17, x18), h, Nat.lt_succ_self _, Wk.nrmTo [5, 13, 66, 67, 68] [(10300, 10200), (10301, 10201), (10302, 10202)] rfl rfl⟩
            · replace h := iteF h c16
              refine Ev.exit ?_
              refine Ev.seq ?_
              refine W.reg hm ?_
              refine W.mv rfl ?_
              refine W.build (cs := [.int .i64 0, .int .i64 0]) rfl rfl rfl ?_
              refine W.mv rfl ?_
              refine W.store (es' := [[.int .i64 0, .int .i64 0]]) (dt := true) rfl rfl rfl rfl rfl (Nat.le_of_ble_eq_true rfl) rfl rfl rfl rfl ?_
              refine W.nil ?_
              refine Ev.ret ?_
              injection h with h; subst h
              exact ⟨_, rfl, .refl _⟩

theorem law6_fault_spec (n : Nat) (a0 : Int) (a1 : Int) (r : SCodeIndex) (h : law6_fault n a0 a1 = some r) : PSpec Try.prog 19 [.int .i64 a0, .int .i64 a1] (.agg (SCodeIndex.cells r)) := by
  unfold law6_fault at h
  refine spec_of Try.c_law6_fault (by simp) ?_
  unfold Try.l_law6_fault
  refine Ev.seq ?_
  refine W.reg hm ?_
  refine W.alloc (dt := true) rfl rfl rfl ?_
  refine W.nil ?_
  refine Ev.seq ?_
  refine W.reg hm ?_
  refine W.mv rfl ?_
  refine W.mv rfl ?_
  refine W.build (cs := [.int .i64 a0, .int .i64 a1]) rfl rfl rfl ?_
  refine W.store (es' := [[.int .i64 a0, .int .i64 a1]]) (dt := true) rfl rfl rfl rfl rfl (Nat.le_of_ble_eq_true rfl) rfl rfl rfl rfl ?_
  refine W.nil ?_
  refine Ev.ret ?_
  injection h with h; subst h
  exact ⟨_, rfl, .refl _⟩

theorem depgraph_checkOrder_spec (n : Nat) (a0 : List (List Int)) (r : SCodeIndex) (h : depgraph_checkOrder n a0 = some r) : PSpec Try.prog 34 [.list 1 (List.map (cL 1 cI) a0)] (.agg (SCodeIndex.cells r)) := by
  unfold depgraph_checkOrder at h
  refine spec_of Try.c_depgraph_checkOrder (by simp) ?_
  unfold Try.l_depgraph_checkOrder
  refine Ev.seq ?_
  refine W.reg hm ?_
  refine W.alloc (dt := true) rfl rfl rfl ?_
  refine W.nil ?_
  refine Ev.seq ?_
  refine Ev.seq ?_
  refine W.reg hm ?_
  refine W.mv rfl ?_
  obtain ⟨r1, k1, h⟩ := obind h
  refine W.call (depgraph_Validate_spec n a0 r1 k1) rfl rfl (Les.refl _) rfl (.inl rfl) rfl ?_
  refine W.alloc (dt := true) rfl rfl rfl ?_
  refine W.store (es' := [[.int .i64 r1.Code, .int .i64 r1.Index]]) (dt := true) rfl rfl rfl rfl rfl (Nat.le_of_ble_eq_true rfl) rfl rfl rfl rfl ?_
  refine W.nil ?_
  refine Ev.seq ?_
  refine W.reg hm ?_
  refine W.loadO (p := .agg [.int .i64 r1.Code, .int .i64 r1.Index]) rfl rfl rfl rfl ?_
  refine W.build (cs := [.int .i64 0, .int .i64 0]) rfl rfl rfl ?_
  refine W.eqs rfl rfl rfl ?_
  refine W.nil ?_
  refine Ev.cond rfl (fun c2 => ?_) (fun c2 => ?_)
  · replace h := iteT h c2
    refine Ev.seq ?_
    refine W.reg hm ?_
    refine W.loadO (p := .agg [.int .i64 r1.Code, .int .i64 r1.Index]) rfl rfl rfl rfl ?_
    refine W.store (es' := [[.int .i64 r1.Code, .int .i64 r1.Index]]) (dt := true) rfl rfl rfl rfl rfl (Nat.le_of_ble_eq_true rfl) rfl rfl rfl rfl ?_
    refine W.nil ?_
    refine Ev.ret ?_
    injection h with h; subst h
    exact ⟨_, rfl, .refl _⟩
  · replace h := iteF h c2
    refine Ev.skip ?_
    refine Ev.seq ?_
    refine Ev.seq ?_
    refine W.reg hm ?_
    refine W.mv rfl ?_
    obtain ⟨r2, k3, h⟩ := obind h
    refine W.call (depgraph_cyclic_spec n a0 r2 k3) rfl rfl (Les.refl _) rfl (.inl rfl) rfl ?_
    refine W.mv rfl ?_
    refine W.nil ?_
    refine Ev.seq ?_
    refine W.reg hm ?_
    refine W.mv rfl ?_
    refine W.geq rfl rfl ?_
    refine W.nil ?_
    refine Ev.cond rfl (fun c4 => ?_) (fun c4 => ?_)
    · replace h := iteT h c4
      refine Ev.seq ?_
      refine W.reg hm ?_
      refine W.mv rfl ?_
      refine W.build (cs := [.int .i64 20, .int .i64 r2]) rfl rfl rfl ?_
      refine W.store (es' := [[.int .i64 20, .int .i64 r2]]) (dt := true) rfl rfl rfl rfl rfl (Nat.le_of_ble_eq_true rfl) rfl rfl rfl rfl ?_
      refine W.nil ?_
      refine Ev.ret ?_
      injection h with h; subst h
      exact ⟨_, rfl, .refl _⟩
    · replace h := iteF h c4
      refine Ev.skip ?_
      refine Ev.seq ?_
      refine W.reg hm ?_
      refine W.build (cs := [.int .i64 0, .int .i64 0]) rfl rfl rfl ?_
      refine W.store (es' := [[.int .i64 0, .int .i64 0]]) (dt := true) rfl rfl rfl rfl rfl (Nat.le_of_ble_eq_true rfl) rfl rfl rfl rfl ?_
      refine W.nil ?_
      refine Ev.ret ?_
      injection h with h; subst h
      exact ⟨_, rfl, .refl _⟩

set_option maxHeartbeats 4000000 in
theorem depgraph_Order_spec (n : Nat) (a0 : List (List Int)) (r : ((List Int) × SCodeIndex)) (h : depgraph_Order n a0 = some r) : PSpec Try.prog 20 [.list 1 (List.map (cL 1 cI) a0)] (.tup [.list 1 (List.map cI r.1), .agg (SCodeIndex.cells r.2)]) := by
  unfold depgraph_Order at h
  refine spec_of Try.c_depgraph_Order (by simp) ?_
  unfold Try.l_depgraph_Order
  refine Ev.seq ?_
  refine W.reg hm ?_
  refine W.mv rfl ?_
  refine W.alloc (dt := true) rfl rfl rfl ?_
  refine W.nil ?_
  refine Ev.seq ?_
  refine Ev.seq ?_
  refine W.reg hm ?_
  refine W.mv rfl ?_
  obtain ⟨r1, k1, h⟩ := obind h
  refine W.call (depgraph_checkOrder_spec n a0 r1 k1) rfl rfl (Les.refl _) rfl (.inl rfl) rfl ?_
  refine W.alloc (dt := true) rfl rfl rfl ?_
  refine W.store (es' := [[.int .i64 r1.Code, .int .i64 r1.Index]]) (dt := true) rfl rfl rfl rfl rfl (Nat.le_of_ble_eq_true rfl) rfl rfl rfl rfl ?_
  refine W.nil ?_
  refine Ev.seq ?_
  refine W.reg hm ?_
  refine W.loadO (p := .agg [.int .i64 r1.Code, .int .i64 r1.Index]) rfl rfl rfl rfl ?_
  refine W.build (cs := [.int .i64 0, .int .i64 0]) rfl rfl rfl ?_
  refine W.eqs rfl rfl rfl ?_
  refine W.nil ?_
  refine Ev.cond rfl (fun c2 => ?_) (fun c2 => ?_)
  · replace h := iteT h c2
    refine Ev.seq ?_
    refine W.regD hm ?_
    refine W.loadO (p := .agg [.int .i64 r1.Code, .int .i64 r1.Index]) rfl rfl rfl rfl ?_
    refine W.mv rfl ?_
    refine W.store (es' := [[.int .i64 r1.Code, .int .i64 r1.Index]]) (dt := true) rfl rfl rfl rfl rfl (Nat.le_of_ble_eq_true rfl) rfl rfl rfl rfl ?_
    refine W.nil ⟨rfl, ?_⟩
    refine Ev.ret ?_
    injection h with h; subst h
    exact ⟨_, rfl, Le.tups (.cons (.nils 1) (.cons (.refl _) (.nil)))⟩
  · replace h := iteF h c2
    refine Ev.skip ?_
    refine Ev.seq ?_
    refine W.reg hm ?_
    refine W.mv rfl ?_
    refine W.lenL (c := (cL 1 cI)) rfl ?_
    obtain ⟨w2, k3, h⟩ := obind h
    refine W.makeG true (c := cB) rfl rfl k3 rfl rfl ?_
    refine W.alloc (dt := true) rfl rfl rfl ?_
    refine W.store (es' := [[.own 18 2]]) (dt := false) rfl rfl rfl rfl rfl (Nat.le_of_ble_eq_true rfl) rfl rfl rfl rfl ?_
    refine W.nil ?_
    refine Ev.seq ?_
    refine W.reg hm ?_
    refine W.mv rfl ?_
    refine W.nil ?_
    refine Ev.seq ?_
    refine Ev.seq ?_
    refine W.reg hm ?_
    refine W.mv rfl ?_
    refine W.lenL (c := (cL 1 cI)) rfl ?_
    refine W.mv rfl ?_
    refine W.nil ?_
    refine Ev.block ?_
    refine Ev.loopW (β := Nat × (List Bool) × (List Int) × Int) (fun v => ⟨[(0, .list 1 (List.map (cL 1 cI) a0)), (3, .pown 10100 0 0 0), (5, .pown 10101 0 0 0), (6, .own 10103 0), (20, .int .i64 (a0.length : Int)), (21, .int .i64 v.2.2.2)], [(10100, ⟨0, 25, 2, [[.int .i64 0, .int .i64 0]], true, false, false⟩), (10101, ⟨0, 49, 1, [[.own 10102 0]], false, false, false⟩), (10102, ⟨0, 4, 1, List.map cB v.2.1, true, false, false⟩), (10103, ⟨0, 3, 1, List.map cI v.2.2.1, true, false, false⟩)], 2⟩) (fun v => depgraph_Order_l1 n a0 v.1 v.2.1 v.2.2.1 v.2.2.2 = some r) (fun v => v.1) (n, w2, ([] : List Int), 0) ((Wk.ownNil 6 30103 3 1 rfl rfl true).trans (Wk.nrmTo [0, 3, 5, 6, 20, 21] [(3, 10100), (5, 10101), (18, 10102), (30103, 10103)] rfl rfl)) h ?_
    intro ⟨m1, w3, w4, x5⟩ h
    try dsimp only at h ⊢
    cases m1 with
    | zero => rw [depgraph_Order_l1] at h; cases h
    | succ m1 =>
      rw [depgraph_Order_l1] at h
      refine Ev.seq ?_
      refine W.reg hm ?_
      refine W.lss rfl rfl ?_
      refine W.nil ?_
      refine Ev.seq ?_
      refine Ev.cond rfl (fun c4 => ?_) (fun c4 => ?_)
      · replace h := iteT h c4
        refine Ev.skip ?_
        refine Ev.seq ?_
        refine Ev.block ?_
        refine Ev.seq ?_
        refine W.reg hm ?_
        refine W.mv rfl ?_
        refine W.nil ?_
        refine Ev.seq ?_
        refine Ev.seq ?_
        refine W.reg hm ?_
        refine W.mv rfl ?_
        refine W.lenL (c := (cL 1 cI)) rfl ?_
        refine W.mv rfl ?_
        refine W.nil ?_
        refine Ev.block ?_
        refine Ev.loopW (β := Nat × Int × Int) (fun v => ⟨[(0, .list 1 (List.map (cL 1 cI) a0)), (3, .pown 10200 0 0 0), (5, .pown 10201 0 0 0), (6, .own 10203 0), (7, .int .i64 v.2.1), (20, .int .i64 (a0.length : Int)), (21, .int .i64 x5), (23, .list 1 (List.map (cL 1 cI) a0)), (24, .int .i64 (a0.length : Int)), (25, .int .i64 v.2.2)], [(10200, ⟨0, 25, 2, [[.int .i64 0, .int .i64 0]], true, false, false⟩), (10201, ⟨0, 49, 1, [[.own 10202 0]], false, false, false⟩), (10202, ⟨0, 4, 1, List.map cB w3, true, false, false⟩), (10203, ⟨0, 3, 1, List.map cI w4, true, false, false⟩)], 2⟩) (fun v => depgraph_Order_l2 n a0 w3 w4 x5 (depgraph_Order_l1 n a0 m1) v.1 v.2.1 v.2.2 = some r) (fun v => v.1) (n, (-1), 0) (Wk.nrmTo [0, 3, 5, 6, 7, 20, 21, 23, 24, 25] [(10100, 10200), (10101, 10201), (10102, 10202), (10103, 10203)] rfl rfl) h ?_
        intro ⟨m2, x6, x7⟩ h
        try dsimp only at h ⊢
        cases m2 with
        | zero => rw [depgraph_Order_l2] at h; cases h
        | succ m2 =>
          rw [depgraph_Order_l2] at h
          refine Ev.seq ?_
          refine W.reg hm ?_
          refine W.lss rfl rfl ?_
          refine W.nil ?_
          refine Ev.seq ?_
          refine Ev.cond rfl (fun c5 => ?_) (fun c5 => ?_)
          · replace h := iteT h c5
            refine Ev.skip ?_
            refine Ev.seqJ (γ := Int) (fun v => ⟨[(0, .list 1 (List.map (cL 1 cI) a0)), (3, .pown 10300 0 0 0), (5, .pown 10301 0 0 0), (6, .own 10303 0), (7, .int .i64 v), (20, .int .i64 (a0.length : Int)), (21, .int .i64 x5), (23, .list 1 (List.map (cL 1 cI) a0)), (24, .int .i64 (a0.length : Int)), (25, .int .i64 x7)], [(10300, ⟨0, 25, 2, [[.int .i64 0, .int .i64 0]], true, false, false⟩), (10301, ⟨0, 49, 1, [[.own 10302 0]], false, false, false⟩), (10302, ⟨0, 4, 1, List.map cB w3, true, false, false⟩), (10303, ⟨0, 3, 1, List.map cI w4, true, false, false⟩)], 2⟩) (fun v => depgraph_Order_j1 n x7 (depgraph_Order_l2 n a0 w3 w4 x5 (depgraph_Order_l1 n a0 m1) m2) v = some r) ?_ ?_
            · refine Ev.block ?_
              refine Ev.seq ?_
              refine W.reg hm ?_
              refine W.mv rfl ?_
              obtain ⟨e10, k7, h⟩ := obind h
              refine W.idxL (c := (cL 1 cI)) rfl rfl k7 ?_
              refine W.load rfl rfl ?_
              refine W.mv rfl ?_
              refine W.mv rfl ?_
              refine W.nil ?_
              refine Ev.seqJ (γ := Bool) (fun v => ⟨[(0, .list 1 (List.map (cL 1 cI) a0)), (3, .pown 10400 0 0 0), (5, .pown 10401 0 0 0), (6, .own 10403 0), (7, .int .i64 x6), (8, .int .i64 x7), (20, .int .i64 (a0.length : Int)), (21, .int .i64 x5), (23, .list 1 (List.map (cL 1 cI) a0)), (24, .int .i64 (a0.length : Int)), (25, .int .i64 x7), (44, .bool v)], [(10400, ⟨0, 25, 2, [[.int .i64 0, .int .i64 0]], true, false, false⟩), (10401, ⟨0, 49, 1, [[.own 10402 0]], false, false, false⟩), (10402, ⟨0, 4, 1, List.map cB w3, true, false, false⟩), (10403, ⟨0, 3, 1, List.map cI w4, true, false, false⟩)], 2⟩) (fun v => depgraph_Order_j2 n x6 x7 (depgraph_Order_l2 n a0 w3 w4 x5 (depgraph_Order_l1 n a0 m1) m2) v = some r) ?_ ?_
              · refine Ev.regS rfl ?_
                refine Sq.w 12 (Nat.le_of_ble_eq_true rfl) ?_
                refine W.mv rfl ?_
                refine W.lss rfl rfl ?_
                refine W.mv rfl ?_
                refine W.split 32 rfl (fun c9 => ?_) (fun c9 => ?_)
                · replace h := iteT h c9
                  refine W.guardT rfl c9 ?_
                  refine W.loadO (p := .own 10202 0) rfl rfl rfl rfl ?_
                  refine W.guardT rfl c9 ?_
                  refine W.mv rfl ?_
                  refine W.guardT rfl c9 ?_
                  obtain ⟨e12, k10, h⟩ := obind h
                  refine W.idxR (l := w3) (c := cB) rfl rfl rfl rfl rfl k10 ?_
                  refine W.guardT rfl c9 ?_
                  refine W.loadR (l := w3) (c := cB) (v := e12) (p := .bool e12) rfl rfl rfl (gidx_some k10).2 rfl ?_
                  refine W.guardT rfl c9 ?_
                  refine W.not rfl ?_
                  refine W.pickT rfl rfl rfl c9 ?_
                  refine W.mv rfl ?_
                  refine W.split 39 rfl (fun c11 => ?_) (fun c11 => ?_)
                  · replace h := iteT h c11
                    refine W.guardT rfl c11 ?_
                    refine W.mv rfl ?_
                    refine W.guardT rfl c11 ?_
                    refine W.mkfn rfl ?_
                    refine W.nil ?_
                    refine Sq.callG rfl Try.c_slices_ContainsFunc_int (lookT rfl c11) ⟨_, rfl, Nat.le_of_ble_eq_true rfl, ?_⟩
                    unfold Try.l_slices_ContainsFunc_int
                    refine Ev.retJ (γ := Bool) (fun v => ⟨[(4, .bool v), (65536, .list 1 (List.map (cL 1 cI) a0)), (65539, .pown 10500 0 0 0), (65541, .pown 10501 0 0 0), (65542, .own 10503 0), (65543, .int .i64 x6), (65544, .int .i64 x7), (65556, .int .i64 (a0.length : Int)), (65557, .int .i64 x5), (65559, .list 1 (List.map (cL 1 cI) a0)), (65560, .int .i64 (a0.length : Int)), (65561, .int .i64 x7), (65569, .own 10502 0), (65570, .int .i64 x7), (65571, .pown 10502 0 x7.toNat 0), (65572, .bool e12), (65573, .bool (!e12)), (65575, .bool (!e12)), (65576, .list 1 (List.map cI e10)), (65577, .fn 36 [] [.pown 10501 0 0 0])], [(10500, ⟨0, 25, 2, [[.int .i64 0, .int .i64 0]], true, false, false⟩), (10501, ⟨0, 49, 1, [[.own 10502 0]], false, false, false⟩), (10502, ⟨0, 4, 1, List.map cB w3, true, false, false⟩), (10503, ⟨0, 3, 1, List.map cI w4, true, false, false⟩)], 2⟩) (fun v => depgraph_Order_j3 n x6 x7 (depgraph_Order_l2 n a0 w3 w4 x5 (depgraph_Order_l1 n a0 m1) m2) v = some r) ?_ ?_
                    · refine Ev.seq ?_
                      refine W.reg hm ?_
                      refine W.mv rfl ?_
                      refine W.nil ?_
                      refine Ev.seq ?_
                      refine Ev.regS rfl ?_
                      refine Sq.w 2 (Nat.le_of_ble_eq_true rfl) ?_
                      refine W.mv rfl ?_
                      refine W.mv rfl ?_
                      refine W.nil ?_
                      refine Sq.call rfl Try.c_slices_IndexFunc_int ⟨_, rfl, Nat.le_of_ble_eq_true rfl, ?_⟩
                      unfold Try.l_slices_IndexFunc_int
                      refine Ev.retJ (γ := Int) (fun v => ⟨[(4, .int .i64 v), (65540, .bool false), (131072, .list 1 (List.map (cL 1 cI) a0)), (131075, .pown 10600 0 0 0), (131077, .pown 10601 0 0 0), (131078, .own 10603 0), (131079, .int .i64 x6), (131080, .int .i64 x7), (131092, .int .i64 (a0.length : Int)), (131093, .int .i64 x5), (131095, .list 1 (List.map (cL 1 cI) a0)), (131096, .int .i64 (a0.length : Int)), (131097, .int .i64 x7), (131105, .own 10602 0), (131106, .int .i64 x7), (131107, .pown 10602 0 x7.toNat 0), (131108, .bool e12), (131109, .bool (!e12)), (131111, .bool (!e12)), (131112, .list 1 (List.map cI e10)), (131113, .fn 36 [] [.pown 10601 0 0 0])], [(10600, ⟨0, 25, 2, [[.int .i64 0, .int .i64 0]], true, false, false⟩), (10601, ⟨0, 49, 1, [[.own 10602 0]], false, false, false⟩), (10602, ⟨0, 4, 1, List.map cB w3, true, false, false⟩), (10603, ⟨0, 3, 1, List.map cI w4, true, false, false⟩)], 2⟩) (fun v => depgraph_Order_j4 n x6 x7 (depgraph_Order_l2 n a0 w3 w4 x5 (depgraph_Order_l1 n a0 m1) m2) v = some r) ?_ ?_
                      · refine Ev.seq ?_
                        refine W.reg hm ?_
                        refine W.mv rfl ?_
                        refine W.nil ?_
                        refine Ev.seq ?_
                        refine Ev.seq ?_
                        refine W.reg hm ?_
                        refine W.mv rfl ?_
                        refine W.lenL (c := cI) rfl ?_
                        refine W.mv rfl ?_
                        refine W.nil ?_
                        refine Ev.block ?_
                        refine Ev.loopW (β := Nat × Int) (fun v => ⟨[(0, .list 1 (List.map cI e10)), (1, .fn 36 [] [.pown 10700 0 0 0]), (7, .int .i64 (e10.length : Int)), (8, .int .i64 v.2), (65540, .bool false), (131072, .list 1 (List.map (cL 1 cI) a0)), (131075, .pown 10702 0 0 0), (131077, .pown 10700 0 0 0), (131078, .own 10703 0), (131079, .int .i64 x6), (131080, .int .i64 x7), (131092, .int .i64 (a0.length : Int)), (131093, .int .i64 x5), (131095, .list 1 (List.map (cL 1 cI) a0)), (131096, .int .i64 (a0.length : Int)), (131097, .int .i64 x7), (131105, .own 10701 0), (131106, .int .i64 x7), (131107, .pown 10701 0 x7.toNat 0), (131108, .bool e12), (131109, .bool (!e12)), (131111, .bool (!e12)), (131112, .list 1 (List.map cI e10)), (131113, .fn 36 [] [.pown 10700 0 0 0])], [(10700, ⟨0, 49, 1, [[.own 10701 0]], false, false, false⟩), (10701, ⟨0, 4, 1, List.map cB w3, true, false, false⟩), (10702, ⟨0, 25, 2, [[.int .i64 0, .int .i64 0]], true, false, false⟩), (10703, ⟨0, 3, 1, List.map cI w4, true, false, false⟩)], 2⟩) (fun v => depgraph_Order_l3 n w3 x6 x7 (depgraph_Order_l2 n a0 w3 w4 x5 (depgraph_Order_l1 n a0 m1) m2) e10 v.1 v.2 = some r) (fun v => v.1) (n, 0) (Wk.nrmTo [0, 1, 7, 8, 65540, 131072, 131075, 131077, 131078, 131079, 131080, 131092, 131093, 131095, 131096, 131097, 131105, 131106, 131107, 131108, 131109, 131111, 131112, 131113] [(10201, 10700), (10202, 10701), (10200, 10702), (10203, 10703)] rfl rfl) h ?_
                        intro ⟨m3, x15⟩ h
                        try dsimp only at h ⊢
                        cases m3 with
                        | zero => rw [depgraph_Order_l3] at h; cases h
                        | succ m3 =>
                          rw [depgraph_Order_l3] at h
                          refine Ev.seq ?_
                          refine W.reg hm ?_
                          refine W.lss rfl rfl ?_
                          refine W.nil ?_
                          refine Ev.seq ?_
                          refine Ev.cond rfl (fun c12 => ?_) (fun c12 => ?_)
                          · replace h := iteT h c12
                            refine Ev.skip ?_
                            refine Ev.seq ?_
                            refine Ev.block ?_
                            refine Ev.seq ?_
                            refine W.reg hm ?_
                            refine W.mv rfl ?_
                            refine W.mv rfl ?_
                            refine W.nil ?_
                            refine Ev.seq ?_
                            refine Ev.regS rfl ?_
                            refine Sq.w 5 (Nat.le_of_ble_eq_true rfl) ?_
                            refine W.mv rfl ?_
                            refine W.mv rfl ?_
                            refine W.mv rfl ?_
                            obtain ⟨e16, k13, h⟩ := obind h
                            refine W.idxL (c := cI) rfl rfl k13 ?_
                            refine W.load rfl rfl ?_
                            refine W.nil ?_
                            refine Sq.callv (f := 36) rfl Try.b_depgraph_Order_1 Try.c_depgraph_Order_1 ⟨_, _, _, rfl, Nat.le_of_ble_eq_true rfl, ?_⟩
                            unfold Try.l_depgraph_Order_1
                            refine Ev.retJ (γ := Bool) (fun v => ⟨[(3, .bool v), (65536, .list 1 (List.map cI e10)), (65537, .fn 36 [] [.pown 10800 0 0 0]), (65541, .int .i64 x15), (65543, .int .i64 (e10.length : Int)), (65544, .int .i64 x15), (131076, .bool false), (196608, .list 1 (List.map (cL 1 cI) a0)), (196611, .pown 10802 0 0 0), (196613, .pown 10800 0 0 0), (196614, .own 10803 0), (196615, .int .i64 x6), (196616, .int .i64 x7), (196628, .int .i64 (a0.length : Int)), (196629, .int .i64 x5), (196631, .list 1 (List.map (cL 1 cI) a0)), (196632, .int .i64 (a0.length : Int)), (196633, .int .i64 x7), (196641, .own 10801 0), (196642, .int .i64 x7), (196643, .pown 10801 0 x7.toNat 0), (196644, .bool e12), (196645, .bool (!e12)), (196647, .bool (!e12)), (196648, .list 1 (List.map cI e10)), (196649, .fn 36 [] [.pown 10800 0 0 0])], [(10800, ⟨0, 49, 1, [[.own 10801 0]], false, false, false⟩), (10801, ⟨0, 4, 1, List.map cB w3, true, false, false⟩), (10802, ⟨0, 25, 2, [[.int .i64 0, .int .i64 0]], true, false, false⟩), (10803, ⟨0, 3, 1, List.map cI w4, true, false, false⟩)], 2⟩) (fun v => depgraph_Order_j5 n x6 x7 (depgraph_Order_l2 n a0 w3 w4 x5 (depgraph_Order_l1 n a0 m1) m2) x15 (depgraph_Order_l3 n w3 x6 x7 (depgraph_Order_l2 n a0 w3 w4 x5 (depgraph_Order_l1 n a0 m1) m2) e10 m3) v = some r) ?_ ?_
                            · refine Ev.seq ?_
                              refine W.reg hm ?_
                              refine W.mv rfl ?_
                              refine W.nil ?_
                              refine Ev.seq ?_
                              refine W.reg hm ?_
                              refine W.loadO (p := .own 10701 0) rfl rfl rfl rfl ?_
                              refine W.mv rfl ?_
                              obtain ⟨e19, k16, h⟩ := obind h
                              refine W.idxR (l := w3) (c := cB) rfl rfl rfl rfl rfl k16 ?_
                              refine W.loadR (l := w3) (c := cB) (v := e19) (p := .bool e19) rfl rfl rfl (gidx_some k16).2 rfl ?_
                              refine W.not rfl ?_
                              refine W.mv rfl ?_
                              refine W.nil ?_
                              refine Ev.ret ?_
                              exact ⟨(!e19), h, Wk.nrmTo [3, 65536, 65537, 65541, 65543, 65544, 131076, 196608, 196611, 196613, 196614, 196615, 196616, 196628, 196629, 196631, 196632, 196633, 196641, 196642, 196643, 196644, 196645, 196647, 196648, 196649] [(10700, 10800), (10701, 10801), (10702, 10802), (10703, 10803)] rfl rfl⟩
                            · intro x17 h
                              try dsimp only at h ⊢
                              unfold depgraph_Order_j5 at h
                              refine ⟨_, rfl, ?_⟩
                              refine Sq.wEnd (Nat.le_of_ble_eq_true rfl) ?_
                              refine W.nil ?_
                              refine Ev.cond rfl (fun c14 => ?_) (fun c14 => ?_)
                              · replace h := iteT h c14
                                refine Ev.seq ?_
                                refine W.reg hm ?_
                                refine W.mv rfl ?_
                                refine W.mv rfl ?_
                                refine W.nil ?_
                                refine Ev.ret ?_
                                exact ⟨x15, h, Wk.nrmTo [4, 65540, 131072, 131075, 131077, 131078, 131079, 131080, 131092, 131093, 131095, 131096, 131097, 131105, 131106, 131107, 131108, 131109, 131111, 131112, 131113] [(10802, 10600), (10800, 10601), (10801, 10602), (10803, 10603)] rfl rfl⟩
                              · replace h := iteF h c14
                                refine Ev.skip ?_
                                refine W.reg hm ?_
                                obtain ⟨x18, k15, h⟩ := obind h
                                refine W.addG rfl rfl k15 ?_
                                refine W.mv rfl ?_
                                refine W.nil ?_
                                exact ⟨(m3, x18), h, Nat.lt_succ_self _, Wk.nrmTo [0, 1, 7, 8, 65540, 131072, 131075, 131077, 131078, 131079, 131080, 131092, 131093, 131095, 131096, 131097, 131105, 131106, 131107, 131108, 131109, 131111, 131112, 131113] [(10800, 10700), (10801, 10701), (10802, 10702), (10803, 10703)] rfl rfl⟩
                          · replace h := iteF h c12
                            refine Ev.exit ?_
                            refine Ev.seq ?_
                            refine W.reg hm ?_
                            refine W.mv rfl ?_
                            refine W.nil ?_
                            refine Ev.ret ?_
                            exact ⟨(-1), h, Wk.nrmTo [4, 65540, 131072, 131075, 131077, 131078, 131079, 131080, 131092, 131093, 131095, 131096, 131097, 131105, 131106, 131107, 131108, 131109, 131111, 131112, 131113] [(10702, 10600), (10700, 10601), (10701, 10602), (10703, 10603)] rfl rfl⟩
                      · intro x14 h
                        try dsimp only at h ⊢
                        unfold depgraph_Order_j4 at h
                        refine ⟨_, rfl, ?_⟩
                        refine Sq.wEnd (Nat.le_of_ble_eq_true rfl) ?_
                        refine W.geq rfl rfl ?_
                        refine W.mv rfl ?_
                        refine W.nil ?_
                        refine Ev.ret ?_
                        exact ⟨(decide (0 ≤ x14)), h, Wk.nrmTo [4, 65536, 65539, 65541, 65542, 65543, 65544, 65556, 65557, 65559, 65560, 65561, 65569, 65570, 65571, 65572, 65573, 65575, 65576, 65577] [(10600, 10500), (10601, 10501), (10602, 10502), (10603, 10503)] rfl rfl⟩
                    · intro x13 h
                      try dsimp only at h ⊢
                      unfold depgraph_Order_j3 at h
                      refine ⟨_, rfl, ?_⟩
                      refine Sq.wEnd (Nat.le_of_ble_eq_true rfl) ?_
                      refine W.guardT rfl c11 ?_
                      refine W.not rfl ?_
                      refine W.pickT rfl rfl rfl c11 ?_
                      refine W.nil ?_
                      exact ⟨(!x13), h, Wk.nrmTo [0, 3, 5, 6, 7, 8, 20, 21, 23, 24, 25, 44] [(10500, 10400), (10501, 10401), (10502, 10402), (10503, 10403)] rfl rfl⟩
                  · replace h := iteF h c11
                    refine W.guardF1 rfl c11 ?_
                    refine W.guardF1 rfl c11 ?_
                    refine W.nil ?_
                    refine Sq.off rfl (.inl (lookT rfl c11)) ?_
                    refine Sq.wEnd (Nat.le_of_ble_eq_true rfl) ?_
                    refine W.guardF1 rfl c11 ?_
                    refine W.pickN rfl rfl rfl c11 ?_
                    refine W.nil ?_
                    exact ⟨false, h, Wk.nrmTo [0, 3, 5, 6, 7, 8, 20, 21, 23, 24, 25, 44] [(10200, 10400), (10201, 10401), (10202, 10402), (10203, 10403)] rfl rfl⟩
                · replace h := iteF h c9
                  refine W.guardF1 rfl c9 ?_
                  refine W.guardF1 rfl c9 ?_
                  refine W.guardF1 rfl c9 ?_
                  refine W.guardF1 rfl c9 ?_
                  refine W.guardF1 rfl c9 ?_
                  refine W.pickN rfl rfl rfl c9 ?_
                  refine W.mv rfl ?_
                  refine W.guardF1 rfl rfl ?_
                  refine W.guardF1 rfl rfl ?_
                  refine W.nil ?_
                  refine Sq.off rfl (.inl (lookT rfl rfl)) ?_
                  refine Sq.wEnd (Nat.le_of_ble_eq_true rfl) ?_
                  refine W.guardF1 rfl rfl ?_
                  refine W.pickN rfl rfl rfl rfl ?_
                  refine W.nil ?_
                  exact ⟨false, h, Wk.nrmTo [0, 3, 5, 6, 7, 8, 20, 21, 23, 24, 25, 44] [(10200, 10400), (10201, 10401), (10202, 10402), (10203, 10403)] rfl rfl⟩
              · intro x11 h
                try dsimp only at h ⊢
                unfold depgraph_Order_j2 at h
                refine Ev.cond rfl (fun c8 => ?_) (fun c8 => ?_)
                · replace h := iteT h c8
                  refine W.reg hm ?_
                  refine W.mv rfl ?_
                  refine W.mv rfl ?_
                  refine W.nil ?_
                  exact ⟨x7, h, Wk.nrmTo [0, 3, 5, 6, 7, 20, 21, 23, 24, 25] [(10400, 10300), (10401, 10301), (10402, 10302), (10403, 10303)] rfl rfl⟩
                · replace h := iteF h c8
                  refine Ev.skip ?_
                  exact ⟨x6, h, Wk.nrmTo [0, 3, 5, 6, 7, 20, 21, 23, 24, 25] [(10400, 10300), (10401, 10301), (10402, 10302), (10403, 10303)] rfl rfl⟩
            · intro x8 h
              try dsimp only at h ⊢
              unfold depgraph_Order_j1 at h
              refine W.reg hm ?_
              obtain ⟨x9, k6, h⟩ := obind h
              refine W.addG rfl rfl k6 ?_
              refine W.mv rfl ?_
              refine W.nil ?_
              exact ⟨(m2, x8, x9), h, Nat.lt_succ_self _, Wk.nrmTo [0, 3, 5, 6, 7, 20, 21, 23, 24, 25] [(10300, 10200), (10301, 10201), (10302, 10202), (10303, 10203)] rfl rfl⟩
          · replace h := iteF h c5
            refine Ev.exit ?_
            refine Ev.seq ?_
            refine W.reg hm ?_
            refine W.loadO (p := .own 10202 0) rfl rfl rfl rfl ?_
            refine W.mv rfl ?_
            obtain ⟨e20, k17, h⟩ := obind h
            refine W.idxR (l := w3) (c := cB) rfl rfl rfl rfl rfl k17 ?_
            refine W.storeR true (l := w3) (c := cB) (v := e20) (v' := true) rfl rfl rfl rfl (gidx_some k17).2 rfl (Nat.le_of_ble_eq_true rfl) rfl rfl rfl ?_
            refine W.nil ?_
            refine W.reg hm ?_
            refine W.mv rfl ?_
            refine W.mv rfl ?_
            refine W.mkSlice (dt := true) (es := [[.int .i64 x6]]) rfl rfl rfl rfl rfl rfl ?_
            obtain ⟨w21, k18, h⟩ := obind h
            refine W.appR true (l := w4) (c := cI) (ys := ([x6] : List Int)) rfl rfl rfl rfl rfl rfl rfl rfl k18 rfl (by simp) ?_
            refine W.mv rfl ?_
            refine W.nil ?_
            refine W.reg hm ?_
            obtain ⟨x22, k19, h⟩ := obind h
            refine W.addG rfl rfl k19 ?_
            refine W.mv rfl ?_
            refine W.nil ?_
            exact ⟨(m1, (gset w3 x6 true), w21, x22), h, Nat.lt_succ_self _, Wk.nrmTo [0, 3, 5, 6, 20, 21] [(10200, 10100), (10201, 10101), (10202, 10102), (53, 10103)] rfl rfl⟩
      · replace h := iteF h c4
        refine Ev.exit ?_
        refine Ev.seq ?_
        refine W.reg hm ?_
        refine W.mv rfl ?_
        refine W.build (cs := [.int .i64 0, .int .i64 0]) rfl rfl rfl ?_
        refine W.mv rfl ?_
        refine W.store (es' := [[.int .i64 0, .int .i64 0]]) (dt := true) rfl rfl rfl rfl rfl (Nat.le_of_ble_eq_true rfl) rfl rfl rfl rfl ?_
        refine W.nil ?_
        refine Ev.ret ?_
        injection h with h; subst h
        exact ⟨_, rfl, .refl _⟩

set_option maxHeartbeats 4000000 in
theorem depgraph_Levels_spec (n : Nat) (a0 : List (List Int)) (r : ((List Int) × SCodeIndex)) (h : depgraph_Levels n a0 = some r) : PSpec Try.prog 21 [.list 1 (List.map (cL 1 cI) a0)] (.tup [.list 1 (List.map cI r.1), .agg (SCodeIndex.cells r.2)]) := by
  unfold depgraph_Levels at h
  refine spec_of Try.c_depgraph_Levels (by simp) ?_
  unfold Try.l_depgraph_Levels
  refine Ev.seq ?_
  refine W.reg hm ?_
  refine W.mv rfl ?_
  refine W.alloc (dt := true) rfl rfl rfl ?_
  refine W.nil ?_
  refine Ev.seq ?_
  refine W.reg hm ?_
  refine W.mv rfl ?_
  obtain ⟨r1, k1, h⟩ := obind h
  refine W.call (depgraph_Order_spec n a0 r1 k1) rfl rfl (Les.refl _) rfl (.inl rfl) rfl ?_
  refine W.mv rfl ?_
  refine W.extract rfl rfl ?_
  refine W.extract rfl rfl ?_
  refine W.alloc (dt := true) rfl rfl rfl ?_
  refine W.mv rfl ?_
  refine W.store (es' := [[.int .i64 r1.2.Code, .int .i64 r1.2.Index]]) (dt := true) rfl rfl rfl rfl rfl (Nat.le_of_ble_eq_true rfl) rfl rfl rfl rfl ?_
  refine W.nil ?_
  refine Ev.seq ?_
  refine Ev.seq ?_
  refine W.reg hm ?_
  refine W.loadO (p := .agg [.int .i64 r1.2.Code, .int .i64 r1.2.Index]) rfl rfl rfl rfl ?_
  refine W.build (cs := [.int .i64 0, .int .i64 0]) rfl rfl rfl ?_
  refine W.eqs rfl rfl rfl ?_
  refine W.nil ?_
  refine Ev.cond rfl (fun c2 => ?_) (fun c2 => ?_)
  · replace h := iteT h c2
    refine Ev.seq ?_
    refine W.regD hm ?_
    refine W.loadO (p := .agg [.int .i64 r1.2.Code, .int .i64 r1.2.Index]) rfl rfl rfl rfl ?_
    refine W.mv rfl ?_
    refine W.store (es' := [[.int .i64 r1.2.Code, .int .i64 r1.2.Index]]) (dt := true) rfl rfl rfl rfl rfl (Nat.le_of_ble_eq_true rfl) rfl rfl rfl rfl ?_
    refine W.nil ⟨rfl, ?_⟩
    refine Ev.ret ?_
    injection h with h; subst h
    exact ⟨_, rfl, Le.tups (.cons (.nils 1) (.cons (.refl _) (.nil)))⟩
  · replace h := iteF h c2
    refine Ev.skip ?_
    refine Ev.seq ?_
    refine W.reg hm ?_
    refine W.mv rfl ?_
    refine W.lenL (c := (cL 1 cI)) rfl ?_
    obtain ⟨w2, k3, h⟩ := obind h
    refine W.makeG true (c := cI) rfl rfl k3 rfl rfl ?_
    refine W.mv rfl ?_
    refine W.nil ?_
    refine Ev.seq ?_
    refine Ev.seq ?_
    refine W.reg hm ?_
    refine W.mv rfl ?_
    refine W.lenL (c := cI) rfl ?_
    refine W.mv rfl ?_
    refine W.nil ?_
    refine Ev.block ?_
    refine Ev.loopW (β := Nat × (List Int) × Int) (fun v => ⟨[(0, .list 1 (List.map (cL 1 cI) a0)), (3, .pown 10100 0 0 0), (6, .own 10101 0), (23, .list 1 (List.map cI r1.1)), (24, .int .i64 (r1.1.length : Int)), (25, .int .i64 v.2.2)], [(10100, ⟨0, 25, 2, [[.int .i64 0, .int .i64 0]], true, false, false⟩), (10101, ⟨0, 3, 1, List.map cI v.2.1, true, false, false⟩)], 2⟩) (fun v => depgraph_Levels_l1 n a0 r1 v.1 v.2.1 v.2.2 = some r) (fun v => v.1) (n, w2, 0) (Wk.nrmTo [0, 3, 6, 23, 24, 25] [(3, 10100), (22, 10101)] rfl rfl) h ?_
    intro ⟨m1, w3, x4⟩ h
    try dsimp only at h ⊢
    cases m1 with
    | zero => rw [depgraph_Levels_l1] at h; cases h
    | succ m1 =>
      rw [depgraph_Levels_l1] at h
      refine Ev.seq ?_
      refine W.reg hm ?_
      refine W.lss rfl rfl ?_
      refine W.nil ?_
      refine Ev.seq ?_
      refine Ev.cond rfl (fun c4 => ?_) (fun c4 => ?_)
      · replace h := iteT h c4
        refine Ev.skip ?_
        refine Ev.seq ?_
        refine Ev.block ?_
        refine Ev.seq ?_
        refine W.reg hm ?_
        obtain ⟨e5, k5, h⟩ := obind h
        refine W.idxL (c := cI) rfl rfl k5 ?_
        refine W.load rfl rfl ?_
        refine W.mv rfl ?_
        refine W.nil ?_
        refine Ev.seq ?_
        refine W.reg hm ?_
        refine W.mv rfl ?_
        refine W.mv rfl ?_
        obtain ⟨e6, k6, h⟩ := obind h
        refine W.idxL (c := (cL 1 cI)) rfl rfl k6 ?_
        refine W.load rfl rfl ?_
        refine W.lenL (c := cI) rfl ?_
        refine W.mv rfl ?_
        refine W.nil ?_
        refine Ev.block ?_
        refine Ev.loopW (β := Nat × (List Int) × Int) (fun v => ⟨[(0, .list 1 (List.map (cL 1 cI) a0)), (3, .pown 10200 0 0 0), (6, .own 10201 0), (8, .int .i64 e5), (23, .list 1 (List.map cI r1.1)), (24, .int .i64 (r1.1.length : Int)), (25, .int .i64 x4), (32, .list 1 (List.map cI e6)), (33, .int .i64 (e6.length : Int)), (34, .int .i64 v.2.2)], [(10200, ⟨0, 25, 2, [[.int .i64 0, .int .i64 0]], true, false, false⟩), (10201, ⟨0, 3, 1, List.map cI v.2.1, true, false, false⟩)], 2⟩) (fun v => depgraph_Levels_l2 n x4 (depgraph_Levels_l1 n a0 r1 m1) e5 e6 v.1 v.2.1 v.2.2 = some r) (fun v => v.1) (n, w3, 0) (Wk.nrmTo [0, 3, 6, 8, 23, 24, 25, 32, 33, 34] [(10100, 10200), (10101, 10201)] rfl rfl) h ?_
        intro ⟨m2, w7, x8⟩ h
        try dsimp only at h ⊢
        cases m2 with
        | zero => rw [depgraph_Levels_l2] at h; cases h
        | succ m2 =>
          rw [depgraph_Levels_l2] at h
          refine Ev.seq ?_
          refine W.reg hm ?_
          refine W.lss rfl rfl ?_
          refine W.nil ?_
          refine Ev.seq ?_
          refine Ev.cond rfl (fun c7 => ?_) (fun c7 => ?_)
          · replace h := iteT h c7
            refine Ev.skip ?_
            refine Ev.seq ?_
            refine Ev.block ?_
            refine Ev.seq ?_
            refine W.reg hm ?_
            obtain ⟨e9, k8, h⟩ := obind h
            refine W.idxL (c := cI) rfl rfl k8 ?_
            refine W.load rfl rfl ?_
            refine W.mv rfl ?_
            refine W.nil ?_
            refine W.regD hm ?_
            refine W.mv rfl ?_
            refine W.mv rfl ?_
            refine W.mv rfl ?_
            refine W.mv rfl ?_
            obtain ⟨e10, k9, h⟩ := obind h
            refine W.idxR (l := w7) (c := cI) rfl rfl rfl rfl rfl k9 ?_
            refine W.loadR (l := w7) (c := cI) (v := e10) (p := .int .i64 e10) rfl rfl rfl (gidx_some k9).2 rfl ?_
            refine W.mv rfl ?_
            refine W.mv rfl ?_
            obtain ⟨e11, k10, h⟩ := obind h
            refine W.idxR (l := w7) (c := cI) rfl rfl rfl rfl rfl k10 ?_
            refine W.loadR (l := w7) (c := cI) (v := e11) (p := .int .i64 e11) rfl rfl rfl (gidx_some k10).2 rfl ?_
            obtain ⟨x12, k11, h⟩ := obind h
            refine W.addG rfl rfl k11 ?_
            refine W.mx rfl rfl rfl ?_
            refine W.idxR (l := w7) (c := cI) rfl rfl rfl rfl rfl k9 ?_
            refine W.storeR true (l := w7) (c := cI) (v := e10) (v' := (max e10 x12)) rfl rfl rfl rfl (gidx_some k9).2 rfl (Nat.le_of_ble_eq_true rfl) rfl rfl rfl ?_
            refine W.nil ⟨rfl, ?_⟩
            refine W.reg hm ?_
            obtain ⟨x13, k12, h⟩ := obind h
            refine W.addG rfl rfl k12 ?_
            refine W.mv rfl ?_
            refine W.nil ?_
            exact ⟨(m2, (gset w7 e5 (max e10 x12)), x13), h, Nat.lt_succ_self _, Wk.nrmTo [0, 3, 6, 8, 23, 24, 25, 32, 33, 34] [(10200, 10200), (10201, 10201)] rfl rfl⟩
          · replace h := iteF h c7
            refine Ev.exit ?_
            refine W.reg hm ?_
            obtain ⟨x14, k13, h⟩ := obind h
            refine W.addG rfl rfl k13 ?_
            refine W.mv rfl ?_
            refine W.nil ?_
            exact ⟨(m1, w7, x14), h, Nat.lt_succ_self _, Wk.nrmTo [0, 3, 6, 23, 24, 25] [(10200, 10100), (10201, 10101)] rfl rfl⟩
      · replace h := iteF h c4
        refine Ev.exit ?_
        refine Ev.seq ?_
        refine W.reg hm ?_
        refine W.mv rfl ?_
        refine W.build (cs := [.int .i64 0, .int .i64 0]) rfl rfl rfl ?_
        refine W.mv rfl ?_
        refine W.store (es' := [[.int .i64 0, .int .i64 0]]) (dt := true) rfl rfl rfl rfl rfl (Nat.le_of_ble_eq_true rfl) rfl rfl rfl rfl ?_
        refine W.nil ?_
        refine Ev.ret ?_
        injection h with h; subst h
        exact ⟨_, rfl, .refl _⟩

set_option maxHeartbeats 4000000 in
theorem law6_graphs_spec (n : Nat) (r : Bool) (h : law6_graphs n = some r) : PSpec Try.prog 10 [] (.bool r) := by
  unfold law6_graphs at h
  refine spec_of Try.c_law6_graphs (by simp) ?_
  unfold Try.l_law6_graphs
  refine Ev.seq ?_
  refine W.reg hm ?_
  refine W.mv rfl ?_
  refine W.nil ?_
  refine Ev.seq ?_
  refine W.reg hm ?_
  refine W.mkSlice (dt := true) (es := [[.int .i64 1]]) rfl rfl rfl rfl rfl rfl ?_
  refine W.mkSlice (dt := false) (es := [[.own 14 2], [.nils]]) rfl rfl rfl rfl rfl rfl ?_
  refine W.mv rfl ?_
  refine W.nil ?_
  refine Ev.seq ?_
  refine Ev.weak ?_ (Wk.frz 14 2 rfl rfl)
  refine Ev.weak ?_ (Wk.frz 15 2 rfl rfl)
  refine Ev.weak ?_ (Wk.le (t := 1) rfl (Le.lists 1 (.cons (.cons (.refl _) (.nil)) rfl (.cons (.cons (.nils 1) (.nil)) rfl (.nil)))))
  refine Ev.weak ?_ (Wk.le (t := 15) rfl (Le.lists 1 (.cons (.cons (.refl _) (.nil)) rfl (.cons (.cons (.nils 1) (.nil)) rfl (.nil)))))
  refine W.reg hm ?_
  refine W.mv rfl ?_
  obtain ⟨r1, k1, h⟩ := obind h
  refine W.call (depgraph_Order_spec n ([([1] : List Int), ([] : List Int)] : List (List Int)) r1 k1) rfl rfl (Les.refl _) rfl (.inl rfl) rfl ?_
  refine W.mv rfl ?_
  refine W.extract rfl rfl ?_
  refine W.extract rfl rfl ?_
  refine W.alloc (dt := true) rfl rfl rfl ?_
  refine W.mv rfl ?_
  refine W.store (es' := [[.int .i64 r1.2.Code, .int .i64 r1.2.Index]]) (dt := true) rfl rfl rfl rfl rfl (Nat.le_of_ble_eq_true rfl) rfl rfl rfl rfl ?_
  refine W.nil ?_
  refine Ev.seq ?_
  refine W.reg hm ?_
  refine W.mv rfl ?_
  obtain ⟨r2, k2, h⟩ := obind h
  refine W.call (depgraph_Levels_spec n ([([1] : List Int), ([] : List Int)] : List (List Int)) r2 k2) rfl rfl (Les.refl _) rfl (.inl rfl) rfl ?_
  refine W.mv rfl ?_
  refine W.extract rfl rfl ?_
  refine W.extract rfl rfl ?_
  refine W.alloc (dt := true) rfl rfl rfl ?_
  refine W.mv rfl ?_
  refine W.store (es' := [[.int .i64 r2.2.Code, .int .i64 r2.2.Index]]) (dt := true) rfl rfl rfl rfl rfl (Nat.le_of_ble_eq_true rfl) rfl rfl rfl rfl ?_
  refine W.nil ?_
  refine Ev.seq ?_
  refine Ev.regS rfl ?_
  refine Sq.w 2 (Nat.le_of_ble_eq_true rfl) ?_
  refine W.mv rfl ?_
  refine W.mkSlice (dt := true) (es := [[.int .i64 1]]) rfl rfl rfl rfl rfl rfl ?_
  refine W.nil ?_
  refine Sq.weak (st' := ⟨[(2, .list 1 (List.map cI r1.1)), (3, .pown 10000 0 0 0), (4, .list 1 (List.map cI r2.1)), (5, .pown 10001 0 0 0), (27, .list 1 (List.map (cL 1 cI) ([([1] : List Int), ([] : List Int)] : List (List Int)))), (28, .list 1 (List.map cI ([1] : List Int)))], [(10000, ⟨0, 25, 2, [[.int .i64 r1.2.Code, .int .i64 r1.2.Index]], true, false, false⟩), (10001, ⟨0, 25, 2, [[.int .i64 r2.2.Code, .int .i64 r2.2.Index]], true, false, false⟩)], 2⟩) ?_ ((Wk.frz 28 2 rfl rfl).trans (Wk.nrmTo [2, 3, 4, 5, 27, 28] [(3, 10000), (5, 10001)] rfl rfl))
  refine Sq.wEnd (Nat.le_of_ble_eq_true rfl) ?_
  obtain ⟨r3, k3, h⟩ := obind h
  refine W.call (depgraph_Affected_spec n ([([1] : List Int), ([] : List Int)] : List (List Int)) ([1] : List Int) r3 k3) rfl rfl (Les.refl _) rfl (.inl rfl) rfl ?_
  refine W.mv rfl ?_
  refine W.extract rfl rfl ?_
  refine W.extract rfl rfl ?_
  refine W.alloc (dt := true) rfl rfl rfl ?_
  refine W.mv rfl ?_
  refine W.store (es' := [[.int .i64 r3.2.Code, .int .i64 r3.2.Index]]) (dt := true) rfl rfl rfl rfl rfl (Nat.le_of_ble_eq_true rfl) rfl rfl rfl rfl ?_
  refine W.nil ?_
  refine Ev.seq ?_
  refine Ev.regS rfl ?_
  refine Sq.w 2 (Nat.le_of_ble_eq_true rfl) ?_
  refine W.mkSlice (dt := true) (es := [[.int .i64 0]]) rfl rfl rfl rfl rfl rfl ?_
  refine W.mkSlice (dt := false) (es := [[.own 33 2]]) rfl rfl rfl rfl rfl rfl ?_
  refine W.nil ?_
  refine Sq.weak (st' := ⟨[(2, .list 1 (List.map cI r1.1)), (3, .pown 10000 0 0 0), (4, .list 1 (List.map cI r2.1)), (5, .pown 10001 0 0 0), (6, .list 1 (List.map cI r3.1)), (7, .pown 10002 0 0 0), (34, .list 1 (List.map (cL 1 cI) ([([0] : List Int)] : List (List Int))))], [(10000, ⟨0, 25, 2, [[.int .i64 r1.2.Code, .int .i64 r1.2.Index]], true, false, false⟩), (10001, ⟨0, 25, 2, [[.int .i64 r2.2.Code, .int .i64 r2.2.Index]], true, false, false⟩), (10002, ⟨0, 25, 2, [[.int .i64 r3.2.Code, .int .i64 r3.2.Index]], true, false, false⟩)], 2⟩) ?_ ((Wk.frz 33 2 rfl rfl).trans ((Wk.frz 34 2 rfl rfl).trans (Wk.nrmTo [2, 3, 4, 5, 6, 7, 34] [(10000, 10000), (10001, 10001), (7, 10002)] rfl rfl)))
  refine Sq.wEnd (Nat.le_of_ble_eq_true rfl) ?_
  obtain ⟨r4, k4, h⟩ := obind h
  refine W.call (depgraph_Cycle_spec n ([([0] : List Int)] : List (List Int)) r4 k4) rfl rfl (Les.refl _) rfl (.inl rfl) rfl ?_
  refine W.mv rfl ?_
  refine W.extract rfl rfl ?_
  refine W.extract rfl rfl ?_
  refine W.extract rfl rfl ?_
  refine W.alloc (dt := true) rfl rfl rfl ?_
  refine W.mv rfl ?_
  refine W.mv rfl ?_
  refine W.store (es' := [[.int .i64 r4.2.2.Code, .int .i64 r4.2.2.Index]]) (dt := true) rfl rfl rfl rfl rfl (Nat.le_of_ble_eq_true rfl) rfl rfl rfl rfl ?_
  refine W.nil ?_
  refine Ev.seq ?_
  refine Ev.regS rfl ?_
  refine Sq.w 2 (Nat.le_of_ble_eq_true rfl) ?_
  refine W.mkSlice (dt := true) (es := [[.int .i64 1]]) rfl rfl rfl rfl rfl rfl ?_
  refine W.mkSlice (dt := false) (es := [[.nils], [.own 40 2]]) rfl rfl rfl rfl rfl rfl ?_
  refine W.nil ?_
  refine Sq.weak (st' := ⟨[(2, .list 1 (List.map cI r1.1)), (3, .pown 10000 0 0 0), (4, .list 1 (List.map cI r2.1)), (5, .pown 10001 0 0 0), (6, .list 1 (List.map cI r3.1)), (7, .pown 10002 0 0 0), (8, .list 1 (List.map cI r4.1)), (9, .bool r4.2.1), (10, .pown 10003 0 0 0), (41, .list 1 (List.map (cL 1 cI) ([([] : List Int), ([1] : List Int)] : List (List Int))))], [(10000, ⟨0, 25, 2, [[.int .i64 r1.2.Code, .int .i64 r1.2.Index]], true, false, false⟩), (10001, ⟨0, 25, 2, [[.int .i64 r2.2.Code, .int .i64 r2.2.Index]], true, false, false⟩), (10002, ⟨0, 25, 2, [[.int .i64 r3.2.Code, .int .i64 r3.2.Index]], true, false, false⟩), (10003, ⟨0, 25, 2, [[.int .i64 r4.2.2.Code, .int .i64 r4.2.2.Index]], true, false, false⟩)], 2⟩) ?_ ((Wk.frz 40 2 rfl rfl).trans ((Wk.frz 41 2 rfl rfl).trans ((Wk.le (t := 41) rfl (Le.lists 1 (.cons (.cons (.nils 1) (.nil)) rfl (.cons (.cons (.refl _) (.nil)) rfl (.nil))))).trans (Wk.nrmTo [2, 3, 4, 5, 6, 7, 8, 9, 10, 41] [(10000, 10000), (10001, 10001), (10002, 10002), (10, 10003)] rfl rfl))))
  refine Sq.wEnd (Nat.le_of_ble_eq_true rfl) ?_
  obtain ⟨r5, k5, h⟩ := obind h
  refine W.call (depgraph_Order_spec n ([([] : List Int), ([1] : List Int)] : List (List Int)) r5 k5) rfl rfl (Les.refl _) rfl (.inl rfl) rfl ?_
  refine W.mv rfl ?_
  refine W.extract rfl rfl ?_
  refine W.extract rfl rfl ?_
  refine W.alloc (dt := true) rfl rfl rfl ?_
  refine W.mv rfl ?_
  refine W.store (es' := [[.int .i64 r5.2.Code, .int .i64 r5.2.Index]]) (dt := true) rfl rfl rfl rfl rfl (Nat.le_of_ble_eq_true rfl) rfl rfl rfl rfl ?_
  refine W.nil ?_
  refine Ev.seqJ (γ := Bool) (fun v => ⟨[(2, .list 1 (List.map cI r1.1)), (4, .list 1 (List.map cI r2.1)), (6, .list 1 (List.map cI r3.1)), (8, .list 1 (List.map cI r4.1)), (9, .bool r4.2.1), (13, .bool v)], [], 2⟩) (fun v => law6_graphs_j1 n r1 r2 r3 r4 v = some r) ?_ ?_
  · refine W.regD hm ?_
    refine W.fieldAddrO rfl rfl ?_
    refine W.loadO (p := .int .i64 r1.2.Code) rfl rfl rfl rfl ?_
    refine W.eql rfl rfl ?_
    refine W.mv rfl ?_
    refine W.split 48 rfl (fun c18 => ?_) (fun c18 => ?_)
    · replace h := iteT h c18
      refine W.guardT rfl c18 ?_
      refine W.fieldAddrO rfl rfl ?_
      refine W.guardT rfl c18 ?_
      refine W.loadO (p := .int .i64 r2.2.Code) rfl rfl rfl rfl ?_
      refine W.guardT rfl c18 ?_
      refine W.eql rfl rfl ?_
      refine W.pickT rfl rfl rfl c18 ?_
      refine W.mv rfl ?_
      refine W.split 53 rfl (fun c19 => ?_) (fun c19 => ?_)
      · replace h := iteT h c19
        refine W.guardT rfl c19 ?_
        refine W.fieldAddrO rfl rfl ?_
        refine W.guardT rfl c19 ?_
        refine W.loadO (p := .int .i64 r3.2.Code) rfl rfl rfl rfl ?_
        refine W.guardT rfl c19 ?_
        refine W.eql rfl rfl ?_
        refine W.pickT rfl rfl rfl c19 ?_
        refine W.mv rfl ?_
        refine W.split 58 rfl (fun c20 => ?_) (fun c20 => ?_)
        · replace h := iteT h c20
          refine W.guardT rfl c20 ?_
          refine W.fieldAddrO rfl rfl ?_
          refine W.guardT rfl c20 ?_
          refine W.loadO (p := .int .i64 r4.2.2.Code) rfl rfl rfl rfl ?_
          refine W.guardT rfl c20 ?_
          refine W.eql rfl rfl ?_
          refine W.pickT rfl rfl rfl c20 ?_
          refine W.mv rfl ?_
          refine W.split 63 rfl (fun c21 => ?_) (fun c21 => ?_)
          · replace h := iteT h c21
            refine W.guardT rfl c21 ?_
            refine W.loadO (p := .agg [.int .i64 r5.2.Code, .int .i64 r5.2.Index]) rfl rfl rfl rfl ?_
            refine W.guardT rfl c21 ?_
            obtain ⟨r14, k22, h⟩ := obind h
            refine W.call (law6_fault_spec n 20 1 r14 k22) rfl rfl (Les.refl _) rfl (.inl rfl) rfl ?_
            refine W.guardT rfl c21 ?_
            refine W.eqs rfl rfl rfl ?_
            refine W.pickT rfl rfl rfl c21 ?_
            refine W.mv rfl ?_
            refine W.nil ⟨rfl, ?_⟩
            exact ⟨((r5.2.Code == r14.Code && (r5.2.Index == r14.Index && true)) != false), h, Wk.nrmTo [2, 4, 6, 8, 9, 13] [] rfl rfl⟩
          · replace h := iteF h c21
            refine W.guardF1 rfl c21 ?_
            refine W.guardF1 rfl c21 ?_
            refine W.guardF1 rfl c21 ?_
            refine W.pickN rfl rfl rfl c21 ?_
            refine W.mv rfl ?_
            refine W.nil ⟨rfl, ?_⟩
            exact ⟨false, h, Wk.nrmTo [2, 4, 6, 8, 9, 13] [] rfl rfl⟩
        · replace h := iteF h c20
          refine W.guardF1 rfl c20 ?_
          refine W.guardF1 rfl c20 ?_
          refine W.guardF1 rfl c20 ?_
          refine W.pickN rfl rfl rfl c20 ?_
          refine W.mv rfl ?_
          refine W.guardF1 rfl rfl ?_
          refine W.guardF1 rfl rfl ?_
          refine W.guardF1 rfl rfl ?_
          refine W.pickN rfl rfl rfl rfl ?_
          refine W.mv rfl ?_
          refine W.nil ⟨rfl, ?_⟩
          exact ⟨false, h, Wk.nrmTo [2, 4, 6, 8, 9, 13] [] rfl rfl⟩
      · replace h := iteF h c19
        refine W.guardF1 rfl c19 ?_
        refine W.guardF1 rfl c19 ?_
        refine W.guardF1 rfl c19 ?_
        refine W.pickN rfl rfl rfl c19 ?_
        refine W.mv rfl ?_
        refine W.guardF1 rfl rfl ?_
        refine W.guardF1 rfl rfl ?_
        refine W.guardF1 rfl rfl ?_
        refine W.pickN rfl rfl rfl rfl ?_
        refine W.mv rfl ?_
        refine W.guardF1 rfl rfl ?_
        refine W.guardF1 rfl rfl ?_
        refine W.guardF1 rfl rfl ?_
        refine W.pickN rfl rfl rfl rfl ?_
        refine W.mv rfl ?_
        refine W.nil ⟨rfl, ?_⟩
        exact ⟨false, h, Wk.nrmTo [2, 4, 6, 8, 9, 13] [] rfl rfl⟩
    · replace h := iteF h c18
      refine W.guardF1 rfl c18 ?_
      refine W.guardF1 rfl c18 ?_
      refine W.guardF1 rfl c18 ?_
      refine W.pickN rfl rfl rfl c18 ?_
      refine W.mv rfl ?_
      refine W.guardF1 rfl rfl ?_
      refine W.guardF1 rfl rfl ?_
      refine W.guardF1 rfl rfl ?_
      refine W.pickN rfl rfl rfl rfl ?_
      refine W.mv rfl ?_
      refine W.guardF1 rfl rfl ?_
      refine W.guardF1 rfl rfl ?_
      refine W.guardF1 rfl rfl ?_
      refine W.pickN rfl rfl rfl rfl ?_
      refine W.mv rfl ?_
      refine W.guardF1 rfl rfl ?_
      refine W.guardF1 rfl rfl ?_
      refine W.guardF1 rfl rfl ?_
      refine W.pickN rfl rfl rfl rfl ?_
      refine W.mv rfl ?_
      refine W.nil ⟨rfl, ?_⟩
      exact ⟨false, h, Wk.nrmTo [2, 4, 6, 8, 9, 13] [] rfl rfl⟩
  · intro x6 h
    try dsimp only at h ⊢
    unfold law6_graphs_j1 at h
    refine Ev.seqJ (γ := Bool) (fun v => ⟨[(0, .bool v)], [], 2⟩) (fun v => law6_graphs_j2 n v = some r) ?_ ?_
    · refine Ev.regS rfl ?_
      refine Sq.w 27 (Nat.le_of_ble_eq_true rfl) ?_
      refine W.mv rfl ?_
      refine W.mv rfl ?_
      refine W.split 69 rfl (fun c6 => ?_) (fun c6 => ?_)
      · replace h := iteT h c6
        refine W.guardT rfl c6 ?_
        refine W.mv rfl ?_
        refine W.guardT rfl c6 ?_
        refine W.mkSlice (dt := true) (es := [[.int .i64 1], [.int .i64 0]]) rfl rfl rfl rfl rfl rfl ?_
        refine W.guardT rfl c6 ?_
        obtain ⟨r8, k7, h⟩ := obind h
        refine W.call (ref5_Ints_spec n r1.1 ([1, 0] : List Int) r8 k7) rfl rfl (Les.refl _) rfl (.inr rfl) rfl ?_
        refine W.pickT rfl rfl rfl c6 ?_
        refine W.mv rfl ?_
        refine W.split 74 rfl (fun c8 => ?_) (fun c8 => ?_)
        · replace h := iteT h c8
          refine W.guardT rfl c8 ?_
          refine W.mv rfl ?_
          refine W.guardT rfl c8 ?_
          refine W.mkSlice (dt := true) (es := [[.int .i64 1], [.int .i64 0]]) rfl rfl rfl rfl rfl rfl ?_
          refine W.guardT rfl c8 ?_
          obtain ⟨r9, k9, h⟩ := obind h
          refine W.call (ref5_Ints_spec n r2.1 ([1, 0] : List Int) r9 k9) rfl rfl (Les.refl _) rfl (.inr rfl) rfl ?_
          refine W.pickT rfl rfl rfl c8 ?_
          refine W.mv rfl ?_
          refine W.split 79 rfl (fun c10 => ?_) (fun c10 => ?_)
          · replace h := iteT h c10
            refine W.guardT rfl c10 ?_
            refine W.mv rfl ?_
            refine W.guardT rfl c10 ?_
            refine W.mkSlice (dt := true) (es := [[.int .i64 0], [.int .i64 1]]) rfl rfl rfl rfl rfl rfl ?_
            refine W.guardT rfl c10 ?_
            obtain ⟨r10, k11, h⟩ := obind h
            refine W.call (ref5_Ints_spec n r3.1 ([0, 1] : List Int) r10 k11) rfl rfl (Les.refl _) rfl (.inr rfl) rfl ?_
            refine W.pickT rfl rfl rfl c10 ?_
            refine W.mv rfl ?_
            refine W.split 84 rfl (fun c12 => ?_) (fun c12 => ?_)
            · replace h := iteT h c12
              refine W.guardT rfl c12 ?_
              refine W.mv rfl ?_
              refine W.pickT rfl rfl rfl c12 ?_
              refine W.mv rfl ?_
              refine W.split 87 rfl (fun c13 => ?_) (fun c13 => ?_)
              · replace h := iteT h c13
                refine W.guardT rfl c13 ?_
                refine W.mv rfl ?_
                refine W.guardT rfl c13 ?_
                refine W.mkSlice (dt := true) (es := [[.int .i64 0]]) rfl rfl rfl rfl rfl rfl ?_
                refine W.guardT rfl c13 ?_
                obtain ⟨r11, k14, h⟩ := obind h
                refine W.call (ref5_Ints_spec n r4.1 ([0] : List Int) r11 k14) rfl rfl (Les.refl _) rfl (.inr rfl) rfl ?_
                refine W.pickT rfl rfl rfl c13 ?_
                refine W.mv rfl ?_
                refine W.split 92 rfl (fun c15 => ?_) (fun c15 => ?_)
                · replace h := iteT h c15
                  refine W.guardT rfl c15 ?_
                  refine W.mkSlice (dt := true) (es := [[.int .i64 1]]) rfl rfl rfl rfl rfl rfl ?_
                  refine W.guardT rfl c15 ?_
                  refine W.mkSlice (dt := false) (es := [[.own 93 2]]) rfl rfl rfl rfl rfl rfl ?_
                  refine W.nil ?_
                  refine Sq.weak (st' := ⟨[(92, .bool r11), (94, .own 10200 0)], [(10200, ⟨0, 23, 1, List.map (cL 1 cI) ([([1] : List Int)] : List (List Int)), true, false, false⟩)], 2⟩) ?_ ((Wk.frz 93 2 rfl rfl).trans (Wk.nrmTo [92, 94] [(94, 10200)] rfl rfl))
                  refine Sq.wEnd (Nat.le_of_ble_eq_true rfl) ?_
                  refine W.guardT rfl c15 ?_
                  obtain ⟨r12, k16, h⟩ := obind h
                  refine W.call (depgraph_Validate_spec n ([([1] : List Int)] : List (List Int)) r12 k16) rfl rfl (Les.refl _) rfl (.inr rfl) rfl ?_
                  refine W.guardT rfl c15 ?_
                  obtain ⟨r13, k17, h⟩ := obind h
                  refine W.call (law6_fault_spec n 3 0 r13 k17) rfl rfl (Les.refl _) rfl (.inl rfl) rfl ?_
                  refine W.guardT rfl c15 ?_
                  refine W.eqs rfl rfl rfl ?_
                  refine W.pickT rfl rfl rfl c15 ?_
                  refine W.mv rfl ?_
                  refine W.nil ?_
                  exact ⟨((r12.Code == r13.Code && (r12.Index == r13.Index && true)) != false), h, Wk.nrmTo [0] [] rfl rfl⟩
                · replace h := iteF h c15
                  refine W.guardF1 rfl c15 ?_
                  refine W.guardF1 rfl c15 ?_
                  refine W.nil ?_
                  refine Sq.wEnd (Nat.le_of_ble_eq_true rfl) ?_
                  refine W.guardF1 rfl c15 ?_
                  refine W.guardF1 rfl c15 ?_
                  refine W.guardF1 rfl c15 ?_
                  refine W.pickN rfl rfl rfl c15 ?_
                  refine W.mv rfl ?_
                  refine W.nil ?_
                  exact ⟨false, h, Wk.nrmTo [0] [] rfl rfl⟩
              · replace h := iteF h c13
                refine W.guardF1 rfl c13 ?_
                refine W.guardF1 rfl c13 ?_
                refine W.guardF1 rfl c13 ?_
                refine W.pickN rfl rfl rfl c13 ?_
                refine W.mv rfl ?_
                refine W.guardF1 rfl rfl ?_
                refine W.guardF1 rfl rfl ?_
                refine W.nil ?_
                refine Sq.wEnd (Nat.le_of_ble_eq_true rfl) ?_
                refine W.guardF1 rfl rfl ?_
                refine W.guardF1 rfl rfl ?_
                refine W.guardF1 rfl rfl ?_
                refine W.pickN rfl rfl rfl rfl ?_
                refine W.mv rfl ?_
                refine W.nil ?_
                exact ⟨false, h, Wk.nrmTo [0] [] rfl rfl⟩
            · replace h := iteF h c12
              refine W.guardF1 rfl c12 ?_
              refine W.pickN rfl rfl rfl c12 ?_
              refine W.mv rfl ?_
              refine W.guardF1 rfl rfl ?_
              refine W.guardF1 rfl rfl ?_
              refine W.guardF1 rfl rfl ?_
              refine W.pickN rfl rfl rfl rfl ?_
              refine W.mv rfl ?_
              refine W.guardF1 rfl rfl ?_
              refine W.guardF1 rfl rfl ?_
              refine W.nil ?_
              refine Sq.wEnd (Nat.le_of_ble_eq_true rfl) ?_
              refine W.guardF1 rfl rfl ?_
              refine W.guardF1 rfl rfl ?_
              refine W.guardF1 rfl rfl ?_
              refine W.pickN rfl rfl rfl rfl ?_
              refine W.mv rfl ?_
              refine W.nil ?_
              exact ⟨false, h, Wk.nrmTo [0] [] rfl rfl⟩
          · replace h := iteF h c10
            refine W.guardF1 rfl c10 ?_
            refine W.guardF1 rfl c10 ?_
            refine W.guardF1 rfl c10 ?_
            refine W.pickN rfl rfl rfl c10 ?_
            refine W.mv rfl ?_
            refine W.guardF1 rfl rfl ?_
            refine W.pickN rfl rfl rfl rfl ?_
            refine W.mv rfl ?_
            refine W.guardF1 rfl rfl ?_
            refine W.guardF1 rfl rfl ?_
            refine W.guardF1 rfl rfl ?_
            refine W.pickN rfl rfl rfl rfl ?_
            refine W.mv rfl ?_
            refine W.guardF1 rfl rfl ?_
            refine W.guardF1 rfl rfl ?_
            refine W.nil ?_
            refine Sq.wEnd (Nat.le_of_ble_eq_true rfl) ?_
            refine W.guardF1 rfl rfl ?_
            refine W.guardF1 rfl rfl ?_
            refine W.guardF1 rfl rfl ?_
            refine W.pickN rfl rfl rfl rfl ?_
            refine W.mv rfl ?_
            refine W.nil ?_
            exact ⟨false, h, Wk.nrmTo [0] [] rfl rfl⟩
        · replace h := iteF h c8
          refine W.guardF1 rfl c8 ?_
          refine W.guardF1 rfl c8 ?_
          refine W.guardF1 rfl c8 ?_
          refine W.pickN rfl rfl rfl c8 ?_
          refine W.mv rfl ?_
          refine W.guardF1 rfl rfl ?_
          refine W.guardF1 rfl rfl ?_
          refine W.guardF1 rfl rfl ?_
          refine W.pickN rfl rfl rfl rfl ?_
          refine W.mv rfl ?_
          refine W.guardF1 rfl rfl ?_
          refine W.pickN rfl rfl rfl rfl ?_
          refine W.mv rfl ?_
          refine W.guardF1 rfl rfl ?_
          refine W.guardF1 rfl rfl ?_
          refine W.guardF1 rfl rfl ?_
          refine W.pickN rfl rfl rfl rfl ?_
          refine W.mv rfl ?_
          refine W.guardF1 rfl rfl ?_
          refine W.guardF1 rfl rfl ?_
          refine W.nil ?_
          refine Sq.wEnd (Nat.le_of_ble_eq_true rfl) ?_
          refine W.guardF1 rfl rfl ?_
          refine W.guardF1 rfl rfl ?_
          refine W.guardF1 rfl rfl ?_
          refine W.pickN rfl rfl rfl rfl ?_
          refine W.mv rfl ?_
          refine W.nil ?_
          exact ⟨false, h, Wk.nrmTo [0] [] rfl rfl⟩
      · replace h := iteF h c6
        refine W.guardF1 rfl c6 ?_
        refine W.guardF1 rfl c6 ?_
        refine W.guardF1 rfl c6 ?_
        refine W.pickN rfl rfl rfl c6 ?_
        refine W.mv rfl ?_
        refine W.guardF1 rfl rfl ?_
        refine W.guardF1 rfl rfl ?_
        refine W.guardF1 rfl rfl ?_
        refine W.pickN rfl rfl rfl rfl ?_
        refine W.mv rfl ?_
        refine W.guardF1 rfl rfl ?_
        refine W.guardF1 rfl rfl ?_
        refine W.guardF1 rfl rfl ?_
        refine W.pickN rfl rfl rfl rfl ?_
        refine W.mv rfl ?_
        refine W.guardF1 rfl rfl ?_
        refine W.pickN rfl rfl rfl rfl ?_
        refine W.mv rfl ?_
        refine W.guardF1 rfl rfl ?_
        refine W.guardF1 rfl rfl ?_
        refine W.guardF1 rfl rfl ?_
        refine W.pickN rfl rfl rfl rfl ?_
        refine W.mv rfl ?_
        refine W.guardF1 rfl rfl ?_
        refine W.guardF1 rfl rfl ?_
        refine W.nil ?_
        refine Sq.wEnd (Nat.le_of_ble_eq_true rfl) ?_
        refine W.guardF1 rfl rfl ?_
        refine W.guardF1 rfl rfl ?_
        refine W.guardF1 rfl rfl ?_
        refine W.pickN rfl rfl rfl rfl ?_
        refine W.mv rfl ?_
        refine W.nil ?_
        exact ⟨false, h, Wk.nrmTo [0] [] rfl rfl⟩
    · intro x7 h
      try dsimp only at h ⊢
      unfold law6_graphs_j2 at h
      refine Ev.ret ?_
      injection h with h; subst h
      exact ⟨_, rfl, .refl _⟩

theorem ref5_Has_spec (n : Nat) (a0 : List Int) (a1 : Int) (r : Bool) (h : ref5_Has n a0 a1 = some r) : PSpec Try.prog 26 [.list 1 (List.map cI a0), .int .i64 a1] (.bool r) := by
  unfold ref5_Has at h
  refine spec_of Try.c_ref5_Has (by simp) ?_
  unfold Try.l_ref5_Has
  refine Ev.seq ?_
  refine W.reg hm ?_
  refine W.mv rfl ?_
  refine W.nil ?_
  refine Ev.seq ?_
  refine Ev.seq ?_
  refine W.reg hm ?_
  refine W.mv rfl ?_
  refine W.nil ?_
  refine Ev.block ?_
  refine Ev.loopW (β := Nat × Int) (fun v => ⟨[(0, .list 1 (List.map cI a0)), (1, .int .i64 a1), (5, .int .i64 v.2)], [], 2⟩) (fun v => ref5_Has_l1 n a0 a1 v.1 v.2 = some r) (fun v => v.1) (n, 0) (Wk.nrmTo [0, 1, 5] [] rfl rfl) h ?_
  intro ⟨m1, x1⟩ h
  try dsimp only at h ⊢
  cases m1 with
  | zero => rw [ref5_Has_l1] at h; cases h
  | succ m1 =>
    rw [ref5_Has_l1] at h
    refine Ev.seq ?_
    refine Ev.seq ?_
    refine W.reg hm ?_
    refine W.mv rfl ?_
    refine W.mv rfl ?_
    refine W.lenL (c := cI) rfl ?_
    refine W.lss rfl rfl ?_
    refine W.nil ?_
    refine Ev.cond rfl (fun c1 => ?_) (fun c1 => ?_)
    · replace h := iteT h c1
      refine Ev.skip ?_
      refine Ev.seq ?_
      refine Ev.block ?_
      refine Ev.seq ?_
      refine W.reg hm ?_
      refine W.mv rfl ?_
      refine W.mv rfl ?_
      obtain ⟨e2, k2, h⟩ := obind h
      refine W.idxL (c := cI) rfl rfl k2 ?_
      refine W.load rfl rfl ?_
      refine W.mv rfl ?_
      refine W.eql rfl rfl ?_
      refine W.nil ?_
      refine Ev.cond rfl (fun c3 => ?_) (fun c3 => ?_)
      · replace h := iteT h c3
        refine Ev.seq ?_
        refine W.reg hm ?_
        refine W.mv rfl ?_
        refine W.nil ?_
        refine Ev.ret ?_
        injection h with h; subst h
        exact ⟨_, rfl, .refl _⟩
      · replace h := iteF h c3
        refine Ev.skip ?_
        refine W.reg hm ?_
        refine W.mv rfl ?_
        obtain ⟨x3, k4, h⟩ := obind h
        refine W.addG rfl rfl k4 ?_
        refine W.mv rfl ?_
        refine W.nil ?_
        exact ⟨(m1, x3), h, Nat.lt_succ_self _, Wk.nrmTo [0, 1, 5] [] rfl rfl⟩
    · replace h := iteF h c1
      refine Ev.exit ?_
      refine Ev.seq ?_
      refine W.reg hm ?_
      refine W.mv rfl ?_
      refine W.nil ?_
      refine Ev.ret ?_
      injection h with h; subst h
      exact ⟨_, rfl, .refl _⟩

set_option maxHeartbeats 4000000 in
theorem ref6_Distance_spec (n : Nat) (a0 : List (List Int)) (r : (List (List Int))) (h : ref6_Distance n a0 = some r) : PSpec Try.prog 33 [.list 1 (List.map (cL 1 cI) a0)] (.list 1 (List.map (cL 1 cI) r)) := by
  unfold ref6_Distance at h
  refine spec_of Try.c_ref6_Distance (by simp) ?_
  unfold Try.l_ref6_Distance
  refine Ev.seq ?_
  refine W.reg hm ?_
  refine W.mv rfl ?_
  refine W.nil ?_
  refine Ev.seq ?_
  refine W.reg hm ?_
  refine W.mv rfl ?_
  refine W.nil ?_
  refine Ev.seq ?_
  refine Ev.seq ?_
  refine W.reg hm ?_
  refine W.mv rfl ?_
  refine W.nil ?_
  refine Ev.block ?_
  refine Ev.loopW (β := Nat × (List (List Int)) × Int) (fun v => ⟨[(0, .list 1 (List.map (cL 1 cI) a0)), (3, .own 10100 0), (4, .int .i64 v.2.2)], [(10100, ⟨0, 23, 1, outr 2000000 v.2.1.length, false, false, false⟩)] ++ fam 2000000 3 1 cI v.2.1, 2⟩) (fun v => ref6_Distance_l1 n a0 v.1 v.2.1 v.2.2 = some r) (fun v => v.1) (n, ([] : List (List Int)), 0) ((Wk.ownNil 3 30100 23 1 rfl rfl false).trans (Wk.nrmF0 (B := 2000000) (elem := 3) (sz := 1) (xss := ([] : List (List Int))) (c := cI) (L := [(30100, ⟨2, 23, 1, outr 2000000 ([] : List (List Int)).length, false, true, false⟩)]) [0, 3, 4] [(30100, 10100)] 30100 rfl rfl rfl rfl rfl rfl rfl rfl)) h ?_
  intro ⟨m1, z1, x2⟩ h
  try dsimp only at h ⊢
  cases m1 with
  | zero => rw [ref6_Distance_l1] at h; cases h
  | succ m1 =>
    rw [ref6_Distance_l1] at h
    refine Ev.seq ?_
    refine Ev.seq ?_
    refine W.reg hm ?_
    refine W.mv rfl ?_
    refine W.mv rfl ?_
    refine W.lenL (c := (cL 1 cI)) rfl ?_
    refine W.lss rfl rfl ?_
    refine W.nil ?_
    refine Ev.cond rfl (fun c1 => ?_) (fun c1 => ?_)
    · replace h := iteT h c1
      refine Ev.skip ?_
      refine Ev.seq ?_
      refine Ev.block ?_
      refine Ev.seq ?_
      refine W.reg hm ?_
      refine W.mv rfl ?_
      refine W.nil ?_
      refine Ev.seq ?_
      refine Ev.seq ?_
      refine W.reg hm ?_
      refine W.mv rfl ?_
      refine W.nil ?_
      refine Ev.block ?_
      refine Ev.loopW (β := Nat × (List Int) × Int) (fun v => ⟨[(0, .list 1 (List.map (cL 1 cI) a0)), (3, .own 10200 0), (4, .int .i64 x2), (5, .own 10201 0), (6, .int .i64 v.2.2)], [(10200, ⟨0, 23, 1, outr 2000000 z1.length, false, false, false⟩), (10201, ⟨0, 3, 1, List.map cI v.2.1, true, false, false⟩)] ++ fam 2000000 3 1 cI z1, 2⟩) (fun v => ref6_Distance_l2 n a0 z1 x2 (ref6_Distance_l1 n a0 m1) v.1 v.2.1 v.2.2 = some r) (fun v => v.1) (n, ([] : List Int), 0) ((Wk.ownNil 5 30201 3 1 rfl (fresh_fam (α := Int) (by repeat (first | exact .base (by decide) | refine .cons (by decide) ?_))) true).trans (Wk.nrmF0 (B := 2000000) (elem := 3) (sz := 1) (xss := z1) (c := cI) (L := [(30201, ⟨2, 3, 1, List.map cI ([] : List Int), true, true, false⟩), (10100, ⟨0, 23, 1, outr 2000000 z1.length, false, false, false⟩)]) [0, 3, 4, 5, 6] [(10100, 10200), (30201, 10201)] 10100 rfl rfl rfl rfl rfl rfl rfl rfl)) h ?_
      intro ⟨m2, w3, x4⟩ h
      try dsimp only at h ⊢
      cases m2 with
      | zero => rw [ref6_Distance_l2] at h; cases h
      | succ m2 =>
        rw [ref6_Distance_l2] at h
        refine Ev.seq ?_
        refine Ev.seq ?_
        refine W.reg hm ?_
        refine W.mv rfl ?_
        refine W.mv rfl ?_
        refine W.lenL (c := (cL 1 cI)) rfl ?_
        refine W.lss rfl rfl ?_
        refine W.nil ?_
        refine Ev.cond rfl (fun c2 => ?_) (fun c2 => ?_)
        · replace h := iteT h c2
          refine Ev.skip ?_
          refine Ev.seqJ (γ := List Int) (fun v => ⟨[(0, .list 1 (List.map (cL 1 cI) a0)), (3, .own 10300 0), (4, .int .i64 x2), (5, .own 10301 0), (6, .int .i64 x4)], [(10300, ⟨0, 23, 1, outr 2000000 z1.length, false, false, false⟩), (10301, ⟨0, 3, 1, List.map cI v, true, false, false⟩)] ++ fam 2000000 3 1 cI z1, 2⟩) (fun v => ref6_Distance_j1 n x4 (ref6_Distance_l2 n a0 z1 x2 (ref6_Distance_l1 n a0 m1) m2) v = some r) ?_ ?_
          · refine Ev.block ?_
            refine Ev.seq ?_
            refine W.reg hm ?_
            refine W.mv rfl ?_
            refine W.mv rfl ?_
            obtain ⟨e7, k4, h⟩ := obind h
            refine W.idxL (c := (cL 1 cI)) rfl rfl k4 ?_
            refine W.load rfl rfl ?_
            refine W.mv rfl ?_
            obtain ⟨r8, k5, h⟩ := obind h
            refine W.call (ref5_Has_spec n e7 x4 r8 k5) rfl rfl (Les.refl _) rfl (.inl rfl) rfl ?_
            refine W.nil ?_
            refine Ev.cond rfl (fun c6 => ?_) (fun c6 => ?_)
            · replace h := iteT h c6
              refine W.reg hm ?_
              refine W.mv rfl ?_
              refine W.mkSlice (dt := true) (es := [[.int .i64 1]]) rfl rfl (fresh_fam (α := Int) (by repeat (first | exact .base (by decide) | refine .cons (by decide) ?_))) rfl rfl rfl ?_
              obtain ⟨w9, k7, h⟩ := obind h
              refine W.appR true (l := w3) (c := cI) (ys := ([1] : List Int)) rfl rfl rfl rfl rfl rfl rfl (fresh_fam (α := Int) (by repeat (first | exact .base (by decide) | refine .cons (by decide) ?_))) k7 rfl (by simp) ?_
              refine W.mv rfl ?_
              refine W.nil ?_
              exact ⟨w9, h, Wk.nrmF0 (B := 2000000) (elem := 3) (sz := 1) (xss := z1) (c := cI) (L := [(30, ⟨2, 3, 1, List.map cI w9, true, true, false⟩), (10201, ⟨0, 3, 1, List.map cI w3, true, false, true⟩), (29, ⟨2, 3, 1, [[.int .i64 1]], true, true, false⟩), (10200, ⟨0, 23, 1, outr 2000000 z1.length, false, false, false⟩), (10201, ⟨0, 3, 1, List.map cI w3, true, false, false⟩)]) [0, 3, 4, 5, 6] [(10200, 10300), (30, 10301)] 10200 rfl rfl rfl rfl rfl rfl rfl rfl⟩
            · replace h := iteF h c6
              refine W.reg hm ?_
              refine W.mv rfl ?_
              refine W.mkSlice (dt := true) (es := [[.int .i64 1000]]) rfl rfl (fresh_fam (α := Int) (by repeat (first | exact .base (by decide) | refine .cons (by decide) ?_))) rfl rfl rfl ?_
              obtain ⟨w10, k8, h⟩ := obind h
              refine W.appR true (l := w3) (c := cI) (ys := ([1000] : List Int)) rfl rfl rfl rfl rfl rfl rfl (fresh_fam (α := Int) (by repeat (first | exact .base (by decide) | refine .cons (by decide) ?_))) k8 rfl (by simp) ?_
              refine W.mv rfl ?_
              refine W.nil ?_
              exact ⟨w10, h, Wk.nrmF0 (B := 2000000) (elem := 3) (sz := 1) (xss := z1) (c := cI) (L := [(33, ⟨2, 3, 1, List.map cI w10, true, true, false⟩), (10201, ⟨0, 3, 1, List.map cI w3, true, false, true⟩), (32, ⟨2, 3, 1, [[.int .i64 1000]], true, true, false⟩), (10200, ⟨0, 23, 1, outr 2000000 z1.length, false, false, false⟩), (10201, ⟨0, 3, 1, List.map cI w3, true, false, false⟩)]) [0, 3, 4, 5, 6] [(10200, 10300), (33, 10301)] 10200 rfl rfl rfl rfl rfl rfl rfl rfl⟩
          · intro w5 h
            try dsimp only at h ⊢
            unfold ref6_Distance_j1 at h
            refine W.reg hm ?_
            refine W.mv rfl ?_
            obtain ⟨x6, k3, h⟩ := obind h
            refine W.addG rfl rfl k3 ?_
            refine W.mv rfl ?_
            refine W.nil ?_
            exact ⟨(m2, w5, x6), h, Nat.lt_succ_self _, Wk.nrmF0 (B := 2000000) (elem := 3) (sz := 1) (xss := z1) (c := cI) (L := [(10300, ⟨0, 23, 1, outr 2000000 z1.length, false, false, false⟩), (10301, ⟨0, 3, 1, List.map cI w5, true, false, false⟩)]) [0, 3, 4, 5, 6] [(10300, 10200), (10301, 10201)] 10300 rfl rfl rfl rfl rfl rfl rfl rfl⟩
        · replace h := iteF h c2
          refine Ev.exit ?_
          refine W.reg hm ?_
          refine W.mv rfl ?_
          refine W.mv rfl ?_
          refine W.mkSlice (dt := false) (es := [[.own 10201 0]]) rfl rfl (fresh_fam (α := Int) (by repeat (first | exact .base (by decide) | refine .cons (by decide) ?_))) rfl rfl rfl ?_
          obtain ⟨w11, k9, h⟩ := obind h
          refine W.appFO (B := 2000000) rfl rfl rfl rfl rfl rfl rfl (fresh_fam (α := Int) (by repeat (first | exact .base (by decide) | refine .cons (by decide) ?_))) k9 rfl (by simp) ?_
          refine W.mv rfl ?_
          refine W.nil ?_
          refine W.reg hm ?_
          refine W.mv rfl ?_
          obtain ⟨x12, k10, h⟩ := obind h
          refine W.addG rfl rfl k10 ?_
          refine W.mv rfl ?_
          refine W.nil ?_
          exact ⟨(m1, (z1 ++ [w3]), x12), h, Nat.lt_succ_self _, Wk.nrmF1 (B := 2000000) (elem := 3) (sz := 1) (xss := z1) (c := cI) (L := [(37, ⟨2, 23, 1, outr 2000000 z1.length ++ [[.own 10201 0]], false, true, false⟩), (10200, ⟨0, 23, 1, outr 2000000 z1.length, false, false, true⟩), (36, ⟨2, 23, 1, [[.own 10201 0]], false, true, false⟩), (10200, ⟨0, 23, 1, outr 2000000 z1.length, false, false, false⟩), (10201, ⟨0, 3, 1, List.map cI w3, true, false, false⟩)]) [0, 3, 4] [(37, 10100)] 37 10201 0 w3 rfl rfl rfl rfl rfl rfl rfl (by decide) rfl ⟨rfl, rfl, rfl, rfl⟩ rfl rfl⟩
    · replace h := iteF h c1
      refine Ev.exit ?_
      refine Ev.seq ?_
      refine Ev.seq ?_
      refine W.reg hm ?_
      refine W.mv rfl ?_
      refine W.nil ?_
      refine Ev.block ?_
      refine Ev.loopW (β := Nat × (List (List Int)) × Int) (fun v => ⟨[(0, .list 1 (List.map (cL 1 cI) a0)), (3, .own 10200 0), (7, .int .i64 v.2.2)], [(10200, ⟨0, 23, 1, outr 2000000 v.2.1.length, false, false, false⟩)] ++ fam 2000000 3 1 cI v.2.1, 2⟩) (fun v => ref6_Distance_l3 n a0 v.1 v.2.1 v.2.2 = some r) (fun v => v.1) (n, z1, 0) (Wk.nrmF0 (B := 2000000) (elem := 3) (sz := 1) (xss := z1) (c := cI) (L := [(10100, ⟨0, 23, 1, outr 2000000 z1.length, false, false, false⟩)]) [0, 3, 7] [(10100, 10200)] 10100 rfl rfl rfl rfl rfl rfl rfl rfl) h ?_
      intro ⟨m3, z13, x14⟩ h
      try dsimp only at h ⊢
      cases m3 with
      | zero => rw [ref6_Distance_l3] at h; cases h
      | succ m3 =>
        rw [ref6_Distance_l3] at h
        refine Ev.seq ?_
        refine Ev.seq ?_
        refine W.reg hm ?_
        refine W.mv rfl ?_
        refine W.mv rfl ?_
        refine W.lenL (c := (cL 1 cI)) rfl ?_
        refine W.lss rfl rfl ?_
        refine W.nil ?_
        refine Ev.cond rfl (fun c11 => ?_) (fun c11 => ?_)
        · replace h := iteT h c11
          refine Ev.skip ?_
          refine Ev.seq ?_
          refine Ev.block ?_
          refine Ev.seq ?_
          refine W.reg hm ?_
          refine W.mv rfl ?_
          refine W.nil ?_
          refine Ev.block ?_
          refine Ev.loopW (β := Nat × (List (List Int)) × Int) (fun v => ⟨[(0, .list 1 (List.map (cL 1 cI) a0)), (3, .own 10300 0), (7, .int .i64 x14), (8, .int .i64 v.2.2)], [(10300, ⟨0, 23, 1, outr 2000000 v.2.1.length, false, false, false⟩)] ++ fam 2000000 3 1 cI v.2.1, 2⟩) (fun v => ref6_Distance_l4 n a0 x14 (ref6_Distance_l3 n a0 m3) v.1 v.2.1 v.2.2 = some r) (fun v => v.1) (n, z13, 0) (Wk.nrmF0 (B := 2000000) (elem := 3) (sz := 1) (xss := z13) (c := cI) (L := [(10200, ⟨0, 23, 1, outr 2000000 z13.length, false, false, false⟩)]) [0, 3, 7, 8] [(10200, 10300)] 10200 rfl rfl rfl rfl rfl rfl rfl rfl) h ?_
          intro ⟨m4, z15, x16⟩ h
          try dsimp only at h ⊢
          cases m4 with
          | zero => rw [ref6_Distance_l4] at h; cases h
          | succ m4 =>
            rw [ref6_Distance_l4] at h
            refine Ev.seq ?_
            refine Ev.seq ?_
            refine W.reg hm ?_
            refine W.mv rfl ?_
            refine W.mv rfl ?_
            refine W.lenL (c := (cL 1 cI)) rfl ?_
            refine W.lss rfl rfl ?_
            refine W.nil ?_
            refine Ev.cond rfl (fun c12 => ?_) (fun c12 => ?_)
            · replace h := iteT h c12
              refine Ev.skip ?_
              refine Ev.seq ?_
              refine Ev.block ?_
              refine Ev.seq ?_
              refine W.reg hm ?_
              refine W.mv rfl ?_
              refine W.nil ?_
              refine Ev.block ?_
              refine Ev.loopW (β := Nat × (List (List Int)) × Int) (fun v => ⟨[(0, .list 1 (List.map (cL 1 cI) a0)), (3, .own 10400 0), (7, .int .i64 x14), (8, .int .i64 x16), (9, .int .i64 v.2.2)], [(10400, ⟨0, 23, 1, outr 2000000 v.2.1.length, false, false, false⟩)] ++ fam 2000000 3 1 cI v.2.1, 2⟩) (fun v => ref6_Distance_l5 n a0 x14 x16 (ref6_Distance_l4 n a0 x14 (ref6_Distance_l3 n a0 m3) m4) v.1 v.2.1 v.2.2 = some r) (fun v => v.1) (n, z15, 0) (Wk.nrmF0 (B := 2000000) (elem := 3) (sz := 1) (xss := z15) (c := cI) (L := [(10300, ⟨0, 23, 1, outr 2000000 z15.length, false, false, false⟩)]) [0, 3, 7, 8, 9] [(10300, 10400)] 10300 rfl rfl rfl rfl rfl rfl rfl rfl) h ?_
              intro ⟨m5, z17, x18⟩ h
              try dsimp only at h ⊢
              cases m5 with
              | zero => rw [ref6_Distance_l5] at h; cases h
              | succ m5 =>
                rw [ref6_Distance_l5] at h
                refine Ev.seq ?_
                refine Ev.seq ?_
                refine W.reg hm ?_
                refine W.mv rfl ?_
                refine W.mv rfl ?_
                refine W.lenL (c := (cL 1 cI)) rfl ?_
                refine W.lss rfl rfl ?_
                refine W.nil ?_
                refine Ev.cond rfl (fun c13 => ?_) (fun c13 => ?_)
                · replace h := iteT h c13
                  refine Ev.skip ?_
                  refine Ev.seqJ (γ := List (List Int)) (fun v => ⟨[(0, .list 1 (List.map (cL 1 cI) a0)), (3, .own 10500 0), (7, .int .i64 x14), (8, .int .i64 x16), (9, .int .i64 x18)], [(10500, ⟨0, 23, 1, outr 2000000 v.length, false, false, false⟩)] ++ fam 2000000 3 1 cI v, 2⟩) (fun v => ref6_Distance_j2 n x18 (ref6_Distance_l5 n a0 x14 x16 (ref6_Distance_l4 n a0 x14 (ref6_Distance_l3 n a0 m3) m4) m5) v = some r) ?_ ?_
                  · refine Ev.block ?_
                    refine Ev.seq ?_
                    refine W.regD hm ?_
                    refine W.mv rfl ?_
                    refine W.mv rfl ?_
                    obtain ⟨q21, k15, h⟩ := obind h
                    refine W.idxFO (B := 2000000) rfl rfl rfl rfl rfl k15 ?_
                    refine W.loadFO (B := 2000000) rfl rfl rfl (gidx_some k15).2 ?_
                    refine W.mv rfl ?_
                    obtain ⟨e22, k16, h⟩ := obind h
                    refine W.idxR (l := q21) (c := cI) rfl rfl (liveF_fam (B := 2000000) (elem := 3) (sz := 1) (c := cI) (by repeat (first | exact .base | refine .cons (by decide) ?_)) (gidx_some k15).2) rfl rfl k16 ?_
                    refine W.loadR (l := q21) (c := cI) (v := e22) (p := .int .i64 e22) rfl (liveF_fam (B := 2000000) (elem := 3) (sz := 1) (c := cI) (by repeat (first | exact .base | refine .cons (by decide) ?_)) (gidx_some k15).2) rfl (gidx_some k16).2 rfl ?_
                    refine W.mv rfl ?_
                    refine W.mv rfl ?_
                    obtain ⟨q23, k17, h⟩ := obind h
                    refine W.idxFO (B := 2000000) rfl rfl rfl rfl rfl k17 ?_
                    refine W.loadFO (B := 2000000) rfl rfl rfl (gidx_some k17).2 ?_
                    refine W.mv rfl ?_
                    obtain ⟨e24, k18, h⟩ := obind h
                    refine W.idxR (l := q23) (c := cI) rfl rfl (liveF_fam (B := 2000000) (elem := 3) (sz := 1) (c := cI) (by repeat (first | exact .base | refine .cons (by decide) ?_)) (gidx_some k17).2) rfl rfl k18 ?_
                    refine W.loadR (l := q23) (c := cI) (v := e24) (p := .int .i64 e24) rfl (liveF_fam (B := 2000000) (elem := 3) (sz := 1) (c := cI) (by repeat (first | exact .base | refine .cons (by decide) ?_)) (gidx_some k17).2) rfl (gidx_some k18).2 rfl ?_
                    obtain ⟨x25, k19, h⟩ := obind h
                    refine W.addG rfl rfl k19 ?_
                    refine W.mv rfl ?_
                    refine W.mv rfl ?_
                    refine W.idxFO (B := 2000000) rfl rfl rfl rfl rfl k15 ?_
                    refine W.loadFO (B := 2000000) rfl rfl rfl (gidx_some k15).2 ?_
                    refine W.mv rfl ?_
                    obtain ⟨e26, k20, h⟩ := obind h
                    refine W.idxR (l := q21) (c := cI) rfl rfl (liveF_fam (B := 2000000) (elem := 3) (sz := 1) (c := cI) (by repeat (first | exact .base | refine .cons (by decide) ?_)) (gidx_some k15).2) rfl rfl k20 ?_
                    refine W.loadR (l := q21) (c := cI) (v := e26) (p := .int .i64 e26) rfl (liveF_fam (B := 2000000) (elem := 3) (sz := 1) (c := cI) (by repeat (first | exact .base | refine .cons (by decide) ?_)) (gidx_some k15).2) rfl (gidx_some k20).2 rfl ?_
                    refine W.lss rfl rfl ?_
                    refine W.nil ⟨rfl, ?_⟩
                    refine Ev.cond rfl (fun c21 => ?_) (fun c21 => ?_)
                    · replace h := iteT h c21
                      refine W.regD hm ?_
                      refine W.mv rfl ?_
                      refine W.mv rfl ?_
                      refine W.idxFO (B := 2000000) rfl rfl rfl rfl rfl k15 ?_
                      refine W.loadFO (B := 2000000) rfl rfl rfl (gidx_some k15).2 ?_
                      refine W.mv rfl ?_
                      refine W.mv rfl ?_
                      refine W.mv rfl ?_
                      refine W.idxFO (B := 2000000) rfl rfl rfl rfl rfl k15 ?_
                      refine W.loadFO (B := 2000000) rfl rfl rfl (gidx_some k15).2 ?_
                      refine W.mv rfl ?_
                      refine W.idxR (l := q21) (c := cI) rfl rfl (liveF_fam (B := 2000000) (elem := 3) (sz := 1) (c := cI) (by repeat (first | exact .base | refine .cons (by decide) ?_)) (gidx_some k15).2) rfl rfl k16 ?_
                      refine W.loadR (l := q21) (c := cI) (v := e22) (p := .int .i64 e22) rfl (liveF_fam (B := 2000000) (elem := 3) (sz := 1) (c := cI) (by repeat (first | exact .base | refine .cons (by decide) ?_)) (gidx_some k15).2) rfl (gidx_some k16).2 rfl ?_
                      refine W.mv rfl ?_
                      refine W.mv rfl ?_
                      refine W.idxFO (B := 2000000) rfl rfl rfl rfl rfl k17 ?_
                      refine W.loadFO (B := 2000000) rfl rfl rfl (gidx_some k17).2 ?_
                      refine W.mv rfl ?_
                      refine W.idxR (l := q23) (c := cI) rfl rfl (liveF_fam (B := 2000000) (elem := 3) (sz := 1) (c := cI) (by repeat (first | exact .base | refine .cons (by decide) ?_)) (gidx_some k17).2) rfl rfl k18 ?_
                      refine W.loadR (l := q23) (c := cI) (v := e24) (p := .int .i64 e24) rfl (liveF_fam (B := 2000000) (elem := 3) (sz := 1) (c := cI) (by repeat (first | exact .base | refine .cons (by decide) ?_)) (gidx_some k17).2) rfl (gidx_some k18).2 rfl ?_
                      obtain ⟨x27, k22, h⟩ := obind h
                      refine W.addG rfl rfl k22 ?_
                      refine W.idxR (l := q21) (c := cI) rfl rfl (liveF_fam (B := 2000000) (elem := 3) (sz := 1) (c := cI) (by repeat (first | exact .base | refine .cons (by decide) ?_)) (gidx_some k15).2) rfl rfl k20 ?_
                      refine W.storeR true (l := q21) (c := cI) (v := e26) (v' := x27) rfl rfl (liveF_fam (B := 2000000) (elem := 3) (sz := 1) (c := cI) (by repeat (first | exact .base | refine .cons (by decide) ?_)) (gidx_some k15).2) rfl (gidx_some k20).2 rfl (Nat.le_of_ble_eq_true rfl) rfl rfl rfl ?_
                      refine W.nil ⟨rfl, ?_⟩
                      exact ⟨(gset z17 x16 (gset q21 x18 x27)), h, (Wk.famSet (B := 2000000) (elem := 3) (sz := 1) (L := [(10400, ⟨0, 23, 1, outr 2000000 z17.length, false, false, false⟩)]) (xss := z17) (xs := (gset q21 x18 x27)) (c := cI) rfl (gidx_lt k15)).trans (Wk.nrmF0 (B := 2000000) (elem := 3) (sz := 1) (xss := (gset z17 x16 (gset q21 x18 x27))) (c := cI) (L := [(10400, ⟨0, 23, 1, outr 2000000 z17.length, false, false, false⟩)]) [0, 3, 7, 8, 9] [(10400, 10500)] 10400 rfl rfl rfl rfl rfl (by simp only [gset, List.length_set]) rfl rfl)⟩
                    · replace h := iteF h c21
                      refine Ev.skip ?_
                      exact ⟨z17, h, Wk.nrmF0 (B := 2000000) (elem := 3) (sz := 1) (xss := z17) (c := cI) (L := [(10400, ⟨0, 23, 1, outr 2000000 z17.length, false, false, false⟩)]) [0, 3, 7, 8, 9] [(10400, 10500)] 10400 rfl rfl rfl rfl rfl rfl rfl rfl⟩
                  · intro z19 h
                    try dsimp only at h ⊢
                    unfold ref6_Distance_j2 at h
                    refine W.reg hm ?_
                    refine W.mv rfl ?_
                    obtain ⟨x20, k14, h⟩ := obind h
                    refine W.addG rfl rfl k14 ?_
                    refine W.mv rfl ?_
                    refine W.nil ?_
                    exact ⟨(m5, z19, x20), h, Nat.lt_succ_self _, Wk.nrmF0 (B := 2000000) (elem := 3) (sz := 1) (xss := z19) (c := cI) (L := [(10500, ⟨0, 23, 1, outr 2000000 z19.length, false, false, false⟩)]) [0, 3, 7, 8, 9] [(10500, 10400)] 10500 rfl rfl rfl rfl rfl rfl rfl rfl⟩
                · replace h := iteF h c13
                  refine Ev.exit ?_
                  refine W.reg hm ?_
                  refine W.mv rfl ?_
                  obtain ⟨x28, k23, h⟩ := obind h
                  refine W.addG rfl rfl k23 ?_
                  refine W.mv rfl ?_
                  refine W.nil ?_
                  exact ⟨(m4, z17, x28), h, Nat.lt_succ_self _, Wk.nrmF0 (B := 2000000) (elem := 3) (sz := 1) (xss := z17) (c := cI) (L := [(10400, ⟨0, 23, 1, outr 2000000 z17.length, false, false, false⟩)]) [0, 3, 7, 8] [(10400, 10300)] 10400 rfl rfl rfl rfl rfl rfl rfl rfl⟩
            · replace h := iteF h c12
              refine Ev.exit ?_
              refine W.reg hm ?_
              refine W.mv rfl ?_
              obtain ⟨x29, k24, h⟩ := obind h
              refine W.addG rfl rfl k24 ?_
              refine W.mv rfl ?_
              refine W.nil ?_
              exact ⟨(m3, z15, x29), h, Nat.lt_succ_self _, Wk.nrmF0 (B := 2000000) (elem := 3) (sz := 1) (xss := z15) (c := cI) (L := [(10300, ⟨0, 23, 1, outr 2000000 z15.length, false, false, false⟩)]) [0, 3, 7] [(10300, 10200)] 10300 rfl rfl rfl rfl rfl rfl rfl rfl⟩
        · replace h := iteF h c11
          refine Ev.exit ?_
          refine Ev.seq ?_
          refine W.reg hm ?_
          refine W.mv rfl ?_
          refine W.mv rfl ?_
          refine W.nil ?_
          refine Ev.weak ?_ (Wk.frzF (B := 2000000) 10200 0 (xss := z13) (elem := 3) (sz := 1) (c := cI) (L := [(10200, ⟨0, 23, 1, outr 2000000 z13.length, false, false, false⟩)]) rfl rfl rfl rfl rfl)
          refine Ev.ret ?_
          injection h with h; subst h
          exact ⟨_, rfl, .refl _⟩

theorem ref6_FirstOnCycle_spec (n : Nat) (a0 : List (List Int)) (r : Int) (h : ref6_FirstOnCycle n a0 = some r) : PSpec Try.prog 13 [.list 1 (List.map (cL 1 cI) a0)] (.int .i64 r) := by
  unfold ref6_FirstOnCycle at h
  refine spec_of Try.c_ref6_FirstOnCycle (by simp) ?_
  unfold Try.l_ref6_FirstOnCycle
  refine Ev.seq ?_
  refine W.reg hm ?_
  refine W.mv rfl ?_
  refine W.nil ?_
  refine Ev.seq ?_
  refine W.reg hm ?_
  refine W.mv rfl ?_
  obtain ⟨r1, k1, h⟩ := obind h
  refine W.call (ref6_Distance_spec n a0 r1 k1) rfl rfl (Les.refl _) rfl (.inl rfl) rfl ?_
  refine W.mv rfl ?_
  refine W.nil ?_
  refine Ev.seq ?_
  refine Ev.seq ?_
  refine W.reg hm ?_
  refine W.mv rfl ?_
  refine W.nil ?_
  refine Ev.block ?_
  refine Ev.loopW (β := Nat × Int) (fun v => ⟨[(0, .list 1 (List.map (cL 1 cI) a0)), (3, .list 1 (List.map (cL 1 cI) r1)), (4, .int .i64 v.2)], [], 2⟩) (fun v => ref6_FirstOnCycle_l1 n a0 r1 v.1 v.2 = some r) (fun v => v.1) (n, 0) (Wk.nrmTo [0, 3, 4] [] rfl rfl) h ?_
  intro ⟨m1, x2⟩ h
  try dsimp only at h ⊢
  cases m1 with
  | zero => rw [ref6_FirstOnCycle_l1] at h; cases h
  | succ m1 =>
    rw [ref6_FirstOnCycle_l1] at h
    refine Ev.seq ?_
    refine Ev.seq ?_
    refine W.reg hm ?_
    refine W.mv rfl ?_
    refine W.mv rfl ?_
    refine W.lenL (c := (cL 1 cI)) rfl ?_
    refine W.lss rfl rfl ?_
    refine W.nil ?_
    refine Ev.cond rfl (fun c2 => ?_) (fun c2 => ?_)
    · replace h := iteT h c2
      refine Ev.skip ?_
      refine Ev.seq ?_
      refine Ev.block ?_
      refine Ev.seq ?_
      refine W.reg hm ?_
      refine W.mv rfl ?_
      refine W.mv rfl ?_
      obtain ⟨e3, k3, h⟩ := obind h
      refine W.idxL (c := (cL 1 cI)) rfl rfl k3 ?_
      refine W.load rfl rfl ?_
      refine W.mv rfl ?_
      obtain ⟨e4, k4, h⟩ := obind h
      refine W.idxL (c := cI) rfl rfl k4 ?_
      refine W.load rfl rfl ?_
      refine W.lss rfl rfl ?_
      refine W.nil ?_
      refine Ev.cond rfl (fun c5 => ?_) (fun c5 => ?_)
      · replace h := iteT h c5
        refine Ev.seq ?_
        refine W.reg hm ?_
        refine W.mv rfl ?_
        refine W.mv rfl ?_
        refine W.nil ?_
        refine Ev.ret ?_
        injection h with h; subst h
        exact ⟨_, rfl, .refl _⟩
      · replace h := iteF h c5
        refine Ev.skip ?_
        refine W.reg hm ?_
        refine W.mv rfl ?_
        obtain ⟨x5, k6, h⟩ := obind h
        refine W.addG rfl rfl k6 ?_
        refine W.mv rfl ?_
        refine W.nil ?_
        exact ⟨(m1, x5), h, Nat.lt_succ_self _, Wk.nrmTo [0, 3, 4] [] rfl rfl⟩
    · replace h := iteF h c2
      refine Ev.exit ?_
      refine Ev.seq ?_
      refine W.reg hm ?_
      refine W.mv rfl ?_
      refine W.nil ?_
      refine Ev.ret ?_
      injection h with h; subst h
      exact ⟨_, rfl, .refl _⟩

set_option maxHeartbeats 4000000 in
theorem ref6_ShortestCycle_spec (n : Nat) (a0 : List (List Int)) (a1 : Int) (r : (List Int)) (h : ref6_ShortestCycle n a0 a1 = some r) : PSpec Try.prog 15 [.list 1 (List.map (cL 1 cI) a0), .int .i64 a1] (.list 1 (List.map cI r)) := by
  unfold ref6_ShortestCycle at h
  refine spec_of Try.c_ref6_ShortestCycle (by simp) ?_
  unfold Try.l_ref6_ShortestCycle
  refine Ev.seq ?_
  refine W.reg hm ?_
  refine W.mv rfl ?_
  refine W.nil ?_
  refine Ev.seq ?_
  refine W.reg hm ?_
  refine W.mv rfl ?_
  obtain ⟨r1, k1, h⟩ := obind h
  refine W.call (ref6_Distance_spec n a0 r1 k1) rfl rfl (Les.refl _) rfl (.inl rfl) rfl ?_
  refine W.mv rfl ?_
  refine W.nil ?_
  refine Ev.seq ?_
  refine W.reg hm ?_
  refine W.mv rfl ?_
  refine W.mkSlice (dt := true) (es := [[.int .i64 a1]]) rfl rfl rfl rfl rfl rfl ?_
  refine W.mv rfl ?_
  refine W.nil ?_
  refine Ev.seq ?_
  refine W.reg hm ?_
  refine W.mv rfl ?_
  refine W.mv rfl ?_
  refine W.nil ?_
  refine Ev.seq ?_
  refine Ev.seq ?_
  refine W.reg hm ?_
  refine W.mv rfl ?_
  refine W.mv rfl ?_
  obtain ⟨e2, k2, h⟩ := obind h
  refine W.idxL (c := (cL 1 cI)) rfl rfl k2 ?_
  refine W.load rfl rfl ?_
  refine W.mv rfl ?_
  obtain ⟨e3, k3, h⟩ := obind h
  refine W.idxL (c := cI) rfl rfl k3 ?_
  refine W.load rfl rfl ?_
  obtain ⟨x4, k4, h⟩ := obind h
  refine W.subG rfl rfl k4 ?_
  refine W.mv rfl ?_
  refine W.nil ?_
  refine Ev.block ?_
  refine Ev.loopW (β := Nat × (List Int) × Int × Int) (fun v => ⟨[(0, .list 1 (List.map (cL 1 cI) a0)), (1, .int .i64 a1), (5, .list 1 (List.map (cL 1 cI) r1)), (6, .own 10100 0), (7, .int .i64 v.2.2.1), (8, .int .i64 v.2.2.2)], [(10100, ⟨0, 3, 1, List.map cI v.2.1, true, false, false⟩)], 2⟩) (fun v => ref6_ShortestCycle_l1 n a0 a1 r1 v.1 v.2.1 v.2.2.1 v.2.2.2 = some r) (fun v => v.1) (n, ([a1] : List Int), a1, x4) (Wk.nrmTo [0, 1, 5, 6, 7, 8] [(14, 10100)] rfl rfl) h ?_
  intro ⟨m1, w5, x6, x7⟩ h
  try dsimp only at h ⊢
  cases m1 with
  | zero => rw [ref6_ShortestCycle_l1] at h; cases h
  | succ m1 =>
    rw [ref6_ShortestCycle_l1] at h
    refine Ev.seq ?_
    refine Ev.seq ?_
    refine W.reg hm ?_
    refine W.mv rfl ?_
    refine W.gtr rfl rfl ?_
    refine W.nil ?_
    refine Ev.cond rfl (fun c5 => ?_) (fun c5 => ?_)
    · replace h := iteT h c5
      refine Ev.skip ?_
      refine Ev.seq ?_
      refine Ev.block ?_
      refine Ev.seq ?_
      refine W.reg hm ?_
      refine W.mv rfl ?_
      refine W.nil ?_
      refine Ev.seq ?_
      refine Ev.seq ?_
      refine W.reg hm ?_
      refine W.mv rfl ?_
      refine W.lenL (c := (cL 1 cI)) rfl ?_
      obtain ⟨x8, k6, h⟩ := obind h
      refine W.subG rfl rfl k6 ?_
      refine W.mv rfl ?_
      refine W.nil ?_
      refine Ev.block ?_
      refine Ev.loopW (β := Nat × Int × Int) (fun v => ⟨[(0, .list 1 (List.map (cL 1 cI) a0)), (1, .int .i64 a1), (5, .list 1 (List.map (cL 1 cI) r1)), (6, .own 10200 0), (7, .int .i64 x6), (8, .int .i64 x7), (9, .int .i64 v.2.1), (10, .int .i64 v.2.2)], [(10200, ⟨0, 3, 1, List.map cI w5, true, false, false⟩)], 2⟩) (fun v => ref6_ShortestCycle_l2 n a0 a1 r1 w5 x6 x7 (ref6_ShortestCycle_l1 n a0 a1 r1 m1) v.1 v.2.1 v.2.2 = some r) (fun v => v.1) (n, (-1), x8) (Wk.nrmTo [0, 1, 5, 6, 7, 8, 9, 10] [(10100, 10200)] rfl rfl) h ?_
      intro ⟨m2, x9, x10⟩ h
      try dsimp only at h ⊢
      cases m2 with
      | zero => rw [ref6_ShortestCycle_l2] at h; cases h
      | succ m2 =>
        rw [ref6_ShortestCycle_l2] at h
        refine Ev.seq ?_
        refine Ev.seq ?_
        refine W.reg hm ?_
        refine W.mv rfl ?_
        refine W.geq rfl rfl ?_
        refine W.nil ?_
        refine Ev.cond rfl (fun c7 => ?_) (fun c7 => ?_)
        · replace h := iteT h c7
          refine Ev.skip ?_
          refine Ev.seqJ (γ := Int) (fun v => ⟨[(0, .list 1 (List.map (cL 1 cI) a0)), (1, .int .i64 a1), (5, .list 1 (List.map (cL 1 cI) r1)), (6, .own 10300 0), (7, .int .i64 x6), (8, .int .i64 x7), (9, .int .i64 v), (10, .int .i64 x10)], [(10300, ⟨0, 3, 1, List.map cI w5, true, false, false⟩)], 2⟩) (fun v => ref6_ShortestCycle_j1 n x10 (ref6_ShortestCycle_l2 n a0 a1 r1 w5 x6 x7 (ref6_ShortestCycle_l1 n a0 a1 r1 m1) m2) v = some r) ?_ ?_
          · refine Ev.block ?_
            refine Ev.seqJ (γ := Bool) (fun v => ⟨[(0, .list 1 (List.map (cL 1 cI) a0)), (1, .int .i64 a1), (5, .list 1 (List.map (cL 1 cI) r1)), (6, .own 10400 0), (7, .int .i64 x6), (8, .int .i64 x7), (9, .int .i64 x9), (10, .int .i64 x10), (56, .bool v)], [(10400, ⟨0, 3, 1, List.map cI w5, true, false, false⟩)], 2⟩) (fun v => ref6_ShortestCycle_j2 n x9 x10 (ref6_ShortestCycle_l2 n a0 a1 r1 w5 x6 x7 (ref6_ShortestCycle_l1 n a0 a1 r1 m1) m2) v = some r) ?_ ?_
            · refine W.reg hm ?_
              refine W.mv rfl ?_
              refine W.mv rfl ?_
              obtain ⟨e14, k10, h⟩ := obind h
              refine W.idxL (c := (cL 1 cI)) rfl rfl k10 ?_
              refine W.load rfl rfl ?_
              refine W.mv rfl ?_
              obtain ⟨r15, k11, h⟩ := obind h
              refine W.call (ref5_Has_spec n e14 x10 r15 k11) rfl rfl (Les.refl _) rfl (.inl rfl) rfl ?_
              refine W.mv rfl ?_
              refine W.split 41 rfl (fun c12 => ?_) (fun c12 => ?_)
              · replace h := iteT h c12
                refine W.guardT rfl c12 ?_
                refine W.mv rfl ?_
                refine W.guardT rfl c12 ?_
                refine W.mv rfl ?_
                refine W.guardT rfl c12 ?_
                refine W.neq rfl rfl ?_
                refine W.pickT rfl rfl rfl c12 ?_
                refine W.mv rfl ?_
                refine W.split 46 rfl (fun c13 => ?_) (fun c13 => ?_)
                · replace h := iteT h c13
                  refine W.guardT rfl c13 ?_
                  refine W.mv rfl ?_
                  refine W.guardT rfl c13 ?_
                  refine W.mv rfl ?_
                  refine W.guardT rfl c13 ?_
                  obtain ⟨e16, k14, h⟩ := obind h
                  refine W.idxL (c := (cL 1 cI)) rfl rfl k14 ?_
                  refine W.guardT rfl c13 ?_
                  refine W.load rfl rfl ?_
                  refine W.guardT rfl c13 ?_
                  refine W.mv rfl ?_
                  refine W.guardT rfl c13 ?_
                  obtain ⟨e17, k15, h⟩ := obind h
                  refine W.idxL (c := cI) rfl rfl k15 ?_
                  refine W.guardT rfl c13 ?_
                  refine W.load rfl rfl ?_
                  refine W.guardT rfl c13 ?_
                  refine W.mv rfl ?_
                  refine W.guardT rfl c13 ?_
                  refine W.eql rfl rfl ?_
                  refine W.pickT rfl rfl rfl c13 ?_
                  refine W.nil ?_
                  exact ⟨(decide (e17 = x7)), h, Wk.nrmTo [0, 1, 5, 6, 7, 8, 9, 10, 56] [(10200, 10400)] rfl rfl⟩
                · replace h := iteF h c13
                  refine W.guardF1 rfl c13 ?_
                  refine W.guardF1 rfl c13 ?_
                  refine W.guardF1 rfl c13 ?_
                  refine W.guardF1 rfl c13 ?_
                  refine W.guardF1 rfl c13 ?_
                  refine W.guardF1 rfl c13 ?_
                  refine W.guardF1 rfl c13 ?_
                  refine W.guardF1 rfl c13 ?_
                  refine W.guardF1 rfl c13 ?_
                  refine W.pickN rfl rfl rfl c13 ?_
                  refine W.nil ?_
                  exact ⟨false, h, Wk.nrmTo [0, 1, 5, 6, 7, 8, 9, 10, 56] [(10200, 10400)] rfl rfl⟩
              · replace h := iteF h c12
                refine W.guardF1 rfl c12 ?_
                refine W.guardF1 rfl c12 ?_
                refine W.guardF1 rfl c12 ?_
                refine W.pickN rfl rfl rfl c12 ?_
                refine W.mv rfl ?_
                refine W.guardF1 rfl rfl ?_
                refine W.guardF1 rfl rfl ?_
                refine W.guardF1 rfl rfl ?_
                refine W.guardF1 rfl rfl ?_
                refine W.guardF1 rfl rfl ?_
                refine W.guardF1 rfl rfl ?_
                refine W.guardF1 rfl rfl ?_
                refine W.guardF1 rfl rfl ?_
                refine W.guardF1 rfl rfl ?_
                refine W.pickN rfl rfl rfl rfl ?_
                refine W.nil ?_
                exact ⟨false, h, Wk.nrmTo [0, 1, 5, 6, 7, 8, 9, 10, 56] [(10200, 10400)] rfl rfl⟩
            · intro x13 h
              try dsimp only at h ⊢
              unfold ref6_ShortestCycle_j2 at h
              refine Ev.cond rfl (fun c9 => ?_) (fun c9 => ?_)
              · replace h := iteT h c9
                refine W.reg hm ?_
                refine W.mv rfl ?_
                refine W.mv rfl ?_
                refine W.nil ?_
                exact ⟨x10, h, Wk.nrmTo [0, 1, 5, 6, 7, 8, 9, 10] [(10400, 10300)] rfl rfl⟩
              · replace h := iteF h c9
                refine Ev.skip ?_
                exact ⟨x9, h, Wk.nrmTo [0, 1, 5, 6, 7, 8, 9, 10] [(10400, 10300)] rfl rfl⟩
          · intro x11 h
            try dsimp only at h ⊢
            unfold ref6_ShortestCycle_j1 at h
            refine W.reg hm ?_
            refine W.mv rfl ?_
            obtain ⟨x12, k8, h⟩ := obind h
            refine W.subG rfl rfl k8 ?_
            refine W.mv rfl ?_
            refine W.nil ?_
            exact ⟨(m2, x11, x12), h, Nat.lt_succ_self _, Wk.nrmTo [0, 1, 5, 6, 7, 8, 9, 10] [(10300, 10200)] rfl rfl⟩
        · replace h := iteF h c7
          refine Ev.exit ?_
          refine Ev.seq ?_
          refine W.reg hm ?_
          refine W.mv rfl ?_
          refine W.mv rfl ?_
          refine W.mkSlice (dt := true) (es := [[.int .i64 x9]]) rfl rfl rfl rfl rfl rfl ?_
          obtain ⟨w18, k16, h⟩ := obind h
          refine W.appR true (l := w5) (c := cI) (ys := ([x9] : List Int)) rfl rfl rfl rfl rfl rfl rfl rfl k16 rfl (by simp) ?_
          refine W.mv rfl ?_
          refine W.nil ?_
          refine W.reg hm ?_
          refine W.mv rfl ?_
          refine W.mv rfl ?_
          refine W.nil ?_
          refine W.reg hm ?_
          refine W.mv rfl ?_
          obtain ⟨x19, k17, h⟩ := obind h
          refine W.subG rfl rfl k17 ?_
          refine W.mv rfl ?_
          refine W.nil ?_
          exact ⟨(m1, w18, x9, x19), h, Nat.lt_succ_self _, Wk.nrmTo [0, 1, 5, 6, 7, 8] [(61, 10100)] rfl rfl⟩
    · replace h := iteF h c5
      refine Ev.exit ?_
      refine Ev.seq ?_
      refine W.reg hm ?_
      refine W.mv rfl ?_
      refine W.mv rfl ?_
      refine W.nil ?_
      refine Ev.ret ?_
      injection h with h; subst h
      exact ⟨_, rfl, .refl _⟩

theorem ref6_ChangedFault_spec (n : Nat) (a0 : List (List Int)) (a1 : List Int) (r : SCodeIndex) (h : ref6_ChangedFault n a0 a1 = some r) : PSpec Try.prog 16 [.list 1 (List.map (cL 1 cI) a0), .list 1 (List.map cI a1)] (.agg (SCodeIndex.cells r)) := by
  unfold ref6_ChangedFault at h
  refine spec_of Try.c_ref6_ChangedFault (by simp) ?_
  unfold Try.l_ref6_ChangedFault
  refine Ev.seq ?_
  refine W.reg hm ?_
  refine W.alloc (dt := true) rfl rfl rfl ?_
  refine W.nil ?_
  refine Ev.seq ?_
  refine W.reg hm ?_
  refine W.mv rfl ?_
  obtain ⟨r1, k1, h⟩ := obind h
  refine W.call (ref6_GraphFault_spec n a0 r1 k1) rfl rfl (Les.refl _) rfl (.inl rfl) rfl ?_
  refine W.alloc (dt := true) rfl rfl rfl ?_
  refine W.store (es' := [[.int .i64 r1.Code, .int .i64 r1.Index]]) (dt := true) rfl rfl rfl rfl rfl (Nat.le_of_ble_eq_true rfl) rfl rfl rfl rfl ?_
  refine W.nil ?_
  refine Ev.seqJ (γ := Int × Int) (fun v => ⟨[(4, .pown 10100 0 0 0), (5, .pown 10101 0 0 0)], [(10100, ⟨0, 25, 2, [[.int .i64 0, .int .i64 0]], true, false, false⟩), (10101, ⟨0, 25, 2, [[.int .i64 v.1, .int .i64 v.2]], true, false, false⟩)], 2⟩) (fun v => ref6_ChangedFault_j1 n v.1 v.2 = some r) ?_ ?_
  · refine Ev.seq ?_
    refine W.reg hm ?_
    refine W.fieldAddrO rfl rfl ?_
    refine W.loadO (p := .int .i64 r1.Code) rfl rfl rfl rfl ?_
    refine W.eql rfl rfl ?_
    refine W.nil ?_
    refine Ev.cond rfl (fun c2 => ?_) (fun c2 => ?_)
    · replace h := iteT h c2
      refine Ev.seq ?_
      refine W.reg hm ?_
      refine W.mv rfl ?_
      refine W.lenL (c := (cL 1 cI)) rfl ?_
      refine W.mv rfl ?_
      obtain ⟨r4, k3, h⟩ := obind h
      refine W.call (ref6_nodesCode_spec n (a0.length : Int) a1 r4 k3) rfl rfl (Les.refl _) rfl (.inl rfl) rfl ?_
      refine W.mv rfl ?_
      refine W.nil ?_
      refine Ev.seq ?_
      refine W.reg hm ?_
      refine W.mv rfl ?_
      refine W.neq rfl rfl ?_
      refine W.nil ?_
      refine Ev.cond rfl (fun c4 => ?_) (fun c4 => ?_)
      · replace h := iteT h c4
        refine W.reg hm ?_
        refine W.mv rfl ?_
        obtain ⟨r5, k5, h⟩ := obind h
        refine W.call (ref6_fault_spec n r4 (-2) r5 k5) rfl rfl (Les.refl _) rfl (.inl rfl) rfl ?_
        refine W.store (es' := [[.int .i64 r5.Code, .int .i64 r5.Index]]) (dt := true) rfl rfl rfl rfl rfl (Nat.le_of_ble_eq_true rfl) rfl rfl rfl rfl ?_
        refine W.nil ?_
        exact ⟨(r5.Code, r5.Index), h, Wk.nrmTo [4, 5] [(4, 10100), (5, 10101)] rfl rfl⟩
      · replace h := iteF h c4
        refine Ev.skip ?_
        exact ⟨(r1.Code, r1.Index), h, Wk.nrmTo [4, 5] [(4, 10100), (5, 10101)] rfl rfl⟩
    · replace h := iteF h c2
      refine Ev.skip ?_
      exact ⟨(r1.Code, r1.Index), h, Wk.nrmTo [4, 5] [(4, 10100), (5, 10101)] rfl rfl⟩
  · intro ⟨b2, b3⟩ h
    try dsimp only at h ⊢
    unfold ref6_ChangedFault_j1 at h
    refine Ev.seq ?_
    refine W.reg hm ?_
    refine W.loadO (p := .agg [.int .i64 b2, .int .i64 b3]) rfl rfl rfl rfl ?_
    refine W.store (es' := [[.int .i64 b2, .int .i64 b3]]) (dt := true) rfl rfl rfl rfl rfl (Nat.le_of_ble_eq_true rfl) rfl rfl rfl rfl ?_
    refine W.nil ?_
    refine Ev.ret ?_
    injection h with h; subst h
    exact ⟨_, rfl, .refl _⟩
end Go.Proofs.Ytpbfobgbpdbiaaa
