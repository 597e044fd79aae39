/- The functions compute what the texts of D say. Laid by a program (wip/gen/dec.py). -/
import Derived.Test.YthnneojommdhjaaD
import Derived.Test.YthnneojommdhjaaC
namespace Go.Proofs.Ythnneojommdhjaa
open Go.PW Go
theorem workers_fill_spec (n : Nat) (a0 : Int) (a1 : Int) (r : (List Int)) (h : workers_fill n a0 a1 = some r) : PMut Try.prog 28 [.int .i64 a0, .int .i64 a1] [] (.own 70000 0) [(70000, ⟨0, 3, 1, List.map cI r, true, false, false⟩)] := by
  unfold workers_fill at h
  refine specMut_of Try.c_workers_fill (by simp) (by simp) ?_
  unfold Try.l_workers_fill
  refine Ev.seq ?_
  refine W.reg hm ?_
  refine W.mv rfl ?_
  refine W.nil ?_
  refine Ev.seq ?_
  refine W.reg hm ?_
  refine W.mv rfl ?_
  obtain ⟨w1, k1, h⟩ := obind h
  refine W.makeG true (c := cI) rfl rfl k1 rfl rfl ?_
  refine W.mv rfl ?_
  refine W.nil ?_
  refine Ev.seq ?_
  refine Ev.seq ?_
  refine W.reg hm ?_
  refine W.mv rfl ?_
  refine W.lenO (l := w1) (c := cI) rfl rfl rfl ?_
  refine W.mv rfl ?_
  refine W.nil ?_
  refine Ev.block ?_
  refine Ev.loopW (β := Nat × (List Int) × Int) (fun v => ⟨[(1, .int .i64 a1), (5, .own 10100 0), (10, .int .i64 (w1.length : Int)), (11, .int .i64 v.2.2)], [(10100, ⟨0, 3, 1, List.map cI v.2.1, true, false, false⟩)], 2⟩) (fun v => workers_fill_l1 n a1 w1 v.1 v.2.1 v.2.2 = some r) (fun v => v.1) (n, w1, 0) (Wk.nrmTo [1, 5, 10, 11] [(8, 10100)] rfl rfl) h ?_
  intro ⟨m1, w2, x3⟩ h
  try dsimp only at h ⊢
  cases m1 with
  | zero => rw [workers_fill_l1] at h; cases h
  | succ m1 =>
    rw [workers_fill_l1] at h
    refine Ev.seq ?_
    refine W.reg hm ?_
    refine W.lss rfl rfl ?_
    refine W.nil ?_
    refine Ev.seq ?_
    refine Ev.cond rfl (fun c2 => ?_) (fun c2 => ?_)
    · replace h := iteT h c2
      refine Ev.skip ?_
      refine Ev.seq ?_
      refine Ev.block ?_
      refine Ev.seq ?_
      refine W.reg hm ?_
      refine W.mv rfl ?_
      refine W.mv rfl ?_
      refine W.nil ?_
      refine W.reg hm ?_
      refine W.mv rfl ?_
      refine W.mv rfl ?_
      refine W.mv rfl ?_
      obtain ⟨e4, k3, h⟩ := obind h
      refine W.idxR (l := w2) (c := cI) rfl rfl rfl rfl rfl k3 ?_
      refine W.storeR true (l := w2) (c := cI) (v := e4) (v' := a1) rfl rfl rfl rfl (gidx_some k3).2 rfl (Nat.le_of_ble_eq_true rfl) rfl rfl rfl ?_
      refine W.nil ?_
      refine W.reg hm ?_
      obtain ⟨x5, k4, h⟩ := obind h
      refine W.addG rfl rfl k4 ?_
      refine W.mv rfl ?_
      refine W.nil ?_
      exact ⟨(m1, (gset w2 x3 a1), x5), h, Nat.lt_succ_self _, Wk.nrmTo [1, 5, 10, 11] [(10100, 10100)] rfl rfl⟩
    · replace h := iteF h c2
      refine Ev.exit ?_
      refine Ev.seq ?_
      refine W.reg hm ?_
      refine W.mv rfl ?_
      refine W.mv rfl ?_
      refine W.nil ?_
      refine Ev.ret ?_
      injection h with h; subst h
      exact ⟨_, _, Wk.nrmTo [4] [(10100, 70000)] rfl rfl, rfl, rfl, rfl, .refl _, fun nm h => by simp [PW.look] at h⟩

theorem workers_play_spec (n : Nat) (a0 : Int) (a1 : Int) (a2 : Int) (a3 : List SKindWorkerJobValue) (r : ((Option SNeedStateReportsValues) × SCodeIndex)) (h : workers_play n a0 a1 a2 a3 = some r) : PSpec Try.prog 26 [.int .i64 a0, .int .i64 a1, .int .i64 a2, .list 4 (List.map SKindWorkerJobValue.cells a3)] (.tup [pptr SNeedStateReportsValues.cells r.1, .agg (SCodeIndex.cells r.2)]) := by
  unfold workers_play at h
  refine spec_of Try.c_workers_play (by simp) ?_
  unfold Try.l_workers_play
  refine Ev.seq ?_
  refine W.reg hm ?_
  refine W.mv rfl ?_
  refine W.alloc (dt := true) rfl rfl rfl ?_
  refine W.nil ?_
  refine Ev.seq ?_
  refine Ev.seqJ (γ := Bool) (fun v => ⟨[(0, .int .i64 a0), (1, .int .i64 a1), (2, .int .i64 a2), (3, .list 4 (List.map SKindWorkerJobValue.cells a3)), (9, .pown 10100 0 0 0), (36, .bool v)], [(10100, ⟨0, 25, 2, [[.int .i64 0, .int .i64 0]], true, false, false⟩)], 2⟩) (fun v => workers_play_j1 n a0 a1 a2 a3 v = some r) ?_ ?_
  · refine W.reg hm ?_
    refine W.mv rfl ?_
    refine W.lss rfl rfl ?_
    refine W.mv rfl ?_
    refine W.split 16 rfl (fun c54 => ?_) (fun c54 => ?_)
    · replace h := iteT h c54
      refine W.guardF2 rfl c54 ?_
      refine W.guardF2 rfl c54 ?_
      refine W.pickT rfl rfl rfl c54 ?_
      refine W.mv rfl ?_
      refine W.guardF2 rfl rfl ?_
      refine W.guardF2 rfl rfl ?_
      refine W.pickT rfl rfl rfl rfl ?_
      refine W.mv rfl ?_
      refine W.guardF2 rfl rfl ?_
      refine W.guardF2 rfl rfl ?_
      refine W.pickT rfl rfl rfl rfl ?_
      refine W.mv rfl ?_
      refine W.guardF2 rfl rfl ?_
      refine W.guardF2 rfl rfl ?_
      refine W.pickT rfl rfl rfl rfl ?_
      refine W.mv rfl ?_
      refine W.guardF2 rfl rfl ?_
      refine W.guardF2 rfl rfl ?_
      refine W.guardF2 rfl rfl ?_
      refine W.pickT rfl rfl rfl rfl ?_
      refine W.nil ?_
      exact ⟨true, h, Wk.nrmTo [0, 1, 2, 3, 9, 36] [(9, 10100)] rfl rfl⟩
    · replace h := iteF h c54
      refine W.guardT rfl c54 ?_
      refine W.mv rfl ?_
      refine W.guardT rfl c54 ?_
      refine W.gtr rfl rfl ?_
      refine W.pickN rfl rfl rfl c54 ?_
      refine W.mv rfl ?_
      refine W.split 20 rfl (fun c55 => ?_) (fun c55 => ?_)
      · replace h := iteT h c55
        refine W.guardF2 rfl c55 ?_
        refine W.guardF2 rfl c55 ?_
        refine W.pickT rfl rfl rfl c55 ?_
        refine W.mv rfl ?_
        refine W.guardF2 rfl rfl ?_
        refine W.guardF2 rfl rfl ?_
        refine W.pickT rfl rfl rfl rfl ?_
        refine W.mv rfl ?_
        refine W.guardF2 rfl rfl ?_
        refine W.guardF2 rfl rfl ?_
        refine W.pickT rfl rfl rfl rfl ?_
        refine W.mv rfl ?_
        refine W.guardF2 rfl rfl ?_
        refine W.guardF2 rfl rfl ?_
        refine W.guardF2 rfl rfl ?_
        refine W.pickT rfl rfl rfl rfl ?_
        refine W.nil ?_
        exact ⟨true, h, Wk.nrmTo [0, 1, 2, 3, 9, 36] [(9, 10100)] rfl rfl⟩
      · replace h := iteF h c55
        refine W.guardT rfl c55 ?_
        refine W.mv rfl ?_
        refine W.guardT rfl c55 ?_
        refine W.lss rfl rfl ?_
        refine W.pickN rfl rfl rfl c55 ?_
        refine W.mv rfl ?_
        refine W.split 24 rfl (fun c56 => ?_) (fun c56 => ?_)
        · replace h := iteT h c56
          refine W.guardF2 rfl c56 ?_
          refine W.guardF2 rfl c56 ?_
          refine W.pickT rfl rfl rfl c56 ?_
          refine W.mv rfl ?_
          refine W.guardF2 rfl rfl ?_
          refine W.guardF2 rfl rfl ?_
          refine W.pickT rfl rfl rfl rfl ?_
          refine W.mv rfl ?_
          refine W.guardF2 rfl rfl ?_
          refine W.guardF2 rfl rfl ?_
          refine W.guardF2 rfl rfl ?_
          refine W.pickT rfl rfl rfl rfl ?_
          refine W.nil ?_
          exact ⟨true, h, Wk.nrmTo [0, 1, 2, 3, 9, 36] [(9, 10100)] rfl rfl⟩
        · replace h := iteF h c56
          refine W.guardT rfl c56 ?_
          refine W.mv rfl ?_
          refine W.guardT rfl c56 ?_
          refine W.gtr rfl rfl ?_
          refine W.pickN rfl rfl rfl c56 ?_
          refine W.mv rfl ?_
          refine W.split 28 rfl (fun c57 => ?_) (fun c57 => ?_)
          · replace h := iteT h c57
            refine W.guardF2 rfl c57 ?_
            refine W.guardF2 rfl c57 ?_
            refine W.pickT rfl rfl rfl c57 ?_
            refine W.mv rfl ?_
            refine W.guardF2 rfl rfl ?_
            refine W.guardF2 rfl rfl ?_
            refine W.guardF2 rfl rfl ?_
            refine W.pickT rfl rfl rfl rfl ?_
            refine W.nil ?_
            exact ⟨true, h, Wk.nrmTo [0, 1, 2, 3, 9, 36] [(9, 10100)] rfl rfl⟩
          · replace h := iteF h c57
            refine W.guardT rfl c57 ?_
            refine W.mv rfl ?_
            refine W.guardT rfl c57 ?_
            refine W.lss rfl rfl ?_
            refine W.pickN rfl rfl rfl c57 ?_
            refine W.mv rfl ?_
            refine W.split 32 rfl (fun c58 => ?_) (fun c58 => ?_)
            · replace h := iteT h c58
              refine W.guardF2 rfl c58 ?_
              refine W.guardF2 rfl c58 ?_
              refine W.guardF2 rfl c58 ?_
              refine W.pickT rfl rfl rfl c58 ?_
              refine W.nil ?_
              exact ⟨true, h, Wk.nrmTo [0, 1, 2, 3, 9, 36] [(9, 10100)] rfl rfl⟩
            · replace h := iteF h c58
              refine W.guardT rfl c58 ?_
              refine W.mv rfl ?_
              refine W.guardT rfl c58 ?_
              refine W.mv rfl ?_
              refine W.guardT rfl c58 ?_
              refine W.gtr rfl rfl ?_
              refine W.pickN rfl rfl rfl c58 ?_
              refine W.nil ?_
              exact ⟨(decide (a1 < a2)), h, Wk.nrmTo [0, 1, 2, 3, 9, 36] [(9, 10100)] rfl rfl⟩
  · intro x1 h
    try dsimp only at h ⊢
    unfold workers_play_j1 at h
    refine Ev.cond rfl (fun c1 => ?_) (fun c1 => ?_)
    · replace h := iteT h c1
      refine Ev.seq ?_
      refine W.reg hm ?_
      refine W.build (cs := [.int .i64 3, .int .i64 (-1)]) rfl rfl rfl ?_
      refine W.mv rfl ?_
      refine W.store (es' := [[.int .i64 3, .int .i64 (-1)]]) (dt := true) rfl rfl rfl rfl rfl (Nat.le_of_ble_eq_true rfl) rfl rfl rfl rfl ?_
      refine W.nil ?_
      refine Ev.ret ?_
      injection h with h; subst h
      exact ⟨_, rfl, .refl _⟩
    · replace h := iteF h c1
      refine Ev.skip ?_
      refine Ev.seq ?_
      refine Ev.seq ?_
      refine W.reg hm ?_
      refine W.mv rfl ?_
      refine W.lenL (c := SKindWorkerJobValue.cells) rfl ?_
      refine W.gtr rfl rfl ?_
      refine W.nil ?_
      refine Ev.cond rfl (fun c2 => ?_) (fun c2 => ?_)
      · replace h := iteT h c2
        refine Ev.seq ?_
        refine W.reg hm ?_
        refine W.build (cs := [.int .i64 2, .int .i64 (-1)]) rfl rfl rfl ?_
        refine W.mv rfl ?_
        refine W.store (es' := [[.int .i64 2, .int .i64 (-1)]]) (dt := true) rfl rfl rfl rfl rfl (Nat.le_of_ble_eq_true rfl) rfl rfl rfl rfl ?_
        refine W.nil ?_
        refine Ev.ret ?_
        injection h with h; subst h
        exact ⟨_, rfl, .refl _⟩
      · replace h := iteF h c2
        refine Ev.skip ?_
        refine Ev.seq ?_
        refine W.reg hm ?_
        refine W.mv rfl ?_
        refine W.mv rfl ?_
        obtain ⟨r2, k3, h⟩ := obind h
        refine W.callO (workers_fill_spec n a1 (-1) r2 k3) rfl (Les.refl _) rfl rfl rfl ?_
        refine W.mv rfl ?_
        obtain ⟨r3, k4, h⟩ := obind h
        refine W.callO (workers_fill_spec n a0 (-1) r3 k4) rfl (Les.refl _) rfl rfl rfl ?_
        refine W.build (cs := [.int .i64 a2, .own 44 2, .nils, .own 46 2]) rfl rfl rfl ?_
        refine W.box (dt := false) (cs := [.int .i64 a2, .own 44 2, .nils, .own 46 2]) rfl rfl rfl rfl rfl rfl ?_
        refine W.mv rfl ?_
        refine W.nil ?_
        refine Ev.seq ?_
        refine Ev.seq ?_
        refine W.reg hm ?_
        refine W.mv rfl ?_
        refine W.mv rfl ?_
        refine W.nil ?_
        refine Ev.block ?_
        refine Ev.loopW (β := Nat × (List (List Int)) × Int) (fun v => ⟨[(1, .int .i64 a1), (3, .list 4 (List.map SKindWorkerJobValue.cells a3)), (9, .pown 10200 0 0 0), (10, .pown 10201 0 0 0), (49, .int .i64 a0), (50, .int .i64 v.2.2)], [(10200, ⟨0, 25, 2, [[.int .i64 0, .int .i64 0]], true, false, false⟩), (10201, ⟨0, 55, 4, [[.int .i64 a2, .own 10202 0, .own 10203 0, .own 10204 0]], false, false, false⟩), (10202, ⟨0, 3, 1, List.map cI r2, true, false, false⟩), (10203, ⟨0, 27, 1, outr 2000000 v.2.1.length, false, false, false⟩), (10204, ⟨0, 3, 1, List.map cI r3, true, false, false⟩)] ++ fam 2000000 3 1 cI v.2.1, 2⟩) (fun v => workers_play_l1 n a0 a1 a2 a3 r2 r3 v.1 v.2.1 v.2.2 = some r) (fun v => v.1) (n, ([] : List (List Int)), 0) ((Wk.ownNilCell 48 2 2 30203 27 1 rfl rfl rfl rfl rfl (by simp) false).trans (Wk.nrmF0 (B := 2000000) (elem := 3) (sz := 1) (xss := ([] : List (List Int))) (c := cI) (L := [(48, ⟨2, 55, 4, [[.int .i64 a2, .own 44 2, .own 30203 2, .own 46 2]], false, true, false⟩), (30203, ⟨2, 27, 1, outr 2000000 ([] : List (List Int)).length, false, true, false⟩), (48, ⟨2, 55, 4, [[.int .i64 a2, .own 44 2, .nils, .own 46 2]], false, true, false⟩), (46, ⟨2, 3, 1, List.map cI r3, true, true, false⟩), (44, ⟨2, 3, 1, List.map cI r2, true, true, false⟩), (10100, ⟨0, 25, 2, [[.int .i64 0, .int .i64 0]], true, false, false⟩)]) [1, 3, 9, 10, 49, 50] [(10100, 10200), (48, 10201), (44, 10202), (30203, 10203), (46, 10204)] 30203 rfl rfl rfl rfl rfl rfl rfl rfl)) h ?_
        intro ⟨m1, z4, x5⟩ h
        try dsimp only at h ⊢
        cases m1 with
        | zero => rw [workers_play_l1] at h; cases h
        | succ m1 =>
          rw [workers_play_l1] at h
          refine Ev.seq ?_
          refine W.reg hm ?_
          refine W.lss rfl rfl ?_
          refine W.nil ?_
          refine Ev.seq ?_
          refine Ev.cond rfl (fun c5 => ?_) (fun c5 => ?_)
          · replace h := iteT h c5
            refine Ev.skip ?_
            refine Ev.seq ?_
            refine Ev.block ?_
            refine W.regD hm ?_
            refine W.mv rfl ?_
            refine W.mv rfl ?_
            refine W.nilCheckO rfl rfl ?_
            refine W.fieldAddrO rfl rfl ?_
            refine W.loadO (p := .own 10203 0) rfl rfl rfl rfl ?_
            refine W.mv rfl ?_
            obtain ⟨r6, k6, h⟩ := obind h
            refine W.callO (workers_fill_spec n a1 (-1) r6 k6) rfl (Les.refl _) rfl (fresh_fam (α := Int) (by repeat (first | exact .base (by decide) | refine .cons (by decide) ?_))) rfl ?_
            refine W.mkSlice (dt := false) (es := [[.own 58 2]]) rfl rfl (fresh_fam (α := Int) (by repeat (first | exact .base (by decide) | refine .cons (by decide) ?_))) rfl rfl rfl ?_
            obtain ⟨w7, k7, h⟩ := obind h
            refine W.appFO (B := 2000000) rfl rfl rfl rfl rfl rfl rfl (fresh_fam (α := Int) (by repeat (first | exact .base (by decide) | refine .cons (by decide) ?_))) k7 rfl (by simp) ?_
            refine W.nilCheckO rfl rfl ?_
            refine W.fieldAddrO rfl rfl ?_
            refine W.store (es' := [[.int .i64 a2, .own 10202 0, .own 60 2, .own 10204 0]]) (dt := false) rfl rfl rfl rfl rfl (Nat.le_of_ble_eq_true rfl) rfl rfl rfl rfl ?_
            refine W.nil ⟨rfl, ?_⟩
            refine W.reg hm ?_
            obtain ⟨x8, k8, h⟩ := obind h
            refine W.addG rfl rfl k8 ?_
            refine W.mv rfl ?_
            refine W.nil ?_
            exact ⟨(m1, (z4 ++ [r6]), x8), h, Nat.lt_succ_self _, Wk.nrmF1 (B := 2000000) (elem := 3) (sz := 1) (xss := z4) (c := cI) (L := [(10201, ⟨0, 55, 4, [[.int .i64 a2, .own 10202 0, .own 60 2, .own 10204 0]], false, false, false⟩), (60, ⟨2, 27, 1, outr 2000000 z4.length ++ [[.own 58 2]], false, true, false⟩), (10203, ⟨0, 27, 1, outr 2000000 z4.length, false, false, true⟩), (59, ⟨2, 27, 1, [[.own 58 2]], false, true, false⟩), (58, ⟨2, 3, 1, List.map cI r6, true, true, false⟩), (10200, ⟨0, 25, 2, [[.int .i64 0, .int .i64 0]], true, false, false⟩), (10201, ⟨0, 55, 4, [[.int .i64 a2, .own 10202 0, .own 10203 0, .own 10204 0]], false, false, false⟩), (10202, ⟨0, 3, 1, List.map cI r2, true, false, false⟩), (10203, ⟨0, 27, 1, outr 2000000 z4.length, false, false, false⟩), (10204, ⟨0, 3, 1, List.map cI r3, true, false, false⟩)]) [1, 3, 9, 10, 49, 50] [(10200, 10200), (10201, 10201), (10202, 10202), (60, 10203), (10204, 10204)] 60 58 2 r6 rfl rfl rfl rfl rfl rfl rfl (by decide) rfl ⟨rfl, rfl, rfl, rfl⟩ rfl rfl⟩
          · replace h := iteF h c5
            refine Ev.exit ?_
            refine Ev.seq ?_
            refine Ev.seq ?_
            refine W.reg hm ?_
            refine W.mv rfl ?_
            refine W.lenL (c := SKindWorkerJobValue.cells) rfl ?_
            refine W.mv rfl ?_
            refine W.nil ?_
            refine Ev.block ?_
            refine Ev.loopW (β := Nat × (List Int) × (List (List Int)) × (List Int) × Int) (fun v => ⟨[(9, .pown 10300 0 0 0), (10, .pown 10301 0 0 0), (64, .list 4 (List.map SKindWorkerJobValue.cells a3)), (65, .int .i64 (a3.length : Int)), (66, .int .i64 v.2.2.2.2)], [(10300, ⟨0, 25, 2, [[.int .i64 0, .int .i64 0]], true, false, false⟩), (10301, ⟨0, 55, 4, [[.int .i64 a2, .own 10302 0, .own 10303 0, .own 10304 0]], false, false, false⟩), (10302, ⟨0, 3, 1, List.map cI v.2.1, true, false, false⟩), (10303, ⟨0, 27, 1, outr 2000000 v.2.2.1.length, false, false, false⟩), (10304, ⟨0, 3, 1, List.map cI v.2.2.2.1, true, false, false⟩)] ++ fam 2000000 3 1 cI v.2.2.1, 2⟩) (fun v => workers_play_l2 n a2 a3 v.1 v.2.1 v.2.2.1 v.2.2.2.1 v.2.2.2.2 = some r) (fun v => v.1) (n, r2, z4, r3, 0) (Wk.nrmF0 (B := 2000000) (elem := 3) (sz := 1) (xss := z4) (c := cI) (L := [(10200, ⟨0, 25, 2, [[.int .i64 0, .int .i64 0]], true, false, false⟩), (10201, ⟨0, 55, 4, [[.int .i64 a2, .own 10202 0, .own 10203 0, .own 10204 0]], false, false, false⟩), (10202, ⟨0, 3, 1, List.map cI r2, true, false, false⟩), (10203, ⟨0, 27, 1, outr 2000000 z4.length, false, false, false⟩), (10204, ⟨0, 3, 1, List.map cI r3, true, false, false⟩)]) [9, 10, 64, 65, 66] [(10200, 10300), (10201, 10301), (10202, 10302), (10203, 10303), (10204, 10304)] 10203 rfl rfl rfl rfl rfl rfl rfl rfl) h ?_
            intro ⟨m2, w9, z10, w11, x12⟩ h
            try dsimp only at h ⊢
            cases m2 with
            | zero => rw [workers_play_l2] at h; cases h
            | succ m2 =>
              rw [workers_play_l2] at h
              refine Ev.seq ?_
              refine W.reg hm ?_
              refine W.lss rfl rfl ?_
              refine W.nil ?_
              refine Ev.seq ?_
              refine Ev.cond rfl (fun c9 => ?_) (fun c9 => ?_)
              · replace h := iteT h c9
                refine Ev.skip ?_
                refine Ev.seq ?_
                refine Ev.block ?_
                refine Ev.seq ?_
                refine W.reg hm ?_
                refine W.mv rfl ?_
                obtain ⟨e13, k10, h⟩ := obind h
                refine W.idxL (c := SKindWorkerJobValue.cells) rfl rfl k10 ?_
                refine W.load rfl rfl ?_
                refine W.alloc (dt := true) (fresh_fam (α := Int) (by repeat (first | exact .base (by decide) | refine .cons (by decide) ?_))) rfl rfl ?_
                refine W.mv rfl ?_
                refine W.store (es' := [[.int .i64 e13.Kind, .int .i64 e13.Worker, .int .i64 e13.Job, .int .i64 e13.Value]]) (dt := true) rfl rfl rfl rfl rfl (Nat.le_of_ble_eq_true rfl) rfl rfl rfl rfl ?_
                refine W.nil ?_
                refine Ev.seq ?_
                refine Ev.weak (st' := ⟨[(9, .pown 10300 0 0 0), (10, .pown 10301 0 0 0), (11, .int .i64 x12), (12, .pown 10305 0 0 0), (64, .list 4 (List.map SKindWorkerJobValue.cells a3)), (65, .int .i64 (a3.length : Int)), (66, .int .i64 x12)], [(10300, ⟨0, 25, 2, [[.int .i64 0, .int .i64 0]], true, false, false⟩), (10301, ⟨0, 55, 4, [[.int .i64 a2, .own 10302 0, .own 10303 0, .own 10304 0]], false, false, false⟩), (10302, ⟨0, 3, 1, List.map cI w9, true, false, false⟩), (10303, ⟨0, 27, 1, outr 2000000 z10.length, false, false, false⟩), (10304, ⟨0, 3, 1, List.map cI w11, true, false, false⟩), (10305, ⟨0, 44, 4, [[.int .i64 e13.Kind, .int .i64 e13.Worker, .int .i64 e13.Job, .int .i64 e13.Value]], true, false, false⟩)] ++ fam 2000000 3 1 cI z10, 2⟩) ?_ (Wk.nrmF0 (B := 2000000) (elem := 3) (sz := 1) (xss := z10) (c := cI) (L := [(12, ⟨2, 44, 4, [[.int .i64 e13.Kind, .int .i64 e13.Worker, .int .i64 e13.Job, .int .i64 e13.Value]], true, true, false⟩), (12, ⟨2, 44, 4, [[.int .i64 0, .int .i64 0, .int .i64 0, .int .i64 0]], true, true, false⟩), (10300, ⟨0, 25, 2, [[.int .i64 0, .int .i64 0]], true, false, false⟩), (10301, ⟨0, 55, 4, [[.int .i64 a2, .own 10302 0, .own 10303 0, .own 10304 0]], false, false, false⟩), (10302, ⟨0, 3, 1, List.map cI w9, true, false, false⟩), (10303, ⟨0, 27, 1, outr 2000000 z10.length, false, false, false⟩), (10304, ⟨0, 3, 1, List.map cI w11, true, false, false⟩)]) [9, 10, 11, 12, 64, 65, 66] [(10300, 10300), (10301, 10301), (10302, 10302), (10303, 10303), (10304, 10304), (12, 10305)] 10303 rfl rfl rfl rfl rfl rfl rfl rfl)
                refine Ev.regCall (i := 2) hm rfl rfl Try.c_workers_farm_step ?_
                refine W.mv rfl ?_
                refine W.loadO (p := .agg [.int .i64 e13.Kind, .int .i64 e13.Worker, .int .i64 e13.Job, .int .i64 e13.Value]) rfl rfl rfl rfl ?_
                refine W.nil ?_
                refine ⟨_, rfl, Nat.le_of_ble_eq_true rfl, ?_⟩
                unfold Try.l_workers_farm_step
                refine Ev.retJ (γ := Int × (List Int) × (List (List Int)) × (List Int)) (fun v => ⟨[(4, .int .i64 v.1), (65545, .pown 10400 0 0 0), (65546, .pown 10401 0 0 0), (65547, .int .i64 x12), (65600, .list 4 (List.map SKindWorkerJobValue.cells a3)), (65601, .int .i64 (a3.length : Int)), (65602, .int .i64 x12)], [(10400, ⟨0, 25, 2, [[.int .i64 0, .int .i64 0]], true, false, false⟩), (10401, ⟨0, 55, 4, [[.int .i64 a2, .own 10402 0, .own 10403 0, .own 10404 0]], false, false, false⟩), (10402, ⟨0, 3, 1, List.map cI v.2.1, true, false, false⟩), (10403, ⟨0, 27, 1, outr 2000000 v.2.2.1.length, false, false, false⟩), (10404, ⟨0, 3, 1, List.map cI v.2.2.2, true, false, false⟩)] ++ fam 2000000 3 1 cI v.2.2.1, 2⟩) (fun v => workers_play_j2 n x12 (workers_play_l2 n a2 a3 m2) v.1 v.2.1 v.2.2.1 v.2.2.2 = some r) ?_ ?_
                · refine Ev.seq ?_
                  refine W.reg hm ?_
                  refine W.box (dt := true) (cs := [.int .i64 e13.Kind, .int .i64 e13.Worker, .int .i64 e13.Job, .int .i64 e13.Value]) rfl (fresh_fam (α := Int) (by repeat (first | exact .base (by decide) | refine .cons (by decide) ?_))) rfl rfl rfl rfl ?_
                  refine W.mv rfl ?_
                  refine W.nil ?_
                  refine Ev.seq ?_
                  refine Ev.seq ?_
                  refine Ev.weak (st' := ⟨[(0, .pown 10400 0 0 0), (3, .pown 10404 0 0 0), (65545, .pown 10405 0 0 0), (65546, .pown 10400 0 0 0), (65547, .int .i64 x12), (65600, .list 4 (List.map SKindWorkerJobValue.cells a3)), (65601, .int .i64 (a3.length : Int)), (65602, .int .i64 x12)], [(10400, ⟨0, 55, 4, [[.int .i64 a2, .own 10401 0, .own 10402 0, .own 10403 0]], false, false, false⟩), (10401, ⟨0, 3, 1, List.map cI w9, true, false, false⟩), (10402, ⟨0, 27, 1, outr 2000000 z10.length, false, false, false⟩), (10403, ⟨0, 3, 1, List.map cI w11, true, false, false⟩), (10404, ⟨0, 44, 4, [[.int .i64 e13.Kind, .int .i64 e13.Worker, .int .i64 e13.Job, .int .i64 e13.Value]], true, false, false⟩), (10405, ⟨0, 25, 2, [[.int .i64 0, .int .i64 0]], true, false, false⟩)] ++ fam 2000000 3 1 cI z10, 2⟩) ?_ (Wk.nrmF0 (B := 2000000) (elem := 3) (sz := 1) (xss := z10) (c := cI) (L := [(3, ⟨2, 44, 4, [[.int .i64 e13.Kind, .int .i64 e13.Worker, .int .i64 e13.Job, .int .i64 e13.Value]], true, true, false⟩), (10300, ⟨0, 25, 2, [[.int .i64 0, .int .i64 0]], true, false, false⟩), (10301, ⟨0, 55, 4, [[.int .i64 a2, .own 10302 0, .own 10303 0, .own 10304 0]], false, false, false⟩), (10302, ⟨0, 3, 1, List.map cI w9, true, false, false⟩), (10303, ⟨0, 27, 1, outr 2000000 z10.length, false, false, false⟩), (10304, ⟨0, 3, 1, List.map cI w11, true, false, false⟩), (10305, ⟨0, 44, 4, [[.int .i64 e13.Kind, .int .i64 e13.Worker, .int .i64 e13.Job, .int .i64 e13.Value]], true, false, false⟩)]) [0, 3, 65545, 65546, 65547, 65600, 65601, 65602] [(10301, 10400), (10302, 10401), (10303, 10402), (10304, 10403), (3, 10404), (10300, 10405)] 10303 rfl rfl rfl rfl rfl rfl rfl rfl)
                  refine Ev.regCall (i := 2) hm rfl rfl Try.c_workers_farm_form ?_
                  refine W.mv rfl ?_
                  refine W.loadO (p := .agg [.int .i64 e13.Kind, .int .i64 e13.Worker, .int .i64 e13.Job, .int .i64 e13.Value]) rfl rfl rfl rfl ?_
                  refine W.nil ?_
                  refine ⟨_, rfl, Nat.le_of_ble_eq_true rfl, ?_⟩
                  unfold Try.l_workers_farm_form
                  refine Ev.retJ (γ := Int) (fun v => ⟨[(4, .int .i64 v), (65536, .pown 10500 0 0 0), (65539, .pown 10504 0 0 0), (131081, .pown 10505 0 0 0), (131082, .pown 10500 0 0 0), (131083, .int .i64 x12), (131136, .list 4 (List.map SKindWorkerJobValue.cells a3)), (131137, .int .i64 (a3.length : Int)), (131138, .int .i64 x12)], [(10500, ⟨0, 55, 4, [[.int .i64 a2, .own 10501 0, .own 10502 0, .own 10503 0]], false, false, false⟩), (10501, ⟨0, 3, 1, List.map cI w9, true, false, false⟩), (10502, ⟨0, 27, 1, outr 2000000 z10.length, false, false, false⟩), (10503, ⟨0, 3, 1, List.map cI w11, true, false, false⟩), (10504, ⟨0, 44, 4, [[.int .i64 e13.Kind, .int .i64 e13.Worker, .int .i64 e13.Job, .int .i64 e13.Value]], true, false, false⟩), (10505, ⟨0, 25, 2, [[.int .i64 0, .int .i64 0]], true, false, false⟩)] ++ fam 2000000 3 1 cI z10, 2⟩) (fun v => workers_play_j3 n a2 w9 z10 w11 x12 (workers_play_l2 n a2 a3 m2) e13 v = some r) ?_ ?_
                  · refine Ev.seq ?_
                    refine W.reg hm ?_
                    refine W.box (dt := true) (cs := [.int .i64 e13.Kind, .int .i64 e13.Worker, .int .i64 e13.Job, .int .i64 e13.Value]) rfl (fresh_fam (α := Int) (by repeat (first | exact .base (by decide) | refine .cons (by decide) ?_))) rfl rfl rfl rfl ?_
                    refine W.mv rfl ?_
                    refine W.nil ?_
                    refine Ev.seq ?_
                    refine W.regD hm ?_
                    refine W.fieldAddrO rfl rfl ?_
                    refine W.loadO (p := .int .i64 e13.Kind) rfl rfl rfl rfl ?_
                    refine W.eql rfl rfl ?_
                    refine W.fieldAddrO rfl rfl ?_
                    refine W.loadO (p := .int .i64 e13.Kind) rfl rfl rfl rfl ?_
                    refine W.eql rfl rfl ?_
                    refine W.mv rfl ?_
                    refine W.mv rfl ?_
                    refine W.nil ⟨rfl, ?_⟩
                    refine Ev.seq ?_
                    refine Ev.block ?_
                    refine Ev.seqJ (γ := Bool) (fun v => ⟨[(0, .pown 10400 0 0 0), (3, .pown 3 2 0 0), (5, .bool (decide (e13.Kind = 1))), (6, .bool (decide (e13.Kind = 2))), (13, .bool v), (65536, .pown 10400 0 0 0), (65539, .pown 10404 0 0 0), (131081, .pown 10405 0 0 0), (131082, .pown 10400 0 0 0), (131083, .int .i64 x12), (131136, .list 4 (List.map SKindWorkerJobValue.cells a3)), (131137, .int .i64 (a3.length : Int)), (131138, .int .i64 x12)], [(3, ⟨2, 44, 4, [[.int .i64 e13.Kind, .int .i64 e13.Worker, .int .i64 e13.Job, .int .i64 e13.Value]], true, true, false⟩), (10400, ⟨0, 55, 4, [[.int .i64 a2, .own 10401 0, .own 10402 0, .own 10403 0]], false, false, false⟩), (10401, ⟨0, 3, 1, List.map cI w9, true, false, false⟩), (10402, ⟨0, 27, 1, outr 2000000 z10.length, false, false, false⟩), (10403, ⟨0, 3, 1, List.map cI w11, true, false, false⟩), (10404, ⟨0, 44, 4, [[.int .i64 e13.Kind, .int .i64 e13.Worker, .int .i64 e13.Job, .int .i64 e13.Value]], true, false, false⟩), (10405, ⟨0, 25, 2, [[.int .i64 0, .int .i64 0]], true, false, false⟩)] ++ fam 2000000 3 1 cI z10, 2⟩) (fun v => workers_play_j8 n a2 w9 z10 w11 x12 (workers_play_l2 n a2 a3 m2) e13 v = some r) ?_ ?_
                    · refine W.reg hm ?_
                      refine W.fieldAddrO rfl rfl ?_
                      refine W.loadO (p := .int .i64 e13.Kind) rfl rfl rfl rfl ?_
                      refine W.lss rfl rfl ?_
                      refine W.mv rfl ?_
                      refine W.split 17 rfl (fun c53 => ?_) (fun c53 => ?_)
                      · replace h := iteT h c53
                        refine W.guardF2 rfl c53 ?_
                        refine W.guardF2 rfl c53 ?_
                        refine W.guardF2 rfl c53 ?_
                        refine W.pickT rfl rfl rfl c53 ?_
                        refine W.mv rfl ?_
                        refine W.nil ?_
                        exact ⟨true, h, Wk.keep [0, 3, 5, 6, 13, 65536, 65539, 131081, 131082, 131083, 131136, 131137, 131138] rfl⟩
                      · replace h := iteF h c53
                        refine W.guardT rfl c53 ?_
                        refine W.fieldAddrO rfl rfl ?_
                        refine W.guardT rfl c53 ?_
                        refine W.loadO (p := .int .i64 e13.Kind) rfl rfl rfl rfl ?_
                        refine W.guardT rfl c53 ?_
                        refine W.gtr rfl rfl ?_
                        refine W.pickN rfl rfl rfl c53 ?_
                        refine W.mv rfl ?_
                        refine W.nil ?_
                        exact ⟨(decide (4 < e13.Kind)), h, Wk.keep [0, 3, 5, 6, 13, 65536, 65539, 131081, 131082, 131083, 131136, 131137, 131138] rfl⟩
                    · intro x39 h
                      try dsimp only at h ⊢
                      unfold workers_play_j8 at h
                      refine Ev.cond rfl (fun c37 => ?_) (fun c37 => ?_)
                      · replace h := iteT h c37
                        refine Ev.seq ?_
                        refine W.reg hm ?_
                        refine W.mv rfl ?_
                        refine W.nil ?_
                        refine Ev.ret ?_
                        exact ⟨4, h, Wk.nrmF0 (B := 2000000) (elem := 3) (sz := 1) (xss := z10) (c := cI) (L := [(3, ⟨2, 44, 4, [[.int .i64 e13.Kind, .int .i64 e13.Worker, .int .i64 e13.Job, .int .i64 e13.Value]], true, true, false⟩), (10400, ⟨0, 55, 4, [[.int .i64 a2, .own 10401 0, .own 10402 0, .own 10403 0]], false, false, false⟩), (10401, ⟨0, 3, 1, List.map cI w9, true, false, false⟩), (10402, ⟨0, 27, 1, outr 2000000 z10.length, false, false, false⟩), (10403, ⟨0, 3, 1, List.map cI w11, true, false, false⟩), (10404, ⟨0, 44, 4, [[.int .i64 e13.Kind, .int .i64 e13.Worker, .int .i64 e13.Job, .int .i64 e13.Value]], true, false, false⟩), (10405, ⟨0, 25, 2, [[.int .i64 0, .int .i64 0]], true, false, false⟩)]) [4, 65536, 65539, 131081, 131082, 131083, 131136, 131137, 131138] [(10400, 10500), (10401, 10501), (10402, 10502), (10403, 10503), (10404, 10504), (10405, 10505)] 10402 rfl rfl rfl rfl rfl rfl rfl rfl⟩
                      · replace h := iteF h c37
                        refine Ev.seqJ (γ := Bool) (fun v => ⟨[(0, .pown 10400 0 0 0), (3, .pown 3 2 0 0), (5, .bool (decide (e13.Kind = 1))), (6, .bool (decide (e13.Kind = 2))), (22, .bool v), (65536, .pown 10400 0 0 0), (65539, .pown 10404 0 0 0), (131081, .pown 10405 0 0 0), (131082, .pown 10400 0 0 0), (131083, .int .i64 x12), (131136, .list 4 (List.map SKindWorkerJobValue.cells a3)), (131137, .int .i64 (a3.length : Int)), (131138, .int .i64 x12)], [(3, ⟨2, 44, 4, [[.int .i64 e13.Kind, .int .i64 e13.Worker, .int .i64 e13.Job, .int .i64 e13.Value]], true, true, false⟩), (10400, ⟨0, 55, 4, [[.int .i64 a2, .own 10401 0, .own 10402 0, .own 10403 0]], false, false, false⟩), (10401, ⟨0, 3, 1, List.map cI w9, true, false, false⟩), (10402, ⟨0, 27, 1, outr 2000000 z10.length, false, false, false⟩), (10403, ⟨0, 3, 1, List.map cI w11, true, false, false⟩), (10404, ⟨0, 44, 4, [[.int .i64 e13.Kind, .int .i64 e13.Worker, .int .i64 e13.Job, .int .i64 e13.Value]], true, false, false⟩), (10405, ⟨0, 25, 2, [[.int .i64 0, .int .i64 0]], true, false, false⟩)] ++ fam 2000000 3 1 cI z10, 2⟩) (fun v => workers_play_j9 n a2 w9 z10 w11 x12 (workers_play_l2 n a2 a3 m2) e13 v = some r) ?_ ?_
                        · refine W.regD hm ?_
                          refine W.fieldAddrO rfl rfl ?_
                          refine W.loadO (p := .int .i64 e13.Worker) rfl rfl rfl rfl ?_
                          refine W.lss rfl rfl ?_
                          refine W.mv rfl ?_
                          refine W.split 26 rfl (fun c52 => ?_) (fun c52 => ?_)
                          · replace h := iteT h c52
                            refine W.guardF2 rfl c52 ?_
                            refine W.guardF2 rfl c52 ?_
                            refine W.guardF2 rfl c52 ?_
                            refine W.guardF2 rfl c52 ?_
                            refine W.guardF2 rfl c52 ?_
                            refine W.guardF2 rfl c52 ?_
                            refine W.guardF2 rfl c52 ?_
                            refine W.guardF2 rfl c52 ?_
                            refine W.pickT rfl rfl rfl c52 ?_
                            refine W.mv rfl ?_
                            refine W.nil ⟨rfl, ?_⟩
                            exact ⟨true, h, Wk.keep [0, 3, 5, 6, 22, 65536, 65539, 131081, 131082, 131083, 131136, 131137, 131138] rfl⟩
                          · replace h := iteF h c52
                            refine W.guardT rfl c52 ?_
                            refine W.fieldAddrO rfl rfl ?_
                            refine W.guardT rfl c52 ?_
                            refine W.loadO (p := .int .i64 e13.Worker) rfl rfl rfl rfl ?_
                            refine W.guardT rfl c52 ?_
                            refine W.mv rfl ?_
                            refine W.guardT rfl c52 ?_
                            refine W.nilCheckO rfl rfl ?_
                            refine W.guardT rfl c52 ?_
                            refine W.fieldAddrO rfl rfl ?_
                            refine W.guardT rfl c52 ?_
                            refine W.loadO (p := .own 10401 0) rfl rfl rfl rfl ?_
                            refine W.guardT rfl c52 ?_
                            refine W.lenO (l := w9) (c := cI) rfl rfl rfl ?_
                            refine W.guardT rfl c52 ?_
                            refine W.geq rfl rfl ?_
                            refine W.pickN rfl rfl rfl c52 ?_
                            refine W.mv rfl ?_
                            refine W.nil ⟨rfl, ?_⟩
                            exact ⟨(decide ((w9.length : Int) ≤ e13.Worker)), h, Wk.keep [0, 3, 5, 6, 22, 65536, 65539, 131081, 131082, 131083, 131136, 131137, 131138] rfl⟩
                        · intro x40 h
                          try dsimp only at h ⊢
                          unfold workers_play_j9 at h
                          refine Ev.cond rfl (fun c38 => ?_) (fun c38 => ?_)
                          · replace h := iteT h c38
                            refine Ev.seq ?_
                            refine W.reg hm ?_
                            refine W.mv rfl ?_
                            refine W.nil ?_
                            refine Ev.ret ?_
                            exact ⟨3, h, Wk.nrmF0 (B := 2000000) (elem := 3) (sz := 1) (xss := z10) (c := cI) (L := [(3, ⟨2, 44, 4, [[.int .i64 e13.Kind, .int .i64 e13.Worker, .int .i64 e13.Job, .int .i64 e13.Value]], true, true, false⟩), (10400, ⟨0, 55, 4, [[.int .i64 a2, .own 10401 0, .own 10402 0, .own 10403 0]], false, false, false⟩), (10401, ⟨0, 3, 1, List.map cI w9, true, false, false⟩), (10402, ⟨0, 27, 1, outr 2000000 z10.length, false, false, false⟩), (10403, ⟨0, 3, 1, List.map cI w11, true, false, false⟩), (10404, ⟨0, 44, 4, [[.int .i64 e13.Kind, .int .i64 e13.Worker, .int .i64 e13.Job, .int .i64 e13.Value]], true, false, false⟩), (10405, ⟨0, 25, 2, [[.int .i64 0, .int .i64 0]], true, false, false⟩)]) [4, 65536, 65539, 131081, 131082, 131083, 131136, 131137, 131138] [(10400, 10500), (10401, 10501), (10402, 10502), (10403, 10503), (10404, 10504), (10405, 10505)] 10402 rfl rfl rfl rfl rfl rfl rfl rfl⟩
                          · replace h := iteF h c38
                            refine Ev.seqJ (γ := Bool) (fun v => ⟨[(0, .pown 10400 0 0 0), (3, .pown 3 2 0 0), (5, .bool (decide (e13.Kind = 1))), (6, .bool (decide (e13.Kind = 2))), (36, .bool v), (65536, .pown 10400 0 0 0), (65539, .pown 10404 0 0 0), (131081, .pown 10405 0 0 0), (131082, .pown 10400 0 0 0), (131083, .int .i64 x12), (131136, .list 4 (List.map SKindWorkerJobValue.cells a3)), (131137, .int .i64 (a3.length : Int)), (131138, .int .i64 x12)], [(3, ⟨2, 44, 4, [[.int .i64 e13.Kind, .int .i64 e13.Worker, .int .i64 e13.Job, .int .i64 e13.Value]], true, true, false⟩), (10400, ⟨0, 55, 4, [[.int .i64 a2, .own 10401 0, .own 10402 0, .own 10403 0]], false, false, false⟩), (10401, ⟨0, 3, 1, List.map cI w9, true, false, false⟩), (10402, ⟨0, 27, 1, outr 2000000 z10.length, false, false, false⟩), (10403, ⟨0, 3, 1, List.map cI w11, true, false, false⟩), (10404, ⟨0, 44, 4, [[.int .i64 e13.Kind, .int .i64 e13.Worker, .int .i64 e13.Job, .int .i64 e13.Value]], true, false, false⟩), (10405, ⟨0, 25, 2, [[.int .i64 0, .int .i64 0]], true, false, false⟩)] ++ fam 2000000 3 1 cI z10, 2⟩) (fun v => workers_play_j10 n a2 w9 z10 w11 x12 (workers_play_l2 n a2 a3 m2) e13 v = some r) ?_ ?_
                            · refine W.reg hm ?_
                              refine W.mv rfl ?_
                              refine W.not rfl ?_
                              refine W.mv rfl ?_
                              refine W.split 39 rfl (fun c48 => ?_) (fun c48 => ?_)
                              · replace h := iteT h c48
                                refine W.guardT rfl c48 ?_
                                refine W.fieldAddrO rfl rfl ?_
                                refine W.guardT rfl c48 ?_
                                refine W.loadO (p := .int .i64 e13.Job) rfl rfl rfl rfl ?_
                                refine W.guardT rfl c48 ?_
                                refine W.neq rfl rfl ?_
                                refine W.pickT rfl rfl rfl c48 ?_
                                refine W.mv rfl ?_
                                refine W.split 44 rfl (fun c49 => ?_) (fun c49 => ?_)
                                · replace h := iteT h c49
                                  refine W.guardF2 rfl c49 ?_
                                  refine W.guardF2 rfl c49 ?_
                                  refine W.guardF2 rfl c49 ?_
                                  refine W.guardU rfl ?_
                                  refine W.guardU rfl ?_
                                  refine W.guardU rfl ?_
                                  refine W.guardF2 rfl c49 ?_
                                  refine W.pickT rfl rfl rfl c49 ?_
                                  refine W.mv rfl ?_
                                  refine W.nil ?_
                                  exact ⟨true, h, Wk.keep [0, 3, 5, 6, 36, 65536, 65539, 131081, 131082, 131083, 131136, 131137, 131138] rfl⟩
                                · replace h := iteF h c49
                                  refine W.guardT rfl c49 ?_
                                  refine W.mv rfl ?_
                                  refine W.guardT rfl c49 ?_
                                  refine W.not rfl ?_
                                  refine W.guardT rfl c49 ?_
                                  refine W.mv rfl ?_
                                  refine W.split 47 rfl (fun c50 => ?_) (fun c50 => ?_)
                                  · replace h := iteT h c50
                                    refine W.guardT rfl c50 ?_
                                    refine W.fieldAddrO rfl rfl ?_
                                    refine W.guardT rfl c50 ?_
                                    refine W.loadO (p := .int .i64 e13.Value) rfl rfl rfl rfl ?_
                                    refine W.guardT rfl c50 ?_
                                    refine W.neq rfl rfl ?_
                                    refine W.guardT rfl c49 ?_
                                    refine W.pickT rfl rfl rfl c50 ?_
                                    refine W.pickN rfl rfl rfl c49 ?_
                                    refine W.mv rfl ?_
                                    refine W.nil ?_
                                    exact ⟨(decide (e13.Value ≠ 0)), h, Wk.keep [0, 3, 5, 6, 36, 65536, 65539, 131081, 131082, 131083, 131136, 131137, 131138] rfl⟩
                                  · replace h := iteF h c50
                                    refine W.guardF1 rfl c50 ?_
                                    refine W.guardF1 rfl c50 ?_
                                    refine W.guardF1 rfl c50 ?_
                                    refine W.guardT rfl c49 ?_
                                    refine W.pickN rfl rfl rfl c50 ?_
                                    refine W.pickN rfl rfl rfl c49 ?_
                                    refine W.mv rfl ?_
                                    refine W.nil ?_
                                    exact ⟨false, h, Wk.keep [0, 3, 5, 6, 36, 65536, 65539, 131081, 131082, 131083, 131136, 131137, 131138] rfl⟩
                              · replace h := iteF h c48
                                refine W.guardF1 rfl c48 ?_
                                refine W.guardF1 rfl c48 ?_
                                refine W.guardF1 rfl c48 ?_
                                refine W.pickN rfl rfl rfl c48 ?_
                                refine W.mv rfl ?_
                                refine W.guardT rfl rfl ?_
                                refine W.mv rfl ?_
                                refine W.guardT rfl rfl ?_
                                refine W.not rfl ?_
                                refine W.guardT rfl rfl ?_
                                refine W.mv rfl ?_
                                refine W.split 47 rfl (fun c51 => ?_) (fun c51 => ?_)
                                · replace h := iteT h c51
                                  refine W.guardT rfl c51 ?_
                                  refine W.fieldAddrO rfl rfl ?_
                                  refine W.guardT rfl c51 ?_
                                  refine W.loadO (p := .int .i64 e13.Value) rfl rfl rfl rfl ?_
                                  refine W.guardT rfl c51 ?_
                                  refine W.neq rfl rfl ?_
                                  refine W.guardT rfl rfl ?_
                                  refine W.pickT rfl rfl rfl c51 ?_
                                  refine W.pickN rfl rfl rfl rfl ?_
                                  refine W.mv rfl ?_
                                  refine W.nil ?_
                                  exact ⟨(decide (e13.Value ≠ 0)), h, Wk.keep [0, 3, 5, 6, 36, 65536, 65539, 131081, 131082, 131083, 131136, 131137, 131138] rfl⟩
                                · replace h := iteF h c51
                                  refine W.guardF1 rfl c51 ?_
                                  refine W.guardF1 rfl c51 ?_
                                  refine W.guardF1 rfl c51 ?_
                                  refine W.guardT rfl rfl ?_
                                  refine W.pickN rfl rfl rfl c51 ?_
                                  refine W.pickN rfl rfl rfl rfl ?_
                                  refine W.mv rfl ?_
                                  refine W.nil ?_
                                  exact ⟨false, h, Wk.keep [0, 3, 5, 6, 36, 65536, 65539, 131081, 131082, 131083, 131136, 131137, 131138] rfl⟩
                            · intro x41 h
                              try dsimp only at h ⊢
                              unfold workers_play_j10 at h
                              refine Ev.cond rfl (fun c39 => ?_) (fun c39 => ?_)
                              · replace h := iteT h c39
                                refine Ev.seq ?_
                                refine W.reg hm ?_
                                refine W.mv rfl ?_
                                refine W.nil ?_
                                refine Ev.ret ?_
                                exact ⟨5, h, Wk.nrmF0 (B := 2000000) (elem := 3) (sz := 1) (xss := z10) (c := cI) (L := [(3, ⟨2, 44, 4, [[.int .i64 e13.Kind, .int .i64 e13.Worker, .int .i64 e13.Job, .int .i64 e13.Value]], true, true, false⟩), (10400, ⟨0, 55, 4, [[.int .i64 a2, .own 10401 0, .own 10402 0, .own 10403 0]], false, false, false⟩), (10401, ⟨0, 3, 1, List.map cI w9, true, false, false⟩), (10402, ⟨0, 27, 1, outr 2000000 z10.length, false, false, false⟩), (10403, ⟨0, 3, 1, List.map cI w11, true, false, false⟩), (10404, ⟨0, 44, 4, [[.int .i64 e13.Kind, .int .i64 e13.Worker, .int .i64 e13.Job, .int .i64 e13.Value]], true, false, false⟩), (10405, ⟨0, 25, 2, [[.int .i64 0, .int .i64 0]], true, false, false⟩)]) [4, 65536, 65539, 131081, 131082, 131083, 131136, 131137, 131138] [(10400, 10500), (10401, 10501), (10402, 10502), (10403, 10503), (10404, 10504), (10405, 10505)] 10402 rfl rfl rfl rfl rfl rfl rfl rfl⟩
                              · replace h := iteF h c39
                                refine Ev.seqJ (γ := Bool) (fun v => ⟨[(53, .bool v), (65536, .pown 10400 0 0 0), (65539, .pown 10404 0 0 0), (131081, .pown 10405 0 0 0), (131082, .pown 10400 0 0 0), (131083, .int .i64 x12), (131136, .list 4 (List.map SKindWorkerJobValue.cells a3)), (131137, .int .i64 (a3.length : Int)), (131138, .int .i64 x12)], [(3, ⟨2, 44, 4, [[.int .i64 e13.Kind, .int .i64 e13.Worker, .int .i64 e13.Job, .int .i64 e13.Value]], true, true, false⟩), (10400, ⟨0, 55, 4, [[.int .i64 a2, .own 10401 0, .own 10402 0, .own 10403 0]], false, false, false⟩), (10401, ⟨0, 3, 1, List.map cI w9, true, false, false⟩), (10402, ⟨0, 27, 1, outr 2000000 z10.length, false, false, false⟩), (10403, ⟨0, 3, 1, List.map cI w11, true, false, false⟩), (10404, ⟨0, 44, 4, [[.int .i64 e13.Kind, .int .i64 e13.Worker, .int .i64 e13.Job, .int .i64 e13.Value]], true, false, false⟩), (10405, ⟨0, 25, 2, [[.int .i64 0, .int .i64 0]], true, false, false⟩)] ++ fam 2000000 3 1 cI z10, 2⟩) (fun v => workers_play_j11 n a2 w9 z10 w11 x12 (workers_play_l2 n a2 a3 m2) e13 v = some r) ?_ ?_
                                · refine W.regD hm ?_
                                  refine W.mv rfl ?_
                                  refine W.mv rfl ?_
                                  refine W.split 55 rfl (fun c41 => ?_) (fun c41 => ?_)
                                  · replace h := iteT h c41
                                    refine W.guardT rfl c41 ?_
                                    refine W.fieldAddrO rfl rfl ?_
                                    refine W.guardT rfl c41 ?_
                                    refine W.loadO (p := .int .i64 e13.Job) rfl rfl rfl rfl ?_
                                    refine W.guardT rfl c41 ?_
                                    refine W.lss rfl rfl ?_
                                    refine W.guardT rfl c41 ?_
                                    refine W.mv rfl ?_
                                    refine W.split 59 rfl (fun c42 => ?_) (fun c42 => ?_)
                                    · replace h := iteT h c42
                                      refine W.guardF2 rfl c42 ?_
                                      refine W.guardF2 rfl c42 ?_
                                      refine W.guardF2 rfl c42 ?_
                                      refine W.guardF2 rfl c42 ?_
                                      refine W.guardF2 rfl c42 ?_
                                      refine W.guardF2 rfl c42 ?_
                                      refine W.guardF2 rfl c42 ?_
                                      refine W.guardF2 rfl c42 ?_
                                      refine W.guardT rfl c41 ?_
                                      refine W.pickT rfl rfl rfl c42 ?_
                                      refine W.pickT rfl rfl rfl c41 ?_
                                      refine W.mv rfl ?_
                                      refine W.guardF2 rfl rfl ?_
                                      refine W.guardF2 rfl rfl ?_
                                      refine W.guardU rfl ?_
                                      refine W.guardU rfl ?_
                                      refine W.guardU rfl ?_
                                      refine W.guardU rfl ?_
                                      refine W.guardU rfl ?_
                                      refine W.guardU rfl ?_
                                      refine W.guardU rfl ?_
                                      refine W.guardU rfl ?_
                                      refine W.guardF2 rfl rfl ?_
                                      refine W.pickT rfl rfl rfl rfl ?_
                                      refine W.mv rfl ?_
                                      refine W.nil ⟨rfl, ?_⟩
                                      exact ⟨true, h, Wk.keep [53, 65536, 65539, 131081, 131082, 131083, 131136, 131137, 131138] rfl⟩
                                    · replace h := iteF h c42
                                      refine W.guardT rfl c42 ?_
                                      refine W.fieldAddrO rfl rfl ?_
                                      refine W.guardT rfl c42 ?_
                                      refine W.loadO (p := .int .i64 e13.Job) rfl rfl rfl rfl ?_
                                      refine W.guardT rfl c42 ?_
                                      refine W.mv rfl ?_
                                      refine W.guardT rfl c42 ?_
                                      refine W.nilCheckO rfl rfl ?_
                                      refine W.guardT rfl c42 ?_
                                      refine W.fieldAddrO rfl rfl ?_
                                      refine W.guardT rfl c42 ?_
                                      refine W.loadO (p := .own 10403 0) rfl rfl rfl rfl ?_
                                      refine W.guardT rfl c42 ?_
                                      refine W.lenO (l := w11) (c := cI) rfl rfl rfl ?_
                                      refine W.guardT rfl c42 ?_
                                      refine W.geq rfl rfl ?_
                                      refine W.guardT rfl c41 ?_
                                      refine W.pickN rfl rfl rfl c42 ?_
                                      refine W.pickT rfl rfl rfl c41 ?_
                                      refine W.mv rfl ?_
                                      refine W.split 70 rfl (fun c43 => ?_) (fun c43 => ?_)
                                      · replace h := iteT h c43
                                        refine W.guardF2 rfl c43 ?_
                                        refine W.guardF2 rfl c43 ?_
                                        refine W.guardU rfl ?_
                                        refine W.guardU rfl ?_
                                        refine W.guardU rfl ?_
                                        refine W.guardU rfl ?_
                                        refine W.guardU rfl ?_
                                        refine W.guardU rfl ?_
                                        refine W.guardU rfl ?_
                                        refine W.guardU rfl ?_
                                        refine W.guardF2 rfl c43 ?_
                                        refine W.pickT rfl rfl rfl c43 ?_
                                        refine W.mv rfl ?_
                                        refine W.nil ⟨rfl, ?_⟩
                                        exact ⟨true, h, Wk.keep [53, 65536, 65539, 131081, 131082, 131083, 131136, 131137, 131138] rfl⟩
                                      · replace h := iteF h c43
                                        refine W.guardT rfl c43 ?_
                                        refine W.mv rfl ?_
                                        refine W.guardT rfl c43 ?_
                                        refine W.mv rfl ?_
                                        refine W.split 72 rfl (fun c44 => ?_) (fun c44 => ?_)
                                        · replace h := iteT h c44
                                          refine W.guardT rfl c44 ?_
                                          refine W.fieldAddrO rfl rfl ?_
                                          refine W.guardT rfl c44 ?_
                                          refine W.loadO (p := .int .i64 e13.Value) rfl rfl rfl rfl ?_
                                          refine W.guardT rfl c44 ?_
                                          refine W.lss rfl rfl ?_
                                          refine W.guardT rfl c44 ?_
                                          refine W.mv rfl ?_
                                          refine W.split 76 rfl (fun c45 => ?_) (fun c45 => ?_)
                                          · replace h := iteT h c45
                                            refine W.guardF2 rfl c45 ?_
                                            refine W.guardF2 rfl c45 ?_
                                            refine W.guardF2 rfl c45 ?_
                                            refine W.guardT rfl c44 ?_
                                            refine W.pickT rfl rfl rfl c45 ?_
                                            refine W.guardT rfl c43 ?_
                                            refine W.pickT rfl rfl rfl c44 ?_
                                            refine W.pickN rfl rfl rfl c43 ?_
                                            refine W.mv rfl ?_
                                            refine W.nil ⟨rfl, ?_⟩
                                            exact ⟨true, h, Wk.keep [53, 65536, 65539, 131081, 131082, 131083, 131136, 131137, 131138] rfl⟩
                                          · replace h := iteF h c45
                                            refine W.guardT rfl c45 ?_
                                            refine W.fieldAddrO rfl rfl ?_
                                            refine W.guardT rfl c45 ?_
                                            refine W.loadO (p := .int .i64 e13.Value) rfl rfl rfl rfl ?_
                                            refine W.guardT rfl c45 ?_
                                            refine W.gtr rfl rfl ?_
                                            refine W.guardT rfl c44 ?_
                                            refine W.pickN rfl rfl rfl c45 ?_
                                            refine W.guardT rfl c43 ?_
                                            refine W.pickT rfl rfl rfl c44 ?_
                                            refine W.pickN rfl rfl rfl c43 ?_
                                            refine W.mv rfl ?_
                                            refine W.nil ⟨rfl, ?_⟩
                                            exact ⟨(decide (1000000000 < e13.Value)), h, Wk.keep [53, 65536, 65539, 131081, 131082, 131083, 131136, 131137, 131138] rfl⟩
                                        · replace h := iteF h c44
                                          refine W.guardF1 rfl c44 ?_
                                          refine W.guardF1 rfl c44 ?_
                                          refine W.guardF1 rfl c44 ?_
                                          refine W.guardF1 rfl c44 ?_
                                          refine W.guardU rfl ?_
                                          refine W.guardU rfl ?_
                                          refine W.guardU rfl ?_
                                          refine W.guardF1 rfl c44 ?_
                                          refine W.guardT rfl c43 ?_
                                          refine W.pickN rfl rfl rfl c44 ?_
                                          refine W.pickN rfl rfl rfl c43 ?_
                                          refine W.mv rfl ?_
                                          refine W.nil ⟨rfl, ?_⟩
                                          exact ⟨false, h, Wk.keep [53, 65536, 65539, 131081, 131082, 131083, 131136, 131137, 131138] rfl⟩
                                  · replace h := iteF h c41
                                    refine W.guardF1 rfl c41 ?_
                                    refine W.guardF1 rfl c41 ?_
                                    refine W.guardF1 rfl c41 ?_
                                    refine W.guardF1 rfl c41 ?_
                                    refine W.guardU rfl ?_
                                    refine W.guardU rfl ?_
                                    refine W.guardU rfl ?_
                                    refine W.guardU rfl ?_
                                    refine W.guardU rfl ?_
                                    refine W.guardU rfl ?_
                                    refine W.guardU rfl ?_
                                    refine W.guardU rfl ?_
                                    refine W.guardF1 rfl c41 ?_
                                    refine W.pickN rfl rfl rfl c41 ?_
                                    refine W.mv rfl ?_
                                    refine W.guardT rfl rfl ?_
                                    refine W.mv rfl ?_
                                    refine W.guardT rfl rfl ?_
                                    refine W.mv rfl ?_
                                    refine W.split 72 rfl (fun c46 => ?_) (fun c46 => ?_)
                                    · replace h := iteT h c46
                                      refine W.guardT rfl c46 ?_
                                      refine W.fieldAddrO rfl rfl ?_
                                      refine W.guardT rfl c46 ?_
                                      refine W.loadO (p := .int .i64 e13.Value) rfl rfl rfl rfl ?_
                                      refine W.guardT rfl c46 ?_
                                      refine W.lss rfl rfl ?_
                                      refine W.guardT rfl c46 ?_
                                      refine W.mv rfl ?_
                                      refine W.split 76 rfl (fun c47 => ?_) (fun c47 => ?_)
                                      · replace h := iteT h c47
                                        refine W.guardF2 rfl c47 ?_
                                        refine W.guardF2 rfl c47 ?_
                                        refine W.guardF2 rfl c47 ?_
                                        refine W.guardT rfl c46 ?_
                                        refine W.pickT rfl rfl rfl c47 ?_
                                        refine W.guardT rfl rfl ?_
                                        refine W.pickT rfl rfl rfl c46 ?_
                                        refine W.pickN rfl rfl rfl rfl ?_
                                        refine W.mv rfl ?_
                                        refine W.nil ⟨rfl, ?_⟩
                                        exact ⟨true, h, Wk.keep [53, 65536, 65539, 131081, 131082, 131083, 131136, 131137, 131138] rfl⟩
                                      · replace h := iteF h c47
                                        refine W.guardT rfl c47 ?_
                                        refine W.fieldAddrO rfl rfl ?_
                                        refine W.guardT rfl c47 ?_
                                        refine W.loadO (p := .int .i64 e13.Value) rfl rfl rfl rfl ?_
                                        refine W.guardT rfl c47 ?_
                                        refine W.gtr rfl rfl ?_
                                        refine W.guardT rfl c46 ?_
                                        refine W.pickN rfl rfl rfl c47 ?_
                                        refine W.guardT rfl rfl ?_
                                        refine W.pickT rfl rfl rfl c46 ?_
                                        refine W.pickN rfl rfl rfl rfl ?_
                                        refine W.mv rfl ?_
                                        refine W.nil ⟨rfl, ?_⟩
                                        exact ⟨(decide (1000000000 < e13.Value)), h, Wk.keep [53, 65536, 65539, 131081, 131082, 131083, 131136, 131137, 131138] rfl⟩
                                    · replace h := iteF h c46
                                      refine W.guardF1 rfl c46 ?_
                                      refine W.guardF1 rfl c46 ?_
                                      refine W.guardF1 rfl c46 ?_
                                      refine W.guardF1 rfl c46 ?_
                                      refine W.guardU rfl ?_
                                      refine W.guardU rfl ?_
                                      refine W.guardU rfl ?_
                                      refine W.guardF1 rfl c46 ?_
                                      refine W.guardT rfl rfl ?_
                                      refine W.pickN rfl rfl rfl c46 ?_
                                      refine W.pickN rfl rfl rfl rfl ?_
                                      refine W.mv rfl ?_
                                      refine W.nil ⟨rfl, ?_⟩
                                      exact ⟨false, h, Wk.keep [53, 65536, 65539, 131081, 131082, 131083, 131136, 131137, 131138] rfl⟩
                                · intro x42 h
                                  try dsimp only at h ⊢
                                  unfold workers_play_j11 at h
                                  refine Ev.cond rfl (fun c40 => ?_) (fun c40 => ?_)
                                  · replace h := iteT h c40
                                    refine Ev.seq ?_
                                    refine W.reg hm ?_
                                    refine W.mv rfl ?_
                                    refine W.nil ?_
                                    refine Ev.ret ?_
                                    exact ⟨3, h, Wk.nrmF0 (B := 2000000) (elem := 3) (sz := 1) (xss := z10) (c := cI) (L := [(3, ⟨2, 44, 4, [[.int .i64 e13.Kind, .int .i64 e13.Worker, .int .i64 e13.Job, .int .i64 e13.Value]], true, true, false⟩), (10400, ⟨0, 55, 4, [[.int .i64 a2, .own 10401 0, .own 10402 0, .own 10403 0]], false, false, false⟩), (10401, ⟨0, 3, 1, List.map cI w9, true, false, false⟩), (10402, ⟨0, 27, 1, outr 2000000 z10.length, false, false, false⟩), (10403, ⟨0, 3, 1, List.map cI w11, true, false, false⟩), (10404, ⟨0, 44, 4, [[.int .i64 e13.Kind, .int .i64 e13.Worker, .int .i64 e13.Job, .int .i64 e13.Value]], true, false, false⟩), (10405, ⟨0, 25, 2, [[.int .i64 0, .int .i64 0]], true, false, false⟩)]) [4, 65536, 65539, 131081, 131082, 131083, 131136, 131137, 131138] [(10400, 10500), (10401, 10501), (10402, 10502), (10403, 10503), (10404, 10504), (10405, 10505)] 10402 rfl rfl rfl rfl rfl rfl rfl rfl⟩
                                  · replace h := iteF h c40
                                    refine Ev.skip ?_
                                    refine Ev.seq ?_
                                    refine W.reg hm ?_
                                    refine W.mv rfl ?_
                                    refine W.nil ?_
                                    refine Ev.ret ?_
                                    exact ⟨0, h, Wk.nrmF0 (B := 2000000) (elem := 3) (sz := 1) (xss := z10) (c := cI) (L := [(3, ⟨2, 44, 4, [[.int .i64 e13.Kind, .int .i64 e13.Worker, .int .i64 e13.Job, .int .i64 e13.Value]], true, true, false⟩), (10400, ⟨0, 55, 4, [[.int .i64 a2, .own 10401 0, .own 10402 0, .own 10403 0]], false, false, false⟩), (10401, ⟨0, 3, 1, List.map cI w9, true, false, false⟩), (10402, ⟨0, 27, 1, outr 2000000 z10.length, false, false, false⟩), (10403, ⟨0, 3, 1, List.map cI w11, true, false, false⟩), (10404, ⟨0, 44, 4, [[.int .i64 e13.Kind, .int .i64 e13.Worker, .int .i64 e13.Job, .int .i64 e13.Value]], true, false, false⟩), (10405, ⟨0, 25, 2, [[.int .i64 0, .int .i64 0]], true, false, false⟩)]) [4, 65536, 65539, 131081, 131082, 131083, 131136, 131137, 131138] [(10400, 10500), (10401, 10501), (10402, 10502), (10403, 10503), (10404, 10504), (10405, 10505)] 10402 rfl rfl rfl rfl rfl rfl rfl rfl⟩
                  · intro x19 h
                    try dsimp only at h ⊢
                    unfold workers_play_j3 at h
                    refine ⟨_, rfl, ?_⟩
                    refine W.mv rfl ?_
                    refine W.nil ?_
                    refine Ev.seq ?_
                    refine W.reg hm ?_
                    refine W.mv rfl ?_
                    refine W.neq rfl rfl ?_
                    refine W.nil ?_
                    refine Ev.cond rfl (fun c13 => ?_) (fun c13 => ?_)
                    · replace h := iteT h c13
                      refine Ev.seq ?_
                      refine W.reg hm ?_
                      refine W.mv rfl ?_
                      refine W.mv rfl ?_
                      refine W.nil ?_
                      refine Ev.ret ?_
                      exact ⟨(x19, w9, z10, w11), h, Wk.nrmF0 (B := 2000000) (elem := 3) (sz := 1) (xss := z10) (c := cI) (L := [(10500, ⟨0, 55, 4, [[.int .i64 a2, .own 10501 0, .own 10502 0, .own 10503 0]], false, false, false⟩), (10501, ⟨0, 3, 1, List.map cI w9, true, false, false⟩), (10502, ⟨0, 27, 1, outr 2000000 z10.length, false, false, false⟩), (10503, ⟨0, 3, 1, List.map cI w11, true, false, false⟩), (10504, ⟨0, 44, 4, [[.int .i64 e13.Kind, .int .i64 e13.Worker, .int .i64 e13.Job, .int .i64 e13.Value]], true, false, false⟩), (10505, ⟨0, 25, 2, [[.int .i64 0, .int .i64 0]], true, false, false⟩)]) [4, 65545, 65546, 65547, 65600, 65601, 65602] [(10505, 10400), (10500, 10401), (10501, 10402), (10502, 10403), (10503, 10404)] 10502 rfl rfl rfl rfl rfl rfl rfl rfl⟩
                    · replace h := iteF h c13
                      refine Ev.skip ?_
                      refine Ev.seq ?_
                      refine W.regD hm ?_
                      refine W.mv rfl ?_
                      refine W.nilCheckO rfl rfl ?_
                      refine W.fieldAddrO rfl rfl ?_
                      refine W.loadO (p := .own 10501 0) rfl rfl rfl rfl ?_
                      refine W.fieldAddrO rfl rfl ?_
                      refine W.loadO (p := .int .i64 e13.Worker) rfl rfl rfl rfl ?_
                      obtain ⟨e20, k14, h⟩ := obind h
                      refine W.idxR (l := w9) (c := cI) rfl rfl rfl rfl rfl k14 ?_
                      refine W.mv rfl ?_
                      refine W.nil ⟨rfl, ?_⟩
                      refine Ev.seqJ (γ := (List Int) × (List (List Int)) × (List Int)) (fun v => ⟨[(65545, .pown 10600 0 0 0), (65546, .pown 10601 0 0 0), (65547, .int .i64 x12), (65600, .list 4 (List.map SKindWorkerJobValue.cells a3)), (65601, .int .i64 (a3.length : Int)), (65602, .int .i64 x12)], [(10600, ⟨0, 25, 2, [[.int .i64 0, .int .i64 0]], true, false, false⟩), (10601, ⟨0, 55, 4, [[.int .i64 a2, .own 10602 0, .own 10603 0, .own 10604 0]], false, false, false⟩), (10602, ⟨0, 3, 1, List.map cI v.1, true, false, false⟩), (10603, ⟨0, 27, 1, outr 2000000 v.2.1.length, false, false, false⟩), (10604, ⟨0, 3, 1, List.map cI v.2.2, true, false, false⟩)] ++ fam 2000000 3 1 cI v.2.1, 2⟩) (fun v => workers_play_j4 n x12 (workers_play_l2 n a2 a3 m2) v.1 v.2.1 v.2.2 = some r) ?_ ?_
                      · refine Ev.seq ?_
                        refine W.reg hm ?_
                        refine W.fieldAddrO rfl rfl ?_
                        refine W.loadO (p := .int .i64 e13.Kind) rfl rfl rfl rfl ?_
                        refine W.nil ?_
                        refine Ev.block ?_
                        refine Ev.seq ?_
                        refine W.reg hm ?_
                        refine W.eql rfl rfl ?_
                        refine W.mv rfl ?_
                        refine W.nil ?_
                        refine Ev.cond rfl (fun c15 => ?_) (fun c15 => ?_)
                        · replace h := iteT h c15
                          refine Ev.seq ?_
                          refine Ev.seq ?_
                          refine W.reg hm ?_
                          refine W.mv rfl ?_
                          refine W.nilCheckO rfl rfl ?_
                          refine W.loadR (l := w9) (c := cI) (v := e20) (p := .int .i64 e20) rfl rfl rfl (gidx_some k14).2 rfl ?_
                          refine W.neq rfl rfl ?_
                          refine W.nil ?_
                          refine Ev.cond rfl (fun c16 => ?_) (fun c16 => ?_)
                          · replace h := iteT h c16
                            refine Ev.seq ?_
                            refine W.reg hm ?_
                            refine W.mv rfl ?_
                            refine W.nil ?_
                            refine Ev.ret ?_
                            exact ⟨(11, w9, z10, w11), h, Wk.nrmF0 (B := 2000000) (elem := 3) (sz := 1) (xss := z10) (c := cI) (L := [(10500, ⟨0, 55, 4, [[.int .i64 a2, .own 10501 0, .own 10502 0, .own 10503 0]], false, false, false⟩), (10501, ⟨0, 3, 1, List.map cI w9, true, false, false⟩), (10502, ⟨0, 27, 1, outr 2000000 z10.length, false, false, false⟩), (10503, ⟨0, 3, 1, List.map cI w11, true, false, false⟩), (10504, ⟨0, 44, 4, [[.int .i64 e13.Kind, .int .i64 e13.Worker, .int .i64 e13.Job, .int .i64 e13.Value]], true, false, false⟩), (10505, ⟨0, 25, 2, [[.int .i64 0, .int .i64 0]], true, false, false⟩)]) [4, 65545, 65546, 65547, 65600, 65601, 65602] [(10505, 10400), (10500, 10401), (10501, 10402), (10502, 10403), (10503, 10404)] 10502 rfl rfl rfl rfl rfl rfl rfl rfl⟩
                          · replace h := iteF h c16
                            refine Ev.skip ?_
                            refine Ev.seq ?_
                            refine Ev.seq ?_
                            refine W.regD hm ?_
                            refine W.mv rfl ?_
                            refine W.nilCheckO rfl rfl ?_
                            refine W.fieldAddrO rfl rfl ?_
                            refine W.loadO (p := .own 10502 0) rfl rfl rfl rfl ?_
                            refine W.fieldAddrO rfl rfl ?_
                            refine W.loadO (p := .int .i64 e13.Job) rfl rfl rfl rfl ?_
                            obtain ⟨q24, k17, h⟩ := obind h
                            refine W.idxFO (B := 2000000) rfl rfl rfl rfl rfl k17 ?_
                            refine W.loadFO (B := 2000000) rfl rfl rfl (gidx_some k17).2 ?_
                            refine W.fieldAddrO rfl rfl ?_
                            refine W.loadO (p := .int .i64 e13.Worker) rfl rfl rfl rfl ?_
                            obtain ⟨e25, k18, h⟩ := obind h
                            refine W.idxR (l := q24) (c := cI) rfl rfl (liveF_fam (B := 2000000) (elem := 3) (sz := 1) (c := cI) (by repeat (first | exact .base | refine .cons (by decide) ?_)) (gidx_some k17).2) rfl rfl k18 ?_
                            refine W.loadR (l := q24) (c := cI) (v := e25) (p := .int .i64 e25) rfl (liveF_fam (B := 2000000) (elem := 3) (sz := 1) (c := cI) (by repeat (first | exact .base | refine .cons (by decide) ?_)) (gidx_some k17).2) rfl (gidx_some k18).2 rfl ?_
                            refine W.geq rfl rfl ?_
                            refine W.nil ⟨rfl, ?_⟩
                            refine Ev.cond rfl (fun c19 => ?_) (fun c19 => ?_)
                            · replace h := iteT h c19
                              refine Ev.seq ?_
                              refine W.reg hm ?_
                              refine W.mv rfl ?_
                              refine W.nil ?_
                              refine Ev.ret ?_
                              exact ⟨(7, w9, z10, w11), h, Wk.nrmF0 (B := 2000000) (elem := 3) (sz := 1) (xss := z10) (c := cI) (L := [(10500, ⟨0, 55, 4, [[.int .i64 a2, .own 10501 0, .own 10502 0, .own 10503 0]], false, false, false⟩), (10501, ⟨0, 3, 1, List.map cI w9, true, false, false⟩), (10502, ⟨0, 27, 1, outr 2000000 z10.length, false, false, false⟩), (10503, ⟨0, 3, 1, List.map cI w11, true, false, false⟩), (10504, ⟨0, 44, 4, [[.int .i64 e13.Kind, .int .i64 e13.Worker, .int .i64 e13.Job, .int .i64 e13.Value]], true, false, false⟩), (10505, ⟨0, 25, 2, [[.int .i64 0, .int .i64 0]], true, false, false⟩)]) [4, 65545, 65546, 65547, 65600, 65601, 65602] [(10505, 10400), (10500, 10401), (10501, 10402), (10502, 10403), (10503, 10404)] 10502 rfl rfl rfl rfl rfl rfl rfl rfl⟩
                            · replace h := iteF h c19
                              refine Ev.skip ?_
                              refine W.reg hm ?_
                              refine W.mv rfl ?_
                              refine W.fieldAddrO rfl rfl ?_
                              refine W.loadO (p := .int .i64 e13.Job) rfl rfl rfl rfl ?_
                              refine W.nilCheckO rfl rfl ?_
                              refine W.storeR true (l := w9) (c := cI) (v := e20) (v' := e13.Job) rfl rfl rfl rfl (gidx_some k14).2 rfl (Nat.le_of_ble_eq_true rfl) rfl rfl rfl ?_
                              refine W.nil ?_
                              exact ⟨((gset w9 e13.Worker e13.Job), z10, w11), h, Wk.nrmF0 (B := 2000000) (elem := 3) (sz := 1) (xss := z10) (c := cI) (L := [(10501, ⟨0, 3, 1, List.map cI (gset w9 e13.Worker e13.Job), true, false, false⟩), (10500, ⟨0, 55, 4, [[.int .i64 a2, .own 10501 0, .own 10502 0, .own 10503 0]], false, false, false⟩), (10501, ⟨0, 3, 1, List.map cI w9, true, false, false⟩), (10502, ⟨0, 27, 1, outr 2000000 z10.length, false, false, false⟩), (10503, ⟨0, 3, 1, List.map cI w11, true, false, false⟩), (10504, ⟨0, 44, 4, [[.int .i64 e13.Kind, .int .i64 e13.Worker, .int .i64 e13.Job, .int .i64 e13.Value]], true, false, false⟩), (10505, ⟨0, 25, 2, [[.int .i64 0, .int .i64 0]], true, false, false⟩)]) [65545, 65546, 65547, 65600, 65601, 65602] [(10505, 10600), (10500, 10601), (10501, 10602), (10502, 10603), (10503, 10604)] 10502 rfl rfl rfl rfl rfl rfl rfl rfl⟩
                        · replace h := iteF h c15
                          refine Ev.seq ?_
                          refine W.reg hm ?_
                          refine W.eql rfl rfl ?_
                          refine W.mv rfl ?_
                          refine W.nil ?_
                          refine Ev.cond rfl (fun c20 => ?_) (fun c20 => ?_)
                          · replace h := iteT h c20
                            refine Ev.seq ?_
                            refine Ev.seq ?_
                            refine W.reg hm ?_
                            refine W.mv rfl ?_
                            refine W.nilCheckO rfl rfl ?_
                            refine W.loadR (l := w9) (c := cI) (v := e20) (p := .int .i64 e20) rfl rfl rfl (gidx_some k14).2 rfl ?_
                            refine W.lss rfl rfl ?_
                            refine W.nil ?_
                            refine Ev.cond rfl (fun c21 => ?_) (fun c21 => ?_)
                            · replace h := iteT h c21
                              refine Ev.seq ?_
                              refine W.reg hm ?_
                              refine W.mv rfl ?_
                              refine W.nil ?_
                              refine Ev.ret ?_
                              exact ⟨(11, w9, z10, w11), h, Wk.nrmF0 (B := 2000000) (elem := 3) (sz := 1) (xss := z10) (c := cI) (L := [(10500, ⟨0, 55, 4, [[.int .i64 a2, .own 10501 0, .own 10502 0, .own 10503 0]], false, false, false⟩), (10501, ⟨0, 3, 1, List.map cI w9, true, false, false⟩), (10502, ⟨0, 27, 1, outr 2000000 z10.length, false, false, false⟩), (10503, ⟨0, 3, 1, List.map cI w11, true, false, false⟩), (10504, ⟨0, 44, 4, [[.int .i64 e13.Kind, .int .i64 e13.Worker, .int .i64 e13.Job, .int .i64 e13.Value]], true, false, false⟩), (10505, ⟨0, 25, 2, [[.int .i64 0, .int .i64 0]], true, false, false⟩)]) [4, 65545, 65546, 65547, 65600, 65601, 65602] [(10505, 10400), (10500, 10401), (10501, 10402), (10502, 10403), (10503, 10404)] 10502 rfl rfl rfl rfl rfl rfl rfl rfl⟩
                            · replace h := iteF h c21
                              refine Ev.skip ?_
                              refine Ev.seq ?_
                              refine W.reg hm ?_
                              refine W.mv rfl ?_
                              refine W.nilCheckO rfl rfl ?_
                              refine W.loadR (l := w9) (c := cI) (v := e20) (p := .int .i64 e20) rfl rfl rfl (gidx_some k14).2 rfl ?_
                              refine W.mv rfl ?_
                              refine W.nil ?_
                              refine Ev.seq ?_
                              refine W.regD hm ?_
                              refine W.mv rfl ?_
                              refine W.nilCheckO rfl rfl ?_
                              refine W.fieldAddrO rfl rfl ?_
                              refine W.loadO (p := .own 10502 0) rfl rfl rfl rfl ?_
                              refine W.mv rfl ?_
                              obtain ⟨q26, k22, h⟩ := obind h
                              refine W.idxFO (B := 2000000) rfl rfl rfl rfl rfl k22 ?_
                              refine W.loadFO (B := 2000000) rfl rfl rfl (gidx_some k22).2 ?_
                              refine W.fieldAddrO rfl rfl ?_
                              refine W.loadO (p := .int .i64 e13.Worker) rfl rfl rfl rfl ?_
                              refine W.fieldAddrO rfl rfl ?_
                              refine W.loadO (p := .int .i64 e13.Value) rfl rfl rfl rfl ?_
                              obtain ⟨e27, k23, h⟩ := obind h
                              refine W.idxR (l := q26) (c := cI) rfl rfl (liveF_fam (B := 2000000) (elem := 3) (sz := 1) (c := cI) (by repeat (first | exact .base | refine .cons (by decide) ?_)) (gidx_some k22).2) rfl rfl k23 ?_
                              refine W.storeR true (l := q26) (c := cI) (v := e27) (v' := e13.Value) rfl rfl (liveF_fam (B := 2000000) (elem := 3) (sz := 1) (c := cI) (by repeat (first | exact .base | refine .cons (by decide) ?_)) (gidx_some k22).2) rfl (gidx_some k23).2 rfl (Nat.le_of_ble_eq_true rfl) rfl rfl rfl ?_
                              refine W.nil ⟨rfl, ?_⟩
                              refine Ev.weak ?_ (Wk.famSet (B := 2000000) (elem := 3) (sz := 1) (L := [(10500, ⟨0, 55, 4, [[.int .i64 a2, .own 10501 0, .own 10502 0, .own 10503 0]], false, false, false⟩), (10501, ⟨0, 3, 1, List.map cI w9, true, false, false⟩), (10502, ⟨0, 27, 1, outr 2000000 z10.length, false, false, false⟩), (10503, ⟨0, 3, 1, List.map cI w11, true, false, false⟩), (10504, ⟨0, 44, 4, [[.int .i64 e13.Kind, .int .i64 e13.Worker, .int .i64 e13.Job, .int .i64 e13.Value]], true, false, false⟩), (10505, ⟨0, 25, 2, [[.int .i64 0, .int .i64 0]], true, false, false⟩)]) (xss := z10) (xs := (gset q26 e13.Worker e13.Value)) (c := cI) rfl (gidx_lt k22))
                              refine Ev.seq ?_
                              refine W.reg hm ?_
                              refine W.mv rfl ?_
                              refine W.nilCheckO rfl rfl ?_
                              refine W.storeR true (l := w9) (c := cI) (v := e20) (v' := (-1)) rfl rfl rfl rfl (gidx_some k14).2 rfl (Nat.le_of_ble_eq_true rfl) rfl rfl rfl ?_
                              refine W.nil ?_
                              refine Ev.regCall (i := 4) hm rfl rfl Try.c_workers_farm_accept ?_
                              refine W.mv rfl ?_
                              refine W.mv rfl ?_
                              refine W.fieldAddrO rfl rfl ?_
                              refine W.loadO (p := .int .i64 e13.Value) rfl rfl rfl rfl ?_
                              refine W.nil ?_
                              refine ⟨_, rfl, Nat.le_of_ble_eq_true rfl, ?_⟩
                              unfold Try.l_workers_farm_accept
                              refine Ev.retJ (γ := List Int) (fun v => ⟨[(131081, .pown 10700 0 0 0), (131082, .pown 10701 0 0 0), (131083, .int .i64 x12), (131136, .list 4 (List.map SKindWorkerJobValue.cells a3)), (131137, .int .i64 (a3.length : Int)), (131138, .int .i64 x12)], [(10700, ⟨0, 25, 2, [[.int .i64 0, .int .i64 0]], true, false, false⟩), (10701, ⟨0, 55, 4, [[.int .i64 a2, .own 10702 0, .own 10703 0, .own 10704 0]], false, false, false⟩), (10702, ⟨0, 3, 1, List.map cI (gset w9 e13.Worker (-1)), true, false, false⟩), (10703, ⟨0, 27, 1, outr 2000000 (gset z10 e20 (gset q26 e13.Worker e13.Value)).length, false, false, false⟩), (10704, ⟨0, 3, 1, List.map cI v, true, false, false⟩)] ++ fam 2000000 3 1 cI (gset z10 e20 (gset q26 e13.Worker e13.Value)), 2⟩) (fun v => workers_play_j5 n w9 z10 x12 (workers_play_l2 n a2 a3 m2) e13 e20 q26 v = some r) ?_ ?_
                              · refine Ev.seq ?_
                                refine W.reg hm ?_
                                refine W.mv rfl ?_
                                refine W.nil ?_
                                refine Ev.seq ?_
                                refine Ev.seq ?_
                                refine W.reg hm ?_
                                refine W.mv rfl ?_
                                refine W.nilCheckO rfl rfl ?_
                                refine W.fieldAddrO rfl rfl ?_
                                refine W.loadO (p := .own 10502 0) rfl rfl rfl rfl ?_
                                refine W.mv rfl ?_
                                obtain ⟨q29, k24, h⟩ := obind h
                                refine W.idxFO (B := 2000000) rfl rfl rfl rfl (by simp only [gset, List.length_set]) k24 ?_
                                refine W.loadFO (B := 2000000) rfl rfl (by simp only [gset, List.length_set]) (gidx_some k24).2 ?_
                                refine W.lenO (l := q29) (c := cI) rfl (liveF_fam (B := 2000000) (elem := 3) (sz := 1) (c := cI) (by repeat (first | exact .base | refine .cons (by decide) ?_)) (gidx_some k24).2) rfl ?_
                                refine W.mv rfl ?_
                                refine W.nil ?_
                                refine Ev.block ?_
                                refine Ev.loopW (β := Nat × Int × Int) (fun v => ⟨[(0, .pown 10500 0 0 0), (1, .int .i64 e20), (2, .int .i64 e13.Value), (6, .int .i64 v.2.1), (15, .own (2000000 + e20.toNat) 0), (16, .int .i64 (q29.length : Int)), (17, .int .i64 v.2.2), (131081, .pown 10505 0 0 0), (131082, .pown 10500 0 0 0), (131083, .int .i64 x12), (131136, .list 4 (List.map SKindWorkerJobValue.cells a3)), (131137, .int .i64 (a3.length : Int)), (131138, .int .i64 x12)], [(10501, ⟨0, 3, 1, List.map cI (gset w9 e13.Worker (-1)), true, false, false⟩), (10500, ⟨0, 55, 4, [[.int .i64 a2, .own 10501 0, .own 10502 0, .own 10503 0]], false, false, false⟩), (10501, ⟨0, 3, 1, List.map cI w9, true, false, false⟩), (10502, ⟨0, 27, 1, outr 2000000 z10.length, false, false, false⟩), (10503, ⟨0, 3, 1, List.map cI w11, true, false, false⟩), (10504, ⟨0, 44, 4, [[.int .i64 e13.Kind, .int .i64 e13.Worker, .int .i64 e13.Job, .int .i64 e13.Value]], true, false, false⟩), (10505, ⟨0, 25, 2, [[.int .i64 0, .int .i64 0]], true, false, false⟩)] ++ fam 2000000 3 1 cI (gset z10 e20 (gset q26 e13.Worker e13.Value)), 2⟩) (fun v => workers_play_l3 n a2 w9 z10 w11 x12 (workers_play_l2 n a2 a3 m2) e13 e20 q26 q29 v.1 v.2.1 v.2.2 = some r) (fun v => v.1) (n, 0, 0) (Wk.keep [0, 1, 2, 6, 15, 16, 17, 131081, 131082, 131083, 131136, 131137, 131138] rfl) h ?_
                                intro ⟨m3, x30, x31⟩ h
                                try dsimp only at h ⊢
                                cases m3 with
                                | zero => rw [workers_play_l3] at h; cases h
                                | succ m3 =>
                                  rw [workers_play_l3] at h
                                  refine Ev.seq ?_
                                  refine W.reg hm ?_
                                  refine W.lss rfl rfl ?_
                                  refine W.nil ?_
                                  refine Ev.seq ?_
                                  refine Ev.cond rfl (fun c25 => ?_) (fun c25 => ?_)
                                  · replace h := iteT h c25
                                    refine Ev.skip ?_
                                    refine Ev.seqJ (γ := Int) (fun v => ⟨[(0, .pown 10500 0 0 0), (1, .int .i64 e20), (2, .int .i64 e13.Value), (6, .int .i64 v), (15, .own (2000000 + e20.toNat) 0), (16, .int .i64 (q29.length : Int)), (17, .int .i64 x31), (131081, .pown 10505 0 0 0), (131082, .pown 10500 0 0 0), (131083, .int .i64 x12), (131136, .list 4 (List.map SKindWorkerJobValue.cells a3)), (131137, .int .i64 (a3.length : Int)), (131138, .int .i64 x12)], [(10501, ⟨0, 3, 1, List.map cI (gset w9 e13.Worker (-1)), true, false, false⟩), (10500, ⟨0, 55, 4, [[.int .i64 a2, .own 10501 0, .own 10502 0, .own 10503 0]], false, false, false⟩), (10501, ⟨0, 3, 1, List.map cI w9, true, false, false⟩), (10502, ⟨0, 27, 1, outr 2000000 z10.length, false, false, false⟩), (10503, ⟨0, 3, 1, List.map cI w11, true, false, false⟩), (10504, ⟨0, 44, 4, [[.int .i64 e13.Kind, .int .i64 e13.Worker, .int .i64 e13.Job, .int .i64 e13.Value]], true, false, false⟩), (10505, ⟨0, 25, 2, [[.int .i64 0, .int .i64 0]], true, false, false⟩)] ++ fam 2000000 3 1 cI (gset z10 e20 (gset q26 e13.Worker e13.Value)), 2⟩) (fun v => workers_play_j6 n x31 (workers_play_l3 n a2 w9 z10 w11 x12 (workers_play_l2 n a2 a3 m2) e13 e20 q26 q29 m3) v = some r) ?_ ?_
                                    · refine Ev.block ?_
                                      refine Ev.seq ?_
                                      refine W.reg hm ?_
                                      obtain ⟨e34, k27, h⟩ := obind h
                                      refine W.idxR (l := q29) (c := cI) rfl rfl (liveF_fam (B := 2000000) (elem := 3) (sz := 1) (c := cI) (by repeat (first | exact .base | refine .cons (by decide) ?_)) (gidx_some k24).2) rfl rfl k27 ?_
                                      refine W.loadR (l := q29) (c := cI) (v := e34) (p := .int .i64 e34) rfl (liveF_fam (B := 2000000) (elem := 3) (sz := 1) (c := cI) (by repeat (first | exact .base | refine .cons (by decide) ?_)) (gidx_some k24).2) rfl (gidx_some k27).2 rfl ?_
                                      refine W.mv rfl ?_
                                      refine W.nil ?_
                                      refine Ev.seq ?_
                                      refine W.reg hm ?_
                                      refine W.mv rfl ?_
                                      refine W.mv rfl ?_
                                      refine W.eql rfl rfl ?_
                                      refine W.nil ?_
                                      refine Ev.cond rfl (fun c28 => ?_) (fun c28 => ?_)
                                      · replace h := iteT h c28
                                        refine W.reg hm ?_
                                        refine W.mv rfl ?_
                                        obtain ⟨x35, k29, h⟩ := obind h
                                        refine W.addG rfl rfl k29 ?_
                                        refine W.mv rfl ?_
                                        refine W.nil ?_
                                        exact ⟨x35, h, Wk.keep [0, 1, 2, 6, 15, 16, 17, 131081, 131082, 131083, 131136, 131137, 131138] rfl⟩
                                      · replace h := iteF h c28
                                        refine Ev.skip ?_
                                        exact ⟨x30, h, Wk.keep [0, 1, 2, 6, 15, 16, 17, 131081, 131082, 131083, 131136, 131137, 131138] rfl⟩
                                    · intro x32 h
                                      try dsimp only at h ⊢
                                      unfold workers_play_j6 at h
                                      refine W.reg hm ?_
                                      obtain ⟨x33, k26, h⟩ := obind h
                                      refine W.addG rfl rfl k26 ?_
                                      refine W.mv rfl ?_
                                      refine W.nil ?_
                                      exact ⟨(m3, x32, x33), h, Nat.lt_succ_self _, Wk.keep [0, 1, 2, 6, 15, 16, 17, 131081, 131082, 131083, 131136, 131137, 131138] rfl⟩
                                  · replace h := iteF h c25
                                    refine Ev.exit ?_
                                    refine Ev.seqJ (γ := Bool) (fun v => ⟨[(0, .pown 10500 0 0 0), (1, .int .i64 e20), (2, .int .i64 e13.Value), (42, .bool v), (131081, .pown 10505 0 0 0), (131082, .pown 10500 0 0 0), (131083, .int .i64 x12), (131136, .list 4 (List.map SKindWorkerJobValue.cells a3)), (131137, .int .i64 (a3.length : Int)), (131138, .int .i64 x12)], [(10501, ⟨0, 3, 1, List.map cI (gset w9 e13.Worker (-1)), true, false, false⟩), (10500, ⟨0, 55, 4, [[.int .i64 a2, .own 10501 0, .own 10502 0, .own 10503 0]], false, false, false⟩), (10501, ⟨0, 3, 1, List.map cI w9, true, false, false⟩), (10502, ⟨0, 27, 1, outr 2000000 z10.length, false, false, false⟩), (10503, ⟨0, 3, 1, List.map cI w11, true, false, false⟩), (10504, ⟨0, 44, 4, [[.int .i64 e13.Kind, .int .i64 e13.Worker, .int .i64 e13.Job, .int .i64 e13.Value]], true, false, false⟩), (10505, ⟨0, 25, 2, [[.int .i64 0, .int .i64 0]], true, false, false⟩)] ++ fam 2000000 3 1 cI (gset z10 e20 (gset q26 e13.Worker e13.Value)), 2⟩) (fun v => workers_play_j7 n w9 z10 w11 x12 (workers_play_l2 n a2 a3 m2) e13 e20 q26 v = some r) ?_ ?_
                                    · refine W.reg hm ?_
                                      refine W.mv rfl ?_
                                      refine W.mv rfl ?_
                                      refine W.nilCheckO rfl rfl ?_
                                      refine W.fieldAddrO rfl rfl ?_
                                      refine W.loadO (p := .int .i64 a2) rfl rfl rfl rfl ?_
                                      refine W.geq rfl rfl ?_
                                      refine W.mv rfl ?_
                                      refine W.split 33 rfl (fun c32 => ?_) (fun c32 => ?_)
                                      · replace h := iteT h c32
                                        refine W.guardT rfl c32 ?_
                                        refine W.mv rfl ?_
                                        refine W.guardT rfl c32 ?_
                                        refine W.nilCheckO rfl rfl ?_
                                        refine W.guardT rfl c32 ?_
                                        refine W.fieldAddrO rfl rfl ?_
                                        refine W.guardT rfl c32 ?_
                                        refine W.loadO (p := .own 10503 0) rfl rfl rfl rfl ?_
                                        refine W.guardT rfl c32 ?_
                                        refine W.mv rfl ?_
                                        refine W.guardT rfl c32 ?_
                                        obtain ⟨e38, k33, h⟩ := obind h
                                        refine W.idxR (l := w11) (c := cI) rfl rfl rfl rfl rfl k33 ?_
                                        refine W.guardT rfl c32 ?_
                                        refine W.loadR (l := w11) (c := cI) (v := e38) (p := .int .i64 e38) rfl rfl rfl (gidx_some k33).2 rfl ?_
                                        refine W.guardT rfl c32 ?_
                                        refine W.lss rfl rfl ?_
                                        refine W.pickT rfl rfl rfl c32 ?_
                                        refine W.nil ?_
                                        exact ⟨(decide (e38 < 0)), h, Wk.keep [0, 1, 2, 42, 131081, 131082, 131083, 131136, 131137, 131138] rfl⟩
                                      · replace h := iteF h c32
                                        refine W.guardF1 rfl c32 ?_
                                        refine W.guardF1 rfl c32 ?_
                                        refine W.guardF1 rfl c32 ?_
                                        refine W.guardF1 rfl c32 ?_
                                        refine W.guardF1 rfl c32 ?_
                                        refine W.guardF1 rfl c32 ?_
                                        refine W.guardF1 rfl c32 ?_
                                        refine W.guardF1 rfl c32 ?_
                                        refine W.pickN rfl rfl rfl c32 ?_
                                        refine W.nil ?_
                                        exact ⟨false, h, Wk.keep [0, 1, 2, 42, 131081, 131082, 131083, 131136, 131137, 131138] rfl⟩
                                    · intro x36 h
                                      try dsimp only at h ⊢
                                      unfold workers_play_j7 at h
                                      refine Ev.cond rfl (fun c30 => ?_) (fun c30 => ?_)
                                      · replace h := iteT h c30
                                        refine W.reg hm ?_
                                        refine W.mv rfl ?_
                                        refine W.nilCheckO rfl rfl ?_
                                        refine W.fieldAddrO rfl rfl ?_
                                        refine W.loadO (p := .own 10503 0) rfl rfl rfl rfl ?_
                                        refine W.mv rfl ?_
                                        refine W.mv rfl ?_
                                        obtain ⟨e37, k31, h⟩ := obind h
                                        refine W.idxR (l := w11) (c := cI) rfl rfl rfl rfl rfl k31 ?_
                                        refine W.storeR true (l := w11) (c := cI) (v := e37) (v' := e13.Value) rfl rfl rfl rfl (gidx_some k31).2 rfl (Nat.le_of_ble_eq_true rfl) rfl rfl rfl ?_
                                        refine W.nil ?_
                                        exact ⟨(gset w11 e20 e13.Value), h, Wk.nrmF0 (B := 2000000) (elem := 3) (sz := 1) (xss := (gset z10 e20 (gset q26 e13.Worker e13.Value))) (c := cI) (L := [(10503, ⟨0, 3, 1, List.map cI (gset w11 e20 e13.Value), true, false, false⟩), (10501, ⟨0, 3, 1, List.map cI (gset w9 e13.Worker (-1)), true, false, false⟩), (10500, ⟨0, 55, 4, [[.int .i64 a2, .own 10501 0, .own 10502 0, .own 10503 0]], false, false, false⟩), (10501, ⟨0, 3, 1, List.map cI w9, true, false, false⟩), (10502, ⟨0, 27, 1, outr 2000000 z10.length, false, false, false⟩), (10503, ⟨0, 3, 1, List.map cI w11, true, false, false⟩), (10504, ⟨0, 44, 4, [[.int .i64 e13.Kind, .int .i64 e13.Worker, .int .i64 e13.Job, .int .i64 e13.Value]], true, false, false⟩), (10505, ⟨0, 25, 2, [[.int .i64 0, .int .i64 0]], true, false, false⟩)]) [131081, 131082, 131083, 131136, 131137, 131138] [(10505, 10700), (10500, 10701), (10501, 10702), (10502, 10703), (10503, 10704)] 10502 rfl rfl rfl rfl rfl (by simp only [gset, List.length_set]) rfl rfl⟩
                                      · replace h := iteF h c30
                                        refine Ev.skip ?_
                                        exact ⟨w11, h, Wk.nrmF0 (B := 2000000) (elem := 3) (sz := 1) (xss := (gset z10 e20 (gset q26 e13.Worker e13.Value))) (c := cI) (L := [(10501, ⟨0, 3, 1, List.map cI (gset w9 e13.Worker (-1)), true, false, false⟩), (10500, ⟨0, 55, 4, [[.int .i64 a2, .own 10501 0, .own 10502 0, .own 10503 0]], false, false, false⟩), (10501, ⟨0, 3, 1, List.map cI w9, true, false, false⟩), (10502, ⟨0, 27, 1, outr 2000000 z10.length, false, false, false⟩), (10503, ⟨0, 3, 1, List.map cI w11, true, false, false⟩), (10504, ⟨0, 44, 4, [[.int .i64 e13.Kind, .int .i64 e13.Worker, .int .i64 e13.Job, .int .i64 e13.Value]], true, false, false⟩), (10505, ⟨0, 25, 2, [[.int .i64 0, .int .i64 0]], true, false, false⟩)]) [131081, 131082, 131083, 131136, 131137, 131138] [(10505, 10700), (10500, 10701), (10501, 10702), (10502, 10703), (10503, 10704)] 10502 rfl rfl rfl rfl rfl (by simp only [gset, List.length_set]) rfl rfl⟩
                              · intro w28 h
                                try dsimp only at h ⊢
                                unfold workers_play_j5 at h
                                refine ⟨_, rfl, ?_⟩
                                refine W.nil ?_
                                exact ⟨((gset w9 e13.Worker (-1)), (gset z10 e20 (gset q26 e13.Worker e13.Value)), w28), h, Wk.nrmF0 (B := 2000000) (elem := 3) (sz := 1) (xss := (gset z10 e20 (gset q26 e13.Worker e13.Value))) (c := cI) (L := [(10700, ⟨0, 25, 2, [[.int .i64 0, .int .i64 0]], true, false, false⟩), (10701, ⟨0, 55, 4, [[.int .i64 a2, .own 10702 0, .own 10703 0, .own 10704 0]], false, false, false⟩), (10702, ⟨0, 3, 1, List.map cI (gset w9 e13.Worker (-1)), true, false, false⟩), (10703, ⟨0, 27, 1, outr 2000000 (gset z10 e20 (gset q26 e13.Worker e13.Value)).length, false, false, false⟩), (10704, ⟨0, 3, 1, List.map cI w28, true, false, false⟩)]) [65545, 65546, 65547, 65600, 65601, 65602] [(10700, 10600), (10701, 10601), (10702, 10602), (10703, 10603), (10704, 10604)] 10703 rfl rfl rfl rfl rfl rfl rfl rfl⟩
                          · replace h := iteF h c20
                            refine Ev.seq ?_
                            refine W.reg hm ?_
                            refine W.eql rfl rfl ?_
                            refine W.mv rfl ?_
                            refine W.nil ?_
                            refine Ev.cond rfl (fun c34 => ?_) (fun c34 => ?_)
                            · replace h := iteT h c34
                              refine Ev.seq ?_
                              refine Ev.seq ?_
                              refine W.reg hm ?_
                              refine W.mv rfl ?_
                              refine W.nilCheckO rfl rfl ?_
                              refine W.loadR (l := w9) (c := cI) (v := e20) (p := .int .i64 e20) rfl rfl rfl (gidx_some k14).2 rfl ?_
                              refine W.eql rfl rfl ?_
                              refine W.nil ?_
                              refine Ev.cond rfl (fun c35 => ?_) (fun c35 => ?_)
                              · replace h := iteT h c35
                                refine Ev.seq ?_
                                refine W.reg hm ?_
                                refine W.mv rfl ?_
                                refine W.nil ?_
                                refine Ev.ret ?_
                                exact ⟨(11, w9, z10, w11), h, Wk.nrmF0 (B := 2000000) (elem := 3) (sz := 1) (xss := z10) (c := cI) (L := [(10500, ⟨0, 55, 4, [[.int .i64 a2, .own 10501 0, .own 10502 0, .own 10503 0]], false, false, false⟩), (10501, ⟨0, 3, 1, List.map cI w9, true, false, false⟩), (10502, ⟨0, 27, 1, outr 2000000 z10.length, false, false, false⟩), (10503, ⟨0, 3, 1, List.map cI w11, true, false, false⟩), (10504, ⟨0, 44, 4, [[.int .i64 e13.Kind, .int .i64 e13.Worker, .int .i64 e13.Job, .int .i64 e13.Value]], true, false, false⟩), (10505, ⟨0, 25, 2, [[.int .i64 0, .int .i64 0]], true, false, false⟩)]) [4, 65545, 65546, 65547, 65600, 65601, 65602] [(10505, 10400), (10500, 10401), (10501, 10402), (10502, 10403), (10503, 10404)] 10502 rfl rfl rfl rfl rfl rfl rfl rfl⟩
                              · replace h := iteF h c35
                                refine Ev.skip ?_
                                refine W.reg hm ?_
                                refine W.mv rfl ?_
                                refine W.nilCheckO rfl rfl ?_
                                refine W.storeR true (l := w9) (c := cI) (v := e20) (v' := (-2)) rfl rfl rfl rfl (gidx_some k14).2 rfl (Nat.le_of_ble_eq_true rfl) rfl rfl rfl ?_
                                refine W.nil ?_
                                exact ⟨((gset w9 e13.Worker (-2)), z10, w11), h, Wk.nrmF0 (B := 2000000) (elem := 3) (sz := 1) (xss := z10) (c := cI) (L := [(10501, ⟨0, 3, 1, List.map cI (gset w9 e13.Worker (-2)), true, false, false⟩), (10500, ⟨0, 55, 4, [[.int .i64 a2, .own 10501 0, .own 10502 0, .own 10503 0]], false, false, false⟩), (10501, ⟨0, 3, 1, List.map cI w9, true, false, false⟩), (10502, ⟨0, 27, 1, outr 2000000 z10.length, false, false, false⟩), (10503, ⟨0, 3, 1, List.map cI w11, true, false, false⟩), (10504, ⟨0, 44, 4, [[.int .i64 e13.Kind, .int .i64 e13.Worker, .int .i64 e13.Job, .int .i64 e13.Value]], true, false, false⟩), (10505, ⟨0, 25, 2, [[.int .i64 0, .int .i64 0]], true, false, false⟩)]) [65545, 65546, 65547, 65600, 65601, 65602] [(10505, 10600), (10500, 10601), (10501, 10602), (10502, 10603), (10503, 10604)] 10502 rfl rfl rfl rfl rfl rfl rfl rfl⟩
                            · replace h := iteF h c34
                              refine Ev.seq ?_
                              refine Ev.seq ?_
                              refine W.reg hm ?_
                              refine W.mv rfl ?_
                              refine W.nilCheckO rfl rfl ?_
                              refine W.loadR (l := w9) (c := cI) (v := e20) (p := .int .i64 e20) rfl rfl rfl (gidx_some k14).2 rfl ?_
                              refine W.neq rfl rfl ?_
                              refine W.nil ?_
                              refine Ev.cond rfl (fun c36 => ?_) (fun c36 => ?_)
                              · replace h := iteT h c36
                                refine Ev.seq ?_
                                refine W.reg hm ?_
                                refine W.mv rfl ?_
                                refine W.nil ?_
                                refine Ev.ret ?_
                                exact ⟨(11, w9, z10, w11), h, Wk.nrmF0 (B := 2000000) (elem := 3) (sz := 1) (xss := z10) (c := cI) (L := [(10500, ⟨0, 55, 4, [[.int .i64 a2, .own 10501 0, .own 10502 0, .own 10503 0]], false, false, false⟩), (10501, ⟨0, 3, 1, List.map cI w9, true, false, false⟩), (10502, ⟨0, 27, 1, outr 2000000 z10.length, false, false, false⟩), (10503, ⟨0, 3, 1, List.map cI w11, true, false, false⟩), (10504, ⟨0, 44, 4, [[.int .i64 e13.Kind, .int .i64 e13.Worker, .int .i64 e13.Job, .int .i64 e13.Value]], true, false, false⟩), (10505, ⟨0, 25, 2, [[.int .i64 0, .int .i64 0]], true, false, false⟩)]) [4, 65545, 65546, 65547, 65600, 65601, 65602] [(10505, 10400), (10500, 10401), (10501, 10402), (10502, 10403), (10503, 10404)] 10502 rfl rfl rfl rfl rfl rfl rfl rfl⟩
                              · replace h := iteF h c36
                                refine Ev.skip ?_
                                refine W.reg hm ?_
                                refine W.mv rfl ?_
                                refine W.nilCheckO rfl rfl ?_
                                refine W.storeR true (l := w9) (c := cI) (v := e20) (v' := (-1)) rfl rfl rfl rfl (gidx_some k14).2 rfl (Nat.le_of_ble_eq_true rfl) rfl rfl rfl ?_
                                refine W.nil ?_
                                exact ⟨((gset w9 e13.Worker (-1)), z10, w11), h, Wk.nrmF0 (B := 2000000) (elem := 3) (sz := 1) (xss := z10) (c := cI) (L := [(10501, ⟨0, 3, 1, List.map cI (gset w9 e13.Worker (-1)), true, false, false⟩), (10500, ⟨0, 55, 4, [[.int .i64 a2, .own 10501 0, .own 10502 0, .own 10503 0]], false, false, false⟩), (10501, ⟨0, 3, 1, List.map cI w9, true, false, false⟩), (10502, ⟨0, 27, 1, outr 2000000 z10.length, false, false, false⟩), (10503, ⟨0, 3, 1, List.map cI w11, true, false, false⟩), (10504, ⟨0, 44, 4, [[.int .i64 e13.Kind, .int .i64 e13.Worker, .int .i64 e13.Job, .int .i64 e13.Value]], true, false, false⟩), (10505, ⟨0, 25, 2, [[.int .i64 0, .int .i64 0]], true, false, false⟩)]) [65545, 65546, 65547, 65600, 65601, 65602] [(10505, 10600), (10500, 10601), (10501, 10602), (10502, 10603), (10503, 10604)] 10502 rfl rfl rfl rfl rfl rfl rfl rfl⟩
                      · intro ⟨w21, z22, w23⟩ h
                        try dsimp only at h ⊢
                        unfold workers_play_j4 at h
                        refine Ev.seq ?_
                        refine W.reg hm ?_
                        refine W.mv rfl ?_
                        refine W.nil ?_
                        refine Ev.ret ?_
                        exact ⟨(0, w21, z22, w23), h, Wk.nrmF0 (B := 2000000) (elem := 3) (sz := 1) (xss := z22) (c := cI) (L := [(10600, ⟨0, 25, 2, [[.int .i64 0, .int .i64 0]], true, false, false⟩), (10601, ⟨0, 55, 4, [[.int .i64 a2, .own 10602 0, .own 10603 0, .own 10604 0]], false, false, false⟩), (10602, ⟨0, 3, 1, List.map cI w21, true, false, false⟩), (10603, ⟨0, 27, 1, outr 2000000 z22.length, false, false, false⟩), (10604, ⟨0, 3, 1, List.map cI w23, true, false, false⟩)]) [4, 65545, 65546, 65547, 65600, 65601, 65602] [(10600, 10400), (10601, 10401), (10602, 10402), (10603, 10403), (10604, 10404)] 10603 rfl rfl rfl rfl rfl rfl rfl rfl⟩
                · intro ⟨x14, w15, z16, w17⟩ h
                  try dsimp only at h ⊢
                  unfold workers_play_j2 at h
                  refine ⟨_, rfl, ?_⟩
                  refine W.mv rfl ?_
                  refine W.nil ?_
                  refine Ev.seq ?_
                  refine W.reg hm ?_
                  refine W.mv rfl ?_
                  refine W.neq rfl rfl ?_
                  refine W.nil ?_
                  refine Ev.cond rfl (fun c11 => ?_) (fun c11 => ?_)
                  · replace h := iteT h c11
                    refine Ev.seq ?_
                    refine W.reg hm ?_
                    refine W.mv rfl ?_
                    refine W.mv rfl ?_
                    refine W.build (cs := [.int .i64 x14, .int .i64 x12]) rfl rfl rfl ?_
                    refine W.mv rfl ?_
                    refine W.store (es' := [[.int .i64 x14, .int .i64 x12]]) (dt := true) rfl rfl rfl rfl rfl (Nat.le_of_ble_eq_true rfl) rfl rfl rfl rfl ?_
                    refine W.nil ?_
                    refine Ev.ret ?_
                    injection h with h; subst h
                    exact ⟨_, rfl, .refl _⟩
                  · replace h := iteF h c11
                    refine Ev.skip ?_
                    refine W.reg hm ?_
                    obtain ⟨x18, k12, h⟩ := obind h
                    refine W.addG rfl rfl k12 ?_
                    refine W.mv rfl ?_
                    refine W.nil ?_
                    exact ⟨(m2, w15, z16, w17, x18), h, Nat.lt_succ_self _, Wk.nrmF0 (B := 2000000) (elem := 3) (sz := 1) (xss := z16) (c := cI) (L := [(10400, ⟨0, 25, 2, [[.int .i64 0, .int .i64 0]], true, false, false⟩), (10401, ⟨0, 55, 4, [[.int .i64 a2, .own 10402 0, .own 10403 0, .own 10404 0]], false, false, false⟩), (10402, ⟨0, 3, 1, List.map cI w15, true, false, false⟩), (10403, ⟨0, 27, 1, outr 2000000 z16.length, false, false, false⟩), (10404, ⟨0, 3, 1, List.map cI w17, true, false, false⟩)]) [9, 10, 64, 65, 66] [(10400, 10300), (10401, 10301), (10402, 10302), (10403, 10303), (10404, 10304)] 10403 rfl rfl rfl rfl rfl rfl rfl rfl⟩
              · replace h := iteF h c9
                refine Ev.exit ?_
                refine Ev.seq ?_
                refine W.reg hm ?_
                refine W.mv rfl ?_
                refine W.build (cs := [.int .i64 0, .int .i64 0]) rfl rfl rfl ?_
                refine W.mv rfl ?_
                refine W.store (es' := [[.int .i64 0, .int .i64 0]]) (dt := true) rfl rfl rfl rfl rfl (Nat.le_of_ble_eq_true rfl) rfl rfl rfl rfl ?_
                refine W.nil ?_
                refine Ev.weak ?_ (Wk.frzF (B := 2000000) 10303 0 (xss := z10) (elem := 3) (sz := 1) (c := cI) (L := [(10300, ⟨0, 25, 2, [[.int .i64 0, .int .i64 0]], true, false, false⟩), (10300, ⟨0, 25, 2, [[.int .i64 0, .int .i64 0]], true, false, false⟩), (10301, ⟨0, 55, 4, [[.int .i64 a2, .own 10302 0, .own 10303 0, .own 10304 0]], false, false, false⟩), (10302, ⟨0, 3, 1, List.map cI w9, true, false, false⟩), (10303, ⟨0, 27, 1, outr 2000000 z10.length, false, false, false⟩), (10304, ⟨0, 3, 1, List.map cI w11, true, false, false⟩)]) rfl rfl rfl rfl rfl)
                refine Ev.weak ?_ (Wk.frz 10302 0 rfl rfl)
                refine Ev.weak ?_ (Wk.frz 10304 0 rfl rfl)
                refine Ev.weak ?_ (Wk.frz 10301 0 rfl rfl)
                refine Ev.ret ?_
                injection h with h; subst h
                exact ⟨_, rfl, .refl _⟩

theorem workers_Play_spec (n : Nat) (a0 : Int) (a1 : Int) (a2 : Int) (a3 : List SKindWorkerJobValue) (r : ((List Int) × SCodeIndex)) (h : workers_Play n a0 a1 a2 a3 = some r) : PSpec Try.prog 11 [.int .i64 a0, .int .i64 a1, .int .i64 a2, .list 4 (List.map SKindWorkerJobValue.cells a3)] (.tup [.list 1 (List.map cI r.1), .agg (SCodeIndex.cells r.2)]) := by
  unfold workers_Play at h
  refine spec_of Try.c_workers_Play (by simp) ?_
  unfold Try.l_workers_Play
  refine Ev.seq ?_
  refine W.reg hm ?_
  refine W.mv rfl ?_
  refine W.alloc (dt := true) rfl rfl rfl ?_
  refine W.nil ?_
  refine Ev.seq ?_
  refine W.reg hm ?_
  refine W.mv rfl ?_
  refine W.mv rfl ?_
  refine W.mv rfl ?_
  refine W.mv rfl ?_
  obtain ⟨r1, k1, h⟩ := obind h
  refine W.call (workers_play_spec n a0 a1 a2 a3 r1 k1) rfl rfl (Les.refl _) rfl (.inl rfl) rfl ?_
  refine W.mv rfl ?_
  refine W.extract rfl rfl ?_
  refine W.extract rfl rfl ?_
  refine W.alloc (dt := true) rfl rfl rfl ?_
  refine W.mv rfl ?_
  refine W.store (es' := [[.int .i64 r1.2.Code, .int .i64 r1.2.Index]]) (dt := true) rfl rfl rfl rfl rfl (Nat.le_of_ble_eq_true rfl) rfl rfl rfl rfl ?_
  refine W.nil ?_
  refine Ev.seq ?_
  refine Ev.seq ?_
  refine W.reg hm ?_
  refine W.loadO (p := .agg [.int .i64 r1.2.Code, .int .i64 r1.2.Index]) rfl rfl rfl rfl ?_
  refine W.build (cs := [.int .i64 0, .int .i64 0]) rfl rfl rfl ?_
  refine W.eqs rfl rfl rfl ?_
  refine W.nil ?_
  refine Ev.cond rfl (fun c2 => ?_) (fun c2 => ?_)
  · replace h := iteT h c2
    refine Ev.seq ?_
    refine W.regD hm ?_
    refine W.loadO (p := .agg [.int .i64 r1.2.Code, .int .i64 r1.2.Index]) rfl rfl rfl rfl ?_
    refine W.mv rfl ?_
    refine W.store (es' := [[.int .i64 r1.2.Code, .int .i64 r1.2.Index]]) (dt := true) rfl rfl rfl rfl rfl (Nat.le_of_ble_eq_true rfl) rfl rfl rfl rfl ?_
    refine W.nil ⟨rfl, ?_⟩
    refine Ev.ret ?_
    injection h with h; subst h
    exact ⟨_, rfl, Le.tups (.cons (.nils 1) (.cons (.refl _) (.nil)))⟩
  · replace h := iteF h c2
    refine Ev.skip ?_
    refine Ev.seq ?_
    refine W.reg hm ?_
    refine W.mv rfl ?_
    obtain ⟨p2, k3, h⟩ := obind h
    refine W.nilCheck (show PW.lx _ _ = _ from congrArg some (pptr_some k3)) ?_
    refine W.fieldAddr rfl ?_
    refine W.load rfl rfl ?_
    refine W.build (cs := [.int .i64 0, .int .i64 0]) rfl rfl rfl ?_
    refine W.mv rfl ?_
    refine W.store (es' := [[.int .i64 0, .int .i64 0]]) (dt := true) rfl rfl rfl rfl rfl (Nat.le_of_ble_eq_true rfl) rfl rfl rfl rfl ?_
    refine W.nil ?_
    refine Ev.ret ?_
    injection h with h; subst h
    exact ⟨_, rfl, .refl _⟩

theorem law6_fault_spec (n : Nat) (a0 : Int) (a1 : Int) (r : SCodeIndex) (h : law6_fault n a0 a1 = some r) : PSpec Try.prog 14 [.int .i64 a0, .int .i64 a1] (.agg (SCodeIndex.cells r)) := by
  unfold law6_fault at h
  refine spec_of Try.c_law6_fault (by simp) ?_
  unfold Try.l_law6_fault
  refine Ev.seq ?_
  refine W.reg hm ?_
  refine W.alloc (dt := true) rfl rfl rfl ?_
  refine W.nil ?_
  refine Ev.seq ?_
  refine W.reg hm ?_
  refine W.mv rfl ?_
  refine W.mv rfl ?_
  refine W.build (cs := [.int .i64 a0, .int .i64 a1]) rfl rfl rfl ?_
  refine W.store (es' := [[.int .i64 a0, .int .i64 a1]]) (dt := true) rfl rfl rfl rfl rfl (Nat.le_of_ble_eq_true rfl) rfl rfl rfl rfl ?_
  refine W.nil ?_
  refine Ev.ret ?_
  injection h with h; subst h
  exact ⟨_, rfl, .refl _⟩

theorem workers_Reports_spec (n : Nat) (a0 : Int) (a1 : Int) (a2 : Int) (a3 : List SKindWorkerJobValue) (a4 : Int) (r : ((List Int) × SCodeIndex)) (h : workers_Reports n a0 a1 a2 a3 a4 = some r) : PSpec Try.prog 15 [.int .i64 a0, .int .i64 a1, .int .i64 a2, .list 4 (List.map SKindWorkerJobValue.cells a3), .int .i64 a4] (.tup [.list 1 (List.map cI r.1), .agg (SCodeIndex.cells r.2)]) := by
  unfold workers_Reports at h
  refine spec_of Try.c_workers_Reports (by simp) ?_
  unfold Try.l_workers_Reports
  refine Ev.seq ?_
  refine W.reg hm ?_
  refine W.mv rfl ?_
  refine W.alloc (dt := true) rfl rfl rfl ?_
  refine W.nil ?_
  refine Ev.seq ?_
  refine W.reg hm ?_
  refine W.mv rfl ?_
  refine W.mv rfl ?_
  refine W.mv rfl ?_
  refine W.mv rfl ?_
  obtain ⟨r1, k1, h⟩ := obind h
  refine W.call (workers_play_spec n a0 a1 a2 a3 r1 k1) rfl rfl (Les.refl _) rfl (.inl rfl) rfl ?_
  refine W.mv rfl ?_
  refine W.extract rfl rfl ?_
  refine W.extract rfl rfl ?_
  refine W.alloc (dt := true) rfl rfl rfl ?_
  refine W.mv rfl ?_
  refine W.store (es' := [[.int .i64 r1.2.Code, .int .i64 r1.2.Index]]) (dt := true) rfl rfl rfl rfl rfl (Nat.le_of_ble_eq_true rfl) rfl rfl rfl rfl ?_
  refine W.nil ?_
  refine Ev.seq ?_
  refine Ev.seq ?_
  refine W.reg hm ?_
  refine W.loadO (p := .agg [.int .i64 r1.2.Code, .int .i64 r1.2.Index]) rfl rfl rfl rfl ?_
  refine W.build (cs := [.int .i64 0, .int .i64 0]) rfl rfl rfl ?_
  refine W.eqs rfl rfl rfl ?_
  refine W.nil ?_
  refine Ev.cond rfl (fun c2 => ?_) (fun c2 => ?_)
  · replace h := iteT h c2
    refine Ev.seq ?_
    refine W.regD hm ?_
    refine W.loadO (p := .agg [.int .i64 r1.2.Code, .int .i64 r1.2.Index]) rfl rfl rfl rfl ?_
    refine W.mv rfl ?_
    refine W.store (es' := [[.int .i64 r1.2.Code, .int .i64 r1.2.Index]]) (dt := true) rfl rfl rfl rfl rfl (Nat.le_of_ble_eq_true rfl) rfl rfl rfl rfl ?_
    refine W.nil ⟨rfl, ?_⟩
    refine Ev.ret ?_
    injection h with h; subst h
    exact ⟨_, rfl, Le.tups (.cons (.nils 1) (.cons (.refl _) (.nil)))⟩
  · replace h := iteF h c2
    refine Ev.skip ?_
    refine Ev.seq ?_
    refine Ev.seqJ (γ := Bool) (fun v => ⟨[(4, .int .i64 a4), (11, .pown 10100 0 0 0), (12, pptr SNeedStateReportsValues.cells r1.1), (32, .bool v)], [(10100, ⟨0, 25, 2, [[.int .i64 0, .int .i64 0]], true, false, false⟩)], 2⟩) (fun v => workers_Reports_j1 n a4 r1 v = some r) ?_ ?_
    · refine W.reg hm ?_
      refine W.mv rfl ?_
      refine W.lss rfl rfl ?_
      refine W.mv rfl ?_
      refine W.split 28 rfl (fun c6 => ?_) (fun c6 => ?_)
      · replace h := iteT h c6
        refine W.guardF2 rfl c6 ?_
        refine W.guardF2 rfl c6 ?_
        refine W.guardF2 rfl c6 ?_
        refine W.pickT rfl rfl rfl c6 ?_
        refine W.nil ?_
        exact ⟨true, h, Wk.nrmTo [4, 11, 12, 32] [(11, 10100)] (by generalize r1.1 = o; cases o <;> rfl) rfl⟩
      · replace h := iteF h c6
        refine W.guardT rfl c6 ?_
        refine W.mv rfl ?_
        refine W.guardT rfl c6 ?_
        refine W.mv rfl ?_
        refine W.guardT rfl c6 ?_
        refine W.geq rfl rfl ?_
        refine W.pickN rfl rfl rfl c6 ?_
        refine W.nil ?_
        exact ⟨(decide (a0 ≤ a4)), h, Wk.nrmTo [4, 11, 12, 32] [(11, 10100)] (by generalize r1.1 = o; cases o <;> rfl) rfl⟩
    · intro x2 h
      try dsimp only at h ⊢
      unfold workers_Reports_j1 at h
      refine Ev.cond rfl (fun c3 => ?_) (fun c3 => ?_)
      · replace h := iteT h c3
        refine Ev.seq ?_
        refine W.reg hm ?_
        refine W.build (cs := [.int .i64 3, .int .i64 (-2)]) rfl rfl rfl ?_
        refine W.mv rfl ?_
        refine W.store (es' := [[.int .i64 3, .int .i64 (-2)]]) (dt := true) rfl rfl rfl rfl rfl (Nat.le_of_ble_eq_true rfl) rfl rfl rfl rfl ?_
        refine W.nil ?_
        refine Ev.ret ?_
        injection h with h; subst h
        exact ⟨_, rfl, Le.tups (.cons (.nils 1) (.cons (.refl _) (.nil)))⟩
      · replace h := iteF h c3
        refine Ev.skip ?_
        refine Ev.seq ?_
        refine W.reg hm ?_
        refine W.mv rfl ?_
        obtain ⟨p3, k4, h⟩ := obind h
        refine W.nilCheck (show PW.lx _ _ = _ from congrArg some (pptr_some k4)) ?_
        refine W.fieldAddr rfl ?_
        refine W.load rfl rfl ?_
        refine W.mv rfl ?_
        obtain ⟨e4, k5, h⟩ := obind h
        refine W.idxL (c := (cL 1 cI)) rfl rfl k5 ?_
        refine W.load rfl rfl ?_
        refine W.build (cs := [.int .i64 0, .int .i64 0]) rfl rfl rfl ?_
        refine W.mv rfl ?_
        refine W.store (es' := [[.int .i64 0, .int .i64 0]]) (dt := true) rfl rfl rfl rfl rfl (Nat.le_of_ble_eq_true rfl) rfl rfl rfl rfl ?_
        refine W.nil ?_
        refine Ev.ret ?_
        injection h with h; subst h
        exact ⟨_, rfl, .refl _⟩

theorem workers_Next_spec (n : Nat) (a0 : Int) (a1 : Int) (a2 : Int) (a3 : List SKindWorkerJobValue) (r : (Int × Int × Bool × SCodeIndex)) (h : workers_Next n a0 a1 a2 a3 = some r) : PSpec Try.prog 17 [.int .i64 a0, .int .i64 a1, .int .i64 a2, .list 4 (List.map SKindWorkerJobValue.cells a3)] (.tup [.int .i64 r.1, .int .i64 r.2.1, .bool r.2.2.1, .agg (SCodeIndex.cells r.2.2.2)]) := by
  unfold workers_Next at h
  refine spec_of Try.c_workers_Next (by simp) ?_
  unfold Try.l_workers_Next
  refine Ev.seq ?_
  refine W.reg hm ?_
  refine W.mv rfl ?_
  refine W.mv rfl ?_
  refine W.mv rfl ?_
  refine W.alloc (dt := true) rfl rfl rfl ?_
  refine W.nil ?_
  refine Ev.seq ?_
  refine W.reg hm ?_
  refine W.mv rfl ?_
  refine W.mv rfl ?_
  refine W.mv rfl ?_
  refine W.mv rfl ?_
  obtain ⟨r1, k1, h⟩ := obind h
  refine W.call (workers_play_spec n a0 a1 a2 a3 r1 k1) rfl rfl (Les.refl _) rfl (.inl rfl) rfl ?_
  refine W.mv rfl ?_
  refine W.extract rfl rfl ?_
  refine W.extract rfl rfl ?_
  refine W.alloc (dt := true) rfl rfl rfl ?_
  refine W.mv rfl ?_
  refine W.store (es' := [[.int .i64 r1.2.Code, .int .i64 r1.2.Index]]) (dt := true) rfl rfl rfl rfl rfl (Nat.le_of_ble_eq_true rfl) rfl rfl rfl rfl ?_
  refine W.nil ?_
  refine Ev.seq ?_
  refine Ev.seq ?_
  refine W.reg hm ?_
  refine W.loadO (p := .agg [.int .i64 r1.2.Code, .int .i64 r1.2.Index]) rfl rfl rfl rfl ?_
  refine W.build (cs := [.int .i64 0, .int .i64 0]) rfl rfl rfl ?_
  refine W.eqs rfl rfl rfl ?_
  refine W.nil ?_
  refine Ev.cond rfl (fun c2 => ?_) (fun c2 => ?_)
  · replace h := iteT h c2
    refine Ev.seq ?_
    refine W.regD hm ?_
    refine W.loadO (p := .agg [.int .i64 r1.2.Code, .int .i64 r1.2.Index]) rfl rfl rfl rfl ?_
    refine W.mv rfl ?_
    refine W.mv rfl ?_
    refine W.mv rfl ?_
    refine W.store (es' := [[.int .i64 r1.2.Code, .int .i64 r1.2.Index]]) (dt := true) rfl rfl rfl rfl rfl (Nat.le_of_ble_eq_true rfl) rfl rfl rfl rfl ?_
    refine W.nil ⟨rfl, ?_⟩
    refine Ev.ret ?_
    injection h with h; subst h
    exact ⟨_, rfl, .refl _⟩
  · replace h := iteF h c2
    refine Ev.skip ?_
    refine Ev.seq ?_
    refine Ev.seq ?_
    refine W.reg hm ?_
    refine W.mv rfl ?_
    refine W.mv rfl ?_
    refine W.nil ?_
    refine Ev.block ?_
    refine Ev.loopW (β := Nat × Int) (fun v => ⟨[(1, .int .i64 a1), (11, .pown 10100 0 0 0), (12, pptr SNeedStateReportsValues.cells r1.1), (28, .int .i64 a0), (29, .int .i64 v.2)], [(10100, ⟨0, 25, 2, [[.int .i64 0, .int .i64 0]], true, false, false⟩)], 2⟩) (fun v => workers_Next_l1 n a0 a1 r1 v.1 v.2 = some r) (fun v => v.1) (n, 0) (Wk.nrmTo [1, 11, 12, 28, 29] [(11, 10100)] (by generalize r1.1 = o; cases o <;> rfl) rfl) h ?_
    intro ⟨m1, x2⟩ h
    try dsimp only at h ⊢
    cases m1 with
    | zero => rw [workers_Next_l1] at h; cases h
    | succ m1 =>
      rw [workers_Next_l1] at h
      refine Ev.seq ?_
      refine W.reg hm ?_
      refine W.lss rfl rfl ?_
      refine W.nil ?_
      refine Ev.seq ?_
      refine Ev.cond rfl (fun c3 => ?_) (fun c3 => ?_)
      · replace h := iteT h c3
        refine Ev.skip ?_
        refine Ev.seq ?_
        refine Ev.block ?_
        refine Ev.seq ?_
        refine W.reg hm ?_
        refine W.mv rfl ?_
        refine W.mv rfl ?_
        refine W.nil ?_
        refine Ev.seq ?_
        refine W.reg hm ?_
        refine W.mv rfl ?_
        refine W.mv rfl ?_
        refine W.nil ?_
        refine Ev.block ?_
        refine Ev.loopW (β := Nat × Int) (fun v => ⟨[(1, .int .i64 a1), (11, .pown 10200 0 0 0), (12, pptr SNeedStateReportsValues.cells r1.1), (14, .int .i64 x2), (28, .int .i64 a0), (29, .int .i64 x2), (32, .int .i64 a1), (33, .int .i64 v.2)], [(10200, ⟨0, 25, 2, [[.int .i64 0, .int .i64 0]], true, false, false⟩)], 2⟩) (fun v => workers_Next_l2 n a1 r1 x2 (workers_Next_l1 n a0 a1 r1 m1) v.1 v.2 = some r) (fun v => v.1) (n, 0) (Wk.nrmTo [1, 11, 12, 14, 28, 29, 32, 33] [(10100, 10200)] (by generalize r1.1 = o; cases o <;> rfl) rfl) h ?_
        intro ⟨m2, x3⟩ h
        try dsimp only at h ⊢
        cases m2 with
        | zero => rw [workers_Next_l2] at h; cases h
        | succ m2 =>
          rw [workers_Next_l2] at h
          refine Ev.seq ?_
          refine W.reg hm ?_
          refine W.lss rfl rfl ?_
          refine W.nil ?_
          refine Ev.seq ?_
          refine Ev.cond rfl (fun c4 => ?_) (fun c4 => ?_)
          · replace h := iteT h c4
            refine Ev.skip ?_
            refine Ev.seq ?_
            refine Ev.block ?_
            refine Ev.seq ?_
            refine W.reg hm ?_
            refine W.mv rfl ?_
            refine W.mv rfl ?_
            refine W.nil ?_
            refine Ev.seqJ (γ := Bool) (fun v => ⟨[(1, .int .i64 a1), (11, .pown 10300 0 0 0), (12, pptr SNeedStateReportsValues.cells r1.1), (14, .int .i64 x2), (15, .int .i64 x3), (28, .int .i64 a0), (29, .int .i64 x2), (32, .int .i64 a1), (33, .int .i64 x3), (66, .bool v)], [(10300, ⟨0, 25, 2, [[.int .i64 0, .int .i64 0]], true, false, false⟩)], 2⟩) (fun v => workers_Next_j1 n x2 x3 (workers_Next_l2 n a1 r1 x2 (workers_Next_l1 n a0 a1 r1 m1) m2) v = some r) ?_ ?_
            · refine W.reg hm ?_
              refine W.mv rfl ?_
              obtain ⟨p6, k7, h⟩ := obind h
              refine W.nilCheck (show PW.lx _ _ = _ from congrArg some (pptr_some k7)) ?_
              refine W.fieldAddr rfl ?_
              refine W.load rfl rfl ?_
              refine W.mv rfl ?_
              obtain ⟨e7, k8, h⟩ := obind h
              refine W.idxL (c := cI) rfl rfl k8 ?_
              refine W.load rfl rfl ?_
              refine W.lss rfl rfl ?_
              refine W.mv rfl ?_
              refine W.split 44 rfl (fun c9 => ?_) (fun c9 => ?_)
              · replace h := iteT h c9
                refine W.guardT rfl c9 ?_
                refine W.mv rfl ?_
                refine W.guardT rfl c9 ?_
                refine W.nilCheck (show PW.lx _ _ = _ from congrArg some (pptr_some k7)) ?_
                refine W.guardT rfl c9 ?_
                refine W.fieldAddr rfl ?_
                refine W.guardT rfl c9 ?_
                refine W.load rfl rfl ?_
                refine W.guardT rfl c9 ?_
                refine W.mv rfl ?_
                refine W.guardT rfl c9 ?_
                obtain ⟨e8, k10, h⟩ := obind h
                refine W.idxL (c := cI) rfl rfl k10 ?_
                refine W.guardT rfl c9 ?_
                refine W.load rfl rfl ?_
                refine W.guardT rfl c9 ?_
                refine W.eql rfl rfl ?_
                refine W.pickT rfl rfl rfl c9 ?_
                refine W.mv rfl ?_
                refine W.split 54 rfl (fun c11 => ?_) (fun c11 => ?_)
                · replace h := iteT h c11
                  refine W.guardT rfl c11 ?_
                  refine W.mv rfl ?_
                  refine W.guardT rfl c11 ?_
                  refine W.nilCheck (show PW.lx _ _ = _ from congrArg some (pptr_some k7)) ?_
                  refine W.guardT rfl c11 ?_
                  refine W.fieldAddr rfl ?_
                  refine W.guardT rfl c11 ?_
                  refine W.load rfl rfl ?_
                  refine W.guardT rfl c11 ?_
                  refine W.mv rfl ?_
                  refine W.guardT rfl c11 ?_
                  obtain ⟨e9, k12, h⟩ := obind h
                  refine W.idxL (c := (cL 1 cI)) rfl rfl k12 ?_
                  refine W.guardT rfl c11 ?_
                  refine W.load rfl rfl ?_
                  refine W.guardT rfl c11 ?_
                  refine W.mv rfl ?_
                  refine W.guardT rfl c11 ?_
                  obtain ⟨e10, k13, h⟩ := obind h
                  refine W.idxL (c := cI) rfl rfl k13 ?_
                  refine W.guardT rfl c11 ?_
                  refine W.load rfl rfl ?_
                  refine W.guardT rfl c11 ?_
                  refine W.lss rfl rfl ?_
                  refine W.pickT rfl rfl rfl c11 ?_
                  refine W.nil ?_
                  exact ⟨(decide (e10 < 0)), h, Wk.nrmTo [1, 11, 12, 14, 15, 28, 29, 32, 33, 66] [(10200, 10300)] (by generalize r1.1 = o; cases o <;> rfl) rfl⟩
                · replace h := iteF h c11
                  refine W.guardF1 rfl c11 ?_
                  refine W.guardF1 rfl c11 ?_
                  refine W.guardF1 rfl c11 ?_
                  refine W.guardF1 rfl c11 ?_
                  refine W.guardF1 rfl c11 ?_
                  refine W.guardF1 rfl c11 ?_
                  refine W.guardF1 rfl c11 ?_
                  refine W.guardF1 rfl c11 ?_
                  refine W.guardF1 rfl c11 ?_
                  refine W.guardF1 rfl c11 ?_
                  refine W.guardF1 rfl c11 ?_
                  refine W.pickN rfl rfl rfl c11 ?_
                  refine W.nil ?_
                  exact ⟨false, h, Wk.nrmTo [1, 11, 12, 14, 15, 28, 29, 32, 33, 66] [(10200, 10300)] (by generalize r1.1 = o; cases o <;> rfl) rfl⟩
              · replace h := iteF h c9
                refine W.guardF1 rfl c9 ?_
                refine W.guardF1 rfl c9 ?_
                refine W.guardF1 rfl c9 ?_
                refine W.guardF1 rfl c9 ?_
                refine W.guardF1 rfl c9 ?_
                refine W.guardF1 rfl c9 ?_
                refine W.guardF1 rfl c9 ?_
                refine W.guardF1 rfl c9 ?_
                refine W.pickN rfl rfl rfl c9 ?_
                refine W.mv rfl ?_
                refine W.guardF1 rfl rfl ?_
                refine W.guardF1 rfl rfl ?_
                refine W.guardF1 rfl rfl ?_
                refine W.guardF1 rfl rfl ?_
                refine W.guardF1 rfl rfl ?_
                refine W.guardF1 rfl rfl ?_
                refine W.guardF1 rfl rfl ?_
                refine W.guardF1 rfl rfl ?_
                refine W.guardF1 rfl rfl ?_
                refine W.guardF1 rfl rfl ?_
                refine W.guardF1 rfl rfl ?_
                refine W.pickN rfl rfl rfl rfl ?_
                refine W.nil ?_
                exact ⟨false, h, Wk.nrmTo [1, 11, 12, 14, 15, 28, 29, 32, 33, 66] [(10200, 10300)] (by generalize r1.1 = o; cases o <;> rfl) rfl⟩
            · intro x4 h
              try dsimp only at h ⊢
              unfold workers_Next_j1 at h
              refine Ev.cond rfl (fun c5 => ?_) (fun c5 => ?_)
              · replace h := iteT h c5
                refine Ev.seq ?_
                refine W.reg hm ?_
                refine W.mv rfl ?_
                refine W.mv rfl ?_
                refine W.build (cs := [.int .i64 0, .int .i64 0]) rfl rfl rfl ?_
                refine W.mv rfl ?_
                refine W.mv rfl ?_
                refine W.mv rfl ?_
                refine W.store (es' := [[.int .i64 0, .int .i64 0]]) (dt := true) rfl rfl rfl rfl rfl (Nat.le_of_ble_eq_true rfl) rfl rfl rfl rfl ?_
                refine W.nil ?_
                refine Ev.ret ?_
                injection h with h; subst h
                exact ⟨_, rfl, .refl _⟩
              · replace h := iteF h c5
                refine Ev.skip ?_
                refine W.reg hm ?_
                obtain ⟨x5, k6, h⟩ := obind h
                refine W.addG rfl rfl k6 ?_
                refine W.mv rfl ?_
                refine W.nil ?_
                exact ⟨(m2, x5), h, Nat.lt_succ_self _, Wk.nrmTo [1, 11, 12, 14, 28, 29, 32, 33] [(10300, 10200)] (by generalize r1.1 = o; cases o <;> rfl) rfl⟩
          · replace h := iteF h c4
            refine Ev.exit ?_
            refine W.reg hm ?_
            obtain ⟨x11, k14, h⟩ := obind h
            refine W.addG rfl rfl k14 ?_
            refine W.mv rfl ?_
            refine W.nil ?_
            exact ⟨(m1, x11), h, Nat.lt_succ_self _, Wk.nrmTo [1, 11, 12, 28, 29] [(10200, 10100)] (by generalize r1.1 = o; cases o <;> rfl) rfl⟩
      · replace h := iteF h c3
        refine Ev.exit ?_
        refine Ev.seq ?_
        refine W.reg hm ?_
        refine W.build (cs := [.int .i64 0, .int .i64 0]) rfl rfl rfl ?_
        refine W.mv rfl ?_
        refine W.mv rfl ?_
        refine W.mv rfl ?_
        refine W.store (es' := [[.int .i64 0, .int .i64 0]]) (dt := true) rfl rfl rfl rfl rfl (Nat.le_of_ble_eq_true rfl) rfl rfl rfl rfl ?_
        refine W.nil ?_
        refine Ev.ret ?_
        injection h with h; subst h
        exact ⟨_, rfl, .refl _⟩

theorem law6_shift_spec (n : Nat) (r : (List SKindWorkerJobValue)) (h : law6_shift n = some r) : PSpec Try.prog 21 [] (.list 4 (List.map SKindWorkerJobValue.cells r)) := by
  unfold law6_shift at h
  refine spec_of Try.c_law6_shift (by simp) ?_
  unfold Try.l_law6_shift
  refine Ev.seq ?_
  refine W.reg hm ?_
  refine W.mv rfl ?_
  refine W.nil ?_
  refine Ev.seq ?_
  refine W.reg hm ?_
  refine W.build (cs := [.int .i64 1, .int .i64 0, .int .i64 0, .int .i64 0]) rfl rfl rfl ?_
  refine W.build (cs := [.int .i64 2, .int .i64 0, .int .i64 0, .int .i64 8]) rfl rfl rfl ?_
  refine W.build (cs := [.int .i64 1, .int .i64 1, .int .i64 0, .int .i64 0]) rfl rfl rfl ?_
  refine W.build (cs := [.int .i64 2, .int .i64 1, .int .i64 0, .int .i64 7]) rfl rfl rfl ?_
  refine W.build (cs := [.int .i64 1, .int .i64 2, .int .i64 0, .int .i64 0]) rfl rfl rfl ?_
  refine W.build (cs := [.int .i64 2, .int .i64 2, .int .i64 0, .int .i64 7]) rfl rfl rfl ?_
  refine W.mkSlice (dt := true) (es := [[.int .i64 1, .int .i64 0, .int .i64 0, .int .i64 0], [.int .i64 2, .int .i64 0, .int .i64 0, .int .i64 8], [.int .i64 1, .int .i64 1, .int .i64 0, .int .i64 0], [.int .i64 2, .int .i64 1, .int .i64 0, .int .i64 7], [.int .i64 1, .int .i64 2, .int .i64 0, .int .i64 0], [.int .i64 2, .int .i64 2, .int .i64 0, .int .i64 7]]) rfl rfl rfl rfl rfl rfl ?_
  refine W.mv rfl ?_
  refine W.nil ?_
  refine Ev.ret ?_
  injection h with h; subst h
  exact ⟨_, rfl, .refl _⟩

theorem ref5_Ints_spec (n : Nat) (a0 : List Int) (a1 : List Int) (r : Bool) (h : ref5_Ints n a0 a1 = some r) : PSpec Try.prog 22 [.list 1 (List.map cI a0), .list 1 (List.map cI a1)] (.bool r) := by
  unfold ref5_Ints at h
  refine spec_of Try.c_ref5_Ints (by simp) ?_
  unfold Try.l_ref5_Ints
  refine Ev.seq ?_
  refine W.reg hm ?_
  refine W.mv rfl ?_
  refine W.nil ?_
  refine Ev.seq ?_
  refine Ev.seq ?_
  refine W.reg hm ?_
  refine W.mv rfl ?_
  refine W.lenL (c := cI) rfl ?_
  refine W.mv rfl ?_
  refine W.lenL (c := cI) rfl ?_
  refine W.neq rfl rfl ?_
  refine W.nil ?_
  refine Ev.cond rfl (fun c1 => ?_) (fun c1 => ?_)
  · replace h := iteT h c1
    refine Ev.seq ?_
    refine W.reg hm ?_
    refine W.mv rfl ?_
    refine W.nil ?_
    refine Ev.ret ?_
    injection h with h; subst h
    exact ⟨_, rfl, .refl _⟩
  · replace h := iteF h c1
    refine Ev.skip ?_
    refine Ev.seq ?_
    refine Ev.seq ?_
    refine W.reg hm ?_
    refine W.mv rfl ?_
    refine W.nil ?_
    refine Ev.block ?_
    refine Ev.loopW (β := Nat × Int) (fun v => ⟨[(0, .list 1 (List.map cI a0)), (1, .list 1 (List.map cI a1)), (5, .int .i64 v.2)], [], 2⟩) (fun v => ref5_Ints_l1 n a0 a1 v.1 v.2 = some r) (fun v => v.1) (n, 0) (Wk.nrmTo [0, 1, 5] [] rfl rfl) h ?_
    intro ⟨m1, x1⟩ h
    try dsimp only at h ⊢
    cases m1 with
    | zero => rw [ref5_Ints_l1] at h; cases h
    | succ m1 =>
      rw [ref5_Ints_l1] at h
      refine Ev.seq ?_
      refine Ev.seq ?_
      refine W.reg hm ?_
      refine W.mv rfl ?_
      refine W.mv rfl ?_
      refine W.lenL (c := cI) rfl ?_
      refine W.lss rfl rfl ?_
      refine W.nil ?_
      refine Ev.cond rfl (fun c2 => ?_) (fun c2 => ?_)
      · replace h := iteT h c2
        refine Ev.skip ?_
        refine Ev.seq ?_
        refine Ev.block ?_
        refine Ev.seq ?_
        refine W.regD hm ?_
        refine W.mv rfl ?_
        refine W.mv rfl ?_
        obtain ⟨e2, k3, h⟩ := obind h
        refine W.idxL (c := cI) rfl rfl k3 ?_
        refine W.load rfl rfl ?_
        refine W.mv rfl ?_
        refine W.mv rfl ?_
        obtain ⟨e3, k4, h⟩ := obind h
        refine W.idxL (c := cI) rfl rfl k4 ?_
        refine W.load rfl rfl ?_
        refine W.neq rfl rfl ?_
        refine W.nil ⟨rfl, ?_⟩
        refine Ev.cond rfl (fun c5 => ?_) (fun c5 => ?_)
        · replace h := iteT h c5
          refine Ev.seq ?_
          refine W.reg hm ?_
          refine W.mv rfl ?_
          refine W.nil ?_
          refine Ev.ret ?_
          injection h with h; subst h
          exact ⟨_, rfl, .refl _⟩
        · replace h := iteF h c5
          refine Ev.skip ?_
          refine W.reg hm ?_
          refine W.mv rfl ?_
          obtain ⟨x4, k6, h⟩ := obind h
          refine W.addG rfl rfl k6 ?_
          refine W.mv rfl ?_
          refine W.nil ?_
          exact ⟨(m1, x4), h, Nat.lt_succ_self _, Wk.nrmTo [0, 1, 5] [] rfl rfl⟩
      · replace h := iteF h c2
        refine Ev.exit ?_
        refine Ev.seq ?_
        refine W.reg hm ?_
        refine W.mv rfl ?_
        refine W.nil ?_
        refine Ev.ret ?_
        injection h with h; subst h
        exact ⟨_, rfl, .refl _⟩

theorem law6_farms_spec (n : Nat) (r : Bool) (h : law6_farms n = some r) : PSpec Try.prog 9 [] (.bool r) := by
  unfold law6_farms at h
  refine spec_of Try.c_law6_farms (by simp) ?_
  unfold Try.l_law6_farms
  refine Ev.seq ?_
  refine W.reg hm ?_
  refine W.mv rfl ?_
  refine W.nil ?_
  refine Ev.seq ?_
  refine W.reg hm ?_
  obtain ⟨r1, k1, h⟩ := obind h
  refine W.call (law6_shift_spec n r1 k1) rfl rfl (Les.refl _) rfl (.inl rfl) rfl ?_
  obtain ⟨r2, k2, h⟩ := obind h
  refine W.call (workers_Play_spec n 1 3 2 r1 r2 k2) rfl rfl (Les.refl _) rfl (.inl rfl) rfl ?_
  refine W.mv rfl ?_
  refine W.extract rfl rfl ?_
  refine W.extract rfl rfl ?_
  refine W.alloc (dt := true) rfl rfl rfl ?_
  refine W.mv rfl ?_
  refine W.store (es' := [[.int .i64 r2.2.Code, .int .i64 r2.2.Index]]) (dt := true) rfl rfl rfl rfl rfl (Nat.le_of_ble_eq_true rfl) rfl rfl rfl rfl ?_
  refine W.nil ?_
  refine Ev.seq ?_
  refine W.reg hm ?_
  obtain ⟨r3, k3, h⟩ := obind h
  refine W.call (law6_shift_spec n r3 k3) rfl rfl (Les.refl _) rfl (.inl rfl) rfl ?_
  obtain ⟨s4, k4, h⟩ := obind h
  refine W.sliceL (c := SKindWorkerJobValue.cells) rfl k4 (ix1 (gcut_some k4).2.2.2.1) ?_
  obtain ⟨r5, k5, h⟩ := obind h
  refine W.call (workers_Reports_spec n 1 3 2 s4 0 r5 k5) rfl rfl (Les.refl _) rfl (.inl rfl) rfl ?_
  refine W.mv rfl ?_
  refine W.extract rfl rfl ?_
  refine W.extract rfl rfl ?_
  refine W.alloc (dt := true) rfl rfl rfl ?_
  refine W.mv rfl ?_
  refine W.store (es' := [[.int .i64 r5.2.Code, .int .i64 r5.2.Index]]) (dt := true) rfl rfl rfl rfl rfl (Nat.le_of_ble_eq_true rfl) rfl rfl rfl rfl ?_
  refine W.nil ?_
  refine Ev.seq ?_
  refine W.reg hm ?_
  obtain ⟨r6, k6, h⟩ := obind h
  refine W.call (law6_shift_spec n r6 k6) rfl rfl (Les.refl _) rfl (.inl rfl) rfl ?_
  obtain ⟨s7, k7, h⟩ := obind h
  refine W.sliceL (c := SKindWorkerJobValue.cells) rfl k7 (ix1 (gcut_some k7).2.2.2.1) ?_
  obtain ⟨r8, k8, h⟩ := obind h
  refine W.call (workers_Next_spec n 1 3 2 s7 r8 k8) rfl rfl (Les.refl _) rfl (.inl rfl) rfl ?_
  refine W.mv rfl ?_
  refine W.extract rfl rfl ?_
  refine W.extract rfl rfl ?_
  refine W.extract rfl rfl ?_
  refine W.extract rfl rfl ?_
  refine W.alloc (dt := true) rfl rfl rfl ?_
  refine W.mv rfl ?_
  refine W.mv rfl ?_
  refine W.mv rfl ?_
  refine W.store (es' := [[.int .i64 r8.2.2.2.Code, .int .i64 r8.2.2.2.Index]]) (dt := true) rfl rfl rfl rfl rfl (Nat.le_of_ble_eq_true rfl) rfl rfl rfl rfl ?_
  refine W.nil ?_
  refine Ev.seq ?_
  refine W.reg hm ?_
  obtain ⟨r9, k9, h⟩ := obind h
  refine W.call (law6_shift_spec n r9 k9) rfl rfl (Les.refl _) rfl (.inl rfl) rfl ?_
  obtain ⟨s10, k10, h⟩ := obind h
  refine W.sliceL (c := SKindWorkerJobValue.cells) rfl k10 (by rw [List.length_map]; exact ix0 (gcut_some k10).1) ?_
  obtain ⟨r11, k11, h⟩ := obind h
  refine W.call (workers_Play_spec n 1 3 2 s10 r11 k11) rfl rfl (Les.refl _) rfl (.inl rfl) rfl ?_
  refine W.mv rfl ?_
  refine W.extract rfl rfl ?_
  refine W.extract rfl rfl ?_
  refine W.alloc (dt := true) rfl rfl rfl ?_
  refine W.mv rfl ?_
  refine W.store (es' := [[.int .i64 r11.2.Code, .int .i64 r11.2.Index]]) (dt := true) rfl rfl rfl rfl rfl (Nat.le_of_ble_eq_true rfl) rfl rfl rfl rfl ?_
  refine W.nil ?_
  refine Ev.seqJ (γ := Bool) (fun v => ⟨[(0, .bool v)], [], 2⟩) (fun v => law6_farms_j1 n v = some r) ?_ ?_
  · refine W.regD hm ?_
    refine W.fieldAddrO rfl rfl ?_
    refine W.loadO (p := .int .i64 r2.2.Code) rfl rfl rfl rfl ?_
    refine W.eql rfl rfl ?_
    refine W.mv rfl ?_
    refine W.split 39 rfl (fun c12 => ?_) (fun c12 => ?_)
    · replace h := iteT h c12
      refine W.guardT rfl c12 ?_
      refine W.fieldAddrO rfl rfl ?_
      refine W.guardT rfl c12 ?_
      refine W.loadO (p := .int .i64 r5.2.Code) rfl rfl rfl rfl ?_
      refine W.guardT rfl c12 ?_
      refine W.eql rfl rfl ?_
      refine W.pickT rfl rfl rfl c12 ?_
      refine W.mv rfl ?_
      refine W.split 44 rfl (fun c13 => ?_) (fun c13 => ?_)
      · replace h := iteT h c13
        refine W.guardT rfl c13 ?_
        refine W.fieldAddrO rfl rfl ?_
        refine W.guardT rfl c13 ?_
        refine W.loadO (p := .int .i64 r8.2.2.2.Code) rfl rfl rfl rfl ?_
        refine W.guardT rfl c13 ?_
        refine W.eql rfl rfl ?_
        refine W.pickT rfl rfl rfl c13 ?_
        refine W.mv rfl ?_
        refine W.split 49 rfl (fun c14 => ?_) (fun c14 => ?_)
        · replace h := iteT h c14
          refine W.guardT rfl c14 ?_
          refine W.loadO (p := .agg [.int .i64 r11.2.Code, .int .i64 r11.2.Index]) rfl rfl rfl rfl ?_
          refine W.guardT rfl c14 ?_
          obtain ⟨r13, k15, h⟩ := obind h
          refine W.call (law6_fault_spec n 11 0 r13 k15) rfl rfl (Les.refl _) rfl (.inl rfl) rfl ?_
          refine W.guardT rfl c14 ?_
          refine W.eqs rfl rfl rfl ?_
          refine W.pickT rfl rfl rfl c14 ?_
          refine W.mv rfl ?_
          refine W.split 54 rfl (fun c16 => ?_) (fun c16 => ?_)
          · replace h := iteT h c16
            refine W.guardT rfl c16 ?_
            refine W.mv rfl ?_
            refine W.guardT rfl c16 ?_
            refine W.mkSlice (dt := true) (es := [[.int .i64 7]]) rfl rfl rfl rfl rfl rfl ?_
            refine W.guardT rfl c16 ?_
            obtain ⟨r14, k17, h⟩ := obind h
            refine W.call (ref5_Ints_spec n r2.1 ([7] : List Int) r14 k17) rfl rfl (Les.refl _) rfl (.inr rfl) rfl ?_
            refine W.pickT rfl rfl rfl c16 ?_
            refine W.mv rfl ?_
            refine W.split 59 rfl (fun c18 => ?_) (fun c18 => ?_)
            · replace h := iteT h c18
              refine W.guardT rfl c18 ?_
              refine W.mv rfl ?_
              refine W.guardT rfl c18 ?_
              refine W.mkSlice (dt := true) (es := [[.int .i64 8], [.int .i64 (-1)], [.int .i64 (-1)]]) rfl rfl rfl rfl rfl rfl ?_
              refine W.guardT rfl c18 ?_
              obtain ⟨r15, k19, h⟩ := obind h
              refine W.call (ref5_Ints_spec n r5.1 ([8, (-1), (-1)] : List Int) r15 k19) rfl rfl (Les.refl _) rfl (.inr rfl) rfl ?_
              refine W.pickT rfl rfl rfl c18 ?_
              refine W.mv rfl ?_
              refine W.split 64 rfl (fun c20 => ?_) (fun c20 => ?_)
              · replace h := iteT h c20
                refine W.guardT rfl c20 ?_
                refine W.mv rfl ?_
                refine W.guardT rfl c20 ?_
                refine W.eql rfl rfl ?_
                refine W.pickT rfl rfl rfl c20 ?_
                refine W.mv rfl ?_
                refine W.split 68 rfl (fun c21 => ?_) (fun c21 => ?_)
                · replace h := iteT h c21
                  refine W.guardT rfl c21 ?_
                  refine W.mv rfl ?_
                  refine W.guardT rfl c21 ?_
                  refine W.eql rfl rfl ?_
                  refine W.pickT rfl rfl rfl c21 ?_
                  refine W.mv rfl ?_
                  refine W.split 72 rfl (fun c22 => ?_) (fun c22 => ?_)
                  · replace h := iteT h c22
                    refine W.guardT rfl c22 ?_
                    refine W.mv rfl ?_
                    refine W.pickT rfl rfl rfl c22 ?_
                    refine W.mv rfl ?_
                    refine W.nil ⟨rfl, ?_⟩
                    exact ⟨r8.2.2.1, h, Wk.nrmTo [0] [] rfl rfl⟩
                  · replace h := iteF h c22
                    refine W.guardF1 rfl c22 ?_
                    refine W.pickN rfl rfl rfl c22 ?_
                    refine W.mv rfl ?_
                    refine W.nil ⟨rfl, ?_⟩
                    exact ⟨false, h, Wk.nrmTo [0] [] rfl rfl⟩
                · replace h := iteF h c21
                  refine W.guardF1 rfl c21 ?_
                  refine W.guardF1 rfl c21 ?_
                  refine W.pickN rfl rfl rfl c21 ?_
                  refine W.mv rfl ?_
                  refine W.guardF1 rfl rfl ?_
                  refine W.pickN rfl rfl rfl rfl ?_
                  refine W.mv rfl ?_
                  refine W.nil ⟨rfl, ?_⟩
                  exact ⟨false, h, Wk.nrmTo [0] [] rfl rfl⟩
              · replace h := iteF h c20
                refine W.guardF1 rfl c20 ?_
                refine W.guardF1 rfl c20 ?_
                refine W.pickN rfl rfl rfl c20 ?_
                refine W.mv rfl ?_
                refine W.guardF1 rfl rfl ?_
                refine W.guardF1 rfl rfl ?_
                refine W.pickN rfl rfl rfl rfl ?_
                refine W.mv rfl ?_
                refine W.guardF1 rfl rfl ?_
                refine W.pickN rfl rfl rfl rfl ?_
                refine W.mv rfl ?_
                refine W.nil ⟨rfl, ?_⟩
                exact ⟨false, h, Wk.nrmTo [0] [] rfl rfl⟩
            · replace h := iteF h c18
              refine W.guardF1 rfl c18 ?_
              refine W.guardF1 rfl c18 ?_
              refine W.guardF1 rfl c18 ?_
              refine W.pickN rfl rfl rfl c18 ?_
              refine W.mv rfl ?_
              refine W.guardF1 rfl rfl ?_
              refine W.guardF1 rfl rfl ?_
              refine W.pickN rfl rfl rfl rfl ?_
              refine W.mv rfl ?_
              refine W.guardF1 rfl rfl ?_
              refine W.guardF1 rfl rfl ?_
              refine W.pickN rfl rfl rfl rfl ?_
              refine W.mv rfl ?_
              refine W.guardF1 rfl rfl ?_
              refine W.pickN rfl rfl rfl rfl ?_
              refine W.mv rfl ?_
              refine W.nil ⟨rfl, ?_⟩
              exact ⟨false, h, Wk.nrmTo [0] [] rfl rfl⟩
          · replace h := iteF h c16
            refine W.guardF1 rfl c16 ?_
            refine W.guardF1 rfl c16 ?_
            refine W.guardF1 rfl c16 ?_
            refine W.pickN rfl rfl rfl c16 ?_
            refine W.mv rfl ?_
            refine W.guardF1 rfl rfl ?_
            refine W.guardF1 rfl rfl ?_
            refine W.guardF1 rfl rfl ?_
            refine W.pickN rfl rfl rfl rfl ?_
            refine W.mv rfl ?_
            refine W.guardF1 rfl rfl ?_
            refine W.guardF1 rfl rfl ?_
            refine W.pickN rfl rfl rfl rfl ?_
            refine W.mv rfl ?_
            refine W.guardF1 rfl rfl ?_
            refine W.guardF1 rfl rfl ?_
            refine W.pickN rfl rfl rfl rfl ?_
            refine W.mv rfl ?_
            refine W.guardF1 rfl rfl ?_
            refine W.pickN rfl rfl rfl rfl ?_
            refine W.mv rfl ?_
            refine W.nil ⟨rfl, ?_⟩
            exact ⟨false, h, Wk.nrmTo [0] [] rfl rfl⟩
        · replace h := iteF h c14
          refine W.guardF1 rfl c14 ?_
          refine W.guardF1 rfl c14 ?_
          refine W.guardF1 rfl c14 ?_
          refine W.pickN rfl rfl rfl c14 ?_
          refine W.mv rfl ?_
          refine W.guardF1 rfl rfl ?_
          refine W.guardF1 rfl rfl ?_
          refine W.guardF1 rfl rfl ?_
          refine W.pickN rfl rfl rfl rfl ?_
          refine W.mv rfl ?_
          refine W.guardF1 rfl rfl ?_
          refine W.guardF1 rfl rfl ?_
          refine W.guardF1 rfl rfl ?_
          refine W.pickN rfl rfl rfl rfl ?_
          refine W.mv rfl ?_
          refine W.guardF1 rfl rfl ?_
          refine W.guardF1 rfl rfl ?_
          refine W.pickN rfl rfl rfl rfl ?_
          refine W.mv rfl ?_
          refine W.guardF1 rfl rfl ?_
          refine W.guardF1 rfl rfl ?_
          refine W.pickN rfl rfl rfl rfl ?_
          refine W.mv rfl ?_
          refine W.guardF1 rfl rfl ?_
          refine W.pickN rfl rfl rfl rfl ?_
          refine W.mv rfl ?_
          refine W.nil ⟨rfl, ?_⟩
          exact ⟨false, h, Wk.nrmTo [0] [] rfl rfl⟩
      · replace h := iteF h c13
        refine W.guardF1 rfl c13 ?_
        refine W.guardF1 rfl c13 ?_
        refine W.guardF1 rfl c13 ?_
        refine W.pickN rfl rfl rfl c13 ?_
        refine W.mv rfl ?_
        refine W.guardF1 rfl rfl ?_
        refine W.guardF1 rfl rfl ?_
        refine W.guardF1 rfl rfl ?_
        refine W.pickN rfl rfl rfl rfl ?_
        refine W.mv rfl ?_
        refine W.guardF1 rfl rfl ?_
        refine W.guardF1 rfl rfl ?_
        refine W.guardF1 rfl rfl ?_
        refine W.pickN rfl rfl rfl rfl ?_
        refine W.mv rfl ?_
        refine W.guardF1 rfl rfl ?_
        refine W.guardF1 rfl rfl ?_
        refine W.guardF1 rfl rfl ?_
        refine W.pickN rfl rfl rfl rfl ?_
        refine W.mv rfl ?_
        refine W.guardF1 rfl rfl ?_
        refine W.guardF1 rfl rfl ?_
        refine W.pickN rfl rfl rfl rfl ?_
        refine W.mv rfl ?_
        refine W.guardF1 rfl rfl ?_
        refine W.guardF1 rfl rfl ?_
        refine W.pickN rfl rfl rfl rfl ?_
        refine W.mv rfl ?_
        refine W.guardF1 rfl rfl ?_
        refine W.pickN rfl rfl rfl rfl ?_
        refine W.mv rfl ?_
        refine W.nil ⟨rfl, ?_⟩
        exact ⟨false, h, Wk.nrmTo [0] [] rfl rfl⟩
    · replace h := iteF h c12
      refine W.guardF1 rfl c12 ?_
      refine W.guardF1 rfl c12 ?_
      refine W.guardF1 rfl c12 ?_
      refine W.pickN rfl rfl rfl c12 ?_
      refine W.mv rfl ?_
      refine W.guardF1 rfl rfl ?_
      refine W.guardF1 rfl rfl ?_
      refine W.guardF1 rfl rfl ?_
      refine W.pickN rfl rfl rfl rfl ?_
      refine W.mv rfl ?_
      refine W.guardF1 rfl rfl ?_
      refine W.guardF1 rfl rfl ?_
      refine W.guardF1 rfl rfl ?_
      refine W.pickN rfl rfl rfl rfl ?_
      refine W.mv rfl ?_
      refine W.guardF1 rfl rfl ?_
      refine W.guardF1 rfl rfl ?_
      refine W.guardF1 rfl rfl ?_
      refine W.pickN rfl rfl rfl rfl ?_
      refine W.mv rfl ?_
      refine W.guardF1 rfl rfl ?_
      refine W.guardF1 rfl rfl ?_
      refine W.guardF1 rfl rfl ?_
      refine W.pickN rfl rfl rfl rfl ?_
      refine W.mv rfl ?_
      refine W.guardF1 rfl rfl ?_
      refine W.guardF1 rfl rfl ?_
      refine W.pickN rfl rfl rfl rfl ?_
      refine W.mv rfl ?_
      refine W.guardF1 rfl rfl ?_
      refine W.guardF1 rfl rfl ?_
      refine W.pickN rfl rfl rfl rfl ?_
      refine W.mv rfl ?_
      refine W.guardF1 rfl rfl ?_
      refine W.pickN rfl rfl rfl rfl ?_
      refine W.mv rfl ?_
      refine W.nil ⟨rfl, ?_⟩
      exact ⟨false, h, Wk.nrmTo [0] [] rfl rfl⟩
  · intro x12 h
    try dsimp only at h ⊢
    unfold law6_farms_j1 at h
    refine Ev.ret ?_
    injection h with h; subst h
    exact ⟨_, rfl, .refl _⟩

theorem ref6_fault_spec (n : Nat) (a0 : Int) (a1 : Int) (r : SCodeIndex) (h : ref6_fault n a0 a1 = some r) : PSpec Try.prog 24 [.int .i64 a0, .int .i64 a1] (.agg (SCodeIndex.cells r)) := by
  unfold ref6_fault at h
  refine spec_of Try.c_ref6_fault (by simp) ?_
  unfold Try.l_ref6_fault
  refine Ev.seq ?_
  refine W.reg hm ?_
  refine W.alloc (dt := true) rfl rfl rfl ?_
  refine W.nil ?_
  refine Ev.seq ?_
  refine W.reg hm ?_
  refine W.mv rfl ?_
  refine W.mv rfl ?_
  refine W.build (cs := [.int .i64 a0, .int .i64 a1]) rfl rfl rfl ?_
  refine W.store (es' := [[.int .i64 a0, .int .i64 a1]]) (dt := true) rfl rfl rfl rfl rfl (Nat.le_of_ble_eq_true rfl) rfl rfl rfl rfl ?_
  refine W.nil ?_
  refine Ev.ret ?_
  injection h with h; subst h
  exact ⟨_, rfl, .refl _⟩

theorem ref6_in_spec (n : Nat) (a0 : Int) (a1 : Int) (a2 : Int) (r : Bool) (h : ref6_in n a0 a1 a2 = some r) : PSpec Try.prog 27 [.int .i64 a0, .int .i64 a1, .int .i64 a2] (.bool r) := by
  unfold ref6_in at h
  refine spec_of Try.c_ref6_in (by simp) ?_
  unfold Try.l_ref6_in
  refine Ev.seq ?_
  refine W.reg hm ?_
  refine W.mv rfl ?_
  refine W.nil ?_
  refine Ev.seqJ (γ := Bool) (fun v => ⟨[(6, .bool v)], [], 2⟩) (fun v => ref6_in_j1 n v = some r) ?_ ?_
  · refine W.reg hm ?_
    refine W.mv rfl ?_
    refine W.mv rfl ?_
    refine W.geq rfl rfl ?_
    refine W.mv rfl ?_
    refine W.split 10 rfl (fun c1 => ?_) (fun c1 => ?_)
    · replace h := iteT h c1
      refine W.guardT rfl c1 ?_
      refine W.mv rfl ?_
      refine W.guardT rfl c1 ?_
      refine W.mv rfl ?_
      refine W.guardT rfl c1 ?_
      refine W.leq rfl rfl ?_
      refine W.pickT rfl rfl rfl c1 ?_
      refine W.mv rfl ?_
      refine W.nil ?_
      exact ⟨(decide (a0 ≤ a2)), h, Wk.nrmTo [6] [] rfl rfl⟩
    · replace h := iteF h c1
      refine W.guardF1 rfl c1 ?_
      refine W.guardF1 rfl c1 ?_
      refine W.guardF1 rfl c1 ?_
      refine W.pickN rfl rfl rfl c1 ?_
      refine W.mv rfl ?_
      refine W.nil ?_
      exact ⟨false, h, Wk.nrmTo [6] [] rfl rfl⟩
  · intro x1 h
    try dsimp only at h ⊢
    unfold ref6_in_j1 at h
    refine Ev.ret ?_
    injection h with h; subst h
    exact ⟨_, rfl, .refl _⟩

theorem ref6_FarmFault_spec (n : Nat) (a0 : Int) (a1 : Int) (a2 : Int) (r : SCodeIndex) (h : ref6_FarmFault n a0 a1 a2 = some r) : PSpec Try.prog 23 [.int .i64 a0, .int .i64 a1, .int .i64 a2] (.agg (SCodeIndex.cells r)) := by
  unfold ref6_FarmFault at h
  refine spec_of Try.c_ref6_FarmFault (by simp) ?_
  unfold Try.l_ref6_FarmFault
  refine Ev.seq ?_
  refine W.reg hm ?_
  refine W.alloc (dt := true) rfl rfl rfl ?_
  refine W.nil ?_
  refine Ev.seq ?_
  refine Ev.seqJ (γ := Bool) (fun v => ⟨[(6, .pown 10100 0 0 0), (20, .bool v)], [(10100, ⟨0, 25, 2, [[.int .i64 0, .int .i64 0]], true, false, false⟩)], 2⟩) (fun v => ref6_FarmFault_j1 n v = some r) ?_ ?_
  · refine W.reg hm ?_
    refine W.mv rfl ?_
    obtain ⟨r3, k3, h⟩ := obind h
    refine W.call (ref6_in_spec n a0 0 12 r3 k3) rfl rfl (Les.refl _) rfl (.inl rfl) rfl ?_
    refine W.not rfl ?_
    refine W.mv rfl ?_
    refine W.split 10 rfl (fun c4 => ?_) (fun c4 => ?_)
    · replace h := iteT h c4
      refine W.guardF2 rfl c4 ?_
      refine W.guardF2 rfl c4 ?_
      refine W.guardF2 rfl c4 ?_
      refine W.pickT rfl rfl rfl c4 ?_
      refine W.mv rfl ?_
      refine W.guardF2 rfl rfl ?_
      refine W.guardF2 rfl rfl ?_
      refine W.guardF2 rfl rfl ?_
      refine W.guardF2 rfl rfl ?_
      refine W.pickT rfl rfl rfl rfl ?_
      refine W.nil ?_
      exact ⟨true, h, Wk.nrmTo [6, 20] [(6, 10100)] rfl rfl⟩
    · replace h := iteF h c4
      refine W.guardT rfl c4 ?_
      refine W.mv rfl ?_
      refine W.guardT rfl c4 ?_
      obtain ⟨r4, k5, h⟩ := obind h
      refine W.call (ref6_in_spec n a1 1 8 r4 k5) rfl rfl (Les.refl _) rfl (.inl rfl) rfl ?_
      refine W.guardT rfl c4 ?_
      refine W.not rfl ?_
      refine W.pickN rfl rfl rfl c4 ?_
      refine W.mv rfl ?_
      refine W.split 15 rfl (fun c6 => ?_) (fun c6 => ?_)
      · replace h := iteT h c6
        refine W.guardF2 rfl c6 ?_
        refine W.guardF2 rfl c6 ?_
        refine W.guardF2 rfl c6 ?_
        refine W.guardF2 rfl c6 ?_
        refine W.pickT rfl rfl rfl c6 ?_
        refine W.nil ?_
        exact ⟨true, h, Wk.nrmTo [6, 20] [(6, 10100)] rfl rfl⟩
      · replace h := iteF h c6
        refine W.guardT rfl c6 ?_
        refine W.mv rfl ?_
        refine W.guardT rfl c6 ?_
        refine W.mv rfl ?_
        refine W.guardT rfl c6 ?_
        obtain ⟨r5, k7, h⟩ := obind h
        refine W.call (ref6_in_spec n a2 1 a1 r5 k7) rfl rfl (Les.refl _) rfl (.inl rfl) rfl ?_
        refine W.guardT rfl c6 ?_
        refine W.not rfl ?_
        refine W.pickN rfl rfl rfl c6 ?_
        refine W.nil ?_
        exact ⟨(!r5), h, Wk.nrmTo [6, 20] [(6, 10100)] rfl rfl⟩
  · intro x1 h
    try dsimp only at h ⊢
    unfold ref6_FarmFault_j1 at h
    refine Ev.cond rfl (fun c1 => ?_) (fun c1 => ?_)
    · replace h := iteT h c1
      refine Ev.seq ?_
      refine W.reg hm ?_
      obtain ⟨r2, k2, h⟩ := obind h
      refine W.call (ref6_fault_spec n 3 (-1) r2 k2) rfl rfl (Les.refl _) rfl (.inl rfl) rfl ?_
      refine W.store (es' := [[.int .i64 r2.Code, .int .i64 r2.Index]]) (dt := true) rfl rfl rfl rfl rfl (Nat.le_of_ble_eq_true rfl) rfl rfl rfl rfl ?_
      refine W.nil ?_
      refine Ev.ret ?_
      injection h with h; subst h
      exact ⟨_, rfl, .refl _⟩
    · replace h := iteF h c1
      refine Ev.skip ?_
      refine Ev.seq ?_
      refine W.reg hm ?_
      refine W.build (cs := [.int .i64 0, .int .i64 0]) rfl rfl rfl ?_
      refine W.store (es' := [[.int .i64 0, .int .i64 0]]) (dt := true) rfl rfl rfl rfl rfl (Nat.le_of_ble_eq_true rfl) rfl rfl rfl rfl ?_
      refine W.nil ?_
      refine Ev.ret ?_
      injection h with h; subst h
      exact ⟨_, rfl, .refl _⟩
end Go.Proofs.Ythnneojommdhjaa
