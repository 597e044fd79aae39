/- The functions compute what the texts of D say. Laid by a program (wip/gen/dec.py). -/
import Derived.Test.YtlkknmhhefjmjaaDoorD
import Derived.Test.YtlkknmhhefjmjaaDoorW4
namespace Go.Proofs.YtlkknmhhefjmjaaDoor
open Go.PW Go
theorem ref6_Wrong_spec (n : Nat) (a0 : List SPathDigest) (a1 : SFiles) (r : (List Int)) (h : ref6_Wrong n a0 a1 = some r) : PSpec Tryd.prog 40 [.list 2 (List.map SPathDigest.cells a0), .agg (SFiles.cells a1)] (.list 1 (List.map cI r)) := by
  unfold ref6_Wrong at h
  refine spec_of Tryd.c_ref6_Wrong (by simp) ?_
  unfold Tryd.l_ref6_Wrong
  refine Ev.seq ?_
  refine W.reg hm ?_
  refine W.box (dt := true) (cs := [.list 2 (List.map SPathLines.cells a1.Files)]) rfl rfl rfl rfl rfl rfl ?_
  refine W.mv rfl ?_
  refine W.nil ?_
  refine Ev.seq ?_
  refine W.reg hm ?_
  refine W.mv rfl ?_
  refine W.nil ?_
  refine Ev.seq ?_
  refine Ev.seq ?_
  refine W.reg hm ?_
  refine W.mv rfl ?_
  refine W.nil ?_
  refine Ev.block ?_
  refine Ev.loopW (β := Nat × (List Int) × Int) (fun v => ⟨[(0, .list 2 (List.map SPathDigest.cells a0)), (3, .pown 10100 0 0 0), (5, .own 10101 0), (6, .int .i64 v.2.2)], [(10100, ⟨0, 46, 1, [[.list 2 (List.map SPathLines.cells a1.Files)]], true, false, false⟩), (10101, ⟨0, 3, 1, List.map cI v.2.1, true, false, false⟩)], 2⟩) (fun v => ref6_Wrong_l1 n a0 a1 v.1 v.2.1 v.2.2 = some r) (fun v => v.1) (n, ([] : List Int), 0) ((Wk.ownNil 5 30101 3 1 rfl rfl true).trans (Wk.nrmTo [0, 3, 5, 6] [(3, 10100), (30101, 10101)] rfl rfl)) h ?_
  intro ⟨m1, w1, x2⟩ h
  try dsimp only at h ⊢
  cases m1 with
  | zero => rw [ref6_Wrong_l1] at h; cases h
  | succ m1 =>
    rw [ref6_Wrong_l1] at h
    refine Ev.seq ?_
    refine Ev.seq ?_
    refine W.reg hm ?_
    refine W.mv rfl ?_
    refine W.mv rfl ?_
    refine W.lenL (c := SPathDigest.cells) rfl ?_
    refine W.lss rfl rfl ?_
    refine W.nil ?_
    refine Ev.cond rfl (fun c1 => ?_) (fun c1 => ?_)
    · replace h := iteT h c1
      refine Ev.skip ?_
      refine Ev.seqJ (γ := List Int) (fun v => ⟨[(0, .list 2 (List.map SPathDigest.cells a0)), (3, .pown 10200 0 0 0), (5, .own 10201 0), (6, .int .i64 x2)], [(10200, ⟨0, 46, 1, [[.list 2 (List.map SPathLines.cells a1.Files)]], true, false, false⟩), (10201, ⟨0, 3, 1, List.map cI v, true, false, false⟩)], 2⟩) (fun v => ref6_Wrong_j1 n x2 (ref6_Wrong_l1 n a0 a1 m1) v = some r) ?_ ?_
      · refine Ev.block ?_
        refine Ev.seq ?_
        refine W.regD hm ?_
        refine W.loadO (p := .agg [.list 2 (List.map SPathLines.cells a1.Files)]) rfl rfl rfl rfl ?_
        refine W.mv rfl ?_
        refine W.mv rfl ?_
        obtain ⟨e5, k3, h⟩ := obind h
        refine W.idxL (c := SPathDigest.cells) rfl rfl k3 ?_
        refine W.fieldAddr rfl ?_
        refine W.load rfl rfl ?_
        obtain ⟨r6, k4, h⟩ := obind h
        refine W.call (ref6_FileSum_spec n a1 e5.Path r6 k4) rfl rfl (Les.refl _) rfl (.inl rfl) rfl ?_
        refine W.mv rfl ?_
        refine W.mv rfl ?_
        refine W.idxL (c := SPathDigest.cells) rfl rfl k3 ?_
        refine W.fieldAddr rfl ?_
        refine W.load rfl rfl ?_
        refine W.neq rfl rfl ?_
        refine W.nil ⟨rfl, ?_⟩
        refine Ev.cond rfl (fun c5 => ?_) (fun c5 => ?_)
        · replace h := iteT h c5
          refine W.reg hm ?_
          refine W.mv rfl ?_
          refine W.mv rfl ?_
          refine W.mkSlice (dt := true) (es := [[.int .i64 x2]]) rfl rfl rfl rfl rfl rfl ?_
          obtain ⟨w7, k6, h⟩ := obind h
          refine W.appR true (l := w1) (c := cI) (ys := ([x2] : List Int)) rfl rfl rfl rfl rfl rfl rfl rfl k6 rfl (by simp) ?_
          refine W.mv rfl ?_
          refine W.nil ?_
          exact ⟨w7, h, Wk.nrmTo [0, 3, 5, 6] [(10100, 10200), (29, 10201)] rfl rfl⟩
        · replace h := iteF h c5
          refine Ev.skip ?_
          exact ⟨w1, h, Wk.nrmTo [0, 3, 5, 6] [(10100, 10200), (10101, 10201)] rfl rfl⟩
      · intro w3 h
        try dsimp only at h ⊢
        unfold ref6_Wrong_j1 at h
        refine W.reg hm ?_
        refine W.mv rfl ?_
        obtain ⟨x4, k2, h⟩ := obind h
        refine W.addG rfl rfl k2 ?_
        refine W.mv rfl ?_
        refine W.nil ?_
        exact ⟨(m1, w3, x4), h, Nat.lt_succ_self _, Wk.nrmTo [0, 3, 5, 6] [(10200, 10100), (10201, 10101)] rfl rfl⟩
    · replace h := iteF h c1
      refine Ev.exit ?_
      refine Ev.seq ?_
      refine W.reg hm ?_
      refine W.mv rfl ?_
      refine W.mv rfl ?_
      refine W.nil ?_
      refine Ev.ret ?_
      injection h with h; subst h
      exact ⟨_, rfl, .refl _⟩
set_option maxHeartbeats 4000000 in
theorem law6_BomMatchesSpec_spec (n : Nat) (a0 : List SPathDigest) (a1 : SFiles) (r : Bool) (h : law6_BomMatchesSpec n a0 a1 = some r) : PSpec Tryd.prog 9 [.list 2 (List.map SPathDigest.cells a0), .agg (SFiles.cells a1)] (.bool r) := by
  unfold law6_BomMatchesSpec at h
  refine spec_of Tryd.c_law6_BomMatchesSpec (by simp) ?_
  unfold Tryd.l_law6_BomMatchesSpec
  refine Ev.seq ?_
  refine W.reg hm ?_
  refine W.box (dt := true) (cs := [.list 2 (List.map SPathLines.cells a1.Files)]) rfl rfl rfl rfl rfl rfl ?_
  refine W.mv rfl ?_
  refine W.nil ?_
  refine Ev.seq ?_
  refine W.reg hm ?_
  refine W.mv rfl ?_
  obtain ⟨r1, k1, h⟩ := obind h
  refine W.call (ref6_BomFault_spec n a0 r1 k1) rfl rfl (Les.refl _) rfl (.inl rfl) rfl ?_
  refine W.alloc (dt := true) rfl rfl rfl ?_
  refine W.store (es' := [[.int .i64 r1.Code, .int .i64 r1.Index]]) (dt := true) rfl rfl rfl rfl rfl (Nat.le_of_ble_eq_true rfl) rfl rfl rfl rfl ?_
  refine W.nil ?_
  refine Ev.seq ?_
  refine Ev.seqJ (γ := Bool) (fun v => ⟨[(0, .list 2 (List.map SPathDigest.cells a0)), (3, .pown 10100 0 0 0), (5, .pown 10101 0 0 0), (17, .bool v)], [(10100, ⟨0, 46, 1, [[.list 2 (List.map SPathLines.cells a1.Files)]], true, false, false⟩), (10101, ⟨0, 25, 2, [[.int .i64 r1.Code, .int .i64 r1.Index]], true, false, false⟩)], 2⟩) (fun v => law6_BomMatchesSpec_j1 n a0 a1 r1 v = some r) ?_ ?_
  · refine W.regD hm ?_
    obtain ⟨r12, k15, h⟩ := obind h
    refine W.call (law6_bills_spec n r12 k15) rfl rfl (Les.refl _) rfl (.inl rfl) rfl ?_
    refine W.not rfl ?_
    refine W.mv rfl ?_
    refine W.split 12 rfl (fun c16 => ?_) (fun c16 => ?_)
    · replace h := iteT h c16
      refine W.guardF2 rfl c16 ?_
      refine W.guardF2 rfl c16 ?_
      refine W.guardF2 rfl c16 ?_
      refine W.guardF2 rfl c16 ?_
      refine W.pickT rfl rfl rfl c16 ?_
      refine W.nil ⟨rfl, ?_⟩
      exact ⟨true, h, Wk.nrmTo [0, 3, 5, 17] [(3, 10100), (5, 10101)] rfl rfl⟩
    · replace h := iteF h c16
      refine W.guardT rfl c16 ?_
      refine W.mv rfl ?_
      refine W.guardT rfl c16 ?_
      obtain ⟨r13, k17, h⟩ := obind h
      refine W.call (bom_Validate_spec n a0 r13 k17) rfl rfl (Les.refl _) rfl (.inl rfl) rfl ?_
      refine W.guardT rfl c16 ?_
      refine W.loadO (p := .agg [.int .i64 r1.Code, .int .i64 r1.Index]) rfl rfl rfl rfl ?_
      refine W.guardT rfl c16 ?_
      refine W.eqs rfl rfl rfl ?_
      refine W.pickN rfl rfl rfl c16 ?_
      refine W.nil ⟨rfl, ?_⟩
      exact ⟨((r13.Code == r1.Code && (r13.Index == r1.Index && true)) != true), h, Wk.nrmTo [0, 3, 5, 17] [(3, 10100), (5, 10101)] rfl rfl⟩
  · intro x2 h
    try dsimp only at h ⊢
    unfold law6_BomMatchesSpec_j1 at h
    refine Ev.cond rfl (fun c2 => ?_) (fun c2 => ?_)
    · replace h := iteT h c2
      refine Ev.seq ?_
      refine W.reg hm ?_
      refine W.mv rfl ?_
      refine W.nil ?_
      refine Ev.ret ?_
      injection h with h; subst h
      exact ⟨_, rfl, .refl _⟩
    · replace h := iteF h c2
      refine Ev.skip ?_
      refine Ev.seqJ (γ := Int × Int) (fun v => ⟨[(0, .list 2 (List.map SPathDigest.cells a0)), (3, .pown 10200 0 0 0), (5, .pown 10201 0 0 0)], [(10200, ⟨0, 46, 1, [[.list 2 (List.map SPathLines.cells a1.Files)]], true, false, false⟩), (10201, ⟨0, 25, 2, [[.int .i64 v.1, .int .i64 v.2]], true, false, false⟩)], 2⟩) (fun v => law6_BomMatchesSpec_j2 n a0 a1 v.1 v.2 = some r) ?_ ?_
      · refine Ev.seq ?_
        refine W.reg hm ?_
        refine W.fieldAddrO rfl rfl ?_
        refine W.loadO (p := .int .i64 r1.Code) rfl rfl rfl rfl ?_
        refine W.eql rfl rfl ?_
        refine W.nil ?_
        refine Ev.cond rfl (fun c13 => ?_) (fun c13 => ?_)
        · replace h := iteT h c13
          refine W.reg hm ?_
          refine W.loadO (p := .agg [.list 2 (List.map SPathLines.cells a1.Files)]) rfl rfl rfl rfl ?_
          obtain ⟨r11, k14, h⟩ := obind h
          refine W.call (ref6_TreeAt_spec n a1 (-2) r11 k14) rfl rfl (Les.refl _) rfl (.inl rfl) rfl ?_
          refine W.store (es' := [[.int .i64 r11.Code, .int .i64 r11.Index]]) (dt := true) rfl rfl rfl rfl rfl (Nat.le_of_ble_eq_true rfl) rfl rfl rfl rfl ?_
          refine W.nil ?_
          exact ⟨(r11.Code, r11.Index), h, Wk.nrmTo [0, 3, 5] [(10100, 10200), (10101, 10201)] rfl rfl⟩
        · replace h := iteF h c13
          refine Ev.skip ?_
          exact ⟨(r1.Code, r1.Index), h, Wk.nrmTo [0, 3, 5] [(10100, 10200), (10101, 10201)] rfl rfl⟩
      · intro ⟨b3, b4⟩ h
        try dsimp only at h ⊢
        unfold law6_BomMatchesSpec_j2 at h
        refine Ev.seq ?_
        refine W.reg hm ?_
        refine W.mv rfl ?_
        refine W.loadO (p := .agg [.list 2 (List.map SPathLines.cells a1.Files)]) rfl rfl rfl rfl ?_
        obtain ⟨r5, k3, h⟩ := obind h
        refine W.call (bom_Check_spec n a0 a1 r5 k3) rfl rfl (Les.refl _) rfl (.inl rfl) rfl ?_
        refine W.mv rfl ?_
        refine W.extract rfl rfl ?_
        refine W.extract rfl rfl ?_
        refine W.alloc (dt := true) rfl rfl rfl ?_
        refine W.mv rfl ?_
        refine W.store (es' := [[.int .i64 r5.2.Code, .int .i64 r5.2.Index]]) (dt := true) rfl rfl rfl rfl rfl (Nat.le_of_ble_eq_true rfl) rfl rfl rfl rfl ?_
        refine W.nil ?_
        refine Ev.seqJ (γ := Bool) (fun v => ⟨[(4, .bool v)], [], 2⟩) (fun v => law6_BomMatchesSpec_j3 n v = some r) ?_ ?_
        · refine W.reg hm ?_
          refine W.loadO (p := .agg [.int .i64 r5.2.Code, .int .i64 r5.2.Index]) rfl rfl rfl rfl ?_
          refine W.loadO (p := .agg [.int .i64 b3, .int .i64 b4]) rfl rfl rfl rfl ?_
          refine W.eqs rfl rfl rfl ?_
          refine W.mv rfl ?_
          refine W.split 32 rfl (fun c4 => ?_) (fun c4 => ?_)
          · replace h := iteT h c4
            refine W.guardT rfl c4 ?_
            refine W.fieldAddrO rfl rfl ?_
            refine W.guardT rfl c4 ?_
            refine W.loadO (p := .int .i64 b3) rfl rfl rfl rfl ?_
            refine W.guardT rfl c4 ?_
            refine W.neq rfl rfl ?_
            refine W.guardT rfl c4 ?_
            refine W.mv rfl ?_
            refine W.split 36 rfl (fun c5 => ?_) (fun c5 => ?_)
            · replace h := iteT h c5
              refine W.guardT rfl c5 ?_
              refine W.mv rfl ?_
              refine W.guardT rfl c5 ?_
              refine W.lenL (c := cI) rfl ?_
              refine W.guardT rfl c5 ?_
              refine W.eql rfl rfl ?_
              refine W.guardT rfl c4 ?_
              refine W.pickT rfl rfl rfl c5 ?_
              refine W.guardT rfl c4 ?_
              refine W.mv rfl ?_
              refine W.split 41 rfl (fun c6 => ?_) (fun c6 => ?_)
              · replace h := iteT h c6
                refine W.guardF2 rfl c6 ?_
                refine W.guardF2 rfl c6 ?_
                refine W.guardF2 rfl c6 ?_
                refine W.guardF2 rfl c6 ?_
                refine W.guardU rfl ?_
                refine W.guardU rfl ?_
                refine W.guardU rfl ?_
                refine W.guardU rfl ?_
                refine W.guardU rfl ?_
                refine W.guardF2 rfl c6 ?_
                refine W.guardT rfl c4 ?_
                refine W.pickT rfl rfl rfl c6 ?_
                refine W.pickT rfl rfl rfl c4 ?_
                refine W.mv rfl ?_
                refine W.nil ?_
                exact ⟨true, h, Wk.nrmTo [4] [] rfl rfl⟩
              · replace h := iteF h c6
                refine W.guardT rfl c6 ?_
                refine W.fieldAddrO rfl rfl ?_
                refine W.guardT rfl c6 ?_
                refine W.loadO (p := .int .i64 b3) rfl rfl rfl rfl ?_
                refine W.guardT rfl c6 ?_
                refine W.eql rfl rfl ?_
                refine W.guardT rfl c6 ?_
                refine W.mv rfl ?_
                refine W.split 45 rfl (fun c7 => ?_) (fun c7 => ?_)
                · replace h := iteT h c7
                  refine W.guardT rfl c7 ?_
                  refine W.mv rfl ?_
                  refine W.guardT rfl c7 ?_
                  refine W.mv rfl ?_
                  refine W.guardT rfl c7 ?_
                  refine W.loadO (p := .agg [.list 2 (List.map SPathLines.cells a1.Files)]) rfl rfl rfl rfl ?_
                  refine W.guardT rfl c7 ?_
                  obtain ⟨r7, k8, h⟩ := obind h
                  refine W.call (ref6_Wrong_spec n a0 a1 r7 k8) rfl rfl (Les.refl _) rfl (.inl rfl) rfl ?_
                  refine W.guardT rfl c7 ?_
                  obtain ⟨r8, k9, h⟩ := obind h
                  refine W.call (ref5_Ints_spec n r5.1 r7 r8 k9) rfl rfl (Les.refl _) rfl (.inl rfl) rfl ?_
                  refine W.guardT rfl c6 ?_
                  refine W.pickT rfl rfl rfl c7 ?_
                  refine W.guardT rfl c4 ?_
                  refine W.pickN rfl rfl rfl c6 ?_
                  refine W.pickT rfl rfl rfl c4 ?_
                  refine W.mv rfl ?_
                  refine W.nil ?_
                  exact ⟨r8, h, Wk.nrmTo [4] [] rfl rfl⟩
                · replace h := iteF h c7
                  refine W.guardF1 rfl c7 ?_
                  refine W.guardF1 rfl c7 ?_
                  refine W.guardF1 rfl c7 ?_
                  refine W.guardF1 rfl c7 ?_
                  refine W.guardF1 rfl c7 ?_
                  refine W.guardT rfl c6 ?_
                  refine W.pickN rfl rfl rfl c7 ?_
                  refine W.guardT rfl c4 ?_
                  refine W.pickN rfl rfl rfl c6 ?_
                  refine W.pickT rfl rfl rfl c4 ?_
                  refine W.mv rfl ?_
                  refine W.nil ?_
                  exact ⟨false, h, Wk.nrmTo [4] [] rfl rfl⟩
            · replace h := iteF h c5
              refine W.guardF1 rfl c5 ?_
              refine W.guardF1 rfl c5 ?_
              refine W.guardF1 rfl c5 ?_
              refine W.guardT rfl c4 ?_
              refine W.pickN rfl rfl rfl c5 ?_
              refine W.guardT rfl c4 ?_
              refine W.mv rfl ?_
              refine W.guardT rfl rfl ?_
              refine W.fieldAddrO rfl rfl ?_
              refine W.guardT rfl rfl ?_
              refine W.loadO (p := .int .i64 b3) rfl rfl rfl rfl ?_
              refine W.guardT rfl rfl ?_
              refine W.eql rfl rfl ?_
              refine W.guardT rfl rfl ?_
              refine W.mv rfl ?_
              refine W.split 45 rfl (fun c10 => ?_) (fun c10 => ?_)
              · replace h := iteT h c10
                refine W.guardT rfl c10 ?_
                refine W.mv rfl ?_
                refine W.guardT rfl c10 ?_
                refine W.mv rfl ?_
                refine W.guardT rfl c10 ?_
                refine W.loadO (p := .agg [.list 2 (List.map SPathLines.cells a1.Files)]) rfl rfl rfl rfl ?_
                refine W.guardT rfl c10 ?_
                obtain ⟨r9, k11, h⟩ := obind h
                refine W.call (ref6_Wrong_spec n a0 a1 r9 k11) rfl rfl (Les.refl _) rfl (.inl rfl) rfl ?_
                refine W.guardT rfl c10 ?_
                obtain ⟨r10, k12, h⟩ := obind h
                refine W.call (ref5_Ints_spec n r5.1 r9 r10 k12) rfl rfl (Les.refl _) rfl (.inl rfl) rfl ?_
                refine W.guardT rfl rfl ?_
                refine W.pickT rfl rfl rfl c10 ?_
                refine W.guardT rfl c4 ?_
                refine W.pickN rfl rfl rfl rfl ?_
                refine W.pickT rfl rfl rfl c4 ?_
                refine W.mv rfl ?_
                refine W.nil ?_
                exact ⟨r10, h, Wk.nrmTo [4] [] rfl rfl⟩
              · replace h := iteF h c10
                refine W.guardF1 rfl c10 ?_
                refine W.guardF1 rfl c10 ?_
                refine W.guardF1 rfl c10 ?_
                refine W.guardF1 rfl c10 ?_
                refine W.guardF1 rfl c10 ?_
                refine W.guardT rfl rfl ?_
                refine W.pickN rfl rfl rfl c10 ?_
                refine W.guardT rfl c4 ?_
                refine W.pickN rfl rfl rfl rfl ?_
                refine W.pickT rfl rfl rfl c4 ?_
                refine W.mv rfl ?_
                refine W.nil ?_
                exact ⟨false, h, Wk.nrmTo [4] [] rfl rfl⟩
          · replace h := iteF h c4
            refine W.guardF1 rfl c4 ?_
            refine W.guardF1 rfl c4 ?_
            refine W.guardF1 rfl c4 ?_
            refine W.guardF1 rfl c4 ?_
            refine W.guardU rfl ?_
            refine W.guardU rfl ?_
            refine W.guardU rfl ?_
            refine W.guardF1 rfl c4 ?_
            refine W.guardF1 rfl c4 ?_
            refine W.guardU rfl ?_
            refine W.guardU rfl ?_
            refine W.guardU rfl ?_
            refine W.guardU rfl ?_
            refine W.guardU rfl ?_
            refine W.guardU rfl ?_
            refine W.guardU rfl ?_
            refine W.guardU rfl ?_
            refine W.guardU rfl ?_
            refine W.guardU rfl ?_
            refine W.guardF1 rfl c4 ?_
            refine W.pickN rfl rfl rfl c4 ?_
            refine W.mv rfl ?_
            refine W.nil ?_
            exact ⟨false, h, Wk.nrmTo [4] [] rfl rfl⟩
        · intro x6 h
          try dsimp only at h ⊢
          unfold law6_BomMatchesSpec_j3 at h
          refine Ev.ret ?_
          injection h with h; subst h
          exact ⟨_, rfl, .refl _⟩
theorem ref6_Billed_spec (n : Nat) (a0 : List (List UInt8)) (a1 : SFiles) (r : (List SPathDigest)) (h : ref6_Billed n a0 a1 = some r) : PSpec Tryd.prog 44 [.list 1 (List.map cS a0), .agg (SFiles.cells a1)] (.list 2 (List.map SPathDigest.cells r)) := by
  unfold ref6_Billed at h
  refine spec_of Tryd.c_ref6_Billed (by simp) ?_
  unfold Tryd.l_ref6_Billed
  refine Ev.seq ?_
  refine W.reg hm ?_
  refine W.box (dt := true) (cs := [.list 2 (List.map SPathLines.cells a1.Files)]) rfl rfl rfl rfl rfl rfl ?_
  refine W.mv rfl ?_
  refine W.nil ?_
  refine Ev.seq ?_
  refine W.reg hm ?_
  refine W.mv rfl ?_
  refine W.nil ?_
  refine Ev.seq ?_
  refine Ev.seq ?_
  refine W.reg hm ?_
  refine W.mv rfl ?_
  refine W.nil ?_
  refine Ev.block ?_
  refine Ev.loopW (β := Nat × (List SPathDigest) × Int) (fun v => ⟨[(0, .list 1 (List.map cS a0)), (3, .pown 10100 0 0 0), (5, .own 10101 0), (6, .int .i64 v.2.2)], [(10100, ⟨0, 46, 1, [[.list 2 (List.map SPathLines.cells a1.Files)]], true, false, false⟩), (10101, ⟨0, 117, 2, List.map SPathDigest.cells v.2.1, true, false, false⟩)], 2⟩) (fun v => ref6_Billed_l1 n a0 a1 v.1 v.2.1 v.2.2 = some r) (fun v => v.1) (n, ([] : List SPathDigest), 0) ((Wk.ownNil 5 30101 117 2 rfl rfl true).trans (Wk.nrmTo [0, 3, 5, 6] [(3, 10100), (30101, 10101)] rfl rfl)) h ?_
  intro ⟨m1, w1, x2⟩ h
  try dsimp only at h ⊢
  cases m1 with
  | zero => rw [ref6_Billed_l1] at h; cases h
  | succ m1 =>
    rw [ref6_Billed_l1] at h
    refine Ev.seq ?_
    refine Ev.seq ?_
    refine W.reg hm ?_
    refine W.mv rfl ?_
    refine W.mv rfl ?_
    refine W.lenL (c := cS) rfl ?_
    refine W.lss rfl rfl ?_
    refine W.nil ?_
    refine Ev.cond rfl (fun c1 => ?_) (fun c1 => ?_)
    · replace h := iteT h c1
      refine Ev.skip ?_
      refine Ev.seq ?_
      refine Ev.block ?_
      refine W.regD hm ?_
      refine W.mv rfl ?_
      refine W.mv rfl ?_
      refine W.mv rfl ?_
      obtain ⟨e3, k2, h⟩ := obind h
      refine W.idxL (c := cS) rfl rfl k2 ?_
      refine W.load rfl rfl ?_
      refine W.loadO (p := .agg [.list 2 (List.map SPathLines.cells a1.Files)]) rfl rfl rfl rfl ?_
      refine W.mv rfl ?_
      refine W.mv rfl ?_
      refine W.idxL (c := cS) rfl rfl k2 ?_
      refine W.load rfl rfl ?_
      obtain ⟨r4, k3, h⟩ := obind h
      refine W.call (ref6_FileSum_spec n a1 e3 r4 k3) rfl rfl (Les.refl _) rfl (.inl rfl) rfl ?_
      refine W.build (cs := [.str e3, .int .i64 r4]) rfl rfl rfl ?_
      refine W.mkSlice (dt := true) (es := [[.str e3, .int .i64 r4]]) rfl rfl rfl rfl rfl rfl ?_
      obtain ⟨w5, k4, h⟩ := obind h
      refine W.appR true (l := w1) (c := SPathDigest.cells) (ys := ([(⟨e3, r4⟩ : SPathDigest)] : List SPathDigest)) rfl rfl rfl rfl rfl rfl rfl rfl k4 rfl (by simp) ?_
      refine W.mv rfl ?_
      refine W.nil ⟨rfl, ?_⟩
      refine W.reg hm ?_
      refine W.mv rfl ?_
      obtain ⟨x6, k5, h⟩ := obind h
      refine W.addG rfl rfl k5 ?_
      refine W.mv rfl ?_
      refine W.nil ?_
      exact ⟨(m1, w5, x6), h, Nat.lt_succ_self _, Wk.nrmTo [0, 3, 5, 6] [(10100, 10100), (26, 10101)] rfl rfl⟩
    · replace h := iteF h c1
      refine Ev.exit ?_
      refine Ev.seq ?_
      refine W.reg hm ?_
      refine W.mv rfl ?_
      refine W.mv rfl ?_
      refine W.nil ?_
      refine Ev.ret ?_
      injection h with h; subst h
      exact ⟨_, rfl, .refl _⟩
set_option maxHeartbeats 4000000 in
theorem law6_BomMakeMatchesSpec_spec (n : Nat) (a0 : List (List UInt8)) (a1 : SFiles) (r : Bool) (h : law6_BomMakeMatchesSpec n a0 a1 = some r) : PSpec Tryd.prog 10 [.list 1 (List.map cS a0), .agg (SFiles.cells a1)] (.bool r) := by
  unfold law6_BomMakeMatchesSpec at h
  refine spec_of Tryd.c_law6_BomMakeMatchesSpec (by simp) ?_
  unfold Tryd.l_law6_BomMakeMatchesSpec
  refine Ev.seq ?_
  refine W.reg hm ?_
  refine W.box (dt := true) (cs := [.list 2 (List.map SPathLines.cells a1.Files)]) rfl rfl rfl rfl rfl rfl ?_
  refine W.mv rfl ?_
  refine W.nil ?_
  refine Ev.seq ?_
  refine W.reg hm ?_
  refine W.mv rfl ?_
  obtain ⟨r1, k1, h⟩ := obind h
  refine W.call (ref6_PathsFault_spec n a0 r1 k1) rfl rfl (Les.refl _) rfl (.inl rfl) rfl ?_
  refine W.alloc (dt := true) rfl rfl rfl ?_
  refine W.store (es' := [[.int .i64 r1.Code, .int .i64 r1.Index]]) (dt := true) rfl rfl rfl rfl rfl (Nat.le_of_ble_eq_true rfl) rfl rfl rfl rfl ?_
  refine W.nil ?_
  refine Ev.seqJ (γ := Int × Int) (fun v => ⟨[(0, .list 1 (List.map cS a0)), (3, .pown 10100 0 0 0), (5, .pown 10101 0 0 0)], [(10100, ⟨0, 46, 1, [[.list 2 (List.map SPathLines.cells a1.Files)]], true, false, false⟩), (10101, ⟨0, 25, 2, [[.int .i64 v.1, .int .i64 v.2]], true, false, false⟩)], 2⟩) (fun v => law6_BomMakeMatchesSpec_j1 n a0 a1 v.1 v.2 = some r) ?_ ?_
  · refine Ev.seq ?_
    refine W.reg hm ?_
    refine W.fieldAddrO rfl rfl ?_
    refine W.loadO (p := .int .i64 r1.Code) rfl rfl rfl rfl ?_
    refine W.eql rfl rfl ?_
    refine W.nil ?_
    refine Ev.cond rfl (fun c14 => ?_) (fun c14 => ?_)
    · replace h := iteT h c14
      refine W.reg hm ?_
      refine W.loadO (p := .agg [.list 2 (List.map SPathLines.cells a1.Files)]) rfl rfl rfl rfl ?_
      obtain ⟨r11, k15, h⟩ := obind h
      refine W.call (ref6_TreeAt_spec n a1 (-2) r11 k15) rfl rfl (Les.refl _) rfl (.inl rfl) rfl ?_
      refine W.store (es' := [[.int .i64 r11.Code, .int .i64 r11.Index]]) (dt := true) rfl rfl rfl rfl rfl (Nat.le_of_ble_eq_true rfl) rfl rfl rfl rfl ?_
      refine W.nil ?_
      exact ⟨(r11.Code, r11.Index), h, Wk.nrmTo [0, 3, 5] [(3, 10100), (5, 10101)] rfl rfl⟩
    · replace h := iteF h c14
      refine Ev.skip ?_
      exact ⟨(r1.Code, r1.Index), h, Wk.nrmTo [0, 3, 5] [(3, 10100), (5, 10101)] rfl rfl⟩
  · intro ⟨b2, b3⟩ h
    try dsimp only at h ⊢
    unfold law6_BomMakeMatchesSpec_j1 at h
    refine Ev.seq ?_
    refine W.reg hm ?_
    refine W.mv rfl ?_
    refine W.loadO (p := .agg [.list 2 (List.map SPathLines.cells a1.Files)]) rfl rfl rfl rfl ?_
    obtain ⟨r4, k2, h⟩ := obind h
    refine W.call (bom_Make_spec n a0 a1 r4 k2) rfl rfl (Les.refl _) rfl (.inl rfl) rfl ?_
    refine W.mv rfl ?_
    refine W.extract rfl rfl ?_
    refine W.extract rfl rfl ?_
    refine W.alloc (dt := true) rfl rfl rfl ?_
    refine W.mv rfl ?_
    refine W.store (es' := [[.int .i64 r4.2.Code, .int .i64 r4.2.Index]]) (dt := true) rfl rfl rfl rfl rfl (Nat.le_of_ble_eq_true rfl) rfl rfl rfl rfl ?_
    refine W.nil ?_
    refine Ev.seqJ (γ := Bool) (fun v => ⟨[(4, .bool v)], [], 2⟩) (fun v => law6_BomMakeMatchesSpec_j2 n v = some r) ?_ ?_
    · refine W.reg hm ?_
      obtain ⟨r6, k3, h⟩ := obind h
      refine W.call (law6_bills_spec n r6 k3) rfl rfl (Les.refl _) rfl (.inl rfl) rfl ?_
      refine W.mv rfl ?_
      refine W.split 22 rfl (fun c4 => ?_) (fun c4 => ?_)
      · replace h := iteT h c4
        refine W.guardT rfl c4 ?_
        refine W.loadO (p := .agg [.int .i64 r4.2.Code, .int .i64 r4.2.Index]) rfl rfl rfl rfl ?_
        refine W.guardT rfl c4 ?_
        refine W.loadO (p := .agg [.int .i64 b2, .int .i64 b3]) rfl rfl rfl rfl ?_
        refine W.guardT rfl c4 ?_
        refine W.eqs rfl rfl rfl ?_
        refine W.pickT rfl rfl rfl c4 ?_
        refine W.mv rfl ?_
        refine W.split 27 rfl (fun c5 => ?_) (fun c5 => ?_)
        · replace h := iteT h c5
          refine W.guardT rfl c5 ?_
          refine W.fieldAddrO rfl rfl ?_
          refine W.guardT rfl c5 ?_
          refine W.loadO (p := .int .i64 b2) rfl rfl rfl rfl ?_
          refine W.guardT rfl c5 ?_
          refine W.neq rfl rfl ?_
          refine W.guardT rfl c5 ?_
          refine W.mv rfl ?_
          refine W.split 31 rfl (fun c6 => ?_) (fun c6 => ?_)
          · replace h := iteT h c6
            refine W.guardT rfl c6 ?_
            refine W.mv rfl ?_
            refine W.guardT rfl c6 ?_
            refine W.lenL (c := SPathDigest.cells) rfl ?_
            refine W.guardT rfl c6 ?_
            refine W.eql rfl rfl ?_
            refine W.guardT rfl c5 ?_
            refine W.pickT rfl rfl rfl c6 ?_
            refine W.guardT rfl c5 ?_
            refine W.mv rfl ?_
            refine W.split 36 rfl (fun c7 => ?_) (fun c7 => ?_)
            · replace h := iteT h c7
              refine W.guardF2 rfl c7 ?_
              refine W.guardF2 rfl c7 ?_
              refine W.guardF2 rfl c7 ?_
              refine W.guardF2 rfl c7 ?_
              refine W.guardU rfl ?_
              refine W.guardU rfl ?_
              refine W.guardU rfl ?_
              refine W.guardU rfl ?_
              refine W.guardU rfl ?_
              refine W.guardF2 rfl c7 ?_
              refine W.guardT rfl c5 ?_
              refine W.pickT rfl rfl rfl c7 ?_
              refine W.pickT rfl rfl rfl c5 ?_
              refine W.mv rfl ?_
              refine W.nil ?_
              exact ⟨true, h, Wk.nrmTo [4] [] rfl rfl⟩
            · replace h := iteF h c7
              refine W.guardT rfl c7 ?_
              refine W.fieldAddrO rfl rfl ?_
              refine W.guardT rfl c7 ?_
              refine W.loadO (p := .int .i64 b2) rfl rfl rfl rfl ?_
              refine W.guardT rfl c7 ?_
              refine W.eql rfl rfl ?_
              refine W.guardT rfl c7 ?_
              refine W.mv rfl ?_
              refine W.split 40 rfl (fun c8 => ?_) (fun c8 => ?_)
              · replace h := iteT h c8
                refine W.guardT rfl c8 ?_
                refine W.mv rfl ?_
                refine W.guardT rfl c8 ?_
                refine W.mv rfl ?_
                refine W.guardT rfl c8 ?_
                refine W.loadO (p := .agg [.list 2 (List.map SPathLines.cells a1.Files)]) rfl rfl rfl rfl ?_
                refine W.guardT rfl c8 ?_
                obtain ⟨r7, k9, h⟩ := obind h
                refine W.call (ref6_Billed_spec n a0 a1 r7 k9) rfl rfl (Les.refl _) rfl (.inl rfl) rfl ?_
                refine W.guardT rfl c8 ?_
                obtain ⟨r8, k10, h⟩ := obind h
                refine W.call (ref6_SameBom_spec n r4.1 r7 r8 k10) rfl rfl (Les.refl _) rfl (.inl rfl) rfl ?_
                refine W.guardT rfl c7 ?_
                refine W.pickT rfl rfl rfl c8 ?_
                refine W.guardT rfl c5 ?_
                refine W.pickN rfl rfl rfl c7 ?_
                refine W.pickT rfl rfl rfl c5 ?_
                refine W.mv rfl ?_
                refine W.nil ?_
                exact ⟨r8, h, Wk.nrmTo [4] [] rfl rfl⟩
              · replace h := iteF h c8
                refine W.guardF1 rfl c8 ?_
                refine W.guardF1 rfl c8 ?_
                refine W.guardF1 rfl c8 ?_
                refine W.guardF1 rfl c8 ?_
                refine W.guardF1 rfl c8 ?_
                refine W.guardT rfl c7 ?_
                refine W.pickN rfl rfl rfl c8 ?_
                refine W.guardT rfl c5 ?_
                refine W.pickN rfl rfl rfl c7 ?_
                refine W.pickT rfl rfl rfl c5 ?_
                refine W.mv rfl ?_
                refine W.nil ?_
                exact ⟨false, h, Wk.nrmTo [4] [] rfl rfl⟩
          · replace h := iteF h c6
            refine W.guardF1 rfl c6 ?_
            refine W.guardF1 rfl c6 ?_
            refine W.guardF1 rfl c6 ?_
            refine W.guardT rfl c5 ?_
            refine W.pickN rfl rfl rfl c6 ?_
            refine W.guardT rfl c5 ?_
            refine W.mv rfl ?_
            refine W.guardT rfl rfl ?_
            refine W.fieldAddrO rfl rfl ?_
            refine W.guardT rfl rfl ?_
            refine W.loadO (p := .int .i64 b2) rfl rfl rfl rfl ?_
            refine W.guardT rfl rfl ?_
            refine W.eql rfl rfl ?_
            refine W.guardT rfl rfl ?_
            refine W.mv rfl ?_
            refine W.split 40 rfl (fun c11 => ?_) (fun c11 => ?_)
            · replace h := iteT h c11
              refine W.guardT rfl c11 ?_
              refine W.mv rfl ?_
              refine W.guardT rfl c11 ?_
              refine W.mv rfl ?_
              refine W.guardT rfl c11 ?_
              refine W.loadO (p := .agg [.list 2 (List.map SPathLines.cells a1.Files)]) rfl rfl rfl rfl ?_
              refine W.guardT rfl c11 ?_
              obtain ⟨r9, k12, h⟩ := obind h
              refine W.call (ref6_Billed_spec n a0 a1 r9 k12) rfl rfl (Les.refl _) rfl (.inl rfl) rfl ?_
              refine W.guardT rfl c11 ?_
              obtain ⟨r10, k13, h⟩ := obind h
              refine W.call (ref6_SameBom_spec n r4.1 r9 r10 k13) rfl rfl (Les.refl _) rfl (.inl rfl) rfl ?_
              refine W.guardT rfl rfl ?_
              refine W.pickT rfl rfl rfl c11 ?_
              refine W.guardT rfl c5 ?_
              refine W.pickN rfl rfl rfl rfl ?_
              refine W.pickT rfl rfl rfl c5 ?_
              refine W.mv rfl ?_
              refine W.nil ?_
              exact ⟨r10, h, Wk.nrmTo [4] [] rfl rfl⟩
            · replace h := iteF h c11
              refine W.guardF1 rfl c11 ?_
              refine W.guardF1 rfl c11 ?_
              refine W.guardF1 rfl c11 ?_
              refine W.guardF1 rfl c11 ?_
              refine W.guardF1 rfl c11 ?_
              refine W.guardT rfl rfl ?_
              refine W.pickN rfl rfl rfl c11 ?_
              refine W.guardT rfl c5 ?_
              refine W.pickN rfl rfl rfl rfl ?_
              refine W.pickT rfl rfl rfl c5 ?_
              refine W.mv rfl ?_
              refine W.nil ?_
              exact ⟨false, h, Wk.nrmTo [4] [] rfl rfl⟩
        · replace h := iteF h c5
          refine W.guardF1 rfl c5 ?_
          refine W.guardF1 rfl c5 ?_
          refine W.guardF1 rfl c5 ?_
          refine W.guardF1 rfl c5 ?_
          refine W.guardU rfl ?_
          refine W.guardU rfl ?_
          refine W.guardU rfl ?_
          refine W.guardF1 rfl c5 ?_
          refine W.guardF1 rfl c5 ?_
          refine W.guardU rfl ?_
          refine W.guardU rfl ?_
          refine W.guardU rfl ?_
          refine W.guardU rfl ?_
          refine W.guardU rfl ?_
          refine W.guardU rfl ?_
          refine W.guardU rfl ?_
          refine W.guardU rfl ?_
          refine W.guardU rfl ?_
          refine W.guardU rfl ?_
          refine W.guardF1 rfl c5 ?_
          refine W.pickN rfl rfl rfl c5 ?_
          refine W.mv rfl ?_
          refine W.nil ?_
          exact ⟨false, h, Wk.nrmTo [4] [] rfl rfl⟩
      · replace h := iteF h c4
        refine W.guardF1 rfl c4 ?_
        refine W.guardF1 rfl c4 ?_
        refine W.guardF1 rfl c4 ?_
        refine W.pickN rfl rfl rfl c4 ?_
        refine W.mv rfl ?_
        refine W.guardF1 rfl rfl ?_
        refine W.guardF1 rfl rfl ?_
        refine W.guardF1 rfl rfl ?_
        refine W.guardF1 rfl rfl ?_
        refine W.guardU rfl ?_
        refine W.guardU rfl ?_
        refine W.guardU rfl ?_
        refine W.guardF1 rfl rfl ?_
        refine W.guardF1 rfl rfl ?_
        refine W.guardU rfl ?_
        refine W.guardU rfl ?_
        refine W.guardU rfl ?_
        refine W.guardU rfl ?_
        refine W.guardU rfl ?_
        refine W.guardU rfl ?_
        refine W.guardU rfl ?_
        refine W.guardU rfl ?_
        refine W.guardU rfl ?_
        refine W.guardU rfl ?_
        refine W.guardF1 rfl rfl ?_
        refine W.pickN rfl rfl rfl rfl ?_
        refine W.mv rfl ?_
        refine W.nil ?_
        exact ⟨false, h, Wk.nrmTo [4] [] rfl rfl⟩
    · intro x5 h
      try dsimp only at h ⊢
      unfold law6_BomMakeMatchesSpec_j2 at h
      refine Ev.ret ?_
      injection h with h; subst h
      exact ⟨_, rfl, .refl _⟩
set_option maxHeartbeats 4000000 in
theorem ref6_Merged_spec (n : Nat) (a0 : List SPathDigest) (a1 : List SPathDigest) (r : ((List SPathDigest) × Bool)) (h : ref6_Merged n a0 a1 = some r) : PSpec Tryd.prog 45 [.list 2 (List.map SPathDigest.cells a0), .list 2 (List.map SPathDigest.cells a1)] (.tup [.list 2 (List.map SPathDigest.cells r.1), .bool r.2]) := by
  unfold ref6_Merged at h
  refine spec_of Tryd.c_ref6_Merged (by simp) ?_
  unfold Tryd.l_ref6_Merged
  refine Ev.seq ?_
  refine W.reg hm ?_
  refine W.mv rfl ?_
  refine W.mv rfl ?_
  refine W.nil ?_
  refine Ev.seq ?_
  refine W.reg hm ?_
  refine W.mv rfl ?_
  refine W.nil ?_
  refine Ev.seq ?_
  refine W.reg hm ?_
  refine W.mv rfl ?_
  refine W.nil ?_
  refine Ev.seq ?_
  refine W.reg hm ?_
  refine W.mv rfl ?_
  refine W.nil ?_
  refine Ev.seqJ (γ := List SPathDigest) (fun v => ⟨[(6, .own 10100 0)], [(10100, ⟨0, 117, 2, List.map SPathDigest.cells v, true, false, false⟩)], 2⟩) (fun v => ref6_Merged_j1 n v = some r) ?_ ?_
  · refine Ev.block ?_
    refine Ev.loopW (β := Nat × (List SPathDigest) × Int × Int) (fun v => ⟨[(0, .list 2 (List.map SPathDigest.cells a0)), (1, .list 2 (List.map SPathDigest.cells a1)), (6, .own 10200 0), (7, .int .i64 v.2.2.1), (8, .int .i64 v.2.2.2)], [(10200, ⟨0, 117, 2, List.map SPathDigest.cells v.2.1, true, false, false⟩)], 2⟩) (fun v => ref6_Merged_l1 n a0 a1 v.1 v.2.1 v.2.2.1 v.2.2.2 = some r) (fun v => v.1) (n, ([] : List SPathDigest), 0, 0) ((Wk.ownNil 6 30200 117 2 rfl rfl true).trans (Wk.nrmTo [0, 1, 6, 7, 8] [(30200, 10200)] rfl rfl)) h ?_
    intro ⟨m1, w2, x3, x4⟩ h
    try dsimp only at h ⊢
    cases m1 with
    | zero => rw [ref6_Merged_l1] at h; cases h
    | succ m1 =>
      rw [ref6_Merged_l1] at h
      refine Ev.seq ?_
      refine Ev.seqJ (γ := Bool) (fun v => ⟨[(0, .list 2 (List.map SPathDigest.cells a0)), (1, .list 2 (List.map SPathDigest.cells a1)), (6, .own 10300 0), (7, .int .i64 x3), (8, .int .i64 x4), (18, .bool v)], [(10300, ⟨0, 117, 2, List.map SPathDigest.cells w2, true, false, false⟩)], 2⟩) (fun v => ref6_Merged_j2 n a0 a1 w2 x3 x4 (ref6_Merged_l1 n a0 a1 m1) v = some r) ?_ ?_
      · refine W.reg hm ?_
        refine W.mv rfl ?_
        refine W.mv rfl ?_
        refine W.lenL (c := SPathDigest.cells) rfl ?_
        refine W.lss rfl rfl ?_
        refine W.mv rfl ?_
        refine W.split 13 rfl (fun c23 => ?_) (fun c23 => ?_)
        · replace h := iteT h c23
          refine W.guardF2 rfl c23 ?_
          refine W.guardF2 rfl c23 ?_
          refine W.guardF2 rfl c23 ?_
          refine W.guardF2 rfl c23 ?_
          refine W.pickT rfl rfl rfl c23 ?_
          refine W.nil ?_
          exact ⟨true, h, Wk.nrmTo [0, 1, 6, 7, 8, 18] [(10200, 10300)] rfl rfl⟩
        · replace h := iteF h c23
          refine W.guardT rfl c23 ?_
          refine W.mv rfl ?_
          refine W.guardT rfl c23 ?_
          refine W.mv rfl ?_
          refine W.guardT rfl c23 ?_
          refine W.lenL (c := SPathDigest.cells) rfl ?_
          refine W.guardT rfl c23 ?_
          refine W.lss rfl rfl ?_
          refine W.pickN rfl rfl rfl c23 ?_
          refine W.nil ?_
          exact ⟨(decide (x4 < (a1.length : Int))), h, Wk.nrmTo [0, 1, 6, 7, 8, 18] [(10200, 10300)] rfl rfl⟩
      · intro x5 h
        try dsimp only at h ⊢
        unfold ref6_Merged_j2 at h
        refine Ev.cond rfl (fun c1 => ?_) (fun c1 => ?_)
        · replace h := iteT h c1
          refine Ev.skip ?_
          refine Ev.block ?_
          refine Ev.seqJ (γ := Bool) (fun v => ⟨[(0, .list 2 (List.map SPathDigest.cells a0)), (1, .list 2 (List.map SPathDigest.cells a1)), (6, .own 10400 0), (7, .int .i64 x3), (8, .int .i64 x4), (41, .bool v)], [(10400, ⟨0, 117, 2, List.map SPathDigest.cells w2, true, false, false⟩)], 2⟩) (fun v => ref6_Merged_j3 n a0 a1 w2 x3 x4 (ref6_Merged_l1 n a0 a1 m1) v = some r) ?_ ?_
          · refine W.regD hm ?_
            refine W.mv rfl ?_
            refine W.mv rfl ?_
            refine W.lenL (c := SPathDigest.cells) rfl ?_
            refine W.eql rfl rfl ?_
            refine W.mv rfl ?_
            refine W.split 23 rfl (fun c19 => ?_) (fun c19 => ?_)
            · replace h := iteT h c19
              refine W.guardF2 rfl c19 ?_
              refine W.guardF2 rfl c19 ?_
              refine W.guardF2 rfl c19 ?_
              refine W.guardF2 rfl c19 ?_
              refine W.guardF2 rfl c19 ?_
              refine W.guardU rfl ?_
              refine W.guardU rfl ?_
              refine W.guardU rfl ?_
              refine W.guardU rfl ?_
              refine W.guardU rfl ?_
              refine W.guardU rfl ?_
              refine W.guardU rfl ?_
              refine W.guardU rfl ?_
              refine W.guardU rfl ?_
              refine W.guardU rfl ?_
              refine W.guardU rfl ?_
              refine W.guardF2 rfl c19 ?_
              refine W.pickT rfl rfl rfl c19 ?_
              refine W.nil ⟨rfl, ?_⟩
              exact ⟨true, h, Wk.nrmTo [0, 1, 6, 7, 8, 41] [(10300, 10400)] rfl rfl⟩
            · replace h := iteF h c19
              refine W.guardT rfl c19 ?_
              refine W.mv rfl ?_
              refine W.guardT rfl c19 ?_
              refine W.mv rfl ?_
              refine W.guardT rfl c19 ?_
              refine W.lenL (c := SPathDigest.cells) rfl ?_
              refine W.guardT rfl c19 ?_
              refine W.lss rfl rfl ?_
              refine W.guardT rfl c19 ?_
              refine W.mv rfl ?_
              refine W.split 28 rfl (fun c20 => ?_) (fun c20 => ?_)
              · replace h := iteT h c20
                refine W.guardT rfl c20 ?_
                refine W.mv rfl ?_
                refine W.guardT rfl c20 ?_
                refine W.mv rfl ?_
                refine W.guardT rfl c20 ?_
                obtain ⟨e21, k21, h⟩ := obind h
                refine W.idxL (c := SPathDigest.cells) rfl rfl k21 ?_
                refine W.guardT rfl c20 ?_
                refine W.fieldAddr rfl ?_
                refine W.guardT rfl c20 ?_
                refine W.load rfl rfl ?_
                refine W.guardT rfl c20 ?_
                refine W.mv rfl ?_
                refine W.guardT rfl c20 ?_
                refine W.mv rfl ?_
                refine W.guardT rfl c20 ?_
                obtain ⟨e22, k22, h⟩ := obind h
                refine W.idxL (c := SPathDigest.cells) rfl rfl k22 ?_
                refine W.guardT rfl c20 ?_
                refine W.fieldAddr rfl ?_
                refine W.guardT rfl c20 ?_
                refine W.load rfl rfl ?_
                refine W.guardT rfl c20 ?_
                refine W.slss rfl rfl ?_
                refine W.guardT rfl c19 ?_
                refine W.pickT rfl rfl rfl c20 ?_
                refine W.pickN rfl rfl rfl c19 ?_
                refine W.nil ⟨rfl, ?_⟩
                exact ⟨(Op.bytesLess e21.Path e22.Path), h, Wk.nrmTo [0, 1, 6, 7, 8, 41] [(10300, 10400)] rfl rfl⟩
              · replace h := iteF h c20
                refine W.guardF1 rfl c20 ?_
                refine W.guardF1 rfl c20 ?_
                refine W.guardF1 rfl c20 ?_
                refine W.guardF1 rfl c20 ?_
                refine W.guardF1 rfl c20 ?_
                refine W.guardF1 rfl c20 ?_
                refine W.guardF1 rfl c20 ?_
                refine W.guardF1 rfl c20 ?_
                refine W.guardF1 rfl c20 ?_
                refine W.guardF1 rfl c20 ?_
                refine W.guardF1 rfl c20 ?_
                refine W.guardT rfl c19 ?_
                refine W.pickN rfl rfl rfl c20 ?_
                refine W.pickN rfl rfl rfl c19 ?_
                refine W.nil ⟨rfl, ?_⟩
                exact ⟨false, h, Wk.nrmTo [0, 1, 6, 7, 8, 41] [(10300, 10400)] rfl rfl⟩
          · intro x6 h
            try dsimp only at h ⊢
            unfold ref6_Merged_j3 at h
            refine Ev.cond rfl (fun c2 => ?_) (fun c2 => ?_)
            · replace h := iteT h c2
              refine Ev.seq ?_
              refine W.reg hm ?_
              refine W.mv rfl ?_
              refine W.mv rfl ?_
              refine W.mv rfl ?_
              obtain ⟨e7, k3, h⟩ := obind h
              refine W.idxL (c := SPathDigest.cells) rfl rfl k3 ?_
              refine W.load rfl rfl ?_
              refine W.mkSlice (dt := true) (es := [[.str e7.Path, .int .i64 e7.Digest]]) rfl rfl rfl rfl rfl rfl ?_
              obtain ⟨w8, k4, h⟩ := obind h
              refine W.appR true (l := w2) (c := SPathDigest.cells) (ys := ([e7] : List SPathDigest)) rfl rfl rfl rfl rfl rfl rfl rfl k4 rfl (by simp) ?_
              refine W.mv rfl ?_
              refine W.nil ?_
              refine W.reg hm ?_
              refine W.mv rfl ?_
              obtain ⟨x9, k5, h⟩ := obind h
              refine W.addG rfl rfl k5 ?_
              refine W.mv rfl ?_
              refine W.nil ?_
              exact ⟨(m1, w8, x3, x9), h, Nat.lt_succ_self _, Wk.nrmTo [0, 1, 6, 7, 8] [(48, 10200)] rfl rfl⟩
            · replace h := iteF h c2
              refine Ev.seqJ (γ := Bool) (fun v => ⟨[(0, .list 2 (List.map SPathDigest.cells a0)), (1, .list 2 (List.map SPathDigest.cells a1)), (6, .own 10500 0), (7, .int .i64 x3), (8, .int .i64 x4), (67, .bool v)], [(10500, ⟨0, 117, 2, List.map SPathDigest.cells w2, true, false, false⟩)], 2⟩) (fun v => ref6_Merged_j4 n a0 a1 w2 x3 x4 (ref6_Merged_l1 n a0 a1 m1) v = some r) ?_ ?_
              · refine W.regD hm ?_
                refine W.mv rfl ?_
                refine W.mv rfl ?_
                refine W.lenL (c := SPathDigest.cells) rfl ?_
                refine W.eql rfl rfl ?_
                refine W.mv rfl ?_
                refine W.split 55 rfl (fun c16 => ?_) (fun c16 => ?_)
                · replace h := iteT h c16
                  refine W.guardF2 rfl c16 ?_
                  refine W.guardF2 rfl c16 ?_
                  refine W.guardF2 rfl c16 ?_
                  refine W.guardF2 rfl c16 ?_
                  refine W.guardF2 rfl c16 ?_
                  refine W.guardF2 rfl c16 ?_
                  refine W.guardF2 rfl c16 ?_
                  refine W.guardF2 rfl c16 ?_
                  refine W.guardF2 rfl c16 ?_
                  refine W.guardF2 rfl c16 ?_
                  refine W.guardF2 rfl c16 ?_
                  refine W.pickT rfl rfl rfl c16 ?_
                  refine W.nil ⟨rfl, ?_⟩
                  exact ⟨true, h, Wk.nrmTo [0, 1, 6, 7, 8, 67] [(10400, 10500)] rfl rfl⟩
                · replace h := iteF h c16
                  refine W.guardT rfl c16 ?_
                  refine W.mv rfl ?_
                  refine W.guardT rfl c16 ?_
                  refine W.mv rfl ?_
                  refine W.guardT rfl c16 ?_
                  obtain ⟨e19, k17, h⟩ := obind h
                  refine W.idxL (c := SPathDigest.cells) rfl rfl k17 ?_
                  refine W.guardT rfl c16 ?_
                  refine W.fieldAddr rfl ?_
                  refine W.guardT rfl c16 ?_
                  refine W.load rfl rfl ?_
                  refine W.guardT rfl c16 ?_
                  refine W.mv rfl ?_
                  refine W.guardT rfl c16 ?_
                  refine W.mv rfl ?_
                  refine W.guardT rfl c16 ?_
                  obtain ⟨e20, k18, h⟩ := obind h
                  refine W.idxL (c := SPathDigest.cells) rfl rfl k18 ?_
                  refine W.guardT rfl c16 ?_
                  refine W.fieldAddr rfl ?_
                  refine W.guardT rfl c16 ?_
                  refine W.load rfl rfl ?_
                  refine W.guardT rfl c16 ?_
                  refine W.slss rfl rfl ?_
                  refine W.pickN rfl rfl rfl c16 ?_
                  refine W.nil ⟨rfl, ?_⟩
                  exact ⟨(Op.bytesLess e19.Path e20.Path), h, Wk.nrmTo [0, 1, 6, 7, 8, 67] [(10400, 10500)] rfl rfl⟩
              · intro x10 h
                try dsimp only at h ⊢
                unfold ref6_Merged_j4 at h
                refine Ev.cond rfl (fun c6 => ?_) (fun c6 => ?_)
                · replace h := iteT h c6
                  refine Ev.seq ?_
                  refine W.reg hm ?_
                  refine W.mv rfl ?_
                  refine W.mv rfl ?_
                  refine W.mv rfl ?_
                  obtain ⟨e11, k7, h⟩ := obind h
                  refine W.idxL (c := SPathDigest.cells) rfl rfl k7 ?_
                  refine W.load rfl rfl ?_
                  refine W.mkSlice (dt := true) (es := [[.str e11.Path, .int .i64 e11.Digest]]) rfl rfl rfl rfl rfl rfl ?_
                  obtain ⟨w12, k8, h⟩ := obind h
                  refine W.appR true (l := w2) (c := SPathDigest.cells) (ys := ([e11] : List SPathDigest)) rfl rfl rfl rfl rfl rfl rfl rfl k8 rfl (by simp) ?_
                  refine W.mv rfl ?_
                  refine W.nil ?_
                  refine W.reg hm ?_
                  refine W.mv rfl ?_
                  obtain ⟨x13, k9, h⟩ := obind h
                  refine W.addG rfl rfl k9 ?_
                  refine W.mv rfl ?_
                  refine W.nil ?_
                  exact ⟨(m1, w12, x13, x4), h, Nat.lt_succ_self _, Wk.nrmTo [0, 1, 6, 7, 8] [(74, 10200)] rfl rfl⟩
                · replace h := iteF h c6
                  refine Ev.seq ?_
                  refine Ev.seq ?_
                  refine W.regD hm ?_
                  refine W.mv rfl ?_
                  refine W.mv rfl ?_
                  obtain ⟨e14, k10, h⟩ := obind h
                  refine W.idxL (c := SPathDigest.cells) rfl rfl k10 ?_
                  refine W.fieldAddr rfl ?_
                  refine W.load rfl rfl ?_
                  refine W.mv rfl ?_
                  refine W.mv rfl ?_
                  obtain ⟨e15, k11, h⟩ := obind h
                  refine W.idxL (c := SPathDigest.cells) rfl rfl k11 ?_
                  refine W.fieldAddr rfl ?_
                  refine W.load rfl rfl ?_
                  refine W.neq rfl rfl ?_
                  refine W.nil ⟨rfl, ?_⟩
                  refine Ev.cond rfl (fun c12 => ?_) (fun c12 => ?_)
                  · replace h := iteT h c12
                    refine Ev.seq ?_
                    refine W.reg hm ?_
                    refine W.mv rfl ?_
                    refine W.mv rfl ?_
                    refine W.nil ?_
                    refine Ev.ret ?_
                    injection h with h; subst h
                    exact ⟨_, rfl, Le.tups (.cons (.nils 2) (.cons (.refl _) (.nil)))⟩
                  · replace h := iteF h c12
                    refine Ev.skip ?_
                    refine Ev.seq ?_
                    refine W.reg hm ?_
                    refine W.mv rfl ?_
                    refine W.mv rfl ?_
                    refine W.mv rfl ?_
                    refine W.idxL (c := SPathDigest.cells) rfl rfl k10 ?_
                    refine W.load rfl rfl ?_
                    refine W.mkSlice (dt := true) (es := [[.str e14.Path, .int .i64 e14.Digest]]) rfl rfl rfl rfl rfl rfl ?_
                    obtain ⟨w16, k13, h⟩ := obind h
                    refine W.appR true (l := w2) (c := SPathDigest.cells) (ys := ([e14] : List SPathDigest)) rfl rfl rfl rfl rfl rfl rfl rfl k13 rfl (by simp) ?_
                    refine W.mv rfl ?_
                    refine W.nil ?_
                    refine Ev.seq ?_
                    refine W.reg hm ?_
                    refine W.mv rfl ?_
                    obtain ⟨x17, k14, h⟩ := obind h
                    refine W.addG rfl rfl k14 ?_
                    refine W.mv rfl ?_
                    refine W.nil ?_
                    refine W.reg hm ?_
                    refine W.mv rfl ?_
                    obtain ⟨x18, k15, h⟩ := obind h
                    refine W.addG rfl rfl k15 ?_
                    refine W.mv rfl ?_
                    refine W.nil ?_
                    exact ⟨(m1, w16, x17, x18), h, Nat.lt_succ_self _, Wk.nrmTo [0, 1, 6, 7, 8] [(94, 10200)] rfl rfl⟩
        · replace h := iteF h c1
          refine Ev.exit ?_
          exact ⟨w2, h, Wk.nrmTo [6] [(10300, 10100)] rfl rfl⟩
  · intro w1 h
    try dsimp only at h ⊢
    unfold ref6_Merged_j1 at h
    refine Ev.seq ?_
    refine W.reg hm ?_
    refine W.mv rfl ?_
    refine W.mv rfl ?_
    refine W.mv rfl ?_
    refine W.nil ?_
    refine Ev.ret ?_
    injection h with h; subst h
    exact ⟨_, rfl, .refl _⟩
set_option maxHeartbeats 4000000 in
theorem law6_BomMergeMatchesSpec_spec (n : Nat) (a0 : List SPathDigest) (a1 : List SPathDigest) (r : Bool) (h : law6_BomMergeMatchesSpec n a0 a1 = some r) : PSpec Tryd.prog 11 [.list 2 (List.map SPathDigest.cells a0), .list 2 (List.map SPathDigest.cells a1)] (.bool r) := by
  unfold law6_BomMergeMatchesSpec at h
  refine spec_of Tryd.c_law6_BomMergeMatchesSpec (by simp) ?_
  unfold Tryd.l_law6_BomMergeMatchesSpec
  refine Ev.seq ?_
  refine W.reg hm ?_
  refine W.mv rfl ?_
  refine W.nil ?_
  refine Ev.seq ?_
  refine W.reg hm ?_
  refine W.mv rfl ?_
  obtain ⟨r1, k1, h⟩ := obind h
  refine W.call (ref6_BomFault_spec n a0 r1 k1) rfl rfl (Les.refl _) rfl (.inl rfl) rfl ?_
  refine W.alloc (dt := true) rfl rfl rfl ?_
  refine W.store (es' := [[.int .i64 r1.Code, .int .i64 r1.Index]]) (dt := true) rfl rfl rfl rfl rfl (Nat.le_of_ble_eq_true rfl) rfl rfl rfl rfl ?_
  refine W.nil ?_
  refine Ev.seqJ (γ := Int × Int) (fun v => ⟨[(0, .list 2 (List.map SPathDigest.cells a0)), (1, .list 2 (List.map SPathDigest.cells a1)), (5, .pown 10100 0 0 0)], [(10100, ⟨0, 25, 2, [[.int .i64 v.1, .int .i64 v.2]], true, false, false⟩)], 2⟩) (fun v => law6_BomMergeMatchesSpec_j1 n a0 a1 v.1 v.2 = some r) ?_ ?_
  · refine Ev.seqJ (γ := Bool) (fun v => ⟨[(0, .list 2 (List.map SPathDigest.cells a0)), (1, .list 2 (List.map SPathDigest.cells a1)), (5, .pown 10200 0 0 0), (21, .bool v)], [(10200, ⟨0, 25, 2, [[.int .i64 r1.Code, .int .i64 r1.Index]], true, false, false⟩)], 2⟩) (fun v => law6_BomMergeMatchesSpec_j6 n a0 a1 r1 v = some r) ?_ ?_
    · refine W.reg hm ?_
      refine W.fieldAddrO rfl rfl ?_
      refine W.loadO (p := .int .i64 r1.Code) rfl rfl rfl rfl ?_
      refine W.eql rfl rfl ?_
      refine W.mv rfl ?_
      refine W.split 16 rfl (fun c21 => ?_) (fun c21 => ?_)
      · replace h := iteT h c21
        refine W.guardT rfl c21 ?_
        refine W.mv rfl ?_
        refine W.guardT rfl c21 ?_
        obtain ⟨r20, k22, h⟩ := obind h
        refine W.call (ref6_BomFault_spec n a1 r20 k22) rfl rfl (Les.refl _) rfl (.inl rfl) rfl ?_
        refine W.guardT rfl c21 ?_
        refine W.field rfl rfl ?_
        refine W.guardT rfl c21 ?_
        refine W.neq rfl rfl ?_
        refine W.pickT rfl rfl rfl c21 ?_
        refine W.nil ?_
        exact ⟨(decide (r20.Code ≠ 0)), h, Wk.nrmTo [0, 1, 5, 21] [(5, 10200)] rfl rfl⟩
      · replace h := iteF h c21
        refine W.guardF1 rfl c21 ?_
        refine W.guardF1 rfl c21 ?_
        refine W.guardF1 rfl c21 ?_
        refine W.guardF1 rfl c21 ?_
        refine W.pickN rfl rfl rfl c21 ?_
        refine W.nil ?_
        exact ⟨false, h, Wk.nrmTo [0, 1, 5, 21] [(5, 10200)] rfl rfl⟩
    · intro x17 h
      try dsimp only at h ⊢
      unfold law6_BomMergeMatchesSpec_j6 at h
      refine Ev.cond rfl (fun c18 => ?_) (fun c18 => ?_)
      · replace h := iteT h c18
        refine W.reg hm ?_
        refine W.mv rfl ?_
        obtain ⟨r18, k19, h⟩ := obind h
        refine W.call (ref6_BomFault_spec n a1 r18 k19) rfl rfl (Les.refl _) rfl (.inl rfl) rfl ?_
        refine W.field rfl rfl ?_
        obtain ⟨r19, k20, h⟩ := obind h
        refine W.call (law6_fault_spec n r18.Code (-2) r19 k20) rfl rfl (Les.refl _) rfl (.inl rfl) rfl ?_
        refine W.store (es' := [[.int .i64 r19.Code, .int .i64 r19.Index]]) (dt := true) rfl rfl rfl rfl rfl (Nat.le_of_ble_eq_true rfl) rfl rfl rfl rfl ?_
        refine W.nil ?_
        exact ⟨(r19.Code, r19.Index), h, Wk.nrmTo [0, 1, 5] [(10200, 10100)] rfl rfl⟩
      · replace h := iteF h c18
        refine Ev.skip ?_
        exact ⟨(r1.Code, r1.Index), h, Wk.nrmTo [0, 1, 5] [(10200, 10100)] rfl rfl⟩
  · intro ⟨b2, b3⟩ h
    try dsimp only at h ⊢
    unfold law6_BomMergeMatchesSpec_j1 at h
    refine Ev.seq ?_
    refine W.reg hm ?_
    refine W.mv rfl ?_
    refine W.nil ?_
    refine Ev.seq ?_
    refine W.reg hm ?_
    refine W.mv rfl ?_
    refine W.nil ?_
    refine Ev.seqJ (γ := (List SPathDigest) × Bool) (fun v => ⟨[(0, .list 2 (List.map SPathDigest.cells a0)), (1, .list 2 (List.map SPathDigest.cells a1)), (5, .pown 10200 0 0 0), (6, .list 2 (List.map SPathDigest.cells v.1)), (7, .bool v.2)], [(10200, ⟨0, 25, 2, [[.int .i64 b2, .int .i64 b3]], true, false, false⟩)], 2⟩) (fun v => law6_BomMergeMatchesSpec_j2 n a0 a1 b2 b3 v.1 v.2 = some r) ?_ ?_
    · refine Ev.seq ?_
      refine W.reg hm ?_
      refine W.fieldAddrO rfl rfl ?_
      refine W.loadO (p := .int .i64 b2) rfl rfl rfl rfl ?_
      refine W.eql rfl rfl ?_
      refine W.nil ?_
      refine Ev.cond rfl (fun c16 => ?_) (fun c16 => ?_)
      · replace h := iteT h c16
        refine W.reg hm ?_
        refine W.mv rfl ?_
        refine W.mv rfl ?_
        obtain ⟨r16, k17, h⟩ := obind h
        refine W.call (ref6_Merged_spec n a0 a1 r16 k17) rfl rfl (Les.refl _) rfl (.inl rfl) rfl ?_
        refine W.mv rfl ?_
        refine W.extract rfl rfl ?_
        refine W.extract rfl rfl ?_
        refine W.mv rfl ?_
        refine W.mv rfl ?_
        refine W.nil ?_
        exact ⟨(r16.1, r16.2), h, Wk.nrmTo [0, 1, 5, 6, 7] [(10100, 10200)] rfl rfl⟩
      · replace h := iteF h c16
        refine Ev.skip ?_
        exact ⟨(([] : List SPathDigest), false), h, (Wk.le (t := 6) rfl (.nils 2)).trans (Wk.nrmTo [0, 1, 5, 6, 7] [(10100, 10200)] rfl rfl)⟩
    · intro ⟨x4, x5⟩ h
      try dsimp only at h ⊢
      unfold law6_BomMergeMatchesSpec_j2 at h
      refine Ev.seqJ (γ := Int × Int × Bool) (fun v => ⟨[(0, .list 2 (List.map SPathDigest.cells a0)), (1, .list 2 (List.map SPathDigest.cells a1)), (5, .pown 10300 0 0 0), (6, .list 2 (List.map SPathDigest.cells x4)), (7, .bool v.2.2)], [(10300, ⟨0, 25, 2, [[.int .i64 v.1, .int .i64 v.2.1]], true, false, false⟩)], 2⟩) (fun v => law6_BomMergeMatchesSpec_j3 n a0 a1 x4 v.1 v.2.1 v.2.2 = some r) ?_ ?_
      · refine Ev.seqJ (γ := Bool) (fun v => ⟨[(0, .list 2 (List.map SPathDigest.cells a0)), (1, .list 2 (List.map SPathDigest.cells a1)), (5, .pown 10400 0 0 0), (6, .list 2 (List.map SPathDigest.cells x4)), (7, .bool x5), (40, .bool v)], [(10400, ⟨0, 25, 2, [[.int .i64 b2, .int .i64 b3]], true, false, false⟩)], 2⟩) (fun v => law6_BomMergeMatchesSpec_j5 n a0 a1 b2 b3 x4 x5 v = some r) ?_ ?_
        · refine W.reg hm ?_
          refine W.mv rfl ?_
          refine W.mv rfl ?_
          refine W.split 36 rfl (fun c15 => ?_) (fun c15 => ?_)
          · replace h := iteT h c15
            refine W.guardT rfl c15 ?_
            refine W.mv rfl ?_
            refine W.guardT rfl c15 ?_
            refine W.lenL (c := SPathDigest.cells) rfl ?_
            refine W.guardT rfl c15 ?_
            refine W.gtr rfl rfl ?_
            refine W.pickT rfl rfl rfl c15 ?_
            refine W.nil ?_
            exact ⟨(decide (24 < (x4.length : Int))), h, Wk.nrmTo [0, 1, 5, 6, 7, 40] [(10200, 10400)] rfl rfl⟩
          · replace h := iteF h c15
            refine W.guardF1 rfl c15 ?_
            refine W.guardF1 rfl c15 ?_
            refine W.guardF1 rfl c15 ?_
            refine W.pickN rfl rfl rfl c15 ?_
            refine W.nil ?_
            exact ⟨false, h, Wk.nrmTo [0, 1, 5, 6, 7, 40] [(10200, 10400)] rfl rfl⟩
        · intro x14 h
          try dsimp only at h ⊢
          unfold law6_BomMergeMatchesSpec_j5 at h
          refine Ev.cond rfl (fun c13 => ?_) (fun c13 => ?_)
          · replace h := iteT h c13
            refine Ev.seq ?_
            refine W.reg hm ?_
            obtain ⟨r15, k14, h⟩ := obind h
            refine W.call (law6_fault_spec n 10 (-3) r15 k14) rfl rfl (Les.refl _) rfl (.inl rfl) rfl ?_
            refine W.store (es' := [[.int .i64 r15.Code, .int .i64 r15.Index]]) (dt := true) rfl rfl rfl rfl rfl (Nat.le_of_ble_eq_true rfl) rfl rfl rfl rfl ?_
            refine W.nil ?_
            refine W.reg hm ?_
            refine W.mv rfl ?_
            refine W.nil ?_
            exact ⟨(r15.Code, r15.Index, false), h, Wk.nrmTo [0, 1, 5, 6, 7] [(10400, 10300)] rfl rfl⟩
          · replace h := iteF h c13
            refine Ev.skip ?_
            exact ⟨(b2, b3, x5), h, Wk.nrmTo [0, 1, 5, 6, 7] [(10400, 10300)] rfl rfl⟩
      · intro ⟨b6, b7, x8⟩ h
        try dsimp only at h ⊢
        unfold law6_BomMergeMatchesSpec_j3 at h
        refine Ev.seq ?_
        refine W.reg hm ?_
        refine W.mv rfl ?_
        refine W.mv rfl ?_
        obtain ⟨r9, k2, h⟩ := obind h
        refine W.call (bom_Merge_spec n a0 a1 r9 k2) rfl rfl (Les.refl _) rfl (.inl rfl) rfl ?_
        refine W.mv rfl ?_
        refine W.extract rfl rfl ?_
        refine W.extract rfl rfl ?_
        refine W.extract rfl rfl ?_
        refine W.alloc (dt := true) rfl rfl rfl ?_
        refine W.mv rfl ?_
        refine W.mv rfl ?_
        refine W.store (es' := [[.int .i64 r9.2.2.Code, .int .i64 r9.2.2.Index]]) (dt := true) rfl rfl rfl rfl rfl (Nat.le_of_ble_eq_true rfl) rfl rfl rfl rfl ?_
        refine W.nil ?_
        refine Ev.seqJ (γ := Bool) (fun v => ⟨[(4, .bool v)], [], 2⟩) (fun v => law6_BomMergeMatchesSpec_j4 n v = some r) ?_ ?_
        · refine W.reg hm ?_
          obtain ⟨r11, k3, h⟩ := obind h
          refine W.call (law6_bills_spec n r11 k3) rfl rfl (Les.refl _) rfl (.inl rfl) rfl ?_
          refine W.mv rfl ?_
          refine W.split 50 rfl (fun c4 => ?_) (fun c4 => ?_)
          · replace h := iteT h c4
            refine W.guardT rfl c4 ?_
            refine W.loadO (p := .agg [.int .i64 r9.2.2.Code, .int .i64 r9.2.2.Index]) rfl rfl rfl rfl ?_
            refine W.guardT rfl c4 ?_
            refine W.loadO (p := .agg [.int .i64 b6, .int .i64 b7]) rfl rfl rfl rfl ?_
            refine W.guardT rfl c4 ?_
            refine W.eqs rfl rfl rfl ?_
            refine W.pickT rfl rfl rfl c4 ?_
            refine W.mv rfl ?_
            refine W.split 55 rfl (fun c5 => ?_) (fun c5 => ?_)
            · replace h := iteT h c5
              refine W.guardT rfl c5 ?_
              refine W.mv rfl ?_
              refine W.guardT rfl c5 ?_
              refine W.mv rfl ?_
              refine W.guardT rfl c5 ?_
              refine W.beql rfl rfl ?_
              refine W.pickT rfl rfl rfl c5 ?_
              refine W.mv rfl ?_
              refine W.split 60 rfl (fun c6 => ?_) (fun c6 => ?_)
              · replace h := iteT h c6
                refine W.guardT rfl c6 ?_
                refine W.mv rfl ?_
                refine W.guardT rfl c6 ?_
                refine W.not rfl ?_
                refine W.guardT rfl c6 ?_
                refine W.mv rfl ?_
                refine W.split 63 rfl (fun c7 => ?_) (fun c7 => ?_)
                · replace h := iteT h c7
                  refine W.guardT rfl c7 ?_
                  refine W.mv rfl ?_
                  refine W.guardT rfl c7 ?_
                  refine W.lenL (c := SPathDigest.cells) rfl ?_
                  refine W.guardT rfl c7 ?_
                  refine W.eql rfl rfl ?_
                  refine W.guardT rfl c6 ?_
                  refine W.pickT rfl rfl rfl c7 ?_
                  refine W.guardT rfl c6 ?_
                  refine W.mv rfl ?_
                  refine W.split 68 rfl (fun c8 => ?_) (fun c8 => ?_)
                  · replace h := iteT h c8
                    refine W.guardF2 rfl c8 ?_
                    refine W.guardF2 rfl c8 ?_
                    refine W.guardU rfl ?_
                    refine W.guardU rfl ?_
                    refine W.guardU rfl ?_
                    refine W.guardF2 rfl c8 ?_
                    refine W.guardT rfl c6 ?_
                    refine W.pickT rfl rfl rfl c8 ?_
                    refine W.pickT rfl rfl rfl c6 ?_
                    refine W.mv rfl ?_
                    refine W.nil ?_
                    exact ⟨true, h, Wk.nrmTo [4] [] rfl rfl⟩
                  · replace h := iteF h c8
                    refine W.guardT rfl c8 ?_
                    refine W.mv rfl ?_
                    refine W.guardT rfl c8 ?_
                    refine W.mv rfl ?_
                    refine W.split 70 rfl (fun c9 => ?_) (fun c9 => ?_)
                    · replace h := iteT h c9
                      refine W.guardT rfl c9 ?_
                      refine W.mv rfl ?_
                      refine W.guardT rfl c9 ?_
                      refine W.mv rfl ?_
                      refine W.guardT rfl c9 ?_
                      obtain ⟨r12, k10, h⟩ := obind h
                      refine W.call (ref6_SameBom_spec n r9.1 x4 r12 k10) rfl rfl (Les.refl _) rfl (.inl rfl) rfl ?_
                      refine W.guardT rfl c8 ?_
                      refine W.pickT rfl rfl rfl c9 ?_
                      refine W.guardT rfl c6 ?_
                      refine W.pickN rfl rfl rfl c8 ?_
                      refine W.pickT rfl rfl rfl c6 ?_
                      refine W.mv rfl ?_
                      refine W.nil ?_
                      exact ⟨r12, h, Wk.nrmTo [4] [] rfl rfl⟩
                    · replace h := iteF h c9
                      refine W.guardF1 rfl c9 ?_
                      refine W.guardF1 rfl c9 ?_
                      refine W.guardF1 rfl c9 ?_
                      refine W.guardT rfl c8 ?_
                      refine W.pickN rfl rfl rfl c9 ?_
                      refine W.guardT rfl c6 ?_
                      refine W.pickN rfl rfl rfl c8 ?_
                      refine W.pickT rfl rfl rfl c6 ?_
                      refine W.mv rfl ?_
                      refine W.nil ?_
                      exact ⟨false, h, Wk.nrmTo [4] [] rfl rfl⟩
                · replace h := iteF h c7
                  refine W.guardF1 rfl c7 ?_
                  refine W.guardF1 rfl c7 ?_
                  refine W.guardF1 rfl c7 ?_
                  refine W.guardT rfl c6 ?_
                  refine W.pickN rfl rfl rfl c7 ?_
                  refine W.guardT rfl c6 ?_
                  refine W.mv rfl ?_
                  refine W.guardT rfl rfl ?_
                  refine W.mv rfl ?_
                  refine W.guardT rfl rfl ?_
                  refine W.mv rfl ?_
                  refine W.split 70 rfl (fun c11 => ?_) (fun c11 => ?_)
                  · replace h := iteT h c11
                    refine W.guardT rfl c11 ?_
                    refine W.mv rfl ?_
                    refine W.guardT rfl c11 ?_
                    refine W.mv rfl ?_
                    refine W.guardT rfl c11 ?_
                    obtain ⟨r13, k12, h⟩ := obind h
                    refine W.call (ref6_SameBom_spec n r9.1 x4 r13 k12) rfl rfl (Les.refl _) rfl (.inl rfl) rfl ?_
                    refine W.guardT rfl rfl ?_
                    refine W.pickT rfl rfl rfl c11 ?_
                    refine W.guardT rfl c6 ?_
                    refine W.pickN rfl rfl rfl rfl ?_
                    refine W.pickT rfl rfl rfl c6 ?_
                    refine W.mv rfl ?_
                    refine W.nil ?_
                    exact ⟨r13, h, Wk.nrmTo [4] [] rfl rfl⟩
                  · replace h := iteF h c11
                    refine W.guardF1 rfl c11 ?_
                    refine W.guardF1 rfl c11 ?_
                    refine W.guardF1 rfl c11 ?_
                    refine W.guardT rfl rfl ?_
                    refine W.pickN rfl rfl rfl c11 ?_
                    refine W.guardT rfl c6 ?_
                    refine W.pickN rfl rfl rfl rfl ?_
                    refine W.pickT rfl rfl rfl c6 ?_
                    refine W.mv rfl ?_
                    refine W.nil ?_
                    exact ⟨false, h, Wk.nrmTo [4] [] rfl rfl⟩
              · replace h := iteF h c6
                refine W.guardF1 rfl c6 ?_
                refine W.guardF1 rfl c6 ?_
                refine W.guardF1 rfl c6 ?_
                refine W.guardU rfl ?_
                refine W.guardU rfl ?_
                refine W.guardU rfl ?_
                refine W.guardF1 rfl c6 ?_
                refine W.guardF1 rfl c6 ?_
                refine W.guardU rfl ?_
                refine W.guardU rfl ?_
                refine W.guardU rfl ?_
                refine W.guardU rfl ?_
                refine W.guardU rfl ?_
                refine W.guardU rfl ?_
                refine W.guardF1 rfl c6 ?_
                refine W.pickN rfl rfl rfl c6 ?_
                refine W.mv rfl ?_
                refine W.nil ?_
                exact ⟨false, h, Wk.nrmTo [4] [] rfl rfl⟩
            · replace h := iteF h c5
              refine W.guardF1 rfl c5 ?_
              refine W.guardF1 rfl c5 ?_
              refine W.guardF1 rfl c5 ?_
              refine W.pickN rfl rfl rfl c5 ?_
              refine W.mv rfl ?_
              refine W.guardF1 rfl rfl ?_
              refine W.guardF1 rfl rfl ?_
              refine W.guardF1 rfl rfl ?_
              refine W.guardU rfl ?_
              refine W.guardU rfl ?_
              refine W.guardU rfl ?_
              refine W.guardF1 rfl rfl ?_
              refine W.guardF1 rfl rfl ?_
              refine W.guardU rfl ?_
              refine W.guardU rfl ?_
              refine W.guardU rfl ?_
              refine W.guardU rfl ?_
              refine W.guardU rfl ?_
              refine W.guardU rfl ?_
              refine W.guardF1 rfl rfl ?_
              refine W.pickN rfl rfl rfl rfl ?_
              refine W.mv rfl ?_
              refine W.nil ?_
              exact ⟨false, h, Wk.nrmTo [4] [] rfl rfl⟩
          · replace h := iteF h c4
            refine W.guardF1 rfl c4 ?_
            refine W.guardF1 rfl c4 ?_
            refine W.guardF1 rfl c4 ?_
            refine W.pickN rfl rfl rfl c4 ?_
            refine W.mv rfl ?_
            refine W.guardF1 rfl rfl ?_
            refine W.guardF1 rfl rfl ?_
            refine W.guardF1 rfl rfl ?_
            refine W.pickN rfl rfl rfl rfl ?_
            refine W.mv rfl ?_
            refine W.guardF1 rfl rfl ?_
            refine W.guardF1 rfl rfl ?_
            refine W.guardF1 rfl rfl ?_
            refine W.guardU rfl ?_
            refine W.guardU rfl ?_
            refine W.guardU rfl ?_
            refine W.guardF1 rfl rfl ?_
            refine W.guardF1 rfl rfl ?_
            refine W.guardU rfl ?_
            refine W.guardU rfl ?_
            refine W.guardU rfl ?_
            refine W.guardU rfl ?_
            refine W.guardU rfl ?_
            refine W.guardU rfl ?_
            refine W.guardF1 rfl rfl ?_
            refine W.pickN rfl rfl rfl rfl ?_
            refine W.mv rfl ?_
            refine W.nil ?_
            exact ⟨false, h, Wk.nrmTo [4] [] rfl rfl⟩
        · intro x10 h
          try dsimp only at h ⊢
          unfold law6_BomMergeMatchesSpec_j4 at h
          refine Ev.ret ?_
          injection h with h; subst h
          exact ⟨_, rfl, .refl _⟩
set_option maxHeartbeats 4000000 in
theorem law6_BomMadeDescribesItsTree_spec (n : Nat) (a0 : List (List UInt8)) (a1 : SFiles) (a2 : SFiles) (r : Bool) (h : law6_BomMadeDescribesItsTree n a0 a1 a2 = some r) : PSpec Tryd.prog 12 [.list 1 (List.map cS a0), .agg (SFiles.cells a1), .agg (SFiles.cells a2)] (.bool r) := by
  unfold law6_BomMadeDescribesItsTree at h
  refine spec_of Tryd.c_law6_BomMadeDescribesItsTree (by simp) ?_
  unfold Tryd.l_law6_BomMadeDescribesItsTree
  refine Ev.seq ?_
  refine W.reg hm ?_
  refine W.box (dt := true) (cs := [.list 2 (List.map SPathLines.cells a1.Files)]) rfl rfl rfl rfl rfl rfl ?_
  refine W.box (dt := true) (cs := [.list 2 (List.map SPathLines.cells a2.Files)]) rfl rfl rfl rfl rfl rfl ?_
  refine W.mv rfl ?_
  refine W.nil ?_
  refine Ev.seq ?_
  refine W.reg hm ?_
  refine W.mv rfl ?_
  refine W.loadO (p := .agg [.list 2 (List.map SPathLines.cells a1.Files)]) rfl rfl rfl rfl ?_
  obtain ⟨r1, k1, h⟩ := obind h
  refine W.call (bom_Make_spec n a0 a1 r1 k1) rfl rfl (Les.refl _) rfl (.inl rfl) rfl ?_
  refine W.mv rfl ?_
  refine W.extract rfl rfl ?_
  refine W.extract rfl rfl ?_
  refine W.alloc (dt := true) rfl rfl rfl ?_
  refine W.mv rfl ?_
  refine W.store (es' := [[.int .i64 r1.2.Code, .int .i64 r1.2.Index]]) (dt := true) rfl rfl rfl rfl rfl (Nat.le_of_ble_eq_true rfl) rfl rfl rfl rfl ?_
  refine W.nil ?_
  refine Ev.seq ?_
  refine Ev.seqJ (γ := Bool) (fun v => ⟨[(0, .list 1 (List.map cS a0)), (4, .pown 10100 0 0 0), (5, .pown 10101 0 0 0), (7, .list 2 (List.map SPathDigest.cells r1.1)), (27, .bool v)], [(10100, ⟨0, 46, 1, [[.list 2 (List.map SPathLines.cells a1.Files)]], true, false, false⟩), (10101, ⟨0, 46, 1, [[.list 2 (List.map SPathLines.cells a2.Files)]], true, false, false⟩)], 2⟩) (fun v => law6_BomMadeDescribesItsTree_j1 n a0 a1 a2 r1 v = some r) ?_ ?_
  · refine W.reg hm ?_
    obtain ⟨r11, k13, h⟩ := obind h
    refine W.call (law6_bills_spec n r11 k13) rfl rfl (Les.refl _) rfl (.inl rfl) rfl ?_
    refine W.not rfl ?_
    refine W.mv rfl ?_
    refine W.split 23 rfl (fun c14 => ?_) (fun c14 => ?_)
    · replace h := iteT h c14
      refine W.guardF2 rfl c14 ?_
      refine W.guardF2 rfl c14 ?_
      refine W.guardF2 rfl c14 ?_
      refine W.pickT rfl rfl rfl c14 ?_
      refine W.nil ?_
      exact ⟨true, h, Wk.nrmTo [0, 4, 5, 7, 27] [(4, 10100), (5, 10101)] rfl rfl⟩
    · replace h := iteF h c14
      refine W.guardT rfl c14 ?_
      refine W.fieldAddrO rfl rfl ?_
      refine W.guardT rfl c14 ?_
      refine W.loadO (p := .int .i64 r1.2.Code) rfl rfl rfl rfl ?_
      refine W.guardT rfl c14 ?_
      refine W.neq rfl rfl ?_
      refine W.pickN rfl rfl rfl c14 ?_
      refine W.nil ?_
      exact ⟨(decide (r1.2.Code ≠ 0)), h, Wk.nrmTo [0, 4, 5, 7, 27] [(4, 10100), (5, 10101)] rfl rfl⟩
  · intro x2 h
    try dsimp only at h ⊢
    unfold law6_BomMadeDescribesItsTree_j1 at h
    refine Ev.cond rfl (fun c2 => ?_) (fun c2 => ?_)
    · replace h := iteT h c2
      refine Ev.seqJ (γ := Bool) (fun v => ⟨[(6, .bool v)], [], 2⟩) (fun v => law6_BomMadeDescribesItsTree_j2 n v = some r) ?_ ?_
      · refine W.reg hm ?_
        obtain ⟨r4, k3, h⟩ := obind h
        refine W.call (law6_bills_spec n r4 k3) rfl rfl (Les.refl _) rfl (.inl rfl) rfl ?_
        refine W.mv rfl ?_
        refine W.split 29 rfl (fun c4 => ?_) (fun c4 => ?_)
        · replace h := iteT h c4
          refine W.guardT rfl c4 ?_
          refine W.mv rfl ?_
          refine W.guardT rfl c4 ?_
          refine W.lenL (c := SPathDigest.cells) rfl ?_
          refine W.guardT rfl c4 ?_
          refine W.eql rfl rfl ?_
          refine W.pickT rfl rfl rfl c4 ?_
          refine W.mv rfl ?_
          refine W.nil ?_
          exact ⟨(decide ((r1.1.length : Int) = 0)), h, Wk.nrmTo [6] [] rfl rfl⟩
        · replace h := iteF h c4
          refine W.guardF1 rfl c4 ?_
          refine W.guardF1 rfl c4 ?_
          refine W.guardF1 rfl c4 ?_
          refine W.pickN rfl rfl rfl c4 ?_
          refine W.mv rfl ?_
          refine W.nil ?_
          exact ⟨false, h, Wk.nrmTo [6] [] rfl rfl⟩
      · intro x3 h
        try dsimp only at h ⊢
        unfold law6_BomMadeDescribesItsTree_j2 at h
        refine Ev.ret ?_
        injection h with h; subst h
        exact ⟨_, rfl, .refl _⟩
    · replace h := iteF h c2
      refine Ev.skip ?_
      refine Ev.seq ?_
      refine W.reg hm ?_
      refine W.mv rfl ?_
      refine W.loadO (p := .agg [.list 2 (List.map SPathLines.cells a1.Files)]) rfl rfl rfl rfl ?_
      obtain ⟨r5, k5, h⟩ := obind h
      refine W.call (bom_Check_spec n r1.1 a1 r5 k5) rfl rfl (Les.refl _) rfl (.inl rfl) rfl ?_
      refine W.mv rfl ?_
      refine W.extract rfl rfl ?_
      refine W.extract rfl rfl ?_
      refine W.alloc (dt := true) rfl rfl rfl ?_
      refine W.mv rfl ?_
      refine W.store (es' := [[.int .i64 r5.2.Code, .int .i64 r5.2.Index]]) (dt := true) rfl rfl rfl rfl rfl (Nat.le_of_ble_eq_true rfl) rfl rfl rfl rfl ?_
      refine W.nil ?_
      refine Ev.seq ?_
      refine W.reg hm ?_
      refine W.mv rfl ?_
      refine W.loadO (p := .agg [.list 2 (List.map SPathLines.cells a2.Files)]) rfl rfl rfl rfl ?_
      obtain ⟨r6, k6, h⟩ := obind h
      refine W.call (bom_Make_spec n a0 a2 r6 k6) rfl rfl (Les.refl _) rfl (.inl rfl) rfl ?_
      refine W.mv rfl ?_
      refine W.extract rfl rfl ?_
      refine W.extract rfl rfl ?_
      refine W.alloc (dt := true) rfl rfl rfl ?_
      refine W.mv rfl ?_
      refine W.store (es' := [[.int .i64 r6.2.Code, .int .i64 r6.2.Index]]) (dt := true) rfl rfl rfl rfl rfl (Nat.le_of_ble_eq_true rfl) rfl rfl rfl rfl ?_
      refine W.nil ?_
      refine Ev.seq ?_
      refine W.reg hm ?_
      refine W.mv rfl ?_
      refine W.loadO (p := .agg [.list 2 (List.map SPathLines.cells a2.Files)]) rfl rfl rfl rfl ?_
      obtain ⟨r7, k7, h⟩ := obind h
      refine W.call (bom_Check_spec n r1.1 a2 r7 k7) rfl rfl (Les.refl _) rfl (.inl rfl) rfl ?_
      refine W.mv rfl ?_
      refine W.extract rfl rfl ?_
      refine W.extract rfl rfl ?_
      refine W.alloc (dt := true) rfl rfl rfl ?_
      refine W.mv rfl ?_
      refine W.store (es' := [[.int .i64 r7.2.Code, .int .i64 r7.2.Index]]) (dt := true) rfl rfl rfl rfl rfl (Nat.le_of_ble_eq_true rfl) rfl rfl rfl rfl ?_
      refine W.nil ?_
      refine Ev.seq ?_
      refine Ev.seqJ (γ := Bool) (fun v => ⟨[(7, .list 2 (List.map SPathDigest.cells r1.1)), (11, .list 2 (List.map SPathDigest.cells r6.1)), (12, .pown 10200 0 0 0), (13, .list 1 (List.map cI r7.1)), (64, .bool v)], [(10200, ⟨0, 25, 2, [[.int .i64 r6.2.Code, .int .i64 r6.2.Index]], true, false, false⟩)], 2⟩) (fun v => law6_BomMadeDescribesItsTree_j3 n r1 r6 r7 v = some r) ?_ ?_
      · refine W.reg hm ?_
        refine W.fieldAddrO rfl rfl ?_
        refine W.loadO (p := .int .i64 r5.2.Code) rfl rfl rfl rfl ?_
        refine W.neq rfl rfl ?_
        refine W.mv rfl ?_
        refine W.split 55 rfl (fun c11 => ?_) (fun c11 => ?_)
        · replace h := iteT h c11
          refine W.guardF2 rfl c11 ?_
          refine W.guardF2 rfl c11 ?_
          refine W.guardF2 rfl c11 ?_
          refine W.pickT rfl rfl rfl c11 ?_
          refine W.mv rfl ?_
          refine W.guardF2 rfl rfl ?_
          refine W.guardF2 rfl rfl ?_
          refine W.guardF2 rfl rfl ?_
          refine W.pickT rfl rfl rfl rfl ?_
          refine W.nil ?_
          exact ⟨true, h, Wk.nrmTo [7, 11, 12, 13, 64] [(12, 10200)] rfl rfl⟩
        · replace h := iteF h c11
          refine W.guardT rfl c11 ?_
          refine W.mv rfl ?_
          refine W.guardT rfl c11 ?_
          refine W.lenL (c := cI) rfl ?_
          refine W.guardT rfl c11 ?_
          refine W.gtr rfl rfl ?_
          refine W.pickN rfl rfl rfl c11 ?_
          refine W.mv rfl ?_
          refine W.split 60 rfl (fun c12 => ?_) (fun c12 => ?_)
          · replace h := iteT h c12
            refine W.guardF2 rfl c12 ?_
            refine W.guardF2 rfl c12 ?_
            refine W.guardF2 rfl c12 ?_
            refine W.pickT rfl rfl rfl c12 ?_
            refine W.nil ?_
            exact ⟨true, h, Wk.nrmTo [7, 11, 12, 13, 64] [(12, 10200)] rfl rfl⟩
          · replace h := iteF h c12
            refine W.guardT rfl c12 ?_
            refine W.loadO (p := .agg [.int .i64 r6.2.Code, .int .i64 r6.2.Index]) rfl rfl rfl rfl ?_
            refine W.guardT rfl c12 ?_
            refine W.loadO (p := .agg [.int .i64 r7.2.Code, .int .i64 r7.2.Index]) rfl rfl rfl rfl ?_
            refine W.guardT rfl c12 ?_
            refine W.eqs rfl rfl rfl ?_
            refine W.pickN rfl rfl rfl c12 ?_
            refine W.nil ?_
            exact ⟨((r6.2.Code == r7.2.Code && (r6.2.Index == r7.2.Index && true)) != true), h, Wk.nrmTo [7, 11, 12, 13, 64] [(12, 10200)] rfl rfl⟩
      · intro x8 h
        try dsimp only at h ⊢
        unfold law6_BomMadeDescribesItsTree_j3 at h
        refine Ev.cond rfl (fun c8 => ?_) (fun c8 => ?_)
        · replace h := iteT h c8
          refine Ev.seq ?_
          refine W.reg hm ?_
          refine W.mv rfl ?_
          refine W.nil ?_
          refine Ev.ret ?_
          injection h with h; subst h
          exact ⟨_, rfl, .refl _⟩
        · replace h := iteF h c8
          refine Ev.skip ?_
          refine Ev.seqJ (γ := Bool) (fun v => ⟨[(6, .bool v)], [], 2⟩) (fun v => law6_BomMadeDescribesItsTree_j4 n v = some r) ?_ ?_
          · refine W.reg hm ?_
            refine W.fieldAddrO rfl rfl ?_
            refine W.loadO (p := .int .i64 r6.2.Code) rfl rfl rfl rfl ?_
            refine W.neq rfl rfl ?_
            refine W.mv rfl ?_
            refine W.split 68 rfl (fun c9 => ?_) (fun c9 => ?_)
            · replace h := iteT h c9
              refine W.guardF2 rfl c9 ?_
              refine W.guardF2 rfl c9 ?_
              refine W.guardF2 rfl c9 ?_
              refine W.guardF2 rfl c9 ?_
              refine W.guardF2 rfl c9 ?_
              refine W.guardF2 rfl c9 ?_
              refine W.guardF2 rfl c9 ?_
              refine W.pickT rfl rfl rfl c9 ?_
              refine W.mv rfl ?_
              refine W.nil ?_
              exact ⟨true, h, Wk.nrmTo [6] [] rfl rfl⟩
            · replace h := iteF h c9
              refine W.guardT rfl c9 ?_
              refine W.mv rfl ?_
              refine W.guardT rfl c9 ?_
              refine W.lenL (c := cI) rfl ?_
              refine W.guardT rfl c9 ?_
              refine W.eql rfl rfl ?_
              refine W.guardT rfl c9 ?_
              refine W.mv rfl ?_
              refine W.guardT rfl c9 ?_
              refine W.mv rfl ?_
              refine W.guardT rfl c9 ?_
              obtain ⟨r10, k10, h⟩ := obind h
              refine W.call (ref6_SameBom_spec n r1.1 r6.1 r10 k10) rfl rfl (Les.refl _) rfl (.inl rfl) rfl ?_
              refine W.guardT rfl c9 ?_
              refine W.beql rfl rfl ?_
              refine W.pickN rfl rfl rfl c9 ?_
              refine W.mv rfl ?_
              refine W.nil ?_
              exact ⟨((decide ((r7.1.length : Int) = 0)) == r10), h, Wk.nrmTo [6] [] rfl rfl⟩
          · intro x9 h
            try dsimp only at h ⊢
            unfold law6_BomMadeDescribesItsTree_j4 at h
            refine Ev.ret ?_
            injection h with h; subst h
            exact ⟨_, rfl, .refl _⟩
set_option maxHeartbeats 4000000 in
theorem law6_BomMergedDescribesBoth_spec (n : Nat) (a0 : List SPathDigest) (a1 : List SPathDigest) (a2 : SFiles) (r : Bool) (h : law6_BomMergedDescribesBoth n a0 a1 a2 = some r) : PSpec Tryd.prog 13 [.list 2 (List.map SPathDigest.cells a0), .list 2 (List.map SPathDigest.cells a1), .agg (SFiles.cells a2)] (.bool r) := by
  unfold law6_BomMergedDescribesBoth at h
  refine spec_of Tryd.c_law6_BomMergedDescribesBoth (by simp) ?_
  unfold Tryd.l_law6_BomMergedDescribesBoth
  refine Ev.seq ?_
  refine W.reg hm ?_
  refine W.box (dt := true) (cs := [.list 2 (List.map SPathLines.cells a2.Files)]) rfl rfl rfl rfl rfl rfl ?_
  refine W.mv rfl ?_
  refine W.nil ?_
  refine Ev.seq ?_
  refine W.reg hm ?_
  refine W.mv rfl ?_
  refine W.mv rfl ?_
  obtain ⟨r1, k1, h⟩ := obind h
  refine W.call (bom_Merge_spec n a0 a1 r1 k1) rfl rfl (Les.refl _) rfl (.inl rfl) rfl ?_
  refine W.mv rfl ?_
  refine W.extract rfl rfl ?_
  refine W.extract rfl rfl ?_
  refine W.extract rfl rfl ?_
  refine W.alloc (dt := true) rfl rfl rfl ?_
  refine W.mv rfl ?_
  refine W.mv rfl ?_
  refine W.store (es' := [[.int .i64 r1.2.2.Code, .int .i64 r1.2.2.Index]]) (dt := true) rfl rfl rfl rfl rfl (Nat.le_of_ble_eq_true rfl) rfl rfl rfl rfl ?_
  refine W.nil ?_
  refine Ev.seq ?_
  refine W.reg hm ?_
  refine W.mv rfl ?_
  refine W.mv rfl ?_
  obtain ⟨r2, k2, h⟩ := obind h
  refine W.call (bom_Merge_spec n a1 a0 r2 k2) rfl rfl (Les.refl _) rfl (.inl rfl) rfl ?_
  refine W.mv rfl ?_
  refine W.extract rfl rfl ?_
  refine W.extract rfl rfl ?_
  refine W.extract rfl rfl ?_
  refine W.alloc (dt := true) rfl rfl rfl ?_
  refine W.mv rfl ?_
  refine W.mv rfl ?_
  refine W.store (es' := [[.int .i64 r2.2.2.Code, .int .i64 r2.2.2.Index]]) (dt := true) rfl rfl rfl rfl rfl (Nat.le_of_ble_eq_true rfl) rfl rfl rfl rfl ?_
  refine W.nil ?_
  refine Ev.seq ?_
  refine Ev.seqJ (γ := Bool) (fun v => ⟨[(0, .list 2 (List.map SPathDigest.cells a0)), (1, .list 2 (List.map SPathDigest.cells a1)), (5, .pown 10100 0 0 0), (7, .list 2 (List.map SPathDigest.cells r1.1)), (8, .bool r1.2.1), (9, .pown 10101 0 0 0), (54, .bool v)], [(10100, ⟨0, 46, 1, [[.list 2 (List.map SPathLines.cells a2.Files)]], true, false, false⟩), (10101, ⟨0, 25, 2, [[.int .i64 r1.2.2.Code, .int .i64 r1.2.2.Index]], true, false, false⟩)], 2⟩) (fun v => law6_BomMergedDescribesBoth_j1 n a0 a1 a2 r1 v = some r) ?_ ?_
  · refine W.reg hm ?_
    obtain ⟨r11, k17, h⟩ := obind h
    refine W.call (law6_bills_spec n r11 k17) rfl rfl (Les.refl _) rfl (.inl rfl) rfl ?_
    refine W.not rfl ?_
    refine W.mv rfl ?_
    refine W.split 35 rfl (fun c18 => ?_) (fun c18 => ?_)
    · replace h := iteT h c18
      refine W.guardF2 rfl c18 ?_
      refine W.guardF2 rfl c18 ?_
      refine W.guardF2 rfl c18 ?_
      refine W.guardF2 rfl c18 ?_
      refine W.guardF2 rfl c18 ?_
      refine W.guardF2 rfl c18 ?_
      refine W.guardF2 rfl c18 ?_
      refine W.pickT rfl rfl rfl c18 ?_
      refine W.mv rfl ?_
      refine W.guardF2 rfl rfl ?_
      refine W.guardF2 rfl rfl ?_
      refine W.guardF2 rfl rfl ?_
      refine W.pickT rfl rfl rfl rfl ?_
      refine W.mv rfl ?_
      refine W.guardF2 rfl rfl ?_
      refine W.guardF2 rfl rfl ?_
      refine W.guardF2 rfl rfl ?_
      refine W.guardF2 rfl rfl ?_
      refine W.pickT rfl rfl rfl rfl ?_
      refine W.nil ?_
      exact ⟨true, h, Wk.nrmTo [0, 1, 5, 7, 8, 9, 54] [(5, 10100), (9, 10101)] rfl rfl⟩
    · replace h := iteF h c18
      refine W.guardT rfl c18 ?_
      refine W.fieldAddrO rfl rfl ?_
      refine W.guardT rfl c18 ?_
      refine W.loadO (p := .int .i64 r1.2.2.Code) rfl rfl rfl rfl ?_
      refine W.guardT rfl c18 ?_
      refine W.eql rfl rfl ?_
      refine W.guardT rfl c18 ?_
      refine W.fieldAddrO rfl rfl ?_
      refine W.guardT rfl c18 ?_
      refine W.loadO (p := .int .i64 r2.2.2.Code) rfl rfl rfl rfl ?_
      refine W.guardT rfl c18 ?_
      refine W.eql rfl rfl ?_
      refine W.guardT rfl c18 ?_
      refine W.bneq rfl rfl ?_
      refine W.pickN rfl rfl rfl c18 ?_
      refine W.mv rfl ?_
      refine W.split 44 rfl (fun c19 => ?_) (fun c19 => ?_)
      · replace h := iteT h c19
        refine W.guardF2 rfl c19 ?_
        refine W.guardF2 rfl c19 ?_
        refine W.guardF2 rfl c19 ?_
        refine W.pickT rfl rfl rfl c19 ?_
        refine W.mv rfl ?_
        refine W.guardF2 rfl rfl ?_
        refine W.guardF2 rfl rfl ?_
        refine W.guardF2 rfl rfl ?_
        refine W.guardF2 rfl rfl ?_
        refine W.pickT rfl rfl rfl rfl ?_
        refine W.nil ?_
        exact ⟨true, h, Wk.nrmTo [0, 1, 5, 7, 8, 9, 54] [(5, 10100), (9, 10101)] rfl rfl⟩
      · replace h := iteF h c19
        refine W.guardT rfl c19 ?_
        refine W.mv rfl ?_
        refine W.guardT rfl c19 ?_
        refine W.mv rfl ?_
        refine W.guardT rfl c19 ?_
        refine W.bneq rfl rfl ?_
        refine W.pickN rfl rfl rfl c19 ?_
        refine W.mv rfl ?_
        refine W.split 49 rfl (fun c20 => ?_) (fun c20 => ?_)
        · replace h := iteT h c20
          refine W.guardF2 rfl c20 ?_
          refine W.guardF2 rfl c20 ?_
          refine W.guardF2 rfl c20 ?_
          refine W.guardF2 rfl c20 ?_
          refine W.pickT rfl rfl rfl c20 ?_
          refine W.nil ?_
          exact ⟨true, h, Wk.nrmTo [0, 1, 5, 7, 8, 9, 54] [(5, 10100), (9, 10101)] rfl rfl⟩
        · replace h := iteF h c20
          refine W.guardT rfl c20 ?_
          refine W.mv rfl ?_
          refine W.guardT rfl c20 ?_
          refine W.mv rfl ?_
          refine W.guardT rfl c20 ?_
          obtain ⟨r12, k21, h⟩ := obind h
          refine W.call (ref6_SameBom_spec n r1.1 r2.1 r12 k21) rfl rfl (Les.refl _) rfl (.inl rfl) rfl ?_
          refine W.guardT rfl c20 ?_
          refine W.not rfl ?_
          refine W.pickN rfl rfl rfl c20 ?_
          refine W.nil ?_
          exact ⟨(!r12), h, Wk.nrmTo [0, 1, 5, 7, 8, 9, 54] [(5, 10100), (9, 10101)] rfl rfl⟩
  · intro x3 h
    try dsimp only at h ⊢
    unfold law6_BomMergedDescribesBoth_j1 at h
    refine Ev.cond rfl (fun c3 => ?_) (fun c3 => ?_)
    · replace h := iteT h c3
      refine Ev.seq ?_
      refine W.reg hm ?_
      refine W.mv rfl ?_
      refine W.nil ?_
      refine Ev.ret ?_
      injection h with h; subst h
      exact ⟨_, rfl, .refl _⟩
    · replace h := iteF h c3
      refine Ev.skip ?_
      refine Ev.seq ?_
      refine W.reg hm ?_
      refine W.mv rfl ?_
      refine W.loadO (p := .agg [.list 2 (List.map SPathLines.cells a2.Files)]) rfl rfl rfl rfl ?_
      obtain ⟨r4, k4, h⟩ := obind h
      refine W.call (bom_Check_spec n a0 a2 r4 k4) rfl rfl (Les.refl _) rfl (.inl rfl) rfl ?_
      refine W.mv rfl ?_
      refine W.extract rfl rfl ?_
      refine W.extract rfl rfl ?_
      refine W.alloc (dt := true) rfl rfl rfl ?_
      refine W.mv rfl ?_
      refine W.store (es' := [[.int .i64 r4.2.Code, .int .i64 r4.2.Index]]) (dt := true) rfl rfl rfl rfl rfl (Nat.le_of_ble_eq_true rfl) rfl rfl rfl rfl ?_
      refine W.nil ?_
      refine Ev.seq ?_
      refine W.reg hm ?_
      refine W.mv rfl ?_
      refine W.loadO (p := .agg [.list 2 (List.map SPathLines.cells a2.Files)]) rfl rfl rfl rfl ?_
      obtain ⟨r5, k5, h⟩ := obind h
      refine W.call (bom_Check_spec n a1 a2 r5 k5) rfl rfl (Les.refl _) rfl (.inl rfl) rfl ?_
      refine W.mv rfl ?_
      refine W.extract rfl rfl ?_
      refine W.extract rfl rfl ?_
      refine W.alloc (dt := true) rfl rfl rfl ?_
      refine W.mv rfl ?_
      refine W.store (es' := [[.int .i64 r5.2.Code, .int .i64 r5.2.Index]]) (dt := true) rfl rfl rfl rfl rfl (Nat.le_of_ble_eq_true rfl) rfl rfl rfl rfl ?_
      refine W.nil ?_
      refine Ev.seq ?_
      refine W.reg hm ?_
      refine W.mv rfl ?_
      refine W.loadO (p := .agg [.list 2 (List.map SPathLines.cells a2.Files)]) rfl rfl rfl rfl ?_
      obtain ⟨r6, k6, h⟩ := obind h
      refine W.call (bom_Check_spec n r1.1 a2 r6 k6) rfl rfl (Les.refl _) rfl (.inl rfl) rfl ?_
      refine W.mv rfl ?_
      refine W.extract rfl rfl ?_
      refine W.extract rfl rfl ?_
      refine W.alloc (dt := true) rfl rfl rfl ?_
      refine W.mv rfl ?_
      refine W.store (es' := [[.int .i64 r6.2.Code, .int .i64 r6.2.Index]]) (dt := true) rfl rfl rfl rfl rfl (Nat.le_of_ble_eq_true rfl) rfl rfl rfl rfl ?_
      refine W.nil ?_
      refine Ev.seq ?_
      refine Ev.seqJ (γ := Bool) (fun v => ⟨[(7, .list 2 (List.map SPathDigest.cells r1.1)), (8, .bool r1.2.1), (9, .pown 10200 0 0 0), (13, .list 1 (List.map cI r4.1)), (15, .list 1 (List.map cI r5.1)), (17, .list 1 (List.map cI r6.1)), (18, .pown 10201 0 0 0), (85, .bool v)], [(10200, ⟨0, 25, 2, [[.int .i64 r1.2.2.Code, .int .i64 r1.2.2.Index]], true, false, false⟩), (10201, ⟨0, 25, 2, [[.int .i64 r6.2.Code, .int .i64 r6.2.Index]], true, false, false⟩)], 2⟩) (fun v => law6_BomMergedDescribesBoth_j2 n r1 r4 r5 r6 v = some r) ?_ ?_
      · refine W.reg hm ?_
        refine W.fieldAddrO rfl rfl ?_
        refine W.loadO (p := .int .i64 r1.2.2.Code) rfl rfl rfl rfl ?_
        refine W.neq rfl rfl ?_
        refine W.mv rfl ?_
        refine W.split 76 rfl (fun c15 => ?_) (fun c15 => ?_)
        · replace h := iteT h c15
          refine W.guardF2 rfl c15 ?_
          refine W.guardF2 rfl c15 ?_
          refine W.guardF2 rfl c15 ?_
          refine W.pickT rfl rfl rfl c15 ?_
          refine W.mv rfl ?_
          refine W.guardF2 rfl rfl ?_
          refine W.guardF2 rfl rfl ?_
          refine W.guardF2 rfl rfl ?_
          refine W.pickT rfl rfl rfl rfl ?_
          refine W.nil ?_
          exact ⟨true, h, Wk.nrmTo [7, 8, 9, 13, 15, 17, 18, 85] [(10101, 10200), (18, 10201)] rfl rfl⟩
        · replace h := iteF h c15
          refine W.guardT rfl c15 ?_
          refine W.fieldAddrO rfl rfl ?_
          refine W.guardT rfl c15 ?_
          refine W.loadO (p := .int .i64 r4.2.Code) rfl rfl rfl rfl ?_
          refine W.guardT rfl c15 ?_
          refine W.neq rfl rfl ?_
          refine W.pickN rfl rfl rfl c15 ?_
          refine W.mv rfl ?_
          refine W.split 81 rfl (fun c16 => ?_) (fun c16 => ?_)
          · replace h := iteT h c16
            refine W.guardF2 rfl c16 ?_
            refine W.guardF2 rfl c16 ?_
            refine W.guardF2 rfl c16 ?_
            refine W.pickT rfl rfl rfl c16 ?_
            refine W.nil ?_
            exact ⟨true, h, Wk.nrmTo [7, 8, 9, 13, 15, 17, 18, 85] [(10101, 10200), (18, 10201)] rfl rfl⟩
          · replace h := iteF h c16
            refine W.guardT rfl c16 ?_
            refine W.fieldAddrO rfl rfl ?_
            refine W.guardT rfl c16 ?_
            refine W.loadO (p := .int .i64 r5.2.Code) rfl rfl rfl rfl ?_
            refine W.guardT rfl c16 ?_
            refine W.neq rfl rfl ?_
            refine W.pickN rfl rfl rfl c16 ?_
            refine W.nil ?_
            exact ⟨(decide (r5.2.Code ≠ 0)), h, Wk.nrmTo [7, 8, 9, 13, 15, 17, 18, 85] [(10101, 10200), (18, 10201)] rfl rfl⟩
      · intro x7 h
        try dsimp only at h ⊢
        unfold law6_BomMergedDescribesBoth_j2 at h
        refine Ev.cond rfl (fun c7 => ?_) (fun c7 => ?_)
        · replace h := iteT h c7
          refine Ev.seqJ (γ := Bool) (fun v => ⟨[(6, .bool v)], [], 2⟩) (fun v => law6_BomMergedDescribesBoth_j3 n v = some r) ?_ ?_
          · refine W.reg hm ?_
            refine W.fieldAddrO rfl rfl ?_
            refine W.loadO (p := .int .i64 r1.2.2.Code) rfl rfl rfl rfl ?_
            refine W.eql rfl rfl ?_
            refine W.mv rfl ?_
            refine W.split 89 rfl (fun c8 => ?_) (fun c8 => ?_)
            · replace h := iteT h c8
              refine W.guardF2 rfl c8 ?_
              refine W.guardF2 rfl c8 ?_
              refine W.guardF2 rfl c8 ?_
              refine W.guardU rfl ?_
              refine W.guardU rfl ?_
              refine W.guardU rfl ?_
              refine W.guardF2 rfl c8 ?_
              refine W.pickT rfl rfl rfl c8 ?_
              refine W.mv rfl ?_
              refine W.nil ?_
              exact ⟨true, h, Wk.nrmTo [6] [] rfl rfl⟩
            · replace h := iteF h c8
              refine W.guardT rfl c8 ?_
              refine W.mv rfl ?_
              refine W.guardT rfl c8 ?_
              refine W.not rfl ?_
              refine W.guardT rfl c8 ?_
              refine W.mv rfl ?_
              refine W.split 92 rfl (fun c9 => ?_) (fun c9 => ?_)
              · replace h := iteT h c9
                refine W.guardT rfl c9 ?_
                refine W.mv rfl ?_
                refine W.guardT rfl c9 ?_
                refine W.lenL (c := SPathDigest.cells) rfl ?_
                refine W.guardT rfl c9 ?_
                refine W.eql rfl rfl ?_
                refine W.guardT rfl c8 ?_
                refine W.pickT rfl rfl rfl c9 ?_
                refine W.pickN rfl rfl rfl c8 ?_
                refine W.mv rfl ?_
                refine W.nil ?_
                exact ⟨(decide ((r1.1.length : Int) = 0)), h, Wk.nrmTo [6] [] rfl rfl⟩
              · replace h := iteF h c9
                refine W.guardF1 rfl c9 ?_
                refine W.guardF1 rfl c9 ?_
                refine W.guardF1 rfl c9 ?_
                refine W.guardT rfl c8 ?_
                refine W.pickN rfl rfl rfl c9 ?_
                refine W.pickN rfl rfl rfl c8 ?_
                refine W.mv rfl ?_
                refine W.nil ?_
                exact ⟨false, h, Wk.nrmTo [6] [] rfl rfl⟩
          · intro x8 h
            try dsimp only at h ⊢
            unfold law6_BomMergedDescribesBoth_j3 at h
            refine Ev.ret ?_
            injection h with h; subst h
            exact ⟨_, rfl, .refl _⟩
        · replace h := iteF h c7
          refine Ev.skip ?_
          refine Ev.seq ?_
          refine Ev.seq ?_
          refine W.reg hm ?_
          refine W.mv rfl ?_
          refine W.not rfl ?_
          refine W.nil ?_
          refine Ev.cond rfl (fun c10 => ?_) (fun c10 => ?_)
          · replace h := iteT h c10
            refine Ev.seqJ (γ := Bool) (fun v => ⟨[(6, .bool v)], [], 2⟩) (fun v => law6_BomMergedDescribesBoth_j4 n v = some r) ?_ ?_
            · refine W.reg hm ?_
              refine W.mv rfl ?_
              refine W.lenL (c := SPathDigest.cells) rfl ?_
              refine W.eql rfl rfl ?_
              refine W.mv rfl ?_
              refine W.split 103 rfl (fun c11 => ?_) (fun c11 => ?_)
              · replace h := iteT h c11
                refine W.guardT rfl c11 ?_
                refine W.mv rfl ?_
                refine W.guardT rfl c11 ?_
                refine W.lenL (c := cI) rfl ?_
                refine W.guardT rfl c11 ?_
                refine W.gtr rfl rfl ?_
                refine W.guardT rfl c11 ?_
                refine W.mv rfl ?_
                refine W.split 107 rfl (fun c12 => ?_) (fun c12 => ?_)
                · replace h := iteT h c12
                  refine W.guardF2 rfl c12 ?_
                  refine W.guardF2 rfl c12 ?_
                  refine W.guardF2 rfl c12 ?_
                  refine W.guardT rfl c11 ?_
                  refine W.pickT rfl rfl rfl c12 ?_
                  refine W.pickT rfl rfl rfl c11 ?_
                  refine W.mv rfl ?_
                  refine W.nil ?_
                  exact ⟨true, h, Wk.nrmTo [6] [] rfl rfl⟩
                · replace h := iteF h c12
                  refine W.guardT rfl c12 ?_
                  refine W.mv rfl ?_
                  refine W.guardT rfl c12 ?_
                  refine W.lenL (c := cI) rfl ?_
                  refine W.guardT rfl c12 ?_
                  refine W.gtr rfl rfl ?_
                  refine W.guardT rfl c11 ?_
                  refine W.pickN rfl rfl rfl c12 ?_
                  refine W.pickT rfl rfl rfl c11 ?_
                  refine W.mv rfl ?_
                  refine W.nil ?_
                  exact ⟨(decide (0 < (r5.1.length : Int))), h, Wk.nrmTo [6] [] rfl rfl⟩
              · replace h := iteF h c11
                refine W.guardF1 rfl c11 ?_
                refine W.guardF1 rfl c11 ?_
                refine W.guardF1 rfl c11 ?_
                refine W.guardF1 rfl c11 ?_
                refine W.guardU rfl ?_
                refine W.guardU rfl ?_
                refine W.guardU rfl ?_
                refine W.guardF1 rfl c11 ?_
                refine W.pickN rfl rfl rfl c11 ?_
                refine W.mv rfl ?_
                refine W.nil ?_
                exact ⟨false, h, Wk.nrmTo [6] [] rfl rfl⟩
            · intro x9 h
              try dsimp only at h ⊢
              unfold law6_BomMergedDescribesBoth_j4 at h
              refine Ev.ret ?_
              injection h with h; subst h
              exact ⟨_, rfl, .refl _⟩
          · replace h := iteF h c10
            refine Ev.skip ?_
            refine Ev.seqJ (γ := Bool) (fun v => ⟨[(6, .bool v)], [], 2⟩) (fun v => law6_BomMergedDescribesBoth_j5 n v = some r) ?_ ?_
            · refine W.reg hm ?_
              refine W.fieldAddrO rfl rfl ?_
              refine W.loadO (p := .int .i64 r6.2.Code) rfl rfl rfl rfl ?_
              refine W.eql rfl rfl ?_
              refine W.mv rfl ?_
              refine W.split 116 rfl (fun c13 => ?_) (fun c13 => ?_)
              · replace h := iteT h c13
                refine W.guardT rfl c13 ?_
                refine W.mv rfl ?_
                refine W.guardT rfl c13 ?_
                refine W.lenL (c := cI) rfl ?_
                refine W.guardT rfl c13 ?_
                refine W.eql rfl rfl ?_
                refine W.guardT rfl c13 ?_
                refine W.mv rfl ?_
                refine W.guardT rfl c13 ?_
                refine W.lenL (c := cI) rfl ?_
                refine W.guardT rfl c13 ?_
                refine W.eql rfl rfl ?_
                refine W.guardT rfl c13 ?_
                refine W.mv rfl ?_
                refine W.split 123 rfl (fun c14 => ?_) (fun c14 => ?_)
                · replace h := iteT h c14
                  refine W.guardT rfl c14 ?_
                  refine W.mv rfl ?_
                  refine W.guardT rfl c14 ?_
                  refine W.lenL (c := cI) rfl ?_
                  refine W.guardT rfl c14 ?_
                  refine W.eql rfl rfl ?_
                  refine W.guardT rfl c13 ?_
                  refine W.pickT rfl rfl rfl c14 ?_
                  refine W.guardT rfl c13 ?_
                  refine W.beql rfl rfl ?_
                  refine W.pickT rfl rfl rfl c13 ?_
                  refine W.mv rfl ?_
                  refine W.nil ?_
                  exact ⟨((decide ((r6.1.length : Int) = 0)) == (decide ((r5.1.length : Int) = 0))), h, Wk.nrmTo [6] [] rfl rfl⟩
                · replace h := iteF h c14
                  refine W.guardF1 rfl c14 ?_
                  refine W.guardF1 rfl c14 ?_
                  refine W.guardF1 rfl c14 ?_
                  refine W.guardT rfl c13 ?_
                  refine W.pickN rfl rfl rfl c14 ?_
                  refine W.guardT rfl c13 ?_
                  refine W.beql rfl rfl ?_
                  refine W.pickT rfl rfl rfl c13 ?_
                  refine W.mv rfl ?_
                  refine W.nil ?_
                  exact ⟨((decide ((r6.1.length : Int) = 0)) == false), h, Wk.nrmTo [6] [] rfl rfl⟩
              · replace h := iteF h c13
                refine W.guardF1 rfl c13 ?_
                refine W.guardF1 rfl c13 ?_
                refine W.guardF1 rfl c13 ?_
                refine W.guardF1 rfl c13 ?_
                refine W.guardF1 rfl c13 ?_
                refine W.guardF1 rfl c13 ?_
                refine W.guardF1 rfl c13 ?_
                refine W.guardU rfl ?_
                refine W.guardU rfl ?_
                refine W.guardU rfl ?_
                refine W.guardF1 rfl c13 ?_
                refine W.guardF1 rfl c13 ?_
                refine W.pickN rfl rfl rfl c13 ?_
                refine W.mv rfl ?_
                refine W.nil ?_
                exact ⟨false, h, Wk.nrmTo [6] [] rfl rfl⟩
            · intro x10 h
              try dsimp only at h ⊢
              unfold law6_BomMergedDescribesBoth_j5 at h
              refine Ev.ret ?_
              injection h with h; subst h
              exact ⟨_, rfl, .refl _⟩
theorem ref6_HasString_spec (n : Nat) (a0 : List (List UInt8)) (a1 : List UInt8) (r : Bool) (h : ref6_HasString n a0 a1 = some r) : PSpec Tryd.prog 89 [.list 1 (List.map cS a0), .str a1] (.bool r) := by
  unfold ref6_HasString at h
  refine spec_of Tryd.c_ref6_HasString (by simp) ?_
  unfold Tryd.l_ref6_HasString
  refine Ev.seq ?_
  refine W.reg hm ?_
  refine W.mv rfl ?_
  refine W.nil ?_
  refine Ev.seq ?_
  refine Ev.seq ?_
  refine W.reg hm ?_
  refine W.mv rfl ?_
  refine W.nil ?_
  refine Ev.block ?_
  refine Ev.loopW (β := Nat × Int) (fun v => ⟨[(0, .list 1 (List.map cS a0)), (1, .str a1), (5, .int .i64 v.2)], [], 2⟩) (fun v => ref6_HasString_l1 n a0 a1 v.1 v.2 = some r) (fun v => v.1) (n, 0) (Wk.nrmTo [0, 1, 5] [] rfl rfl) h ?_
  intro ⟨m1, x1⟩ h
  try dsimp only at h ⊢
  cases m1 with
  | zero => rw [ref6_HasString_l1] at h; cases h
  | succ m1 =>
    rw [ref6_HasString_l1] at h
    refine Ev.seq ?_
    refine Ev.seq ?_
    refine W.reg hm ?_
    refine W.mv rfl ?_
    refine W.mv rfl ?_
    refine W.lenL (c := cS) rfl ?_
    refine W.lss rfl rfl ?_
    refine W.nil ?_
    refine Ev.cond rfl (fun c1 => ?_) (fun c1 => ?_)
    · replace h := iteT h c1
      refine Ev.skip ?_
      refine Ev.seq ?_
      refine Ev.block ?_
      refine Ev.seq ?_
      refine W.reg hm ?_
      refine W.mv rfl ?_
      refine W.mv rfl ?_
      obtain ⟨e2, k2, h⟩ := obind h
      refine W.idxL (c := cS) rfl rfl k2 ?_
      refine W.load rfl rfl ?_
      refine W.mv rfl ?_
      refine W.seql rfl rfl ?_
      refine W.nil ?_
      refine Ev.cond rfl (fun c3 => ?_) (fun c3 => ?_)
      · replace h := iteT h c3
        refine Ev.seq ?_
        refine W.reg hm ?_
        refine W.mv rfl ?_
        refine W.nil ?_
        refine Ev.ret ?_
        injection h with h; subst h
        exact ⟨_, rfl, .refl _⟩
      · replace h := iteF h c3
        refine Ev.skip ?_
        refine W.reg hm ?_
        refine W.mv rfl ?_
        obtain ⟨x3, k4, h⟩ := obind h
        refine W.addG rfl rfl k4 ?_
        refine W.mv rfl ?_
        refine W.nil ?_
        exact ⟨(m1, x3), h, Nat.lt_succ_self _, Wk.nrmTo [0, 1, 5] [] rfl rfl⟩
    · replace h := iteF h c1
      refine Ev.exit ?_
      refine Ev.seq ?_
      refine W.reg hm ?_
      refine W.mv rfl ?_
      refine W.nil ?_
      refine Ev.ret ?_
      injection h with h; subst h
      exact ⟨_, rfl, .refl _⟩
theorem ref6_Restricted_spec (n : Nat) (a0 : SFiles) (a1 : List (List UInt8)) (r : SFiles) (h : ref6_Restricted n a0 a1 = some r) : PSpec Tryd.prog 47 [.agg (SFiles.cells a0), .list 1 (List.map cS a1)] (.agg (SFiles.cells r)) := by
  unfold ref6_Restricted at h
  refine spec_of Tryd.c_ref6_Restricted (by simp) ?_
  unfold Tryd.l_ref6_Restricted
  refine Ev.seq ?_
  refine W.reg hm ?_
  refine W.box (dt := true) (cs := [.list 2 (List.map SPathLines.cells a0.Files)]) rfl rfl rfl rfl rfl rfl ?_
  refine W.alloc (dt := true) rfl rfl rfl ?_
  refine W.nil ?_
  refine Ev.seq ?_
  refine W.reg hm ?_
  refine W.alloc (dt := true) rfl rfl rfl ?_
  refine W.nil ?_
  refine Ev.seq ?_
  refine Ev.seq ?_
  refine W.reg hm ?_
  refine W.mv rfl ?_
  refine W.nil ?_
  refine Ev.block ?_
  refine Ev.loopW (β := Nat × (List SPathLines) × Int) (fun v => ⟨[(1, .list 1 (List.map cS a1)), (2, .pown 10100 0 0 0), (4, .pown 10101 0 0 0), (5, .pown 10102 0 0 0), (6, .int .i64 v.2.2)], [(10100, ⟨0, 46, 1, [[.list 2 (List.map SPathLines.cells a0.Files)]], true, false, false⟩), (10101, ⟨0, 46, 1, [[.nils]], true, false, false⟩), (10102, ⟨0, 46, 1, [[.own 10103 0]], false, false, false⟩), (10103, ⟨0, 103, 2, List.map SPathLines.cells v.2.1, true, false, false⟩)], 2⟩) (fun v => ref6_Restricted_l1 n a0 a1 v.1 v.2.1 v.2.2 = some r) (fun v => v.1) (n, ([] : List SPathLines), 0) ((Wk.ownNilCell 5 2 0 30103 103 2 rfl rfl rfl rfl rfl (by simp) true).trans (Wk.nrmTo [1, 2, 4, 5, 6] [(2, 10100), (4, 10101), (5, 10102), (30103, 10103)] rfl rfl)) h ?_
  intro ⟨m1, w1, x2⟩ h
  try dsimp only at h ⊢
  cases m1 with
  | zero => rw [ref6_Restricted_l1] at h; cases h
  | succ m1 =>
    rw [ref6_Restricted_l1] at h
    refine Ev.seq ?_
    refine Ev.seq ?_
    refine W.reg hm ?_
    refine W.mv rfl ?_
    refine W.fieldAddrO rfl rfl ?_
    refine W.loadO (p := .list 2 (List.map SPathLines.cells a0.Files)) rfl rfl rfl rfl ?_
    refine W.lenL (c := SPathLines.cells) rfl ?_
    refine W.lss rfl rfl ?_
    refine W.nil ?_
    refine Ev.cond rfl (fun c1 => ?_) (fun c1 => ?_)
    · replace h := iteT h c1
      refine Ev.skip ?_
      refine Ev.seqJ (γ := List SPathLines) (fun v => ⟨[(1, .list 1 (List.map cS a1)), (2, .pown 10200 0 0 0), (4, .pown 10201 0 0 0), (5, .pown 10202 0 0 0), (6, .int .i64 x2)], [(10200, ⟨0, 46, 1, [[.list 2 (List.map SPathLines.cells a0.Files)]], true, false, false⟩), (10201, ⟨0, 46, 1, [[.nils]], true, false, false⟩), (10202, ⟨0, 46, 1, [[.own 10203 0]], false, false, false⟩), (10203, ⟨0, 103, 2, List.map SPathLines.cells v, true, false, false⟩)], 2⟩) (fun v => ref6_Restricted_j1 n x2 (ref6_Restricted_l1 n a0 a1 m1) v = some r) ?_ ?_
      · refine Ev.block ?_
        refine Ev.seq ?_
        refine W.reg hm ?_
        refine W.mv rfl ?_
        refine W.fieldAddrO rfl rfl ?_
        refine W.loadO (p := .list 2 (List.map SPathLines.cells a0.Files)) rfl rfl rfl rfl ?_
        refine W.mv rfl ?_
        obtain ⟨e5, k3, h⟩ := obind h
        refine W.idxL (c := SPathLines.cells) rfl rfl k3 ?_
        refine W.fieldAddr rfl ?_
        refine W.load rfl rfl ?_
        obtain ⟨r6, k4, h⟩ := obind h
        refine W.call (ref6_HasString_spec n a1 e5.Path r6 k4) rfl rfl (Les.refl _) rfl (.inl rfl) rfl ?_
        refine W.nil ?_
        refine Ev.cond rfl (fun c5 => ?_) (fun c5 => ?_)
        · replace h := iteT h c5
          refine W.regD hm ?_
          refine W.fieldAddrO rfl rfl ?_
          refine W.loadO (p := .own 10103 0) rfl rfl rfl rfl ?_
          refine W.fieldAddrO rfl rfl ?_
          refine W.loadO (p := .list 2 (List.map SPathLines.cells a0.Files)) rfl rfl rfl rfl ?_
          refine W.mv rfl ?_
          refine W.idxL (c := SPathLines.cells) rfl rfl k3 ?_
          refine W.load rfl rfl ?_
          refine W.mkSlice (dt := true) (es := [[.str e5.Path, .list 1 (List.map cS e5.Lines)]]) rfl rfl rfl rfl rfl rfl ?_
          obtain ⟨w7, k6, h⟩ := obind h
          refine W.appR true (l := w1) (c := SPathLines.cells) (ys := ([e5] : List SPathLines)) rfl rfl rfl rfl rfl rfl rfl rfl k6 rfl (by simp) ?_
          refine W.fieldAddrO rfl rfl ?_
          refine W.store (es' := [[.own 30 2]]) (dt := false) rfl rfl rfl rfl rfl (Nat.le_of_ble_eq_true rfl) rfl rfl rfl rfl ?_
          refine W.nil ⟨rfl, ?_⟩
          exact ⟨w7, h, Wk.nrmTo [1, 2, 4, 5, 6] [(10100, 10200), (10101, 10201), (10102, 10202), (30, 10203)] rfl rfl⟩
        · replace h := iteF h c5
          refine Ev.skip ?_
          exact ⟨w1, h, Wk.nrmTo [1, 2, 4, 5, 6] [(10100, 10200), (10101, 10201), (10102, 10202), (10103, 10203)] rfl rfl⟩
      · intro w3 h
        try dsimp only at h ⊢
        unfold ref6_Restricted_j1 at h
        refine W.reg hm ?_
        refine W.mv rfl ?_
        obtain ⟨x4, k2, h⟩ := obind h
        refine W.addG rfl rfl k2 ?_
        refine W.mv rfl ?_
        refine W.nil ?_
        exact ⟨(m1, w3, x4), h, Nat.lt_succ_self _, Wk.nrmTo [1, 2, 4, 5, 6] [(10200, 10100), (10201, 10101), (10202, 10102), (10203, 10103)] rfl rfl⟩
    · replace h := iteF h c1
      refine Ev.exit ?_
      refine Ev.seq ?_
      refine W.reg hm ?_
      refine W.loadO (p := .agg [.own 10103 0]) rfl rfl rfl rfl ?_
      refine W.store (es' := [[.own 10103 0]]) (dt := false) rfl rfl rfl rfl rfl (Nat.le_of_ble_eq_true rfl) rfl rfl rfl rfl ?_
      refine W.nil ?_
      refine Ev.weak ?_ (Wk.frz 10103 0 rfl rfl)
      refine Ev.ret ?_
      injection h with h; subst h
      exact ⟨_, rfl, .refl _⟩
set_option maxHeartbeats 4000000 in
theorem law6_BomOtherFilesDoNotMatter_spec (n : Nat) (a0 : List (List UInt8)) (a1 : SFiles) (r : Bool) (h : law6_BomOtherFilesDoNotMatter n a0 a1 = some r) : PSpec Tryd.prog 14 [.list 1 (List.map cS a0), .agg (SFiles.cells a1)] (.bool r) := by
  unfold law6_BomOtherFilesDoNotMatter at h
  refine spec_of Tryd.c_law6_BomOtherFilesDoNotMatter (by simp) ?_
  unfold Tryd.l_law6_BomOtherFilesDoNotMatter
  refine Ev.seq ?_
  refine W.reg hm ?_
  refine W.box (dt := true) (cs := [.list 2 (List.map SPathLines.cells a1.Files)]) rfl rfl rfl rfl rfl rfl ?_
  refine W.mv rfl ?_
  refine W.nil ?_
  refine Ev.seq ?_
  refine W.reg hm ?_
  refine W.mv rfl ?_
  refine W.loadO (p := .agg [.list 2 (List.map SPathLines.cells a1.Files)]) rfl rfl rfl rfl ?_
  obtain ⟨r1, k1, h⟩ := obind h
  refine W.call (bom_Make_spec n a0 a1 r1 k1) rfl rfl (Les.refl _) rfl (.inl rfl) rfl ?_
  refine W.mv rfl ?_
  refine W.extract rfl rfl ?_
  refine W.extract rfl rfl ?_
  refine W.alloc (dt := true) rfl rfl rfl ?_
  refine W.mv rfl ?_
  refine W.store (es' := [[.int .i64 r1.2.Code, .int .i64 r1.2.Index]]) (dt := true) rfl rfl rfl rfl rfl (Nat.le_of_ble_eq_true rfl) rfl rfl rfl rfl ?_
  refine W.nil ?_
  refine Ev.seq ?_
  refine Ev.seqJ (γ := Bool) (fun v => ⟨[(0, .list 1 (List.map cS a0)), (3, .pown 10100 0 0 0), (5, .list 2 (List.map SPathDigest.cells r1.1)), (21, .bool v)], [(10100, ⟨0, 46, 1, [[.list 2 (List.map SPathLines.cells a1.Files)]], true, false, false⟩)], 2⟩) (fun v => law6_BomOtherFilesDoNotMatter_j1 n a0 a1 r1 v = some r) ?_ ?_
  · refine W.reg hm ?_
    obtain ⟨r9, k9, h⟩ := obind h
    refine W.call (law6_bills_spec n r9 k9) rfl rfl (Les.refl _) rfl (.inl rfl) rfl ?_
    refine W.not rfl ?_
    refine W.mv rfl ?_
    refine W.split 17 rfl (fun c10 => ?_) (fun c10 => ?_)
    · replace h := iteT h c10
      refine W.guardF2 rfl c10 ?_
      refine W.guardF2 rfl c10 ?_
      refine W.guardF2 rfl c10 ?_
      refine W.pickT rfl rfl rfl c10 ?_
      refine W.nil ?_
      exact ⟨true, h, Wk.nrmTo [0, 3, 5, 21] [(3, 10100)] rfl rfl⟩
    · replace h := iteF h c10
      refine W.guardT rfl c10 ?_
      refine W.fieldAddrO rfl rfl ?_
      refine W.guardT rfl c10 ?_
      refine W.loadO (p := .int .i64 r1.2.Code) rfl rfl rfl rfl ?_
      refine W.guardT rfl c10 ?_
      refine W.neq rfl rfl ?_
      refine W.pickN rfl rfl rfl c10 ?_
      refine W.nil ?_
      exact ⟨(decide (r1.2.Code ≠ 0)), h, Wk.nrmTo [0, 3, 5, 21] [(3, 10100)] rfl rfl⟩
  · intro x2 h
    try dsimp only at h ⊢
    unfold law6_BomOtherFilesDoNotMatter_j1 at h
    refine Ev.cond rfl (fun c2 => ?_) (fun c2 => ?_)
    · replace h := iteT h c2
      refine Ev.seqJ (γ := Bool) (fun v => ⟨[(4, .bool v)], [], 2⟩) (fun v => law6_BomOtherFilesDoNotMatter_j2 n v = some r) ?_ ?_
      · refine W.reg hm ?_
        obtain ⟨r4, k3, h⟩ := obind h
        refine W.call (law6_bills_spec n r4 k3) rfl rfl (Les.refl _) rfl (.inl rfl) rfl ?_
        refine W.mv rfl ?_
        refine W.split 23 rfl (fun c4 => ?_) (fun c4 => ?_)
        · replace h := iteT h c4
          refine W.guardT rfl c4 ?_
          refine W.mv rfl ?_
          refine W.guardT rfl c4 ?_
          refine W.lenL (c := SPathDigest.cells) rfl ?_
          refine W.guardT rfl c4 ?_
          refine W.eql rfl rfl ?_
          refine W.pickT rfl rfl rfl c4 ?_
          refine W.mv rfl ?_
          refine W.nil ?_
          exact ⟨(decide ((r1.1.length : Int) = 0)), h, Wk.nrmTo [4] [] rfl rfl⟩
        · replace h := iteF h c4
          refine W.guardF1 rfl c4 ?_
          refine W.guardF1 rfl c4 ?_
          refine W.guardF1 rfl c4 ?_
          refine W.pickN rfl rfl rfl c4 ?_
          refine W.mv rfl ?_
          refine W.nil ?_
          exact ⟨false, h, Wk.nrmTo [4] [] rfl rfl⟩
      · intro x3 h
        try dsimp only at h ⊢
        unfold law6_BomOtherFilesDoNotMatter_j2 at h
        refine Ev.ret ?_
        injection h with h; subst h
        exact ⟨_, rfl, .refl _⟩
    · replace h := iteF h c2
      refine Ev.skip ?_
      refine Ev.seq ?_
      refine W.reg hm ?_
      refine W.mv rfl ?_
      refine W.loadO (p := .agg [.list 2 (List.map SPathLines.cells a1.Files)]) rfl rfl rfl rfl ?_
      refine W.mv rfl ?_
      obtain ⟨r5, k5, h⟩ := obind h
      refine W.call (ref6_Restricted_spec n a1 a0 r5 k5) rfl rfl (Les.refl _) rfl (.inl rfl) rfl ?_
      obtain ⟨r6, k6, h⟩ := obind h
      refine W.call (bom_Make_spec n a0 r5 r6 k6) rfl rfl (Les.refl _) rfl (.inl rfl) rfl ?_
      refine W.mv rfl ?_
      refine W.extract rfl rfl ?_
      refine W.extract rfl rfl ?_
      refine W.alloc (dt := true) rfl rfl rfl ?_
      refine W.mv rfl ?_
      refine W.store (es' := [[.int .i64 r6.2.Code, .int .i64 r6.2.Index]]) (dt := true) rfl rfl rfl rfl rfl (Nat.le_of_ble_eq_true rfl) rfl rfl rfl rfl ?_
      refine W.nil ?_
      refine Ev.seqJ (γ := Bool) (fun v => ⟨[(4, .bool v)], [], 2⟩) (fun v => law6_BomOtherFilesDoNotMatter_j3 n v = some r) ?_ ?_
      · refine W.reg hm ?_
        refine W.fieldAddrO rfl rfl ?_
        refine W.loadO (p := .int .i64 r6.2.Code) rfl rfl rfl rfl ?_
        refine W.eql rfl rfl ?_
        refine W.mv rfl ?_
        refine W.split 39 rfl (fun c7 => ?_) (fun c7 => ?_)
        · replace h := iteT h c7
          refine W.guardT rfl c7 ?_
          refine W.mv rfl ?_
          refine W.guardT rfl c7 ?_
          refine W.mv rfl ?_
          refine W.guardT rfl c7 ?_
          obtain ⟨r8, k8, h⟩ := obind h
          refine W.call (ref6_SameBom_spec n r1.1 r6.1 r8 k8) rfl rfl (Les.refl _) rfl (.inl rfl) rfl ?_
          refine W.pickT rfl rfl rfl c7 ?_
          refine W.mv rfl ?_
          refine W.nil ?_
          exact ⟨r8, h, Wk.nrmTo [4] [] rfl rfl⟩
        · replace h := iteF h c7
          refine W.guardF1 rfl c7 ?_
          refine W.guardF1 rfl c7 ?_
          refine W.guardF1 rfl c7 ?_
          refine W.pickN rfl rfl rfl c7 ?_
          refine W.mv rfl ?_
          refine W.nil ?_
          exact ⟨false, h, Wk.nrmTo [4] [] rfl rfl⟩
      · intro x7 h
        try dsimp only at h ⊢
        unfold law6_BomOtherFilesDoNotMatter_j3 at h
        refine Ev.ret ?_
        injection h with h; subst h
        exact ⟨_, rfl, .refl _⟩
end Go.Proofs.YtlkknmhhefjmjaaDoor
