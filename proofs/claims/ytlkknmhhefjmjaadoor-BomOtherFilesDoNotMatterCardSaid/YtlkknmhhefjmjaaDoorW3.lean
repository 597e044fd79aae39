/- The functions compute what the texts of D say. Laid by a program (wip/gen/dec.py). -/
import Derived.Test.YtlkknmhhefjmjaaDoorD
import Derived.Test.YtlkknmhhefjmjaaDoorW2
namespace Go.Proofs.YtlkknmhhefjmjaaDoor
open Go.PW Go
set_option maxHeartbeats 4000000 in
theorem digest_Strings_spec (n : Nat) (a0 : List (List UInt8)) (r : (Int × SCodeIndex)) (h : digest_Strings n a0 = some r) : PSpec Tryd.prog 64 [.list 1 (List.map cS a0)] (.tup [.int .i64 r.1, .agg (SCodeIndex.cells r.2)]) := by
  unfold digest_Strings at h
  refine spec_of Tryd.c_digest_Strings (by simp) ?_
  unfold Tryd.l_digest_Strings
  refine Ev.seq ?_
  refine W.reg hm ?_
  refine W.mv rfl ?_
  refine W.alloc (dt := true) rfl rfl rfl ?_
  refine W.nil ?_
  refine Ev.seq ?_
  refine Ev.seq ?_
  refine W.reg hm ?_
  refine W.mv rfl ?_
  refine W.lenL (c := cS) rfl ?_
  refine W.gtr rfl rfl ?_
  refine W.nil ?_
  refine Ev.cond rfl (fun c1 => ?_) (fun c1 => ?_)
  · replace h := iteT h c1
    refine Ev.seq ?_
    refine W.reg hm ?_
    refine W.build (cs := [.int .i64 2, .int .i64 (-1)]) rfl rfl rfl ?_
    refine W.mv rfl ?_
    refine W.store (es' := [[.int .i64 2, .int .i64 (-1)]]) (dt := true) rfl rfl rfl rfl rfl (Nat.le_of_ble_eq_true rfl) rfl rfl rfl rfl ?_
    refine W.nil ?_
    refine Ev.ret ?_
    injection h with h; subst h
    exact ⟨_, rfl, .refl _⟩
  · replace h := iteF h c1
    refine Ev.skip ?_
    refine Ev.seq ?_
    refine W.reg hm ?_
    refine W.mv rfl ?_
    refine W.nil ?_
    refine Ev.seq ?_
    refine Ev.seq ?_
    refine W.reg hm ?_
    refine W.mv rfl ?_
    refine W.lenL (c := cS) rfl ?_
    refine W.mv rfl ?_
    refine W.nil ?_
    refine Ev.block ?_
    refine Ev.loopW (β := Nat × Int × Int) (fun v => ⟨[(3, .pown 10100 0 0 0), (4, .int .i64 v.2.1), (13, .list 1 (List.map cS a0)), (14, .int .i64 (a0.length : Int)), (15, .int .i64 v.2.2)], [(10100, ⟨0, 25, 2, [[.int .i64 0, .int .i64 0]], true, false, false⟩)], 2⟩) (fun v => digest_Strings_l1 n a0 v.1 v.2.1 v.2.2 = some r) (fun v => v.1) (n, 2, 0) (Wk.nrmTo [3, 4, 13, 14, 15] [(3, 10100)] rfl rfl) h ?_
    intro ⟨m1, x1, x2⟩ h
    try dsimp only at h ⊢
    cases m1 with
    | zero => rw [digest_Strings_l1] at h; cases h
    | succ m1 =>
      rw [digest_Strings_l1] at h
      refine Ev.seq ?_
      refine W.reg hm ?_
      refine W.lss rfl rfl ?_
      refine W.nil ?_
      refine Ev.seq ?_
      refine Ev.cond rfl (fun c2 => ?_) (fun c2 => ?_)
      · replace h := iteT h c2
        refine Ev.skip ?_
        refine Ev.seq ?_
        refine Ev.block ?_
        refine Ev.seq ?_
        refine W.reg hm ?_
        refine W.mv rfl ?_
        obtain ⟨e3, k3, h⟩ := obind h
        refine W.idxL (c := cS) rfl rfl k3 ?_
        refine W.load rfl rfl ?_
        refine W.mv rfl ?_
        refine W.mv rfl ?_
        refine W.nil ?_
        refine Ev.seq ?_
        refine W.reg hm ?_
        refine W.mv rfl ?_
        refine W.toBytes rfl ?_
        obtain ⟨r4, k4, h⟩ := obind h
        refine W.call (digest_Of_spec n (bts e3) r4 k4) rfl rfl (Les.refl _) rfl (.inl rfl) rfl ?_
        refine W.mv rfl ?_
        refine W.extract rfl rfl ?_
        refine W.extract rfl rfl ?_
        refine W.alloc (dt := true) rfl rfl rfl ?_
        refine W.mv rfl ?_
        refine W.store (es' := [[.int .i64 r4.2.Code, .int .i64 r4.2.Index]]) (dt := true) rfl rfl rfl rfl rfl (Nat.le_of_ble_eq_true rfl) rfl rfl rfl rfl ?_
        refine W.nil ?_
        refine Ev.seq ?_
        refine Ev.seq ?_
        refine W.reg hm ?_
        refine W.loadO (p := .agg [.int .i64 r4.2.Code, .int .i64 r4.2.Index]) rfl rfl rfl rfl ?_
        refine W.build (cs := [.int .i64 0, .int .i64 0]) rfl rfl rfl ?_
        refine W.eqs rfl rfl rfl ?_
        refine W.nil ?_
        refine Ev.cond rfl (fun c5 => ?_) (fun c5 => ?_)
        · replace h := iteT h c5
          refine Ev.seq ?_
          refine W.regD hm ?_
          refine W.fieldAddrO rfl rfl ?_
          refine W.loadO (p := .int .i64 r4.2.Code) rfl rfl rfl rfl ?_
          refine W.mv rfl ?_
          refine W.build (cs := [.int .i64 r4.2.Code, .int .i64 x2]) rfl rfl rfl ?_
          refine W.mv rfl ?_
          refine W.store (es' := [[.int .i64 r4.2.Code, .int .i64 x2]]) (dt := true) rfl rfl rfl rfl rfl (Nat.le_of_ble_eq_true rfl) rfl rfl rfl rfl ?_
          refine W.nil ⟨rfl, ?_⟩
          refine Ev.ret ?_
          injection h with h; subst h
          exact ⟨_, rfl, .refl _⟩
        · replace h := iteF h c5
          refine Ev.skip ?_
          refine W.reg hm ?_
          refine W.mv rfl ?_
          refine W.mv rfl ?_
          obtain ⟨r5, k6, h⟩ := obind h
          refine W.call (digest_pair_spec n x1 r4.1 r5 k6) rfl rfl (Les.refl _) rfl (.inl rfl) rfl ?_
          refine W.mv rfl ?_
          refine W.nil ?_
          refine W.reg hm ?_
          obtain ⟨x6, k7, h⟩ := obind h
          refine W.addG rfl rfl k7 ?_
          refine W.mv rfl ?_
          refine W.nil ?_
          exact ⟨(m1, r5, x6), h, Nat.lt_succ_self _, Wk.nrmTo [3, 4, 13, 14, 15] [(10100, 10100)] rfl rfl⟩
      · replace h := iteF h c2
        refine Ev.exit ?_
        refine Ev.seq ?_
        refine W.reg hm ?_
        refine W.mv rfl ?_
        refine W.build (cs := [.int .i64 0, .int .i64 0]) rfl rfl rfl ?_
        refine W.mv rfl ?_
        refine W.store (es' := [[.int .i64 0, .int .i64 0]]) (dt := true) rfl rfl rfl rfl rfl (Nat.le_of_ble_eq_true rfl) rfl rfl rfl rfl ?_
        refine W.nil ?_
        refine Ev.ret ?_
        injection h with h; subst h
        exact ⟨_, rfl, .refl _⟩
theorem strings_Compare_spec (n : Nat) (a0 : List UInt8) (a1 : List UInt8) (r : Int) (h : strings_Compare n a0 a1 = some r) : PSpec Tryd.prog 87 [.str a0, .str a1] (.int .i64 r) := by
  unfold strings_Compare at h
  injection h with h
  subst h
  exact k_Compare a0 a1
set_option maxHeartbeats 4000000 in
theorem treepatch_Find_spec (n : Nat) (a0 : List SPathLines) (a1 : List UInt8) (r : (Int × Bool)) (h : treepatch_Find n a0 a1 = some r) : PSpec Tryd.prog 65 [.list 2 (List.map SPathLines.cells a0), .str a1] (.tup [.int .i64 r.1, .bool r.2]) := by
  unfold treepatch_Find at h
  refine spec_of Tryd.c_treepatch_Find (by simp) ?_
  unfold Tryd.l_treepatch_Find
  refine Ev.seq ?_
  refine W.reg hm ?_
  refine W.mv rfl ?_
  refine W.mv rfl ?_
  refine W.nil ?_
  refine Ev.seq ?_
  refine Ev.regS rfl ?_
  refine Sq.w 2 (Nat.le_of_ble_eq_true rfl) ?_
  refine W.mv rfl ?_
  refine W.mv rfl ?_
  refine W.nil ?_
  refine Sq.call rfl Tryd.c_slices_BinarySearchFunc_api_File_api_File_string ⟨_, rfl, Nat.le_of_ble_eq_true rfl, ?_⟩
  unfold Tryd.l_slices_BinarySearchFunc_api_File_api_File_string
  refine Ev.retJ (γ := Int × Bool) (fun v => ⟨[(6, .int .i64 v.1), (7, .bool v.2), (65540, .int .i64 0), (65541, .bool false)], [], 2⟩) (fun v => treepatch_Find_j1 n v.1 v.2 = some r) ?_ ?_
  · refine Ev.seq ?_
    refine W.reg hm ?_
    refine W.mv rfl ?_
    refine W.mv rfl ?_
    refine W.nil ?_
    refine Ev.seq ?_
    refine W.reg hm ?_
    refine W.mv rfl ?_
    refine W.lenL (c := SPathLines.cells) rfl ?_
    refine W.mv rfl ?_
    refine W.nil ?_
    refine Ev.seq ?_
    refine W.reg hm ?_
    refine W.mv rfl ?_
    refine W.mv rfl ?_
    refine W.mv rfl ?_
    refine W.nil ?_
    refine Ev.seqJ (γ := Int) (fun v => ⟨[(0, .list 2 (List.map SPathLines.cells a0)), (1, .str a1), (2, .fn 101 [] []), (8, .int .i64 (a0.length : Int)), (9, .int .i64 v), (65540, .int .i64 0), (65541, .bool false)], [], 2⟩) (fun v => treepatch_Find_j2 n a0 a1 v = some r) ?_ ?_
    · refine Ev.block ?_
      refine Ev.loopW (β := Nat × Int × Int) (fun v => ⟨[(0, .list 2 (List.map SPathLines.cells a0)), (1, .str a1), (2, .fn 101 [] []), (8, .int .i64 (a0.length : Int)), (9, .int .i64 v.2.1), (10, .int .i64 v.2.2), (65540, .int .i64 0), (65541, .bool false)], [], 2⟩) (fun v => treepatch_Find_l1 n a0 a1 v.1 v.2.1 v.2.2 = some r) (fun v => v.1) (n, 0, (a0.length : Int)) (Wk.nrmTo [0, 1, 2, 8, 9, 10, 65540, 65541] [] rfl rfl) h ?_
      intro ⟨m1, x8, x9⟩ h
      try dsimp only at h ⊢
      cases m1 with
      | zero => rw [treepatch_Find_l1] at h; cases h
      | succ m1 =>
        rw [treepatch_Find_l1] at h
        refine Ev.seq ?_
        refine Ev.seq ?_
        refine W.reg hm ?_
        refine W.mv rfl ?_
        refine W.mv rfl ?_
        refine W.lss rfl rfl ?_
        refine W.nil ?_
        refine Ev.cond rfl (fun c4 => ?_) (fun c4 => ?_)
        · replace h := iteT h c4
          refine Ev.skip ?_
          refine Ev.block ?_
          refine Ev.seq ?_
          refine W.reg hm ?_
          refine W.mv rfl ?_
          refine W.mv rfl ?_
          obtain ⟨x10, k5, h⟩ := obind h
          refine W.addG rfl rfl k5 ?_
          refine W.conv rfl rfl ?_
          refine W.shrC (n := 1) rfl rfl ?_
          refine W.conv rfl rfl ?_
          refine W.mv rfl ?_
          refine W.nil ?_
          refine Ev.seq ?_
          refine Ev.regS rfl ?_
          refine Sq.w 6 (Nat.le_of_ble_eq_true rfl) ?_
          refine W.mv rfl ?_
          refine W.mv rfl ?_
          refine W.mv rfl ?_
          obtain ⟨e11, k6, h⟩ := obind h
          refine W.idxL (c := SPathLines.cells) rfl rfl k6 ?_
          refine W.load rfl rfl ?_
          refine W.mv rfl ?_
          refine W.nil ?_
          refine Sq.callv (f := 101) rfl Tryd.b_treepatch_Find_1 Tryd.c_treepatch_Find_1 ⟨_, _, _, rfl, Nat.le_of_ble_eq_true rfl, ?_⟩
          unfold Tryd.l_treepatch_Find_1
          refine Ev.retJ (γ := Int) (fun v => ⟨[(4, .int .i64 v), (65536, .list 2 (List.map SPathLines.cells a0)), (65537, .str a1), (65538, .fn 101 [] []), (65544, .int .i64 (a0.length : Int)), (65545, .int .i64 x8), (65546, .int .i64 x9), (65547, .int .i64 (IntKind.wrap .i64 (kshr .u64 (IntKind.wrap .u64 x10) 1))), (131076, .int .i64 0), (131077, .bool false)], [], 2⟩) (fun v => treepatch_Find_j5 n x8 x9 (treepatch_Find_l1 n a0 a1 m1) x10 v = some r) ?_ ?_
          · refine Ev.seq ?_
            refine W.reg hm ?_
            refine W.box (dt := true) (cs := [.str e11.Path, .list 1 (List.map cS e11.Lines)]) rfl rfl rfl rfl rfl rfl ?_
            refine W.mv rfl ?_
            refine W.nil ?_
            refine Ev.seq ?_
            refine W.reg hm ?_
            refine W.fieldAddrO rfl rfl ?_
            refine W.loadO (p := .str e11.Path) rfl rfl rfl rfl ?_
            refine W.mv rfl ?_
            obtain ⟨r14, k9, h⟩ := obind h
            refine W.call (strings_Compare_spec n e11.Path a1 r14 k9) rfl rfl (Les.refl _) rfl (.inl rfl) rfl ?_
            refine W.mv rfl ?_
            refine W.nil ?_
            refine Ev.ret ?_
            exact ⟨r14, h, Wk.nrmTo [4, 65536, 65537, 65538, 65544, 65545, 65546, 65547, 131076, 131077] [] rfl rfl⟩
          · intro x12 h
            try dsimp only at h ⊢
            unfold treepatch_Find_j5 at h
            refine ⟨_, rfl, ?_⟩
            refine Sq.wEnd (Nat.le_of_ble_eq_true rfl) ?_
            refine W.lss rfl rfl ?_
            refine W.nil ?_
            refine Ev.cond rfl (fun c7 => ?_) (fun c7 => ?_)
            · replace h := iteT h c7
              refine W.reg hm ?_
              refine W.mv rfl ?_
              obtain ⟨x13, k8, h⟩ := obind h
              refine W.addG rfl rfl k8 ?_
              refine W.mv rfl ?_
              refine W.nil ?_
              exact ⟨(m1, x13, x9), h, Nat.lt_succ_self _, Wk.nrmTo [0, 1, 2, 8, 9, 10, 65540, 65541] [] rfl rfl⟩
            · replace h := iteF h c7
              refine W.reg hm ?_
              refine W.mv rfl ?_
              refine W.mv rfl ?_
              refine W.nil ?_
              exact ⟨(m1, x8, (IntKind.wrap .i64 (kshr .u64 (IntKind.wrap .u64 x10) 1))), h, Nat.lt_succ_self _, Wk.nrmTo [0, 1, 2, 8, 9, 10, 65540, 65541] [] rfl rfl⟩
        · replace h := iteF h c4
          refine Ev.exit ?_
          exact ⟨x8, h, Wk.nrmTo [0, 1, 2, 8, 9, 65540, 65541] [] rfl rfl⟩
    · intro x3 h
      try dsimp only at h ⊢
      unfold treepatch_Find_j2 at h
      refine Ev.seqJ (γ := Bool) (fun v => ⟨[(6, .int .i64 x3), (7, .bool v), (65540, .int .i64 0), (65541, .bool false)], [], 2⟩) (fun v => treepatch_Find_j3 n x3 v = some r) ?_ ?_
      · refine Ev.regS rfl ?_
        refine Sq.w 11 (Nat.le_of_ble_eq_true rfl) ?_
        refine W.mv rfl ?_
        refine W.mv rfl ?_
        refine W.mv rfl ?_
        refine W.lss rfl rfl ?_
        refine W.mv rfl ?_
        refine W.split 39 rfl (fun c1 => ?_) (fun c1 => ?_)
        · replace h := iteT h c1
          refine W.guardT rfl c1 ?_
          refine W.mv rfl ?_
          refine W.guardT rfl c1 ?_
          refine W.mv rfl ?_
          refine W.guardT rfl c1 ?_
          refine W.mv rfl ?_
          refine W.guardT rfl c1 ?_
          obtain ⟨e5, k2, h⟩ := obind h
          refine W.idxL (c := SPathLines.cells) rfl rfl k2 ?_
          refine W.guardT rfl c1 ?_
          refine W.load rfl rfl ?_
          refine W.guardT rfl c1 ?_
          refine W.mv rfl ?_
          refine W.nil ?_
          refine Sq.callvG (f := 101) rfl Tryd.b_treepatch_Find_1 Tryd.c_treepatch_Find_1 (lookT rfl c1) ⟨_, _, _, rfl, Nat.le_of_ble_eq_true rfl, ?_⟩
          unfold Tryd.l_treepatch_Find_1
          refine Ev.retJ (γ := Int) (fun v => ⟨[(4, .int .i64 v), (65571, .int .i64 x3), (65575, .bool (decide (x3 < (a0.length : Int)))), (131076, .int .i64 0), (131077, .bool false)], [], 2⟩) (fun v => treepatch_Find_j4 n x3 v = some r) ?_ ?_
          · refine Ev.seq ?_
            refine W.reg hm ?_
            refine W.box (dt := true) (cs := [.str e5.Path, .list 1 (List.map cS e5.Lines)]) rfl rfl rfl rfl rfl rfl ?_
            refine W.mv rfl ?_
            refine W.nil ?_
            refine Ev.seq ?_
            refine W.reg hm ?_
            refine W.fieldAddrO rfl rfl ?_
            refine W.loadO (p := .str e5.Path) rfl rfl rfl rfl ?_
            refine W.mv rfl ?_
            obtain ⟨r7, k3, h⟩ := obind h
            refine W.call (strings_Compare_spec n e5.Path a1 r7 k3) rfl rfl (Les.refl _) rfl (.inl rfl) rfl ?_
            refine W.mv rfl ?_
            refine W.nil ?_
            refine Ev.ret ?_
            exact ⟨r7, h, Wk.nrmTo [4, 65571, 65575, 131076, 131077] [] rfl rfl⟩
          · intro x6 h
            try dsimp only at h ⊢
            unfold treepatch_Find_j4 at h
            refine ⟨_, rfl, ?_⟩
            refine Sq.wEnd (Nat.le_of_ble_eq_true rfl) ?_
            refine W.guardT rfl c1 ?_
            refine W.eql rfl rfl ?_
            refine W.pickT rfl rfl rfl c1 ?_
            refine W.mv rfl ?_
            refine W.mv rfl ?_
            refine W.nil ?_
            exact ⟨(decide (x6 = 0)), h, Wk.nrmTo [6, 7, 65540, 65541] [] rfl rfl⟩
        · replace h := iteF h c1
          refine W.guardF1 rfl c1 ?_
          refine W.guardF1 rfl c1 ?_
          refine W.guardF1 rfl c1 ?_
          refine W.guardF1 rfl c1 ?_
          refine W.guardF1 rfl c1 ?_
          refine W.guardF1 rfl c1 ?_
          refine W.nil ?_
          refine Sq.off rfl (.inl (lookT rfl c1)) ?_
          refine Sq.wEnd (Nat.le_of_ble_eq_true rfl) ?_
          refine W.guardF1 rfl c1 ?_
          refine W.pickN rfl rfl rfl c1 ?_
          refine W.mv rfl ?_
          refine W.mv rfl ?_
          refine W.nil ?_
          exact ⟨false, h, Wk.nrmTo [6, 7, 65540, 65541] [] rfl rfl⟩
      · intro x4 h
        try dsimp only at h ⊢
        unfold treepatch_Find_j3 at h
        refine Ev.ret ?_
        exact ⟨(x3, x4), h, Wk.nrmTo [6, 7, 65540, 65541] [] rfl rfl⟩
  · intro ⟨x1, x2⟩ h
    try dsimp only at h ⊢
    unfold treepatch_Find_j1 at h
    refine ⟨_, rfl, ?_⟩
    refine Sq.wEnd (Nat.le_of_ble_eq_true rfl) ?_
    refine W.extract rfl rfl ?_
    refine W.extract rfl rfl ?_
    refine W.mv rfl ?_
    refine W.mv rfl ?_
    refine W.nil ?_
    refine Ev.ret ?_
    injection h with h; subst h
    exact ⟨_, rfl, .refl _⟩
theorem bom_describe_spec (n : Nat) (a0 : SFiles) (a1 : List UInt8) (r : Int) (h : bom_describe n a0 a1 = some r) : PSpec Tryd.prog 80 [.agg (SFiles.cells a0), .str a1] (.int .i64 r) := by
  unfold bom_describe at h
  refine spec_of Tryd.c_bom_describe (by simp) ?_
  unfold Tryd.l_bom_describe
  refine Ev.seq ?_
  refine W.reg hm ?_
  refine W.box (dt := true) (cs := [.list 2 (List.map SPathLines.cells a0.Files)]) rfl rfl rfl rfl rfl rfl ?_
  refine W.mv rfl ?_
  refine W.nil ?_
  refine Ev.seq ?_
  refine W.reg hm ?_
  refine W.fieldAddrO rfl rfl ?_
  refine W.loadO (p := .list 2 (List.map SPathLines.cells a0.Files)) rfl rfl rfl rfl ?_
  refine W.mv rfl ?_
  obtain ⟨r1, k1, h⟩ := obind h
  refine W.call (treepatch_Find_spec n a0.Files a1 r1 k1) rfl rfl (Les.refl _) rfl (.inl rfl) rfl ?_
  refine W.mv rfl ?_
  refine W.extract rfl rfl ?_
  refine W.extract rfl rfl ?_
  refine W.mv rfl ?_
  refine W.mv rfl ?_
  refine W.nil ?_
  refine Ev.seq ?_
  refine Ev.seq ?_
  refine W.reg hm ?_
  refine W.mv rfl ?_
  refine W.not rfl ?_
  refine W.nil ?_
  refine Ev.cond rfl (fun c2 => ?_) (fun c2 => ?_)
  · replace h := iteT h c2
    refine Ev.seq ?_
    refine W.reg hm ?_
    refine W.mv rfl ?_
    refine W.nil ?_
    refine Ev.ret ?_
    injection h with h; subst h
    exact ⟨_, rfl, .refl _⟩
  · replace h := iteF h c2
    refine Ev.skip ?_
    refine Ev.seq ?_
    refine W.reg hm ?_
    refine W.fieldAddrO rfl rfl ?_
    refine W.loadO (p := .list 2 (List.map SPathLines.cells a0.Files)) rfl rfl rfl rfl ?_
    refine W.mv rfl ?_
    obtain ⟨e2, k3, h⟩ := obind h
    refine W.idxL (c := SPathLines.cells) rfl rfl k3 ?_
    refine W.fieldAddr rfl ?_
    refine W.load rfl rfl ?_
    obtain ⟨r3, k4, h⟩ := obind h
    refine W.call (digest_Strings_spec n e2.Lines r3 k4) rfl rfl (Les.refl _) rfl (.inl rfl) rfl ?_
    refine W.mv rfl ?_
    refine W.extract rfl rfl ?_
    refine W.extract rfl rfl ?_
    refine W.alloc (dt := true) rfl rfl rfl ?_
    refine W.mv rfl ?_
    refine W.store (es' := [[.int .i64 r3.2.Code, .int .i64 r3.2.Index]]) (dt := true) rfl rfl rfl rfl rfl (Nat.le_of_ble_eq_true rfl) rfl rfl rfl rfl ?_
    refine W.nil ?_
    refine Ev.seq ?_
    refine W.reg hm ?_
    refine W.mv rfl ?_
    refine W.mv rfl ?_
    refine W.nil ?_
    refine Ev.ret ?_
    injection h with h; subst h
    exact ⟨_, rfl, .refl _⟩
set_option maxHeartbeats 4000000 in
theorem bom_Check_spec (n : Nat) (a0 : List SPathDigest) (a1 : SFiles) (r : ((List Int) × SCodeIndex)) (h : bom_Check n a0 a1 = some r) : PSpec Tryd.prog 38 [.list 2 (List.map SPathDigest.cells a0), .agg (SFiles.cells a1)] (.tup [.list 1 (List.map cI r.1), .agg (SCodeIndex.cells r.2)]) := by
  unfold bom_Check at h
  refine spec_of Tryd.c_bom_Check (by simp) ?_
  unfold Tryd.l_bom_Check
  refine Ev.seq ?_
  refine W.reg hm ?_
  refine W.box (dt := true) (cs := [.list 2 (List.map SPathLines.cells a1.Files)]) rfl rfl rfl rfl rfl rfl ?_
  refine W.mv rfl ?_
  refine W.alloc (dt := true) rfl rfl rfl ?_
  refine W.nil ?_
  refine Ev.seq ?_
  refine Ev.seq ?_
  refine W.reg hm ?_
  refine W.mv rfl ?_
  obtain ⟨r1, k1, h⟩ := obind h
  refine W.call (bom_Validate_spec n a0 r1 k1) rfl rfl (Les.refl _) rfl (.inl rfl) rfl ?_
  refine W.alloc (dt := true) rfl rfl rfl ?_
  refine W.store (es' := [[.int .i64 r1.Code, .int .i64 r1.Index]]) (dt := true) rfl rfl rfl rfl rfl (Nat.le_of_ble_eq_true rfl) rfl rfl rfl rfl ?_
  refine W.nil ?_
  refine Ev.seq ?_
  refine W.reg hm ?_
  refine W.loadO (p := .agg [.int .i64 r1.Code, .int .i64 r1.Index]) rfl rfl rfl rfl ?_
  refine W.build (cs := [.int .i64 0, .int .i64 0]) rfl rfl rfl ?_
  refine W.eqs rfl rfl rfl ?_
  refine W.nil ?_
  refine Ev.cond rfl (fun c2 => ?_) (fun c2 => ?_)
  · replace h := iteT h c2
    refine Ev.seq ?_
    refine W.regD hm ?_
    refine W.loadO (p := .agg [.int .i64 r1.Code, .int .i64 r1.Index]) rfl rfl rfl rfl ?_
    refine W.mv rfl ?_
    refine W.store (es' := [[.int .i64 r1.Code, .int .i64 r1.Index]]) (dt := true) rfl rfl rfl rfl rfl (Nat.le_of_ble_eq_true rfl) rfl rfl rfl rfl ?_
    refine W.nil ⟨rfl, ?_⟩
    refine Ev.ret ?_
    injection h with h; subst h
    exact ⟨_, rfl, Le.tups (.cons (.nils 1) (.cons (.refl _) (.nil)))⟩
  · replace h := iteF h c2
    refine Ev.skip ?_
    refine Ev.seq ?_
    refine Ev.seq ?_
    refine W.reg hm ?_
    refine W.loadO (p := .agg [.list 2 (List.map SPathLines.cells a1.Files)]) rfl rfl rfl rfl ?_
    obtain ⟨r2, k3, h⟩ := obind h
    refine W.call (treepatch_Second_spec n a1 (-2) r2 k3) rfl rfl (Les.refl _) rfl (.inl rfl) rfl ?_
    refine W.alloc (dt := true) rfl rfl rfl ?_
    refine W.store (es' := [[.int .i64 r2.Code, .int .i64 r2.Index]]) (dt := true) rfl rfl rfl rfl rfl (Nat.le_of_ble_eq_true rfl) rfl rfl rfl rfl ?_
    refine W.nil ?_
    refine Ev.seq ?_
    refine W.reg hm ?_
    refine W.loadO (p := .agg [.int .i64 r2.Code, .int .i64 r2.Index]) rfl rfl rfl rfl ?_
    refine W.build (cs := [.int .i64 0, .int .i64 0]) rfl rfl rfl ?_
    refine W.eqs rfl rfl rfl ?_
    refine W.nil ?_
    refine Ev.cond rfl (fun c4 => ?_) (fun c4 => ?_)
    · replace h := iteT h c4
      refine Ev.seq ?_
      refine W.regD hm ?_
      refine W.loadO (p := .agg [.int .i64 r2.Code, .int .i64 r2.Index]) rfl rfl rfl rfl ?_
      refine W.mv rfl ?_
      refine W.store (es' := [[.int .i64 r2.Code, .int .i64 r2.Index]]) (dt := true) rfl rfl rfl rfl rfl (Nat.le_of_ble_eq_true rfl) rfl rfl rfl rfl ?_
      refine W.nil ⟨rfl, ?_⟩
      refine Ev.ret ?_
      injection h with h; subst h
      exact ⟨_, rfl, Le.tups (.cons (.nils 1) (.cons (.refl _) (.nil)))⟩
    · replace h := iteF h c4
      refine Ev.skip ?_
      refine Ev.seq ?_
      refine W.reg hm ?_
      refine W.mv rfl ?_
      refine W.nil ?_
      refine Ev.seq ?_
      refine Ev.seq ?_
      refine W.reg hm ?_
      refine W.mv rfl ?_
      refine W.lenL (c := SPathDigest.cells) rfl ?_
      refine W.mv rfl ?_
      refine W.nil ?_
      refine Ev.block ?_
      refine Ev.loopW (β := Nat × (List Int) × Int) (fun v => ⟨[(3, .pown 10100 0 0 0), (5, .pown 10101 0 0 0), (8, .own 10102 0), (23, .list 2 (List.map SPathDigest.cells a0)), (24, .int .i64 (a0.length : Int)), (25, .int .i64 v.2.2)], [(10100, ⟨0, 46, 1, [[.list 2 (List.map SPathLines.cells a1.Files)]], true, false, false⟩), (10101, ⟨0, 25, 2, [[.int .i64 0, .int .i64 0]], true, false, false⟩), (10102, ⟨0, 3, 1, List.map cI v.2.1, true, false, false⟩)], 2⟩) (fun v => bom_Check_l1 n a0 a1 v.1 v.2.1 v.2.2 = some r) (fun v => v.1) (n, ([] : List Int), 0) ((Wk.ownNil 8 30102 3 1 rfl rfl true).trans (Wk.nrmTo [3, 5, 8, 23, 24, 25] [(3, 10100), (5, 10101), (30102, 10102)] rfl rfl)) h ?_
      intro ⟨m1, w3, x4⟩ h
      try dsimp only at h ⊢
      cases m1 with
      | zero => rw [bom_Check_l1] at h; cases h
      | succ m1 =>
        rw [bom_Check_l1] at h
        refine Ev.seq ?_
        refine W.reg hm ?_
        refine W.lss rfl rfl ?_
        refine W.nil ?_
        refine Ev.seq ?_
        refine Ev.cond rfl (fun c5 => ?_) (fun c5 => ?_)
        · replace h := iteT h c5
          refine Ev.skip ?_
          refine Ev.seqJ (γ := List Int) (fun v => ⟨[(3, .pown 10200 0 0 0), (5, .pown 10201 0 0 0), (8, .own 10202 0), (23, .list 2 (List.map SPathDigest.cells a0)), (24, .int .i64 (a0.length : Int)), (25, .int .i64 x4)], [(10200, ⟨0, 46, 1, [[.list 2 (List.map SPathLines.cells a1.Files)]], true, false, false⟩), (10201, ⟨0, 25, 2, [[.int .i64 0, .int .i64 0]], true, false, false⟩), (10202, ⟨0, 3, 1, List.map cI v, true, false, false⟩)], 2⟩) (fun v => bom_Check_j1 n x4 (bom_Check_l1 n a0 a1 m1) v = some r) ?_ ?_
          · refine Ev.block ?_
            refine Ev.seq ?_
            refine W.reg hm ?_
            refine W.mv rfl ?_
            obtain ⟨e7, k7, h⟩ := obind h
            refine W.idxL (c := SPathDigest.cells) rfl rfl k7 ?_
            refine W.load rfl rfl ?_
            refine W.alloc (dt := true) rfl rfl rfl ?_
            refine W.mv rfl ?_
            refine W.store (es' := [[.str e7.Path, .int .i64 e7.Digest]]) (dt := true) rfl rfl rfl rfl rfl (Nat.le_of_ble_eq_true rfl) rfl rfl rfl rfl ?_
            refine W.nil ?_
            refine Ev.seq ?_
            refine W.regD hm ?_
            refine W.fieldAddrO rfl rfl ?_
            refine W.loadO (p := .int .i64 e7.Digest) rfl rfl rfl rfl ?_
            refine W.loadO (p := .agg [.list 2 (List.map SPathLines.cells a1.Files)]) rfl rfl rfl rfl ?_
            refine W.fieldAddrO rfl rfl ?_
            refine W.loadO (p := .str e7.Path) rfl rfl rfl rfl ?_
            obtain ⟨r8, k8, h⟩ := obind h
            refine W.call (bom_describe_spec n a1 e7.Path r8 k8) rfl rfl (Les.refl _) rfl (.inl rfl) rfl ?_
            refine W.neq rfl rfl ?_
            refine W.nil ⟨rfl, ?_⟩
            refine Ev.cond rfl (fun c9 => ?_) (fun c9 => ?_)
            · replace h := iteT h c9
              refine W.reg hm ?_
              refine W.mv rfl ?_
              refine W.mv rfl ?_
              refine W.mkSlice (dt := true) (es := [[.int .i64 x4]]) rfl rfl rfl rfl rfl rfl ?_
              obtain ⟨w9, k10, h⟩ := obind h
              refine W.appR true (l := w3) (c := cI) (ys := ([x4] : List Int)) rfl rfl rfl rfl rfl rfl rfl rfl k10 rfl (by simp) ?_
              refine W.mv rfl ?_
              refine W.nil ?_
              exact ⟨w9, h, Wk.nrmTo [3, 5, 8, 23, 24, 25] [(10100, 10200), (10101, 10201), (40, 10202)] rfl rfl⟩
            · replace h := iteF h c9
              refine Ev.skip ?_
              exact ⟨w3, h, Wk.nrmTo [3, 5, 8, 23, 24, 25] [(10100, 10200), (10101, 10201), (10102, 10202)] rfl rfl⟩
          · intro w5 h
            try dsimp only at h ⊢
            unfold bom_Check_j1 at h
            refine W.reg hm ?_
            obtain ⟨x6, k6, h⟩ := obind h
            refine W.addG rfl rfl k6 ?_
            refine W.mv rfl ?_
            refine W.nil ?_
            exact ⟨(m1, w5, x6), h, Nat.lt_succ_self _, Wk.nrmTo [3, 5, 8, 23, 24, 25] [(10200, 10100), (10201, 10101), (10202, 10102)] rfl rfl⟩
        · replace h := iteF h c5
          refine Ev.exit ?_
          refine Ev.seq ?_
          refine W.reg hm ?_
          refine W.mv rfl ?_
          refine W.build (cs := [.int .i64 0, .int .i64 0]) rfl rfl rfl ?_
          refine W.mv rfl ?_
          refine W.store (es' := [[.int .i64 0, .int .i64 0]]) (dt := true) rfl rfl rfl rfl rfl (Nat.le_of_ble_eq_true rfl) rfl rfl rfl rfl ?_
          refine W.nil ?_
          refine Ev.ret ?_
          injection h with h; subst h
          exact ⟨_, rfl, .refl _⟩
theorem ref5_Ints_spec (n : Nat) (a0 : List Int) (a1 : List Int) (r : Bool) (h : ref5_Ints n a0 a1 = some r) : PSpec Tryd.prog 39 [.list 1 (List.map cI a0), .list 1 (List.map cI a1)] (.bool r) := by
  unfold ref5_Ints at h
  refine spec_of Tryd.c_ref5_Ints (by simp) ?_
  unfold Tryd.l_ref5_Ints
  refine Ev.seq ?_
  refine W.reg hm ?_
  refine W.mv rfl ?_
  refine W.nil ?_
  refine Ev.seq ?_
  refine Ev.seq ?_
  refine W.reg hm ?_
  refine W.mv rfl ?_
  refine W.lenL (c := cI) rfl ?_
  refine W.mv rfl ?_
  refine W.lenL (c := cI) rfl ?_
  refine W.neq rfl rfl ?_
  refine W.nil ?_
  refine Ev.cond rfl (fun c1 => ?_) (fun c1 => ?_)
  · replace h := iteT h c1
    refine Ev.seq ?_
    refine W.reg hm ?_
    refine W.mv rfl ?_
    refine W.nil ?_
    refine Ev.ret ?_
    injection h with h; subst h
    exact ⟨_, rfl, .refl _⟩
  · replace h := iteF h c1
    refine Ev.skip ?_
    refine Ev.seq ?_
    refine Ev.seq ?_
    refine W.reg hm ?_
    refine W.mv rfl ?_
    refine W.nil ?_
    refine Ev.block ?_
    refine Ev.loopW (β := Nat × Int) (fun v => ⟨[(0, .list 1 (List.map cI a0)), (1, .list 1 (List.map cI a1)), (5, .int .i64 v.2)], [], 2⟩) (fun v => ref5_Ints_l1 n a0 a1 v.1 v.2 = some r) (fun v => v.1) (n, 0) (Wk.nrmTo [0, 1, 5] [] rfl rfl) h ?_
    intro ⟨m1, x1⟩ h
    try dsimp only at h ⊢
    cases m1 with
    | zero => rw [ref5_Ints_l1] at h; cases h
    | succ m1 =>
      rw [ref5_Ints_l1] at h
      refine Ev.seq ?_
      refine Ev.seq ?_
      refine W.reg hm ?_
      refine W.mv rfl ?_
      refine W.mv rfl ?_
      refine W.lenL (c := cI) rfl ?_
      refine W.lss rfl rfl ?_
      refine W.nil ?_
      refine Ev.cond rfl (fun c2 => ?_) (fun c2 => ?_)
      · replace h := iteT h c2
        refine Ev.skip ?_
        refine Ev.seq ?_
        refine Ev.block ?_
        refine Ev.seq ?_
        refine W.regD hm ?_
        refine W.mv rfl ?_
        refine W.mv rfl ?_
        obtain ⟨e2, k3, h⟩ := obind h
        refine W.idxL (c := cI) rfl rfl k3 ?_
        refine W.load rfl rfl ?_
        refine W.mv rfl ?_
        refine W.mv rfl ?_
        obtain ⟨e3, k4, h⟩ := obind h
        refine W.idxL (c := cI) rfl rfl k4 ?_
        refine W.load rfl rfl ?_
        refine W.neq rfl rfl ?_
        refine W.nil ⟨rfl, ?_⟩
        refine Ev.cond rfl (fun c5 => ?_) (fun c5 => ?_)
        · replace h := iteT h c5
          refine Ev.seq ?_
          refine W.reg hm ?_
          refine W.mv rfl ?_
          refine W.nil ?_
          refine Ev.ret ?_
          injection h with h; subst h
          exact ⟨_, rfl, .refl _⟩
        · replace h := iteF h c5
          refine Ev.skip ?_
          refine W.reg hm ?_
          refine W.mv rfl ?_
          obtain ⟨x4, k6, h⟩ := obind h
          refine W.addG rfl rfl k6 ?_
          refine W.mv rfl ?_
          refine W.nil ?_
          exact ⟨(m1, x4), h, Nat.lt_succ_self _, Wk.nrmTo [0, 1, 5] [] rfl rfl⟩
      · replace h := iteF h c2
        refine Ev.exit ?_
        refine Ev.seq ?_
        refine W.reg hm ?_
        refine W.mv rfl ?_
        refine W.nil ?_
        refine Ev.ret ?_
        injection h with h; subst h
        exact ⟨_, rfl, .refl _⟩
set_option maxHeartbeats 4000000 in
theorem bom_Make_spec (n : Nat) (a0 : List (List UInt8)) (a1 : SFiles) (r : ((List SPathDigest) × SCodeIndex)) (h : bom_Make n a0 a1 = some r) : PSpec Tryd.prog 42 [.list 1 (List.map cS a0), .agg (SFiles.cells a1)] (.tup [.list 2 (List.map SPathDigest.cells r.1), .agg (SCodeIndex.cells r.2)]) := by
  unfold bom_Make at h
  refine spec_of Tryd.c_bom_Make (by simp) ?_
  unfold Tryd.l_bom_Make
  refine Ev.seq ?_
  refine W.reg hm ?_
  refine W.box (dt := true) (cs := [.list 1 (List.map cS a0)]) rfl rfl rfl rfl rfl rfl ?_
  refine W.box (dt := true) (cs := [.list 2 (List.map SPathLines.cells a1.Files)]) rfl rfl rfl rfl rfl rfl ?_
  refine W.mv rfl ?_
  refine W.alloc (dt := true) rfl rfl rfl ?_
  refine W.nil ?_
  refine Ev.seq ?_
  refine Ev.seq ?_
  refine Ev.regS rfl ?_
  refine Sq.w 3 (Nat.le_of_ble_eq_true rfl) ?_
  refine W.loadO (p := .list 1 (List.map cS a0)) rfl rfl rfl rfl ?_
  refine W.lenL (c := cS) rfl ?_
  refine W.mkfn rfl ?_
  refine W.nil ?_
  refine Sq.weak (st' := ⟨[(2, .pown 10000 0 0 0), (3, .pown 10001 0 0 0), (5, .pown 10002 0 0 0), (12, .int .i64 (a0.length : Int)), (13, .fn 83 [] [.pown 10000 0 0 0])], [(10000, ⟨0, 23, 1, [[.list 1 (List.map cS a0)]], true, false, false⟩), (10001, ⟨0, 46, 1, [[.list 2 (List.map SPathLines.cells a1.Files)]], true, false, false⟩), (10002, ⟨0, 25, 2, [[.int .i64 0, .int .i64 0]], true, false, false⟩)], 2⟩) ?_ (Wk.nrmTo [2, 3, 5, 12, 13] [(2, 10000), (3, 10001), (5, 10002)] rfl rfl)
  refine Sq.call rfl Tryd.c_bom_checkPaths ⟨_, rfl, Nat.le_of_ble_eq_true rfl, ?_⟩
  unfold Tryd.l_bom_checkPaths
  refine Ev.retJ (γ := Int × Int) (fun v => ⟨[(4, .pown 10100 0 0 0), (65538, .pown 10101 0 0 0), (65539, .pown 10102 0 0 0), (65541, .pown 10103 0 0 0)], [(10100, ⟨0, 25, 2, [[.int .i64 v.1, .int .i64 v.2]], true, false, false⟩), (10101, ⟨0, 23, 1, [[.list 1 (List.map cS a0)]], true, false, false⟩), (10102, ⟨0, 46, 1, [[.list 2 (List.map SPathLines.cells a1.Files)]], true, false, false⟩), (10103, ⟨0, 25, 2, [[.int .i64 0, .int .i64 0]], true, false, false⟩)], 2⟩) (fun v => bom_Make_j1 n a0 a1 v.1 v.2 = some r) ?_ ?_
  · refine Ev.seq ?_
    refine W.reg hm ?_
    refine W.alloc (dt := true) rfl rfl rfl ?_
    refine W.nil ?_
    refine Ev.seq ?_
    refine Ev.seq ?_
    refine W.reg hm ?_
    refine W.mv rfl ?_
    refine W.gtr rfl rfl ?_
    refine W.nil ?_
    refine Ev.cond rfl (fun c9 => ?_) (fun c9 => ?_)
    · replace h := iteT h c9
      refine Ev.seq ?_
      refine W.reg hm ?_
      refine W.build (cs := [.int .i64 2, .int .i64 (-1)]) rfl rfl rfl ?_
      refine W.store (es' := [[.int .i64 2, .int .i64 (-1)]]) (dt := true) rfl rfl rfl rfl rfl (Nat.le_of_ble_eq_true rfl) rfl rfl rfl rfl ?_
      refine W.nil ?_
      refine Ev.ret ?_
      exact ⟨(2, (-1)), h, Wk.nrmTo [4, 65538, 65539, 65541] [(4, 10100), (10000, 10101), (10001, 10102), (10002, 10103)] rfl rfl⟩
    · replace h := iteF h c9
      refine Ev.skip ?_
      refine Ev.seq ?_
      refine Ev.seq ?_
      refine W.reg hm ?_
      refine W.mv rfl ?_
      refine W.mv rfl ?_
      refine W.nil ?_
      refine Ev.block ?_
      refine Ev.loopW (β := Nat × Int) (fun v => ⟨[(1, .fn 83 [] [.pown 10200 0 0 0]), (4, .pown 10201 0 0 0), (9, .int .i64 (a0.length : Int)), (10, .int .i64 v.2), (65538, .pown 10200 0 0 0), (65539, .pown 10202 0 0 0), (65541, .pown 10203 0 0 0)], [(10200, ⟨0, 23, 1, [[.list 1 (List.map cS a0)]], true, false, false⟩), (10201, ⟨0, 25, 2, [[.int .i64 0, .int .i64 0]], true, false, false⟩), (10202, ⟨0, 46, 1, [[.list 2 (List.map SPathLines.cells a1.Files)]], true, false, false⟩), (10203, ⟨0, 25, 2, [[.int .i64 0, .int .i64 0]], true, false, false⟩)], 2⟩) (fun v => bom_Make_l2 n a0 a1 v.1 v.2 = some r) (fun v => v.1) (n, 0) (Wk.nrmTo [1, 4, 9, 10, 65538, 65539, 65541] [(10000, 10200), (4, 10201), (10001, 10202), (10002, 10203)] rfl rfl) h ?_
      intro ⟨m2, x10⟩ h
      try dsimp only at h ⊢
      cases m2 with
      | zero => rw [bom_Make_l2] at h; cases h
      | succ m2 =>
        rw [bom_Make_l2] at h
        refine Ev.seq ?_
        refine W.reg hm ?_
        refine W.lss rfl rfl ?_
        refine W.nil ?_
        refine Ev.seq ?_
        refine Ev.cond rfl (fun c10 => ?_) (fun c10 => ?_)
        · replace h := iteT h c10
          refine Ev.skip ?_
          refine Ev.seq ?_
          refine Ev.block ?_
          refine Ev.seq ?_
          refine W.reg hm ?_
          refine W.mv rfl ?_
          refine W.mv rfl ?_
          refine W.nil ?_
          refine Ev.seq ?_
          refine Ev.seq ?_
          refine Ev.regS rfl ?_
          refine Sq.w 2 (Nat.le_of_ble_eq_true rfl) ?_
          refine W.mv rfl ?_
          refine W.mv rfl ?_
          refine W.nil ?_
          refine Sq.callv (f := 83) rfl Tryd.b_bom_Make_1 Tryd.c_bom_Make_1 ⟨_, _, _, rfl, Nat.le_of_ble_eq_true rfl, ?_⟩
          unfold Tryd.l_bom_Make_1
          refine Ev.retJ (γ := List UInt8) (fun v => ⟨[(3, .str v), (65537, .fn 83 [] [.pown 10300 0 0 0]), (65540, .pown 10301 0 0 0), (65541, .int .i64 x10), (65545, .int .i64 (a0.length : Int)), (65546, .int .i64 x10), (131074, .pown 10300 0 0 0), (131075, .pown 10302 0 0 0), (131077, .pown 10303 0 0 0)], [(10300, ⟨0, 23, 1, [[.list 1 (List.map cS a0)]], true, false, false⟩), (10301, ⟨0, 25, 2, [[.int .i64 0, .int .i64 0]], true, false, false⟩), (10302, ⟨0, 46, 1, [[.list 2 (List.map SPathLines.cells a1.Files)]], true, false, false⟩), (10303, ⟨0, 25, 2, [[.int .i64 0, .int .i64 0]], true, false, false⟩)], 2⟩) (fun v => bom_Make_j2 n a0 a1 x10 (bom_Make_l2 n a0 a1 m2) v = some r) ?_ ?_
          · refine Ev.seq ?_
            refine W.reg hm ?_
            refine W.mv rfl ?_
            refine W.nil ?_
            refine Ev.seq ?_
            refine W.reg hm ?_
            refine W.loadO (p := .list 1 (List.map cS a0)) rfl rfl rfl rfl ?_
            refine W.mv rfl ?_
            obtain ⟨e20, k19, h⟩ := obind h
            refine W.idxL (c := cS) rfl rfl k19 ?_
            refine W.load rfl rfl ?_
            refine W.mv rfl ?_
            refine W.nil ?_
            refine Ev.ret ?_
            exact ⟨e20, h, Wk.nrmTo [3, 65537, 65540, 65541, 65545, 65546, 131074, 131075, 131077] [(10200, 10300), (10201, 10301), (10202, 10302), (10203, 10303)] rfl rfl⟩
          · intro x11 h
            try dsimp only at h ⊢
            unfold bom_Make_j2 at h
            refine ⟨_, rfl, ?_⟩
            refine Sq.wEnd (Nat.le_of_ble_eq_true rfl) ?_
            obtain ⟨r12, k11, h⟩ := obind h
            refine W.call (treepatch_ValidPath_spec n x11 r12 k11) rfl rfl (Les.refl _) rfl (.inl rfl) rfl ?_
            refine W.not rfl ?_
            refine W.nil ?_
            refine Ev.cond rfl (fun c12 => ?_) (fun c12 => ?_)
            · replace h := iteT h c12
              refine Ev.seq ?_
              refine W.reg hm ?_
              refine W.mv rfl ?_
              refine W.build (cs := [.int .i64 12, .int .i64 x10]) rfl rfl rfl ?_
              refine W.store (es' := [[.int .i64 12, .int .i64 x10]]) (dt := true) rfl rfl rfl rfl rfl (Nat.le_of_ble_eq_true rfl) rfl rfl rfl rfl ?_
              refine W.nil ?_
              refine Ev.ret ?_
              exact ⟨(12, x10), h, Wk.nrmTo [4, 65538, 65539, 65541] [(10301, 10100), (10300, 10101), (10302, 10102), (10303, 10103)] rfl rfl⟩
            · replace h := iteF h c12
              refine Ev.skip ?_
              refine Ev.seqJ (γ := Bool) (fun v => ⟨[(1, .fn 83 [] [.pown 10400 0 0 0]), (4, .pown 10401 0 0 0), (5, .int .i64 x10), (9, .int .i64 (a0.length : Int)), (10, .int .i64 x10), (31, .bool v), (65538, .pown 10400 0 0 0), (65539, .pown 10402 0 0 0), (65541, .pown 10403 0 0 0)], [(10400, ⟨0, 23, 1, [[.list 1 (List.map cS a0)]], true, false, false⟩), (10401, ⟨0, 25, 2, [[.int .i64 0, .int .i64 0]], true, false, false⟩), (10402, ⟨0, 46, 1, [[.list 2 (List.map SPathLines.cells a1.Files)]], true, false, false⟩), (10403, ⟨0, 25, 2, [[.int .i64 0, .int .i64 0]], true, false, false⟩)], 2⟩) (fun v => bom_Make_j3 n a0 a1 x10 (bom_Make_l2 n a0 a1 m2) v = some r) ?_ ?_
              · refine Ev.regS rfl ?_
                refine Sq.w 5 (Nat.le_of_ble_eq_true rfl) ?_
                refine W.mv rfl ?_
                refine W.gtr rfl rfl ?_
                refine W.mv rfl ?_
                refine W.split 22 rfl (fun c15 => ?_) (fun c15 => ?_)
                · replace h := iteT h c15
                  refine W.guardT rfl c15 ?_
                  refine W.mv rfl ?_
                  refine W.guardT rfl c15 ?_
                  refine W.mv rfl ?_
                  refine W.nil ?_
                  refine Sq.callvG (f := 83) rfl Tryd.b_bom_Make_1 Tryd.c_bom_Make_1 (lookT rfl c15) ⟨_, _, _, rfl, Nat.le_of_ble_eq_true rfl, ?_⟩
                  unfold Tryd.l_bom_Make_1
                  refine Ev.retJ (γ := List UInt8) (fun v => ⟨[(3, .str v), (65537, .fn 83 [] [.pown 10500 0 0 0]), (65540, .pown 10501 0 0 0), (65541, .int .i64 x10), (65545, .int .i64 (a0.length : Int)), (65546, .int .i64 x10), (65558, .bool (decide (0 < x10))), (65559, .fn 83 [] [.pown 10500 0 0 0]), (65560, .int .i64 x10), (131074, .pown 10500 0 0 0), (131075, .pown 10502 0 0 0), (131077, .pown 10503 0 0 0)], [(10500, ⟨0, 23, 1, [[.list 1 (List.map cS a0)]], true, false, false⟩), (10501, ⟨0, 25, 2, [[.int .i64 0, .int .i64 0]], true, false, false⟩), (10502, ⟨0, 46, 1, [[.list 2 (List.map SPathLines.cells a1.Files)]], true, false, false⟩), (10503, ⟨0, 25, 2, [[.int .i64 0, .int .i64 0]], true, false, false⟩)], 2⟩) (fun v => bom_Make_j4 n a0 a1 x10 (bom_Make_l2 n a0 a1 m2) v = some r) ?_ ?_
                  · refine Ev.seq ?_
                    refine W.reg hm ?_
                    refine W.mv rfl ?_
                    refine W.nil ?_
                    refine Ev.seq ?_
                    refine W.reg hm ?_
                    refine W.loadO (p := .list 1 (List.map cS a0)) rfl rfl rfl rfl ?_
                    refine W.mv rfl ?_
                    obtain ⟨e19, k18, h⟩ := obind h
                    refine W.idxL (c := cS) rfl rfl k18 ?_
                    refine W.load rfl rfl ?_
                    refine W.mv rfl ?_
                    refine W.nil ?_
                    refine Ev.ret ?_
                    exact ⟨e19, h, Wk.nrmTo [3, 65537, 65540, 65541, 65545, 65546, 65558, 65559, 65560, 131074, 131075, 131077] [(10300, 10500), (10301, 10501), (10302, 10502), (10303, 10503)] rfl rfl⟩
                  · intro x15 h
                    try dsimp only at h ⊢
                    unfold bom_Make_j4 at h
                    refine ⟨_, rfl, ?_⟩
                    refine Sq.w 3 (Nat.le_of_ble_eq_true rfl) ?_
                    refine W.guardT rfl c15 ?_
                    refine W.mv rfl ?_
                    refine W.guardT rfl c15 ?_
                    refine W.mv rfl ?_
                    refine W.guardT rfl c15 ?_
                    obtain ⟨x16, k16, h⟩ := obind h
                    refine W.subG rfl rfl k16 ?_
                    refine W.nil ?_
                    refine Sq.callvG (f := 83) rfl Tryd.b_bom_Make_1 Tryd.c_bom_Make_1 (lookT rfl c15) ⟨_, _, _, rfl, Nat.le_of_ble_eq_true rfl, ?_⟩
                    unfold Tryd.l_bom_Make_1
                    refine Ev.retJ (γ := List UInt8) (fun v => ⟨[(3, .str v), (65537, .fn 83 [] [.pown 10600 0 0 0]), (65540, .pown 10601 0 0 0), (65541, .int .i64 x10), (65545, .int .i64 (a0.length : Int)), (65546, .int .i64 x10), (65558, .bool (decide (0 < x10))), (65559, .fn 83 [] [.pown 10600 0 0 0]), (65560, .int .i64 x10), (65561, .str x15), (65562, .fn 83 [] [.pown 10600 0 0 0]), (65563, .int .i64 x10), (65564, .int .i64 x16), (131074, .pown 10600 0 0 0), (131075, .pown 10602 0 0 0), (131077, .pown 10603 0 0 0)], [(10600, ⟨0, 23, 1, [[.list 1 (List.map cS a0)]], true, false, false⟩), (10601, ⟨0, 25, 2, [[.int .i64 0, .int .i64 0]], true, false, false⟩), (10602, ⟨0, 46, 1, [[.list 2 (List.map SPathLines.cells a1.Files)]], true, false, false⟩), (10603, ⟨0, 25, 2, [[.int .i64 0, .int .i64 0]], true, false, false⟩)], 2⟩) (fun v => bom_Make_j5 n a0 a1 x10 (bom_Make_l2 n a0 a1 m2) x15 v = some r) ?_ ?_
                    · refine Ev.seq ?_
                      refine W.reg hm ?_
                      refine W.mv rfl ?_
                      refine W.nil ?_
                      refine Ev.seq ?_
                      refine W.reg hm ?_
                      refine W.loadO (p := .list 1 (List.map cS a0)) rfl rfl rfl rfl ?_
                      refine W.mv rfl ?_
                      obtain ⟨e18, k17, h⟩ := obind h
                      refine W.idxL (c := cS) rfl rfl k17 ?_
                      refine W.load rfl rfl ?_
                      refine W.mv rfl ?_
                      refine W.nil ?_
                      refine Ev.ret ?_
                      exact ⟨e18, h, Wk.nrmTo [3, 65537, 65540, 65541, 65545, 65546, 65558, 65559, 65560, 65561, 65562, 65563, 65564, 131074, 131075, 131077] [(10500, 10600), (10501, 10601), (10502, 10602), (10503, 10603)] rfl rfl⟩
                    · intro x17 h
                      try dsimp only at h ⊢
                      unfold bom_Make_j5 at h
                      refine ⟨_, rfl, ?_⟩
                      refine Sq.wEnd (Nat.le_of_ble_eq_true rfl) ?_
                      refine W.guardT rfl c15 ?_
                      refine W.sleq rfl rfl ?_
                      refine W.pickT rfl rfl rfl c15 ?_
                      refine W.nil ?_
                      exact ⟨(Op.bytesLess x15 x17 || x15 == x17), h, Wk.nrmTo [1, 4, 5, 9, 10, 31, 65538, 65539, 65541] [(10600, 10400), (10601, 10401), (10602, 10402), (10603, 10403)] rfl rfl⟩
                · replace h := iteF h c15
                  refine W.guardF1 rfl c15 ?_
                  refine W.guardF1 rfl c15 ?_
                  refine W.nil ?_
                  refine Sq.off rfl (.inl (lookT rfl c15)) ?_
                  refine Sq.w 3 (Nat.le_of_ble_eq_true rfl) ?_
                  refine W.guardF1 rfl c15 ?_
                  refine W.guardF1 rfl c15 ?_
                  refine W.guardF1 rfl c15 ?_
                  refine W.nil ?_
                  refine Sq.off rfl (.inl (lookT rfl c15)) ?_
                  refine Sq.wEnd (Nat.le_of_ble_eq_true rfl) ?_
                  refine W.guardF1 rfl c15 ?_
                  refine W.pickN rfl rfl rfl c15 ?_
                  refine W.nil ?_
                  exact ⟨false, h, Wk.nrmTo [1, 4, 5, 9, 10, 31, 65538, 65539, 65541] [(10300, 10400), (10301, 10401), (10302, 10402), (10303, 10403)] rfl rfl⟩
              · intro x13 h
                try dsimp only at h ⊢
                unfold bom_Make_j3 at h
                refine Ev.cond rfl (fun c13 => ?_) (fun c13 => ?_)
                · replace h := iteT h c13
                  refine Ev.seq ?_
                  refine W.reg hm ?_
                  refine W.mv rfl ?_
                  refine W.build (cs := [.int .i64 5, .int .i64 x10]) rfl rfl rfl ?_
                  refine W.store (es' := [[.int .i64 5, .int .i64 x10]]) (dt := true) rfl rfl rfl rfl rfl (Nat.le_of_ble_eq_true rfl) rfl rfl rfl rfl ?_
                  refine W.nil ?_
                  refine Ev.ret ?_
                  exact ⟨(5, x10), h, Wk.nrmTo [4, 65538, 65539, 65541] [(10401, 10100), (10400, 10101), (10402, 10102), (10403, 10103)] rfl rfl⟩
                · replace h := iteF h c13
                  refine Ev.skip ?_
                  refine W.reg hm ?_
                  obtain ⟨x14, k14, h⟩ := obind h
                  refine W.addG rfl rfl k14 ?_
                  refine W.mv rfl ?_
                  refine W.nil ?_
                  exact ⟨(m2, x14), h, Nat.lt_succ_self _, Wk.nrmTo [1, 4, 9, 10, 65538, 65539, 65541] [(10400, 10200), (10401, 10201), (10402, 10202), (10403, 10203)] rfl rfl⟩
        · replace h := iteF h c10
          refine Ev.exit ?_
          refine Ev.seq ?_
          refine W.reg hm ?_
          refine W.build (cs := [.int .i64 0, .int .i64 0]) rfl rfl rfl ?_
          refine W.store (es' := [[.int .i64 0, .int .i64 0]]) (dt := true) rfl rfl rfl rfl rfl (Nat.le_of_ble_eq_true rfl) rfl rfl rfl rfl ?_
          refine W.nil ?_
          refine Ev.ret ?_
          exact ⟨(0, 0), h, Wk.nrmTo [4, 65538, 65539, 65541] [(10201, 10100), (10200, 10101), (10202, 10102), (10203, 10103)] rfl rfl⟩
  · intro ⟨b1, b2⟩ h
    try dsimp only at h ⊢
    unfold bom_Make_j1 at h
    refine ⟨_, rfl, ?_⟩
    refine Sq.wEnd (Nat.le_of_ble_eq_true rfl) ?_
    refine W.alloc (dt := true) rfl rfl rfl ?_
    refine W.store (es' := [[.int .i64 b1, .int .i64 b2]]) (dt := true) rfl rfl rfl rfl rfl (Nat.le_of_ble_eq_true rfl) rfl rfl rfl rfl ?_
    refine W.nil ?_
    refine Ev.seq ?_
    refine W.reg hm ?_
    refine W.loadO (p := .agg [.int .i64 b1, .int .i64 b2]) rfl rfl rfl rfl ?_
    refine W.build (cs := [.int .i64 0, .int .i64 0]) rfl rfl rfl ?_
    refine W.eqs rfl rfl rfl ?_
    refine W.nil ?_
    refine Ev.cond rfl (fun c1 => ?_) (fun c1 => ?_)
    · replace h := iteT h c1
      refine Ev.seq ?_
      refine W.regD hm ?_
      refine W.loadO (p := .agg [.int .i64 b1, .int .i64 b2]) rfl rfl rfl rfl ?_
      refine W.mv rfl ?_
      refine W.store (es' := [[.int .i64 b1, .int .i64 b2]]) (dt := true) rfl rfl rfl rfl rfl (Nat.le_of_ble_eq_true rfl) rfl rfl rfl rfl ?_
      refine W.nil ⟨rfl, ?_⟩
      refine Ev.ret ?_
      injection h with h; subst h
      exact ⟨_, rfl, Le.tups (.cons (.nils 2) (.cons (.refl _) (.nil)))⟩
    · replace h := iteF h c1
      refine Ev.skip ?_
      refine Ev.seq ?_
      refine Ev.seq ?_
      refine W.reg hm ?_
      refine W.loadO (p := .agg [.list 2 (List.map SPathLines.cells a1.Files)]) rfl rfl rfl rfl ?_
      obtain ⟨r3, k2, h⟩ := obind h
      refine W.call (treepatch_Second_spec n a1 (-2) r3 k2) rfl rfl (Les.refl _) rfl (.inl rfl) rfl ?_
      refine W.alloc (dt := true) rfl rfl rfl ?_
      refine W.store (es' := [[.int .i64 r3.Code, .int .i64 r3.Index]]) (dt := true) rfl rfl rfl rfl rfl (Nat.le_of_ble_eq_true rfl) rfl rfl rfl rfl ?_
      refine W.nil ?_
      refine Ev.seq ?_
      refine W.reg hm ?_
      refine W.loadO (p := .agg [.int .i64 r3.Code, .int .i64 r3.Index]) rfl rfl rfl rfl ?_
      refine W.build (cs := [.int .i64 0, .int .i64 0]) rfl rfl rfl ?_
      refine W.eqs rfl rfl rfl ?_
      refine W.nil ?_
      refine Ev.cond rfl (fun c3 => ?_) (fun c3 => ?_)
      · replace h := iteT h c3
        refine Ev.seq ?_
        refine W.regD hm ?_
        refine W.loadO (p := .agg [.int .i64 r3.Code, .int .i64 r3.Index]) rfl rfl rfl rfl ?_
        refine W.mv rfl ?_
        refine W.store (es' := [[.int .i64 r3.Code, .int .i64 r3.Index]]) (dt := true) rfl rfl rfl rfl rfl (Nat.le_of_ble_eq_true rfl) rfl rfl rfl rfl ?_
        refine W.nil ⟨rfl, ?_⟩
        refine Ev.ret ?_
        injection h with h; subst h
        exact ⟨_, rfl, Le.tups (.cons (.nils 2) (.cons (.refl _) (.nil)))⟩
      · replace h := iteF h c3
        refine Ev.skip ?_
        refine Ev.seq ?_
        refine W.reg hm ?_
        refine W.mv rfl ?_
        refine W.nil ?_
        refine Ev.seq ?_
        refine Ev.seq ?_
        refine W.reg hm ?_
        refine W.loadO (p := .list 1 (List.map cS a0)) rfl rfl rfl rfl ?_
        refine W.lenL (c := cS) rfl ?_
        refine W.mv rfl ?_
        refine W.nil ?_
        refine Ev.block ?_
        refine Ev.loopW (β := Nat × (List SPathDigest) × Int) (fun v => ⟨[(3, .pown 10200 0 0 0), (5, .pown 10201 0 0 0), (8, .own 10202 0), (25, .list 1 (List.map cS a0)), (26, .int .i64 (a0.length : Int)), (27, .int .i64 v.2.2)], [(10200, ⟨0, 46, 1, [[.list 2 (List.map SPathLines.cells a1.Files)]], true, false, false⟩), (10201, ⟨0, 25, 2, [[.int .i64 0, .int .i64 0]], true, false, false⟩), (10202, ⟨0, 117, 2, List.map SPathDigest.cells v.2.1, true, false, false⟩)], 2⟩) (fun v => bom_Make_l1 n a0 a1 v.1 v.2.1 v.2.2 = some r) (fun v => v.1) (n, ([] : List SPathDigest), 0) ((Wk.ownNil 8 30202 117 2 rfl rfl true).trans (Wk.nrmTo [3, 5, 8, 25, 26, 27] [(10102, 10200), (10103, 10201), (30202, 10202)] rfl rfl)) h ?_
        intro ⟨m1, w4, x5⟩ h
        try dsimp only at h ⊢
        cases m1 with
        | zero => rw [bom_Make_l1] at h; cases h
        | succ m1 =>
          rw [bom_Make_l1] at h
          refine Ev.seq ?_
          refine W.reg hm ?_
          refine W.lss rfl rfl ?_
          refine W.nil ?_
          refine Ev.seq ?_
          refine Ev.cond rfl (fun c4 => ?_) (fun c4 => ?_)
          · replace h := iteT h c4
            refine Ev.skip ?_
            refine Ev.seq ?_
            refine Ev.block ?_
            refine Ev.seq ?_
            refine W.reg hm ?_
            obtain ⟨e6, k5, h⟩ := obind h
            refine W.idxL (c := cS) rfl rfl k5 ?_
            refine W.load rfl rfl ?_
            refine W.mv rfl ?_
            refine W.nil ?_
            refine W.reg hm ?_
            refine W.mv rfl ?_
            refine W.mv rfl ?_
            refine W.loadO (p := .agg [.list 2 (List.map SPathLines.cells a1.Files)]) rfl rfl rfl rfl ?_
            refine W.mv rfl ?_
            obtain ⟨r7, k6, h⟩ := obind h
            refine W.call (bom_describe_spec n a1 e6 r7 k6) rfl rfl (Les.refl _) rfl (.inl rfl) rfl ?_
            refine W.build (cs := [.str e6, .int .i64 r7]) rfl rfl rfl ?_
            refine W.mkSlice (dt := true) (es := [[.str e6, .int .i64 r7]]) rfl rfl rfl rfl rfl rfl ?_
            obtain ⟨w8, k7, h⟩ := obind h
            refine W.appR true (l := w4) (c := SPathDigest.cells) (ys := ([(⟨e6, r7⟩ : SPathDigest)] : List SPathDigest)) rfl rfl rfl rfl rfl rfl rfl rfl k7 rfl (by simp) ?_
            refine W.mv rfl ?_
            refine W.nil ?_
            refine W.reg hm ?_
            obtain ⟨x9, k8, h⟩ := obind h
            refine W.addG rfl rfl k8 ?_
            refine W.mv rfl ?_
            refine W.nil ?_
            exact ⟨(m1, w8, x9), h, Nat.lt_succ_self _, Wk.nrmTo [3, 5, 8, 25, 26, 27] [(10200, 10200), (10201, 10201), (38, 10202)] rfl rfl⟩
          · replace h := iteF h c4
            refine Ev.exit ?_
            refine Ev.seq ?_
            refine W.reg hm ?_
            refine W.mv rfl ?_
            refine W.build (cs := [.int .i64 0, .int .i64 0]) rfl rfl rfl ?_
            refine W.mv rfl ?_
            refine W.store (es' := [[.int .i64 0, .int .i64 0]]) (dt := true) rfl rfl rfl rfl rfl (Nat.le_of_ble_eq_true rfl) rfl rfl rfl rfl ?_
            refine W.nil ?_
            refine Ev.ret ?_
            injection h with h; subst h
            exact ⟨_, rfl, .refl _⟩
theorem ref6_SameBom_spec (n : Nat) (a0 : List SPathDigest) (a1 : List SPathDigest) (r : Bool) (h : ref6_SameBom n a0 a1 = some r) : PSpec Tryd.prog 43 [.list 2 (List.map SPathDigest.cells a0), .list 2 (List.map SPathDigest.cells a1)] (.bool r) := by
  unfold ref6_SameBom at h
  refine spec_of Tryd.c_ref6_SameBom (by simp) ?_
  unfold Tryd.l_ref6_SameBom
  refine Ev.seq ?_
  refine W.reg hm ?_
  refine W.mv rfl ?_
  refine W.nil ?_
  refine Ev.seq ?_
  refine Ev.seq ?_
  refine W.reg hm ?_
  refine W.mv rfl ?_
  refine W.lenL (c := SPathDigest.cells) rfl ?_
  refine W.mv rfl ?_
  refine W.lenL (c := SPathDigest.cells) rfl ?_
  refine W.neq rfl rfl ?_
  refine W.nil ?_
  refine Ev.cond rfl (fun c1 => ?_) (fun c1 => ?_)
  · replace h := iteT h c1
    refine Ev.seq ?_
    refine W.reg hm ?_
    refine W.mv rfl ?_
    refine W.nil ?_
    refine Ev.ret ?_
    injection h with h; subst h
    exact ⟨_, rfl, .refl _⟩
  · replace h := iteF h c1
    refine Ev.skip ?_
    refine Ev.seq ?_
    refine Ev.seq ?_
    refine W.reg hm ?_
    refine W.mv rfl ?_
    refine W.nil ?_
    refine Ev.block ?_
    refine Ev.loopW (β := Nat × Int) (fun v => ⟨[(0, .list 2 (List.map SPathDigest.cells a0)), (1, .list 2 (List.map SPathDigest.cells a1)), (5, .int .i64 v.2)], [], 2⟩) (fun v => ref6_SameBom_l1 n a0 a1 v.1 v.2 = some r) (fun v => v.1) (n, 0) (Wk.nrmTo [0, 1, 5] [] rfl rfl) h ?_
    intro ⟨m1, x1⟩ h
    try dsimp only at h ⊢
    cases m1 with
    | zero => rw [ref6_SameBom_l1] at h; cases h
    | succ m1 =>
      rw [ref6_SameBom_l1] at h
      refine Ev.seq ?_
      refine Ev.seq ?_
      refine W.reg hm ?_
      refine W.mv rfl ?_
      refine W.mv rfl ?_
      refine W.lenL (c := SPathDigest.cells) rfl ?_
      refine W.lss rfl rfl ?_
      refine W.nil ?_
      refine Ev.cond rfl (fun c2 => ?_) (fun c2 => ?_)
      · replace h := iteT h c2
        refine Ev.skip ?_
        refine Ev.seq ?_
        refine Ev.block ?_
        refine Ev.seq ?_
        refine W.regD hm ?_
        refine W.mv rfl ?_
        refine W.mv rfl ?_
        obtain ⟨e2, k3, h⟩ := obind h
        refine W.idxL (c := SPathDigest.cells) rfl rfl k3 ?_
        refine W.load rfl rfl ?_
        refine W.mv rfl ?_
        refine W.mv rfl ?_
        obtain ⟨e3, k4, h⟩ := obind h
        refine W.idxL (c := SPathDigest.cells) rfl rfl k4 ?_
        refine W.load rfl rfl ?_
        refine W.eqs rfl rfl rfl ?_
        refine W.nil ⟨rfl, ?_⟩
        refine Ev.cond rfl (fun c5 => ?_) (fun c5 => ?_)
        · replace h := iteT h c5
          refine Ev.seq ?_
          refine W.reg hm ?_
          refine W.mv rfl ?_
          refine W.nil ?_
          refine Ev.ret ?_
          injection h with h; subst h
          exact ⟨_, rfl, .refl _⟩
        · replace h := iteF h c5
          refine Ev.skip ?_
          refine W.reg hm ?_
          refine W.mv rfl ?_
          obtain ⟨x4, k6, h⟩ := obind h
          refine W.addG rfl rfl k6 ?_
          refine W.mv rfl ?_
          refine W.nil ?_
          exact ⟨(m1, x4), h, Nat.lt_succ_self _, Wk.nrmTo [0, 1, 5] [] rfl rfl⟩
      · replace h := iteF h c2
        refine Ev.exit ?_
        refine Ev.seq ?_
        refine W.reg hm ?_
        refine W.mv rfl ?_
        refine W.nil ?_
        refine Ev.ret ?_
        injection h with h; subst h
        exact ⟨_, rfl, .refl _⟩
set_option maxHeartbeats 4000000 in
theorem bom_Merge_spec (n : Nat) (a0 : List SPathDigest) (a1 : List SPathDigest) (r : ((List SPathDigest) × Bool × SCodeIndex)) (h : bom_Merge n a0 a1 = some r) : PSpec Tryd.prog 46 [.list 2 (List.map SPathDigest.cells a0), .list 2 (List.map SPathDigest.cells a1)] (.tup [.list 2 (List.map SPathDigest.cells r.1), .bool r.2.1, .agg (SCodeIndex.cells r.2.2)]) := by
  unfold bom_Merge at h
  refine spec_of Tryd.c_bom_Merge (by simp) ?_
  unfold Tryd.l_bom_Merge
  refine Ev.seq ?_
  refine W.reg hm ?_
  refine W.mv rfl ?_
  refine W.mv rfl ?_
  refine W.alloc (dt := true) rfl rfl rfl ?_
  refine W.nil ?_
  refine Ev.seq ?_
  refine Ev.seq ?_
  refine W.reg hm ?_
  refine W.mv rfl ?_
  obtain ⟨r1, k1, h⟩ := obind h
  refine W.call (bom_Validate_spec n a0 r1 k1) rfl rfl (Les.refl _) rfl (.inl rfl) rfl ?_
  refine W.alloc (dt := true) rfl rfl rfl ?_
  refine W.store (es' := [[.int .i64 r1.Code, .int .i64 r1.Index]]) (dt := true) rfl rfl rfl rfl rfl (Nat.le_of_ble_eq_true rfl) rfl rfl rfl rfl ?_
  refine W.nil ?_
  refine Ev.seq ?_
  refine W.reg hm ?_
  refine W.loadO (p := .agg [.int .i64 r1.Code, .int .i64 r1.Index]) rfl rfl rfl rfl ?_
  refine W.build (cs := [.int .i64 0, .int .i64 0]) rfl rfl rfl ?_
  refine W.eqs rfl rfl rfl ?_
  refine W.nil ?_
  refine Ev.cond rfl (fun c2 => ?_) (fun c2 => ?_)
  · replace h := iteT h c2
    refine Ev.seq ?_
    refine W.regD hm ?_
    refine W.loadO (p := .agg [.int .i64 r1.Code, .int .i64 r1.Index]) rfl rfl rfl rfl ?_
    refine W.mv rfl ?_
    refine W.mv rfl ?_
    refine W.store (es' := [[.int .i64 r1.Code, .int .i64 r1.Index]]) (dt := true) rfl rfl rfl rfl rfl (Nat.le_of_ble_eq_true rfl) rfl rfl rfl rfl ?_
    refine W.nil ⟨rfl, ?_⟩
    refine Ev.ret ?_
    injection h with h; subst h
    exact ⟨_, rfl, Le.tups (.cons (.nils 2) (.cons (.refl _) (.cons (.refl _) (.nil))))⟩
  · replace h := iteF h c2
    refine Ev.skip ?_
    refine Ev.seq ?_
    refine Ev.seq ?_
    refine W.reg hm ?_
    refine W.mv rfl ?_
    obtain ⟨r2, k3, h⟩ := obind h
    refine W.call (bom_Validate_spec n a1 r2 k3) rfl rfl (Les.refl _) rfl (.inl rfl) rfl ?_
    refine W.alloc (dt := true) rfl rfl rfl ?_
    refine W.store (es' := [[.int .i64 r2.Code, .int .i64 r2.Index]]) (dt := true) rfl rfl rfl rfl rfl (Nat.le_of_ble_eq_true rfl) rfl rfl rfl rfl ?_
    refine W.nil ?_
    refine Ev.seq ?_
    refine W.reg hm ?_
    refine W.loadO (p := .agg [.int .i64 r2.Code, .int .i64 r2.Index]) rfl rfl rfl rfl ?_
    refine W.build (cs := [.int .i64 0, .int .i64 0]) rfl rfl rfl ?_
    refine W.eqs rfl rfl rfl ?_
    refine W.nil ?_
    refine Ev.cond rfl (fun c4 => ?_) (fun c4 => ?_)
    · replace h := iteT h c4
      refine Ev.seq ?_
      refine W.regD hm ?_
      refine W.fieldAddrO rfl rfl ?_
      refine W.loadO (p := .int .i64 r2.Code) rfl rfl rfl rfl ?_
      refine W.build (cs := [.int .i64 r2.Code, .int .i64 (-2)]) rfl rfl rfl ?_
      refine W.mv rfl ?_
      refine W.mv rfl ?_
      refine W.store (es' := [[.int .i64 r2.Code, .int .i64 (-2)]]) (dt := true) rfl rfl rfl rfl rfl (Nat.le_of_ble_eq_true rfl) rfl rfl rfl rfl ?_
      refine W.nil ⟨rfl, ?_⟩
      refine Ev.ret ?_
      injection h with h; subst h
      exact ⟨_, rfl, Le.tups (.cons (.nils 2) (.cons (.refl _) (.cons (.refl _) (.nil))))⟩
    · replace h := iteF h c4
      refine Ev.skip ?_
      refine Ev.seq ?_
      refine Ev.regS rfl ?_
      refine Sq.w 3 (Nat.le_of_ble_eq_true rfl) ?_
      refine W.mv rfl ?_
      refine W.mv rfl ?_
      refine W.mkSlice (dt := true) (es := [[.list 2 (List.map SPathDigest.cells a0)], [.list 2 (List.map SPathDigest.cells a1)]]) rfl rfl rfl rfl rfl rfl ?_
      refine W.nil ?_
      refine Sq.weak (st' := ⟨[(6, .pown 10000 0 0 0), (27, .own 10001 0)], [(10000, ⟨0, 25, 2, [[.int .i64 0, .int .i64 0]], true, false, false⟩), (10001, ⟨0, 63, 1, List.map (cL 2 SPathDigest.cells) ([a0, a1] : List (List SPathDigest)), true, false, false⟩)], 2⟩) ?_ (Wk.nrmTo [6, 27] [(6, 10000), (27, 10001)] rfl rfl)
      refine Sq.call rfl Tryd.c_slices_Concat_api_BomEntry_api_BomEntry ⟨_, rfl, Nat.le_of_ble_eq_true rfl, ?_⟩
      unfold Tryd.l_slices_Concat_api_BomEntry_api_BomEntry
      refine Ev.retJ (γ := List SPathDigest) (fun v => ⟨[(2, .own 10100 0), (65542, .pown 10101 0 0 0)], [(10100, ⟨0, 117, 2, List.map SPathDigest.cells v, true, false, false⟩), (10101, ⟨0, 25, 2, [[.int .i64 0, .int .i64 0]], true, false, false⟩)], 2⟩) (fun v => bom_Merge_j1 n v = some r) ?_ ?_
      · refine Ev.seq ?_
        refine W.reg hm ?_
        refine W.mv rfl ?_
        refine W.nil ?_
        refine Ev.seq ?_
        refine W.reg hm ?_
        refine W.mv rfl ?_
        refine W.nil ?_
        refine Ev.seq ?_
        refine Ev.seq ?_
        refine W.reg hm ?_
        refine W.mv rfl ?_
        refine W.lenO (l := ([a0, a1] : List (List SPathDigest))) (c := (cL 2 SPathDigest.cells)) rfl rfl rfl ?_
        refine W.mv rfl ?_
        refine W.nil ?_
        refine Ev.block ?_
        refine Ev.loopW (β := Nat × Int × Int) (fun v => ⟨[(0, .own 10200 0), (3, .int .i64 v.2.1), (9, .own 10200 0), (10, .int .i64 (([a0, a1] : List (List SPathDigest)).length : Int)), (11, .int .i64 v.2.2), (65542, .pown 10201 0 0 0)], [(10200, ⟨0, 63, 1, List.map (cL 2 SPathDigest.cells) ([a0, a1] : List (List SPathDigest)), true, false, false⟩), (10201, ⟨0, 25, 2, [[.int .i64 0, .int .i64 0]], true, false, false⟩)], 2⟩) (fun v => bom_Merge_l4 n a0 a1 v.1 v.2.1 v.2.2 = some r) (fun v => v.1) (n, 0, 0) (Wk.nrmTo [0, 3, 9, 10, 11, 65542] [(10001, 10200), (10000, 10201)] rfl rfl) h ?_
        intro ⟨m4, x34, x35⟩ h
        try dsimp only at h ⊢
        cases m4 with
        | zero => rw [bom_Merge_l4] at h; cases h
        | succ m4 =>
          rw [bom_Merge_l4] at h
          refine Ev.seq ?_
          refine W.reg hm ?_
          refine W.lss rfl rfl ?_
          refine W.nil ?_
          refine Ev.seq ?_
          refine Ev.cond rfl (fun c34 => ?_) (fun c34 => ?_)
          · replace h := iteT h c34
            refine Ev.skip ?_
            refine Ev.seq ?_
            refine Ev.block ?_
            refine Ev.seq ?_
            refine W.reg hm ?_
            obtain ⟨e36, k35, h⟩ := obind h
            refine W.idxR (l := ([a0, a1] : List (List SPathDigest))) (c := (cL 2 SPathDigest.cells)) rfl rfl rfl rfl rfl k35 ?_
            refine W.loadR (l := ([a0, a1] : List (List SPathDigest))) (c := (cL 2 SPathDigest.cells)) (v := e36) (p := .list 2 (List.map SPathDigest.cells e36)) rfl rfl rfl (gidx_some k35).2 rfl ?_
            refine W.mv rfl ?_
            refine W.nil ?_
            refine Ev.seq ?_
            refine W.reg hm ?_
            refine W.mv rfl ?_
            refine W.mv rfl ?_
            refine W.lenL (c := SPathDigest.cells) rfl ?_
            obtain ⟨x37, k36, h⟩ := obind h
            refine W.addG rfl rfl k36 ?_
            refine W.mv rfl ?_
            refine W.nil ?_
            refine Ev.seq ?_
            refine W.reg hm ?_
            refine W.mv rfl ?_
            refine W.lss rfl rfl ?_
            refine W.nil ?_
            refine Ev.cond rfl (fun c37 => ?_) (fun c37 => ?_)
            · replace h := iteT h c37
              refine W.reg hm ?_
              cases h
            · replace h := iteF h c37
              refine Ev.skip ?_
              refine W.reg hm ?_
              obtain ⟨x38, k38, h⟩ := obind h
              refine W.addG rfl rfl k38 ?_
              refine W.mv rfl ?_
              refine W.nil ?_
              exact ⟨(m4, x37, x38), h, Nat.lt_succ_self _, Wk.nrmTo [0, 3, 9, 10, 11, 65542] [(10200, 10200), (10201, 10201)] rfl rfl⟩
          · replace h := iteF h c34
            refine Ev.exit ?_
            refine Ev.seq ?_
            refine W.reg hm ?_
            refine W.mv rfl ?_
            obtain ⟨u39, k39, h⟩ := obind h
            refine W.callO (k_GrowBom x34 u39 k39) rfl (Les.refl _) rfl rfl rfl ?_
            refine W.mv rfl ?_
            refine W.nil ?_
            refine Ev.seq ?_
            refine Ev.seq ?_
            refine W.reg hm ?_
            refine W.mv rfl ?_
            refine W.lenO (l := ([a0, a1] : List (List SPathDigest))) (c := (cL 2 SPathDigest.cells)) rfl rfl rfl ?_
            refine W.mv rfl ?_
            refine W.nil ?_
            refine Ev.block ?_
            refine Ev.loopW (β := Nat × (List SPathDigest) × Int) (fun v => ⟨[(6, .own 10300 0), (25, .own 10301 0), (26, .int .i64 (([a0, a1] : List (List SPathDigest)).length : Int)), (27, .int .i64 v.2.2), (65542, .pown 10302 0 0 0)], [(10300, ⟨0, 117, 2, List.map SPathDigest.cells v.2.1, true, false, false⟩), (10301, ⟨0, 63, 1, List.map (cL 2 SPathDigest.cells) ([a0, a1] : List (List SPathDigest)), true, false, false⟩), (10302, ⟨0, 25, 2, [[.int .i64 0, .int .i64 0]], true, false, false⟩)], 2⟩) (fun v => bom_Merge_l5 n a0 a1 v.1 v.2.1 v.2.2 = some r) (fun v => v.1) (n, ([] : List SPathDigest), 0) (Wk.nrmTo [6, 25, 26, 27, 65542] [(24, 10300), (10200, 10301), (10201, 10302)] rfl rfl) h ?_
            intro ⟨m5, w40, x41⟩ h
            try dsimp only at h ⊢
            cases m5 with
            | zero => rw [bom_Merge_l5] at h; cases h
            | succ m5 =>
              rw [bom_Merge_l5] at h
              refine Ev.seq ?_
              refine W.reg hm ?_
              refine W.lss rfl rfl ?_
              refine W.nil ?_
              refine Ev.seq ?_
              refine Ev.cond rfl (fun c40 => ?_) (fun c40 => ?_)
              · replace h := iteT h c40
                refine Ev.skip ?_
                refine Ev.seq ?_
                refine Ev.block ?_
                refine Ev.seq ?_
                refine W.reg hm ?_
                obtain ⟨e42, k41, h⟩ := obind h
                refine W.idxR (l := ([a0, a1] : List (List SPathDigest))) (c := (cL 2 SPathDigest.cells)) rfl rfl rfl rfl rfl k41 ?_
                refine W.loadR (l := ([a0, a1] : List (List SPathDigest))) (c := (cL 2 SPathDigest.cells)) (v := e42) (p := .list 2 (List.map SPathDigest.cells e42)) rfl rfl rfl (gidx_some k41).2 rfl ?_
                refine W.mv rfl ?_
                refine W.nil ?_
                refine W.reg hm ?_
                refine W.mv rfl ?_
                refine W.mv rfl ?_
                obtain ⟨w43, k42, h⟩ := obind h
                refine W.appR true (l := w40) (c := SPathDigest.cells) (ys := e42) rfl rfl rfl rfl rfl rfl rfl rfl k42 rfl (by simp) ?_
                refine W.mv rfl ?_
                refine W.nil ?_
                refine W.reg hm ?_
                obtain ⟨x44, k43, h⟩ := obind h
                refine W.addG rfl rfl k43 ?_
                refine W.mv rfl ?_
                refine W.nil ?_
                exact ⟨(m5, w43, x44), h, Nat.lt_succ_self _, Wk.nrmTo [6, 25, 26, 27, 65542] [(33, 10300), (10301, 10301), (10302, 10302)] rfl rfl⟩
              · replace h := iteF h c40
                refine Ev.exit ?_
                refine Ev.seq ?_
                refine W.reg hm ?_
                refine W.mv rfl ?_
                refine W.mv rfl ?_
                refine W.nil ?_
                refine Ev.ret ?_
                exact ⟨w40, h, Wk.nrmTo [2, 65542] [(10300, 10100), (10302, 10101)] rfl rfl⟩
      · intro w3 h
        try dsimp only at h ⊢
        unfold bom_Merge_j1 at h
        refine ⟨_, rfl, ?_⟩
        refine Sq.wEnd (Nat.le_of_ble_eq_true rfl) ?_
        refine W.mv rfl ?_
        refine W.nil ?_
        refine Ev.seq ?_
        refine W.reg hm ?_
        refine W.mv rfl ?_
        refine W.rowCallF (k_SortPath w3) rfl rfl (by rw [List.length_map, List.length_map, sortPath_length]) rfl ?_
        refine W.nil ?_
        refine Ev.seq ?_
        refine Ev.regS rfl ?_
        refine Sq.w 1 (Nat.le_of_ble_eq_true rfl) ?_
        refine W.mv rfl ?_
        refine W.nil ?_
        refine Sq.call rfl Tryd.c_slices_Compact_api_BomEntry_api_BomEntry ⟨_, rfl, Nat.le_of_ble_eq_true rfl, ?_⟩
        unfold Tryd.l_slices_Compact_api_BomEntry_api_BomEntry
        refine Ev.retJ (γ := (List SPathDigest) × (List SPathDigest)) (fun v => ⟨[(2, .list 2 (List.map SPathDigest.cells v.1)), (65542, .pown 10200 0 0 0), (65545, .list 2 (List.map SPathDigest.cells v.2))], [(10200, ⟨0, 25, 2, [[.int .i64 0, .int .i64 0]], true, false, false⟩)], 2⟩) (fun v => bom_Merge_j2 n v.1 v.2 = some r) ?_ ?_
        · refine Ev.seq ?_
          refine W.reg hm ?_
          refine W.mv rfl ?_
          refine W.nil ?_
          refine Ev.seq ?_
          refine Ev.seq ?_
          refine W.reg hm ?_
          refine W.mv rfl ?_
          refine W.lenO (l := (sortPath w3)) (c := SPathDigest.cells) rfl rfl rfl ?_
          refine W.lss rfl rfl ?_
          refine W.nil ?_
          refine Ev.cond rfl (fun c13 => ?_) (fun c13 => ?_)
          · replace h := iteT h c13
            refine Ev.seq ?_
            refine W.reg hm ?_
            refine W.mv rfl ?_
            refine W.mv rfl ?_
            refine W.nil ?_
            refine Ev.weak ?_ (Wk.frz 10100 0 rfl rfl)
            refine Ev.ret ?_
            exact ⟨((sortPath w3), (sortPath w3)), h, Wk.nrmTo [2, 65542, 65545] [(10101, 10200)] rfl rfl⟩
          · replace h := iteF h c13
            refine Ev.skip ?_
            refine Ev.seq ?_
            refine Ev.seq ?_
            refine W.reg hm ?_
            refine W.mv rfl ?_
            refine W.nil ?_
            refine Ev.block ?_
            refine Ev.loopW (β := Nat × Int) (fun v => ⟨[(0, .own 10300 0), (3, .int .i64 v.2), (65542, .pown 10301 0 0 0), (65545, .own 10300 0)], [(10300, ⟨0, 117, 2, List.map SPathDigest.cells (sortPath w3), true, false, false⟩), (10301, ⟨0, 25, 2, [[.int .i64 0, .int .i64 0]], true, false, false⟩)], 2⟩) (fun v => bom_Merge_l2 n w3 v.1 v.2 = some r) (fun v => v.1) (n, 1) (Wk.nrmTo [0, 3, 65542, 65545] [(10100, 10300), (10101, 10301)] rfl rfl) h ?_
            intro ⟨m2, x12⟩ h
            try dsimp only at h ⊢
            cases m2 with
            | zero => rw [bom_Merge_l2] at h; cases h
            | succ m2 =>
              rw [bom_Merge_l2] at h
              refine Ev.seq ?_
              refine Ev.seq ?_
              refine W.reg hm ?_
              refine W.mv rfl ?_
              refine W.mv rfl ?_
              refine W.lenO (l := (sortPath w3)) (c := SPathDigest.cells) rfl rfl rfl ?_
              refine W.lss rfl rfl ?_
              refine W.nil ?_
              refine Ev.cond rfl (fun c14 => ?_) (fun c14 => ?_)
              · replace h := iteT h c14
                refine Ev.skip ?_
                refine Ev.seq ?_
                refine Ev.block ?_
                refine Ev.seq ?_
                refine W.regD hm ?_
                refine W.mv rfl ?_
                refine W.mv rfl ?_
                obtain ⟨e13, k15, h⟩ := obind h
                refine W.idxR (l := (sortPath w3)) (c := SPathDigest.cells) rfl rfl rfl rfl rfl k15 ?_
                refine W.loadR (l := (sortPath w3)) (c := SPathDigest.cells) (v := e13) (p := .agg [.str e13.Path, .int .i64 e13.Digest]) rfl rfl rfl (gidx_some k15).2 rfl ?_
                refine W.mv rfl ?_
                refine W.mv rfl ?_
                obtain ⟨x14, k16, h⟩ := obind h
                refine W.subG rfl rfl k16 ?_
                obtain ⟨e15, k17, h⟩ := obind h
                refine W.idxR (l := (sortPath w3)) (c := SPathDigest.cells) rfl rfl rfl rfl rfl k17 ?_
                refine W.loadR (l := (sortPath w3)) (c := SPathDigest.cells) (v := e15) (p := .agg [.str e15.Path, .int .i64 e15.Digest]) rfl rfl rfl (gidx_some k17).2 rfl ?_
                refine W.eqs rfl rfl rfl ?_
                refine W.nil ⟨rfl, ?_⟩
                refine Ev.cond rfl (fun c18 => ?_) (fun c18 => ?_)
                · replace h := iteT h c18
                  refine Ev.seq ?_
                  refine W.reg hm ?_
                  refine W.mv rfl ?_
                  refine W.mv rfl ?_
                  obtain ⟨s16, k19, h⟩ := obind h
                  refine W.sliceR (l := (sortPath w3)) (c := SPathDigest.cells) rfl rfl rfl rfl k19 (by rw [List.length_map]; exact ix0 (gcut_some k19).1) ?_
                  refine W.mv rfl ?_
                  refine W.nil ?_
                  refine Ev.seq ?_
                  refine Ev.seq ?_
                  refine W.reg hm ?_
                  refine W.mv rfl ?_
                  refine W.nil ?_
                  refine Ev.block ?_
                  refine Ev.loopW (β := Nat × (List SPathDigest) × Int × Int) (fun v => ⟨[(0, .own 10400 0), (3, .int .i64 v.2.2.1), (4, .sub 10400 0 x12.toNat ((sortPath w3).length : Int).toNat), (5, .int .i64 v.2.2.2), (65542, .pown 10401 0 0 0), (65545, .own 10400 0)], [(10400, ⟨0, 117, 2, List.map SPathDigest.cells v.2.1, true, false, false⟩), (10401, ⟨0, 25, 2, [[.int .i64 0, .int .i64 0]], true, false, false⟩)], 2⟩) (fun v => bom_Merge_l3 n w3 x12 v.1 v.2.1 v.2.2.1 v.2.2.2 = some r) (fun v => v.1) (n, (sortPath w3), x12, 1) (Wk.nrmTo [0, 3, 4, 5, 65542, 65545] [(10300, 10400), (10301, 10401)] rfl rfl) h ?_
                  intro ⟨m3, w17, x18, x19⟩ h
                  try dsimp only at h ⊢
                  cases m3 with
                  | zero => rw [bom_Merge_l3] at h; cases h
                  | succ m3 =>
                    rw [bom_Merge_l3] at h
                    refine Ev.seq ?_
                    refine Ev.seq ?_
                    obtain ⟨s20, k20, h⟩ := obind h
                    refine W.reg hm ?_
                    refine W.mv rfl ?_
                    refine W.mv rfl ?_
                    refine W.lenS (t := s20) (c := SPathDigest.cells) rfl rfl (by rw [map_cut, (gcut_some k20).2.2.2.2]) ?_
                    refine W.lss rfl rfl ?_
                    refine W.nil ?_
                    refine Ev.cond rfl (fun c21 => ?_) (fun c21 => ?_)
                    · replace h := iteT h c21
                      refine Ev.skip ?_
                      refine Ev.seqJ (γ := (List SPathDigest) × Int) (fun v => ⟨[(0, .own 10500 0), (3, .int .i64 v.2), (4, .sub 10500 0 x12.toNat ((sortPath w3).length : Int).toNat), (5, .int .i64 x19), (65542, .pown 10501 0 0 0), (65545, .own 10500 0)], [(10500, ⟨0, 117, 2, List.map SPathDigest.cells v.1, true, false, false⟩), (10501, ⟨0, 25, 2, [[.int .i64 0, .int .i64 0]], true, false, false⟩)], 2⟩) (fun v => bom_Merge_j4 n x19 (bom_Merge_l3 n w3 x12 m3) v.1 v.2 = some r) ?_ ?_
                      · refine Ev.block ?_
                        refine Ev.seq ?_
                        refine W.regD hm ?_
                        refine W.mv rfl ?_
                        refine W.mv rfl ?_
                        obtain ⟨e24, k23, h⟩ := obind h
                        refine W.idxSR rfl rfl rfl rfl k20 k23 ?_
                        obtain ⟨e25, k24, h⟩ := obind h
                        refine W.loadR (l := w17) (c := SPathDigest.cells) (v := e25) (p := .agg [.str e25.Path, .int .i64 e25.Digest]) rfl rfl rfl (gidx_some k24).2 rfl ?_
                        refine W.mv rfl ?_
                        refine W.mv rfl ?_
                        obtain ⟨x26, k25, h⟩ := obind h
                        refine W.subG rfl rfl k25 ?_
                        obtain ⟨e27, k26, h⟩ := obind h
                        refine W.idxSR rfl rfl rfl rfl k20 k26 ?_
                        obtain ⟨e28, k27, h⟩ := obind h
                        refine W.loadR (l := w17) (c := SPathDigest.cells) (v := e28) (p := .agg [.str e28.Path, .int .i64 e28.Digest]) rfl rfl rfl (gidx_some k27).2 rfl ?_
                        refine W.eqs rfl rfl rfl ?_
                        refine W.nil ⟨rfl, ?_⟩
                        refine Ev.cond rfl (fun c28 => ?_) (fun c28 => ?_)
                        · replace h := iteT h c28
                          refine Ev.seq ?_
                          refine W.reg hm ?_
                          refine W.mv rfl ?_
                          refine W.mv rfl ?_
                          refine W.mv rfl ?_
                          refine W.mv rfl ?_
                          refine W.idxSR rfl rfl rfl rfl k20 k23 ?_
                          refine W.loadR (l := w17) (c := SPathDigest.cells) (v := e25) (p := .agg [.str e25.Path, .int .i64 e25.Digest]) rfl rfl rfl (gidx_some k24).2 rfl ?_
                          obtain ⟨e29, k29, h⟩ := obind h
                          refine W.idxR (l := w17) (c := SPathDigest.cells) rfl rfl rfl rfl rfl k29 ?_
                          refine W.storeR true (l := w17) (c := SPathDigest.cells) (v := e29) (v' := e25) rfl rfl rfl rfl (gidx_some k29).2 rfl (Nat.le_of_ble_eq_true rfl) rfl rfl rfl ?_
                          refine W.nil ?_
                          refine W.reg hm ?_
                          refine W.mv rfl ?_
                          obtain ⟨x30, k30, h⟩ := obind h
                          refine W.addG rfl rfl k30 ?_
                          refine W.mv rfl ?_
                          refine W.nil ?_
                          exact ⟨((gset w17 x18 e25), x30), h, Wk.nrmTo [0, 3, 4, 5, 65542, 65545] [(10400, 10500), (10401, 10501)] rfl rfl⟩
                        · replace h := iteF h c28
                          refine Ev.skip ?_
                          exact ⟨(w17, x18), h, Wk.nrmTo [0, 3, 4, 5, 65542, 65545] [(10400, 10500), (10401, 10501)] rfl rfl⟩
                      · intro ⟨w21, x22⟩ h
                        try dsimp only at h ⊢
                        unfold bom_Merge_j4 at h
                        refine W.reg hm ?_
                        refine W.mv rfl ?_
                        obtain ⟨x23, k22, h⟩ := obind h
                        refine W.addG rfl rfl k22 ?_
                        refine W.mv rfl ?_
                        refine W.nil ?_
                        exact ⟨(m3, w21, x22, x23), h, Nat.lt_succ_self _, Wk.nrmTo [0, 3, 4, 5, 65542, 65545] [(10500, 10400), (10501, 10401)] rfl rfl⟩
                    · replace h := iteF h c21
                      refine Ev.exit ?_
                      refine Ev.seq ?_
                      refine W.reg hm ?_
                      refine W.mv rfl ?_
                      refine W.mv rfl ?_
                      obtain ⟨s31, k31, h⟩ := obind h
                      refine W.sliceR (l := w17) (c := SPathDigest.cells) rfl rfl rfl rfl k31 (by rw [List.length_map]; exact ix0 (gcut_some k31).1) ?_
                      refine W.clearS (l := w17) (c := SPathDigest.cells) (⟨([] : List UInt8), 0⟩ : SPathDigest) rfl rfl rfl rfl k31 rfl rfl ?_
                      refine W.nil ?_
                      refine Ev.seq ?_
                      refine W.reg hm ?_
                      refine W.mv rfl ?_
                      refine W.mv rfl ?_
                      obtain ⟨s32, k32, h⟩ := obind h
                      refine W.sliceR (l := (gclear w17 x18.toNat (w17.length : Int).toNat (⟨([] : List UInt8), 0⟩ : SPathDigest))) (c := SPathDigest.cells) rfl rfl rfl rfl k32 (ix1 (gcut_some k32).2.2.2.1) ?_
                      refine W.mv rfl ?_
                      refine W.nil ?_
                      refine Ev.weak ?_ (Wk.frz 10400 0 rfl rfl)
                      refine Ev.weak ?_ (Wk.le (t := 2) rfl (Le.cut k32))
                      refine Ev.weak ?_ (Wk.le (t := 59) rfl (Le.cut k32))
                      refine Ev.ret ?_
                      exact ⟨(s32, (gclear w17 x18.toNat (w17.length : Int).toNat (⟨([] : List UInt8), 0⟩ : SPathDigest))), h, Wk.nrmTo [2, 65542, 65545] [(10401, 10200)] rfl rfl⟩
                · replace h := iteF h c18
                  refine Ev.skip ?_
                  refine W.reg hm ?_
                  refine W.mv rfl ?_
                  obtain ⟨x33, k33, h⟩ := obind h
                  refine W.addG rfl rfl k33 ?_
                  refine W.mv rfl ?_
                  refine W.nil ?_
                  exact ⟨(m2, x33), h, Nat.lt_succ_self _, Wk.nrmTo [0, 3, 65542, 65545] [(10300, 10300), (10301, 10301)] rfl rfl⟩
              · replace h := iteF h c14
                refine Ev.exit ?_
                refine Ev.seq ?_
                refine W.reg hm ?_
                refine W.mv rfl ?_
                refine W.mv rfl ?_
                refine W.nil ?_
                refine Ev.weak ?_ (Wk.frz 10300 0 rfl rfl)
                refine Ev.ret ?_
                exact ⟨((sortPath w3), (sortPath w3)), h, Wk.nrmTo [2, 65542, 65545] [(10301, 10200)] rfl rfl⟩
        · intro ⟨x4, x5⟩ h
          try dsimp only at h ⊢
          unfold bom_Merge_j2 at h
          refine ⟨_, rfl, ?_⟩
          refine Sq.wEnd (Nat.le_of_ble_eq_true rfl) ?_
          refine W.mv rfl ?_
          refine W.nil ?_
          refine Ev.seq ?_
          refine Ev.seq ?_
          refine W.reg hm ?_
          refine W.mv rfl ?_
          refine W.lenL (c := SPathDigest.cells) rfl ?_
          refine W.mv rfl ?_
          refine W.nil ?_
          refine Ev.block ?_
          refine Ev.loopW (β := Nat × Int) (fun v => ⟨[(6, .pown 10300 0 0 0), (9, .list 2 (List.map SPathDigest.cells x4)), (34, .int .i64 (x4.length : Int)), (35, .int .i64 v.2)], [(10300, ⟨0, 25, 2, [[.int .i64 0, .int .i64 0]], true, false, false⟩)], 2⟩) (fun v => bom_Merge_l1 n x4 v.1 v.2 = some r) (fun v => v.1) (n, 0) (Wk.nrmTo [6, 9, 34, 35] [(10200, 10300)] rfl rfl) h ?_
          intro ⟨m1, x6⟩ h
          try dsimp only at h ⊢
          cases m1 with
          | zero => rw [bom_Merge_l1] at h; cases h
          | succ m1 =>
            rw [bom_Merge_l1] at h
            refine Ev.seq ?_
            refine W.reg hm ?_
            refine W.lss rfl rfl ?_
            refine W.nil ?_
            refine Ev.seq ?_
            refine Ev.cond rfl (fun c5 => ?_) (fun c5 => ?_)
            · replace h := iteT h c5
              refine Ev.skip ?_
              refine Ev.seq ?_
              refine Ev.block ?_
              refine Ev.seq ?_
              refine W.reg hm ?_
              refine W.mv rfl ?_
              refine W.mv rfl ?_
              refine W.nil ?_
              refine Ev.seqJ (γ := Bool) (fun v => ⟨[(6, .pown 10400 0 0 0), (9, .list 2 (List.map SPathDigest.cells x4)), (34, .int .i64 (x4.length : Int)), (35, .int .i64 x6), (53, .bool v)], [(10400, ⟨0, 25, 2, [[.int .i64 0, .int .i64 0]], true, false, false⟩)], 2⟩) (fun v => bom_Merge_j3 n x6 (bom_Merge_l1 n x4 m1) v = some r) ?_ ?_
              · refine W.regD hm ?_
                refine W.mv rfl ?_
                refine W.gtr rfl rfl ?_
                refine W.mv rfl ?_
                refine W.split 40 rfl (fun c8 => ?_) (fun c8 => ?_)
                · replace h := iteT h c8
                  refine W.guardT rfl c8 ?_
                  refine W.mv rfl ?_
                  refine W.guardT rfl c8 ?_
                  refine W.mv rfl ?_
                  refine W.guardT rfl c8 ?_
                  obtain ⟨e9, k9, h⟩ := obind h
                  refine W.idxL (c := SPathDigest.cells) rfl rfl k9 ?_
                  refine W.guardT rfl c8 ?_
                  refine W.fieldAddr rfl ?_
                  refine W.guardT rfl c8 ?_
                  refine W.load rfl rfl ?_
                  refine W.guardT rfl c8 ?_
                  refine W.mv rfl ?_
                  refine W.guardT rfl c8 ?_
                  refine W.mv rfl ?_
                  refine W.guardT rfl c8 ?_
                  obtain ⟨x10, k10, h⟩ := obind h
                  refine W.subG rfl rfl k10 ?_
                  refine W.guardT rfl c8 ?_
                  obtain ⟨e11, k11, h⟩ := obind h
                  refine W.idxL (c := SPathDigest.cells) rfl rfl k11 ?_
                  refine W.guardT rfl c8 ?_
                  refine W.fieldAddr rfl ?_
                  refine W.guardT rfl c8 ?_
                  refine W.load rfl rfl ?_
                  refine W.guardT rfl c8 ?_
                  refine W.seql rfl rfl ?_
                  refine W.pickT rfl rfl rfl c8 ?_
                  refine W.nil ⟨rfl, ?_⟩
                  exact ⟨(decide (e9.Path = e11.Path)), h, Wk.nrmTo [6, 9, 34, 35, 53] [(10300, 10400)] rfl rfl⟩
                · replace h := iteF h c8
                  refine W.guardF1 rfl c8 ?_
                  refine W.guardF1 rfl c8 ?_
                  refine W.guardF1 rfl c8 ?_
                  refine W.guardF1 rfl c8 ?_
                  refine W.guardF1 rfl c8 ?_
                  refine W.guardF1 rfl c8 ?_
                  refine W.guardF1 rfl c8 ?_
                  refine W.guardF1 rfl c8 ?_
                  refine W.guardF1 rfl c8 ?_
                  refine W.guardF1 rfl c8 ?_
                  refine W.guardF1 rfl c8 ?_
                  refine W.guardF1 rfl c8 ?_
                  refine W.pickN rfl rfl rfl c8 ?_
                  refine W.nil ⟨rfl, ?_⟩
                  exact ⟨false, h, Wk.nrmTo [6, 9, 34, 35, 53] [(10300, 10400)] rfl rfl⟩
              · intro x7 h
                try dsimp only at h ⊢
                unfold bom_Merge_j3 at h
                refine Ev.cond rfl (fun c6 => ?_) (fun c6 => ?_)
                · replace h := iteT h c6
                  refine Ev.seq ?_
                  refine W.reg hm ?_
                  refine W.build (cs := [.int .i64 0, .int .i64 0]) rfl rfl rfl ?_
                  refine W.mv rfl ?_
                  refine W.mv rfl ?_
                  refine W.store (es' := [[.int .i64 0, .int .i64 0]]) (dt := true) rfl rfl rfl rfl rfl (Nat.le_of_ble_eq_true rfl) rfl rfl rfl rfl ?_
                  refine W.nil ?_
                  refine Ev.ret ?_
                  injection h with h; subst h
                  exact ⟨_, rfl, Le.tups (.cons (.nils 2) (.cons (.refl _) (.cons (.refl _) (.nil))))⟩
                · replace h := iteF h c6
                  refine Ev.skip ?_
                  refine W.reg hm ?_
                  obtain ⟨x8, k7, h⟩ := obind h
                  refine W.addG rfl rfl k7 ?_
                  refine W.mv rfl ?_
                  refine W.nil ?_
                  exact ⟨(m1, x8), h, Nat.lt_succ_self _, Wk.nrmTo [6, 9, 34, 35] [(10400, 10300)] rfl rfl⟩
            · replace h := iteF h c5
              refine Ev.exit ?_
              refine Ev.seq ?_
              refine Ev.seq ?_
              refine W.reg hm ?_
              refine W.mv rfl ?_
              refine W.lenL (c := SPathDigest.cells) rfl ?_
              refine W.gtr rfl rfl ?_
              refine W.nil ?_
              refine Ev.cond rfl (fun c12 => ?_) (fun c12 => ?_)
              · replace h := iteT h c12
                refine Ev.seq ?_
                refine W.reg hm ?_
                refine W.build (cs := [.int .i64 10, .int .i64 (-3)]) rfl rfl rfl ?_
                refine W.mv rfl ?_
                refine W.mv rfl ?_
                refine W.store (es' := [[.int .i64 10, .int .i64 (-3)]]) (dt := true) rfl rfl rfl rfl rfl (Nat.le_of_ble_eq_true rfl) rfl rfl rfl rfl ?_
                refine W.nil ?_
                refine Ev.ret ?_
                injection h with h; subst h
                exact ⟨_, rfl, Le.tups (.cons (.nils 2) (.cons (.refl _) (.cons (.refl _) (.nil))))⟩
              · replace h := iteF h c12
                refine Ev.skip ?_
                refine Ev.seq ?_
                refine W.reg hm ?_
                refine W.mv rfl ?_
                refine W.build (cs := [.int .i64 0, .int .i64 0]) rfl rfl rfl ?_
                refine W.mv rfl ?_
                refine W.mv rfl ?_
                refine W.store (es' := [[.int .i64 0, .int .i64 0]]) (dt := true) rfl rfl rfl rfl rfl (Nat.le_of_ble_eq_true rfl) rfl rfl rfl rfl ?_
                refine W.nil ?_
                refine Ev.ret ?_
                injection h with h; subst h
                exact ⟨_, rfl, .refl _⟩
theorem law6_files_spec (n : Nat) (r : SFiles) (h : law6_files n = some r) : PSpec Tryd.prog 51 [] (.agg (SFiles.cells r)) := by
  unfold law6_files at h
  refine spec_of Tryd.c_law6_files (by simp) ?_
  unfold Tryd.l_law6_files
  refine Ev.seq ?_
  refine W.reg hm ?_
  refine W.alloc (dt := true) rfl rfl rfl ?_
  refine W.nil ?_
  refine Ev.seq ?_
  refine W.reg hm ?_
  refine W.mkSlice (dt := true) (es := [[.str ([120] : List UInt8)], [.str ([121] : List UInt8)]]) rfl rfl rfl rfl rfl rfl ?_
  refine W.build (cs := [.str ([97] : List UInt8), .own 1 2]) rfl rfl rfl ?_
  refine W.mkSlice (dt := false) (es := [[.str ([97] : List UInt8), .own 1 2]]) rfl rfl rfl rfl rfl rfl ?_
  refine W.build (cs := [.own 3 2]) rfl rfl rfl ?_
  refine W.store (es' := [[.own 3 2]]) (dt := false) rfl rfl rfl rfl rfl (Nat.le_of_ble_eq_true rfl) rfl rfl rfl rfl ?_
  refine W.nil ?_
  refine Ev.weak ?_ (Wk.frz 1 2 rfl rfl)
  refine Ev.weak ?_ (Wk.frz 3 2 rfl rfl)
  refine Ev.ret ?_
  injection h with h; subst h
  exact ⟨_, rfl, .refl _⟩
set_option maxHeartbeats 4000000 in
theorem law6_bills_spec (n : Nat) (r : Bool) (h : law6_bills n = some r) : PSpec Tryd.prog 35 [] (.bool r) := by
  unfold law6_bills at h
  refine spec_of Tryd.c_law6_bills (by simp) ?_
  unfold Tryd.l_law6_bills
  refine Ev.seq ?_
  refine W.reg hm ?_
  refine W.mv rfl ?_
  refine W.nil ?_
  refine Ev.seq ?_
  refine Ev.regS rfl ?_
  refine Sq.w 2 (Nat.le_of_ble_eq_true rfl) ?_
  refine W.mkSlice (dt := true) (es := [[.str ([97] : List UInt8)], [.str ([98] : List UInt8)]]) rfl rfl rfl rfl rfl rfl ?_
  obtain ⟨r1, k1, h⟩ := obind h
  refine W.call (law6_files_spec n r1 k1) rfl rfl (Les.refl _) rfl (.inl rfl) rfl ?_
  refine W.nil ?_
  refine Sq.weak (st' := ⟨[(12, .list 1 (List.map cS ([([97] : List UInt8), ([98] : List UInt8)] : List (List UInt8)))), (13, .agg [.list 2 (List.map SPathLines.cells r1.Files)])], [], 2⟩) ?_ ((Wk.frz 12 2 rfl rfl).trans (Wk.nrmTo [12, 13] [] rfl rfl))
  refine Sq.wEnd (Nat.le_of_ble_eq_true rfl) ?_
  obtain ⟨r2, k2, h⟩ := obind h
  refine W.call (bom_Make_spec n ([([97] : List UInt8), ([98] : List UInt8)] : List (List UInt8)) r1 r2 k2) rfl rfl (Les.refl _) rfl (.inl rfl) rfl ?_
  refine W.mv rfl ?_
  refine W.extract rfl rfl ?_
  refine W.extract rfl rfl ?_
  refine W.alloc (dt := true) rfl rfl rfl ?_
  refine W.mv rfl ?_
  refine W.store (es' := [[.int .i64 r2.2.Code, .int .i64 r2.2.Index]]) (dt := true) rfl rfl rfl rfl rfl (Nat.le_of_ble_eq_true rfl) rfl rfl rfl rfl ?_
  refine W.nil ?_
  refine Ev.seq ?_
  refine W.reg hm ?_
  refine W.mv rfl ?_
  obtain ⟨r3, k3, h⟩ := obind h
  refine W.call (law6_files_spec n r3 k3) rfl rfl (Les.refl _) rfl (.inl rfl) rfl ?_
  obtain ⟨r4, k4, h⟩ := obind h
  refine W.call (bom_Check_spec n r2.1 r3 r4 k4) rfl rfl (Les.refl _) rfl (.inl rfl) rfl ?_
  refine W.mv rfl ?_
  refine W.extract rfl rfl ?_
  refine W.extract rfl rfl ?_
  refine W.alloc (dt := true) rfl rfl rfl ?_
  refine W.mv rfl ?_
  refine W.store (es' := [[.int .i64 r4.2.Code, .int .i64 r4.2.Index]]) (dt := true) rfl rfl rfl rfl rfl (Nat.le_of_ble_eq_true rfl) rfl rfl rfl rfl ?_
  refine W.nil ?_
  refine Ev.seq ?_
  refine W.reg hm ?_
  refine W.mv rfl ?_
  refine W.build (cs := [.nils]) rfl rfl rfl ?_
  obtain ⟨r5, k5, h⟩ := obind h
  refine W.call (bom_Check_spec n r2.1 (⟨([] : List SPathLines)⟩ : SFiles) r5 k5) rfl rfl (.cons (.refl _) (.cons (Le.aggs (.cons (.nils 2) (.nil)) rfl) (.nil))) rfl (.inl rfl) rfl ?_
  refine W.mv rfl ?_
  refine W.extract rfl rfl ?_
  refine W.extract rfl rfl ?_
  refine W.alloc (dt := true) rfl rfl rfl ?_
  refine W.mv rfl ?_
  refine W.store (es' := [[.int .i64 r5.2.Code, .int .i64 r5.2.Index]]) (dt := true) rfl rfl rfl rfl rfl (Nat.le_of_ble_eq_true rfl) rfl rfl rfl rfl ?_
  refine W.nil ?_
  refine Ev.seq ?_
  refine W.reg hm ?_
  refine W.mv rfl ?_
  refine W.mv rfl ?_
  obtain ⟨r6, k6, h⟩ := obind h
  refine W.call (bom_Merge_spec n r2.1 r2.1 r6 k6) rfl rfl (Les.refl _) rfl (.inl rfl) rfl ?_
  refine W.mv rfl ?_
  refine W.extract rfl rfl ?_
  refine W.extract rfl rfl ?_
  refine W.extract rfl rfl ?_
  refine W.alloc (dt := true) rfl rfl rfl ?_
  refine W.mv rfl ?_
  refine W.mv rfl ?_
  refine W.store (es' := [[.int .i64 r6.2.2.Code, .int .i64 r6.2.2.Index]]) (dt := true) rfl rfl rfl rfl rfl (Nat.le_of_ble_eq_true rfl) rfl rfl rfl rfl ?_
  refine W.nil ?_
  refine Ev.seqJ (γ := Bool) (fun v => ⟨[(1, .list 2 (List.map SPathDigest.cells r2.1)), (3, .list 1 (List.map cI r4.1)), (5, .list 1 (List.map cI r5.1)), (7, .list 2 (List.map SPathDigest.cells r6.1)), (10, .bool v)], [], 2⟩) (fun v => law6_bills_j1 n r2 r4 r5 r6 v = some r) ?_ ?_
  · refine W.reg hm ?_
    refine W.fieldAddrO rfl rfl ?_
    refine W.loadO (p := .int .i64 r2.2.Code) rfl rfl rfl rfl ?_
    refine W.eql rfl rfl ?_
    refine W.mv rfl ?_
    refine W.split 39 rfl (fun c20 => ?_) (fun c20 => ?_)
    · replace h := iteT h c20
      refine W.guardT rfl c20 ?_
      refine W.fieldAddrO rfl rfl ?_
      refine W.guardT rfl c20 ?_
      refine W.loadO (p := .int .i64 r4.2.Code) rfl rfl rfl rfl ?_
      refine W.guardT rfl c20 ?_
      refine W.eql rfl rfl ?_
      refine W.pickT rfl rfl rfl c20 ?_
      refine W.mv rfl ?_
      refine W.split 44 rfl (fun c21 => ?_) (fun c21 => ?_)
      · replace h := iteT h c21
        refine W.guardT rfl c21 ?_
        refine W.fieldAddrO rfl rfl ?_
        refine W.guardT rfl c21 ?_
        refine W.loadO (p := .int .i64 r5.2.Code) rfl rfl rfl rfl ?_
        refine W.guardT rfl c21 ?_
        refine W.eql rfl rfl ?_
        refine W.pickT rfl rfl rfl c21 ?_
        refine W.mv rfl ?_
        refine W.split 49 rfl (fun c22 => ?_) (fun c22 => ?_)
        · replace h := iteT h c22
          refine W.guardT rfl c22 ?_
          refine W.fieldAddrO rfl rfl ?_
          refine W.guardT rfl c22 ?_
          refine W.loadO (p := .int .i64 r6.2.2.Code) rfl rfl rfl rfl ?_
          refine W.guardT rfl c22 ?_
          refine W.eql rfl rfl ?_
          refine W.pickT rfl rfl rfl c22 ?_
          refine W.mv rfl ?_
          refine W.split 54 rfl (fun c23 => ?_) (fun c23 => ?_)
          · replace h := iteT h c23
            refine W.guardT rfl c23 ?_
            refine W.mv rfl ?_
            refine W.pickT rfl rfl rfl c23 ?_
            refine W.mv rfl ?_
            refine W.nil ?_
            exact ⟨r6.2.1, h, Wk.nrmTo [1, 3, 5, 7, 10] [] rfl rfl⟩
          · replace h := iteF h c23
            refine W.guardF1 rfl c23 ?_
            refine W.pickN rfl rfl rfl c23 ?_
            refine W.mv rfl ?_
            refine W.nil ?_
            exact ⟨false, h, Wk.nrmTo [1, 3, 5, 7, 10] [] rfl rfl⟩
        · replace h := iteF h c22
          refine W.guardF1 rfl c22 ?_
          refine W.guardF1 rfl c22 ?_
          refine W.guardF1 rfl c22 ?_
          refine W.pickN rfl rfl rfl c22 ?_
          refine W.mv rfl ?_
          refine W.guardF1 rfl rfl ?_
          refine W.pickN rfl rfl rfl rfl ?_
          refine W.mv rfl ?_
          refine W.nil ?_
          exact ⟨false, h, Wk.nrmTo [1, 3, 5, 7, 10] [] rfl rfl⟩
      · replace h := iteF h c21
        refine W.guardF1 rfl c21 ?_
        refine W.guardF1 rfl c21 ?_
        refine W.guardF1 rfl c21 ?_
        refine W.pickN rfl rfl rfl c21 ?_
        refine W.mv rfl ?_
        refine W.guardF1 rfl rfl ?_
        refine W.guardF1 rfl rfl ?_
        refine W.guardF1 rfl rfl ?_
        refine W.pickN rfl rfl rfl rfl ?_
        refine W.mv rfl ?_
        refine W.guardF1 rfl rfl ?_
        refine W.pickN rfl rfl rfl rfl ?_
        refine W.mv rfl ?_
        refine W.nil ?_
        exact ⟨false, h, Wk.nrmTo [1, 3, 5, 7, 10] [] rfl rfl⟩
    · replace h := iteF h c20
      refine W.guardF1 rfl c20 ?_
      refine W.guardF1 rfl c20 ?_
      refine W.guardF1 rfl c20 ?_
      refine W.pickN rfl rfl rfl c20 ?_
      refine W.mv rfl ?_
      refine W.guardF1 rfl rfl ?_
      refine W.guardF1 rfl rfl ?_
      refine W.guardF1 rfl rfl ?_
      refine W.pickN rfl rfl rfl rfl ?_
      refine W.mv rfl ?_
      refine W.guardF1 rfl rfl ?_
      refine W.guardF1 rfl rfl ?_
      refine W.guardF1 rfl rfl ?_
      refine W.pickN rfl rfl rfl rfl ?_
      refine W.mv rfl ?_
      refine W.guardF1 rfl rfl ?_
      refine W.pickN rfl rfl rfl rfl ?_
      refine W.mv rfl ?_
      refine W.nil ?_
      exact ⟨false, h, Wk.nrmTo [1, 3, 5, 7, 10] [] rfl rfl⟩
  · intro x7 h
    try dsimp only at h ⊢
    unfold law6_bills_j1 at h
    refine Ev.seqJ (γ := Bool) (fun v => ⟨[(0, .bool v)], [], 2⟩) (fun v => law6_bills_j2 n v = some r) ?_ ?_
    · refine W.regD hm ?_
      refine W.mv rfl ?_
      refine W.mv rfl ?_
      refine W.split 58 rfl (fun c7 => ?_) (fun c7 => ?_)
      · replace h := iteT h c7
        refine W.guardT rfl c7 ?_
        refine W.mv rfl ?_
        refine W.guardT rfl c7 ?_
        refine W.lenL (c := SPathDigest.cells) rfl ?_
        refine W.guardT rfl c7 ?_
        refine W.eql rfl rfl ?_
        refine W.pickT rfl rfl rfl c7 ?_
        refine W.mv rfl ?_
        refine W.split 63 rfl (fun c8 => ?_) (fun c8 => ?_)
        · replace h := iteT h c8
          refine W.guardT rfl c8 ?_
          refine W.mv rfl ?_
          refine W.guardT rfl c8 ?_
          obtain ⟨e9, k9, h⟩ := obind h
          refine W.idxL (c := SPathDigest.cells) rfl rfl k9 ?_
          refine W.guardT rfl c8 ?_
          refine W.load rfl rfl ?_
          refine W.guardT rfl c8 ?_
          refine W.mv rfl ?_
          refine W.guardT rfl c8 ?_
          obtain ⟨e10, k10, h⟩ := obind h
          refine W.idxL (c := SPathDigest.cells) rfl rfl k10 ?_
          refine W.guardT rfl c8 ?_
          refine W.load rfl rfl ?_
          refine W.guardT rfl c8 ?_
          refine W.eqs rfl rfl rfl ?_
          refine W.pickT rfl rfl rfl c8 ?_
          refine W.mv rfl ?_
          refine W.split 72 rfl (fun c11 => ?_) (fun c11 => ?_)
          · replace h := iteT h c11
            refine W.guardT rfl c11 ?_
            refine W.mv rfl ?_
            refine W.guardT rfl c11 ?_
            refine W.idxL (c := SPathDigest.cells) rfl rfl k10 ?_
            refine W.guardT rfl c11 ?_
            refine W.fieldAddr rfl ?_
            refine W.guardT rfl c11 ?_
            refine W.load rfl rfl ?_
            refine W.guardT rfl c11 ?_
            refine W.eql rfl rfl ?_
            refine W.pickT rfl rfl rfl c11 ?_
            refine W.mv rfl ?_
            refine W.split 79 rfl (fun c12 => ?_) (fun c12 => ?_)
            · replace h := iteT h c12
              refine W.guardT rfl c12 ?_
              refine W.mv rfl ?_
              refine W.guardT rfl c12 ?_
              refine W.lenL (c := cI) rfl ?_
              refine W.guardT rfl c12 ?_
              refine W.eql rfl rfl ?_
              refine W.pickT rfl rfl rfl c12 ?_
              refine W.mv rfl ?_
              refine W.split 84 rfl (fun c13 => ?_) (fun c13 => ?_)
              · replace h := iteT h c13
                refine W.guardT rfl c13 ?_
                refine W.mv rfl ?_
                refine W.guardT rfl c13 ?_
                refine W.mkSlice (dt := true) (es := [[.int .i64 0]]) rfl rfl rfl rfl rfl rfl ?_
                refine W.guardT rfl c13 ?_
                obtain ⟨r11, k14, h⟩ := obind h
                refine W.call (ref5_Ints_spec n r5.1 ([0] : List Int) r11 k14) rfl rfl (Les.refl _) rfl (.inr rfl) rfl ?_
                refine W.pickT rfl rfl rfl c13 ?_
                refine W.mv rfl ?_
                refine W.split 89 rfl (fun c15 => ?_) (fun c15 => ?_)
                · replace h := iteT h c15
                  refine W.guardT rfl c15 ?_
                  refine W.mv rfl ?_
                  refine W.guardT rfl c15 ?_
                  refine W.mv rfl ?_
                  refine W.guardT rfl c15 ?_
                  obtain ⟨r12, k16, h⟩ := obind h
                  refine W.call (ref6_SameBom_spec n r6.1 r2.1 r12 k16) rfl rfl (Les.refl _) rfl (.inl rfl) rfl ?_
                  refine W.pickT rfl rfl rfl c15 ?_
                  refine W.mv rfl ?_
                  refine W.split 94 rfl (fun c17 => ?_) (fun c17 => ?_)
                  · replace h := iteT h c17
                    refine W.guardT rfl c17 ?_
                    refine W.build (cs := [.str ([97] : List UInt8), .int .i64 (-2)]) rfl rfl rfl ?_
                    refine W.guardT rfl c17 ?_
                    refine W.mkSlice (dt := true) (es := [[.str ([97] : List UInt8), .int .i64 (-2)]]) rfl rfl rfl rfl rfl rfl ?_
                    refine W.guardT rfl c17 ?_
                    obtain ⟨r13, k18, h⟩ := obind h
                    refine W.call (bom_Validate_spec n ([(⟨([97] : List UInt8), (-2)⟩ : SPathDigest)] : List SPathDigest) r13 k18) rfl rfl (Les.refl _) rfl (.inr rfl) rfl ?_
                    refine W.guardT rfl c17 ?_
                    obtain ⟨r14, k19, h⟩ := obind h
                    refine W.call (law6_fault_spec n 3 0 r14 k19) rfl rfl (Les.refl _) rfl (.inl rfl) rfl ?_
                    refine W.guardT rfl c17 ?_
                    refine W.eqs rfl rfl rfl ?_
                    refine W.pickT rfl rfl rfl c17 ?_
                    refine W.mv rfl ?_
                    refine W.nil ⟨rfl, ?_⟩
                    exact ⟨((r13.Code == r14.Code && (r13.Index == r14.Index && true)) != false), h, Wk.nrmTo [0] [] rfl rfl⟩
                  · replace h := iteF h c17
                    refine W.guardF1 rfl c17 ?_
                    refine W.guardF1 rfl c17 ?_
                    refine W.guardF1 rfl c17 ?_
                    refine W.guardF1 rfl c17 ?_
                    refine W.guardF1 rfl c17 ?_
                    refine W.pickN rfl rfl rfl c17 ?_
                    refine W.mv rfl ?_
                    refine W.nil ⟨rfl, ?_⟩
                    exact ⟨false, h, Wk.nrmTo [0] [] rfl rfl⟩
                · replace h := iteF h c15
                  refine W.guardF1 rfl c15 ?_
                  refine W.guardF1 rfl c15 ?_
                  refine W.guardF1 rfl c15 ?_
                  refine W.pickN rfl rfl rfl c15 ?_
                  refine W.mv rfl ?_
                  refine W.guardF1 rfl rfl ?_
                  refine W.guardF1 rfl rfl ?_
                  refine W.guardF1 rfl rfl ?_
                  refine W.guardF1 rfl rfl ?_
                  refine W.guardF1 rfl rfl ?_
                  refine W.pickN rfl rfl rfl rfl ?_
                  refine W.mv rfl ?_
                  refine W.nil ⟨rfl, ?_⟩
                  exact ⟨false, h, Wk.nrmTo [0] [] rfl rfl⟩
              · replace h := iteF h c13
                refine W.guardF1 rfl c13 ?_
                refine W.guardF1 rfl c13 ?_
                refine W.guardF1 rfl c13 ?_
                refine W.pickN rfl rfl rfl c13 ?_
                refine W.mv rfl ?_
                refine W.guardF1 rfl rfl ?_
                refine W.guardF1 rfl rfl ?_
                refine W.guardF1 rfl rfl ?_
                refine W.pickN rfl rfl rfl rfl ?_
                refine W.mv rfl ?_
                refine W.guardF1 rfl rfl ?_
                refine W.guardF1 rfl rfl ?_
                refine W.guardF1 rfl rfl ?_
                refine W.guardF1 rfl rfl ?_
                refine W.guardF1 rfl rfl ?_
                refine W.pickN rfl rfl rfl rfl ?_
                refine W.mv rfl ?_
                refine W.nil ⟨rfl, ?_⟩
                exact ⟨false, h, Wk.nrmTo [0] [] rfl rfl⟩
            · replace h := iteF h c12
              refine W.guardF1 rfl c12 ?_
              refine W.guardF1 rfl c12 ?_
              refine W.guardF1 rfl c12 ?_
              refine W.pickN rfl rfl rfl c12 ?_
              refine W.mv rfl ?_
              refine W.guardF1 rfl rfl ?_
              refine W.guardF1 rfl rfl ?_
              refine W.guardF1 rfl rfl ?_
              refine W.pickN rfl rfl rfl rfl ?_
              refine W.mv rfl ?_
              refine W.guardF1 rfl rfl ?_
              refine W.guardF1 rfl rfl ?_
              refine W.guardF1 rfl rfl ?_
              refine W.pickN rfl rfl rfl rfl ?_
              refine W.mv rfl ?_
              refine W.guardF1 rfl rfl ?_
              refine W.guardF1 rfl rfl ?_
              refine W.guardF1 rfl rfl ?_
              refine W.guardF1 rfl rfl ?_
              refine W.guardF1 rfl rfl ?_
              refine W.pickN rfl rfl rfl rfl ?_
              refine W.mv rfl ?_
              refine W.nil ⟨rfl, ?_⟩
              exact ⟨false, h, Wk.nrmTo [0] [] rfl rfl⟩
          · replace h := iteF h c11
            refine W.guardF1 rfl c11 ?_
            refine W.guardF1 rfl c11 ?_
            refine W.guardF1 rfl c11 ?_
            refine W.guardF1 rfl c11 ?_
            refine W.guardF1 rfl c11 ?_
            refine W.pickN rfl rfl rfl c11 ?_
            refine W.mv rfl ?_
            refine W.guardF1 rfl rfl ?_
            refine W.guardF1 rfl rfl ?_
            refine W.guardF1 rfl rfl ?_
            refine W.pickN rfl rfl rfl rfl ?_
            refine W.mv rfl ?_
            refine W.guardF1 rfl rfl ?_
            refine W.guardF1 rfl rfl ?_
            refine W.guardF1 rfl rfl ?_
            refine W.pickN rfl rfl rfl rfl ?_
            refine W.mv rfl ?_
            refine W.guardF1 rfl rfl ?_
            refine W.guardF1 rfl rfl ?_
            refine W.guardF1 rfl rfl ?_
            refine W.pickN rfl rfl rfl rfl ?_
            refine W.mv rfl ?_
            refine W.guardF1 rfl rfl ?_
            refine W.guardF1 rfl rfl ?_
            refine W.guardF1 rfl rfl ?_
            refine W.guardF1 rfl rfl ?_
            refine W.guardF1 rfl rfl ?_
            refine W.pickN rfl rfl rfl rfl ?_
            refine W.mv rfl ?_
            refine W.nil ⟨rfl, ?_⟩
            exact ⟨false, h, Wk.nrmTo [0] [] rfl rfl⟩
        · replace h := iteF h c8
          refine W.guardF1 rfl c8 ?_
          refine W.guardF1 rfl c8 ?_
          refine W.guardF1 rfl c8 ?_
          refine W.guardF1 rfl c8 ?_
          refine W.guardF1 rfl c8 ?_
          refine W.guardF1 rfl c8 ?_
          refine W.guardF1 rfl c8 ?_
          refine W.pickN rfl rfl rfl c8 ?_
          refine W.mv rfl ?_
          refine W.guardF1 rfl rfl ?_
          refine W.guardF1 rfl rfl ?_
          refine W.guardF1 rfl rfl ?_
          refine W.guardF1 rfl rfl ?_
          refine W.guardF1 rfl rfl ?_
          refine W.pickN rfl rfl rfl rfl ?_
          refine W.mv rfl ?_
          refine W.guardF1 rfl rfl ?_
          refine W.guardF1 rfl rfl ?_
          refine W.guardF1 rfl rfl ?_
          refine W.pickN rfl rfl rfl rfl ?_
          refine W.mv rfl ?_
          refine W.guardF1 rfl rfl ?_
          refine W.guardF1 rfl rfl ?_
          refine W.guardF1 rfl rfl ?_
          refine W.pickN rfl rfl rfl rfl ?_
          refine W.mv rfl ?_
          refine W.guardF1 rfl rfl ?_
          refine W.guardF1 rfl rfl ?_
          refine W.guardF1 rfl rfl ?_
          refine W.pickN rfl rfl rfl rfl ?_
          refine W.mv rfl ?_
          refine W.guardF1 rfl rfl ?_
          refine W.guardF1 rfl rfl ?_
          refine W.guardF1 rfl rfl ?_
          refine W.guardF1 rfl rfl ?_
          refine W.guardF1 rfl rfl ?_
          refine W.pickN rfl rfl rfl rfl ?_
          refine W.mv rfl ?_
          refine W.nil ⟨rfl, ?_⟩
          exact ⟨false, h, Wk.nrmTo [0] [] rfl rfl⟩
      · replace h := iteF h c7
        refine W.guardF1 rfl c7 ?_
        refine W.guardF1 rfl c7 ?_
        refine W.guardF1 rfl c7 ?_
        refine W.pickN rfl rfl rfl c7 ?_
        refine W.mv rfl ?_
        refine W.guardF1 rfl rfl ?_
        refine W.guardF1 rfl rfl ?_
        refine W.guardF1 rfl rfl ?_
        refine W.guardF1 rfl rfl ?_
        refine W.guardF1 rfl rfl ?_
        refine W.guardF1 rfl rfl ?_
        refine W.guardF1 rfl rfl ?_
        refine W.pickN rfl rfl rfl rfl ?_
        refine W.mv rfl ?_
        refine W.guardF1 rfl rfl ?_
        refine W.guardF1 rfl rfl ?_
        refine W.guardF1 rfl rfl ?_
        refine W.guardF1 rfl rfl ?_
        refine W.guardF1 rfl rfl ?_
        refine W.pickN rfl rfl rfl rfl ?_
        refine W.mv rfl ?_
        refine W.guardF1 rfl rfl ?_
        refine W.guardF1 rfl rfl ?_
        refine W.guardF1 rfl rfl ?_
        refine W.pickN rfl rfl rfl rfl ?_
        refine W.mv rfl ?_
        refine W.guardF1 rfl rfl ?_
        refine W.guardF1 rfl rfl ?_
        refine W.guardF1 rfl rfl ?_
        refine W.pickN rfl rfl rfl rfl ?_
        refine W.mv rfl ?_
        refine W.guardF1 rfl rfl ?_
        refine W.guardF1 rfl rfl ?_
        refine W.guardF1 rfl rfl ?_
        refine W.pickN rfl rfl rfl rfl ?_
        refine W.mv rfl ?_
        refine W.guardF1 rfl rfl ?_
        refine W.guardF1 rfl rfl ?_
        refine W.guardF1 rfl rfl ?_
        refine W.guardF1 rfl rfl ?_
        refine W.guardF1 rfl rfl ?_
        refine W.pickN rfl rfl rfl rfl ?_
        refine W.mv rfl ?_
        refine W.nil ⟨rfl, ?_⟩
        exact ⟨false, h, Wk.nrmTo [0] [] rfl rfl⟩
    · intro x8 h
      try dsimp only at h ⊢
      unfold law6_bills_j2 at h
      refine Ev.ret ?_
      injection h with h; subst h
      exact ⟨_, rfl, .refl _⟩
theorem ref1_At_spec (n : Nat) (a0 : Int) (a1 : Int) (r : SCodeIndex) (h : ref1_At n a0 a1 = some r) : PSpec Tryd.prog 93 [.int .i64 a0, .int .i64 a1] (.agg (SCodeIndex.cells r)) := by
  unfold ref1_At at h
  refine spec_of Tryd.c_ref1_At (by simp) ?_
  unfold Tryd.l_ref1_At
  refine Ev.seq ?_
  refine W.reg hm ?_
  refine W.alloc (dt := true) rfl rfl rfl ?_
  refine W.nil ?_
  refine Ev.seq ?_
  refine W.reg hm ?_
  refine W.mv rfl ?_
  refine W.mv rfl ?_
  refine W.build (cs := [.int .i64 a0, .int .i64 a1]) rfl rfl rfl ?_
  refine W.store (es' := [[.int .i64 a0, .int .i64 a1]]) (dt := true) rfl rfl rfl rfl rfl (Nat.le_of_ble_eq_true rfl) rfl rfl rfl rfl ?_
  refine W.nil ?_
  refine Ev.ret ?_
  injection h with h; subst h
  exact ⟨_, rfl, .refl _⟩
end Go.Proofs.YtlkknmhhefjmjaaDoor
