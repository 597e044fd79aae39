/- The functions compute what the texts of D say. Laid by a program (wip/gen/dec.py). -/
import Derived.Test.YtlkknmhhefjmjaaDoorD
import Derived.Test.YtlkknmhhefjmjaaDoorWA
namespace Go.Proofs.YtlkknmhhefjmjaaDoor
open Go.PW Go
theorem digest_Pair_spec (n : Nat) (a0 : Int) (a1 : Int) (r : (Int × SCodeIndex)) (h : digest_Pair n a0 a1 = some r) : PSpec Tryd.prog 102 [.int .i64 a0, .int .i64 a1] (.tup [.int .i64 r.1, .agg (SCodeIndex.cells r.2)]) := by
 unfold digest_Pair at h
 refine spec_of Tryd.c_digest_Pair (by simp) ?_
 unfold Tryd.l_digest_Pair
 refine Ev.seq ?_
 refine W.reg hm ?_
 refine W.mv rfl ?_
 refine W.alloc (dt := true) rfl rfl rfl ?_
 refine W.nil ?_
 refine Ev.seq (Ev.seq ?_)
 refine W.reg hm ?_
 refine W.mv rfl (W.mv rfl ?_)
 refine W.build (cs := [.int .i64 a0, .int .i64 a1]) rfl rfl rfl ?_
 refine W.mv rfl (W.nil ?_)
 refine Ev.block ?_
 refine Ev.loopW (β := Nat × Int) (fun v => ⟨[(0, .int .i64 a0), (1, .int .i64 a1), (5, .pown 10100 0 0 0), (10, .agg [.int .i64 a0, .int .i64 a1]), (11, .int .i64 v.2)], [(10100, ⟨0, 25, 2, [[.int .i64 0, .int .i64 0]], true, false, false⟩)], 2⟩) (fun v => digest_Pair_l1 n a0 a1 v.1 v.2 = some r) (fun v => v.1) (n, 0) (Wk.nrmTo [0, 1, 5, 10, 11] [(5, 10100)] rfl rfl) h ?_
 intro ⟨m1, x1⟩ h
 try dsimp only at h ⊢
 cases m1 with
 | zero => rw [digest_Pair_l1] at h; cases h
 | succ m1 =>
  rw [digest_Pair_l1] at h
  refine Ev.seq ?_
  refine W.reg hm ?_
  refine W.lss rfl rfl (W.nil ?_)
  refine Ev.seq ?_
  refine Ev.cond rfl (fun c1 => ?_) (fun c1 => ?_)
  ·replace h := iteT h c1
   refine Ev.skip ?_
   refine Ev.seq ?_
   refine Ev.block ?_
   refine Ev.seq ?_
   refine W.reg hm ?_
   refine W.mv rfl ?_
   obtain ⟨i2, k2, h⟩ := obind h
   refine W.vidxG (p := .int .i64 (if i2 = 0 then a0 else a1)) rfl rfl k2 (by obtain ⟨_, q1, q2⟩ := garr_some k2; rcases (show i2 = 0 ∨ i2 = 1 by omega) with e | e <;> rw [e] <;> rfl) ?_
   refine W.mv rfl (W.mv rfl ?_)
   refine W.nil ?_
   refine Ev.seq ?_
   refine W.reg hm ?_
   refine W.mv rfl ?_
   obtain ⟨r3, k3, h⟩ := obind h
   refine W.call (digest_is_spec n (if i2 = 0 then a0 else a1) r3 k3) rfl rfl (Les.refl _) rfl (.inl rfl) rfl ?_
   refine W.not rfl (W.nil ?_)
   refine Ev.cond rfl (fun c4 => ?_) (fun c4 => ?_)
   ·replace h := iteT h c4
    refine Ev.seq ?_
    refine W.reg hm ?_
    refine W.mv rfl ?_
    refine W.build (cs := [.int .i64 3, .int .i64 x1]) rfl rfl rfl ?_
    refine W.mv rfl ?_
    refine W.store (es' := [[.int .i64 3, .int .i64 x1]]) (dt := true) rfl rfl rfl rfl rfl (Nat.le_of_ble_eq_true rfl) rfl rfl rfl rfl ?_
    refine W.nil ?_
    refine Ev.ret ?_
    injection h with h; subst h
    exact ⟨_, rfl, .refl _⟩
   ·replace h := iteF h c4
    refine Ev.skip ?_
    refine W.reg hm ?_
    obtain ⟨x4, k5, h⟩ := obind h
    refine W.addG rfl rfl k5 ?_
    refine W.mv rfl (W.nil ?_)
    exact ⟨(m1, x4), h, Nat.lt_succ_self _, Wk.nrmTo [0, 1, 5, 10, 11] [(10100, 10100)] rfl rfl⟩
  ·replace h := iteF h c1
   refine Ev.exit ?_
   refine Ev.seq ?_
   refine W.reg hm ?_
   refine W.mv rfl (W.mv rfl ?_)
   obtain ⟨r5, k6, h⟩ := obind h
   refine W.call (digest_pair_spec n a0 a1 r5 k6) rfl rfl (Les.refl _) rfl (.inl rfl) rfl ?_
   refine W.build (cs := [.int .i64 0, .int .i64 0]) rfl rfl rfl ?_
   refine W.mv rfl ?_
   refine W.store (es' := [[.int .i64 0, .int .i64 0]]) (dt := true) rfl rfl rfl rfl rfl (Nat.le_of_ble_eq_true rfl) rfl rfl rfl rfl ?_
   refine W.nil ?_
   refine Ev.ret ?_
   injection h with h; subst h
   exact ⟨_, rfl, .refl _⟩
theorem actioncache_combine_spec (n : Nat) (a0 : Int) (a1 : List Int) (r : Int) (h : actioncache_combine n a0 a1 = some r) : PSpec Tryd.prog 66 [.int .i64 a0, .list 1 (List.map cI a1)] (.int .i64 r) := by
 unfold actioncache_combine at h
 refine spec_of Tryd.c_actioncache_combine (by simp) ?_
 unfold Tryd.l_actioncache_combine
 refine Ev.seq ?_
 refine W.reg hm ?_
 refine W.mv rfl (W.nil ?_)
 refine Ev.seq (Ev.seq ?_)
 refine W.reg hm ?_
 refine W.mv rfl ?_
 refine W.lenL (c := cI) rfl ?_
 refine W.mv rfl (W.nil ?_)
 refine Ev.block ?_
 refine Ev.loopW (β := Nat × Int × Int) (fun v => ⟨[(0, .int .i64 v.2.1), (7, .list 1 (List.map cI a1)), (8, .int .i64 (a1.length : Int)), (9, .int .i64 v.2.2)], [], 2⟩) (fun v => actioncache_combine_l1 n a1 v.1 v.2.1 v.2.2 = some r) (fun v => v.1) (n, a0, 0) (Wk.nrmTo [0, 7, 8, 9] [] rfl rfl) h ?_
 intro ⟨m1, x1, x2⟩ h
 try dsimp only at h ⊢
 cases m1 with
 | zero => rw [actioncache_combine_l1] at h; cases h
 | succ m1 =>
  rw [actioncache_combine_l1] at h
  refine Ev.seq ?_
  refine W.reg hm ?_
  refine W.lss rfl rfl (W.nil ?_)
  refine Ev.seq ?_
  refine Ev.cond rfl (fun c1 => ?_) (fun c1 => ?_)
  ·replace h := iteT h c1
   refine Ev.skip ?_
   refine Ev.seq ?_
   refine Ev.block ?_
   refine Ev.seq ?_
   refine W.reg hm ?_
   obtain ⟨e3, k2, h⟩ := obind h
   refine W.idxL (c := cI) rfl rfl k2 ?_
   refine W.load rfl rfl (W.mv rfl ?_)
   refine W.nil ?_
   refine W.reg hm ?_
   refine W.mv rfl (W.mv rfl ?_)
   obtain ⟨r4, k3, h⟩ := obind h
   refine W.call (digest_Pair_spec n x1 e3 r4 k3) rfl rfl (Les.refl _) rfl (.inl rfl) rfl ?_
   refine W.mv rfl (W.extract rfl rfl ?_)
   refine W.extract rfl rfl (W.mv rfl ?_)
   refine W.nil ?_
   refine W.reg hm ?_
   obtain ⟨x5, k4, h⟩ := obind h
   refine W.addG rfl rfl k4 ?_
   refine W.mv rfl (W.nil ?_)
   exact ⟨(m1, r4.1, x5), h, Nat.lt_succ_self _, Wk.nrmTo [0, 7, 8, 9] [] rfl rfl⟩
  ·replace h := iteF h c1
   refine Ev.exit ?_
   refine Ev.seq ?_
   refine W.reg hm ?_
   refine W.mv rfl (W.mv rfl ?_)
   refine W.nil ?_
   refine Ev.ret ?_
   injection h with h; subst h
   exact ⟨_, rfl, .refl _⟩
set_option maxHeartbeats 4000000 in
theorem actioncache_Key_spec (n : Nat) (a0 : SInputsOpsOutput) (a1 : SFiles) (r : (Int × SCodeIndex)) (h : actioncache_Key n a0 a1 = some r) : PSpec Tryd.prog 28 [.agg (SInputsOpsOutput.cells a0), .agg (SFiles.cells a1)] (.tup [.int .i64 r.1, .agg (SCodeIndex.cells r.2)]) := by
 unfold actioncache_Key at h
 refine spec_of Tryd.c_actioncache_Key (by simp) ?_
 unfold Tryd.l_actioncache_Key
 refine Ev.seq ?_
 refine W.reg hm ?_
 refine W.box (dt := true) (cs := [.list 1 (List.map cS a0.Inputs), .list 2 (List.map SKindText.cells a0.Ops), .str a0.Output]) rfl rfl rfl rfl rfl rfl ?_
 refine W.box (dt := true) (cs := [.list 2 (List.map SPathLines.cells a1.Files)]) rfl rfl rfl rfl rfl rfl ?_
 refine W.mv rfl ?_
 refine W.alloc (dt := true) rfl rfl rfl ?_
 refine W.nil ?_
 refine Ev.seq (Ev.seq ?_)
 refine W.reg hm ?_
 refine W.loadO (p := .agg [.list 1 (List.map cS a0.Inputs), .list 2 (List.map SKindText.cells a0.Ops), .str a0.Output]) rfl rfl rfl rfl ?_
 refine W.loadO (p := .agg [.list 2 (List.map SPathLines.cells a1.Files)]) rfl rfl rfl rfl ?_
 obtain ⟨r1, k1, h⟩ := obind h
 refine W.call (sandbox_Arguments_spec n a0 a1 r1 k1) rfl rfl (Les.refl _) rfl (.inl rfl) rfl ?_
 refine W.alloc (dt := true) rfl rfl rfl ?_
 refine W.store (es' := [[.int .i64 r1.Code, .int .i64 r1.Index]]) (dt := true) rfl rfl rfl rfl rfl (Nat.le_of_ble_eq_true rfl) rfl rfl rfl rfl ?_
 refine W.nil ?_
 refine Ev.seq ?_
 refine W.reg hm ?_
 refine W.loadO (p := .agg [.int .i64 r1.Code, .int .i64 r1.Index]) rfl rfl rfl rfl ?_
 refine W.build (cs := [.int .i64 0, .int .i64 0]) rfl rfl rfl ?_
 refine W.eqs rfl rfl rfl (W.nil ?_)
 refine Ev.cond rfl (fun c2 => ?_) (fun c2 => ?_)
 ·replace h := iteT h c2
  refine Ev.seq ?_
  refine W.regD hm ?_
  refine W.loadO (p := .agg [.int .i64 r1.Code, .int .i64 r1.Index]) rfl rfl rfl rfl ?_
  refine W.mv rfl ?_
  refine W.store (es' := [[.int .i64 r1.Code, .int .i64 r1.Index]]) (dt := true) rfl rfl rfl rfl rfl (Nat.le_of_ble_eq_true rfl) rfl rfl rfl rfl ?_
  refine W.nil ⟨rfl, ?_⟩
  refine Ev.ret ?_
  injection h with h; subst h
  exact ⟨_, rfl, .refl _⟩
 ·replace h := iteF h c2
  refine Ev.skip ?_
  refine Ev.seq ?_
  refine W.reg hm ?_
  refine W.mv rfl (W.nil ?_)
  refine Ev.seq ?_
  refine W.reg hm ?_
  refine W.fieldAddrO rfl rfl ?_
  refine W.loadO (p := .list 1 (List.map cS a0.Inputs)) rfl rfl rfl rfl ?_
  obtain ⟨r2, k3, h⟩ := obind h
  refine W.call (digest_Strings_spec n a0.Inputs r2 k3) rfl rfl (Les.refl _) rfl (.inl rfl) rfl ?_
  refine W.mv rfl (W.extract rfl rfl ?_)
  refine W.extract rfl rfl ?_
  refine W.alloc (dt := true) rfl rfl rfl ?_
  refine W.mv rfl ?_
  refine W.store (es' := [[.int .i64 r2.2.Code, .int .i64 r2.2.Index]]) (dt := true) rfl rfl rfl rfl rfl (Nat.le_of_ble_eq_true rfl) rfl rfl rfl rfl ?_
  refine W.nil ?_
  refine Ev.seq (Ev.seq ?_)
  refine W.reg hm ?_
  refine W.fieldAddrO rfl rfl ?_
  refine W.loadO (p := .list 1 (List.map cS a0.Inputs)) rfl rfl rfl rfl ?_
  refine W.lenL (c := cS) rfl ?_
  refine W.mv rfl (W.nil ?_)
  refine Ev.block ?_
  refine Ev.loopW (β := Nat × Int × Int) (fun v => ⟨[(2, .pown 10100 0 0 0), (3, .pown 10101 0 0 0), (5, .pown 10102 0 0 0), (7, .fn 62 [] []), (8, .int .i64 v.2.1), (31, .list 1 (List.map cS a0.Inputs)), (32, .int .i64 (a0.Inputs.length : Int)), (33, .int .i64 v.2.2)], [(10100, ⟨0, 43, 3, [[.list 1 (List.map cS a0.Inputs), .list 2 (List.map SKindText.cells a0.Ops), .str a0.Output]], true, false, false⟩), (10101, ⟨0, 46, 1, [[.list 2 (List.map SPathLines.cells a1.Files)]], true, false, false⟩), (10102, ⟨0, 25, 2, [[.int .i64 0, .int .i64 0]], true, false, false⟩)], 2⟩) (fun v => actioncache_Key_l1 n a0 a1 v.1 v.2.1 v.2.2 = some r) (fun v => v.1) (n, r2.1, 0) (Wk.nrmTo [2, 3, 5, 7, 8, 31, 32, 33] [(2, 10100), (3, 10101), (5, 10102)] rfl rfl) h ?_
  intro ⟨m1, x3, x4⟩ h
  try dsimp only at h ⊢
  cases m1 with
  | zero => rw [actioncache_Key_l1] at h; cases h
  | succ m1 =>
   rw [actioncache_Key_l1] at h
   refine Ev.seq ?_
   refine W.reg hm ?_
   refine W.lss rfl rfl (W.nil ?_)
   refine Ev.seq ?_
   refine Ev.cond rfl (fun c4 => ?_) (fun c4 => ?_)
   ·replace h := iteT h c4
    refine Ev.skip ?_
    refine Ev.seq ?_
    refine Ev.block ?_
    refine Ev.seq ?_
    refine W.reg hm ?_
    obtain ⟨e5, k5, h⟩ := obind h
    refine W.idxL (c := cS) rfl rfl k5 ?_
    refine W.load rfl rfl (W.mv rfl ?_)
    refine W.nil ?_
    refine Ev.seq ?_
    refine W.reg hm ?_
    refine W.mv rfl (W.nil ?_)
    refine Ev.seqJ (γ := Int) (fun v => ⟨[(2, .pown 10200 0 0 0), (3, .pown 10201 0 0 0), (5, .pown 10202 0 0 0), (7, .fn 62 [] []), (8, .int .i64 x3), (12, .int .i64 v), (31, .list 1 (List.map cS a0.Inputs)), (32, .int .i64 (a0.Inputs.length : Int)), (33, .int .i64 x4)], [(10200, ⟨0, 43, 3, [[.list 1 (List.map cS a0.Inputs), .list 2 (List.map SKindText.cells a0.Ops), .str a0.Output]], true, false, false⟩), (10201, ⟨0, 46, 1, [[.list 2 (List.map SPathLines.cells a1.Files)]], true, false, false⟩), (10202, ⟨0, 25, 2, [[.int .i64 0, .int .i64 0]], true, false, false⟩)], 2⟩) (fun v => actioncache_Key_j1 n x3 x4 (actioncache_Key_l1 n a0 a1 m1) v = some r) ?_ ?_
    ·refine Ev.seq ?_
     refine W.reg hm ?_
     refine W.fieldAddrO rfl rfl ?_
     refine W.loadO (p := .list 2 (List.map SPathLines.cells a1.Files)) rfl rfl rfl rfl ?_
     refine W.mv rfl ?_
     obtain ⟨r9, k8, h⟩ := obind h
     refine W.call (treepatch_Find_spec n a1.Files e5 r9 k8) rfl rfl (Les.refl _) rfl (.inl rfl) rfl ?_
     refine W.mv rfl (W.extract rfl rfl ?_)
     refine W.extract rfl rfl (W.mv rfl ?_)
     refine W.mv rfl (W.nil ?_)
     refine Ev.seq ?_
     refine W.reg hm ?_
     refine W.mv rfl (W.nil ?_)
     refine Ev.cond rfl (fun c9 => ?_) (fun c9 => ?_)
     ·replace h := iteT h c9
      refine W.reg hm ?_
      refine W.fieldAddrO rfl rfl ?_
      refine W.loadO (p := .list 2 (List.map SPathLines.cells a1.Files)) rfl rfl rfl rfl ?_
      refine W.mv rfl ?_
      obtain ⟨e10, k10, h⟩ := obind h
      refine W.idxL (c := SPathLines.cells) rfl rfl k10 ?_
      refine W.fieldAddr rfl (W.load rfl rfl ?_)
      obtain ⟨r11, k11, h⟩ := obind h
      refine W.call (digest_Strings_spec n e10.Lines r11 k11) rfl rfl (Les.refl _) rfl (.inl rfl) rfl ?_
      refine W.mv rfl (W.extract rfl rfl ?_)
      refine W.extract rfl rfl (W.mv rfl ?_)
      refine W.nil ?_
      exact ⟨r11.1, h, Wk.nrmTo [2, 3, 5, 7, 8, 12, 31, 32, 33] [(10100, 10200), (10101, 10201), (10102, 10202)] rfl rfl⟩
     ·replace h := iteF h c9
      refine Ev.skip ?_
      exact ⟨0, h, Wk.nrmTo [2, 3, 5, 7, 8, 12, 31, 32, 33] [(10100, 10200), (10101, 10201), (10102, 10202)] rfl rfl⟩
    ·intro x6 h
     try dsimp only at h ⊢
     unfold actioncache_Key_j1 at h
     refine W.reg hm ?_
     refine W.mv rfl (W.mv rfl ?_)
     refine W.mkSlice (dt := true) (es := [[.int .i64 x6]]) rfl rfl rfl rfl rfl rfl ?_
     obtain ⟨r7, k6, h⟩ := obind h
     refine W.call (actioncache_combine_spec n x3 ([x6] : List Int) r7 k6) rfl rfl (Les.refl _) rfl (.inr rfl) rfl ?_
     refine W.mv rfl (W.nil ?_)
     refine W.reg hm ?_
     obtain ⟨x8, k7, h⟩ := obind h
     refine W.addG rfl rfl k7 ?_
     refine W.mv rfl (W.nil ?_)
     exact ⟨(m1, r7, x8), h, Nat.lt_succ_self _, Wk.nrmTo [2, 3, 5, 7, 8, 31, 32, 33] [(10200, 10100), (10201, 10101), (10202, 10102)] rfl rfl⟩
   ·replace h := iteF h c4
    refine Ev.exit ?_
    refine Ev.seq (Ev.seq ?_)
    refine W.reg hm ?_
    refine W.fieldAddrO rfl rfl ?_
    refine W.loadO (p := .list 2 (List.map SKindText.cells a0.Ops)) rfl rfl rfl rfl ?_
    refine W.lenL (c := SKindText.cells) rfl ?_
    refine W.mv rfl (W.nil ?_)
    refine Ev.block ?_
    refine Ev.loopW (β := Nat × Int × Int) (fun v => ⟨[(2, .pown 10200 0 0 0), (5, .pown 10201 0 0 0), (7, .fn 62 [] []), (8, .int .i64 v.2.1), (61, .list 2 (List.map SKindText.cells a0.Ops)), (62, .int .i64 (a0.Ops.length : Int)), (63, .int .i64 v.2.2)], [(10200, ⟨0, 43, 3, [[.list 1 (List.map cS a0.Inputs), .list 2 (List.map SKindText.cells a0.Ops), .str a0.Output]], true, false, false⟩), (10201, ⟨0, 25, 2, [[.int .i64 0, .int .i64 0]], true, false, false⟩)], 2⟩) (fun v => actioncache_Key_l2 n a0 v.1 v.2.1 v.2.2 = some r) (fun v => v.1) (n, x3, 0) (Wk.nrmTo [2, 5, 7, 8, 61, 62, 63] [(10100, 10200), (10102, 10201)] rfl rfl) h ?_
    intro ⟨m2, x12, x13⟩ h
    try dsimp only at h ⊢
    cases m2 with
    | zero => rw [actioncache_Key_l2] at h; cases h
    | succ m2 =>
     rw [actioncache_Key_l2] at h
     refine Ev.seq ?_
     refine W.reg hm ?_
     refine W.lss rfl rfl (W.nil ?_)
     refine Ev.seq ?_
     refine Ev.cond rfl (fun c12 => ?_) (fun c12 => ?_)
     ·replace h := iteT h c12
      refine Ev.skip ?_
      refine Ev.seq ?_
      refine Ev.block ?_
      refine Ev.seq ?_
      refine W.reg hm ?_
      obtain ⟨e14, k13, h⟩ := obind h
      refine W.idxL (c := SKindText.cells) rfl rfl k13 ?_
      refine W.load rfl rfl ?_
      refine W.alloc (dt := true) rfl rfl rfl ?_
      refine W.store (es' := [[.int .i64 e14.Kind, .str e14.Text]]) (dt := true) rfl rfl rfl rfl rfl (Nat.le_of_ble_eq_true rfl) rfl rfl rfl rfl ?_
      refine W.nil ?_
      refine W.regD hm ?_
      refine W.mv rfl (W.fieldAddrO rfl rfl ?_)
      refine W.loadO (p := .int .i64 e14.Kind) rfl rfl rfl rfl ?_
      refine W.mv rfl (W.fieldAddrO rfl rfl ?_)
      refine W.loadO (p := .str e14.Text) rfl rfl rfl rfl ?_
      obtain ⟨r15, k14, h⟩ := obind h
      refine W.callv (actioncache_Key_1_spec n e14.Text r15 k14) Tryd.b_actioncache_Key_1 rfl rfl (Les.refl _) rfl (.inl rfl) rfl ?_
      refine W.mkSlice (dt := true) (es := [[.int .i64 r15]]) rfl rfl rfl rfl rfl rfl ?_
      obtain ⟨r16, k15, h⟩ := obind h
      refine W.call (actioncache_combine_spec n e14.Kind ([r15] : List Int) r16 k15) rfl rfl (Les.refl _) rfl (.inr rfl) rfl ?_
      refine W.mkSlice (dt := true) (es := [[.int .i64 r16]]) rfl rfl rfl rfl rfl rfl ?_
      obtain ⟨r17, k16, h⟩ := obind h
      refine W.call (actioncache_combine_spec n x12 ([r16] : List Int) r17 k16) rfl rfl (Les.refl _) rfl (.inr rfl) rfl ?_
      refine W.mv rfl ?_
      refine W.nil ⟨rfl, ?_⟩
      refine W.reg hm ?_
      obtain ⟨x18, k17, h⟩ := obind h
      refine W.addG rfl rfl k17 ?_
      refine W.mv rfl (W.nil ?_)
      exact ⟨(m2, r17, x18), h, Nat.lt_succ_self _, Wk.nrmTo [2, 5, 7, 8, 61, 62, 63] [(10200, 10200), (10201, 10201)] rfl rfl⟩
     ·replace h := iteF h c12
      refine Ev.exit ?_
      refine Ev.seq ?_
      refine Ev.regS rfl ?_
      refine Sq.w 4 (Nat.le_of_ble_eq_true rfl) ?_
      refine W.mv rfl (W.mv rfl ?_)
      refine W.fieldAddrO rfl rfl ?_
      refine W.loadO (p := .str a0.Output) rfl rfl rfl rfl ?_
      refine W.nil ?_
      refine Sq.callv (f := 62) rfl Tryd.b_actioncache_Key_1 Tryd.c_actioncache_Key_1 ⟨_, _, _, rfl, Nat.le_of_ble_eq_true rfl, ?_⟩
      unfold Tryd.l_actioncache_Key_1
      refine Ev.retJ (γ := Int) (fun v => ⟨[(2, .int .i64 v), (65541, .pown 10300 0 0 0), (65615, .int .i64 x12)], [(10300, ⟨0, 25, 2, [[.int .i64 0, .int .i64 0]], true, false, false⟩)], 2⟩) (fun v => actioncache_Key_j2 n x12 v = some r) ?_ ?_
      ·refine Ev.seq ?_
       refine W.reg hm ?_
       refine W.mv rfl (W.nil ?_)
       refine Ev.seq ?_
       refine W.reg hm ?_
       refine W.mv rfl (W.toBytes rfl ?_)
       obtain ⟨r21, k19, h⟩ := obind h
       refine W.call (digest_Of_spec n (bts a0.Output) r21 k19) rfl rfl (Les.refl _) rfl (.inl rfl) rfl ?_
       refine W.mv rfl (W.extract rfl rfl ?_)
       refine W.extract rfl rfl ?_
       refine W.alloc (dt := true) rfl rfl rfl ?_
       refine W.mv rfl ?_
       refine W.store (es' := [[.int .i64 r21.2.Code, .int .i64 r21.2.Index]]) (dt := true) rfl rfl rfl rfl rfl (Nat.le_of_ble_eq_true rfl) rfl rfl rfl rfl ?_
       refine W.nil ?_
       refine Ev.seq ?_
       refine W.reg hm ?_
       refine W.mv rfl (W.mv rfl ?_)
       refine W.nil ?_
       refine Ev.ret ?_
       exact ⟨r21.1, h, Wk.nrmTo [2, 65541, 65615] [(10201, 10300)] rfl rfl⟩
      ·intro x19 h
       try dsimp only at h ⊢
       unfold actioncache_Key_j2 at h
       refine ⟨_, rfl, ?_⟩
       refine Sq.wEnd (Nat.le_of_ble_eq_true rfl) ?_
       refine W.mkSlice (dt := true) (es := [[.int .i64 x19]]) rfl rfl rfl rfl rfl rfl ?_
       obtain ⟨r20, k18, h⟩ := obind h
       refine W.call (actioncache_combine_spec n x12 ([x19] : List Int) r20 k18) rfl rfl (Les.refl _) rfl (.inr rfl) rfl ?_
       refine W.build (cs := [.int .i64 0, .int .i64 0]) rfl rfl rfl ?_
       refine W.mv rfl ?_
       refine W.store (es' := [[.int .i64 0, .int .i64 0]]) (dt := true) rfl rfl rfl rfl rfl (Nat.le_of_ble_eq_true rfl) rfl rfl rfl rfl ?_
       refine W.nil ?_
       refine Ev.ret ?_
       injection h with h; subst h
       exact ⟨_, rfl, .refl _⟩
theorem slices_Index_string_spec (n : Nat) (a0 : List (List UInt8)) (a1 : List UInt8) (r : Int) (h : slices_Index_string n a0 a1 = some r) : PSpec Tryd.prog 109 [.list 1 (List.map cS a0), .str a1] (.int .i64 r) := by
 unfold slices_Index_string at h
 refine spec_of Tryd.c_slices_Index_string (by simp) ?_
 unfold Tryd.l_slices_Index_string
 refine Ev.seq ?_
 refine W.reg hm ?_
 refine W.mv rfl (W.nil ?_)
 refine Ev.seq (Ev.seq ?_)
 refine W.reg hm ?_
 refine W.mv rfl ?_
 refine W.lenL (c := cS) rfl ?_
 refine W.mv rfl (W.nil ?_)
 refine Ev.block ?_
 refine Ev.loopW (β := Nat × Int) (fun v => ⟨[(0, .list 1 (List.map cS a0)), (1, .str a1), (7, .int .i64 (a0.length : Int)), (8, .int .i64 v.2)], [], 2⟩) (fun v => slices_Index_string_l1 n a0 a1 v.1 v.2 = some r) (fun v => v.1) (n, 0) (Wk.nrmTo [0, 1, 7, 8] [] rfl rfl) h ?_
 intro ⟨m1, x1⟩ h
 try dsimp only at h ⊢
 cases m1 with
 | zero => rw [slices_Index_string_l1] at h; cases h
 | succ m1 =>
  rw [slices_Index_string_l1] at h
  refine Ev.seq ?_
  refine W.reg hm ?_
  refine W.lss rfl rfl (W.nil ?_)
  refine Ev.seq ?_
  refine Ev.cond rfl (fun c1 => ?_) (fun c1 => ?_)
  ·replace h := iteT h c1
   refine Ev.skip ?_
   refine Ev.seq ?_
   refine Ev.block ?_
   refine Ev.seq ?_
   refine W.reg hm ?_
   refine W.mv rfl (W.mv rfl ?_)
   refine W.nil ?_
   refine Ev.seq ?_
   refine W.reg hm ?_
   refine W.mv rfl (W.mv rfl ?_)
   refine W.mv rfl ?_
   obtain ⟨e2, k2, h⟩ := obind h
   refine W.idxL (c := cS) rfl rfl k2 ?_
   refine W.load rfl rfl (W.seql rfl rfl ?_)
   refine W.nil ?_
   refine Ev.cond rfl (fun c3 => ?_) (fun c3 => ?_)
   ·replace h := iteT h c3
    refine Ev.seq ?_
    refine W.reg hm ?_
    refine W.mv rfl (W.mv rfl ?_)
    refine W.nil ?_
    refine Ev.ret ?_
    injection h with h; subst h
    exact ⟨_, rfl, .refl _⟩
   ·replace h := iteF h c3
    refine Ev.skip ?_
    refine W.reg hm ?_
    obtain ⟨x3, k4, h⟩ := obind h
    refine W.addG rfl rfl k4 ?_
    refine W.mv rfl (W.nil ?_)
    exact ⟨(m1, x3), h, Nat.lt_succ_self _, Wk.nrmTo [0, 1, 7, 8] [] rfl rfl⟩
  ·replace h := iteF h c1
   refine Ev.exit ?_
   refine Ev.seq ?_
   refine W.reg hm ?_
   refine W.mv rfl (W.nil ?_)
   refine Ev.ret ?_
   injection h with h; subst h
   exact ⟨_, rfl, .refl _⟩
theorem slices_Contains_string_spec (n : Nat) (a0 : List (List UInt8)) (a1 : List UInt8) (r : Bool) (h : slices_Contains_string n a0 a1 = some r) : PSpec Tryd.prog 75 [.list 1 (List.map cS a0), .str a1] (.bool r) := by
 unfold slices_Contains_string at h
 refine spec_of Tryd.c_slices_Contains_string (by simp) ?_
 unfold Tryd.l_slices_Contains_string
 refine Ev.seq ?_
 refine W.reg hm ?_
 refine W.mv rfl (W.nil ?_)
 refine Ev.seq ?_
 refine W.reg hm ?_
 refine W.mv rfl (W.mv rfl ?_)
 obtain ⟨r1, k1, h⟩ := obind h
 refine W.call (slices_Index_string_spec n a0 a1 r1 k1) rfl rfl (Les.refl _) rfl (.inl rfl) rfl ?_
 refine W.geq rfl rfl (W.mv rfl ?_)
 refine W.nil ?_
 refine Ev.ret ?_
 injection h with h; subst h
 exact ⟨_, rfl, .refl _⟩
theorem sandbox_unique_spec (n : Nat) (a0 : List (List UInt8)) (r : (List (List UInt8))) (h : sandbox_unique n a0 = some r) : PMut Tryd.prog 107 [.list 1 (List.map cS a0)] [] (.own 70000 0) [(70000, ⟨0, 9, 1, List.map cS r, true, false, false⟩)] := by
 unfold sandbox_unique at h
 refine specMut_of Tryd.c_sandbox_unique (by simp) (by simp) ?_
 unfold Tryd.l_sandbox_unique
 refine Ev.seq ?_
 refine W.reg hm ?_
 refine W.mv rfl (W.nil ?_)
 refine Ev.seq ?_
 refine W.reg hm ?_
 refine W.mv rfl (W.nil ?_)
 refine Ev.seq (Ev.seq ?_)
 refine W.reg hm ?_
 refine W.mv rfl ?_
 refine W.lenL (c := cS) rfl ?_
 refine W.mv rfl (W.nil ?_)
 refine Ev.block ?_
 refine Ev.loopW (β := Nat × (List (List UInt8)) × Int) (fun v => ⟨[(3, .own 10100 0), (6, .list 1 (List.map cS a0)), (7, .int .i64 (a0.length : Int)), (8, .int .i64 v.2.2)], [(10100, ⟨0, 9, 1, List.map cS v.2.1, true, false, false⟩)], 2⟩) (fun v => sandbox_unique_l1 n a0 v.1 v.2.1 v.2.2 = some r) (fun v => v.1) (n, ([] : List (List UInt8)), 0) ((Wk.ownNil 3 30100 9 1 rfl rfl true).trans (Wk.nrmTo [3, 6, 7, 8] [(30100, 10100)] rfl rfl)) h ?_
 intro ⟨m1, w1, x2⟩ h
 try dsimp only at h ⊢
 cases m1 with
 | zero => rw [sandbox_unique_l1] at h; cases h
 | succ m1 =>
  rw [sandbox_unique_l1] at h
  refine Ev.seq ?_
  refine W.reg hm ?_
  refine W.lss rfl rfl (W.nil ?_)
  refine Ev.seq ?_
  refine Ev.cond rfl (fun c1 => ?_) (fun c1 => ?_)
  ·replace h := iteT h c1
   refine Ev.skip ?_
   refine Ev.seqJ (γ := List (List UInt8)) (fun v => ⟨[(3, .own 10200 0), (6, .list 1 (List.map cS a0)), (7, .int .i64 (a0.length : Int)), (8, .int .i64 x2)], [(10200, ⟨0, 9, 1, List.map cS v, true, false, false⟩)], 2⟩) (fun v => sandbox_unique_j1 n x2 (sandbox_unique_l1 n a0 m1) v = some r) ?_ ?_
   ·refine Ev.block ?_
    refine Ev.seq ?_
    refine W.reg hm ?_
    obtain ⟨e5, k3, h⟩ := obind h
    refine W.idxL (c := cS) rfl rfl k3 ?_
    refine W.load rfl rfl (W.mv rfl ?_)
    refine W.nil ?_
    refine Ev.seq ?_
    refine W.reg hm ?_
    refine W.mv rfl (W.mv rfl ?_)
    obtain ⟨r6, k4, h⟩ := obind h
    refine W.call (slices_Contains_string_spec n w1 e5 r6 k4) rfl rfl (Les.refl _) rfl (.inr rfl) rfl ?_
    refine W.not rfl (W.nil ?_)
    refine Ev.cond rfl (fun c5 => ?_) (fun c5 => ?_)
    ·replace h := iteT h c5
     refine W.reg hm ?_
     refine W.mv rfl (W.mv rfl ?_)
     refine W.mkSlice (dt := true) (es := [[.str e5]]) rfl rfl rfl rfl rfl rfl ?_
     obtain ⟨w7, k6, h⟩ := obind h
     refine W.appR true (l := w1) (c := cS) (ys := ([e5] : List (List UInt8))) rfl rfl rfl rfl rfl rfl rfl rfl k6 rfl (by simp) ?_
     refine W.mv rfl (W.nil ?_)
     exact ⟨w7, h, Wk.nrmTo [3, 6, 7, 8] [(19, 10200)] rfl rfl⟩
    ·replace h := iteF h c5
     refine Ev.skip ?_
     exact ⟨w1, h, Wk.nrmTo [3, 6, 7, 8] [(10100, 10200)] rfl rfl⟩
   ·intro w3 h
    try dsimp only at h ⊢
    unfold sandbox_unique_j1 at h
    refine W.reg hm ?_
    obtain ⟨x4, k2, h⟩ := obind h
    refine W.addG rfl rfl k2 ?_
    refine W.mv rfl (W.nil ?_)
    exact ⟨(m1, w3, x4), h, Nat.lt_succ_self _, Wk.nrmTo [3, 6, 7, 8] [(10200, 10100)] rfl rfl⟩
  ·replace h := iteF h c1
   refine Ev.exit ?_
   refine Ev.seq ?_
   refine W.reg hm ?_
   refine W.mv rfl (W.mv rfl ?_)
   refine W.nil ?_
   refine Ev.ret ?_
   injection h with h; subst h
   exact ⟨_, _, Wk.nrmTo [2] [(10100, 70000)] rfl rfl, rfl, rfl, rfl, .refl _, fun nm h => by simp [PW.look] at h⟩
set_option maxHeartbeats 4000000 in
theorem sandbox_Run_spec (n : Nat) (a0 : SInputsOpsOutput) (a1 : SFiles) (r : ((List (List UInt8)) × SCodeIndex)) (h : sandbox_Run n a0 a1 = some r) : PMut Tryd.prog 32 [.agg (SInputsOpsOutput.cells a0), .agg (SFiles.cells a1)] [] (.tup [.own 70000 0, .agg (SCodeIndex.cells r.2)]) [(70000, ⟨0, 9, 1, List.map cS r.1, true, false, false⟩)] := by
 unfold sandbox_Run at h
 refine specMut_of Tryd.c_sandbox_Run (by simp) (by simp) ?_
 unfold Tryd.l_sandbox_Run
 refine Ev.seq ?_
 refine W.reg hm ?_
 refine W.box (dt := true) (cs := [.list 1 (List.map cS a0.Inputs), .list 2 (List.map SKindText.cells a0.Ops), .str a0.Output]) rfl rfl rfl rfl rfl rfl ?_
 refine W.box (dt := true) (cs := [.list 2 (List.map SPathLines.cells a1.Files)]) rfl rfl rfl rfl rfl rfl ?_
 refine W.mv rfl ?_
 refine W.alloc (dt := true) rfl rfl rfl ?_
 refine W.nil ?_
 refine Ev.seq (Ev.seq ?_)
 refine W.reg hm ?_
 refine W.loadO (p := .agg [.list 1 (List.map cS a0.Inputs), .list 2 (List.map SKindText.cells a0.Ops), .str a0.Output]) rfl rfl rfl rfl ?_
 refine W.loadO (p := .agg [.list 2 (List.map SPathLines.cells a1.Files)]) rfl rfl rfl rfl ?_
 obtain ⟨r1, k1, h⟩ := obind h
 refine W.call (sandbox_Arguments_spec n a0 a1 r1 k1) rfl rfl (Les.refl _) rfl (.inl rfl) rfl ?_
 refine W.alloc (dt := true) rfl rfl rfl ?_
 refine W.store (es' := [[.int .i64 r1.Code, .int .i64 r1.Index]]) (dt := true) rfl rfl rfl rfl rfl (Nat.le_of_ble_eq_true rfl) rfl rfl rfl rfl ?_
 refine W.nil ?_
 refine Ev.seq ?_
 refine W.reg hm ?_
 refine W.loadO (p := .agg [.int .i64 r1.Code, .int .i64 r1.Index]) rfl rfl rfl rfl ?_
 refine W.build (cs := [.int .i64 0, .int .i64 0]) rfl rfl rfl ?_
 refine W.eqs rfl rfl rfl (W.nil ?_)
 refine Ev.cond rfl (fun c2 => ?_) (fun c2 => ?_)
 ·replace h := iteT h c2
  refine Ev.seq ?_
  refine W.regD hm ?_
  refine W.loadO (p := .agg [.int .i64 r1.Code, .int .i64 r1.Index]) rfl rfl rfl rfl ?_
  refine W.mv rfl ?_
  refine W.store (es' := [[.int .i64 r1.Code, .int .i64 r1.Index]]) (dt := true) rfl rfl rfl rfl rfl (Nat.le_of_ble_eq_true rfl) rfl rfl rfl rfl ?_
  refine W.nil ⟨rfl, ?_⟩
  refine Ev.weak ?_ (Wk.ownNil 4 69999 9 1 rfl rfl)
  refine Ev.weak ?_ (Wk.frz 5 2 rfl rfl)
  refine Ev.ret ?_
  injection h with h; subst h
  exact ⟨_, [.own 70000 0, .agg [.int .i64 r1.Code, .int .i64 r1.Index]], Wk.nrmTo [4, 5] [(69999, 70000)] rfl rfl, rfl, rfl, rfl, .refl _, fun nm h => by simp [PW.look] at h⟩
 ·replace h := iteF h c2
  refine Ev.skip ?_
  refine Ev.seq ?_
  refine W.reg hm ?_
  refine W.mv rfl (W.nil ?_)
  refine Ev.seq (Ev.seq ?_)
  refine W.reg hm ?_
  refine W.fieldAddrO rfl rfl ?_
  refine W.loadO (p := .list 2 (List.map SKindText.cells a0.Ops)) rfl rfl rfl rfl ?_
  refine W.lenL (c := SKindText.cells) rfl ?_
  refine W.mv rfl (W.nil ?_)
  refine Ev.block ?_
  refine Ev.loopW (β := Nat × (List (List UInt8)) × Int) (fun v => ⟨[(2, .pown 10100 0 0 0), (3, .pown 10101 0 0 0), (5, .pown 10102 0 0 0), (7, .own 10103 0), (20, .list 2 (List.map SKindText.cells a0.Ops)), (21, .int .i64 (a0.Ops.length : Int)), (22, .int .i64 v.2.2)], [(10100, ⟨0, 43, 3, [[.list 1 (List.map cS a0.Inputs), .list 2 (List.map SKindText.cells a0.Ops), .str a0.Output]], true, false, false⟩), (10101, ⟨0, 46, 1, [[.list 2 (List.map SPathLines.cells a1.Files)]], true, false, false⟩), (10102, ⟨0, 25, 2, [[.int .i64 0, .int .i64 0]], true, false, false⟩), (10103, ⟨0, 9, 1, List.map cS v.2.1, true, false, false⟩)], 2⟩) (fun v => sandbox_Run_l1 n a0 a1 v.1 v.2.1 v.2.2 = some r) (fun v => v.1) (n, ([] : List (List UInt8)), 0) ((Wk.ownNil 7 30103 9 1 rfl rfl true).trans (Wk.nrmTo [2, 3, 5, 7, 20, 21, 22] [(2, 10100), (3, 10101), (5, 10102), (30103, 10103)] rfl rfl)) h ?_
  intro ⟨m1, w2, x3⟩ h
  try dsimp only at h ⊢
  cases m1 with
  | zero => rw [sandbox_Run_l1] at h; cases h
  | succ m1 =>
   rw [sandbox_Run_l1] at h
   refine Ev.seq ?_
   refine W.reg hm ?_
   refine W.lss rfl rfl (W.nil ?_)
   refine Ev.seq ?_
   refine Ev.cond rfl (fun c3 => ?_) (fun c3 => ?_)
   ·replace h := iteT h c3
    refine Ev.skip ?_
    refine Ev.seq ?_
    refine Ev.block ?_
    refine Ev.seq ?_
    refine W.reg hm ?_
    refine W.mv rfl ?_
    obtain ⟨e4, k4, h⟩ := obind h
    refine W.idxL (c := SKindText.cells) rfl rfl k4 ?_
    refine W.load rfl rfl ?_
    refine W.alloc (dt := true) rfl rfl rfl ?_
    refine W.mv rfl ?_
    refine W.store (es' := [[.int .i64 e4.Kind, .str e4.Text]]) (dt := true) rfl rfl rfl rfl rfl (Nat.le_of_ble_eq_true rfl) rfl rfl rfl rfl ?_
    refine W.nil ?_
    refine Ev.seq ?_
    refine Ev.regS rfl ?_
    refine Sq.w 4 (Nat.le_of_ble_eq_true rfl) ?_
    refine W.loadO (p := .agg [.list 1 (List.map cS a0.Inputs), .list 2 (List.map SKindText.cells a0.Ops), .str a0.Output]) rfl rfl rfl rfl ?_
    refine W.loadO (p := .agg [.int .i64 e4.Kind, .str e4.Text]) rfl rfl rfl rfl ?_
    refine W.loadO (p := .agg [.list 2 (List.map SPathLines.cells a1.Files)]) rfl rfl rfl rfl ?_
    refine W.mv rfl (W.nil ?_)
    refine Sq.weak (st' := ⟨[(2, .pown 10100 0 0 0), (3, .pown 10101 0 0 0), (5, .pown 10102 0 0 0), (8, .int .i64 x3), (20, .list 2 (List.map SKindText.cells a0.Ops)), (21, .int .i64 (a0.Ops.length : Int)), (22, .int .i64 x3), (28, .agg [.list 1 (List.map cS a0.Inputs), .list 2 (List.map SKindText.cells a0.Ops), .str a0.Output]), (29, .agg [.int .i64 e4.Kind, .str e4.Text]), (30, .agg [.list 2 (List.map SPathLines.cells a1.Files)]), (31, .own 10103 0)], [(10100, ⟨0, 43, 3, [[.list 1 (List.map cS a0.Inputs), .list 2 (List.map SKindText.cells a0.Ops), .str a0.Output]], true, false, false⟩), (10101, ⟨0, 46, 1, [[.list 2 (List.map SPathLines.cells a1.Files)]], true, false, false⟩), (10102, ⟨0, 25, 2, [[.int .i64 0, .int .i64 0]], true, false, false⟩), (10103, ⟨0, 9, 1, List.map cS w2, true, false, false⟩)], 2⟩) ?_ (Wk.nrmTo [2, 3, 5, 8, 20, 21, 22, 28, 29, 30, 31] [(10100, 10100), (10101, 10101), (10102, 10102), (10103, 10103)] rfl rfl)
    refine Sq.call rfl Tryd.c_sandbox_step ⟨_, rfl, Nat.le_of_ble_eq_true rfl, ?_⟩
    unfold Tryd.l_sandbox_step
    refine Ev.retJ (γ := (List (List UInt8)) × Int) (fun v => ⟨[(8, .own 10200 0), (9, .int .i64 v.2), (65538, .pown 10201 0 0 0), (65539, .pown 10202 0 0 0), (65541, .pown 10203 0 0 0), (65544, .int .i64 x3), (65556, .list 2 (List.map SKindText.cells a0.Ops)), (65557, .int .i64 (a0.Ops.length : Int)), (65558, .int .i64 x3)], [(10200, ⟨0, 9, 1, List.map cS v.1, true, false, false⟩), (10201, ⟨0, 43, 3, [[.list 1 (List.map cS a0.Inputs), .list 2 (List.map SKindText.cells a0.Ops), .str a0.Output]], true, false, false⟩), (10202, ⟨0, 46, 1, [[.list 2 (List.map SPathLines.cells a1.Files)]], true, false, false⟩), (10203, ⟨0, 25, 2, [[.int .i64 0, .int .i64 0]], true, false, false⟩)], 2⟩) (fun v => sandbox_Run_j1 n x3 (sandbox_Run_l1 n a0 a1 m1) v.1 v.2 = some r) ?_ ?_
    ·refine Ev.seq ?_
     refine W.reg hm ?_
     refine W.box (dt := true) (cs := [.list 1 (List.map cS a0.Inputs), .list 2 (List.map SKindText.cells a0.Ops), .str a0.Output]) rfl rfl rfl rfl rfl rfl ?_
     refine W.box (dt := true) (cs := [.int .i64 e4.Kind, .str e4.Text]) rfl rfl rfl rfl rfl rfl ?_
     refine W.box (dt := true) (cs := [.list 2 (List.map SPathLines.cells a1.Files)]) rfl rfl rfl rfl rfl rfl ?_
     refine W.box (dt := false) (cs := [.own 10103 0]) rfl rfl rfl rfl rfl rfl ?_
     refine W.mv rfl (W.mv rfl ?_)
     refine W.nil ?_
     refine Ev.seq ?_
     refine W.reg hm ?_
     refine W.fieldAddrO rfl rfl ?_
     refine W.loadO (p := .list 2 (List.map SPathLines.cells a1.Files)) rfl rfl rfl rfl ?_
     refine W.fieldAddrO rfl rfl ?_
     refine W.loadO (p := .str e4.Text) rfl rfl rfl rfl ?_
     obtain ⟨r9, k8, h⟩ := obind h
     refine W.call (treepatch_Find_spec n a1.Files e4.Text r9 k8) rfl rfl (Les.refl _) rfl (.inl rfl) rfl ?_
     refine W.mv rfl (W.extract rfl rfl ?_)
     refine W.extract rfl rfl (W.mv rfl ?_)
     refine W.mv rfl (W.nil ?_)
     refine Ev.seq ?_
     refine W.reg hm ?_
     refine W.mkfn rfl (W.mv rfl ?_)
     refine W.nil ?_
     refine Ev.seq ?_
     refine Ev.seqJ (γ := Bool) (fun v => ⟨[(5, .pown 10300 0 0 0), (6, .pown 10301 0 0 0), (7, .pown 10302 0 0 0), (10, .int .i64 r9.1), (11, .bool r9.2), (12, .fn 105 [] [.pown 10302 0 0 0]), (37, .bool v), (65538, .pown 10304 0 0 0), (65539, .pown 10305 0 0 0), (65541, .pown 10306 0 0 0), (65544, .int .i64 x3), (65556, .list 2 (List.map SKindText.cells a0.Ops)), (65557, .int .i64 (a0.Ops.length : Int)), (65558, .int .i64 x3)], [(10300, ⟨0, 106, 2, [[.int .i64 e4.Kind, .str e4.Text]], true, false, false⟩), (10301, ⟨0, 46, 1, [[.list 2 (List.map SPathLines.cells a1.Files)]], true, false, false⟩), (10302, ⟨0, 23, 1, [[.own 10303 0]], false, false, false⟩), (10303, ⟨0, 9, 1, List.map cS w2, true, false, false⟩), (10304, ⟨0, 43, 3, [[.list 1 (List.map cS a0.Inputs), .list 2 (List.map SKindText.cells a0.Ops), .str a0.Output]], true, false, false⟩), (10305, ⟨0, 46, 1, [[.list 2 (List.map SPathLines.cells a1.Files)]], true, false, false⟩), (10306, ⟨0, 25, 2, [[.int .i64 0, .int .i64 0]], true, false, false⟩)], 2⟩) (fun v => sandbox_Run_j2 n a1 w2 x3 (sandbox_Run_l1 n a0 a1 m1) e4 r9 v = some r) ?_ ?_
     ·refine W.reg hm ?_
      refine W.fieldAddrO rfl rfl ?_
      refine W.loadO (p := .int .i64 e4.Kind) rfl rfl rfl rfl ?_
      refine W.eql rfl rfl (W.mv rfl ?_)
      refine W.split 25 rfl (fun c37 => ?_) (fun c37 => ?_)
      ·replace h := iteT h c37
       refine W.guardF2 rfl c37 ?_
       refine W.guardF2 rfl c37 ?_
       refine W.guardF2 rfl c37 ?_
       refine W.pickT rfl rfl rfl c37 ?_
       refine W.mv rfl (W.guardT rfl rfl ?_)
       refine W.fieldAddrO rfl rfl (W.guardT rfl rfl ?_)
       refine W.loadO (p := .list 1 (List.map cS a0.Inputs)) rfl rfl rfl rfl ?_
       refine W.guardT rfl rfl (W.fieldAddrO rfl rfl ?_)
       refine W.guardT rfl rfl ?_
       refine W.loadO (p := .str e4.Text) rfl rfl rfl rfl ?_
       refine W.guardT rfl rfl ?_
       obtain ⟨r39, k38, h⟩ := obind h
       refine W.call (slices_Contains_string_spec n a0.Inputs e4.Text r39 k38) rfl rfl (Les.refl _) rfl (.inl rfl) rfl ?_
       refine W.guardT rfl rfl (W.not rfl ?_)
       refine W.pickT rfl rfl rfl rfl (W.nil ?_)
       exact ⟨(!r39), h, Wk.nrmTo [5, 6, 7, 10, 11, 12, 37, 65538, 65539, 65541, 65544, 65556, 65557, 65558] [(5, 10300), (6, 10301), (7, 10302), (10103, 10303), (10100, 10304), (10101, 10305), (10102, 10306)] rfl rfl⟩
      ·replace h := iteF h c37
       refine W.guardT rfl c37 ?_
       refine W.fieldAddrO rfl rfl ?_
       refine W.guardT rfl c37 ?_
       refine W.loadO (p := .int .i64 e4.Kind) rfl rfl rfl rfl ?_
       refine W.guardT rfl c37 ?_
       refine W.eql rfl rfl ?_
       refine W.pickN rfl rfl rfl c37 ?_
       refine W.mv rfl ?_
       refine W.split 30 rfl (fun c39 => ?_) (fun c39 => ?_)
       ·replace h := iteT h c39
        refine W.guardT rfl c39 ?_
        refine W.fieldAddrO rfl rfl ?_
        refine W.guardT rfl c39 ?_
        refine W.loadO (p := .list 1 (List.map cS a0.Inputs)) rfl rfl rfl rfl ?_
        refine W.guardT rfl c39 ?_
        refine W.fieldAddrO rfl rfl ?_
        refine W.guardT rfl c39 ?_
        refine W.loadO (p := .str e4.Text) rfl rfl rfl rfl ?_
        refine W.guardT rfl c39 ?_
        obtain ⟨r40, k40, h⟩ := obind h
        refine W.call (slices_Contains_string_spec n a0.Inputs e4.Text r40 k40) rfl rfl (Les.refl _) rfl (.inl rfl) rfl ?_
        refine W.guardT rfl c39 ?_
        refine W.not rfl ?_
        refine W.pickT rfl rfl rfl c39 ?_
        refine W.nil ?_
        exact ⟨(!r40), h, Wk.nrmTo [5, 6, 7, 10, 11, 12, 37, 65538, 65539, 65541, 65544, 65556, 65557, 65558] [(5, 10300), (6, 10301), (7, 10302), (10103, 10303), (10100, 10304), (10101, 10305), (10102, 10306)] rfl rfl⟩
       ·replace h := iteF h c39
        refine W.guardF1 rfl c39 ?_
        refine W.guardF1 rfl c39 ?_
        refine W.guardF1 rfl c39 ?_
        refine W.guardF1 rfl c39 ?_
        refine W.guardF1 rfl c39 ?_
        refine W.guardF1 rfl c39 ?_
        refine W.pickN rfl rfl rfl c39 ?_
        refine W.nil ?_
        exact ⟨false, h, Wk.nrmTo [5, 6, 7, 10, 11, 12, 37, 65538, 65539, 65541, 65544, 65556, 65557, 65558] [(5, 10300), (6, 10301), (7, 10302), (10103, 10303), (10100, 10304), (10101, 10305), (10102, 10306)] rfl rfl⟩
     ·intro x10 h
      try dsimp only at h ⊢
      unfold sandbox_Run_j2 at h
      refine Ev.cond rfl (fun c9 => ?_) (fun c9 => ?_)
      ·replace h := iteT h c9
       refine Ev.seq ?_
       refine W.reg hm ?_
       refine W.mv rfl (W.mv rfl ?_)
       refine W.nil ?_
       refine Ev.ret ?_
       exact ⟨(([] : List (List UInt8)), 13), h, (Wk.ownNil 8 30200 9 1 rfl rfl true).trans (Wk.nrmTo [8, 9, 65538, 65539, 65541, 65544, 65556, 65557, 65558] [(30200, 10200), (10304, 10201), (10305, 10202), (10306, 10203)] rfl rfl)⟩
      ·replace h := iteF h c9
       refine Ev.skip ?_
       refine Ev.seq (Ev.seq ?_)
       refine W.reg hm ?_
       refine W.fieldAddrO rfl rfl ?_
       refine W.loadO (p := .int .i64 e4.Kind) rfl rfl rfl rfl ?_
       refine W.nil ?_
       refine Ev.block ?_
       refine Ev.seq ?_
       refine W.reg hm ?_
       refine W.eql rfl rfl (W.mv rfl ?_)
       refine W.nil ?_
       refine Ev.cond rfl (fun c10 => ?_) (fun c10 => ?_)
       ·replace h := iteT h c10
        refine Ev.seq (Ev.seq ?_)
        refine W.reg hm ?_
        refine W.mv rfl (W.not rfl ?_)
        refine W.nil ?_
        refine Ev.cond rfl (fun c11 => ?_) (fun c11 => ?_)
        ·replace h := iteT h c11
         refine Ev.seq ?_
         refine W.reg hm ?_
         refine W.mv rfl (W.mv rfl ?_)
         refine W.nil ?_
         refine Ev.ret ?_
         exact ⟨(([] : List (List UInt8)), 6), h, (Wk.ownNil 8 30200 9 1 rfl rfl true).trans (Wk.nrmTo [8, 9, 65538, 65539, 65541, 65544, 65556, 65557, 65558] [(30200, 10200), (10304, 10201), (10305, 10202), (10306, 10203)] rfl rfl)⟩
        ·replace h := iteF h c11
         refine Ev.skip ?_
         refine Ev.seq ?_
         refine Ev.regS rfl ?_
         refine Sq.w 7 (Nat.le_of_ble_eq_true rfl) ?_
         refine W.mv rfl (W.fieldAddrO rfl rfl ?_)
         refine W.loadO (p := .list 2 (List.map SPathLines.cells a1.Files)) rfl rfl rfl rfl ?_
         refine W.mv rfl ?_
         obtain ⟨e11, k12, h⟩ := obind h
         refine W.idxL (c := SPathLines.cells) rfl rfl k12 ?_
         refine W.fieldAddr rfl (W.load rfl rfl ?_)
         refine W.nil ?_
         refine Sq.callv (f := 105) rfl Tryd.b_sandbox_step_1 Tryd.c_sandbox_step_1 ⟨_, _, _, rfl, Nat.le_of_ble_eq_true rfl, ?_⟩
         unfold Tryd.l_sandbox_step_1
         refine Ev.retJ (γ := (List (List UInt8)) × Int) (fun v => ⟨[(3, .own 10400 0), (4, .int .i64 v.2), (131074, .pown 10401 0 0 0), (131075, .pown 10402 0 0 0), (131077, .pown 10403 0 0 0), (131080, .int .i64 x3), (131092, .list 2 (List.map SKindText.cells a0.Ops)), (131093, .int .i64 (a0.Ops.length : Int)), (131094, .int .i64 x3)], [(10400, ⟨0, 9, 1, List.map cS v.1, true, false, false⟩), (10401, ⟨0, 43, 3, [[.list 1 (List.map cS a0.Inputs), .list 2 (List.map SKindText.cells a0.Ops), .str a0.Output]], true, false, false⟩), (10402, ⟨0, 46, 1, [[.list 2 (List.map SPathLines.cells a1.Files)]], true, false, false⟩), (10403, ⟨0, 25, 2, [[.int .i64 0, .int .i64 0]], true, false, false⟩)], 2⟩) (fun v => sandbox_Run_j3 n x3 (sandbox_Run_l1 n a0 a1 m1) v.1 v.2 = some r) ?_ ?_
         ·refine Ev.seq ?_
          refine W.reg hm ?_
          refine W.mv rfl (W.mv rfl ?_)
          refine W.nil ?_
          refine Ev.seq (Ev.seq ?_)
          refine W.reg hm ?_
          refine W.loadO (p := .own 10303 0) rfl rfl rfl rfl ?_
          refine W.lenO (l := w2) (c := cS) rfl rfl rfl ?_
          refine W.mv rfl ?_
          refine W.lenL (c := cS) rfl ?_
          obtain ⟨x14, k13, h⟩ := obind h
          refine W.addG rfl rfl k13 ?_
          refine W.gtr rfl rfl (W.nil ?_)
          refine Ev.cond rfl (fun c14 => ?_) (fun c14 => ?_)
          ·replace h := iteT h c14
           refine Ev.seq ?_
           refine W.reg hm ?_
           refine W.mv rfl (W.mv rfl ?_)
           refine W.nil ?_
           refine Ev.ret ?_
           exact ⟨(([] : List (List UInt8)), 10), h, (Wk.ownNil 3 30400 9 1 rfl rfl true).trans (Wk.nrmTo [3, 4, 131074, 131075, 131077, 131080, 131092, 131093, 131094] [(30400, 10400), (10304, 10401), (10305, 10402), (10306, 10403)] rfl rfl)⟩
          ·replace h := iteF h c14
           refine Ev.skip ?_
           refine Ev.seq ?_
           refine W.reg hm ?_
           refine W.loadO (p := .own 10303 0) rfl rfl rfl rfl ?_
           refine W.mv rfl ?_
           obtain ⟨w15, k15, h⟩ := obind h
           refine W.appR true (l := w2) (c := cS) (ys := e11.Lines) rfl rfl rfl rfl rfl rfl rfl rfl k15 rfl (by simp) ?_
           refine W.mv rfl (W.mv rfl ?_)
           refine W.nil ?_
           refine Ev.ret ?_
           exact ⟨(w15, 0), h, Wk.nrmTo [3, 4, 131074, 131075, 131077, 131080, 131092, 131093, 131094] [(13, 10400), (10304, 10401), (10305, 10402), (10306, 10403)] rfl rfl⟩
         ·intro ⟨w12, x13⟩ h
          try dsimp only at h ⊢
          unfold sandbox_Run_j3 at h
          refine ⟨_, rfl, ?_⟩
          refine Sq.wEnd (Nat.le_of_ble_eq_true rfl) ?_
          refine W.extract rfl rfl (W.extract rfl rfl ?_)
          refine W.mv rfl (W.mv rfl ?_)
          refine W.nil ?_
          refine Ev.ret ?_
          exact ⟨(w12, x13), h, Wk.nrmTo [8, 9, 65538, 65539, 65541, 65544, 65556, 65557, 65558] [(10400, 10200), (10401, 10201), (10402, 10202), (10403, 10203)] rfl rfl⟩
       ·replace h := iteF h c10
        refine Ev.seq ?_
        refine W.reg hm ?_
        refine W.eql rfl rfl (W.mv rfl ?_)
        refine W.nil ?_
        refine Ev.cond rfl (fun c16 => ?_) (fun c16 => ?_)
        ·replace h := iteT h c16
         refine Ev.seq (Ev.seq ?_)
         refine W.reg hm ?_
         refine W.mv rfl (W.nil ?_)
         refine Ev.cond rfl (fun c17 => ?_) (fun c17 => ?_)
         ·replace h := iteT h c17
          refine Ev.seq ?_
          refine Ev.regS rfl ?_
          refine Sq.w 2 (Nat.le_of_ble_eq_true rfl) ?_
          refine W.mv rfl ?_
          refine W.mkSlice (dt := true) (es := [[.str ([121, 101, 115] : List UInt8)]]) rfl rfl rfl rfl rfl rfl ?_
          refine W.nil ?_
          refine Sq.weak (st' := ⟨[(57, .fn 105 [] [.pown 10300 0 0 0]), (58, .own 10302 0), (65538, .pown 10303 0 0 0), (65539, .pown 10304 0 0 0), (65541, .pown 10305 0 0 0), (65544, .int .i64 x3), (65556, .list 2 (List.map SKindText.cells a0.Ops)), (65557, .int .i64 (a0.Ops.length : Int)), (65558, .int .i64 x3)], [(10300, ⟨0, 23, 1, [[.own 10301 0]], false, false, false⟩), (10301, ⟨0, 9, 1, List.map cS w2, true, false, false⟩), (10302, ⟨0, 9, 1, List.map cS ([([121, 101, 115] : List UInt8)] : List (List UInt8)), true, false, false⟩), (10303, ⟨0, 43, 3, [[.list 1 (List.map cS a0.Inputs), .list 2 (List.map SKindText.cells a0.Ops), .str a0.Output]], true, false, false⟩), (10304, ⟨0, 46, 1, [[.list 2 (List.map SPathLines.cells a1.Files)]], true, false, false⟩), (10305, ⟨0, 25, 2, [[.int .i64 0, .int .i64 0]], true, false, false⟩)], 2⟩) ?_ (Wk.nrmTo [57, 58, 65538, 65539, 65541, 65544, 65556, 65557, 65558] [(10302, 10300), (10303, 10301), (58, 10302), (10304, 10303), (10305, 10304), (10306, 10305)] rfl rfl)
          refine Sq.callv (f := 105) rfl Tryd.b_sandbox_step_1 Tryd.c_sandbox_step_1 ⟨_, _, _, rfl, Nat.le_of_ble_eq_true rfl, ?_⟩
          unfold Tryd.l_sandbox_step_1
          refine Ev.retJ (γ := (List (List UInt8)) × Int) (fun v => ⟨[(3, .own 10400 0), (4, .int .i64 v.2), (131074, .pown 10401 0 0 0), (131075, .pown 10402 0 0 0), (131077, .pown 10403 0 0 0), (131080, .int .i64 x3), (131092, .list 2 (List.map SKindText.cells a0.Ops)), (131093, .int .i64 (a0.Ops.length : Int)), (131094, .int .i64 x3)], [(10400, ⟨0, 9, 1, List.map cS v.1, true, false, false⟩), (10401, ⟨0, 43, 3, [[.list 1 (List.map cS a0.Inputs), .list 2 (List.map SKindText.cells a0.Ops), .str a0.Output]], true, false, false⟩), (10402, ⟨0, 46, 1, [[.list 2 (List.map SPathLines.cells a1.Files)]], true, false, false⟩), (10403, ⟨0, 25, 2, [[.int .i64 0, .int .i64 0]], true, false, false⟩)], 2⟩) (fun v => sandbox_Run_j4 n x3 (sandbox_Run_l1 n a0 a1 m1) v.1 v.2 = some r) ?_ ?_
          ·refine Ev.seq ?_
           refine W.reg hm ?_
           refine W.mv rfl (W.mv rfl ?_)
           refine W.nil ?_
           refine Ev.seq (Ev.seq ?_)
           refine W.reg hm ?_
           refine W.loadO (p := .own 10301 0) rfl rfl rfl rfl ?_
           refine W.lenO (l := w2) (c := cS) rfl rfl rfl ?_
           refine W.mv rfl ?_
           refine W.lenO (l := ([([121, 101, 115] : List UInt8)] : List (List UInt8))) (c := cS) rfl rfl rfl ?_
           obtain ⟨x18, k18, h⟩ := obind h
           refine W.addG rfl rfl k18 ?_
           refine W.gtr rfl rfl (W.nil ?_)
           refine Ev.cond rfl (fun c19 => ?_) (fun c19 => ?_)
           ·replace h := iteT h c19
            refine Ev.seq ?_
            refine W.reg hm ?_
            refine W.mv rfl (W.mv rfl ?_)
            refine W.nil ?_
            refine Ev.ret ?_
            exact ⟨(([] : List (List UInt8)), 10), h, (Wk.ownNil 3 30400 9 1 rfl rfl true).trans (Wk.nrmTo [3, 4, 131074, 131075, 131077, 131080, 131092, 131093, 131094] [(30400, 10400), (10303, 10401), (10304, 10402), (10305, 10403)] rfl rfl)⟩
           ·replace h := iteF h c19
            refine Ev.skip ?_
            refine Ev.seq ?_
            refine W.reg hm ?_
            refine W.loadO (p := .own 10301 0) rfl rfl rfl rfl ?_
            refine W.mv rfl ?_
            obtain ⟨w19, k20, h⟩ := obind h
            refine W.appR true (l := w2) (c := cS) (ys := ([([121, 101, 115] : List UInt8)] : List (List UInt8))) rfl rfl rfl rfl rfl rfl rfl rfl k20 rfl (by simp) ?_
            refine W.mv rfl (W.mv rfl ?_)
            refine W.nil ?_
            refine Ev.ret ?_
            exact ⟨(w19, 0), h, Wk.nrmTo [3, 4, 131074, 131075, 131077, 131080, 131092, 131093, 131094] [(13, 10400), (10303, 10401), (10304, 10402), (10305, 10403)] rfl rfl⟩
          ·intro ⟨w16, x17⟩ h
           try dsimp only at h ⊢
           unfold sandbox_Run_j4 at h
           refine ⟨_, rfl, ?_⟩
           refine Sq.wEnd (Nat.le_of_ble_eq_true rfl) ?_
           refine W.extract rfl rfl (W.extract rfl rfl ?_)
           refine W.mv rfl (W.mv rfl ?_)
           refine W.nil ?_
           refine Ev.ret ?_
           exact ⟨(w16, x17), h, Wk.nrmTo [8, 9, 65538, 65539, 65541, 65544, 65556, 65557, 65558] [(10400, 10200), (10401, 10201), (10402, 10202), (10403, 10203)] rfl rfl⟩
         ·replace h := iteF h c17
          refine Ev.skip ?_
          refine Ev.seq ?_
          refine Ev.regS rfl ?_
          refine Sq.w 2 (Nat.le_of_ble_eq_true rfl) ?_
          refine W.mv rfl ?_
          refine W.mkSlice (dt := true) (es := [[.str ([110, 111] : List UInt8)]]) rfl rfl rfl rfl rfl rfl ?_
          refine W.nil ?_
          refine Sq.weak (st' := ⟨[(62, .fn 105 [] [.pown 10300 0 0 0]), (63, .own 10302 0), (65538, .pown 10303 0 0 0), (65539, .pown 10304 0 0 0), (65541, .pown 10305 0 0 0), (65544, .int .i64 x3), (65556, .list 2 (List.map SKindText.cells a0.Ops)), (65557, .int .i64 (a0.Ops.length : Int)), (65558, .int .i64 x3)], [(10300, ⟨0, 23, 1, [[.own 10301 0]], false, false, false⟩), (10301, ⟨0, 9, 1, List.map cS w2, true, false, false⟩), (10302, ⟨0, 9, 1, List.map cS ([([110, 111] : List UInt8)] : List (List UInt8)), true, false, false⟩), (10303, ⟨0, 43, 3, [[.list 1 (List.map cS a0.Inputs), .list 2 (List.map SKindText.cells a0.Ops), .str a0.Output]], true, false, false⟩), (10304, ⟨0, 46, 1, [[.list 2 (List.map SPathLines.cells a1.Files)]], true, false, false⟩), (10305, ⟨0, 25, 2, [[.int .i64 0, .int .i64 0]], true, false, false⟩)], 2⟩) ?_ (Wk.nrmTo [62, 63, 65538, 65539, 65541, 65544, 65556, 65557, 65558] [(10302, 10300), (10303, 10301), (63, 10302), (10304, 10303), (10305, 10304), (10306, 10305)] rfl rfl)
          refine Sq.callv (f := 105) rfl Tryd.b_sandbox_step_1 Tryd.c_sandbox_step_1 ⟨_, _, _, rfl, Nat.le_of_ble_eq_true rfl, ?_⟩
          unfold Tryd.l_sandbox_step_1
          refine Ev.retJ (γ := (List (List UInt8)) × Int) (fun v => ⟨[(3, .own 10400 0), (4, .int .i64 v.2), (131074, .pown 10401 0 0 0), (131075, .pown 10402 0 0 0), (131077, .pown 10403 0 0 0), (131080, .int .i64 x3), (131092, .list 2 (List.map SKindText.cells a0.Ops)), (131093, .int .i64 (a0.Ops.length : Int)), (131094, .int .i64 x3)], [(10400, ⟨0, 9, 1, List.map cS v.1, true, false, false⟩), (10401, ⟨0, 43, 3, [[.list 1 (List.map cS a0.Inputs), .list 2 (List.map SKindText.cells a0.Ops), .str a0.Output]], true, false, false⟩), (10402, ⟨0, 46, 1, [[.list 2 (List.map SPathLines.cells a1.Files)]], true, false, false⟩), (10403, ⟨0, 25, 2, [[.int .i64 0, .int .i64 0]], true, false, false⟩)], 2⟩) (fun v => sandbox_Run_j5 n x3 (sandbox_Run_l1 n a0 a1 m1) v.1 v.2 = some r) ?_ ?_
          ·refine Ev.seq ?_
           refine W.reg hm ?_
           refine W.mv rfl (W.mv rfl ?_)
           refine W.nil ?_
           refine Ev.seq (Ev.seq ?_)
           refine W.reg hm ?_
           refine W.loadO (p := .own 10301 0) rfl rfl rfl rfl ?_
           refine W.lenO (l := w2) (c := cS) rfl rfl rfl ?_
           refine W.mv rfl ?_
           refine W.lenO (l := ([([110, 111] : List UInt8)] : List (List UInt8))) (c := cS) rfl rfl rfl ?_
           obtain ⟨x22, k21, h⟩ := obind h
           refine W.addG rfl rfl k21 ?_
           refine W.gtr rfl rfl (W.nil ?_)
           refine Ev.cond rfl (fun c22 => ?_) (fun c22 => ?_)
           ·replace h := iteT h c22
            refine Ev.seq ?_
            refine W.reg hm ?_
            refine W.mv rfl (W.mv rfl ?_)
            refine W.nil ?_
            refine Ev.ret ?_
            exact ⟨(([] : List (List UInt8)), 10), h, (Wk.ownNil 3 30400 9 1 rfl rfl true).trans (Wk.nrmTo [3, 4, 131074, 131075, 131077, 131080, 131092, 131093, 131094] [(30400, 10400), (10303, 10401), (10304, 10402), (10305, 10403)] rfl rfl)⟩
           ·replace h := iteF h c22
            refine Ev.skip ?_
            refine Ev.seq ?_
            refine W.reg hm ?_
            refine W.loadO (p := .own 10301 0) rfl rfl rfl rfl ?_
            refine W.mv rfl ?_
            obtain ⟨w23, k23, h⟩ := obind h
            refine W.appR true (l := w2) (c := cS) (ys := ([([110, 111] : List UInt8)] : List (List UInt8))) rfl rfl rfl rfl rfl rfl rfl rfl k23 rfl (by simp) ?_
            refine W.mv rfl (W.mv rfl ?_)
            refine W.nil ?_
            refine Ev.ret ?_
            exact ⟨(w23, 0), h, Wk.nrmTo [3, 4, 131074, 131075, 131077, 131080, 131092, 131093, 131094] [(13, 10400), (10303, 10401), (10304, 10402), (10305, 10403)] rfl rfl⟩
          ·intro ⟨w20, x21⟩ h
           try dsimp only at h ⊢
           unfold sandbox_Run_j5 at h
           refine ⟨_, rfl, ?_⟩
           refine Sq.wEnd (Nat.le_of_ble_eq_true rfl) ?_
           refine W.extract rfl rfl (W.extract rfl rfl ?_)
           refine W.mv rfl (W.mv rfl ?_)
           refine W.nil ?_
           refine Ev.ret ?_
           exact ⟨(w20, x21), h, Wk.nrmTo [8, 9, 65538, 65539, 65541, 65544, 65556, 65557, 65558] [(10400, 10200), (10401, 10201), (10402, 10202), (10403, 10203)] rfl rfl⟩
        ·replace h := iteF h c16
         refine Ev.seq ?_
         refine W.reg hm ?_
         refine W.eql rfl rfl (W.mv rfl ?_)
         refine W.nil ?_
         refine Ev.cond rfl (fun c24 => ?_) (fun c24 => ?_)
         ·replace h := iteT h c24
          refine Ev.seq ?_
          refine Ev.regS rfl ?_
          refine Sq.w 4 (Nat.le_of_ble_eq_true rfl) ?_
          refine W.mv rfl (W.fieldAddrO rfl rfl ?_)
          refine W.loadO (p := .str e4.Text) rfl rfl rfl rfl ?_
          refine W.mkSlice (dt := true) (es := [[.str e4.Text]]) rfl rfl rfl rfl rfl rfl ?_
          refine W.nil ?_
          refine Sq.weak (st' := ⟨[(69, .fn 105 [] [.pown 10300 0 0 0]), (72, .own 10302 0), (65538, .pown 10303 0 0 0), (65539, .pown 10304 0 0 0), (65541, .pown 10305 0 0 0), (65544, .int .i64 x3), (65556, .list 2 (List.map SKindText.cells a0.Ops)), (65557, .int .i64 (a0.Ops.length : Int)), (65558, .int .i64 x3)], [(10300, ⟨0, 23, 1, [[.own 10301 0]], false, false, false⟩), (10301, ⟨0, 9, 1, List.map cS w2, true, false, false⟩), (10302, ⟨0, 9, 1, List.map cS ([e4.Text] : List (List UInt8)), true, false, false⟩), (10303, ⟨0, 43, 3, [[.list 1 (List.map cS a0.Inputs), .list 2 (List.map SKindText.cells a0.Ops), .str a0.Output]], true, false, false⟩), (10304, ⟨0, 46, 1, [[.list 2 (List.map SPathLines.cells a1.Files)]], true, false, false⟩), (10305, ⟨0, 25, 2, [[.int .i64 0, .int .i64 0]], true, false, false⟩)], 2⟩) ?_ (Wk.nrmTo [69, 72, 65538, 65539, 65541, 65544, 65556, 65557, 65558] [(10302, 10300), (10303, 10301), (72, 10302), (10304, 10303), (10305, 10304), (10306, 10305)] rfl rfl)
          refine Sq.callv (f := 105) rfl Tryd.b_sandbox_step_1 Tryd.c_sandbox_step_1 ⟨_, _, _, rfl, Nat.le_of_ble_eq_true rfl, ?_⟩
          unfold Tryd.l_sandbox_step_1
          refine Ev.retJ (γ := (List (List UInt8)) × Int) (fun v => ⟨[(3, .own 10400 0), (4, .int .i64 v.2), (131074, .pown 10401 0 0 0), (131075, .pown 10402 0 0 0), (131077, .pown 10403 0 0 0), (131080, .int .i64 x3), (131092, .list 2 (List.map SKindText.cells a0.Ops)), (131093, .int .i64 (a0.Ops.length : Int)), (131094, .int .i64 x3)], [(10400, ⟨0, 9, 1, List.map cS v.1, true, false, false⟩), (10401, ⟨0, 43, 3, [[.list 1 (List.map cS a0.Inputs), .list 2 (List.map SKindText.cells a0.Ops), .str a0.Output]], true, false, false⟩), (10402, ⟨0, 46, 1, [[.list 2 (List.map SPathLines.cells a1.Files)]], true, false, false⟩), (10403, ⟨0, 25, 2, [[.int .i64 0, .int .i64 0]], true, false, false⟩)], 2⟩) (fun v => sandbox_Run_j6 n x3 (sandbox_Run_l1 n a0 a1 m1) v.1 v.2 = some r) ?_ ?_
          ·refine Ev.seq ?_
           refine W.reg hm ?_
           refine W.mv rfl (W.mv rfl ?_)
           refine W.nil ?_
           refine Ev.seq (Ev.seq ?_)
           refine W.reg hm ?_
           refine W.loadO (p := .own 10301 0) rfl rfl rfl rfl ?_
           refine W.lenO (l := w2) (c := cS) rfl rfl rfl ?_
           refine W.mv rfl ?_
           refine W.lenO (l := ([e4.Text] : List (List UInt8))) (c := cS) rfl rfl rfl ?_
           obtain ⟨x26, k25, h⟩ := obind h
           refine W.addG rfl rfl k25 ?_
           refine W.gtr rfl rfl (W.nil ?_)
           refine Ev.cond rfl (fun c26 => ?_) (fun c26 => ?_)
           ·replace h := iteT h c26
            refine Ev.seq ?_
            refine W.reg hm ?_
            refine W.mv rfl (W.mv rfl ?_)
            refine W.nil ?_
            refine Ev.ret ?_
            exact ⟨(([] : List (List UInt8)), 10), h, (Wk.ownNil 3 30400 9 1 rfl rfl true).trans (Wk.nrmTo [3, 4, 131074, 131075, 131077, 131080, 131092, 131093, 131094] [(30400, 10400), (10303, 10401), (10304, 10402), (10305, 10403)] rfl rfl)⟩
           ·replace h := iteF h c26
            refine Ev.skip ?_
            refine Ev.seq ?_
            refine W.reg hm ?_
            refine W.loadO (p := .own 10301 0) rfl rfl rfl rfl ?_
            refine W.mv rfl ?_
            obtain ⟨w27, k27, h⟩ := obind h
            refine W.appR true (l := w2) (c := cS) (ys := ([e4.Text] : List (List UInt8))) rfl rfl rfl rfl rfl rfl rfl rfl k27 rfl (by simp) ?_
            refine W.mv rfl (W.mv rfl ?_)
            refine W.nil ?_
            refine Ev.ret ?_
            exact ⟨(w27, 0), h, Wk.nrmTo [3, 4, 131074, 131075, 131077, 131080, 131092, 131093, 131094] [(13, 10400), (10303, 10401), (10304, 10402), (10305, 10403)] rfl rfl⟩
          ·intro ⟨w24, x25⟩ h
           try dsimp only at h ⊢
           unfold sandbox_Run_j6 at h
           refine ⟨_, rfl, ?_⟩
           refine Sq.wEnd (Nat.le_of_ble_eq_true rfl) ?_
           refine W.extract rfl rfl (W.extract rfl rfl ?_)
           refine W.mv rfl (W.mv rfl ?_)
           refine W.nil ?_
           refine Ev.ret ?_
           exact ⟨(w24, x25), h, Wk.nrmTo [8, 9, 65538, 65539, 65541, 65544, 65556, 65557, 65558] [(10400, 10200), (10401, 10201), (10402, 10202), (10403, 10203)] rfl rfl⟩
         ·replace h := iteF h c24
          refine Ev.seq ?_
          refine W.reg hm ?_
          refine W.eql rfl rfl (W.mv rfl ?_)
          refine W.nil ?_
          refine Ev.cond rfl (fun c28 => ?_) (fun c28 => ?_)
          ·replace h := iteT h c28
           refine Ev.seq ?_
           refine Ev.regS rfl ?_
           refine Sq.w 1 (Nat.le_of_ble_eq_true rfl) ?_
           refine W.loadO (p := .own 10303 0) rfl rfl rfl rfl ?_
           refine W.nil ?_
           refine Sq.call rfl Tryd.c_slices_Reverse_string ⟨_, rfl, Nat.le_of_ble_eq_true rfl, ?_⟩
           unfold Tryd.l_slices_Reverse_string
           refine Ev.retJ (γ := List (List UInt8)) (fun v => ⟨[(65543, .pown 10400 0 0 0), (131074, .pown 10402 0 0 0), (131075, .pown 10403 0 0 0), (131077, .pown 10404 0 0 0), (131080, .int .i64 x3), (131092, .list 2 (List.map SKindText.cells a0.Ops)), (131093, .int .i64 (a0.Ops.length : Int)), (131094, .int .i64 x3)], [(10400, ⟨0, 23, 1, [[.own 10401 0]], false, false, false⟩), (10401, ⟨0, 9, 1, List.map cS v, true, false, false⟩), (10402, ⟨0, 43, 3, [[.list 1 (List.map cS a0.Inputs), .list 2 (List.map SKindText.cells a0.Ops), .str a0.Output]], true, false, false⟩), (10403, ⟨0, 46, 1, [[.list 2 (List.map SPathLines.cells a1.Files)]], true, false, false⟩), (10404, ⟨0, 25, 2, [[.int .i64 0, .int .i64 0]], true, false, false⟩)], 2⟩) (fun v => sandbox_Run_j7 n x3 (sandbox_Run_l1 n a0 a1 m1) v = some r) ?_ ?_
           ·refine Ev.seq ?_
            refine W.reg hm ?_
            refine W.mv rfl ?_
            refine W.lenO (l := w2) (c := cS) rfl rfl rfl ?_
            obtain ⟨x29, k29, h⟩ := obind h
            refine W.subG rfl rfl k29 ?_
            refine W.mv rfl (W.mv rfl ?_)
            refine W.nil ?_
            refine Ev.block ?_
            refine Ev.loopW (β := Nat × (List (List UInt8)) × Int × Int) (fun v => ⟨[(0, .own 10500 0), (2, .int .i64 v.2.2.1), (3, .int .i64 v.2.2.2), (65543, .pown 10501 0 0 0), (131074, .pown 10502 0 0 0), (131075, .pown 10503 0 0 0), (131077, .pown 10504 0 0 0), (131080, .int .i64 x3), (131092, .list 2 (List.map SKindText.cells a0.Ops)), (131093, .int .i64 (a0.Ops.length : Int)), (131094, .int .i64 x3)], [(10500, ⟨0, 9, 1, List.map cS v.2.1, true, false, false⟩), (10501, ⟨0, 23, 1, [[.own 10500 0]], false, false, false⟩), (10502, ⟨0, 43, 3, [[.list 1 (List.map cS a0.Inputs), .list 2 (List.map SKindText.cells a0.Ops), .str a0.Output]], true, false, false⟩), (10503, ⟨0, 46, 1, [[.list 2 (List.map SPathLines.cells a1.Files)]], true, false, false⟩), (10504, ⟨0, 25, 2, [[.int .i64 0, .int .i64 0]], true, false, false⟩)], 2⟩) (fun v => sandbox_Run_l2 n x3 (sandbox_Run_l1 n a0 a1 m1) v.1 v.2.1 v.2.2.1 v.2.2.2 = some r) (fun v => v.1) (n, w2, 0, x29) (Wk.nrmTo [0, 2, 3, 65543, 131074, 131075, 131077, 131080, 131092, 131093, 131094] [(10303, 10500), (10302, 10501), (10304, 10502), (10305, 10503), (10306, 10504)] rfl rfl) h ?_
            intro ⟨m2, w30, x31, x32⟩ h
            try dsimp only at h ⊢
            cases m2 with
            | zero => rw [sandbox_Run_l2] at h; cases h
            | succ m2 =>
             rw [sandbox_Run_l2] at h
             refine Ev.seq (Ev.seq ?_)
             refine W.reg hm ?_
             refine W.mv rfl (W.mv rfl ?_)
             refine W.lss rfl rfl (W.nil ?_)
             refine Ev.cond rfl (fun c30 => ?_) (fun c30 => ?_)
             ·replace h := iteT h c30
              refine Ev.skip ?_
              refine Ev.seq ?_
              refine Ev.block ?_
              refine W.regD hm ?_
              refine W.mv rfl (W.mv rfl ?_)
              refine W.mv rfl (W.mv rfl ?_)
              refine W.mv rfl (W.mv rfl ?_)
              obtain ⟨e33, k31, h⟩ := obind h
              refine W.idxR (l := w30) (c := cS) rfl rfl rfl rfl rfl k31 ?_
              refine W.loadR (l := w30) (c := cS) (v := e33) (p := .str e33) rfl rfl rfl (gidx_some k31).2 rfl ?_
              refine W.mv rfl (W.mv rfl ?_)
              obtain ⟨e34, k32, h⟩ := obind h
              refine W.idxR (l := w30) (c := cS) rfl rfl rfl rfl rfl k32 ?_
              refine W.loadR (l := w30) (c := cS) (v := e34) (p := .str e34) rfl rfl rfl (gidx_some k32).2 rfl ?_
              refine W.idxR (l := w30) (c := cS) rfl rfl rfl rfl rfl k32 ?_
              refine W.storeR true (l := w30) (c := cS) (v := e34) (v' := e33) rfl rfl rfl rfl (gidx_some k32).2 rfl (Nat.le_of_ble_eq_true rfl) rfl rfl rfl ?_
              obtain ⟨e35, k33, h⟩ := obind h
              refine W.idxR (l := (gset w30 x31 e33)) (c := cS) rfl rfl rfl rfl rfl k33 ?_
              refine W.storeR true (l := (gset w30 x31 e33)) (c := cS) (v := e35) (v' := e34) rfl rfl rfl rfl (gidx_some k33).2 rfl (Nat.le_of_ble_eq_true rfl) rfl rfl rfl ?_
              refine W.nil ⟨rfl, ?_⟩
              refine W.reg hm ?_
              refine W.mv rfl ?_
              obtain ⟨x36, k34, h⟩ := obind h
              refine W.addG rfl rfl k34 ?_
              refine W.mv rfl ?_
              obtain ⟨x37, k35, h⟩ := obind h
              refine W.subG rfl rfl k35 ?_
              refine W.mv rfl (W.mv rfl ?_)
              refine W.nil ?_
              exact ⟨(m2, (gset (gset w30 x31 e33) x32 e34), x36, x37), h, Nat.lt_succ_self _, Wk.nrmTo [0, 2, 3, 65543, 131074, 131075, 131077, 131080, 131092, 131093, 131094] [(10500, 10500), (10501, 10501), (10502, 10502), (10503, 10503), (10504, 10504)] rfl rfl⟩
             ·replace h := iteF h c30
              refine Ev.exit ?_
              exact ⟨w30, h, Wk.nrmTo [65543, 131074, 131075, 131077, 131080, 131092, 131093, 131094] [(10501, 10400), (10500, 10401), (10502, 10402), (10503, 10403), (10504, 10404)] rfl rfl⟩
           ·intro w28 h
            try dsimp only at h ⊢
            unfold sandbox_Run_j7 at h
            refine ⟨_, rfl, ?_⟩
            refine Sq.wEnd (Nat.le_of_ble_eq_true rfl) ?_
            refine W.nil ?_
            refine Ev.seq ?_
            refine W.reg hm ?_
            refine W.loadO (p := .own 10401 0) rfl rfl rfl rfl ?_
            refine W.mv rfl (W.mv rfl ?_)
            refine W.nil ?_
            refine Ev.ret ?_
            exact ⟨(w28, 0), h, Wk.nrmTo [8, 9, 65538, 65539, 65541, 65544, 65556, 65557, 65558] [(10401, 10200), (10402, 10201), (10403, 10202), (10404, 10203)] rfl rfl⟩
          ·replace h := iteF h c28
           refine Ev.skip ?_
           refine Ev.seq ?_
           refine Ev.weak ?_ (Wk.frz 10303 0 rfl rfl)
           refine W.reg hm ?_
           refine W.loadO (p := .list 1 (List.map cS w2)) rfl rfl rfl rfl ?_
           obtain ⟨r38, k36, h⟩ := obind h
           refine W.callO (sandbox_unique_spec n w2 r38 k36) rfl (Les.refl _) rfl rfl rfl ?_
           refine W.mv rfl (W.mv rfl ?_)
           refine W.nil ?_
           refine Ev.ret ?_
           exact ⟨(r38, 0), h, Wk.nrmTo [8, 9, 65538, 65539, 65541, 65544, 65556, 65557, 65558] [(82, 10200), (10304, 10201), (10305, 10202), (10306, 10203)] rfl rfl⟩
    ·intro ⟨w5, x6⟩ h
     try dsimp only at h ⊢
     unfold sandbox_Run_j1 at h
     refine ⟨_, rfl, ?_⟩
     refine Sq.wEnd (Nat.le_of_ble_eq_true rfl) ?_
     refine W.mv rfl (W.extract rfl rfl ?_)
     refine W.extract rfl rfl (W.mv rfl ?_)
     refine W.mv rfl (W.nil ?_)
     refine Ev.seq (Ev.seq ?_)
     refine W.reg hm ?_
     refine W.mv rfl (W.neq rfl rfl ?_)
     refine W.nil ?_
     refine Ev.cond rfl (fun c5 => ?_) (fun c5 => ?_)
     ·replace h := iteT h c5
      refine Ev.seq ?_
      refine W.reg hm ?_
      refine W.mv rfl (W.mv rfl ?_)
      obtain ⟨x7, k6, h⟩ := obind h
      refine W.subG rfl rfl k6 ?_
      refine W.build (cs := [.int .i64 x6, .int .i64 x7]) rfl rfl rfl ?_
      refine W.mv rfl ?_
      refine W.store (es' := [[.int .i64 x6, .int .i64 x7]]) (dt := true) rfl rfl rfl rfl rfl (Nat.le_of_ble_eq_true rfl) rfl rfl rfl rfl ?_
      refine W.nil ?_
      refine Ev.weak ?_ (Wk.ownNil 4 69999 9 1 rfl rfl)
      refine Ev.weak ?_ (Wk.frz 10203 0 rfl rfl)
      refine Ev.ret ?_
      injection h with h; subst h
      exact ⟨_, [.own 70000 0, .agg [.int .i64 x6, .int .i64 x7]], Wk.nrmTo [4, 5] [(69999, 70000)] rfl rfl, rfl, rfl, rfl, .refl _, fun nm h => by simp [PW.look] at h⟩
     ·replace h := iteF h c5
      refine Ev.skip ?_
      refine W.reg hm ?_
      refine W.mv rfl (W.mv rfl ?_)
      refine W.nil ?_
      refine W.reg hm ?_
      obtain ⟨x8, k7, h⟩ := obind h
      refine W.addG rfl rfl k7 ?_
      refine W.mv rfl (W.nil ?_)
      exact ⟨(m1, w5, x8), h, Nat.lt_succ_self _, Wk.nrmTo [2, 3, 5, 7, 20, 21, 22] [(10201, 10100), (10202, 10101), (10203, 10102), (10200, 10103)] rfl rfl⟩
   ·replace h := iteF h c3
    refine Ev.exit ?_
    refine Ev.seq ?_
    refine W.reg hm ?_
    refine W.mv rfl ?_
    refine W.build (cs := [.int .i64 0, .int .i64 0]) rfl rfl rfl ?_
    refine W.mv rfl ?_
    refine W.store (es' := [[.int .i64 0, .int .i64 0]]) (dt := true) rfl rfl rfl rfl rfl (Nat.le_of_ble_eq_true rfl) rfl rfl rfl rfl ?_
    refine W.nil ?_
    refine Ev.weak ?_ (Wk.frz 10102 0 rfl rfl)
    refine Ev.ret ?_
    injection h with h; subst h
    exact ⟨_, [.own 70000 0, .agg [.int .i64 0, .int .i64 0]], Wk.nrmTo [4, 5] [(10103, 70000)] rfl rfl, rfl, rfl, rfl, .refl _, fun nm h => by simp [PW.look] at h⟩
set_option maxHeartbeats 4000000 in
theorem actioncache_Run_spec (n : Nat) (a0 : List SKeyLines) (a1 : SInputsOpsOutput) (a2 : SFiles) (r : ((List (List UInt8)) × (List SKeyLines) × Bool × SCodeIndex)) (h : actioncache_Run n a0 a1 a2 = some r) : PSpec Tryd.prog 31 [.list 2 (List.map SKeyLines.cells a0), .agg (SInputsOpsOutput.cells a1), .agg (SFiles.cells a2)] (.tup [.list 1 (List.map cS r.1), .list 2 (List.map SKeyLines.cells r.2.1), .bool r.2.2.1, .agg (SCodeIndex.cells r.2.2.2)]) := by
 unfold actioncache_Run at h
 refine spec_of Tryd.c_actioncache_Run (by simp) ?_
 unfold Tryd.l_actioncache_Run
 refine Ev.seq ?_
 refine W.reg hm ?_
 refine W.box (dt := true) (cs := [.list 1 (List.map cS a1.Inputs), .list 2 (List.map SKindText.cells a1.Ops), .str a1.Output]) rfl rfl rfl rfl rfl rfl ?_
 refine W.box (dt := true) (cs := [.list 2 (List.map SPathLines.cells a2.Files)]) rfl rfl rfl rfl rfl rfl ?_
 refine W.mv rfl (W.mv rfl ?_)
 refine W.mv rfl ?_
 refine W.alloc (dt := true) rfl rfl rfl ?_
 refine W.nil ?_
 refine Ev.seq (Ev.seq ?_)
 refine W.reg hm ?_
 refine W.mv rfl ?_
 obtain ⟨r1, k1, h⟩ := obind h
 refine W.call (actioncache_Validate_spec n a0 r1 k1) rfl rfl (Les.refl _) rfl (.inl rfl) rfl ?_
 refine W.alloc (dt := true) rfl rfl rfl ?_
 refine W.store (es' := [[.int .i64 r1.Code, .int .i64 r1.Index]]) (dt := true) rfl rfl rfl rfl rfl (Nat.le_of_ble_eq_true rfl) rfl rfl rfl rfl ?_
 refine W.nil ?_
 refine Ev.seq ?_
 refine W.reg hm ?_
 refine W.loadO (p := .agg [.int .i64 r1.Code, .int .i64 r1.Index]) rfl rfl rfl rfl ?_
 refine W.build (cs := [.int .i64 0, .int .i64 0]) rfl rfl rfl ?_
 refine W.eqs rfl rfl rfl (W.nil ?_)
 refine Ev.cond rfl (fun c2 => ?_) (fun c2 => ?_)
 ·replace h := iteT h c2
  refine Ev.seq ?_
  refine W.regD hm ?_
  refine W.loadO (p := .agg [.int .i64 r1.Code, .int .i64 r1.Index]) rfl rfl rfl rfl ?_
  refine W.mv rfl (W.mv rfl ?_)
  refine W.mv rfl ?_
  refine W.store (es' := [[.int .i64 r1.Code, .int .i64 r1.Index]]) (dt := true) rfl rfl rfl rfl rfl (Nat.le_of_ble_eq_true rfl) rfl rfl rfl rfl ?_
  refine W.nil ⟨rfl, ?_⟩
  refine Ev.ret ?_
  injection h with h; subst h
  exact ⟨_, rfl, Le.tups (.cons (.nils 1) (.cons (.nils 2) (.cons (.refl _) (.cons (.refl _) (.nil)))))⟩
 ·replace h := iteF h c2
  refine Ev.skip ?_
  refine Ev.seq ?_
  refine W.reg hm ?_
  refine W.loadO (p := .agg [.list 1 (List.map cS a1.Inputs), .list 2 (List.map SKindText.cells a1.Ops), .str a1.Output]) rfl rfl rfl rfl ?_
  refine W.loadO (p := .agg [.list 2 (List.map SPathLines.cells a2.Files)]) rfl rfl rfl rfl ?_
  obtain ⟨r2, k3, h⟩ := obind h
  refine W.call (actioncache_Key_spec n a1 a2 r2 k3) rfl rfl (Les.refl _) rfl (.inl rfl) rfl ?_
  refine W.mv rfl (W.extract rfl rfl ?_)
  refine W.extract rfl rfl ?_
  refine W.alloc (dt := true) rfl rfl rfl ?_
  refine W.mv rfl ?_
  refine W.store (es' := [[.int .i64 r2.2.Code, .int .i64 r2.2.Index]]) (dt := true) rfl rfl rfl rfl rfl (Nat.le_of_ble_eq_true rfl) rfl rfl rfl rfl ?_
  refine W.nil ?_
  refine Ev.seq (Ev.seq ?_)
  refine W.reg hm ?_
  refine W.loadO (p := .agg [.int .i64 r2.2.Code, .int .i64 r2.2.Index]) rfl rfl rfl rfl ?_
  refine W.build (cs := [.int .i64 0, .int .i64 0]) rfl rfl rfl ?_
  refine W.eqs rfl rfl rfl (W.nil ?_)
  refine Ev.cond rfl (fun c4 => ?_) (fun c4 => ?_)
  ·replace h := iteT h c4
   refine Ev.seq ?_
   refine W.regD hm ?_
   refine W.loadO (p := .agg [.int .i64 r2.2.Code, .int .i64 r2.2.Index]) rfl rfl rfl rfl ?_
   refine W.mv rfl (W.mv rfl ?_)
   refine W.mv rfl ?_
   refine W.store (es' := [[.int .i64 r2.2.Code, .int .i64 r2.2.Index]]) (dt := true) rfl rfl rfl rfl rfl (Nat.le_of_ble_eq_true rfl) rfl rfl rfl rfl ?_
   refine W.nil ⟨rfl, ?_⟩
   refine Ev.ret ?_
   injection h with h; subst h
   exact ⟨_, rfl, Le.tups (.cons (.nils 1) (.cons (.nils 2) (.cons (.refl _) (.cons (.refl _) (.nil)))))⟩
  ·replace h := iteF h c4
   refine Ev.skip ?_
   refine Ev.seq (Ev.seq ?_)
   refine W.reg hm ?_
   refine W.mv rfl (W.mv rfl ?_)
   obtain ⟨r3, k5, h⟩ := obind h
   refine W.call (actioncache_Lookup_spec n a0 r2.1 r3 k5) rfl rfl (Les.refl _) rfl (.inl rfl) rfl ?_
   refine W.mv rfl (W.extract rfl rfl ?_)
   refine W.extract rfl rfl (W.extract rfl rfl ?_)
   refine W.alloc (dt := true) rfl rfl rfl ?_
   refine W.mv rfl (W.mv rfl ?_)
   refine W.store (es' := [[.int .i64 r3.2.2.Code, .int .i64 r3.2.2.Index]]) (dt := true) rfl rfl rfl rfl rfl (Nat.le_of_ble_eq_true rfl) rfl rfl rfl rfl ?_
   refine W.nil ?_
   refine Ev.seq ?_
   refine W.reg hm ?_
   refine W.mv rfl (W.nil ?_)
   refine Ev.cond rfl (fun c6 => ?_) (fun c6 => ?_)
   ·replace h := iteT h c6
    refine Ev.seq ?_
    refine W.reg hm ?_
    refine W.mv rfl (W.mv rfl ?_)
    obtain ⟨r4, k7, h⟩ := obind h
    refine W.callO (actioncache_clone_spec n a0 r4 k7) rfl (Les.refl _) rfl rfl rfl ?_
    refine W.build (cs := [.int .i64 0, .int .i64 0]) rfl rfl rfl ?_
    refine W.mv rfl (W.mv rfl ?_)
    refine W.mv rfl ?_
    refine W.store (es' := [[.int .i64 0, .int .i64 0]]) (dt := true) rfl rfl rfl rfl rfl (Nat.le_of_ble_eq_true rfl) rfl rfl rfl rfl ?_
    refine W.nil ?_
    refine Ev.ret ?_
    injection h with h; subst h
    exact ⟨_, rfl, .refl _⟩
   ·replace h := iteF h c6
    refine Ev.skip ?_
    refine Ev.seq ?_
    refine W.reg hm ?_
    refine W.loadO (p := .agg [.list 1 (List.map cS a1.Inputs), .list 2 (List.map SKindText.cells a1.Ops), .str a1.Output]) rfl rfl rfl rfl ?_
    refine W.loadO (p := .agg [.list 2 (List.map SPathLines.cells a2.Files)]) rfl rfl rfl rfl ?_
    obtain ⟨r5, k8, h⟩ := obind h
    refine W.callOT (res' := .tup [.own 49 2, .agg [.int .i64 r5.2.Code, .int .i64 r5.2.Index]]) (sandbox_Run_spec n a1 a2 r5 k8) rfl (Les.refl _) rfl rfl rfl rfl rfl ?_
    refine W.mv rfl (W.extract rfl rfl ?_)
    refine W.extract rfl rfl (W.mv rfl ?_)
    refine W.store (es' := [[.int .i64 r5.2.Code, .int .i64 r5.2.Index]]) (dt := true) rfl rfl rfl rfl rfl (Nat.le_of_ble_eq_true rfl) rfl rfl rfl rfl ?_
    refine W.nil ?_
    refine Ev.seq (Ev.seq ?_)
    refine W.reg hm ?_
    refine W.loadO (p := .agg [.int .i64 r5.2.Code, .int .i64 r5.2.Index]) rfl rfl rfl rfl ?_
    refine W.build (cs := [.int .i64 0, .int .i64 0]) rfl rfl rfl ?_
    refine W.eqs rfl rfl rfl (W.nil ?_)
    refine Ev.cond rfl (fun c9 => ?_) (fun c9 => ?_)
    ·replace h := iteT h c9
     refine Ev.seq ?_
     refine W.regD hm ?_
     refine W.loadO (p := .agg [.int .i64 r5.2.Code, .int .i64 r5.2.Index]) rfl rfl rfl rfl ?_
     refine W.mv rfl (W.mv rfl ?_)
     refine W.mv rfl ?_
     refine W.store (es' := [[.int .i64 r5.2.Code, .int .i64 r5.2.Index]]) (dt := true) rfl rfl rfl rfl rfl (Nat.le_of_ble_eq_true rfl) rfl rfl rfl rfl ?_
     refine W.nil ⟨rfl, ?_⟩
     refine Ev.ret ?_
     injection h with h; subst h
     exact ⟨_, rfl, Le.tups (.cons (.nils 1) (.cons (.nils 2) (.cons (.refl _) (.cons (.refl _) (.nil)))))⟩
    ·replace h := iteF h c9
     refine Ev.skip ?_
     refine Ev.seq ?_
     refine Ev.weak ?_ (Wk.frz 49 2 rfl rfl)
     refine W.reg hm ?_
     refine W.mv rfl (W.mv rfl ?_)
     refine W.mv rfl ?_
     obtain ⟨r6, k10, h⟩ := obind h
     refine W.call (actioncache_Store_spec n a0 r2.1 r5.1 r6 k10) rfl rfl (Les.refl _) rfl (.inl rfl) rfl ?_
     refine W.mv rfl (W.extract rfl rfl ?_)
     refine W.extract rfl rfl (W.mv rfl ?_)
     refine W.store (es' := [[.int .i64 r6.2.Code, .int .i64 r6.2.Index]]) (dt := true) rfl rfl rfl rfl rfl (Nat.le_of_ble_eq_true rfl) rfl rfl rfl rfl ?_
     refine W.nil ?_
     refine Ev.seqJ (γ := List SKeyLines) (fun v => ⟨[(9, .pown 10100 0 0 0), (16, .list 1 (List.map cS r5.1)), (17, .list 2 (List.map SKeyLines.cells v))], [(10100, ⟨0, 25, 2, [[.int .i64 0, .int .i64 0]], true, false, false⟩)], 2⟩) (fun v => actioncache_Run_j1 n r5 v = some r) ?_ ?_
     ·refine Ev.seq ?_
      refine W.reg hm ?_
      refine W.loadO (p := .agg [.int .i64 r6.2.Code, .int .i64 r6.2.Index]) rfl rfl rfl rfl ?_
      refine W.build (cs := [.int .i64 0, .int .i64 0]) rfl rfl rfl ?_
      refine W.eqs rfl rfl rfl (W.nil ?_)
      refine Ev.cond rfl (fun c11 => ?_) (fun c11 => ?_)
      ·replace h := iteT h c11
       refine W.reg hm ?_
       refine W.mv rfl ?_
       obtain ⟨r8, k12, h⟩ := obind h
       refine W.callO (actioncache_clone_spec n a0 r8 k12) rfl (Les.refl _) rfl rfl rfl ?_
       refine W.mv rfl (W.nil ?_)
       exact ⟨r8, h, (Wk.frz 67 2 rfl rfl).trans (Wk.nrmTo [9, 16, 17] [(9, 10100)] rfl rfl)⟩
      ·replace h := iteF h c11
       refine Ev.skip ?_
       exact ⟨r6.1, h, Wk.nrmTo [9, 16, 17] [(9, 10100)] rfl rfl⟩
     ·intro x7 h
      try dsimp only at h ⊢
      unfold actioncache_Run_j1 at h
      refine Ev.seq ?_
      refine W.reg hm ?_
      refine W.mv rfl (W.mv rfl ?_)
      refine W.build (cs := [.int .i64 0, .int .i64 0]) rfl rfl rfl ?_
      refine W.mv rfl (W.mv rfl ?_)
      refine W.mv rfl ?_
      refine W.store (es' := [[.int .i64 0, .int .i64 0]]) (dt := true) rfl rfl rfl rfl rfl (Nat.le_of_ble_eq_true rfl) rfl rfl rfl rfl ?_
      refine W.nil ?_
      refine Ev.ret ?_
      injection h with h; subst h
      exact ⟨_, rfl, .refl _⟩
theorem law6_action_spec (n : Nat) (r : SInputsOpsOutput) (h : law6_action n = some r) : PSpec Tryd.prog 50 [] (.agg (SInputsOpsOutput.cells r)) := by
 unfold law6_action at h
 refine spec_of Tryd.c_law6_action (by simp) ?_
 unfold Tryd.l_law6_action
 refine Ev.seq ?_
 refine W.reg hm ?_
 refine W.alloc (dt := true) rfl rfl rfl ?_
 refine W.nil ?_
 refine Ev.seq ?_
 refine W.reg hm ?_
 refine W.mkSlice (dt := true) (es := [[.str ([97] : List UInt8)]]) rfl rfl rfl rfl rfl rfl ?_
 refine W.build (cs := [.int .i64 1, .str ([97] : List UInt8)]) rfl rfl rfl ?_
 refine W.build (cs := [.int .i64 3, .str ([122] : List UInt8)]) rfl rfl rfl ?_
 refine W.build (cs := [.int .i64 4, .str ([] : List UInt8)]) rfl rfl rfl ?_
 refine W.mkSlice (dt := true) (es := [[.int .i64 1, .str ([97] : List UInt8)], [.int .i64 3, .str ([122] : List UInt8)], [.int .i64 4, .str ([] : List UInt8)]]) rfl rfl rfl rfl rfl rfl ?_
 refine W.build (cs := [.own 1 2, .own 5 2, .str ([98] : List UInt8)]) rfl rfl rfl ?_
 refine W.store (es' := [[.own 1 2, .own 5 2, .str ([98] : List UInt8)]]) (dt := false) rfl rfl rfl rfl rfl (Nat.le_of_ble_eq_true rfl) rfl rfl rfl rfl ?_
 refine W.nil ?_
 refine Ev.weak ?_ (Wk.frz 1 2 rfl rfl)
 refine Ev.weak ?_ (Wk.frz 5 2 rfl rfl)
 refine Ev.ret ?_
 injection h with h; subst h
 exact ⟨_, rfl, .refl _⟩
theorem law6_files_spec (n : Nat) (r : SFiles) (h : law6_files n = some r) : PSpec Tryd.prog 51 [] (.agg (SFiles.cells r)) := by
 unfold law6_files at h
 refine spec_of Tryd.c_law6_files (by simp) ?_
 unfold Tryd.l_law6_files
 refine Ev.seq ?_
 refine W.reg hm ?_
 refine W.alloc (dt := true) rfl rfl rfl ?_
 refine W.nil ?_
 refine Ev.seq ?_
 refine W.reg hm ?_
 refine W.mkSlice (dt := true) (es := [[.str ([120] : List UInt8)], [.str ([121] : List UInt8)]]) rfl rfl rfl rfl rfl rfl ?_
 refine W.build (cs := [.str ([97] : List UInt8), .own 1 2]) rfl rfl rfl ?_
 refine W.mkSlice (dt := false) (es := [[.str ([97] : List UInt8), .own 1 2]]) rfl rfl rfl rfl rfl rfl ?_
 refine W.build (cs := [.own 3 2]) rfl rfl rfl ?_
 refine W.store (es' := [[.own 3 2]]) (dt := false) rfl rfl rfl rfl rfl (Nat.le_of_ble_eq_true rfl) rfl rfl rfl rfl ?_
 refine W.nil ?_
 refine Ev.weak ?_ (Wk.frz 1 2 rfl rfl)
 refine Ev.weak ?_ (Wk.frz 3 2 rfl rfl)
 refine Ev.ret ?_
 injection h with h; subst h
 exact ⟨_, rfl, .refl _⟩
set_option maxHeartbeats 4000000 in
theorem law6_caches_spec (n : Nat) (r : Bool) (h : law6_caches n = some r) : PSpec Tryd.prog 16 [] (.bool r) := by
 unfold law6_caches at h
 refine spec_of Tryd.c_law6_caches (by simp) ?_
 unfold Tryd.l_law6_caches
 refine Ev.seq ?_
 refine W.reg hm ?_
 refine W.mv rfl (W.nil ?_)
 refine Ev.seq ?_
 refine W.reg hm ?_
 obtain ⟨r1, k1, h⟩ := obind h
 refine W.call (law6_action_spec n r1 k1) rfl rfl (Les.refl _) rfl (.inl rfl) rfl ?_
 obtain ⟨r2, k2, h⟩ := obind h
 refine W.call (law6_files_spec n r2 k2) rfl rfl (Les.refl _) rfl (.inl rfl) rfl ?_
 obtain ⟨r3, k3, h⟩ := obind h
 refine W.call (actioncache_Run_spec n ([] : List SKeyLines) r1 r2 r3 k3) rfl rfl (.cons (.nils 2) (.cons (.refl _) (.cons (.refl _) (.nil)))) rfl (.inl rfl) rfl ?_
 refine W.mv rfl (W.extract rfl rfl ?_)
 refine W.extract rfl rfl (W.extract rfl rfl ?_)
 refine W.extract rfl rfl ?_
 refine W.alloc (dt := true) rfl rfl rfl ?_
 refine W.mv rfl (W.mv rfl ?_)
 refine W.mv rfl ?_
 refine W.store (es' := [[.int .i64 r3.2.2.2.Code, .int .i64 r3.2.2.2.Index]]) (dt := true) rfl rfl rfl rfl rfl (Nat.le_of_ble_eq_true rfl) rfl rfl rfl rfl ?_
 refine W.nil ?_
 refine Ev.seq ?_
 refine W.reg hm ?_
 refine W.mv rfl ?_
 obtain ⟨r4, k4, h⟩ := obind h
 refine W.call (law6_action_spec n r4 k4) rfl rfl (Les.refl _) rfl (.inl rfl) rfl ?_
 obtain ⟨r5, k5, h⟩ := obind h
 refine W.call (law6_files_spec n r5 k5) rfl rfl (Les.refl _) rfl (.inl rfl) rfl ?_
 obtain ⟨r6, k6, h⟩ := obind h
 refine W.call (actioncache_Run_spec n r3.2.1 r4 r5 r6 k6) rfl rfl (Les.refl _) rfl (.inl rfl) rfl ?_
 refine W.mv rfl (W.extract rfl rfl ?_)
 refine W.extract rfl rfl (W.extract rfl rfl ?_)
 refine W.extract rfl rfl ?_
 refine W.alloc (dt := true) rfl rfl rfl ?_
 refine W.mv rfl (W.mv rfl ?_)
 refine W.mv rfl ?_
 refine W.store (es' := [[.int .i64 r6.2.2.2.Code, .int .i64 r6.2.2.2.Index]]) (dt := true) rfl rfl rfl rfl rfl (Nat.le_of_ble_eq_true rfl) rfl rfl rfl rfl ?_
 refine W.nil ?_
 refine Ev.seq ?_
 refine Ev.regS rfl ?_
 refine Sq.w 1 (Nat.le_of_ble_eq_true rfl) ?_
 refine W.mkSlice (dt := true) (es := [[.str ([113] : List UInt8)]]) rfl rfl rfl rfl rfl rfl ?_
 refine W.nil ?_
 refine Sq.weak (st' := ⟨[(1, .list 1 (List.map cS r3.1)), (2, .list 2 (List.map SKeyLines.cells r3.2.1)), (3, .bool r3.2.2.1), (4, .pown 10000 0 0 0), (5, .list 1 (List.map cS r6.1)), (7, .bool r6.2.2.1), (8, .pown 10001 0 0 0), (36, .list 1 (List.map cS ([([113] : List UInt8)] : List (List UInt8))))], [(10000, ⟨0, 25, 2, [[.int .i64 r3.2.2.2.Code, .int .i64 r3.2.2.2.Index]], true, false, false⟩), (10001, ⟨0, 25, 2, [[.int .i64 r6.2.2.2.Code, .int .i64 r6.2.2.2.Index]], true, false, false⟩)], 2⟩) ?_ ((Wk.frz 36 2 rfl rfl).trans (Wk.nrmTo [1, 2, 3, 4, 5, 7, 8, 36] [(4, 10000), (8, 10001)] rfl rfl))
 refine Sq.wEnd (Nat.le_of_ble_eq_true rfl) ?_
 obtain ⟨r7, k7, h⟩ := obind h
 refine W.call (actioncache_Store_spec n ([] : List SKeyLines) 5 ([([113] : List UInt8)] : List (List UInt8)) r7 k7) rfl rfl (.cons (.nils 2) (.cons (.refl _) (.cons (.refl _) (.nil)))) rfl (.inl rfl) rfl ?_
 refine W.mv rfl (W.extract rfl rfl ?_)
 refine W.extract rfl rfl ?_
 refine W.alloc (dt := true) rfl rfl rfl ?_
 refine W.mv rfl ?_
 refine W.store (es' := [[.int .i64 r7.2.Code, .int .i64 r7.2.Index]]) (dt := true) rfl rfl rfl rfl rfl (Nat.le_of_ble_eq_true rfl) rfl rfl rfl rfl ?_
 refine W.nil ?_
 refine Ev.seq ?_
 refine W.reg hm ?_
 refine W.mv rfl ?_
 obtain ⟨r8, k8, h⟩ := obind h
 refine W.call (actioncache_Lookup_spec n r7.1 5 r8 k8) rfl rfl (Les.refl _) rfl (.inl rfl) rfl ?_
 refine W.mv rfl (W.extract rfl rfl ?_)
 refine W.extract rfl rfl (W.extract rfl rfl ?_)
 refine W.alloc (dt := true) rfl rfl rfl ?_
 refine W.mv rfl (W.mv rfl ?_)
 refine W.store (es' := [[.int .i64 r8.2.2.Code, .int .i64 r8.2.2.Index]]) (dt := true) rfl rfl rfl rfl rfl (Nat.le_of_ble_eq_true rfl) rfl rfl rfl rfl ?_
 refine W.nil ?_
 refine Ev.seq ?_
 refine W.reg hm ?_
 refine W.build (cs := [.nils, .nils, .str ([] : List UInt8)]) rfl rfl rfl ?_
 obtain ⟨r9, k9, h⟩ := obind h
 refine W.call (law6_files_spec n r9 k9) rfl rfl (Les.refl _) rfl (.inl rfl) rfl ?_
 obtain ⟨r10, k10, h⟩ := obind h
 refine W.call (actioncache_Key_spec n (⟨([] : List (List UInt8)), ([] : List SKindText), ([] : List UInt8)⟩ : SInputsOpsOutput) r9 r10 k10) rfl rfl (.cons (Le.aggs (.cons (.nils 1) (.cons (.nils 2) (.cons (.refl _) (.nil)))) rfl) (.cons (.refl _) (.nil))) rfl (.inl rfl) rfl ?_
 refine W.mv rfl (W.extract rfl rfl ?_)
 refine W.extract rfl rfl ?_
 refine W.alloc (dt := true) rfl rfl rfl ?_
 refine W.mv rfl ?_
 refine W.store (es' := [[.int .i64 r10.2.Code, .int .i64 r10.2.Index]]) (dt := true) rfl rfl rfl rfl rfl (Nat.le_of_ble_eq_true rfl) rfl rfl rfl rfl ?_
 refine W.nil ?_
 refine Ev.seq ?_
 refine W.reg hm ?_
 refine W.mkSlice (dt := true) (es := [[.str ([122] : List UInt8)], [.str ([121] : List UInt8)], [.str ([120] : List UInt8)]]) rfl rfl rfl rfl rfl rfl ?_
 refine W.mv rfl (W.nil ?_)
 refine Ev.seqJ (γ := Bool) (fun v => ⟨[(1, .list 1 (List.map cS r3.1)), (2, .list 2 (List.map SKeyLines.cells r3.2.1)), (3, .bool r3.2.2.1), (5, .list 1 (List.map cS r6.1)), (7, .bool r6.2.2.1), (11, .list 1 (List.map cS r8.1)), (12, .bool r8.2.1), (16, .own 10100 0), (17, .bool v)], [(10100, ⟨0, 9, 1, List.map cS ([([122] : List UInt8), ([121] : List UInt8), ([120] : List UInt8)] : List (List UInt8)), true, false, false⟩)], 2⟩) (fun v => law6_caches_j1 n r3 r6 r8 v = some r) ?_ ?_
 ·refine W.regD hm ?_
  refine W.fieldAddrO rfl rfl ?_
  refine W.loadO (p := .int .i64 r3.2.2.2.Code) rfl rfl rfl rfl ?_
  refine W.eql rfl rfl (W.mv rfl ?_)
  refine W.split 56 rfl (fun c21 => ?_) (fun c21 => ?_)
  ·replace h := iteT h c21
   refine W.guardT rfl c21 ?_
   refine W.fieldAddrO rfl rfl ?_
   refine W.guardT rfl c21 ?_
   refine W.loadO (p := .int .i64 r6.2.2.2.Code) rfl rfl rfl rfl ?_
   refine W.guardT rfl c21 ?_
   refine W.eql rfl rfl ?_
   refine W.pickT rfl rfl rfl c21 ?_
   refine W.mv rfl ?_
   refine W.split 61 rfl (fun c22 => ?_) (fun c22 => ?_)
   ·replace h := iteT h c22
    refine W.guardT rfl c22 ?_
    refine W.fieldAddrO rfl rfl ?_
    refine W.guardT rfl c22 ?_
    refine W.loadO (p := .int .i64 r7.2.Code) rfl rfl rfl rfl ?_
    refine W.guardT rfl c22 ?_
    refine W.eql rfl rfl ?_
    refine W.pickT rfl rfl rfl c22 ?_
    refine W.mv rfl ?_
    refine W.split 66 rfl (fun c23 => ?_) (fun c23 => ?_)
    ·replace h := iteT h c23
     refine W.guardT rfl c23 ?_
     refine W.fieldAddrO rfl rfl ?_
     refine W.guardT rfl c23 ?_
     refine W.loadO (p := .int .i64 r8.2.2.Code) rfl rfl rfl rfl ?_
     refine W.guardT rfl c23 ?_
     refine W.eql rfl rfl ?_
     refine W.pickT rfl rfl rfl c23 ?_
     refine W.mv rfl ?_
     refine W.split 71 rfl (fun c24 => ?_) (fun c24 => ?_)
     ·replace h := iteT h c24
      refine W.guardT rfl c24 ?_
      refine W.loadO (p := .agg [.int .i64 r10.2.Code, .int .i64 r10.2.Index]) rfl rfl rfl rfl ?_
      refine W.guardT rfl c24 ?_
      obtain ⟨r16, k25, h⟩ := obind h
      refine W.call (law6_fault_spec n 12 (-2) r16 k25) rfl rfl (Les.refl _) rfl (.inl rfl) rfl ?_
      refine W.guardT rfl c24 ?_
      refine W.eqs rfl rfl rfl ?_
      refine W.pickT rfl rfl rfl c24 ?_
      refine W.mv rfl ?_
      refine W.nil ⟨rfl, ?_⟩
      exact ⟨((r10.2.Code == r16.Code && (r10.2.Index == r16.Index && true)) != false), h, Wk.nrmTo [1, 2, 3, 5, 7, 11, 12, 16, 17] [(52, 10100)] rfl rfl⟩
     ·replace h := iteF h c24
      refine W.guardF1 rfl c24 ?_
      refine W.guardF1 rfl c24 ?_
      refine W.guardF1 rfl c24 ?_
      refine W.pickN rfl rfl rfl c24 ?_
      refine W.mv rfl ?_
      refine W.nil ⟨rfl, ?_⟩
      exact ⟨false, h, Wk.nrmTo [1, 2, 3, 5, 7, 11, 12, 16, 17] [(52, 10100)] rfl rfl⟩
    ·replace h := iteF h c23
     refine W.guardF1 rfl c23 ?_
     refine W.guardF1 rfl c23 ?_
     refine W.guardF1 rfl c23 ?_
     refine W.pickN rfl rfl rfl c23 ?_
     refine W.mv rfl (W.guardF1 rfl rfl ?_)
     refine W.guardF1 rfl rfl (W.guardF1 rfl rfl ?_)
     refine W.pickN rfl rfl rfl rfl (W.mv rfl ?_)
     refine W.nil ⟨rfl, ?_⟩
     exact ⟨false, h, Wk.nrmTo [1, 2, 3, 5, 7, 11, 12, 16, 17] [(52, 10100)] rfl rfl⟩
   ·replace h := iteF h c22
    refine W.guardF1 rfl c22 ?_
    refine W.guardF1 rfl c22 ?_
    refine W.guardF1 rfl c22 ?_
    refine W.pickN rfl rfl rfl c22 ?_
    refine W.mv rfl (W.guardF1 rfl rfl ?_)
    refine W.guardF1 rfl rfl (W.guardF1 rfl rfl ?_)
    refine W.pickN rfl rfl rfl rfl (W.mv rfl ?_)
    refine W.guardF1 rfl rfl (W.guardF1 rfl rfl ?_)
    refine W.guardF1 rfl rfl (W.pickN rfl rfl rfl rfl ?_)
    refine W.mv rfl ?_
    refine W.nil ⟨rfl, ?_⟩
    exact ⟨false, h, Wk.nrmTo [1, 2, 3, 5, 7, 11, 12, 16, 17] [(52, 10100)] rfl rfl⟩
  ·replace h := iteF h c21
   refine W.guardF1 rfl c21 ?_
   refine W.guardF1 rfl c21 ?_
   refine W.guardF1 rfl c21 ?_
   refine W.pickN rfl rfl rfl c21 ?_
   refine W.mv rfl (W.guardF1 rfl rfl ?_)
   refine W.guardF1 rfl rfl (W.guardF1 rfl rfl ?_)
   refine W.pickN rfl rfl rfl rfl (W.mv rfl ?_)
   refine W.guardF1 rfl rfl (W.guardF1 rfl rfl ?_)
   refine W.guardF1 rfl rfl (W.pickN rfl rfl rfl rfl ?_)
   refine W.mv rfl (W.guardF1 rfl rfl ?_)
   refine W.guardF1 rfl rfl (W.guardF1 rfl rfl ?_)
   refine W.pickN rfl rfl rfl rfl (W.mv rfl ?_)
   refine W.nil ⟨rfl, ?_⟩
   exact ⟨false, h, Wk.nrmTo [1, 2, 3, 5, 7, 11, 12, 16, 17] [(52, 10100)] rfl rfl⟩
 ·intro x11 h
  try dsimp only at h ⊢
  unfold law6_caches_j1 at h
  refine Ev.seqJ (γ := Bool) (fun v => ⟨[(0, .bool v)], [], 2⟩) (fun v => law6_caches_j2 n v = some r) ?_ ?_
  ·refine W.reg hm ?_
   refine W.mv rfl (W.mv rfl ?_)
   refine W.split 77 rfl (fun c11 => ?_) (fun c11 => ?_)
   ·replace h := iteT h c11
    refine W.guardT rfl c11 ?_
    refine W.mv rfl ?_
    refine W.guardT rfl c11 ?_
    refine W.mv rfl ?_
    refine W.guardT rfl c11 ?_
    obtain ⟨r13, k12, h⟩ := obind h
    refine W.call (ref6_Strings_spec n r3.1 ([([122] : List UInt8), ([121] : List UInt8), ([120] : List UInt8)] : List (List UInt8)) r13 k12) rfl rfl (Les.refl _) rfl (.inr rfl) rfl ?_
    refine W.pickT rfl rfl rfl c11 ?_
    refine W.mv rfl ?_
    refine W.split 82 rfl (fun c13 => ?_) (fun c13 => ?_)
    ·replace h := iteT h c13
     refine W.guardT rfl c13 ?_
     refine W.mv rfl ?_
     refine W.guardT rfl c13 ?_
     refine W.mv rfl ?_
     refine W.guardT rfl c13 ?_
     obtain ⟨r14, k14, h⟩ := obind h
     refine W.call (ref6_Strings_spec n r6.1 ([([122] : List UInt8), ([121] : List UInt8), ([120] : List UInt8)] : List (List UInt8)) r14 k14) rfl rfl (Les.refl _) rfl (.inr rfl) rfl ?_
     refine W.pickT rfl rfl rfl c13 ?_
     refine W.mv rfl ?_
     refine W.split 87 rfl (fun c15 => ?_) (fun c15 => ?_)
     ·replace h := iteT h c15
      refine W.guardT rfl c15 ?_
      refine W.mv rfl ?_
      refine W.guardT rfl c15 ?_
      refine W.not rfl ?_
      refine W.pickT rfl rfl rfl c15 ?_
      refine W.mv rfl ?_
      refine W.split 91 rfl (fun c16 => ?_) (fun c16 => ?_)
      ·replace h := iteT h c16
       refine W.guardT rfl c16 ?_
       refine W.mv rfl ?_
       refine W.pickT rfl rfl rfl c16 ?_
       refine W.mv rfl ?_
       refine W.split 94 rfl (fun c17 => ?_) (fun c17 => ?_)
       ·replace h := iteT h c17
        refine W.guardT rfl c17 ?_
        refine W.mv rfl ?_
        refine W.guardT rfl c17 ?_
        refine W.lenL (c := SKeyLines.cells) rfl ?_
        refine W.guardT rfl c17 ?_
        refine W.eql rfl rfl ?_
        refine W.pickT rfl rfl rfl c17 ?_
        refine W.mv rfl ?_
        refine W.split 99 rfl (fun c18 => ?_) (fun c18 => ?_)
        ·replace h := iteT h c18
         refine W.guardT rfl c18 ?_
         refine W.mv rfl ?_
         refine W.pickT rfl rfl rfl c18 ?_
         refine W.mv rfl ?_
         refine W.split 102 rfl (fun c19 => ?_) (fun c19 => ?_)
         ·replace h := iteT h c19
          refine W.guardT rfl c19 ?_
          refine W.mv rfl ?_
          refine W.guardT rfl c19 ?_
          refine W.mkSlice (dt := true) (es := [[.str ([113] : List UInt8)]]) rfl rfl rfl rfl rfl rfl ?_
          refine W.guardT rfl c19 ?_
          obtain ⟨r15, k20, h⟩ := obind h
          refine W.call (ref6_Strings_spec n r8.1 ([([113] : List UInt8)] : List (List UInt8)) r15 k20) rfl rfl (Les.refl _) rfl (.inr rfl) rfl ?_
          refine W.pickT rfl rfl rfl c19 ?_
          refine W.mv rfl (W.nil ?_)
          exact ⟨r15, h, Wk.nrmTo [0] [] rfl rfl⟩
         ·replace h := iteF h c19
          refine W.guardF1 rfl c19 ?_
          refine W.guardF1 rfl c19 ?_
          refine W.guardF1 rfl c19 ?_
          refine W.pickN rfl rfl rfl c19 ?_
          refine W.mv rfl (W.nil ?_)
          exact ⟨false, h, Wk.nrmTo [0] [] rfl rfl⟩
        ·replace h := iteF h c18
         refine W.guardF1 rfl c18 ?_
         refine W.pickN rfl rfl rfl c18 ?_
         refine W.mv rfl (W.guardF1 rfl rfl ?_)
         refine W.guardF1 rfl rfl (W.guardF1 rfl rfl ?_)
         refine W.pickN rfl rfl rfl rfl (W.mv rfl ?_)
         refine W.nil ?_
         exact ⟨false, h, Wk.nrmTo [0] [] rfl rfl⟩
       ·replace h := iteF h c17
        refine W.guardF1 rfl c17 ?_
        refine W.guardF1 rfl c17 ?_
        refine W.guardF1 rfl c17 ?_
        refine W.pickN rfl rfl rfl c17 ?_
        refine W.mv rfl (W.guardF1 rfl rfl ?_)
        refine W.pickN rfl rfl rfl rfl (W.mv rfl ?_)
        refine W.guardF1 rfl rfl (W.guardF1 rfl rfl ?_)
        refine W.guardF1 rfl rfl (W.pickN rfl rfl rfl rfl ?_)
        refine W.mv rfl (W.nil ?_)
        exact ⟨false, h, Wk.nrmTo [0] [] rfl rfl⟩
      ·replace h := iteF h c16
       refine W.guardF1 rfl c16 ?_
       refine W.pickN rfl rfl rfl c16 ?_
       refine W.mv rfl (W.guardF1 rfl rfl ?_)
       refine W.guardF1 rfl rfl (W.guardF1 rfl rfl ?_)
       refine W.pickN rfl rfl rfl rfl (W.mv rfl ?_)
       refine W.guardF1 rfl rfl (W.pickN rfl rfl rfl rfl ?_)
       refine W.mv rfl (W.guardF1 rfl rfl ?_)
       refine W.guardF1 rfl rfl (W.guardF1 rfl rfl ?_)
       refine W.pickN rfl rfl rfl rfl (W.mv rfl ?_)
       refine W.nil ?_
       exact ⟨false, h, Wk.nrmTo [0] [] rfl rfl⟩
     ·replace h := iteF h c15
      refine W.guardF1 rfl c15 ?_
      refine W.guardF1 rfl c15 ?_
      refine W.pickN rfl rfl rfl c15 ?_
      refine W.mv rfl (W.guardF1 rfl rfl ?_)
      refine W.pickN rfl rfl rfl rfl (W.mv rfl ?_)
      refine W.guardF1 rfl rfl (W.guardF1 rfl rfl ?_)
      refine W.guardF1 rfl rfl (W.pickN rfl rfl rfl rfl ?_)
      refine W.mv rfl (W.guardF1 rfl rfl ?_)
      refine W.pickN rfl rfl rfl rfl (W.mv rfl ?_)
      refine W.guardF1 rfl rfl (W.guardF1 rfl rfl ?_)
      refine W.guardF1 rfl rfl (W.pickN rfl rfl rfl rfl ?_)
      refine W.mv rfl (W.nil ?_)
      exact ⟨false, h, Wk.nrmTo [0] [] rfl rfl⟩
    ·replace h := iteF h c13
     refine W.guardF1 rfl c13 ?_
     refine W.guardF1 rfl c13 ?_
     refine W.guardF1 rfl c13 ?_
     refine W.pickN rfl rfl rfl c13 ?_
     refine W.mv rfl (W.guardF1 rfl rfl ?_)
     refine W.guardF1 rfl rfl (W.pickN rfl rfl rfl rfl ?_)
     refine W.mv rfl (W.guardF1 rfl rfl ?_)
     refine W.pickN rfl rfl rfl rfl (W.mv rfl ?_)
     refine W.guardF1 rfl rfl (W.guardF1 rfl rfl ?_)
     refine W.guardF1 rfl rfl (W.pickN rfl rfl rfl rfl ?_)
     refine W.mv rfl (W.guardF1 rfl rfl ?_)
     refine W.pickN rfl rfl rfl rfl (W.mv rfl ?_)
     refine W.guardF1 rfl rfl (W.guardF1 rfl rfl ?_)
     refine W.guardF1 rfl rfl (W.pickN rfl rfl rfl rfl ?_)
     refine W.mv rfl (W.nil ?_)
     exact ⟨false, h, Wk.nrmTo [0] [] rfl rfl⟩
   ·replace h := iteF h c11
    refine W.guardF1 rfl c11 ?_
    refine W.guardF1 rfl c11 ?_
    refine W.guardF1 rfl c11 ?_
    refine W.pickN rfl rfl rfl c11 ?_
    refine W.mv rfl (W.guardF1 rfl rfl ?_)
    refine W.guardF1 rfl rfl (W.guardF1 rfl rfl ?_)
    refine W.pickN rfl rfl rfl rfl (W.mv rfl ?_)
    refine W.guardF1 rfl rfl (W.guardF1 rfl rfl ?_)
    refine W.pickN rfl rfl rfl rfl (W.mv rfl ?_)
    refine W.guardF1 rfl rfl (W.pickN rfl rfl rfl rfl ?_)
    refine W.mv rfl (W.guardF1 rfl rfl ?_)
    refine W.guardF1 rfl rfl (W.guardF1 rfl rfl ?_)
    refine W.pickN rfl rfl rfl rfl (W.mv rfl ?_)
    refine W.guardF1 rfl rfl (W.pickN rfl rfl rfl rfl ?_)
    refine W.mv rfl (W.guardF1 rfl rfl ?_)
    refine W.guardF1 rfl rfl (W.guardF1 rfl rfl ?_)
    refine W.pickN rfl rfl rfl rfl (W.mv rfl ?_)
    refine W.nil ?_
    exact ⟨false, h, Wk.nrmTo [0] [] rfl rfl⟩
  ·intro x12 h
   try dsimp only at h ⊢
   unfold law6_caches_j2 at h
   refine Ev.ret ?_
   injection h with h; subst h
   exact ⟨_, rfl, .refl _⟩
end Go.Proofs.YtlkknmhhefjmjaaDoor
