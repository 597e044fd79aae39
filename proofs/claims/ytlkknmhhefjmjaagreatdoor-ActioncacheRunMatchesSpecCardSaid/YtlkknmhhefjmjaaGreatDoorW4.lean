/- The functions compute what the texts of D say. Laid by a program (wip/gen/dec.py). -/
import Derived.Test.YtlkknmhhefjmjaaGreatDoorD
import Derived.Test.YtlkknmhhefjmjaaGreatDoorWA
namespace Go.Proofs.YtlkknmhhefjmjaaGreatDoor
open Go.PW Go
set_option maxHeartbeats 4000000 in
theorem actioncache_Run_spec (n : Nat) (a0 : List SKeyLines) (a1 : SInputsOpsOutput) (a2 : SFiles) (r : ((List (List UInt8)) × (List SKeyLines) × Bool × SCodeIndex)) (h : actioncache_Run n a0 a1 a2 = some r) : PSpec Tryz.prog 22 [.list 2 (List.map SKeyLines.cells a0), .agg (SInputsOpsOutput.cells a1), .agg (SFiles.cells a2)] (.tup [.list 1 (List.map cS r.1), .list 2 (List.map SKeyLines.cells r.2.1), .bool r.2.2.1, .agg (SCodeIndex.cells r.2.2.2)]) := by
 unfold actioncache_Run at h
 refine spec_of Tryz.c_actioncache_Run (by simp) ?_
 unfold Tryz.l_actioncache_Run
 refine Ev.seq ?_
 refine W.reg hm ?_
 refine W.box (dt := true) (cs := [.list 1 (List.map cS a1.Inputs), .list 2 (List.map SKindText.cells a1.Ops), .str a1.Output]) rfl rfl rfl rfl rfl rfl ?_
 refine W.box (dt := true) (cs := [.list 2 (List.map SPathLines.cells a2.Files)]) rfl rfl rfl rfl rfl rfl ?_
 refine W.mv rfl (W.mv rfl ?_)
 refine W.mv rfl ?_
 refine W.alloc (dt := true) rfl rfl rfl ?_
 refine W.nil ?_
 refine Ev.seq (Ev.seq ?_)
 refine W.reg hm ?_
 refine W.mv rfl ?_
 obtain ⟨r1, k1, h⟩ := obind h
 refine W.call (actioncache_Validate_spec n a0 r1 k1) rfl rfl (Les.refl _) rfl (.inl rfl) rfl ?_
 refine W.alloc (dt := true) rfl rfl rfl ?_
 refine W.store (es' := [[.int .i64 r1.Code, .int .i64 r1.Index]]) (dt := true) rfl rfl rfl rfl rfl (Nat.le_of_ble_eq_true rfl) rfl rfl rfl rfl ?_
 refine W.nil ?_
 refine Ev.seq ?_
 refine W.reg hm ?_
 refine W.loadO (p := .agg [.int .i64 r1.Code, .int .i64 r1.Index]) rfl rfl rfl rfl ?_
 refine W.build (cs := [.int .i64 0, .int .i64 0]) rfl rfl rfl ?_
 refine W.eqs rfl rfl rfl (W.nil ?_)
 refine Ev.cond rfl (fun c2 => ?_) (fun c2 => ?_)
 ·replace h := iteT h c2
  refine Ev.seq ?_
  refine W.regD hm ?_
  refine W.loadO (p := .agg [.int .i64 r1.Code, .int .i64 r1.Index]) rfl rfl rfl rfl ?_
  refine W.mv rfl (W.mv rfl ?_)
  refine W.mv rfl ?_
  refine W.store (es' := [[.int .i64 r1.Code, .int .i64 r1.Index]]) (dt := true) rfl rfl rfl rfl rfl (Nat.le_of_ble_eq_true rfl) rfl rfl rfl rfl ?_
  refine W.nil ⟨rfl, ?_⟩
  refine Ev.ret ?_
  injection h with h; subst h
  exact ⟨_, rfl, Le.tups (.cons (.nils 1) (.cons (.nils 2) (.cons (.refl _) (.cons (.refl _) (.nil)))))⟩
 ·replace h := iteF h c2
  refine Ev.skip ?_
  refine Ev.seq ?_
  refine W.reg hm ?_
  refine W.loadO (p := .agg [.list 1 (List.map cS a1.Inputs), .list 2 (List.map SKindText.cells a1.Ops), .str a1.Output]) rfl rfl rfl rfl ?_
  refine W.loadO (p := .agg [.list 2 (List.map SPathLines.cells a2.Files)]) rfl rfl rfl rfl ?_
  obtain ⟨r2, k3, h⟩ := obind h
  refine W.call (actioncache_Key_spec n a1 a2 r2 k3) rfl rfl (Les.refl _) rfl (.inl rfl) rfl ?_
  refine W.mv rfl (W.extract rfl rfl ?_)
  refine W.extract rfl rfl ?_
  refine W.alloc (dt := true) rfl rfl rfl ?_
  refine W.mv rfl ?_
  refine W.store (es' := [[.int .i64 r2.2.Code, .int .i64 r2.2.Index]]) (dt := true) rfl rfl rfl rfl rfl (Nat.le_of_ble_eq_true rfl) rfl rfl rfl rfl ?_
  refine W.nil ?_
  refine Ev.seq (Ev.seq ?_)
  refine W.reg hm ?_
  refine W.loadO (p := .agg [.int .i64 r2.2.Code, .int .i64 r2.2.Index]) rfl rfl rfl rfl ?_
  refine W.build (cs := [.int .i64 0, .int .i64 0]) rfl rfl rfl ?_
  refine W.eqs rfl rfl rfl (W.nil ?_)
  refine Ev.cond rfl (fun c4 => ?_) (fun c4 => ?_)
  ·replace h := iteT h c4
   refine Ev.seq ?_
   refine W.regD hm ?_
   refine W.loadO (p := .agg [.int .i64 r2.2.Code, .int .i64 r2.2.Index]) rfl rfl rfl rfl ?_
   refine W.mv rfl (W.mv rfl ?_)
   refine W.mv rfl ?_
   refine W.store (es' := [[.int .i64 r2.2.Code, .int .i64 r2.2.Index]]) (dt := true) rfl rfl rfl rfl rfl (Nat.le_of_ble_eq_true rfl) rfl rfl rfl rfl ?_
   refine W.nil ⟨rfl, ?_⟩
   refine Ev.ret ?_
   injection h with h; subst h
   exact ⟨_, rfl, Le.tups (.cons (.nils 1) (.cons (.nils 2) (.cons (.refl _) (.cons (.refl _) (.nil)))))⟩
  ·replace h := iteF h c4
   refine Ev.skip ?_
   refine Ev.seq (Ev.seq ?_)
   refine W.reg hm ?_
   refine W.mv rfl (W.mv rfl ?_)
   obtain ⟨r3, k5, h⟩ := obind h
   refine W.call (actioncache_Lookup_spec n a0 r2.1 r3 k5) rfl rfl (Les.refl _) rfl (.inl rfl) rfl ?_
   refine W.mv rfl (W.extract rfl rfl ?_)
   refine W.extract rfl rfl (W.extract rfl rfl ?_)
   refine W.alloc (dt := true) rfl rfl rfl ?_
   refine W.mv rfl (W.mv rfl ?_)
   refine W.store (es' := [[.int .i64 r3.2.2.Code, .int .i64 r3.2.2.Index]]) (dt := true) rfl rfl rfl rfl rfl (Nat.le_of_ble_eq_true rfl) rfl rfl rfl rfl ?_
   refine W.nil ?_
   refine Ev.seq ?_
   refine W.reg hm ?_
   refine W.mv rfl (W.nil ?_)
   refine Ev.cond rfl (fun c6 => ?_) (fun c6 => ?_)
   ·replace h := iteT h c6
    refine Ev.seq ?_
    refine W.reg hm ?_
    refine W.mv rfl (W.mv rfl ?_)
    obtain ⟨r4, k7, h⟩ := obind h
    refine W.callO (actioncache_clone_spec n a0 r4 k7) rfl (Les.refl _) rfl rfl rfl ?_
    refine W.build (cs := [.int .i64 0, .int .i64 0]) rfl rfl rfl ?_
    refine W.mv rfl (W.mv rfl ?_)
    refine W.mv rfl ?_
    refine W.store (es' := [[.int .i64 0, .int .i64 0]]) (dt := true) rfl rfl rfl rfl rfl (Nat.le_of_ble_eq_true rfl) rfl rfl rfl rfl ?_
    refine W.nil ?_
    refine Ev.ret ?_
    injection h with h; subst h
    exact ⟨_, rfl, .refl _⟩
   ·replace h := iteF h c6
    refine Ev.skip ?_
    refine Ev.seq ?_
    refine W.reg hm ?_
    refine W.loadO (p := .agg [.list 1 (List.map cS a1.Inputs), .list 2 (List.map SKindText.cells a1.Ops), .str a1.Output]) rfl rfl rfl rfl ?_
    refine W.loadO (p := .agg [.list 2 (List.map SPathLines.cells a2.Files)]) rfl rfl rfl rfl ?_
    obtain ⟨r5, k8, h⟩ := obind h
    refine W.callOT (res' := .tup [.own 49 2, .agg [.int .i64 r5.2.Code, .int .i64 r5.2.Index]]) (sandbox_Run_spec n a1 a2 r5 k8) rfl (Les.refl _) rfl rfl rfl rfl rfl ?_
    refine W.mv rfl (W.extract rfl rfl ?_)
    refine W.extract rfl rfl (W.mv rfl ?_)
    refine W.store (es' := [[.int .i64 r5.2.Code, .int .i64 r5.2.Index]]) (dt := true) rfl rfl rfl rfl rfl (Nat.le_of_ble_eq_true rfl) rfl rfl rfl rfl ?_
    refine W.nil ?_
    refine Ev.seq (Ev.seq ?_)
    refine W.reg hm ?_
    refine W.loadO (p := .agg [.int .i64 r5.2.Code, .int .i64 r5.2.Index]) rfl rfl rfl rfl ?_
    refine W.build (cs := [.int .i64 0, .int .i64 0]) rfl rfl rfl ?_
    refine W.eqs rfl rfl rfl (W.nil ?_)
    refine Ev.cond rfl (fun c9 => ?_) (fun c9 => ?_)
    ·replace h := iteT h c9
     refine Ev.seq ?_
     refine W.regD hm ?_
     refine W.loadO (p := .agg [.int .i64 r5.2.Code, .int .i64 r5.2.Index]) rfl rfl rfl rfl ?_
     refine W.mv rfl (W.mv rfl ?_)
     refine W.mv rfl ?_
     refine W.store (es' := [[.int .i64 r5.2.Code, .int .i64 r5.2.Index]]) (dt := true) rfl rfl rfl rfl rfl (Nat.le_of_ble_eq_true rfl) rfl rfl rfl rfl ?_
     refine W.nil ⟨rfl, ?_⟩
     refine Ev.ret ?_
     injection h with h; subst h
     exact ⟨_, rfl, Le.tups (.cons (.nils 1) (.cons (.nils 2) (.cons (.refl _) (.cons (.refl _) (.nil)))))⟩
    ·replace h := iteF h c9
     refine Ev.skip ?_
     refine Ev.seq ?_
     refine Ev.weak ?_ (Wk.frz 49 2 rfl rfl)
     refine W.reg hm ?_
     refine W.mv rfl (W.mv rfl ?_)
     refine W.mv rfl ?_
     obtain ⟨r6, k10, h⟩ := obind h
     refine W.call (actioncache_Store_spec n a0 r2.1 r5.1 r6 k10) rfl rfl (Les.refl _) rfl (.inl rfl) rfl ?_
     refine W.mv rfl (W.extract rfl rfl ?_)
     refine W.extract rfl rfl (W.mv rfl ?_)
     refine W.store (es' := [[.int .i64 r6.2.Code, .int .i64 r6.2.Index]]) (dt := true) rfl rfl rfl rfl rfl (Nat.le_of_ble_eq_true rfl) rfl rfl rfl rfl ?_
     refine W.nil ?_
     refine Ev.seqJ (γ := List SKeyLines) (fun v => ⟨[(9, .pown 10100 0 0 0), (16, .list 1 (List.map cS r5.1)), (17, .list 2 (List.map SKeyLines.cells v))], [(10100, ⟨0, 31, 2, [[.int .i64 0, .int .i64 0]], true, false, false⟩)], 2⟩) (fun v => actioncache_Run_j1 n r5 v = some r) ?_ ?_
     ·refine Ev.seq ?_
      refine W.reg hm ?_
      refine W.loadO (p := .agg [.int .i64 r6.2.Code, .int .i64 r6.2.Index]) rfl rfl rfl rfl ?_
      refine W.build (cs := [.int .i64 0, .int .i64 0]) rfl rfl rfl ?_
      refine W.eqs rfl rfl rfl (W.nil ?_)
      refine Ev.cond rfl (fun c11 => ?_) (fun c11 => ?_)
      ·replace h := iteT h c11
       refine W.reg hm ?_
       refine W.mv rfl ?_
       obtain ⟨r8, k12, h⟩ := obind h
       refine W.callO (actioncache_clone_spec n a0 r8 k12) rfl (Les.refl _) rfl rfl rfl ?_
       refine W.mv rfl (W.nil ?_)
       exact ⟨r8, h, (Wk.frz 67 2 rfl rfl).trans (Wk.nrmTo [9, 16, 17] [(9, 10100)] rfl rfl)⟩
      ·replace h := iteF h c11
       refine Ev.skip ?_
       exact ⟨r6.1, h, Wk.nrmTo [9, 16, 17] [(9, 10100)] rfl rfl⟩
     ·intro x7 h
      try dsimp only at h ⊢
      unfold actioncache_Run_j1 at h
      refine Ev.seq ?_
      refine W.reg hm ?_
      refine W.mv rfl (W.mv rfl ?_)
      refine W.build (cs := [.int .i64 0, .int .i64 0]) rfl rfl rfl ?_
      refine W.mv rfl (W.mv rfl ?_)
      refine W.mv rfl ?_
      refine W.store (es' := [[.int .i64 0, .int .i64 0]]) (dt := true) rfl rfl rfl rfl rfl (Nat.le_of_ble_eq_true rfl) rfl rfl rfl rfl ?_
      refine W.nil ?_
      refine Ev.ret ?_
      injection h with h; subst h
      exact ⟨_, rfl, .refl _⟩
theorem ref6_Strings_spec (n : Nat) (a0 : List (List UInt8)) (a1 : List (List UInt8)) (r : Bool) (h : ref6_Strings n a0 a1 = some r) : PSpec Tryz.prog 24 [.list 1 (List.map cS a0), .list 1 (List.map cS a1)] (.bool r) := by
 unfold ref6_Strings at h
 refine spec_of Tryz.c_ref6_Strings (by simp) ?_
 unfold Tryz.l_ref6_Strings
 refine Ev.seq ?_
 refine W.reg hm ?_
 refine W.mv rfl (W.nil ?_)
 refine Ev.seq (Ev.seq ?_)
 refine W.reg hm ?_
 refine W.mv rfl ?_
 refine W.lenL (c := cS) rfl ?_
 refine W.mv rfl ?_
 refine W.lenL (c := cS) rfl ?_
 refine W.neq rfl rfl (W.nil ?_)
 refine Ev.cond rfl (fun c1 => ?_) (fun c1 => ?_)
 ·replace h := iteT h c1
  refine Ev.seq ?_
  refine W.reg hm ?_
  refine W.mv rfl (W.nil ?_)
  refine Ev.ret ?_
  injection h with h; subst h
  exact ⟨_, rfl, .refl _⟩
 ·replace h := iteF h c1
  refine Ev.skip ?_
  refine Ev.seq (Ev.seq ?_)
  refine W.reg hm ?_
  refine W.mv rfl (W.nil ?_)
  refine Ev.block ?_
  refine Ev.loopW (β := Nat × Int) (fun v => ⟨[(0, .list 1 (List.map cS a0)), (1, .list 1 (List.map cS a1)), (5, .int .i64 v.2)], [], 2⟩) (fun v => ref6_Strings_l1 n a0 a1 v.1 v.2 = some r) (fun v => v.1) (n, 0) (Wk.nrmTo [0, 1, 5] [] rfl rfl) h ?_
  intro ⟨m1, x1⟩ h
  try dsimp only at h ⊢
  cases m1 with
  | zero => rw [ref6_Strings_l1] at h; cases h
  | succ m1 =>
   rw [ref6_Strings_l1] at h
   refine Ev.seq (Ev.seq ?_)
   refine W.reg hm ?_
   refine W.mv rfl (W.mv rfl ?_)
   refine W.lenL (c := cS) rfl ?_
   refine W.lss rfl rfl (W.nil ?_)
   refine Ev.cond rfl (fun c2 => ?_) (fun c2 => ?_)
   ·replace h := iteT h c2
    refine Ev.skip ?_
    refine Ev.seq ?_
    refine Ev.block ?_
    refine Ev.seq ?_
    refine W.regD hm ?_
    refine W.mv rfl (W.mv rfl ?_)
    obtain ⟨e2, k3, h⟩ := obind h
    refine W.idxL (c := cS) rfl rfl k3 ?_
    refine W.load rfl rfl (W.mv rfl ?_)
    refine W.mv rfl ?_
    obtain ⟨e3, k4, h⟩ := obind h
    refine W.idxL (c := cS) rfl rfl k4 ?_
    refine W.load rfl rfl (W.sneq rfl rfl ?_)
    refine W.nil ⟨rfl, ?_⟩
    refine Ev.cond rfl (fun c5 => ?_) (fun c5 => ?_)
    ·replace h := iteT h c5
     refine Ev.seq ?_
     refine W.reg hm ?_
     refine W.mv rfl (W.nil ?_)
     refine Ev.ret ?_
     injection h with h; subst h
     exact ⟨_, rfl, .refl _⟩
    ·replace h := iteF h c5
     refine Ev.skip ?_
     refine W.reg hm ?_
     refine W.mv rfl ?_
     obtain ⟨x4, k6, h⟩ := obind h
     refine W.addG rfl rfl k6 ?_
     refine W.mv rfl (W.nil ?_)
     exact ⟨(m1, x4), h, Nat.lt_succ_self _, Wk.nrmTo [0, 1, 5] [] rfl rfl⟩
   ·replace h := iteF h c2
    refine Ev.exit ?_
    refine Ev.seq ?_
    refine W.reg hm ?_
    refine W.mv rfl (W.nil ?_)
    refine Ev.ret ?_
    injection h with h; subst h
    exact ⟨_, rfl, .refl _⟩
theorem law6_action_spec (n : Nat) (r : SInputsOpsOutput) (h : law6_action n = some r) : PSpec Tryz.prog 77 [] (.agg (SInputsOpsOutput.cells r)) := by
 unfold law6_action at h
 refine spec_of Tryz.c_law6_action (by simp) ?_
 unfold Tryz.l_law6_action
 refine Ev.seq ?_
 refine W.reg hm ?_
 refine W.alloc (dt := true) rfl rfl rfl ?_
 refine W.nil ?_
 refine Ev.seq ?_
 refine W.reg hm ?_
 refine W.mkSlice (dt := true) (es := [[.str ([97] : List UInt8)]]) rfl rfl rfl rfl rfl rfl ?_
 refine W.build (cs := [.int .i64 1, .str ([97] : List UInt8)]) rfl rfl rfl ?_
 refine W.build (cs := [.int .i64 3, .str ([122] : List UInt8)]) rfl rfl rfl ?_
 refine W.build (cs := [.int .i64 4, .str ([] : List UInt8)]) rfl rfl rfl ?_
 refine W.mkSlice (dt := true) (es := [[.int .i64 1, .str ([97] : List UInt8)], [.int .i64 3, .str ([122] : List UInt8)], [.int .i64 4, .str ([] : List UInt8)]]) rfl rfl rfl rfl rfl rfl ?_
 refine W.build (cs := [.own 1 2, .own 5 2, .str ([98] : List UInt8)]) rfl rfl rfl ?_
 refine W.store (es' := [[.own 1 2, .own 5 2, .str ([98] : List UInt8)]]) (dt := false) rfl rfl rfl rfl rfl (Nat.le_of_ble_eq_true rfl) rfl rfl rfl rfl ?_
 refine W.nil ?_
 refine Ev.weak ?_ (Wk.frz 1 2 rfl rfl)
 refine Ev.weak ?_ (Wk.frz 5 2 rfl rfl)
 refine Ev.ret ?_
 injection h with h; subst h
 exact ⟨_, rfl, .refl _⟩
theorem law6_files_spec (n : Nat) (r : SFiles) (h : law6_files n = some r) : PSpec Tryz.prog 78 [] (.agg (SFiles.cells r)) := by
 unfold law6_files at h
 refine spec_of Tryz.c_law6_files (by simp) ?_
 unfold Tryz.l_law6_files
 refine Ev.seq ?_
 refine W.reg hm ?_
 refine W.alloc (dt := true) rfl rfl rfl ?_
 refine W.nil ?_
 refine Ev.seq ?_
 refine W.reg hm ?_
 refine W.mkSlice (dt := true) (es := [[.str ([120] : List UInt8)], [.str ([121] : List UInt8)]]) rfl rfl rfl rfl rfl rfl ?_
 refine W.build (cs := [.str ([97] : List UInt8), .own 1 2]) rfl rfl rfl ?_
 refine W.mkSlice (dt := false) (es := [[.str ([97] : List UInt8), .own 1 2]]) rfl rfl rfl rfl rfl rfl ?_
 refine W.build (cs := [.own 3 2]) rfl rfl rfl ?_
 refine W.store (es' := [[.own 3 2]]) (dt := false) rfl rfl rfl rfl rfl (Nat.le_of_ble_eq_true rfl) rfl rfl rfl rfl ?_
 refine W.nil ?_
 refine Ev.weak ?_ (Wk.frz 1 2 rfl rfl)
 refine Ev.weak ?_ (Wk.frz 3 2 rfl rfl)
 refine Ev.ret ?_
 injection h with h; subst h
 exact ⟨_, rfl, .refl _⟩
theorem law6_fault_spec (n : Nat) (a0 : Int) (a1 : Int) (r : SCodeIndex) (h : law6_fault n a0 a1 = some r) : PSpec Tryz.prog 79 [.int .i64 a0, .int .i64 a1] (.agg (SCodeIndex.cells r)) := by
 unfold law6_fault at h
 refine spec_of Tryz.c_law6_fault (by simp) ?_
 unfold Tryz.l_law6_fault
 refine Ev.seq ?_
 refine W.reg hm ?_
 refine W.alloc (dt := true) rfl rfl rfl ?_
 refine W.nil ?_
 refine Ev.seq ?_
 refine W.reg hm ?_
 refine W.mv rfl (W.mv rfl ?_)
 refine W.build (cs := [.int .i64 a0, .int .i64 a1]) rfl rfl rfl ?_
 refine W.store (es' := [[.int .i64 a0, .int .i64 a1]]) (dt := true) rfl rfl rfl rfl rfl (Nat.le_of_ble_eq_true rfl) rfl rfl rfl rfl ?_
 refine W.nil ?_
 refine Ev.ret ?_
 injection h with h; subst h
 exact ⟨_, rfl, .refl _⟩
set_option maxHeartbeats 4000000 in
theorem law6_caches_spec (n : Nat) (r : Bool) (h : law6_caches n = some r) : PSpec Tryz.prog 29 [] (.bool r) := by
 unfold law6_caches at h
 refine spec_of Tryz.c_law6_caches (by simp) ?_
 unfold Tryz.l_law6_caches
 refine Ev.seq ?_
 refine W.reg hm ?_
 refine W.mv rfl (W.nil ?_)
 refine Ev.seq ?_
 refine W.reg hm ?_
 obtain ⟨r1, k1, h⟩ := obind h
 refine W.call (law6_action_spec n r1 k1) rfl rfl (Les.refl _) rfl (.inl rfl) rfl ?_
 obtain ⟨r2, k2, h⟩ := obind h
 refine W.call (law6_files_spec n r2 k2) rfl rfl (Les.refl _) rfl (.inl rfl) rfl ?_
 obtain ⟨r3, k3, h⟩ := obind h
 refine W.call (actioncache_Run_spec n ([] : List SKeyLines) r1 r2 r3 k3) rfl rfl (.cons (.nils 2) (.cons (.refl _) (.cons (.refl _) (.nil)))) rfl (.inl rfl) rfl ?_
 refine W.mv rfl (W.extract rfl rfl ?_)
 refine W.extract rfl rfl (W.extract rfl rfl ?_)
 refine W.extract rfl rfl ?_
 refine W.alloc (dt := true) rfl rfl rfl ?_
 refine W.mv rfl (W.mv rfl ?_)
 refine W.mv rfl ?_
 refine W.store (es' := [[.int .i64 r3.2.2.2.Code, .int .i64 r3.2.2.2.Index]]) (dt := true) rfl rfl rfl rfl rfl (Nat.le_of_ble_eq_true rfl) rfl rfl rfl rfl ?_
 refine W.nil ?_
 refine Ev.seq ?_
 refine W.reg hm ?_
 refine W.mv rfl ?_
 obtain ⟨r4, k4, h⟩ := obind h
 refine W.call (law6_action_spec n r4 k4) rfl rfl (Les.refl _) rfl (.inl rfl) rfl ?_
 obtain ⟨r5, k5, h⟩ := obind h
 refine W.call (law6_files_spec n r5 k5) rfl rfl (Les.refl _) rfl (.inl rfl) rfl ?_
 obtain ⟨r6, k6, h⟩ := obind h
 refine W.call (actioncache_Run_spec n r3.2.1 r4 r5 r6 k6) rfl rfl (Les.refl _) rfl (.inl rfl) rfl ?_
 refine W.mv rfl (W.extract rfl rfl ?_)
 refine W.extract rfl rfl (W.extract rfl rfl ?_)
 refine W.extract rfl rfl ?_
 refine W.alloc (dt := true) rfl rfl rfl ?_
 refine W.mv rfl (W.mv rfl ?_)
 refine W.mv rfl ?_
 refine W.store (es' := [[.int .i64 r6.2.2.2.Code, .int .i64 r6.2.2.2.Index]]) (dt := true) rfl rfl rfl rfl rfl (Nat.le_of_ble_eq_true rfl) rfl rfl rfl rfl ?_
 refine W.nil ?_
 refine Ev.seq ?_
 refine Ev.regS rfl ?_
 refine Sq.w 1 (Nat.le_of_ble_eq_true rfl) ?_
 refine W.mkSlice (dt := true) (es := [[.str ([113] : List UInt8)]]) rfl rfl rfl rfl rfl rfl ?_
 refine W.nil ?_
 refine Sq.weak (st' := ⟨[(1, .list 1 (List.map cS r3.1)), (2, .list 2 (List.map SKeyLines.cells r3.2.1)), (3, .bool r3.2.2.1), (4, .pown 10000 0 0 0), (5, .list 1 (List.map cS r6.1)), (7, .bool r6.2.2.1), (8, .pown 10001 0 0 0), (36, .list 1 (List.map cS ([([113] : List UInt8)] : List (List UInt8))))], [(10000, ⟨0, 31, 2, [[.int .i64 r3.2.2.2.Code, .int .i64 r3.2.2.2.Index]], true, false, false⟩), (10001, ⟨0, 31, 2, [[.int .i64 r6.2.2.2.Code, .int .i64 r6.2.2.2.Index]], true, false, false⟩)], 2⟩) ?_ ((Wk.frz 36 2 rfl rfl).trans (Wk.nrmTo [1, 2, 3, 4, 5, 7, 8, 36] [(4, 10000), (8, 10001)] rfl rfl))
 refine Sq.wEnd (Nat.le_of_ble_eq_true rfl) ?_
 obtain ⟨r7, k7, h⟩ := obind h
 refine W.call (actioncache_Store_spec n ([] : List SKeyLines) 5 ([([113] : List UInt8)] : List (List UInt8)) r7 k7) rfl rfl (.cons (.nils 2) (.cons (.refl _) (.cons (.refl _) (.nil)))) rfl (.inl rfl) rfl ?_
 refine W.mv rfl (W.extract rfl rfl ?_)
 refine W.extract rfl rfl ?_
 refine W.alloc (dt := true) rfl rfl rfl ?_
 refine W.mv rfl ?_
 refine W.store (es' := [[.int .i64 r7.2.Code, .int .i64 r7.2.Index]]) (dt := true) rfl rfl rfl rfl rfl (Nat.le_of_ble_eq_true rfl) rfl rfl rfl rfl ?_
 refine W.nil ?_
 refine Ev.seq ?_
 refine W.reg hm ?_
 refine W.mv rfl ?_
 obtain ⟨r8, k8, h⟩ := obind h
 refine W.call (actioncache_Lookup_spec n r7.1 5 r8 k8) rfl rfl (Les.refl _) rfl (.inl rfl) rfl ?_
 refine W.mv rfl (W.extract rfl rfl ?_)
 refine W.extract rfl rfl (W.extract rfl rfl ?_)
 refine W.alloc (dt := true) rfl rfl rfl ?_
 refine W.mv rfl (W.mv rfl ?_)
 refine W.store (es' := [[.int .i64 r8.2.2.Code, .int .i64 r8.2.2.Index]]) (dt := true) rfl rfl rfl rfl rfl (Nat.le_of_ble_eq_true rfl) rfl rfl rfl rfl ?_
 refine W.nil ?_
 refine Ev.seq ?_
 refine W.reg hm ?_
 refine W.build (cs := [.nils, .nils, .str ([] : List UInt8)]) rfl rfl rfl ?_
 obtain ⟨r9, k9, h⟩ := obind h
 refine W.call (law6_files_spec n r9 k9) rfl rfl (Les.refl _) rfl (.inl rfl) rfl ?_
 obtain ⟨r10, k10, h⟩ := obind h
 refine W.call (actioncache_Key_spec n (⟨([] : List (List UInt8)), ([] : List SKindText), ([] : List UInt8)⟩ : SInputsOpsOutput) r9 r10 k10) rfl rfl (.cons (Le.aggs (.cons (.nils 1) (.cons (.nils 2) (.cons (.refl _) (.nil)))) rfl) (.cons (.refl _) (.nil))) rfl (.inl rfl) rfl ?_
 refine W.mv rfl (W.extract rfl rfl ?_)
 refine W.extract rfl rfl ?_
 refine W.alloc (dt := true) rfl rfl rfl ?_
 refine W.mv rfl ?_
 refine W.store (es' := [[.int .i64 r10.2.Code, .int .i64 r10.2.Index]]) (dt := true) rfl rfl rfl rfl rfl (Nat.le_of_ble_eq_true rfl) rfl rfl rfl rfl ?_
 refine W.nil ?_
 refine Ev.seq ?_
 refine W.reg hm ?_
 refine W.mkSlice (dt := true) (es := [[.str ([122] : List UInt8)], [.str ([121] : List UInt8)], [.str ([120] : List UInt8)]]) rfl rfl rfl rfl rfl rfl ?_
 refine W.mv rfl (W.nil ?_)
 refine Ev.seqJ (γ := Bool) (fun v => ⟨[(1, .list 1 (List.map cS r3.1)), (2, .list 2 (List.map SKeyLines.cells r3.2.1)), (3, .bool r3.2.2.1), (5, .list 1 (List.map cS r6.1)), (7, .bool r6.2.2.1), (11, .list 1 (List.map cS r8.1)), (12, .bool r8.2.1), (16, .own 10100 0), (17, .bool v)], [(10100, ⟨0, 9, 1, List.map cS ([([122] : List UInt8), ([121] : List UInt8), ([120] : List UInt8)] : List (List UInt8)), true, false, false⟩)], 2⟩) (fun v => law6_caches_j1 n r3 r6 r8 v = some r) ?_ ?_
 ·refine W.regD hm ?_
  refine W.fieldAddrO rfl rfl ?_
  refine W.loadO (p := .int .i64 r3.2.2.2.Code) rfl rfl rfl rfl ?_
  refine W.eql rfl rfl (W.mv rfl ?_)
  refine W.split 56 rfl (fun c21 => ?_) (fun c21 => ?_)
  ·replace h := iteT h c21
   refine W.guardT rfl c21 ?_
   refine W.fieldAddrO rfl rfl ?_
   refine W.guardT rfl c21 ?_
   refine W.loadO (p := .int .i64 r6.2.2.2.Code) rfl rfl rfl rfl ?_
   refine W.guardT rfl c21 ?_
   refine W.eql rfl rfl ?_
   refine W.pickT rfl rfl rfl c21 ?_
   refine W.mv rfl ?_
   refine W.split 61 rfl (fun c22 => ?_) (fun c22 => ?_)
   ·replace h := iteT h c22
    refine W.guardT rfl c22 ?_
    refine W.fieldAddrO rfl rfl ?_
    refine W.guardT rfl c22 ?_
    refine W.loadO (p := .int .i64 r7.2.Code) rfl rfl rfl rfl ?_
    refine W.guardT rfl c22 ?_
    refine W.eql rfl rfl ?_
    refine W.pickT rfl rfl rfl c22 ?_
    refine W.mv rfl ?_
    refine W.split 66 rfl (fun c23 => ?_) (fun c23 => ?_)
    ·replace h := iteT h c23
     refine W.guardT rfl c23 ?_
     refine W.fieldAddrO rfl rfl ?_
     refine W.guardT rfl c23 ?_
     refine W.loadO (p := .int .i64 r8.2.2.Code) rfl rfl rfl rfl ?_
     refine W.guardT rfl c23 ?_
     refine W.eql rfl rfl ?_
     refine W.pickT rfl rfl rfl c23 ?_
     refine W.mv rfl ?_
     refine W.split 71 rfl (fun c24 => ?_) (fun c24 => ?_)
     ·replace h := iteT h c24
      refine W.guardT rfl c24 ?_
      refine W.loadO (p := .agg [.int .i64 r10.2.Code, .int .i64 r10.2.Index]) rfl rfl rfl rfl ?_
      refine W.guardT rfl c24 ?_
      obtain ⟨r16, k25, h⟩ := obind h
      refine W.call (law6_fault_spec n 12 (-2) r16 k25) rfl rfl (Les.refl _) rfl (.inl rfl) rfl ?_
      refine W.guardT rfl c24 ?_
      refine W.eqs rfl rfl rfl ?_
      refine W.pickT rfl rfl rfl c24 ?_
      refine W.mv rfl ?_
      refine W.nil ⟨rfl, ?_⟩
      exact ⟨((r10.2.Code == r16.Code && (r10.2.Index == r16.Index && true)) != false), h, Wk.nrmTo [1, 2, 3, 5, 7, 11, 12, 16, 17] [(52, 10100)] rfl rfl⟩
     ·replace h := iteF h c24
      refine W.guardF1 rfl c24 ?_
      refine W.guardF1 rfl c24 ?_
      refine W.guardF1 rfl c24 ?_
      refine W.pickN rfl rfl rfl c24 ?_
      refine W.mv rfl ?_
      refine W.nil ⟨rfl, ?_⟩
      exact ⟨false, h, Wk.nrmTo [1, 2, 3, 5, 7, 11, 12, 16, 17] [(52, 10100)] rfl rfl⟩
    ·replace h := iteF h c23
     refine W.guardF1 rfl c23 ?_
     refine W.guardF1 rfl c23 ?_
     refine W.guardF1 rfl c23 ?_
     refine W.pickN rfl rfl rfl c23 ?_
     refine W.mv rfl (W.guardF1 rfl rfl ?_)
     refine W.guardF1 rfl rfl (W.guardF1 rfl rfl ?_)
     refine W.pickN rfl rfl rfl rfl (W.mv rfl ?_)
     refine W.nil ⟨rfl, ?_⟩
     exact ⟨false, h, Wk.nrmTo [1, 2, 3, 5, 7, 11, 12, 16, 17] [(52, 10100)] rfl rfl⟩
   ·replace h := iteF h c22
    refine W.guardF1 rfl c22 ?_
    refine W.guardF1 rfl c22 ?_
    refine W.guardF1 rfl c22 ?_
    refine W.pickN rfl rfl rfl c22 ?_
    refine W.mv rfl (W.guardF1 rfl rfl ?_)
    refine W.guardF1 rfl rfl (W.guardF1 rfl rfl ?_)
    refine W.pickN rfl rfl rfl rfl (W.mv rfl ?_)
    refine W.guardF1 rfl rfl (W.guardF1 rfl rfl ?_)
    refine W.guardF1 rfl rfl (W.pickN rfl rfl rfl rfl ?_)
    refine W.mv rfl ?_
    refine W.nil ⟨rfl, ?_⟩
    exact ⟨false, h, Wk.nrmTo [1, 2, 3, 5, 7, 11, 12, 16, 17] [(52, 10100)] rfl rfl⟩
  ·replace h := iteF h c21
   refine W.guardF1 rfl c21 ?_
   refine W.guardF1 rfl c21 ?_
   refine W.guardF1 rfl c21 ?_
   refine W.pickN rfl rfl rfl c21 ?_
   refine W.mv rfl (W.guardF1 rfl rfl ?_)
   refine W.guardF1 rfl rfl (W.guardF1 rfl rfl ?_)
   refine W.pickN rfl rfl rfl rfl (W.mv rfl ?_)
   refine W.guardF1 rfl rfl (W.guardF1 rfl rfl ?_)
   refine W.guardF1 rfl rfl (W.pickN rfl rfl rfl rfl ?_)
   refine W.mv rfl (W.guardF1 rfl rfl ?_)
   refine W.guardF1 rfl rfl (W.guardF1 rfl rfl ?_)
   refine W.pickN rfl rfl rfl rfl (W.mv rfl ?_)
   refine W.nil ⟨rfl, ?_⟩
   exact ⟨false, h, Wk.nrmTo [1, 2, 3, 5, 7, 11, 12, 16, 17] [(52, 10100)] rfl rfl⟩
 ·intro x11 h
  try dsimp only at h ⊢
  unfold law6_caches_j1 at h
  refine Ev.seqJ (γ := Bool) (fun v => ⟨[(0, .bool v)], [], 2⟩) (fun v => law6_caches_j2 n v = some r) ?_ ?_
  ·refine W.reg hm ?_
   refine W.mv rfl (W.mv rfl ?_)
   refine W.split 77 rfl (fun c11 => ?_) (fun c11 => ?_)
   ·replace h := iteT h c11
    refine W.guardT rfl c11 ?_
    refine W.mv rfl ?_
    refine W.guardT rfl c11 ?_
    refine W.mv rfl ?_
    refine W.guardT rfl c11 ?_
    obtain ⟨r13, k12, h⟩ := obind h
    refine W.call (ref6_Strings_spec n r3.1 ([([122] : List UInt8), ([121] : List UInt8), ([120] : List UInt8)] : List (List UInt8)) r13 k12) rfl rfl (Les.refl _) rfl (.inr rfl) rfl ?_
    refine W.pickT rfl rfl rfl c11 ?_
    refine W.mv rfl ?_
    refine W.split 82 rfl (fun c13 => ?_) (fun c13 => ?_)
    ·replace h := iteT h c13
     refine W.guardT rfl c13 ?_
     refine W.mv rfl ?_
     refine W.guardT rfl c13 ?_
     refine W.mv rfl ?_
     refine W.guardT rfl c13 ?_
     obtain ⟨r14, k14, h⟩ := obind h
     refine W.call (ref6_Strings_spec n r6.1 ([([122] : List UInt8), ([121] : List UInt8), ([120] : List UInt8)] : List (List UInt8)) r14 k14) rfl rfl (Les.refl _) rfl (.inr rfl) rfl ?_
     refine W.pickT rfl rfl rfl c13 ?_
     refine W.mv rfl ?_
     refine W.split 87 rfl (fun c15 => ?_) (fun c15 => ?_)
     ·replace h := iteT h c15
      refine W.guardT rfl c15 ?_
      refine W.mv rfl ?_
      refine W.guardT rfl c15 ?_
      refine W.not rfl ?_
      refine W.pickT rfl rfl rfl c15 ?_
      refine W.mv rfl ?_
      refine W.split 91 rfl (fun c16 => ?_) (fun c16 => ?_)
      ·replace h := iteT h c16
       refine W.guardT rfl c16 ?_
       refine W.mv rfl ?_
       refine W.pickT rfl rfl rfl c16 ?_
       refine W.mv rfl ?_
       refine W.split 94 rfl (fun c17 => ?_) (fun c17 => ?_)
       ·replace h := iteT h c17
        refine W.guardT rfl c17 ?_
        refine W.mv rfl ?_
        refine W.guardT rfl c17 ?_
        refine W.lenL (c := SKeyLines.cells) rfl ?_
        refine W.guardT rfl c17 ?_
        refine W.eql rfl rfl ?_
        refine W.pickT rfl rfl rfl c17 ?_
        refine W.mv rfl ?_
        refine W.split 99 rfl (fun c18 => ?_) (fun c18 => ?_)
        ·replace h := iteT h c18
         refine W.guardT rfl c18 ?_
         refine W.mv rfl ?_
         refine W.pickT rfl rfl rfl c18 ?_
         refine W.mv rfl ?_
         refine W.split 102 rfl (fun c19 => ?_) (fun c19 => ?_)
         ·replace h := iteT h c19
          refine W.guardT rfl c19 ?_
          refine W.mv rfl ?_
          refine W.guardT rfl c19 ?_
          refine W.mkSlice (dt := true) (es := [[.str ([113] : List UInt8)]]) rfl rfl rfl rfl rfl rfl ?_
          refine W.guardT rfl c19 ?_
          obtain ⟨r15, k20, h⟩ := obind h
          refine W.call (ref6_Strings_spec n r8.1 ([([113] : List UInt8)] : List (List UInt8)) r15 k20) rfl rfl (Les.refl _) rfl (.inr rfl) rfl ?_
          refine W.pickT rfl rfl rfl c19 ?_
          refine W.mv rfl (W.nil ?_)
          exact ⟨r15, h, Wk.nrmTo [0] [] rfl rfl⟩
         ·replace h := iteF h c19
          refine W.guardF1 rfl c19 ?_
          refine W.guardF1 rfl c19 ?_
          refine W.guardF1 rfl c19 ?_
          refine W.pickN rfl rfl rfl c19 ?_
          refine W.mv rfl (W.nil ?_)
          exact ⟨false, h, Wk.nrmTo [0] [] rfl rfl⟩
        ·replace h := iteF h c18
         refine W.guardF1 rfl c18 ?_
         refine W.pickN rfl rfl rfl c18 ?_
         refine W.mv rfl (W.guardF1 rfl rfl ?_)
         refine W.guardF1 rfl rfl (W.guardF1 rfl rfl ?_)
         refine W.pickN rfl rfl rfl rfl (W.mv rfl ?_)
         refine W.nil ?_
         exact ⟨false, h, Wk.nrmTo [0] [] rfl rfl⟩
       ·replace h := iteF h c17
        refine W.guardF1 rfl c17 ?_
        refine W.guardF1 rfl c17 ?_
        refine W.guardF1 rfl c17 ?_
        refine W.pickN rfl rfl rfl c17 ?_
        refine W.mv rfl (W.guardF1 rfl rfl ?_)
        refine W.pickN rfl rfl rfl rfl (W.mv rfl ?_)
        refine W.guardF1 rfl rfl (W.guardF1 rfl rfl ?_)
        refine W.guardF1 rfl rfl (W.pickN rfl rfl rfl rfl ?_)
        refine W.mv rfl (W.nil ?_)
        exact ⟨false, h, Wk.nrmTo [0] [] rfl rfl⟩
      ·replace h := iteF h c16
       refine W.guardF1 rfl c16 ?_
       refine W.pickN rfl rfl rfl c16 ?_
       refine W.mv rfl (W.guardF1 rfl rfl ?_)
       refine W.guardF1 rfl rfl (W.guardF1 rfl rfl ?_)
       refine W.pickN rfl rfl rfl rfl (W.mv rfl ?_)
       refine W.guardF1 rfl rfl (W.pickN rfl rfl rfl rfl ?_)
       refine W.mv rfl (W.guardF1 rfl rfl ?_)
       refine W.guardF1 rfl rfl (W.guardF1 rfl rfl ?_)
       refine W.pickN rfl rfl rfl rfl (W.mv rfl ?_)
       refine W.nil ?_
       exact ⟨false, h, Wk.nrmTo [0] [] rfl rfl⟩
     ·replace h := iteF h c15
      refine W.guardF1 rfl c15 ?_
      refine W.guardF1 rfl c15 ?_
      refine W.pickN rfl rfl rfl c15 ?_
      refine W.mv rfl (W.guardF1 rfl rfl ?_)
      refine W.pickN rfl rfl rfl rfl (W.mv rfl ?_)
      refine W.guardF1 rfl rfl (W.guardF1 rfl rfl ?_)
      refine W.guardF1 rfl rfl (W.pickN rfl rfl rfl rfl ?_)
      refine W.mv rfl (W.guardF1 rfl rfl ?_)
      refine W.pickN rfl rfl rfl rfl (W.mv rfl ?_)
      refine W.guardF1 rfl rfl (W.guardF1 rfl rfl ?_)
      refine W.guardF1 rfl rfl (W.pickN rfl rfl rfl rfl ?_)
      refine W.mv rfl (W.nil ?_)
      exact ⟨false, h, Wk.nrmTo [0] [] rfl rfl⟩
    ·replace h := iteF h c13
     refine W.guardF1 rfl c13 ?_
     refine W.guardF1 rfl c13 ?_
     refine W.guardF1 rfl c13 ?_
     refine W.pickN rfl rfl rfl c13 ?_
     refine W.mv rfl (W.guardF1 rfl rfl ?_)
     refine W.guardF1 rfl rfl (W.pickN rfl rfl rfl rfl ?_)
     refine W.mv rfl (W.guardF1 rfl rfl ?_)
     refine W.pickN rfl rfl rfl rfl (W.mv rfl ?_)
     refine W.guardF1 rfl rfl (W.guardF1 rfl rfl ?_)
     refine W.guardF1 rfl rfl (W.pickN rfl rfl rfl rfl ?_)
     refine W.mv rfl (W.guardF1 rfl rfl ?_)
     refine W.pickN rfl rfl rfl rfl (W.mv rfl ?_)
     refine W.guardF1 rfl rfl (W.guardF1 rfl rfl ?_)
     refine W.guardF1 rfl rfl (W.pickN rfl rfl rfl rfl ?_)
     refine W.mv rfl (W.nil ?_)
     exact ⟨false, h, Wk.nrmTo [0] [] rfl rfl⟩
   ·replace h := iteF h c11
    refine W.guardF1 rfl c11 ?_
    refine W.guardF1 rfl c11 ?_
    refine W.guardF1 rfl c11 ?_
    refine W.pickN rfl rfl rfl c11 ?_
    refine W.mv rfl (W.guardF1 rfl rfl ?_)
    refine W.guardF1 rfl rfl (W.guardF1 rfl rfl ?_)
    refine W.pickN rfl rfl rfl rfl (W.mv rfl ?_)
    refine W.guardF1 rfl rfl (W.guardF1 rfl rfl ?_)
    refine W.pickN rfl rfl rfl rfl (W.mv rfl ?_)
    refine W.guardF1 rfl rfl (W.pickN rfl rfl rfl rfl ?_)
    refine W.mv rfl (W.guardF1 rfl rfl ?_)
    refine W.guardF1 rfl rfl (W.guardF1 rfl rfl ?_)
    refine W.pickN rfl rfl rfl rfl (W.mv rfl ?_)
    refine W.guardF1 rfl rfl (W.pickN rfl rfl rfl rfl ?_)
    refine W.mv rfl (W.guardF1 rfl rfl ?_)
    refine W.guardF1 rfl rfl (W.guardF1 rfl rfl ?_)
    refine W.pickN rfl rfl rfl rfl (W.mv rfl ?_)
    refine W.nil ?_
    exact ⟨false, h, Wk.nrmTo [0] [] rfl rfl⟩
  ·intro x12 h
   try dsimp only at h ⊢
   unfold law6_caches_j2 at h
   refine Ev.ret ?_
   injection h with h; subst h
   exact ⟨_, rfl, .refl _⟩
theorem ref6_fault_spec (n : Nat) (a0 : Int) (a1 : Int) (r : SCodeIndex) (h : ref6_fault n a0 a1 = some r) : PSpec Tryz.prog 80 [.int .i64 a0, .int .i64 a1] (.agg (SCodeIndex.cells r)) := by
 unfold ref6_fault at h
 refine spec_of Tryz.c_ref6_fault (by simp) ?_
 unfold Tryz.l_ref6_fault
 refine Ev.seq ?_
 refine W.reg hm ?_
 refine W.alloc (dt := true) rfl rfl rfl ?_
 refine W.nil ?_
 refine Ev.seq ?_
 refine W.reg hm ?_
 refine W.mv rfl (W.mv rfl ?_)
 refine W.build (cs := [.int .i64 a0, .int .i64 a1]) rfl rfl rfl ?_
 refine W.store (es' := [[.int .i64 a0, .int .i64 a1]]) (dt := true) rfl rfl rfl rfl rfl (Nat.le_of_ble_eq_true rfl) rfl rfl rfl rfl ?_
 refine W.nil ?_
 refine Ev.ret ?_
 injection h with h; subst h
 exact ⟨_, rfl, .refl _⟩
theorem ref5_in_spec (n : Nat) (a0 : Int) (a1 : Int) (a2 : Int) (r : Bool) (h : ref5_in n a0 a1 a2 = some r) : PSpec Tryz.prog 131 [.int .i64 a0, .int .i64 a1, .int .i64 a2] (.bool r) := by
 unfold ref5_in at h
 refine spec_of Tryz.c_ref5_in (by simp) ?_
 unfold Tryz.l_ref5_in
 refine Ev.seq ?_
 refine W.reg hm ?_
 refine W.mv rfl (W.nil ?_)
 refine Ev.seqJ (γ := Bool) (fun v => ⟨[(6, .bool v)], [], 2⟩) (fun v => ref5_in_j1 n v = some r) ?_ ?_
 ·refine W.reg hm ?_
  refine W.mv rfl (W.mv rfl ?_)
  refine W.geq rfl rfl (W.mv rfl ?_)
  refine W.split 10 rfl (fun c1 => ?_) (fun c1 => ?_)
  ·replace h := iteT h c1
   refine W.guardT rfl c1 ?_
   refine W.mv rfl ?_
   refine W.guardT rfl c1 ?_
   refine W.mv rfl ?_
   refine W.guardT rfl c1 ?_
   refine W.leq rfl rfl ?_
   refine W.pickT rfl rfl rfl c1 ?_
   refine W.mv rfl (W.nil ?_)
   exact ⟨(decide (a0 ≤ a2)), h, Wk.nrmTo [6] [] rfl rfl⟩
  ·replace h := iteF h c1
   refine W.guardF1 rfl c1 ?_
   refine W.guardF1 rfl c1 ?_
   refine W.guardF1 rfl c1 ?_
   refine W.pickN rfl rfl rfl c1 ?_
   refine W.mv rfl (W.nil ?_)
   exact ⟨false, h, Wk.nrmTo [6] [] rfl rfl⟩
 ·intro x1 h
  try dsimp only at h ⊢
  unfold ref5_in_j1 at h
  refine Ev.ret ?_
  injection h with h; subst h
  exact ⟨_, rfl, .refl _⟩
theorem ref5_IsDigest_spec (n : Nat) (a0 : Int) (r : Bool) (h : ref5_IsDigest n a0 = some r) : PSpec Tryz.prog 81 [.int .i64 a0] (.bool r) := by
 unfold ref5_IsDigest at h
 refine spec_of Tryz.c_ref5_IsDigest (by simp) ?_
 unfold Tryz.l_ref5_IsDigest
 refine Ev.seq ?_
 refine W.reg hm ?_
 refine W.mv rfl (W.nil ?_)
 refine Ev.seq ?_
 refine W.reg hm ?_
 refine W.mv rfl ?_
 obtain ⟨r1, k1, h⟩ := obind h
 refine W.call (ref5_in_spec n a0 0 2305843009213693950 r1 k1) rfl rfl (Les.refl _) rfl (.inl rfl) rfl ?_
 refine W.mv rfl (W.nil ?_)
 refine Ev.ret ?_
 injection h with h; subst h
 exact ⟨_, rfl, .refl _⟩
set_option maxHeartbeats 4000000 in
theorem ref6_lineCode_spec (n : Nat) (a0 : List (List UInt8)) (r : Int) (h : ref6_lineCode n a0 = some r) : PSpec Tryz.prog 82 [.list 1 (List.map cS a0)] (.int .i64 r) := by
 unfold ref6_lineCode at h
 refine spec_of Tryz.c_ref6_lineCode (by simp) ?_
 unfold Tryz.l_ref6_lineCode
 refine Ev.seq ?_
 refine W.reg hm ?_
 refine W.mv rfl (W.nil ?_)
 refine Ev.seq (Ev.seq ?_)
 refine W.reg hm ?_
 refine W.mv rfl ?_
 refine W.lenL (c := cS) rfl ?_
 refine W.gtr rfl rfl (W.nil ?_)
 refine Ev.cond rfl (fun c1 => ?_) (fun c1 => ?_)
 ·replace h := iteT h c1
  refine Ev.seq ?_
  refine W.reg hm ?_
  refine W.mv rfl (W.nil ?_)
  refine Ev.ret ?_
  injection h with h; subst h
  exact ⟨_, rfl, .refl _⟩
 ·replace h := iteF h c1
  refine Ev.skip ?_
  refine Ev.seq (Ev.seq ?_)
  refine W.reg hm ?_
  refine W.mv rfl (W.nil ?_)
  refine Ev.block ?_
  refine Ev.loopW (β := Nat × Int) (fun v => ⟨[(0, .list 1 (List.map cS a0)), (3, .int .i64 v.2)], [], 2⟩) (fun v => ref6_lineCode_l1 n a0 v.1 v.2 = some r) (fun v => v.1) (n, 0) (Wk.nrmTo [0, 3] [] rfl rfl) h ?_
  intro ⟨m1, x1⟩ h
  try dsimp only at h ⊢
  cases m1 with
  | zero => rw [ref6_lineCode_l1] at h; cases h
  | succ m1 =>
   rw [ref6_lineCode_l1] at h
   refine Ev.seq (Ev.seq ?_)
   refine W.reg hm ?_
   refine W.mv rfl (W.mv rfl ?_)
   refine W.lenL (c := cS) rfl ?_
   refine W.lss rfl rfl (W.nil ?_)
   refine Ev.cond rfl (fun c2 => ?_) (fun c2 => ?_)
   ·replace h := iteT h c2
    refine Ev.skip ?_
    refine Ev.seq ?_
    refine Ev.block ?_
    refine Ev.seq (Ev.seq ?_)
    refine W.reg hm ?_
    refine W.mv rfl (W.mv rfl ?_)
    obtain ⟨e2, k3, h⟩ := obind h
    refine W.idxL (c := cS) rfl rfl k3 ?_
    refine W.load rfl rfl (W.slen rfl ?_)
    refine W.gtr rfl rfl (W.nil ?_)
    refine Ev.cond rfl (fun c4 => ?_) (fun c4 => ?_)
    ·replace h := iteT h c4
     refine Ev.seq ?_
     refine W.reg hm ?_
     refine W.mv rfl (W.nil ?_)
     refine Ev.ret ?_
     injection h with h; subst h
     exact ⟨_, rfl, .refl _⟩
    ·replace h := iteF h c4
     refine Ev.skip ?_
     refine Ev.seq ?_
     refine W.reg hm ?_
     refine W.mv rfl (W.nil ?_)
     refine Ev.block ?_
     refine Ev.loopW (β := Nat × Int) (fun v => ⟨[(0, .list 1 (List.map cS a0)), (3, .int .i64 x1), (4, .int .i64 v.2)], [], 2⟩) (fun v => ref6_lineCode_l2 n x1 (ref6_lineCode_l1 n a0 m1) e2 v.1 v.2 = some r) (fun v => v.1) (n, 0) (Wk.nrmTo [0, 3, 4] [] rfl rfl) h ?_
     intro ⟨m2, x3⟩ h
     try dsimp only at h ⊢
     cases m2 with
     | zero => rw [ref6_lineCode_l2] at h; cases h
     | succ m2 =>
      rw [ref6_lineCode_l2] at h
      refine Ev.seq (Ev.seq ?_)
      refine W.reg hm ?_
      refine W.mv rfl (W.mv rfl ?_)
      refine W.mv rfl ?_
      refine W.idxL (c := cS) rfl rfl k3 ?_
      refine W.load rfl rfl (W.slen rfl ?_)
      refine W.lss rfl rfl (W.nil ?_)
      refine Ev.cond rfl (fun c5 => ?_) (fun c5 => ?_)
      ·replace h := iteT h c5
       refine Ev.skip ?_
       refine Ev.seq ?_
       refine Ev.block ?_
       refine Ev.seq ?_
       refine W.reg hm ?_
       refine W.mv rfl (W.mv rfl ?_)
       refine W.idxL (c := cS) rfl rfl k3 ?_
       refine W.load rfl rfl (W.mv rfl ?_)
       obtain ⟨y4, k6, h⟩ := obind h
       refine W.sidxG rfl rfl k6 ?_
       refine W.eql rfl rfl (W.nil ?_)
       refine Ev.cond rfl (fun c7 => ?_) (fun c7 => ?_)
       ·replace h := iteT h c7
        refine Ev.seq ?_
        refine W.reg hm ?_
        refine W.mv rfl (W.nil ?_)
        refine Ev.ret ?_
        injection h with h; subst h
        exact ⟨_, rfl, .refl _⟩
       ·replace h := iteF h c7
        refine Ev.skip ?_
        refine W.reg hm ?_
        refine W.mv rfl ?_
        obtain ⟨x5, k8, h⟩ := obind h
        refine W.addG rfl rfl k8 ?_
        refine W.mv rfl (W.nil ?_)
        exact ⟨(m2, x5), h, Nat.lt_succ_self _, Wk.nrmTo [0, 3, 4] [] rfl rfl⟩
      ·replace h := iteF h c5
       refine Ev.exit ?_
       refine W.reg hm ?_
       refine W.mv rfl ?_
       obtain ⟨x6, k9, h⟩ := obind h
       refine W.addG rfl rfl k9 ?_
       refine W.mv rfl (W.nil ?_)
       exact ⟨(m1, x6), h, Nat.lt_succ_self _, Wk.nrmTo [0, 3] [] rfl rfl⟩
   ·replace h := iteF h c2
    refine Ev.exit ?_
    refine Ev.seq ?_
    refine W.reg hm ?_
    refine W.mv rfl (W.nil ?_)
    refine Ev.ret ?_
    injection h with h; subst h
    exact ⟨_, rfl, .refl _⟩
set_option maxHeartbeats 4000000 in
theorem ref6_CacheFault_spec (n : Nat) (a0 : List SKeyLines) (r : SCodeIndex) (h : ref6_CacheFault n a0 = some r) : PSpec Tryz.prog 30 [.list 2 (List.map SKeyLines.cells a0)] (.agg (SCodeIndex.cells r)) := by
 unfold ref6_CacheFault at h
 refine spec_of Tryz.c_ref6_CacheFault (by simp) ?_
 unfold Tryz.l_ref6_CacheFault
 refine Ev.seq ?_
 refine W.reg hm ?_
 refine W.alloc (dt := true) rfl rfl rfl ?_
 refine W.nil ?_
 refine Ev.seq (Ev.seq ?_)
 refine W.reg hm ?_
 refine W.mv rfl ?_
 refine W.lenL (c := SKeyLines.cells) rfl ?_
 refine W.gtr rfl rfl (W.nil ?_)
 refine Ev.cond rfl (fun c1 => ?_) (fun c1 => ?_)
 ·replace h := iteT h c1
  refine Ev.seq ?_
  refine W.reg hm ?_
  obtain ⟨r1, k2, h⟩ := obind h
  refine W.call (ref6_fault_spec n 2 (-1) r1 k2) rfl rfl (Les.refl _) rfl (.inl rfl) rfl ?_
  refine W.store (es' := [[.int .i64 r1.Code, .int .i64 r1.Index]]) (dt := true) rfl rfl rfl rfl rfl (Nat.le_of_ble_eq_true rfl) rfl rfl rfl rfl ?_
  refine W.nil ?_
  refine Ev.ret ?_
  injection h with h; subst h
  exact ⟨_, rfl, .refl _⟩
 ·replace h := iteF h c1
  refine Ev.skip ?_
  refine Ev.seq (Ev.seq ?_)
  refine W.reg hm ?_
  refine W.mv rfl (W.nil ?_)
  refine Ev.block ?_
  refine Ev.loopW (β := Nat × Int) (fun v => ⟨[(0, .list 2 (List.map SKeyLines.cells a0)), (2, .pown 10100 0 0 0), (3, .int .i64 v.2)], [(10100, ⟨0, 31, 2, [[.int .i64 0, .int .i64 0]], true, false, false⟩)], 2⟩) (fun v => ref6_CacheFault_l1 n a0 v.1 v.2 = some r) (fun v => v.1) (n, 0) (Wk.nrmTo [0, 2, 3] [(2, 10100)] rfl rfl) h ?_
  intro ⟨m1, x2⟩ h
  try dsimp only at h ⊢
  cases m1 with
  | zero => rw [ref6_CacheFault_l1] at h; cases h
  | succ m1 =>
   rw [ref6_CacheFault_l1] at h
   refine Ev.seq (Ev.seq ?_)
   refine W.reg hm ?_
   refine W.mv rfl (W.mv rfl ?_)
   refine W.lenL (c := SKeyLines.cells) rfl ?_
   refine W.lss rfl rfl (W.nil ?_)
   refine Ev.cond rfl (fun c3 => ?_) (fun c3 => ?_)
   ·replace h := iteT h c3
    refine Ev.skip ?_
    refine Ev.seq ?_
    refine Ev.block ?_
    refine Ev.seq (Ev.seq ?_)
    refine W.reg hm ?_
    refine W.mv rfl (W.mv rfl ?_)
    obtain ⟨e3, k4, h⟩ := obind h
    refine W.idxL (c := SKeyLines.cells) rfl rfl k4 ?_
    refine W.fieldAddr rfl (W.load rfl rfl ?_)
    obtain ⟨r4, k5, h⟩ := obind h
    refine W.call (ref5_IsDigest_spec n e3.Key r4 k5) rfl rfl (Les.refl _) rfl (.inl rfl) rfl ?_
    refine W.not rfl (W.nil ?_)
    refine Ev.cond rfl (fun c6 => ?_) (fun c6 => ?_)
    ·replace h := iteT h c6
     refine Ev.seq ?_
     refine W.reg hm ?_
     refine W.mv rfl ?_
     obtain ⟨r5, k7, h⟩ := obind h
     refine W.call (ref6_fault_spec n 3 x2 r5 k7) rfl rfl (Les.refl _) rfl (.inl rfl) rfl ?_
     refine W.store (es' := [[.int .i64 r5.Code, .int .i64 r5.Index]]) (dt := true) rfl rfl rfl rfl rfl (Nat.le_of_ble_eq_true rfl) rfl rfl rfl rfl ?_
     refine W.nil ?_
     refine Ev.ret ?_
     injection h with h; subst h
     exact ⟨_, rfl, .refl _⟩
    ·replace h := iteF h c6
     refine Ev.skip ?_
     refine Ev.seq ?_
     refine Ev.seqJ (γ := Bool) (fun v => ⟨[(0, .list 2 (List.map SKeyLines.cells a0)), (2, .pown 10200 0 0 0), (3, .int .i64 x2), (39, .bool v)], [(10200, ⟨0, 31, 2, [[.int .i64 0, .int .i64 0]], true, false, false⟩)], 2⟩) (fun v => ref6_CacheFault_j1 n x2 (ref6_CacheFault_l1 n a0 m1) e3 v = some r) ?_ ?_
     ·refine W.regD hm ?_
      refine W.mv rfl (W.gtr rfl rfl ?_)
      refine W.mv rfl ?_
      refine W.split 26 rfl (fun c14 => ?_) (fun c14 => ?_)
      ·replace h := iteT h c14
       refine W.guardT rfl c14 ?_
       refine W.mv rfl ?_
       refine W.guardT rfl c14 ?_
       refine W.mv rfl ?_
       refine W.guardT rfl c14 ?_
       refine W.idxL (c := SKeyLines.cells) rfl rfl k4 ?_
       refine W.guardT rfl c14 ?_
       refine W.fieldAddr rfl ?_
       refine W.guardT rfl c14 ?_
       refine W.load rfl rfl ?_
       refine W.guardT rfl c14 ?_
       refine W.mv rfl ?_
       refine W.guardT rfl c14 ?_
       refine W.mv rfl ?_
       refine W.guardT rfl c14 ?_
       obtain ⟨x11, k15, h⟩ := obind h
       refine W.subG rfl rfl k15 ?_
       refine W.guardT rfl c14 ?_
       obtain ⟨e12, k16, h⟩ := obind h
       refine W.idxL (c := SKeyLines.cells) rfl rfl k16 ?_
       refine W.guardT rfl c14 ?_
       refine W.fieldAddr rfl ?_
       refine W.guardT rfl c14 ?_
       refine W.load rfl rfl ?_
       refine W.guardT rfl c14 ?_
       refine W.leq rfl rfl ?_
       refine W.pickT rfl rfl rfl c14 ?_
       refine W.nil ⟨rfl, ?_⟩
       exact ⟨(decide (e3.Key ≤ e12.Key)), h, Wk.nrmTo [0, 2, 3, 39] [(10100, 10200)] rfl rfl⟩
      ·replace h := iteF h c14
       refine W.guardF1 rfl c14 ?_
       refine W.guardF1 rfl c14 ?_
       refine W.guardF1 rfl c14 ?_
       refine W.guardF1 rfl c14 ?_
       refine W.guardF1 rfl c14 ?_
       refine W.guardF1 rfl c14 ?_
       refine W.guardF1 rfl c14 ?_
       refine W.guardF1 rfl c14 ?_
       refine W.guardF1 rfl c14 ?_
       refine W.guardF1 rfl c14 ?_
       refine W.guardF1 rfl c14 ?_
       refine W.guardF1 rfl c14 ?_
       refine W.pickN rfl rfl rfl c14 ?_
       refine W.nil ⟨rfl, ?_⟩
       exact ⟨false, h, Wk.nrmTo [0, 2, 3, 39] [(10100, 10200)] rfl rfl⟩
     ·intro x6 h
      try dsimp only at h ⊢
      unfold ref6_CacheFault_j1 at h
      refine Ev.cond rfl (fun c8 => ?_) (fun c8 => ?_)
      ·replace h := iteT h c8
       refine Ev.seq ?_
       refine W.reg hm ?_
       refine W.mv rfl ?_
       obtain ⟨r7, k9, h⟩ := obind h
       refine W.call (ref6_fault_spec n 5 x2 r7 k9) rfl rfl (Les.refl _) rfl (.inl rfl) rfl ?_
       refine W.store (es' := [[.int .i64 r7.Code, .int .i64 r7.Index]]) (dt := true) rfl rfl rfl rfl rfl (Nat.le_of_ble_eq_true rfl) rfl rfl rfl rfl ?_
       refine W.nil ?_
       refine Ev.ret ?_
       injection h with h; subst h
       exact ⟨_, rfl, .refl _⟩
      ·replace h := iteF h c8
       refine Ev.skip ?_
       refine Ev.seq ?_
       refine W.reg hm ?_
       refine W.mv rfl (W.mv rfl ?_)
       refine W.idxL (c := SKeyLines.cells) rfl rfl k4 ?_
       refine W.fieldAddr rfl (W.load rfl rfl ?_)
       obtain ⟨r8, k10, h⟩ := obind h
       refine W.call (ref6_lineCode_spec n e3.Lines r8 k10) rfl rfl (Les.refl _) rfl (.inl rfl) rfl ?_
       refine W.mv rfl (W.nil ?_)
       refine Ev.seq ?_
       refine W.reg hm ?_
       refine W.mv rfl (W.neq rfl rfl ?_)
       refine W.nil ?_
       refine Ev.cond rfl (fun c11 => ?_) (fun c11 => ?_)
       ·replace h := iteT h c11
        refine Ev.seq ?_
        refine W.reg hm ?_
        refine W.mv rfl (W.mv rfl ?_)
        obtain ⟨r9, k12, h⟩ := obind h
        refine W.call (ref6_fault_spec n r8 x2 r9 k12) rfl rfl (Les.refl _) rfl (.inl rfl) rfl ?_
        refine W.store (es' := [[.int .i64 r9.Code, .int .i64 r9.Index]]) (dt := true) rfl rfl rfl rfl rfl (Nat.le_of_ble_eq_true rfl) rfl rfl rfl rfl ?_
        refine W.nil ?_
        refine Ev.ret ?_
        injection h with h; subst h
        exact ⟨_, rfl, .refl _⟩
       ·replace h := iteF h c11
        refine Ev.skip ?_
        refine W.reg hm ?_
        refine W.mv rfl ?_
        obtain ⟨x10, k13, h⟩ := obind h
        refine W.addG rfl rfl k13 ?_
        refine W.mv rfl (W.nil ?_)
        exact ⟨(m1, x10), h, Nat.lt_succ_self _, Wk.nrmTo [0, 2, 3] [(10200, 10100)] rfl rfl⟩
   ·replace h := iteF h c3
    refine Ev.exit ?_
    refine Ev.seq ?_
    refine W.reg hm ?_
    refine W.build (cs := [.int .i64 0, .int .i64 0]) rfl rfl rfl ?_
    refine W.store (es' := [[.int .i64 0, .int .i64 0]]) (dt := true) rfl rfl rfl rfl rfl (Nat.le_of_ble_eq_true rfl) rfl rfl rfl rfl ?_
    refine W.nil ?_
    refine Ev.ret ?_
    injection h with h; subst h
    exact ⟨_, rfl, .refl _⟩
set_option maxHeartbeats 4000000 in
theorem ref2_pathByte_spec (n : Nat) (a0 : Int) (r : Bool) (h : ref2_pathByte n a0 = some r) : PSpec Tryz.prog 143 [.int .u8 a0] (.bool r) := by
 unfold ref2_pathByte at h
 refine spec_of Tryz.c_ref2_pathByte (by simp) ?_
 unfold Tryz.l_ref2_pathByte
 refine Ev.seq ?_
 refine W.reg hm ?_
 refine W.mv rfl (W.nil ?_)
 refine Ev.seqJ (γ := Bool) (fun v => ⟨[(2, .bool v)], [], 2⟩) (fun v => ref2_pathByte_j1 n v = some r) ?_ ?_
 ·refine W.reg hm ?_
  refine W.mv rfl (W.geq rfl rfl ?_)
  refine W.mv rfl ?_
  refine W.split 5 rfl (fun c1 => ?_) (fun c1 => ?_)
  ·replace h := iteT h c1
   refine W.guardT rfl c1 ?_
   refine W.mv rfl ?_
   refine W.guardT rfl c1 ?_
   refine W.leq rfl rfl ?_
   refine W.pickT rfl rfl rfl c1 ?_
   refine W.mv rfl ?_
   refine W.split 9 rfl (fun c2 => ?_) (fun c2 => ?_)
   ·replace h := iteT h c2
    refine W.guardF2 rfl c2 ?_
    refine W.guardF2 rfl c2 ?_
    refine W.guardF2 rfl c2 ?_
    refine W.guardU rfl (W.guardU rfl ?_)
    refine W.guardF2 rfl c2 ?_
    refine W.pickT rfl rfl rfl c2 ?_
    refine W.mv rfl (W.guardF2 rfl rfl ?_)
    refine W.guardF2 rfl rfl (W.guardF2 rfl rfl ?_)
    refine W.guardU rfl (W.guardU rfl ?_)
    refine W.guardF2 rfl rfl (W.pickT rfl rfl rfl rfl ?_)
    refine W.mv rfl (W.guardF2 rfl rfl ?_)
    refine W.guardF2 rfl rfl (W.pickT rfl rfl rfl rfl ?_)
    refine W.mv rfl (W.guardF2 rfl rfl ?_)
    refine W.guardF2 rfl rfl (W.pickT rfl rfl rfl rfl ?_)
    refine W.mv rfl (W.guardF2 rfl rfl ?_)
    refine W.guardF2 rfl rfl (W.pickT rfl rfl rfl rfl ?_)
    refine W.mv rfl (W.nil ?_)
    exact ⟨true, h, Wk.nrmTo [2] [] rfl rfl⟩
   ·replace h := iteF h c2
    refine W.guardT rfl c2 ?_
    refine W.mv rfl ?_
    refine W.guardT rfl c2 ?_
    refine W.geq rfl rfl ?_
    refine W.guardT rfl c2 ?_
    refine W.mv rfl ?_
    refine W.split 12 rfl (fun c3 => ?_) (fun c3 => ?_)
    ·replace h := iteT h c3
     refine W.guardT rfl c3 ?_
     refine W.mv rfl ?_
     refine W.guardT rfl c3 ?_
     refine W.leq rfl rfl ?_
     refine W.guardT rfl c2 ?_
     refine W.pickT rfl rfl rfl c3 ?_
     refine W.pickN rfl rfl rfl c2 ?_
     refine W.mv rfl ?_
     refine W.split 17 rfl (fun c4 => ?_) (fun c4 => ?_)
     ·replace h := iteT h c4
      refine W.guardF2 rfl c4 ?_
      refine W.guardF2 rfl c4 ?_
      refine W.guardF2 rfl c4 ?_
      refine W.guardU rfl (W.guardU rfl ?_)
      refine W.guardF2 rfl c4 ?_
      refine W.pickT rfl rfl rfl c4 ?_
      refine W.mv rfl (W.guardF2 rfl rfl ?_)
      refine W.guardF2 rfl rfl (W.pickT rfl rfl rfl rfl ?_)
      refine W.mv rfl (W.guardF2 rfl rfl ?_)
      refine W.guardF2 rfl rfl (W.pickT rfl rfl rfl rfl ?_)
      refine W.mv rfl (W.guardF2 rfl rfl ?_)
      refine W.guardF2 rfl rfl (W.pickT rfl rfl rfl rfl ?_)
      refine W.mv rfl (W.nil ?_)
      exact ⟨true, h, Wk.nrmTo [2] [] rfl rfl⟩
     ·replace h := iteF h c4
      refine W.guardT rfl c4 ?_
      refine W.mv rfl ?_
      refine W.guardT rfl c4 ?_
      refine W.geq rfl rfl ?_
      refine W.guardT rfl c4 ?_
      refine W.mv rfl ?_
      refine W.split 20 rfl (fun c5 => ?_) (fun c5 => ?_)
      ·replace h := iteT h c5
       refine W.guardT rfl c5 ?_
       refine W.mv rfl ?_
       refine W.guardT rfl c5 ?_
       refine W.leq rfl rfl ?_
       refine W.guardT rfl c4 ?_
       refine W.pickT rfl rfl rfl c5 ?_
       refine W.pickN rfl rfl rfl c4 ?_
       refine W.mv rfl ?_
       refine W.split 25 rfl (fun c6 => ?_) (fun c6 => ?_)
       ·replace h := iteT h c6
        refine W.guardF2 rfl c6 ?_
        refine W.guardF2 rfl c6 ?_
        refine W.pickT rfl rfl rfl c6 ?_
        refine W.mv rfl (W.guardF2 rfl rfl ?_)
        refine W.guardF2 rfl rfl (W.pickT rfl rfl rfl rfl ?_)
        refine W.mv rfl (W.guardF2 rfl rfl ?_)
        refine W.guardF2 rfl rfl (W.pickT rfl rfl rfl rfl ?_)
        refine W.mv rfl (W.nil ?_)
        exact ⟨true, h, Wk.nrmTo [2] [] rfl rfl⟩
       ·replace h := iteF h c6
        refine W.guardT rfl c6 ?_
        refine W.mv rfl ?_
        refine W.guardT rfl c6 ?_
        refine W.eql rfl rfl ?_
        refine W.pickN rfl rfl rfl c6 ?_
        refine W.mv rfl ?_
        refine W.split 29 rfl (fun c7 => ?_) (fun c7 => ?_)
        ·replace h := iteT h c7
         refine W.guardF2 rfl c7 ?_
         refine W.guardF2 rfl c7 ?_
         refine W.pickT rfl rfl rfl c7 ?_
         refine W.mv rfl (W.guardF2 rfl rfl ?_)
         refine W.guardF2 rfl rfl (W.pickT rfl rfl rfl rfl ?_)
         refine W.mv rfl (W.nil ?_)
         exact ⟨true, h, Wk.nrmTo [2] [] rfl rfl⟩
        ·replace h := iteF h c7
         refine W.guardT rfl c7 ?_
         refine W.mv rfl ?_
         refine W.guardT rfl c7 ?_
         refine W.eql rfl rfl ?_
         refine W.pickN rfl rfl rfl c7 ?_
         refine W.mv rfl ?_
         refine W.split 33 rfl (fun c8 => ?_) (fun c8 => ?_)
         ·replace h := iteT h c8
          refine W.guardF2 rfl c8 ?_
          refine W.guardF2 rfl c8 ?_
          refine W.pickT rfl rfl rfl c8 ?_
          refine W.mv rfl (W.nil ?_)
          exact ⟨true, h, Wk.nrmTo [2] [] rfl rfl⟩
         ·replace h := iteF h c8
          refine W.guardT rfl c8 ?_
          refine W.mv rfl ?_
          refine W.guardT rfl c8 ?_
          refine W.eql rfl rfl ?_
          refine W.pickN rfl rfl rfl c8 ?_
          refine W.mv rfl (W.nil ?_)
          exact ⟨(decide (a0 = 45)), h, Wk.nrmTo [2] [] rfl rfl⟩
      ·replace h := iteF h c5
       refine W.guardF1 rfl c5 ?_
       refine W.guardF1 rfl c5 ?_
       refine W.guardT rfl c4 ?_
       refine W.pickN rfl rfl rfl c5 ?_
       refine W.pickN rfl rfl rfl c4 ?_
       refine W.mv rfl (W.guardT rfl rfl ?_)
       refine W.mv rfl (W.guardT rfl rfl ?_)
       refine W.eql rfl rfl (W.pickN rfl rfl rfl rfl ?_)
       refine W.mv rfl ?_
       refine W.split 29 rfl (fun c9 => ?_) (fun c9 => ?_)
       ·replace h := iteT h c9
        refine W.guardF2 rfl c9 ?_
        refine W.guardF2 rfl c9 ?_
        refine W.pickT rfl rfl rfl c9 ?_
        refine W.mv rfl (W.guardF2 rfl rfl ?_)
        refine W.guardF2 rfl rfl (W.pickT rfl rfl rfl rfl ?_)
        refine W.mv rfl (W.nil ?_)
        exact ⟨true, h, Wk.nrmTo [2] [] rfl rfl⟩
       ·replace h := iteF h c9
        refine W.guardT rfl c9 ?_
        refine W.mv rfl ?_
        refine W.guardT rfl c9 ?_
        refine W.eql rfl rfl ?_
        refine W.pickN rfl rfl rfl c9 ?_
        refine W.mv rfl ?_
        refine W.split 33 rfl (fun c10 => ?_) (fun c10 => ?_)
        ·replace h := iteT h c10
         refine W.guardF2 rfl c10 ?_
         refine W.guardF2 rfl c10 ?_
         refine W.pickT rfl rfl rfl c10 ?_
         refine W.mv rfl (W.nil ?_)
         exact ⟨true, h, Wk.nrmTo [2] [] rfl rfl⟩
        ·replace h := iteF h c10
         refine W.guardT rfl c10 ?_
         refine W.mv rfl ?_
         refine W.guardT rfl c10 ?_
         refine W.eql rfl rfl ?_
         refine W.pickN rfl rfl rfl c10 ?_
         refine W.mv rfl (W.nil ?_)
         exact ⟨(decide (a0 = 45)), h, Wk.nrmTo [2] [] rfl rfl⟩
    ·replace h := iteF h c3
     refine W.guardF1 rfl c3 ?_
     refine W.guardF1 rfl c3 ?_
     refine W.guardT rfl c2 ?_
     refine W.pickN rfl rfl rfl c3 ?_
     refine W.pickN rfl rfl rfl c2 ?_
     refine W.mv rfl (W.guardT rfl rfl ?_)
     refine W.mv rfl (W.guardT rfl rfl ?_)
     refine W.geq rfl rfl (W.guardT rfl rfl ?_)
     refine W.mv rfl ?_
     refine W.split 20 rfl (fun c11 => ?_) (fun c11 => ?_)
     ·replace h := iteT h c11
      refine W.guardT rfl c11 ?_
      refine W.mv rfl ?_
      refine W.guardT rfl c11 ?_
      refine W.leq rfl rfl (W.guardT rfl rfl ?_)
      refine W.pickT rfl rfl rfl c11 ?_
      refine W.pickN rfl rfl rfl rfl (W.mv rfl ?_)
      refine W.split 25 rfl (fun c12 => ?_) (fun c12 => ?_)
      ·replace h := iteT h c12
       refine W.guardF2 rfl c12 ?_
       refine W.guardF2 rfl c12 ?_
       refine W.pickT rfl rfl rfl c12 ?_
       refine W.mv rfl (W.guardF2 rfl rfl ?_)
       refine W.guardF2 rfl rfl (W.pickT rfl rfl rfl rfl ?_)
       refine W.mv rfl (W.guardF2 rfl rfl ?_)
       refine W.guardF2 rfl rfl (W.pickT rfl rfl rfl rfl ?_)
       refine W.mv rfl (W.nil ?_)
       exact ⟨true, h, Wk.nrmTo [2] [] rfl rfl⟩
      ·replace h := iteF h c12
       refine W.guardT rfl c12 ?_
       refine W.mv rfl ?_
       refine W.guardT rfl c12 ?_
       refine W.eql rfl rfl ?_
       refine W.pickN rfl rfl rfl c12 ?_
       refine W.mv rfl ?_
       refine W.split 29 rfl (fun c13 => ?_) (fun c13 => ?_)
       ·replace h := iteT h c13
        refine W.guardF2 rfl c13 ?_
        refine W.guardF2 rfl c13 ?_
        refine W.pickT rfl rfl rfl c13 ?_
        refine W.mv rfl (W.guardF2 rfl rfl ?_)
        refine W.guardF2 rfl rfl (W.pickT rfl rfl rfl rfl ?_)
        refine W.mv rfl (W.nil ?_)
        exact ⟨true, h, Wk.nrmTo [2] [] rfl rfl⟩
       ·replace h := iteF h c13
        refine W.guardT rfl c13 ?_
        refine W.mv rfl ?_
        refine W.guardT rfl c13 ?_
        refine W.eql rfl rfl ?_
        refine W.pickN rfl rfl rfl c13 ?_
        refine W.mv rfl ?_
        refine W.split 33 rfl (fun c14 => ?_) (fun c14 => ?_)
        ·replace h := iteT h c14
         refine W.guardF2 rfl c14 ?_
         refine W.guardF2 rfl c14 ?_
         refine W.pickT rfl rfl rfl c14 ?_
         refine W.mv rfl (W.nil ?_)
         exact ⟨true, h, Wk.nrmTo [2] [] rfl rfl⟩
        ·replace h := iteF h c14
         refine W.guardT rfl c14 ?_
         refine W.mv rfl ?_
         refine W.guardT rfl c14 ?_
         refine W.eql rfl rfl ?_
         refine W.pickN rfl rfl rfl c14 ?_
         refine W.mv rfl (W.nil ?_)
         exact ⟨(decide (a0 = 45)), h, Wk.nrmTo [2] [] rfl rfl⟩
     ·replace h := iteF h c11
      refine W.guardF1 rfl c11 ?_
      refine W.guardF1 rfl c11 ?_
      refine W.guardT rfl rfl ?_
      refine W.pickN rfl rfl rfl c11 ?_
      refine W.pickN rfl rfl rfl rfl (W.mv rfl ?_)
      refine W.guardT rfl rfl (W.mv rfl ?_)
      refine W.guardT rfl rfl (W.eql rfl rfl ?_)
      refine W.pickN rfl rfl rfl rfl (W.mv rfl ?_)
      refine W.split 29 rfl (fun c15 => ?_) (fun c15 => ?_)
      ·replace h := iteT h c15
       refine W.guardF2 rfl c15 ?_
       refine W.guardF2 rfl c15 ?_
       refine W.pickT rfl rfl rfl c15 ?_
       refine W.mv rfl (W.guardF2 rfl rfl ?_)
       refine W.guardF2 rfl rfl (W.pickT rfl rfl rfl rfl ?_)
       refine W.mv rfl (W.nil ?_)
       exact ⟨true, h, Wk.nrmTo [2] [] rfl rfl⟩
      ·replace h := iteF h c15
       refine W.guardT rfl c15 ?_
       refine W.mv rfl ?_
       refine W.guardT rfl c15 ?_
       refine W.eql rfl rfl ?_
       refine W.pickN rfl rfl rfl c15 ?_
       refine W.mv rfl ?_
       refine W.split 33 rfl (fun c16 => ?_) (fun c16 => ?_)
       ·replace h := iteT h c16
        refine W.guardF2 rfl c16 ?_
        refine W.guardF2 rfl c16 ?_
        refine W.pickT rfl rfl rfl c16 ?_
        refine W.mv rfl (W.nil ?_)
        exact ⟨true, h, Wk.nrmTo [2] [] rfl rfl⟩
       ·replace h := iteF h c16
        refine W.guardT rfl c16 ?_
        refine W.mv rfl ?_
        refine W.guardT rfl c16 ?_
        refine W.eql rfl rfl ?_
        refine W.pickN rfl rfl rfl c16 ?_
        refine W.mv rfl (W.nil ?_)
        exact ⟨(decide (a0 = 45)), h, Wk.nrmTo [2] [] rfl rfl⟩
  ·replace h := iteF h c1
   refine W.guardF1 rfl c1 ?_
   refine W.guardF1 rfl c1 ?_
   refine W.pickN rfl rfl rfl c1 ?_
   refine W.mv rfl (W.guardT rfl rfl ?_)
   refine W.mv rfl (W.guardT rfl rfl ?_)
   refine W.geq rfl rfl (W.guardT rfl rfl ?_)
   refine W.mv rfl ?_
   refine W.split 12 rfl (fun c17 => ?_) (fun c17 => ?_)
   ·replace h := iteT h c17
    refine W.guardT rfl c17 ?_
    refine W.mv rfl ?_
    refine W.guardT rfl c17 ?_
    refine W.leq rfl rfl (W.guardT rfl rfl ?_)
    refine W.pickT rfl rfl rfl c17 ?_
    refine W.pickN rfl rfl rfl rfl (W.mv rfl ?_)
    refine W.split 17 rfl (fun c18 => ?_) (fun c18 => ?_)
    ·replace h := iteT h c18
     refine W.guardF2 rfl c18 ?_
     refine W.guardF2 rfl c18 ?_
     refine W.guardF2 rfl c18 ?_
     refine W.guardU rfl (W.guardU rfl ?_)
     refine W.guardF2 rfl c18 ?_
     refine W.pickT rfl rfl rfl c18 ?_
     refine W.mv rfl (W.guardF2 rfl rfl ?_)
     refine W.guardF2 rfl rfl (W.pickT rfl rfl rfl rfl ?_)
     refine W.mv rfl (W.guardF2 rfl rfl ?_)
     refine W.guardF2 rfl rfl (W.pickT rfl rfl rfl rfl ?_)
     refine W.mv rfl (W.guardF2 rfl rfl ?_)
     refine W.guardF2 rfl rfl (W.pickT rfl rfl rfl rfl ?_)
     refine W.mv rfl (W.nil ?_)
     exact ⟨true, h, Wk.nrmTo [2] [] rfl rfl⟩
    ·replace h := iteF h c18
     refine W.guardT rfl c18 ?_
     refine W.mv rfl ?_
     refine W.guardT rfl c18 ?_
     refine W.geq rfl rfl ?_
     refine W.guardT rfl c18 ?_
     refine W.mv rfl ?_
     refine W.split 20 rfl (fun c19 => ?_) (fun c19 => ?_)
     ·replace h := iteT h c19
      refine W.guardT rfl c19 ?_
      refine W.mv rfl ?_
      refine W.guardT rfl c19 ?_
      refine W.leq rfl rfl ?_
      refine W.guardT rfl c18 ?_
      refine W.pickT rfl rfl rfl c19 ?_
      refine W.pickN rfl rfl rfl c18 ?_
      refine W.mv rfl ?_
      refine W.split 25 rfl (fun c20 => ?_) (fun c20 => ?_)
      ·replace h := iteT h c20
       refine W.guardF2 rfl c20 ?_
       refine W.guardF2 rfl c20 ?_
       refine W.pickT rfl rfl rfl c20 ?_
       refine W.mv rfl (W.guardF2 rfl rfl ?_)
       refine W.guardF2 rfl rfl (W.pickT rfl rfl rfl rfl ?_)
       refine W.mv rfl (W.guardF2 rfl rfl ?_)
       refine W.guardF2 rfl rfl (W.pickT rfl rfl rfl rfl ?_)
       refine W.mv rfl (W.nil ?_)
       exact ⟨true, h, Wk.nrmTo [2] [] rfl rfl⟩
      ·replace h := iteF h c20
       refine W.guardT rfl c20 ?_
       refine W.mv rfl ?_
       refine W.guardT rfl c20 ?_
       refine W.eql rfl rfl ?_
       refine W.pickN rfl rfl rfl c20 ?_
       refine W.mv rfl ?_
       refine W.split 29 rfl (fun c21 => ?_) (fun c21 => ?_)
       ·replace h := iteT h c21
        refine W.guardF2 rfl c21 ?_
        refine W.guardF2 rfl c21 ?_
        refine W.pickT rfl rfl rfl c21 ?_
        refine W.mv rfl (W.guardF2 rfl rfl ?_)
        refine W.guardF2 rfl rfl (W.pickT rfl rfl rfl rfl ?_)
        refine W.mv rfl (W.nil ?_)
        exact ⟨true, h, Wk.nrmTo [2] [] rfl rfl⟩
       ·replace h := iteF h c21
        refine W.guardT rfl c21 ?_
        refine W.mv rfl ?_
        refine W.guardT rfl c21 ?_
        refine W.eql rfl rfl ?_
        refine W.pickN rfl rfl rfl c21 ?_
        refine W.mv rfl ?_
        refine W.split 33 rfl (fun c22 => ?_) (fun c22 => ?_)
        ·replace h := iteT h c22
         refine W.guardF2 rfl c22 ?_
         refine W.guardF2 rfl c22 ?_
         refine W.pickT rfl rfl rfl c22 ?_
         refine W.mv rfl (W.nil ?_)
         exact ⟨true, h, Wk.nrmTo [2] [] rfl rfl⟩
        ·replace h := iteF h c22
         refine W.guardT rfl c22 ?_
         refine W.mv rfl ?_
         refine W.guardT rfl c22 ?_
         refine W.eql rfl rfl ?_
         refine W.pickN rfl rfl rfl c22 ?_
         refine W.mv rfl (W.nil ?_)
         exact ⟨(decide (a0 = 45)), h, Wk.nrmTo [2] [] rfl rfl⟩
     ·replace h := iteF h c19
      refine W.guardF1 rfl c19 ?_
      refine W.guardF1 rfl c19 ?_
      refine W.guardT rfl c18 ?_
      refine W.pickN rfl rfl rfl c19 ?_
      refine W.pickN rfl rfl rfl c18 ?_
      refine W.mv rfl (W.guardT rfl rfl ?_)
      refine W.mv rfl (W.guardT rfl rfl ?_)
      refine W.eql rfl rfl (W.pickN rfl rfl rfl rfl ?_)
      refine W.mv rfl ?_
      refine W.split 29 rfl (fun c23 => ?_) (fun c23 => ?_)
      ·replace h := iteT h c23
       refine W.guardF2 rfl c23 ?_
       refine W.guardF2 rfl c23 ?_
       refine W.pickT rfl rfl rfl c23 ?_
       refine W.mv rfl (W.guardF2 rfl rfl ?_)
       refine W.guardF2 rfl rfl (W.pickT rfl rfl rfl rfl ?_)
       refine W.mv rfl (W.nil ?_)
       exact ⟨true, h, Wk.nrmTo [2] [] rfl rfl⟩
      ·replace h := iteF h c23
       refine W.guardT rfl c23 ?_
       refine W.mv rfl ?_
       refine W.guardT rfl c23 ?_
       refine W.eql rfl rfl ?_
       refine W.pickN rfl rfl rfl c23 ?_
       refine W.mv rfl ?_
       refine W.split 33 rfl (fun c24 => ?_) (fun c24 => ?_)
       ·replace h := iteT h c24
        refine W.guardF2 rfl c24 ?_
        refine W.guardF2 rfl c24 ?_
        refine W.pickT rfl rfl rfl c24 ?_
        refine W.mv rfl (W.nil ?_)
        exact ⟨true, h, Wk.nrmTo [2] [] rfl rfl⟩
       ·replace h := iteF h c24
        refine W.guardT rfl c24 ?_
        refine W.mv rfl ?_
        refine W.guardT rfl c24 ?_
        refine W.eql rfl rfl ?_
        refine W.pickN rfl rfl rfl c24 ?_
        refine W.mv rfl (W.nil ?_)
        exact ⟨(decide (a0 = 45)), h, Wk.nrmTo [2] [] rfl rfl⟩
   ·replace h := iteF h c17
    refine W.guardF1 rfl c17 ?_
    refine W.guardF1 rfl c17 ?_
    refine W.guardT rfl rfl ?_
    refine W.pickN rfl rfl rfl c17 ?_
    refine W.pickN rfl rfl rfl rfl (W.mv rfl ?_)
    refine W.guardT rfl rfl (W.mv rfl ?_)
    refine W.guardT rfl rfl (W.geq rfl rfl ?_)
    refine W.guardT rfl rfl (W.mv rfl ?_)
    refine W.split 20 rfl (fun c25 => ?_) (fun c25 => ?_)
    ·replace h := iteT h c25
     refine W.guardT rfl c25 ?_
     refine W.mv rfl ?_
     refine W.guardT rfl c25 ?_
     refine W.leq rfl rfl (W.guardT rfl rfl ?_)
     refine W.pickT rfl rfl rfl c25 ?_
     refine W.pickN rfl rfl rfl rfl (W.mv rfl ?_)
     refine W.split 25 rfl (fun c26 => ?_) (fun c26 => ?_)
     ·replace h := iteT h c26
      refine W.guardF2 rfl c26 ?_
      refine W.guardF2 rfl c26 ?_
      refine W.pickT rfl rfl rfl c26 ?_
      refine W.mv rfl (W.guardF2 rfl rfl ?_)
      refine W.guardF2 rfl rfl (W.pickT rfl rfl rfl rfl ?_)
      refine W.mv rfl (W.guardF2 rfl rfl ?_)
      refine W.guardF2 rfl rfl (W.pickT rfl rfl rfl rfl ?_)
      refine W.mv rfl (W.nil ?_)
      exact ⟨true, h, Wk.nrmTo [2] [] rfl rfl⟩
     ·replace h := iteF h c26
      refine W.guardT rfl c26 ?_
      refine W.mv rfl ?_
      refine W.guardT rfl c26 ?_
      refine W.eql rfl rfl ?_
      refine W.pickN rfl rfl rfl c26 ?_
      refine W.mv rfl ?_
      refine W.split 29 rfl (fun c27 => ?_) (fun c27 => ?_)
      ·replace h := iteT h c27
       refine W.guardF2 rfl c27 ?_
       refine W.guardF2 rfl c27 ?_
       refine W.pickT rfl rfl rfl c27 ?_
       refine W.mv rfl (W.guardF2 rfl rfl ?_)
       refine W.guardF2 rfl rfl (W.pickT rfl rfl rfl rfl ?_)
       refine W.mv rfl (W.nil ?_)
       exact ⟨true, h, Wk.nrmTo [2] [] rfl rfl⟩
      ·replace h := iteF h c27
       refine W.guardT rfl c27 ?_
       refine W.mv rfl ?_
       refine W.guardT rfl c27 ?_
       refine W.eql rfl rfl ?_
       refine W.pickN rfl rfl rfl c27 ?_
       refine W.mv rfl ?_
       refine W.split 33 rfl (fun c28 => ?_) (fun c28 => ?_)
       ·replace h := iteT h c28
        refine W.guardF2 rfl c28 ?_
        refine W.guardF2 rfl c28 ?_
        refine W.pickT rfl rfl rfl c28 ?_
        refine W.mv rfl (W.nil ?_)
        exact ⟨true, h, Wk.nrmTo [2] [] rfl rfl⟩
       ·replace h := iteF h c28
        refine W.guardT rfl c28 ?_
        refine W.mv rfl ?_
        refine W.guardT rfl c28 ?_
        refine W.eql rfl rfl ?_
        refine W.pickN rfl rfl rfl c28 ?_
        refine W.mv rfl (W.nil ?_)
        exact ⟨(decide (a0 = 45)), h, Wk.nrmTo [2] [] rfl rfl⟩
    ·replace h := iteF h c25
     refine W.guardF1 rfl c25 ?_
     refine W.guardF1 rfl c25 ?_
     refine W.guardT rfl rfl ?_
     refine W.pickN rfl rfl rfl c25 ?_
     refine W.pickN rfl rfl rfl rfl (W.mv rfl ?_)
     refine W.guardT rfl rfl (W.mv rfl ?_)
     refine W.guardT rfl rfl (W.eql rfl rfl ?_)
     refine W.pickN rfl rfl rfl rfl (W.mv rfl ?_)
     refine W.split 29 rfl (fun c29 => ?_) (fun c29 => ?_)
     ·replace h := iteT h c29
      refine W.guardF2 rfl c29 ?_
      refine W.guardF2 rfl c29 ?_
      refine W.pickT rfl rfl rfl c29 ?_
      refine W.mv rfl (W.guardF2 rfl rfl ?_)
      refine W.guardF2 rfl rfl (W.pickT rfl rfl rfl rfl ?_)
      refine W.mv rfl (W.nil ?_)
      exact ⟨true, h, Wk.nrmTo [2] [] rfl rfl⟩
     ·replace h := iteF h c29
      refine W.guardT rfl c29 ?_
      refine W.mv rfl ?_
      refine W.guardT rfl c29 ?_
      refine W.eql rfl rfl ?_
      refine W.pickN rfl rfl rfl c29 ?_
      refine W.mv rfl ?_
      refine W.split 33 rfl (fun c30 => ?_) (fun c30 => ?_)
      ·replace h := iteT h c30
       refine W.guardF2 rfl c30 ?_
       refine W.guardF2 rfl c30 ?_
       refine W.pickT rfl rfl rfl c30 ?_
       refine W.mv rfl (W.nil ?_)
       exact ⟨true, h, Wk.nrmTo [2] [] rfl rfl⟩
      ·replace h := iteF h c30
       refine W.guardT rfl c30 ?_
       refine W.mv rfl ?_
       refine W.guardT rfl c30 ?_
       refine W.eql rfl rfl ?_
       refine W.pickN rfl rfl rfl c30 ?_
       refine W.mv rfl (W.nil ?_)
       exact ⟨(decide (a0 = 45)), h, Wk.nrmTo [2] [] rfl rfl⟩
 ·intro x1 h
  try dsimp only at h ⊢
  unfold ref2_pathByte_j1 at h
  refine Ev.ret ?_
  injection h with h; subst h
  exact ⟨_, rfl, .refl _⟩
end Go.Proofs.YtlkknmhhefjmjaaGreatDoor
