/- The functions compute what the texts of D say. Laid by a program (wip/gen/dec.py). -/
import Derived.Test.YtlkknmhhefjmjaaGreatDoorD
import Derived.Test.YtlkknmhhefjmjaaGreatDoorW6
namespace Go.Proofs.YtlkknmhhefjmjaaGreatDoor
open Go.PW Go
set_option maxHeartbeats 4000000 in
theorem law6_ActioncacheRunMatchesSpec_spec (n : Nat) (a0 : List SKeyLines) (a1 : SInputsOpsOutput) (a2 : SFiles) (r : Bool) (h : law6_ActioncacheRunMatchesSpec n a0 a1 a2 = some r) : PSpec Tryz.prog 6 [.list 2 (List.map SKeyLines.cells a0), .agg (SInputsOpsOutput.cells a1), .agg (SFiles.cells a2)] (.bool r) := by
 unfold law6_ActioncacheRunMatchesSpec at h
 refine spec_of Tryz.c_law6_ActioncacheRunMatchesSpec (by simp) ?_
 unfold Tryz.l_law6_ActioncacheRunMatchesSpec
 refine Ev.seq ?_
 refine W.reg hm ?_
 refine W.box (dt := true) (cs := [.list 1 (List.map cS a1.Inputs), .list 2 (List.map SKindText.cells a1.Ops), .str a1.Output]) rfl rfl rfl rfl rfl rfl ?_
 refine W.box (dt := true) (cs := [.list 2 (List.map SPathLines.cells a2.Files)]) rfl rfl rfl rfl rfl rfl ?_
 refine W.mv rfl (W.nil ?_)
 refine Ev.seq (Ev.seq ?_)
 refine W.reg hm ?_
 obtain ⟨r1, k1, h⟩ := obind h
 refine W.call (law6_caches_spec n r1 k1) rfl rfl (Les.refl _) rfl (.inl rfl) rfl ?_
 refine W.not rfl (W.nil ?_)
 refine Ev.cond rfl (fun c2 => ?_) (fun c2 => ?_)
 ·replace h := iteT h c2
  refine Ev.seq ?_
  refine W.reg hm ?_
  refine W.mv rfl (W.nil ?_)
  refine Ev.ret ?_
  injection h with h; subst h
  exact ⟨_, rfl, .refl _⟩
 ·replace h := iteF h c2
  refine Ev.skip ?_
  refine Ev.seq ?_
  refine W.reg hm ?_
  refine W.mv rfl ?_
  obtain ⟨r2, k3, h⟩ := obind h
  refine W.call (ref6_CacheFault_spec n a0 r2 k3) rfl rfl (Les.refl _) rfl (.inl rfl) rfl ?_
  refine W.alloc (dt := true) rfl rfl rfl ?_
  refine W.store (es' := [[.int .i64 r2.Code, .int .i64 r2.Index]]) (dt := true) rfl rfl rfl rfl rfl (Nat.le_of_ble_eq_true rfl) rfl rfl rfl rfl ?_
  refine W.nil ?_
  refine Ev.seqJ (γ := Int × Int) (fun v => ⟨[(0, .list 2 (List.map SKeyLines.cells a0)), (4, .pown 10100 0 0 0), (5, .pown 10101 0 0 0), (7, .pown 10102 0 0 0)], [(10100, ⟨0, 53, 3, [[.list 1 (List.map cS a1.Inputs), .list 2 (List.map SKindText.cells a1.Ops), .str a1.Output]], true, false, false⟩), (10101, ⟨0, 25, 1, [[.list 2 (List.map SPathLines.cells a2.Files)]], true, false, false⟩), (10102, ⟨0, 31, 2, [[.int .i64 v.1, .int .i64 v.2]], true, false, false⟩)], 2⟩) (fun v => law6_ActioncacheRunMatchesSpec_j1 n a0 a1 a2 v.1 v.2 = some r) ?_ ?_
  ·refine Ev.seq ?_
   refine W.reg hm ?_
   refine W.fieldAddrO rfl rfl ?_
   refine W.loadO (p := .int .i64 r2.Code) rfl rfl rfl rfl ?_
   refine W.eql rfl rfl (W.nil ?_)
   refine Ev.cond rfl (fun c23 => ?_) (fun c23 => ?_)
   ·replace h := iteT h c23
    refine W.reg hm ?_
    refine W.loadO (p := .agg [.list 1 (List.map cS a1.Inputs), .list 2 (List.map SKindText.cells a1.Ops), .str a1.Output]) rfl rfl rfl rfl ?_
    refine W.loadO (p := .agg [.list 2 (List.map SPathLines.cells a2.Files)]) rfl rfl rfl rfl ?_
    obtain ⟨r24, k24, h⟩ := obind h
    refine W.call (ref6_RunFault_spec n a1 a2 r24 k24) rfl rfl (Les.refl _) rfl (.inl rfl) rfl ?_
    refine W.store (es' := [[.int .i64 r24.Code, .int .i64 r24.Index]]) (dt := true) rfl rfl rfl rfl rfl (Nat.le_of_ble_eq_true rfl) rfl rfl rfl rfl ?_
    refine W.nil ?_
    exact ⟨(r24.Code, r24.Index), h, Wk.nrmTo [0, 4, 5, 7] [(4, 10100), (5, 10101), (7, 10102)] rfl rfl⟩
   ·replace h := iteF h c23
    refine Ev.skip ?_
    exact ⟨(r2.Code, r2.Index), h, Wk.nrmTo [0, 4, 5, 7] [(4, 10100), (5, 10101), (7, 10102)] rfl rfl⟩
  ·intro ⟨b3, b4⟩ h
   try dsimp only at h ⊢
   unfold law6_ActioncacheRunMatchesSpec_j1 at h
   refine Ev.seq ?_
   refine W.reg hm ?_
   refine W.mv rfl (W.nil ?_)
   refine Ev.seq ?_
   refine W.reg hm ?_
   refine W.mv rfl (W.nil ?_)
   refine Ev.seq ?_
   refine W.reg hm ?_
   refine W.mv rfl (W.nil ?_)
   refine Ev.seqJ (γ := (List (List UInt8)) × Bool × Int) (fun v => ⟨[(0, .list 2 (List.map SKeyLines.cells a0)), (4, .pown 10200 0 0 0), (5, .pown 10201 0 0 0), (7, .pown 10202 0 0 0), (8, .list 1 (List.map cS v.1)), (9, .bool v.2.1), (10, .int .i64 v.2.2)], [(10200, ⟨0, 53, 3, [[.list 1 (List.map cS a1.Inputs), .list 2 (List.map SKindText.cells a1.Ops), .str a1.Output]], true, false, false⟩), (10201, ⟨0, 25, 1, [[.list 2 (List.map SPathLines.cells a2.Files)]], true, false, false⟩), (10202, ⟨0, 31, 2, [[.int .i64 b3, .int .i64 b4]], true, false, false⟩)], 2⟩) (fun v => law6_ActioncacheRunMatchesSpec_j2 n a0 a1 a2 b3 b4 v.1 v.2.1 v.2.2 = some r) ?_ ?_
   ·refine Ev.seq ?_
    refine W.reg hm ?_
    refine W.fieldAddrO rfl rfl ?_
    refine W.loadO (p := .int .i64 b3) rfl rfl rfl rfl ?_
    refine W.eql rfl rfl (W.nil ?_)
    refine Ev.cond rfl (fun c20 => ?_) (fun c20 => ?_)
    ·replace h := iteT h c20
     refine Ev.seq ?_
     refine W.reg hm ?_
     refine W.loadO (p := .agg [.list 1 (List.map cS a1.Inputs), .list 2 (List.map SKindText.cells a1.Ops), .str a1.Output]) rfl rfl rfl rfl ?_
     refine W.loadO (p := .agg [.list 2 (List.map SPathLines.cells a2.Files)]) rfl rfl rfl rfl ?_
     obtain ⟨r22, k21, h⟩ := obind h
     refine W.call (ref6_ActionKey_spec n a1 a2 r22 k21) rfl rfl (Les.refl _) rfl (.inl rfl) rfl ?_
     refine W.mv rfl (W.nil ?_)
     refine W.reg hm ?_
     refine W.mv rfl (W.mv rfl ?_)
     obtain ⟨r23, k22, h⟩ := obind h
     refine W.call (ref6_LinesAt_spec n a0 r22 r23 k22) rfl rfl (Les.refl _) rfl (.inl rfl) rfl ?_
     refine W.mv rfl (W.extract rfl rfl ?_)
     refine W.extract rfl rfl (W.mv rfl ?_)
     refine W.mv rfl (W.nil ?_)
     exact ⟨(r23.1, r23.2, r22), h, Wk.nrmTo [0, 4, 5, 7, 8, 9, 10] [(10100, 10200), (10101, 10201), (10102, 10202)] rfl rfl⟩
    ·replace h := iteF h c20
     refine Ev.skip ?_
     exact ⟨(([] : List (List UInt8)), false, 0), h, (Wk.le (t := 8) rfl (.nils 1)).trans (Wk.nrmTo [0, 4, 5, 7, 8, 9, 10] [(10100, 10200), (10101, 10201), (10102, 10202)] rfl rfl)⟩
   ·intro ⟨x5, x6, x7⟩ h
    try dsimp only at h ⊢
    unfold law6_ActioncacheRunMatchesSpec_j2 at h
    refine Ev.seqJ (γ := Int × Int × (List (List UInt8))) (fun v => ⟨[(0, .list 2 (List.map SKeyLines.cells a0)), (4, .pown 10300 0 0 0), (5, .pown 10301 0 0 0), (7, .pown 10302 0 0 0), (8, .list 1 (List.map cS v.2.2)), (9, .bool x6), (10, .int .i64 x7)], [(10300, ⟨0, 53, 3, [[.list 1 (List.map cS a1.Inputs), .list 2 (List.map SKindText.cells a1.Ops), .str a1.Output]], true, false, false⟩), (10301, ⟨0, 25, 1, [[.list 2 (List.map SPathLines.cells a2.Files)]], true, false, false⟩), (10302, ⟨0, 31, 2, [[.int .i64 v.1, .int .i64 v.2.1]], true, false, false⟩)], 2⟩) (fun v => law6_ActioncacheRunMatchesSpec_j3 n a0 a1 a2 x6 x7 v.1 v.2.1 v.2.2 = some r) ?_ ?_
    ·refine Ev.seqJ (γ := Bool) (fun v => ⟨[(0, .list 2 (List.map SKeyLines.cells a0)), (4, .pown 10400 0 0 0), (5, .pown 10401 0 0 0), (7, .pown 10402 0 0 0), (8, .list 1 (List.map cS x5)), (9, .bool x6), (10, .int .i64 x7), (44, .bool v)], [(10400, ⟨0, 53, 3, [[.list 1 (List.map cS a1.Inputs), .list 2 (List.map SKindText.cells a1.Ops), .str a1.Output]], true, false, false⟩), (10401, ⟨0, 25, 1, [[.list 2 (List.map SPathLines.cells a2.Files)]], true, false, false⟩), (10402, ⟨0, 31, 2, [[.int .i64 b3, .int .i64 b4]], true, false, false⟩)], 2⟩) (fun v => law6_ActioncacheRunMatchesSpec_j9 n a0 a1 a2 b3 b4 x5 x6 x7 v = some r) ?_ ?_
     ·refine W.reg hm ?_
      refine W.fieldAddrO rfl rfl ?_
      refine W.loadO (p := .int .i64 b3) rfl rfl rfl rfl ?_
      refine W.eql rfl rfl (W.mv rfl ?_)
      refine W.split 41 rfl (fun c19 => ?_) (fun c19 => ?_)
      ·replace h := iteT h c19
       refine W.guardT rfl c19 ?_
       refine W.mv rfl ?_
       refine W.guardT rfl c19 ?_
       refine W.not rfl ?_
       refine W.pickT rfl rfl rfl c19 ?_
       refine W.nil ?_
       exact ⟨(!x6), h, Wk.nrmTo [0, 4, 5, 7, 8, 9, 10, 44] [(10200, 10400), (10201, 10401), (10202, 10402)] rfl rfl⟩
      ·replace h := iteF h c19
       refine W.guardF1 rfl c19 ?_
       refine W.guardF1 rfl c19 ?_
       refine W.pickN rfl rfl rfl c19 ?_
       refine W.nil ?_
       exact ⟨false, h, Wk.nrmTo [0, 4, 5, 7, 8, 9, 10, 44] [(10200, 10400), (10201, 10401), (10202, 10402)] rfl rfl⟩
     ·intro x20 h
      try dsimp only at h ⊢
      unfold law6_ActioncacheRunMatchesSpec_j9 at h
      refine Ev.cond rfl (fun c17 => ?_) (fun c17 => ?_)
      ·replace h := iteT h c17
       refine W.reg hm ?_
       refine W.loadO (p := .agg [.list 1 (List.map cS a1.Inputs), .list 2 (List.map SKindText.cells a1.Ops), .str a1.Output]) rfl rfl rfl rfl ?_
       refine W.loadO (p := .agg [.list 2 (List.map SPathLines.cells a2.Files)]) rfl rfl rfl rfl ?_
       obtain ⟨r21, k18, h⟩ := obind h
       refine W.call (ref6_Ran_spec n a1 a2 r21 k18) rfl rfl (Les.refl _) rfl (.inl rfl) rfl ?_
       refine W.mv rfl (W.extract rfl rfl ?_)
       refine W.extract rfl rfl (W.mv rfl ?_)
       refine W.store (es' := [[.int .i64 r21.2.Code, .int .i64 r21.2.Index]]) (dt := true) rfl rfl rfl rfl rfl (Nat.le_of_ble_eq_true rfl) rfl rfl rfl rfl ?_
       refine W.nil ?_
       exact ⟨(r21.2.Code, r21.2.Index, r21.1), h, Wk.nrmTo [0, 4, 5, 7, 8, 9, 10] [(10400, 10300), (10401, 10301), (10402, 10302)] rfl rfl⟩
      ·replace h := iteF h c17
       refine Ev.skip ?_
       exact ⟨(b3, b4, x5), h, Wk.nrmTo [0, 4, 5, 7, 8, 9, 10] [(10400, 10300), (10401, 10301), (10402, 10302)] rfl rfl⟩
    ·intro ⟨b8, b9, x10⟩ h
     try dsimp only at h ⊢
     unfold law6_ActioncacheRunMatchesSpec_j3 at h
     refine Ev.seq ?_
     refine W.reg hm ?_
     refine W.mv rfl ?_
     refine W.loadO (p := .agg [.list 1 (List.map cS a1.Inputs), .list 2 (List.map SKindText.cells a1.Ops), .str a1.Output]) rfl rfl rfl rfl ?_
     refine W.loadO (p := .agg [.list 2 (List.map SPathLines.cells a2.Files)]) rfl rfl rfl rfl ?_
     obtain ⟨r11, k4, h⟩ := obind h
     refine W.call (actioncache_Run_spec n a0 a1 a2 r11 k4) rfl rfl (Les.refl _) rfl (.inl rfl) rfl ?_
     refine W.mv rfl (W.extract rfl rfl ?_)
     refine W.extract rfl rfl (W.extract rfl rfl ?_)
     refine W.extract rfl rfl ?_
     refine W.alloc (dt := true) rfl rfl rfl ?_
     refine W.mv rfl (W.mv rfl ?_)
     refine W.mv rfl ?_
     refine W.store (es' := [[.int .i64 r11.2.2.2.Code, .int .i64 r11.2.2.2.Index]]) (dt := true) rfl rfl rfl rfl rfl (Nat.le_of_ble_eq_true rfl) rfl rfl rfl rfl ?_
     refine W.nil ?_
     refine Ev.seq ?_
     refine Ev.seqJ (γ := Bool) (fun v => ⟨[(0, .list 2 (List.map SKeyLines.cells a0)), (7, .pown 10400 0 0 0), (8, .list 1 (List.map cS x10)), (9, .bool x6), (10, .int .i64 x7), (11, .list 1 (List.map cS r11.1)), (12, .list 2 (List.map SKeyLines.cells r11.2.1)), (13, .bool r11.2.2.1), (14, .pown 10401 0 0 0), (67, .bool v)], [(10400, ⟨0, 31, 2, [[.int .i64 b8, .int .i64 b9]], true, false, false⟩), (10401, ⟨0, 31, 2, [[.int .i64 r11.2.2.2.Code, .int .i64 r11.2.2.2.Index]], true, false, false⟩)], 2⟩) (fun v => law6_ActioncacheRunMatchesSpec_j4 n a0 x6 x7 b8 b9 x10 r11 v = some r) ?_ ?_
     ·refine W.reg hm ?_
      refine W.loadO (p := .agg [.int .i64 r11.2.2.2.Code, .int .i64 r11.2.2.2.Index]) rfl rfl rfl rfl ?_
      refine W.loadO (p := .agg [.int .i64 b8, .int .i64 b9]) rfl rfl rfl rfl ?_
      refine W.eqs rfl rfl rfl (W.mv rfl ?_)
      refine W.split 63 rfl (fun c16 => ?_) (fun c16 => ?_)
      ·replace h := iteT h c16
       refine W.guardF2 rfl c16 ?_
       refine W.guardF2 rfl c16 ?_
       refine W.guardF2 rfl c16 ?_
       refine W.pickT rfl rfl rfl c16 ?_
       refine W.nil ?_
       exact ⟨true, h, Wk.nrmTo [0, 7, 8, 9, 10, 11, 12, 13, 14, 67] [(10302, 10400), (14, 10401)] rfl rfl⟩
      ·replace h := iteF h c16
       refine W.guardT rfl c16 ?_
       refine W.fieldAddrO rfl rfl ?_
       refine W.guardT rfl c16 ?_
       refine W.loadO (p := .int .i64 b8) rfl rfl rfl rfl ?_
       refine W.guardT rfl c16 ?_
       refine W.neq rfl rfl ?_
       refine W.pickN rfl rfl rfl c16 ?_
       refine W.nil ?_
       exact ⟨(decide (b8 ≠ 0)), h, Wk.nrmTo [0, 7, 8, 9, 10, 11, 12, 13, 14, 67] [(10302, 10400), (14, 10401)] rfl rfl⟩
     ·intro x12 h
      try dsimp only at h ⊢
      unfold law6_ActioncacheRunMatchesSpec_j4 at h
      refine Ev.cond rfl (fun c5 => ?_) (fun c5 => ?_)
      ·replace h := iteT h c5
       refine Ev.seqJ (γ := Bool) (fun v => ⟨[(6, .bool v)], [], 2⟩) (fun v => law6_ActioncacheRunMatchesSpec_j5 n v = some r) ?_ ?_
       ·refine W.reg hm ?_
        refine W.loadO (p := .agg [.int .i64 r11.2.2.2.Code, .int .i64 r11.2.2.2.Index]) rfl rfl rfl rfl ?_
        refine W.loadO (p := .agg [.int .i64 b8, .int .i64 b9]) rfl rfl rfl rfl ?_
        refine W.eqs rfl rfl rfl (W.mv rfl ?_)
        refine W.split 71 rfl (fun c6 => ?_) (fun c6 => ?_)
        ·replace h := iteT h c6
         refine W.guardT rfl c6 ?_
         refine W.mv rfl ?_
         refine W.guardT rfl c6 ?_
         refine W.lenL (c := cS) rfl ?_
         refine W.guardT rfl c6 ?_
         refine W.eql rfl rfl ?_
         refine W.pickT rfl rfl rfl c6 ?_
         refine W.mv rfl ?_
         refine W.split 76 rfl (fun c7 => ?_) (fun c7 => ?_)
         ·replace h := iteT h c7
          refine W.guardT rfl c7 ?_
          refine W.mv rfl ?_
          refine W.guardT rfl c7 ?_
          refine W.lenL (c := SKeyLines.cells) rfl ?_
          refine W.guardT rfl c7 ?_
          refine W.eql rfl rfl ?_
          refine W.pickT rfl rfl rfl c7 ?_
          refine W.mv rfl ?_
          refine W.split 81 rfl (fun c8 => ?_) (fun c8 => ?_)
          ·replace h := iteT h c8
           refine W.guardT rfl c8 ?_
           refine W.mv rfl ?_
           refine W.guardT rfl c8 ?_
           refine W.not rfl ?_
           refine W.pickT rfl rfl rfl c8 ?_
           refine W.mv rfl (W.nil ?_)
           exact ⟨(!r11.2.2.1), h, Wk.nrmTo [6] [] rfl rfl⟩
          ·replace h := iteF h c8
           refine W.guardF1 rfl c8 ?_
           refine W.guardF1 rfl c8 ?_
           refine W.pickN rfl rfl rfl c8 ?_
           refine W.mv rfl (W.nil ?_)
           exact ⟨false, h, Wk.nrmTo [6] [] rfl rfl⟩
         ·replace h := iteF h c7
          refine W.guardF1 rfl c7 ?_
          refine W.guardF1 rfl c7 ?_
          refine W.guardF1 rfl c7 ?_
          refine W.pickN rfl rfl rfl c7 ?_
          refine W.mv rfl (W.guardF1 rfl rfl ?_)
          refine W.guardF1 rfl rfl (W.pickN rfl rfl rfl rfl ?_)
          refine W.mv rfl (W.nil ?_)
          exact ⟨false, h, Wk.nrmTo [6] [] rfl rfl⟩
        ·replace h := iteF h c6
         refine W.guardF1 rfl c6 ?_
         refine W.guardF1 rfl c6 ?_
         refine W.guardF1 rfl c6 ?_
         refine W.pickN rfl rfl rfl c6 ?_
         refine W.mv rfl (W.guardF1 rfl rfl ?_)
         refine W.guardF1 rfl rfl (W.guardF1 rfl rfl ?_)
         refine W.pickN rfl rfl rfl rfl (W.mv rfl ?_)
         refine W.guardF1 rfl rfl (W.guardF1 rfl rfl ?_)
         refine W.pickN rfl rfl rfl rfl (W.mv rfl ?_)
         refine W.nil ?_
         exact ⟨false, h, Wk.nrmTo [6] [] rfl rfl⟩
       ·intro x13 h
        try dsimp only at h ⊢
        unfold law6_ActioncacheRunMatchesSpec_j5 at h
        refine Ev.ret ?_
        injection h with h; subst h
        exact ⟨_, rfl, .refl _⟩
      ·replace h := iteF h c5
       refine Ev.skip ?_
       refine Ev.seq ?_
       refine W.reg hm ?_
       refine W.mv rfl (W.mv rfl ?_)
       refine W.nil ?_
       refine Ev.seqJ (γ := List SKeyLines) (fun v => ⟨[(8, .list 1 (List.map cS x10)), (9, .bool x6), (11, .list 1 (List.map cS r11.1)), (12, .list 2 (List.map SKeyLines.cells r11.2.1)), (13, .bool r11.2.2.1), (15, .list 2 (List.map SKeyLines.cells v))], [], 2⟩) (fun v => law6_ActioncacheRunMatchesSpec_j6 n x6 x10 r11 v = some r) ?_ ?_
       ·refine Ev.seqJ (γ := Bool) (fun v => ⟨[(0, .list 2 (List.map SKeyLines.cells a0)), (8, .list 1 (List.map cS x10)), (9, .bool x6), (10, .int .i64 x7), (11, .list 1 (List.map cS r11.1)), (12, .list 2 (List.map SKeyLines.cells r11.2.1)), (13, .bool r11.2.2.1), (15, .list 2 (List.map SKeyLines.cells a0)), (92, .bool v)], [], 2⟩) (fun v => law6_ActioncacheRunMatchesSpec_j8 n a0 x6 x7 x10 r11 v = some r) ?_ ?_
        ·refine W.reg hm ?_
         refine W.mv rfl (W.not rfl ?_)
         refine W.mv rfl ?_
         refine W.split 88 rfl (fun c15 => ?_) (fun c15 => ?_)
         ·replace h := iteT h c15
          refine W.guardT rfl c15 ?_
          refine W.mv rfl ?_
          refine W.guardT rfl c15 ?_
          refine W.lenL (c := SKeyLines.cells) rfl ?_
          refine W.guardT rfl c15 ?_
          refine W.lss rfl rfl ?_
          refine W.pickT rfl rfl rfl c15 ?_
          refine W.nil ?_
          exact ⟨(decide ((a0.length : Int) < 16)), h, Wk.nrmTo [0, 8, 9, 10, 11, 12, 13, 15, 92] [] rfl rfl⟩
         ·replace h := iteF h c15
          refine W.guardF1 rfl c15 ?_
          refine W.guardF1 rfl c15 ?_
          refine W.guardF1 rfl c15 ?_
          refine W.pickN rfl rfl rfl c15 ?_
          refine W.nil ?_
          exact ⟨false, h, Wk.nrmTo [0, 8, 9, 10, 11, 12, 13, 15, 92] [] rfl rfl⟩
        ·intro x18 h
         try dsimp only at h ⊢
         unfold law6_ActioncacheRunMatchesSpec_j8 at h
         refine Ev.cond rfl (fun c13 => ?_) (fun c13 => ?_)
         ·replace h := iteT h c13
          refine W.reg hm ?_
          refine W.mv rfl (W.mv rfl ?_)
          refine W.mv rfl ?_
          obtain ⟨r19, k14, h⟩ := obind h
          refine W.call (ref6_Stored_spec n a0 x7 x10 r19 k14) rfl rfl (Les.refl _) rfl (.inl rfl) rfl ?_
          refine W.mv rfl (W.nil ?_)
          exact ⟨r19, h, Wk.nrmTo [8, 9, 11, 12, 13, 15] [] rfl rfl⟩
         ·replace h := iteF h c13
          refine Ev.skip ?_
          exact ⟨a0, h, Wk.nrmTo [8, 9, 11, 12, 13, 15] [] rfl rfl⟩
       ·intro x14 h
        try dsimp only at h ⊢
        unfold law6_ActioncacheRunMatchesSpec_j6 at h
        refine Ev.seqJ (γ := Bool) (fun v => ⟨[(6, .bool v)], [], 2⟩) (fun v => law6_ActioncacheRunMatchesSpec_j7 n v = some r) ?_ ?_
        ·refine W.reg hm ?_
         refine W.mv rfl (W.mv rfl ?_)
         refine W.beql rfl rfl (W.mv rfl ?_)
         refine W.split 100 rfl (fun c9 => ?_) (fun c9 => ?_)
         ·replace h := iteT h c9
          refine W.guardT rfl c9 ?_
          refine W.mv rfl ?_
          refine W.guardT rfl c9 ?_
          refine W.mv rfl ?_
          refine W.guardT rfl c9 ?_
          obtain ⟨r16, k10, h⟩ := obind h
          refine W.call (ref6_Strings_spec n r11.1 x10 r16 k10) rfl rfl (Les.refl _) rfl (.inl rfl) rfl ?_
          refine W.pickT rfl rfl rfl c9 ?_
          refine W.mv rfl ?_
          refine W.split 105 rfl (fun c11 => ?_) (fun c11 => ?_)
          ·replace h := iteT h c11
           refine W.guardT rfl c11 ?_
           refine W.mv rfl ?_
           refine W.guardT rfl c11 ?_
           refine W.mv rfl ?_
           refine W.guardT rfl c11 ?_
           obtain ⟨r17, k12, h⟩ := obind h
           refine W.call (ref6_SameCache_spec n r11.2.1 x14 r17 k12) rfl rfl (Les.refl _) rfl (.inl rfl) rfl ?_
           refine W.pickT rfl rfl rfl c11 ?_
           refine W.mv rfl (W.nil ?_)
           exact ⟨r17, h, Wk.nrmTo [6] [] rfl rfl⟩
          ·replace h := iteF h c11
           refine W.guardF1 rfl c11 ?_
           refine W.guardF1 rfl c11 ?_
           refine W.guardF1 rfl c11 ?_
           refine W.pickN rfl rfl rfl c11 ?_
           refine W.mv rfl (W.nil ?_)
           exact ⟨false, h, Wk.nrmTo [6] [] rfl rfl⟩
         ·replace h := iteF h c9
          refine W.guardF1 rfl c9 ?_
          refine W.guardF1 rfl c9 ?_
          refine W.guardF1 rfl c9 ?_
          refine W.pickN rfl rfl rfl c9 ?_
          refine W.mv rfl (W.guardF1 rfl rfl ?_)
          refine W.guardF1 rfl rfl (W.guardF1 rfl rfl ?_)
          refine W.pickN rfl rfl rfl rfl (W.mv rfl ?_)
          refine W.nil ?_
          exact ⟨false, h, Wk.nrmTo [6] [] rfl rfl⟩
        ·intro x15 h
         try dsimp only at h ⊢
         unfold law6_ActioncacheRunMatchesSpec_j7 at h
         refine Ev.ret ?_
         injection h with h; subst h
         exact ⟨_, rfl, .refl _⟩
end Go.Proofs.YtlkknmhhefjmjaaGreatDoor
