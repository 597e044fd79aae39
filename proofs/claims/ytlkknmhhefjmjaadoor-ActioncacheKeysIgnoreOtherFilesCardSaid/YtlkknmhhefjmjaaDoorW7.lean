/- The functions compute what the texts of D say. Laid by a program (wip/gen/dec.py). -/
import Derived.Test.YtlkknmhhefjmjaaDoorD
import Derived.Test.YtlkknmhhefjmjaaDoorW6
namespace Go.Proofs.YtlkknmhhefjmjaaDoor
open Go.PW Go
set_option maxHeartbeats 4000000 in
theorem law6_ActioncacheStoresCommute_spec (n : Nat) (a0 : List SKeyLines) (a1 : Int) (a2 : Int) (a3 : List (List UInt8)) (a4 : List (List UInt8)) (r : Bool) (h : law6_ActioncacheStoresCommute n a0 a1 a2 a3 a4 = some r) : PSpec Tryd.prog 7 [.list 2 (List.map SKeyLines.cells a0), .int .i64 a1, .int .i64 a2, .list 1 (List.map cS a3), .list 1 (List.map cS a4)] (.bool r) := by
 unfold law6_ActioncacheStoresCommute at h
 refine spec_of Tryd.c_law6_ActioncacheStoresCommute (by simp) ?_
 unfold Tryd.l_law6_ActioncacheStoresCommute
 refine Ev.seq ?_
 refine W.reg hm ?_
 refine W.mv rfl (W.nil ?_)
 refine Ev.seq (Ev.seq ?_)
 refine W.reg hm ?_
 obtain ⟨r1, k1, h⟩ := obind h
 refine W.call (law6_caches_spec n r1 k1) rfl rfl (Les.refl _) rfl (.inl rfl) rfl ?_
 refine W.not rfl (W.nil ?_)
 refine Ev.cond rfl (fun c2 => ?_) (fun c2 => ?_)
 ·replace h := iteT h c2
  refine Ev.seq ?_
  refine W.reg hm ?_
  refine W.mv rfl (W.nil ?_)
  refine Ev.ret ?_
  injection h with h; subst h
  exact ⟨_, rfl, .refl _⟩
 ·replace h := iteF h c2
  refine Ev.skip ?_
  refine Ev.seq ?_
  refine Ev.seqJ (γ := Bool) (fun v => ⟨[(0, .list 2 (List.map SKeyLines.cells a0)), (1, .int .i64 a1), (2, .int .i64 a2), (3, .list 1 (List.map cS a3)), (4, .list 1 (List.map cS a4)), (30, .bool v)], [], 2⟩) (fun v => law6_ActioncacheStoresCommute_j1 n a0 a1 a2 a3 a4 v = some r) ?_ ?_
  ·refine W.reg hm ?_
   refine W.mv rfl ?_
   refine W.lenL (c := SKeyLines.cells) rfl ?_
   refine W.gtr rfl rfl (W.mv rfl ?_)
   refine W.split 26 rfl (fun c28 => ?_) (fun c28 => ?_)
   ·replace h := iteT h c28
    refine W.guardF2 rfl c28 ?_
    refine W.guardF2 rfl c28 ?_
    refine W.guardF2 rfl c28 ?_
    refine W.pickT rfl rfl rfl c28 ?_
    refine W.nil ?_
    exact ⟨true, h, Wk.nrmTo [0, 1, 2, 3, 4, 30] [] rfl rfl⟩
   ·replace h := iteF h c28
    refine W.guardT rfl c28 ?_
    refine W.mv rfl ?_
    refine W.guardT rfl c28 ?_
    refine W.mv rfl ?_
    refine W.guardT rfl c28 ?_
    refine W.eql rfl rfl ?_
    refine W.pickN rfl rfl rfl c28 ?_
    refine W.nil ?_
    exact ⟨(decide (a1 = a2)), h, Wk.nrmTo [0, 1, 2, 3, 4, 30] [] rfl rfl⟩
  ·intro x2 h
   try dsimp only at h ⊢
   unfold law6_ActioncacheStoresCommute_j1 at h
   refine Ev.cond rfl (fun c3 => ?_) (fun c3 => ?_)
   ·replace h := iteT h c3
    refine Ev.seq ?_
    refine W.reg hm ?_
    refine W.mv rfl (W.mv rfl ?_)
    refine W.mv rfl ?_
    obtain ⟨r3, k4, h⟩ := obind h
    refine W.call (actioncache_Store_spec n a0 a1 a3 r3 k4) rfl rfl (Les.refl _) rfl (.inl rfl) rfl ?_
    refine W.mv rfl (W.extract rfl rfl ?_)
    refine W.extract rfl rfl ?_
    refine W.alloc (dt := true) rfl rfl rfl ?_
    refine W.mv rfl ?_
    refine W.store (es' := [[.int .i64 r3.2.Code, .int .i64 r3.2.Index]]) (dt := true) rfl rfl rfl rfl rfl (Nat.le_of_ble_eq_true rfl) rfl rfl rfl rfl ?_
    refine W.nil ?_
    refine Ev.seq ?_
    refine W.reg hm ?_
    refine W.mv rfl (W.mv rfl ?_)
    refine W.mv rfl ?_
    obtain ⟨r4, k5, h⟩ := obind h
    refine W.call (actioncache_Store_spec n r3.1 a1 a4 r4 k5) rfl rfl (Les.refl _) rfl (.inl rfl) rfl ?_
    refine W.mv rfl (W.extract rfl rfl ?_)
    refine W.extract rfl rfl ?_
    refine W.alloc (dt := true) rfl rfl rfl ?_
    refine W.mv rfl ?_
    refine W.store (es' := [[.int .i64 r4.2.Code, .int .i64 r4.2.Index]]) (dt := true) rfl rfl rfl rfl rfl (Nat.le_of_ble_eq_true rfl) rfl rfl rfl rfl ?_
    refine W.nil ?_
    refine Ev.seq ?_
    refine W.reg hm ?_
    refine W.mv rfl (W.mv rfl ?_)
    refine W.mv rfl ?_
    obtain ⟨r5, k6, h⟩ := obind h
    refine W.call (actioncache_Store_spec n a0 a1 a4 r5 k6) rfl rfl (Les.refl _) rfl (.inl rfl) rfl ?_
    refine W.mv rfl (W.extract rfl rfl ?_)
    refine W.extract rfl rfl ?_
    refine W.alloc (dt := true) rfl rfl rfl ?_
    refine W.mv rfl ?_
    refine W.store (es' := [[.int .i64 r5.2.Code, .int .i64 r5.2.Index]]) (dt := true) rfl rfl rfl rfl rfl (Nat.le_of_ble_eq_true rfl) rfl rfl rfl rfl ?_
    refine W.nil ?_
    refine Ev.seq ?_
    refine Ev.seqJ (γ := Bool) (fun v => ⟨[(11, .list 2 (List.map SKeyLines.cells r3.1)), (12, .pown 10200 0 0 0), (13, .list 2 (List.map SKeyLines.cells r4.1)), (14, .pown 10201 0 0 0), (15, .list 2 (List.map SKeyLines.cells r5.1)), (16, .pown 10202 0 0 0), (59, .bool v)], [(10200, ⟨0, 25, 2, [[.int .i64 r3.2.Code, .int .i64 r3.2.Index]], true, false, false⟩), (10201, ⟨0, 25, 2, [[.int .i64 r4.2.Code, .int .i64 r4.2.Index]], true, false, false⟩), (10202, ⟨0, 25, 2, [[.int .i64 r5.2.Code, .int .i64 r5.2.Index]], true, false, false⟩)], 2⟩) (fun v => law6_ActioncacheStoresCommute_j2 n r3 r4 r5 v = some r) ?_ ?_
    ·refine W.reg hm ?_
     refine W.fieldAddrO rfl rfl ?_
     refine W.loadO (p := .int .i64 r3.2.Code) rfl rfl rfl rfl ?_
     refine W.neq rfl rfl (W.mv rfl ?_)
     refine W.split 55 rfl (fun c14 => ?_) (fun c14 => ?_)
     ·replace h := iteT h c14
      refine W.guardF2 rfl c14 ?_
      refine W.guardF2 rfl c14 ?_
      refine W.guardF2 rfl c14 ?_
      refine W.pickT rfl rfl rfl c14 ?_
      refine W.nil ?_
      exact ⟨true, h, Wk.nrmTo [11, 12, 13, 14, 15, 16, 59] [(12, 10200), (14, 10201), (16, 10202)] rfl rfl⟩
     ·replace h := iteF h c14
      refine W.guardT rfl c14 ?_
      refine W.fieldAddrO rfl rfl ?_
      refine W.guardT rfl c14 ?_
      refine W.loadO (p := .int .i64 r4.2.Code) rfl rfl rfl rfl ?_
      refine W.guardT rfl c14 ?_
      refine W.neq rfl rfl ?_
      refine W.pickN rfl rfl rfl c14 ?_
      refine W.nil ?_
      exact ⟨(decide (r4.2.Code ≠ 0)), h, Wk.nrmTo [11, 12, 13, 14, 15, 16, 59] [(12, 10200), (14, 10201), (16, 10202)] rfl rfl⟩
    ·intro x6 h
     try dsimp only at h ⊢
     unfold law6_ActioncacheStoresCommute_j2 at h
     refine Ev.cond rfl (fun c7 => ?_) (fun c7 => ?_)
     ·replace h := iteT h c7
      refine Ev.seqJ (γ := Bool) (fun v => ⟨[(10, .bool v)], [], 2⟩) (fun v => law6_ActioncacheStoresCommute_j3 n v = some r) ?_ ?_
      ·refine W.reg hm ?_
       refine W.fieldAddrO rfl rfl ?_
       refine W.loadO (p := .int .i64 r3.2.Code) rfl rfl rfl rfl ?_
       refine W.eql rfl rfl (W.mv rfl ?_)
       refine W.split 63 rfl (fun c8 => ?_) (fun c8 => ?_)
       ·replace h := iteT h c8
        refine W.guardF2 rfl c8 ?_
        refine W.guardF2 rfl c8 ?_
        refine W.guardF2 rfl c8 ?_
        refine W.pickT rfl rfl rfl c8 ?_
        refine W.mv rfl (W.guardT rfl rfl ?_)
        refine W.fieldAddrO rfl rfl (W.guardT rfl rfl ?_)
        refine W.loadO (p := .int .i64 r4.2.Code) rfl rfl rfl rfl ?_
        refine W.guardT rfl rfl (W.eql rfl rfl ?_)
        refine W.guardT rfl rfl (W.mv rfl ?_)
        refine W.split 72 rfl (fun c9 => ?_) (fun c9 => ?_)
        ·replace h := iteT h c9
         refine W.guardF2 rfl c9 ?_
         refine W.guardF2 rfl c9 ?_
         refine W.guardF2 rfl c9 ?_
         refine W.guardT rfl rfl ?_
         refine W.pickT rfl rfl rfl c9 ?_
         refine W.pickT rfl rfl rfl rfl (W.mv rfl ?_)
         refine W.nil ?_
         exact ⟨true, h, Wk.nrmTo [10] [] rfl rfl⟩
        ·replace h := iteF h c9
         refine W.guardT rfl c9 ?_
         refine W.mv rfl ?_
         refine W.guardT rfl c9 ?_
         refine W.lenL (c := SKeyLines.cells) rfl ?_
         refine W.guardT rfl c9 ?_
         refine W.eql rfl rfl (W.guardT rfl rfl ?_)
         refine W.pickN rfl rfl rfl c9 ?_
         refine W.pickT rfl rfl rfl rfl (W.mv rfl ?_)
         refine W.nil ?_
         exact ⟨(decide ((r4.1.length : Int) = 0)), h, Wk.nrmTo [10] [] rfl rfl⟩
       ·replace h := iteF h c8
        refine W.guardT rfl c8 ?_
        refine W.mv rfl ?_
        refine W.guardT rfl c8 ?_
        refine W.lenL (c := SKeyLines.cells) rfl ?_
        refine W.guardT rfl c8 ?_
        refine W.eql rfl rfl ?_
        refine W.pickN rfl rfl rfl c8 ?_
        refine W.mv rfl ?_
        refine W.split 68 rfl (fun c10 => ?_) (fun c10 => ?_)
        ·replace h := iteT h c10
         refine W.guardT rfl c10 ?_
         refine W.fieldAddrO rfl rfl ?_
         refine W.guardT rfl c10 ?_
         refine W.loadO (p := .int .i64 r4.2.Code) rfl rfl rfl rfl ?_
         refine W.guardT rfl c10 ?_
         refine W.eql rfl rfl ?_
         refine W.guardT rfl c10 ?_
         refine W.mv rfl ?_
         refine W.split 72 rfl (fun c11 => ?_) (fun c11 => ?_)
         ·replace h := iteT h c11
          refine W.guardF2 rfl c11 ?_
          refine W.guardF2 rfl c11 ?_
          refine W.guardF2 rfl c11 ?_
          refine W.guardT rfl c10 ?_
          refine W.pickT rfl rfl rfl c11 ?_
          refine W.pickT rfl rfl rfl c10 ?_
          refine W.mv rfl (W.nil ?_)
          exact ⟨true, h, Wk.nrmTo [10] [] rfl rfl⟩
         ·replace h := iteF h c11
          refine W.guardT rfl c11 ?_
          refine W.mv rfl ?_
          refine W.guardT rfl c11 ?_
          refine W.lenL (c := SKeyLines.cells) rfl ?_
          refine W.guardT rfl c11 ?_
          refine W.eql rfl rfl ?_
          refine W.guardT rfl c10 ?_
          refine W.pickN rfl rfl rfl c11 ?_
          refine W.pickT rfl rfl rfl c10 ?_
          refine W.mv rfl (W.nil ?_)
          exact ⟨(decide ((r4.1.length : Int) = 0)), h, Wk.nrmTo [10] [] rfl rfl⟩
        ·replace h := iteF h c10
         refine W.guardF1 rfl c10 ?_
         refine W.guardF1 rfl c10 ?_
         refine W.guardF1 rfl c10 ?_
         refine W.guardF1 rfl c10 ?_
         refine W.guardU rfl (W.guardU rfl ?_)
         refine W.guardU rfl ?_
         refine W.guardF1 rfl c10 ?_
         refine W.pickN rfl rfl rfl c10 ?_
         refine W.mv rfl (W.nil ?_)
         exact ⟨false, h, Wk.nrmTo [10] [] rfl rfl⟩
      ·intro x7 h
       try dsimp only at h ⊢
       unfold law6_ActioncacheStoresCommute_j3 at h
       refine Ev.ret ?_
       injection h with h; subst h
       exact ⟨_, rfl, .refl _⟩
     ·replace h := iteF h c7
      refine Ev.skip ?_
      refine Ev.seqJ (γ := Bool) (fun v => ⟨[(10, .bool v)], [], 2⟩) (fun v => law6_ActioncacheStoresCommute_j4 n v = some r) ?_ ?_
      ·refine W.reg hm ?_
       refine W.fieldAddrO rfl rfl ?_
       refine W.loadO (p := .int .i64 r5.2.Code) rfl rfl rfl rfl ?_
       refine W.eql rfl rfl (W.mv rfl ?_)
       refine W.split 81 rfl (fun c12 => ?_) (fun c12 => ?_)
       ·replace h := iteT h c12
        refine W.guardT rfl c12 ?_
        refine W.mv rfl ?_
        refine W.guardT rfl c12 ?_
        refine W.mv rfl ?_
        refine W.guardT rfl c12 ?_
        obtain ⟨r9, k13, h⟩ := obind h
        refine W.call (ref6_SameCache_spec n r4.1 r5.1 r9 k13) rfl rfl (Les.refl _) rfl (.inl rfl) rfl ?_
        refine W.pickT rfl rfl rfl c12 ?_
        refine W.mv rfl (W.nil ?_)
        exact ⟨r9, h, Wk.nrmTo [10] [] rfl rfl⟩
       ·replace h := iteF h c12
        refine W.guardF1 rfl c12 ?_
        refine W.guardF1 rfl c12 ?_
        refine W.guardF1 rfl c12 ?_
        refine W.pickN rfl rfl rfl c12 ?_
        refine W.mv rfl (W.nil ?_)
        exact ⟨false, h, Wk.nrmTo [10] [] rfl rfl⟩
      ·intro x8 h
       try dsimp only at h ⊢
       unfold law6_ActioncacheStoresCommute_j4 at h
       refine Ev.ret ?_
       injection h with h; subst h
       exact ⟨_, rfl, .refl _⟩
   ·replace h := iteF h c3
    refine Ev.skip ?_
    refine Ev.seq ?_
    refine W.reg hm ?_
    refine W.mv rfl (W.mv rfl ?_)
    refine W.mv rfl ?_
    obtain ⟨r10, k15, h⟩ := obind h
    refine W.call (actioncache_Store_spec n a0 a1 a3 r10 k15) rfl rfl (Les.refl _) rfl (.inl rfl) rfl ?_
    refine W.mv rfl (W.extract rfl rfl ?_)
    refine W.extract rfl rfl ?_
    refine W.alloc (dt := true) rfl rfl rfl ?_
    refine W.mv rfl ?_
    refine W.store (es' := [[.int .i64 r10.2.Code, .int .i64 r10.2.Index]]) (dt := true) rfl rfl rfl rfl rfl (Nat.le_of_ble_eq_true rfl) rfl rfl rfl rfl ?_
    refine W.nil ?_
    refine Ev.seq ?_
    refine W.reg hm ?_
    refine W.mv rfl (W.mv rfl ?_)
    refine W.mv rfl ?_
    obtain ⟨r11, k16, h⟩ := obind h
    refine W.call (actioncache_Store_spec n a0 a2 a4 r11 k16) rfl rfl (Les.refl _) rfl (.inl rfl) rfl ?_
    refine W.mv rfl (W.extract rfl rfl ?_)
    refine W.extract rfl rfl ?_
    refine W.alloc (dt := true) rfl rfl rfl ?_
    refine W.mv rfl ?_
    refine W.store (es' := [[.int .i64 r11.2.Code, .int .i64 r11.2.Index]]) (dt := true) rfl rfl rfl rfl rfl (Nat.le_of_ble_eq_true rfl) rfl rfl rfl rfl ?_
    refine W.nil ?_
    refine Ev.seq ?_
    refine Ev.seqJ (γ := Bool) (fun v => ⟨[(1, .int .i64 a1), (2, .int .i64 a2), (3, .list 1 (List.map cS a3)), (4, .list 1 (List.map cS a4)), (17, .list 2 (List.map SKeyLines.cells r10.1)), (18, .pown 10200 0 0 0), (19, .list 2 (List.map SKeyLines.cells r11.1)), (20, .pown 10201 0 0 0), (107, .bool v)], [(10200, ⟨0, 25, 2, [[.int .i64 r10.2.Code, .int .i64 r10.2.Index]], true, false, false⟩), (10201, ⟨0, 25, 2, [[.int .i64 r11.2.Code, .int .i64 r11.2.Index]], true, false, false⟩)], 2⟩) (fun v => law6_ActioncacheStoresCommute_j5 n a1 a2 a3 a4 r10 r11 v = some r) ?_ ?_
    ·refine W.reg hm ?_
     refine W.fieldAddrO rfl rfl ?_
     refine W.loadO (p := .int .i64 r10.2.Code) rfl rfl rfl rfl ?_
     refine W.neq rfl rfl (W.mv rfl ?_)
     refine W.split 103 rfl (fun c27 => ?_) (fun c27 => ?_)
     ·replace h := iteT h c27
      refine W.guardF2 rfl c27 ?_
      refine W.guardF2 rfl c27 ?_
      refine W.guardF2 rfl c27 ?_
      refine W.pickT rfl rfl rfl c27 ?_
      refine W.nil ?_
      exact ⟨true, h, Wk.nrmTo [1, 2, 3, 4, 17, 18, 19, 20, 107] [(18, 10200), (20, 10201)] rfl rfl⟩
     ·replace h := iteF h c27
      refine W.guardT rfl c27 ?_
      refine W.fieldAddrO rfl rfl ?_
      refine W.guardT rfl c27 ?_
      refine W.loadO (p := .int .i64 r11.2.Code) rfl rfl rfl rfl ?_
      refine W.guardT rfl c27 ?_
      refine W.neq rfl rfl ?_
      refine W.pickN rfl rfl rfl c27 ?_
      refine W.nil ?_
      exact ⟨(decide (r11.2.Code ≠ 0)), h, Wk.nrmTo [1, 2, 3, 4, 17, 18, 19, 20, 107] [(18, 10200), (20, 10201)] rfl rfl⟩
    ·intro x12 h
     try dsimp only at h ⊢
     unfold law6_ActioncacheStoresCommute_j5 at h
     refine Ev.cond rfl (fun c17 => ?_) (fun c17 => ?_)
     ·replace h := iteT h c17
      refine Ev.seqJ (γ := Bool) (fun v => ⟨[(10, .bool v)], [], 2⟩) (fun v => law6_ActioncacheStoresCommute_j6 n v = some r) ?_ ?_
      ·refine W.reg hm ?_
       refine W.fieldAddrO rfl rfl ?_
       refine W.loadO (p := .int .i64 r10.2.Code) rfl rfl rfl rfl ?_
       refine W.eql rfl rfl (W.mv rfl ?_)
       refine W.split 111 rfl (fun c18 => ?_) (fun c18 => ?_)
       ·replace h := iteT h c18
        refine W.guardF2 rfl c18 ?_
        refine W.guardF2 rfl c18 ?_
        refine W.guardF2 rfl c18 ?_
        refine W.pickT rfl rfl rfl c18 ?_
        refine W.mv rfl (W.guardT rfl rfl ?_)
        refine W.fieldAddrO rfl rfl (W.guardT rfl rfl ?_)
        refine W.loadO (p := .int .i64 r11.2.Code) rfl rfl rfl rfl ?_
        refine W.guardT rfl rfl (W.eql rfl rfl ?_)
        refine W.guardT rfl rfl (W.mv rfl ?_)
        refine W.split 120 rfl (fun c19 => ?_) (fun c19 => ?_)
        ·replace h := iteT h c19
         refine W.guardF2 rfl c19 ?_
         refine W.guardF2 rfl c19 ?_
         refine W.guardF2 rfl c19 ?_
         refine W.guardT rfl rfl ?_
         refine W.pickT rfl rfl rfl c19 ?_
         refine W.pickT rfl rfl rfl rfl (W.mv rfl ?_)
         refine W.nil ?_
         exact ⟨true, h, Wk.nrmTo [10] [] rfl rfl⟩
        ·replace h := iteF h c19
         refine W.guardT rfl c19 ?_
         refine W.mv rfl ?_
         refine W.guardT rfl c19 ?_
         refine W.lenL (c := SKeyLines.cells) rfl ?_
         refine W.guardT rfl c19 ?_
         refine W.eql rfl rfl (W.guardT rfl rfl ?_)
         refine W.pickN rfl rfl rfl c19 ?_
         refine W.pickT rfl rfl rfl rfl (W.mv rfl ?_)
         refine W.nil ?_
         exact ⟨(decide ((r11.1.length : Int) = 0)), h, Wk.nrmTo [10] [] rfl rfl⟩
       ·replace h := iteF h c18
        refine W.guardT rfl c18 ?_
        refine W.mv rfl ?_
        refine W.guardT rfl c18 ?_
        refine W.lenL (c := SKeyLines.cells) rfl ?_
        refine W.guardT rfl c18 ?_
        refine W.eql rfl rfl ?_
        refine W.pickN rfl rfl rfl c18 ?_
        refine W.mv rfl ?_
        refine W.split 116 rfl (fun c20 => ?_) (fun c20 => ?_)
        ·replace h := iteT h c20
         refine W.guardT rfl c20 ?_
         refine W.fieldAddrO rfl rfl ?_
         refine W.guardT rfl c20 ?_
         refine W.loadO (p := .int .i64 r11.2.Code) rfl rfl rfl rfl ?_
         refine W.guardT rfl c20 ?_
         refine W.eql rfl rfl ?_
         refine W.guardT rfl c20 ?_
         refine W.mv rfl ?_
         refine W.split 120 rfl (fun c21 => ?_) (fun c21 => ?_)
         ·replace h := iteT h c21
          refine W.guardF2 rfl c21 ?_
          refine W.guardF2 rfl c21 ?_
          refine W.guardF2 rfl c21 ?_
          refine W.guardT rfl c20 ?_
          refine W.pickT rfl rfl rfl c21 ?_
          refine W.pickT rfl rfl rfl c20 ?_
          refine W.mv rfl (W.nil ?_)
          exact ⟨true, h, Wk.nrmTo [10] [] rfl rfl⟩
         ·replace h := iteF h c21
          refine W.guardT rfl c21 ?_
          refine W.mv rfl ?_
          refine W.guardT rfl c21 ?_
          refine W.lenL (c := SKeyLines.cells) rfl ?_
          refine W.guardT rfl c21 ?_
          refine W.eql rfl rfl ?_
          refine W.guardT rfl c20 ?_
          refine W.pickN rfl rfl rfl c21 ?_
          refine W.pickT rfl rfl rfl c20 ?_
          refine W.mv rfl (W.nil ?_)
          exact ⟨(decide ((r11.1.length : Int) = 0)), h, Wk.nrmTo [10] [] rfl rfl⟩
        ·replace h := iteF h c20
         refine W.guardF1 rfl c20 ?_
         refine W.guardF1 rfl c20 ?_
         refine W.guardF1 rfl c20 ?_
         refine W.guardF1 rfl c20 ?_
         refine W.guardU rfl (W.guardU rfl ?_)
         refine W.guardU rfl ?_
         refine W.guardF1 rfl c20 ?_
         refine W.pickN rfl rfl rfl c20 ?_
         refine W.mv rfl (W.nil ?_)
         exact ⟨false, h, Wk.nrmTo [10] [] rfl rfl⟩
      ·intro x13 h
       try dsimp only at h ⊢
       unfold law6_ActioncacheStoresCommute_j6 at h
       refine Ev.ret ?_
       injection h with h; subst h
       exact ⟨_, rfl, .refl _⟩
     ·replace h := iteF h c17
      refine Ev.skip ?_
      refine Ev.seq ?_
      refine W.reg hm ?_
      refine W.mv rfl (W.mv rfl ?_)
      refine W.mv rfl ?_
      obtain ⟨r14, k22, h⟩ := obind h
      refine W.call (actioncache_Store_spec n r10.1 a2 a4 r14 k22) rfl rfl (Les.refl _) rfl (.inl rfl) rfl ?_
      refine W.mv rfl (W.extract rfl rfl ?_)
      refine W.extract rfl rfl (W.mv rfl ?_)
      refine W.store (es' := [[.int .i64 r14.2.Code, .int .i64 r14.2.Index]]) (dt := true) rfl rfl rfl rfl rfl (Nat.le_of_ble_eq_true rfl) rfl rfl rfl rfl ?_
      refine W.nil ?_
      refine Ev.seq ?_
      refine W.reg hm ?_
      refine W.mv rfl (W.mv rfl ?_)
      refine W.mv rfl ?_
      obtain ⟨r15, k23, h⟩ := obind h
      refine W.call (actioncache_Store_spec n r11.1 a1 a3 r15 k23) rfl rfl (Les.refl _) rfl (.inl rfl) rfl ?_
      refine W.mv rfl (W.extract rfl rfl ?_)
      refine W.extract rfl rfl (W.mv rfl ?_)
      refine W.store (es' := [[.int .i64 r15.2.Code, .int .i64 r15.2.Index]]) (dt := true) rfl rfl rfl rfl rfl (Nat.le_of_ble_eq_true rfl) rfl rfl rfl rfl ?_
      refine W.nil ?_
      refine Ev.seqJ (γ := Bool) (fun v => ⟨[(10, .bool v)], [], 2⟩) (fun v => law6_ActioncacheStoresCommute_j7 n v = some r) ?_ ?_
      ·refine W.reg hm ?_
       refine W.fieldAddrO rfl rfl ?_
       refine W.loadO (p := .int .i64 r14.2.Code) rfl rfl rfl rfl ?_
       refine W.eql rfl rfl (W.mv rfl ?_)
       refine W.split 143 rfl (fun c24 => ?_) (fun c24 => ?_)
       ·replace h := iteT h c24
        refine W.guardT rfl c24 ?_
        refine W.fieldAddrO rfl rfl ?_
        refine W.guardT rfl c24 ?_
        refine W.loadO (p := .int .i64 r15.2.Code) rfl rfl rfl rfl ?_
        refine W.guardT rfl c24 ?_
        refine W.eql rfl rfl ?_
        refine W.pickT rfl rfl rfl c24 ?_
        refine W.mv rfl ?_
        refine W.split 148 rfl (fun c25 => ?_) (fun c25 => ?_)
        ·replace h := iteT h c25
         refine W.guardT rfl c25 ?_
         refine W.mv rfl ?_
         refine W.guardT rfl c25 ?_
         refine W.mv rfl ?_
         refine W.guardT rfl c25 ?_
         obtain ⟨r17, k26, h⟩ := obind h
         refine W.call (ref6_SameCache_spec n r14.1 r15.1 r17 k26) rfl rfl (Les.refl _) rfl (.inl rfl) rfl ?_
         refine W.pickT rfl rfl rfl c25 ?_
         refine W.mv rfl (W.nil ?_)
         exact ⟨r17, h, Wk.nrmTo [10] [] rfl rfl⟩
        ·replace h := iteF h c25
         refine W.guardF1 rfl c25 ?_
         refine W.guardF1 rfl c25 ?_
         refine W.guardF1 rfl c25 ?_
         refine W.pickN rfl rfl rfl c25 ?_
         refine W.mv rfl (W.nil ?_)
         exact ⟨false, h, Wk.nrmTo [10] [] rfl rfl⟩
       ·replace h := iteF h c24
        refine W.guardF1 rfl c24 ?_
        refine W.guardF1 rfl c24 ?_
        refine W.guardF1 rfl c24 ?_
        refine W.pickN rfl rfl rfl c24 ?_
        refine W.mv rfl (W.guardF1 rfl rfl ?_)
        refine W.guardF1 rfl rfl (W.guardF1 rfl rfl ?_)
        refine W.pickN rfl rfl rfl rfl (W.mv rfl ?_)
        refine W.nil ?_
        exact ⟨false, h, Wk.nrmTo [10] [] rfl rfl⟩
      ·intro x16 h
       try dsimp only at h ⊢
       unfold law6_ActioncacheStoresCommute_j7 at h
       refine Ev.ret ?_
       injection h with h; subst h
       exact ⟨_, rfl, .refl _⟩
set_option maxHeartbeats 4000000 in
theorem sandbox_Restrict_spec (n : Nat) (a0 : SInputsOpsOutput) (a1 : SFiles) (r : (SFiles × SCodeIndex)) (h : sandbox_Restrict n a0 a1 = some r) : PSpec Tryd.prog 33 [.agg (SInputsOpsOutput.cells a0), .agg (SFiles.cells a1)] (.tup [.agg (SFiles.cells r.1), .agg (SCodeIndex.cells r.2)]) := by
 unfold sandbox_Restrict at h
 refine spec_of Tryd.c_sandbox_Restrict (by simp) ?_
 unfold Tryd.l_sandbox_Restrict
 refine Ev.seq ?_
 refine W.reg hm ?_
 refine W.box (dt := true) (cs := [.list 1 (List.map cS a0.Inputs), .list 2 (List.map SKindText.cells a0.Ops), .str a0.Output]) rfl rfl rfl rfl rfl rfl ?_
 refine W.box (dt := true) (cs := [.list 2 (List.map SPathLines.cells a1.Files)]) rfl rfl rfl rfl rfl rfl ?_
 refine W.alloc (dt := true) rfl rfl rfl ?_
 refine W.alloc (dt := true) rfl rfl rfl ?_
 refine W.nil ?_
 refine Ev.seq (Ev.seq ?_)
 refine W.reg hm ?_
 refine W.loadO (p := .agg [.list 1 (List.map cS a0.Inputs), .list 2 (List.map SKindText.cells a0.Ops), .str a0.Output]) rfl rfl rfl rfl ?_
 refine W.loadO (p := .agg [.list 2 (List.map SPathLines.cells a1.Files)]) rfl rfl rfl rfl ?_
 obtain ⟨r1, k1, h⟩ := obind h
 refine W.call (sandbox_Arguments_spec n a0 a1 r1 k1) rfl rfl (Les.refl _) rfl (.inl rfl) rfl ?_
 refine W.alloc (dt := true) rfl rfl rfl ?_
 refine W.store (es' := [[.int .i64 r1.Code, .int .i64 r1.Index]]) (dt := true) rfl rfl rfl rfl rfl (Nat.le_of_ble_eq_true rfl) rfl rfl rfl rfl ?_
 refine W.nil ?_
 refine Ev.seq ?_
 refine W.reg hm ?_
 refine W.loadO (p := .agg [.int .i64 r1.Code, .int .i64 r1.Index]) rfl rfl rfl rfl ?_
 refine W.build (cs := [.int .i64 0, .int .i64 0]) rfl rfl rfl ?_
 refine W.eqs rfl rfl rfl (W.nil ?_)
 refine Ev.cond rfl (fun c2 => ?_) (fun c2 => ?_)
 ·replace h := iteT h c2
  refine Ev.seq ?_
  refine W.regD hm ?_
  refine W.build (cs := [.nils]) rfl rfl rfl ?_
  refine W.loadO (p := .agg [.int .i64 r1.Code, .int .i64 r1.Index]) rfl rfl rfl rfl ?_
  refine W.store (es' := [[.nils]]) (dt := true) rfl rfl rfl rfl rfl (Nat.le_of_ble_eq_true rfl) rfl rfl rfl rfl ?_
  refine W.store (es' := [[.int .i64 r1.Code, .int .i64 r1.Index]]) (dt := true) rfl rfl rfl rfl rfl (Nat.le_of_ble_eq_true rfl) rfl rfl rfl rfl ?_
  refine W.nil ⟨rfl, ?_⟩
  refine Ev.ret ?_
  injection h with h; subst h
  exact ⟨_, rfl, Le.tups (.cons (Le.aggs (.cons (.nils 2) (.nil)) rfl) (.cons (.refl _) (.nil)))⟩
 ·replace h := iteF h c2
  refine Ev.skip ?_
  refine Ev.seq ?_
  refine Ev.regS rfl ?_
  refine Sq.w 1 (Nat.le_of_ble_eq_true rfl) ?_
  refine W.loadO (p := .agg [.list 2 (List.map SPathLines.cells a1.Files)]) rfl rfl rfl rfl ?_
  refine W.nil ?_
  refine Sq.weak (st' := ⟨[(2, .pown 10000 0 0 0), (4, .pown 10001 0 0 0), (5, .pown 10002 0 0 0), (16, .agg [.list 2 (List.map SPathLines.cells a1.Files)])], [(10000, ⟨0, 43, 3, [[.list 1 (List.map cS a0.Inputs), .list 2 (List.map SKindText.cells a0.Ops), .str a0.Output]], true, false, false⟩), (10001, ⟨0, 46, 1, [[.nils]], true, false, false⟩), (10002, ⟨0, 25, 2, [[.int .i64 0, .int .i64 0]], true, false, false⟩)], 2⟩) ?_ (Wk.nrmTo [2, 4, 5, 16] [(2, 10000), (4, 10001), (5, 10002)] rfl rfl)
  refine Sq.call rfl Tryd.c_treepatch_CopyTree ⟨_, rfl, Nat.le_of_ble_eq_true rfl, ?_⟩
  unfold Tryd.l_treepatch_CopyTree
  refine Ev.retJ (γ := List SPathLines) (fun v => ⟨[(2, .pown 10100 0 0 0), (65538, .pown 10102 0 0 0), (65540, .pown 10103 0 0 0), (65541, .pown 10104 0 0 0)], [(10100, ⟨0, 46, 1, [[.own 10101 0]], false, false, false⟩), (10101, ⟨0, 103, 2, List.map SPathLines.cells v, true, false, false⟩), (10102, ⟨0, 43, 3, [[.list 1 (List.map cS a0.Inputs), .list 2 (List.map SKindText.cells a0.Ops), .str a0.Output]], true, false, false⟩), (10103, ⟨0, 46, 1, [[.nils]], true, false, false⟩), (10104, ⟨0, 25, 2, [[.int .i64 0, .int .i64 0]], true, false, false⟩)], 2⟩) (fun v => sandbox_Restrict_j1 n a0 v = some r) ?_ ?_
  ·refine Ev.seq ?_
   refine W.reg hm ?_
   refine W.box (dt := true) (cs := [.list 2 (List.map SPathLines.cells a1.Files)]) rfl rfl rfl rfl rfl rfl ?_
   refine W.alloc (dt := true) rfl rfl rfl ?_
   refine W.nil ?_
   refine Ev.seq ?_
   refine W.reg hm ?_
   refine W.alloc (dt := true) rfl rfl rfl ?_
   refine W.nil ?_
   refine Ev.seq (Ev.seq ?_)
   refine W.reg hm ?_
   refine W.fieldAddrO rfl rfl ?_
   refine W.loadO (p := .list 2 (List.map SPathLines.cells a1.Files)) rfl rfl rfl rfl ?_
   refine W.lenL (c := SPathLines.cells) rfl ?_
   refine W.mv rfl (W.nil ?_)
   refine Ev.block ?_
   refine Ev.loopW (β := Nat × (List SPathLines) × Int) (fun v => ⟨[(2, .pown 10200 0 0 0), (3, .pown 10201 0 0 0), (7, .list 2 (List.map SPathLines.cells a1.Files)), (8, .int .i64 (a1.Files.length : Int)), (9, .int .i64 v.2.2), (65538, .pown 10203 0 0 0), (65540, .pown 10204 0 0 0), (65541, .pown 10205 0 0 0)], [(10200, ⟨0, 46, 1, [[.nils]], true, false, false⟩), (10201, ⟨0, 46, 1, [[.own 10202 0]], false, false, false⟩), (10202, ⟨0, 103, 2, List.map SPathLines.cells v.2.1, true, false, false⟩), (10203, ⟨0, 43, 3, [[.list 1 (List.map cS a0.Inputs), .list 2 (List.map SKindText.cells a0.Ops), .str a0.Output]], true, false, false⟩), (10204, ⟨0, 46, 1, [[.nils]], true, false, false⟩), (10205, ⟨0, 25, 2, [[.int .i64 0, .int .i64 0]], true, false, false⟩)], 2⟩) (fun v => sandbox_Restrict_l3 n a0 a1 v.1 v.2.1 v.2.2 = some r) (fun v => v.1) (n, ([] : List SPathLines), 0) ((Wk.ownNilCell 3 2 0 30202 103 2 rfl rfl rfl rfl rfl (by simp) true).trans (Wk.nrmTo [2, 3, 7, 8, 9, 65538, 65540, 65541] [(2, 10200), (3, 10201), (30202, 10202), (10000, 10203), (10001, 10204), (10002, 10205)] rfl rfl)) h ?_
   intro ⟨m3, w25, x26⟩ h
   try dsimp only at h ⊢
   cases m3 with
   | zero => rw [sandbox_Restrict_l3] at h; cases h
   | succ m3 =>
    rw [sandbox_Restrict_l3] at h
    refine Ev.seq ?_
    refine W.reg hm ?_
    refine W.lss rfl rfl (W.nil ?_)
    refine Ev.seq ?_
    refine Ev.cond rfl (fun c19 => ?_) (fun c19 => ?_)
    ·replace h := iteT h c19
     refine Ev.skip ?_
     refine Ev.seq ?_
     refine Ev.block ?_
     refine Ev.seq ?_
     refine W.reg hm ?_
     obtain ⟨e27, k20, h⟩ := obind h
     refine W.idxL (c := SPathLines.cells) rfl rfl k20 ?_
     refine W.load rfl rfl ?_
     refine W.alloc (dt := true) rfl rfl rfl ?_
     refine W.store (es' := [[.str e27.Path, .list 1 (List.map cS e27.Lines)]]) (dt := true) rfl rfl rfl rfl rfl (Nat.le_of_ble_eq_true rfl) rfl rfl rfl rfl ?_
     refine W.nil ?_
     refine W.regD hm ?_
     refine W.fieldAddrO rfl rfl ?_
     refine W.loadO (p := .own 10202 0) rfl rfl rfl rfl ?_
     refine W.fieldAddrO rfl rfl ?_
     refine W.loadO (p := .str e27.Path) rfl rfl rfl rfl ?_
     refine W.fieldAddrO rfl rfl ?_
     refine W.loadO (p := .list 1 (List.map cS e27.Lines)) rfl rfl rfl rfl ?_
     obtain ⟨r28, k21, h⟩ := obind h
     refine W.call (slices_Clone_string_spec n e27.Lines r28 k21) rfl rfl (Les.refl _) rfl (.inl rfl) rfl ?_
     refine W.build (cs := [.str e27.Path, .list 1 (List.map cS r28)]) rfl rfl rfl ?_
     refine W.mkSlice (dt := true) (es := [[.str e27.Path, .list 1 (List.map cS r28)]]) rfl rfl rfl rfl rfl rfl ?_
     obtain ⟨w29, k22, h⟩ := obind h
     refine W.appR true (l := w25) (c := SPathLines.cells) (ys := ([(⟨e27.Path, r28⟩ : SPathLines)] : List SPathLines)) rfl rfl rfl rfl rfl rfl rfl rfl k22 rfl (by simp) ?_
     refine W.fieldAddrO rfl rfl ?_
     refine W.store (es' := [[.own 22 2]]) (dt := false) rfl rfl rfl rfl rfl (Nat.le_of_ble_eq_true rfl) rfl rfl rfl rfl ?_
     refine W.nil ⟨rfl, ?_⟩
     refine W.reg hm ?_
     obtain ⟨x30, k23, h⟩ := obind h
     refine W.addG rfl rfl k23 ?_
     refine W.mv rfl (W.nil ?_)
     exact ⟨(m3, w29, x30), h, Nat.lt_succ_self _, Wk.nrmTo [2, 3, 7, 8, 9, 65538, 65540, 65541] [(10200, 10200), (10201, 10201), (22, 10202), (10203, 10203), (10204, 10204), (10205, 10205)] rfl rfl⟩
    ·replace h := iteF h c19
     refine Ev.exit ?_
     refine Ev.seq ?_
     refine W.reg hm ?_
     refine W.loadO (p := .agg [.own 10202 0]) rfl rfl rfl rfl ?_
     refine W.store (es' := [[.own 10202 0]]) (dt := false) rfl rfl rfl rfl rfl (Nat.le_of_ble_eq_true rfl) rfl rfl rfl rfl ?_
     refine W.nil ?_
     refine Ev.ret ?_
     exact ⟨w25, h, Wk.nrmTo [2, 65538, 65540, 65541] [(10200, 10100), (10202, 10101), (10203, 10102), (10204, 10103), (10205, 10104)] rfl rfl⟩
  ·intro w2 h
   try dsimp only at h ⊢
   unfold sandbox_Restrict_j1 at h
   refine ⟨_, rfl, ?_⟩
   refine Sq.wEnd (Nat.le_of_ble_eq_true rfl) ?_
   refine W.alloc (dt := true) rfl rfl rfl ?_
   refine W.store (es' := [[.own 10101 0]]) (dt := false) rfl rfl rfl rfl rfl (Nat.le_of_ble_eq_true rfl) rfl rfl rfl rfl ?_
   refine W.nil ?_
   refine Ev.seq ?_
   refine Ev.regS rfl ?_
   refine Sq.w 3 (Nat.le_of_ble_eq_true rfl) ?_
   refine W.fieldAddrO rfl rfl ?_
   refine W.loadO (p := .own 10101 0) rfl rfl rfl rfl ?_
   refine W.mkfn rfl (W.nil ?_)
   refine Sq.weak (st' := ⟨[(4, .pown 10100 0 0 0), (5, .pown 10101 0 0 0), (7, .pown 10102 0 0 0), (19, .own 10103 0), (20, .fn 74 [] [.pown 10104 0 0 0])], [(10100, ⟨0, 46, 1, [[.nils]], true, false, false⟩), (10101, ⟨0, 25, 2, [[.int .i64 0, .int .i64 0]], true, false, false⟩), (10102, ⟨0, 46, 1, [[.own 10103 0]], false, false, false⟩), (10103, ⟨0, 103, 2, List.map SPathLines.cells w2, true, false, false⟩), (10104, ⟨0, 43, 3, [[.list 1 (List.map cS a0.Inputs), .list 2 (List.map SKindText.cells a0.Ops), .str a0.Output]], true, false, false⟩)], 2⟩) ?_ (Wk.nrmTo [4, 5, 7, 19, 20] [(10103, 10100), (10104, 10101), (7, 10102), (10101, 10103), (10102, 10104)] rfl rfl)
   refine Sq.call rfl Tryd.c_slices_DeleteFunc_api_File_api_File ⟨_, rfl, Nat.le_of_ble_eq_true rfl, ?_⟩
   unfold Tryd.l_slices_DeleteFunc_api_File_api_File
   refine Ev.retJ (γ := (List SPathLines) × (List SPathLines)) (fun v => ⟨[(4, .list 2 (List.map SPathLines.cells v.1)), (65540, .pown 10200 0 0 0), (65541, .pown 10201 0 0 0), (65543, .pown 10202 0 0 0)], [(10200, ⟨0, 46, 1, [[.nils]], true, false, false⟩), (10201, ⟨0, 25, 2, [[.int .i64 0, .int .i64 0]], true, false, false⟩), (10202, ⟨0, 46, 1, [[.list 2 (List.map SPathLines.cells v.2)]], true, false, false⟩)], 2⟩) (fun v => sandbox_Restrict_j2 n v.1 v.2 = some r) ?_ ?_
   ·refine Ev.seq ?_
    refine W.reg hm ?_
    refine W.mv rfl (W.nil ?_)
    refine Ev.seq ?_
    refine Ev.regS rfl ?_
    refine Sq.w 2 (Nat.le_of_ble_eq_true rfl) ?_
    refine W.mv rfl (W.mv rfl ?_)
    refine W.nil ?_
    refine Sq.call rfl Tryd.c_slices_IndexFunc_api_File_api_File ⟨_, rfl, Nat.le_of_ble_eq_true rfl, ?_⟩
    unfold Tryd.l_slices_IndexFunc_api_File_api_File
    refine Ev.retJ (γ := Int) (fun v => ⟨[(4, .int .i64 v), (65536, .own 10300 0), (65537, .fn 74 [] [.pown 10301 0 0 0]), (131076, .pown 10302 0 0 0), (131077, .pown 10303 0 0 0), (131079, .pown 10304 0 0 0)], [(10300, ⟨0, 103, 2, List.map SPathLines.cells w2, true, false, false⟩), (10301, ⟨0, 43, 3, [[.list 1 (List.map cS a0.Inputs), .list 2 (List.map SKindText.cells a0.Ops), .str a0.Output]], true, false, false⟩), (10302, ⟨0, 46, 1, [[.nils]], true, false, false⟩), (10303, ⟨0, 25, 2, [[.int .i64 0, .int .i64 0]], true, false, false⟩), (10304, ⟨0, 46, 1, [[.own 10300 0]], false, false, false⟩)], 2⟩) (fun v => sandbox_Restrict_j3 n a0 w2 v = some r) ?_ ?_
    ·refine Ev.seq ?_
     refine W.reg hm ?_
     refine W.mv rfl (W.nil ?_)
     refine Ev.seq (Ev.seq ?_)
     refine W.reg hm ?_
     refine W.mv rfl ?_
     refine W.lenO (l := w2) (c := SPathLines.cells) rfl rfl rfl ?_
     refine W.mv rfl (W.nil ?_)
     refine Ev.block ?_
     refine Ev.loopW (β := Nat × Int) (fun v => ⟨[(0, .own 10400 0), (1, .fn 74 [] [.pown 10401 0 0 0]), (7, .int .i64 (w2.length : Int)), (8, .int .i64 v.2), (65536, .own 10400 0), (65537, .fn 74 [] [.pown 10401 0 0 0]), (131076, .pown 10402 0 0 0), (131077, .pown 10403 0 0 0), (131079, .pown 10404 0 0 0)], [(10400, ⟨0, 103, 2, List.map SPathLines.cells w2, true, false, false⟩), (10401, ⟨0, 43, 3, [[.list 1 (List.map cS a0.Inputs), .list 2 (List.map SKindText.cells a0.Ops), .str a0.Output]], true, false, false⟩), (10402, ⟨0, 46, 1, [[.nils]], true, false, false⟩), (10403, ⟨0, 25, 2, [[.int .i64 0, .int .i64 0]], true, false, false⟩), (10404, ⟨0, 46, 1, [[.own 10400 0]], false, false, false⟩)], 2⟩) (fun v => sandbox_Restrict_l2 n a0 w2 v.1 v.2 = some r) (fun v => v.1) (n, 0) (Wk.nrmTo [0, 1, 7, 8, 65536, 65537, 131076, 131077, 131079] [(10103, 10400), (10104, 10401), (10100, 10402), (10101, 10403), (10102, 10404)] rfl rfl) h ?_
     intro ⟨m2, x20⟩ h
     try dsimp only at h ⊢
     cases m2 with
     | zero => rw [sandbox_Restrict_l2] at h; cases h
     | succ m2 =>
      rw [sandbox_Restrict_l2] at h
      refine Ev.seq ?_
      refine W.reg hm ?_
      refine W.lss rfl rfl (W.nil ?_)
      refine Ev.seq ?_
      refine Ev.cond rfl (fun c14 => ?_) (fun c14 => ?_)
      ·replace h := iteT h c14
       refine Ev.skip ?_
       refine Ev.seq ?_
       refine Ev.block ?_
       refine Ev.seq ?_
       refine W.reg hm ?_
       refine W.mv rfl (W.mv rfl ?_)
       refine W.nil ?_
       refine Ev.seq ?_
       refine Ev.regS rfl ?_
       refine Sq.w 5 (Nat.le_of_ble_eq_true rfl) ?_
       refine W.mv rfl (W.mv rfl ?_)
       refine W.mv rfl ?_
       obtain ⟨e21, k15, h⟩ := obind h
       refine W.idxR (l := w2) (c := SPathLines.cells) rfl rfl rfl rfl rfl k15 ?_
       refine W.loadR (l := w2) (c := SPathLines.cells) (v := e21) (p := .agg [.str e21.Path, .list 1 (List.map cS e21.Lines)]) rfl rfl rfl (gidx_some k15).2 rfl ?_
       refine W.nil ?_
       refine Sq.callv (f := 74) rfl Tryd.b_sandbox_Restrict_1 Tryd.c_sandbox_Restrict_1 ⟨_, _, _, rfl, Nat.le_of_ble_eq_true rfl, ?_⟩
       unfold Tryd.l_sandbox_Restrict_1
       refine Ev.retJ (γ := Bool) (fun v => ⟨[(3, .bool v), (65536, .own 10500 0), (65537, .fn 74 [] [.pown 10501 0 0 0]), (65541, .int .i64 x20), (65543, .int .i64 (w2.length : Int)), (65544, .int .i64 x20), (131072, .own 10500 0), (131073, .fn 74 [] [.pown 10501 0 0 0]), (196612, .pown 10502 0 0 0), (196613, .pown 10503 0 0 0), (196615, .pown 10504 0 0 0)], [(10500, ⟨0, 103, 2, List.map SPathLines.cells w2, true, false, false⟩), (10501, ⟨0, 43, 3, [[.list 1 (List.map cS a0.Inputs), .list 2 (List.map SKindText.cells a0.Ops), .str a0.Output]], true, false, false⟩), (10502, ⟨0, 46, 1, [[.nils]], true, false, false⟩), (10503, ⟨0, 25, 2, [[.int .i64 0, .int .i64 0]], true, false, false⟩), (10504, ⟨0, 46, 1, [[.own 10500 0]], false, false, false⟩)], 2⟩) (fun v => sandbox_Restrict_j6 n a0 w2 x20 (sandbox_Restrict_l2 n a0 w2 m2) v = some r) ?_ ?_
       ·refine Ev.seq ?_
        refine W.reg hm ?_
        refine W.box (dt := true) (cs := [.str e21.Path, .list 1 (List.map cS e21.Lines)]) rfl rfl rfl rfl rfl rfl ?_
        refine W.mv rfl (W.nil ?_)
        refine Ev.seq ?_
        refine W.reg hm ?_
        refine W.fieldAddrO rfl rfl ?_
        refine W.loadO (p := .list 1 (List.map cS a0.Inputs)) rfl rfl rfl rfl ?_
        refine W.fieldAddrO rfl rfl ?_
        refine W.loadO (p := .str e21.Path) rfl rfl rfl rfl ?_
        obtain ⟨r24, k18, h⟩ := obind h
        refine W.call (slices_Contains_string_spec n a0.Inputs e21.Path r24 k18) rfl rfl (Les.refl _) rfl (.inl rfl) rfl ?_
        refine W.not rfl (W.mv rfl ?_)
        refine W.nil ?_
        refine Ev.ret ?_
        exact ⟨(!r24), h, Wk.nrmTo [3, 65536, 65537, 65541, 65543, 65544, 131072, 131073, 196612, 196613, 196615] [(10400, 10500), (10401, 10501), (10402, 10502), (10403, 10503), (10404, 10504)] rfl rfl⟩
       ·intro x22 h
        try dsimp only at h ⊢
        unfold sandbox_Restrict_j6 at h
        refine ⟨_, rfl, ?_⟩
        refine Sq.wEnd (Nat.le_of_ble_eq_true rfl) ?_
        refine W.nil ?_
        refine Ev.cond rfl (fun c16 => ?_) (fun c16 => ?_)
        ·replace h := iteT h c16
         refine Ev.seq ?_
         refine W.reg hm ?_
         refine W.mv rfl (W.mv rfl ?_)
         refine W.nil ?_
         refine Ev.ret ?_
         exact ⟨x20, h, Wk.nrmTo [4, 65536, 65537, 131076, 131077, 131079] [(10500, 10300), (10501, 10301), (10502, 10302), (10503, 10303), (10504, 10304)] rfl rfl⟩
        ·replace h := iteF h c16
         refine Ev.skip ?_
         refine W.reg hm ?_
         obtain ⟨x23, k17, h⟩ := obind h
         refine W.addG rfl rfl k17 ?_
         refine W.mv rfl (W.nil ?_)
         exact ⟨(m2, x23), h, Nat.lt_succ_self _, Wk.nrmTo [0, 1, 7, 8, 65536, 65537, 131076, 131077, 131079] [(10500, 10400), (10501, 10401), (10502, 10402), (10503, 10403), (10504, 10404)] rfl rfl⟩
      ·replace h := iteF h c14
       refine Ev.exit ?_
       refine Ev.seq ?_
       refine W.reg hm ?_
       refine W.mv rfl (W.nil ?_)
       refine Ev.ret ?_
       exact ⟨(-1), h, Wk.nrmTo [4, 65536, 65537, 131076, 131077, 131079] [(10400, 10300), (10401, 10301), (10402, 10302), (10403, 10303), (10404, 10304)] rfl rfl⟩
    ·intro x5 h
     try dsimp only at h ⊢
     unfold sandbox_Restrict_j3 at h
     refine ⟨_, rfl, ?_⟩
     refine Sq.wEnd (Nat.le_of_ble_eq_true rfl) ?_
     refine W.mv rfl (W.nil ?_)
     refine Ev.seq (Ev.seq ?_)
     refine W.reg hm ?_
     refine W.mv rfl (W.eql rfl rfl ?_)
     refine W.nil ?_
     refine Ev.cond rfl (fun c3 => ?_) (fun c3 => ?_)
     ·replace h := iteT h c3
      refine Ev.seq ?_
      refine W.reg hm ?_
      refine W.mv rfl (W.mv rfl ?_)
      refine W.nil ?_
      refine Ev.weak ?_ (Wk.frz 10300 0 rfl rfl)
      refine Ev.ret ?_
      exact ⟨(w2, w2), h, Wk.nrmTo [4, 65540, 65541, 65543] [(10302, 10200), (10303, 10201), (10304, 10202)] rfl rfl⟩
     ·replace h := iteF h c3
      refine Ev.skip ?_
      refine Ev.seq (Ev.seq ?_)
      refine W.reg hm ?_
      refine W.mv rfl ?_
      obtain ⟨x6, k4, h⟩ := obind h
      refine W.addG rfl rfl k4 ?_
      refine W.mv rfl (W.nil ?_)
      refine Ev.block ?_
      refine Ev.loopW (β := Nat × (List SPathLines) × Int × Int) (fun v => ⟨[(0, .own 10400 0), (1, .fn 74 [] [.pown 10401 0 0 0]), (5, .int .i64 v.2.2.1), (6, .int .i64 v.2.2.2), (65540, .pown 10402 0 0 0), (65541, .pown 10403 0 0 0), (65543, .pown 10404 0 0 0)], [(10400, ⟨0, 103, 2, List.map SPathLines.cells v.2.1, true, false, false⟩), (10401, ⟨0, 43, 3, [[.list 1 (List.map cS a0.Inputs), .list 2 (List.map SKindText.cells a0.Ops), .str a0.Output]], true, false, false⟩), (10402, ⟨0, 46, 1, [[.nils]], true, false, false⟩), (10403, ⟨0, 25, 2, [[.int .i64 0, .int .i64 0]], true, false, false⟩), (10404, ⟨0, 46, 1, [[.own 10400 0]], false, false, false⟩)], 2⟩) (fun v => sandbox_Restrict_l1 n a0 v.1 v.2.1 v.2.2.1 v.2.2.2 = some r) (fun v => v.1) (n, w2, x5, x6) (Wk.nrmTo [0, 1, 5, 6, 65540, 65541, 65543] [(10300, 10400), (10301, 10401), (10302, 10402), (10303, 10403), (10304, 10404)] rfl rfl) h ?_
      intro ⟨m1, w7, x8, x9⟩ h
      try dsimp only at h ⊢
      cases m1 with
      | zero => rw [sandbox_Restrict_l1] at h; cases h
      | succ m1 =>
       rw [sandbox_Restrict_l1] at h
       refine Ev.seq (Ev.seq ?_)
       refine W.reg hm ?_
       refine W.mv rfl (W.mv rfl ?_)
       refine W.lenO (l := w7) (c := SPathLines.cells) rfl rfl rfl ?_
       refine W.lss rfl rfl (W.nil ?_)
       refine Ev.cond rfl (fun c5 => ?_) (fun c5 => ?_)
       ·replace h := iteT h c5
        refine Ev.skip ?_
        refine Ev.seqJ (γ := (List SPathLines) × Int) (fun v => ⟨[(0, .own 10500 0), (1, .fn 74 [] [.pown 10501 0 0 0]), (5, .int .i64 v.2), (6, .int .i64 x9), (65540, .pown 10502 0 0 0), (65541, .pown 10503 0 0 0), (65543, .pown 10504 0 0 0)], [(10500, ⟨0, 103, 2, List.map SPathLines.cells v.1, true, false, false⟩), (10501, ⟨0, 43, 3, [[.list 1 (List.map cS a0.Inputs), .list 2 (List.map SKindText.cells a0.Ops), .str a0.Output]], true, false, false⟩), (10502, ⟨0, 46, 1, [[.nils]], true, false, false⟩), (10503, ⟨0, 25, 2, [[.int .i64 0, .int .i64 0]], true, false, false⟩), (10504, ⟨0, 46, 1, [[.own 10500 0]], false, false, false⟩)], 2⟩) (fun v => sandbox_Restrict_j4 n x9 (sandbox_Restrict_l1 n a0 m1) v.1 v.2 = some r) ?_ ?_
        ·refine Ev.block ?_
         refine Ev.seq ?_
         refine W.reg hm ?_
         refine W.mv rfl (W.mv rfl ?_)
         obtain ⟨e13, k7, h⟩ := obind h
         refine W.idxR (l := w7) (c := SPathLines.cells) rfl rfl rfl rfl rfl k7 ?_
         refine W.loadR (l := w7) (c := SPathLines.cells) (v := e13) (p := .agg [.str e13.Path, .list 1 (List.map cS e13.Lines)]) rfl rfl rfl (gidx_some k7).2 rfl ?_
         refine W.alloc (dt := true) rfl rfl rfl ?_
         refine W.store (es' := [[.str e13.Path, .list 1 (List.map cS e13.Lines)]]) (dt := true) rfl rfl rfl rfl rfl (Nat.le_of_ble_eq_true rfl) rfl rfl rfl rfl ?_
         refine W.nil ?_
         refine Ev.seq ?_
         refine Ev.regS rfl ?_
         refine Sq.w 2 (Nat.le_of_ble_eq_true rfl) ?_
         refine W.mv rfl ?_
         refine W.loadO (p := .agg [.str e13.Path, .list 1 (List.map cS e13.Lines)]) rfl rfl rfl rfl ?_
         refine W.nil ?_
         refine Sq.weak (st' := ⟨[(0, .own 10500 0), (1, .fn 74 [] [.pown 10501 0 0 0]), (5, .int .i64 x8), (6, .int .i64 x9), (7, .pown 10502 0 0 0), (26, .fn 74 [] [.pown 10501 0 0 0]), (27, .agg [.str e13.Path, .list 1 (List.map cS e13.Lines)]), (65540, .pown 10503 0 0 0), (65541, .pown 10504 0 0 0), (65543, .pown 10505 0 0 0)], [(10500, ⟨0, 103, 2, List.map SPathLines.cells w7, true, false, false⟩), (10501, ⟨0, 43, 3, [[.list 1 (List.map cS a0.Inputs), .list 2 (List.map SKindText.cells a0.Ops), .str a0.Output]], true, false, false⟩), (10502, ⟨0, 103, 2, [[.str e13.Path, .list 1 (List.map cS e13.Lines)]], true, false, false⟩), (10503, ⟨0, 46, 1, [[.nils]], true, false, false⟩), (10504, ⟨0, 25, 2, [[.int .i64 0, .int .i64 0]], true, false, false⟩), (10505, ⟨0, 46, 1, [[.own 10500 0]], false, false, false⟩)], 2⟩) ?_ (Wk.nrmTo [0, 1, 5, 6, 7, 26, 27, 65540, 65541, 65543] [(10400, 10500), (10401, 10501), (7, 10502), (10402, 10503), (10403, 10504), (10404, 10505)] rfl rfl)
         refine Sq.callv (f := 74) rfl Tryd.b_sandbox_Restrict_1 Tryd.c_sandbox_Restrict_1 ⟨_, _, _, rfl, Nat.le_of_ble_eq_true rfl, ?_⟩
         unfold Tryd.l_sandbox_Restrict_1
         refine Ev.retJ (γ := Bool) (fun v => ⟨[(3, .bool v), (65536, .own 10600 0), (65537, .fn 74 [] [.pown 10601 0 0 0]), (65541, .int .i64 x8), (65542, .int .i64 x9), (65543, .pown 10602 0 0 0), (131076, .pown 10603 0 0 0), (131077, .pown 10604 0 0 0), (131079, .pown 10605 0 0 0)], [(10600, ⟨0, 103, 2, List.map SPathLines.cells w7, true, false, false⟩), (10601, ⟨0, 43, 3, [[.list 1 (List.map cS a0.Inputs), .list 2 (List.map SKindText.cells a0.Ops), .str a0.Output]], true, false, false⟩), (10602, ⟨0, 103, 2, [[.str e13.Path, .list 1 (List.map cS e13.Lines)]], true, false, false⟩), (10603, ⟨0, 46, 1, [[.nils]], true, false, false⟩), (10604, ⟨0, 25, 2, [[.int .i64 0, .int .i64 0]], true, false, false⟩), (10605, ⟨0, 46, 1, [[.own 10600 0]], false, false, false⟩)], 2⟩) (fun v => sandbox_Restrict_j5 n w7 x8 x9 (sandbox_Restrict_l1 n a0 m1) e13 v = some r) ?_ ?_
         ·refine Ev.seq ?_
          refine W.reg hm ?_
          refine W.box (dt := true) (cs := [.str e13.Path, .list 1 (List.map cS e13.Lines)]) rfl rfl rfl rfl rfl rfl ?_
          refine W.mv rfl (W.nil ?_)
          refine Ev.seq ?_
          refine W.reg hm ?_
          refine W.fieldAddrO rfl rfl ?_
          refine W.loadO (p := .list 1 (List.map cS a0.Inputs)) rfl rfl rfl rfl ?_
          refine W.fieldAddrO rfl rfl ?_
          refine W.loadO (p := .str e13.Path) rfl rfl rfl rfl ?_
          obtain ⟨r17, k11, h⟩ := obind h
          refine W.call (slices_Contains_string_spec n a0.Inputs e13.Path r17 k11) rfl rfl (Les.refl _) rfl (.inl rfl) rfl ?_
          refine W.not rfl (W.mv rfl ?_)
          refine W.nil ?_
          refine Ev.ret ?_
          exact ⟨(!r17), h, Wk.nrmTo [3, 65536, 65537, 65541, 65542, 65543, 131076, 131077, 131079] [(10500, 10600), (10501, 10601), (10502, 10602), (10503, 10603), (10504, 10604), (10505, 10605)] rfl rfl⟩
         ·intro x14 h
          try dsimp only at h ⊢
          unfold sandbox_Restrict_j5 at h
          refine ⟨_, rfl, ?_⟩
          refine Sq.wEnd (Nat.le_of_ble_eq_true rfl) ?_
          refine W.not rfl (W.nil ?_)
          refine Ev.cond rfl (fun c8 => ?_) (fun c8 => ?_)
          ·replace h := iteT h c8
           refine Ev.seq ?_
           refine W.reg hm ?_
           refine W.mv rfl (W.mv rfl ?_)
           refine W.loadO (p := .agg [.str e13.Path, .list 1 (List.map cS e13.Lines)]) rfl rfl rfl rfl ?_
           obtain ⟨e15, k9, h⟩ := obind h
           refine W.idxR (l := w7) (c := SPathLines.cells) rfl rfl rfl rfl rfl k9 ?_
           refine W.storeR true (l := w7) (c := SPathLines.cells) (v := e15) (v' := e13) rfl rfl rfl rfl (gidx_some k9).2 rfl (Nat.le_of_ble_eq_true rfl) rfl rfl rfl ?_
           refine W.nil ?_
           refine W.reg hm ?_
           refine W.mv rfl ?_
           obtain ⟨x16, k10, h⟩ := obind h
           refine W.addG rfl rfl k10 ?_
           refine W.mv rfl (W.nil ?_)
           exact ⟨((gset w7 x8 e13), x16), h, Wk.nrmTo [0, 1, 5, 6, 65540, 65541, 65543] [(10600, 10500), (10601, 10501), (10603, 10502), (10604, 10503), (10605, 10504)] rfl rfl⟩
          ·replace h := iteF h c8
           refine Ev.skip ?_
           exact ⟨(w7, x8), h, Wk.nrmTo [0, 1, 5, 6, 65540, 65541, 65543] [(10600, 10500), (10601, 10501), (10603, 10502), (10604, 10503), (10605, 10504)] rfl rfl⟩
        ·intro ⟨w10, x11⟩ h
         try dsimp only at h ⊢
         unfold sandbox_Restrict_j4 at h
         refine W.reg hm ?_
         refine W.mv rfl ?_
         obtain ⟨x12, k6, h⟩ := obind h
         refine W.addG rfl rfl k6 ?_
         refine W.mv rfl (W.nil ?_)
         exact ⟨(m1, w10, x11, x12), h, Nat.lt_succ_self _, Wk.nrmTo [0, 1, 5, 6, 65540, 65541, 65543] [(10500, 10400), (10501, 10401), (10502, 10402), (10503, 10403), (10504, 10404)] rfl rfl⟩
       ·replace h := iteF h c5
        refine Ev.exit ?_
        refine Ev.seq ?_
        refine W.reg hm ?_
        refine W.mv rfl (W.mv rfl ?_)
        obtain ⟨s18, k12, h⟩ := obind h
        refine W.sliceR (l := w7) (c := SPathLines.cells) rfl rfl rfl rfl k12 (by rw [List.length_map]; exact ix0 (gcut_some k12).1) ?_
        refine W.clearS (l := List.map SPathLines.cells w7) (c := fun x => x) [.str ([] : List UInt8), .nils] rfl rfl rfl (List.map_id' _).symm (gcut_map k12) rfl rfl ?_
        refine W.nil ?_
        refine Ev.weak ?_ (Wk.rowLe 10400 0 (es' := List.map SPathLines.cells (gclear w7 x8.toNat (w7.length : Int).toNat (⟨([] : List UInt8), ([] : List (List UInt8))⟩ : SPathLines))) rfl rfl (LesR.clear (.cons (.refl _) (.cons (.nils 1) (.nil))) fun _ => rfl) rfl)
        refine Ev.seq ?_
        refine W.reg hm ?_
        refine W.mv rfl (W.mv rfl ?_)
        obtain ⟨s19, k13, h⟩ := obind h
        refine W.sliceR (l := (gclear w7 x8.toNat (w7.length : Int).toNat (⟨([] : List UInt8), ([] : List (List UInt8))⟩ : SPathLines))) (c := SPathLines.cells) rfl rfl rfl rfl k13 (ix1 (gcut_some k13).2.2.2.1) ?_
        refine W.mv rfl (W.nil ?_)
        refine Ev.weak ?_ (Wk.frz 10400 0 rfl rfl)
        refine Ev.weak ?_ (Wk.le (t := 4) rfl (Le.cut k13))
        refine Ev.weak ?_ (Wk.le (t := 41) rfl (Le.cut k13))
        refine Ev.ret ?_
        exact ⟨(s19, (gclear w7 x8.toNat (w7.length : Int).toNat (⟨([] : List UInt8), ([] : List (List UInt8))⟩ : SPathLines))), h, Wk.nrmTo [4, 65540, 65541, 65543] [(10402, 10200), (10403, 10201), (10404, 10202)] rfl rfl⟩
   ·intro ⟨x3, b4⟩ h
    try dsimp only at h ⊢
    unfold sandbox_Restrict_j2 at h
    refine ⟨_, rfl, ?_⟩
    refine Sq.wEnd (Nat.le_of_ble_eq_true rfl) ?_
    refine W.fieldAddrO rfl rfl ?_
    refine W.store (es' := [[.list 2 (List.map SPathLines.cells x3)]]) (dt := true) rfl rfl rfl rfl rfl (Nat.le_of_ble_eq_true rfl) rfl rfl rfl rfl ?_
    refine W.nil ?_
    refine Ev.seq ?_
    refine W.reg hm ?_
    refine W.loadO (p := .agg [.list 2 (List.map SPathLines.cells x3)]) rfl rfl rfl rfl ?_
    refine W.build (cs := [.int .i64 0, .int .i64 0]) rfl rfl rfl ?_
    refine W.store (es' := [[.list 2 (List.map SPathLines.cells x3)]]) (dt := true) rfl rfl rfl rfl rfl (Nat.le_of_ble_eq_true rfl) rfl rfl rfl rfl ?_
    refine W.store (es' := [[.int .i64 0, .int .i64 0]]) (dt := true) rfl rfl rfl rfl rfl (Nat.le_of_ble_eq_true rfl) rfl rfl rfl rfl ?_
    refine W.nil ?_
    refine Ev.ret ?_
    injection h with h; subst h
    exact ⟨_, rfl, .refl _⟩
set_option maxHeartbeats 4000000 in
theorem law6_ActioncacheKeysIgnoreOtherFiles_spec (n : Nat) (a0 : SInputsOpsOutput) (a1 : SFiles) (r : Bool) (h : law6_ActioncacheKeysIgnoreOtherFiles n a0 a1 = some r) : PSpec Tryd.prog 8 [.agg (SInputsOpsOutput.cells a0), .agg (SFiles.cells a1)] (.bool r) := by
 unfold law6_ActioncacheKeysIgnoreOtherFiles at h
 refine spec_of Tryd.c_law6_ActioncacheKeysIgnoreOtherFiles (by simp) ?_
 unfold Tryd.l_law6_ActioncacheKeysIgnoreOtherFiles
 refine Ev.seq ?_
 refine W.reg hm ?_
 refine W.box (dt := true) (cs := [.list 1 (List.map cS a0.Inputs), .list 2 (List.map SKindText.cells a0.Ops), .str a0.Output]) rfl rfl rfl rfl rfl rfl ?_
 refine W.box (dt := true) (cs := [.list 2 (List.map SPathLines.cells a1.Files)]) rfl rfl rfl rfl rfl rfl ?_
 refine W.mv rfl (W.nil ?_)
 refine Ev.seq ?_
 refine W.reg hm ?_
 refine W.loadO (p := .agg [.list 1 (List.map cS a0.Inputs), .list 2 (List.map SKindText.cells a0.Ops), .str a0.Output]) rfl rfl rfl rfl ?_
 refine W.loadO (p := .agg [.list 2 (List.map SPathLines.cells a1.Files)]) rfl rfl rfl rfl ?_
 obtain ⟨r1, k1, h⟩ := obind h
 refine W.call (sandbox_Restrict_spec n a0 a1 r1 k1) rfl rfl (Les.refl _) rfl (.inl rfl) rfl ?_
 refine W.mv rfl (W.extract rfl rfl ?_)
 refine W.extract rfl rfl ?_
 refine W.alloc (dt := true) rfl rfl rfl ?_
 refine W.alloc (dt := true) rfl rfl rfl ?_
 refine W.store (es' := [[.list 2 (List.map SPathLines.cells r1.1.Files)]]) (dt := true) rfl rfl rfl rfl rfl (Nat.le_of_ble_eq_true rfl) rfl rfl rfl rfl ?_
 refine W.store (es' := [[.int .i64 r1.2.Code, .int .i64 r1.2.Index]]) (dt := true) rfl rfl rfl rfl rfl (Nat.le_of_ble_eq_true rfl) rfl rfl rfl rfl ?_
 refine W.nil ?_
 refine Ev.seq ?_
 refine Ev.seqJ (γ := Bool) (fun v => ⟨[(2, .pown 10100 0 0 0), (3, .pown 10101 0 0 0), (5, .pown 10102 0 0 0), (23, .bool v)], [(10100, ⟨0, 43, 3, [[.list 1 (List.map cS a0.Inputs), .list 2 (List.map SKindText.cells a0.Ops), .str a0.Output]], true, false, false⟩), (10101, ⟨0, 46, 1, [[.list 2 (List.map SPathLines.cells a1.Files)]], true, false, false⟩), (10102, ⟨0, 46, 1, [[.list 2 (List.map SPathLines.cells r1.1.Files)]], true, false, false⟩)], 2⟩) (fun v => law6_ActioncacheKeysIgnoreOtherFiles_j1 n a0 a1 r1 v = some r) ?_ ?_
 ·refine W.reg hm ?_
  obtain ⟨r8, k9, h⟩ := obind h
  refine W.call (law6_caches_spec n r8 k9) rfl rfl (Les.refl _) rfl (.inl rfl) rfl ?_
  refine W.not rfl (W.mv rfl ?_)
  refine W.split 19 rfl (fun c10 => ?_) (fun c10 => ?_)
  ·replace h := iteT h c10
   refine W.guardF2 rfl c10 ?_
   refine W.guardF2 rfl c10 ?_
   refine W.guardF2 rfl c10 ?_
   refine W.pickT rfl rfl rfl c10 ?_
   refine W.nil ?_
   exact ⟨true, h, Wk.nrmTo [2, 3, 5, 23] [(2, 10100), (3, 10101), (5, 10102)] rfl rfl⟩
  ·replace h := iteF h c10
   refine W.guardT rfl c10 ?_
   refine W.fieldAddrO rfl rfl ?_
   refine W.guardT rfl c10 ?_
   refine W.loadO (p := .int .i64 r1.2.Code) rfl rfl rfl rfl ?_
   refine W.guardT rfl c10 ?_
   refine W.neq rfl rfl ?_
   refine W.pickN rfl rfl rfl c10 ?_
   refine W.nil ?_
   exact ⟨(decide (r1.2.Code ≠ 0)), h, Wk.nrmTo [2, 3, 5, 23] [(2, 10100), (3, 10101), (5, 10102)] rfl rfl⟩
 ·intro x2 h
  try dsimp only at h ⊢
  unfold law6_ActioncacheKeysIgnoreOtherFiles_j1 at h
  refine Ev.cond rfl (fun c2 => ?_) (fun c2 => ?_)
  ·replace h := iteT h c2
   refine Ev.seqJ (γ := Bool) (fun v => ⟨[(4, .bool v)], [], 2⟩) (fun v => law6_ActioncacheKeysIgnoreOtherFiles_j2 n v = some r) ?_ ?_
   ·refine W.reg hm ?_
    obtain ⟨r4, k3, h⟩ := obind h
    refine W.call (law6_caches_spec n r4 k3) rfl rfl (Les.refl _) rfl (.inl rfl) rfl ?_
    refine W.mv rfl ?_
    refine W.split 25 rfl (fun c4 => ?_) (fun c4 => ?_)
    ·replace h := iteT h c4
     refine W.guardT rfl c4 ?_
     refine W.fieldAddrO rfl rfl ?_
     refine W.guardT rfl c4 ?_
     refine W.loadO (p := .list 2 (List.map SPathLines.cells r1.1.Files)) rfl rfl rfl rfl ?_
     refine W.guardT rfl c4 ?_
     refine W.lenL (c := SPathLines.cells) rfl ?_
     refine W.guardT rfl c4 ?_
     refine W.eql rfl rfl ?_
     refine W.pickT rfl rfl rfl c4 ?_
     refine W.mv rfl (W.nil ?_)
     exact ⟨(decide ((r1.1.Files.length : Int) = 0)), h, Wk.nrmTo [4] [] rfl rfl⟩
    ·replace h := iteF h c4
     refine W.guardF1 rfl c4 ?_
     refine W.guardF1 rfl c4 ?_
     refine W.guardF1 rfl c4 ?_
     refine W.guardF1 rfl c4 ?_
     refine W.pickN rfl rfl rfl c4 ?_
     refine W.mv rfl (W.nil ?_)
     exact ⟨false, h, Wk.nrmTo [4] [] rfl rfl⟩
   ·intro x3 h
    try dsimp only at h ⊢
    unfold law6_ActioncacheKeysIgnoreOtherFiles_j2 at h
    refine Ev.ret ?_
    injection h with h; subst h
    exact ⟨_, rfl, .refl _⟩
  ·replace h := iteF h c2
   refine Ev.skip ?_
   refine Ev.seq ?_
   refine W.reg hm ?_
   refine W.loadO (p := .agg [.list 1 (List.map cS a0.Inputs), .list 2 (List.map SKindText.cells a0.Ops), .str a0.Output]) rfl rfl rfl rfl ?_
   refine W.loadO (p := .agg [.list 2 (List.map SPathLines.cells a1.Files)]) rfl rfl rfl rfl ?_
   obtain ⟨r5, k5, h⟩ := obind h
   refine W.call (actioncache_Key_spec n a0 a1 r5 k5) rfl rfl (Les.refl _) rfl (.inl rfl) rfl ?_
   refine W.mv rfl (W.extract rfl rfl ?_)
   refine W.extract rfl rfl ?_
   refine W.alloc (dt := true) rfl rfl rfl ?_
   refine W.mv rfl ?_
   refine W.store (es' := [[.int .i64 r5.2.Code, .int .i64 r5.2.Index]]) (dt := true) rfl rfl rfl rfl rfl (Nat.le_of_ble_eq_true rfl) rfl rfl rfl rfl ?_
   refine W.nil ?_
   refine Ev.seq ?_
   refine W.reg hm ?_
   refine W.loadO (p := .agg [.list 1 (List.map cS a0.Inputs), .list 2 (List.map SKindText.cells a0.Ops), .str a0.Output]) rfl rfl rfl rfl ?_
   refine W.loadO (p := .agg [.list 2 (List.map SPathLines.cells r1.1.Files)]) rfl rfl rfl rfl ?_
   obtain ⟨r6, k6, h⟩ := obind h
   refine W.call (actioncache_Key_spec n a0 (⟨r1.1.Files⟩ : SFiles) r6 k6) rfl rfl (Les.refl _) rfl (.inl rfl) rfl ?_
   refine W.mv rfl (W.extract rfl rfl ?_)
   refine W.extract rfl rfl ?_
   refine W.alloc (dt := true) rfl rfl rfl ?_
   refine W.mv rfl ?_
   refine W.store (es' := [[.int .i64 r6.2.Code, .int .i64 r6.2.Index]]) (dt := true) rfl rfl rfl rfl rfl (Nat.le_of_ble_eq_true rfl) rfl rfl rfl rfl ?_
   refine W.nil ?_
   refine Ev.seqJ (γ := Bool) (fun v => ⟨[(4, .bool v)], [], 2⟩) (fun v => law6_ActioncacheKeysIgnoreOtherFiles_j3 n v = some r) ?_ ?_
   ·refine W.reg hm ?_
    refine W.fieldAddrO rfl rfl ?_
    refine W.loadO (p := .int .i64 r5.2.Code) rfl rfl rfl rfl ?_
    refine W.eql rfl rfl (W.mv rfl ?_)
    refine W.split 46 rfl (fun c7 => ?_) (fun c7 => ?_)
    ·replace h := iteT h c7
     refine W.guardT rfl c7 ?_
     refine W.fieldAddrO rfl rfl ?_
     refine W.guardT rfl c7 ?_
     refine W.loadO (p := .int .i64 r6.2.Code) rfl rfl rfl rfl ?_
     refine W.guardT rfl c7 ?_
     refine W.eql rfl rfl ?_
     refine W.pickT rfl rfl rfl c7 ?_
     refine W.mv rfl ?_
     refine W.split 51 rfl (fun c8 => ?_) (fun c8 => ?_)
     ·replace h := iteT h c8
      refine W.guardT rfl c8 ?_
      refine W.mv rfl ?_
      refine W.guardT rfl c8 ?_
      refine W.mv rfl ?_
      refine W.guardT rfl c8 ?_
      refine W.eql rfl rfl ?_
      refine W.pickT rfl rfl rfl c8 ?_
      refine W.mv rfl (W.nil ?_)
      exact ⟨(decide (r5.1 = r6.1)), h, Wk.nrmTo [4] [] rfl rfl⟩
     ·replace h := iteF h c8
      refine W.guardF1 rfl c8 ?_
      refine W.guardF1 rfl c8 ?_
      refine W.guardF1 rfl c8 ?_
      refine W.pickN rfl rfl rfl c8 ?_
      refine W.mv rfl (W.nil ?_)
      exact ⟨false, h, Wk.nrmTo [4] [] rfl rfl⟩
    ·replace h := iteF h c7
     refine W.guardF1 rfl c7 ?_
     refine W.guardF1 rfl c7 ?_
     refine W.guardF1 rfl c7 ?_
     refine W.pickN rfl rfl rfl c7 ?_
     refine W.mv rfl (W.guardF1 rfl rfl ?_)
     refine W.guardF1 rfl rfl (W.guardF1 rfl rfl ?_)
     refine W.pickN rfl rfl rfl rfl (W.mv rfl ?_)
     refine W.nil ?_
     exact ⟨false, h, Wk.nrmTo [4] [] rfl rfl⟩
   ·intro x7 h
    try dsimp only at h ⊢
    unfold law6_ActioncacheKeysIgnoreOtherFiles_j3 at h
    refine Ev.ret ?_
    injection h with h; subst h
    exact ⟨_, rfl, .refl _⟩
end Go.Proofs.YtlkknmhhefjmjaaDoor
