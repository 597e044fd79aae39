/- The functions compute what the texts of D say. Laid by a program (wip/gen/dec.py). -/
import Derived.Test.YtlkknmhhefjmjaaDoorD
import Derived.Test.YtlkknmhhefjmjaaDoorW5
namespace Go.Proofs.YtlkknmhhefjmjaaDoor
open Go.PW Go
set_option maxHeartbeats 4000000 in
theorem law6_ActioncacheStoredIsFound_spec (n : Nat) (a0 : List SKeyLines) (a1 : Int) (a2 : List (List UInt8)) (a3 : Int) (r : Bool) (h : law6_ActioncacheStoredIsFound n a0 a1 a2 a3 = some r) : PSpec Tryd.prog 5 [.list 2 (List.map SKeyLines.cells a0), .int .i64 a1, .list 1 (List.map cS a2), .int .i64 a3] (.bool r) := by
 unfold law6_ActioncacheStoredIsFound at h
 refine spec_of Tryd.c_law6_ActioncacheStoredIsFound (by simp) ?_
 unfold Tryd.l_law6_ActioncacheStoredIsFound
 refine Ev.seq ?_
 refine W.reg hm ?_
 refine W.mv rfl (W.nil ?_)
 refine Ev.seq ?_
 refine W.reg hm ?_
 refine W.mv rfl (W.mv rfl ?_)
 refine W.mv rfl ?_
 obtain ⟨r1, k1, h⟩ := obind h
 refine W.call (actioncache_Store_spec n a0 a1 a2 r1 k1) rfl rfl (Les.refl _) rfl (.inl rfl) rfl ?_
 refine W.mv rfl (W.extract rfl rfl ?_)
 refine W.extract rfl rfl ?_
 refine W.alloc (dt := true) rfl rfl rfl ?_
 refine W.mv rfl ?_
 refine W.store (es' := [[.int .i64 r1.2.Code, .int .i64 r1.2.Index]]) (dt := true) rfl rfl rfl rfl rfl (Nat.le_of_ble_eq_true rfl) rfl rfl rfl rfl ?_
 refine W.nil ?_
 refine Ev.seq ?_
 refine Ev.seqJ (γ := Bool) (fun v => ⟨[(0, .list 2 (List.map SKeyLines.cells a0)), (1, .int .i64 a1), (2, .list 1 (List.map cS a2)), (3, .int .i64 a3), (9, .list 2 (List.map SKeyLines.cells r1.1)), (33, .bool v)], [], 2⟩) (fun v => law6_ActioncacheStoredIsFound_j1 n a0 a1 a2 a3 r1 v = some r) ?_ ?_
 ·refine W.reg hm ?_
  obtain ⟨r12, k16, h⟩ := obind h
  refine W.call (law6_caches_spec n r12 k16) rfl rfl (Les.refl _) rfl (.inl rfl) rfl ?_
  refine W.not rfl (W.mv rfl ?_)
  refine W.split 29 rfl (fun c17 => ?_) (fun c17 => ?_)
  ·replace h := iteT h c17
   refine W.guardF2 rfl c17 ?_
   refine W.guardF2 rfl c17 ?_
   refine W.guardF2 rfl c17 ?_
   refine W.pickT rfl rfl rfl c17 ?_
   refine W.nil ?_
   exact ⟨true, h, Wk.nrmTo [0, 1, 2, 3, 9, 33] [] rfl rfl⟩
  ·replace h := iteF h c17
   refine W.guardT rfl c17 ?_
   refine W.fieldAddrO rfl rfl ?_
   refine W.guardT rfl c17 ?_
   refine W.loadO (p := .int .i64 r1.2.Code) rfl rfl rfl rfl ?_
   refine W.guardT rfl c17 ?_
   refine W.neq rfl rfl ?_
   refine W.pickN rfl rfl rfl c17 ?_
   refine W.nil ?_
   exact ⟨(decide (r1.2.Code ≠ 0)), h, Wk.nrmTo [0, 1, 2, 3, 9, 33] [] rfl rfl⟩
 ·intro x2 h
  try dsimp only at h ⊢
  unfold law6_ActioncacheStoredIsFound_j1 at h
  refine Ev.cond rfl (fun c2 => ?_) (fun c2 => ?_)
  ·replace h := iteT h c2
   refine Ev.seqJ (γ := Bool) (fun v => ⟨[(8, .bool v)], [], 2⟩) (fun v => law6_ActioncacheStoredIsFound_j2 n v = some r) ?_ ?_
   ·refine W.reg hm ?_
    obtain ⟨r4, k3, h⟩ := obind h
    refine W.call (law6_caches_spec n r4 k3) rfl rfl (Les.refl _) rfl (.inl rfl) rfl ?_
    refine W.mv rfl ?_
    refine W.split 35 rfl (fun c4 => ?_) (fun c4 => ?_)
    ·replace h := iteT h c4
     refine W.guardT rfl c4 ?_
     refine W.mv rfl ?_
     refine W.guardT rfl c4 ?_
     refine W.lenL (c := SKeyLines.cells) rfl ?_
     refine W.guardT rfl c4 ?_
     refine W.eql rfl rfl ?_
     refine W.pickT rfl rfl rfl c4 ?_
     refine W.mv rfl (W.nil ?_)
     exact ⟨(decide ((r1.1.length : Int) = 0)), h, Wk.nrmTo [8] [] rfl rfl⟩
    ·replace h := iteF h c4
     refine W.guardF1 rfl c4 ?_
     refine W.guardF1 rfl c4 ?_
     refine W.guardF1 rfl c4 ?_
     refine W.pickN rfl rfl rfl c4 ?_
     refine W.mv rfl (W.nil ?_)
     exact ⟨false, h, Wk.nrmTo [8] [] rfl rfl⟩
   ·intro x3 h
    try dsimp only at h ⊢
    unfold law6_ActioncacheStoredIsFound_j2 at h
    refine Ev.ret ?_
    injection h with h; subst h
    exact ⟨_, rfl, .refl _⟩
  ·replace h := iteF h c2
   refine Ev.skip ?_
   refine Ev.seq ?_
   refine W.reg hm ?_
   refine W.mv rfl (W.mv rfl ?_)
   obtain ⟨r5, k5, h⟩ := obind h
   refine W.call (actioncache_Lookup_spec n r1.1 a1 r5 k5) rfl rfl (Les.refl _) rfl (.inl rfl) rfl ?_
   refine W.mv rfl (W.extract rfl rfl ?_)
   refine W.extract rfl rfl (W.extract rfl rfl ?_)
   refine W.alloc (dt := true) rfl rfl rfl ?_
   refine W.mv rfl (W.mv rfl ?_)
   refine W.store (es' := [[.int .i64 r5.2.2.Code, .int .i64 r5.2.2.Index]]) (dt := true) rfl rfl rfl rfl rfl (Nat.le_of_ble_eq_true rfl) rfl rfl rfl rfl ?_
   refine W.nil ?_
   refine Ev.seq ?_
   refine W.reg hm ?_
   refine W.mv rfl (W.mv rfl ?_)
   obtain ⟨r6, k6, h⟩ := obind h
   refine W.call (actioncache_Lookup_spec n a0 a3 r6 k6) rfl rfl (Les.refl _) rfl (.inl rfl) rfl ?_
   refine W.mv rfl (W.extract rfl rfl ?_)
   refine W.extract rfl rfl (W.extract rfl rfl ?_)
   refine W.alloc (dt := true) rfl rfl rfl ?_
   refine W.mv rfl (W.mv rfl ?_)
   refine W.store (es' := [[.int .i64 r6.2.2.Code, .int .i64 r6.2.2.Index]]) (dt := true) rfl rfl rfl rfl rfl (Nat.le_of_ble_eq_true rfl) rfl rfl rfl rfl ?_
   refine W.nil ?_
   refine Ev.seq ?_
   refine W.reg hm ?_
   refine W.mv rfl (W.mv rfl ?_)
   obtain ⟨r7, k7, h⟩ := obind h
   refine W.call (actioncache_Lookup_spec n r1.1 a3 r7 k7) rfl rfl (Les.refl _) rfl (.inl rfl) rfl ?_
   refine W.mv rfl (W.extract rfl rfl ?_)
   refine W.extract rfl rfl (W.extract rfl rfl ?_)
   refine W.alloc (dt := true) rfl rfl rfl ?_
   refine W.mv rfl (W.mv rfl ?_)
   refine W.store (es' := [[.int .i64 r7.2.2.Code, .int .i64 r7.2.2.Index]]) (dt := true) rfl rfl rfl rfl rfl (Nat.le_of_ble_eq_true rfl) rfl rfl rfl rfl ?_
   refine W.nil ?_
   refine Ev.seq ?_
   refine Ev.seqJ (γ := Bool) (fun v => ⟨[(1, .int .i64 a1), (3, .int .i64 a3), (14, .list 1 (List.map cS r6.1)), (15, .bool r6.2.1), (17, .list 1 (List.map cS r7.1)), (18, .bool r7.2.1), (78, .bool v)], [], 2⟩) (fun v => law6_ActioncacheStoredIsFound_j3 n a1 a3 r6 r7 v = some r) ?_ ?_
   ·refine W.reg hm ?_
    refine W.fieldAddrO rfl rfl ?_
    refine W.loadO (p := .int .i64 r5.2.2.Code) rfl rfl rfl rfl ?_
    refine W.neq rfl rfl (W.mv rfl ?_)
    refine W.split 64 rfl (fun c12 => ?_) (fun c12 => ?_)
    ·replace h := iteT h c12
     refine W.guardF2 rfl c12 ?_
     refine W.guardF2 rfl c12 ?_
     refine W.pickT rfl rfl rfl c12 ?_
     refine W.mv rfl (W.guardF2 rfl rfl ?_)
     refine W.guardF2 rfl rfl (W.guardF2 rfl rfl ?_)
     refine W.guardF2 rfl rfl (W.pickT rfl rfl rfl rfl ?_)
     refine W.mv rfl (W.guardF2 rfl rfl ?_)
     refine W.guardF2 rfl rfl (W.guardF2 rfl rfl ?_)
     refine W.pickT rfl rfl rfl rfl (W.nil ?_)
     exact ⟨true, h, Wk.nrmTo [1, 3, 14, 15, 17, 18, 78] [] rfl rfl⟩
    ·replace h := iteF h c12
     refine W.guardT rfl c12 ?_
     refine W.mv rfl ?_
     refine W.guardT rfl c12 ?_
     refine W.not rfl ?_
     refine W.pickN rfl rfl rfl c12 ?_
     refine W.mv rfl ?_
     refine W.split 68 rfl (fun c13 => ?_) (fun c13 => ?_)
     ·replace h := iteT h c13
      refine W.guardF2 rfl c13 ?_
      refine W.guardF2 rfl c13 ?_
      refine W.guardF2 rfl c13 ?_
      refine W.guardF2 rfl c13 ?_
      refine W.pickT rfl rfl rfl c13 ?_
      refine W.mv rfl (W.guardF2 rfl rfl ?_)
      refine W.guardF2 rfl rfl (W.guardF2 rfl rfl ?_)
      refine W.pickT rfl rfl rfl rfl (W.nil ?_)
      exact ⟨true, h, Wk.nrmTo [1, 3, 14, 15, 17, 18, 78] [] rfl rfl⟩
     ·replace h := iteF h c13
      refine W.guardT rfl c13 ?_
      refine W.mv rfl ?_
      refine W.guardT rfl c13 ?_
      refine W.mv rfl ?_
      refine W.guardT rfl c13 ?_
      obtain ⟨r11, k14, h⟩ := obind h
      refine W.call (ref6_Strings_spec n r5.1 a2 r11 k14) rfl rfl (Les.refl _) rfl (.inl rfl) rfl ?_
      refine W.guardT rfl c13 ?_
      refine W.not rfl ?_
      refine W.pickN rfl rfl rfl c13 ?_
      refine W.mv rfl ?_
      refine W.split 74 rfl (fun c15 => ?_) (fun c15 => ?_)
      ·replace h := iteT h c15
       refine W.guardF2 rfl c15 ?_
       refine W.guardF2 rfl c15 ?_
       refine W.guardF2 rfl c15 ?_
       refine W.pickT rfl rfl rfl c15 ?_
       refine W.nil ?_
       exact ⟨true, h, Wk.nrmTo [1, 3, 14, 15, 17, 18, 78] [] rfl rfl⟩
      ·replace h := iteF h c15
       refine W.guardT rfl c15 ?_
       refine W.loadO (p := .agg [.int .i64 r6.2.2.Code, .int .i64 r6.2.2.Index]) rfl rfl rfl rfl ?_
       refine W.guardT rfl c15 ?_
       refine W.loadO (p := .agg [.int .i64 r7.2.2.Code, .int .i64 r7.2.2.Index]) rfl rfl rfl rfl ?_
       refine W.guardT rfl c15 ?_
       refine W.eqs rfl rfl rfl ?_
       refine W.pickN rfl rfl rfl c15 ?_
       refine W.nil ?_
       exact ⟨((r6.2.2.Code == r7.2.2.Code && (r6.2.2.Index == r7.2.2.Index && true)) != true), h, Wk.nrmTo [1, 3, 14, 15, 17, 18, 78] [] rfl rfl⟩
   ·intro x8 h
    try dsimp only at h ⊢
    unfold law6_ActioncacheStoredIsFound_j3 at h
    refine Ev.cond rfl (fun c8 => ?_) (fun c8 => ?_)
    ·replace h := iteT h c8
     refine Ev.seq ?_
     refine W.reg hm ?_
     refine W.mv rfl (W.nil ?_)
     refine Ev.ret ?_
     injection h with h; subst h
     exact ⟨_, rfl, .refl _⟩
    ·replace h := iteF h c8
     refine Ev.skip ?_
     refine Ev.seqJ (γ := Bool) (fun v => ⟨[(8, .bool v)], [], 2⟩) (fun v => law6_ActioncacheStoredIsFound_j4 n v = some r) ?_ ?_
     ·refine W.reg hm ?_
      refine W.mv rfl (W.mv rfl ?_)
      refine W.eql rfl rfl (W.mv rfl ?_)
      refine W.split 82 rfl (fun c9 => ?_) (fun c9 => ?_)
      ·replace h := iteT h c9
       refine W.guardF2 rfl c9 ?_
       refine W.guardF2 rfl c9 ?_
       refine W.guardF2 rfl c9 ?_
       refine W.guardF2 rfl c9 ?_
       refine W.guardU rfl (W.guardU rfl ?_)
       refine W.guardU rfl ?_
       refine W.guardF2 rfl c9 ?_
       refine W.pickT rfl rfl rfl c9 ?_
       refine W.mv rfl (W.nil ?_)
       exact ⟨true, h, Wk.nrmTo [8] [] rfl rfl⟩
      ·replace h := iteF h c9
       refine W.guardT rfl c9 ?_
       refine W.mv rfl ?_
       refine W.guardT rfl c9 ?_
       refine W.mv rfl ?_
       refine W.guardT rfl c9 ?_
       refine W.beql rfl rfl ?_
       refine W.guardT rfl c9 ?_
       refine W.mv rfl ?_
       refine W.split 86 rfl (fun c10 => ?_) (fun c10 => ?_)
       ·replace h := iteT h c10
        refine W.guardT rfl c10 ?_
        refine W.mv rfl ?_
        refine W.guardT rfl c10 ?_
        refine W.mv rfl ?_
        refine W.guardT rfl c10 ?_
        obtain ⟨r10, k11, h⟩ := obind h
        refine W.call (ref6_Strings_spec n r6.1 r7.1 r10 k11) rfl rfl (Les.refl _) rfl (.inl rfl) rfl ?_
        refine W.guardT rfl c9 ?_
        refine W.pickT rfl rfl rfl c10 ?_
        refine W.pickN rfl rfl rfl c9 ?_
        refine W.mv rfl (W.nil ?_)
        exact ⟨r10, h, Wk.nrmTo [8] [] rfl rfl⟩
       ·replace h := iteF h c10
        refine W.guardF1 rfl c10 ?_
        refine W.guardF1 rfl c10 ?_
        refine W.guardF1 rfl c10 ?_
        refine W.guardT rfl c9 ?_
        refine W.pickN rfl rfl rfl c10 ?_
        refine W.pickN rfl rfl rfl c9 ?_
        refine W.mv rfl (W.nil ?_)
        exact ⟨false, h, Wk.nrmTo [8] [] rfl rfl⟩
     ·intro x9 h
      try dsimp only at h ⊢
      unfold law6_ActioncacheStoredIsFound_j4 at h
      refine Ev.ret ?_
      injection h with h; subst h
      exact ⟨_, rfl, .refl _⟩
end Go.Proofs.YtlkknmhhefjmjaaDoor
