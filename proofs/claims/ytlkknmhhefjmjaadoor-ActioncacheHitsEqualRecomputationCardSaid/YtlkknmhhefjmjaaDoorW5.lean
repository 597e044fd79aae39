/- The functions compute what the texts of D say. Laid by a program (wip/gen/dec.py). -/
import Derived.Test.YtlkknmhhefjmjaaDoorD
import Derived.Test.YtlkknmhhefjmjaaDoorW4
namespace Go.Proofs.YtlkknmhhefjmjaaDoor
open Go.PW Go
theorem ref1_At_spec (n : Nat) (a0 : Int) (a1 : Int) (r : SCodeIndex) (h : ref1_At n a0 a1 = some r) : PSpec Tryd.prog 93 [.int .i64 a0, .int .i64 a1] (.agg (SCodeIndex.cells r)) := by
 unfold ref1_At at h
 refine spec_of Tryd.c_ref1_At (by simp) ?_
 unfold Tryd.l_ref1_At
 refine Ev.seq ?_
 refine W.reg hm ?_
 refine W.alloc (dt := true) rfl rfl rfl ?_
 refine W.nil ?_
 refine Ev.seq ?_
 refine W.reg hm ?_
 refine W.mv rfl (W.mv rfl ?_)
 refine W.build (cs := [.int .i64 a0, .int .i64 a1]) rfl rfl rfl ?_
 refine W.store (es' := [[.int .i64 a0, .int .i64 a1]]) (dt := true) rfl rfl rfl rfl rfl (Nat.le_of_ble_eq_true rfl) rfl rfl rfl rfl ?_
 refine W.nil ?_
 refine Ev.ret ?_
 injection h with h; subst h
 exact ⟨_, rfl, .refl _⟩
set_option maxHeartbeats 4000000 in
theorem ref1_LinesFault_spec (n : Nat) (a0 : List (List UInt8)) (r : SCodeIndex) (h : ref1_LinesFault n a0 = some r) : PSpec Tryd.prog 57 [.list 1 (List.map cS a0)] (.agg (SCodeIndex.cells r)) := by
 unfold ref1_LinesFault at h
 refine spec_of Tryd.c_ref1_LinesFault (by simp) ?_
 unfold Tryd.l_ref1_LinesFault
 refine Ev.seq ?_
 refine W.reg hm ?_
 refine W.alloc (dt := true) rfl rfl rfl ?_
 refine W.nil ?_
 refine Ev.seq (Ev.seq ?_)
 refine W.reg hm ?_
 refine W.mv rfl ?_
 refine W.lenL (c := cS) rfl ?_
 refine W.gtr rfl rfl (W.nil ?_)
 refine Ev.cond rfl (fun c1 => ?_) (fun c1 => ?_)
 ·replace h := iteT h c1
  refine Ev.seq ?_
  refine W.reg hm ?_
  obtain ⟨r1, k2, h⟩ := obind h
  refine W.call (ref1_At_spec n 2 (-1) r1 k2) rfl rfl (Les.refl _) rfl (.inl rfl) rfl ?_
  refine W.store (es' := [[.int .i64 r1.Code, .int .i64 r1.Index]]) (dt := true) rfl rfl rfl rfl rfl (Nat.le_of_ble_eq_true rfl) rfl rfl rfl rfl ?_
  refine W.nil ?_
  refine Ev.ret ?_
  injection h with h; subst h
  exact ⟨_, rfl, .refl _⟩
 ·replace h := iteF h c1
  refine Ev.skip ?_
  refine Ev.seq (Ev.seq ?_)
  refine W.reg hm ?_
  refine W.mv rfl (W.nil ?_)
  refine Ev.block ?_
  refine Ev.loopW (β := Nat × Int) (fun v => ⟨[(0, .list 1 (List.map cS a0)), (2, .pown 10100 0 0 0), (3, .int .i64 v.2)], [(10100, ⟨0, 25, 2, [[.int .i64 0, .int .i64 0]], true, false, false⟩)], 2⟩) (fun v => ref1_LinesFault_l1 n a0 v.1 v.2 = some r) (fun v => v.1) (n, 0) (Wk.nrmTo [0, 2, 3] [(2, 10100)] rfl rfl) h ?_
  intro ⟨m1, x2⟩ h
  try dsimp only at h ⊢
  cases m1 with
  | zero => rw [ref1_LinesFault_l1] at h; cases h
  | succ m1 =>
   rw [ref1_LinesFault_l1] at h
   refine Ev.seq (Ev.seq ?_)
   refine W.reg hm ?_
   refine W.mv rfl (W.mv rfl ?_)
   refine W.lenL (c := cS) rfl ?_
   refine W.lss rfl rfl (W.nil ?_)
   refine Ev.cond rfl (fun c3 => ?_) (fun c3 => ?_)
   ·replace h := iteT h c3
    refine Ev.skip ?_
    refine Ev.seq ?_
    refine Ev.block ?_
    refine Ev.seq (Ev.seq ?_)
    refine W.reg hm ?_
    refine W.mv rfl (W.mv rfl ?_)
    obtain ⟨e3, k4, h⟩ := obind h
    refine W.idxL (c := cS) rfl rfl k4 ?_
    refine W.load rfl rfl (W.slen rfl ?_)
    refine W.gtr rfl rfl (W.nil ?_)
    refine Ev.cond rfl (fun c5 => ?_) (fun c5 => ?_)
    ·replace h := iteT h c5
     refine Ev.seq ?_
     refine W.reg hm ?_
     refine W.mv rfl ?_
     obtain ⟨r4, k6, h⟩ := obind h
     refine W.call (ref1_At_spec n 2 x2 r4 k6) rfl rfl (Les.refl _) rfl (.inl rfl) rfl ?_
     refine W.store (es' := [[.int .i64 r4.Code, .int .i64 r4.Index]]) (dt := true) rfl rfl rfl rfl rfl (Nat.le_of_ble_eq_true rfl) rfl rfl rfl rfl ?_
     refine W.nil ?_
     refine Ev.ret ?_
     injection h with h; subst h
     exact ⟨_, rfl, .refl _⟩
    ·replace h := iteF h c5
     refine Ev.skip ?_
     refine Ev.seq ?_
     refine W.reg hm ?_
     refine W.mv rfl (W.nil ?_)
     refine Ev.block ?_
     refine Ev.loopW (β := Nat × Int) (fun v => ⟨[(0, .list 1 (List.map cS a0)), (2, .pown 10200 0 0 0), (3, .int .i64 x2), (4, .int .i64 v.2)], [(10200, ⟨0, 25, 2, [[.int .i64 0, .int .i64 0]], true, false, false⟩)], 2⟩) (fun v => ref1_LinesFault_l2 n x2 (ref1_LinesFault_l1 n a0 m1) e3 v.1 v.2 = some r) (fun v => v.1) (n, 0) (Wk.nrmTo [0, 2, 3, 4] [(10100, 10200)] rfl rfl) h ?_
     intro ⟨m2, x5⟩ h
     try dsimp only at h ⊢
     cases m2 with
     | zero => rw [ref1_LinesFault_l2] at h; cases h
     | succ m2 =>
      rw [ref1_LinesFault_l2] at h
      refine Ev.seq (Ev.seq ?_)
      refine W.reg hm ?_
      refine W.mv rfl (W.mv rfl ?_)
      refine W.mv rfl ?_
      refine W.idxL (c := cS) rfl rfl k4 ?_
      refine W.load rfl rfl (W.slen rfl ?_)
      refine W.lss rfl rfl (W.nil ?_)
      refine Ev.cond rfl (fun c7 => ?_) (fun c7 => ?_)
      ·replace h := iteT h c7
       refine Ev.skip ?_
       refine Ev.seq ?_
       refine Ev.block ?_
       refine Ev.seq ?_
       refine W.reg hm ?_
       refine W.mv rfl (W.mv rfl ?_)
       refine W.idxL (c := cS) rfl rfl k4 ?_
       refine W.load rfl rfl (W.mv rfl ?_)
       obtain ⟨y6, k8, h⟩ := obind h
       refine W.sidxG rfl rfl k8 ?_
       refine W.eql rfl rfl (W.nil ?_)
       refine Ev.cond rfl (fun c9 => ?_) (fun c9 => ?_)
       ·replace h := iteT h c9
        refine Ev.seq ?_
        refine W.reg hm ?_
        refine W.mv rfl ?_
        obtain ⟨r7, k10, h⟩ := obind h
        refine W.call (ref1_At_spec n 5 x2 r7 k10) rfl rfl (Les.refl _) rfl (.inl rfl) rfl ?_
        refine W.store (es' := [[.int .i64 r7.Code, .int .i64 r7.Index]]) (dt := true) rfl rfl rfl rfl rfl (Nat.le_of_ble_eq_true rfl) rfl rfl rfl rfl ?_
        refine W.nil ?_
        refine Ev.ret ?_
        injection h with h; subst h
        exact ⟨_, rfl, .refl _⟩
       ·replace h := iteF h c9
        refine Ev.skip ?_
        refine W.reg hm ?_
        refine W.mv rfl ?_
        obtain ⟨x8, k11, h⟩ := obind h
        refine W.addG rfl rfl k11 ?_
        refine W.mv rfl (W.nil ?_)
        exact ⟨(m2, x8), h, Nat.lt_succ_self _, Wk.nrmTo [0, 2, 3, 4] [(10200, 10200)] rfl rfl⟩
      ·replace h := iteF h c7
       refine Ev.exit ?_
       refine W.reg hm ?_
       refine W.mv rfl ?_
       obtain ⟨x9, k12, h⟩ := obind h
       refine W.addG rfl rfl k12 ?_
       refine W.mv rfl (W.nil ?_)
       exact ⟨(m1, x9), h, Nat.lt_succ_self _, Wk.nrmTo [0, 2, 3] [(10200, 10100)] rfl rfl⟩
   ·replace h := iteF h c3
    refine Ev.exit ?_
    refine Ev.seq ?_
    refine W.reg hm ?_
    refine W.build (cs := [.int .i64 0, .int .i64 0]) rfl rfl rfl ?_
    refine W.store (es' := [[.int .i64 0, .int .i64 0]]) (dt := true) rfl rfl rfl rfl rfl (Nat.le_of_ble_eq_true rfl) rfl rfl rfl rfl ?_
    refine W.nil ?_
    refine Ev.ret ?_
    injection h with h; subst h
    exact ⟨_, rfl, .refl _⟩
theorem ref1_LinesCode_spec (n : Nat) (a0 : List (List UInt8)) (r : Int) (h : ref1_LinesCode n a0 = some r) : PSpec Tryd.prog 23 [.list 1 (List.map cS a0)] (.int .i64 r) := by
 unfold ref1_LinesCode at h
 refine spec_of Tryd.c_ref1_LinesCode (by simp) ?_
 unfold Tryd.l_ref1_LinesCode
 refine Ev.seq ?_
 refine W.reg hm ?_
 refine W.mv rfl (W.nil ?_)
 refine Ev.seq ?_
 refine W.reg hm ?_
 refine W.mv rfl ?_
 obtain ⟨r1, k1, h⟩ := obind h
 refine W.call (ref1_LinesFault_spec n a0 r1 k1) rfl rfl (Les.refl _) rfl (.inl rfl) rfl ?_
 refine W.field rfl rfl (W.mv rfl ?_)
 refine W.nil ?_
 refine Ev.ret ?_
 injection h with h; subst h
 exact ⟨_, rfl, .refl _⟩
set_option maxHeartbeats 4000000 in
theorem ref2_pathByte_spec (n : Nat) (a0 : Int) (r : Bool) (h : ref2_pathByte n a0 = some r) : PSpec Tryd.prog 113 [.int .u8 a0] (.bool r) := by
 unfold ref2_pathByte at h
 refine spec_of Tryd.c_ref2_pathByte (by simp) ?_
 unfold Tryd.l_ref2_pathByte
 refine Ev.seq ?_
 refine W.reg hm ?_
 refine W.mv rfl (W.nil ?_)
 refine Ev.seqJ (γ := Bool) (fun v => ⟨[(2, .bool v)], [], 2⟩) (fun v => ref2_pathByte_j1 n v = some r) ?_ ?_
 ·refine W.reg hm ?_
  refine W.mv rfl (W.geq rfl rfl ?_)
  refine W.mv rfl ?_
  refine W.split 5 rfl (fun c1 => ?_) (fun c1 => ?_)
  ·replace h := iteT h c1
   refine W.guardT rfl c1 ?_
   refine W.mv rfl ?_
   refine W.guardT rfl c1 ?_
   refine W.leq rfl rfl ?_
   refine W.pickT rfl rfl rfl c1 ?_
   refine W.mv rfl ?_
   refine W.split 9 rfl (fun c2 => ?_) (fun c2 => ?_)
   ·replace h := iteT h c2
    refine W.guardF2 rfl c2 ?_
    refine W.guardF2 rfl c2 ?_
    refine W.guardF2 rfl c2 ?_
    refine W.guardU rfl (W.guardU rfl ?_)
    refine W.guardF2 rfl c2 ?_
    refine W.pickT rfl rfl rfl c2 ?_
    refine W.mv rfl (W.guardF2 rfl rfl ?_)
    refine W.guardF2 rfl rfl (W.guardF2 rfl rfl ?_)
    refine W.guardU rfl (W.guardU rfl ?_)
    refine W.guardF2 rfl rfl (W.pickT rfl rfl rfl rfl ?_)
    refine W.mv rfl (W.guardF2 rfl rfl ?_)
    refine W.guardF2 rfl rfl (W.pickT rfl rfl rfl rfl ?_)
    refine W.mv rfl (W.guardF2 rfl rfl ?_)
    refine W.guardF2 rfl rfl (W.pickT rfl rfl rfl rfl ?_)
    refine W.mv rfl (W.guardF2 rfl rfl ?_)
    refine W.guardF2 rfl rfl (W.pickT rfl rfl rfl rfl ?_)
    refine W.mv rfl (W.nil ?_)
    exact ⟨true, h, Wk.nrmTo [2] [] rfl rfl⟩
   ·replace h := iteF h c2
    refine W.guardT rfl c2 ?_
    refine W.mv rfl ?_
    refine W.guardT rfl c2 ?_
    refine W.geq rfl rfl ?_
    refine W.guardT rfl c2 ?_
    refine W.mv rfl ?_
    refine W.split 12 rfl (fun c3 => ?_) (fun c3 => ?_)
    ·replace h := iteT h c3
     refine W.guardT rfl c3 ?_
     refine W.mv rfl ?_
     refine W.guardT rfl c3 ?_
     refine W.leq rfl rfl ?_
     refine W.guardT rfl c2 ?_
     refine W.pickT rfl rfl rfl c3 ?_
     refine W.pickN rfl rfl rfl c2 ?_
     refine W.mv rfl ?_
     refine W.split 17 rfl (fun c4 => ?_) (fun c4 => ?_)
     ·replace h := iteT h c4
      refine W.guardF2 rfl c4 ?_
      refine W.guardF2 rfl c4 ?_
      refine W.guardF2 rfl c4 ?_
      refine W.guardU rfl (W.guardU rfl ?_)
      refine W.guardF2 rfl c4 ?_
      refine W.pickT rfl rfl rfl c4 ?_
      refine W.mv rfl (W.guardF2 rfl rfl ?_)
      refine W.guardF2 rfl rfl (W.pickT rfl rfl rfl rfl ?_)
      refine W.mv rfl (W.guardF2 rfl rfl ?_)
      refine W.guardF2 rfl rfl (W.pickT rfl rfl rfl rfl ?_)
      refine W.mv rfl (W.guardF2 rfl rfl ?_)
      refine W.guardF2 rfl rfl (W.pickT rfl rfl rfl rfl ?_)
      refine W.mv rfl (W.nil ?_)
      exact ⟨true, h, Wk.nrmTo [2] [] rfl rfl⟩
     ·replace h := iteF h c4
      refine W.guardT rfl c4 ?_
      refine W.mv rfl ?_
      refine W.guardT rfl c4 ?_
      refine W.geq rfl rfl ?_
      refine W.guardT rfl c4 ?_
      refine W.mv rfl ?_
      refine W.split 20 rfl (fun c5 => ?_) (fun c5 => ?_)
      ·replace h := iteT h c5
       refine W.guardT rfl c5 ?_
       refine W.mv rfl ?_
       refine W.guardT rfl c5 ?_
       refine W.leq rfl rfl ?_
       refine W.guardT rfl c4 ?_
       refine W.pickT rfl rfl rfl c5 ?_
       refine W.pickN rfl rfl rfl c4 ?_
       refine W.mv rfl ?_
       refine W.split 25 rfl (fun c6 => ?_) (fun c6 => ?_)
       ·replace h := iteT h c6
        refine W.guardF2 rfl c6 ?_
        refine W.guardF2 rfl c6 ?_
        refine W.pickT rfl rfl rfl c6 ?_
        refine W.mv rfl (W.guardF2 rfl rfl ?_)
        refine W.guardF2 rfl rfl (W.pickT rfl rfl rfl rfl ?_)
        refine W.mv rfl (W.guardF2 rfl rfl ?_)
        refine W.guardF2 rfl rfl (W.pickT rfl rfl rfl rfl ?_)
        refine W.mv rfl (W.nil ?_)
        exact ⟨true, h, Wk.nrmTo [2] [] rfl rfl⟩
       ·replace h := iteF h c6
        refine W.guardT rfl c6 ?_
        refine W.mv rfl ?_
        refine W.guardT rfl c6 ?_
        refine W.eql rfl rfl ?_
        refine W.pickN rfl rfl rfl c6 ?_
        refine W.mv rfl ?_
        refine W.split 29 rfl (fun c7 => ?_) (fun c7 => ?_)
        ·replace h := iteT h c7
         refine W.guardF2 rfl c7 ?_
         refine W.guardF2 rfl c7 ?_
         refine W.pickT rfl rfl rfl c7 ?_
         refine W.mv rfl (W.guardF2 rfl rfl ?_)
         refine W.guardF2 rfl rfl (W.pickT rfl rfl rfl rfl ?_)
         refine W.mv rfl (W.nil ?_)
         exact ⟨true, h, Wk.nrmTo [2] [] rfl rfl⟩
        ·replace h := iteF h c7
         refine W.guardT rfl c7 ?_
         refine W.mv rfl ?_
         refine W.guardT rfl c7 ?_
         refine W.eql rfl rfl ?_
         refine W.pickN rfl rfl rfl c7 ?_
         refine W.mv rfl ?_
         refine W.split 33 rfl (fun c8 => ?_) (fun c8 => ?_)
         ·replace h := iteT h c8
          refine W.guardF2 rfl c8 ?_
          refine W.guardF2 rfl c8 ?_
          refine W.pickT rfl rfl rfl c8 ?_
          refine W.mv rfl (W.nil ?_)
          exact ⟨true, h, Wk.nrmTo [2] [] rfl rfl⟩
         ·replace h := iteF h c8
          refine W.guardT rfl c8 ?_
          refine W.mv rfl ?_
          refine W.guardT rfl c8 ?_
          refine W.eql rfl rfl ?_
          refine W.pickN rfl rfl rfl c8 ?_
          refine W.mv rfl (W.nil ?_)
          exact ⟨(decide (a0 = 45)), h, Wk.nrmTo [2] [] rfl rfl⟩
      ·replace h := iteF h c5
       refine W.guardF1 rfl c5 ?_
       refine W.guardF1 rfl c5 ?_
       refine W.guardT rfl c4 ?_
       refine W.pickN rfl rfl rfl c5 ?_
       refine W.pickN rfl rfl rfl c4 ?_
       refine W.mv rfl (W.guardT rfl rfl ?_)
       refine W.mv rfl (W.guardT rfl rfl ?_)
       refine W.eql rfl rfl (W.pickN rfl rfl rfl rfl ?_)
       refine W.mv rfl ?_
       refine W.split 29 rfl (fun c9 => ?_) (fun c9 => ?_)
       ·replace h := iteT h c9
        refine W.guardF2 rfl c9 ?_
        refine W.guardF2 rfl c9 ?_
        refine W.pickT rfl rfl rfl c9 ?_
        refine W.mv rfl (W.guardF2 rfl rfl ?_)
        refine W.guardF2 rfl rfl (W.pickT rfl rfl rfl rfl ?_)
        refine W.mv rfl (W.nil ?_)
        exact ⟨true, h, Wk.nrmTo [2] [] rfl rfl⟩
       ·replace h := iteF h c9
        refine W.guardT rfl c9 ?_
        refine W.mv rfl ?_
        refine W.guardT rfl c9 ?_
        refine W.eql rfl rfl ?_
        refine W.pickN rfl rfl rfl c9 ?_
        refine W.mv rfl ?_
        refine W.split 33 rfl (fun c10 => ?_) (fun c10 => ?_)
        ·replace h := iteT h c10
         refine W.guardF2 rfl c10 ?_
         refine W.guardF2 rfl c10 ?_
         refine W.pickT rfl rfl rfl c10 ?_
         refine W.mv rfl (W.nil ?_)
         exact ⟨true, h, Wk.nrmTo [2] [] rfl rfl⟩
        ·replace h := iteF h c10
         refine W.guardT rfl c10 ?_
         refine W.mv rfl ?_
         refine W.guardT rfl c10 ?_
         refine W.eql rfl rfl ?_
         refine W.pickN rfl rfl rfl c10 ?_
         refine W.mv rfl (W.nil ?_)
         exact ⟨(decide (a0 = 45)), h, Wk.nrmTo [2] [] rfl rfl⟩
    ·replace h := iteF h c3
     refine W.guardF1 rfl c3 ?_
     refine W.guardF1 rfl c3 ?_
     refine W.guardT rfl c2 ?_
     refine W.pickN rfl rfl rfl c3 ?_
     refine W.pickN rfl rfl rfl c2 ?_
     refine W.mv rfl (W.guardT rfl rfl ?_)
     refine W.mv rfl (W.guardT rfl rfl ?_)
     refine W.geq rfl rfl (W.guardT rfl rfl ?_)
     refine W.mv rfl ?_
     refine W.split 20 rfl (fun c11 => ?_) (fun c11 => ?_)
     ·replace h := iteT h c11
      refine W.guardT rfl c11 ?_
      refine W.mv rfl ?_
      refine W.guardT rfl c11 ?_
      refine W.leq rfl rfl (W.guardT rfl rfl ?_)
      refine W.pickT rfl rfl rfl c11 ?_
      refine W.pickN rfl rfl rfl rfl (W.mv rfl ?_)
      refine W.split 25 rfl (fun c12 => ?_) (fun c12 => ?_)
      ·replace h := iteT h c12
       refine W.guardF2 rfl c12 ?_
       refine W.guardF2 rfl c12 ?_
       refine W.pickT rfl rfl rfl c12 ?_
       refine W.mv rfl (W.guardF2 rfl rfl ?_)
       refine W.guardF2 rfl rfl (W.pickT rfl rfl rfl rfl ?_)
       refine W.mv rfl (W.guardF2 rfl rfl ?_)
       refine W.guardF2 rfl rfl (W.pickT rfl rfl rfl rfl ?_)
       refine W.mv rfl (W.nil ?_)
       exact ⟨true, h, Wk.nrmTo [2] [] rfl rfl⟩
      ·replace h := iteF h c12
       refine W.guardT rfl c12 ?_
       refine W.mv rfl ?_
       refine W.guardT rfl c12 ?_
       refine W.eql rfl rfl ?_
       refine W.pickN rfl rfl rfl c12 ?_
       refine W.mv rfl ?_
       refine W.split 29 rfl (fun c13 => ?_) (fun c13 => ?_)
       ·replace h := iteT h c13
        refine W.guardF2 rfl c13 ?_
        refine W.guardF2 rfl c13 ?_
        refine W.pickT rfl rfl rfl c13 ?_
        refine W.mv rfl (W.guardF2 rfl rfl ?_)
        refine W.guardF2 rfl rfl (W.pickT rfl rfl rfl rfl ?_)
        refine W.mv rfl (W.nil ?_)
        exact ⟨true, h, Wk.nrmTo [2] [] rfl rfl⟩
       ·replace h := iteF h c13
        refine W.guardT rfl c13 ?_
        refine W.mv rfl ?_
        refine W.guardT rfl c13 ?_
        refine W.eql rfl rfl ?_
        refine W.pickN rfl rfl rfl c13 ?_
        refine W.mv rfl ?_
        refine W.split 33 rfl (fun c14 => ?_) (fun c14 => ?_)
        ·replace h := iteT h c14
         refine W.guardF2 rfl c14 ?_
         refine W.guardF2 rfl c14 ?_
         refine W.pickT rfl rfl rfl c14 ?_
         refine W.mv rfl (W.nil ?_)
         exact ⟨true, h, Wk.nrmTo [2] [] rfl rfl⟩
        ·replace h := iteF h c14
         refine W.guardT rfl c14 ?_
         refine W.mv rfl ?_
         refine W.guardT rfl c14 ?_
         refine W.eql rfl rfl ?_
         refine W.pickN rfl rfl rfl c14 ?_
         refine W.mv rfl (W.nil ?_)
         exact ⟨(decide (a0 = 45)), h, Wk.nrmTo [2] [] rfl rfl⟩
     ·replace h := iteF h c11
      refine W.guardF1 rfl c11 ?_
      refine W.guardF1 rfl c11 ?_
      refine W.guardT rfl rfl ?_
      refine W.pickN rfl rfl rfl c11 ?_
      refine W.pickN rfl rfl rfl rfl (W.mv rfl ?_)
      refine W.guardT rfl rfl (W.mv rfl ?_)
      refine W.guardT rfl rfl (W.eql rfl rfl ?_)
      refine W.pickN rfl rfl rfl rfl (W.mv rfl ?_)
      refine W.split 29 rfl (fun c15 => ?_) (fun c15 => ?_)
      ·replace h := iteT h c15
       refine W.guardF2 rfl c15 ?_
       refine W.guardF2 rfl c15 ?_
       refine W.pickT rfl rfl rfl c15 ?_
       refine W.mv rfl (W.guardF2 rfl rfl ?_)
       refine W.guardF2 rfl rfl (W.pickT rfl rfl rfl rfl ?_)
       refine W.mv rfl (W.nil ?_)
       exact ⟨true, h, Wk.nrmTo [2] [] rfl rfl⟩
      ·replace h := iteF h c15
       refine W.guardT rfl c15 ?_
       refine W.mv rfl ?_
       refine W.guardT rfl c15 ?_
       refine W.eql rfl rfl ?_
       refine W.pickN rfl rfl rfl c15 ?_
       refine W.mv rfl ?_
       refine W.split 33 rfl (fun c16 => ?_) (fun c16 => ?_)
       ·replace h := iteT h c16
        refine W.guardF2 rfl c16 ?_
        refine W.guardF2 rfl c16 ?_
        refine W.pickT rfl rfl rfl c16 ?_
        refine W.mv rfl (W.nil ?_)
        exact ⟨true, h, Wk.nrmTo [2] [] rfl rfl⟩
       ·replace h := iteF h c16
        refine W.guardT rfl c16 ?_
        refine W.mv rfl ?_
        refine W.guardT rfl c16 ?_
        refine W.eql rfl rfl ?_
        refine W.pickN rfl rfl rfl c16 ?_
        refine W.mv rfl (W.nil ?_)
        exact ⟨(decide (a0 = 45)), h, Wk.nrmTo [2] [] rfl rfl⟩
  ·replace h := iteF h c1
   refine W.guardF1 rfl c1 ?_
   refine W.guardF1 rfl c1 ?_
   refine W.pickN rfl rfl rfl c1 ?_
   refine W.mv rfl (W.guardT rfl rfl ?_)
   refine W.mv rfl (W.guardT rfl rfl ?_)
   refine W.geq rfl rfl (W.guardT rfl rfl ?_)
   refine W.mv rfl ?_
   refine W.split 12 rfl (fun c17 => ?_) (fun c17 => ?_)
   ·replace h := iteT h c17
    refine W.guardT rfl c17 ?_
    refine W.mv rfl ?_
    refine W.guardT rfl c17 ?_
    refine W.leq rfl rfl (W.guardT rfl rfl ?_)
    refine W.pickT rfl rfl rfl c17 ?_
    refine W.pickN rfl rfl rfl rfl (W.mv rfl ?_)
    refine W.split 17 rfl (fun c18 => ?_) (fun c18 => ?_)
    ·replace h := iteT h c18
     refine W.guardF2 rfl c18 ?_
     refine W.guardF2 rfl c18 ?_
     refine W.guardF2 rfl c18 ?_
     refine W.guardU rfl (W.guardU rfl ?_)
     refine W.guardF2 rfl c18 ?_
     refine W.pickT rfl rfl rfl c18 ?_
     refine W.mv rfl (W.guardF2 rfl rfl ?_)
     refine W.guardF2 rfl rfl (W.pickT rfl rfl rfl rfl ?_)
     refine W.mv rfl (W.guardF2 rfl rfl ?_)
     refine W.guardF2 rfl rfl (W.pickT rfl rfl rfl rfl ?_)
     refine W.mv rfl (W.guardF2 rfl rfl ?_)
     refine W.guardF2 rfl rfl (W.pickT rfl rfl rfl rfl ?_)
     refine W.mv rfl (W.nil ?_)
     exact ⟨true, h, Wk.nrmTo [2] [] rfl rfl⟩
    ·replace h := iteF h c18
     refine W.guardT rfl c18 ?_
     refine W.mv rfl ?_
     refine W.guardT rfl c18 ?_
     refine W.geq rfl rfl ?_
     refine W.guardT rfl c18 ?_
     refine W.mv rfl ?_
     refine W.split 20 rfl (fun c19 => ?_) (fun c19 => ?_)
     ·replace h := iteT h c19
      refine W.guardT rfl c19 ?_
      refine W.mv rfl ?_
      refine W.guardT rfl c19 ?_
      refine W.leq rfl rfl ?_
      refine W.guardT rfl c18 ?_
      refine W.pickT rfl rfl rfl c19 ?_
      refine W.pickN rfl rfl rfl c18 ?_
      refine W.mv rfl ?_
      refine W.split 25 rfl (fun c20 => ?_) (fun c20 => ?_)
      ·replace h := iteT h c20
       refine W.guardF2 rfl c20 ?_
       refine W.guardF2 rfl c20 ?_
       refine W.pickT rfl rfl rfl c20 ?_
       refine W.mv rfl (W.guardF2 rfl rfl ?_)
       refine W.guardF2 rfl rfl (W.pickT rfl rfl rfl rfl ?_)
       refine W.mv rfl (W.guardF2 rfl rfl ?_)
       refine W.guardF2 rfl rfl (W.pickT rfl rfl rfl rfl ?_)
       refine W.mv rfl (W.nil ?_)
       exact ⟨true, h, Wk.nrmTo [2] [] rfl rfl⟩
      ·replace h := iteF h c20
       refine W.guardT rfl c20 ?_
       refine W.mv rfl ?_
       refine W.guardT rfl c20 ?_
       refine W.eql rfl rfl ?_
       refine W.pickN rfl rfl rfl c20 ?_
       refine W.mv rfl ?_
       refine W.split 29 rfl (fun c21 => ?_) (fun c21 => ?_)
       ·replace h := iteT h c21
        refine W.guardF2 rfl c21 ?_
        refine W.guardF2 rfl c21 ?_
        refine W.pickT rfl rfl rfl c21 ?_
        refine W.mv rfl (W.guardF2 rfl rfl ?_)
        refine W.guardF2 rfl rfl (W.pickT rfl rfl rfl rfl ?_)
        refine W.mv rfl (W.nil ?_)
        exact ⟨true, h, Wk.nrmTo [2] [] rfl rfl⟩
       ·replace h := iteF h c21
        refine W.guardT rfl c21 ?_
        refine W.mv rfl ?_
        refine W.guardT rfl c21 ?_
        refine W.eql rfl rfl ?_
        refine W.pickN rfl rfl rfl c21 ?_
        refine W.mv rfl ?_
        refine W.split 33 rfl (fun c22 => ?_) (fun c22 => ?_)
        ·replace h := iteT h c22
         refine W.guardF2 rfl c22 ?_
         refine W.guardF2 rfl c22 ?_
         refine W.pickT rfl rfl rfl c22 ?_
         refine W.mv rfl (W.nil ?_)
         exact ⟨true, h, Wk.nrmTo [2] [] rfl rfl⟩
        ·replace h := iteF h c22
         refine W.guardT rfl c22 ?_
         refine W.mv rfl ?_
         refine W.guardT rfl c22 ?_
         refine W.eql rfl rfl ?_
         refine W.pickN rfl rfl rfl c22 ?_
         refine W.mv rfl (W.nil ?_)
         exact ⟨(decide (a0 = 45)), h, Wk.nrmTo [2] [] rfl rfl⟩
     ·replace h := iteF h c19
      refine W.guardF1 rfl c19 ?_
      refine W.guardF1 rfl c19 ?_
      refine W.guardT rfl c18 ?_
      refine W.pickN rfl rfl rfl c19 ?_
      refine W.pickN rfl rfl rfl c18 ?_
      refine W.mv rfl (W.guardT rfl rfl ?_)
      refine W.mv rfl (W.guardT rfl rfl ?_)
      refine W.eql rfl rfl (W.pickN rfl rfl rfl rfl ?_)
      refine W.mv rfl ?_
      refine W.split 29 rfl (fun c23 => ?_) (fun c23 => ?_)
      ·replace h := iteT h c23
       refine W.guardF2 rfl c23 ?_
       refine W.guardF2 rfl c23 ?_
       refine W.pickT rfl rfl rfl c23 ?_
       refine W.mv rfl (W.guardF2 rfl rfl ?_)
       refine W.guardF2 rfl rfl (W.pickT rfl rfl rfl rfl ?_)
       refine W.mv rfl (W.nil ?_)
       exact ⟨true, h, Wk.nrmTo [2] [] rfl rfl⟩
      ·replace h := iteF h c23
       refine W.guardT rfl c23 ?_
       refine W.mv rfl ?_
       refine W.guardT rfl c23 ?_
       refine W.eql rfl rfl ?_
       refine W.pickN rfl rfl rfl c23 ?_
       refine W.mv rfl ?_
       refine W.split 33 rfl (fun c24 => ?_) (fun c24 => ?_)
       ·replace h := iteT h c24
        refine W.guardF2 rfl c24 ?_
        refine W.guardF2 rfl c24 ?_
        refine W.pickT rfl rfl rfl c24 ?_
        refine W.mv rfl (W.nil ?_)
        exact ⟨true, h, Wk.nrmTo [2] [] rfl rfl⟩
       ·replace h := iteF h c24
        refine W.guardT rfl c24 ?_
        refine W.mv rfl ?_
        refine W.guardT rfl c24 ?_
        refine W.eql rfl rfl ?_
        refine W.pickN rfl rfl rfl c24 ?_
        refine W.mv rfl (W.nil ?_)
        exact ⟨(decide (a0 = 45)), h, Wk.nrmTo [2] [] rfl rfl⟩
   ·replace h := iteF h c17
    refine W.guardF1 rfl c17 ?_
    refine W.guardF1 rfl c17 ?_
    refine W.guardT rfl rfl ?_
    refine W.pickN rfl rfl rfl c17 ?_
    refine W.pickN rfl rfl rfl rfl (W.mv rfl ?_)
    refine W.guardT rfl rfl (W.mv rfl ?_)
    refine W.guardT rfl rfl (W.geq rfl rfl ?_)
    refine W.guardT rfl rfl (W.mv rfl ?_)
    refine W.split 20 rfl (fun c25 => ?_) (fun c25 => ?_)
    ·replace h := iteT h c25
     refine W.guardT rfl c25 ?_
     refine W.mv rfl ?_
     refine W.guardT rfl c25 ?_
     refine W.leq rfl rfl (W.guardT rfl rfl ?_)
     refine W.pickT rfl rfl rfl c25 ?_
     refine W.pickN rfl rfl rfl rfl (W.mv rfl ?_)
     refine W.split 25 rfl (fun c26 => ?_) (fun c26 => ?_)
     ·replace h := iteT h c26
      refine W.guardF2 rfl c26 ?_
      refine W.guardF2 rfl c26 ?_
      refine W.pickT rfl rfl rfl c26 ?_
      refine W.mv rfl (W.guardF2 rfl rfl ?_)
      refine W.guardF2 rfl rfl (W.pickT rfl rfl rfl rfl ?_)
      refine W.mv rfl (W.guardF2 rfl rfl ?_)
      refine W.guardF2 rfl rfl (W.pickT rfl rfl rfl rfl ?_)
      refine W.mv rfl (W.nil ?_)
      exact ⟨true, h, Wk.nrmTo [2] [] rfl rfl⟩
     ·replace h := iteF h c26
      refine W.guardT rfl c26 ?_
      refine W.mv rfl ?_
      refine W.guardT rfl c26 ?_
      refine W.eql rfl rfl ?_
      refine W.pickN rfl rfl rfl c26 ?_
      refine W.mv rfl ?_
      refine W.split 29 rfl (fun c27 => ?_) (fun c27 => ?_)
      ·replace h := iteT h c27
       refine W.guardF2 rfl c27 ?_
       refine W.guardF2 rfl c27 ?_
       refine W.pickT rfl rfl rfl c27 ?_
       refine W.mv rfl (W.guardF2 rfl rfl ?_)
       refine W.guardF2 rfl rfl (W.pickT rfl rfl rfl rfl ?_)
       refine W.mv rfl (W.nil ?_)
       exact ⟨true, h, Wk.nrmTo [2] [] rfl rfl⟩
      ·replace h := iteF h c27
       refine W.guardT rfl c27 ?_
       refine W.mv rfl ?_
       refine W.guardT rfl c27 ?_
       refine W.eql rfl rfl ?_
       refine W.pickN rfl rfl rfl c27 ?_
       refine W.mv rfl ?_
       refine W.split 33 rfl (fun c28 => ?_) (fun c28 => ?_)
       ·replace h := iteT h c28
        refine W.guardF2 rfl c28 ?_
        refine W.guardF2 rfl c28 ?_
        refine W.pickT rfl rfl rfl c28 ?_
        refine W.mv rfl (W.nil ?_)
        exact ⟨true, h, Wk.nrmTo [2] [] rfl rfl⟩
       ·replace h := iteF h c28
        refine W.guardT rfl c28 ?_
        refine W.mv rfl ?_
        refine W.guardT rfl c28 ?_
        refine W.eql rfl rfl ?_
        refine W.pickN rfl rfl rfl c28 ?_
        refine W.mv rfl (W.nil ?_)
        exact ⟨(decide (a0 = 45)), h, Wk.nrmTo [2] [] rfl rfl⟩
    ·replace h := iteF h c25
     refine W.guardF1 rfl c25 ?_
     refine W.guardF1 rfl c25 ?_
     refine W.guardT rfl rfl ?_
     refine W.pickN rfl rfl rfl c25 ?_
     refine W.pickN rfl rfl rfl rfl (W.mv rfl ?_)
     refine W.guardT rfl rfl (W.mv rfl ?_)
     refine W.guardT rfl rfl (W.eql rfl rfl ?_)
     refine W.pickN rfl rfl rfl rfl (W.mv rfl ?_)
     refine W.split 29 rfl (fun c29 => ?_) (fun c29 => ?_)
     ·replace h := iteT h c29
      refine W.guardF2 rfl c29 ?_
      refine W.guardF2 rfl c29 ?_
      refine W.pickT rfl rfl rfl c29 ?_
      refine W.mv rfl (W.guardF2 rfl rfl ?_)
      refine W.guardF2 rfl rfl (W.pickT rfl rfl rfl rfl ?_)
      refine W.mv rfl (W.nil ?_)
      exact ⟨true, h, Wk.nrmTo [2] [] rfl rfl⟩
     ·replace h := iteF h c29
      refine W.guardT rfl c29 ?_
      refine W.mv rfl ?_
      refine W.guardT rfl c29 ?_
      refine W.eql rfl rfl ?_
      refine W.pickN rfl rfl rfl c29 ?_
      refine W.mv rfl ?_
      refine W.split 33 rfl (fun c30 => ?_) (fun c30 => ?_)
      ·replace h := iteT h c30
       refine W.guardF2 rfl c30 ?_
       refine W.guardF2 rfl c30 ?_
       refine W.pickT rfl rfl rfl c30 ?_
       refine W.mv rfl (W.nil ?_)
       exact ⟨true, h, Wk.nrmTo [2] [] rfl rfl⟩
      ·replace h := iteF h c30
       refine W.guardT rfl c30 ?_
       refine W.mv rfl ?_
       refine W.guardT rfl c30 ?_
       refine W.eql rfl rfl ?_
       refine W.pickN rfl rfl rfl c30 ?_
       refine W.mv rfl (W.nil ?_)
       exact ⟨(decide (a0 = 45)), h, Wk.nrmTo [2] [] rfl rfl⟩
 ·intro x1 h
  try dsimp only at h ⊢
  unfold ref2_pathByte_j1 at h
  refine Ev.ret ?_
  injection h with h; subst h
  exact ⟨_, rfl, .refl _⟩
set_option maxHeartbeats 4000000 in
theorem ref2_PathValid_spec (n : Nat) (a0 : List UInt8) (r : Bool) (h : ref2_PathValid n a0 = some r) : PSpec Tryd.prog 82 [.str a0] (.bool r) := by
 unfold ref2_PathValid at h
 refine spec_of Tryd.c_ref2_PathValid (by simp) ?_
 unfold Tryd.l_ref2_PathValid
 refine Ev.seq ?_
 refine W.reg hm ?_
 refine W.mv rfl (W.nil ?_)
 refine Ev.seq (Ev.seq ?_)
 refine W.reg hm ?_
 refine W.mv rfl (W.slen rfl ?_)
 refine W.gtr rfl rfl (W.nil ?_)
 refine Ev.cond rfl (fun c1 => ?_) (fun c1 => ?_)
 ·replace h := iteT h c1
  refine Ev.seq ?_
  refine W.reg hm ?_
  refine W.mv rfl (W.nil ?_)
  refine Ev.ret ?_
  injection h with h; subst h
  exact ⟨_, rfl, .refl _⟩
 ·replace h := iteF h c1
  refine Ev.skip ?_
  refine Ev.seq ?_
  refine W.reg hm ?_
  refine W.mv rfl (W.slen rfl ?_)
  refine W.mv rfl (W.nil ?_)
  refine Ev.seq (Ev.seq ?_)
  refine W.reg hm ?_
  refine W.mv rfl (W.slen rfl ?_)
  obtain ⟨x1, k2, h⟩ := obind h
  refine W.subG rfl rfl k2 ?_
  refine W.mv rfl (W.nil ?_)
  refine Ev.block ?_
  refine Ev.loopW (β := Nat × Int × Int) (fun v => ⟨[(0, .str a0), (3, .int .i64 v.2.1), (4, .int .i64 v.2.2)], [], 2⟩) (fun v => ref2_PathValid_l1 n a0 v.1 v.2.1 v.2.2 = some r) (fun v => v.1) (n, (a0.length : Int), x1) (Wk.nrmTo [0, 3, 4] [] rfl rfl) h ?_
  intro ⟨m1, x2, x3⟩ h
  try dsimp only at h ⊢
  cases m1 with
  | zero => rw [ref2_PathValid_l1] at h; cases h
  | succ m1 =>
   rw [ref2_PathValid_l1] at h
   refine Ev.seq (Ev.seq ?_)
   refine W.reg hm ?_
   refine W.mv rfl (W.geq rfl rfl ?_)
   refine W.nil ?_
   refine Ev.cond rfl (fun c3 => ?_) (fun c3 => ?_)
   ·replace h := iteT h c3
    refine Ev.skip ?_
    refine Ev.seqJ (γ := Int) (fun v => ⟨[(0, .str a0), (3, .int .i64 v), (4, .int .i64 x3)], [], 2⟩) (fun v => ref2_PathValid_j1 n x3 (ref2_PathValid_l1 n a0 m1) v = some r) ?_ ?_
    ·refine Ev.block ?_
     refine Ev.seq ?_
     refine Ev.seqJ (γ := Bool) (fun v => ⟨[(0, .str a0), (3, .int .i64 x2), (4, .int .i64 x3), (25, .bool v)], [], 2⟩) (fun v => ref2_PathValid_j2 n a0 x2 x3 (ref2_PathValid_l1 n a0 m1) v = some r) ?_ ?_
     ·refine W.reg hm ?_
      refine W.mv rfl (W.geq rfl rfl ?_)
      refine W.mv rfl ?_
      refine W.split 20 rfl (fun c14 => ?_) (fun c14 => ?_)
      ·replace h := iteT h c14
       refine W.guardT rfl c14 ?_
       refine W.mv rfl ?_
       refine W.guardT rfl c14 ?_
       refine W.mv rfl ?_
       refine W.guardT rfl c14 ?_
       obtain ⟨y12, k15, h⟩ := obind h
       refine W.sidxG rfl rfl k15 ?_
       refine W.guardT rfl c14 ?_
       refine W.neq rfl rfl ?_
       refine W.pickT rfl rfl rfl c14 ?_
       refine W.nil ?_
       exact ⟨(decide ((y12.toNat : Int) ≠ 47)), h, Wk.nrmTo [0, 3, 4, 25] [] rfl rfl⟩
      ·replace h := iteF h c14
       refine W.guardF1 rfl c14 ?_
       refine W.guardF1 rfl c14 ?_
       refine W.guardF1 rfl c14 ?_
       refine W.guardF1 rfl c14 ?_
       refine W.pickN rfl rfl rfl c14 ?_
       refine W.nil ?_
       exact ⟨false, h, Wk.nrmTo [0, 3, 4, 25] [] rfl rfl⟩
     ·intro x6 h
      try dsimp only at h ⊢
      unfold ref2_PathValid_j2 at h
      refine Ev.cond rfl (fun c5 => ?_) (fun c5 => ?_)
      ·replace h := iteT h c5
       refine Ev.seq (Ev.seq ?_)
       refine W.reg hm ?_
       refine W.mv rfl (W.mv rfl ?_)
       obtain ⟨y7, k6, h⟩ := obind h
       refine W.sidxG rfl rfl k6 ?_
       obtain ⟨r8, k7, h⟩ := obind h
       refine W.call (ref2_pathByte_spec n (y7.toNat : Int) r8 k7) rfl rfl (Les.refl _) rfl (.inl rfl) rfl ?_
       refine W.not rfl (W.nil ?_)
       refine Ev.cond rfl (fun c8 => ?_) (fun c8 => ?_)
       ·replace h := iteT h c8
        refine Ev.seq ?_
        refine W.reg hm ?_
        refine W.mv rfl (W.nil ?_)
        refine Ev.ret ?_
        injection h with h; subst h
        exact ⟨_, rfl, .refl _⟩
       ·replace h := iteF h c8
        refine Ev.skip ?_
        refine Ev.exit ?_
        exact ⟨x2, h, Wk.nrmTo [0, 3, 4] [] rfl rfl⟩
      ·replace h := iteF h c5
       refine Ev.skip ?_
       refine Ev.seq ?_
       refine W.reg hm ?_
       refine W.mv rfl (W.mv rfl ?_)
       obtain ⟨x9, k9, h⟩ := obind h
       refine W.addG rfl rfl k9 ?_
       refine W.mv rfl ?_
       obtain ⟨s10, k10, h⟩ := obind h
       refine W.ssliceG rfl k10 (ix2 (gcut_some k10).1 (gcut_some k10).2.2.2.1) ?_
       refine W.mv rfl (W.nil ?_)
       refine Ev.seq ?_
       refine Ev.seqJ (γ := Bool) (fun v => ⟨[(0, .str a0), (4, .int .i64 x3), (45, .bool v)], [], 2⟩) (fun v => ref2_PathValid_j3 n x3 (ref2_PathValid_l1 n a0 m1) v = some r) ?_ ?_
       ·refine W.reg hm ?_
        refine W.mv rfl (W.seql rfl rfl ?_)
        refine W.mv rfl ?_
        refine W.split 38 rfl (fun c12 => ?_) (fun c12 => ?_)
        ·replace h := iteT h c12
         refine W.guardF2 rfl c12 ?_
         refine W.guardF2 rfl c12 ?_
         refine W.pickT rfl rfl rfl c12 ?_
         refine W.mv rfl (W.guardF2 rfl rfl ?_)
         refine W.guardF2 rfl rfl (W.pickT rfl rfl rfl rfl ?_)
         refine W.nil ?_
         exact ⟨true, h, Wk.nrmTo [0, 4, 45] [] rfl rfl⟩
        ·replace h := iteF h c12
         refine W.guardT rfl c12 ?_
         refine W.mv rfl ?_
         refine W.guardT rfl c12 ?_
         refine W.seql rfl rfl ?_
         refine W.pickN rfl rfl rfl c12 ?_
         refine W.mv rfl ?_
         refine W.split 42 rfl (fun c13 => ?_) (fun c13 => ?_)
         ·replace h := iteT h c13
          refine W.guardF2 rfl c13 ?_
          refine W.guardF2 rfl c13 ?_
          refine W.pickT rfl rfl rfl c13 ?_
          refine W.nil ?_
          exact ⟨true, h, Wk.nrmTo [0, 4, 45] [] rfl rfl⟩
         ·replace h := iteF h c13
          refine W.guardT rfl c13 ?_
          refine W.mv rfl ?_
          refine W.guardT rfl c13 ?_
          refine W.seql rfl rfl ?_
          refine W.pickN rfl rfl rfl c13 ?_
          refine W.nil ?_
          exact ⟨(decide (s10 = ([46, 46] : List UInt8))), h, Wk.nrmTo [0, 4, 45] [] rfl rfl⟩
       ·intro x11 h
        try dsimp only at h ⊢
        unfold ref2_PathValid_j3 at h
        refine Ev.cond rfl (fun c11 => ?_) (fun c11 => ?_)
        ·replace h := iteT h c11
         refine Ev.seq ?_
         refine W.reg hm ?_
         refine W.mv rfl (W.nil ?_)
         refine Ev.ret ?_
         injection h with h; subst h
         exact ⟨_, rfl, .refl _⟩
        ·replace h := iteF h c11
         refine Ev.skip ?_
         refine W.reg hm ?_
         refine W.mv rfl (W.mv rfl ?_)
         refine W.nil ?_
         exact ⟨x3, h, Wk.nrmTo [0, 3, 4] [] rfl rfl⟩
    ·intro x4 h
     try dsimp only at h ⊢
     unfold ref2_PathValid_j1 at h
     refine W.reg hm ?_
     refine W.mv rfl ?_
     obtain ⟨x5, k4, h⟩ := obind h
     refine W.subG rfl rfl k4 ?_
     refine W.mv rfl (W.nil ?_)
     exact ⟨(m1, x4, x5), h, Nat.lt_succ_self _, Wk.nrmTo [0, 3, 4] [] rfl rfl⟩
   ·replace h := iteF h c3
    refine Ev.exit ?_
    refine Ev.seq ?_
    refine W.reg hm ?_
    refine W.mv rfl (W.nil ?_)
    refine Ev.ret ?_
    injection h with h; subst h
    exact ⟨_, rfl, .refl _⟩
theorem ref2_Related_spec : ∀ (n : Nat) (a0 : List UInt8) (a1 : List UInt8) (r : Bool) (h : ref2_Related n a0 a1 = some r), PSpec Tryd.prog 111 [.str a0, .str a1] (.bool r) := by
 intro n
 induction n with
 | zero => intro a0 a1 r h; rw [ref2_Related] at h; cases h
 | succ n ih =>
 intro a0 a1 r h
 rw [ref2_Related] at h
 refine spec_of Tryd.c_ref2_Related (by simp) ?_
 unfold Tryd.l_ref2_Related
 refine Ev.seq ?_
 refine W.reg hm ?_
 refine W.mv rfl (W.nil ?_)
 refine Ev.seq (Ev.seq ?_)
 refine W.reg hm ?_
 refine W.mv rfl (W.slen rfl ?_)
 refine W.mv rfl (W.slen rfl ?_)
 refine W.gtr rfl rfl (W.nil ?_)
 refine Ev.cond rfl (fun c1 => ?_) (fun c1 => ?_)
 ·replace h := iteT h c1
  refine Ev.seq ?_
  refine W.reg hm ?_
  refine W.mv rfl (W.mv rfl ?_)
  obtain ⟨r1, k2, h⟩ := obind h
  refine W.call (ih a1 a0 r1 k2) rfl rfl (Les.refl _) rfl (.inl rfl) rfl ?_
  refine W.mv rfl (W.nil ?_)
  refine Ev.ret ?_
  injection h with h; subst h
  exact ⟨_, rfl, .refl _⟩
 ·replace h := iteF h c1
  refine Ev.skip ?_
  refine Ev.seqJ (γ := Bool) (fun v => ⟨[(4, .bool v)], [], 2⟩) (fun v => ref2_Related_j1 n v = some r) ?_ ?_
  ·refine W.reg hm ?_
   refine W.mv rfl (W.mv rfl ?_)
   refine W.slen rfl ?_
   obtain ⟨s3, k3, h⟩ := obind h
   refine W.ssliceG rfl k3 (ix1 (gcut_some k3).2.2.2.1) ?_
   refine W.mv rfl (W.seql rfl rfl ?_)
   refine W.mv rfl ?_
   refine W.split 19 rfl (fun c4 => ?_) (fun c4 => ?_)
   ·replace h := iteT h c4
    refine W.guardT rfl c4 ?_
    refine W.mv rfl ?_
    refine W.guardT rfl c4 ?_
    refine W.slen rfl ?_
    refine W.guardT rfl c4 ?_
    refine W.mv rfl ?_
    refine W.guardT rfl c4 ?_
    refine W.slen rfl ?_
    refine W.guardT rfl c4 ?_
    refine W.eql rfl rfl ?_
    refine W.guardT rfl c4 ?_
    refine W.mv rfl ?_
    refine W.split 25 rfl (fun c5 => ?_) (fun c5 => ?_)
    ·replace h := iteT h c5
     refine W.guardF2 rfl c5 ?_
     refine W.guardF2 rfl c5 ?_
     refine W.guardF2 rfl c5 ?_
     refine W.guardF2 rfl c5 ?_
     refine W.guardF2 rfl c5 ?_
     refine W.guardT rfl c4 ?_
     refine W.pickT rfl rfl rfl c5 ?_
     refine W.pickT rfl rfl rfl c4 ?_
     refine W.mv rfl (W.nil ?_)
     exact ⟨true, h, Wk.nrmTo [4] [] rfl rfl⟩
    ·replace h := iteF h c5
     refine W.guardT rfl c5 ?_
     refine W.mv rfl ?_
     refine W.guardT rfl c5 ?_
     refine W.mv rfl ?_
     refine W.guardT rfl c5 ?_
     refine W.slen rfl ?_
     refine W.guardT rfl c5 ?_
     obtain ⟨y4, k6, h⟩ := obind h
     refine W.sidxG rfl rfl k6 ?_
     refine W.guardT rfl c5 ?_
     refine W.eql rfl rfl ?_
     refine W.guardT rfl c4 ?_
     refine W.pickN rfl rfl rfl c5 ?_
     refine W.pickT rfl rfl rfl c4 ?_
     refine W.mv rfl (W.nil ?_)
     exact ⟨(decide ((y4.toNat : Int) = 47)), h, Wk.nrmTo [4] [] rfl rfl⟩
   ·replace h := iteF h c4
    refine W.guardF1 rfl c4 ?_
    refine W.guardF1 rfl c4 ?_
    refine W.guardF1 rfl c4 ?_
    refine W.guardF1 rfl c4 ?_
    refine W.guardF1 rfl c4 ?_
    refine W.guardF1 rfl c4 ?_
    refine W.guardU rfl (W.guardU rfl ?_)
    refine W.guardU rfl (W.guardU rfl ?_)
    refine W.guardU rfl ?_
    refine W.guardF1 rfl c4 ?_
    refine W.pickN rfl rfl rfl c4 ?_
    refine W.mv rfl (W.nil ?_)
    exact ⟨false, h, Wk.nrmTo [4] [] rfl rfl⟩
  ·intro x2 h
   try dsimp only at h ⊢
   unfold ref2_Related_j1 at h
   refine Ev.ret ?_
   injection h with h; subst h
   exact ⟨_, rfl, .refl _⟩
set_option maxHeartbeats 4000000 in
theorem ref2_TreeFault_spec (n : Nat) (a0 : SFiles) (r : SCodeIndex) (h : ref2_TreeFault n a0 = some r) : PSpec Tryd.prog 78 [.agg (SFiles.cells a0)] (.agg (SCodeIndex.cells r)) := by
 unfold ref2_TreeFault at h
 refine spec_of Tryd.c_ref2_TreeFault (by simp) ?_
 unfold Tryd.l_ref2_TreeFault
 refine Ev.seq ?_
 refine W.reg hm ?_
 refine W.box (dt := true) (cs := [.list 2 (List.map SPathLines.cells a0.Files)]) rfl rfl rfl rfl rfl rfl ?_
 refine W.alloc (dt := true) rfl rfl rfl ?_
 refine W.nil ?_
 refine Ev.seq (Ev.seq ?_)
 refine W.reg hm ?_
 refine W.fieldAddrO rfl rfl ?_
 refine W.loadO (p := .list 2 (List.map SPathLines.cells a0.Files)) rfl rfl rfl rfl ?_
 refine W.lenL (c := SPathLines.cells) rfl ?_
 refine W.gtr rfl rfl (W.nil ?_)
 refine Ev.cond rfl (fun c1 => ?_) (fun c1 => ?_)
 ·replace h := iteT h c1
  refine Ev.seq ?_
  refine W.reg hm ?_
  obtain ⟨r1, k2, h⟩ := obind h
  refine W.call (ref1_At_spec n 2 (-1) r1 k2) rfl rfl (Les.refl _) rfl (.inl rfl) rfl ?_
  refine W.store (es' := [[.int .i64 r1.Code, .int .i64 r1.Index]]) (dt := true) rfl rfl rfl rfl rfl (Nat.le_of_ble_eq_true rfl) rfl rfl rfl rfl ?_
  refine W.nil ?_
  refine Ev.ret ?_
  injection h with h; subst h
  exact ⟨_, rfl, .refl _⟩
 ·replace h := iteF h c1
  refine Ev.skip ?_
  refine Ev.seq (Ev.seq ?_)
  refine W.reg hm ?_
  refine W.mv rfl (W.nil ?_)
  refine Ev.block ?_
  refine Ev.loopW (β := Nat × Int) (fun v => ⟨[(1, .pown 10100 0 0 0), (2, .pown 10101 0 0 0), (3, .int .i64 v.2)], [(10100, ⟨0, 46, 1, [[.list 2 (List.map SPathLines.cells a0.Files)]], true, false, false⟩), (10101, ⟨0, 25, 2, [[.int .i64 0, .int .i64 0]], true, false, false⟩)], 2⟩) (fun v => ref2_TreeFault_l1 n a0 v.1 v.2 = some r) (fun v => v.1) (n, 0) (Wk.nrmTo [1, 2, 3] [(1, 10100), (2, 10101)] rfl rfl) h ?_
  intro ⟨m1, x2⟩ h
  try dsimp only at h ⊢
  cases m1 with
  | zero => rw [ref2_TreeFault_l1] at h; cases h
  | succ m1 =>
   rw [ref2_TreeFault_l1] at h
   refine Ev.seq (Ev.seq ?_)
   refine W.reg hm ?_
   refine W.mv rfl (W.fieldAddrO rfl rfl ?_)
   refine W.loadO (p := .list 2 (List.map SPathLines.cells a0.Files)) rfl rfl rfl rfl ?_
   refine W.lenL (c := SPathLines.cells) rfl ?_
   refine W.lss rfl rfl (W.nil ?_)
   refine Ev.cond rfl (fun c3 => ?_) (fun c3 => ?_)
   ·replace h := iteT h c3
    refine Ev.skip ?_
    refine Ev.seq ?_
    refine Ev.block ?_
    refine Ev.seq ?_
    refine W.reg hm ?_
    refine W.fieldAddrO rfl rfl ?_
    refine W.loadO (p := .list 2 (List.map SPathLines.cells a0.Files)) rfl rfl rfl rfl ?_
    refine W.mv rfl ?_
    obtain ⟨e3, k4, h⟩ := obind h
    refine W.idxL (c := SPathLines.cells) rfl rfl k4 ?_
    refine W.load rfl rfl ?_
    refine W.alloc (dt := true) rfl rfl rfl ?_
    refine W.store (es' := [[.str e3.Path, .list 1 (List.map cS e3.Lines)]]) (dt := true) rfl rfl rfl rfl rfl (Nat.le_of_ble_eq_true rfl) rfl rfl rfl rfl ?_
    refine W.nil ?_
    refine Ev.seq (Ev.seq ?_)
    refine W.reg hm ?_
    refine W.fieldAddrO rfl rfl ?_
    refine W.loadO (p := .str e3.Path) rfl rfl rfl rfl ?_
    obtain ⟨r4, k5, h⟩ := obind h
    refine W.call (ref2_PathValid_spec n e3.Path r4 k5) rfl rfl (Les.refl _) rfl (.inl rfl) rfl ?_
    refine W.not rfl (W.nil ?_)
    refine Ev.cond rfl (fun c6 => ?_) (fun c6 => ?_)
    ·replace h := iteT h c6
     refine Ev.seq ?_
     refine W.reg hm ?_
     refine W.mv rfl ?_
     obtain ⟨r5, k7, h⟩ := obind h
     refine W.call (ref1_At_spec n 12 x2 r5 k7) rfl rfl (Les.refl _) rfl (.inl rfl) rfl ?_
     refine W.store (es' := [[.int .i64 r5.Code, .int .i64 r5.Index]]) (dt := true) rfl rfl rfl rfl rfl (Nat.le_of_ble_eq_true rfl) rfl rfl rfl rfl ?_
     refine W.nil ?_
     refine Ev.ret ?_
     injection h with h; subst h
     exact ⟨_, rfl, .refl _⟩
    ·replace h := iteF h c6
     refine Ev.skip ?_
     refine Ev.seq ?_
     refine Ev.seqJ (γ := Bool) (fun v => ⟨[(1, .pown 10200 0 0 0), (2, .pown 10201 0 0 0), (3, .int .i64 x2), (4, .pown 10202 0 0 0), (43, .bool v)], [(10200, ⟨0, 46, 1, [[.list 2 (List.map SPathLines.cells a0.Files)]], true, false, false⟩), (10201, ⟨0, 25, 2, [[.int .i64 0, .int .i64 0]], true, false, false⟩), (10202, ⟨0, 103, 2, [[.str e3.Path, .list 1 (List.map cS e3.Lines)]], true, false, false⟩)], 2⟩) (fun v => ref2_TreeFault_j1 n a0 x2 (ref2_TreeFault_l1 n a0 m1) e3 v = some r) ?_ ?_
     ·refine W.regD hm ?_
      refine W.mv rfl (W.gtr rfl rfl ?_)
      refine W.mv rfl ?_
      refine W.split 32 rfl (fun c20 => ?_) (fun c20 => ?_)
      ·replace h := iteT h c20
       refine W.guardT rfl c20 ?_
       refine W.fieldAddrO rfl rfl ?_
       refine W.guardT rfl c20 ?_
       refine W.loadO (p := .str e3.Path) rfl rfl rfl rfl ?_
       refine W.guardT rfl c20 ?_
       refine W.fieldAddrO rfl rfl ?_
       refine W.guardT rfl c20 ?_
       refine W.loadO (p := .list 2 (List.map SPathLines.cells a0.Files)) rfl rfl rfl rfl ?_
       refine W.guardT rfl c20 ?_
       refine W.mv rfl ?_
       refine W.guardT rfl c20 ?_
       obtain ⟨x16, k21, h⟩ := obind h
       refine W.subG rfl rfl k21 ?_
       refine W.guardT rfl c20 ?_
       obtain ⟨e17, k22, h⟩ := obind h
       refine W.idxL (c := SPathLines.cells) rfl rfl k22 ?_
       refine W.guardT rfl c20 ?_
       refine W.fieldAddr rfl ?_
       refine W.guardT rfl c20 ?_
       refine W.load rfl rfl ?_
       refine W.guardT rfl c20 ?_
       refine W.sleq rfl rfl ?_
       refine W.pickT rfl rfl rfl c20 ?_
       refine W.nil ⟨rfl, ?_⟩
       exact ⟨(Op.bytesLess e3.Path e17.Path || e3.Path == e17.Path), h, Wk.nrmTo [1, 2, 3, 4, 43] [(10100, 10200), (10101, 10201), (4, 10202)] rfl rfl⟩
      ·replace h := iteF h c20
       refine W.guardF1 rfl c20 ?_
       refine W.guardF1 rfl c20 ?_
       refine W.guardF1 rfl c20 ?_
       refine W.guardF1 rfl c20 ?_
       refine W.guardF1 rfl c20 ?_
       refine W.guardF1 rfl c20 ?_
       refine W.guardF1 rfl c20 ?_
       refine W.guardF1 rfl c20 ?_
       refine W.guardF1 rfl c20 ?_
       refine W.guardF1 rfl c20 ?_
       refine W.pickN rfl rfl rfl c20 ?_
       refine W.nil ⟨rfl, ?_⟩
       exact ⟨false, h, Wk.nrmTo [1, 2, 3, 4, 43] [(10100, 10200), (10101, 10201), (4, 10202)] rfl rfl⟩
     ·intro x6 h
      try dsimp only at h ⊢
      unfold ref2_TreeFault_j1 at h
      refine Ev.cond rfl (fun c8 => ?_) (fun c8 => ?_)
      ·replace h := iteT h c8
       refine Ev.seq ?_
       refine W.reg hm ?_
       refine W.mv rfl ?_
       obtain ⟨r7, k9, h⟩ := obind h
       refine W.call (ref1_At_spec n 5 x2 r7 k9) rfl rfl (Les.refl _) rfl (.inl rfl) rfl ?_
       refine W.store (es' := [[.int .i64 r7.Code, .int .i64 r7.Index]]) (dt := true) rfl rfl rfl rfl rfl (Nat.le_of_ble_eq_true rfl) rfl rfl rfl rfl ?_
       refine W.nil ?_
       refine Ev.ret ?_
       injection h with h; subst h
       exact ⟨_, rfl, .refl _⟩
      ·replace h := iteF h c8
       refine Ev.skip ?_
       refine Ev.seq (Ev.seq ?_)
       refine W.reg hm ?_
       refine W.mv rfl (W.nil ?_)
       refine Ev.block ?_
       refine Ev.loopW (β := Nat × Int) (fun v => ⟨[(1, .pown 10300 0 0 0), (2, .pown 10301 0 0 0), (3, .int .i64 x2), (4, .pown 10302 0 0 0), (5, .int .i64 v.2)], [(10300, ⟨0, 46, 1, [[.list 2 (List.map SPathLines.cells a0.Files)]], true, false, false⟩), (10301, ⟨0, 25, 2, [[.int .i64 0, .int .i64 0]], true, false, false⟩), (10302, ⟨0, 103, 2, [[.str e3.Path, .list 1 (List.map cS e3.Lines)]], true, false, false⟩)], 2⟩) (fun v => ref2_TreeFault_l2 n a0 x2 (ref2_TreeFault_l1 n a0 m1) e3 v.1 v.2 = some r) (fun v => v.1) (n, 0) (Wk.nrmTo [1, 2, 3, 4, 5] [(10200, 10300), (10201, 10301), (10202, 10302)] rfl rfl) h ?_
       intro ⟨m2, x8⟩ h
       try dsimp only at h ⊢
       cases m2 with
       | zero => rw [ref2_TreeFault_l2] at h; cases h
       | succ m2 =>
        rw [ref2_TreeFault_l2] at h
        refine Ev.seq (Ev.seq ?_)
        refine W.reg hm ?_
        refine W.mv rfl (W.mv rfl ?_)
        refine W.lss rfl rfl (W.nil ?_)
        refine Ev.cond rfl (fun c10 => ?_) (fun c10 => ?_)
        ·replace h := iteT h c10
         refine Ev.skip ?_
         refine Ev.seq ?_
         refine Ev.block ?_
         refine Ev.seq ?_
         refine W.regD hm ?_
         refine W.fieldAddrO rfl rfl ?_
         refine W.loadO (p := .list 2 (List.map SPathLines.cells a0.Files)) rfl rfl rfl rfl ?_
         refine W.mv rfl ?_
         obtain ⟨e9, k11, h⟩ := obind h
         refine W.idxL (c := SPathLines.cells) rfl rfl k11 ?_
         refine W.fieldAddr rfl (W.load rfl rfl ?_)
         refine W.fieldAddrO rfl rfl ?_
         refine W.loadO (p := .str e3.Path) rfl rfl rfl rfl ?_
         obtain ⟨r10, k12, h⟩ := obind h
         refine W.call (ref2_Related_spec n e9.Path e3.Path r10 k12) rfl rfl (Les.refl _) rfl (.inl rfl) rfl ?_
         refine W.nil ⟨rfl, ?_⟩
         refine Ev.cond rfl (fun c13 => ?_) (fun c13 => ?_)
         ·replace h := iteT h c13
          refine Ev.seq ?_
          refine W.reg hm ?_
          refine W.mv rfl ?_
          obtain ⟨r11, k14, h⟩ := obind h
          refine W.call (ref1_At_spec n 7 x2 r11 k14) rfl rfl (Les.refl _) rfl (.inl rfl) rfl ?_
          refine W.store (es' := [[.int .i64 r11.Code, .int .i64 r11.Index]]) (dt := true) rfl rfl rfl rfl rfl (Nat.le_of_ble_eq_true rfl) rfl rfl rfl rfl ?_
          refine W.nil ?_
          refine Ev.ret ?_
          injection h with h; subst h
          exact ⟨_, rfl, .refl _⟩
         ·replace h := iteF h c13
          refine Ev.skip ?_
          refine W.reg hm ?_
          refine W.mv rfl ?_
          obtain ⟨x12, k15, h⟩ := obind h
          refine W.addG rfl rfl k15 ?_
          refine W.mv rfl (W.nil ?_)
          exact ⟨(m2, x12), h, Nat.lt_succ_self _, Wk.nrmTo [1, 2, 3, 4, 5] [(10300, 10300), (10301, 10301), (10302, 10302)] rfl rfl⟩
        ·replace h := iteF h c10
         refine Ev.exit ?_
         refine Ev.seq ?_
         refine W.reg hm ?_
         refine W.fieldAddrO rfl rfl ?_
         refine W.loadO (p := .list 1 (List.map cS e3.Lines)) rfl rfl rfl rfl ?_
         obtain ⟨r13, k16, h⟩ := obind h
         refine W.call (ref1_LinesCode_spec n e3.Lines r13 k16) rfl rfl (Les.refl _) rfl (.inl rfl) rfl ?_
         refine W.mv rfl (W.nil ?_)
         refine Ev.seq ?_
         refine W.reg hm ?_
         refine W.mv rfl (W.neq rfl rfl ?_)
         refine W.nil ?_
         refine Ev.cond rfl (fun c17 => ?_) (fun c17 => ?_)
         ·replace h := iteT h c17
          refine Ev.seq ?_
          refine W.reg hm ?_
          refine W.mv rfl (W.mv rfl ?_)
          obtain ⟨r14, k18, h⟩ := obind h
          refine W.call (ref1_At_spec n r13 x2 r14 k18) rfl rfl (Les.refl _) rfl (.inl rfl) rfl ?_
          refine W.store (es' := [[.int .i64 r14.Code, .int .i64 r14.Index]]) (dt := true) rfl rfl rfl rfl rfl (Nat.le_of_ble_eq_true rfl) rfl rfl rfl rfl ?_
          refine W.nil ?_
          refine Ev.ret ?_
          injection h with h; subst h
          exact ⟨_, rfl, .refl _⟩
         ·replace h := iteF h c17
          refine Ev.skip ?_
          refine W.reg hm ?_
          refine W.mv rfl ?_
          obtain ⟨x15, k19, h⟩ := obind h
          refine W.addG rfl rfl k19 ?_
          refine W.mv rfl (W.nil ?_)
          exact ⟨(m1, x15), h, Nat.lt_succ_self _, Wk.nrmTo [1, 2, 3] [(10300, 10100), (10301, 10101)] rfl rfl⟩
   ·replace h := iteF h c3
    refine Ev.exit ?_
    refine Ev.seq ?_
    refine W.reg hm ?_
    refine W.build (cs := [.int .i64 0, .int .i64 0]) rfl rfl rfl ?_
    refine W.store (es' := [[.int .i64 0, .int .i64 0]]) (dt := true) rfl rfl rfl rfl rfl (Nat.le_of_ble_eq_true rfl) rfl rfl rfl rfl ?_
    refine W.nil ?_
    refine Ev.ret ?_
    injection h with h; subst h
    exact ⟨_, rfl, .refl _⟩
theorem ref6_TreeAt_spec (n : Nat) (a0 : SFiles) (a1 : Int) (r : SCodeIndex) (h : ref6_TreeAt n a0 a1 = some r) : PSpec Tryd.prog 37 [.agg (SFiles.cells a0), .int .i64 a1] (.agg (SCodeIndex.cells r)) := by
 unfold ref6_TreeAt at h
 refine spec_of Tryd.c_ref6_TreeAt (by simp) ?_
 unfold Tryd.l_ref6_TreeAt
 refine Ev.seq ?_
 refine W.reg hm ?_
 refine W.box (dt := true) (cs := [.list 2 (List.map SPathLines.cells a0.Files)]) rfl rfl rfl rfl rfl rfl ?_
 refine W.alloc (dt := true) rfl rfl rfl ?_
 refine W.nil ?_
 refine Ev.seq ?_
 refine W.reg hm ?_
 refine W.loadO (p := .agg [.list 2 (List.map SPathLines.cells a0.Files)]) rfl rfl rfl rfl ?_
 obtain ⟨r1, k1, h⟩ := obind h
 refine W.call (ref2_TreeFault_spec n a0 r1 k1) rfl rfl (Les.refl _) rfl (.inl rfl) rfl ?_
 refine W.alloc (dt := true) rfl rfl rfl ?_
 refine W.store (es' := [[.int .i64 r1.Code, .int .i64 r1.Index]]) (dt := true) rfl rfl rfl rfl rfl (Nat.le_of_ble_eq_true rfl) rfl rfl rfl rfl ?_
 refine W.nil ?_
 refine Ev.seqJ (γ := Int) (fun v => ⟨[(4, .pown 10100 0 0 0), (5, .pown 10101 0 0 0)], [(10100, ⟨0, 25, 2, [[.int .i64 0, .int .i64 0]], true, false, false⟩), (10101, ⟨0, 25, 2, [[.int .i64 r1.Code, .int .i64 v]], true, false, false⟩)], 2⟩) (fun v => ref6_TreeAt_j1 n r1 v = some r) ?_ ?_
 ·refine Ev.seq ?_
  refine W.reg hm ?_
  refine W.fieldAddrO rfl rfl ?_
  refine W.loadO (p := .int .i64 r1.Code) rfl rfl rfl rfl ?_
  refine W.neq rfl rfl (W.nil ?_)
  refine Ev.cond rfl (fun c2 => ?_) (fun c2 => ?_)
  ·replace h := iteT h c2
   refine W.reg hm ?_
   refine W.mv rfl (W.fieldAddrO rfl rfl ?_)
   refine W.store (es' := [[.int .i64 r1.Code, .int .i64 a1]]) (dt := true) rfl rfl rfl rfl rfl (Nat.le_of_ble_eq_true rfl) rfl rfl rfl rfl ?_
   refine W.nil ?_
   exact ⟨a1, h, Wk.nrmTo [4, 5] [(4, 10100), (5, 10101)] rfl rfl⟩
  ·replace h := iteF h c2
   refine Ev.skip ?_
   exact ⟨r1.Index, h, Wk.nrmTo [4, 5] [(4, 10100), (5, 10101)] rfl rfl⟩
 ·intro b2 h
  try dsimp only at h ⊢
  unfold ref6_TreeAt_j1 at h
  refine Ev.seq ?_
  refine W.reg hm ?_
  refine W.loadO (p := .agg [.int .i64 r1.Code, .int .i64 b2]) rfl rfl rfl rfl ?_
  refine W.store (es' := [[.int .i64 r1.Code, .int .i64 b2]]) (dt := true) rfl rfl rfl rfl rfl (Nat.le_of_ble_eq_true rfl) rfl rfl rfl rfl ?_
  refine W.nil ?_
  refine Ev.ret ?_
  injection h with h; subst h
  exact ⟨_, rfl, .refl _⟩
set_option maxHeartbeats 4000000 in
theorem ref6_opCode_spec (n : Nat) (a0 : SKindText) (r : Int) (h : ref6_opCode n a0 = some r) : PSpec Tryd.prog 96 [.agg (SKindText.cells a0)] (.int .i64 r) := by
 unfold ref6_opCode at h
 refine spec_of Tryd.c_ref6_opCode (by simp) ?_
 unfold Tryd.l_ref6_opCode
 refine Ev.seq ?_
 refine W.reg hm ?_
 refine W.box (dt := true) (cs := [.int .i64 a0.Kind, .str a0.Text]) rfl rfl rfl rfl rfl rfl ?_
 refine W.mv rfl (W.nil ?_)
 refine Ev.seq ?_
 refine Ev.seqJ (γ := Bool) (fun v => ⟨[(1, .pown 10100 0 0 0), (10, .bool v)], [(10100, ⟨0, 106, 2, [[.int .i64 a0.Kind, .str a0.Text]], true, false, false⟩)], 2⟩) (fun v => ref6_opCode_j1 n a0 v = some r) ?_ ?_
 ·refine W.reg hm ?_
  refine W.fieldAddrO rfl rfl ?_
  refine W.loadO (p := .int .i64 a0.Kind) rfl rfl rfl rfl ?_
  refine W.eql rfl rfl (W.mv rfl ?_)
  refine W.split 6 rfl (fun c9 => ?_) (fun c9 => ?_)
  ·replace h := iteT h c9
   refine W.guardF2 rfl c9 ?_
   refine W.guardF2 rfl c9 ?_
   refine W.guardF2 rfl c9 ?_
   refine W.pickT rfl rfl rfl c9 ?_
   refine W.nil ?_
   exact ⟨true, h, Wk.nrmTo [1, 10] [(1, 10100)] rfl rfl⟩
  ·replace h := iteF h c9
   refine W.guardT rfl c9 ?_
   refine W.fieldAddrO rfl rfl ?_
   refine W.guardT rfl c9 ?_
   refine W.loadO (p := .int .i64 a0.Kind) rfl rfl rfl rfl ?_
   refine W.guardT rfl c9 ?_
   refine W.eql rfl rfl ?_
   refine W.pickN rfl rfl rfl c9 ?_
   refine W.nil ?_
   exact ⟨(decide (a0.Kind = 2)), h, Wk.nrmTo [1, 10] [(1, 10100)] rfl rfl⟩
 ·intro x1 h
  try dsimp only at h ⊢
  unfold ref6_opCode_j1 at h
  refine Ev.cond rfl (fun c1 => ?_) (fun c1 => ?_)
  ·replace h := iteT h c1
   refine Ev.seq (Ev.seq ?_)
   refine W.reg hm ?_
   refine W.fieldAddrO rfl rfl ?_
   refine W.loadO (p := .str a0.Text) rfl rfl rfl rfl ?_
   obtain ⟨r2, k2, h⟩ := obind h
   refine W.call (ref2_PathValid_spec n a0.Text r2 k2) rfl rfl (Les.refl _) rfl (.inl rfl) rfl ?_
   refine W.not rfl (W.nil ?_)
   refine Ev.cond rfl (fun c3 => ?_) (fun c3 => ?_)
   ·replace h := iteT h c3
    refine Ev.seq ?_
    refine W.reg hm ?_
    refine W.mv rfl (W.nil ?_)
    refine Ev.ret ?_
    injection h with h; subst h
    exact ⟨_, rfl, .refl _⟩
   ·replace h := iteF h c3
    refine Ev.skip ?_
    refine Ev.seq ?_
    refine W.reg hm ?_
    refine W.mv rfl (W.nil ?_)
    refine Ev.ret ?_
    injection h with h; subst h
    exact ⟨_, rfl, .refl _⟩
  ·replace h := iteF h c1
   refine Ev.skip ?_
   refine Ev.seq (Ev.seq ?_)
   refine W.reg hm ?_
   refine W.fieldAddrO rfl rfl ?_
   refine W.loadO (p := .int .i64 a0.Kind) rfl rfl rfl rfl ?_
   refine W.eql rfl rfl (W.nil ?_)
   refine Ev.cond rfl (fun c4 => ?_) (fun c4 => ?_)
   ·replace h := iteT h c4
    refine Ev.seq ?_
    refine W.reg hm ?_
    refine W.fieldAddrO rfl rfl ?_
    refine W.loadO (p := .str a0.Text) rfl rfl rfl rfl ?_
    refine W.mkSlice (dt := true) (es := [[.str a0.Text]]) rfl rfl rfl rfl rfl rfl ?_
    obtain ⟨r3, k5, h⟩ := obind h
    refine W.call (ref6_lineCode_spec n ([a0.Text] : List (List UInt8)) r3 k5) rfl rfl (Les.refl _) rfl (.inr rfl) rfl ?_
    refine W.mv rfl (W.nil ?_)
    refine Ev.ret ?_
    injection h with h; subst h
    exact ⟨_, rfl, .refl _⟩
   ·replace h := iteF h c4
    refine Ev.skip ?_
    refine Ev.seq ?_
    refine Ev.seqJ (γ := Bool) (fun v => ⟨[(1, .pown 10200 0 0 0), (29, .bool v)], [(10200, ⟨0, 106, 2, [[.int .i64 a0.Kind, .str a0.Text]], true, false, false⟩)], 2⟩) (fun v => ref6_opCode_j2 n a0 v = some r) ?_ ?_
    ·refine W.reg hm ?_
     refine W.fieldAddrO rfl rfl ?_
     refine W.loadO (p := .int .i64 a0.Kind) rfl rfl rfl rfl ?_
     refine W.eql rfl rfl (W.mv rfl ?_)
     refine W.split 25 rfl (fun c8 => ?_) (fun c8 => ?_)
     ·replace h := iteT h c8
      refine W.guardF2 rfl c8 ?_
      refine W.guardF2 rfl c8 ?_
      refine W.guardF2 rfl c8 ?_
      refine W.pickT rfl rfl rfl c8 ?_
      refine W.nil ?_
      exact ⟨true, h, Wk.nrmTo [1, 29] [(10100, 10200)] rfl rfl⟩
     ·replace h := iteF h c8
      refine W.guardT rfl c8 ?_
      refine W.fieldAddrO rfl rfl ?_
      refine W.guardT rfl c8 ?_
      refine W.loadO (p := .int .i64 a0.Kind) rfl rfl rfl rfl ?_
      refine W.guardT rfl c8 ?_
      refine W.eql rfl rfl ?_
      refine W.pickN rfl rfl rfl c8 ?_
      refine W.nil ?_
      exact ⟨(decide (a0.Kind = 5)), h, Wk.nrmTo [1, 29] [(10100, 10200)] rfl rfl⟩
    ·intro x4 h
     try dsimp only at h ⊢
     unfold ref6_opCode_j2 at h
     refine Ev.cond rfl (fun c6 => ?_) (fun c6 => ?_)
     ·replace h := iteT h c6
      refine Ev.seq (Ev.seq ?_)
      refine W.reg hm ?_
      refine W.fieldAddrO rfl rfl ?_
      refine W.loadO (p := .str a0.Text) rfl rfl rfl rfl ?_
      refine W.sneq rfl rfl (W.nil ?_)
      refine Ev.cond rfl (fun c7 => ?_) (fun c7 => ?_)
      ·replace h := iteT h c7
       refine Ev.seq ?_
       refine W.reg hm ?_
       refine W.mv rfl (W.nil ?_)
       refine Ev.ret ?_
       injection h with h; subst h
       exact ⟨_, rfl, .refl _⟩
      ·replace h := iteF h c7
       refine Ev.skip ?_
       refine Ev.seq ?_
       refine W.reg hm ?_
       refine W.mv rfl (W.nil ?_)
       refine Ev.ret ?_
       injection h with h; subst h
       exact ⟨_, rfl, .refl _⟩
     ·replace h := iteF h c6
      refine Ev.skip ?_
      refine Ev.seq ?_
      refine W.reg hm ?_
      refine W.mv rfl (W.nil ?_)
      refine Ev.ret ?_
      injection h with h; subst h
      exact ⟨_, rfl, .refl _⟩
end Go.Proofs.YtlkknmhhefjmjaaDoor
