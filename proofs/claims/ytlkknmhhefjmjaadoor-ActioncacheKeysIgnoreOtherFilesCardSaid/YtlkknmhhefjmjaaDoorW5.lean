/- The functions compute what the texts of D say. Laid by a program (wip/gen/dec.py). -/
import Derived.Test.YtlkknmhhefjmjaaDoorD
import Derived.Test.YtlkknmhhefjmjaaDoorW4
namespace Go.Proofs.YtlkknmhhefjmjaaDoor
open Go.PW Go
theorem ref1_At_spec (n : Nat) (a0 : Int) (a1 : Int) (r : SCodeIndex) (h : ref1_At n a0 a1 = some r) : PSpec Tryd.prog 93 [.int .i64 a0, .int .i64 a1] (.agg (SCodeIndex.cells r)) := by
 unfold ref1_At at h
 refine spec_of Tryd.c_ref1_At (by simp) ?_
 unfold Tryd.l_ref1_At
 refine Ev.seq ?_
 refine W.reg hm ?_
 refine W.alloc (dt := true) rfl rfl rfl ?_
 refine W.nil ?_
 refine Ev.seq ?_
 refine W.reg hm ?_
 refine W.mv rfl (W.mv rfl ?_)
 refine W.build (cs := [.int .i64 a0, .int .i64 a1]) rfl rfl rfl ?_
 refine W.store (es' := [[.int .i64 a0, .int .i64 a1]]) (dt := true) rfl rfl rfl rfl rfl (Nat.le_of_ble_eq_true rfl) rfl rfl rfl rfl ?_
 refine W.nil ?_
 refine Ev.ret ?_
 injection h with h; subst h
 exact ⟨_, rfl, .refl _⟩
set_option maxHeartbeats 4000000 in
theorem ref1_LinesFault_spec (n : Nat) (a0 : List (List UInt8)) (r : SCodeIndex) (h : ref1_LinesFault n a0 = some r) : PSpec Tryd.prog 57 [.list 1 (List.map cS a0)] (.agg (SCodeIndex.cells r)) := by
 unfold ref1_LinesFault at h
 refine spec_of Tryd.c_ref1_LinesFault (by simp) ?_
 unfold Tryd.l_ref1_LinesFault
 refine Ev.seq ?_
 refine W.reg hm ?_
 refine W.alloc (dt := true) rfl rfl rfl ?_
 refine W.nil ?_
 refine Ev.seq (Ev.seq ?_)
 refine W.reg hm ?_
 refine W.mv rfl ?_
 refine W.lenL (c := cS) rfl ?_
 refine W.gtr rfl rfl (W.nil ?_)
 refine Ev.cond rfl (fun c1 => ?_) (fun c1 => ?_)
 ·replace h := iteT h c1
  refine Ev.seq ?_
  refine W.reg hm ?_
  obtain ⟨r1, k2, h⟩ := obind h
  refine W.call (ref1_At_spec n 2 (-1) r1 k2) rfl rfl (Les.refl _) rfl (.inl rfl) rfl ?_
  refine W.store (es' := [[.int .i64 r1.Code, .int .i64 r1.Index]]) (dt := true) rfl rfl rfl rfl rfl (Nat.le_of_ble_eq_true rfl) rfl rfl rfl rfl ?_
  refine W.nil ?_
  refine Ev.ret ?_
  injection h with h; subst h
  exact ⟨_, rfl, .refl _⟩
 ·replace h := iteF h c1
  refine Ev.skip ?_
  refine Ev.seq (Ev.seq ?_)
  refine W.reg hm ?_
  refine W.mv rfl (W.nil ?_)
  refine Ev.block ?_
  refine Ev.loopW (β := Nat × Int) (fun v => ⟨[(0, .list 1 (List.map cS a0)), (2, .pown 10100 0 0 0), (3, .int .i64 v.2)], [(10100, ⟨0, 25, 2, [[.int .i64 0, .int .i64 0]], true, false, false⟩)], 2⟩) (fun v => ref1_LinesFault_l1 n a0 v.1 v.2 = some r) (fun v => v.1) (n, 0) (Wk.nrmTo [0, 2, 3] [(2, 10100)] rfl rfl) h ?_
  intro ⟨m1, x2⟩ h
  try dsimp only at h ⊢
  cases m1 with
  | zero => rw [ref1_LinesFault_l1] at h; cases h
  | succ m1 =>
   rw [ref1_LinesFault_l1] at h
   refine Ev.seq (Ev.seq ?_)
   refine W.reg hm ?_
   refine W.mv rfl (W.mv rfl ?_)
   refine W.lenL (c := cS) rfl ?_
   refine W.lss rfl rfl (W.nil ?_)
   refine Ev.cond rfl (fun c3 => ?_) (fun c3 => ?_)
   ·replace h := iteT h c3
    refine Ev.skip ?_
    refine Ev.seq ?_
    refine Ev.block ?_
    refine Ev.seq (Ev.seq ?_)
    refine W.reg hm ?_
    refine W.mv rfl (W.mv rfl ?_)
    obtain ⟨e3, k4, h⟩ := obind h
    refine W.idxL (c := cS) rfl rfl k4 ?_
    refine W.load rfl rfl (W.slen rfl ?_)
    refine W.gtr rfl rfl (W.nil ?_)
    refine Ev.cond rfl (fun c5 => ?_) (fun c5 => ?_)
    ·replace h := iteT h c5
     refine Ev.seq ?_
     refine W.reg hm ?_
     refine W.mv rfl ?_
     obtain ⟨r4, k6, h⟩ := obind h
     refine W.call (ref1_At_spec n 2 x2 r4 k6) rfl rfl (Les.refl _) rfl (.inl rfl) rfl ?_
     refine W.store (es' := [[.int .i64 r4.Code, .int .i64 r4.Index]]) (dt := true) rfl rfl rfl rfl rfl (Nat.le_of_ble_eq_true rfl) rfl rfl rfl rfl ?_
     refine W.nil ?_
     refine Ev.ret ?_
     injection h with h; subst h
     exact ⟨_, rfl, .refl _⟩
    ·replace h := iteF h c5
     refine Ev.skip ?_
     refine Ev.seq ?_
     refine W.reg hm ?_
     refine W.mv rfl (W.nil ?_)
     refine Ev.block ?_
     refine Ev.loopW (β := Nat × Int) (fun v => ⟨[(0, .list 1 (List.map cS a0)), (2, .pown 10200 0 0 0), (3, .int .i64 x2), (4, .int .i64 v.2)], [(10200, ⟨0, 25, 2, [[.int .i64 0, .int .i64 0]], true, false, false⟩)], 2⟩) (fun v => ref1_LinesFault_l2 n x2 (ref1_LinesFault_l1 n a0 m1) e3 v.1 v.2 = some r) (fun v => v.1) (n, 0) (Wk.nrmTo [0, 2, 3, 4] [(10100, 10200)] rfl rfl) h ?_
     intro ⟨m2, x5⟩ h
     try dsimp only at h ⊢
     cases m2 with
     | zero => rw [ref1_LinesFault_l2] at h; cases h
     | succ m2 =>
      rw [ref1_LinesFault_l2] at h
      refine Ev.seq (Ev.seq ?_)
      refine W.reg hm ?_
      refine W.mv rfl (W.mv rfl ?_)
      refine W.mv rfl ?_
      refine W.idxL (c := cS) rfl rfl k4 ?_
      refine W.load rfl rfl (W.slen rfl ?_)
      refine W.lss rfl rfl (W.nil ?_)
      refine Ev.cond rfl (fun c7 => ?_) (fun c7 => ?_)
      ·replace h := iteT h c7
       refine Ev.skip ?_
       refine Ev.seq ?_
       refine Ev.block ?_
       refine Ev.seq ?_
       refine W.reg hm ?_
       refine W.mv rfl (W.mv rfl ?_)
       refine W.idxL (c := cS) rfl rfl k4 ?_
       refine W.load rfl rfl (W.mv rfl ?_)
       obtain ⟨y6, k8, h⟩ := obind h
       refine W.sidxG rfl rfl k8 ?_
       refine W.eql rfl rfl (W.nil ?_)
       refine Ev.cond rfl (fun c9 => ?_) (fun c9 => ?_)
       ·replace h := iteT h c9
        refine Ev.seq ?_
        refine W.reg hm ?_
        refine W.mv rfl ?_
        obtain ⟨r7, k10, h⟩ := obind h
        refine W.call (ref1_At_spec n 5 x2 r7 k10) rfl rfl (Les.refl _) rfl (.inl rfl) rfl ?_
        refine W.store (es' := [[.int .i64 r7.Code, .int .i64 r7.Index]]) (dt := true) rfl rfl rfl rfl rfl (Nat.le_of_ble_eq_true rfl) rfl rfl rfl rfl ?_
        refine W.nil ?_
        refine Ev.ret ?_
        injection h with h; subst h
        exact ⟨_, rfl, .refl _⟩
       ·replace h := iteF h c9
        refine Ev.skip ?_
        refine W.reg hm ?_
        refine W.mv rfl ?_
        obtain ⟨x8, k11, h⟩ := obind h
        refine W.addG rfl rfl k11 ?_
        refine W.mv rfl (W.nil ?_)
        exact ⟨(m2, x8), h, Nat.lt_succ_self _, Wk.nrmTo [0, 2, 3, 4] [(10200, 10200)] rfl rfl⟩
      ·replace h := iteF h c7
       refine Ev.exit ?_
       refine W.reg hm ?_
       refine W.mv rfl ?_
       obtain ⟨x9, k12, h⟩ := obind h
       refine W.addG rfl rfl k12 ?_
       refine W.mv rfl (W.nil ?_)
       exact ⟨(m1, x9), h, Nat.lt_succ_self _, Wk.nrmTo [0, 2, 3] [(10200, 10100)] rfl rfl⟩
   ·replace h := iteF h c3
    refine Ev.exit ?_
    refine Ev.seq ?_
    refine W.reg hm ?_
    refine W.build (cs := [.int .i64 0, .int .i64 0]) rfl rfl rfl ?_
    refine W.store (es' := [[.int .i64 0, .int .i64 0]]) (dt := true) rfl rfl rfl rfl rfl (Nat.le_of_ble_eq_true rfl) rfl rfl rfl rfl ?_
    refine W.nil ?_
    refine Ev.ret ?_
    injection h with h; subst h
    exact ⟨_, rfl, .refl _⟩
theorem ref1_LinesCode_spec (n : Nat) (a0 : List (List UInt8)) (r : Int) (h : ref1_LinesCode n a0 = some r) : PSpec Tryd.prog 23 [.list 1 (List.map cS a0)] (.int .i64 r) := by
 unfold ref1_LinesCode at h
 refine spec_of Tryd.c_ref1_LinesCode (by simp) ?_
 unfold Tryd.l_ref1_LinesCode
 refine Ev.seq ?_
 refine W.reg hm ?_
 refine W.mv rfl (W.nil ?_)
 refine Ev.seq ?_
 refine W.reg hm ?_
 refine W.mv rfl ?_
 obtain ⟨r1, k1, h⟩ := obind h
 refine W.call (ref1_LinesFault_spec n a0 r1 k1) rfl rfl (Les.refl _) rfl (.inl rfl) rfl ?_
 refine W.field rfl rfl (W.mv rfl ?_)
 refine W.nil ?_
 refine Ev.ret ?_
 injection h with h; subst h
 exact ⟨_, rfl, .refl _⟩
set_option maxHeartbeats 4000000 in
theorem ref6_SameCache_spec (n : Nat) (a0 : List SKeyLines) (a1 : List SKeyLines) (r : Bool) (h : ref6_SameCache n a0 a1 = some r) : PSpec Tryd.prog 25 [.list 2 (List.map SKeyLines.cells a0), .list 2 (List.map SKeyLines.cells a1)] (.bool r) := by
 unfold ref6_SameCache at h
 refine spec_of Tryd.c_ref6_SameCache (by simp) ?_
 unfold Tryd.l_ref6_SameCache
 refine Ev.seq ?_
 refine W.reg hm ?_
 refine W.mv rfl (W.nil ?_)
 refine Ev.seq (Ev.seq ?_)
 refine W.reg hm ?_
 refine W.mv rfl ?_
 refine W.lenL (c := SKeyLines.cells) rfl ?_
 refine W.mv rfl ?_
 refine W.lenL (c := SKeyLines.cells) rfl ?_
 refine W.neq rfl rfl (W.nil ?_)
 refine Ev.cond rfl (fun c1 => ?_) (fun c1 => ?_)
 ·replace h := iteT h c1
  refine Ev.seq ?_
  refine W.reg hm ?_
  refine W.mv rfl (W.nil ?_)
  refine Ev.ret ?_
  injection h with h; subst h
  exact ⟨_, rfl, .refl _⟩
 ·replace h := iteF h c1
  refine Ev.skip ?_
  refine Ev.seq (Ev.seq ?_)
  refine W.reg hm ?_
  refine W.mv rfl (W.nil ?_)
  refine Ev.block ?_
  refine Ev.loopW (β := Nat × Int) (fun v => ⟨[(0, .list 2 (List.map SKeyLines.cells a0)), (1, .list 2 (List.map SKeyLines.cells a1)), (5, .int .i64 v.2)], [], 2⟩) (fun v => ref6_SameCache_l1 n a0 a1 v.1 v.2 = some r) (fun v => v.1) (n, 0) (Wk.nrmTo [0, 1, 5] [] rfl rfl) h ?_
  intro ⟨m1, x1⟩ h
  try dsimp only at h ⊢
  cases m1 with
  | zero => rw [ref6_SameCache_l1] at h; cases h
  | succ m1 =>
   rw [ref6_SameCache_l1] at h
   refine Ev.seq (Ev.seq ?_)
   refine W.reg hm ?_
   refine W.mv rfl (W.mv rfl ?_)
   refine W.lenL (c := SKeyLines.cells) rfl ?_
   refine W.lss rfl rfl (W.nil ?_)
   refine Ev.cond rfl (fun c2 => ?_) (fun c2 => ?_)
   ·replace h := iteT h c2
    refine Ev.skip ?_
    refine Ev.seq ?_
    refine Ev.block ?_
    refine Ev.seqJ (γ := Bool) (fun v => ⟨[(0, .list 2 (List.map SKeyLines.cells a0)), (1, .list 2 (List.map SKeyLines.cells a1)), (5, .int .i64 x1), (41, .bool v)], [], 2⟩) (fun v => ref6_SameCache_j1 n x1 (ref6_SameCache_l1 n a0 a1 m1) v = some r) ?_ ?_
    ·refine W.regD hm ?_
     refine W.mv rfl (W.mv rfl ?_)
     obtain ⟨e4, k5, h⟩ := obind h
     refine W.idxL (c := SKeyLines.cells) rfl rfl k5 ?_
     refine W.fieldAddr rfl (W.load rfl rfl ?_)
     refine W.mv rfl (W.mv rfl ?_)
     obtain ⟨e5, k6, h⟩ := obind h
     refine W.idxL (c := SKeyLines.cells) rfl rfl k6 ?_
     refine W.fieldAddr rfl (W.load rfl rfl ?_)
     refine W.neq rfl rfl (W.mv rfl ?_)
     refine W.split 28 rfl (fun c7 => ?_) (fun c7 => ?_)
     ·replace h := iteT h c7
      refine W.guardF2 rfl c7 ?_
      refine W.guardF2 rfl c7 ?_
      refine W.guardF2 rfl c7 ?_
      refine W.guardF2 rfl c7 ?_
      refine W.guardF2 rfl c7 ?_
      refine W.guardF2 rfl c7 ?_
      refine W.guardF2 rfl c7 ?_
      refine W.guardF2 rfl c7 ?_
      refine W.guardF2 rfl c7 ?_
      refine W.guardF2 rfl c7 ?_
      refine W.guardF2 rfl c7 ?_
      refine W.guardF2 rfl c7 ?_
      refine W.pickT rfl rfl rfl c7 ?_
      refine W.nil ⟨rfl, ?_⟩
      exact ⟨true, h, Wk.nrmTo [0, 1, 5, 41] [] rfl rfl⟩
     ·replace h := iteF h c7
      refine W.guardT rfl c7 ?_
      refine W.mv rfl ?_
      refine W.guardT rfl c7 ?_
      refine W.mv rfl ?_
      refine W.guardT rfl c7 ?_
      refine W.idxL (c := SKeyLines.cells) rfl rfl k5 ?_
      refine W.guardT rfl c7 ?_
      refine W.fieldAddr rfl ?_
      refine W.guardT rfl c7 ?_
      refine W.load rfl rfl ?_
      refine W.guardT rfl c7 ?_
      refine W.mv rfl ?_
      refine W.guardT rfl c7 ?_
      refine W.mv rfl ?_
      refine W.guardT rfl c7 ?_
      refine W.idxL (c := SKeyLines.cells) rfl rfl k6 ?_
      refine W.guardT rfl c7 ?_
      refine W.fieldAddr rfl ?_
      refine W.guardT rfl c7 ?_
      refine W.load rfl rfl ?_
      refine W.guardT rfl c7 ?_
      obtain ⟨r6, k8, h⟩ := obind h
      refine W.call (ref6_Strings_spec n e4.Lines e5.Lines r6 k8) rfl rfl (Les.refl _) rfl (.inl rfl) rfl ?_
      refine W.guardT rfl c7 ?_
      refine W.not rfl ?_
      refine W.pickN rfl rfl rfl c7 ?_
      refine W.nil ⟨rfl, ?_⟩
      exact ⟨(!r6), h, Wk.nrmTo [0, 1, 5, 41] [] rfl rfl⟩
    ·intro x2 h
     try dsimp only at h ⊢
     unfold ref6_SameCache_j1 at h
     refine Ev.cond rfl (fun c3 => ?_) (fun c3 => ?_)
     ·replace h := iteT h c3
      refine Ev.seq ?_
      refine W.reg hm ?_
      refine W.mv rfl (W.nil ?_)
      refine Ev.ret ?_
      injection h with h; subst h
      exact ⟨_, rfl, .refl _⟩
     ·replace h := iteF h c3
      refine Ev.skip ?_
      refine W.reg hm ?_
      refine W.mv rfl ?_
      obtain ⟨x3, k4, h⟩ := obind h
      refine W.addG rfl rfl k4 ?_
      refine W.mv rfl (W.nil ?_)
      exact ⟨(m1, x3), h, Nat.lt_succ_self _, Wk.nrmTo [0, 1, 5] [] rfl rfl⟩
   ·replace h := iteF h c2
    refine Ev.exit ?_
    refine Ev.seq ?_
    refine W.reg hm ?_
    refine W.mv rfl (W.nil ?_)
    refine Ev.ret ?_
    injection h with h; subst h
    exact ⟨_, rfl, .refl _⟩
set_option maxHeartbeats 4000000 in
theorem ref6_Stored_spec (n : Nat) (a0 : List SKeyLines) (a1 : Int) (a2 : List (List UInt8)) (r : (List SKeyLines)) (h : ref6_Stored n a0 a1 a2 = some r) : PSpec Tryd.prog 26 [.list 2 (List.map SKeyLines.cells a0), .int .i64 a1, .list 1 (List.map cS a2)] (.list 2 (List.map SKeyLines.cells r)) := by
 unfold ref6_Stored at h
 refine spec_of Tryd.c_ref6_Stored (by simp) ?_
 unfold Tryd.l_ref6_Stored
 refine Ev.seq ?_
 refine W.reg hm ?_
 refine W.mv rfl (W.nil ?_)
 refine Ev.seq ?_
 refine W.reg hm ?_
 refine W.mv rfl (W.nil ?_)
 refine Ev.seq (Ev.seq ?_)
 refine W.reg hm ?_
 refine W.mv rfl (W.nil ?_)
 refine Ev.block ?_
 refine Ev.loopW (β := Nat × (List SKeyLines) × Int) (fun v => ⟨[(0, .list 2 (List.map SKeyLines.cells a0)), (1, .int .i64 a1), (2, .list 1 (List.map cS a2)), (7, .own 10100 0), (8, .int .i64 v.2.2)], [(10100, ⟨0, 86, 2, List.map SKeyLines.cells v.2.1, true, false, false⟩)], 2⟩) (fun v => ref6_Stored_l1 n a0 a1 a2 v.1 v.2.1 v.2.2 = some r) (fun v => v.1) (n, ([] : List SKeyLines), 0) ((Wk.ownNil 7 30100 86 2 rfl rfl true).trans (Wk.nrmTo [0, 1, 2, 7, 8] [(30100, 10100)] rfl rfl)) h ?_
 intro ⟨m1, w1, x2⟩ h
 try dsimp only at h ⊢
 cases m1 with
 | zero => rw [ref6_Stored_l1] at h; cases h
 | succ m1 =>
  rw [ref6_Stored_l1] at h
  refine Ev.seq ?_
  refine Ev.seqJ (γ := Bool) (fun v => ⟨[(0, .list 2 (List.map SKeyLines.cells a0)), (1, .int .i64 a1), (2, .list 1 (List.map cS a2)), (7, .own 10200 0), (8, .int .i64 x2), (22, .bool v)], [(10200, ⟨0, 86, 2, List.map SKeyLines.cells w1, true, false, false⟩)], 2⟩) (fun v => ref6_Stored_j1 n a0 a1 a2 w1 x2 (ref6_Stored_l1 n a0 a1 a2 m1) v = some r) ?_ ?_
  ·refine W.reg hm ?_
   refine W.mv rfl (W.mv rfl ?_)
   refine W.lenL (c := SKeyLines.cells) rfl ?_
   refine W.lss rfl rfl (W.mv rfl ?_)
   refine W.split 14 rfl (fun c12 => ?_) (fun c12 => ?_)
   ·replace h := iteT h c12
    refine W.guardT rfl c12 ?_
    refine W.mv rfl ?_
    refine W.guardT rfl c12 ?_
    refine W.mv rfl ?_
    refine W.guardT rfl c12 ?_
    obtain ⟨e14, k13, h⟩ := obind h
    refine W.idxL (c := SKeyLines.cells) rfl rfl k13 ?_
    refine W.guardT rfl c12 ?_
    refine W.fieldAddr rfl ?_
    refine W.guardT rfl c12 ?_
    refine W.load rfl rfl ?_
    refine W.guardT rfl c12 ?_
    refine W.mv rfl ?_
    refine W.guardT rfl c12 ?_
    refine W.lss rfl rfl ?_
    refine W.pickT rfl rfl rfl c12 ?_
    refine W.nil ?_
    exact ⟨(decide (e14.Key < a1)), h, Wk.nrmTo [0, 1, 2, 7, 8, 22] [(10100, 10200)] rfl rfl⟩
   ·replace h := iteF h c12
    refine W.guardF1 rfl c12 ?_
    refine W.guardF1 rfl c12 ?_
    refine W.guardF1 rfl c12 ?_
    refine W.guardF1 rfl c12 ?_
    refine W.guardF1 rfl c12 ?_
    refine W.guardF1 rfl c12 ?_
    refine W.guardF1 rfl c12 ?_
    refine W.pickN rfl rfl rfl c12 ?_
    refine W.nil ?_
    exact ⟨false, h, Wk.nrmTo [0, 1, 2, 7, 8, 22] [(10100, 10200)] rfl rfl⟩
  ·intro x3 h
   try dsimp only at h ⊢
   unfold ref6_Stored_j1 at h
   refine Ev.cond rfl (fun c1 => ?_) (fun c1 => ?_)
   ·replace h := iteT h c1
    refine Ev.skip ?_
    refine Ev.seq ?_
    refine Ev.block ?_
    refine W.reg hm ?_
    refine W.mv rfl (W.mv rfl ?_)
    refine W.mv rfl ?_
    obtain ⟨e4, k2, h⟩ := obind h
    refine W.idxL (c := SKeyLines.cells) rfl rfl k2 ?_
    refine W.load rfl rfl ?_
    refine W.mkSlice (dt := true) (es := [[.int .i64 e4.Key, .list 1 (List.map cS e4.Lines)]]) rfl rfl rfl rfl rfl rfl ?_
    obtain ⟨w5, k3, h⟩ := obind h
    refine W.appR true (l := w1) (c := SKeyLines.cells) (ys := ([e4] : List SKeyLines)) rfl rfl rfl rfl rfl rfl rfl rfl k3 rfl (by simp) ?_
    refine W.mv rfl (W.nil ?_)
    refine W.reg hm ?_
    refine W.mv rfl ?_
    obtain ⟨x6, k4, h⟩ := obind h
    refine W.addG rfl rfl k4 ?_
    refine W.mv rfl (W.nil ?_)
    exact ⟨(m1, w5, x6), h, Nat.lt_succ_self _, Wk.nrmTo [0, 1, 2, 7, 8] [(31, 10100)] rfl rfl⟩
   ·replace h := iteF h c1
    refine Ev.exit ?_
    refine Ev.seq ?_
    refine W.reg hm ?_
    refine W.mv rfl ?_
    refine W.lenO (l := w1) (c := SKeyLines.cells) rfl rfl rfl ?_
    refine W.mv rfl (W.nil ?_)
    refine Ev.seq ?_
    refine W.reg hm ?_
    refine W.mv rfl (W.mv rfl ?_)
    refine W.mv rfl ?_
    refine W.build (cs := [.int .i64 a1, .list 1 (List.map cS a2)]) rfl rfl rfl ?_
    refine W.mkSlice (dt := true) (es := [[.int .i64 a1, .list 1 (List.map cS a2)]]) rfl rfl rfl rfl rfl rfl ?_
    obtain ⟨w7, k5, h⟩ := obind h
    refine W.appR true (l := w1) (c := SKeyLines.cells) (ys := ([(⟨a1, a2⟩ : SKeyLines)] : List SKeyLines)) rfl rfl rfl rfl rfl rfl rfl rfl k5 rfl (by simp) ?_
    refine W.mv rfl (W.nil ?_)
    refine Ev.seqJ (γ := Int) (fun v => ⟨[(0, .list 2 (List.map SKeyLines.cells a0)), (7, .own 10300 0), (9, .int .i64 v)], [(10300, ⟨0, 86, 2, List.map SKeyLines.cells w7, true, false, false⟩)], 2⟩) (fun v => ref6_Stored_j2 n a0 w7 v = some r) ?_ ?_
    ·refine Ev.seqJ (γ := Bool) (fun v => ⟨[(0, .list 2 (List.map SKeyLines.cells a0)), (7, .own 10400 0), (9, .int .i64 (w1.length : Int)), (52, .bool v)], [(10400, ⟨0, 86, 2, List.map SKeyLines.cells w7, true, false, false⟩)], 2⟩) (fun v => ref6_Stored_j3 n a0 w1 w7 v = some r) ?_ ?_
     ·refine W.reg hm ?_
      refine W.mv rfl (W.mv rfl ?_)
      refine W.lenL (c := SKeyLines.cells) rfl ?_
      refine W.lss rfl rfl (W.mv rfl ?_)
      refine W.split 44 rfl (fun c10 => ?_) (fun c10 => ?_)
      ·replace h := iteT h c10
       refine W.guardT rfl c10 ?_
       refine W.mv rfl ?_
       refine W.guardT rfl c10 ?_
       refine W.mv rfl ?_
       refine W.guardT rfl c10 ?_
       obtain ⟨e13, k11, h⟩ := obind h
       refine W.idxL (c := SKeyLines.cells) rfl rfl k11 ?_
       refine W.guardT rfl c10 ?_
       refine W.fieldAddr rfl ?_
       refine W.guardT rfl c10 ?_
       refine W.load rfl rfl ?_
       refine W.guardT rfl c10 ?_
       refine W.mv rfl ?_
       refine W.guardT rfl c10 ?_
       refine W.eql rfl rfl ?_
       refine W.pickT rfl rfl rfl c10 ?_
       refine W.nil ?_
       exact ⟨(decide (e13.Key = a1)), h, Wk.nrmTo [0, 7, 9, 52] [(39, 10400)] rfl rfl⟩
      ·replace h := iteF h c10
       refine W.guardF1 rfl c10 ?_
       refine W.guardF1 rfl c10 ?_
       refine W.guardF1 rfl c10 ?_
       refine W.guardF1 rfl c10 ?_
       refine W.guardF1 rfl c10 ?_
       refine W.guardF1 rfl c10 ?_
       refine W.guardF1 rfl c10 ?_
       refine W.pickN rfl rfl rfl c10 ?_
       refine W.nil ?_
       exact ⟨false, h, Wk.nrmTo [0, 7, 9, 52] [(39, 10400)] rfl rfl⟩
     ·intro x11 h
      try dsimp only at h ⊢
      unfold ref6_Stored_j3 at h
      refine Ev.cond rfl (fun c8 => ?_) (fun c8 => ?_)
      ·replace h := iteT h c8
       refine W.reg hm ?_
       refine W.mv rfl ?_
       obtain ⟨x12, k9, h⟩ := obind h
       refine W.addG rfl rfl k9 ?_
       refine W.mv rfl (W.nil ?_)
       exact ⟨x12, h, Wk.nrmTo [0, 7, 9] [(10400, 10300)] rfl rfl⟩
      ·replace h := iteF h c8
       refine Ev.skip ?_
       exact ⟨(w1.length : Int), h, Wk.nrmTo [0, 7, 9] [(10400, 10300)] rfl rfl⟩
    ·intro x8 h
     try dsimp only at h ⊢
     unfold ref6_Stored_j2 at h
     refine Ev.seq ?_
     refine W.reg hm ?_
     refine W.mv rfl (W.mv rfl ?_)
     refine W.mv rfl ?_
     obtain ⟨s9, k6, h⟩ := obind h
     refine W.sliceL (c := SKeyLines.cells) rfl k6 (by rw [List.length_map]; exact ix0 (gcut_some k6).1) ?_
     obtain ⟨w10, k7, h⟩ := obind h
     refine W.appR true (l := w7) (c := SKeyLines.cells) (ys := s9) rfl rfl rfl rfl rfl rfl rfl rfl k7 rfl (by simp) ?_
     refine W.mv rfl (W.nil ?_)
     refine Ev.ret ?_
     injection h with h; subst h
     exact ⟨_, rfl, .refl _⟩
set_option maxHeartbeats 4000000 in
theorem law6_ActioncacheMatchesSpec_spec (n : Nat) (a0 : List SKeyLines) (a1 : Int) (a2 : List (List UInt8)) (r : Bool) (h : law6_ActioncacheMatchesSpec n a0 a1 a2 = some r) : PSpec Tryd.prog 3 [.list 2 (List.map SKeyLines.cells a0), .int .i64 a1, .list 1 (List.map cS a2)] (.bool r) := by
 unfold law6_ActioncacheMatchesSpec at h
 refine spec_of Tryd.c_law6_ActioncacheMatchesSpec (by simp) ?_
 unfold Tryd.l_law6_ActioncacheMatchesSpec
 refine Ev.seq ?_
 refine W.reg hm ?_
 refine W.mv rfl (W.nil ?_)
 refine Ev.seq ?_
 refine W.reg hm ?_
 refine W.mv rfl ?_
 obtain ⟨r1, k1, h⟩ := obind h
 refine W.call (ref6_CacheFault_spec n a0 r1 k1) rfl rfl (Les.refl _) rfl (.inl rfl) rfl ?_
 refine W.alloc (dt := true) rfl rfl rfl ?_
 refine W.store (es' := [[.int .i64 r1.Code, .int .i64 r1.Index]]) (dt := true) rfl rfl rfl rfl rfl (Nat.le_of_ble_eq_true rfl) rfl rfl rfl rfl ?_
 refine W.nil ?_
 refine Ev.seq ?_
 refine Ev.seqJ (γ := Bool) (fun v => ⟨[(0, .list 2 (List.map SKeyLines.cells a0)), (1, .int .i64 a1), (2, .list 1 (List.map cS a2)), (7, .pown 10100 0 0 0), (23, .bool v)], [(10100, ⟨0, 25, 2, [[.int .i64 r1.Code, .int .i64 r1.Index]], true, false, false⟩)], 2⟩) (fun v => law6_ActioncacheMatchesSpec_j1 n a0 a1 a2 r1 v = some r) ?_ ?_
 ·refine W.regD hm ?_
  obtain ⟨r30, k33, h⟩ := obind h
  refine W.call (law6_caches_spec n r30 k33) rfl rfl (Les.refl _) rfl (.inl rfl) rfl ?_
  refine W.not rfl (W.mv rfl ?_)
  refine W.split 18 rfl (fun c34 => ?_) (fun c34 => ?_)
  ·replace h := iteT h c34
   refine W.guardF2 rfl c34 ?_
   refine W.guardF2 rfl c34 ?_
   refine W.guardF2 rfl c34 ?_
   refine W.guardF2 rfl c34 ?_
   refine W.pickT rfl rfl rfl c34 ?_
   refine W.nil ⟨rfl, ?_⟩
   exact ⟨true, h, Wk.nrmTo [0, 1, 2, 7, 23] [(7, 10100)] rfl rfl⟩
  ·replace h := iteF h c34
   refine W.guardT rfl c34 ?_
   refine W.mv rfl ?_
   refine W.guardT rfl c34 ?_
   obtain ⟨r31, k35, h⟩ := obind h
   refine W.call (actioncache_Validate_spec n a0 r31 k35) rfl rfl (Les.refl _) rfl (.inl rfl) rfl ?_
   refine W.guardT rfl c34 ?_
   refine W.loadO (p := .agg [.int .i64 r1.Code, .int .i64 r1.Index]) rfl rfl rfl rfl ?_
   refine W.guardT rfl c34 ?_
   refine W.eqs rfl rfl rfl ?_
   refine W.pickN rfl rfl rfl c34 ?_
   refine W.nil ⟨rfl, ?_⟩
   exact ⟨((r31.Code == r1.Code && (r31.Index == r1.Index && true)) != true), h, Wk.nrmTo [0, 1, 2, 7, 23] [(7, 10100)] rfl rfl⟩
 ·intro x2 h
  try dsimp only at h ⊢
  unfold law6_ActioncacheMatchesSpec_j1 at h
  refine Ev.cond rfl (fun c2 => ?_) (fun c2 => ?_)
  ·replace h := iteT h c2
   refine Ev.seq ?_
   refine W.reg hm ?_
   refine W.mv rfl (W.nil ?_)
   refine Ev.ret ?_
   injection h with h; subst h
   exact ⟨_, rfl, .refl _⟩
  ·replace h := iteF h c2
   refine Ev.skip ?_
   refine Ev.seqJ (γ := Int × Int) (fun v => ⟨[(0, .list 2 (List.map SKeyLines.cells a0)), (1, .int .i64 a1), (2, .list 1 (List.map cS a2)), (7, .pown 10200 0 0 0)], [(10200, ⟨0, 25, 2, [[.int .i64 v.1, .int .i64 v.2]], true, false, false⟩)], 2⟩) (fun v => law6_ActioncacheMatchesSpec_j2 n a0 a1 a2 v.1 v.2 = some r) ?_ ?_
   ·refine Ev.seqJ (γ := Bool) (fun v => ⟨[(0, .list 2 (List.map SKeyLines.cells a0)), (1, .int .i64 a1), (2, .list 1 (List.map cS a2)), (7, .pown 10300 0 0 0), (31, .bool v)], [(10300, ⟨0, 25, 2, [[.int .i64 r1.Code, .int .i64 r1.Index]], true, false, false⟩)], 2⟩) (fun v => law6_ActioncacheMatchesSpec_j10 n a0 a1 a2 r1 v = some r) ?_ ?_
    ·refine W.reg hm ?_
     refine W.fieldAddrO rfl rfl ?_
     refine W.loadO (p := .int .i64 r1.Code) rfl rfl rfl rfl ?_
     refine W.eql rfl rfl (W.mv rfl ?_)
     refine W.split 27 rfl (fun c31 => ?_) (fun c31 => ?_)
     ·replace h := iteT h c31
      refine W.guardT rfl c31 ?_
      refine W.mv rfl ?_
      refine W.guardT rfl c31 ?_
      obtain ⟨r29, k32, h⟩ := obind h
      refine W.call (ref5_IsDigest_spec n a1 r29 k32) rfl rfl (Les.refl _) rfl (.inl rfl) rfl ?_
      refine W.guardT rfl c31 ?_
      refine W.not rfl ?_
      refine W.pickT rfl rfl rfl c31 ?_
      refine W.nil ?_
      exact ⟨(!r29), h, Wk.nrmTo [0, 1, 2, 7, 31] [(10100, 10300)] rfl rfl⟩
     ·replace h := iteF h c31
      refine W.guardF1 rfl c31 ?_
      refine W.guardF1 rfl c31 ?_
      refine W.guardF1 rfl c31 ?_
      refine W.pickN rfl rfl rfl c31 ?_
      refine W.nil ?_
      exact ⟨false, h, Wk.nrmTo [0, 1, 2, 7, 31] [(10100, 10300)] rfl rfl⟩
    ·intro x27 h
     try dsimp only at h ⊢
     unfold law6_ActioncacheMatchesSpec_j10 at h
     refine Ev.cond rfl (fun c29 => ?_) (fun c29 => ?_)
     ·replace h := iteT h c29
      refine W.reg hm ?_
      obtain ⟨r28, k30, h⟩ := obind h
      refine W.call (law6_fault_spec n 3 (-2) r28 k30) rfl rfl (Les.refl _) rfl (.inl rfl) rfl ?_
      refine W.store (es' := [[.int .i64 r28.Code, .int .i64 r28.Index]]) (dt := true) rfl rfl rfl rfl rfl (Nat.le_of_ble_eq_true rfl) rfl rfl rfl rfl ?_
      refine W.nil ?_
      exact ⟨(r28.Code, r28.Index), h, Wk.nrmTo [0, 1, 2, 7] [(10300, 10200)] rfl rfl⟩
     ·replace h := iteF h c29
      refine Ev.skip ?_
      exact ⟨(r1.Code, r1.Index), h, Wk.nrmTo [0, 1, 2, 7] [(10300, 10200)] rfl rfl⟩
   ·intro ⟨b3, b4⟩ h
    try dsimp only at h ⊢
    unfold law6_ActioncacheMatchesSpec_j2 at h
    refine Ev.seq ?_
    refine W.reg hm ?_
    refine W.mv rfl (W.nil ?_)
    refine Ev.seq ?_
    refine W.reg hm ?_
    refine W.mv rfl (W.nil ?_)
    refine Ev.seqJ (γ := (List (List UInt8)) × Bool) (fun v => ⟨[(0, .list 2 (List.map SKeyLines.cells a0)), (1, .int .i64 a1), (2, .list 1 (List.map cS a2)), (7, .pown 10300 0 0 0), (8, .list 1 (List.map cS v.1)), (9, .bool v.2)], [(10300, ⟨0, 25, 2, [[.int .i64 b3, .int .i64 b4]], true, false, false⟩)], 2⟩) (fun v => law6_ActioncacheMatchesSpec_j3 n a0 a1 a2 b3 b4 v.1 v.2 = some r) ?_ ?_
    ·refine Ev.seq ?_
     refine W.reg hm ?_
     refine W.fieldAddrO rfl rfl ?_
     refine W.loadO (p := .int .i64 b3) rfl rfl rfl rfl ?_
     refine W.eql rfl rfl (W.nil ?_)
     refine Ev.cond rfl (fun c27 => ?_) (fun c27 => ?_)
     ·replace h := iteT h c27
      refine W.reg hm ?_
      refine W.mv rfl (W.mv rfl ?_)
      obtain ⟨r26, k28, h⟩ := obind h
      refine W.call (ref6_LinesAt_spec n a0 a1 r26 k28) rfl rfl (Les.refl _) rfl (.inl rfl) rfl ?_
      refine W.mv rfl (W.extract rfl rfl ?_)
      refine W.extract rfl rfl (W.mv rfl ?_)
      refine W.mv rfl (W.nil ?_)
      exact ⟨(r26.1, r26.2), h, Wk.nrmTo [0, 1, 2, 7, 8, 9] [(10200, 10300)] rfl rfl⟩
     ·replace h := iteF h c27
      refine Ev.skip ?_
      exact ⟨(([] : List (List UInt8)), false), h, (Wk.le (t := 8) rfl (.nils 1)).trans (Wk.nrmTo [0, 1, 2, 7, 8, 9] [(10200, 10300)] rfl rfl)⟩
    ·intro ⟨x5, x6⟩ h
     try dsimp only at h ⊢
     unfold law6_ActioncacheMatchesSpec_j3 at h
     refine Ev.seq ?_
     refine W.reg hm ?_
     refine W.mv rfl (W.mv rfl ?_)
     obtain ⟨r7, k3, h⟩ := obind h
     refine W.call (actioncache_Lookup_spec n a0 a1 r7 k3) rfl rfl (Les.refl _) rfl (.inl rfl) rfl ?_
     refine W.mv rfl (W.extract rfl rfl ?_)
     refine W.extract rfl rfl (W.extract rfl rfl ?_)
     refine W.alloc (dt := true) rfl rfl rfl ?_
     refine W.mv rfl (W.mv rfl ?_)
     refine W.store (es' := [[.int .i64 r7.2.2.Code, .int .i64 r7.2.2.Index]]) (dt := true) rfl rfl rfl rfl rfl (Nat.le_of_ble_eq_true rfl) rfl rfl rfl rfl ?_
     refine W.nil ?_
     refine Ev.seq ?_
     refine Ev.seqJ (γ := Bool) (fun v => ⟨[(0, .list 2 (List.map SKeyLines.cells a0)), (1, .int .i64 a1), (2, .list 1 (List.map cS a2)), (7, .pown 10400 0 0 0), (9, .bool x6), (12, .pown 10401 0 0 0), (62, .bool v)], [(10400, ⟨0, 25, 2, [[.int .i64 b3, .int .i64 b4]], true, false, false⟩), (10401, ⟨0, 25, 2, [[.int .i64 r7.2.2.Code, .int .i64 r7.2.2.Index]], true, false, false⟩)], 2⟩) (fun v => law6_ActioncacheMatchesSpec_j4 n a0 a1 a2 b3 b4 x6 v = some r) ?_ ?_
     ·refine W.reg hm ?_
      refine W.loadO (p := .agg [.int .i64 r7.2.2.Code, .int .i64 r7.2.2.Index]) rfl rfl rfl rfl ?_
      refine W.loadO (p := .agg [.int .i64 b3, .int .i64 b4]) rfl rfl rfl rfl ?_
      refine W.eqs rfl rfl rfl (W.mv rfl ?_)
      refine W.split 52 rfl (fun c24 => ?_) (fun c24 => ?_)
      ·replace h := iteT h c24
       refine W.guardF2 rfl c24 ?_
       refine W.guardF2 rfl c24 ?_
       refine W.guardF2 rfl c24 ?_
       refine W.pickT rfl rfl rfl c24 ?_
       refine W.mv rfl (W.guardF2 rfl rfl ?_)
       refine W.guardF2 rfl rfl (W.guardF2 rfl rfl ?_)
       refine W.guardF2 rfl rfl (W.pickT rfl rfl rfl rfl ?_)
       refine W.nil ?_
       exact ⟨true, h, Wk.nrmTo [0, 1, 2, 7, 9, 12, 62] [(10300, 10400), (12, 10401)] rfl rfl⟩
      ·replace h := iteF h c24
       refine W.guardT rfl c24 ?_
       refine W.mv rfl ?_
       refine W.guardT rfl c24 ?_
       refine W.mv rfl ?_
       refine W.guardT rfl c24 ?_
       refine W.bneq rfl rfl ?_
       refine W.pickN rfl rfl rfl c24 ?_
       refine W.mv rfl ?_
       refine W.split 57 rfl (fun c25 => ?_) (fun c25 => ?_)
       ·replace h := iteT h c25
        refine W.guardF2 rfl c25 ?_
        refine W.guardF2 rfl c25 ?_
        refine W.guardF2 rfl c25 ?_
        refine W.guardF2 rfl c25 ?_
        refine W.pickT rfl rfl rfl c25 ?_
        refine W.nil ?_
        exact ⟨true, h, Wk.nrmTo [0, 1, 2, 7, 9, 12, 62] [(10300, 10400), (12, 10401)] rfl rfl⟩
       ·replace h := iteF h c25
        refine W.guardT rfl c25 ?_
        refine W.mv rfl ?_
        refine W.guardT rfl c25 ?_
        refine W.mv rfl ?_
        refine W.guardT rfl c25 ?_
        obtain ⟨r25, k26, h⟩ := obind h
        refine W.call (ref6_Strings_spec n r7.1 x5 r25 k26) rfl rfl (Les.refl _) rfl (.inl rfl) rfl ?_
        refine W.guardT rfl c25 ?_
        refine W.not rfl ?_
        refine W.pickN rfl rfl rfl c25 ?_
        refine W.nil ?_
        exact ⟨(!r25), h, Wk.nrmTo [0, 1, 2, 7, 9, 12, 62] [(10300, 10400), (12, 10401)] rfl rfl⟩
     ·intro x8 h
      try dsimp only at h ⊢
      unfold law6_ActioncacheMatchesSpec_j4 at h
      refine Ev.cond rfl (fun c4 => ?_) (fun c4 => ?_)
      ·replace h := iteT h c4
       refine Ev.seq ?_
       refine W.reg hm ?_
       refine W.mv rfl (W.nil ?_)
       refine Ev.ret ?_
       injection h with h; subst h
       exact ⟨_, rfl, .refl _⟩
      ·replace h := iteF h c4
       refine Ev.skip ?_
       refine Ev.seqJ (γ := Int × Int) (fun v => ⟨[(0, .list 2 (List.map SKeyLines.cells a0)), (1, .int .i64 a1), (2, .list 1 (List.map cS a2)), (7, .pown 10500 0 0 0), (9, .bool x6), (12, .pown 10501 0 0 0)], [(10500, ⟨0, 25, 2, [[.int .i64 v.1, .int .i64 v.2]], true, false, false⟩), (10501, ⟨0, 25, 2, [[.int .i64 r7.2.2.Code, .int .i64 r7.2.2.Index]], true, false, false⟩)], 2⟩) (fun v => law6_ActioncacheMatchesSpec_j5 n a0 a1 a2 x6 v.1 v.2 = some r) ?_ ?_
       ·refine Ev.seqJ (γ := Bool) (fun v => ⟨[(0, .list 2 (List.map SKeyLines.cells a0)), (1, .int .i64 a1), (2, .list 1 (List.map cS a2)), (7, .pown 10600 0 0 0), (9, .bool x6), (12, .pown 10601 0 0 0), (70, .bool v)], [(10600, ⟨0, 25, 2, [[.int .i64 b3, .int .i64 b4]], true, false, false⟩), (10601, ⟨0, 25, 2, [[.int .i64 r7.2.2.Code, .int .i64 r7.2.2.Index]], true, false, false⟩)], 2⟩) (fun v => law6_ActioncacheMatchesSpec_j9 n a0 a1 a2 b3 b4 x6 v = some r) ?_ ?_
        ·refine W.reg hm ?_
         refine W.fieldAddrO rfl rfl ?_
         refine W.loadO (p := .int .i64 b3) rfl rfl rfl rfl ?_
         refine W.eql rfl rfl (W.mv rfl ?_)
         refine W.split 66 rfl (fun c22 => ?_) (fun c22 => ?_)
         ·replace h := iteT h c22
          refine W.guardT rfl c22 ?_
          refine W.mv rfl ?_
          refine W.guardT rfl c22 ?_
          obtain ⟨r24, k23, h⟩ := obind h
          refine W.call (ref1_LinesCode_spec n a2 r24 k23) rfl rfl (Les.refl _) rfl (.inl rfl) rfl ?_
          refine W.guardT rfl c22 ?_
          refine W.neq rfl rfl ?_
          refine W.pickT rfl rfl rfl c22 ?_
          refine W.nil ?_
          exact ⟨(decide (r24 ≠ 0)), h, Wk.nrmTo [0, 1, 2, 7, 9, 12, 70] [(10400, 10600), (10401, 10601)] rfl rfl⟩
         ·replace h := iteF h c22
          refine W.guardF1 rfl c22 ?_
          refine W.guardF1 rfl c22 ?_
          refine W.guardF1 rfl c22 ?_
          refine W.pickN rfl rfl rfl c22 ?_
          refine W.nil ?_
          exact ⟨false, h, Wk.nrmTo [0, 1, 2, 7, 9, 12, 70] [(10400, 10600), (10401, 10601)] rfl rfl⟩
        ·intro x21 h
         try dsimp only at h ⊢
         unfold law6_ActioncacheMatchesSpec_j9 at h
         refine Ev.cond rfl (fun c19 => ?_) (fun c19 => ?_)
         ·replace h := iteT h c19
          refine W.reg hm ?_
          refine W.mv rfl ?_
          obtain ⟨r22, k20, h⟩ := obind h
          refine W.call (ref1_LinesCode_spec n a2 r22 k20) rfl rfl (Les.refl _) rfl (.inl rfl) rfl ?_
          obtain ⟨r23, k21, h⟩ := obind h
          refine W.call (law6_fault_spec n r22 (-3) r23 k21) rfl rfl (Les.refl _) rfl (.inl rfl) rfl ?_
          refine W.store (es' := [[.int .i64 r23.Code, .int .i64 r23.Index]]) (dt := true) rfl rfl rfl rfl rfl (Nat.le_of_ble_eq_true rfl) rfl rfl rfl rfl ?_
          refine W.nil ?_
          exact ⟨(r23.Code, r23.Index), h, Wk.nrmTo [0, 1, 2, 7, 9, 12] [(10600, 10500), (10601, 10501)] rfl rfl⟩
         ·replace h := iteF h c19
          refine Ev.skip ?_
          exact ⟨(b3, b4), h, Wk.nrmTo [0, 1, 2, 7, 9, 12] [(10600, 10500), (10601, 10501)] rfl rfl⟩
       ·intro ⟨b9, b10⟩ h
        try dsimp only at h ⊢
        unfold law6_ActioncacheMatchesSpec_j5 at h
        refine Ev.seqJ (γ := Int × Int) (fun v => ⟨[(0, .list 2 (List.map SKeyLines.cells a0)), (1, .int .i64 a1), (2, .list 1 (List.map cS a2)), (7, .pown 10600 0 0 0), (12, .pown 10601 0 0 0)], [(10600, ⟨0, 25, 2, [[.int .i64 v.1, .int .i64 v.2]], true, false, false⟩), (10601, ⟨0, 25, 2, [[.int .i64 r7.2.2.Code, .int .i64 r7.2.2.Index]], true, false, false⟩)], 2⟩) (fun v => law6_ActioncacheMatchesSpec_j6 n a0 a1 a2 v.1 v.2 = some r) ?_ ?_
        ·refine Ev.seqJ (γ := Bool) (fun v => ⟨[(0, .list 2 (List.map SKeyLines.cells a0)), (1, .int .i64 a1), (2, .list 1 (List.map cS a2)), (7, .pown 10700 0 0 0), (12, .pown 10701 0 0 0), (85, .bool v)], [(10700, ⟨0, 25, 2, [[.int .i64 b9, .int .i64 b10]], true, false, false⟩), (10701, ⟨0, 25, 2, [[.int .i64 r7.2.2.Code, .int .i64 r7.2.2.Index]], true, false, false⟩)], 2⟩) (fun v => law6_ActioncacheMatchesSpec_j8 n a0 a1 a2 b9 b10 v = some r) ?_ ?_
         ·refine W.reg hm ?_
          refine W.fieldAddrO rfl rfl ?_
          refine W.loadO (p := .int .i64 b9) rfl rfl rfl rfl ?_
          refine W.eql rfl rfl (W.mv rfl ?_)
          refine W.split 77 rfl (fun c17 => ?_) (fun c17 => ?_)
          ·replace h := iteT h c17
           refine W.guardT rfl c17 ?_
           refine W.mv rfl ?_
           refine W.guardT rfl c17 ?_
           refine W.not rfl ?_
           refine W.pickT rfl rfl rfl c17 ?_
           refine W.mv rfl ?_
           refine W.split 81 rfl (fun c18 => ?_) (fun c18 => ?_)
           ·replace h := iteT h c18
            refine W.guardT rfl c18 ?_
            refine W.mv rfl ?_
            refine W.guardT rfl c18 ?_
            refine W.lenL (c := SKeyLines.cells) rfl ?_
            refine W.guardT rfl c18 ?_
            refine W.eql rfl rfl ?_
            refine W.pickT rfl rfl rfl c18 ?_
            refine W.nil ?_
            exact ⟨(decide ((a0.length : Int) = 16)), h, Wk.nrmTo [0, 1, 2, 7, 12, 85] [(10500, 10700), (10501, 10701)] rfl rfl⟩
           ·replace h := iteF h c18
            refine W.guardF1 rfl c18 ?_
            refine W.guardF1 rfl c18 ?_
            refine W.guardF1 rfl c18 ?_
            refine W.pickN rfl rfl rfl c18 ?_
            refine W.nil ?_
            exact ⟨false, h, Wk.nrmTo [0, 1, 2, 7, 12, 85] [(10500, 10700), (10501, 10701)] rfl rfl⟩
          ·replace h := iteF h c17
           refine W.guardF1 rfl c17 ?_
           refine W.guardF1 rfl c17 ?_
           refine W.pickN rfl rfl rfl c17 ?_
           refine W.mv rfl (W.guardF1 rfl rfl ?_)
           refine W.guardF1 rfl rfl (W.guardF1 rfl rfl ?_)
           refine W.pickN rfl rfl rfl rfl (W.nil ?_)
           exact ⟨false, h, Wk.nrmTo [0, 1, 2, 7, 12, 85] [(10500, 10700), (10501, 10701)] rfl rfl⟩
         ·intro x19 h
          try dsimp only at h ⊢
          unfold law6_ActioncacheMatchesSpec_j8 at h
          refine Ev.cond rfl (fun c15 => ?_) (fun c15 => ?_)
          ·replace h := iteT h c15
           refine W.reg hm ?_
           obtain ⟨r20, k16, h⟩ := obind h
           refine W.call (law6_fault_spec n 14 0 r20 k16) rfl rfl (Les.refl _) rfl (.inl rfl) rfl ?_
           refine W.store (es' := [[.int .i64 r20.Code, .int .i64 r20.Index]]) (dt := true) rfl rfl rfl rfl rfl (Nat.le_of_ble_eq_true rfl) rfl rfl rfl rfl ?_
           refine W.nil ?_
           exact ⟨(r20.Code, r20.Index), h, Wk.nrmTo [0, 1, 2, 7, 12] [(10700, 10600), (10701, 10601)] rfl rfl⟩
          ·replace h := iteF h c15
           refine Ev.skip ?_
           exact ⟨(b9, b10), h, Wk.nrmTo [0, 1, 2, 7, 12] [(10700, 10600), (10701, 10601)] rfl rfl⟩
        ·intro ⟨b11, b12⟩ h
         try dsimp only at h ⊢
         unfold law6_ActioncacheMatchesSpec_j6 at h
         refine Ev.seq ?_
         refine W.reg hm ?_
         refine W.mv rfl (W.mv rfl ?_)
         refine W.mv rfl ?_
         obtain ⟨r13, k5, h⟩ := obind h
         refine W.call (actioncache_Store_spec n a0 a1 a2 r13 k5) rfl rfl (Les.refl _) rfl (.inl rfl) rfl ?_
         refine W.mv rfl (W.extract rfl rfl ?_)
         refine W.extract rfl rfl (W.mv rfl ?_)
         refine W.store (es' := [[.int .i64 r13.2.Code, .int .i64 r13.2.Index]]) (dt := true) rfl rfl rfl rfl rfl (Nat.le_of_ble_eq_true rfl) rfl rfl rfl rfl ?_
         refine W.nil ?_
         refine Ev.seqJ (γ := Bool) (fun v => ⟨[(6, .bool v)], [], 2⟩) (fun v => law6_ActioncacheMatchesSpec_j7 n v = some r) ?_ ?_
         ·refine W.reg hm ?_
          refine W.loadO (p := .agg [.int .i64 r13.2.Code, .int .i64 r13.2.Index]) rfl rfl rfl rfl ?_
          refine W.loadO (p := .agg [.int .i64 b11, .int .i64 b12]) rfl rfl rfl rfl ?_
          refine W.eqs rfl rfl rfl (W.mv rfl ?_)
          refine W.split 97 rfl (fun c6 => ?_) (fun c6 => ?_)
          ·replace h := iteT h c6
           refine W.guardT rfl c6 ?_
           refine W.fieldAddrO rfl rfl ?_
           refine W.guardT rfl c6 ?_
           refine W.loadO (p := .int .i64 b11) rfl rfl rfl rfl ?_
           refine W.guardT rfl c6 ?_
           refine W.neq rfl rfl ?_
           refine W.guardT rfl c6 ?_
           refine W.mv rfl ?_
           refine W.split 101 rfl (fun c7 => ?_) (fun c7 => ?_)
           ·replace h := iteT h c7
            refine W.guardT rfl c7 ?_
            refine W.mv rfl ?_
            refine W.guardT rfl c7 ?_
            refine W.lenL (c := SKeyLines.cells) rfl ?_
            refine W.guardT rfl c7 ?_
            refine W.eql rfl rfl ?_
            refine W.guardT rfl c6 ?_
            refine W.pickT rfl rfl rfl c7 ?_
            refine W.guardT rfl c6 ?_
            refine W.mv rfl ?_
            refine W.split 106 rfl (fun c8 => ?_) (fun c8 => ?_)
            ·replace h := iteT h c8
             refine W.guardF2 rfl c8 ?_
             refine W.guardF2 rfl c8 ?_
             refine W.guardF2 rfl c8 ?_
             refine W.guardF2 rfl c8 ?_
             refine W.guardU rfl (W.guardU rfl ?_)
             refine W.guardU rfl (W.guardU rfl ?_)
             refine W.guardU rfl (W.guardU rfl ?_)
             refine W.guardF2 rfl c8 ?_
             refine W.guardT rfl c6 ?_
             refine W.pickT rfl rfl rfl c8 ?_
             refine W.pickT rfl rfl rfl c6 ?_
             refine W.mv rfl (W.nil ?_)
             exact ⟨true, h, Wk.nrmTo [6] [] rfl rfl⟩
            ·replace h := iteF h c8
             refine W.guardT rfl c8 ?_
             refine W.fieldAddrO rfl rfl ?_
             refine W.guardT rfl c8 ?_
             refine W.loadO (p := .int .i64 b11) rfl rfl rfl rfl ?_
             refine W.guardT rfl c8 ?_
             refine W.eql rfl rfl ?_
             refine W.guardT rfl c8 ?_
             refine W.mv rfl ?_
             refine W.split 110 rfl (fun c9 => ?_) (fun c9 => ?_)
             ·replace h := iteT h c9
              refine W.guardT rfl c9 ?_
              refine W.mv rfl ?_
              refine W.guardT rfl c9 ?_
              refine W.mv rfl ?_
              refine W.guardT rfl c9 ?_
              refine W.mv rfl ?_
              refine W.guardT rfl c9 ?_
              refine W.mv rfl ?_
              refine W.guardT rfl c9 ?_
              obtain ⟨r15, k10, h⟩ := obind h
              refine W.call (ref6_Stored_spec n a0 a1 a2 r15 k10) rfl rfl (Les.refl _) rfl (.inl rfl) rfl ?_
              refine W.guardT rfl c9 ?_
              obtain ⟨r16, k11, h⟩ := obind h
              refine W.call (ref6_SameCache_spec n r13.1 r15 r16 k11) rfl rfl (Les.refl _) rfl (.inl rfl) rfl ?_
              refine W.guardT rfl c8 ?_
              refine W.pickT rfl rfl rfl c9 ?_
              refine W.guardT rfl c6 ?_
              refine W.pickN rfl rfl rfl c8 ?_
              refine W.pickT rfl rfl rfl c6 ?_
              refine W.mv rfl (W.nil ?_)
              exact ⟨r16, h, Wk.nrmTo [6] [] rfl rfl⟩
             ·replace h := iteF h c9
              refine W.guardF1 rfl c9 ?_
              refine W.guardF1 rfl c9 ?_
              refine W.guardF1 rfl c9 ?_
              refine W.guardF1 rfl c9 ?_
              refine W.guardF1 rfl c9 ?_
              refine W.guardF1 rfl c9 ?_
              refine W.guardT rfl c8 ?_
              refine W.pickN rfl rfl rfl c9 ?_
              refine W.guardT rfl c6 ?_
              refine W.pickN rfl rfl rfl c8 ?_
              refine W.pickT rfl rfl rfl c6 ?_
              refine W.mv rfl (W.nil ?_)
              exact ⟨false, h, Wk.nrmTo [6] [] rfl rfl⟩
           ·replace h := iteF h c7
            refine W.guardF1 rfl c7 ?_
            refine W.guardF1 rfl c7 ?_
            refine W.guardF1 rfl c7 ?_
            refine W.guardT rfl c6 ?_
            refine W.pickN rfl rfl rfl c7 ?_
            refine W.guardT rfl c6 ?_
            refine W.mv rfl (W.guardT rfl rfl ?_)
            refine W.fieldAddrO rfl rfl (W.guardT rfl rfl ?_)
            refine W.loadO (p := .int .i64 b11) rfl rfl rfl rfl ?_
            refine W.guardT rfl rfl (W.eql rfl rfl ?_)
            refine W.guardT rfl rfl (W.mv rfl ?_)
            refine W.split 110 rfl (fun c12 => ?_) (fun c12 => ?_)
            ·replace h := iteT h c12
             refine W.guardT rfl c12 ?_
             refine W.mv rfl ?_
             refine W.guardT rfl c12 ?_
             refine W.mv rfl ?_
             refine W.guardT rfl c12 ?_
             refine W.mv rfl ?_
             refine W.guardT rfl c12 ?_
             refine W.mv rfl ?_
             refine W.guardT rfl c12 ?_
             obtain ⟨r17, k13, h⟩ := obind h
             refine W.call (ref6_Stored_spec n a0 a1 a2 r17 k13) rfl rfl (Les.refl _) rfl (.inl rfl) rfl ?_
             refine W.guardT rfl c12 ?_
             obtain ⟨r18, k14, h⟩ := obind h
             refine W.call (ref6_SameCache_spec n r13.1 r17 r18 k14) rfl rfl (Les.refl _) rfl (.inl rfl) rfl ?_
             refine W.guardT rfl rfl ?_
             refine W.pickT rfl rfl rfl c12 ?_
             refine W.guardT rfl c6 ?_
             refine W.pickN rfl rfl rfl rfl ?_
             refine W.pickT rfl rfl rfl c6 ?_
             refine W.mv rfl (W.nil ?_)
             exact ⟨r18, h, Wk.nrmTo [6] [] rfl rfl⟩
            ·replace h := iteF h c12
             refine W.guardF1 rfl c12 ?_
             refine W.guardF1 rfl c12 ?_
             refine W.guardF1 rfl c12 ?_
             refine W.guardF1 rfl c12 ?_
             refine W.guardF1 rfl c12 ?_
             refine W.guardF1 rfl c12 ?_
             refine W.guardT rfl rfl ?_
             refine W.pickN rfl rfl rfl c12 ?_
             refine W.guardT rfl c6 ?_
             refine W.pickN rfl rfl rfl rfl ?_
             refine W.pickT rfl rfl rfl c6 ?_
             refine W.mv rfl (W.nil ?_)
             exact ⟨false, h, Wk.nrmTo [6] [] rfl rfl⟩
          ·replace h := iteF h c6
           refine W.guardF1 rfl c6 ?_
           refine W.guardF1 rfl c6 ?_
           refine W.guardF1 rfl c6 ?_
           refine W.guardF1 rfl c6 ?_
           refine W.guardU rfl (W.guardU rfl ?_)
           refine W.guardU rfl ?_
           refine W.guardF1 rfl c6 ?_
           refine W.guardF1 rfl c6 ?_
           refine W.guardU rfl (W.guardU rfl ?_)
           refine W.guardU rfl (W.guardU rfl ?_)
           refine W.guardU rfl (W.guardU rfl ?_)
           refine W.guardU rfl (W.guardU rfl ?_)
           refine W.guardU rfl (W.guardU rfl ?_)
           refine W.guardU rfl ?_
           refine W.guardF1 rfl c6 ?_
           refine W.pickN rfl rfl rfl c6 ?_
           refine W.mv rfl (W.nil ?_)
           exact ⟨false, h, Wk.nrmTo [6] [] rfl rfl⟩
         ·intro x14 h
          try dsimp only at h ⊢
          unfold law6_ActioncacheMatchesSpec_j7 at h
          refine Ev.ret ?_
          injection h with h; subst h
          exact ⟨_, rfl, .refl _⟩
end Go.Proofs.YtlkknmhhefjmjaaDoor
