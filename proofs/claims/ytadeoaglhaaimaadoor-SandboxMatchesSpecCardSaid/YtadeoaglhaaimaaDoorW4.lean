/- The functions compute what the texts of D say. Laid by a program (wip/gen/dec.py). -/
import Derived.Test.YtadeoaglhaaimaaDoorD
import Derived.Test.YtadeoaglhaaimaaDoorW3
namespace Go.Proofs.YtadeoaglhaaimaaDoor
open Go.PW Go
theorem ref1_At_spec (n : Nat) (a0 : Int) (a1 : Int) (r : SCodeIndex) (h : ref1_At n a0 a1 = some r) : PSpec Tryd.prog 74 [.int .i64 a0, .int .i64 a1] (.agg (SCodeIndex.cells r)) := by
  unfold ref1_At at h
  refine spec_of Tryd.c_ref1_At (by simp) ?_
  unfold Tryd.l_ref1_At
  refine Ev.seq ?_
  refine W.reg hm ?_
  refine W.alloc (dt := true) rfl rfl rfl ?_
  refine W.nil ?_
  refine Ev.seq ?_
  refine W.reg hm ?_
  refine W.mv rfl ?_
  refine W.mv rfl ?_
  refine W.build (cs := [.int .i64 a0, .int .i64 a1]) rfl rfl rfl ?_
  refine W.store (es' := [[.int .i64 a0, .int .i64 a1]]) (dt := true) rfl rfl rfl rfl rfl (Nat.le_of_ble_eq_true rfl) rfl rfl rfl rfl ?_
  refine W.nil ?_
  refine Ev.ret ?_
  injection h with h; subst h
  exact ⟨_, rfl, .refl _⟩

theorem ref2_Related_spec : ∀ (n : Nat) (a0 : List UInt8) (a1 : List UInt8) (r : Bool) (h : ref2_Related n a0 a1 = some r), PSpec Tryd.prog 75 [.str a0, .str a1] (.bool r) := by
  intro n
  induction n with
  | zero => intro a0 a1 r h; rw [ref2_Related] at h; cases h
  | succ n ih =>
  intro a0 a1 r h
  rw [ref2_Related] at h
  refine spec_of Tryd.c_ref2_Related (by simp) ?_
  unfold Tryd.l_ref2_Related
  refine Ev.seq ?_
  refine W.reg hm ?_
  refine W.mv rfl ?_
  refine W.nil ?_
  refine Ev.seq ?_
  refine Ev.seq ?_
  refine W.reg hm ?_
  refine W.mv rfl ?_
  refine W.slen rfl ?_
  refine W.mv rfl ?_
  refine W.slen rfl ?_
  refine W.gtr rfl rfl ?_
  refine W.nil ?_
  refine Ev.cond rfl (fun c1 => ?_) (fun c1 => ?_)
  · replace h := iteT h c1
    refine Ev.seq ?_
    refine W.reg hm ?_
    refine W.mv rfl ?_
    refine W.mv rfl ?_
    obtain ⟨r1, k2, h⟩ := obind h
    refine W.call (ih a1 a0 r1 k2) rfl rfl (Les.refl _) rfl (.inl rfl) rfl ?_
    refine W.mv rfl ?_
    refine W.nil ?_
    refine Ev.ret ?_
    injection h with h; subst h
    exact ⟨_, rfl, .refl _⟩
  · replace h := iteF h c1
    refine Ev.skip ?_
    refine Ev.seqJ (γ := Bool) (fun v => ⟨[(4, .bool v)], [], 2⟩) (fun v => ref2_Related_j1 n v = some r) ?_ ?_
    · refine W.reg hm ?_
      refine W.mv rfl ?_
      refine W.mv rfl ?_
      refine W.slen rfl ?_
      obtain ⟨s3, k3, h⟩ := obind h
      refine W.ssliceG rfl k3 (ix1 (gcut_some k3).2.2.2.1) ?_
      refine W.mv rfl ?_
      refine W.seql rfl rfl ?_
      refine W.mv rfl ?_
      refine W.split 19 rfl (fun c4 => ?_) (fun c4 => ?_)
      · replace h := iteT h c4
        refine W.guardT rfl c4 ?_
        refine W.mv rfl ?_
        refine W.guardT rfl c4 ?_
        refine W.slen rfl ?_
        refine W.guardT rfl c4 ?_
        refine W.mv rfl ?_
        refine W.guardT rfl c4 ?_
        refine W.slen rfl ?_
        refine W.guardT rfl c4 ?_
        refine W.eql rfl rfl ?_
        refine W.guardT rfl c4 ?_
        refine W.mv rfl ?_
        refine W.split 25 rfl (fun c5 => ?_) (fun c5 => ?_)
        · replace h := iteT h c5
          refine W.guardF2 rfl c5 ?_
          refine W.guardF2 rfl c5 ?_
          refine W.guardF2 rfl c5 ?_
          refine W.guardF2 rfl c5 ?_
          refine W.guardF2 rfl c5 ?_
          refine W.guardT rfl c4 ?_
          refine W.pickT rfl rfl rfl c5 ?_
          refine W.pickT rfl rfl rfl c4 ?_
          refine W.mv rfl ?_
          refine W.nil ?_
          exact ⟨true, h, Wk.nrmTo [4] [] rfl rfl⟩
        · replace h := iteF h c5
          refine W.guardT rfl c5 ?_
          refine W.mv rfl ?_
          refine W.guardT rfl c5 ?_
          refine W.mv rfl ?_
          refine W.guardT rfl c5 ?_
          refine W.slen rfl ?_
          refine W.guardT rfl c5 ?_
          obtain ⟨y4, k6, h⟩ := obind h
          refine W.sidxG rfl rfl k6 ?_
          refine W.guardT rfl c5 ?_
          refine W.eql rfl rfl ?_
          refine W.guardT rfl c4 ?_
          refine W.pickN rfl rfl rfl c5 ?_
          refine W.pickT rfl rfl rfl c4 ?_
          refine W.mv rfl ?_
          refine W.nil ?_
          exact ⟨(decide ((y4.toNat : Int) = 47)), h, Wk.nrmTo [4] [] rfl rfl⟩
      · replace h := iteF h c4
        refine W.guardF1 rfl c4 ?_
        refine W.guardF1 rfl c4 ?_
        refine W.guardF1 rfl c4 ?_
        refine W.guardF1 rfl c4 ?_
        refine W.guardF1 rfl c4 ?_
        refine W.guardF1 rfl c4 ?_
        refine W.guardU rfl ?_
        refine W.guardU rfl ?_
        refine W.guardU rfl ?_
        refine W.guardU rfl ?_
        refine W.guardU rfl ?_
        refine W.guardF1 rfl c4 ?_
        refine W.pickN rfl rfl rfl c4 ?_
        refine W.mv rfl ?_
        refine W.nil ?_
        exact ⟨false, h, Wk.nrmTo [4] [] rfl rfl⟩
    · intro x2 h
      try dsimp only at h ⊢
      unfold ref2_Related_j1 at h
      refine Ev.ret ?_
      injection h with h; subst h
      exact ⟨_, rfl, .refl _⟩

set_option maxHeartbeats 4000000 in
theorem ref1_LinesFault_spec (n : Nat) (a0 : List (List UInt8)) (r : SCodeIndex) (h : ref1_LinesFault n a0 = some r) : PSpec Tryd.prog 91 [.list 1 (List.map cS a0)] (.agg (SCodeIndex.cells r)) := by
  unfold ref1_LinesFault at h
  refine spec_of Tryd.c_ref1_LinesFault (by simp) ?_
  unfold Tryd.l_ref1_LinesFault
  refine Ev.seq ?_
  refine W.reg hm ?_
  refine W.alloc (dt := true) rfl rfl rfl ?_
  refine W.nil ?_
  refine Ev.seq ?_
  refine Ev.seq ?_
  refine W.reg hm ?_
  refine W.mv rfl ?_
  refine W.lenL (c := cS) rfl ?_
  refine W.gtr rfl rfl ?_
  refine W.nil ?_
  refine Ev.cond rfl (fun c1 => ?_) (fun c1 => ?_)
  · replace h := iteT h c1
    refine Ev.seq ?_
    refine W.reg hm ?_
    obtain ⟨r1, k2, h⟩ := obind h
    refine W.call (ref1_At_spec n 2 (-1) r1 k2) rfl rfl (Les.refl _) rfl (.inl rfl) rfl ?_
    refine W.store (es' := [[.int .i64 r1.Code, .int .i64 r1.Index]]) (dt := true) rfl rfl rfl rfl rfl (Nat.le_of_ble_eq_true rfl) rfl rfl rfl rfl ?_
    refine W.nil ?_
    refine Ev.ret ?_
    injection h with h; subst h
    exact ⟨_, rfl, .refl _⟩
  · replace h := iteF h c1
    refine Ev.skip ?_
    refine Ev.seq ?_
    refine Ev.seq ?_
    refine W.reg hm ?_
    refine W.mv rfl ?_
    refine W.nil ?_
    refine Ev.block ?_
    refine Ev.loopW (β := Nat × Int) (fun v => ⟨[(0, .list 1 (List.map cS a0)), (2, .pown 10100 0 0 0), (3, .int .i64 v.2)], [(10100, ⟨0, 30, 2, [[.int .i64 0, .int .i64 0]], true, false, false⟩)], 2⟩) (fun v => ref1_LinesFault_l1 n a0 v.1 v.2 = some r) (fun v => v.1) (n, 0) (Wk.nrmTo [0, 2, 3] [(2, 10100)] rfl rfl) h ?_
    intro ⟨m1, x2⟩ h
    try dsimp only at h ⊢
    cases m1 with
    | zero => rw [ref1_LinesFault_l1] at h; cases h
    | succ m1 =>
      rw [ref1_LinesFault_l1] at h
      refine Ev.seq ?_
      refine Ev.seq ?_
      refine W.reg hm ?_
      refine W.mv rfl ?_
      refine W.mv rfl ?_
      refine W.lenL (c := cS) rfl ?_
      refine W.lss rfl rfl ?_
      refine W.nil ?_
      refine Ev.cond rfl (fun c3 => ?_) (fun c3 => ?_)
      · replace h := iteT h c3
        refine Ev.skip ?_
        refine Ev.seq ?_
        refine Ev.block ?_
        refine Ev.seq ?_
        refine Ev.seq ?_
        refine W.reg hm ?_
        refine W.mv rfl ?_
        refine W.mv rfl ?_
        obtain ⟨e3, k4, h⟩ := obind h
        refine W.idxL (c := cS) rfl rfl k4 ?_
        refine W.load rfl rfl ?_
        refine W.slen rfl ?_
        refine W.gtr rfl rfl ?_
        refine W.nil ?_
        refine Ev.cond rfl (fun c5 => ?_) (fun c5 => ?_)
        · replace h := iteT h c5
          refine Ev.seq ?_
          refine W.reg hm ?_
          refine W.mv rfl ?_
          obtain ⟨r4, k6, h⟩ := obind h
          refine W.call (ref1_At_spec n 2 x2 r4 k6) rfl rfl (Les.refl _) rfl (.inl rfl) rfl ?_
          refine W.store (es' := [[.int .i64 r4.Code, .int .i64 r4.Index]]) (dt := true) rfl rfl rfl rfl rfl (Nat.le_of_ble_eq_true rfl) rfl rfl rfl rfl ?_
          refine W.nil ?_
          refine Ev.ret ?_
          injection h with h; subst h
          exact ⟨_, rfl, .refl _⟩
        · replace h := iteF h c5
          refine Ev.skip ?_
          refine Ev.seq ?_
          refine W.reg hm ?_
          refine W.mv rfl ?_
          refine W.nil ?_
          refine Ev.block ?_
          refine Ev.loopW (β := Nat × Int) (fun v => ⟨[(0, .list 1 (List.map cS a0)), (2, .pown 10200 0 0 0), (3, .int .i64 x2), (4, .int .i64 v.2)], [(10200, ⟨0, 30, 2, [[.int .i64 0, .int .i64 0]], true, false, false⟩)], 2⟩) (fun v => ref1_LinesFault_l2 n x2 (ref1_LinesFault_l1 n a0 m1) e3 v.1 v.2 = some r) (fun v => v.1) (n, 0) (Wk.nrmTo [0, 2, 3, 4] [(10100, 10200)] rfl rfl) h ?_
          intro ⟨m2, x5⟩ h
          try dsimp only at h ⊢
          cases m2 with
          | zero => rw [ref1_LinesFault_l2] at h; cases h
          | succ m2 =>
            rw [ref1_LinesFault_l2] at h
            refine Ev.seq ?_
            refine Ev.seq ?_
            refine W.reg hm ?_
            refine W.mv rfl ?_
            refine W.mv rfl ?_
            refine W.mv rfl ?_
            refine W.idxL (c := cS) rfl rfl k4 ?_
            refine W.load rfl rfl ?_
            refine W.slen rfl ?_
            refine W.lss rfl rfl ?_
            refine W.nil ?_
            refine Ev.cond rfl (fun c7 => ?_) (fun c7 => ?_)
            · replace h := iteT h c7
              refine Ev.skip ?_
              refine Ev.seq ?_
              refine Ev.block ?_
              refine Ev.seq ?_
              refine W.reg hm ?_
              refine W.mv rfl ?_
              refine W.mv rfl ?_
              refine W.idxL (c := cS) rfl rfl k4 ?_
              refine W.load rfl rfl ?_
              refine W.mv rfl ?_
              obtain ⟨y6, k8, h⟩ := obind h
              refine W.sidxG rfl rfl k8 ?_
              refine W.eql rfl rfl ?_
              refine W.nil ?_
              refine Ev.cond rfl (fun c9 => ?_) (fun c9 => ?_)
              · replace h := iteT h c9
                refine Ev.seq ?_
                refine W.reg hm ?_
                refine W.mv rfl ?_
                obtain ⟨r7, k10, h⟩ := obind h
                refine W.call (ref1_At_spec n 5 x2 r7 k10) rfl rfl (Les.refl _) rfl (.inl rfl) rfl ?_
                refine W.store (es' := [[.int .i64 r7.Code, .int .i64 r7.Index]]) (dt := true) rfl rfl rfl rfl rfl (Nat.le_of_ble_eq_true rfl) rfl rfl rfl rfl ?_
                refine W.nil ?_
                refine Ev.ret ?_
                injection h with h; subst h
                exact ⟨_, rfl, .refl _⟩
              · replace h := iteF h c9
                refine Ev.skip ?_
                refine W.reg hm ?_
                refine W.mv rfl ?_
                obtain ⟨x8, k11, h⟩ := obind h
                refine W.addG rfl rfl k11 ?_
                refine W.mv rfl ?_
                refine W.nil ?_
                exact ⟨(m2, x8), h, Nat.lt_succ_self _, Wk.nrmTo [0, 2, 3, 4] [(10200, 10200)] rfl rfl⟩
            · replace h := iteF h c7
              refine Ev.exit ?_
              refine W.reg hm ?_
              refine W.mv rfl ?_
              obtain ⟨x9, k12, h⟩ := obind h
              refine W.addG rfl rfl k12 ?_
              refine W.mv rfl ?_
              refine W.nil ?_
              exact ⟨(m1, x9), h, Nat.lt_succ_self _, Wk.nrmTo [0, 2, 3] [(10200, 10100)] rfl rfl⟩
      · replace h := iteF h c3
        refine Ev.exit ?_
        refine Ev.seq ?_
        refine W.reg hm ?_
        refine W.build (cs := [.int .i64 0, .int .i64 0]) rfl rfl rfl ?_
        refine W.store (es' := [[.int .i64 0, .int .i64 0]]) (dt := true) rfl rfl rfl rfl rfl (Nat.le_of_ble_eq_true rfl) rfl rfl rfl rfl ?_
        refine W.nil ?_
        refine Ev.ret ?_
        injection h with h; subst h
        exact ⟨_, rfl, .refl _⟩

theorem ref1_LinesCode_spec (n : Nat) (a0 : List (List UInt8)) (r : Int) (h : ref1_LinesCode n a0 = some r) : PSpec Tryd.prog 76 [.list 1 (List.map cS a0)] (.int .i64 r) := by
  unfold ref1_LinesCode at h
  refine spec_of Tryd.c_ref1_LinesCode (by simp) ?_
  unfold Tryd.l_ref1_LinesCode
  refine Ev.seq ?_
  refine W.reg hm ?_
  refine W.mv rfl ?_
  refine W.nil ?_
  refine Ev.seq ?_
  refine W.reg hm ?_
  refine W.mv rfl ?_
  obtain ⟨r1, k1, h⟩ := obind h
  refine W.call (ref1_LinesFault_spec n a0 r1 k1) rfl rfl (Les.refl _) rfl (.inl rfl) rfl ?_
  refine W.field rfl rfl ?_
  refine W.mv rfl ?_
  refine W.nil ?_
  refine Ev.ret ?_
  injection h with h; subst h
  exact ⟨_, rfl, .refl _⟩

set_option maxHeartbeats 4000000 in
theorem ref2_TreeFault_spec (n : Nat) (a0 : SFiles) (r : SCodeIndex) (h : ref2_TreeFault n a0 = some r) : PSpec Tryd.prog 50 [.agg (SFiles.cells a0)] (.agg (SCodeIndex.cells r)) := by
  unfold ref2_TreeFault at h
  refine spec_of Tryd.c_ref2_TreeFault (by simp) ?_
  unfold Tryd.l_ref2_TreeFault
  refine Ev.seq ?_
  refine W.reg hm ?_
  refine W.box (dt := true) (cs := [.list 2 (List.map SPathLines.cells a0.Files)]) rfl rfl rfl rfl rfl rfl ?_
  refine W.alloc (dt := true) rfl rfl rfl ?_
  refine W.nil ?_
  refine Ev.seq ?_
  refine Ev.seq ?_
  refine W.reg hm ?_
  refine W.fieldAddrO rfl rfl ?_
  refine W.loadO (p := .list 2 (List.map SPathLines.cells a0.Files)) rfl rfl rfl rfl ?_
  refine W.lenL (c := SPathLines.cells) rfl ?_
  refine W.gtr rfl rfl ?_
  refine W.nil ?_
  refine Ev.cond rfl (fun c1 => ?_) (fun c1 => ?_)
  · replace h := iteT h c1
    refine Ev.seq ?_
    refine W.reg hm ?_
    obtain ⟨r1, k2, h⟩ := obind h
    refine W.call (ref1_At_spec n 2 (-1) r1 k2) rfl rfl (Les.refl _) rfl (.inl rfl) rfl ?_
    refine W.store (es' := [[.int .i64 r1.Code, .int .i64 r1.Index]]) (dt := true) rfl rfl rfl rfl rfl (Nat.le_of_ble_eq_true rfl) rfl rfl rfl rfl ?_
    refine W.nil ?_
    refine Ev.ret ?_
    injection h with h; subst h
    exact ⟨_, rfl, .refl _⟩
  · replace h := iteF h c1
    refine Ev.skip ?_
    refine Ev.seq ?_
    refine Ev.seq ?_
    refine W.reg hm ?_
    refine W.mv rfl ?_
    refine W.nil ?_
    refine Ev.block ?_
    refine Ev.loopW (β := Nat × Int) (fun v => ⟨[(1, .pown 10100 0 0 0), (2, .pown 10101 0 0 0), (3, .int .i64 v.2)], [(10100, ⟨0, 28, 1, [[.list 2 (List.map SPathLines.cells a0.Files)]], true, false, false⟩), (10101, ⟨0, 30, 2, [[.int .i64 0, .int .i64 0]], true, false, false⟩)], 2⟩) (fun v => ref2_TreeFault_l1 n a0 v.1 v.2 = some r) (fun v => v.1) (n, 0) (Wk.nrmTo [1, 2, 3] [(1, 10100), (2, 10101)] rfl rfl) h ?_
    intro ⟨m1, x2⟩ h
    try dsimp only at h ⊢
    cases m1 with
    | zero => rw [ref2_TreeFault_l1] at h; cases h
    | succ m1 =>
      rw [ref2_TreeFault_l1] at h
      refine Ev.seq ?_
      refine Ev.seq ?_
      refine W.reg hm ?_
      refine W.mv rfl ?_
      refine W.fieldAddrO rfl rfl ?_
      refine W.loadO (p := .list 2 (List.map SPathLines.cells a0.Files)) rfl rfl rfl rfl ?_
      refine W.lenL (c := SPathLines.cells) rfl ?_
      refine W.lss rfl rfl ?_
      refine W.nil ?_
      refine Ev.cond rfl (fun c3 => ?_) (fun c3 => ?_)
      · replace h := iteT h c3
        refine Ev.skip ?_
        refine Ev.seq ?_
        refine Ev.block ?_
        refine Ev.seq ?_
        refine W.reg hm ?_
        refine W.fieldAddrO rfl rfl ?_
        refine W.loadO (p := .list 2 (List.map SPathLines.cells a0.Files)) rfl rfl rfl rfl ?_
        refine W.mv rfl ?_
        obtain ⟨e3, k4, h⟩ := obind h
        refine W.idxL (c := SPathLines.cells) rfl rfl k4 ?_
        refine W.load rfl rfl ?_
        refine W.alloc (dt := true) rfl rfl rfl ?_
        refine W.store (es' := [[.str e3.Path, .list 1 (List.map cS e3.Lines)]]) (dt := true) rfl rfl rfl rfl rfl (Nat.le_of_ble_eq_true rfl) rfl rfl rfl rfl ?_
        refine W.nil ?_
        refine Ev.seq ?_
        refine Ev.seq ?_
        refine W.reg hm ?_
        refine W.fieldAddrO rfl rfl ?_
        refine W.loadO (p := .str e3.Path) rfl rfl rfl rfl ?_
        obtain ⟨r4, k5, h⟩ := obind h
        refine W.call (ref2_PathValid_spec n e3.Path r4 k5) rfl rfl (Les.refl _) rfl (.inl rfl) rfl ?_
        refine W.not rfl ?_
        refine W.nil ?_
        refine Ev.cond rfl (fun c6 => ?_) (fun c6 => ?_)
        · replace h := iteT h c6
          refine Ev.seq ?_
          refine W.reg hm ?_
          refine W.mv rfl ?_
          obtain ⟨r5, k7, h⟩ := obind h
          refine W.call (ref1_At_spec n 12 x2 r5 k7) rfl rfl (Les.refl _) rfl (.inl rfl) rfl ?_
          refine W.store (es' := [[.int .i64 r5.Code, .int .i64 r5.Index]]) (dt := true) rfl rfl rfl rfl rfl (Nat.le_of_ble_eq_true rfl) rfl rfl rfl rfl ?_
          refine W.nil ?_
          refine Ev.ret ?_
          injection h with h; subst h
          exact ⟨_, rfl, .refl _⟩
        · replace h := iteF h c6
          refine Ev.skip ?_
          refine Ev.seq ?_
          refine Ev.seqJ (γ := Bool) (fun v => ⟨[(1, .pown 10200 0 0 0), (2, .pown 10201 0 0 0), (3, .int .i64 x2), (4, .pown 10202 0 0 0), (43, .bool v)], [(10200, ⟨0, 28, 1, [[.list 2 (List.map SPathLines.cells a0.Files)]], true, false, false⟩), (10201, ⟨0, 30, 2, [[.int .i64 0, .int .i64 0]], true, false, false⟩), (10202, ⟨0, 61, 2, [[.str e3.Path, .list 1 (List.map cS e3.Lines)]], true, false, false⟩)], 2⟩) (fun v => ref2_TreeFault_j1 n a0 x2 (ref2_TreeFault_l1 n a0 m1) e3 v = some r) ?_ ?_
          · refine W.regD hm ?_
            refine W.mv rfl ?_
            refine W.gtr rfl rfl ?_
            refine W.mv rfl ?_
            refine W.split 32 rfl (fun c20 => ?_) (fun c20 => ?_)
            · replace h := iteT h c20
              refine W.guardT rfl c20 ?_
              refine W.fieldAddrO rfl rfl ?_
              refine W.guardT rfl c20 ?_
              refine W.loadO (p := .str e3.Path) rfl rfl rfl rfl ?_
              refine W.guardT rfl c20 ?_
              refine W.fieldAddrO rfl rfl ?_
              refine W.guardT rfl c20 ?_
              refine W.loadO (p := .list 2 (List.map SPathLines.cells a0.Files)) rfl rfl rfl rfl ?_
              refine W.guardT rfl c20 ?_
              refine W.mv rfl ?_
              refine W.guardT rfl c20 ?_
              obtain ⟨x16, k21, h⟩ := obind h
              refine W.subG rfl rfl k21 ?_
              refine W.guardT rfl c20 ?_
              obtain ⟨e17, k22, h⟩ := obind h
              refine W.idxL (c := SPathLines.cells) rfl rfl k22 ?_
              refine W.guardT rfl c20 ?_
              refine W.fieldAddr rfl ?_
              refine W.guardT rfl c20 ?_
              refine W.load rfl rfl ?_
              refine W.guardT rfl c20 ?_
              refine W.sleq rfl rfl ?_
              refine W.pickT rfl rfl rfl c20 ?_
              refine W.nil ⟨rfl, ?_⟩
              exact ⟨(Op.bytesLess e3.Path e17.Path || e3.Path == e17.Path), h, Wk.nrmTo [1, 2, 3, 4, 43] [(10100, 10200), (10101, 10201), (4, 10202)] rfl rfl⟩
            · replace h := iteF h c20
              refine W.guardF1 rfl c20 ?_
              refine W.guardF1 rfl c20 ?_
              refine W.guardF1 rfl c20 ?_
              refine W.guardF1 rfl c20 ?_
              refine W.guardF1 rfl c20 ?_
              refine W.guardF1 rfl c20 ?_
              refine W.guardF1 rfl c20 ?_
              refine W.guardF1 rfl c20 ?_
              refine W.guardF1 rfl c20 ?_
              refine W.guardF1 rfl c20 ?_
              refine W.pickN rfl rfl rfl c20 ?_
              refine W.nil ⟨rfl, ?_⟩
              exact ⟨false, h, Wk.nrmTo [1, 2, 3, 4, 43] [(10100, 10200), (10101, 10201), (4, 10202)] rfl rfl⟩
          · intro x6 h
            try dsimp only at h ⊢
            unfold ref2_TreeFault_j1 at h
            refine Ev.cond rfl (fun c8 => ?_) (fun c8 => ?_)
            · replace h := iteT h c8
              refine Ev.seq ?_
              refine W.reg hm ?_
              refine W.mv rfl ?_
              obtain ⟨r7, k9, h⟩ := obind h
              refine W.call (ref1_At_spec n 5 x2 r7 k9) rfl rfl (Les.refl _) rfl (.inl rfl) rfl ?_
              refine W.store (es' := [[.int .i64 r7.Code, .int .i64 r7.Index]]) (dt := true) rfl rfl rfl rfl rfl (Nat.le_of_ble_eq_true rfl) rfl rfl rfl rfl ?_
              refine W.nil ?_
              refine Ev.ret ?_
              injection h with h; subst h
              exact ⟨_, rfl, .refl _⟩
            · replace h := iteF h c8
              refine Ev.skip ?_
              refine Ev.seq ?_
              refine Ev.seq ?_
              refine W.reg hm ?_
              refine W.mv rfl ?_
              refine W.nil ?_
              refine Ev.block ?_
              refine Ev.loopW (β := Nat × Int) (fun v => ⟨[(1, .pown 10300 0 0 0), (2, .pown 10301 0 0 0), (3, .int .i64 x2), (4, .pown 10302 0 0 0), (5, .int .i64 v.2)], [(10300, ⟨0, 28, 1, [[.list 2 (List.map SPathLines.cells a0.Files)]], true, false, false⟩), (10301, ⟨0, 30, 2, [[.int .i64 0, .int .i64 0]], true, false, false⟩), (10302, ⟨0, 61, 2, [[.str e3.Path, .list 1 (List.map cS e3.Lines)]], true, false, false⟩)], 2⟩) (fun v => ref2_TreeFault_l2 n a0 x2 (ref2_TreeFault_l1 n a0 m1) e3 v.1 v.2 = some r) (fun v => v.1) (n, 0) (Wk.nrmTo [1, 2, 3, 4, 5] [(10200, 10300), (10201, 10301), (10202, 10302)] rfl rfl) h ?_
              intro ⟨m2, x8⟩ h
              try dsimp only at h ⊢
              cases m2 with
              | zero => rw [ref2_TreeFault_l2] at h; cases h
              | succ m2 =>
                rw [ref2_TreeFault_l2] at h
                refine Ev.seq ?_
                refine Ev.seq ?_
                refine W.reg hm ?_
                refine W.mv rfl ?_
                refine W.mv rfl ?_
                refine W.lss rfl rfl ?_
                refine W.nil ?_
                refine Ev.cond rfl (fun c10 => ?_) (fun c10 => ?_)
                · replace h := iteT h c10
                  refine Ev.skip ?_
                  refine Ev.seq ?_
                  refine Ev.block ?_
                  refine Ev.seq ?_
                  refine W.regD hm ?_
                  refine W.fieldAddrO rfl rfl ?_
                  refine W.loadO (p := .list 2 (List.map SPathLines.cells a0.Files)) rfl rfl rfl rfl ?_
                  refine W.mv rfl ?_
                  obtain ⟨e9, k11, h⟩ := obind h
                  refine W.idxL (c := SPathLines.cells) rfl rfl k11 ?_
                  refine W.fieldAddr rfl ?_
                  refine W.load rfl rfl ?_
                  refine W.fieldAddrO rfl rfl ?_
                  refine W.loadO (p := .str e3.Path) rfl rfl rfl rfl ?_
                  obtain ⟨r10, k12, h⟩ := obind h
                  refine W.call (ref2_Related_spec n e9.Path e3.Path r10 k12) rfl rfl (Les.refl _) rfl (.inl rfl) rfl ?_
                  refine W.nil ⟨rfl, ?_⟩
                  refine Ev.cond rfl (fun c13 => ?_) (fun c13 => ?_)
                  · replace h := iteT h c13
                    refine Ev.seq ?_
                    refine W.reg hm ?_
                    refine W.mv rfl ?_
                    obtain ⟨r11, k14, h⟩ := obind h
                    refine W.call (ref1_At_spec n 7 x2 r11 k14) rfl rfl (Les.refl _) rfl (.inl rfl) rfl ?_
                    refine W.store (es' := [[.int .i64 r11.Code, .int .i64 r11.Index]]) (dt := true) rfl rfl rfl rfl rfl (Nat.le_of_ble_eq_true rfl) rfl rfl rfl rfl ?_
                    refine W.nil ?_
                    refine Ev.ret ?_
                    injection h with h; subst h
                    exact ⟨_, rfl, .refl _⟩
                  · replace h := iteF h c13
                    refine Ev.skip ?_
                    refine W.reg hm ?_
                    refine W.mv rfl ?_
                    obtain ⟨x12, k15, h⟩ := obind h
                    refine W.addG rfl rfl k15 ?_
                    refine W.mv rfl ?_
                    refine W.nil ?_
                    exact ⟨(m2, x12), h, Nat.lt_succ_self _, Wk.nrmTo [1, 2, 3, 4, 5] [(10300, 10300), (10301, 10301), (10302, 10302)] rfl rfl⟩
                · replace h := iteF h c10
                  refine Ev.exit ?_
                  refine Ev.seq ?_
                  refine W.reg hm ?_
                  refine W.fieldAddrO rfl rfl ?_
                  refine W.loadO (p := .list 1 (List.map cS e3.Lines)) rfl rfl rfl rfl ?_
                  obtain ⟨r13, k16, h⟩ := obind h
                  refine W.call (ref1_LinesCode_spec n e3.Lines r13 k16) rfl rfl (Les.refl _) rfl (.inl rfl) rfl ?_
                  refine W.mv rfl ?_
                  refine W.nil ?_
                  refine Ev.seq ?_
                  refine W.reg hm ?_
                  refine W.mv rfl ?_
                  refine W.neq rfl rfl ?_
                  refine W.nil ?_
                  refine Ev.cond rfl (fun c17 => ?_) (fun c17 => ?_)
                  · replace h := iteT h c17
                    refine Ev.seq ?_
                    refine W.reg hm ?_
                    refine W.mv rfl ?_
                    refine W.mv rfl ?_
                    obtain ⟨r14, k18, h⟩ := obind h
                    refine W.call (ref1_At_spec n r13 x2 r14 k18) rfl rfl (Les.refl _) rfl (.inl rfl) rfl ?_
                    refine W.store (es' := [[.int .i64 r14.Code, .int .i64 r14.Index]]) (dt := true) rfl rfl rfl rfl rfl (Nat.le_of_ble_eq_true rfl) rfl rfl rfl rfl ?_
                    refine W.nil ?_
                    refine Ev.ret ?_
                    injection h with h; subst h
                    exact ⟨_, rfl, .refl _⟩
                  · replace h := iteF h c17
                    refine Ev.skip ?_
                    refine W.reg hm ?_
                    refine W.mv rfl ?_
                    obtain ⟨x15, k19, h⟩ := obind h
                    refine W.addG rfl rfl k19 ?_
                    refine W.mv rfl ?_
                    refine W.nil ?_
                    exact ⟨(m1, x15), h, Nat.lt_succ_self _, Wk.nrmTo [1, 2, 3] [(10300, 10100), (10301, 10101)] rfl rfl⟩
      · replace h := iteF h c3
        refine Ev.exit ?_
        refine Ev.seq ?_
        refine W.reg hm ?_
        refine W.build (cs := [.int .i64 0, .int .i64 0]) rfl rfl rfl ?_
        refine W.store (es' := [[.int .i64 0, .int .i64 0]]) (dt := true) rfl rfl rfl rfl rfl (Nat.le_of_ble_eq_true rfl) rfl rfl rfl rfl ?_
        refine W.nil ?_
        refine Ev.ret ?_
        injection h with h; subst h
        exact ⟨_, rfl, .refl _⟩

theorem ref6_TreeAt_spec (n : Nat) (a0 : SFiles) (a1 : Int) (r : SCodeIndex) (h : ref6_TreeAt n a0 a1 = some r) : PSpec Tryd.prog 35 [.agg (SFiles.cells a0), .int .i64 a1] (.agg (SCodeIndex.cells r)) := by
  unfold ref6_TreeAt at h
  refine spec_of Tryd.c_ref6_TreeAt (by simp) ?_
  unfold Tryd.l_ref6_TreeAt
  refine Ev.seq ?_
  refine W.reg hm ?_
  refine W.box (dt := true) (cs := [.list 2 (List.map SPathLines.cells a0.Files)]) rfl rfl rfl rfl rfl rfl ?_
  refine W.alloc (dt := true) rfl rfl rfl ?_
  refine W.nil ?_
  refine Ev.seq ?_
  refine W.reg hm ?_
  refine W.loadO (p := .agg [.list 2 (List.map SPathLines.cells a0.Files)]) rfl rfl rfl rfl ?_
  obtain ⟨r1, k1, h⟩ := obind h
  refine W.call (ref2_TreeFault_spec n a0 r1 k1) rfl rfl (Les.refl _) rfl (.inl rfl) rfl ?_
  refine W.alloc (dt := true) rfl rfl rfl ?_
  refine W.store (es' := [[.int .i64 r1.Code, .int .i64 r1.Index]]) (dt := true) rfl rfl rfl rfl rfl (Nat.le_of_ble_eq_true rfl) rfl rfl rfl rfl ?_
  refine W.nil ?_
  refine Ev.seqJ (γ := Int) (fun v => ⟨[(4, .pown 10100 0 0 0), (5, .pown 10101 0 0 0)], [(10100, ⟨0, 30, 2, [[.int .i64 0, .int .i64 0]], true, false, false⟩), (10101, ⟨0, 30, 2, [[.int .i64 r1.Code, .int .i64 v]], true, false, false⟩)], 2⟩) (fun v => ref6_TreeAt_j1 n r1 v = some r) ?_ ?_
  · refine Ev.seq ?_
    refine W.reg hm ?_
    refine W.fieldAddrO rfl rfl ?_
    refine W.loadO (p := .int .i64 r1.Code) rfl rfl rfl rfl ?_
    refine W.neq rfl rfl ?_
    refine W.nil ?_
    refine Ev.cond rfl (fun c2 => ?_) (fun c2 => ?_)
    · replace h := iteT h c2
      refine W.reg hm ?_
      refine W.mv rfl ?_
      refine W.fieldAddrO rfl rfl ?_
      refine W.store (es' := [[.int .i64 r1.Code, .int .i64 a1]]) (dt := true) rfl rfl rfl rfl rfl (Nat.le_of_ble_eq_true rfl) rfl rfl rfl rfl ?_
      refine W.nil ?_
      exact ⟨a1, h, Wk.nrmTo [4, 5] [(4, 10100), (5, 10101)] rfl rfl⟩
    · replace h := iteF h c2
      refine Ev.skip ?_
      exact ⟨r1.Index, h, Wk.nrmTo [4, 5] [(4, 10100), (5, 10101)] rfl rfl⟩
  · intro b2 h
    try dsimp only at h ⊢
    unfold ref6_TreeAt_j1 at h
    refine Ev.seq ?_
    refine W.reg hm ?_
    refine W.loadO (p := .agg [.int .i64 r1.Code, .int .i64 b2]) rfl rfl rfl rfl ?_
    refine W.store (es' := [[.int .i64 r1.Code, .int .i64 b2]]) (dt := true) rfl rfl rfl rfl rfl (Nat.le_of_ble_eq_true rfl) rfl rfl rfl rfl ?_
    refine W.nil ?_
    refine Ev.ret ?_
    injection h with h; subst h
    exact ⟨_, rfl, .refl _⟩

theorem ref6_RunFault_spec (n : Nat) (a0 : SInputsOpsOutput) (a1 : SFiles) (r : SCodeIndex) (h : ref6_RunFault n a0 a1 = some r) : PSpec Tryd.prog 15 [.agg (SInputsOpsOutput.cells a0), .agg (SFiles.cells a1)] (.agg (SCodeIndex.cells r)) := by
  unfold ref6_RunFault at h
  refine spec_of Tryd.c_ref6_RunFault (by simp) ?_
  unfold Tryd.l_ref6_RunFault
  refine Ev.seq ?_
  refine W.reg hm ?_
  refine W.box (dt := true) (cs := [.list 1 (List.map cS a0.Inputs), .list 2 (List.map SKindText.cells a0.Ops), .str a0.Output]) rfl rfl rfl rfl rfl rfl ?_
  refine W.box (dt := true) (cs := [.list 2 (List.map SPathLines.cells a1.Files)]) rfl rfl rfl rfl rfl rfl ?_
  refine W.alloc (dt := true) rfl rfl rfl ?_
  refine W.nil ?_
  refine Ev.seq ?_
  refine W.reg hm ?_
  refine W.loadO (p := .agg [.list 1 (List.map cS a0.Inputs), .list 2 (List.map SKindText.cells a0.Ops), .str a0.Output]) rfl rfl rfl rfl ?_
  obtain ⟨r1, k1, h⟩ := obind h
  refine W.call (ref6_ActionFault_spec n a0 r1 k1) rfl rfl (Les.refl _) rfl (.inl rfl) rfl ?_
  refine W.alloc (dt := true) rfl rfl rfl ?_
  refine W.store (es' := [[.int .i64 r1.Code, .int .i64 r1.Index]]) (dt := true) rfl rfl rfl rfl rfl (Nat.le_of_ble_eq_true rfl) rfl rfl rfl rfl ?_
  refine W.nil ?_
  refine Ev.seqJ (γ := Int × Int) (fun v => ⟨[(4, .pown 10100 0 0 0), (5, .pown 10101 0 0 0)], [(10100, ⟨0, 30, 2, [[.int .i64 0, .int .i64 0]], true, false, false⟩), (10101, ⟨0, 30, 2, [[.int .i64 v.1, .int .i64 v.2]], true, false, false⟩)], 2⟩) (fun v => ref6_RunFault_j1 n v.1 v.2 = some r) ?_ ?_
  · refine Ev.seq ?_
    refine W.reg hm ?_
    refine W.fieldAddrO rfl rfl ?_
    refine W.loadO (p := .int .i64 r1.Code) rfl rfl rfl rfl ?_
    refine W.eql rfl rfl ?_
    refine W.nil ?_
    refine Ev.cond rfl (fun c2 => ?_) (fun c2 => ?_)
    · replace h := iteT h c2
      refine W.reg hm ?_
      refine W.loadO (p := .agg [.list 2 (List.map SPathLines.cells a1.Files)]) rfl rfl rfl rfl ?_
      obtain ⟨r4, k3, h⟩ := obind h
      refine W.call (ref6_TreeAt_spec n a1 (-20) r4 k3) rfl rfl (Les.refl _) rfl (.inl rfl) rfl ?_
      refine W.store (es' := [[.int .i64 r4.Code, .int .i64 r4.Index]]) (dt := true) rfl rfl rfl rfl rfl (Nat.le_of_ble_eq_true rfl) rfl rfl rfl rfl ?_
      refine W.nil ?_
      exact ⟨(r4.Code, r4.Index), h, Wk.nrmTo [4, 5] [(4, 10100), (5, 10101)] rfl rfl⟩
    · replace h := iteF h c2
      refine Ev.skip ?_
      exact ⟨(r1.Code, r1.Index), h, Wk.nrmTo [4, 5] [(4, 10100), (5, 10101)] rfl rfl⟩
  · intro ⟨b2, b3⟩ h
    try dsimp only at h ⊢
    unfold ref6_RunFault_j1 at h
    refine Ev.seq ?_
    refine W.reg hm ?_
    refine W.loadO (p := .agg [.int .i64 b2, .int .i64 b3]) rfl rfl rfl rfl ?_
    refine W.store (es' := [[.int .i64 b2, .int .i64 b3]]) (dt := true) rfl rfl rfl rfl rfl (Nat.le_of_ble_eq_true rfl) rfl rfl rfl rfl ?_
    refine W.nil ?_
    refine Ev.ret ?_
    injection h with h; subst h
    exact ⟨_, rfl, .refl _⟩

theorem ref6_HasString_spec (n : Nat) (a0 : List (List UInt8)) (a1 : List UInt8) (r : Bool) (h : ref6_HasString n a0 a1 = some r) : PSpec Tryd.prog 21 [.list 1 (List.map cS a0), .str a1] (.bool r) := by
  unfold ref6_HasString at h
  refine spec_of Tryd.c_ref6_HasString (by simp) ?_
  unfold Tryd.l_ref6_HasString
  refine Ev.seq ?_
  refine W.reg hm ?_
  refine W.mv rfl ?_
  refine W.nil ?_
  refine Ev.seq ?_
  refine Ev.seq ?_
  refine W.reg hm ?_
  refine W.mv rfl ?_
  refine W.nil ?_
  refine Ev.block ?_
  refine Ev.loopW (β := Nat × Int) (fun v => ⟨[(0, .list 1 (List.map cS a0)), (1, .str a1), (5, .int .i64 v.2)], [], 2⟩) (fun v => ref6_HasString_l1 n a0 a1 v.1 v.2 = some r) (fun v => v.1) (n, 0) (Wk.nrmTo [0, 1, 5] [] rfl rfl) h ?_
  intro ⟨m1, x1⟩ h
  try dsimp only at h ⊢
  cases m1 with
  | zero => rw [ref6_HasString_l1] at h; cases h
  | succ m1 =>
    rw [ref6_HasString_l1] at h
    refine Ev.seq ?_
    refine Ev.seq ?_
    refine W.reg hm ?_
    refine W.mv rfl ?_
    refine W.mv rfl ?_
    refine W.lenL (c := cS) rfl ?_
    refine W.lss rfl rfl ?_
    refine W.nil ?_
    refine Ev.cond rfl (fun c1 => ?_) (fun c1 => ?_)
    · replace h := iteT h c1
      refine Ev.skip ?_
      refine Ev.seq ?_
      refine Ev.block ?_
      refine Ev.seq ?_
      refine W.reg hm ?_
      refine W.mv rfl ?_
      refine W.mv rfl ?_
      obtain ⟨e2, k2, h⟩ := obind h
      refine W.idxL (c := cS) rfl rfl k2 ?_
      refine W.load rfl rfl ?_
      refine W.mv rfl ?_
      refine W.seql rfl rfl ?_
      refine W.nil ?_
      refine Ev.cond rfl (fun c3 => ?_) (fun c3 => ?_)
      · replace h := iteT h c3
        refine Ev.seq ?_
        refine W.reg hm ?_
        refine W.mv rfl ?_
        refine W.nil ?_
        refine Ev.ret ?_
        injection h with h; subst h
        exact ⟨_, rfl, .refl _⟩
      · replace h := iteF h c3
        refine Ev.skip ?_
        refine W.reg hm ?_
        refine W.mv rfl ?_
        obtain ⟨x3, k4, h⟩ := obind h
        refine W.addG rfl rfl k4 ?_
        refine W.mv rfl ?_
        refine W.nil ?_
        exact ⟨(m1, x3), h, Nat.lt_succ_self _, Wk.nrmTo [0, 1, 5] [] rfl rfl⟩
    · replace h := iteF h c1
      refine Ev.exit ?_
      refine Ev.seq ?_
      refine W.reg hm ?_
      refine W.mv rfl ?_
      refine W.nil ?_
      refine Ev.ret ?_
      injection h with h; subst h
      exact ⟨_, rfl, .refl _⟩

theorem ref6_Restricted_spec (n : Nat) (a0 : SFiles) (a1 : List (List UInt8)) (r : SFiles) (h : ref6_Restricted n a0 a1 = some r) : PSpec Tryd.prog 18 [.agg (SFiles.cells a0), .list 1 (List.map cS a1)] (.agg (SFiles.cells r)) := by
  unfold ref6_Restricted at h
  refine spec_of Tryd.c_ref6_Restricted (by simp) ?_
  unfold Tryd.l_ref6_Restricted
  refine Ev.seq ?_
  refine W.reg hm ?_
  refine W.box (dt := true) (cs := [.list 2 (List.map SPathLines.cells a0.Files)]) rfl rfl rfl rfl rfl rfl ?_
  refine W.alloc (dt := true) rfl rfl rfl ?_
  refine W.nil ?_
  refine Ev.seq ?_
  refine W.reg hm ?_
  refine W.alloc (dt := true) rfl rfl rfl ?_
  refine W.nil ?_
  refine Ev.seq ?_
  refine Ev.seq ?_
  refine W.reg hm ?_
  refine W.mv rfl ?_
  refine W.nil ?_
  refine Ev.block ?_
  refine Ev.loopW (β := Nat × (List SPathLines) × Int) (fun v => ⟨[(1, .list 1 (List.map cS a1)), (2, .pown 10100 0 0 0), (4, .pown 10101 0 0 0), (5, .pown 10102 0 0 0), (6, .int .i64 v.2.2)], [(10100, ⟨0, 28, 1, [[.list 2 (List.map SPathLines.cells a0.Files)]], true, false, false⟩), (10101, ⟨0, 28, 1, [[.nils]], true, false, false⟩), (10102, ⟨0, 28, 1, [[.own 10103 0]], false, false, false⟩), (10103, ⟨0, 61, 2, List.map SPathLines.cells v.2.1, true, false, false⟩)], 2⟩) (fun v => ref6_Restricted_l1 n a0 a1 v.1 v.2.1 v.2.2 = some r) (fun v => v.1) (n, ([] : List SPathLines), 0) ((Wk.ownNilCell 5 2 0 30103 61 2 rfl rfl rfl rfl rfl (by simp) true).trans (Wk.nrmTo [1, 2, 4, 5, 6] [(2, 10100), (4, 10101), (5, 10102), (30103, 10103)] rfl rfl)) h ?_
  intro ⟨m1, w1, x2⟩ h
  try dsimp only at h ⊢
  cases m1 with
  | zero => rw [ref6_Restricted_l1] at h; cases h
  | succ m1 =>
    rw [ref6_Restricted_l1] at h
    refine Ev.seq ?_
    refine Ev.seq ?_
    refine W.reg hm ?_
    refine W.mv rfl ?_
    refine W.fieldAddrO rfl rfl ?_
    refine W.loadO (p := .list 2 (List.map SPathLines.cells a0.Files)) rfl rfl rfl rfl ?_
    refine W.lenL (c := SPathLines.cells) rfl ?_
    refine W.lss rfl rfl ?_
    refine W.nil ?_
    refine Ev.cond rfl (fun c1 => ?_) (fun c1 => ?_)
    · replace h := iteT h c1
      refine Ev.skip ?_
      refine Ev.seqJ (γ := List SPathLines) (fun v => ⟨[(1, .list 1 (List.map cS a1)), (2, .pown 10200 0 0 0), (4, .pown 10201 0 0 0), (5, .pown 10202 0 0 0), (6, .int .i64 x2)], [(10200, ⟨0, 28, 1, [[.list 2 (List.map SPathLines.cells a0.Files)]], true, false, false⟩), (10201, ⟨0, 28, 1, [[.nils]], true, false, false⟩), (10202, ⟨0, 28, 1, [[.own 10203 0]], false, false, false⟩), (10203, ⟨0, 61, 2, List.map SPathLines.cells v, true, false, false⟩)], 2⟩) (fun v => ref6_Restricted_j1 n x2 (ref6_Restricted_l1 n a0 a1 m1) v = some r) ?_ ?_
      · refine Ev.block ?_
        refine Ev.seq ?_
        refine W.reg hm ?_
        refine W.mv rfl ?_
        refine W.fieldAddrO rfl rfl ?_
        refine W.loadO (p := .list 2 (List.map SPathLines.cells a0.Files)) rfl rfl rfl rfl ?_
        refine W.mv rfl ?_
        obtain ⟨e5, k3, h⟩ := obind h
        refine W.idxL (c := SPathLines.cells) rfl rfl k3 ?_
        refine W.fieldAddr rfl ?_
        refine W.load rfl rfl ?_
        obtain ⟨r6, k4, h⟩ := obind h
        refine W.call (ref6_HasString_spec n a1 e5.Path r6 k4) rfl rfl (Les.refl _) rfl (.inl rfl) rfl ?_
        refine W.nil ?_
        refine Ev.cond rfl (fun c5 => ?_) (fun c5 => ?_)
        · replace h := iteT h c5
          refine W.regD hm ?_
          refine W.fieldAddrO rfl rfl ?_
          refine W.loadO (p := .own 10103 0) rfl rfl rfl rfl ?_
          refine W.fieldAddrO rfl rfl ?_
          refine W.loadO (p := .list 2 (List.map SPathLines.cells a0.Files)) rfl rfl rfl rfl ?_
          refine W.mv rfl ?_
          refine W.idxL (c := SPathLines.cells) rfl rfl k3 ?_
          refine W.load rfl rfl ?_
          refine W.mkSlice (dt := true) (es := [[.str e5.Path, .list 1 (List.map cS e5.Lines)]]) rfl rfl rfl rfl rfl rfl ?_
          obtain ⟨w7, k6, h⟩ := obind h
          refine W.appR true (l := w1) (c := SPathLines.cells) (ys := ([e5] : List SPathLines)) rfl rfl rfl rfl rfl rfl rfl rfl k6 rfl (by simp) ?_
          refine W.fieldAddrO rfl rfl ?_
          refine W.store (es' := [[.own 30 2]]) (dt := false) rfl rfl rfl rfl rfl (Nat.le_of_ble_eq_true rfl) rfl rfl rfl rfl ?_
          refine W.nil ⟨rfl, ?_⟩
          exact ⟨w7, h, Wk.nrmTo [1, 2, 4, 5, 6] [(10100, 10200), (10101, 10201), (10102, 10202), (30, 10203)] rfl rfl⟩
        · replace h := iteF h c5
          refine Ev.skip ?_
          exact ⟨w1, h, Wk.nrmTo [1, 2, 4, 5, 6] [(10100, 10200), (10101, 10201), (10102, 10202), (10103, 10203)] rfl rfl⟩
      · intro w3 h
        try dsimp only at h ⊢
        unfold ref6_Restricted_j1 at h
        refine W.reg hm ?_
        refine W.mv rfl ?_
        obtain ⟨x4, k2, h⟩ := obind h
        refine W.addG rfl rfl k2 ?_
        refine W.mv rfl ?_
        refine W.nil ?_
        exact ⟨(m1, w3, x4), h, Nat.lt_succ_self _, Wk.nrmTo [1, 2, 4, 5, 6] [(10200, 10100), (10201, 10101), (10202, 10102), (10203, 10103)] rfl rfl⟩
    · replace h := iteF h c1
      refine Ev.exit ?_
      refine Ev.seq ?_
      refine W.reg hm ?_
      refine W.loadO (p := .agg [.own 10103 0]) rfl rfl rfl rfl ?_
      refine W.store (es' := [[.own 10103 0]]) (dt := false) rfl rfl rfl rfl rfl (Nat.le_of_ble_eq_true rfl) rfl rfl rfl rfl ?_
      refine W.nil ?_
      refine Ev.weak ?_ (Wk.frz 10103 0 rfl rfl)
      refine Ev.ret ?_
      injection h with h; subst h
      exact ⟨_, rfl, .refl _⟩

set_option maxHeartbeats 4000000 in
theorem law6_SandboxMatchesSpec_spec (n : Nat) (a0 : SInputsOpsOutput) (a1 : SFiles) (r : Bool) (h : law6_SandboxMatchesSpec n a0 a1 = some r) : PSpec Tryd.prog 3 [.agg (SInputsOpsOutput.cells a0), .agg (SFiles.cells a1)] (.bool r) := by
  unfold law6_SandboxMatchesSpec at h
  refine spec_of Tryd.c_law6_SandboxMatchesSpec (by simp) ?_
  unfold Tryd.l_law6_SandboxMatchesSpec
  refine Ev.seq ?_
  refine W.reg hm ?_
  refine W.box (dt := true) (cs := [.list 1 (List.map cS a0.Inputs), .list 2 (List.map SKindText.cells a0.Ops), .str a0.Output]) rfl rfl rfl rfl rfl rfl ?_
  refine W.box (dt := true) (cs := [.list 2 (List.map SPathLines.cells a1.Files)]) rfl rfl rfl rfl rfl rfl ?_
  refine W.mv rfl ?_
  refine W.nil ?_
  refine Ev.seq ?_
  refine W.reg hm ?_
  refine W.loadO (p := .agg [.list 1 (List.map cS a0.Inputs), .list 2 (List.map SKindText.cells a0.Ops), .str a0.Output]) rfl rfl rfl rfl ?_
  obtain ⟨r1, k1, h⟩ := obind h
  refine W.call (ref6_ActionFault_spec n a0 r1 k1) rfl rfl (Les.refl _) rfl (.inl rfl) rfl ?_
  refine W.alloc (dt := true) rfl rfl rfl ?_
  refine W.store (es' := [[.int .i64 r1.Code, .int .i64 r1.Index]]) (dt := true) rfl rfl rfl rfl rfl (Nat.le_of_ble_eq_true rfl) rfl rfl rfl rfl ?_
  refine W.nil ?_
  refine Ev.seq ?_
  refine Ev.seqJ (γ := Bool) (fun v => ⟨[(2, .pown 10100 0 0 0), (3, .pown 10101 0 0 0), (5, .pown 10102 0 0 0), (18, .bool v)], [(10100, ⟨0, 25, 3, [[.list 1 (List.map cS a0.Inputs), .list 2 (List.map SKindText.cells a0.Ops), .str a0.Output]], true, false, false⟩), (10101, ⟨0, 28, 1, [[.list 2 (List.map SPathLines.cells a1.Files)]], true, false, false⟩), (10102, ⟨0, 30, 2, [[.int .i64 r1.Code, .int .i64 r1.Index]], true, false, false⟩)], 2⟩) (fun v => law6_SandboxMatchesSpec_j1 n a0 a1 r1 v = some r) ?_ ?_
  · refine W.regD hm ?_
    obtain ⟨r16, k25, h⟩ := obind h
    refine W.call (law6_runs_spec n r16 k25) rfl rfl (Les.refl _) rfl (.inl rfl) rfl ?_
    refine W.not rfl ?_
    refine W.mv rfl ?_
    refine W.split 13 rfl (fun c26 => ?_) (fun c26 => ?_)
    · replace h := iteT h c26
      refine W.guardF2 rfl c26 ?_
      refine W.guardF2 rfl c26 ?_
      refine W.guardF2 rfl c26 ?_
      refine W.guardF2 rfl c26 ?_
      refine W.pickT rfl rfl rfl c26 ?_
      refine W.nil ⟨rfl, ?_⟩
      exact ⟨true, h, Wk.nrmTo [2, 3, 5, 18] [(2, 10100), (3, 10101), (5, 10102)] rfl rfl⟩
    · replace h := iteF h c26
      refine W.guardT rfl c26 ?_
      refine W.loadO (p := .agg [.list 1 (List.map cS a0.Inputs), .list 2 (List.map SKindText.cells a0.Ops), .str a0.Output]) rfl rfl rfl rfl ?_
      refine W.guardT rfl c26 ?_
      obtain ⟨r17, k27, h⟩ := obind h
      refine W.call (sandbox_Validate_spec n a0 r17 k27) rfl rfl (Les.refl _) rfl (.inl rfl) rfl ?_
      refine W.guardT rfl c26 ?_
      refine W.loadO (p := .agg [.int .i64 r1.Code, .int .i64 r1.Index]) rfl rfl rfl rfl ?_
      refine W.guardT rfl c26 ?_
      refine W.eqs rfl rfl rfl ?_
      refine W.pickN rfl rfl rfl c26 ?_
      refine W.nil ⟨rfl, ?_⟩
      exact ⟨((r17.Code == r1.Code && (r17.Index == r1.Index && true)) != true), h, Wk.nrmTo [2, 3, 5, 18] [(2, 10100), (3, 10101), (5, 10102)] rfl rfl⟩
  · intro x2 h
    try dsimp only at h ⊢
    unfold law6_SandboxMatchesSpec_j1 at h
    refine Ev.cond rfl (fun c2 => ?_) (fun c2 => ?_)
    · replace h := iteT h c2
      refine Ev.seq ?_
      refine W.reg hm ?_
      refine W.mv rfl ?_
      refine W.nil ?_
      refine Ev.ret ?_
      injection h with h; subst h
      exact ⟨_, rfl, .refl _⟩
    · replace h := iteF h c2
      refine Ev.skip ?_
      refine Ev.seq ?_
      refine W.reg hm ?_
      refine W.loadO (p := .agg [.list 1 (List.map cS a0.Inputs), .list 2 (List.map SKindText.cells a0.Ops), .str a0.Output]) rfl rfl rfl rfl ?_
      obtain ⟨r3, k3, h⟩ := obind h
      refine W.call (sandbox_Reads_spec n a0 r3 k3) rfl rfl (Les.refl _) rfl (.inl rfl) rfl ?_
      refine W.mv rfl ?_
      refine W.extract rfl rfl ?_
      refine W.extract rfl rfl ?_
      refine W.alloc (dt := true) rfl rfl rfl ?_
      refine W.mv rfl ?_
      refine W.store (es' := [[.int .i64 r3.2.Code, .int .i64 r3.2.Index]]) (dt := true) rfl rfl rfl rfl rfl (Nat.le_of_ble_eq_true rfl) rfl rfl rfl rfl ?_
      refine W.nil ?_
      refine Ev.seq ?_
      refine Ev.seqJ (γ := Bool) (fun v => ⟨[(2, .pown 10200 0 0 0), (3, .pown 10201 0 0 0), (5, .pown 10202 0 0 0), (7, .pown 10203 0 0 0), (48, .bool v)], [(10200, ⟨0, 25, 3, [[.list 1 (List.map cS a0.Inputs), .list 2 (List.map SKindText.cells a0.Ops), .str a0.Output]], true, false, false⟩), (10201, ⟨0, 28, 1, [[.list 2 (List.map SPathLines.cells a1.Files)]], true, false, false⟩), (10202, ⟨0, 30, 2, [[.int .i64 r1.Code, .int .i64 r1.Index]], true, false, false⟩), (10203, ⟨0, 30, 2, [[.int .i64 r3.2.Code, .int .i64 r3.2.Index]], true, false, false⟩)], 2⟩) (fun v => law6_SandboxMatchesSpec_j2 n a0 a1 v = some r) ?_ ?_
      · refine W.reg hm ?_
        refine W.loadO (p := .agg [.int .i64 r3.2.Code, .int .i64 r3.2.Index]) rfl rfl rfl rfl ?_
        refine W.loadO (p := .agg [.int .i64 r1.Code, .int .i64 r1.Index]) rfl rfl rfl rfl ?_
        refine W.eqs rfl rfl rfl ?_
        refine W.mv rfl ?_
        refine W.split 27 rfl (fun c16 => ?_) (fun c16 => ?_)
        · replace h := iteT h c16
          refine W.guardF2 rfl c16 ?_
          refine W.guardF2 rfl c16 ?_
          refine W.guardF2 rfl c16 ?_
          refine W.guardF2 rfl c16 ?_
          refine W.guardU rfl ?_
          refine W.guardU rfl ?_
          refine W.guardU rfl ?_
          refine W.guardF2 rfl c16 ?_
          refine W.pickT rfl rfl rfl c16 ?_
          refine W.mv rfl ?_
          refine W.guardF2 rfl rfl ?_
          refine W.guardF2 rfl rfl ?_
          refine W.guardF2 rfl rfl ?_
          refine W.guardF2 rfl rfl ?_
          refine W.guardU rfl ?_
          refine W.guardU rfl ?_
          refine W.guardU rfl ?_
          refine W.guardU rfl ?_
          refine W.guardU rfl ?_
          refine W.guardF2 rfl rfl ?_
          refine W.pickT rfl rfl rfl rfl ?_
          refine W.nil ?_
          exact ⟨true, h, Wk.nrmTo [2, 3, 5, 7, 48] [(10100, 10200), (10101, 10201), (10102, 10202), (7, 10203)] rfl rfl⟩
        · replace h := iteF h c16
          refine W.guardT rfl c16 ?_
          refine W.fieldAddrO rfl rfl ?_
          refine W.guardT rfl c16 ?_
          refine W.loadO (p := .int .i64 r1.Code) rfl rfl rfl rfl ?_
          refine W.guardT rfl c16 ?_
          refine W.neq rfl rfl ?_
          refine W.guardT rfl c16 ?_
          refine W.mv rfl ?_
          refine W.split 31 rfl (fun c17 => ?_) (fun c17 => ?_)
          · replace h := iteT h c17
            refine W.guardT rfl c17 ?_
            refine W.mv rfl ?_
            refine W.guardT rfl c17 ?_
            refine W.lenL (c := cS) rfl ?_
            refine W.guardT rfl c17 ?_
            refine W.gtr rfl rfl ?_
            refine W.guardT rfl c16 ?_
            refine W.pickT rfl rfl rfl c17 ?_
            refine W.pickN rfl rfl rfl c16 ?_
            refine W.mv rfl ?_
            refine W.split 37 rfl (fun c18 => ?_) (fun c18 => ?_)
            · replace h := iteT h c18
              refine W.guardF2 rfl c18 ?_
              refine W.guardF2 rfl c18 ?_
              refine W.guardF2 rfl c18 ?_
              refine W.guardF2 rfl c18 ?_
              refine W.guardU rfl ?_
              refine W.guardU rfl ?_
              refine W.guardU rfl ?_
              refine W.guardU rfl ?_
              refine W.guardU rfl ?_
              refine W.guardF2 rfl c18 ?_
              refine W.pickT rfl rfl rfl c18 ?_
              refine W.nil ?_
              exact ⟨true, h, Wk.nrmTo [2, 3, 5, 7, 48] [(10100, 10200), (10101, 10201), (10102, 10202), (7, 10203)] rfl rfl⟩
            · replace h := iteF h c18
              refine W.guardT rfl c18 ?_
              refine W.fieldAddrO rfl rfl ?_
              refine W.guardT rfl c18 ?_
              refine W.loadO (p := .int .i64 r1.Code) rfl rfl rfl rfl ?_
              refine W.guardT rfl c18 ?_
              refine W.eql rfl rfl ?_
              refine W.guardT rfl c18 ?_
              refine W.mv rfl ?_
              refine W.split 41 rfl (fun c19 => ?_) (fun c19 => ?_)
              · replace h := iteT h c19
                refine W.guardT rfl c19 ?_
                refine W.mv rfl ?_
                refine W.guardT rfl c19 ?_
                refine W.loadO (p := .agg [.list 1 (List.map cS a0.Inputs), .list 2 (List.map SKindText.cells a0.Ops), .str a0.Output]) rfl rfl rfl rfl ?_
                refine W.guardT rfl c19 ?_
                obtain ⟨r12, k20, h⟩ := obind h
                refine W.call (ref6_ReadPaths_spec n a0 r12 k20) rfl rfl (Les.refl _) rfl (.inl rfl) rfl ?_
                refine W.guardT rfl c19 ?_
                obtain ⟨r13, k21, h⟩ := obind h
                refine W.call (ref6_Strings_spec n r3.1 r12 r13 k21) rfl rfl (Les.refl _) rfl (.inl rfl) rfl ?_
                refine W.guardT rfl c19 ?_
                refine W.not rfl ?_
                refine W.guardT rfl c18 ?_
                refine W.pickT rfl rfl rfl c19 ?_
                refine W.pickN rfl rfl rfl c18 ?_
                refine W.nil ?_
                exact ⟨(!r13), h, Wk.nrmTo [2, 3, 5, 7, 48] [(10100, 10200), (10101, 10201), (10102, 10202), (7, 10203)] rfl rfl⟩
              · replace h := iteF h c19
                refine W.guardF1 rfl c19 ?_
                refine W.guardF1 rfl c19 ?_
                refine W.guardF1 rfl c19 ?_
                refine W.guardF1 rfl c19 ?_
                refine W.guardF1 rfl c19 ?_
                refine W.guardT rfl c18 ?_
                refine W.pickN rfl rfl rfl c19 ?_
                refine W.pickN rfl rfl rfl c18 ?_
                refine W.nil ?_
                exact ⟨false, h, Wk.nrmTo [2, 3, 5, 7, 48] [(10100, 10200), (10101, 10201), (10102, 10202), (7, 10203)] rfl rfl⟩
          · replace h := iteF h c17
            refine W.guardF1 rfl c17 ?_
            refine W.guardF1 rfl c17 ?_
            refine W.guardF1 rfl c17 ?_
            refine W.guardT rfl c16 ?_
            refine W.pickN rfl rfl rfl c17 ?_
            refine W.pickN rfl rfl rfl c16 ?_
            refine W.mv rfl ?_
            refine W.guardT rfl rfl ?_
            refine W.fieldAddrO rfl rfl ?_
            refine W.guardT rfl rfl ?_
            refine W.loadO (p := .int .i64 r1.Code) rfl rfl rfl rfl ?_
            refine W.guardT rfl rfl ?_
            refine W.eql rfl rfl ?_
            refine W.guardT rfl rfl ?_
            refine W.mv rfl ?_
            refine W.split 41 rfl (fun c22 => ?_) (fun c22 => ?_)
            · replace h := iteT h c22
              refine W.guardT rfl c22 ?_
              refine W.mv rfl ?_
              refine W.guardT rfl c22 ?_
              refine W.loadO (p := .agg [.list 1 (List.map cS a0.Inputs), .list 2 (List.map SKindText.cells a0.Ops), .str a0.Output]) rfl rfl rfl rfl ?_
              refine W.guardT rfl c22 ?_
              obtain ⟨r14, k23, h⟩ := obind h
              refine W.call (ref6_ReadPaths_spec n a0 r14 k23) rfl rfl (Les.refl _) rfl (.inl rfl) rfl ?_
              refine W.guardT rfl c22 ?_
              obtain ⟨r15, k24, h⟩ := obind h
              refine W.call (ref6_Strings_spec n r3.1 r14 r15 k24) rfl rfl (Les.refl _) rfl (.inl rfl) rfl ?_
              refine W.guardT rfl c22 ?_
              refine W.not rfl ?_
              refine W.guardT rfl rfl ?_
              refine W.pickT rfl rfl rfl c22 ?_
              refine W.pickN rfl rfl rfl rfl ?_
              refine W.nil ?_
              exact ⟨(!r15), h, Wk.nrmTo [2, 3, 5, 7, 48] [(10100, 10200), (10101, 10201), (10102, 10202), (7, 10203)] rfl rfl⟩
            · replace h := iteF h c22
              refine W.guardF1 rfl c22 ?_
              refine W.guardF1 rfl c22 ?_
              refine W.guardF1 rfl c22 ?_
              refine W.guardF1 rfl c22 ?_
              refine W.guardF1 rfl c22 ?_
              refine W.guardT rfl rfl ?_
              refine W.pickN rfl rfl rfl c22 ?_
              refine W.pickN rfl rfl rfl rfl ?_
              refine W.nil ?_
              exact ⟨false, h, Wk.nrmTo [2, 3, 5, 7, 48] [(10100, 10200), (10101, 10201), (10102, 10202), (7, 10203)] rfl rfl⟩
      · intro x4 h
        try dsimp only at h ⊢
        unfold law6_SandboxMatchesSpec_j2 at h
        refine Ev.cond rfl (fun c4 => ?_) (fun c4 => ?_)
        · replace h := iteT h c4
          refine Ev.seq ?_
          refine W.reg hm ?_
          refine W.mv rfl ?_
          refine W.nil ?_
          refine Ev.ret ?_
          injection h with h; subst h
          exact ⟨_, rfl, .refl _⟩
        · replace h := iteF h c4
          refine Ev.skip ?_
          refine Ev.seq ?_
          refine W.reg hm ?_
          refine W.loadO (p := .agg [.list 1 (List.map cS a0.Inputs), .list 2 (List.map SKindText.cells a0.Ops), .str a0.Output]) rfl rfl rfl rfl ?_
          refine W.loadO (p := .agg [.list 2 (List.map SPathLines.cells a1.Files)]) rfl rfl rfl rfl ?_
          obtain ⟨r5, k5, h⟩ := obind h
          refine W.call (ref6_RunFault_spec n a0 a1 r5 k5) rfl rfl (Les.refl _) rfl (.inl rfl) rfl ?_
          refine W.store (es' := [[.int .i64 r5.Code, .int .i64 r5.Index]]) (dt := true) rfl rfl rfl rfl rfl (Nat.le_of_ble_eq_true rfl) rfl rfl rfl rfl ?_
          refine W.nil ?_
          refine Ev.seq ?_
          refine W.reg hm ?_
          refine W.loadO (p := .agg [.list 1 (List.map cS a0.Inputs), .list 2 (List.map SKindText.cells a0.Ops), .str a0.Output]) rfl rfl rfl rfl ?_
          refine W.loadO (p := .agg [.list 2 (List.map SPathLines.cells a1.Files)]) rfl rfl rfl rfl ?_
          obtain ⟨r6, k6, h⟩ := obind h
          refine W.call (sandbox_Restrict_spec n a0 a1 r6 k6) rfl rfl (Les.refl _) rfl (.inl rfl) rfl ?_
          refine W.mv rfl ?_
          refine W.extract rfl rfl ?_
          refine W.extract rfl rfl ?_
          refine W.alloc (dt := true) rfl rfl rfl ?_
          refine W.store (es' := [[.list 2 (List.map SPathLines.cells r6.1.Files)]]) (dt := true) rfl rfl rfl rfl rfl (Nat.le_of_ble_eq_true rfl) rfl rfl rfl rfl ?_
          refine W.store (es' := [[.int .i64 r6.2.Code, .int .i64 r6.2.Index]]) (dt := true) rfl rfl rfl rfl rfl (Nat.le_of_ble_eq_true rfl) rfl rfl rfl rfl ?_
          refine W.nil ?_
          refine Ev.seqJ (γ := Bool) (fun v => ⟨[(4, .bool v)], [], 2⟩) (fun v => law6_SandboxMatchesSpec_j3 n v = some r) ?_ ?_
          · refine W.regD hm ?_
            refine W.loadO (p := .agg [.int .i64 r6.2.Code, .int .i64 r6.2.Index]) rfl rfl rfl rfl ?_
            refine W.loadO (p := .agg [.int .i64 r5.Code, .int .i64 r5.Index]) rfl rfl rfl rfl ?_
            refine W.eqs rfl rfl rfl ?_
            refine W.mv rfl ?_
            refine W.split 61 rfl (fun c7 => ?_) (fun c7 => ?_)
            · replace h := iteT h c7
              refine W.guardT rfl c7 ?_
              refine W.fieldAddrO rfl rfl ?_
              refine W.guardT rfl c7 ?_
              refine W.loadO (p := .int .i64 r5.Code) rfl rfl rfl rfl ?_
              refine W.guardT rfl c7 ?_
              refine W.neq rfl rfl ?_
              refine W.guardT rfl c7 ?_
              refine W.mv rfl ?_
              refine W.split 65 rfl (fun c8 => ?_) (fun c8 => ?_)
              · replace h := iteT h c8
                refine W.guardT rfl c8 ?_
                refine W.fieldAddrO rfl rfl ?_
                refine W.guardT rfl c8 ?_
                refine W.loadO (p := .list 2 (List.map SPathLines.cells r6.1.Files)) rfl rfl rfl rfl ?_
                refine W.guardT rfl c8 ?_
                refine W.lenL (c := SPathLines.cells) rfl ?_
                refine W.guardT rfl c8 ?_
                refine W.eql rfl rfl ?_
                refine W.guardT rfl c7 ?_
                refine W.pickT rfl rfl rfl c8 ?_
                refine W.guardT rfl c7 ?_
                refine W.mv rfl ?_
                refine W.split 71 rfl (fun c9 => ?_) (fun c9 => ?_)
                · replace h := iteT h c9
                  refine W.guardF2 rfl c9 ?_
                  refine W.guardF2 rfl c9 ?_
                  refine W.guardF2 rfl c9 ?_
                  refine W.guardF2 rfl c9 ?_
                  refine W.guardU rfl ?_
                  refine W.guardU rfl ?_
                  refine W.guardU rfl ?_
                  refine W.guardU rfl ?_
                  refine W.guardU rfl ?_
                  refine W.guardU rfl ?_
                  refine W.guardF2 rfl c9 ?_
                  refine W.guardT rfl c7 ?_
                  refine W.pickT rfl rfl rfl c9 ?_
                  refine W.pickT rfl rfl rfl c7 ?_
                  refine W.mv rfl ?_
                  refine W.nil ⟨rfl, ?_⟩
                  exact ⟨true, h, Wk.nrmTo [4] [] rfl rfl⟩
                · replace h := iteF h c9
                  refine W.guardT rfl c9 ?_
                  refine W.fieldAddrO rfl rfl ?_
                  refine W.guardT rfl c9 ?_
                  refine W.loadO (p := .int .i64 r5.Code) rfl rfl rfl rfl ?_
                  refine W.guardT rfl c9 ?_
                  refine W.eql rfl rfl ?_
                  refine W.guardT rfl c9 ?_
                  refine W.mv rfl ?_
                  refine W.split 75 rfl (fun c10 => ?_) (fun c10 => ?_)
                  · replace h := iteT h c10
                    refine W.guardT rfl c10 ?_
                    refine W.loadO (p := .agg [.list 2 (List.map SPathLines.cells r6.1.Files)]) rfl rfl rfl rfl ?_
                    refine W.guardT rfl c10 ?_
                    refine W.loadO (p := .agg [.list 2 (List.map SPathLines.cells a1.Files)]) rfl rfl rfl rfl ?_
                    refine W.guardT rfl c10 ?_
                    refine W.fieldAddrO rfl rfl ?_
                    refine W.guardT rfl c10 ?_
                    refine W.loadO (p := .list 1 (List.map cS a0.Inputs)) rfl rfl rfl rfl ?_
                    refine W.guardT rfl c10 ?_
                    obtain ⟨r8, k11, h⟩ := obind h
                    refine W.call (ref6_Restricted_spec n a1 a0.Inputs r8 k11) rfl rfl (Les.refl _) rfl (.inl rfl) rfl ?_
                    refine W.guardT rfl c10 ?_
                    obtain ⟨r9, k12, h⟩ := obind h
                    refine W.call (ref6_Trees_spec n (⟨r6.1.Files⟩ : SFiles) r8 r9 k12) rfl rfl (Les.refl _) rfl (.inl rfl) rfl ?_
                    refine W.guardT rfl c9 ?_
                    refine W.pickT rfl rfl rfl c10 ?_
                    refine W.guardT rfl c7 ?_
                    refine W.pickN rfl rfl rfl c9 ?_
                    refine W.pickT rfl rfl rfl c7 ?_
                    refine W.mv rfl ?_
                    refine W.nil ⟨rfl, ?_⟩
                    exact ⟨r9, h, Wk.nrmTo [4] [] rfl rfl⟩
                  · replace h := iteF h c10
                    refine W.guardF1 rfl c10 ?_
                    refine W.guardF1 rfl c10 ?_
                    refine W.guardF1 rfl c10 ?_
                    refine W.guardF1 rfl c10 ?_
                    refine W.guardF1 rfl c10 ?_
                    refine W.guardF1 rfl c10 ?_
                    refine W.guardT rfl c9 ?_
                    refine W.pickN rfl rfl rfl c10 ?_
                    refine W.guardT rfl c7 ?_
                    refine W.pickN rfl rfl rfl c9 ?_
                    refine W.pickT rfl rfl rfl c7 ?_
                    refine W.mv rfl ?_
                    refine W.nil ⟨rfl, ?_⟩
                    exact ⟨false, h, Wk.nrmTo [4] [] rfl rfl⟩
              · replace h := iteF h c8
                refine W.guardF1 rfl c8 ?_
                refine W.guardF1 rfl c8 ?_
                refine W.guardF1 rfl c8 ?_
                refine W.guardF1 rfl c8 ?_
                refine W.guardT rfl c7 ?_
                refine W.pickN rfl rfl rfl c8 ?_
                refine W.guardT rfl c7 ?_
                refine W.mv rfl ?_
                refine W.guardT rfl rfl ?_
                refine W.fieldAddrO rfl rfl ?_
                refine W.guardT rfl rfl ?_
                refine W.loadO (p := .int .i64 r5.Code) rfl rfl rfl rfl ?_
                refine W.guardT rfl rfl ?_
                refine W.eql rfl rfl ?_
                refine W.guardT rfl rfl ?_
                refine W.mv rfl ?_
                refine W.split 75 rfl (fun c13 => ?_) (fun c13 => ?_)
                · replace h := iteT h c13
                  refine W.guardT rfl c13 ?_
                  refine W.loadO (p := .agg [.list 2 (List.map SPathLines.cells r6.1.Files)]) rfl rfl rfl rfl ?_
                  refine W.guardT rfl c13 ?_
                  refine W.loadO (p := .agg [.list 2 (List.map SPathLines.cells a1.Files)]) rfl rfl rfl rfl ?_
                  refine W.guardT rfl c13 ?_
                  refine W.fieldAddrO rfl rfl ?_
                  refine W.guardT rfl c13 ?_
                  refine W.loadO (p := .list 1 (List.map cS a0.Inputs)) rfl rfl rfl rfl ?_
                  refine W.guardT rfl c13 ?_
                  obtain ⟨r10, k14, h⟩ := obind h
                  refine W.call (ref6_Restricted_spec n a1 a0.Inputs r10 k14) rfl rfl (Les.refl _) rfl (.inl rfl) rfl ?_
                  refine W.guardT rfl c13 ?_
                  obtain ⟨r11, k15, h⟩ := obind h
                  refine W.call (ref6_Trees_spec n (⟨r6.1.Files⟩ : SFiles) r10 r11 k15) rfl rfl (Les.refl _) rfl (.inl rfl) rfl ?_
                  refine W.guardT rfl rfl ?_
                  refine W.pickT rfl rfl rfl c13 ?_
                  refine W.guardT rfl c7 ?_
                  refine W.pickN rfl rfl rfl rfl ?_
                  refine W.pickT rfl rfl rfl c7 ?_
                  refine W.mv rfl ?_
                  refine W.nil ⟨rfl, ?_⟩
                  exact ⟨r11, h, Wk.nrmTo [4] [] rfl rfl⟩
                · replace h := iteF h c13
                  refine W.guardF1 rfl c13 ?_
                  refine W.guardF1 rfl c13 ?_
                  refine W.guardF1 rfl c13 ?_
                  refine W.guardF1 rfl c13 ?_
                  refine W.guardF1 rfl c13 ?_
                  refine W.guardF1 rfl c13 ?_
                  refine W.guardT rfl rfl ?_
                  refine W.pickN rfl rfl rfl c13 ?_
                  refine W.guardT rfl c7 ?_
                  refine W.pickN rfl rfl rfl rfl ?_
                  refine W.pickT rfl rfl rfl c7 ?_
                  refine W.mv rfl ?_
                  refine W.nil ⟨rfl, ?_⟩
                  exact ⟨false, h, Wk.nrmTo [4] [] rfl rfl⟩
            · replace h := iteF h c7
              refine W.guardF1 rfl c7 ?_
              refine W.guardF1 rfl c7 ?_
              refine W.guardF1 rfl c7 ?_
              refine W.guardF1 rfl c7 ?_
              refine W.guardU rfl ?_
              refine W.guardU rfl ?_
              refine W.guardU rfl ?_
              refine W.guardU rfl ?_
              refine W.guardF1 rfl c7 ?_
              refine W.guardF1 rfl c7 ?_
              refine W.guardU rfl ?_
              refine W.guardU rfl ?_
              refine W.guardU rfl ?_
              refine W.guardU rfl ?_
              refine W.guardU rfl ?_
              refine W.guardU rfl ?_
              refine W.guardU rfl ?_
              refine W.guardU rfl ?_
              refine W.guardU rfl ?_
              refine W.guardU rfl ?_
              refine W.guardU rfl ?_
              refine W.guardF1 rfl c7 ?_
              refine W.pickN rfl rfl rfl c7 ?_
              refine W.mv rfl ?_
              refine W.nil ⟨rfl, ?_⟩
              exact ⟨false, h, Wk.nrmTo [4] [] rfl rfl⟩
          · intro x7 h
            try dsimp only at h ⊢
            unfold law6_SandboxMatchesSpec_j3 at h
            refine Ev.ret ?_
            injection h with h; subst h
            exact ⟨_, rfl, .refl _⟩

set_option maxHeartbeats 4000000 in
theorem law6_SandboxRunsAreHermetic_spec (n : Nat) (a0 : SInputsOpsOutput) (a1 : SFiles) (r : Bool) (h : law6_SandboxRunsAreHermetic n a0 a1 = some r) : PSpec Tryd.prog 5 [.agg (SInputsOpsOutput.cells a0), .agg (SFiles.cells a1)] (.bool r) := by
  unfold law6_SandboxRunsAreHermetic at h
  refine spec_of Tryd.c_law6_SandboxRunsAreHermetic (by simp) ?_
  unfold Tryd.l_law6_SandboxRunsAreHermetic
  refine Ev.seq ?_
  refine W.reg hm ?_
  refine W.box (dt := true) (cs := [.list 1 (List.map cS a0.Inputs), .list 2 (List.map SKindText.cells a0.Ops), .str a0.Output]) rfl rfl rfl rfl rfl rfl ?_
  refine W.box (dt := true) (cs := [.list 2 (List.map SPathLines.cells a1.Files)]) rfl rfl rfl rfl rfl rfl ?_
  refine W.mv rfl ?_
  refine W.nil ?_
  refine Ev.seq ?_
  refine W.reg hm ?_
  refine W.loadO (p := .agg [.list 1 (List.map cS a0.Inputs), .list 2 (List.map SKindText.cells a0.Ops), .str a0.Output]) rfl rfl rfl rfl ?_
  refine W.loadO (p := .agg [.list 2 (List.map SPathLines.cells a1.Files)]) rfl rfl rfl rfl ?_
  obtain ⟨r1, k1, h⟩ := obind h
  refine W.call (sandbox_Restrict_spec n a0 a1 r1 k1) rfl rfl (Les.refl _) rfl (.inl rfl) rfl ?_
  refine W.mv rfl ?_
  refine W.extract rfl rfl ?_
  refine W.extract rfl rfl ?_
  refine W.alloc (dt := true) rfl rfl rfl ?_
  refine W.alloc (dt := true) rfl rfl rfl ?_
  refine W.store (es' := [[.list 2 (List.map SPathLines.cells r1.1.Files)]]) (dt := true) rfl rfl rfl rfl rfl (Nat.le_of_ble_eq_true rfl) rfl rfl rfl rfl ?_
  refine W.store (es' := [[.int .i64 r1.2.Code, .int .i64 r1.2.Index]]) (dt := true) rfl rfl rfl rfl rfl (Nat.le_of_ble_eq_true rfl) rfl rfl rfl rfl ?_
  refine W.nil ?_
  refine Ev.seq ?_
  refine Ev.seqJ (γ := Bool) (fun v => ⟨[(2, .pown 10100 0 0 0), (3, .pown 10101 0 0 0), (5, .pown 10102 0 0 0), (25, .bool v)], [(10100, ⟨0, 25, 3, [[.list 1 (List.map cS a0.Inputs), .list 2 (List.map SKindText.cells a0.Ops), .str a0.Output]], true, false, false⟩), (10101, ⟨0, 28, 1, [[.list 2 (List.map SPathLines.cells a1.Files)]], true, false, false⟩), (10102, ⟨0, 28, 1, [[.list 2 (List.map SPathLines.cells r1.1.Files)]], true, false, false⟩)], 2⟩) (fun v => law6_SandboxRunsAreHermetic_j1 n a0 a1 r1 v = some r) ?_ ?_
  · refine W.reg hm ?_
    obtain ⟨r11, k13, h⟩ := obind h
    refine W.call (law6_runs_spec n r11 k13) rfl rfl (Les.refl _) rfl (.inl rfl) rfl ?_
    refine W.not rfl ?_
    refine W.mv rfl ?_
    refine W.split 21 rfl (fun c14 => ?_) (fun c14 => ?_)
    · replace h := iteT h c14
      refine W.guardF2 rfl c14 ?_
      refine W.guardF2 rfl c14 ?_
      refine W.guardF2 rfl c14 ?_
      refine W.pickT rfl rfl rfl c14 ?_
      refine W.nil ?_
      exact ⟨true, h, Wk.nrmTo [2, 3, 5, 25] [(2, 10100), (3, 10101), (5, 10102)] rfl rfl⟩
    · replace h := iteF h c14
      refine W.guardT rfl c14 ?_
      refine W.fieldAddrO rfl rfl ?_
      refine W.guardT rfl c14 ?_
      refine W.loadO (p := .int .i64 r1.2.Code) rfl rfl rfl rfl ?_
      refine W.guardT rfl c14 ?_
      refine W.neq rfl rfl ?_
      refine W.pickN rfl rfl rfl c14 ?_
      refine W.nil ?_
      exact ⟨(decide (r1.2.Code ≠ 0)), h, Wk.nrmTo [2, 3, 5, 25] [(2, 10100), (3, 10101), (5, 10102)] rfl rfl⟩
  · intro x2 h
    try dsimp only at h ⊢
    unfold law6_SandboxRunsAreHermetic_j1 at h
    refine Ev.cond rfl (fun c2 => ?_) (fun c2 => ?_)
    · replace h := iteT h c2
      refine Ev.seqJ (γ := Bool) (fun v => ⟨[(4, .bool v)], [], 2⟩) (fun v => law6_SandboxRunsAreHermetic_j2 n v = some r) ?_ ?_
      · refine W.reg hm ?_
        obtain ⟨r4, k3, h⟩ := obind h
        refine W.call (law6_runs_spec n r4 k3) rfl rfl (Les.refl _) rfl (.inl rfl) rfl ?_
        refine W.mv rfl ?_
        refine W.split 27 rfl (fun c4 => ?_) (fun c4 => ?_)
        · replace h := iteT h c4
          refine W.guardT rfl c4 ?_
          refine W.fieldAddrO rfl rfl ?_
          refine W.guardT rfl c4 ?_
          refine W.loadO (p := .list 2 (List.map SPathLines.cells r1.1.Files)) rfl rfl rfl rfl ?_
          refine W.guardT rfl c4 ?_
          refine W.lenL (c := SPathLines.cells) rfl ?_
          refine W.guardT rfl c4 ?_
          refine W.eql rfl rfl ?_
          refine W.pickT rfl rfl rfl c4 ?_
          refine W.mv rfl ?_
          refine W.nil ?_
          exact ⟨(decide ((r1.1.Files.length : Int) = 0)), h, Wk.nrmTo [4] [] rfl rfl⟩
        · replace h := iteF h c4
          refine W.guardF1 rfl c4 ?_
          refine W.guardF1 rfl c4 ?_
          refine W.guardF1 rfl c4 ?_
          refine W.guardF1 rfl c4 ?_
          refine W.pickN rfl rfl rfl c4 ?_
          refine W.mv rfl ?_
          refine W.nil ?_
          exact ⟨false, h, Wk.nrmTo [4] [] rfl rfl⟩
      · intro x3 h
        try dsimp only at h ⊢
        unfold law6_SandboxRunsAreHermetic_j2 at h
        refine Ev.ret ?_
        injection h with h; subst h
        exact ⟨_, rfl, .refl _⟩
    · replace h := iteF h c2
      refine Ev.skip ?_
      refine Ev.seq ?_
      refine W.reg hm ?_
      refine W.loadO (p := .agg [.list 1 (List.map cS a0.Inputs), .list 2 (List.map SKindText.cells a0.Ops), .str a0.Output]) rfl rfl rfl rfl ?_
      refine W.loadO (p := .agg [.list 2 (List.map SPathLines.cells a1.Files)]) rfl rfl rfl rfl ?_
      obtain ⟨r5, k5, h⟩ := obind h
      refine W.call (sandbox_Run_spec n a0 a1 r5 k5) rfl rfl (Les.refl _) rfl (.inl rfl) rfl ?_
      refine W.mv rfl ?_
      refine W.extract rfl rfl ?_
      refine W.extract rfl rfl ?_
      refine W.alloc (dt := true) rfl rfl rfl ?_
      refine W.mv rfl ?_
      refine W.store (es' := [[.int .i64 r5.2.Code, .int .i64 r5.2.Index]]) (dt := true) rfl rfl rfl rfl rfl (Nat.le_of_ble_eq_true rfl) rfl rfl rfl rfl ?_
      refine W.nil ?_
      refine Ev.seq ?_
      refine W.reg hm ?_
      refine W.loadO (p := .agg [.list 1 (List.map cS a0.Inputs), .list 2 (List.map SKindText.cells a0.Ops), .str a0.Output]) rfl rfl rfl rfl ?_
      refine W.loadO (p := .agg [.list 2 (List.map SPathLines.cells r1.1.Files)]) rfl rfl rfl rfl ?_
      obtain ⟨r6, k6, h⟩ := obind h
      refine W.call (sandbox_Run_spec n a0 (⟨r1.1.Files⟩ : SFiles) r6 k6) rfl rfl (Les.refl _) rfl (.inl rfl) rfl ?_
      refine W.mv rfl ?_
      refine W.extract rfl rfl ?_
      refine W.extract rfl rfl ?_
      refine W.alloc (dt := true) rfl rfl rfl ?_
      refine W.mv rfl ?_
      refine W.store (es' := [[.int .i64 r6.2.Code, .int .i64 r6.2.Index]]) (dt := true) rfl rfl rfl rfl rfl (Nat.le_of_ble_eq_true rfl) rfl rfl rfl rfl ?_
      refine W.nil ?_
      refine Ev.seq ?_
      refine W.reg hm ?_
      refine W.loadO (p := .agg [.list 1 (List.map cS a0.Inputs), .list 2 (List.map SKindText.cells a0.Ops), .str a0.Output]) rfl rfl rfl rfl ?_
      refine W.loadO (p := .agg [.list 2 (List.map SPathLines.cells r1.1.Files)]) rfl rfl rfl rfl ?_
      obtain ⟨r7, k7, h⟩ := obind h
      refine W.call (sandbox_Restrict_spec n a0 (⟨r1.1.Files⟩ : SFiles) r7 k7) rfl rfl (Les.refl _) rfl (.inl rfl) rfl ?_
      refine W.mv rfl ?_
      refine W.extract rfl rfl ?_
      refine W.extract rfl rfl ?_
      refine W.alloc (dt := true) rfl rfl rfl ?_
      refine W.alloc (dt := true) rfl rfl rfl ?_
      refine W.store (es' := [[.list 2 (List.map SPathLines.cells r7.1.Files)]]) (dt := true) rfl rfl rfl rfl rfl (Nat.le_of_ble_eq_true rfl) rfl rfl rfl rfl ?_
      refine W.store (es' := [[.int .i64 r7.2.Code, .int .i64 r7.2.Index]]) (dt := true) rfl rfl rfl rfl rfl (Nat.le_of_ble_eq_true rfl) rfl rfl rfl rfl ?_
      refine W.nil ?_
      refine Ev.seqJ (γ := Bool) (fun v => ⟨[(4, .bool v)], [], 2⟩) (fun v => law6_SandboxRunsAreHermetic_j3 n v = some r) ?_ ?_
      · refine W.reg hm ?_
        refine W.loadO (p := .agg [.int .i64 r5.2.Code, .int .i64 r5.2.Index]) rfl rfl rfl rfl ?_
        refine W.loadO (p := .agg [.int .i64 r6.2.Code, .int .i64 r6.2.Index]) rfl rfl rfl rfl ?_
        refine W.eqs rfl rfl rfl ?_
        refine W.mv rfl ?_
        refine W.split 54 rfl (fun c8 => ?_) (fun c8 => ?_)
        · replace h := iteT h c8
          refine W.guardT rfl c8 ?_
          refine W.mv rfl ?_
          refine W.guardT rfl c8 ?_
          refine W.mv rfl ?_
          refine W.guardT rfl c8 ?_
          obtain ⟨r9, k9, h⟩ := obind h
          refine W.call (ref6_Strings_spec n r5.1 r6.1 r9 k9) rfl rfl (Les.refl _) rfl (.inl rfl) rfl ?_
          refine W.pickT rfl rfl rfl c8 ?_
          refine W.mv rfl ?_
          refine W.split 59 rfl (fun c10 => ?_) (fun c10 => ?_)
          · replace h := iteT h c10
            refine W.guardT rfl c10 ?_
            refine W.fieldAddrO rfl rfl ?_
            refine W.guardT rfl c10 ?_
            refine W.loadO (p := .int .i64 r7.2.Code) rfl rfl rfl rfl ?_
            refine W.guardT rfl c10 ?_
            refine W.eql rfl rfl ?_
            refine W.pickT rfl rfl rfl c10 ?_
            refine W.mv rfl ?_
            refine W.split 64 rfl (fun c11 => ?_) (fun c11 => ?_)
            · replace h := iteT h c11
              refine W.guardT rfl c11 ?_
              refine W.loadO (p := .agg [.list 2 (List.map SPathLines.cells r7.1.Files)]) rfl rfl rfl rfl ?_
              refine W.guardT rfl c11 ?_
              refine W.loadO (p := .agg [.list 2 (List.map SPathLines.cells r1.1.Files)]) rfl rfl rfl rfl ?_
              refine W.guardT rfl c11 ?_
              obtain ⟨r10, k12, h⟩ := obind h
              refine W.call (ref6_Trees_spec n (⟨r7.1.Files⟩ : SFiles) (⟨r1.1.Files⟩ : SFiles) r10 k12) rfl rfl (Les.refl _) rfl (.inl rfl) rfl ?_
              refine W.pickT rfl rfl rfl c11 ?_
              refine W.mv rfl ?_
              refine W.nil ?_
              exact ⟨r10, h, Wk.nrmTo [4] [] rfl rfl⟩
            · replace h := iteF h c11
              refine W.guardF1 rfl c11 ?_
              refine W.guardF1 rfl c11 ?_
              refine W.guardF1 rfl c11 ?_
              refine W.pickN rfl rfl rfl c11 ?_
              refine W.mv rfl ?_
              refine W.nil ?_
              exact ⟨false, h, Wk.nrmTo [4] [] rfl rfl⟩
          · replace h := iteF h c10
            refine W.guardF1 rfl c10 ?_
            refine W.guardF1 rfl c10 ?_
            refine W.guardF1 rfl c10 ?_
            refine W.pickN rfl rfl rfl c10 ?_
            refine W.mv rfl ?_
            refine W.guardF1 rfl rfl ?_
            refine W.guardF1 rfl rfl ?_
            refine W.guardF1 rfl rfl ?_
            refine W.pickN rfl rfl rfl rfl ?_
            refine W.mv rfl ?_
            refine W.nil ?_
            exact ⟨false, h, Wk.nrmTo [4] [] rfl rfl⟩
        · replace h := iteF h c8
          refine W.guardF1 rfl c8 ?_
          refine W.guardF1 rfl c8 ?_
          refine W.guardF1 rfl c8 ?_
          refine W.pickN rfl rfl rfl c8 ?_
          refine W.mv rfl ?_
          refine W.guardF1 rfl rfl ?_
          refine W.guardF1 rfl rfl ?_
          refine W.guardF1 rfl rfl ?_
          refine W.pickN rfl rfl rfl rfl ?_
          refine W.mv rfl ?_
          refine W.guardF1 rfl rfl ?_
          refine W.guardF1 rfl rfl ?_
          refine W.guardF1 rfl rfl ?_
          refine W.pickN rfl rfl rfl rfl ?_
          refine W.mv rfl ?_
          refine W.nil ?_
          exact ⟨false, h, Wk.nrmTo [4] [] rfl rfl⟩
      · intro x8 h
        try dsimp only at h ⊢
        unfold law6_SandboxRunsAreHermetic_j3 at h
        refine Ev.ret ?_
        injection h with h; subst h
        exact ⟨_, rfl, .refl _⟩
end Go.Proofs.YtadeoaglhaaimaaDoor
