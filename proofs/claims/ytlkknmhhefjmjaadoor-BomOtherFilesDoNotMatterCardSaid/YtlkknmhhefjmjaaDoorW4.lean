/- The functions compute what the texts of D say. Laid by a program (wip/gen/dec.py). -/
import Derived.Test.YtlkknmhhefjmjaaDoorD
import Derived.Test.YtlkknmhhefjmjaaDoorW3
namespace Go.Proofs.YtlkknmhhefjmjaaDoor
open Go.PW Go
set_option maxHeartbeats 4000000 in
theorem ref1_LinesFault_spec (n : Nat) (a0 : List (List UInt8)) (r : SCodeIndex) (h : ref1_LinesFault n a0 = some r) : PSpec Tryd.prog 57 [.list 1 (List.map cS a0)] (.agg (SCodeIndex.cells r)) := by
  unfold ref1_LinesFault at h
  refine spec_of Tryd.c_ref1_LinesFault (by simp) ?_
  unfold Tryd.l_ref1_LinesFault
  refine Ev.seq ?_
  refine W.reg hm ?_
  refine W.alloc (dt := true) rfl rfl rfl ?_
  refine W.nil ?_
  refine Ev.seq ?_
  refine Ev.seq ?_
  refine W.reg hm ?_
  refine W.mv rfl ?_
  refine W.lenL (c := cS) rfl ?_
  refine W.gtr rfl rfl ?_
  refine W.nil ?_
  refine Ev.cond rfl (fun c1 => ?_) (fun c1 => ?_)
  · replace h := iteT h c1
    refine Ev.seq ?_
    refine W.reg hm ?_
    obtain ⟨r1, k2, h⟩ := obind h
    refine W.call (ref1_At_spec n 2 (-1) r1 k2) rfl rfl (Les.refl _) rfl (.inl rfl) rfl ?_
    refine W.store (es' := [[.int .i64 r1.Code, .int .i64 r1.Index]]) (dt := true) rfl rfl rfl rfl rfl (Nat.le_of_ble_eq_true rfl) rfl rfl rfl rfl ?_
    refine W.nil ?_
    refine Ev.ret ?_
    injection h with h; subst h
    exact ⟨_, rfl, .refl _⟩
  · replace h := iteF h c1
    refine Ev.skip ?_
    refine Ev.seq ?_
    refine Ev.seq ?_
    refine W.reg hm ?_
    refine W.mv rfl ?_
    refine W.nil ?_
    refine Ev.block ?_
    refine Ev.loopW (β := Nat × Int) (fun v => ⟨[(0, .list 1 (List.map cS a0)), (2, .pown 10100 0 0 0), (3, .int .i64 v.2)], [(10100, ⟨0, 25, 2, [[.int .i64 0, .int .i64 0]], true, false, false⟩)], 2⟩) (fun v => ref1_LinesFault_l1 n a0 v.1 v.2 = some r) (fun v => v.1) (n, 0) (Wk.nrmTo [0, 2, 3] [(2, 10100)] rfl rfl) h ?_
    intro ⟨m1, x2⟩ h
    try dsimp only at h ⊢
    cases m1 with
    | zero => rw [ref1_LinesFault_l1] at h; cases h
    | succ m1 =>
      rw [ref1_LinesFault_l1] at h
      refine Ev.seq ?_
      refine Ev.seq ?_
      refine W.reg hm ?_
      refine W.mv rfl ?_
      refine W.mv rfl ?_
      refine W.lenL (c := cS) rfl ?_
      refine W.lss rfl rfl ?_
      refine W.nil ?_
      refine Ev.cond rfl (fun c3 => ?_) (fun c3 => ?_)
      · replace h := iteT h c3
        refine Ev.skip ?_
        refine Ev.seq ?_
        refine Ev.block ?_
        refine Ev.seq ?_
        refine Ev.seq ?_
        refine W.reg hm ?_
        refine W.mv rfl ?_
        refine W.mv rfl ?_
        obtain ⟨e3, k4, h⟩ := obind h
        refine W.idxL (c := cS) rfl rfl k4 ?_
        refine W.load rfl rfl ?_
        refine W.slen rfl ?_
        refine W.gtr rfl rfl ?_
        refine W.nil ?_
        refine Ev.cond rfl (fun c5 => ?_) (fun c5 => ?_)
        · replace h := iteT h c5
          refine Ev.seq ?_
          refine W.reg hm ?_
          refine W.mv rfl ?_
          obtain ⟨r4, k6, h⟩ := obind h
          refine W.call (ref1_At_spec n 2 x2 r4 k6) rfl rfl (Les.refl _) rfl (.inl rfl) rfl ?_
          refine W.store (es' := [[.int .i64 r4.Code, .int .i64 r4.Index]]) (dt := true) rfl rfl rfl rfl rfl (Nat.le_of_ble_eq_true rfl) rfl rfl rfl rfl ?_
          refine W.nil ?_
          refine Ev.ret ?_
          injection h with h; subst h
          exact ⟨_, rfl, .refl _⟩
        · replace h := iteF h c5
          refine Ev.skip ?_
          refine Ev.seq ?_
          refine W.reg hm ?_
          refine W.mv rfl ?_
          refine W.nil ?_
          refine Ev.block ?_
          refine Ev.loopW (β := Nat × Int) (fun v => ⟨[(0, .list 1 (List.map cS a0)), (2, .pown 10200 0 0 0), (3, .int .i64 x2), (4, .int .i64 v.2)], [(10200, ⟨0, 25, 2, [[.int .i64 0, .int .i64 0]], true, false, false⟩)], 2⟩) (fun v => ref1_LinesFault_l2 n x2 (ref1_LinesFault_l1 n a0 m1) e3 v.1 v.2 = some r) (fun v => v.1) (n, 0) (Wk.nrmTo [0, 2, 3, 4] [(10100, 10200)] rfl rfl) h ?_
          intro ⟨m2, x5⟩ h
          try dsimp only at h ⊢
          cases m2 with
          | zero => rw [ref1_LinesFault_l2] at h; cases h
          | succ m2 =>
            rw [ref1_LinesFault_l2] at h
            refine Ev.seq ?_
            refine Ev.seq ?_
            refine W.reg hm ?_
            refine W.mv rfl ?_
            refine W.mv rfl ?_
            refine W.mv rfl ?_
            refine W.idxL (c := cS) rfl rfl k4 ?_
            refine W.load rfl rfl ?_
            refine W.slen rfl ?_
            refine W.lss rfl rfl ?_
            refine W.nil ?_
            refine Ev.cond rfl (fun c7 => ?_) (fun c7 => ?_)
            · replace h := iteT h c7
              refine Ev.skip ?_
              refine Ev.seq ?_
              refine Ev.block ?_
              refine Ev.seq ?_
              refine W.reg hm ?_
              refine W.mv rfl ?_
              refine W.mv rfl ?_
              refine W.idxL (c := cS) rfl rfl k4 ?_
              refine W.load rfl rfl ?_
              refine W.mv rfl ?_
              obtain ⟨y6, k8, h⟩ := obind h
              refine W.sidxG rfl rfl k8 ?_
              refine W.eql rfl rfl ?_
              refine W.nil ?_
              refine Ev.cond rfl (fun c9 => ?_) (fun c9 => ?_)
              · replace h := iteT h c9
                refine Ev.seq ?_
                refine W.reg hm ?_
                refine W.mv rfl ?_
                obtain ⟨r7, k10, h⟩ := obind h
                refine W.call (ref1_At_spec n 5 x2 r7 k10) rfl rfl (Les.refl _) rfl (.inl rfl) rfl ?_
                refine W.store (es' := [[.int .i64 r7.Code, .int .i64 r7.Index]]) (dt := true) rfl rfl rfl rfl rfl (Nat.le_of_ble_eq_true rfl) rfl rfl rfl rfl ?_
                refine W.nil ?_
                refine Ev.ret ?_
                injection h with h; subst h
                exact ⟨_, rfl, .refl _⟩
              · replace h := iteF h c9
                refine Ev.skip ?_
                refine W.reg hm ?_
                refine W.mv rfl ?_
                obtain ⟨x8, k11, h⟩ := obind h
                refine W.addG rfl rfl k11 ?_
                refine W.mv rfl ?_
                refine W.nil ?_
                exact ⟨(m2, x8), h, Nat.lt_succ_self _, Wk.nrmTo [0, 2, 3, 4] [(10200, 10200)] rfl rfl⟩
            · replace h := iteF h c7
              refine Ev.exit ?_
              refine W.reg hm ?_
              refine W.mv rfl ?_
              obtain ⟨x9, k12, h⟩ := obind h
              refine W.addG rfl rfl k12 ?_
              refine W.mv rfl ?_
              refine W.nil ?_
              exact ⟨(m1, x9), h, Nat.lt_succ_self _, Wk.nrmTo [0, 2, 3] [(10200, 10100)] rfl rfl⟩
      · replace h := iteF h c3
        refine Ev.exit ?_
        refine Ev.seq ?_
        refine W.reg hm ?_
        refine W.build (cs := [.int .i64 0, .int .i64 0]) rfl rfl rfl ?_
        refine W.store (es' := [[.int .i64 0, .int .i64 0]]) (dt := true) rfl rfl rfl rfl rfl (Nat.le_of_ble_eq_true rfl) rfl rfl rfl rfl ?_
        refine W.nil ?_
        refine Ev.ret ?_
        injection h with h; subst h
        exact ⟨_, rfl, .refl _⟩
theorem ref1_LinesCode_spec (n : Nat) (a0 : List (List UInt8)) (r : Int) (h : ref1_LinesCode n a0 = some r) : PSpec Tryd.prog 23 [.list 1 (List.map cS a0)] (.int .i64 r) := by
  unfold ref1_LinesCode at h
  refine spec_of Tryd.c_ref1_LinesCode (by simp) ?_
  unfold Tryd.l_ref1_LinesCode
  refine Ev.seq ?_
  refine W.reg hm ?_
  refine W.mv rfl ?_
  refine W.nil ?_
  refine Ev.seq ?_
  refine W.reg hm ?_
  refine W.mv rfl ?_
  obtain ⟨r1, k1, h⟩ := obind h
  refine W.call (ref1_LinesFault_spec n a0 r1 k1) rfl rfl (Les.refl _) rfl (.inl rfl) rfl ?_
  refine W.field rfl rfl ?_
  refine W.mv rfl ?_
  refine W.nil ?_
  refine Ev.ret ?_
  injection h with h; subst h
  exact ⟨_, rfl, .refl _⟩
theorem ref2_Related_spec : ∀ (n : Nat) (a0 : List UInt8) (a1 : List UInt8) (r : Bool) (h : ref2_Related n a0 a1 = some r), PSpec Tryd.prog 111 [.str a0, .str a1] (.bool r) := by
  intro n
  induction n with
  | zero => intro a0 a1 r h; rw [ref2_Related] at h; cases h
  | succ n ih =>
  intro a0 a1 r h
  rw [ref2_Related] at h
  refine spec_of Tryd.c_ref2_Related (by simp) ?_
  unfold Tryd.l_ref2_Related
  refine Ev.seq ?_
  refine W.reg hm ?_
  refine W.mv rfl ?_
  refine W.nil ?_
  refine Ev.seq ?_
  refine Ev.seq ?_
  refine W.reg hm ?_
  refine W.mv rfl ?_
  refine W.slen rfl ?_
  refine W.mv rfl ?_
  refine W.slen rfl ?_
  refine W.gtr rfl rfl ?_
  refine W.nil ?_
  refine Ev.cond rfl (fun c1 => ?_) (fun c1 => ?_)
  · replace h := iteT h c1
    refine Ev.seq ?_
    refine W.reg hm ?_
    refine W.mv rfl ?_
    refine W.mv rfl ?_
    obtain ⟨r1, k2, h⟩ := obind h
    refine W.call (ih a1 a0 r1 k2) rfl rfl (Les.refl _) rfl (.inl rfl) rfl ?_
    refine W.mv rfl ?_
    refine W.nil ?_
    refine Ev.ret ?_
    injection h with h; subst h
    exact ⟨_, rfl, .refl _⟩
  · replace h := iteF h c1
    refine Ev.skip ?_
    refine Ev.seqJ (γ := Bool) (fun v => ⟨[(4, .bool v)], [], 2⟩) (fun v => ref2_Related_j1 n v = some r) ?_ ?_
    · refine W.reg hm ?_
      refine W.mv rfl ?_
      refine W.mv rfl ?_
      refine W.slen rfl ?_
      obtain ⟨s3, k3, h⟩ := obind h
      refine W.ssliceG rfl k3 (ix1 (gcut_some k3).2.2.2.1) ?_
      refine W.mv rfl ?_
      refine W.seql rfl rfl ?_
      refine W.mv rfl ?_
      refine W.split 19 rfl (fun c4 => ?_) (fun c4 => ?_)
      · replace h := iteT h c4
        refine W.guardT rfl c4 ?_
        refine W.mv rfl ?_
        refine W.guardT rfl c4 ?_
        refine W.slen rfl ?_
        refine W.guardT rfl c4 ?_
        refine W.mv rfl ?_
        refine W.guardT rfl c4 ?_
        refine W.slen rfl ?_
        refine W.guardT rfl c4 ?_
        refine W.eql rfl rfl ?_
        refine W.guardT rfl c4 ?_
        refine W.mv rfl ?_
        refine W.split 25 rfl (fun c5 => ?_) (fun c5 => ?_)
        · replace h := iteT h c5
          refine W.guardF2 rfl c5 ?_
          refine W.guardF2 rfl c5 ?_
          refine W.guardF2 rfl c5 ?_
          refine W.guardF2 rfl c5 ?_
          refine W.guardF2 rfl c5 ?_
          refine W.guardT rfl c4 ?_
          refine W.pickT rfl rfl rfl c5 ?_
          refine W.pickT rfl rfl rfl c4 ?_
          refine W.mv rfl ?_
          refine W.nil ?_
          exact ⟨true, h, Wk.nrmTo [4] [] rfl rfl⟩
        · replace h := iteF h c5
          refine W.guardT rfl c5 ?_
          refine W.mv rfl ?_
          refine W.guardT rfl c5 ?_
          refine W.mv rfl ?_
          refine W.guardT rfl c5 ?_
          refine W.slen rfl ?_
          refine W.guardT rfl c5 ?_
          obtain ⟨y4, k6, h⟩ := obind h
          refine W.sidxG rfl rfl k6 ?_
          refine W.guardT rfl c5 ?_
          refine W.eql rfl rfl ?_
          refine W.guardT rfl c4 ?_
          refine W.pickN rfl rfl rfl c5 ?_
          refine W.pickT rfl rfl rfl c4 ?_
          refine W.mv rfl ?_
          refine W.nil ?_
          exact ⟨(decide ((y4.toNat : Int) = 47)), h, Wk.nrmTo [4] [] rfl rfl⟩
      · replace h := iteF h c4
        refine W.guardF1 rfl c4 ?_
        refine W.guardF1 rfl c4 ?_
        refine W.guardF1 rfl c4 ?_
        refine W.guardF1 rfl c4 ?_
        refine W.guardF1 rfl c4 ?_
        refine W.guardF1 rfl c4 ?_
        refine W.guardU rfl ?_
        refine W.guardU rfl ?_
        refine W.guardU rfl ?_
        refine W.guardU rfl ?_
        refine W.guardU rfl ?_
        refine W.guardF1 rfl c4 ?_
        refine W.pickN rfl rfl rfl c4 ?_
        refine W.mv rfl ?_
        refine W.nil ?_
        exact ⟨false, h, Wk.nrmTo [4] [] rfl rfl⟩
    · intro x2 h
      try dsimp only at h ⊢
      unfold ref2_Related_j1 at h
      refine Ev.ret ?_
      injection h with h; subst h
      exact ⟨_, rfl, .refl _⟩
set_option maxHeartbeats 4000000 in
theorem ref2_TreeFault_spec (n : Nat) (a0 : SFiles) (r : SCodeIndex) (h : ref2_TreeFault n a0 = some r) : PSpec Tryd.prog 78 [.agg (SFiles.cells a0)] (.agg (SCodeIndex.cells r)) := by
  unfold ref2_TreeFault at h
  refine spec_of Tryd.c_ref2_TreeFault (by simp) ?_
  unfold Tryd.l_ref2_TreeFault
  refine Ev.seq ?_
  refine W.reg hm ?_
  refine W.box (dt := true) (cs := [.list 2 (List.map SPathLines.cells a0.Files)]) rfl rfl rfl rfl rfl rfl ?_
  refine W.alloc (dt := true) rfl rfl rfl ?_
  refine W.nil ?_
  refine Ev.seq ?_
  refine Ev.seq ?_
  refine W.reg hm ?_
  refine W.fieldAddrO rfl rfl ?_
  refine W.loadO (p := .list 2 (List.map SPathLines.cells a0.Files)) rfl rfl rfl rfl ?_
  refine W.lenL (c := SPathLines.cells) rfl ?_
  refine W.gtr rfl rfl ?_
  refine W.nil ?_
  refine Ev.cond rfl (fun c1 => ?_) (fun c1 => ?_)
  · replace h := iteT h c1
    refine Ev.seq ?_
    refine W.reg hm ?_
    obtain ⟨r1, k2, h⟩ := obind h
    refine W.call (ref1_At_spec n 2 (-1) r1 k2) rfl rfl (Les.refl _) rfl (.inl rfl) rfl ?_
    refine W.store (es' := [[.int .i64 r1.Code, .int .i64 r1.Index]]) (dt := true) rfl rfl rfl rfl rfl (Nat.le_of_ble_eq_true rfl) rfl rfl rfl rfl ?_
    refine W.nil ?_
    refine Ev.ret ?_
    injection h with h; subst h
    exact ⟨_, rfl, .refl _⟩
  · replace h := iteF h c1
    refine Ev.skip ?_
    refine Ev.seq ?_
    refine Ev.seq ?_
    refine W.reg hm ?_
    refine W.mv rfl ?_
    refine W.nil ?_
    refine Ev.block ?_
    refine Ev.loopW (β := Nat × Int) (fun v => ⟨[(1, .pown 10100 0 0 0), (2, .pown 10101 0 0 0), (3, .int .i64 v.2)], [(10100, ⟨0, 46, 1, [[.list 2 (List.map SPathLines.cells a0.Files)]], true, false, false⟩), (10101, ⟨0, 25, 2, [[.int .i64 0, .int .i64 0]], true, false, false⟩)], 2⟩) (fun v => ref2_TreeFault_l1 n a0 v.1 v.2 = some r) (fun v => v.1) (n, 0) (Wk.nrmTo [1, 2, 3] [(1, 10100), (2, 10101)] rfl rfl) h ?_
    intro ⟨m1, x2⟩ h
    try dsimp only at h ⊢
    cases m1 with
    | zero => rw [ref2_TreeFault_l1] at h; cases h
    | succ m1 =>
      rw [ref2_TreeFault_l1] at h
      refine Ev.seq ?_
      refine Ev.seq ?_
      refine W.reg hm ?_
      refine W.mv rfl ?_
      refine W.fieldAddrO rfl rfl ?_
      refine W.loadO (p := .list 2 (List.map SPathLines.cells a0.Files)) rfl rfl rfl rfl ?_
      refine W.lenL (c := SPathLines.cells) rfl ?_
      refine W.lss rfl rfl ?_
      refine W.nil ?_
      refine Ev.cond rfl (fun c3 => ?_) (fun c3 => ?_)
      · replace h := iteT h c3
        refine Ev.skip ?_
        refine Ev.seq ?_
        refine Ev.block ?_
        refine Ev.seq ?_
        refine W.reg hm ?_
        refine W.fieldAddrO rfl rfl ?_
        refine W.loadO (p := .list 2 (List.map SPathLines.cells a0.Files)) rfl rfl rfl rfl ?_
        refine W.mv rfl ?_
        obtain ⟨e3, k4, h⟩ := obind h
        refine W.idxL (c := SPathLines.cells) rfl rfl k4 ?_
        refine W.load rfl rfl ?_
        refine W.alloc (dt := true) rfl rfl rfl ?_
        refine W.store (es' := [[.str e3.Path, .list 1 (List.map cS e3.Lines)]]) (dt := true) rfl rfl rfl rfl rfl (Nat.le_of_ble_eq_true rfl) rfl rfl rfl rfl ?_
        refine W.nil ?_
        refine Ev.seq ?_
        refine Ev.seq ?_
        refine W.reg hm ?_
        refine W.fieldAddrO rfl rfl ?_
        refine W.loadO (p := .str e3.Path) rfl rfl rfl rfl ?_
        obtain ⟨r4, k5, h⟩ := obind h
        refine W.call (ref2_PathValid_spec n e3.Path r4 k5) rfl rfl (Les.refl _) rfl (.inl rfl) rfl ?_
        refine W.not rfl ?_
        refine W.nil ?_
        refine Ev.cond rfl (fun c6 => ?_) (fun c6 => ?_)
        · replace h := iteT h c6
          refine Ev.seq ?_
          refine W.reg hm ?_
          refine W.mv rfl ?_
          obtain ⟨r5, k7, h⟩ := obind h
          refine W.call (ref1_At_spec n 12 x2 r5 k7) rfl rfl (Les.refl _) rfl (.inl rfl) rfl ?_
          refine W.store (es' := [[.int .i64 r5.Code, .int .i64 r5.Index]]) (dt := true) rfl rfl rfl rfl rfl (Nat.le_of_ble_eq_true rfl) rfl rfl rfl rfl ?_
          refine W.nil ?_
          refine Ev.ret ?_
          injection h with h; subst h
          exact ⟨_, rfl, .refl _⟩
        · replace h := iteF h c6
          refine Ev.skip ?_
          refine Ev.seq ?_
          refine Ev.seqJ (γ := Bool) (fun v => ⟨[(1, .pown 10200 0 0 0), (2, .pown 10201 0 0 0), (3, .int .i64 x2), (4, .pown 10202 0 0 0), (43, .bool v)], [(10200, ⟨0, 46, 1, [[.list 2 (List.map SPathLines.cells a0.Files)]], true, false, false⟩), (10201, ⟨0, 25, 2, [[.int .i64 0, .int .i64 0]], true, false, false⟩), (10202, ⟨0, 103, 2, [[.str e3.Path, .list 1 (List.map cS e3.Lines)]], true, false, false⟩)], 2⟩) (fun v => ref2_TreeFault_j1 n a0 x2 (ref2_TreeFault_l1 n a0 m1) e3 v = some r) ?_ ?_
          · refine W.regD hm ?_
            refine W.mv rfl ?_
            refine W.gtr rfl rfl ?_
            refine W.mv rfl ?_
            refine W.split 32 rfl (fun c20 => ?_) (fun c20 => ?_)
            · replace h := iteT h c20
              refine W.guardT rfl c20 ?_
              refine W.fieldAddrO rfl rfl ?_
              refine W.guardT rfl c20 ?_
              refine W.loadO (p := .str e3.Path) rfl rfl rfl rfl ?_
              refine W.guardT rfl c20 ?_
              refine W.fieldAddrO rfl rfl ?_
              refine W.guardT rfl c20 ?_
              refine W.loadO (p := .list 2 (List.map SPathLines.cells a0.Files)) rfl rfl rfl rfl ?_
              refine W.guardT rfl c20 ?_
              refine W.mv rfl ?_
              refine W.guardT rfl c20 ?_
              obtain ⟨x16, k21, h⟩ := obind h
              refine W.subG rfl rfl k21 ?_
              refine W.guardT rfl c20 ?_
              obtain ⟨e17, k22, h⟩ := obind h
              refine W.idxL (c := SPathLines.cells) rfl rfl k22 ?_
              refine W.guardT rfl c20 ?_
              refine W.fieldAddr rfl ?_
              refine W.guardT rfl c20 ?_
              refine W.load rfl rfl ?_
              refine W.guardT rfl c20 ?_
              refine W.sleq rfl rfl ?_
              refine W.pickT rfl rfl rfl c20 ?_
              refine W.nil ⟨rfl, ?_⟩
              exact ⟨(Op.bytesLess e3.Path e17.Path || e3.Path == e17.Path), h, Wk.nrmTo [1, 2, 3, 4, 43] [(10100, 10200), (10101, 10201), (4, 10202)] rfl rfl⟩
            · replace h := iteF h c20
              refine W.guardF1 rfl c20 ?_
              refine W.guardF1 rfl c20 ?_
              refine W.guardF1 rfl c20 ?_
              refine W.guardF1 rfl c20 ?_
              refine W.guardF1 rfl c20 ?_
              refine W.guardF1 rfl c20 ?_
              refine W.guardF1 rfl c20 ?_
              refine W.guardF1 rfl c20 ?_
              refine W.guardF1 rfl c20 ?_
              refine W.guardF1 rfl c20 ?_
              refine W.pickN rfl rfl rfl c20 ?_
              refine W.nil ⟨rfl, ?_⟩
              exact ⟨false, h, Wk.nrmTo [1, 2, 3, 4, 43] [(10100, 10200), (10101, 10201), (4, 10202)] rfl rfl⟩
          · intro x6 h
            try dsimp only at h ⊢
            unfold ref2_TreeFault_j1 at h
            refine Ev.cond rfl (fun c8 => ?_) (fun c8 => ?_)
            · replace h := iteT h c8
              refine Ev.seq ?_
              refine W.reg hm ?_
              refine W.mv rfl ?_
              obtain ⟨r7, k9, h⟩ := obind h
              refine W.call (ref1_At_spec n 5 x2 r7 k9) rfl rfl (Les.refl _) rfl (.inl rfl) rfl ?_
              refine W.store (es' := [[.int .i64 r7.Code, .int .i64 r7.Index]]) (dt := true) rfl rfl rfl rfl rfl (Nat.le_of_ble_eq_true rfl) rfl rfl rfl rfl ?_
              refine W.nil ?_
              refine Ev.ret ?_
              injection h with h; subst h
              exact ⟨_, rfl, .refl _⟩
            · replace h := iteF h c8
              refine Ev.skip ?_
              refine Ev.seq ?_
              refine Ev.seq ?_
              refine W.reg hm ?_
              refine W.mv rfl ?_
              refine W.nil ?_
              refine Ev.block ?_
              refine Ev.loopW (β := Nat × Int) (fun v => ⟨[(1, .pown 10300 0 0 0), (2, .pown 10301 0 0 0), (3, .int .i64 x2), (4, .pown 10302 0 0 0), (5, .int .i64 v.2)], [(10300, ⟨0, 46, 1, [[.list 2 (List.map SPathLines.cells a0.Files)]], true, false, false⟩), (10301, ⟨0, 25, 2, [[.int .i64 0, .int .i64 0]], true, false, false⟩), (10302, ⟨0, 103, 2, [[.str e3.Path, .list 1 (List.map cS e3.Lines)]], true, false, false⟩)], 2⟩) (fun v => ref2_TreeFault_l2 n a0 x2 (ref2_TreeFault_l1 n a0 m1) e3 v.1 v.2 = some r) (fun v => v.1) (n, 0) (Wk.nrmTo [1, 2, 3, 4, 5] [(10200, 10300), (10201, 10301), (10202, 10302)] rfl rfl) h ?_
              intro ⟨m2, x8⟩ h
              try dsimp only at h ⊢
              cases m2 with
              | zero => rw [ref2_TreeFault_l2] at h; cases h
              | succ m2 =>
                rw [ref2_TreeFault_l2] at h
                refine Ev.seq ?_
                refine Ev.seq ?_
                refine W.reg hm ?_
                refine W.mv rfl ?_
                refine W.mv rfl ?_
                refine W.lss rfl rfl ?_
                refine W.nil ?_
                refine Ev.cond rfl (fun c10 => ?_) (fun c10 => ?_)
                · replace h := iteT h c10
                  refine Ev.skip ?_
                  refine Ev.seq ?_
                  refine Ev.block ?_
                  refine Ev.seq ?_
                  refine W.regD hm ?_
                  refine W.fieldAddrO rfl rfl ?_
                  refine W.loadO (p := .list 2 (List.map SPathLines.cells a0.Files)) rfl rfl rfl rfl ?_
                  refine W.mv rfl ?_
                  obtain ⟨e9, k11, h⟩ := obind h
                  refine W.idxL (c := SPathLines.cells) rfl rfl k11 ?_
                  refine W.fieldAddr rfl ?_
                  refine W.load rfl rfl ?_
                  refine W.fieldAddrO rfl rfl ?_
                  refine W.loadO (p := .str e3.Path) rfl rfl rfl rfl ?_
                  obtain ⟨r10, k12, h⟩ := obind h
                  refine W.call (ref2_Related_spec n e9.Path e3.Path r10 k12) rfl rfl (Les.refl _) rfl (.inl rfl) rfl ?_
                  refine W.nil ⟨rfl, ?_⟩
                  refine Ev.cond rfl (fun c13 => ?_) (fun c13 => ?_)
                  · replace h := iteT h c13
                    refine Ev.seq ?_
                    refine W.reg hm ?_
                    refine W.mv rfl ?_
                    obtain ⟨r11, k14, h⟩ := obind h
                    refine W.call (ref1_At_spec n 7 x2 r11 k14) rfl rfl (Les.refl _) rfl (.inl rfl) rfl ?_
                    refine W.store (es' := [[.int .i64 r11.Code, .int .i64 r11.Index]]) (dt := true) rfl rfl rfl rfl rfl (Nat.le_of_ble_eq_true rfl) rfl rfl rfl rfl ?_
                    refine W.nil ?_
                    refine Ev.ret ?_
                    injection h with h; subst h
                    exact ⟨_, rfl, .refl _⟩
                  · replace h := iteF h c13
                    refine Ev.skip ?_
                    refine W.reg hm ?_
                    refine W.mv rfl ?_
                    obtain ⟨x12, k15, h⟩ := obind h
                    refine W.addG rfl rfl k15 ?_
                    refine W.mv rfl ?_
                    refine W.nil ?_
                    exact ⟨(m2, x12), h, Nat.lt_succ_self _, Wk.nrmTo [1, 2, 3, 4, 5] [(10300, 10300), (10301, 10301), (10302, 10302)] rfl rfl⟩
                · replace h := iteF h c10
                  refine Ev.exit ?_
                  refine Ev.seq ?_
                  refine W.reg hm ?_
                  refine W.fieldAddrO rfl rfl ?_
                  refine W.loadO (p := .list 1 (List.map cS e3.Lines)) rfl rfl rfl rfl ?_
                  obtain ⟨r13, k16, h⟩ := obind h
                  refine W.call (ref1_LinesCode_spec n e3.Lines r13 k16) rfl rfl (Les.refl _) rfl (.inl rfl) rfl ?_
                  refine W.mv rfl ?_
                  refine W.nil ?_
                  refine Ev.seq ?_
                  refine W.reg hm ?_
                  refine W.mv rfl ?_
                  refine W.neq rfl rfl ?_
                  refine W.nil ?_
                  refine Ev.cond rfl (fun c17 => ?_) (fun c17 => ?_)
                  · replace h := iteT h c17
                    refine Ev.seq ?_
                    refine W.reg hm ?_
                    refine W.mv rfl ?_
                    refine W.mv rfl ?_
                    obtain ⟨r14, k18, h⟩ := obind h
                    refine W.call (ref1_At_spec n r13 x2 r14 k18) rfl rfl (Les.refl _) rfl (.inl rfl) rfl ?_
                    refine W.store (es' := [[.int .i64 r14.Code, .int .i64 r14.Index]]) (dt := true) rfl rfl rfl rfl rfl (Nat.le_of_ble_eq_true rfl) rfl rfl rfl rfl ?_
                    refine W.nil ?_
                    refine Ev.ret ?_
                    injection h with h; subst h
                    exact ⟨_, rfl, .refl _⟩
                  · replace h := iteF h c17
                    refine Ev.skip ?_
                    refine W.reg hm ?_
                    refine W.mv rfl ?_
                    obtain ⟨x15, k19, h⟩ := obind h
                    refine W.addG rfl rfl k19 ?_
                    refine W.mv rfl ?_
                    refine W.nil ?_
                    exact ⟨(m1, x15), h, Nat.lt_succ_self _, Wk.nrmTo [1, 2, 3] [(10300, 10100), (10301, 10101)] rfl rfl⟩
      · replace h := iteF h c3
        refine Ev.exit ?_
        refine Ev.seq ?_
        refine W.reg hm ?_
        refine W.build (cs := [.int .i64 0, .int .i64 0]) rfl rfl rfl ?_
        refine W.store (es' := [[.int .i64 0, .int .i64 0]]) (dt := true) rfl rfl rfl rfl rfl (Nat.le_of_ble_eq_true rfl) rfl rfl rfl rfl ?_
        refine W.nil ?_
        refine Ev.ret ?_
        injection h with h; subst h
        exact ⟨_, rfl, .refl _⟩
theorem ref6_TreeAt_spec (n : Nat) (a0 : SFiles) (a1 : Int) (r : SCodeIndex) (h : ref6_TreeAt n a0 a1 = some r) : PSpec Tryd.prog 37 [.agg (SFiles.cells a0), .int .i64 a1] (.agg (SCodeIndex.cells r)) := by
  unfold ref6_TreeAt at h
  refine spec_of Tryd.c_ref6_TreeAt (by simp) ?_
  unfold Tryd.l_ref6_TreeAt
  refine Ev.seq ?_
  refine W.reg hm ?_
  refine W.box (dt := true) (cs := [.list 2 (List.map SPathLines.cells a0.Files)]) rfl rfl rfl rfl rfl rfl ?_
  refine W.alloc (dt := true) rfl rfl rfl ?_
  refine W.nil ?_
  refine Ev.seq ?_
  refine W.reg hm ?_
  refine W.loadO (p := .agg [.list 2 (List.map SPathLines.cells a0.Files)]) rfl rfl rfl rfl ?_
  obtain ⟨r1, k1, h⟩ := obind h
  refine W.call (ref2_TreeFault_spec n a0 r1 k1) rfl rfl (Les.refl _) rfl (.inl rfl) rfl ?_
  refine W.alloc (dt := true) rfl rfl rfl ?_
  refine W.store (es' := [[.int .i64 r1.Code, .int .i64 r1.Index]]) (dt := true) rfl rfl rfl rfl rfl (Nat.le_of_ble_eq_true rfl) rfl rfl rfl rfl ?_
  refine W.nil ?_
  refine Ev.seqJ (γ := Int) (fun v => ⟨[(4, .pown 10100 0 0 0), (5, .pown 10101 0 0 0)], [(10100, ⟨0, 25, 2, [[.int .i64 0, .int .i64 0]], true, false, false⟩), (10101, ⟨0, 25, 2, [[.int .i64 r1.Code, .int .i64 v]], true, false, false⟩)], 2⟩) (fun v => ref6_TreeAt_j1 n r1 v = some r) ?_ ?_
  · refine Ev.seq ?_
    refine W.reg hm ?_
    refine W.fieldAddrO rfl rfl ?_
    refine W.loadO (p := .int .i64 r1.Code) rfl rfl rfl rfl ?_
    refine W.neq rfl rfl ?_
    refine W.nil ?_
    refine Ev.cond rfl (fun c2 => ?_) (fun c2 => ?_)
    · replace h := iteT h c2
      refine W.reg hm ?_
      refine W.mv rfl ?_
      refine W.fieldAddrO rfl rfl ?_
      refine W.store (es' := [[.int .i64 r1.Code, .int .i64 a1]]) (dt := true) rfl rfl rfl rfl rfl (Nat.le_of_ble_eq_true rfl) rfl rfl rfl rfl ?_
      refine W.nil ?_
      exact ⟨a1, h, Wk.nrmTo [4, 5] [(4, 10100), (5, 10101)] rfl rfl⟩
    · replace h := iteF h c2
      refine Ev.skip ?_
      exact ⟨r1.Index, h, Wk.nrmTo [4, 5] [(4, 10100), (5, 10101)] rfl rfl⟩
  · intro b2 h
    try dsimp only at h ⊢
    unfold ref6_TreeAt_j1 at h
    refine Ev.seq ?_
    refine W.reg hm ?_
    refine W.loadO (p := .agg [.int .i64 r1.Code, .int .i64 b2]) rfl rfl rfl rfl ?_
    refine W.store (es' := [[.int .i64 r1.Code, .int .i64 b2]]) (dt := true) rfl rfl rfl rfl rfl (Nat.le_of_ble_eq_true rfl) rfl rfl rfl rfl ?_
    refine W.nil ?_
    refine Ev.ret ?_
    injection h with h; subst h
    exact ⟨_, rfl, .refl _⟩
theorem ref1_times_spec (n : Nat) (a0 : Int) (a1 : Int) (r : Int) (h : ref1_times n a0 a1 = some r) : PSpec Tryd.prog 104 [.int .i64 a0, .int .i64 a1] (.int .i64 r) := by
  unfold ref1_times at h
  refine spec_of Tryd.c_ref1_times (by simp) ?_
  unfold Tryd.l_ref1_times
  refine Ev.seq ?_
  refine W.reg hm ?_
  refine W.mv rfl ?_
  refine W.nil ?_
  refine Ev.seq ?_
  refine W.reg hm ?_
  refine W.mv rfl ?_
  refine W.nil ?_
  refine Ev.seqJ (γ := Int) (fun v => ⟨[(5, .int .i64 v)], [], 2⟩) (fun v => ref1_times_j1 n v = some r) ?_ ?_
  · refine Ev.block ?_
    refine Ev.loopW (β := Nat × Int × Int × Int) (fun v => ⟨[(0, .int .i64 v.2.1), (1, .int .i64 v.2.2.1), (5, .int .i64 v.2.2.2)], [], 2⟩) (fun v => ref1_times_l1 n v.1 v.2.1 v.2.2.1 v.2.2.2 = some r) (fun v => v.1) (n, a0, a1, 0) (Wk.nrmTo [0, 1, 5] [] rfl rfl) h ?_
    intro ⟨m1, x2, x3, x4⟩ h
    try dsimp only at h ⊢
    cases m1 with
    | zero => rw [ref1_times_l1] at h; cases h
    | succ m1 =>
      rw [ref1_times_l1] at h
      refine Ev.seq ?_
      refine Ev.seq ?_
      refine W.reg hm ?_
      refine W.mv rfl ?_
      refine W.gtr rfl rfl ?_
      refine W.nil ?_
      refine Ev.cond rfl (fun c1 => ?_) (fun c1 => ?_)
      · replace h := iteT h c1
        refine Ev.skip ?_
        refine Ev.block ?_
        refine Ev.seqJ (γ := Int) (fun v => ⟨[(0, .int .i64 x2), (1, .int .i64 x3), (5, .int .i64 v)], [], 2⟩) (fun v => ref1_times_j2 n x2 x3 (ref1_times_l1 n m1) v = some r) ?_ ?_
        · refine Ev.seq ?_
          refine W.reg hm ?_
          refine W.mv rfl ?_
          obtain ⟨x9, k5, h⟩ := obind h
          refine W.remG rfl rfl k5 ?_
          refine W.eql rfl rfl ?_
          refine W.nil ?_
          refine Ev.cond rfl (fun c6 => ?_) (fun c6 => ?_)
          · replace h := iteT h c6
            refine W.reg hm ?_
            refine W.mv rfl ?_
            refine W.mv rfl ?_
            obtain ⟨x10, k7, h⟩ := obind h
            refine W.addG rfl rfl k7 ?_
            obtain ⟨x11, k8, h⟩ := obind h
            refine W.remG rfl rfl k8 ?_
            refine W.mv rfl ?_
            refine W.nil ?_
            exact ⟨x11, h, Wk.nrmTo [0, 1, 5] [] rfl rfl⟩
          · replace h := iteF h c6
            refine Ev.skip ?_
            exact ⟨x4, h, Wk.nrmTo [0, 1, 5] [] rfl rfl⟩
        · intro x5 h
          try dsimp only at h ⊢
          unfold ref1_times_j2 at h
          refine Ev.seq ?_
          refine W.reg hm ?_
          refine W.mv rfl ?_
          refine W.mv rfl ?_
          obtain ⟨x6, k2, h⟩ := obind h
          refine W.addG rfl rfl k2 ?_
          obtain ⟨x7, k3, h⟩ := obind h
          refine W.remG rfl rfl k3 ?_
          refine W.mv rfl ?_
          refine W.nil ?_
          refine W.reg hm ?_
          refine W.mv rfl ?_
          obtain ⟨x8, k4, h⟩ := obind h
          refine W.quoG rfl rfl k4 ?_
          refine W.mv rfl ?_
          refine W.nil ?_
          exact ⟨(m1, x7, x8, x5), h, Nat.lt_succ_self _, Wk.nrmTo [0, 1, 5] [] rfl rfl⟩
      · replace h := iteF h c1
        refine Ev.exit ?_
        exact ⟨x4, h, Wk.nrmTo [5] [] rfl rfl⟩
  · intro x1 h
    try dsimp only at h ⊢
    unfold ref1_times_j1 at h
    refine Ev.seq ?_
    refine W.reg hm ?_
    refine W.mv rfl ?_
    refine W.mv rfl ?_
    refine W.nil ?_
    refine Ev.ret ?_
    injection h with h; subst h
    exact ⟨_, rfl, .refl _⟩
theorem ref1_DigestPair_spec (n : Nat) (a0 : Int) (a1 : Int) (r : Int) (h : ref1_DigestPair n a0 a1 = some r) : PSpec Tryd.prog 69 [.int .i64 a0, .int .i64 a1] (.int .i64 r) := by
  unfold ref1_DigestPair at h
  refine spec_of Tryd.c_ref1_DigestPair (by simp) ?_
  unfold Tryd.l_ref1_DigestPair
  refine Ev.seq ?_
  refine W.reg hm ?_
  refine W.mv rfl ?_
  refine W.nil ?_
  refine Ev.seq ?_
  refine W.reg hm ?_
  refine W.mv rfl ?_
  obtain ⟨r1, k1, h⟩ := obind h
  refine W.call (ref1_times_spec n a0 1000003 r1 k1) rfl rfl (Les.refl _) rfl (.inl rfl) rfl ?_
  refine W.mv rfl ?_
  obtain ⟨r2, k2, h⟩ := obind h
  refine W.call (ref1_times_spec n a1 31 r2 k2) rfl rfl (Les.refl _) rfl (.inl rfl) rfl ?_
  obtain ⟨x3, k3, h⟩ := obind h
  refine W.addG rfl rfl k3 ?_
  obtain ⟨x4, k4, h⟩ := obind h
  refine W.addG rfl rfl k4 ?_
  obtain ⟨x5, k5, h⟩ := obind h
  refine W.remG rfl rfl k5 ?_
  refine W.mv rfl ?_
  refine W.nil ?_
  refine Ev.ret ?_
  injection h with h; subst h
  exact ⟨_, rfl, .refl _⟩
theorem ref1_DigestOf_spec (n : Nat) (a0 : List Int) (r : Int) (h : ref1_DigestOf n a0 = some r) : PSpec Tryd.prog 70 [.list 1 (List.map (cK .u8) a0)] (.int .i64 r) := by
  unfold ref1_DigestOf at h
  refine spec_of Tryd.c_ref1_DigestOf (by simp) ?_
  unfold Tryd.l_ref1_DigestOf
  refine Ev.seq ?_
  refine W.reg hm ?_
  refine W.mv rfl ?_
  refine W.nil ?_
  refine Ev.seq ?_
  refine W.reg hm ?_
  refine W.mv rfl ?_
  refine W.nil ?_
  refine Ev.seq ?_
  refine Ev.seq ?_
  refine W.reg hm ?_
  refine W.mv rfl ?_
  refine W.nil ?_
  refine Ev.block ?_
  refine Ev.loopW (β := Nat × Int × Int) (fun v => ⟨[(0, .list 1 (List.map (cK .u8) a0)), (3, .int .i64 v.2.1), (4, .int .i64 v.2.2)], [], 2⟩) (fun v => ref1_DigestOf_l1 n a0 v.1 v.2.1 v.2.2 = some r) (fun v => v.1) (n, 1, 0) (Wk.nrmTo [0, 3, 4] [] rfl rfl) h ?_
  intro ⟨m1, x1, x2⟩ h
  try dsimp only at h ⊢
  cases m1 with
  | zero => rw [ref1_DigestOf_l1] at h; cases h
  | succ m1 =>
    rw [ref1_DigestOf_l1] at h
    refine Ev.seq ?_
    refine Ev.seq ?_
    refine W.reg hm ?_
    refine W.mv rfl ?_
    refine W.mv rfl ?_
    refine W.lenL (c := (cK .u8)) rfl ?_
    refine W.lss rfl rfl ?_
    refine W.nil ?_
    refine Ev.cond rfl (fun c1 => ?_) (fun c1 => ?_)
    · replace h := iteT h c1
      refine Ev.skip ?_
      refine Ev.seq ?_
      refine Ev.block ?_
      refine W.regD hm ?_
      refine W.mv rfl ?_
      obtain ⟨r3, k2, h⟩ := obind h
      refine W.call (ref1_times_spec n x1 257 r3 k2) rfl rfl (Les.refl _) rfl (.inl rfl) rfl ?_
      refine W.mv rfl ?_
      refine W.mv rfl ?_
      obtain ⟨e4, k3, h⟩ := obind h
      refine W.idxL (c := (cK .u8)) rfl rfl k3 ?_
      refine W.load rfl rfl ?_
      refine W.conv rfl rfl ?_
      obtain ⟨x5, k4, h⟩ := obind h
      refine W.addG rfl rfl k4 ?_
      obtain ⟨x6, k5, h⟩ := obind h
      refine W.addG rfl rfl k5 ?_
      obtain ⟨x7, k6, h⟩ := obind h
      refine W.remG rfl rfl k6 ?_
      refine W.mv rfl ?_
      refine W.nil ⟨rfl, ?_⟩
      refine W.reg hm ?_
      refine W.mv rfl ?_
      obtain ⟨x8, k7, h⟩ := obind h
      refine W.addG rfl rfl k7 ?_
      refine W.mv rfl ?_
      refine W.nil ?_
      exact ⟨(m1, x7, x8), h, Nat.lt_succ_self _, Wk.nrmTo [0, 3, 4] [] rfl rfl⟩
    · replace h := iteF h c1
      refine Ev.exit ?_
      refine Ev.seq ?_
      refine W.reg hm ?_
      refine W.mv rfl ?_
      refine W.mv rfl ?_
      refine W.nil ?_
      refine Ev.ret ?_
      injection h with h; subst h
      exact ⟨_, rfl, .refl _⟩
theorem ref1_DigestStrings_spec (n : Nat) (a0 : List (List UInt8)) (r : (Int × SCodeIndex)) (h : ref1_DigestStrings n a0 = some r) : PSpec Tryd.prog 103 [.list 1 (List.map cS a0)] (.tup [.int .i64 r.1, .agg (SCodeIndex.cells r.2)]) := by
  unfold ref1_DigestStrings at h
  refine spec_of Tryd.c_ref1_DigestStrings (by simp) ?_
  unfold Tryd.l_ref1_DigestStrings
  refine Ev.seq ?_
  refine W.reg hm ?_
  refine W.mv rfl ?_
  refine W.alloc (dt := true) rfl rfl rfl ?_
  refine W.nil ?_
  refine Ev.seq ?_
  refine Ev.seq ?_
  refine W.reg hm ?_
  refine W.mv rfl ?_
  refine W.lenL (c := cS) rfl ?_
  refine W.gtr rfl rfl ?_
  refine W.nil ?_
  refine Ev.cond rfl (fun c1 => ?_) (fun c1 => ?_)
  · replace h := iteT h c1
    refine Ev.seq ?_
    refine W.reg hm ?_
    obtain ⟨r1, k2, h⟩ := obind h
    refine W.call (ref1_At_spec n 2 (-1) r1 k2) rfl rfl (Les.refl _) rfl (.inl rfl) rfl ?_
    refine W.mv rfl ?_
    refine W.store (es' := [[.int .i64 r1.Code, .int .i64 r1.Index]]) (dt := true) rfl rfl rfl rfl rfl (Nat.le_of_ble_eq_true rfl) rfl rfl rfl rfl ?_
    refine W.nil ?_
    refine Ev.ret ?_
    injection h with h; subst h
    exact ⟨_, rfl, .refl _⟩
  · replace h := iteF h c1
    refine Ev.skip ?_
    refine Ev.seq ?_
    refine W.reg hm ?_
    refine W.mv rfl ?_
    refine W.nil ?_
    refine Ev.seq ?_
    refine Ev.seq ?_
    refine W.reg hm ?_
    refine W.mv rfl ?_
    refine W.nil ?_
    refine Ev.block ?_
    refine Ev.loopW (β := Nat × Int × Int) (fun v => ⟨[(0, .list 1 (List.map cS a0)), (3, .pown 10100 0 0 0), (4, .int .i64 v.2.1), (5, .int .i64 v.2.2)], [(10100, ⟨0, 25, 2, [[.int .i64 0, .int .i64 0]], true, false, false⟩)], 2⟩) (fun v => ref1_DigestStrings_l1 n a0 v.1 v.2.1 v.2.2 = some r) (fun v => v.1) (n, 2, 0) (Wk.nrmTo [0, 3, 4, 5] [(3, 10100)] rfl rfl) h ?_
    intro ⟨m1, x2, x3⟩ h
    try dsimp only at h ⊢
    cases m1 with
    | zero => rw [ref1_DigestStrings_l1] at h; cases h
    | succ m1 =>
      rw [ref1_DigestStrings_l1] at h
      refine Ev.seq ?_
      refine Ev.seq ?_
      refine W.reg hm ?_
      refine W.mv rfl ?_
      refine W.mv rfl ?_
      refine W.lenL (c := cS) rfl ?_
      refine W.lss rfl rfl ?_
      refine W.nil ?_
      refine Ev.cond rfl (fun c3 => ?_) (fun c3 => ?_)
      · replace h := iteT h c3
        refine Ev.skip ?_
        refine Ev.seq ?_
        refine Ev.block ?_
        refine Ev.seq ?_
        refine Ev.seq ?_
        refine W.reg hm ?_
        refine W.mv rfl ?_
        refine W.mv rfl ?_
        obtain ⟨e4, k4, h⟩ := obind h
        refine W.idxL (c := cS) rfl rfl k4 ?_
        refine W.load rfl rfl ?_
        refine W.slen rfl ?_
        refine W.gtr rfl rfl ?_
        refine W.nil ?_
        refine Ev.cond rfl (fun c5 => ?_) (fun c5 => ?_)
        · replace h := iteT h c5
          refine Ev.seq ?_
          refine W.reg hm ?_
          refine W.mv rfl ?_
          obtain ⟨r5, k6, h⟩ := obind h
          refine W.call (ref1_At_spec n 2 x3 r5 k6) rfl rfl (Les.refl _) rfl (.inl rfl) rfl ?_
          refine W.mv rfl ?_
          refine W.store (es' := [[.int .i64 r5.Code, .int .i64 r5.Index]]) (dt := true) rfl rfl rfl rfl rfl (Nat.le_of_ble_eq_true rfl) rfl rfl rfl rfl ?_
          refine W.nil ?_
          refine Ev.ret ?_
          injection h with h; subst h
          exact ⟨_, rfl, .refl _⟩
        · replace h := iteF h c5
          refine Ev.skip ?_
          refine W.reg hm ?_
          refine W.mv rfl ?_
          refine W.mv rfl ?_
          refine W.mv rfl ?_
          refine W.idxL (c := cS) rfl rfl k4 ?_
          refine W.load rfl rfl ?_
          refine W.toBytes rfl ?_
          obtain ⟨r6, k7, h⟩ := obind h
          refine W.call (ref1_DigestOf_spec n (bts e4) r6 k7) rfl rfl (Les.refl _) rfl (.inl rfl) rfl ?_
          obtain ⟨r7, k8, h⟩ := obind h
          refine W.call (ref1_DigestPair_spec n x2 r6 r7 k8) rfl rfl (Les.refl _) rfl (.inl rfl) rfl ?_
          refine W.mv rfl ?_
          refine W.nil ?_
          refine W.reg hm ?_
          refine W.mv rfl ?_
          obtain ⟨x8, k9, h⟩ := obind h
          refine W.addG rfl rfl k9 ?_
          refine W.mv rfl ?_
          refine W.nil ?_
          exact ⟨(m1, r7, x8), h, Nat.lt_succ_self _, Wk.nrmTo [0, 3, 4, 5] [(10100, 10100)] rfl rfl⟩
      · replace h := iteF h c3
        refine Ev.exit ?_
        refine Ev.seq ?_
        refine W.reg hm ?_
        refine W.mv rfl ?_
        refine W.build (cs := [.int .i64 0, .int .i64 0]) rfl rfl rfl ?_
        refine W.mv rfl ?_
        refine W.store (es' := [[.int .i64 0, .int .i64 0]]) (dt := true) rfl rfl rfl rfl rfl (Nat.le_of_ble_eq_true rfl) rfl rfl rfl rfl ?_
        refine W.nil ?_
        refine Ev.ret ?_
        injection h with h; subst h
        exact ⟨_, rfl, .refl _⟩
theorem ref6_stringsSum_spec (n : Nat) (a0 : List (List UInt8)) (r : Int) (h : ref6_stringsSum n a0 = some r) : PSpec Tryd.prog 67 [.list 1 (List.map cS a0)] (.int .i64 r) := by
  unfold ref6_stringsSum at h
  refine spec_of Tryd.c_ref6_stringsSum (by simp) ?_
  unfold Tryd.l_ref6_stringsSum
  refine Ev.seq ?_
  refine W.reg hm ?_
  refine W.mv rfl ?_
  refine W.nil ?_
  refine Ev.seq ?_
  refine W.reg hm ?_
  refine W.mv rfl ?_
  obtain ⟨r1, k1, h⟩ := obind h
  refine W.call (ref1_DigestStrings_spec n a0 r1 k1) rfl rfl (Les.refl _) rfl (.inl rfl) rfl ?_
  refine W.mv rfl ?_
  refine W.extract rfl rfl ?_
  refine W.extract rfl rfl ?_
  refine W.alloc (dt := true) rfl rfl rfl ?_
  refine W.mv rfl ?_
  refine W.store (es' := [[.int .i64 r1.2.Code, .int .i64 r1.2.Index]]) (dt := true) rfl rfl rfl rfl rfl (Nat.le_of_ble_eq_true rfl) rfl rfl rfl rfl ?_
  refine W.nil ?_
  refine Ev.seq ?_
  refine W.reg hm ?_
  refine W.mv rfl ?_
  refine W.mv rfl ?_
  refine W.nil ?_
  refine Ev.ret ?_
  injection h with h; subst h
  exact ⟨_, rfl, .refl _⟩
theorem ref6_FileIn_spec (n : Nat) (a0 : SFiles) (a1 : List UInt8) (r : ((List (List UInt8)) × Bool)) (h : ref6_FileIn n a0 a1 = some r) : PSpec Tryd.prog 68 [.agg (SFiles.cells a0), .str a1] (.tup [.list 1 (List.map cS r.1), .bool r.2]) := by
  unfold ref6_FileIn at h
  refine spec_of Tryd.c_ref6_FileIn (by simp) ?_
  unfold Tryd.l_ref6_FileIn
  refine Ev.seq ?_
  refine W.reg hm ?_
  refine W.box (dt := true) (cs := [.list 2 (List.map SPathLines.cells a0.Files)]) rfl rfl rfl rfl rfl rfl ?_
  refine W.mv rfl ?_
  refine W.mv rfl ?_
  refine W.nil ?_
  refine Ev.seq ?_
  refine Ev.seq ?_
  refine W.reg hm ?_
  refine W.mv rfl ?_
  refine W.nil ?_
  refine Ev.block ?_
  refine Ev.loopW (β := Nat × Int) (fun v => ⟨[(1, .str a1), (2, .pown 10100 0 0 0), (6, .int .i64 v.2)], [(10100, ⟨0, 46, 1, [[.list 2 (List.map SPathLines.cells a0.Files)]], true, false, false⟩)], 2⟩) (fun v => ref6_FileIn_l1 n a0 a1 v.1 v.2 = some r) (fun v => v.1) (n, 0) (Wk.nrmTo [1, 2, 6] [(2, 10100)] rfl rfl) h ?_
  intro ⟨m1, x1⟩ h
  try dsimp only at h ⊢
  cases m1 with
  | zero => rw [ref6_FileIn_l1] at h; cases h
  | succ m1 =>
    rw [ref6_FileIn_l1] at h
    refine Ev.seq ?_
    refine Ev.seq ?_
    refine W.reg hm ?_
    refine W.mv rfl ?_
    refine W.fieldAddrO rfl rfl ?_
    refine W.loadO (p := .list 2 (List.map SPathLines.cells a0.Files)) rfl rfl rfl rfl ?_
    refine W.lenL (c := SPathLines.cells) rfl ?_
    refine W.lss rfl rfl ?_
    refine W.nil ?_
    refine Ev.cond rfl (fun c1 => ?_) (fun c1 => ?_)
    · replace h := iteT h c1
      refine Ev.skip ?_
      refine Ev.seq ?_
      refine Ev.block ?_
      refine Ev.seq ?_
      refine W.reg hm ?_
      refine W.fieldAddrO rfl rfl ?_
      refine W.loadO (p := .list 2 (List.map SPathLines.cells a0.Files)) rfl rfl rfl rfl ?_
      refine W.mv rfl ?_
      obtain ⟨e2, k2, h⟩ := obind h
      refine W.idxL (c := SPathLines.cells) rfl rfl k2 ?_
      refine W.fieldAddr rfl ?_
      refine W.load rfl rfl ?_
      refine W.mv rfl ?_
      refine W.seql rfl rfl ?_
      refine W.nil ?_
      refine Ev.cond rfl (fun c3 => ?_) (fun c3 => ?_)
      · replace h := iteT h c3
        refine Ev.seq ?_
        refine W.reg hm ?_
        refine W.fieldAddrO rfl rfl ?_
        refine W.loadO (p := .list 2 (List.map SPathLines.cells a0.Files)) rfl rfl rfl rfl ?_
        refine W.mv rfl ?_
        refine W.idxL (c := SPathLines.cells) rfl rfl k2 ?_
        refine W.fieldAddr rfl ?_
        refine W.load rfl rfl ?_
        refine W.mv rfl ?_
        refine W.mv rfl ?_
        refine W.nil ?_
        refine Ev.ret ?_
        injection h with h; subst h
        exact ⟨_, rfl, .refl _⟩
      · replace h := iteF h c3
        refine Ev.skip ?_
        refine W.reg hm ?_
        refine W.mv rfl ?_
        obtain ⟨x3, k4, h⟩ := obind h
        refine W.addG rfl rfl k4 ?_
        refine W.mv rfl ?_
        refine W.nil ?_
        exact ⟨(m1, x3), h, Nat.lt_succ_self _, Wk.nrmTo [1, 2, 6] [(10100, 10100)] rfl rfl⟩
    · replace h := iteF h c1
      refine Ev.exit ?_
      refine Ev.seq ?_
      refine W.reg hm ?_
      refine W.mv rfl ?_
      refine W.mv rfl ?_
      refine W.nil ?_
      refine Ev.ret ?_
      injection h with h; subst h
      exact ⟨_, rfl, Le.tups (.cons (.nils 1) (.cons (.refl _) (.nil)))⟩
theorem ref6_FileSum_spec (n : Nat) (a0 : SFiles) (a1 : List UInt8) (r : Int) (h : ref6_FileSum n a0 a1 = some r) : PSpec Tryd.prog 81 [.agg (SFiles.cells a0), .str a1] (.int .i64 r) := by
  unfold ref6_FileSum at h
  refine spec_of Tryd.c_ref6_FileSum (by simp) ?_
  unfold Tryd.l_ref6_FileSum
  refine Ev.seq ?_
  refine W.reg hm ?_
  refine W.box (dt := true) (cs := [.list 2 (List.map SPathLines.cells a0.Files)]) rfl rfl rfl rfl rfl rfl ?_
  refine W.mv rfl ?_
  refine W.nil ?_
  refine Ev.seq ?_
  refine W.reg hm ?_
  refine W.loadO (p := .agg [.list 2 (List.map SPathLines.cells a0.Files)]) rfl rfl rfl rfl ?_
  refine W.mv rfl ?_
  obtain ⟨r1, k1, h⟩ := obind h
  refine W.call (ref6_FileIn_spec n a0 a1 r1 k1) rfl rfl (Les.refl _) rfl (.inl rfl) rfl ?_
  refine W.mv rfl ?_
  refine W.extract rfl rfl ?_
  refine W.extract rfl rfl ?_
  refine W.mv rfl ?_
  refine W.mv rfl ?_
  refine W.nil ?_
  refine Ev.seq ?_
  refine Ev.seq ?_
  refine W.reg hm ?_
  refine W.mv rfl ?_
  refine W.not rfl ?_
  refine W.nil ?_
  refine Ev.cond rfl (fun c2 => ?_) (fun c2 => ?_)
  · replace h := iteT h c2
    refine Ev.seq ?_
    refine W.reg hm ?_
    refine W.mv rfl ?_
    refine W.nil ?_
    refine Ev.ret ?_
    injection h with h; subst h
    exact ⟨_, rfl, .refl _⟩
  · replace h := iteF h c2
    refine Ev.skip ?_
    refine Ev.seq ?_
    refine W.reg hm ?_
    refine W.mv rfl ?_
    obtain ⟨r2, k3, h⟩ := obind h
    refine W.call (ref6_stringsSum_spec n r1.1 r2 k3) rfl rfl (Les.refl _) rfl (.inl rfl) rfl ?_
    refine W.mv rfl ?_
    refine W.nil ?_
    refine Ev.ret ?_
    injection h with h; subst h
    exact ⟨_, rfl, .refl _⟩
end Go.Proofs.YtlkknmhhefjmjaaDoor
