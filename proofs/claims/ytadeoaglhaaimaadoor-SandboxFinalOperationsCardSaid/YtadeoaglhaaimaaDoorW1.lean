/- The functions compute what the texts of D say. Laid by a program (wip/gen/dec.py). -/
import Derived.Test.YtadeoaglhaaimaaDoorD
import Derived.Test.YtadeoaglhaaimaaDoorK
namespace Go.Proofs.YtadeoaglhaaimaaDoor
open Go.PW Go
theorem treepatch_ValidPath_spec (n : Nat) (a0 : List UInt8) (r : Bool) (h : treepatch_ValidPath n a0 = some r) : PSpec Tryd.prog 30 [.str a0] (.bool r) := by
  unfold treepatch_ValidPath at h
  injection h with h
  subst h
  exact k_ValidPath a0

theorem strings_IndexByte_spec (n : Nat) (a0 : List UInt8) (a1 : Int) (r : Int) (h : strings_IndexByte n a0 a1 = some r) : PSpec Tryd.prog 62 [.str a0, .int .u8 a1] (.int .i64 r) := by
  unfold strings_IndexByte at h
  injection h with h
  subst h
  exact k_IndexByte a0 a1

theorem lines_Validate_spec (n : Nat) (a0 : List (List UInt8)) (r : SCodeIndex) (h : lines_Validate n a0 = some r) : PSpec Tryd.prog 47 [.list 1 (List.map cS a0)] (.agg (SCodeIndex.cells r)) := by
  unfold lines_Validate at h
  refine spec_of Tryd.c_lines_Validate (by simp) ?_
  unfold Tryd.l_lines_Validate
  refine Ev.seq ?_
  refine W.reg hm ?_
  refine W.alloc (dt := true) rfl rfl rfl ?_
  refine W.nil ?_
  refine Ev.seq ?_
  refine Ev.seq ?_
  refine W.reg hm ?_
  refine W.mv rfl ?_
  refine W.lenL (c := cS) rfl ?_
  refine W.gtr rfl rfl ?_
  refine W.nil ?_
  refine Ev.cond rfl (fun c1 => ?_) (fun c1 => ?_)
  · replace h := iteT h c1
    refine Ev.seq ?_
    refine W.reg hm ?_
    refine W.build (cs := [.int .i64 2, .int .i64 (-1)]) rfl rfl rfl ?_
    refine W.store (es' := [[.int .i64 2, .int .i64 (-1)]]) (dt := true) rfl rfl rfl rfl rfl (Nat.le_of_ble_eq_true rfl) rfl rfl rfl rfl ?_
    refine W.nil ?_
    refine Ev.ret ?_
    injection h with h; subst h
    exact ⟨_, rfl, .refl _⟩
  · replace h := iteF h c1
    refine Ev.skip ?_
    refine Ev.seq ?_
    refine Ev.seq ?_
    refine W.reg hm ?_
    refine W.mv rfl ?_
    refine W.lenL (c := cS) rfl ?_
    refine W.mv rfl ?_
    refine W.nil ?_
    refine Ev.block ?_
    refine Ev.loopW (β := Nat × Int) (fun v => ⟨[(2, .pown 10100 0 0 0), (9, .list 1 (List.map cS a0)), (10, .int .i64 (a0.length : Int)), (11, .int .i64 v.2)], [(10100, ⟨0, 30, 2, [[.int .i64 0, .int .i64 0]], true, false, false⟩)], 2⟩) (fun v => lines_Validate_l1 n a0 v.1 v.2 = some r) (fun v => v.1) (n, 0) (Wk.nrmTo [2, 9, 10, 11] [(2, 10100)] rfl rfl) h ?_
    intro ⟨m1, x1⟩ h
    try dsimp only at h ⊢
    cases m1 with
    | zero => rw [lines_Validate_l1] at h; cases h
    | succ m1 =>
      rw [lines_Validate_l1] at h
      refine Ev.seq ?_
      refine W.reg hm ?_
      refine W.lss rfl rfl ?_
      refine W.nil ?_
      refine Ev.seq ?_
      refine Ev.cond rfl (fun c2 => ?_) (fun c2 => ?_)
      · replace h := iteT h c2
        refine Ev.skip ?_
        refine Ev.seq ?_
        refine Ev.block ?_
        refine Ev.seq ?_
        refine W.reg hm ?_
        refine W.mv rfl ?_
        obtain ⟨e2, k3, h⟩ := obind h
        refine W.idxL (c := cS) rfl rfl k3 ?_
        refine W.load rfl rfl ?_
        refine W.mv rfl ?_
        refine W.mv rfl ?_
        refine W.nil ?_
        refine Ev.seq ?_
        refine Ev.seq ?_
        refine W.reg hm ?_
        refine W.mv rfl ?_
        refine W.slen rfl ?_
        refine W.gtr rfl rfl ?_
        refine W.nil ?_
        refine Ev.cond rfl (fun c4 => ?_) (fun c4 => ?_)
        · replace h := iteT h c4
          refine Ev.seq ?_
          refine W.reg hm ?_
          refine W.mv rfl ?_
          refine W.build (cs := [.int .i64 2, .int .i64 x1]) rfl rfl rfl ?_
          refine W.store (es' := [[.int .i64 2, .int .i64 x1]]) (dt := true) rfl rfl rfl rfl rfl (Nat.le_of_ble_eq_true rfl) rfl rfl rfl rfl ?_
          refine W.nil ?_
          refine Ev.ret ?_
          injection h with h; subst h
          exact ⟨_, rfl, .refl _⟩
        · replace h := iteF h c4
          refine Ev.skip ?_
          refine Ev.seq ?_
          refine W.reg hm ?_
          refine W.mv rfl ?_
          obtain ⟨r3, k5, h⟩ := obind h
          refine W.call (strings_IndexByte_spec n e2 10 r3 k5) rfl rfl (Les.refl _) rfl (.inl rfl) rfl ?_
          refine W.geq rfl rfl ?_
          refine W.nil ?_
          refine Ev.cond rfl (fun c6 => ?_) (fun c6 => ?_)
          · replace h := iteT h c6
            refine Ev.seq ?_
            refine W.reg hm ?_
            refine W.mv rfl ?_
            refine W.build (cs := [.int .i64 5, .int .i64 x1]) rfl rfl rfl ?_
            refine W.store (es' := [[.int .i64 5, .int .i64 x1]]) (dt := true) rfl rfl rfl rfl rfl (Nat.le_of_ble_eq_true rfl) rfl rfl rfl rfl ?_
            refine W.nil ?_
            refine Ev.ret ?_
            injection h with h; subst h
            exact ⟨_, rfl, .refl _⟩
          · replace h := iteF h c6
            refine Ev.skip ?_
            refine W.reg hm ?_
            obtain ⟨x4, k7, h⟩ := obind h
            refine W.addG rfl rfl k7 ?_
            refine W.mv rfl ?_
            refine W.nil ?_
            exact ⟨(m1, x4), h, Nat.lt_succ_self _, Wk.nrmTo [2, 9, 10, 11] [(10100, 10100)] rfl rfl⟩
      · replace h := iteF h c2
        refine Ev.exit ?_
        refine Ev.seq ?_
        refine W.reg hm ?_
        refine W.build (cs := [.int .i64 0, .int .i64 0]) rfl rfl rfl ?_
        refine W.store (es' := [[.int .i64 0, .int .i64 0]]) (dt := true) rfl rfl rfl rfl rfl (Nat.le_of_ble_eq_true rfl) rfl rfl rfl rfl ?_
        refine W.nil ?_
        refine Ev.ret ?_
        injection h with h; subst h
        exact ⟨_, rfl, .refl _⟩

set_option maxHeartbeats 4000000 in
theorem sandbox_checkOp_spec (n : Nat) (a0 : SKindText) (r : Int) (h : sandbox_checkOp n a0 = some r) : PSpec Tryd.prog 31 [.agg (SKindText.cells a0)] (.int .i64 r) := by
  unfold sandbox_checkOp at h
  refine spec_of Tryd.c_sandbox_checkOp (by simp) ?_
  unfold Tryd.l_sandbox_checkOp
  refine Ev.seq ?_
  refine W.reg hm ?_
  refine W.box (dt := true) (cs := [.int .i64 a0.Kind, .str a0.Text]) rfl rfl rfl rfl rfl rfl ?_
  refine W.mv rfl ?_
  refine W.nil ?_
  refine Ev.seqJ (γ := Unit) (fun v => ⟨[], [], 2⟩) (fun v => sandbox_checkOp_j1 n = some r) ?_ ?_
  · refine Ev.seq ?_
    refine W.reg hm ?_
    refine W.fieldAddrO rfl rfl ?_
    refine W.loadO (p := .int .i64 a0.Kind) rfl rfl rfl rfl ?_
    refine W.nil ?_
    refine Ev.block ?_
    refine Ev.seqJ (γ := Bool) (fun v => ⟨[(1, .pown 10200 0 0 0), (4, .int .i64 a0.Kind), (5, .bool v)], [(10200, ⟨0, 47, 2, [[.int .i64 a0.Kind, .str a0.Text]], true, false, false⟩)], 2⟩) (fun v => sandbox_checkOp_j2 n a0 v = some r) ?_ ?_
    · refine Ev.seq ?_
      refine W.reg hm ?_
      refine W.eql rfl rfl ?_
      refine W.mv rfl ?_
      refine W.nil ?_
      refine Ev.cond rfl (fun c9 => ?_) (fun c9 => ?_)
      · replace h := iteT h c9
        refine Ev.skip ?_
        exact ⟨(decide (a0.Kind = 1)), h, Wk.nrmTo [1, 4, 5] [(1, 10200)] rfl rfl⟩
      · replace h := iteF h c9
        refine W.reg hm ?_
        refine W.eql rfl rfl ?_
        refine W.mv rfl ?_
        refine W.nil ?_
        exact ⟨(decide (a0.Kind = 2)), h, Wk.nrmTo [1, 4, 5] [(1, 10200)] rfl rfl⟩
    · intro x1 h
      try dsimp only at h ⊢
      unfold sandbox_checkOp_j2 at h
      refine Ev.cond rfl (fun c1 => ?_) (fun c1 => ?_)
      · replace h := iteT h c1
        refine Ev.seq ?_
        refine W.reg hm ?_
        refine W.fieldAddrO rfl rfl ?_
        refine W.loadO (p := .str a0.Text) rfl rfl rfl rfl ?_
        obtain ⟨r2, k2, h⟩ := obind h
        refine W.call (treepatch_ValidPath_spec n a0.Text r2 k2) rfl rfl (Les.refl _) rfl (.inl rfl) rfl ?_
        refine W.not rfl ?_
        refine W.nil ?_
        refine Ev.cond rfl (fun c3 => ?_) (fun c3 => ?_)
        · replace h := iteT h c3
          refine Ev.seq ?_
          refine W.reg hm ?_
          refine W.mv rfl ?_
          refine W.nil ?_
          refine Ev.ret ?_
          injection h with h; subst h
          exact ⟨_, rfl, .refl _⟩
        · replace h := iteF h c3
          refine Ev.skip ?_
          exact ⟨(), h, Wk.nrmTo [] [] rfl rfl⟩
      · replace h := iteF h c1
        refine Ev.seq ?_
        refine W.reg hm ?_
        refine W.eql rfl rfl ?_
        refine W.mv rfl ?_
        refine W.nil ?_
        refine Ev.cond rfl (fun c4 => ?_) (fun c4 => ?_)
        · replace h := iteT h c4
          refine Ev.seq ?_
          refine W.reg hm ?_
          refine W.fieldAddrO rfl rfl ?_
          refine W.loadO (p := .str a0.Text) rfl rfl rfl rfl ?_
          refine W.mkSlice (dt := true) (es := [[.str a0.Text]]) rfl rfl rfl rfl rfl rfl ?_
          obtain ⟨r3, k5, h⟩ := obind h
          refine W.call (lines_Validate_spec n ([a0.Text] : List (List UInt8)) r3 k5) rfl rfl (Les.refl _) rfl (.inr rfl) rfl ?_
          refine W.field rfl rfl ?_
          refine W.mv rfl ?_
          refine W.nil ?_
          refine Ev.ret ?_
          injection h with h; subst h
          exact ⟨_, rfl, .refl _⟩
        · replace h := iteF h c4
          refine Ev.seqJ (γ := Bool) (fun v => ⟨[(1, .pown 10300 0 0 0), (19, .bool v)], [(10300, ⟨0, 47, 2, [[.int .i64 a0.Kind, .str a0.Text]], true, false, false⟩)], 2⟩) (fun v => sandbox_checkOp_j3 n a0 v = some r) ?_ ?_
          · refine Ev.seq ?_
            refine W.reg hm ?_
            refine W.eql rfl rfl ?_
            refine W.mv rfl ?_
            refine W.nil ?_
            refine Ev.cond rfl (fun c8 => ?_) (fun c8 => ?_)
            · replace h := iteT h c8
              refine Ev.skip ?_
              exact ⟨(decide (a0.Kind = 4)), h, Wk.nrmTo [1, 19] [(10200, 10300)] rfl rfl⟩
            · replace h := iteF h c8
              refine W.reg hm ?_
              refine W.eql rfl rfl ?_
              refine W.mv rfl ?_
              refine W.nil ?_
              exact ⟨(decide (a0.Kind = 5)), h, Wk.nrmTo [1, 19] [(10200, 10300)] rfl rfl⟩
          · intro x4 h
            try dsimp only at h ⊢
            unfold sandbox_checkOp_j3 at h
            refine Ev.cond rfl (fun c6 => ?_) (fun c6 => ?_)
            · replace h := iteT h c6
              refine Ev.seq ?_
              refine W.reg hm ?_
              refine W.fieldAddrO rfl rfl ?_
              refine W.loadO (p := .str a0.Text) rfl rfl rfl rfl ?_
              refine W.sneq rfl rfl ?_
              refine W.nil ?_
              refine Ev.cond rfl (fun c7 => ?_) (fun c7 => ?_)
              · replace h := iteT h c7
                refine Ev.seq ?_
                refine W.reg hm ?_
                refine W.mv rfl ?_
                refine W.nil ?_
                refine Ev.ret ?_
                injection h with h; subst h
                exact ⟨_, rfl, .refl _⟩
              · replace h := iteF h c7
                refine Ev.skip ?_
                exact ⟨(), h, Wk.nrmTo [] [] rfl rfl⟩
            · replace h := iteF h c6
              refine Ev.seq ?_
              refine W.reg hm ?_
              refine W.mv rfl ?_
              refine W.nil ?_
              refine Ev.ret ?_
              injection h with h; subst h
              exact ⟨_, rfl, .refl _⟩
  · intro _ h
    try dsimp only at h ⊢
    unfold sandbox_checkOp_j1 at h
    refine Ev.seq ?_
    refine W.reg hm ?_
    refine W.mv rfl ?_
    refine W.nil ?_
    refine Ev.ret ?_
    injection h with h; subst h
    exact ⟨_, rfl, .refl _⟩

set_option maxHeartbeats 4000000 in
theorem sandbox_Validate_spec (n : Nat) (a0 : SInputsOpsOutput) (r : SCodeIndex) (h : sandbox_Validate n a0 = some r) : PSpec Tryd.prog 11 [.agg (SInputsOpsOutput.cells a0)] (.agg (SCodeIndex.cells r)) := by
  unfold sandbox_Validate at h
  refine spec_of Tryd.c_sandbox_Validate (by simp) ?_
  unfold Tryd.l_sandbox_Validate
  refine Ev.seq ?_
  refine W.reg hm ?_
  refine W.box (dt := true) (cs := [.list 1 (List.map cS a0.Inputs), .list 2 (List.map SKindText.cells a0.Ops), .str a0.Output]) rfl rfl rfl rfl rfl rfl ?_
  refine W.alloc (dt := true) rfl rfl rfl ?_
  refine W.nil ?_
  refine Ev.seq ?_
  refine Ev.seqJ (γ := Bool) (fun v => ⟨[(1, .pown 10100 0 0 0), (2, .pown 10101 0 0 0), (17, .bool v)], [(10100, ⟨0, 25, 3, [[.list 1 (List.map cS a0.Inputs), .list 2 (List.map SKindText.cells a0.Ops), .str a0.Output]], true, false, false⟩), (10101, ⟨0, 30, 2, [[.int .i64 0, .int .i64 0]], true, false, false⟩)], 2⟩) (fun v => sandbox_Validate_j1 n a0 v = some r) ?_ ?_
  · refine W.reg hm ?_
    refine W.fieldAddrO rfl rfl ?_
    refine W.loadO (p := .list 1 (List.map cS a0.Inputs)) rfl rfl rfl rfl ?_
    refine W.lenL (c := cS) rfl ?_
    refine W.gtr rfl rfl ?_
    refine W.mv rfl ?_
    refine W.split 12 rfl (fun c19 => ?_) (fun c19 => ?_)
    · replace h := iteT h c19
      refine W.guardF2 rfl c19 ?_
      refine W.guardF2 rfl c19 ?_
      refine W.guardF2 rfl c19 ?_
      refine W.guardF2 rfl c19 ?_
      refine W.pickT rfl rfl rfl c19 ?_
      refine W.nil ?_
      exact ⟨true, h, Wk.nrmTo [1, 2, 17] [(1, 10100), (2, 10101)] rfl rfl⟩
    · replace h := iteF h c19
      refine W.guardT rfl c19 ?_
      refine W.fieldAddrO rfl rfl ?_
      refine W.guardT rfl c19 ?_
      refine W.loadO (p := .list 2 (List.map SKindText.cells a0.Ops)) rfl rfl rfl rfl ?_
      refine W.guardT rfl c19 ?_
      refine W.lenL (c := SKindText.cells) rfl ?_
      refine W.guardT rfl c19 ?_
      refine W.gtr rfl rfl ?_
      refine W.pickN rfl rfl rfl c19 ?_
      refine W.nil ?_
      exact ⟨(decide (16 < (a0.Ops.length : Int))), h, Wk.nrmTo [1, 2, 17] [(1, 10100), (2, 10101)] rfl rfl⟩
  · intro x1 h
    try dsimp only at h ⊢
    unfold sandbox_Validate_j1 at h
    refine Ev.cond rfl (fun c1 => ?_) (fun c1 => ?_)
    · replace h := iteT h c1
      refine Ev.seq ?_
      refine W.reg hm ?_
      refine W.build (cs := [.int .i64 2, .int .i64 (-1)]) rfl rfl rfl ?_
      refine W.store (es' := [[.int .i64 2, .int .i64 (-1)]]) (dt := true) rfl rfl rfl rfl rfl (Nat.le_of_ble_eq_true rfl) rfl rfl rfl rfl ?_
      refine W.nil ?_
      refine Ev.ret ?_
      injection h with h; subst h
      exact ⟨_, rfl, .refl _⟩
    · replace h := iteF h c1
      refine Ev.skip ?_
      refine Ev.seq ?_
      refine Ev.seq ?_
      refine W.reg hm ?_
      refine W.fieldAddrO rfl rfl ?_
      refine W.loadO (p := .list 1 (List.map cS a0.Inputs)) rfl rfl rfl rfl ?_
      refine W.lenL (c := cS) rfl ?_
      refine W.mv rfl ?_
      refine W.nil ?_
      refine Ev.block ?_
      refine Ev.loopW (β := Nat × Int) (fun v => ⟨[(1, .pown 10200 0 0 0), (2, .pown 10201 0 0 0), (20, .list 1 (List.map cS a0.Inputs)), (21, .int .i64 (a0.Inputs.length : Int)), (22, .int .i64 v.2)], [(10200, ⟨0, 25, 3, [[.list 1 (List.map cS a0.Inputs), .list 2 (List.map SKindText.cells a0.Ops), .str a0.Output]], true, false, false⟩), (10201, ⟨0, 30, 2, [[.int .i64 0, .int .i64 0]], true, false, false⟩)], 2⟩) (fun v => sandbox_Validate_l1 n a0 v.1 v.2 = some r) (fun v => v.1) (n, 0) (Wk.nrmTo [1, 2, 20, 21, 22] [(10100, 10200), (10101, 10201)] rfl rfl) h ?_
      intro ⟨m1, x2⟩ h
      try dsimp only at h ⊢
      cases m1 with
      | zero => rw [sandbox_Validate_l1] at h; cases h
      | succ m1 =>
        rw [sandbox_Validate_l1] at h
        refine Ev.seq ?_
        refine W.reg hm ?_
        refine W.lss rfl rfl ?_
        refine W.nil ?_
        refine Ev.seq ?_
        refine Ev.cond rfl (fun c2 => ?_) (fun c2 => ?_)
        · replace h := iteT h c2
          refine Ev.skip ?_
          refine Ev.seq ?_
          refine Ev.block ?_
          refine Ev.seq ?_
          refine W.reg hm ?_
          refine W.mv rfl ?_
          obtain ⟨e3, k3, h⟩ := obind h
          refine W.idxL (c := cS) rfl rfl k3 ?_
          refine W.load rfl rfl ?_
          refine W.mv rfl ?_
          refine W.mv rfl ?_
          refine W.nil ?_
          refine Ev.seq ?_
          refine Ev.seq ?_
          refine W.reg hm ?_
          refine W.mv rfl ?_
          obtain ⟨r4, k4, h⟩ := obind h
          refine W.call (treepatch_ValidPath_spec n e3 r4 k4) rfl rfl (Les.refl _) rfl (.inl rfl) rfl ?_
          refine W.not rfl ?_
          refine W.nil ?_
          refine Ev.cond rfl (fun c5 => ?_) (fun c5 => ?_)
          · replace h := iteT h c5
            refine Ev.seq ?_
            refine W.reg hm ?_
            refine W.mv rfl ?_
            refine W.build (cs := [.int .i64 12, .int .i64 x2]) rfl rfl rfl ?_
            refine W.store (es' := [[.int .i64 12, .int .i64 x2]]) (dt := true) rfl rfl rfl rfl rfl (Nat.le_of_ble_eq_true rfl) rfl rfl rfl rfl ?_
            refine W.nil ?_
            refine Ev.ret ?_
            injection h with h; subst h
            exact ⟨_, rfl, .refl _⟩
          · replace h := iteF h c5
            refine Ev.skip ?_
            refine Ev.seqJ (γ := Bool) (fun v => ⟨[(1, .pown 10300 0 0 0), (2, .pown 10301 0 0 0), (3, .int .i64 x2), (20, .list 1 (List.map cS a0.Inputs)), (21, .int .i64 (a0.Inputs.length : Int)), (22, .int .i64 x2), (43, .bool v)], [(10300, ⟨0, 25, 3, [[.list 1 (List.map cS a0.Inputs), .list 2 (List.map SKindText.cells a0.Ops), .str a0.Output]], true, false, false⟩), (10301, ⟨0, 30, 2, [[.int .i64 0, .int .i64 0]], true, false, false⟩)], 2⟩) (fun v => sandbox_Validate_j2 n x2 (sandbox_Validate_l1 n a0 m1) v = some r) ?_ ?_
            · refine W.reg hm ?_
              refine W.mv rfl ?_
              refine W.gtr rfl rfl ?_
              refine W.mv rfl ?_
              refine W.split 34 rfl (fun c8 => ?_) (fun c8 => ?_)
              · replace h := iteT h c8
                refine W.guardT rfl c8 ?_
                refine W.mv rfl ?_
                refine W.guardT rfl c8 ?_
                refine W.fieldAddrO rfl rfl ?_
                refine W.guardT rfl c8 ?_
                refine W.loadO (p := .list 1 (List.map cS a0.Inputs)) rfl rfl rfl rfl ?_
                refine W.guardT rfl c8 ?_
                refine W.mv rfl ?_
                refine W.guardT rfl c8 ?_
                obtain ⟨x7, k9, h⟩ := obind h
                refine W.subG rfl rfl k9 ?_
                refine W.guardT rfl c8 ?_
                obtain ⟨e8, k10, h⟩ := obind h
                refine W.idxL (c := cS) rfl rfl k10 ?_
                refine W.guardT rfl c8 ?_
                refine W.load rfl rfl ?_
                refine W.guardT rfl c8 ?_
                refine W.sleq rfl rfl ?_
                refine W.pickT rfl rfl rfl c8 ?_
                refine W.nil ?_
                exact ⟨(Op.bytesLess e3 e8 || e3 == e8), h, Wk.nrmTo [1, 2, 3, 20, 21, 22, 43] [(10200, 10300), (10201, 10301)] rfl rfl⟩
              · replace h := iteF h c8
                refine W.guardF1 rfl c8 ?_
                refine W.guardF1 rfl c8 ?_
                refine W.guardF1 rfl c8 ?_
                refine W.guardF1 rfl c8 ?_
                refine W.guardF1 rfl c8 ?_
                refine W.guardF1 rfl c8 ?_
                refine W.guardF1 rfl c8 ?_
                refine W.guardF1 rfl c8 ?_
                refine W.pickN rfl rfl rfl c8 ?_
                refine W.nil ?_
                exact ⟨false, h, Wk.nrmTo [1, 2, 3, 20, 21, 22, 43] [(10200, 10300), (10201, 10301)] rfl rfl⟩
            · intro x5 h
              try dsimp only at h ⊢
              unfold sandbox_Validate_j2 at h
              refine Ev.cond rfl (fun c6 => ?_) (fun c6 => ?_)
              · replace h := iteT h c6
                refine Ev.seq ?_
                refine W.reg hm ?_
                refine W.mv rfl ?_
                refine W.build (cs := [.int .i64 5, .int .i64 x2]) rfl rfl rfl ?_
                refine W.store (es' := [[.int .i64 5, .int .i64 x2]]) (dt := true) rfl rfl rfl rfl rfl (Nat.le_of_ble_eq_true rfl) rfl rfl rfl rfl ?_
                refine W.nil ?_
                refine Ev.ret ?_
                injection h with h; subst h
                exact ⟨_, rfl, .refl _⟩
              · replace h := iteF h c6
                refine Ev.skip ?_
                refine W.reg hm ?_
                obtain ⟨x6, k7, h⟩ := obind h
                refine W.addG rfl rfl k7 ?_
                refine W.mv rfl ?_
                refine W.nil ?_
                exact ⟨(m1, x6), h, Nat.lt_succ_self _, Wk.nrmTo [1, 2, 20, 21, 22] [(10300, 10200), (10301, 10201)] rfl rfl⟩
        · replace h := iteF h c2
          refine Ev.exit ?_
          refine Ev.seq ?_
          refine Ev.seq ?_
          refine W.reg hm ?_
          refine W.fieldAddrO rfl rfl ?_
          refine W.loadO (p := .str a0.Output) rfl rfl rfl rfl ?_
          obtain ⟨r9, k11, h⟩ := obind h
          refine W.call (treepatch_ValidPath_spec n a0.Output r9 k11) rfl rfl (Les.refl _) rfl (.inl rfl) rfl ?_
          refine W.not rfl ?_
          refine W.nil ?_
          refine Ev.cond rfl (fun c12 => ?_) (fun c12 => ?_)
          · replace h := iteT h c12
            refine Ev.seq ?_
            refine W.reg hm ?_
            refine W.build (cs := [.int .i64 12, .int .i64 (-2)]) rfl rfl rfl ?_
            refine W.store (es' := [[.int .i64 12, .int .i64 (-2)]]) (dt := true) rfl rfl rfl rfl rfl (Nat.le_of_ble_eq_true rfl) rfl rfl rfl rfl ?_
            refine W.nil ?_
            refine Ev.ret ?_
            injection h with h; subst h
            exact ⟨_, rfl, .refl _⟩
          · replace h := iteF h c12
            refine Ev.skip ?_
            refine Ev.seq ?_
            refine Ev.seq ?_
            refine W.reg hm ?_
            refine W.fieldAddrO rfl rfl ?_
            refine W.loadO (p := .list 2 (List.map SKindText.cells a0.Ops)) rfl rfl rfl rfl ?_
            refine W.lenL (c := SKindText.cells) rfl ?_
            refine W.mv rfl ?_
            refine W.nil ?_
            refine Ev.block ?_
            refine Ev.loopW (β := Nat × Int) (fun v => ⟨[(2, .pown 10300 0 0 0), (53, .list 2 (List.map SKindText.cells a0.Ops)), (54, .int .i64 (a0.Ops.length : Int)), (55, .int .i64 v.2)], [(10300, ⟨0, 30, 2, [[.int .i64 0, .int .i64 0]], true, false, false⟩)], 2⟩) (fun v => sandbox_Validate_l2 n a0 v.1 v.2 = some r) (fun v => v.1) (n, 0) (Wk.nrmTo [2, 53, 54, 55] [(10201, 10300)] rfl rfl) h ?_
            intro ⟨m2, x10⟩ h
            try dsimp only at h ⊢
            cases m2 with
            | zero => rw [sandbox_Validate_l2] at h; cases h
            | succ m2 =>
              rw [sandbox_Validate_l2] at h
              refine Ev.seq ?_
              refine W.reg hm ?_
              refine W.lss rfl rfl ?_
              refine W.nil ?_
              refine Ev.seq ?_
              refine Ev.cond rfl (fun c13 => ?_) (fun c13 => ?_)
              · replace h := iteT h c13
                refine Ev.skip ?_
                refine Ev.seq ?_
                refine Ev.block ?_
                refine Ev.seq ?_
                refine W.reg hm ?_
                refine W.mv rfl ?_
                obtain ⟨e11, k14, h⟩ := obind h
                refine W.idxL (c := SKindText.cells) rfl rfl k14 ?_
                refine W.load rfl rfl ?_
                refine W.alloc (dt := true) rfl rfl rfl ?_
                refine W.mv rfl ?_
                refine W.store (es' := [[.int .i64 e11.Kind, .str e11.Text]]) (dt := true) rfl rfl rfl rfl rfl (Nat.le_of_ble_eq_true rfl) rfl rfl rfl rfl ?_
                refine W.nil ?_
                refine Ev.seq ?_
                refine W.reg hm ?_
                refine W.loadO (p := .agg [.int .i64 e11.Kind, .str e11.Text]) rfl rfl rfl rfl ?_
                obtain ⟨r12, k15, h⟩ := obind h
                refine W.call (sandbox_checkOp_spec n e11 r12 k15) rfl rfl (Les.refl _) rfl (.inl rfl) rfl ?_
                refine W.mv rfl ?_
                refine W.nil ?_
                refine Ev.seq ?_
                refine W.reg hm ?_
                refine W.mv rfl ?_
                refine W.neq rfl rfl ?_
                refine W.nil ?_
                refine Ev.cond rfl (fun c16 => ?_) (fun c16 => ?_)
                · replace h := iteT h c16
                  refine Ev.seq ?_
                  refine W.reg hm ?_
                  refine W.mv rfl ?_
                  refine W.mv rfl ?_
                  obtain ⟨x13, k17, h⟩ := obind h
                  refine W.subG rfl rfl k17 ?_
                  refine W.build (cs := [.int .i64 r12, .int .i64 x13]) rfl rfl rfl ?_
                  refine W.store (es' := [[.int .i64 r12, .int .i64 x13]]) (dt := true) rfl rfl rfl rfl rfl (Nat.le_of_ble_eq_true rfl) rfl rfl rfl rfl ?_
                  refine W.nil ?_
                  refine Ev.ret ?_
                  injection h with h; subst h
                  exact ⟨_, rfl, .refl _⟩
                · replace h := iteF h c16
                  refine Ev.skip ?_
                  refine W.reg hm ?_
                  obtain ⟨x14, k18, h⟩ := obind h
                  refine W.addG rfl rfl k18 ?_
                  refine W.mv rfl ?_
                  refine W.nil ?_
                  exact ⟨(m2, x14), h, Nat.lt_succ_self _, Wk.nrmTo [2, 53, 54, 55] [(10300, 10300)] rfl rfl⟩
              · replace h := iteF h c13
                refine Ev.exit ?_
                refine Ev.seq ?_
                refine W.reg hm ?_
                refine W.build (cs := [.int .i64 0, .int .i64 0]) rfl rfl rfl ?_
                refine W.store (es' := [[.int .i64 0, .int .i64 0]]) (dt := true) rfl rfl rfl rfl rfl (Nat.le_of_ble_eq_true rfl) rfl rfl rfl rfl ?_
                refine W.nil ?_
                refine Ev.ret ?_
                injection h with h; subst h
                exact ⟨_, rfl, .refl _⟩

set_option maxHeartbeats 4000000 in
theorem sandbox_Reads_spec (n : Nat) (a0 : SInputsOpsOutput) (r : ((List (List UInt8)) × SCodeIndex)) (h : sandbox_Reads n a0 = some r) : PSpec Tryd.prog 12 [.agg (SInputsOpsOutput.cells a0)] (.tup [.list 1 (List.map cS r.1), .agg (SCodeIndex.cells r.2)]) := by
  unfold sandbox_Reads at h
  refine spec_of Tryd.c_sandbox_Reads (by simp) ?_
  unfold Tryd.l_sandbox_Reads
  refine Ev.seq ?_
  refine W.reg hm ?_
  refine W.box (dt := true) (cs := [.list 1 (List.map cS a0.Inputs), .list 2 (List.map SKindText.cells a0.Ops), .str a0.Output]) rfl rfl rfl rfl rfl rfl ?_
  refine W.mv rfl ?_
  refine W.alloc (dt := true) rfl rfl rfl ?_
  refine W.nil ?_
  refine Ev.seq ?_
  refine Ev.seq ?_
  refine W.reg hm ?_
  refine W.loadO (p := .agg [.list 1 (List.map cS a0.Inputs), .list 2 (List.map SKindText.cells a0.Ops), .str a0.Output]) rfl rfl rfl rfl ?_
  obtain ⟨r1, k1, h⟩ := obind h
  refine W.call (sandbox_Validate_spec n a0 r1 k1) rfl rfl (Les.refl _) rfl (.inl rfl) rfl ?_
  refine W.alloc (dt := true) rfl rfl rfl ?_
  refine W.store (es' := [[.int .i64 r1.Code, .int .i64 r1.Index]]) (dt := true) rfl rfl rfl rfl rfl (Nat.le_of_ble_eq_true rfl) rfl rfl rfl rfl ?_
  refine W.nil ?_
  refine Ev.seq ?_
  refine W.reg hm ?_
  refine W.loadO (p := .agg [.int .i64 r1.Code, .int .i64 r1.Index]) rfl rfl rfl rfl ?_
  refine W.build (cs := [.int .i64 0, .int .i64 0]) rfl rfl rfl ?_
  refine W.eqs rfl rfl rfl ?_
  refine W.nil ?_
  refine Ev.cond rfl (fun c2 => ?_) (fun c2 => ?_)
  · replace h := iteT h c2
    refine Ev.seq ?_
    refine W.regD hm ?_
    refine W.loadO (p := .agg [.int .i64 r1.Code, .int .i64 r1.Index]) rfl rfl rfl rfl ?_
    refine W.mv rfl ?_
    refine W.store (es' := [[.int .i64 r1.Code, .int .i64 r1.Index]]) (dt := true) rfl rfl rfl rfl rfl (Nat.le_of_ble_eq_true rfl) rfl rfl rfl rfl ?_
    refine W.nil ⟨rfl, ?_⟩
    refine Ev.ret ?_
    injection h with h; subst h
    exact ⟨_, rfl, Le.tups (.cons (.nils 1) (.cons (.refl _) (.nil)))⟩
  · replace h := iteF h c2
    refine Ev.skip ?_
    refine Ev.seq ?_
    refine W.reg hm ?_
    refine W.mv rfl ?_
    refine W.nil ?_
    refine Ev.seq ?_
    refine Ev.seq ?_
    refine W.reg hm ?_
    refine W.fieldAddrO rfl rfl ?_
    refine W.loadO (p := .list 2 (List.map SKindText.cells a0.Ops)) rfl rfl rfl rfl ?_
    refine W.lenL (c := SKindText.cells) rfl ?_
    refine W.mv rfl ?_
    refine W.nil ?_
    refine Ev.block ?_
    refine Ev.loopW (β := Nat × (List (List UInt8)) × Int) (fun v => ⟨[(3, .pown 10100 0 0 0), (5, .own 10101 0), (15, .list 2 (List.map SKindText.cells a0.Ops)), (16, .int .i64 (a0.Ops.length : Int)), (17, .int .i64 v.2.2)], [(10100, ⟨0, 30, 2, [[.int .i64 0, .int .i64 0]], true, false, false⟩), (10101, ⟨0, 9, 1, List.map cS v.2.1, true, false, false⟩)], 2⟩) (fun v => sandbox_Reads_l1 n a0 v.1 v.2.1 v.2.2 = some r) (fun v => v.1) (n, ([] : List (List UInt8)), 0) ((Wk.ownNil 5 30101 9 1 rfl rfl true).trans (Wk.nrmTo [3, 5, 15, 16, 17] [(3, 10100), (30101, 10101)] rfl rfl)) h ?_
    intro ⟨m1, w2, x3⟩ h
    try dsimp only at h ⊢
    cases m1 with
    | zero => rw [sandbox_Reads_l1] at h; cases h
    | succ m1 =>
      rw [sandbox_Reads_l1] at h
      refine Ev.seq ?_
      refine W.reg hm ?_
      refine W.lss rfl rfl ?_
      refine W.nil ?_
      refine Ev.seq ?_
      refine Ev.cond rfl (fun c3 => ?_) (fun c3 => ?_)
      · replace h := iteT h c3
        refine Ev.skip ?_
        refine Ev.seqJ (γ := List (List UInt8)) (fun v => ⟨[(3, .pown 10200 0 0 0), (5, .own 10201 0), (15, .list 2 (List.map SKindText.cells a0.Ops)), (16, .int .i64 (a0.Ops.length : Int)), (17, .int .i64 x3)], [(10200, ⟨0, 30, 2, [[.int .i64 0, .int .i64 0]], true, false, false⟩), (10201, ⟨0, 9, 1, List.map cS v, true, false, false⟩)], 2⟩) (fun v => sandbox_Reads_j1 n x3 (sandbox_Reads_l1 n a0 m1) v = some r) ?_ ?_
        · refine Ev.block ?_
          refine Ev.seq ?_
          refine W.reg hm ?_
          obtain ⟨e6, k5, h⟩ := obind h
          refine W.idxL (c := SKindText.cells) rfl rfl k5 ?_
          refine W.load rfl rfl ?_
          refine W.alloc (dt := true) rfl rfl rfl ?_
          refine W.store (es' := [[.int .i64 e6.Kind, .str e6.Text]]) (dt := true) rfl rfl rfl rfl rfl (Nat.le_of_ble_eq_true rfl) rfl rfl rfl rfl ?_
          refine W.nil ?_
          refine Ev.seqJ (γ := Bool) (fun v => ⟨[(3, .pown 10300 0 0 0), (5, .own 10301 0), (7, .pown 10302 0 0 0), (15, .list 2 (List.map SKindText.cells a0.Ops)), (16, .int .i64 (a0.Ops.length : Int)), (17, .int .i64 x3), (28, .bool v)], [(10300, ⟨0, 30, 2, [[.int .i64 0, .int .i64 0]], true, false, false⟩), (10301, ⟨0, 9, 1, List.map cS w2, true, false, false⟩), (10302, ⟨0, 47, 2, [[.int .i64 e6.Kind, .str e6.Text]], true, false, false⟩)], 2⟩) (fun v => sandbox_Reads_j2 n w2 x3 (sandbox_Reads_l1 n a0 m1) e6 v = some r) ?_ ?_
          · refine W.reg hm ?_
            refine W.fieldAddrO rfl rfl ?_
            refine W.loadO (p := .int .i64 e6.Kind) rfl rfl rfl rfl ?_
            refine W.eql rfl rfl ?_
            refine W.mv rfl ?_
            refine W.split 24 rfl (fun c8 => ?_) (fun c8 => ?_)
            · replace h := iteT h c8
              refine W.guardF2 rfl c8 ?_
              refine W.guardF2 rfl c8 ?_
              refine W.guardF2 rfl c8 ?_
              refine W.pickT rfl rfl rfl c8 ?_
              refine W.nil ?_
              exact ⟨true, h, Wk.nrmTo [3, 5, 7, 15, 16, 17, 28] [(10100, 10300), (10101, 10301), (7, 10302)] rfl rfl⟩
            · replace h := iteF h c8
              refine W.guardT rfl c8 ?_
              refine W.fieldAddrO rfl rfl ?_
              refine W.guardT rfl c8 ?_
              refine W.loadO (p := .int .i64 e6.Kind) rfl rfl rfl rfl ?_
              refine W.guardT rfl c8 ?_
              refine W.eql rfl rfl ?_
              refine W.pickN rfl rfl rfl c8 ?_
              refine W.nil ?_
              exact ⟨(decide (e6.Kind = 2)), h, Wk.nrmTo [3, 5, 7, 15, 16, 17, 28] [(10100, 10300), (10101, 10301), (7, 10302)] rfl rfl⟩
          · intro x7 h
            try dsimp only at h ⊢
            unfold sandbox_Reads_j2 at h
            refine Ev.cond rfl (fun c6 => ?_) (fun c6 => ?_)
            · replace h := iteT h c6
              refine W.reg hm ?_
              refine W.mv rfl ?_
              refine W.fieldAddrO rfl rfl ?_
              refine W.loadO (p := .str e6.Text) rfl rfl rfl rfl ?_
              refine W.mkSlice (dt := true) (es := [[.str e6.Text]]) rfl rfl rfl rfl rfl rfl ?_
              obtain ⟨w8, k7, h⟩ := obind h
              refine W.appR true (l := w2) (c := cS) (ys := ([e6.Text] : List (List UInt8))) rfl rfl rfl rfl rfl rfl rfl rfl k7 rfl (by simp) ?_
              refine W.mv rfl ?_
              refine W.nil ?_
              exact ⟨w8, h, Wk.nrmTo [3, 5, 15, 16, 17] [(10300, 10200), (33, 10201)] rfl rfl⟩
            · replace h := iteF h c6
              refine Ev.skip ?_
              exact ⟨w2, h, Wk.nrmTo [3, 5, 15, 16, 17] [(10300, 10200), (10301, 10201)] rfl rfl⟩
        · intro w4 h
          try dsimp only at h ⊢
          unfold sandbox_Reads_j1 at h
          refine W.reg hm ?_
          obtain ⟨x5, k4, h⟩ := obind h
          refine W.addG rfl rfl k4 ?_
          refine W.mv rfl ?_
          refine W.nil ?_
          exact ⟨(m1, w4, x5), h, Nat.lt_succ_self _, Wk.nrmTo [3, 5, 15, 16, 17] [(10200, 10100), (10201, 10101)] rfl rfl⟩
      · replace h := iteF h c3
        refine Ev.exit ?_
        refine Ev.seq ?_
        refine W.reg hm ?_
        refine W.mv rfl ?_
        refine W.rowCall (k_SortS w2) rfl rfl (by simp [sortedS]) rfl ?_
        refine W.nil ?_
        refine Ev.seq ?_
        refine Ev.regS rfl ?_
        refine Sq.w 1 (Nat.le_of_ble_eq_true rfl) ?_
        refine W.mv rfl ?_
        refine W.nil ?_
        refine Sq.call rfl Tryd.c_slices_Compact_string ⟨_, rfl, Nat.le_of_ble_eq_true rfl, ?_⟩
        unfold Tryd.l_slices_Compact_string
        refine Ev.retJ (γ := List (List UInt8)) (fun v => ⟨[(2, .list 1 (List.map cS v)), (65539, .pown 10200 0 0 0)], [(10200, ⟨0, 30, 2, [[.int .i64 0, .int .i64 0]], true, false, false⟩)], 2⟩) (fun v => sandbox_Reads_j3 n v = some r) ?_ ?_
        · refine Ev.seq ?_
          refine W.reg hm ?_
          refine W.mv rfl ?_
          refine W.nil ?_
          refine Ev.seq ?_
          refine Ev.seq ?_
          refine W.reg hm ?_
          refine W.mv rfl ?_
          refine W.lenO (l := (sortedS w2)) (c := cS) rfl rfl rfl ?_
          refine W.lss rfl rfl ?_
          refine W.nil ?_
          refine Ev.cond rfl (fun c9 => ?_) (fun c9 => ?_)
          · replace h := iteT h c9
            refine Ev.seq ?_
            refine W.reg hm ?_
            refine W.mv rfl ?_
            refine W.mv rfl ?_
            refine W.nil ?_
            refine Ev.weak ?_ (Wk.frz 10101 0 rfl rfl)
            refine Ev.ret ?_
            exact ⟨(sortedS w2), h, Wk.nrmTo [2, 65539] [(10100, 10200)] rfl rfl⟩
          · replace h := iteF h c9
            refine Ev.skip ?_
            refine Ev.seq ?_
            refine Ev.seq ?_
            refine W.reg hm ?_
            refine W.mv rfl ?_
            refine W.nil ?_
            refine Ev.block ?_
            refine Ev.loopW (β := Nat × Int) (fun v => ⟨[(0, .own 10300 0), (3, .int .i64 v.2), (65539, .pown 10301 0 0 0)], [(10300, ⟨0, 9, 1, List.map cS (sortedS w2), true, false, false⟩), (10301, ⟨0, 30, 2, [[.int .i64 0, .int .i64 0]], true, false, false⟩)], 2⟩) (fun v => sandbox_Reads_l2 n w2 v.1 v.2 = some r) (fun v => v.1) (n, 1) (Wk.nrmTo [0, 3, 65539] [(10101, 10300), (10100, 10301)] rfl rfl) h ?_
            intro ⟨m2, x10⟩ h
            try dsimp only at h ⊢
            cases m2 with
            | zero => rw [sandbox_Reads_l2] at h; cases h
            | succ m2 =>
              rw [sandbox_Reads_l2] at h
              refine Ev.seq ?_
              refine Ev.seq ?_
              refine W.reg hm ?_
              refine W.mv rfl ?_
              refine W.mv rfl ?_
              refine W.lenO (l := (sortedS w2)) (c := cS) rfl rfl rfl ?_
              refine W.lss rfl rfl ?_
              refine W.nil ?_
              refine Ev.cond rfl (fun c10 => ?_) (fun c10 => ?_)
              · replace h := iteT h c10
                refine Ev.skip ?_
                refine Ev.seq ?_
                refine Ev.block ?_
                refine Ev.seq ?_
                refine W.regD hm ?_
                refine W.mv rfl ?_
                refine W.mv rfl ?_
                obtain ⟨e11, k11, h⟩ := obind h
                refine W.idxR (l := (sortedS w2)) (c := cS) rfl rfl rfl rfl rfl k11 ?_
                refine W.loadR (l := (sortedS w2)) (c := cS) (v := e11) (p := .str e11) rfl rfl rfl (gidx_some k11).2 rfl ?_
                refine W.mv rfl ?_
                refine W.mv rfl ?_
                obtain ⟨x12, k12, h⟩ := obind h
                refine W.subG rfl rfl k12 ?_
                obtain ⟨e13, k13, h⟩ := obind h
                refine W.idxR (l := (sortedS w2)) (c := cS) rfl rfl rfl rfl rfl k13 ?_
                refine W.loadR (l := (sortedS w2)) (c := cS) (v := e13) (p := .str e13) rfl rfl rfl (gidx_some k13).2 rfl ?_
                refine W.seql rfl rfl ?_
                refine W.nil ⟨rfl, ?_⟩
                refine Ev.cond rfl (fun c14 => ?_) (fun c14 => ?_)
                · replace h := iteT h c14
                  refine Ev.seq ?_
                  refine W.reg hm ?_
                  refine W.mv rfl ?_
                  refine W.mv rfl ?_
                  obtain ⟨s14, k15, h⟩ := obind h
                  refine W.sliceR (l := (sortedS w2)) (c := cS) rfl rfl rfl rfl k15 (by rw [List.length_map]; exact ix0 (gcut_some k15).1) ?_
                  refine W.mv rfl ?_
                  refine W.nil ?_
                  refine Ev.seq ?_
                  refine Ev.seq ?_
                  refine W.reg hm ?_
                  refine W.mv rfl ?_
                  refine W.nil ?_
                  refine Ev.block ?_
                  refine Ev.loopW (β := Nat × (List (List UInt8)) × Int × Int) (fun v => ⟨[(0, .own 10400 0), (3, .int .i64 v.2.2.1), (4, .sub 10400 0 x10.toNat ((sortedS w2).length : Int).toNat), (5, .int .i64 v.2.2.2), (65539, .pown 10401 0 0 0)], [(10400, ⟨0, 9, 1, List.map cS v.2.1, true, false, false⟩), (10401, ⟨0, 30, 2, [[.int .i64 0, .int .i64 0]], true, false, false⟩)], 2⟩) (fun v => sandbox_Reads_l3 n w2 x10 v.1 v.2.1 v.2.2.1 v.2.2.2 = some r) (fun v => v.1) (n, (sortedS w2), x10, 1) (Wk.nrmTo [0, 3, 4, 5, 65539] [(10300, 10400), (10301, 10401)] rfl rfl) h ?_
                  intro ⟨m3, w15, x16, x17⟩ h
                  try dsimp only at h ⊢
                  cases m3 with
                  | zero => rw [sandbox_Reads_l3] at h; cases h
                  | succ m3 =>
                    rw [sandbox_Reads_l3] at h
                    refine Ev.seq ?_
                    refine Ev.seq ?_
                    obtain ⟨s18, k16, h⟩ := obind h
                    refine W.reg hm ?_
                    refine W.mv rfl ?_
                    refine W.mv rfl ?_
                    refine W.lenS (t := s18) (c := cS) rfl rfl (by rw [map_cut, (gcut_some k16).2.2.2.2]) ?_
                    refine W.lss rfl rfl ?_
                    refine W.nil ?_
                    refine Ev.cond rfl (fun c17 => ?_) (fun c17 => ?_)
                    · replace h := iteT h c17
                      refine Ev.skip ?_
                      refine Ev.seqJ (γ := (List (List UInt8)) × Int) (fun v => ⟨[(0, .own 10500 0), (3, .int .i64 v.2), (4, .sub 10500 0 x10.toNat ((sortedS w2).length : Int).toNat), (5, .int .i64 x17), (65539, .pown 10501 0 0 0)], [(10500, ⟨0, 9, 1, List.map cS v.1, true, false, false⟩), (10501, ⟨0, 30, 2, [[.int .i64 0, .int .i64 0]], true, false, false⟩)], 2⟩) (fun v => sandbox_Reads_j4 n x17 (sandbox_Reads_l3 n w2 x10 m3) v.1 v.2 = some r) ?_ ?_
                      · refine Ev.block ?_
                        refine Ev.seq ?_
                        refine W.regD hm ?_
                        refine W.mv rfl ?_
                        refine W.mv rfl ?_
                        obtain ⟨e22, k19, h⟩ := obind h
                        refine W.idxSR rfl rfl rfl rfl k16 k19 ?_
                        obtain ⟨e23, k20, h⟩ := obind h
                        refine W.loadR (l := w15) (c := cS) (v := e23) (p := .str e23) rfl rfl rfl (gidx_some k20).2 rfl ?_
                        refine W.mv rfl ?_
                        refine W.mv rfl ?_
                        obtain ⟨x24, k21, h⟩ := obind h
                        refine W.subG rfl rfl k21 ?_
                        obtain ⟨e25, k22, h⟩ := obind h
                        refine W.idxSR rfl rfl rfl rfl k16 k22 ?_
                        obtain ⟨e26, k23, h⟩ := obind h
                        refine W.loadR (l := w15) (c := cS) (v := e26) (p := .str e26) rfl rfl rfl (gidx_some k23).2 rfl ?_
                        refine W.sneq rfl rfl ?_
                        refine W.nil ⟨rfl, ?_⟩
                        refine Ev.cond rfl (fun c24 => ?_) (fun c24 => ?_)
                        · replace h := iteT h c24
                          refine Ev.seq ?_
                          refine W.reg hm ?_
                          refine W.mv rfl ?_
                          refine W.mv rfl ?_
                          refine W.mv rfl ?_
                          refine W.mv rfl ?_
                          refine W.idxSR rfl rfl rfl rfl k16 k19 ?_
                          refine W.loadR (l := w15) (c := cS) (v := e23) (p := .str e23) rfl rfl rfl (gidx_some k20).2 rfl ?_
                          obtain ⟨e27, k25, h⟩ := obind h
                          refine W.idxR (l := w15) (c := cS) rfl rfl rfl rfl rfl k25 ?_
                          refine W.storeR true (l := w15) (c := cS) (v := e27) (v' := e23) rfl rfl rfl rfl (gidx_some k25).2 rfl (Nat.le_of_ble_eq_true rfl) rfl rfl rfl ?_
                          refine W.nil ?_
                          refine W.reg hm ?_
                          refine W.mv rfl ?_
                          obtain ⟨x28, k26, h⟩ := obind h
                          refine W.addG rfl rfl k26 ?_
                          refine W.mv rfl ?_
                          refine W.nil ?_
                          exact ⟨((gset w15 x16 e23), x28), h, Wk.nrmTo [0, 3, 4, 5, 65539] [(10400, 10500), (10401, 10501)] rfl rfl⟩
                        · replace h := iteF h c24
                          refine Ev.skip ?_
                          exact ⟨(w15, x16), h, Wk.nrmTo [0, 3, 4, 5, 65539] [(10400, 10500), (10401, 10501)] rfl rfl⟩
                      · intro ⟨w19, x20⟩ h
                        try dsimp only at h ⊢
                        unfold sandbox_Reads_j4 at h
                        refine W.reg hm ?_
                        refine W.mv rfl ?_
                        obtain ⟨x21, k18, h⟩ := obind h
                        refine W.addG rfl rfl k18 ?_
                        refine W.mv rfl ?_
                        refine W.nil ?_
                        exact ⟨(m3, w19, x20, x21), h, Nat.lt_succ_self _, Wk.nrmTo [0, 3, 4, 5, 65539] [(10500, 10400), (10501, 10401)] rfl rfl⟩
                    · replace h := iteF h c17
                      refine Ev.exit ?_
                      refine Ev.seq ?_
                      refine W.reg hm ?_
                      refine W.mv rfl ?_
                      refine W.mv rfl ?_
                      obtain ⟨s29, k27, h⟩ := obind h
                      refine W.sliceR (l := w15) (c := cS) rfl rfl rfl rfl k27 (by rw [List.length_map]; exact ix0 (gcut_some k27).1) ?_
                      refine W.clearS (l := w15) (c := cS) ([] : List UInt8) rfl rfl rfl rfl k27 rfl rfl ?_
                      refine W.nil ?_
                      refine Ev.seq ?_
                      refine W.reg hm ?_
                      refine W.mv rfl ?_
                      refine W.mv rfl ?_
                      obtain ⟨s30, k28, h⟩ := obind h
                      refine W.sliceR (l := (gclear w15 x16.toNat (w15.length : Int).toNat ([] : List UInt8))) (c := cS) rfl rfl rfl rfl k28 (ix1 (gcut_some k28).2.2.2.1) ?_
                      refine W.mv rfl ?_
                      refine W.nil ?_
                      refine Ev.weak ?_ (Wk.frz 10400 0 rfl rfl)
                      refine Ev.weak ?_ (Wk.le (t := 2) rfl (Le.cut k28))
                      refine Ev.weak ?_ (Wk.le (t := 59) rfl (Le.cut k28))
                      refine Ev.ret ?_
                      exact ⟨s30, h, Wk.nrmTo [2, 65539] [(10401, 10200)] rfl rfl⟩
                · replace h := iteF h c14
                  refine Ev.skip ?_
                  refine W.reg hm ?_
                  refine W.mv rfl ?_
                  obtain ⟨x31, k29, h⟩ := obind h
                  refine W.addG rfl rfl k29 ?_
                  refine W.mv rfl ?_
                  refine W.nil ?_
                  exact ⟨(m2, x31), h, Nat.lt_succ_self _, Wk.nrmTo [0, 3, 65539] [(10300, 10300), (10301, 10301)] rfl rfl⟩
              · replace h := iteF h c10
                refine Ev.exit ?_
                refine Ev.seq ?_
                refine W.reg hm ?_
                refine W.mv rfl ?_
                refine W.mv rfl ?_
                refine W.nil ?_
                refine Ev.weak ?_ (Wk.frz 10300 0 rfl rfl)
                refine Ev.ret ?_
                exact ⟨(sortedS w2), h, Wk.nrmTo [2, 65539] [(10301, 10200)] rfl rfl⟩
        · intro x9 h
          try dsimp only at h ⊢
          unfold sandbox_Reads_j3 at h
          refine ⟨_, rfl, ?_⟩
          refine Sq.wEnd (Nat.le_of_ble_eq_true rfl) ?_
          refine W.build (cs := [.int .i64 0, .int .i64 0]) rfl rfl rfl ?_
          refine W.mv rfl ?_
          refine W.store (es' := [[.int .i64 0, .int .i64 0]]) (dt := true) rfl rfl rfl rfl rfl (Nat.le_of_ble_eq_true rfl) rfl rfl rfl rfl ?_
          refine W.nil ?_
          refine Ev.ret ?_
          injection h with h; subst h
          exact ⟨_, rfl, .refl _⟩

theorem ref6_Strings_spec (n : Nat) (a0 : List (List UInt8)) (a1 : List (List UInt8)) (r : Bool) (h : ref6_Strings n a0 a1 = some r) : PSpec Tryd.prog 13 [.list 1 (List.map cS a0), .list 1 (List.map cS a1)] (.bool r) := by
  unfold ref6_Strings at h
  refine spec_of Tryd.c_ref6_Strings (by simp) ?_
  unfold Tryd.l_ref6_Strings
  refine Ev.seq ?_
  refine W.reg hm ?_
  refine W.mv rfl ?_
  refine W.nil ?_
  refine Ev.seq ?_
  refine Ev.seq ?_
  refine W.reg hm ?_
  refine W.mv rfl ?_
  refine W.lenL (c := cS) rfl ?_
  refine W.mv rfl ?_
  refine W.lenL (c := cS) rfl ?_
  refine W.neq rfl rfl ?_
  refine W.nil ?_
  refine Ev.cond rfl (fun c1 => ?_) (fun c1 => ?_)
  · replace h := iteT h c1
    refine Ev.seq ?_
    refine W.reg hm ?_
    refine W.mv rfl ?_
    refine W.nil ?_
    refine Ev.ret ?_
    injection h with h; subst h
    exact ⟨_, rfl, .refl _⟩
  · replace h := iteF h c1
    refine Ev.skip ?_
    refine Ev.seq ?_
    refine Ev.seq ?_
    refine W.reg hm ?_
    refine W.mv rfl ?_
    refine W.nil ?_
    refine Ev.block ?_
    refine Ev.loopW (β := Nat × Int) (fun v => ⟨[(0, .list 1 (List.map cS a0)), (1, .list 1 (List.map cS a1)), (5, .int .i64 v.2)], [], 2⟩) (fun v => ref6_Strings_l1 n a0 a1 v.1 v.2 = some r) (fun v => v.1) (n, 0) (Wk.nrmTo [0, 1, 5] [] rfl rfl) h ?_
    intro ⟨m1, x1⟩ h
    try dsimp only at h ⊢
    cases m1 with
    | zero => rw [ref6_Strings_l1] at h; cases h
    | succ m1 =>
      rw [ref6_Strings_l1] at h
      refine Ev.seq ?_
      refine Ev.seq ?_
      refine W.reg hm ?_
      refine W.mv rfl ?_
      refine W.mv rfl ?_
      refine W.lenL (c := cS) rfl ?_
      refine W.lss rfl rfl ?_
      refine W.nil ?_
      refine Ev.cond rfl (fun c2 => ?_) (fun c2 => ?_)
      · replace h := iteT h c2
        refine Ev.skip ?_
        refine Ev.seq ?_
        refine Ev.block ?_
        refine Ev.seq ?_
        refine W.regD hm ?_
        refine W.mv rfl ?_
        refine W.mv rfl ?_
        obtain ⟨e2, k3, h⟩ := obind h
        refine W.idxL (c := cS) rfl rfl k3 ?_
        refine W.load rfl rfl ?_
        refine W.mv rfl ?_
        refine W.mv rfl ?_
        obtain ⟨e3, k4, h⟩ := obind h
        refine W.idxL (c := cS) rfl rfl k4 ?_
        refine W.load rfl rfl ?_
        refine W.sneq rfl rfl ?_
        refine W.nil ⟨rfl, ?_⟩
        refine Ev.cond rfl (fun c5 => ?_) (fun c5 => ?_)
        · replace h := iteT h c5
          refine Ev.seq ?_
          refine W.reg hm ?_
          refine W.mv rfl ?_
          refine W.nil ?_
          refine Ev.ret ?_
          injection h with h; subst h
          exact ⟨_, rfl, .refl _⟩
        · replace h := iteF h c5
          refine Ev.skip ?_
          refine W.reg hm ?_
          refine W.mv rfl ?_
          obtain ⟨x4, k6, h⟩ := obind h
          refine W.addG rfl rfl k6 ?_
          refine W.mv rfl ?_
          refine W.nil ?_
          exact ⟨(m1, x4), h, Nat.lt_succ_self _, Wk.nrmTo [0, 1, 5] [] rfl rfl⟩
      · replace h := iteF h c2
        refine Ev.exit ?_
        refine Ev.seq ?_
        refine W.reg hm ?_
        refine W.mv rfl ?_
        refine W.nil ?_
        refine Ev.ret ?_
        injection h with h; subst h
        exact ⟨_, rfl, .refl _⟩

theorem internal_stringslite_HasPrefix_spec (n : Nat) (a0 : List UInt8) (a1 : List UInt8) (r : Bool) (h : internal_stringslite_HasPrefix n a0 a1 = some r) : PSpec Tryd.prog 106 [.str a0, .str a1] (.bool r) := by
  unfold internal_stringslite_HasPrefix at h
  refine spec_of Tryd.c_internal_stringslite_HasPrefix (by simp) ?_
  unfold Tryd.l_internal_stringslite_HasPrefix
  refine Ev.seq ?_
  refine W.reg hm ?_
  refine W.mv rfl ?_
  refine W.nil ?_
  refine Ev.seqJ (γ := Bool) (fun v => ⟨[(4, .bool v)], [], 2⟩) (fun v => internal_stringslite_HasPrefix_j1 n v = some r) ?_ ?_
  · refine W.reg hm ?_
    refine W.mv rfl ?_
    refine W.slen rfl ?_
    refine W.mv rfl ?_
    refine W.slen rfl ?_
    refine W.geq rfl rfl ?_
    refine W.mv rfl ?_
    refine W.split 10 rfl (fun c1 => ?_) (fun c1 => ?_)
    · replace h := iteT h c1
      refine W.guardT rfl c1 ?_
      refine W.mv rfl ?_
      refine W.guardT rfl c1 ?_
      refine W.mv rfl ?_
      refine W.guardT rfl c1 ?_
      refine W.slen rfl ?_
      refine W.guardT rfl c1 ?_
      obtain ⟨s2, k2, h⟩ := obind h
      refine W.ssliceG rfl k2 (ix1 (gcut_some k2).2.2.2.1) ?_
      refine W.guardT rfl c1 ?_
      refine W.mv rfl ?_
      refine W.guardT rfl c1 ?_
      refine W.seql rfl rfl ?_
      refine W.pickT rfl rfl rfl c1 ?_
      refine W.mv rfl ?_
      refine W.nil ?_
      exact ⟨(decide (s2 = a1)), h, Wk.nrmTo [4] [] rfl rfl⟩
    · replace h := iteF h c1
      refine W.guardF1 rfl c1 ?_
      refine W.guardF1 rfl c1 ?_
      refine W.guardF1 rfl c1 ?_
      refine W.guardF1 rfl c1 ?_
      refine W.guardF1 rfl c1 ?_
      refine W.guardF1 rfl c1 ?_
      refine W.pickN rfl rfl rfl c1 ?_
      refine W.mv rfl ?_
      refine W.nil ?_
      exact ⟨false, h, Wk.nrmTo [4] [] rfl rfl⟩
  · intro x1 h
    try dsimp only at h ⊢
    unfold internal_stringslite_HasPrefix_j1 at h
    refine Ev.ret ?_
    injection h with h; subst h
    exact ⟨_, rfl, .refl _⟩

theorem strings_HasPrefix_spec (n : Nat) (a0 : List UInt8) (a1 : List UInt8) (r : Bool) (h : strings_HasPrefix n a0 a1 = some r) : PSpec Tryd.prog 104 [.str a0, .str a1] (.bool r) := by
  unfold strings_HasPrefix at h
  refine spec_of Tryd.c_strings_HasPrefix (by simp) ?_
  unfold Tryd.l_strings_HasPrefix
  refine Ev.seq ?_
  refine W.reg hm ?_
  refine W.mv rfl ?_
  refine W.nil ?_
  refine Ev.seq ?_
  refine W.reg hm ?_
  refine W.mv rfl ?_
  refine W.mv rfl ?_
  obtain ⟨r1, k1, h⟩ := obind h
  refine W.call (internal_stringslite_HasPrefix_spec n a0 a1 r1 k1) rfl rfl (Les.refl _) rfl (.inl rfl) rfl ?_
  refine W.mv rfl ?_
  refine W.nil ?_
  refine Ev.ret ?_
  injection h with h; subst h
  exact ⟨_, rfl, .refl _⟩

theorem treepatch_Related_spec (n : Nat) (a0 : List UInt8) (a1 : List UInt8) (r : Bool) (h : treepatch_Related n a0 a1 = some r) : PSpec Tryd.prog 99 [.str a0, .str a1] (.bool r) := by
  unfold treepatch_Related at h
  refine spec_of Tryd.c_treepatch_Related (by simp) ?_
  unfold Tryd.l_treepatch_Related
  refine Ev.seq ?_
  refine W.reg hm ?_
  refine W.mv rfl ?_
  refine W.nil ?_
  refine Ev.seqJ (γ := Bool) (fun v => ⟨[(4, .bool v)], [], 2⟩) (fun v => treepatch_Related_j1 n v = some r) ?_ ?_
  · refine W.reg hm ?_
    refine W.mv rfl ?_
    refine W.mv rfl ?_
    refine W.seql rfl rfl ?_
    refine W.mv rfl ?_
    refine W.split 8 rfl (fun c1 => ?_) (fun c1 => ?_)
    · replace h := iteT h c1
      refine W.guardF2 rfl c1 ?_
      refine W.guardF2 rfl c1 ?_
      refine W.guardF2 rfl c1 ?_
      refine W.guardF2 rfl c1 ?_
      refine W.pickT rfl rfl rfl c1 ?_
      refine W.mv rfl ?_
      refine W.guardF2 rfl rfl ?_
      refine W.guardF2 rfl rfl ?_
      refine W.guardF2 rfl rfl ?_
      refine W.guardF2 rfl rfl ?_
      refine W.pickT rfl rfl rfl rfl ?_
      refine W.mv rfl ?_
      refine W.nil ?_
      exact ⟨true, h, Wk.nrmTo [4] [] rfl rfl⟩
    · replace h := iteF h c1
      refine W.guardT rfl c1 ?_
      refine W.mv rfl ?_
      refine W.guardT rfl c1 ?_
      refine W.mv rfl ?_
      refine W.guardT rfl c1 ?_
      obtain ⟨s2, k2, h⟩ := obind h
      refine W.catG rfl rfl k2 ?_
      refine W.guardT rfl c1 ?_
      obtain ⟨r3, k3, h⟩ := obind h
      refine W.call (strings_HasPrefix_spec n a0 s2 r3 k3) rfl rfl (Les.refl _) rfl (.inl rfl) rfl ?_
      refine W.pickN rfl rfl rfl c1 ?_
      refine W.mv rfl ?_
      refine W.split 14 rfl (fun c4 => ?_) (fun c4 => ?_)
      · replace h := iteT h c4
        refine W.guardF2 rfl c4 ?_
        refine W.guardF2 rfl c4 ?_
        refine W.guardF2 rfl c4 ?_
        refine W.guardF2 rfl c4 ?_
        refine W.pickT rfl rfl rfl c4 ?_
        refine W.mv rfl ?_
        refine W.nil ?_
        exact ⟨true, h, Wk.nrmTo [4] [] rfl rfl⟩
      · replace h := iteF h c4
        refine W.guardT rfl c4 ?_
        refine W.mv rfl ?_
        refine W.guardT rfl c4 ?_
        refine W.mv rfl ?_
        refine W.guardT rfl c4 ?_
        obtain ⟨s4, k5, h⟩ := obind h
        refine W.catG rfl rfl k5 ?_
        refine W.guardT rfl c4 ?_
        obtain ⟨r5, k6, h⟩ := obind h
        refine W.call (strings_HasPrefix_spec n a1 s4 r5 k6) rfl rfl (Les.refl _) rfl (.inl rfl) rfl ?_
        refine W.pickN rfl rfl rfl c4 ?_
        refine W.mv rfl ?_
        refine W.nil ?_
        exact ⟨r5, h, Wk.nrmTo [4] [] rfl rfl⟩
  · intro x1 h
    try dsimp only at h ⊢
    unfold treepatch_Related_j1 at h
    refine Ev.ret ?_
    injection h with h; subst h
    exact ⟨_, rfl, .refl _⟩

theorem treepatch_Clash_spec (n : Nat) (a0 : List SPathLines) (a1 : List UInt8) (a2 : Int) (r : Bool) (h : treepatch_Clash n a0 a1 a2 = some r) : PSpec Tryd.prog 92 [.list 2 (List.map SPathLines.cells a0), .str a1, .int .i64 a2] (.bool r) := by
  unfold treepatch_Clash at h
  refine spec_of Tryd.c_treepatch_Clash (by simp) ?_
  unfold Tryd.l_treepatch_Clash
  refine Ev.seq ?_
  refine W.reg hm ?_
  refine W.mv rfl ?_
  refine W.nil ?_
  refine Ev.seq ?_
  refine Ev.seq ?_
  refine W.reg hm ?_
  refine W.mv rfl ?_
  refine W.lenL (c := SPathLines.cells) rfl ?_
  refine W.mv rfl ?_
  refine W.nil ?_
  refine Ev.block ?_
  refine Ev.loopW (β := Nat × Int) (fun v => ⟨[(1, .str a1), (2, .int .i64 a2), (9, .list 2 (List.map SPathLines.cells a0)), (10, .int .i64 (a0.length : Int)), (11, .int .i64 v.2)], [], 2⟩) (fun v => treepatch_Clash_l1 n a0 a1 a2 v.1 v.2 = some r) (fun v => v.1) (n, 0) (Wk.nrmTo [1, 2, 9, 10, 11] [] rfl rfl) h ?_
  intro ⟨m1, x1⟩ h
  try dsimp only at h ⊢
  cases m1 with
  | zero => rw [treepatch_Clash_l1] at h; cases h
  | succ m1 =>
    rw [treepatch_Clash_l1] at h
    refine Ev.seq ?_
    refine W.reg hm ?_
    refine W.lss rfl rfl ?_
    refine W.nil ?_
    refine Ev.seq ?_
    refine Ev.cond rfl (fun c1 => ?_) (fun c1 => ?_)
    · replace h := iteT h c1
      refine Ev.skip ?_
      refine Ev.seq ?_
      refine Ev.block ?_
      refine Ev.seq ?_
      refine W.reg hm ?_
      refine W.mv rfl ?_
      obtain ⟨e2, k2, h⟩ := obind h
      refine W.idxL (c := SPathLines.cells) rfl rfl k2 ?_
      refine W.load rfl rfl ?_
      refine W.alloc (dt := true) rfl rfl rfl ?_
      refine W.mv rfl ?_
      refine W.store (es' := [[.str e2.Path, .list 1 (List.map cS e2.Lines)]]) (dt := true) rfl rfl rfl rfl rfl (Nat.le_of_ble_eq_true rfl) rfl rfl rfl rfl ?_
      refine W.nil ?_
      refine Ev.seqJ (γ := Bool) (fun v => ⟨[(1, .str a1), (2, .int .i64 a2), (9, .list 2 (List.map SPathLines.cells a0)), (10, .int .i64 (a0.length : Int)), (11, .int .i64 x1), (24, .bool v)], [], 2⟩) (fun v => treepatch_Clash_j1 n x1 (treepatch_Clash_l1 n a0 a1 a2 m1) v = some r) ?_ ?_
      · refine W.reg hm ?_
        refine W.mv rfl ?_
        refine W.mv rfl ?_
        refine W.neq rfl rfl ?_
        refine W.mv rfl ?_
        refine W.split 19 rfl (fun c5 => ?_) (fun c5 => ?_)
        · replace h := iteT h c5
          refine W.guardT rfl c5 ?_
          refine W.fieldAddrO rfl rfl ?_
          refine W.guardT rfl c5 ?_
          refine W.loadO (p := .str e2.Path) rfl rfl rfl rfl ?_
          refine W.guardT rfl c5 ?_
          refine W.mv rfl ?_
          refine W.guardT rfl c5 ?_
          obtain ⟨r5, k6, h⟩ := obind h
          refine W.call (treepatch_Related_spec n e2.Path a1 r5 k6) rfl rfl (Les.refl _) rfl (.inl rfl) rfl ?_
          refine W.pickT rfl rfl rfl c5 ?_
          refine W.nil ?_
          exact ⟨r5, h, Wk.nrmTo [1, 2, 9, 10, 11, 24] [] rfl rfl⟩
        · replace h := iteF h c5
          refine W.guardF1 rfl c5 ?_
          refine W.guardF1 rfl c5 ?_
          refine W.guardF1 rfl c5 ?_
          refine W.guardF1 rfl c5 ?_
          refine W.pickN rfl rfl rfl c5 ?_
          refine W.nil ?_
          exact ⟨false, h, Wk.nrmTo [1, 2, 9, 10, 11, 24] [] rfl rfl⟩
      · intro x3 h
        try dsimp only at h ⊢
        unfold treepatch_Clash_j1 at h
        refine Ev.cond rfl (fun c3 => ?_) (fun c3 => ?_)
        · replace h := iteT h c3
          refine Ev.seq ?_
          refine W.reg hm ?_
          refine W.mv rfl ?_
          refine W.nil ?_
          refine Ev.ret ?_
          injection h with h; subst h
          exact ⟨_, rfl, .refl _⟩
        · replace h := iteF h c3
          refine Ev.skip ?_
          refine W.reg hm ?_
          obtain ⟨x4, k4, h⟩ := obind h
          refine W.addG rfl rfl k4 ?_
          refine W.mv rfl ?_
          refine W.nil ?_
          exact ⟨(m1, x4), h, Nat.lt_succ_self _, Wk.nrmTo [1, 2, 9, 10, 11] [] rfl rfl⟩
    · replace h := iteF h c1
      refine Ev.exit ?_
      refine Ev.seq ?_
      refine W.reg hm ?_
      refine W.mv rfl ?_
      refine W.nil ?_
      refine Ev.ret ?_
      injection h with h; subst h
      exact ⟨_, rfl, .refl _⟩

theorem lines_Second_spec (n : Nat) (a0 : List (List UInt8)) (a1 : Int) (r : SCodeIndex) (h : lines_Second n a0 a1 = some r) : PSpec Tryd.prog 93 [.list 1 (List.map cS a0), .int .i64 a1] (.agg (SCodeIndex.cells r)) := by
  unfold lines_Second at h
  refine spec_of Tryd.c_lines_Second (by simp) ?_
  unfold Tryd.l_lines_Second
  refine Ev.seq ?_
  refine W.reg hm ?_
  refine W.alloc (dt := true) rfl rfl rfl ?_
  refine W.nil ?_
  refine Ev.seq ?_
  refine Ev.seq ?_
  refine W.reg hm ?_
  refine W.mv rfl ?_
  obtain ⟨r1, k1, h⟩ := obind h
  refine W.call (lines_Validate_spec n a0 r1 k1) rfl rfl (Les.refl _) rfl (.inl rfl) rfl ?_
  refine W.alloc (dt := true) rfl rfl rfl ?_
  refine W.store (es' := [[.int .i64 r1.Code, .int .i64 r1.Index]]) (dt := true) rfl rfl rfl rfl rfl (Nat.le_of_ble_eq_true rfl) rfl rfl rfl rfl ?_
  refine W.nil ?_
  refine Ev.seq ?_
  refine W.reg hm ?_
  refine W.loadO (p := .agg [.int .i64 r1.Code, .int .i64 r1.Index]) rfl rfl rfl rfl ?_
  refine W.build (cs := [.int .i64 0, .int .i64 0]) rfl rfl rfl ?_
  refine W.eqs rfl rfl rfl ?_
  refine W.nil ?_
  refine Ev.cond rfl (fun c2 => ?_) (fun c2 => ?_)
  · replace h := iteT h c2
    refine Ev.seq ?_
    refine W.reg hm ?_
    refine W.fieldAddrO rfl rfl ?_
    refine W.loadO (p := .int .i64 r1.Code) rfl rfl rfl rfl ?_
    refine W.mv rfl ?_
    refine W.build (cs := [.int .i64 r1.Code, .int .i64 a1]) rfl rfl rfl ?_
    refine W.store (es' := [[.int .i64 r1.Code, .int .i64 a1]]) (dt := true) rfl rfl rfl rfl rfl (Nat.le_of_ble_eq_true rfl) rfl rfl rfl rfl ?_
    refine W.nil ?_
    refine Ev.ret ?_
    injection h with h; subst h
    exact ⟨_, rfl, .refl _⟩
  · replace h := iteF h c2
    refine Ev.skip ?_
    refine Ev.seq ?_
    refine W.reg hm ?_
    refine W.build (cs := [.int .i64 0, .int .i64 0]) rfl rfl rfl ?_
    refine W.store (es' := [[.int .i64 0, .int .i64 0]]) (dt := true) rfl rfl rfl rfl rfl (Nat.le_of_ble_eq_true rfl) rfl rfl rfl rfl ?_
    refine W.nil ?_
    refine Ev.ret ?_
    injection h with h; subst h
    exact ⟨_, rfl, .refl _⟩
end Go.Proofs.YtadeoaglhaaimaaDoor
