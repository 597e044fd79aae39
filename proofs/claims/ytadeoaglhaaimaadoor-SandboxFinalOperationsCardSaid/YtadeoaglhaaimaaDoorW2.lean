/- The functions compute what the texts of D say. Laid by a program (wip/gen/dec.py). -/
import Derived.Test.YtadeoaglhaaimaaDoorD
import Derived.Test.YtadeoaglhaaimaaDoorW1
namespace Go.Proofs.YtadeoaglhaaimaaDoor
open Go.PW Go
set_option maxHeartbeats 4000000 in
theorem treepatch_Validate_spec (n : Nat) (a0 : SFiles) (r : SCodeIndex) (h : treepatch_Validate n a0 = some r) : PSpec Tryd.prog 77 [.agg (SFiles.cells a0)] (.agg (SCodeIndex.cells r)) := by
  unfold treepatch_Validate at h
  refine spec_of Tryd.c_treepatch_Validate (by simp) ?_
  unfold Tryd.l_treepatch_Validate
  refine Ev.seq ?_
  refine W.reg hm ?_
  refine W.box (dt := true) (cs := [.list 2 (List.map SPathLines.cells a0.Files)]) rfl rfl rfl rfl rfl rfl ?_
  refine W.alloc (dt := true) rfl rfl rfl ?_
  refine W.nil ?_
  refine Ev.seq ?_
  refine Ev.seq ?_
  refine W.reg hm ?_
  refine W.fieldAddrO rfl rfl ?_
  refine W.loadO (p := .list 2 (List.map SPathLines.cells a0.Files)) rfl rfl rfl rfl ?_
  refine W.lenL (c := SPathLines.cells) rfl ?_
  refine W.gtr rfl rfl ?_
  refine W.nil ?_
  refine Ev.cond rfl (fun c1 => ?_) (fun c1 => ?_)
  · replace h := iteT h c1
    refine Ev.seq ?_
    refine W.reg hm ?_
    refine W.build (cs := [.int .i64 2, .int .i64 (-1)]) rfl rfl rfl ?_
    refine W.store (es' := [[.int .i64 2, .int .i64 (-1)]]) (dt := true) rfl rfl rfl rfl rfl (Nat.le_of_ble_eq_true rfl) rfl rfl rfl rfl ?_
    refine W.nil ?_
    refine Ev.ret ?_
    injection h with h; subst h
    exact ⟨_, rfl, .refl _⟩
  · replace h := iteF h c1
    refine Ev.skip ?_
    refine Ev.seq ?_
    refine Ev.seq ?_
    refine W.reg hm ?_
    refine W.fieldAddrO rfl rfl ?_
    refine W.loadO (p := .list 2 (List.map SPathLines.cells a0.Files)) rfl rfl rfl rfl ?_
    refine W.lenL (c := SPathLines.cells) rfl ?_
    refine W.mv rfl ?_
    refine W.nil ?_
    refine Ev.block ?_
    refine Ev.loopW (β := Nat × Int) (fun v => ⟨[(1, .pown 10100 0 0 0), (2, .pown 10101 0 0 0), (12, .list 2 (List.map SPathLines.cells a0.Files)), (13, .int .i64 (a0.Files.length : Int)), (14, .int .i64 v.2)], [(10100, ⟨0, 28, 1, [[.list 2 (List.map SPathLines.cells a0.Files)]], true, false, false⟩), (10101, ⟨0, 30, 2, [[.int .i64 0, .int .i64 0]], true, false, false⟩)], 2⟩) (fun v => treepatch_Validate_l1 n a0 v.1 v.2 = some r) (fun v => v.1) (n, 0) (Wk.nrmTo [1, 2, 12, 13, 14] [(1, 10100), (2, 10101)] rfl rfl) h ?_
    intro ⟨m1, x1⟩ h
    try dsimp only at h ⊢
    cases m1 with
    | zero => rw [treepatch_Validate_l1] at h; cases h
    | succ m1 =>
      rw [treepatch_Validate_l1] at h
      refine Ev.seq ?_
      refine W.reg hm ?_
      refine W.lss rfl rfl ?_
      refine W.nil ?_
      refine Ev.seq ?_
      refine Ev.cond rfl (fun c2 => ?_) (fun c2 => ?_)
      · replace h := iteT h c2
        refine Ev.skip ?_
        refine Ev.seq ?_
        refine Ev.block ?_
        refine Ev.seq ?_
        refine W.reg hm ?_
        refine W.mv rfl ?_
        obtain ⟨e2, k3, h⟩ := obind h
        refine W.idxL (c := SPathLines.cells) rfl rfl k3 ?_
        refine W.load rfl rfl ?_
        refine W.alloc (dt := true) rfl rfl rfl ?_
        refine W.mv rfl ?_
        refine W.store (es' := [[.str e2.Path, .list 1 (List.map cS e2.Lines)]]) (dt := true) rfl rfl rfl rfl rfl (Nat.le_of_ble_eq_true rfl) rfl rfl rfl rfl ?_
        refine W.nil ?_
        refine Ev.seq ?_
        refine Ev.block ?_
        refine Ev.seq ?_
        refine W.reg hm ?_
        refine W.fieldAddrO rfl rfl ?_
        refine W.loadO (p := .str e2.Path) rfl rfl rfl rfl ?_
        obtain ⟨r3, k4, h⟩ := obind h
        refine W.call (treepatch_ValidPath_spec n e2.Path r3 k4) rfl rfl (Les.refl _) rfl (.inl rfl) rfl ?_
        refine W.not rfl ?_
        refine W.mv rfl ?_
        refine W.nil ?_
        refine Ev.cond rfl (fun c5 => ?_) (fun c5 => ?_)
        · replace h := iteT h c5
          refine Ev.seq ?_
          refine W.reg hm ?_
          refine W.mv rfl ?_
          refine W.build (cs := [.int .i64 12, .int .i64 x1]) rfl rfl rfl ?_
          refine W.store (es' := [[.int .i64 12, .int .i64 x1]]) (dt := true) rfl rfl rfl rfl rfl (Nat.le_of_ble_eq_true rfl) rfl rfl rfl rfl ?_
          refine W.nil ?_
          refine Ev.ret ?_
          injection h with h; subst h
          exact ⟨_, rfl, .refl _⟩
        · replace h := iteF h c5
          refine Ev.seqJ (γ := Bool) (fun v => ⟨[(1, .pown 10200 0 0 0), (2, .pown 10201 0 0 0), (3, .int .i64 x1), (4, .pown 10202 0 0 0), (12, .list 2 (List.map SPathLines.cells a0.Files)), (13, .int .i64 (a0.Files.length : Int)), (14, .int .i64 x1), (26, .bool v)], [(10200, ⟨0, 28, 1, [[.list 2 (List.map SPathLines.cells a0.Files)]], true, false, false⟩), (10201, ⟨0, 30, 2, [[.int .i64 0, .int .i64 0]], true, false, false⟩), (10202, ⟨0, 61, 2, [[.str e2.Path, .list 1 (List.map cS e2.Lines)]], true, false, false⟩)], 2⟩) (fun v => treepatch_Validate_j1 n a0 x1 (treepatch_Validate_l1 n a0 m1) e2 v = some r) ?_ ?_
          · refine W.regD hm ?_
            refine W.mv rfl ?_
            refine W.gtr rfl rfl ?_
            refine W.mv rfl ?_
            refine W.split 29 rfl (fun c13 => ?_) (fun c13 => ?_)
            · replace h := iteT h c13
              refine W.guardT rfl c13 ?_
              refine W.fieldAddrO rfl rfl ?_
              refine W.guardT rfl c13 ?_
              refine W.loadO (p := .str e2.Path) rfl rfl rfl rfl ?_
              refine W.guardT rfl c13 ?_
              refine W.fieldAddrO rfl rfl ?_
              refine W.guardT rfl c13 ?_
              refine W.loadO (p := .list 2 (List.map SPathLines.cells a0.Files)) rfl rfl rfl rfl ?_
              refine W.guardT rfl c13 ?_
              refine W.mv rfl ?_
              refine W.guardT rfl c13 ?_
              obtain ⟨x9, k14, h⟩ := obind h
              refine W.subG rfl rfl k14 ?_
              refine W.guardT rfl c13 ?_
              obtain ⟨e10, k15, h⟩ := obind h
              refine W.idxL (c := SPathLines.cells) rfl rfl k15 ?_
              refine W.guardT rfl c13 ?_
              refine W.fieldAddr rfl ?_
              refine W.guardT rfl c13 ?_
              refine W.load rfl rfl ?_
              refine W.guardT rfl c13 ?_
              refine W.sleq rfl rfl ?_
              refine W.pickT rfl rfl rfl c13 ?_
              refine W.mv rfl ?_
              refine W.nil ⟨rfl, ?_⟩
              exact ⟨(Op.bytesLess e2.Path e10.Path || e2.Path == e10.Path), h, Wk.nrmTo [1, 2, 3, 4, 12, 13, 14, 26] [(10100, 10200), (10101, 10201), (4, 10202)] rfl rfl⟩
            · replace h := iteF h c13
              refine W.guardF1 rfl c13 ?_
              refine W.guardF1 rfl c13 ?_
              refine W.guardF1 rfl c13 ?_
              refine W.guardF1 rfl c13 ?_
              refine W.guardF1 rfl c13 ?_
              refine W.guardF1 rfl c13 ?_
              refine W.guardF1 rfl c13 ?_
              refine W.guardF1 rfl c13 ?_
              refine W.guardF1 rfl c13 ?_
              refine W.guardF1 rfl c13 ?_
              refine W.pickN rfl rfl rfl c13 ?_
              refine W.mv rfl ?_
              refine W.nil ⟨rfl, ?_⟩
              exact ⟨false, h, Wk.nrmTo [1, 2, 3, 4, 12, 13, 14, 26] [(10100, 10200), (10101, 10201), (4, 10202)] rfl rfl⟩
          · intro x4 h
            try dsimp only at h ⊢
            unfold treepatch_Validate_j1 at h
            refine Ev.cond rfl (fun c6 => ?_) (fun c6 => ?_)
            · replace h := iteT h c6
              refine Ev.seq ?_
              refine W.reg hm ?_
              refine W.mv rfl ?_
              refine W.build (cs := [.int .i64 5, .int .i64 x1]) rfl rfl rfl ?_
              refine W.store (es' := [[.int .i64 5, .int .i64 x1]]) (dt := true) rfl rfl rfl rfl rfl (Nat.le_of_ble_eq_true rfl) rfl rfl rfl rfl ?_
              refine W.nil ?_
              refine Ev.ret ?_
              injection h with h; subst h
              exact ⟨_, rfl, .refl _⟩
            · replace h := iteF h c6
              refine Ev.seq ?_
              refine W.regD hm ?_
              refine W.fieldAddrO rfl rfl ?_
              refine W.loadO (p := .list 2 (List.map SPathLines.cells a0.Files)) rfl rfl rfl rfl ?_
              refine W.mv rfl ?_
              obtain ⟨s5, k7, h⟩ := obind h
              refine W.sliceL (c := SPathLines.cells) rfl k7 (ix1 (gcut_some k7).2.2.2.1) ?_
              refine W.fieldAddrO rfl rfl ?_
              refine W.loadO (p := .str e2.Path) rfl rfl rfl rfl ?_
              obtain ⟨r6, k8, h⟩ := obind h
              refine W.call (treepatch_Clash_spec n s5 e2.Path (-1) r6 k8) rfl rfl (Les.refl _) rfl (.inl rfl) rfl ?_
              refine W.mv rfl ?_
              refine W.nil ⟨rfl, ?_⟩
              refine Ev.cond rfl (fun c9 => ?_) (fun c9 => ?_)
              · replace h := iteT h c9
                refine Ev.seq ?_
                refine W.reg hm ?_
                refine W.mv rfl ?_
                refine W.build (cs := [.int .i64 7, .int .i64 x1]) rfl rfl rfl ?_
                refine W.store (es' := [[.int .i64 7, .int .i64 x1]]) (dt := true) rfl rfl rfl rfl rfl (Nat.le_of_ble_eq_true rfl) rfl rfl rfl rfl ?_
                refine W.nil ?_
                refine Ev.ret ?_
                injection h with h; subst h
                exact ⟨_, rfl, .refl _⟩
              · replace h := iteF h c9
                refine Ev.skip ?_
                refine Ev.seq ?_
                refine W.reg hm ?_
                refine W.fieldAddrO rfl rfl ?_
                refine W.loadO (p := .list 1 (List.map cS e2.Lines)) rfl rfl rfl rfl ?_
                refine W.mv rfl ?_
                obtain ⟨r7, k10, h⟩ := obind h
                refine W.call (lines_Second_spec n e2.Lines x1 r7 k10) rfl rfl (Les.refl _) rfl (.inl rfl) rfl ?_
                refine W.alloc (dt := true) rfl rfl rfl ?_
                refine W.store (es' := [[.int .i64 r7.Code, .int .i64 r7.Index]]) (dt := true) rfl rfl rfl rfl rfl (Nat.le_of_ble_eq_true rfl) rfl rfl rfl rfl ?_
                refine W.nil ?_
                refine Ev.seq ?_
                refine W.reg hm ?_
                refine W.loadO (p := .agg [.int .i64 r7.Code, .int .i64 r7.Index]) rfl rfl rfl rfl ?_
                refine W.build (cs := [.int .i64 0, .int .i64 0]) rfl rfl rfl ?_
                refine W.eqs rfl rfl rfl ?_
                refine W.nil ?_
                refine Ev.cond rfl (fun c11 => ?_) (fun c11 => ?_)
                · replace h := iteT h c11
                  refine Ev.seq ?_
                  refine W.reg hm ?_
                  refine W.loadO (p := .agg [.int .i64 r7.Code, .int .i64 r7.Index]) rfl rfl rfl rfl ?_
                  refine W.store (es' := [[.int .i64 r7.Code, .int .i64 r7.Index]]) (dt := true) rfl rfl rfl rfl rfl (Nat.le_of_ble_eq_true rfl) rfl rfl rfl rfl ?_
                  refine W.nil ?_
                  refine Ev.ret ?_
                  injection h with h; subst h
                  exact ⟨_, rfl, .refl _⟩
                · replace h := iteF h c11
                  refine Ev.skip ?_
                  refine W.reg hm ?_
                  obtain ⟨x8, k12, h⟩ := obind h
                  refine W.addG rfl rfl k12 ?_
                  refine W.mv rfl ?_
                  refine W.nil ?_
                  exact ⟨(m1, x8), h, Nat.lt_succ_self _, Wk.nrmTo [1, 2, 12, 13, 14] [(10200, 10100), (10201, 10101)] rfl rfl⟩
      · replace h := iteF h c2
        refine Ev.exit ?_
        refine Ev.seq ?_
        refine W.reg hm ?_
        refine W.build (cs := [.int .i64 0, .int .i64 0]) rfl rfl rfl ?_
        refine W.store (es' := [[.int .i64 0, .int .i64 0]]) (dt := true) rfl rfl rfl rfl rfl (Nat.le_of_ble_eq_true rfl) rfl rfl rfl rfl ?_
        refine W.nil ?_
        refine Ev.ret ?_
        injection h with h; subst h
        exact ⟨_, rfl, .refl _⟩

theorem treepatch_Second_spec (n : Nat) (a0 : SFiles) (a1 : Int) (r : SCodeIndex) (h : treepatch_Second n a0 a1 = some r) : PSpec Tryd.prog 51 [.agg (SFiles.cells a0), .int .i64 a1] (.agg (SCodeIndex.cells r)) := by
  unfold treepatch_Second at h
  refine spec_of Tryd.c_treepatch_Second (by simp) ?_
  unfold Tryd.l_treepatch_Second
  refine Ev.seq ?_
  refine W.reg hm ?_
  refine W.box (dt := true) (cs := [.list 2 (List.map SPathLines.cells a0.Files)]) rfl rfl rfl rfl rfl rfl ?_
  refine W.alloc (dt := true) rfl rfl rfl ?_
  refine W.nil ?_
  refine Ev.seq ?_
  refine Ev.seq ?_
  refine W.reg hm ?_
  refine W.loadO (p := .agg [.list 2 (List.map SPathLines.cells a0.Files)]) rfl rfl rfl rfl ?_
  obtain ⟨r1, k1, h⟩ := obind h
  refine W.call (treepatch_Validate_spec n a0 r1 k1) rfl rfl (Les.refl _) rfl (.inl rfl) rfl ?_
  refine W.alloc (dt := true) rfl rfl rfl ?_
  refine W.store (es' := [[.int .i64 r1.Code, .int .i64 r1.Index]]) (dt := true) rfl rfl rfl rfl rfl (Nat.le_of_ble_eq_true rfl) rfl rfl rfl rfl ?_
  refine W.nil ?_
  refine Ev.seq ?_
  refine W.reg hm ?_
  refine W.loadO (p := .agg [.int .i64 r1.Code, .int .i64 r1.Index]) rfl rfl rfl rfl ?_
  refine W.build (cs := [.int .i64 0, .int .i64 0]) rfl rfl rfl ?_
  refine W.eqs rfl rfl rfl ?_
  refine W.nil ?_
  refine Ev.cond rfl (fun c2 => ?_) (fun c2 => ?_)
  · replace h := iteT h c2
    refine Ev.seq ?_
    refine W.reg hm ?_
    refine W.fieldAddrO rfl rfl ?_
    refine W.loadO (p := .int .i64 r1.Code) rfl rfl rfl rfl ?_
    refine W.mv rfl ?_
    refine W.build (cs := [.int .i64 r1.Code, .int .i64 a1]) rfl rfl rfl ?_
    refine W.store (es' := [[.int .i64 r1.Code, .int .i64 a1]]) (dt := true) rfl rfl rfl rfl rfl (Nat.le_of_ble_eq_true rfl) rfl rfl rfl rfl ?_
    refine W.nil ?_
    refine Ev.ret ?_
    injection h with h; subst h
    exact ⟨_, rfl, .refl _⟩
  · replace h := iteF h c2
    refine Ev.skip ?_
    refine Ev.seq ?_
    refine W.reg hm ?_
    refine W.build (cs := [.int .i64 0, .int .i64 0]) rfl rfl rfl ?_
    refine W.store (es' := [[.int .i64 0, .int .i64 0]]) (dt := true) rfl rfl rfl rfl rfl (Nat.le_of_ble_eq_true rfl) rfl rfl rfl rfl ?_
    refine W.nil ?_
    refine Ev.ret ?_
    injection h with h; subst h
    exact ⟨_, rfl, .refl _⟩

theorem sandbox_Arguments_spec (n : Nat) (a0 : SInputsOpsOutput) (a1 : SFiles) (r : SCodeIndex) (h : sandbox_Arguments n a0 a1 = some r) : PSpec Tryd.prog 36 [.agg (SInputsOpsOutput.cells a0), .agg (SFiles.cells a1)] (.agg (SCodeIndex.cells r)) := by
  unfold sandbox_Arguments at h
  refine spec_of Tryd.c_sandbox_Arguments (by simp) ?_
  unfold Tryd.l_sandbox_Arguments
  refine Ev.seq ?_
  refine W.reg hm ?_
  refine W.box (dt := true) (cs := [.list 1 (List.map cS a0.Inputs), .list 2 (List.map SKindText.cells a0.Ops), .str a0.Output]) rfl rfl rfl rfl rfl rfl ?_
  refine W.box (dt := true) (cs := [.list 2 (List.map SPathLines.cells a1.Files)]) rfl rfl rfl rfl rfl rfl ?_
  refine W.alloc (dt := true) rfl rfl rfl ?_
  refine W.nil ?_
  refine Ev.seq ?_
  refine Ev.seq ?_
  refine W.reg hm ?_
  refine W.loadO (p := .agg [.list 1 (List.map cS a0.Inputs), .list 2 (List.map SKindText.cells a0.Ops), .str a0.Output]) rfl rfl rfl rfl ?_
  obtain ⟨r1, k1, h⟩ := obind h
  refine W.call (sandbox_Validate_spec n a0 r1 k1) rfl rfl (Les.refl _) rfl (.inl rfl) rfl ?_
  refine W.alloc (dt := true) rfl rfl rfl ?_
  refine W.store (es' := [[.int .i64 r1.Code, .int .i64 r1.Index]]) (dt := true) rfl rfl rfl rfl rfl (Nat.le_of_ble_eq_true rfl) rfl rfl rfl rfl ?_
  refine W.nil ?_
  refine Ev.seq ?_
  refine W.reg hm ?_
  refine W.loadO (p := .agg [.int .i64 r1.Code, .int .i64 r1.Index]) rfl rfl rfl rfl ?_
  refine W.build (cs := [.int .i64 0, .int .i64 0]) rfl rfl rfl ?_
  refine W.eqs rfl rfl rfl ?_
  refine W.nil ?_
  refine Ev.cond rfl (fun c2 => ?_) (fun c2 => ?_)
  · replace h := iteT h c2
    refine Ev.seq ?_
    refine W.reg hm ?_
    refine W.loadO (p := .agg [.int .i64 r1.Code, .int .i64 r1.Index]) rfl rfl rfl rfl ?_
    refine W.store (es' := [[.int .i64 r1.Code, .int .i64 r1.Index]]) (dt := true) rfl rfl rfl rfl rfl (Nat.le_of_ble_eq_true rfl) rfl rfl rfl rfl ?_
    refine W.nil ?_
    refine Ev.ret ?_
    injection h with h; subst h
    exact ⟨_, rfl, .refl _⟩
  · replace h := iteF h c2
    refine Ev.skip ?_
    refine Ev.seq ?_
    refine W.reg hm ?_
    refine W.loadO (p := .agg [.list 2 (List.map SPathLines.cells a1.Files)]) rfl rfl rfl rfl ?_
    obtain ⟨r2, k3, h⟩ := obind h
    refine W.call (treepatch_Second_spec n a1 (-20) r2 k3) rfl rfl (Les.refl _) rfl (.inl rfl) rfl ?_
    refine W.store (es' := [[.int .i64 r2.Code, .int .i64 r2.Index]]) (dt := true) rfl rfl rfl rfl rfl (Nat.le_of_ble_eq_true rfl) rfl rfl rfl rfl ?_
    refine W.nil ?_
    refine Ev.ret ?_
    injection h with h; subst h
    exact ⟨_, rfl, .refl _⟩

set_option maxHeartbeats 4000000 in
theorem slices_Clone_string_spec (n : Nat) (a0 : List (List UInt8)) (r : List (List UInt8)) (h : slices_Clone_string n a0 = some r) : PSpec Tryd.prog 52 [.list 1 (List.map cS a0)] (.list 1 (List.map cS r)) := by
  unfold slices_Clone_string at h
  refine spec_of Tryd.c_slices_Clone_string (by simp) ?_
  unfold Tryd.l_slices_Clone_string
  cases a0 with
  | nil =>
    refine Ev.nilSplit 0 1 rfl (by decide) ?_ ?_
    · refine Ev.seq ?_
      refine W.reg hm ?_
      refine W.mv rfl ?_
      refine W.nil ?_
      refine Ev.seq ?_
      refine Ev.seq ?_
      refine W.reg hm ?_
      refine W.mv rfl ?_
      refine W.isnilN rfl ?_
      refine W.nil ?_
      refine Ev.condT rfl rfl ?_
      refine Ev.seq ?_
      refine W.reg hm ?_
      refine W.mv rfl ?_
      refine W.nil ?_
      obtain ⟨w9, k9, h⟩ := obind h
      injection h with h; subst h
      have e9 := (gapp_some k9).2
      simp only [List.nil_append] at e9
      subst e9
      refine Ev.ret ?_
      exact ⟨_, rfl, .nils 1⟩
    · refine Ev.seq ?_
      refine W.reg hm ?_
      refine W.mv rfl ?_
      refine W.nil ?_
      refine Ev.seq ?_
      refine Ev.seq ?_
      refine W.reg hm ?_
      refine W.mv rfl ?_
      refine W.isnilZ rfl ?_
      refine W.nil ?_
      refine Ev.condF rfl rfl ?_
      refine Ev.skip ?_
      refine Ev.seq ?_
      refine Ev.weak ?_ (Wk.le (t := 0) rfl (.nz 1))
      refine W.reg hm ?_
      refine W.mkSlice (dt := true) (es := []) rfl rfl rfl rfl rfl rfl ?_
      refine W.mv rfl ?_
      obtain ⟨w1, k1, h⟩ := obind h
      refine W.appR true (l := ([] : List (List UInt8))) (c := cS) (ys := ([] : List (List UInt8))) rfl rfl rfl rfl rfl rfl rfl rfl k1 rfl (by simp) ?_
      refine W.mv rfl ?_
      refine W.nil ?_
      refine Ev.ret ?_
      injection h with h; subst h
      exact ⟨_, rfl, .refl _⟩
  | cons x9 xs9 =>
    refine Ev.seq ?_
    refine W.reg hm ?_
    refine W.mv rfl ?_
    refine W.nil ?_
    refine Ev.seq ?_
    refine Ev.seq ?_
    refine W.reg hm ?_
    refine W.mv rfl ?_
    refine W.isnilC rfl ?_
    refine W.nil ?_
    refine Ev.condF rfl rfl ?_
    refine Ev.skip ?_
    refine Ev.seq ?_
    refine W.reg hm ?_
    refine W.mkSlice (dt := true) (es := []) rfl rfl rfl rfl rfl rfl ?_
    refine W.mv rfl ?_
    obtain ⟨w1, k1, h⟩ := obind h
    refine W.appR true (l := ([] : List (List UInt8))) (c := cS) (ys := (x9 :: xs9)) rfl rfl rfl rfl rfl rfl rfl rfl k1 rfl (by simp) ?_
    refine W.mv rfl ?_
    refine W.nil ?_
    refine Ev.ret ?_
    injection h with h; subst h
    exact ⟨_, rfl, .refl _⟩
theorem slices_Clone_string_own (n : Nat) (a0 : List (List UInt8)) (r : List (List UInt8)) (h : slices_Clone_string n a0 = some r) : PMut Tryd.prog 52 [.list 1 (List.map cS a0)] [] (.own 70000 0) [(70000, ⟨0, 9, 1, List.map cS r, true, false, false⟩)] := by
  unfold slices_Clone_string at h
  refine specMut_of Tryd.c_slices_Clone_string (by simp) (by simp) ?_
  unfold Tryd.l_slices_Clone_string
  cases a0 with
  | nil =>
    refine Ev.nilSplit 0 1 rfl (by decide) ?_ ?_
    · refine Ev.seq ?_
      refine W.reg hm ?_
      refine W.mv rfl ?_
      refine W.nil ?_
      refine Ev.seq ?_
      refine Ev.seq ?_
      refine W.reg hm ?_
      refine W.mv rfl ?_
      refine W.isnilN rfl ?_
      refine W.nil ?_
      refine Ev.condT rfl rfl ?_
      refine Ev.seq ?_
      refine W.reg hm ?_
      refine W.mv rfl ?_
      refine W.nil ?_
      obtain ⟨w9, k9, h⟩ := obind h
      injection h with h; subst h
      have e9 := (gapp_some k9).2
      simp only [List.nil_append] at e9
      subst e9
      refine Ev.weak ?_ (Wk.ownNil 2 69999 9 1 rfl rfl)
      refine Ev.ret ?_
      exact ⟨_, _, Wk.nrmTo [2] [(69999, 70000)] rfl rfl, rfl, rfl, rfl, .refl _, fun nm h => by simp [PW.look] at h⟩
    · refine Ev.seq ?_
      refine W.reg hm ?_
      refine W.mv rfl ?_
      refine W.nil ?_
      refine Ev.seq ?_
      refine Ev.seq ?_
      refine W.reg hm ?_
      refine W.mv rfl ?_
      refine W.isnilZ rfl ?_
      refine W.nil ?_
      refine Ev.condF rfl rfl ?_
      refine Ev.skip ?_
      refine Ev.seq ?_
      refine Ev.weak ?_ (Wk.le (t := 0) rfl (.nz 1))
      refine W.reg hm ?_
      refine W.mkSlice (dt := true) (es := []) rfl rfl rfl rfl rfl rfl ?_
      refine W.mv rfl ?_
      obtain ⟨w1, k1, h⟩ := obind h
      refine W.appR true (l := ([] : List (List UInt8))) (c := cS) (ys := ([] : List (List UInt8))) rfl rfl rfl rfl rfl rfl rfl rfl k1 rfl (by simp) ?_
      refine W.mv rfl ?_
      refine W.nil ?_
      refine Ev.ret ?_
      injection h with h; subst h
      exact ⟨_, _, Wk.nrmTo [2] [(7, 70000)] rfl rfl, rfl, rfl, rfl, .refl _, fun nm h => by simp [PW.look] at h⟩
  | cons x9 xs9 =>
    refine Ev.seq ?_
    refine W.reg hm ?_
    refine W.mv rfl ?_
    refine W.nil ?_
    refine Ev.seq ?_
    refine Ev.seq ?_
    refine W.reg hm ?_
    refine W.mv rfl ?_
    refine W.isnilC rfl ?_
    refine W.nil ?_
    refine Ev.condF rfl rfl ?_
    refine Ev.skip ?_
    refine Ev.seq ?_
    refine W.reg hm ?_
    refine W.mkSlice (dt := true) (es := []) rfl rfl rfl rfl rfl rfl ?_
    refine W.mv rfl ?_
    obtain ⟨w1, k1, h⟩ := obind h
    refine W.appR true (l := ([] : List (List UInt8))) (c := cS) (ys := (x9 :: xs9)) rfl rfl rfl rfl rfl rfl rfl rfl k1 rfl (by simp) ?_
    refine W.mv rfl ?_
    refine W.nil ?_
    refine Ev.ret ?_
    injection h with h; subst h
    exact ⟨_, _, Wk.nrmTo [2] [(7, 70000)] rfl rfl, rfl, rfl, rfl, .refl _, fun nm h => by simp [PW.look] at h⟩

theorem slices_Index_string_spec (n : Nat) (a0 : List (List UInt8)) (a1 : List UInt8) (r : Int) (h : slices_Index_string n a0 a1 = some r) : PSpec Tryd.prog 54 [.list 1 (List.map cS a0), .str a1] (.int .i64 r) := by
  unfold slices_Index_string at h
  refine spec_of Tryd.c_slices_Index_string (by simp) ?_
  unfold Tryd.l_slices_Index_string
  refine Ev.seq ?_
  refine W.reg hm ?_
  refine W.mv rfl ?_
  refine W.nil ?_
  refine Ev.seq ?_
  refine Ev.seq ?_
  refine W.reg hm ?_
  refine W.mv rfl ?_
  refine W.lenL (c := cS) rfl ?_
  refine W.mv rfl ?_
  refine W.nil ?_
  refine Ev.block ?_
  refine Ev.loopW (β := Nat × Int) (fun v => ⟨[(0, .list 1 (List.map cS a0)), (1, .str a1), (7, .int .i64 (a0.length : Int)), (8, .int .i64 v.2)], [], 2⟩) (fun v => slices_Index_string_l1 n a0 a1 v.1 v.2 = some r) (fun v => v.1) (n, 0) (Wk.nrmTo [0, 1, 7, 8] [] rfl rfl) h ?_
  intro ⟨m1, x1⟩ h
  try dsimp only at h ⊢
  cases m1 with
  | zero => rw [slices_Index_string_l1] at h; cases h
  | succ m1 =>
    rw [slices_Index_string_l1] at h
    refine Ev.seq ?_
    refine W.reg hm ?_
    refine W.lss rfl rfl ?_
    refine W.nil ?_
    refine Ev.seq ?_
    refine Ev.cond rfl (fun c1 => ?_) (fun c1 => ?_)
    · replace h := iteT h c1
      refine Ev.skip ?_
      refine Ev.seq ?_
      refine Ev.block ?_
      refine Ev.seq ?_
      refine W.reg hm ?_
      refine W.mv rfl ?_
      refine W.mv rfl ?_
      refine W.nil ?_
      refine Ev.seq ?_
      refine W.reg hm ?_
      refine W.mv rfl ?_
      refine W.mv rfl ?_
      refine W.mv rfl ?_
      obtain ⟨e2, k2, h⟩ := obind h
      refine W.idxL (c := cS) rfl rfl k2 ?_
      refine W.load rfl rfl ?_
      refine W.seql rfl rfl ?_
      refine W.nil ?_
      refine Ev.cond rfl (fun c3 => ?_) (fun c3 => ?_)
      · replace h := iteT h c3
        refine Ev.seq ?_
        refine W.reg hm ?_
        refine W.mv rfl ?_
        refine W.mv rfl ?_
        refine W.nil ?_
        refine Ev.ret ?_
        injection h with h; subst h
        exact ⟨_, rfl, .refl _⟩
      · replace h := iteF h c3
        refine Ev.skip ?_
        refine W.reg hm ?_
        obtain ⟨x3, k4, h⟩ := obind h
        refine W.addG rfl rfl k4 ?_
        refine W.mv rfl ?_
        refine W.nil ?_
        exact ⟨(m1, x3), h, Nat.lt_succ_self _, Wk.nrmTo [0, 1, 7, 8] [] rfl rfl⟩
    · replace h := iteF h c1
      refine Ev.exit ?_
      refine Ev.seq ?_
      refine W.reg hm ?_
      refine W.mv rfl ?_
      refine W.nil ?_
      refine Ev.ret ?_
      injection h with h; subst h
      exact ⟨_, rfl, .refl _⟩

theorem slices_Contains_string_spec (n : Nat) (a0 : List (List UInt8)) (a1 : List UInt8) (r : Bool) (h : slices_Contains_string n a0 a1 = some r) : PSpec Tryd.prog 40 [.list 1 (List.map cS a0), .str a1] (.bool r) := by
  unfold slices_Contains_string at h
  refine spec_of Tryd.c_slices_Contains_string (by simp) ?_
  unfold Tryd.l_slices_Contains_string
  refine Ev.seq ?_
  refine W.reg hm ?_
  refine W.mv rfl ?_
  refine W.nil ?_
  refine Ev.seq ?_
  refine W.reg hm ?_
  refine W.mv rfl ?_
  refine W.mv rfl ?_
  obtain ⟨r1, k1, h⟩ := obind h
  refine W.call (slices_Index_string_spec n a0 a1 r1 k1) rfl rfl (Les.refl _) rfl (.inl rfl) rfl ?_
  refine W.geq rfl rfl ?_
  refine W.mv rfl ?_
  refine W.nil ?_
  refine Ev.ret ?_
  injection h with h; subst h
  exact ⟨_, rfl, .refl _⟩

set_option maxHeartbeats 4000000 in
theorem sandbox_Restrict_spec (n : Nat) (a0 : SInputsOpsOutput) (a1 : SFiles) (r : (SFiles × SCodeIndex)) (h : sandbox_Restrict n a0 a1 = some r) : PSpec Tryd.prog 16 [.agg (SInputsOpsOutput.cells a0), .agg (SFiles.cells a1)] (.tup [.agg (SFiles.cells r.1), .agg (SCodeIndex.cells r.2)]) := by
  unfold sandbox_Restrict at h
  refine spec_of Tryd.c_sandbox_Restrict (by simp) ?_
  unfold Tryd.l_sandbox_Restrict
  refine Ev.seq ?_
  refine W.reg hm ?_
  refine W.box (dt := true) (cs := [.list 1 (List.map cS a0.Inputs), .list 2 (List.map SKindText.cells a0.Ops), .str a0.Output]) rfl rfl rfl rfl rfl rfl ?_
  refine W.box (dt := true) (cs := [.list 2 (List.map SPathLines.cells a1.Files)]) rfl rfl rfl rfl rfl rfl ?_
  refine W.alloc (dt := true) rfl rfl rfl ?_
  refine W.alloc (dt := true) rfl rfl rfl ?_
  refine W.nil ?_
  refine Ev.seq ?_
  refine Ev.seq ?_
  refine W.reg hm ?_
  refine W.loadO (p := .agg [.list 1 (List.map cS a0.Inputs), .list 2 (List.map SKindText.cells a0.Ops), .str a0.Output]) rfl rfl rfl rfl ?_
  refine W.loadO (p := .agg [.list 2 (List.map SPathLines.cells a1.Files)]) rfl rfl rfl rfl ?_
  obtain ⟨r1, k1, h⟩ := obind h
  refine W.call (sandbox_Arguments_spec n a0 a1 r1 k1) rfl rfl (Les.refl _) rfl (.inl rfl) rfl ?_
  refine W.alloc (dt := true) rfl rfl rfl ?_
  refine W.store (es' := [[.int .i64 r1.Code, .int .i64 r1.Index]]) (dt := true) rfl rfl rfl rfl rfl (Nat.le_of_ble_eq_true rfl) rfl rfl rfl rfl ?_
  refine W.nil ?_
  refine Ev.seq ?_
  refine W.reg hm ?_
  refine W.loadO (p := .agg [.int .i64 r1.Code, .int .i64 r1.Index]) rfl rfl rfl rfl ?_
  refine W.build (cs := [.int .i64 0, .int .i64 0]) rfl rfl rfl ?_
  refine W.eqs rfl rfl rfl ?_
  refine W.nil ?_
  refine Ev.cond rfl (fun c2 => ?_) (fun c2 => ?_)
  · replace h := iteT h c2
    refine Ev.seq ?_
    refine W.regD hm ?_
    refine W.build (cs := [.nils]) rfl rfl rfl ?_
    refine W.loadO (p := .agg [.int .i64 r1.Code, .int .i64 r1.Index]) rfl rfl rfl rfl ?_
    refine W.store (es' := [[.nils]]) (dt := true) rfl rfl rfl rfl rfl (Nat.le_of_ble_eq_true rfl) rfl rfl rfl rfl ?_
    refine W.store (es' := [[.int .i64 r1.Code, .int .i64 r1.Index]]) (dt := true) rfl rfl rfl rfl rfl (Nat.le_of_ble_eq_true rfl) rfl rfl rfl rfl ?_
    refine W.nil ⟨rfl, ?_⟩
    refine Ev.ret ?_
    injection h with h; subst h
    exact ⟨_, rfl, Le.tups (.cons (Le.aggs (.cons (.nils 2) (.nil)) rfl) (.cons (.refl _) (.nil)))⟩
  · replace h := iteF h c2
    refine Ev.skip ?_
    refine Ev.seq ?_
    refine Ev.regS rfl ?_
    refine Sq.w 1 (Nat.le_of_ble_eq_true rfl) ?_
    refine W.loadO (p := .agg [.list 2 (List.map SPathLines.cells a1.Files)]) rfl rfl rfl rfl ?_
    refine W.nil ?_
    refine Sq.weak (st' := ⟨[(2, .pown 10000 0 0 0), (4, .pown 10001 0 0 0), (5, .pown 10002 0 0 0), (16, .agg [.list 2 (List.map SPathLines.cells a1.Files)])], [(10000, ⟨0, 25, 3, [[.list 1 (List.map cS a0.Inputs), .list 2 (List.map SKindText.cells a0.Ops), .str a0.Output]], true, false, false⟩), (10001, ⟨0, 28, 1, [[.nils]], true, false, false⟩), (10002, ⟨0, 30, 2, [[.int .i64 0, .int .i64 0]], true, false, false⟩)], 2⟩) ?_ (Wk.nrmTo [2, 4, 5, 16] [(2, 10000), (4, 10001), (5, 10002)] rfl rfl)
    refine Sq.call rfl Tryd.c_treepatch_CopyTree ⟨_, rfl, Nat.le_of_ble_eq_true rfl, ?_⟩
    unfold Tryd.l_treepatch_CopyTree
    refine Ev.retJ (γ := List SPathLines) (fun v => ⟨[(2, .pown 10100 0 0 0), (65538, .pown 10102 0 0 0), (65540, .pown 10103 0 0 0), (65541, .pown 10104 0 0 0)], [(10100, ⟨0, 28, 1, [[.own 10101 0]], false, false, false⟩), (10101, ⟨0, 61, 2, List.map SPathLines.cells v, true, false, false⟩), (10102, ⟨0, 25, 3, [[.list 1 (List.map cS a0.Inputs), .list 2 (List.map SKindText.cells a0.Ops), .str a0.Output]], true, false, false⟩), (10103, ⟨0, 28, 1, [[.nils]], true, false, false⟩), (10104, ⟨0, 30, 2, [[.int .i64 0, .int .i64 0]], true, false, false⟩)], 2⟩) (fun v => sandbox_Restrict_j1 n a0 v = some r) ?_ ?_
    · refine Ev.seq ?_
      refine W.reg hm ?_
      refine W.box (dt := true) (cs := [.list 2 (List.map SPathLines.cells a1.Files)]) rfl rfl rfl rfl rfl rfl ?_
      refine W.alloc (dt := true) rfl rfl rfl ?_
      refine W.nil ?_
      refine Ev.seq ?_
      refine W.reg hm ?_
      refine W.alloc (dt := true) rfl rfl rfl ?_
      refine W.nil ?_
      refine Ev.seq ?_
      refine Ev.seq ?_
      refine W.reg hm ?_
      refine W.fieldAddrO rfl rfl ?_
      refine W.loadO (p := .list 2 (List.map SPathLines.cells a1.Files)) rfl rfl rfl rfl ?_
      refine W.lenL (c := SPathLines.cells) rfl ?_
      refine W.mv rfl ?_
      refine W.nil ?_
      refine Ev.block ?_
      refine Ev.loopW (β := Nat × (List SPathLines) × Int) (fun v => ⟨[(2, .pown 10200 0 0 0), (3, .pown 10201 0 0 0), (7, .list 2 (List.map SPathLines.cells a1.Files)), (8, .int .i64 (a1.Files.length : Int)), (9, .int .i64 v.2.2), (65538, .pown 10203 0 0 0), (65540, .pown 10204 0 0 0), (65541, .pown 10205 0 0 0)], [(10200, ⟨0, 28, 1, [[.nils]], true, false, false⟩), (10201, ⟨0, 28, 1, [[.own 10202 0]], false, false, false⟩), (10202, ⟨0, 61, 2, List.map SPathLines.cells v.2.1, true, false, false⟩), (10203, ⟨0, 25, 3, [[.list 1 (List.map cS a0.Inputs), .list 2 (List.map SKindText.cells a0.Ops), .str a0.Output]], true, false, false⟩), (10204, ⟨0, 28, 1, [[.nils]], true, false, false⟩), (10205, ⟨0, 30, 2, [[.int .i64 0, .int .i64 0]], true, false, false⟩)], 2⟩) (fun v => sandbox_Restrict_l3 n a0 a1 v.1 v.2.1 v.2.2 = some r) (fun v => v.1) (n, ([] : List SPathLines), 0) ((Wk.ownNilCell 3 2 0 30202 61 2 rfl rfl rfl rfl rfl (by simp) true).trans (Wk.nrmTo [2, 3, 7, 8, 9, 65538, 65540, 65541] [(2, 10200), (3, 10201), (30202, 10202), (10000, 10203), (10001, 10204), (10002, 10205)] rfl rfl)) h ?_
      intro ⟨m3, w25, x26⟩ h
      try dsimp only at h ⊢
      cases m3 with
      | zero => rw [sandbox_Restrict_l3] at h; cases h
      | succ m3 =>
        rw [sandbox_Restrict_l3] at h
        refine Ev.seq ?_
        refine W.reg hm ?_
        refine W.lss rfl rfl ?_
        refine W.nil ?_
        refine Ev.seq ?_
        refine Ev.cond rfl (fun c19 => ?_) (fun c19 => ?_)
        · replace h := iteT h c19
          refine Ev.skip ?_
          refine Ev.seq ?_
          refine Ev.block ?_
          refine Ev.seq ?_
          refine W.reg hm ?_
          obtain ⟨e27, k20, h⟩ := obind h
          refine W.idxL (c := SPathLines.cells) rfl rfl k20 ?_
          refine W.load rfl rfl ?_
          refine W.alloc (dt := true) rfl rfl rfl ?_
          refine W.store (es' := [[.str e27.Path, .list 1 (List.map cS e27.Lines)]]) (dt := true) rfl rfl rfl rfl rfl (Nat.le_of_ble_eq_true rfl) rfl rfl rfl rfl ?_
          refine W.nil ?_
          refine W.regD hm ?_
          refine W.fieldAddrO rfl rfl ?_
          refine W.loadO (p := .own 10202 0) rfl rfl rfl rfl ?_
          refine W.fieldAddrO rfl rfl ?_
          refine W.loadO (p := .str e27.Path) rfl rfl rfl rfl ?_
          refine W.fieldAddrO rfl rfl ?_
          refine W.loadO (p := .list 1 (List.map cS e27.Lines)) rfl rfl rfl rfl ?_
          obtain ⟨r28, k21, h⟩ := obind h
          refine W.call (slices_Clone_string_spec n e27.Lines r28 k21) rfl rfl (Les.refl _) rfl (.inl rfl) rfl ?_
          refine W.build (cs := [.str e27.Path, .list 1 (List.map cS r28)]) rfl rfl rfl ?_
          refine W.mkSlice (dt := true) (es := [[.str e27.Path, .list 1 (List.map cS r28)]]) rfl rfl rfl rfl rfl rfl ?_
          obtain ⟨w29, k22, h⟩ := obind h
          refine W.appR true (l := w25) (c := SPathLines.cells) (ys := ([(⟨e27.Path, r28⟩ : SPathLines)] : List SPathLines)) rfl rfl rfl rfl rfl rfl rfl rfl k22 rfl (by simp) ?_
          refine W.fieldAddrO rfl rfl ?_
          refine W.store (es' := [[.own 22 2]]) (dt := false) rfl rfl rfl rfl rfl (Nat.le_of_ble_eq_true rfl) rfl rfl rfl rfl ?_
          refine W.nil ⟨rfl, ?_⟩
          refine W.reg hm ?_
          obtain ⟨x30, k23, h⟩ := obind h
          refine W.addG rfl rfl k23 ?_
          refine W.mv rfl ?_
          refine W.nil ?_
          exact ⟨(m3, w29, x30), h, Nat.lt_succ_self _, Wk.nrmTo [2, 3, 7, 8, 9, 65538, 65540, 65541] [(10200, 10200), (10201, 10201), (22, 10202), (10203, 10203), (10204, 10204), (10205, 10205)] rfl rfl⟩
        · replace h := iteF h c19
          refine Ev.exit ?_
          refine Ev.seq ?_
          refine W.reg hm ?_
          refine W.loadO (p := .agg [.own 10202 0]) rfl rfl rfl rfl ?_
          refine W.store (es' := [[.own 10202 0]]) (dt := false) rfl rfl rfl rfl rfl (Nat.le_of_ble_eq_true rfl) rfl rfl rfl rfl ?_
          refine W.nil ?_
          refine Ev.ret ?_
          exact ⟨w25, h, Wk.nrmTo [2, 65538, 65540, 65541] [(10200, 10100), (10202, 10101), (10203, 10102), (10204, 10103), (10205, 10104)] rfl rfl⟩
    · intro w2 h
      try dsimp only at h ⊢
      unfold sandbox_Restrict_j1 at h
      refine ⟨_, rfl, ?_⟩
      refine Sq.wEnd (Nat.le_of_ble_eq_true rfl) ?_
      refine W.alloc (dt := true) rfl rfl rfl ?_
      refine W.store (es' := [[.own 10101 0]]) (dt := false) rfl rfl rfl rfl rfl (Nat.le_of_ble_eq_true rfl) rfl rfl rfl rfl ?_
      refine W.nil ?_
      refine Ev.seq ?_
      refine Ev.regS rfl ?_
      refine Sq.w 3 (Nat.le_of_ble_eq_true rfl) ?_
      refine W.fieldAddrO rfl rfl ?_
      refine W.loadO (p := .own 10101 0) rfl rfl rfl rfl ?_
      refine W.mkfn rfl ?_
      refine W.nil ?_
      refine Sq.weak (st' := ⟨[(4, .pown 10100 0 0 0), (5, .pown 10101 0 0 0), (7, .pown 10102 0 0 0), (19, .own 10103 0), (20, .fn 39 [] [.pown 10104 0 0 0])], [(10100, ⟨0, 28, 1, [[.nils]], true, false, false⟩), (10101, ⟨0, 30, 2, [[.int .i64 0, .int .i64 0]], true, false, false⟩), (10102, ⟨0, 28, 1, [[.own 10103 0]], false, false, false⟩), (10103, ⟨0, 61, 2, List.map SPathLines.cells w2, true, false, false⟩), (10104, ⟨0, 25, 3, [[.list 1 (List.map cS a0.Inputs), .list 2 (List.map SKindText.cells a0.Ops), .str a0.Output]], true, false, false⟩)], 2⟩) ?_ (Wk.nrmTo [4, 5, 7, 19, 20] [(10103, 10100), (10104, 10101), (7, 10102), (10101, 10103), (10102, 10104)] rfl rfl)
      refine Sq.call rfl Tryd.c_slices_DeleteFunc_api_File_api_File ⟨_, rfl, Nat.le_of_ble_eq_true rfl, ?_⟩
      unfold Tryd.l_slices_DeleteFunc_api_File_api_File
      refine Ev.retJ (γ := (List SPathLines) × (List SPathLines)) (fun v => ⟨[(4, .list 2 (List.map SPathLines.cells v.1)), (65540, .pown 10200 0 0 0), (65541, .pown 10201 0 0 0), (65543, .pown 10202 0 0 0)], [(10200, ⟨0, 28, 1, [[.nils]], true, false, false⟩), (10201, ⟨0, 30, 2, [[.int .i64 0, .int .i64 0]], true, false, false⟩), (10202, ⟨0, 28, 1, [[.list 2 (List.map SPathLines.cells v.2)]], true, false, false⟩)], 2⟩) (fun v => sandbox_Restrict_j2 n v.1 v.2 = some r) ?_ ?_
      · refine Ev.seq ?_
        refine W.reg hm ?_
        refine W.mv rfl ?_
        refine W.nil ?_
        refine Ev.seq ?_
        refine Ev.regS rfl ?_
        refine Sq.w 2 (Nat.le_of_ble_eq_true rfl) ?_
        refine W.mv rfl ?_
        refine W.mv rfl ?_
        refine W.nil ?_
        refine Sq.call rfl Tryd.c_slices_IndexFunc_api_File_api_File ⟨_, rfl, Nat.le_of_ble_eq_true rfl, ?_⟩
        unfold Tryd.l_slices_IndexFunc_api_File_api_File
        refine Ev.retJ (γ := Int) (fun v => ⟨[(4, .int .i64 v), (65536, .own 10300 0), (65537, .fn 39 [] [.pown 10301 0 0 0]), (131076, .pown 10302 0 0 0), (131077, .pown 10303 0 0 0), (131079, .pown 10304 0 0 0)], [(10300, ⟨0, 61, 2, List.map SPathLines.cells w2, true, false, false⟩), (10301, ⟨0, 25, 3, [[.list 1 (List.map cS a0.Inputs), .list 2 (List.map SKindText.cells a0.Ops), .str a0.Output]], true, false, false⟩), (10302, ⟨0, 28, 1, [[.nils]], true, false, false⟩), (10303, ⟨0, 30, 2, [[.int .i64 0, .int .i64 0]], true, false, false⟩), (10304, ⟨0, 28, 1, [[.own 10300 0]], false, false, false⟩)], 2⟩) (fun v => sandbox_Restrict_j3 n a0 w2 v = some r) ?_ ?_
        · refine Ev.seq ?_
          refine W.reg hm ?_
          refine W.mv rfl ?_
          refine W.nil ?_
          refine Ev.seq ?_
          refine Ev.seq ?_
          refine W.reg hm ?_
          refine W.mv rfl ?_
          refine W.lenO (l := w2) (c := SPathLines.cells) rfl rfl rfl ?_
          refine W.mv rfl ?_
          refine W.nil ?_
          refine Ev.block ?_
          refine Ev.loopW (β := Nat × Int) (fun v => ⟨[(0, .own 10400 0), (1, .fn 39 [] [.pown 10401 0 0 0]), (7, .int .i64 (w2.length : Int)), (8, .int .i64 v.2), (65536, .own 10400 0), (65537, .fn 39 [] [.pown 10401 0 0 0]), (131076, .pown 10402 0 0 0), (131077, .pown 10403 0 0 0), (131079, .pown 10404 0 0 0)], [(10400, ⟨0, 61, 2, List.map SPathLines.cells w2, true, false, false⟩), (10401, ⟨0, 25, 3, [[.list 1 (List.map cS a0.Inputs), .list 2 (List.map SKindText.cells a0.Ops), .str a0.Output]], true, false, false⟩), (10402, ⟨0, 28, 1, [[.nils]], true, false, false⟩), (10403, ⟨0, 30, 2, [[.int .i64 0, .int .i64 0]], true, false, false⟩), (10404, ⟨0, 28, 1, [[.own 10400 0]], false, false, false⟩)], 2⟩) (fun v => sandbox_Restrict_l2 n a0 w2 v.1 v.2 = some r) (fun v => v.1) (n, 0) (Wk.nrmTo [0, 1, 7, 8, 65536, 65537, 131076, 131077, 131079] [(10103, 10400), (10104, 10401), (10100, 10402), (10101, 10403), (10102, 10404)] rfl rfl) h ?_
          intro ⟨m2, x20⟩ h
          try dsimp only at h ⊢
          cases m2 with
          | zero => rw [sandbox_Restrict_l2] at h; cases h
          | succ m2 =>
            rw [sandbox_Restrict_l2] at h
            refine Ev.seq ?_
            refine W.reg hm ?_
            refine W.lss rfl rfl ?_
            refine W.nil ?_
            refine Ev.seq ?_
            refine Ev.cond rfl (fun c14 => ?_) (fun c14 => ?_)
            · replace h := iteT h c14
              refine Ev.skip ?_
              refine Ev.seq ?_
              refine Ev.block ?_
              refine Ev.seq ?_
              refine W.reg hm ?_
              refine W.mv rfl ?_
              refine W.mv rfl ?_
              refine W.nil ?_
              refine Ev.seq ?_
              refine Ev.regS rfl ?_
              refine Sq.w 5 (Nat.le_of_ble_eq_true rfl) ?_
              refine W.mv rfl ?_
              refine W.mv rfl ?_
              refine W.mv rfl ?_
              obtain ⟨e21, k15, h⟩ := obind h
              refine W.idxR (l := w2) (c := SPathLines.cells) rfl rfl rfl rfl rfl k15 ?_
              refine W.loadR (l := w2) (c := SPathLines.cells) (v := e21) (p := .agg [.str e21.Path, .list 1 (List.map cS e21.Lines)]) rfl rfl rfl (gidx_some k15).2 rfl ?_
              refine W.nil ?_
              refine Sq.callv (f := 39) rfl Tryd.b_sandbox_Restrict_1 Tryd.c_sandbox_Restrict_1 ⟨_, _, _, rfl, Nat.le_of_ble_eq_true rfl, ?_⟩
              unfold Tryd.l_sandbox_Restrict_1
              refine Ev.retJ (γ := Bool) (fun v => ⟨[(3, .bool v), (65536, .own 10500 0), (65537, .fn 39 [] [.pown 10501 0 0 0]), (65541, .int .i64 x20), (65543, .int .i64 (w2.length : Int)), (65544, .int .i64 x20), (131072, .own 10500 0), (131073, .fn 39 [] [.pown 10501 0 0 0]), (196612, .pown 10502 0 0 0), (196613, .pown 10503 0 0 0), (196615, .pown 10504 0 0 0)], [(10500, ⟨0, 61, 2, List.map SPathLines.cells w2, true, false, false⟩), (10501, ⟨0, 25, 3, [[.list 1 (List.map cS a0.Inputs), .list 2 (List.map SKindText.cells a0.Ops), .str a0.Output]], true, false, false⟩), (10502, ⟨0, 28, 1, [[.nils]], true, false, false⟩), (10503, ⟨0, 30, 2, [[.int .i64 0, .int .i64 0]], true, false, false⟩), (10504, ⟨0, 28, 1, [[.own 10500 0]], false, false, false⟩)], 2⟩) (fun v => sandbox_Restrict_j6 n a0 w2 x20 (sandbox_Restrict_l2 n a0 w2 m2) v = some r) ?_ ?_
              · refine Ev.seq ?_
                refine W.reg hm ?_
                refine W.box (dt := true) (cs := [.str e21.Path, .list 1 (List.map cS e21.Lines)]) rfl rfl rfl rfl rfl rfl ?_
                refine W.mv rfl ?_
                refine W.nil ?_
                refine Ev.seq ?_
                refine W.reg hm ?_
                refine W.fieldAddrO rfl rfl ?_
                refine W.loadO (p := .list 1 (List.map cS a0.Inputs)) rfl rfl rfl rfl ?_
                refine W.fieldAddrO rfl rfl ?_
                refine W.loadO (p := .str e21.Path) rfl rfl rfl rfl ?_
                obtain ⟨r24, k18, h⟩ := obind h
                refine W.call (slices_Contains_string_spec n a0.Inputs e21.Path r24 k18) rfl rfl (Les.refl _) rfl (.inl rfl) rfl ?_
                refine W.not rfl ?_
                refine W.mv rfl ?_
                refine W.nil ?_
                refine Ev.ret ?_
                exact ⟨(!r24), h, Wk.nrmTo [3, 65536, 65537, 65541, 65543, 65544, 131072, 131073, 196612, 196613, 196615] [(10400, 10500), (10401, 10501), (10402, 10502), (10403, 10503), (10404, 10504)] rfl rfl⟩
              · intro x22 h
                try dsimp only at h ⊢
                unfold sandbox_Restrict_j6 at h
                refine ⟨_, rfl, ?_⟩
                refine Sq.wEnd (Nat.le_of_ble_eq_true rfl) ?_
                refine W.nil ?_
                refine Ev.cond rfl (fun c16 => ?_) (fun c16 => ?_)
                · replace h := iteT h c16
                  refine Ev.seq ?_
                  refine W.reg hm ?_
                  refine W.mv rfl ?_
                  refine W.mv rfl ?_
                  refine W.nil ?_
                  refine Ev.ret ?_
                  exact ⟨x20, h, Wk.nrmTo [4, 65536, 65537, 131076, 131077, 131079] [(10500, 10300), (10501, 10301), (10502, 10302), (10503, 10303), (10504, 10304)] rfl rfl⟩
                · replace h := iteF h c16
                  refine Ev.skip ?_
                  refine W.reg hm ?_
                  obtain ⟨x23, k17, h⟩ := obind h
                  refine W.addG rfl rfl k17 ?_
                  refine W.mv rfl ?_
                  refine W.nil ?_
                  exact ⟨(m2, x23), h, Nat.lt_succ_self _, Wk.nrmTo [0, 1, 7, 8, 65536, 65537, 131076, 131077, 131079] [(10500, 10400), (10501, 10401), (10502, 10402), (10503, 10403), (10504, 10404)] rfl rfl⟩
            · replace h := iteF h c14
              refine Ev.exit ?_
              refine Ev.seq ?_
              refine W.reg hm ?_
              refine W.mv rfl ?_
              refine W.nil ?_
              refine Ev.ret ?_
              exact ⟨(-1), h, Wk.nrmTo [4, 65536, 65537, 131076, 131077, 131079] [(10400, 10300), (10401, 10301), (10402, 10302), (10403, 10303), (10404, 10304)] rfl rfl⟩
        · intro x5 h
          try dsimp only at h ⊢
          unfold sandbox_Restrict_j3 at h
          refine ⟨_, rfl, ?_⟩
          refine Sq.wEnd (Nat.le_of_ble_eq_true rfl) ?_
          refine W.mv rfl ?_
          refine W.nil ?_
          refine Ev.seq ?_
          refine Ev.seq ?_
          refine W.reg hm ?_
          refine W.mv rfl ?_
          refine W.eql rfl rfl ?_
          refine W.nil ?_
          refine Ev.cond rfl (fun c3 => ?_) (fun c3 => ?_)
          · replace h := iteT h c3
            refine Ev.seq ?_
            refine W.reg hm ?_
            refine W.mv rfl ?_
            refine W.mv rfl ?_
            refine W.nil ?_
            refine Ev.weak ?_ (Wk.frz 10300 0 rfl rfl)
            refine Ev.ret ?_
            exact ⟨(w2, w2), h, Wk.nrmTo [4, 65540, 65541, 65543] [(10302, 10200), (10303, 10201), (10304, 10202)] rfl rfl⟩
          · replace h := iteF h c3
            refine Ev.skip ?_
            refine Ev.seq ?_
            refine Ev.seq ?_
            refine W.reg hm ?_
            refine W.mv rfl ?_
            obtain ⟨x6, k4, h⟩ := obind h
            refine W.addG rfl rfl k4 ?_
            refine W.mv rfl ?_
            refine W.nil ?_
            refine Ev.block ?_
            refine Ev.loopW (β := Nat × (List SPathLines) × Int × Int) (fun v => ⟨[(0, .own 10400 0), (1, .fn 39 [] [.pown 10401 0 0 0]), (5, .int .i64 v.2.2.1), (6, .int .i64 v.2.2.2), (65540, .pown 10402 0 0 0), (65541, .pown 10403 0 0 0), (65543, .pown 10404 0 0 0)], [(10400, ⟨0, 61, 2, List.map SPathLines.cells v.2.1, true, false, false⟩), (10401, ⟨0, 25, 3, [[.list 1 (List.map cS a0.Inputs), .list 2 (List.map SKindText.cells a0.Ops), .str a0.Output]], true, false, false⟩), (10402, ⟨0, 28, 1, [[.nils]], true, false, false⟩), (10403, ⟨0, 30, 2, [[.int .i64 0, .int .i64 0]], true, false, false⟩), (10404, ⟨0, 28, 1, [[.own 10400 0]], false, false, false⟩)], 2⟩) (fun v => sandbox_Restrict_l1 n a0 v.1 v.2.1 v.2.2.1 v.2.2.2 = some r) (fun v => v.1) (n, w2, x5, x6) (Wk.nrmTo [0, 1, 5, 6, 65540, 65541, 65543] [(10300, 10400), (10301, 10401), (10302, 10402), (10303, 10403), (10304, 10404)] rfl rfl) h ?_
            intro ⟨m1, w7, x8, x9⟩ h
            try dsimp only at h ⊢
            cases m1 with
            | zero => rw [sandbox_Restrict_l1] at h; cases h
            | succ m1 =>
              rw [sandbox_Restrict_l1] at h
              refine Ev.seq ?_
              refine Ev.seq ?_
              refine W.reg hm ?_
              refine W.mv rfl ?_
              refine W.mv rfl ?_
              refine W.lenO (l := w7) (c := SPathLines.cells) rfl rfl rfl ?_
              refine W.lss rfl rfl ?_
              refine W.nil ?_
              refine Ev.cond rfl (fun c5 => ?_) (fun c5 => ?_)
              · replace h := iteT h c5
                refine Ev.skip ?_
                refine Ev.seqJ (γ := (List SPathLines) × Int) (fun v => ⟨[(0, .own 10500 0), (1, .fn 39 [] [.pown 10501 0 0 0]), (5, .int .i64 v.2), (6, .int .i64 x9), (65540, .pown 10502 0 0 0), (65541, .pown 10503 0 0 0), (65543, .pown 10504 0 0 0)], [(10500, ⟨0, 61, 2, List.map SPathLines.cells v.1, true, false, false⟩), (10501, ⟨0, 25, 3, [[.list 1 (List.map cS a0.Inputs), .list 2 (List.map SKindText.cells a0.Ops), .str a0.Output]], true, false, false⟩), (10502, ⟨0, 28, 1, [[.nils]], true, false, false⟩), (10503, ⟨0, 30, 2, [[.int .i64 0, .int .i64 0]], true, false, false⟩), (10504, ⟨0, 28, 1, [[.own 10500 0]], false, false, false⟩)], 2⟩) (fun v => sandbox_Restrict_j4 n x9 (sandbox_Restrict_l1 n a0 m1) v.1 v.2 = some r) ?_ ?_
                · refine Ev.block ?_
                  refine Ev.seq ?_
                  refine W.reg hm ?_
                  refine W.mv rfl ?_
                  refine W.mv rfl ?_
                  obtain ⟨e13, k7, h⟩ := obind h
                  refine W.idxR (l := w7) (c := SPathLines.cells) rfl rfl rfl rfl rfl k7 ?_
                  refine W.loadR (l := w7) (c := SPathLines.cells) (v := e13) (p := .agg [.str e13.Path, .list 1 (List.map cS e13.Lines)]) rfl rfl rfl (gidx_some k7).2 rfl ?_
                  refine W.alloc (dt := true) rfl rfl rfl ?_
                  refine W.store (es' := [[.str e13.Path, .list 1 (List.map cS e13.Lines)]]) (dt := true) rfl rfl rfl rfl rfl (Nat.le_of_ble_eq_true rfl) rfl rfl rfl rfl ?_
                  refine W.nil ?_
                  refine Ev.seq ?_
                  refine Ev.regS rfl ?_
                  refine Sq.w 2 (Nat.le_of_ble_eq_true rfl) ?_
                  refine W.mv rfl ?_
                  refine W.loadO (p := .agg [.str e13.Path, .list 1 (List.map cS e13.Lines)]) rfl rfl rfl rfl ?_
                  refine W.nil ?_
                  refine Sq.weak (st' := ⟨[(0, .own 10500 0), (1, .fn 39 [] [.pown 10501 0 0 0]), (5, .int .i64 x8), (6, .int .i64 x9), (7, .pown 10502 0 0 0), (26, .fn 39 [] [.pown 10501 0 0 0]), (27, .agg [.str e13.Path, .list 1 (List.map cS e13.Lines)]), (65540, .pown 10503 0 0 0), (65541, .pown 10504 0 0 0), (65543, .pown 10505 0 0 0)], [(10500, ⟨0, 61, 2, List.map SPathLines.cells w7, true, false, false⟩), (10501, ⟨0, 25, 3, [[.list 1 (List.map cS a0.Inputs), .list 2 (List.map SKindText.cells a0.Ops), .str a0.Output]], true, false, false⟩), (10502, ⟨0, 61, 2, [[.str e13.Path, .list 1 (List.map cS e13.Lines)]], true, false, false⟩), (10503, ⟨0, 28, 1, [[.nils]], true, false, false⟩), (10504, ⟨0, 30, 2, [[.int .i64 0, .int .i64 0]], true, false, false⟩), (10505, ⟨0, 28, 1, [[.own 10500 0]], false, false, false⟩)], 2⟩) ?_ (Wk.nrmTo [0, 1, 5, 6, 7, 26, 27, 65540, 65541, 65543] [(10400, 10500), (10401, 10501), (7, 10502), (10402, 10503), (10403, 10504), (10404, 10505)] rfl rfl)
                  refine Sq.callv (f := 39) rfl Tryd.b_sandbox_Restrict_1 Tryd.c_sandbox_Restrict_1 ⟨_, _, _, rfl, Nat.le_of_ble_eq_true rfl, ?_⟩
                  unfold Tryd.l_sandbox_Restrict_1
                  refine Ev.retJ (γ := Bool) (fun v => ⟨[(3, .bool v), (65536, .own 10600 0), (65537, .fn 39 [] [.pown 10601 0 0 0]), (65541, .int .i64 x8), (65542, .int .i64 x9), (65543, .pown 10602 0 0 0), (131076, .pown 10603 0 0 0), (131077, .pown 10604 0 0 0), (131079, .pown 10605 0 0 0)], [(10600, ⟨0, 61, 2, List.map SPathLines.cells w7, true, false, false⟩), (10601, ⟨0, 25, 3, [[.list 1 (List.map cS a0.Inputs), .list 2 (List.map SKindText.cells a0.Ops), .str a0.Output]], true, false, false⟩), (10602, ⟨0, 61, 2, [[.str e13.Path, .list 1 (List.map cS e13.Lines)]], true, false, false⟩), (10603, ⟨0, 28, 1, [[.nils]], true, false, false⟩), (10604, ⟨0, 30, 2, [[.int .i64 0, .int .i64 0]], true, false, false⟩), (10605, ⟨0, 28, 1, [[.own 10600 0]], false, false, false⟩)], 2⟩) (fun v => sandbox_Restrict_j5 n w7 x8 x9 (sandbox_Restrict_l1 n a0 m1) e13 v = some r) ?_ ?_
                  · refine Ev.seq ?_
                    refine W.reg hm ?_
                    refine W.box (dt := true) (cs := [.str e13.Path, .list 1 (List.map cS e13.Lines)]) rfl rfl rfl rfl rfl rfl ?_
                    refine W.mv rfl ?_
                    refine W.nil ?_
                    refine Ev.seq ?_
                    refine W.reg hm ?_
                    refine W.fieldAddrO rfl rfl ?_
                    refine W.loadO (p := .list 1 (List.map cS a0.Inputs)) rfl rfl rfl rfl ?_
                    refine W.fieldAddrO rfl rfl ?_
                    refine W.loadO (p := .str e13.Path) rfl rfl rfl rfl ?_
                    obtain ⟨r17, k11, h⟩ := obind h
                    refine W.call (slices_Contains_string_spec n a0.Inputs e13.Path r17 k11) rfl rfl (Les.refl _) rfl (.inl rfl) rfl ?_
                    refine W.not rfl ?_
                    refine W.mv rfl ?_
                    refine W.nil ?_
                    refine Ev.ret ?_
                    exact ⟨(!r17), h, Wk.nrmTo [3, 65536, 65537, 65541, 65542, 65543, 131076, 131077, 131079] [(10500, 10600), (10501, 10601), (10502, 10602), (10503, 10603), (10504, 10604), (10505, 10605)] rfl rfl⟩
                  · intro x14 h
                    try dsimp only at h ⊢
                    unfold sandbox_Restrict_j5 at h
                    refine ⟨_, rfl, ?_⟩
                    refine Sq.wEnd (Nat.le_of_ble_eq_true rfl) ?_
                    refine W.not rfl ?_
                    refine W.nil ?_
                    refine Ev.cond rfl (fun c8 => ?_) (fun c8 => ?_)
                    · replace h := iteT h c8
                      refine Ev.seq ?_
                      refine W.reg hm ?_
                      refine W.mv rfl ?_
                      refine W.mv rfl ?_
                      refine W.loadO (p := .agg [.str e13.Path, .list 1 (List.map cS e13.Lines)]) rfl rfl rfl rfl ?_
                      obtain ⟨e15, k9, h⟩ := obind h
                      refine W.idxR (l := w7) (c := SPathLines.cells) rfl rfl rfl rfl rfl k9 ?_
                      refine W.storeR true (l := w7) (c := SPathLines.cells) (v := e15) (v' := e13) rfl rfl rfl rfl (gidx_some k9).2 rfl (Nat.le_of_ble_eq_true rfl) rfl rfl rfl ?_
                      refine W.nil ?_
                      refine W.reg hm ?_
                      refine W.mv rfl ?_
                      obtain ⟨x16, k10, h⟩ := obind h
                      refine W.addG rfl rfl k10 ?_
                      refine W.mv rfl ?_
                      refine W.nil ?_
                      exact ⟨((gset w7 x8 e13), x16), h, Wk.nrmTo [0, 1, 5, 6, 65540, 65541, 65543] [(10600, 10500), (10601, 10501), (10603, 10502), (10604, 10503), (10605, 10504)] rfl rfl⟩
                    · replace h := iteF h c8
                      refine Ev.skip ?_
                      exact ⟨(w7, x8), h, Wk.nrmTo [0, 1, 5, 6, 65540, 65541, 65543] [(10600, 10500), (10601, 10501), (10603, 10502), (10604, 10503), (10605, 10504)] rfl rfl⟩
                · intro ⟨w10, x11⟩ h
                  try dsimp only at h ⊢
                  unfold sandbox_Restrict_j4 at h
                  refine W.reg hm ?_
                  refine W.mv rfl ?_
                  obtain ⟨x12, k6, h⟩ := obind h
                  refine W.addG rfl rfl k6 ?_
                  refine W.mv rfl ?_
                  refine W.nil ?_
                  exact ⟨(m1, w10, x11, x12), h, Nat.lt_succ_self _, Wk.nrmTo [0, 1, 5, 6, 65540, 65541, 65543] [(10500, 10400), (10501, 10401), (10502, 10402), (10503, 10403), (10504, 10404)] rfl rfl⟩
              · replace h := iteF h c5
                refine Ev.exit ?_
                refine Ev.seq ?_
                refine W.reg hm ?_
                refine W.mv rfl ?_
                refine W.mv rfl ?_
                obtain ⟨s18, k12, h⟩ := obind h
                refine W.sliceR (l := w7) (c := SPathLines.cells) rfl rfl rfl rfl k12 (by rw [List.length_map]; exact ix0 (gcut_some k12).1) ?_
                refine W.clearS (l := List.map SPathLines.cells w7) (c := fun x => x) [.str ([] : List UInt8), .nils] rfl rfl rfl (List.map_id' _).symm (gcut_map k12) rfl rfl ?_
                refine W.nil ?_
                refine Ev.weak ?_ (Wk.rowLe 10400 0 (es' := List.map SPathLines.cells (gclear w7 x8.toNat (w7.length : Int).toNat (⟨([] : List UInt8), ([] : List (List UInt8))⟩ : SPathLines))) rfl rfl (LesR.clear (.cons (.refl _) (.cons (.nils 1) (.nil))) fun _ => rfl) rfl)
                refine Ev.seq ?_
                refine W.reg hm ?_
                refine W.mv rfl ?_
                refine W.mv rfl ?_
                obtain ⟨s19, k13, h⟩ := obind h
                refine W.sliceR (l := (gclear w7 x8.toNat (w7.length : Int).toNat (⟨([] : List UInt8), ([] : List (List UInt8))⟩ : SPathLines))) (c := SPathLines.cells) rfl rfl rfl rfl k13 (ix1 (gcut_some k13).2.2.2.1) ?_
                refine W.mv rfl ?_
                refine W.nil ?_
                refine Ev.weak ?_ (Wk.frz 10400 0 rfl rfl)
                refine Ev.weak ?_ (Wk.le (t := 4) rfl (Le.cut k13))
                refine Ev.weak ?_ (Wk.le (t := 41) rfl (Le.cut k13))
                refine Ev.ret ?_
                exact ⟨(s19, (gclear w7 x8.toNat (w7.length : Int).toNat (⟨([] : List UInt8), ([] : List (List UInt8))⟩ : SPathLines))), h, Wk.nrmTo [4, 65540, 65541, 65543] [(10402, 10200), (10403, 10201), (10404, 10202)] rfl rfl⟩
      · intro ⟨x3, b4⟩ h
        try dsimp only at h ⊢
        unfold sandbox_Restrict_j2 at h
        refine ⟨_, rfl, ?_⟩
        refine Sq.wEnd (Nat.le_of_ble_eq_true rfl) ?_
        refine W.fieldAddrO rfl rfl ?_
        refine W.store (es' := [[.list 2 (List.map SPathLines.cells x3)]]) (dt := true) rfl rfl rfl rfl rfl (Nat.le_of_ble_eq_true rfl) rfl rfl rfl rfl ?_
        refine W.nil ?_
        refine Ev.seq ?_
        refine W.reg hm ?_
        refine W.loadO (p := .agg [.list 2 (List.map SPathLines.cells x3)]) rfl rfl rfl rfl ?_
        refine W.build (cs := [.int .i64 0, .int .i64 0]) rfl rfl rfl ?_
        refine W.store (es' := [[.list 2 (List.map SPathLines.cells x3)]]) (dt := true) rfl rfl rfl rfl rfl (Nat.le_of_ble_eq_true rfl) rfl rfl rfl rfl ?_
        refine W.store (es' := [[.int .i64 0, .int .i64 0]]) (dt := true) rfl rfl rfl rfl rfl (Nat.le_of_ble_eq_true rfl) rfl rfl rfl rfl ?_
        refine W.nil ?_
        refine Ev.ret ?_
        injection h with h; subst h
        exact ⟨_, rfl, .refl _⟩

set_option maxHeartbeats 4000000 in
theorem ref6_Trees_spec (n : Nat) (a0 : SFiles) (a1 : SFiles) (r : Bool) (h : ref6_Trees n a0 a1 = some r) : PSpec Tryd.prog 17 [.agg (SFiles.cells a0), .agg (SFiles.cells a1)] (.bool r) := by
  unfold ref6_Trees at h
  refine spec_of Tryd.c_ref6_Trees (by simp) ?_
  unfold Tryd.l_ref6_Trees
  refine Ev.seq ?_
  refine W.reg hm ?_
  refine W.box (dt := true) (cs := [.list 2 (List.map SPathLines.cells a0.Files)]) rfl rfl rfl rfl rfl rfl ?_
  refine W.box (dt := true) (cs := [.list 2 (List.map SPathLines.cells a1.Files)]) rfl rfl rfl rfl rfl rfl ?_
  refine W.mv rfl ?_
  refine W.nil ?_
  refine Ev.seq ?_
  refine Ev.seq ?_
  refine W.reg hm ?_
  refine W.fieldAddrO rfl rfl ?_
  refine W.loadO (p := .list 2 (List.map SPathLines.cells a0.Files)) rfl rfl rfl rfl ?_
  refine W.lenL (c := SPathLines.cells) rfl ?_
  refine W.fieldAddrO rfl rfl ?_
  refine W.loadO (p := .list 2 (List.map SPathLines.cells a1.Files)) rfl rfl rfl rfl ?_
  refine W.lenL (c := SPathLines.cells) rfl ?_
  refine W.neq rfl rfl ?_
  refine W.nil ?_
  refine Ev.cond rfl (fun c1 => ?_) (fun c1 => ?_)
  · replace h := iteT h c1
    refine Ev.seq ?_
    refine W.reg hm ?_
    refine W.mv rfl ?_
    refine W.nil ?_
    refine Ev.ret ?_
    injection h with h; subst h
    exact ⟨_, rfl, .refl _⟩
  · replace h := iteF h c1
    refine Ev.skip ?_
    refine Ev.seq ?_
    refine Ev.seq ?_
    refine W.reg hm ?_
    refine W.mv rfl ?_
    refine W.nil ?_
    refine Ev.block ?_
    refine Ev.loopW (β := Nat × Int) (fun v => ⟨[(2, .pown 10100 0 0 0), (3, .pown 10101 0 0 0), (5, .int .i64 v.2)], [(10100, ⟨0, 28, 1, [[.list 2 (List.map SPathLines.cells a0.Files)]], true, false, false⟩), (10101, ⟨0, 28, 1, [[.list 2 (List.map SPathLines.cells a1.Files)]], true, false, false⟩)], 2⟩) (fun v => ref6_Trees_l1 n a0 a1 v.1 v.2 = some r) (fun v => v.1) (n, 0) (Wk.nrmTo [2, 3, 5] [(2, 10100), (3, 10101)] rfl rfl) h ?_
    intro ⟨m1, x1⟩ h
    try dsimp only at h ⊢
    cases m1 with
    | zero => rw [ref6_Trees_l1] at h; cases h
    | succ m1 =>
      rw [ref6_Trees_l1] at h
      refine Ev.seq ?_
      refine Ev.seq ?_
      refine W.reg hm ?_
      refine W.mv rfl ?_
      refine W.fieldAddrO rfl rfl ?_
      refine W.loadO (p := .list 2 (List.map SPathLines.cells a0.Files)) rfl rfl rfl rfl ?_
      refine W.lenL (c := SPathLines.cells) rfl ?_
      refine W.lss rfl rfl ?_
      refine W.nil ?_
      refine Ev.cond rfl (fun c2 => ?_) (fun c2 => ?_)
      · replace h := iteT h c2
        refine Ev.skip ?_
        refine Ev.seq ?_
        refine Ev.block ?_
        refine Ev.seqJ (γ := Bool) (fun v => ⟨[(2, .pown 10200 0 0 0), (3, .pown 10201 0 0 0), (5, .int .i64 x1), (48, .bool v)], [(10200, ⟨0, 28, 1, [[.list 2 (List.map SPathLines.cells a0.Files)]], true, false, false⟩), (10201, ⟨0, 28, 1, [[.list 2 (List.map SPathLines.cells a1.Files)]], true, false, false⟩)], 2⟩) (fun v => ref6_Trees_j1 n x1 (ref6_Trees_l1 n a0 a1 m1) v = some r) ?_ ?_
        · refine W.regD hm ?_
          refine W.fieldAddrO rfl rfl ?_
          refine W.loadO (p := .list 2 (List.map SPathLines.cells a0.Files)) rfl rfl rfl rfl ?_
          refine W.mv rfl ?_
          obtain ⟨e4, k5, h⟩ := obind h
          refine W.idxL (c := SPathLines.cells) rfl rfl k5 ?_
          refine W.fieldAddr rfl ?_
          refine W.load rfl rfl ?_
          refine W.fieldAddrO rfl rfl ?_
          refine W.loadO (p := .list 2 (List.map SPathLines.cells a1.Files)) rfl rfl rfl rfl ?_
          refine W.mv rfl ?_
          obtain ⟨e5, k6, h⟩ := obind h
          refine W.idxL (c := SPathLines.cells) rfl rfl k6 ?_
          refine W.fieldAddr rfl ?_
          refine W.load rfl rfl ?_
          refine W.sneq rfl rfl ?_
          refine W.mv rfl ?_
          refine W.split 33 rfl (fun c7 => ?_) (fun c7 => ?_)
          · replace h := iteT h c7
            refine W.guardF2 rfl c7 ?_
            refine W.guardF2 rfl c7 ?_
            refine W.guardF2 rfl c7 ?_
            refine W.guardF2 rfl c7 ?_
            refine W.guardF2 rfl c7 ?_
            refine W.guardF2 rfl c7 ?_
            refine W.guardF2 rfl c7 ?_
            refine W.guardF2 rfl c7 ?_
            refine W.guardF2 rfl c7 ?_
            refine W.guardF2 rfl c7 ?_
            refine W.guardF2 rfl c7 ?_
            refine W.guardF2 rfl c7 ?_
            refine W.guardF2 rfl c7 ?_
            refine W.guardF2 rfl c7 ?_
            refine W.pickT rfl rfl rfl c7 ?_
            refine W.nil ⟨rfl, ?_⟩
            exact ⟨true, h, Wk.nrmTo [2, 3, 5, 48] [(10100, 10200), (10101, 10201)] rfl rfl⟩
          · replace h := iteF h c7
            refine W.guardT rfl c7 ?_
            refine W.fieldAddrO rfl rfl ?_
            refine W.guardT rfl c7 ?_
            refine W.loadO (p := .list 2 (List.map SPathLines.cells a0.Files)) rfl rfl rfl rfl ?_
            refine W.guardT rfl c7 ?_
            refine W.mv rfl ?_
            refine W.guardT rfl c7 ?_
            refine W.idxL (c := SPathLines.cells) rfl rfl k5 ?_
            refine W.guardT rfl c7 ?_
            refine W.fieldAddr rfl ?_
            refine W.guardT rfl c7 ?_
            refine W.load rfl rfl ?_
            refine W.guardT rfl c7 ?_
            refine W.fieldAddrO rfl rfl ?_
            refine W.guardT rfl c7 ?_
            refine W.loadO (p := .list 2 (List.map SPathLines.cells a1.Files)) rfl rfl rfl rfl ?_
            refine W.guardT rfl c7 ?_
            refine W.mv rfl ?_
            refine W.guardT rfl c7 ?_
            refine W.idxL (c := SPathLines.cells) rfl rfl k6 ?_
            refine W.guardT rfl c7 ?_
            refine W.fieldAddr rfl ?_
            refine W.guardT rfl c7 ?_
            refine W.load rfl rfl ?_
            refine W.guardT rfl c7 ?_
            obtain ⟨r6, k8, h⟩ := obind h
            refine W.call (ref6_Strings_spec n e4.Lines e5.Lines r6 k8) rfl rfl (Les.refl _) rfl (.inl rfl) rfl ?_
            refine W.guardT rfl c7 ?_
            refine W.not rfl ?_
            refine W.pickN rfl rfl rfl c7 ?_
            refine W.nil ⟨rfl, ?_⟩
            exact ⟨(!r6), h, Wk.nrmTo [2, 3, 5, 48] [(10100, 10200), (10101, 10201)] rfl rfl⟩
        · intro x2 h
          try dsimp only at h ⊢
          unfold ref6_Trees_j1 at h
          refine Ev.cond rfl (fun c3 => ?_) (fun c3 => ?_)
          · replace h := iteT h c3
            refine Ev.seq ?_
            refine W.reg hm ?_
            refine W.mv rfl ?_
            refine W.nil ?_
            refine Ev.ret ?_
            injection h with h; subst h
            exact ⟨_, rfl, .refl _⟩
          · replace h := iteF h c3
            refine Ev.skip ?_
            refine W.reg hm ?_
            refine W.mv rfl ?_
            obtain ⟨x3, k4, h⟩ := obind h
            refine W.addG rfl rfl k4 ?_
            refine W.mv rfl ?_
            refine W.nil ?_
            exact ⟨(m1, x3), h, Nat.lt_succ_self _, Wk.nrmTo [2, 3, 5] [(10200, 10100), (10201, 10101)] rfl rfl⟩
      · replace h := iteF h c2
        refine Ev.exit ?_
        refine Ev.seq ?_
        refine W.reg hm ?_
        refine W.mv rfl ?_
        refine W.nil ?_
        refine Ev.ret ?_
        injection h with h; subst h
        exact ⟨_, rfl, .refl _⟩

theorem strings_Compare_spec (n : Nat) (a0 : List UInt8) (a1 : List UInt8) (r : Int) (h : strings_Compare n a0 a1 = some r) : PSpec Tryd.prog 80 [.str a0, .str a1] (.int .i64 r) := by
  unfold strings_Compare at h
  injection h with h
  subst h
  exact k_Compare a0 a1

set_option maxHeartbeats 4000000 in
theorem treepatch_Find_spec (n : Nat) (a0 : List SPathLines) (a1 : List UInt8) (r : (Int × Bool)) (h : treepatch_Find n a0 a1 = some r) : PSpec Tryd.prog 57 [.list 2 (List.map SPathLines.cells a0), .str a1] (.tup [.int .i64 r.1, .bool r.2]) := by
  unfold treepatch_Find at h
  refine spec_of Tryd.c_treepatch_Find (by simp) ?_
  unfold Tryd.l_treepatch_Find
  refine Ev.seq ?_
  refine W.reg hm ?_
  refine W.mv rfl ?_
  refine W.mv rfl ?_
  refine W.nil ?_
  refine Ev.seq ?_
  refine Ev.regS rfl ?_
  refine Sq.w 2 (Nat.le_of_ble_eq_true rfl) ?_
  refine W.mv rfl ?_
  refine W.mv rfl ?_
  refine W.nil ?_
  refine Sq.call rfl Tryd.c_slices_BinarySearchFunc_api_File_api_File_string ⟨_, rfl, Nat.le_of_ble_eq_true rfl, ?_⟩
  unfold Tryd.l_slices_BinarySearchFunc_api_File_api_File_string
  refine Ev.retJ (γ := Int × Bool) (fun v => ⟨[(6, .int .i64 v.1), (7, .bool v.2), (65540, .int .i64 0), (65541, .bool false)], [], 2⟩) (fun v => treepatch_Find_j1 n v.1 v.2 = some r) ?_ ?_
  · refine Ev.seq ?_
    refine W.reg hm ?_
    refine W.mv rfl ?_
    refine W.mv rfl ?_
    refine W.nil ?_
    refine Ev.seq ?_
    refine W.reg hm ?_
    refine W.mv rfl ?_
    refine W.lenL (c := SPathLines.cells) rfl ?_
    refine W.mv rfl ?_
    refine W.nil ?_
    refine Ev.seq ?_
    refine W.reg hm ?_
    refine W.mv rfl ?_
    refine W.mv rfl ?_
    refine W.mv rfl ?_
    refine W.nil ?_
    refine Ev.seqJ (γ := Int) (fun v => ⟨[(0, .list 2 (List.map SPathLines.cells a0)), (1, .str a1), (2, .fn 79 [] []), (8, .int .i64 (a0.length : Int)), (9, .int .i64 v), (65540, .int .i64 0), (65541, .bool false)], [], 2⟩) (fun v => treepatch_Find_j2 n a0 a1 v = some r) ?_ ?_
    · refine Ev.block ?_
      refine Ev.loopW (β := Nat × Int × Int) (fun v => ⟨[(0, .list 2 (List.map SPathLines.cells a0)), (1, .str a1), (2, .fn 79 [] []), (8, .int .i64 (a0.length : Int)), (9, .int .i64 v.2.1), (10, .int .i64 v.2.2), (65540, .int .i64 0), (65541, .bool false)], [], 2⟩) (fun v => treepatch_Find_l1 n a0 a1 v.1 v.2.1 v.2.2 = some r) (fun v => v.1) (n, 0, (a0.length : Int)) (Wk.nrmTo [0, 1, 2, 8, 9, 10, 65540, 65541] [] rfl rfl) h ?_
      intro ⟨m1, x8, x9⟩ h
      try dsimp only at h ⊢
      cases m1 with
      | zero => rw [treepatch_Find_l1] at h; cases h
      | succ m1 =>
        rw [treepatch_Find_l1] at h
        refine Ev.seq ?_
        refine Ev.seq ?_
        refine W.reg hm ?_
        refine W.mv rfl ?_
        refine W.mv rfl ?_
        refine W.lss rfl rfl ?_
        refine W.nil ?_
        refine Ev.cond rfl (fun c4 => ?_) (fun c4 => ?_)
        · replace h := iteT h c4
          refine Ev.skip ?_
          refine Ev.block ?_
          refine Ev.seq ?_
          refine W.reg hm ?_
          refine W.mv rfl ?_
          refine W.mv rfl ?_
          obtain ⟨x10, k5, h⟩ := obind h
          refine W.addG rfl rfl k5 ?_
          refine W.conv rfl rfl ?_
          refine W.shrC (n := 1) rfl rfl ?_
          refine W.conv rfl rfl ?_
          refine W.mv rfl ?_
          refine W.nil ?_
          refine Ev.seq ?_
          refine Ev.regS rfl ?_
          refine Sq.w 6 (Nat.le_of_ble_eq_true rfl) ?_
          refine W.mv rfl ?_
          refine W.mv rfl ?_
          refine W.mv rfl ?_
          obtain ⟨e11, k6, h⟩ := obind h
          refine W.idxL (c := SPathLines.cells) rfl rfl k6 ?_
          refine W.load rfl rfl ?_
          refine W.mv rfl ?_
          refine W.nil ?_
          refine Sq.callv (f := 79) rfl Tryd.b_treepatch_Find_1 Tryd.c_treepatch_Find_1 ⟨_, _, _, rfl, Nat.le_of_ble_eq_true rfl, ?_⟩
          unfold Tryd.l_treepatch_Find_1
          refine Ev.retJ (γ := Int) (fun v => ⟨[(4, .int .i64 v), (65536, .list 2 (List.map SPathLines.cells a0)), (65537, .str a1), (65538, .fn 79 [] []), (65544, .int .i64 (a0.length : Int)), (65545, .int .i64 x8), (65546, .int .i64 x9), (65547, .int .i64 (IntKind.wrap .i64 (kshr .u64 (IntKind.wrap .u64 x10) 1))), (131076, .int .i64 0), (131077, .bool false)], [], 2⟩) (fun v => treepatch_Find_j5 n x8 x9 (treepatch_Find_l1 n a0 a1 m1) x10 v = some r) ?_ ?_
          · refine Ev.seq ?_
            refine W.reg hm ?_
            refine W.box (dt := true) (cs := [.str e11.Path, .list 1 (List.map cS e11.Lines)]) rfl rfl rfl rfl rfl rfl ?_
            refine W.mv rfl ?_
            refine W.nil ?_
            refine Ev.seq ?_
            refine W.reg hm ?_
            refine W.fieldAddrO rfl rfl ?_
            refine W.loadO (p := .str e11.Path) rfl rfl rfl rfl ?_
            refine W.mv rfl ?_
            obtain ⟨r14, k9, h⟩ := obind h
            refine W.call (strings_Compare_spec n e11.Path a1 r14 k9) rfl rfl (Les.refl _) rfl (.inl rfl) rfl ?_
            refine W.mv rfl ?_
            refine W.nil ?_
            refine Ev.ret ?_
            exact ⟨r14, h, Wk.nrmTo [4, 65536, 65537, 65538, 65544, 65545, 65546, 65547, 131076, 131077] [] rfl rfl⟩
          · intro x12 h
            try dsimp only at h ⊢
            unfold treepatch_Find_j5 at h
            refine ⟨_, rfl, ?_⟩
            refine Sq.wEnd (Nat.le_of_ble_eq_true rfl) ?_
            refine W.lss rfl rfl ?_
            refine W.nil ?_
            refine Ev.cond rfl (fun c7 => ?_) (fun c7 => ?_)
            · replace h := iteT h c7
              refine W.reg hm ?_
              refine W.mv rfl ?_
              obtain ⟨x13, k8, h⟩ := obind h
              refine W.addG rfl rfl k8 ?_
              refine W.mv rfl ?_
              refine W.nil ?_
              exact ⟨(m1, x13, x9), h, Nat.lt_succ_self _, Wk.nrmTo [0, 1, 2, 8, 9, 10, 65540, 65541] [] rfl rfl⟩
            · replace h := iteF h c7
              refine W.reg hm ?_
              refine W.mv rfl ?_
              refine W.mv rfl ?_
              refine W.nil ?_
              exact ⟨(m1, x8, (IntKind.wrap .i64 (kshr .u64 (IntKind.wrap .u64 x10) 1))), h, Nat.lt_succ_self _, Wk.nrmTo [0, 1, 2, 8, 9, 10, 65540, 65541] [] rfl rfl⟩
        · replace h := iteF h c4
          refine Ev.exit ?_
          exact ⟨x8, h, Wk.nrmTo [0, 1, 2, 8, 9, 65540, 65541] [] rfl rfl⟩
    · intro x3 h
      try dsimp only at h ⊢
      unfold treepatch_Find_j2 at h
      refine Ev.seqJ (γ := Bool) (fun v => ⟨[(6, .int .i64 x3), (7, .bool v), (65540, .int .i64 0), (65541, .bool false)], [], 2⟩) (fun v => treepatch_Find_j3 n x3 v = some r) ?_ ?_
      · refine Ev.regS rfl ?_
        refine Sq.w 11 (Nat.le_of_ble_eq_true rfl) ?_
        refine W.mv rfl ?_
        refine W.mv rfl ?_
        refine W.mv rfl ?_
        refine W.lss rfl rfl ?_
        refine W.mv rfl ?_
        refine W.split 39 rfl (fun c1 => ?_) (fun c1 => ?_)
        · replace h := iteT h c1
          refine W.guardT rfl c1 ?_
          refine W.mv rfl ?_
          refine W.guardT rfl c1 ?_
          refine W.mv rfl ?_
          refine W.guardT rfl c1 ?_
          refine W.mv rfl ?_
          refine W.guardT rfl c1 ?_
          obtain ⟨e5, k2, h⟩ := obind h
          refine W.idxL (c := SPathLines.cells) rfl rfl k2 ?_
          refine W.guardT rfl c1 ?_
          refine W.load rfl rfl ?_
          refine W.guardT rfl c1 ?_
          refine W.mv rfl ?_
          refine W.nil ?_
          refine Sq.callvG (f := 79) rfl Tryd.b_treepatch_Find_1 Tryd.c_treepatch_Find_1 (lookT rfl c1) ⟨_, _, _, rfl, Nat.le_of_ble_eq_true rfl, ?_⟩
          unfold Tryd.l_treepatch_Find_1
          refine Ev.retJ (γ := Int) (fun v => ⟨[(4, .int .i64 v), (65571, .int .i64 x3), (65575, .bool (decide (x3 < (a0.length : Int)))), (131076, .int .i64 0), (131077, .bool false)], [], 2⟩) (fun v => treepatch_Find_j4 n x3 v = some r) ?_ ?_
          · refine Ev.seq ?_
            refine W.reg hm ?_
            refine W.box (dt := true) (cs := [.str e5.Path, .list 1 (List.map cS e5.Lines)]) rfl rfl rfl rfl rfl rfl ?_
            refine W.mv rfl ?_
            refine W.nil ?_
            refine Ev.seq ?_
            refine W.reg hm ?_
            refine W.fieldAddrO rfl rfl ?_
            refine W.loadO (p := .str e5.Path) rfl rfl rfl rfl ?_
            refine W.mv rfl ?_
            obtain ⟨r7, k3, h⟩ := obind h
            refine W.call (strings_Compare_spec n e5.Path a1 r7 k3) rfl rfl (Les.refl _) rfl (.inl rfl) rfl ?_
            refine W.mv rfl ?_
            refine W.nil ?_
            refine Ev.ret ?_
            exact ⟨r7, h, Wk.nrmTo [4, 65571, 65575, 131076, 131077] [] rfl rfl⟩
          · intro x6 h
            try dsimp only at h ⊢
            unfold treepatch_Find_j4 at h
            refine ⟨_, rfl, ?_⟩
            refine Sq.wEnd (Nat.le_of_ble_eq_true rfl) ?_
            refine W.guardT rfl c1 ?_
            refine W.eql rfl rfl ?_
            refine W.pickT rfl rfl rfl c1 ?_
            refine W.mv rfl ?_
            refine W.mv rfl ?_
            refine W.nil ?_
            exact ⟨(decide (x6 = 0)), h, Wk.nrmTo [6, 7, 65540, 65541] [] rfl rfl⟩
        · replace h := iteF h c1
          refine W.guardF1 rfl c1 ?_
          refine W.guardF1 rfl c1 ?_
          refine W.guardF1 rfl c1 ?_
          refine W.guardF1 rfl c1 ?_
          refine W.guardF1 rfl c1 ?_
          refine W.guardF1 rfl c1 ?_
          refine W.nil ?_
          refine Sq.off rfl (.inl (lookT rfl c1)) ?_
          refine Sq.wEnd (Nat.le_of_ble_eq_true rfl) ?_
          refine W.guardF1 rfl c1 ?_
          refine W.pickN rfl rfl rfl c1 ?_
          refine W.mv rfl ?_
          refine W.mv rfl ?_
          refine W.nil ?_
          exact ⟨false, h, Wk.nrmTo [6, 7, 65540, 65541] [] rfl rfl⟩
      · intro x4 h
        try dsimp only at h ⊢
        unfold treepatch_Find_j3 at h
        refine Ev.ret ?_
        exact ⟨(x3, x4), h, Wk.nrmTo [6, 7, 65540, 65541] [] rfl rfl⟩
  · intro ⟨x1, x2⟩ h
    try dsimp only at h ⊢
    unfold treepatch_Find_j1 at h
    refine ⟨_, rfl, ?_⟩
    refine Sq.wEnd (Nat.le_of_ble_eq_true rfl) ?_
    refine W.extract rfl rfl ?_
    refine W.extract rfl rfl ?_
    refine W.mv rfl ?_
    refine W.mv rfl ?_
    refine W.nil ?_
    refine Ev.ret ?_
    injection h with h; subst h
    exact ⟨_, rfl, .refl _⟩

theorem sandbox_unique_spec (n : Nat) (a0 : List (List UInt8)) (r : (List (List UInt8))) (h : sandbox_unique n a0 = some r) : PMut Tryd.prog 60 [.list 1 (List.map cS a0)] [] (.own 70000 0) [(70000, ⟨0, 9, 1, List.map cS r, true, false, false⟩)] := by
  unfold sandbox_unique at h
  refine specMut_of Tryd.c_sandbox_unique (by simp) (by simp) ?_
  unfold Tryd.l_sandbox_unique
  refine Ev.seq ?_
  refine W.reg hm ?_
  refine W.mv rfl ?_
  refine W.nil ?_
  refine Ev.seq ?_
  refine W.reg hm ?_
  refine W.mv rfl ?_
  refine W.nil ?_
  refine Ev.seq ?_
  refine Ev.seq ?_
  refine W.reg hm ?_
  refine W.mv rfl ?_
  refine W.lenL (c := cS) rfl ?_
  refine W.mv rfl ?_
  refine W.nil ?_
  refine Ev.block ?_
  refine Ev.loopW (β := Nat × (List (List UInt8)) × Int) (fun v => ⟨[(3, .own 10100 0), (6, .list 1 (List.map cS a0)), (7, .int .i64 (a0.length : Int)), (8, .int .i64 v.2.2)], [(10100, ⟨0, 9, 1, List.map cS v.2.1, true, false, false⟩)], 2⟩) (fun v => sandbox_unique_l1 n a0 v.1 v.2.1 v.2.2 = some r) (fun v => v.1) (n, ([] : List (List UInt8)), 0) ((Wk.ownNil 3 30100 9 1 rfl rfl true).trans (Wk.nrmTo [3, 6, 7, 8] [(30100, 10100)] rfl rfl)) h ?_
  intro ⟨m1, w1, x2⟩ h
  try dsimp only at h ⊢
  cases m1 with
  | zero => rw [sandbox_unique_l1] at h; cases h
  | succ m1 =>
    rw [sandbox_unique_l1] at h
    refine Ev.seq ?_
    refine W.reg hm ?_
    refine W.lss rfl rfl ?_
    refine W.nil ?_
    refine Ev.seq ?_
    refine Ev.cond rfl (fun c1 => ?_) (fun c1 => ?_)
    · replace h := iteT h c1
      refine Ev.skip ?_
      refine Ev.seqJ (γ := List (List UInt8)) (fun v => ⟨[(3, .own 10200 0), (6, .list 1 (List.map cS a0)), (7, .int .i64 (a0.length : Int)), (8, .int .i64 x2)], [(10200, ⟨0, 9, 1, List.map cS v, true, false, false⟩)], 2⟩) (fun v => sandbox_unique_j1 n x2 (sandbox_unique_l1 n a0 m1) v = some r) ?_ ?_
      · refine Ev.block ?_
        refine Ev.seq ?_
        refine W.reg hm ?_
        obtain ⟨e5, k3, h⟩ := obind h
        refine W.idxL (c := cS) rfl rfl k3 ?_
        refine W.load rfl rfl ?_
        refine W.mv rfl ?_
        refine W.nil ?_
        refine Ev.seq ?_
        refine W.reg hm ?_
        refine W.mv rfl ?_
        refine W.mv rfl ?_
        obtain ⟨r6, k4, h⟩ := obind h
        refine W.call (slices_Contains_string_spec n w1 e5 r6 k4) rfl rfl (Les.refl _) rfl (.inr rfl) rfl ?_
        refine W.not rfl ?_
        refine W.nil ?_
        refine Ev.cond rfl (fun c5 => ?_) (fun c5 => ?_)
        · replace h := iteT h c5
          refine W.reg hm ?_
          refine W.mv rfl ?_
          refine W.mv rfl ?_
          refine W.mkSlice (dt := true) (es := [[.str e5]]) rfl rfl rfl rfl rfl rfl ?_
          obtain ⟨w7, k6, h⟩ := obind h
          refine W.appR true (l := w1) (c := cS) (ys := ([e5] : List (List UInt8))) rfl rfl rfl rfl rfl rfl rfl rfl k6 rfl (by simp) ?_
          refine W.mv rfl ?_
          refine W.nil ?_
          exact ⟨w7, h, Wk.nrmTo [3, 6, 7, 8] [(19, 10200)] rfl rfl⟩
        · replace h := iteF h c5
          refine Ev.skip ?_
          exact ⟨w1, h, Wk.nrmTo [3, 6, 7, 8] [(10100, 10200)] rfl rfl⟩
      · intro w3 h
        try dsimp only at h ⊢
        unfold sandbox_unique_j1 at h
        refine W.reg hm ?_
        obtain ⟨x4, k2, h⟩ := obind h
        refine W.addG rfl rfl k2 ?_
        refine W.mv rfl ?_
        refine W.nil ?_
        exact ⟨(m1, w3, x4), h, Nat.lt_succ_self _, Wk.nrmTo [3, 6, 7, 8] [(10200, 10100)] rfl rfl⟩
    · replace h := iteF h c1
      refine Ev.exit ?_
      refine Ev.seq ?_
      refine W.reg hm ?_
      refine W.mv rfl ?_
      refine W.mv rfl ?_
      refine W.nil ?_
      refine Ev.ret ?_
      injection h with h; subst h
      exact ⟨_, _, Wk.nrmTo [2] [(10100, 70000)] rfl rfl, rfl, rfl, rfl, .refl _, fun nm h => by simp [PW.look] at h⟩

set_option maxHeartbeats 4000000 in
theorem sandbox_Run_spec (n : Nat) (a0 : SInputsOpsOutput) (a1 : SFiles) (r : ((List (List UInt8)) × SCodeIndex)) (h : sandbox_Run n a0 a1 = some r) : PSpec Tryd.prog 20 [.agg (SInputsOpsOutput.cells a0), .agg (SFiles.cells a1)] (.tup [.list 1 (List.map cS r.1), .agg (SCodeIndex.cells r.2)]) := by
  unfold sandbox_Run at h
  refine spec_of Tryd.c_sandbox_Run (by simp) ?_
  unfold Tryd.l_sandbox_Run
  refine Ev.seq ?_
  refine W.reg hm ?_
  refine W.box (dt := true) (cs := [.list 1 (List.map cS a0.Inputs), .list 2 (List.map SKindText.cells a0.Ops), .str a0.Output]) rfl rfl rfl rfl rfl rfl ?_
  refine W.box (dt := true) (cs := [.list 2 (List.map SPathLines.cells a1.Files)]) rfl rfl rfl rfl rfl rfl ?_
  refine W.mv rfl ?_
  refine W.alloc (dt := true) rfl rfl rfl ?_
  refine W.nil ?_
  refine Ev.seq ?_
  refine Ev.seq ?_
  refine W.reg hm ?_
  refine W.loadO (p := .agg [.list 1 (List.map cS a0.Inputs), .list 2 (List.map SKindText.cells a0.Ops), .str a0.Output]) rfl rfl rfl rfl ?_
  refine W.loadO (p := .agg [.list 2 (List.map SPathLines.cells a1.Files)]) rfl rfl rfl rfl ?_
  obtain ⟨r1, k1, h⟩ := obind h
  refine W.call (sandbox_Arguments_spec n a0 a1 r1 k1) rfl rfl (Les.refl _) rfl (.inl rfl) rfl ?_
  refine W.alloc (dt := true) rfl rfl rfl ?_
  refine W.store (es' := [[.int .i64 r1.Code, .int .i64 r1.Index]]) (dt := true) rfl rfl rfl rfl rfl (Nat.le_of_ble_eq_true rfl) rfl rfl rfl rfl ?_
  refine W.nil ?_
  refine Ev.seq ?_
  refine W.reg hm ?_
  refine W.loadO (p := .agg [.int .i64 r1.Code, .int .i64 r1.Index]) rfl rfl rfl rfl ?_
  refine W.build (cs := [.int .i64 0, .int .i64 0]) rfl rfl rfl ?_
  refine W.eqs rfl rfl rfl ?_
  refine W.nil ?_
  refine Ev.cond rfl (fun c2 => ?_) (fun c2 => ?_)
  · replace h := iteT h c2
    refine Ev.seq ?_
    refine W.regD hm ?_
    refine W.loadO (p := .agg [.int .i64 r1.Code, .int .i64 r1.Index]) rfl rfl rfl rfl ?_
    refine W.mv rfl ?_
    refine W.store (es' := [[.int .i64 r1.Code, .int .i64 r1.Index]]) (dt := true) rfl rfl rfl rfl rfl (Nat.le_of_ble_eq_true rfl) rfl rfl rfl rfl ?_
    refine W.nil ⟨rfl, ?_⟩
    refine Ev.ret ?_
    injection h with h; subst h
    exact ⟨_, rfl, Le.tups (.cons (.nils 1) (.cons (.refl _) (.nil)))⟩
  · replace h := iteF h c2
    refine Ev.skip ?_
    refine Ev.seq ?_
    refine W.reg hm ?_
    refine W.mv rfl ?_
    refine W.nil ?_
    refine Ev.seq ?_
    refine Ev.seq ?_
    refine W.reg hm ?_
    refine W.fieldAddrO rfl rfl ?_
    refine W.loadO (p := .list 2 (List.map SKindText.cells a0.Ops)) rfl rfl rfl rfl ?_
    refine W.lenL (c := SKindText.cells) rfl ?_
    refine W.mv rfl ?_
    refine W.nil ?_
    refine Ev.block ?_
    refine Ev.loopW (β := Nat × (List (List UInt8)) × Int) (fun v => ⟨[(2, .pown 10100 0 0 0), (3, .pown 10101 0 0 0), (5, .pown 10102 0 0 0), (7, .own 10103 0), (20, .list 2 (List.map SKindText.cells a0.Ops)), (21, .int .i64 (a0.Ops.length : Int)), (22, .int .i64 v.2.2)], [(10100, ⟨0, 25, 3, [[.list 1 (List.map cS a0.Inputs), .list 2 (List.map SKindText.cells a0.Ops), .str a0.Output]], true, false, false⟩), (10101, ⟨0, 28, 1, [[.list 2 (List.map SPathLines.cells a1.Files)]], true, false, false⟩), (10102, ⟨0, 30, 2, [[.int .i64 0, .int .i64 0]], true, false, false⟩), (10103, ⟨0, 9, 1, List.map cS v.2.1, true, false, false⟩)], 2⟩) (fun v => sandbox_Run_l1 n a0 a1 v.1 v.2.1 v.2.2 = some r) (fun v => v.1) (n, ([] : List (List UInt8)), 0) ((Wk.ownNil 7 30103 9 1 rfl rfl true).trans (Wk.nrmTo [2, 3, 5, 7, 20, 21, 22] [(2, 10100), (3, 10101), (5, 10102), (30103, 10103)] rfl rfl)) h ?_
    intro ⟨m1, w2, x3⟩ h
    try dsimp only at h ⊢
    cases m1 with
    | zero => rw [sandbox_Run_l1] at h; cases h
    | succ m1 =>
      rw [sandbox_Run_l1] at h
      refine Ev.seq ?_
      refine W.reg hm ?_
      refine W.lss rfl rfl ?_
      refine W.nil ?_
      refine Ev.seq ?_
      refine Ev.cond rfl (fun c3 => ?_) (fun c3 => ?_)
      · replace h := iteT h c3
        refine Ev.skip ?_
        refine Ev.seq ?_
        refine Ev.block ?_
        refine Ev.seq ?_
        refine W.reg hm ?_
        refine W.mv rfl ?_
        obtain ⟨e4, k4, h⟩ := obind h
        refine W.idxL (c := SKindText.cells) rfl rfl k4 ?_
        refine W.load rfl rfl ?_
        refine W.alloc (dt := true) rfl rfl rfl ?_
        refine W.mv rfl ?_
        refine W.store (es' := [[.int .i64 e4.Kind, .str e4.Text]]) (dt := true) rfl rfl rfl rfl rfl (Nat.le_of_ble_eq_true rfl) rfl rfl rfl rfl ?_
        refine W.nil ?_
        refine Ev.seq ?_
        refine Ev.regS rfl ?_
        refine Sq.w 4 (Nat.le_of_ble_eq_true rfl) ?_
        refine W.loadO (p := .agg [.list 1 (List.map cS a0.Inputs), .list 2 (List.map SKindText.cells a0.Ops), .str a0.Output]) rfl rfl rfl rfl ?_
        refine W.loadO (p := .agg [.int .i64 e4.Kind, .str e4.Text]) rfl rfl rfl rfl ?_
        refine W.loadO (p := .agg [.list 2 (List.map SPathLines.cells a1.Files)]) rfl rfl rfl rfl ?_
        refine W.mv rfl ?_
        refine W.nil ?_
        refine Sq.weak (st' := ⟨[(2, .pown 10100 0 0 0), (3, .pown 10101 0 0 0), (5, .pown 10102 0 0 0), (8, .int .i64 x3), (20, .list 2 (List.map SKindText.cells a0.Ops)), (21, .int .i64 (a0.Ops.length : Int)), (22, .int .i64 x3), (28, .agg [.list 1 (List.map cS a0.Inputs), .list 2 (List.map SKindText.cells a0.Ops), .str a0.Output]), (29, .agg [.int .i64 e4.Kind, .str e4.Text]), (30, .agg [.list 2 (List.map SPathLines.cells a1.Files)]), (31, .own 10103 0)], [(10100, ⟨0, 25, 3, [[.list 1 (List.map cS a0.Inputs), .list 2 (List.map SKindText.cells a0.Ops), .str a0.Output]], true, false, false⟩), (10101, ⟨0, 28, 1, [[.list 2 (List.map SPathLines.cells a1.Files)]], true, false, false⟩), (10102, ⟨0, 30, 2, [[.int .i64 0, .int .i64 0]], true, false, false⟩), (10103, ⟨0, 9, 1, List.map cS w2, true, false, false⟩)], 2⟩) ?_ (Wk.nrmTo [2, 3, 5, 8, 20, 21, 22, 28, 29, 30, 31] [(10100, 10100), (10101, 10101), (10102, 10102), (10103, 10103)] rfl rfl)
        refine Sq.call rfl Tryd.c_sandbox_step ⟨_, rfl, Nat.le_of_ble_eq_true rfl, ?_⟩
        unfold Tryd.l_sandbox_step
        refine Ev.retJ (γ := (List (List UInt8)) × Int) (fun v => ⟨[(8, .own 10200 0), (9, .int .i64 v.2), (65538, .pown 10201 0 0 0), (65539, .pown 10202 0 0 0), (65541, .pown 10203 0 0 0), (65544, .int .i64 x3), (65556, .list 2 (List.map SKindText.cells a0.Ops)), (65557, .int .i64 (a0.Ops.length : Int)), (65558, .int .i64 x3)], [(10200, ⟨0, 9, 1, List.map cS v.1, true, false, false⟩), (10201, ⟨0, 25, 3, [[.list 1 (List.map cS a0.Inputs), .list 2 (List.map SKindText.cells a0.Ops), .str a0.Output]], true, false, false⟩), (10202, ⟨0, 28, 1, [[.list 2 (List.map SPathLines.cells a1.Files)]], true, false, false⟩), (10203, ⟨0, 30, 2, [[.int .i64 0, .int .i64 0]], true, false, false⟩)], 2⟩) (fun v => sandbox_Run_j1 n x3 (sandbox_Run_l1 n a0 a1 m1) v.1 v.2 = some r) ?_ ?_
        · refine Ev.seq ?_
          refine W.reg hm ?_
          refine W.box (dt := true) (cs := [.list 1 (List.map cS a0.Inputs), .list 2 (List.map SKindText.cells a0.Ops), .str a0.Output]) rfl rfl rfl rfl rfl rfl ?_
          refine W.box (dt := true) (cs := [.int .i64 e4.Kind, .str e4.Text]) rfl rfl rfl rfl rfl rfl ?_
          refine W.box (dt := true) (cs := [.list 2 (List.map SPathLines.cells a1.Files)]) rfl rfl rfl rfl rfl rfl ?_
          refine W.box (dt := false) (cs := [.own 10103 0]) rfl rfl rfl rfl rfl rfl ?_
          refine W.mv rfl ?_
          refine W.mv rfl ?_
          refine W.nil ?_
          refine Ev.seq ?_
          refine W.reg hm ?_
          refine W.fieldAddrO rfl rfl ?_
          refine W.loadO (p := .list 2 (List.map SPathLines.cells a1.Files)) rfl rfl rfl rfl ?_
          refine W.fieldAddrO rfl rfl ?_
          refine W.loadO (p := .str e4.Text) rfl rfl rfl rfl ?_
          obtain ⟨r9, k8, h⟩ := obind h
          refine W.call (treepatch_Find_spec n a1.Files e4.Text r9 k8) rfl rfl (Les.refl _) rfl (.inl rfl) rfl ?_
          refine W.mv rfl ?_
          refine W.extract rfl rfl ?_
          refine W.extract rfl rfl ?_
          refine W.mv rfl ?_
          refine W.mv rfl ?_
          refine W.nil ?_
          refine Ev.seq ?_
          refine W.reg hm ?_
          refine W.mkfn rfl ?_
          refine W.mv rfl ?_
          refine W.nil ?_
          refine Ev.seq ?_
          refine Ev.seqJ (γ := Bool) (fun v => ⟨[(5, .pown 10300 0 0 0), (6, .pown 10301 0 0 0), (7, .pown 10302 0 0 0), (10, .int .i64 r9.1), (11, .bool r9.2), (12, .fn 58 [] [.pown 10302 0 0 0]), (37, .bool v), (65538, .pown 10304 0 0 0), (65539, .pown 10305 0 0 0), (65541, .pown 10306 0 0 0), (65544, .int .i64 x3), (65556, .list 2 (List.map SKindText.cells a0.Ops)), (65557, .int .i64 (a0.Ops.length : Int)), (65558, .int .i64 x3)], [(10300, ⟨0, 47, 2, [[.int .i64 e4.Kind, .str e4.Text]], true, false, false⟩), (10301, ⟨0, 28, 1, [[.list 2 (List.map SPathLines.cells a1.Files)]], true, false, false⟩), (10302, ⟨0, 22, 1, [[.own 10303 0]], false, false, false⟩), (10303, ⟨0, 9, 1, List.map cS w2, true, false, false⟩), (10304, ⟨0, 25, 3, [[.list 1 (List.map cS a0.Inputs), .list 2 (List.map SKindText.cells a0.Ops), .str a0.Output]], true, false, false⟩), (10305, ⟨0, 28, 1, [[.list 2 (List.map SPathLines.cells a1.Files)]], true, false, false⟩), (10306, ⟨0, 30, 2, [[.int .i64 0, .int .i64 0]], true, false, false⟩)], 2⟩) (fun v => sandbox_Run_j2 n a1 w2 x3 (sandbox_Run_l1 n a0 a1 m1) e4 r9 v = some r) ?_ ?_
          · refine W.reg hm ?_
            refine W.fieldAddrO rfl rfl ?_
            refine W.loadO (p := .int .i64 e4.Kind) rfl rfl rfl rfl ?_
            refine W.eql rfl rfl ?_
            refine W.mv rfl ?_
            refine W.split 25 rfl (fun c37 => ?_) (fun c37 => ?_)
            · replace h := iteT h c37
              refine W.guardF2 rfl c37 ?_
              refine W.guardF2 rfl c37 ?_
              refine W.guardF2 rfl c37 ?_
              refine W.pickT rfl rfl rfl c37 ?_
              refine W.mv rfl ?_
              refine W.guardT rfl rfl ?_
              refine W.fieldAddrO rfl rfl ?_
              refine W.guardT rfl rfl ?_
              refine W.loadO (p := .list 1 (List.map cS a0.Inputs)) rfl rfl rfl rfl ?_
              refine W.guardT rfl rfl ?_
              refine W.fieldAddrO rfl rfl ?_
              refine W.guardT rfl rfl ?_
              refine W.loadO (p := .str e4.Text) rfl rfl rfl rfl ?_
              refine W.guardT rfl rfl ?_
              obtain ⟨r39, k38, h⟩ := obind h
              refine W.call (slices_Contains_string_spec n a0.Inputs e4.Text r39 k38) rfl rfl (Les.refl _) rfl (.inl rfl) rfl ?_
              refine W.guardT rfl rfl ?_
              refine W.not rfl ?_
              refine W.pickT rfl rfl rfl rfl ?_
              refine W.nil ?_
              exact ⟨(!r39), h, Wk.nrmTo [5, 6, 7, 10, 11, 12, 37, 65538, 65539, 65541, 65544, 65556, 65557, 65558] [(5, 10300), (6, 10301), (7, 10302), (10103, 10303), (10100, 10304), (10101, 10305), (10102, 10306)] rfl rfl⟩
            · replace h := iteF h c37
              refine W.guardT rfl c37 ?_
              refine W.fieldAddrO rfl rfl ?_
              refine W.guardT rfl c37 ?_
              refine W.loadO (p := .int .i64 e4.Kind) rfl rfl rfl rfl ?_
              refine W.guardT rfl c37 ?_
              refine W.eql rfl rfl ?_
              refine W.pickN rfl rfl rfl c37 ?_
              refine W.mv rfl ?_
              refine W.split 30 rfl (fun c39 => ?_) (fun c39 => ?_)
              · replace h := iteT h c39
                refine W.guardT rfl c39 ?_
                refine W.fieldAddrO rfl rfl ?_
                refine W.guardT rfl c39 ?_
                refine W.loadO (p := .list 1 (List.map cS a0.Inputs)) rfl rfl rfl rfl ?_
                refine W.guardT rfl c39 ?_
                refine W.fieldAddrO rfl rfl ?_
                refine W.guardT rfl c39 ?_
                refine W.loadO (p := .str e4.Text) rfl rfl rfl rfl ?_
                refine W.guardT rfl c39 ?_
                obtain ⟨r40, k40, h⟩ := obind h
                refine W.call (slices_Contains_string_spec n a0.Inputs e4.Text r40 k40) rfl rfl (Les.refl _) rfl (.inl rfl) rfl ?_
                refine W.guardT rfl c39 ?_
                refine W.not rfl ?_
                refine W.pickT rfl rfl rfl c39 ?_
                refine W.nil ?_
                exact ⟨(!r40), h, Wk.nrmTo [5, 6, 7, 10, 11, 12, 37, 65538, 65539, 65541, 65544, 65556, 65557, 65558] [(5, 10300), (6, 10301), (7, 10302), (10103, 10303), (10100, 10304), (10101, 10305), (10102, 10306)] rfl rfl⟩
              · replace h := iteF h c39
                refine W.guardF1 rfl c39 ?_
                refine W.guardF1 rfl c39 ?_
                refine W.guardF1 rfl c39 ?_
                refine W.guardF1 rfl c39 ?_
                refine W.guardF1 rfl c39 ?_
                refine W.guardF1 rfl c39 ?_
                refine W.pickN rfl rfl rfl c39 ?_
                refine W.nil ?_
                exact ⟨false, h, Wk.nrmTo [5, 6, 7, 10, 11, 12, 37, 65538, 65539, 65541, 65544, 65556, 65557, 65558] [(5, 10300), (6, 10301), (7, 10302), (10103, 10303), (10100, 10304), (10101, 10305), (10102, 10306)] rfl rfl⟩
          · intro x10 h
            try dsimp only at h ⊢
            unfold sandbox_Run_j2 at h
            refine Ev.cond rfl (fun c9 => ?_) (fun c9 => ?_)
            · replace h := iteT h c9
              refine Ev.seq ?_
              refine W.reg hm ?_
              refine W.mv rfl ?_
              refine W.mv rfl ?_
              refine W.nil ?_
              refine Ev.ret ?_
              exact ⟨(([] : List (List UInt8)), 13), h, (Wk.ownNil 8 30200 9 1 rfl rfl true).trans (Wk.nrmTo [8, 9, 65538, 65539, 65541, 65544, 65556, 65557, 65558] [(30200, 10200), (10304, 10201), (10305, 10202), (10306, 10203)] rfl rfl)⟩
            · replace h := iteF h c9
              refine Ev.skip ?_
              refine Ev.seq ?_
              refine Ev.seq ?_
              refine W.reg hm ?_
              refine W.fieldAddrO rfl rfl ?_
              refine W.loadO (p := .int .i64 e4.Kind) rfl rfl rfl rfl ?_
              refine W.nil ?_
              refine Ev.block ?_
              refine Ev.seq ?_
              refine W.reg hm ?_
              refine W.eql rfl rfl ?_
              refine W.mv rfl ?_
              refine W.nil ?_
              refine Ev.cond rfl (fun c10 => ?_) (fun c10 => ?_)
              · replace h := iteT h c10
                refine Ev.seq ?_
                refine Ev.seq ?_
                refine W.reg hm ?_
                refine W.mv rfl ?_
                refine W.not rfl ?_
                refine W.nil ?_
                refine Ev.cond rfl (fun c11 => ?_) (fun c11 => ?_)
                · replace h := iteT h c11
                  refine Ev.seq ?_
                  refine W.reg hm ?_
                  refine W.mv rfl ?_
                  refine W.mv rfl ?_
                  refine W.nil ?_
                  refine Ev.ret ?_
                  exact ⟨(([] : List (List UInt8)), 6), h, (Wk.ownNil 8 30200 9 1 rfl rfl true).trans (Wk.nrmTo [8, 9, 65538, 65539, 65541, 65544, 65556, 65557, 65558] [(30200, 10200), (10304, 10201), (10305, 10202), (10306, 10203)] rfl rfl)⟩
                · replace h := iteF h c11
                  refine Ev.skip ?_
                  refine Ev.seq ?_
                  refine Ev.regS rfl ?_
                  refine Sq.w 7 (Nat.le_of_ble_eq_true rfl) ?_
                  refine W.mv rfl ?_
                  refine W.fieldAddrO rfl rfl ?_
                  refine W.loadO (p := .list 2 (List.map SPathLines.cells a1.Files)) rfl rfl rfl rfl ?_
                  refine W.mv rfl ?_
                  obtain ⟨e11, k12, h⟩ := obind h
                  refine W.idxL (c := SPathLines.cells) rfl rfl k12 ?_
                  refine W.fieldAddr rfl ?_
                  refine W.load rfl rfl ?_
                  refine W.nil ?_
                  refine Sq.callv (f := 58) rfl Tryd.b_sandbox_step_1 Tryd.c_sandbox_step_1 ⟨_, _, _, rfl, Nat.le_of_ble_eq_true rfl, ?_⟩
                  unfold Tryd.l_sandbox_step_1
                  refine Ev.retJ (γ := (List (List UInt8)) × Int) (fun v => ⟨[(3, .own 10400 0), (4, .int .i64 v.2), (131074, .pown 10401 0 0 0), (131075, .pown 10402 0 0 0), (131077, .pown 10403 0 0 0), (131080, .int .i64 x3), (131092, .list 2 (List.map SKindText.cells a0.Ops)), (131093, .int .i64 (a0.Ops.length : Int)), (131094, .int .i64 x3)], [(10400, ⟨0, 9, 1, List.map cS v.1, true, false, false⟩), (10401, ⟨0, 25, 3, [[.list 1 (List.map cS a0.Inputs), .list 2 (List.map SKindText.cells a0.Ops), .str a0.Output]], true, false, false⟩), (10402, ⟨0, 28, 1, [[.list 2 (List.map SPathLines.cells a1.Files)]], true, false, false⟩), (10403, ⟨0, 30, 2, [[.int .i64 0, .int .i64 0]], true, false, false⟩)], 2⟩) (fun v => sandbox_Run_j3 n x3 (sandbox_Run_l1 n a0 a1 m1) v.1 v.2 = some r) ?_ ?_
                  · refine Ev.seq ?_
                    refine W.reg hm ?_
                    refine W.mv rfl ?_
                    refine W.mv rfl ?_
                    refine W.nil ?_
                    refine Ev.seq ?_
                    refine Ev.seq ?_
                    refine W.reg hm ?_
                    refine W.loadO (p := .own 10303 0) rfl rfl rfl rfl ?_
                    refine W.lenO (l := w2) (c := cS) rfl rfl rfl ?_
                    refine W.mv rfl ?_
                    refine W.lenL (c := cS) rfl ?_
                    obtain ⟨x14, k13, h⟩ := obind h
                    refine W.addG rfl rfl k13 ?_
                    refine W.gtr rfl rfl ?_
                    refine W.nil ?_
                    refine Ev.cond rfl (fun c14 => ?_) (fun c14 => ?_)
                    · replace h := iteT h c14
                      refine Ev.seq ?_
                      refine W.reg hm ?_
                      refine W.mv rfl ?_
                      refine W.mv rfl ?_
                      refine W.nil ?_
                      refine Ev.ret ?_
                      exact ⟨(([] : List (List UInt8)), 10), h, (Wk.ownNil 3 30400 9 1 rfl rfl true).trans (Wk.nrmTo [3, 4, 131074, 131075, 131077, 131080, 131092, 131093, 131094] [(30400, 10400), (10304, 10401), (10305, 10402), (10306, 10403)] rfl rfl)⟩
                    · replace h := iteF h c14
                      refine Ev.skip ?_
                      refine Ev.seq ?_
                      refine W.reg hm ?_
                      refine W.loadO (p := .own 10303 0) rfl rfl rfl rfl ?_
                      refine W.mv rfl ?_
                      obtain ⟨w15, k15, h⟩ := obind h
                      refine W.appR true (l := w2) (c := cS) (ys := e11.Lines) rfl rfl rfl rfl rfl rfl rfl rfl k15 rfl (by simp) ?_
                      refine W.mv rfl ?_
                      refine W.mv rfl ?_
                      refine W.nil ?_
                      refine Ev.ret ?_
                      exact ⟨(w15, 0), h, Wk.nrmTo [3, 4, 131074, 131075, 131077, 131080, 131092, 131093, 131094] [(13, 10400), (10304, 10401), (10305, 10402), (10306, 10403)] rfl rfl⟩
                  · intro ⟨w12, x13⟩ h
                    try dsimp only at h ⊢
                    unfold sandbox_Run_j3 at h
                    refine ⟨_, rfl, ?_⟩
                    refine Sq.wEnd (Nat.le_of_ble_eq_true rfl) ?_
                    refine W.extract rfl rfl ?_
                    refine W.extract rfl rfl ?_
                    refine W.mv rfl ?_
                    refine W.mv rfl ?_
                    refine W.nil ?_
                    refine Ev.ret ?_
                    exact ⟨(w12, x13), h, Wk.nrmTo [8, 9, 65538, 65539, 65541, 65544, 65556, 65557, 65558] [(10400, 10200), (10401, 10201), (10402, 10202), (10403, 10203)] rfl rfl⟩
              · replace h := iteF h c10
                refine Ev.seq ?_
                refine W.reg hm ?_
                refine W.eql rfl rfl ?_
                refine W.mv rfl ?_
                refine W.nil ?_
                refine Ev.cond rfl (fun c16 => ?_) (fun c16 => ?_)
                · replace h := iteT h c16
                  refine Ev.seq ?_
                  refine Ev.seq ?_
                  refine W.reg hm ?_
                  refine W.mv rfl ?_
                  refine W.nil ?_
                  refine Ev.cond rfl (fun c17 => ?_) (fun c17 => ?_)
                  · replace h := iteT h c17
                    refine Ev.seq ?_
                    refine Ev.regS rfl ?_
                    refine Sq.w 2 (Nat.le_of_ble_eq_true rfl) ?_
                    refine W.mv rfl ?_
                    refine W.mkSlice (dt := true) (es := [[.str ([121, 101, 115] : List UInt8)]]) rfl rfl rfl rfl rfl rfl ?_
                    refine W.nil ?_
                    refine Sq.weak (st' := ⟨[(57, .fn 58 [] [.pown 10300 0 0 0]), (58, .own 10302 0), (65538, .pown 10303 0 0 0), (65539, .pown 10304 0 0 0), (65541, .pown 10305 0 0 0), (65544, .int .i64 x3), (65556, .list 2 (List.map SKindText.cells a0.Ops)), (65557, .int .i64 (a0.Ops.length : Int)), (65558, .int .i64 x3)], [(10300, ⟨0, 22, 1, [[.own 10301 0]], false, false, false⟩), (10301, ⟨0, 9, 1, List.map cS w2, true, false, false⟩), (10302, ⟨0, 9, 1, List.map cS ([([121, 101, 115] : List UInt8)] : List (List UInt8)), true, false, false⟩), (10303, ⟨0, 25, 3, [[.list 1 (List.map cS a0.Inputs), .list 2 (List.map SKindText.cells a0.Ops), .str a0.Output]], true, false, false⟩), (10304, ⟨0, 28, 1, [[.list 2 (List.map SPathLines.cells a1.Files)]], true, false, false⟩), (10305, ⟨0, 30, 2, [[.int .i64 0, .int .i64 0]], true, false, false⟩)], 2⟩) ?_ (Wk.nrmTo [57, 58, 65538, 65539, 65541, 65544, 65556, 65557, 65558] [(10302, 10300), (10303, 10301), (58, 10302), (10304, 10303), (10305, 10304), (10306, 10305)] rfl rfl)
                    refine Sq.callv (f := 58) rfl Tryd.b_sandbox_step_1 Tryd.c_sandbox_step_1 ⟨_, _, _, rfl, Nat.le_of_ble_eq_true rfl, ?_⟩
                    unfold Tryd.l_sandbox_step_1
                    refine Ev.retJ (γ := (List (List UInt8)) × Int) (fun v => ⟨[(3, .own 10400 0), (4, .int .i64 v.2), (131074, .pown 10401 0 0 0), (131075, .pown 10402 0 0 0), (131077, .pown 10403 0 0 0), (131080, .int .i64 x3), (131092, .list 2 (List.map SKindText.cells a0.Ops)), (131093, .int .i64 (a0.Ops.length : Int)), (131094, .int .i64 x3)], [(10400, ⟨0, 9, 1, List.map cS v.1, true, false, false⟩), (10401, ⟨0, 25, 3, [[.list 1 (List.map cS a0.Inputs), .list 2 (List.map SKindText.cells a0.Ops), .str a0.Output]], true, false, false⟩), (10402, ⟨0, 28, 1, [[.list 2 (List.map SPathLines.cells a1.Files)]], true, false, false⟩), (10403, ⟨0, 30, 2, [[.int .i64 0, .int .i64 0]], true, false, false⟩)], 2⟩) (fun v => sandbox_Run_j4 n x3 (sandbox_Run_l1 n a0 a1 m1) v.1 v.2 = some r) ?_ ?_
                    · refine Ev.seq ?_
                      refine W.reg hm ?_
                      refine W.mv rfl ?_
                      refine W.mv rfl ?_
                      refine W.nil ?_
                      refine Ev.seq ?_
                      refine Ev.seq ?_
                      refine W.reg hm ?_
                      refine W.loadO (p := .own 10301 0) rfl rfl rfl rfl ?_
                      refine W.lenO (l := w2) (c := cS) rfl rfl rfl ?_
                      refine W.mv rfl ?_
                      refine W.lenO (l := ([([121, 101, 115] : List UInt8)] : List (List UInt8))) (c := cS) rfl rfl rfl ?_
                      obtain ⟨x18, k18, h⟩ := obind h
                      refine W.addG rfl rfl k18 ?_
                      refine W.gtr rfl rfl ?_
                      refine W.nil ?_
                      refine Ev.cond rfl (fun c19 => ?_) (fun c19 => ?_)
                      · replace h := iteT h c19
                        refine Ev.seq ?_
                        refine W.reg hm ?_
                        refine W.mv rfl ?_
                        refine W.mv rfl ?_
                        refine W.nil ?_
                        refine Ev.ret ?_
                        exact ⟨(([] : List (List UInt8)), 10), h, (Wk.ownNil 3 30400 9 1 rfl rfl true).trans (Wk.nrmTo [3, 4, 131074, 131075, 131077, 131080, 131092, 131093, 131094] [(30400, 10400), (10303, 10401), (10304, 10402), (10305, 10403)] rfl rfl)⟩
                      · replace h := iteF h c19
                        refine Ev.skip ?_
                        refine Ev.seq ?_
                        refine W.reg hm ?_
                        refine W.loadO (p := .own 10301 0) rfl rfl rfl rfl ?_
                        refine W.mv rfl ?_
                        obtain ⟨w19, k20, h⟩ := obind h
                        refine W.appR true (l := w2) (c := cS) (ys := ([([121, 101, 115] : List UInt8)] : List (List UInt8))) rfl rfl rfl rfl rfl rfl rfl rfl k20 rfl (by simp) ?_
                        refine W.mv rfl ?_
                        refine W.mv rfl ?_
                        refine W.nil ?_
                        refine Ev.ret ?_
                        exact ⟨(w19, 0), h, Wk.nrmTo [3, 4, 131074, 131075, 131077, 131080, 131092, 131093, 131094] [(13, 10400), (10303, 10401), (10304, 10402), (10305, 10403)] rfl rfl⟩
                    · intro ⟨w16, x17⟩ h
                      try dsimp only at h ⊢
                      unfold sandbox_Run_j4 at h
                      refine ⟨_, rfl, ?_⟩
                      refine Sq.wEnd (Nat.le_of_ble_eq_true rfl) ?_
                      refine W.extract rfl rfl ?_
                      refine W.extract rfl rfl ?_
                      refine W.mv rfl ?_
                      refine W.mv rfl ?_
                      refine W.nil ?_
                      refine Ev.ret ?_
                      exact ⟨(w16, x17), h, Wk.nrmTo [8, 9, 65538, 65539, 65541, 65544, 65556, 65557, 65558] [(10400, 10200), (10401, 10201), (10402, 10202), (10403, 10203)] rfl rfl⟩
                  · replace h := iteF h c17
                    refine Ev.skip ?_
                    refine Ev.seq ?_
                    refine Ev.regS rfl ?_
                    refine Sq.w 2 (Nat.le_of_ble_eq_true rfl) ?_
                    refine W.mv rfl ?_
                    refine W.mkSlice (dt := true) (es := [[.str ([110, 111] : List UInt8)]]) rfl rfl rfl rfl rfl rfl ?_
                    refine W.nil ?_
                    refine Sq.weak (st' := ⟨[(62, .fn 58 [] [.pown 10300 0 0 0]), (63, .own 10302 0), (65538, .pown 10303 0 0 0), (65539, .pown 10304 0 0 0), (65541, .pown 10305 0 0 0), (65544, .int .i64 x3), (65556, .list 2 (List.map SKindText.cells a0.Ops)), (65557, .int .i64 (a0.Ops.length : Int)), (65558, .int .i64 x3)], [(10300, ⟨0, 22, 1, [[.own 10301 0]], false, false, false⟩), (10301, ⟨0, 9, 1, List.map cS w2, true, false, false⟩), (10302, ⟨0, 9, 1, List.map cS ([([110, 111] : List UInt8)] : List (List UInt8)), true, false, false⟩), (10303, ⟨0, 25, 3, [[.list 1 (List.map cS a0.Inputs), .list 2 (List.map SKindText.cells a0.Ops), .str a0.Output]], true, false, false⟩), (10304, ⟨0, 28, 1, [[.list 2 (List.map SPathLines.cells a1.Files)]], true, false, false⟩), (10305, ⟨0, 30, 2, [[.int .i64 0, .int .i64 0]], true, false, false⟩)], 2⟩) ?_ (Wk.nrmTo [62, 63, 65538, 65539, 65541, 65544, 65556, 65557, 65558] [(10302, 10300), (10303, 10301), (63, 10302), (10304, 10303), (10305, 10304), (10306, 10305)] rfl rfl)
                    refine Sq.callv (f := 58) rfl Tryd.b_sandbox_step_1 Tryd.c_sandbox_step_1 ⟨_, _, _, rfl, Nat.le_of_ble_eq_true rfl, ?_⟩
                    unfold Tryd.l_sandbox_step_1
                    refine Ev.retJ (γ := (List (List UInt8)) × Int) (fun v => ⟨[(3, .own 10400 0), (4, .int .i64 v.2), (131074, .pown 10401 0 0 0), (131075, .pown 10402 0 0 0), (131077, .pown 10403 0 0 0), (131080, .int .i64 x3), (131092, .list 2 (List.map SKindText.cells a0.Ops)), (131093, .int .i64 (a0.Ops.length : Int)), (131094, .int .i64 x3)], [(10400, ⟨0, 9, 1, List.map cS v.1, true, false, false⟩), (10401, ⟨0, 25, 3, [[.list 1 (List.map cS a0.Inputs), .list 2 (List.map SKindText.cells a0.Ops), .str a0.Output]], true, false, false⟩), (10402, ⟨0, 28, 1, [[.list 2 (List.map SPathLines.cells a1.Files)]], true, false, false⟩), (10403, ⟨0, 30, 2, [[.int .i64 0, .int .i64 0]], true, false, false⟩)], 2⟩) (fun v => sandbox_Run_j5 n x3 (sandbox_Run_l1 n a0 a1 m1) v.1 v.2 = some r) ?_ ?_
                    · refine Ev.seq ?_
                      refine W.reg hm ?_
                      refine W.mv rfl ?_
                      refine W.mv rfl ?_
                      refine W.nil ?_
                      refine Ev.seq ?_
                      refine Ev.seq ?_
                      refine W.reg hm ?_
                      refine W.loadO (p := .own 10301 0) rfl rfl rfl rfl ?_
                      refine W.lenO (l := w2) (c := cS) rfl rfl rfl ?_
                      refine W.mv rfl ?_
                      refine W.lenO (l := ([([110, 111] : List UInt8)] : List (List UInt8))) (c := cS) rfl rfl rfl ?_
                      obtain ⟨x22, k21, h⟩ := obind h
                      refine W.addG rfl rfl k21 ?_
                      refine W.gtr rfl rfl ?_
                      refine W.nil ?_
                      refine Ev.cond rfl (fun c22 => ?_) (fun c22 => ?_)
                      · replace h := iteT h c22
                        refine Ev.seq ?_
                        refine W.reg hm ?_
                        refine W.mv rfl ?_
                        refine W.mv rfl ?_
                        refine W.nil ?_
                        refine Ev.ret ?_
                        exact ⟨(([] : List (List UInt8)), 10), h, (Wk.ownNil 3 30400 9 1 rfl rfl true).trans (Wk.nrmTo [3, 4, 131074, 131075, 131077, 131080, 131092, 131093, 131094] [(30400, 10400), (10303, 10401), (10304, 10402), (10305, 10403)] rfl rfl)⟩
                      · replace h := iteF h c22
                        refine Ev.skip ?_
                        refine Ev.seq ?_
                        refine W.reg hm ?_
                        refine W.loadO (p := .own 10301 0) rfl rfl rfl rfl ?_
                        refine W.mv rfl ?_
                        obtain ⟨w23, k23, h⟩ := obind h
                        refine W.appR true (l := w2) (c := cS) (ys := ([([110, 111] : List UInt8)] : List (List UInt8))) rfl rfl rfl rfl rfl rfl rfl rfl k23 rfl (by simp) ?_
                        refine W.mv rfl ?_
                        refine W.mv rfl ?_
                        refine W.nil ?_
                        refine Ev.ret ?_
                        exact ⟨(w23, 0), h, Wk.nrmTo [3, 4, 131074, 131075, 131077, 131080, 131092, 131093, 131094] [(13, 10400), (10303, 10401), (10304, 10402), (10305, 10403)] rfl rfl⟩
                    · intro ⟨w20, x21⟩ h
                      try dsimp only at h ⊢
                      unfold sandbox_Run_j5 at h
                      refine ⟨_, rfl, ?_⟩
                      refine Sq.wEnd (Nat.le_of_ble_eq_true rfl) ?_
                      refine W.extract rfl rfl ?_
                      refine W.extract rfl rfl ?_
                      refine W.mv rfl ?_
                      refine W.mv rfl ?_
                      refine W.nil ?_
                      refine Ev.ret ?_
                      exact ⟨(w20, x21), h, Wk.nrmTo [8, 9, 65538, 65539, 65541, 65544, 65556, 65557, 65558] [(10400, 10200), (10401, 10201), (10402, 10202), (10403, 10203)] rfl rfl⟩
                · replace h := iteF h c16
                  refine Ev.seq ?_
                  refine W.reg hm ?_
                  refine W.eql rfl rfl ?_
                  refine W.mv rfl ?_
                  refine W.nil ?_
                  refine Ev.cond rfl (fun c24 => ?_) (fun c24 => ?_)
                  · replace h := iteT h c24
                    refine Ev.seq ?_
                    refine Ev.regS rfl ?_
                    refine Sq.w 4 (Nat.le_of_ble_eq_true rfl) ?_
                    refine W.mv rfl ?_
                    refine W.fieldAddrO rfl rfl ?_
                    refine W.loadO (p := .str e4.Text) rfl rfl rfl rfl ?_
                    refine W.mkSlice (dt := true) (es := [[.str e4.Text]]) rfl rfl rfl rfl rfl rfl ?_
                    refine W.nil ?_
                    refine Sq.weak (st' := ⟨[(69, .fn 58 [] [.pown 10300 0 0 0]), (72, .own 10302 0), (65538, .pown 10303 0 0 0), (65539, .pown 10304 0 0 0), (65541, .pown 10305 0 0 0), (65544, .int .i64 x3), (65556, .list 2 (List.map SKindText.cells a0.Ops)), (65557, .int .i64 (a0.Ops.length : Int)), (65558, .int .i64 x3)], [(10300, ⟨0, 22, 1, [[.own 10301 0]], false, false, false⟩), (10301, ⟨0, 9, 1, List.map cS w2, true, false, false⟩), (10302, ⟨0, 9, 1, List.map cS ([e4.Text] : List (List UInt8)), true, false, false⟩), (10303, ⟨0, 25, 3, [[.list 1 (List.map cS a0.Inputs), .list 2 (List.map SKindText.cells a0.Ops), .str a0.Output]], true, false, false⟩), (10304, ⟨0, 28, 1, [[.list 2 (List.map SPathLines.cells a1.Files)]], true, false, false⟩), (10305, ⟨0, 30, 2, [[.int .i64 0, .int .i64 0]], true, false, false⟩)], 2⟩) ?_ (Wk.nrmTo [69, 72, 65538, 65539, 65541, 65544, 65556, 65557, 65558] [(10302, 10300), (10303, 10301), (72, 10302), (10304, 10303), (10305, 10304), (10306, 10305)] rfl rfl)
                    refine Sq.callv (f := 58) rfl Tryd.b_sandbox_step_1 Tryd.c_sandbox_step_1 ⟨_, _, _, rfl, Nat.le_of_ble_eq_true rfl, ?_⟩
                    unfold Tryd.l_sandbox_step_1
                    refine Ev.retJ (γ := (List (List UInt8)) × Int) (fun v => ⟨[(3, .own 10400 0), (4, .int .i64 v.2), (131074, .pown 10401 0 0 0), (131075, .pown 10402 0 0 0), (131077, .pown 10403 0 0 0), (131080, .int .i64 x3), (131092, .list 2 (List.map SKindText.cells a0.Ops)), (131093, .int .i64 (a0.Ops.length : Int)), (131094, .int .i64 x3)], [(10400, ⟨0, 9, 1, List.map cS v.1, true, false, false⟩), (10401, ⟨0, 25, 3, [[.list 1 (List.map cS a0.Inputs), .list 2 (List.map SKindText.cells a0.Ops), .str a0.Output]], true, false, false⟩), (10402, ⟨0, 28, 1, [[.list 2 (List.map SPathLines.cells a1.Files)]], true, false, false⟩), (10403, ⟨0, 30, 2, [[.int .i64 0, .int .i64 0]], true, false, false⟩)], 2⟩) (fun v => sandbox_Run_j6 n x3 (sandbox_Run_l1 n a0 a1 m1) v.1 v.2 = some r) ?_ ?_
                    · refine Ev.seq ?_
                      refine W.reg hm ?_
                      refine W.mv rfl ?_
                      refine W.mv rfl ?_
                      refine W.nil ?_
                      refine Ev.seq ?_
                      refine Ev.seq ?_
                      refine W.reg hm ?_
                      refine W.loadO (p := .own 10301 0) rfl rfl rfl rfl ?_
                      refine W.lenO (l := w2) (c := cS) rfl rfl rfl ?_
                      refine W.mv rfl ?_
                      refine W.lenO (l := ([e4.Text] : List (List UInt8))) (c := cS) rfl rfl rfl ?_
                      obtain ⟨x26, k25, h⟩ := obind h
                      refine W.addG rfl rfl k25 ?_
                      refine W.gtr rfl rfl ?_
                      refine W.nil ?_
                      refine Ev.cond rfl (fun c26 => ?_) (fun c26 => ?_)
                      · replace h := iteT h c26
                        refine Ev.seq ?_
                        refine W.reg hm ?_
                        refine W.mv rfl ?_
                        refine W.mv rfl ?_
                        refine W.nil ?_
                        refine Ev.ret ?_
                        exact ⟨(([] : List (List UInt8)), 10), h, (Wk.ownNil 3 30400 9 1 rfl rfl true).trans (Wk.nrmTo [3, 4, 131074, 131075, 131077, 131080, 131092, 131093, 131094] [(30400, 10400), (10303, 10401), (10304, 10402), (10305, 10403)] rfl rfl)⟩
                      · replace h := iteF h c26
                        refine Ev.skip ?_
                        refine Ev.seq ?_
                        refine W.reg hm ?_
                        refine W.loadO (p := .own 10301 0) rfl rfl rfl rfl ?_
                        refine W.mv rfl ?_
                        obtain ⟨w27, k27, h⟩ := obind h
                        refine W.appR true (l := w2) (c := cS) (ys := ([e4.Text] : List (List UInt8))) rfl rfl rfl rfl rfl rfl rfl rfl k27 rfl (by simp) ?_
                        refine W.mv rfl ?_
                        refine W.mv rfl ?_
                        refine W.nil ?_
                        refine Ev.ret ?_
                        exact ⟨(w27, 0), h, Wk.nrmTo [3, 4, 131074, 131075, 131077, 131080, 131092, 131093, 131094] [(13, 10400), (10303, 10401), (10304, 10402), (10305, 10403)] rfl rfl⟩
                    · intro ⟨w24, x25⟩ h
                      try dsimp only at h ⊢
                      unfold sandbox_Run_j6 at h
                      refine ⟨_, rfl, ?_⟩
                      refine Sq.wEnd (Nat.le_of_ble_eq_true rfl) ?_
                      refine W.extract rfl rfl ?_
                      refine W.extract rfl rfl ?_
                      refine W.mv rfl ?_
                      refine W.mv rfl ?_
                      refine W.nil ?_
                      refine Ev.ret ?_
                      exact ⟨(w24, x25), h, Wk.nrmTo [8, 9, 65538, 65539, 65541, 65544, 65556, 65557, 65558] [(10400, 10200), (10401, 10201), (10402, 10202), (10403, 10203)] rfl rfl⟩
                  · replace h := iteF h c24
                    refine Ev.seq ?_
                    refine W.reg hm ?_
                    refine W.eql rfl rfl ?_
                    refine W.mv rfl ?_
                    refine W.nil ?_
                    refine Ev.cond rfl (fun c28 => ?_) (fun c28 => ?_)
                    · replace h := iteT h c28
                      refine Ev.seq ?_
                      refine Ev.regS rfl ?_
                      refine Sq.w 1 (Nat.le_of_ble_eq_true rfl) ?_
                      refine W.loadO (p := .own 10303 0) rfl rfl rfl rfl ?_
                      refine W.nil ?_
                      refine Sq.call rfl Tryd.c_slices_Reverse_string ⟨_, rfl, Nat.le_of_ble_eq_true rfl, ?_⟩
                      unfold Tryd.l_slices_Reverse_string
                      refine Ev.retJ (γ := List (List UInt8)) (fun v => ⟨[(65543, .pown 10400 0 0 0), (131074, .pown 10402 0 0 0), (131075, .pown 10403 0 0 0), (131077, .pown 10404 0 0 0), (131080, .int .i64 x3), (131092, .list 2 (List.map SKindText.cells a0.Ops)), (131093, .int .i64 (a0.Ops.length : Int)), (131094, .int .i64 x3)], [(10400, ⟨0, 22, 1, [[.own 10401 0]], false, false, false⟩), (10401, ⟨0, 9, 1, List.map cS v, true, false, false⟩), (10402, ⟨0, 25, 3, [[.list 1 (List.map cS a0.Inputs), .list 2 (List.map SKindText.cells a0.Ops), .str a0.Output]], true, false, false⟩), (10403, ⟨0, 28, 1, [[.list 2 (List.map SPathLines.cells a1.Files)]], true, false, false⟩), (10404, ⟨0, 30, 2, [[.int .i64 0, .int .i64 0]], true, false, false⟩)], 2⟩) (fun v => sandbox_Run_j7 n x3 (sandbox_Run_l1 n a0 a1 m1) v = some r) ?_ ?_
                      · refine Ev.seq ?_
                        refine W.reg hm ?_
                        refine W.mv rfl ?_
                        refine W.lenO (l := w2) (c := cS) rfl rfl rfl ?_
                        obtain ⟨x29, k29, h⟩ := obind h
                        refine W.subG rfl rfl k29 ?_
                        refine W.mv rfl ?_
                        refine W.mv rfl ?_
                        refine W.nil ?_
                        refine Ev.block ?_
                        refine Ev.loopW (β := Nat × (List (List UInt8)) × Int × Int) (fun v => ⟨[(0, .own 10500 0), (2, .int .i64 v.2.2.1), (3, .int .i64 v.2.2.2), (65543, .pown 10501 0 0 0), (131074, .pown 10502 0 0 0), (131075, .pown 10503 0 0 0), (131077, .pown 10504 0 0 0), (131080, .int .i64 x3), (131092, .list 2 (List.map SKindText.cells a0.Ops)), (131093, .int .i64 (a0.Ops.length : Int)), (131094, .int .i64 x3)], [(10500, ⟨0, 9, 1, List.map cS v.2.1, true, false, false⟩), (10501, ⟨0, 22, 1, [[.own 10500 0]], false, false, false⟩), (10502, ⟨0, 25, 3, [[.list 1 (List.map cS a0.Inputs), .list 2 (List.map SKindText.cells a0.Ops), .str a0.Output]], true, false, false⟩), (10503, ⟨0, 28, 1, [[.list 2 (List.map SPathLines.cells a1.Files)]], true, false, false⟩), (10504, ⟨0, 30, 2, [[.int .i64 0, .int .i64 0]], true, false, false⟩)], 2⟩) (fun v => sandbox_Run_l2 n x3 (sandbox_Run_l1 n a0 a1 m1) v.1 v.2.1 v.2.2.1 v.2.2.2 = some r) (fun v => v.1) (n, w2, 0, x29) (Wk.nrmTo [0, 2, 3, 65543, 131074, 131075, 131077, 131080, 131092, 131093, 131094] [(10303, 10500), (10302, 10501), (10304, 10502), (10305, 10503), (10306, 10504)] rfl rfl) h ?_
                        intro ⟨m2, w30, x31, x32⟩ h
                        try dsimp only at h ⊢
                        cases m2 with
                        | zero => rw [sandbox_Run_l2] at h; cases h
                        | succ m2 =>
                          rw [sandbox_Run_l2] at h
                          refine Ev.seq ?_
                          refine Ev.seq ?_
                          refine W.reg hm ?_
                          refine W.mv rfl ?_
                          refine W.mv rfl ?_
                          refine W.lss rfl rfl ?_
                          refine W.nil ?_
                          refine Ev.cond rfl (fun c30 => ?_) (fun c30 => ?_)
                          · replace h := iteT h c30
                            refine Ev.skip ?_
                            refine Ev.seq ?_
                            refine Ev.block ?_
                            refine W.regD hm ?_
                            refine W.mv rfl ?_
                            refine W.mv rfl ?_
                            refine W.mv rfl ?_
                            refine W.mv rfl ?_
                            refine W.mv rfl ?_
                            refine W.mv rfl ?_
                            obtain ⟨e33, k31, h⟩ := obind h
                            refine W.idxR (l := w30) (c := cS) rfl rfl rfl rfl rfl k31 ?_
                            refine W.loadR (l := w30) (c := cS) (v := e33) (p := .str e33) rfl rfl rfl (gidx_some k31).2 rfl ?_
                            refine W.mv rfl ?_
                            refine W.mv rfl ?_
                            obtain ⟨e34, k32, h⟩ := obind h
                            refine W.idxR (l := w30) (c := cS) rfl rfl rfl rfl rfl k32 ?_
                            refine W.loadR (l := w30) (c := cS) (v := e34) (p := .str e34) rfl rfl rfl (gidx_some k32).2 rfl ?_
                            refine W.idxR (l := w30) (c := cS) rfl rfl rfl rfl rfl k32 ?_
                            refine W.storeR true (l := w30) (c := cS) (v := e34) (v' := e33) rfl rfl rfl rfl (gidx_some k32).2 rfl (Nat.le_of_ble_eq_true rfl) rfl rfl rfl ?_
                            obtain ⟨e35, k33, h⟩ := obind h
                            refine W.idxR (l := (gset w30 x31 e33)) (c := cS) rfl rfl rfl rfl rfl k33 ?_
                            refine W.storeR true (l := (gset w30 x31 e33)) (c := cS) (v := e35) (v' := e34) rfl rfl rfl rfl (gidx_some k33).2 rfl (Nat.le_of_ble_eq_true rfl) rfl rfl rfl ?_
                            refine W.nil ⟨rfl, ?_⟩
                            refine W.reg hm ?_
                            refine W.mv rfl ?_
                            obtain ⟨x36, k34, h⟩ := obind h
                            refine W.addG rfl rfl k34 ?_
                            refine W.mv rfl ?_
                            obtain ⟨x37, k35, h⟩ := obind h
                            refine W.subG rfl rfl k35 ?_
                            refine W.mv rfl ?_
                            refine W.mv rfl ?_
                            refine W.nil ?_
                            exact ⟨(m2, (gset (gset w30 x31 e33) x32 e34), x36, x37), h, Nat.lt_succ_self _, Wk.nrmTo [0, 2, 3, 65543, 131074, 131075, 131077, 131080, 131092, 131093, 131094] [(10500, 10500), (10501, 10501), (10502, 10502), (10503, 10503), (10504, 10504)] rfl rfl⟩
                          · replace h := iteF h c30
                            refine Ev.exit ?_
                            exact ⟨w30, h, Wk.nrmTo [65543, 131074, 131075, 131077, 131080, 131092, 131093, 131094] [(10501, 10400), (10500, 10401), (10502, 10402), (10503, 10403), (10504, 10404)] rfl rfl⟩
                      · intro w28 h
                        try dsimp only at h ⊢
                        unfold sandbox_Run_j7 at h
                        refine ⟨_, rfl, ?_⟩
                        refine Sq.wEnd (Nat.le_of_ble_eq_true rfl) ?_
                        refine W.nil ?_
                        refine Ev.seq ?_
                        refine W.reg hm ?_
                        refine W.loadO (p := .own 10401 0) rfl rfl rfl rfl ?_
                        refine W.mv rfl ?_
                        refine W.mv rfl ?_
                        refine W.nil ?_
                        refine Ev.ret ?_
                        exact ⟨(w28, 0), h, Wk.nrmTo [8, 9, 65538, 65539, 65541, 65544, 65556, 65557, 65558] [(10401, 10200), (10402, 10201), (10403, 10202), (10404, 10203)] rfl rfl⟩
                    · replace h := iteF h c28
                      refine Ev.skip ?_
                      refine Ev.seq ?_
                      refine Ev.weak ?_ (Wk.frz 10303 0 rfl rfl)
                      refine W.reg hm ?_
                      refine W.loadO (p := .list 1 (List.map cS w2)) rfl rfl rfl rfl ?_
                      obtain ⟨r38, k36, h⟩ := obind h
                      refine W.callO (sandbox_unique_spec n w2 r38 k36) rfl (Les.refl _) rfl rfl rfl ?_
                      refine W.mv rfl ?_
                      refine W.mv rfl ?_
                      refine W.nil ?_
                      refine Ev.ret ?_
                      exact ⟨(r38, 0), h, Wk.nrmTo [8, 9, 65538, 65539, 65541, 65544, 65556, 65557, 65558] [(82, 10200), (10304, 10201), (10305, 10202), (10306, 10203)] rfl rfl⟩
        · intro ⟨w5, x6⟩ h
          try dsimp only at h ⊢
          unfold sandbox_Run_j1 at h
          refine ⟨_, rfl, ?_⟩
          refine Sq.wEnd (Nat.le_of_ble_eq_true rfl) ?_
          refine W.mv rfl ?_
          refine W.extract rfl rfl ?_
          refine W.extract rfl rfl ?_
          refine W.mv rfl ?_
          refine W.mv rfl ?_
          refine W.nil ?_
          refine Ev.seq ?_
          refine Ev.seq ?_
          refine W.reg hm ?_
          refine W.mv rfl ?_
          refine W.neq rfl rfl ?_
          refine W.nil ?_
          refine Ev.cond rfl (fun c5 => ?_) (fun c5 => ?_)
          · replace h := iteT h c5
            refine Ev.seq ?_
            refine W.reg hm ?_
            refine W.mv rfl ?_
            refine W.mv rfl ?_
            obtain ⟨x7, k6, h⟩ := obind h
            refine W.subG rfl rfl k6 ?_
            refine W.build (cs := [.int .i64 x6, .int .i64 x7]) rfl rfl rfl ?_
            refine W.mv rfl ?_
            refine W.store (es' := [[.int .i64 x6, .int .i64 x7]]) (dt := true) rfl rfl rfl rfl rfl (Nat.le_of_ble_eq_true rfl) rfl rfl rfl rfl ?_
            refine W.nil ?_
            refine Ev.ret ?_
            injection h with h; subst h
            exact ⟨_, rfl, Le.tups (.cons (.nils 1) (.cons (.refl _) (.nil)))⟩
          · replace h := iteF h c5
            refine Ev.skip ?_
            refine W.reg hm ?_
            refine W.mv rfl ?_
            refine W.mv rfl ?_
            refine W.nil ?_
            refine W.reg hm ?_
            obtain ⟨x8, k7, h⟩ := obind h
            refine W.addG rfl rfl k7 ?_
            refine W.mv rfl ?_
            refine W.nil ?_
            exact ⟨(m1, w5, x8), h, Nat.lt_succ_self _, Wk.nrmTo [2, 3, 5, 7, 20, 21, 22] [(10201, 10100), (10202, 10101), (10203, 10102), (10200, 10103)] rfl rfl⟩
      · replace h := iteF h c3
        refine Ev.exit ?_
        refine Ev.seq ?_
        refine W.reg hm ?_
        refine W.mv rfl ?_
        refine W.build (cs := [.int .i64 0, .int .i64 0]) rfl rfl rfl ?_
        refine W.mv rfl ?_
        refine W.store (es' := [[.int .i64 0, .int .i64 0]]) (dt := true) rfl rfl rfl rfl rfl (Nat.le_of_ble_eq_true rfl) rfl rfl rfl rfl ?_
        refine W.nil ?_
        refine Ev.ret ?_
        injection h with h; subst h
        exact ⟨_, rfl, .refl _⟩
end Go.Proofs.YtadeoaglhaaimaaDoor
