/- The functions compute what the texts of D say. Laid by a program (wip/gen/dec.py). -/
import Derived.Test.YtadeoaglhaaimaaDoorD
import Derived.Test.YtadeoaglhaaimaaDoorW2
namespace Go.Proofs.YtadeoaglhaaimaaDoor
open Go.PW Go
theorem law6_action_spec (n : Nat) (r : SInputsOpsOutput) (h : law6_action n = some r) : PSpec Tryd.prog 27 [] (.agg (SInputsOpsOutput.cells r)) := by
  unfold law6_action at h
  refine spec_of Tryd.c_law6_action (by simp) ?_
  unfold Tryd.l_law6_action
  refine Ev.seq ?_
  refine W.reg hm ?_
  refine W.alloc (dt := true) rfl rfl rfl ?_
  refine W.nil ?_
  refine Ev.seq ?_
  refine W.reg hm ?_
  refine W.mkSlice (dt := true) (es := [[.str ([97] : List UInt8)]]) rfl rfl rfl rfl rfl rfl ?_
  refine W.build (cs := [.int .i64 1, .str ([97] : List UInt8)]) rfl rfl rfl ?_
  refine W.build (cs := [.int .i64 3, .str ([122] : List UInt8)]) rfl rfl rfl ?_
  refine W.build (cs := [.int .i64 4, .str ([] : List UInt8)]) rfl rfl rfl ?_
  refine W.mkSlice (dt := true) (es := [[.int .i64 1, .str ([97] : List UInt8)], [.int .i64 3, .str ([122] : List UInt8)], [.int .i64 4, .str ([] : List UInt8)]]) rfl rfl rfl rfl rfl rfl ?_
  refine W.build (cs := [.own 1 2, .own 5 2, .str ([98] : List UInt8)]) rfl rfl rfl ?_
  refine W.store (es' := [[.own 1 2, .own 5 2, .str ([98] : List UInt8)]]) (dt := false) rfl rfl rfl rfl rfl (Nat.le_of_ble_eq_true rfl) rfl rfl rfl rfl ?_
  refine W.nil ?_
  refine Ev.weak ?_ (Wk.frz 1 2 rfl rfl)
  refine Ev.weak ?_ (Wk.frz 5 2 rfl rfl)
  refine Ev.ret ?_
  injection h with h; subst h
  exact ⟨_, rfl, .refl _⟩

theorem law6_files_spec (n : Nat) (r : SFiles) (h : law6_files n = some r) : PSpec Tryd.prog 28 [] (.agg (SFiles.cells r)) := by
  unfold law6_files at h
  refine spec_of Tryd.c_law6_files (by simp) ?_
  unfold Tryd.l_law6_files
  refine Ev.seq ?_
  refine W.reg hm ?_
  refine W.alloc (dt := true) rfl rfl rfl ?_
  refine W.nil ?_
  refine Ev.seq ?_
  refine W.reg hm ?_
  refine W.mkSlice (dt := true) (es := [[.str ([120] : List UInt8)], [.str ([121] : List UInt8)]]) rfl rfl rfl rfl rfl rfl ?_
  refine W.build (cs := [.str ([97] : List UInt8), .own 1 2]) rfl rfl rfl ?_
  refine W.mkSlice (dt := false) (es := [[.str ([97] : List UInt8), .own 1 2]]) rfl rfl rfl rfl rfl rfl ?_
  refine W.build (cs := [.own 3 2]) rfl rfl rfl ?_
  refine W.store (es' := [[.own 3 2]]) (dt := false) rfl rfl rfl rfl rfl (Nat.le_of_ble_eq_true rfl) rfl rfl rfl rfl ?_
  refine W.nil ?_
  refine Ev.weak ?_ (Wk.frz 1 2 rfl rfl)
  refine Ev.weak ?_ (Wk.frz 3 2 rfl rfl)
  refine Ev.ret ?_
  injection h with h; subst h
  exact ⟨_, rfl, .refl _⟩

theorem law6_fault_spec (n : Nat) (a0 : Int) (a1 : Int) (r : SCodeIndex) (h : law6_fault n a0 a1 = some r) : PSpec Tryd.prog 29 [.int .i64 a0, .int .i64 a1] (.agg (SCodeIndex.cells r)) := by
  unfold law6_fault at h
  refine spec_of Tryd.c_law6_fault (by simp) ?_
  unfold Tryd.l_law6_fault
  refine Ev.seq ?_
  refine W.reg hm ?_
  refine W.alloc (dt := true) rfl rfl rfl ?_
  refine W.nil ?_
  refine Ev.seq ?_
  refine W.reg hm ?_
  refine W.mv rfl ?_
  refine W.mv rfl ?_
  refine W.build (cs := [.int .i64 a0, .int .i64 a1]) rfl rfl rfl ?_
  refine W.store (es' := [[.int .i64 a0, .int .i64 a1]]) (dt := true) rfl rfl rfl rfl rfl (Nat.le_of_ble_eq_true rfl) rfl rfl rfl rfl ?_
  refine W.nil ?_
  refine Ev.ret ?_
  injection h with h; subst h
  exact ⟨_, rfl, .refl _⟩

set_option maxHeartbeats 4000000 in
theorem law6_runs_spec (n : Nat) (r : Bool) (h : law6_runs n = some r) : PSpec Tryd.prog 10 [] (.bool r) := by
  unfold law6_runs at h
  refine spec_of Tryd.c_law6_runs (by simp) ?_
  unfold Tryd.l_law6_runs
  refine Ev.seq ?_
  refine W.reg hm ?_
  refine W.mv rfl ?_
  refine W.nil ?_
  refine Ev.seq ?_
  refine W.reg hm ?_
  obtain ⟨r1, k1, h⟩ := obind h
  refine W.call (law6_action_spec n r1 k1) rfl rfl (Les.refl _) rfl (.inl rfl) rfl ?_
  obtain ⟨r2, k2, h⟩ := obind h
  refine W.call (law6_files_spec n r2 k2) rfl rfl (Les.refl _) rfl (.inl rfl) rfl ?_
  obtain ⟨r3, k3, h⟩ := obind h
  refine W.call (sandbox_Run_spec n r1 r2 r3 k3) rfl rfl (Les.refl _) rfl (.inl rfl) rfl ?_
  refine W.mv rfl ?_
  refine W.extract rfl rfl ?_
  refine W.extract rfl rfl ?_
  refine W.alloc (dt := true) rfl rfl rfl ?_
  refine W.mv rfl ?_
  refine W.store (es' := [[.int .i64 r3.2.Code, .int .i64 r3.2.Index]]) (dt := true) rfl rfl rfl rfl rfl (Nat.le_of_ble_eq_true rfl) rfl rfl rfl rfl ?_
  refine W.nil ?_
  refine Ev.seq ?_
  refine W.reg hm ?_
  obtain ⟨r4, k4, h⟩ := obind h
  refine W.call (law6_action_spec n r4 k4) rfl rfl (Les.refl _) rfl (.inl rfl) rfl ?_
  obtain ⟨r5, k5, h⟩ := obind h
  refine W.call (sandbox_Reads_spec n r4 r5 k5) rfl rfl (Les.refl _) rfl (.inl rfl) rfl ?_
  refine W.mv rfl ?_
  refine W.extract rfl rfl ?_
  refine W.extract rfl rfl ?_
  refine W.alloc (dt := true) rfl rfl rfl ?_
  refine W.mv rfl ?_
  refine W.store (es' := [[.int .i64 r5.2.Code, .int .i64 r5.2.Index]]) (dt := true) rfl rfl rfl rfl rfl (Nat.le_of_ble_eq_true rfl) rfl rfl rfl rfl ?_
  refine W.nil ?_
  refine Ev.seq ?_
  refine W.reg hm ?_
  obtain ⟨r6, k6, h⟩ := obind h
  refine W.call (law6_action_spec n r6 k6) rfl rfl (Les.refl _) rfl (.inl rfl) rfl ?_
  obtain ⟨r7, k7, h⟩ := obind h
  refine W.call (law6_files_spec n r7 k7) rfl rfl (Les.refl _) rfl (.inl rfl) rfl ?_
  obtain ⟨r8, k8, h⟩ := obind h
  refine W.call (sandbox_Restrict_spec n r6 r7 r8 k8) rfl rfl (Les.refl _) rfl (.inl rfl) rfl ?_
  refine W.mv rfl ?_
  refine W.extract rfl rfl ?_
  refine W.extract rfl rfl ?_
  refine W.alloc (dt := true) rfl rfl rfl ?_
  refine W.alloc (dt := true) rfl rfl rfl ?_
  refine W.store (es' := [[.list 2 (List.map SPathLines.cells r8.1.Files)]]) (dt := true) rfl rfl rfl rfl rfl (Nat.le_of_ble_eq_true rfl) rfl rfl rfl rfl ?_
  refine W.store (es' := [[.int .i64 r8.2.Code, .int .i64 r8.2.Index]]) (dt := true) rfl rfl rfl rfl rfl (Nat.le_of_ble_eq_true rfl) rfl rfl rfl rfl ?_
  refine W.nil ?_
  refine Ev.seq ?_
  refine W.reg hm ?_
  obtain ⟨r9, k9, h⟩ := obind h
  refine W.call (law6_action_spec n r9 k9) rfl rfl (Les.refl _) rfl (.inl rfl) rfl ?_
  refine W.alloc (dt := true) rfl rfl rfl ?_
  refine W.store (es' := [[.list 1 (List.map cS r9.Inputs), .list 2 (List.map SKindText.cells r9.Ops), .str r9.Output]]) (dt := true) rfl rfl rfl rfl rfl (Nat.le_of_ble_eq_true rfl) rfl rfl rfl rfl ?_
  refine W.nil ?_
  refine Ev.seq ?_
  refine W.reg hm ?_
  refine W.fieldAddrO rfl rfl ?_
  refine W.store (es' := [[.nils, .list 2 (List.map SKindText.cells r9.Ops), .str r9.Output]]) (dt := true) rfl rfl rfl rfl rfl (Nat.le_of_ble_eq_true rfl) rfl rfl rfl rfl ?_
  refine W.nil ?_
  refine Ev.seq ?_
  refine W.regD hm ?_
  refine W.loadO (p := .agg [.nils, .list 2 (List.map SKindText.cells r9.Ops), .str r9.Output]) rfl rfl rfl rfl ?_
  obtain ⟨r10, k10, h⟩ := obind h
  refine W.call (law6_files_spec n r10 k10) rfl rfl (Les.refl _) rfl (.inl rfl) rfl ?_
  obtain ⟨r11, k11, h⟩ := obind h
  refine W.call (sandbox_Run_spec n (⟨([] : List (List UInt8)), r9.Ops, r9.Output⟩ : SInputsOpsOutput) r10 r11 k11) rfl rfl (.cons (Le.aggs (.cons (.nils 1) (.cons (.refl _) (.cons (.refl _) (.nil)))) rfl) (.cons (.refl _) (.nil))) rfl (.inl rfl) rfl ?_
  refine W.mv rfl ?_
  refine W.extract rfl rfl ?_
  refine W.extract rfl rfl ?_
  refine W.alloc (dt := true) rfl rfl rfl ?_
  refine W.mv rfl ?_
  refine W.store (es' := [[.int .i64 r11.2.Code, .int .i64 r11.2.Index]]) (dt := true) rfl rfl rfl rfl rfl (Nat.le_of_ble_eq_true rfl) rfl rfl rfl rfl ?_
  refine W.nil ⟨rfl, ?_⟩
  refine Ev.seqJ (γ := Bool) (fun v => ⟨[(0, .bool v)], [], 2⟩) (fun v => law6_runs_j1 n v = some r) ?_ ?_
  · refine W.regD hm ?_
    refine W.fieldAddrO rfl rfl ?_
    refine W.loadO (p := .int .i64 r3.2.Code) rfl rfl rfl rfl ?_
    refine W.eql rfl rfl ?_
    refine W.mv rfl ?_
    refine W.split 38 rfl (fun c12 => ?_) (fun c12 => ?_)
    · replace h := iteT h c12
      refine W.guardT rfl c12 ?_
      refine W.fieldAddrO rfl rfl ?_
      refine W.guardT rfl c12 ?_
      refine W.loadO (p := .int .i64 r5.2.Code) rfl rfl rfl rfl ?_
      refine W.guardT rfl c12 ?_
      refine W.eql rfl rfl ?_
      refine W.pickT rfl rfl rfl c12 ?_
      refine W.mv rfl ?_
      refine W.split 43 rfl (fun c13 => ?_) (fun c13 => ?_)
      · replace h := iteT h c13
        refine W.guardT rfl c13 ?_
        refine W.fieldAddrO rfl rfl ?_
        refine W.guardT rfl c13 ?_
        refine W.loadO (p := .int .i64 r8.2.Code) rfl rfl rfl rfl ?_
        refine W.guardT rfl c13 ?_
        refine W.eql rfl rfl ?_
        refine W.pickT rfl rfl rfl c13 ?_
        refine W.mv rfl ?_
        refine W.split 48 rfl (fun c14 => ?_) (fun c14 => ?_)
        · replace h := iteT h c14
          refine W.guardT rfl c14 ?_
          refine W.loadO (p := .agg [.int .i64 r11.2.Code, .int .i64 r11.2.Index]) rfl rfl rfl rfl ?_
          refine W.guardT rfl c14 ?_
          obtain ⟨r13, k15, h⟩ := obind h
          refine W.call (law6_fault_spec n 13 (-3) r13 k15) rfl rfl (Les.refl _) rfl (.inl rfl) rfl ?_
          refine W.guardT rfl c14 ?_
          refine W.eqs rfl rfl rfl ?_
          refine W.pickT rfl rfl rfl c14 ?_
          refine W.mv rfl ?_
          refine W.split 53 rfl (fun c16 => ?_) (fun c16 => ?_)
          · replace h := iteT h c16
            refine W.guardT rfl c16 ?_
            refine W.mv rfl ?_
            refine W.guardT rfl c16 ?_
            refine W.mkSlice (dt := true) (es := [[.str ([122] : List UInt8)], [.str ([121] : List UInt8)], [.str ([120] : List UInt8)]]) rfl rfl rfl rfl rfl rfl ?_
            refine W.guardT rfl c16 ?_
            obtain ⟨r14, k17, h⟩ := obind h
            refine W.call (ref6_Strings_spec n r3.1 ([([122] : List UInt8), ([121] : List UInt8), ([120] : List UInt8)] : List (List UInt8)) r14 k17) rfl rfl (Les.refl _) rfl (.inr rfl) rfl ?_
            refine W.pickT rfl rfl rfl c16 ?_
            refine W.mv rfl ?_
            refine W.split 58 rfl (fun c18 => ?_) (fun c18 => ?_)
            · replace h := iteT h c18
              refine W.guardT rfl c18 ?_
              refine W.mv rfl ?_
              refine W.guardT rfl c18 ?_
              refine W.mkSlice (dt := true) (es := [[.str ([97] : List UInt8)]]) rfl rfl rfl rfl rfl rfl ?_
              refine W.guardT rfl c18 ?_
              obtain ⟨r15, k19, h⟩ := obind h
              refine W.call (ref6_Strings_spec n r5.1 ([([97] : List UInt8)] : List (List UInt8)) r15 k19) rfl rfl (Les.refl _) rfl (.inr rfl) rfl ?_
              refine W.pickT rfl rfl rfl c18 ?_
              refine W.mv rfl ?_
              refine W.split 63 rfl (fun c20 => ?_) (fun c20 => ?_)
              · replace h := iteT h c20
                refine W.guardT rfl c20 ?_
                refine W.loadO (p := .agg [.list 2 (List.map SPathLines.cells r8.1.Files)]) rfl rfl rfl rfl ?_
                refine W.guardT rfl c20 ?_
                obtain ⟨r16, k21, h⟩ := obind h
                refine W.call (law6_files_spec n r16 k21) rfl rfl (Les.refl _) rfl (.inl rfl) rfl ?_
                refine W.guardT rfl c20 ?_
                obtain ⟨r17, k22, h⟩ := obind h
                refine W.call (ref6_Trees_spec n (⟨r8.1.Files⟩ : SFiles) r16 r17 k22) rfl rfl (Les.refl _) rfl (.inl rfl) rfl ?_
                refine W.pickT rfl rfl rfl c20 ?_
                refine W.mv rfl ?_
                refine W.split 68 rfl (fun c23 => ?_) (fun c23 => ?_)
                · replace h := iteT h c23
                  refine W.guardT rfl c23 ?_
                  refine W.build (cs := [.nils, .nils, .str ([] : List UInt8)]) rfl rfl rfl ?_
                  refine W.guardT rfl c23 ?_
                  obtain ⟨r18, k24, h⟩ := obind h
                  refine W.call (sandbox_Validate_spec n (⟨([] : List (List UInt8)), ([] : List SKindText), ([] : List UInt8)⟩ : SInputsOpsOutput) r18 k24) rfl rfl (.cons (Le.aggs (.cons (.nils 1) (.cons (.nils 2) (.cons (.refl _) (.nil)))) rfl) (.nil)) rfl (.inl rfl) rfl ?_
                  refine W.guardT rfl c23 ?_
                  obtain ⟨r19, k25, h⟩ := obind h
                  refine W.call (law6_fault_spec n 12 (-2) r19 k25) rfl rfl (Les.refl _) rfl (.inl rfl) rfl ?_
                  refine W.guardT rfl c23 ?_
                  refine W.eqs rfl rfl rfl ?_
                  refine W.pickT rfl rfl rfl c23 ?_
                  refine W.mv rfl ?_
                  refine W.nil ⟨rfl, ?_⟩
                  exact ⟨((r18.Code == r19.Code && (r18.Index == r19.Index && true)) != false), h, Wk.nrmTo [0] [] rfl rfl⟩
                · replace h := iteF h c23
                  refine W.guardF1 rfl c23 ?_
                  refine W.guardF1 rfl c23 ?_
                  refine W.guardF1 rfl c23 ?_
                  refine W.guardF1 rfl c23 ?_
                  refine W.pickN rfl rfl rfl c23 ?_
                  refine W.mv rfl ?_
                  refine W.nil ⟨rfl, ?_⟩
                  exact ⟨false, h, Wk.nrmTo [0] [] rfl rfl⟩
              · replace h := iteF h c20
                refine W.guardF1 rfl c20 ?_
                refine W.guardF1 rfl c20 ?_
                refine W.guardF1 rfl c20 ?_
                refine W.pickN rfl rfl rfl c20 ?_
                refine W.mv rfl ?_
                refine W.guardF1 rfl rfl ?_
                refine W.guardF1 rfl rfl ?_
                refine W.guardF1 rfl rfl ?_
                refine W.guardF1 rfl rfl ?_
                refine W.pickN rfl rfl rfl rfl ?_
                refine W.mv rfl ?_
                refine W.nil ⟨rfl, ?_⟩
                exact ⟨false, h, Wk.nrmTo [0] [] rfl rfl⟩
            · replace h := iteF h c18
              refine W.guardF1 rfl c18 ?_
              refine W.guardF1 rfl c18 ?_
              refine W.guardF1 rfl c18 ?_
              refine W.pickN rfl rfl rfl c18 ?_
              refine W.mv rfl ?_
              refine W.guardF1 rfl rfl ?_
              refine W.guardF1 rfl rfl ?_
              refine W.guardF1 rfl rfl ?_
              refine W.pickN rfl rfl rfl rfl ?_
              refine W.mv rfl ?_
              refine W.guardF1 rfl rfl ?_
              refine W.guardF1 rfl rfl ?_
              refine W.guardF1 rfl rfl ?_
              refine W.guardF1 rfl rfl ?_
              refine W.pickN rfl rfl rfl rfl ?_
              refine W.mv rfl ?_
              refine W.nil ⟨rfl, ?_⟩
              exact ⟨false, h, Wk.nrmTo [0] [] rfl rfl⟩
          · replace h := iteF h c16
            refine W.guardF1 rfl c16 ?_
            refine W.guardF1 rfl c16 ?_
            refine W.guardF1 rfl c16 ?_
            refine W.pickN rfl rfl rfl c16 ?_
            refine W.mv rfl ?_
            refine W.guardF1 rfl rfl ?_
            refine W.guardF1 rfl rfl ?_
            refine W.guardF1 rfl rfl ?_
            refine W.pickN rfl rfl rfl rfl ?_
            refine W.mv rfl ?_
            refine W.guardF1 rfl rfl ?_
            refine W.guardF1 rfl rfl ?_
            refine W.guardF1 rfl rfl ?_
            refine W.pickN rfl rfl rfl rfl ?_
            refine W.mv rfl ?_
            refine W.guardF1 rfl rfl ?_
            refine W.guardF1 rfl rfl ?_
            refine W.guardF1 rfl rfl ?_
            refine W.guardF1 rfl rfl ?_
            refine W.pickN rfl rfl rfl rfl ?_
            refine W.mv rfl ?_
            refine W.nil ⟨rfl, ?_⟩
            exact ⟨false, h, Wk.nrmTo [0] [] rfl rfl⟩
        · replace h := iteF h c14
          refine W.guardF1 rfl c14 ?_
          refine W.guardF1 rfl c14 ?_
          refine W.guardF1 rfl c14 ?_
          refine W.pickN rfl rfl rfl c14 ?_
          refine W.mv rfl ?_
          refine W.guardF1 rfl rfl ?_
          refine W.guardF1 rfl rfl ?_
          refine W.guardF1 rfl rfl ?_
          refine W.pickN rfl rfl rfl rfl ?_
          refine W.mv rfl ?_
          refine W.guardF1 rfl rfl ?_
          refine W.guardF1 rfl rfl ?_
          refine W.guardF1 rfl rfl ?_
          refine W.pickN rfl rfl rfl rfl ?_
          refine W.mv rfl ?_
          refine W.guardF1 rfl rfl ?_
          refine W.guardF1 rfl rfl ?_
          refine W.guardF1 rfl rfl ?_
          refine W.pickN rfl rfl rfl rfl ?_
          refine W.mv rfl ?_
          refine W.guardF1 rfl rfl ?_
          refine W.guardF1 rfl rfl ?_
          refine W.guardF1 rfl rfl ?_
          refine W.guardF1 rfl rfl ?_
          refine W.pickN rfl rfl rfl rfl ?_
          refine W.mv rfl ?_
          refine W.nil ⟨rfl, ?_⟩
          exact ⟨false, h, Wk.nrmTo [0] [] rfl rfl⟩
      · replace h := iteF h c13
        refine W.guardF1 rfl c13 ?_
        refine W.guardF1 rfl c13 ?_
        refine W.guardF1 rfl c13 ?_
        refine W.pickN rfl rfl rfl c13 ?_
        refine W.mv rfl ?_
        refine W.guardF1 rfl rfl ?_
        refine W.guardF1 rfl rfl ?_
        refine W.guardF1 rfl rfl ?_
        refine W.pickN rfl rfl rfl rfl ?_
        refine W.mv rfl ?_
        refine W.guardF1 rfl rfl ?_
        refine W.guardF1 rfl rfl ?_
        refine W.guardF1 rfl rfl ?_
        refine W.pickN rfl rfl rfl rfl ?_
        refine W.mv rfl ?_
        refine W.guardF1 rfl rfl ?_
        refine W.guardF1 rfl rfl ?_
        refine W.guardF1 rfl rfl ?_
        refine W.pickN rfl rfl rfl rfl ?_
        refine W.mv rfl ?_
        refine W.guardF1 rfl rfl ?_
        refine W.guardF1 rfl rfl ?_
        refine W.guardF1 rfl rfl ?_
        refine W.pickN rfl rfl rfl rfl ?_
        refine W.mv rfl ?_
        refine W.guardF1 rfl rfl ?_
        refine W.guardF1 rfl rfl ?_
        refine W.guardF1 rfl rfl ?_
        refine W.guardF1 rfl rfl ?_
        refine W.pickN rfl rfl rfl rfl ?_
        refine W.mv rfl ?_
        refine W.nil ⟨rfl, ?_⟩
        exact ⟨false, h, Wk.nrmTo [0] [] rfl rfl⟩
    · replace h := iteF h c12
      refine W.guardF1 rfl c12 ?_
      refine W.guardF1 rfl c12 ?_
      refine W.guardF1 rfl c12 ?_
      refine W.pickN rfl rfl rfl c12 ?_
      refine W.mv rfl ?_
      refine W.guardF1 rfl rfl ?_
      refine W.guardF1 rfl rfl ?_
      refine W.guardF1 rfl rfl ?_
      refine W.pickN rfl rfl rfl rfl ?_
      refine W.mv rfl ?_
      refine W.guardF1 rfl rfl ?_
      refine W.guardF1 rfl rfl ?_
      refine W.guardF1 rfl rfl ?_
      refine W.pickN rfl rfl rfl rfl ?_
      refine W.mv rfl ?_
      refine W.guardF1 rfl rfl ?_
      refine W.guardF1 rfl rfl ?_
      refine W.guardF1 rfl rfl ?_
      refine W.pickN rfl rfl rfl rfl ?_
      refine W.mv rfl ?_
      refine W.guardF1 rfl rfl ?_
      refine W.guardF1 rfl rfl ?_
      refine W.guardF1 rfl rfl ?_
      refine W.pickN rfl rfl rfl rfl ?_
      refine W.mv rfl ?_
      refine W.guardF1 rfl rfl ?_
      refine W.guardF1 rfl rfl ?_
      refine W.guardF1 rfl rfl ?_
      refine W.pickN rfl rfl rfl rfl ?_
      refine W.mv rfl ?_
      refine W.guardF1 rfl rfl ?_
      refine W.guardF1 rfl rfl ?_
      refine W.guardF1 rfl rfl ?_
      refine W.guardF1 rfl rfl ?_
      refine W.pickN rfl rfl rfl rfl ?_
      refine W.mv rfl ?_
      refine W.nil ⟨rfl, ?_⟩
      exact ⟨false, h, Wk.nrmTo [0] [] rfl rfl⟩
  · intro x12 h
    try dsimp only at h ⊢
    unfold law6_runs_j1 at h
    refine Ev.ret ?_
    injection h with h; subst h
    exact ⟨_, rfl, .refl _⟩

theorem ref6_HasString_spec (n : Nat) (a0 : List (List UInt8)) (a1 : List UInt8) (r : Bool) (h : ref6_HasString n a0 a1 = some r) : PSpec Tryd.prog 21 [.list 1 (List.map cS a0), .str a1] (.bool r) := by
  unfold ref6_HasString at h
  refine spec_of Tryd.c_ref6_HasString (by simp) ?_
  unfold Tryd.l_ref6_HasString
  refine Ev.seq ?_
  refine W.reg hm ?_
  refine W.mv rfl ?_
  refine W.nil ?_
  refine Ev.seq ?_
  refine Ev.seq ?_
  refine W.reg hm ?_
  refine W.mv rfl ?_
  refine W.nil ?_
  refine Ev.block ?_
  refine Ev.loopW (β := Nat × Int) (fun v => ⟨[(0, .list 1 (List.map cS a0)), (1, .str a1), (5, .int .i64 v.2)], [], 2⟩) (fun v => ref6_HasString_l1 n a0 a1 v.1 v.2 = some r) (fun v => v.1) (n, 0) (Wk.nrmTo [0, 1, 5] [] rfl rfl) h ?_
  intro ⟨m1, x1⟩ h
  try dsimp only at h ⊢
  cases m1 with
  | zero => rw [ref6_HasString_l1] at h; cases h
  | succ m1 =>
    rw [ref6_HasString_l1] at h
    refine Ev.seq ?_
    refine Ev.seq ?_
    refine W.reg hm ?_
    refine W.mv rfl ?_
    refine W.mv rfl ?_
    refine W.lenL (c := cS) rfl ?_
    refine W.lss rfl rfl ?_
    refine W.nil ?_
    refine Ev.cond rfl (fun c1 => ?_) (fun c1 => ?_)
    · replace h := iteT h c1
      refine Ev.skip ?_
      refine Ev.seq ?_
      refine Ev.block ?_
      refine Ev.seq ?_
      refine W.reg hm ?_
      refine W.mv rfl ?_
      refine W.mv rfl ?_
      obtain ⟨e2, k2, h⟩ := obind h
      refine W.idxL (c := cS) rfl rfl k2 ?_
      refine W.load rfl rfl ?_
      refine W.mv rfl ?_
      refine W.seql rfl rfl ?_
      refine W.nil ?_
      refine Ev.cond rfl (fun c3 => ?_) (fun c3 => ?_)
      · replace h := iteT h c3
        refine Ev.seq ?_
        refine W.reg hm ?_
        refine W.mv rfl ?_
        refine W.nil ?_
        refine Ev.ret ?_
        injection h with h; subst h
        exact ⟨_, rfl, .refl _⟩
      · replace h := iteF h c3
        refine Ev.skip ?_
        refine W.reg hm ?_
        refine W.mv rfl ?_
        obtain ⟨x3, k4, h⟩ := obind h
        refine W.addG rfl rfl k4 ?_
        refine W.mv rfl ?_
        refine W.nil ?_
        exact ⟨(m1, x3), h, Nat.lt_succ_self _, Wk.nrmTo [0, 1, 5] [] rfl rfl⟩
    · replace h := iteF h c1
      refine Ev.exit ?_
      refine Ev.seq ?_
      refine W.reg hm ?_
      refine W.mv rfl ?_
      refine W.nil ?_
      refine Ev.ret ?_
      injection h with h; subst h
      exact ⟨_, rfl, .refl _⟩

theorem law6_with_spec (n : Nat) (a0 : SInputsOpsOutput) (a1 : List SKindText) (r : SInputsOpsOutput) (h : law6_with n a0 a1 = some r) : PSpec Tryd.prog 22 [.agg (SInputsOpsOutput.cells a0), .list 2 (List.map SKindText.cells a1)] (.agg (SInputsOpsOutput.cells r)) := by
  unfold law6_with at h
  refine spec_of Tryd.c_law6_with (by simp) ?_
  unfold Tryd.l_law6_with
  refine Ev.seq ?_
  refine W.reg hm ?_
  refine W.box (dt := true) (cs := [.list 1 (List.map cS a0.Inputs), .list 2 (List.map SKindText.cells a0.Ops), .str a0.Output]) rfl rfl rfl rfl rfl rfl ?_
  refine W.alloc (dt := true) rfl rfl rfl ?_
  refine W.nil ?_
  refine Ev.seq ?_
  refine W.reg hm ?_
  refine W.mv rfl ?_
  refine W.nil ?_
  refine Ev.seq ?_
  refine W.reg hm ?_
  refine W.mv rfl ?_
  refine W.fieldAddrO rfl rfl ?_
  refine W.loadO (p := .list 2 (List.map SKindText.cells a0.Ops)) rfl rfl rfl rfl ?_
  obtain ⟨w1, k1, h⟩ := obind h
  refine W.appN true (c := SKindText.cells) (ys := a0.Ops) rfl rfl rfl rfl k1 rfl ?_
  refine W.mv rfl ?_
  refine W.nil ?_
  refine Ev.seq ?_
  refine W.reg hm ?_
  refine W.mv rfl ?_
  refine W.mv rfl ?_
  obtain ⟨w2, k2, h⟩ := obind h
  refine W.appR true (l := w1) (c := SKindText.cells) (ys := a1) rfl rfl rfl rfl rfl rfl rfl rfl k2 rfl (by simp) ?_
  refine W.fieldAddrO rfl rfl ?_
  refine W.store (es' := [[.list 1 (List.map cS a0.Inputs), .own 12 2, .str a0.Output]]) (dt := false) rfl rfl rfl rfl rfl (Nat.le_of_ble_eq_true rfl) rfl rfl rfl rfl ?_
  refine W.nil ?_
  refine Ev.seq ?_
  refine W.reg hm ?_
  refine W.loadO (p := .agg [.list 1 (List.map cS a0.Inputs), .own 12 2, .str a0.Output]) rfl rfl rfl rfl ?_
  refine W.store (es' := [[.list 1 (List.map cS a0.Inputs), .own 12 2, .str a0.Output]]) (dt := false) rfl rfl rfl rfl rfl (Nat.le_of_ble_eq_true rfl) rfl rfl rfl rfl ?_
  refine W.nil ?_
  refine Ev.weak ?_ (Wk.frz 12 2 rfl rfl)
  refine Ev.ret ?_
  injection h with h; subst h
  exact ⟨_, rfl, .refl _⟩

set_option maxHeartbeats 4000000 in
theorem law6_SandboxFinalOperations_spec (n : Nat) (a0 : SInputsOpsOutput) (a1 : SFiles) (r : Bool) (h : law6_SandboxFinalOperations n a0 a1 = some r) : PSpec Tryd.prog 7 [.agg (SInputsOpsOutput.cells a0), .agg (SFiles.cells a1)] (.bool r) := by
  unfold law6_SandboxFinalOperations at h
  refine spec_of Tryd.c_law6_SandboxFinalOperations (by simp) ?_
  unfold Tryd.l_law6_SandboxFinalOperations
  refine Ev.seq ?_
  refine W.reg hm ?_
  refine W.box (dt := true) (cs := [.list 1 (List.map cS a0.Inputs), .list 2 (List.map SKindText.cells a0.Ops), .str a0.Output]) rfl rfl rfl rfl rfl rfl ?_
  refine W.box (dt := true) (cs := [.list 2 (List.map SPathLines.cells a1.Files)]) rfl rfl rfl rfl rfl rfl ?_
  refine W.mv rfl ?_
  refine W.nil ?_
  refine Ev.seq ?_
  refine Ev.seq ?_
  refine W.reg hm ?_
  obtain ⟨r1, k1, h⟩ := obind h
  refine W.call (law6_runs_spec n r1 k1) rfl rfl (Les.refl _) rfl (.inl rfl) rfl ?_
  refine W.not rfl ?_
  refine W.nil ?_
  refine Ev.cond rfl (fun c2 => ?_) (fun c2 => ?_)
  · replace h := iteT h c2
    refine Ev.seq ?_
    refine W.reg hm ?_
    refine W.mv rfl ?_
    refine W.nil ?_
    refine Ev.ret ?_
    injection h with h; subst h
    exact ⟨_, rfl, .refl _⟩
  · replace h := iteF h c2
    refine Ev.skip ?_
    refine Ev.seq ?_
    refine Ev.seq ?_
    refine W.reg hm ?_
    refine W.fieldAddrO rfl rfl ?_
    refine W.loadO (p := .list 2 (List.map SKindText.cells a0.Ops)) rfl rfl rfl rfl ?_
    refine W.lenL (c := SKindText.cells) rfl ?_
    refine W.gtr rfl rfl ?_
    refine W.nil ?_
    refine Ev.cond rfl (fun c3 => ?_) (fun c3 => ?_)
    · replace h := iteT h c3
      refine Ev.seq ?_
      refine W.reg hm ?_
      refine W.mv rfl ?_
      refine W.nil ?_
      refine Ev.ret ?_
      injection h with h; subst h
      exact ⟨_, rfl, .refl _⟩
    · replace h := iteF h c3
      refine Ev.skip ?_
      refine Ev.seq ?_
      refine W.reg hm ?_
      refine W.loadO (p := .agg [.list 1 (List.map cS a0.Inputs), .list 2 (List.map SKindText.cells a0.Ops), .str a0.Output]) rfl rfl rfl rfl ?_
      refine W.loadO (p := .agg [.list 2 (List.map SPathLines.cells a1.Files)]) rfl rfl rfl rfl ?_
      obtain ⟨r2, k4, h⟩ := obind h
      refine W.call (sandbox_Run_spec n a0 a1 r2 k4) rfl rfl (Les.refl _) rfl (.inl rfl) rfl ?_
      refine W.mv rfl ?_
      refine W.extract rfl rfl ?_
      refine W.extract rfl rfl ?_
      refine W.alloc (dt := true) rfl rfl rfl ?_
      refine W.mv rfl ?_
      refine W.store (es' := [[.int .i64 r2.2.Code, .int .i64 r2.2.Index]]) (dt := true) rfl rfl rfl rfl rfl (Nat.le_of_ble_eq_true rfl) rfl rfl rfl rfl ?_
      refine W.nil ?_
      refine Ev.seq ?_
      refine W.regD hm ?_
      refine W.loadO (p := .agg [.list 1 (List.map cS a0.Inputs), .list 2 (List.map SKindText.cells a0.Ops), .str a0.Output]) rfl rfl rfl rfl ?_
      refine W.build (cs := [.int .i64 4, .str ([] : List UInt8)]) rfl rfl rfl ?_
      refine W.build (cs := [.int .i64 4, .str ([] : List UInt8)]) rfl rfl rfl ?_
      refine W.mkSlice (dt := true) (es := [[.int .i64 4, .str ([] : List UInt8)], [.int .i64 4, .str ([] : List UInt8)]]) rfl rfl rfl rfl rfl rfl ?_
      obtain ⟨r3, k5, h⟩ := obind h
      refine W.callEat (args := [.agg (SInputsOpsOutput.cells a0)]) (ys := [.agg [.list 1 (List.map cS a0.Inputs), .list 2 (List.map SKindText.cells a0.Ops), .str a0.Output]]) (law6_with_spec n a0 ([(⟨4, ([] : List UInt8)⟩ : SKindText), (⟨4, ([] : List UInt8)⟩ : SKindText)] : List SKindText) r3 k5) rfl (Les.refl _) rfl rfl rfl (fun _ => rfl) rfl rfl rfl ?_
      refine W.loadO (p := .agg [.list 2 (List.map SPathLines.cells a1.Files)]) rfl rfl rfl rfl ?_
      obtain ⟨r4, k6, h⟩ := obind h
      refine W.call (sandbox_Run_spec n r3 a1 r4 k6) rfl rfl (Les.refl _) rfl (.inl rfl) rfl ?_
      refine W.mv rfl ?_
      refine W.extract rfl rfl ?_
      refine W.extract rfl rfl ?_
      refine W.alloc (dt := true) rfl rfl rfl ?_
      refine W.mv rfl ?_
      refine W.store (es' := [[.int .i64 r4.2.Code, .int .i64 r4.2.Index]]) (dt := true) rfl rfl rfl rfl rfl (Nat.le_of_ble_eq_true rfl) rfl rfl rfl rfl ?_
      refine W.nil ⟨rfl, ?_⟩
      refine Ev.seq ?_
      refine W.regD hm ?_
      refine W.loadO (p := .agg [.list 1 (List.map cS a0.Inputs), .list 2 (List.map SKindText.cells a0.Ops), .str a0.Output]) rfl rfl rfl rfl ?_
      refine W.build (cs := [.int .i64 5, .str ([] : List UInt8)]) rfl rfl rfl ?_
      refine W.mkSlice (dt := true) (es := [[.int .i64 5, .str ([] : List UInt8)]]) rfl rfl rfl rfl rfl rfl ?_
      obtain ⟨r5, k7, h⟩ := obind h
      refine W.callEat (args := [.agg (SInputsOpsOutput.cells a0)]) (ys := [.agg [.list 1 (List.map cS a0.Inputs), .list 2 (List.map SKindText.cells a0.Ops), .str a0.Output]]) (law6_with_spec n a0 ([(⟨5, ([] : List UInt8)⟩ : SKindText)] : List SKindText) r5 k7) rfl (Les.refl _) rfl rfl rfl (fun _ => rfl) rfl rfl rfl ?_
      refine W.loadO (p := .agg [.list 2 (List.map SPathLines.cells a1.Files)]) rfl rfl rfl rfl ?_
      obtain ⟨r6, k8, h⟩ := obind h
      refine W.call (sandbox_Run_spec n r5 a1 r6 k8) rfl rfl (Les.refl _) rfl (.inl rfl) rfl ?_
      refine W.mv rfl ?_
      refine W.extract rfl rfl ?_
      refine W.extract rfl rfl ?_
      refine W.alloc (dt := true) rfl rfl rfl ?_
      refine W.mv rfl ?_
      refine W.store (es' := [[.int .i64 r6.2.Code, .int .i64 r6.2.Index]]) (dt := true) rfl rfl rfl rfl rfl (Nat.le_of_ble_eq_true rfl) rfl rfl rfl rfl ?_
      refine W.nil ⟨rfl, ?_⟩
      refine Ev.seq ?_
      refine W.regD hm ?_
      refine W.loadO (p := .agg [.list 1 (List.map cS a0.Inputs), .list 2 (List.map SKindText.cells a0.Ops), .str a0.Output]) rfl rfl rfl rfl ?_
      refine W.build (cs := [.int .i64 5, .str ([] : List UInt8)]) rfl rfl rfl ?_
      refine W.build (cs := [.int .i64 5, .str ([] : List UInt8)]) rfl rfl rfl ?_
      refine W.mkSlice (dt := true) (es := [[.int .i64 5, .str ([] : List UInt8)], [.int .i64 5, .str ([] : List UInt8)]]) rfl rfl rfl rfl rfl rfl ?_
      obtain ⟨r7, k9, h⟩ := obind h
      refine W.callEat (args := [.agg (SInputsOpsOutput.cells a0)]) (ys := [.agg [.list 1 (List.map cS a0.Inputs), .list 2 (List.map SKindText.cells a0.Ops), .str a0.Output]]) (law6_with_spec n a0 ([(⟨5, ([] : List UInt8)⟩ : SKindText), (⟨5, ([] : List UInt8)⟩ : SKindText)] : List SKindText) r7 k9) rfl (Les.refl _) rfl rfl rfl (fun _ => rfl) rfl rfl rfl ?_
      refine W.loadO (p := .agg [.list 2 (List.map SPathLines.cells a1.Files)]) rfl rfl rfl rfl ?_
      obtain ⟨r8, k10, h⟩ := obind h
      refine W.call (sandbox_Run_spec n r7 a1 r8 k10) rfl rfl (Les.refl _) rfl (.inl rfl) rfl ?_
      refine W.mv rfl ?_
      refine W.extract rfl rfl ?_
      refine W.extract rfl rfl ?_
      refine W.alloc (dt := true) rfl rfl rfl ?_
      refine W.mv rfl ?_
      refine W.store (es' := [[.int .i64 r8.2.Code, .int .i64 r8.2.Index]]) (dt := true) rfl rfl rfl rfl rfl (Nat.le_of_ble_eq_true rfl) rfl rfl rfl rfl ?_
      refine W.nil ⟨rfl, ?_⟩
      refine Ev.seq ?_
      refine Ev.seq ?_
      refine W.reg hm ?_
      refine W.fieldAddrO rfl rfl ?_
      refine W.loadO (p := .int .i64 r2.2.Code) rfl rfl rfl rfl ?_
      refine W.neq rfl rfl ?_
      refine W.nil ?_
      refine Ev.cond rfl (fun c11 => ?_) (fun c11 => ?_)
      · replace h := iteT h c11
        refine Ev.seqJ (γ := Bool) (fun v => ⟨[(4, .bool v)], [], 2⟩) (fun v => law6_SandboxFinalOperations_j1 n v = some r) ?_ ?_
        · refine W.reg hm ?_
          refine W.loadO (p := .agg [.int .i64 r4.2.Code, .int .i64 r4.2.Index]) rfl rfl rfl rfl ?_
          refine W.loadO (p := .agg [.int .i64 r2.2.Code, .int .i64 r2.2.Index]) rfl rfl rfl rfl ?_
          refine W.eqs rfl rfl rfl ?_
          refine W.mv rfl ?_
          refine W.split 61 rfl (fun c12 => ?_) (fun c12 => ?_)
          · replace h := iteT h c12
            refine W.guardT rfl c12 ?_
            refine W.loadO (p := .agg [.int .i64 r6.2.Code, .int .i64 r6.2.Index]) rfl rfl rfl rfl ?_
            refine W.guardT rfl c12 ?_
            refine W.loadO (p := .agg [.int .i64 r2.2.Code, .int .i64 r2.2.Index]) rfl rfl rfl rfl ?_
            refine W.guardT rfl c12 ?_
            refine W.eqs rfl rfl rfl ?_
            refine W.pickT rfl rfl rfl c12 ?_
            refine W.mv rfl ?_
            refine W.split 66 rfl (fun c13 => ?_) (fun c13 => ?_)
            · replace h := iteT h c13
              refine W.guardT rfl c13 ?_
              refine W.loadO (p := .agg [.int .i64 r8.2.Code, .int .i64 r8.2.Index]) rfl rfl rfl rfl ?_
              refine W.guardT rfl c13 ?_
              refine W.loadO (p := .agg [.int .i64 r2.2.Code, .int .i64 r2.2.Index]) rfl rfl rfl rfl ?_
              refine W.guardT rfl c13 ?_
              refine W.eqs rfl rfl rfl ?_
              refine W.pickT rfl rfl rfl c13 ?_
              refine W.mv rfl ?_
              refine W.split 71 rfl (fun c14 => ?_) (fun c14 => ?_)
              · replace h := iteT h c14
                refine W.guardT rfl c14 ?_
                refine W.mv rfl ?_
                refine W.guardT rfl c14 ?_
                refine W.lenL (c := cS) rfl ?_
                refine W.guardT rfl c14 ?_
                refine W.eql rfl rfl ?_
                refine W.pickT rfl rfl rfl c14 ?_
                refine W.mv rfl ?_
                refine W.nil ?_
                exact ⟨(decide ((r2.1.length : Int) = 0)), h, Wk.nrmTo [4] [] rfl rfl⟩
              · replace h := iteF h c14
                refine W.guardF1 rfl c14 ?_
                refine W.guardF1 rfl c14 ?_
                refine W.guardF1 rfl c14 ?_
                refine W.pickN rfl rfl rfl c14 ?_
                refine W.mv rfl ?_
                refine W.nil ?_
                exact ⟨false, h, Wk.nrmTo [4] [] rfl rfl⟩
            · replace h := iteF h c13
              refine W.guardF1 rfl c13 ?_
              refine W.guardF1 rfl c13 ?_
              refine W.guardF1 rfl c13 ?_
              refine W.pickN rfl rfl rfl c13 ?_
              refine W.mv rfl ?_
              refine W.guardF1 rfl rfl ?_
              refine W.guardF1 rfl rfl ?_
              refine W.guardF1 rfl rfl ?_
              refine W.pickN rfl rfl rfl rfl ?_
              refine W.mv rfl ?_
              refine W.nil ?_
              exact ⟨false, h, Wk.nrmTo [4] [] rfl rfl⟩
          · replace h := iteF h c12
            refine W.guardF1 rfl c12 ?_
            refine W.guardF1 rfl c12 ?_
            refine W.guardF1 rfl c12 ?_
            refine W.pickN rfl rfl rfl c12 ?_
            refine W.mv rfl ?_
            refine W.guardF1 rfl rfl ?_
            refine W.guardF1 rfl rfl ?_
            refine W.guardF1 rfl rfl ?_
            refine W.pickN rfl rfl rfl rfl ?_
            refine W.mv rfl ?_
            refine W.guardF1 rfl rfl ?_
            refine W.guardF1 rfl rfl ?_
            refine W.guardF1 rfl rfl ?_
            refine W.pickN rfl rfl rfl rfl ?_
            refine W.mv rfl ?_
            refine W.nil ?_
            exact ⟨false, h, Wk.nrmTo [4] [] rfl rfl⟩
        · intro x9 h
          try dsimp only at h ⊢
          unfold law6_SandboxFinalOperations_j1 at h
          refine Ev.ret ?_
          injection h with h; subst h
          exact ⟨_, rfl, .refl _⟩
      · replace h := iteF h c11
        refine Ev.skip ?_
        refine Ev.seq ?_
        refine Ev.seqJ (γ := Bool) (fun v => ⟨[(5, .list 1 (List.map cS r2.1)), (9, .list 1 (List.map cS r6.1)), (100, .bool v)], [], 2⟩) (fun v => law6_SandboxFinalOperations_j2 n r2 r6 v = some r) ?_ ?_
        · refine W.reg hm ?_
          refine W.fieldAddrO rfl rfl ?_
          refine W.loadO (p := .int .i64 r4.2.Code) rfl rfl rfl rfl ?_
          refine W.neq rfl rfl ?_
          refine W.mv rfl ?_
          refine W.split 79 rfl (fun c26 => ?_) (fun c26 => ?_)
          · replace h := iteT h c26
            refine W.guardF2 rfl c26 ?_
            refine W.guardF2 rfl c26 ?_
            refine W.guardF2 rfl c26 ?_
            refine W.pickT rfl rfl rfl c26 ?_
            refine W.mv rfl ?_
            refine W.guardF2 rfl rfl ?_
            refine W.guardF2 rfl rfl ?_
            refine W.guardF2 rfl rfl ?_
            refine W.pickT rfl rfl rfl rfl ?_
            refine W.mv rfl ?_
            refine W.guardF2 rfl rfl ?_
            refine W.guardF2 rfl rfl ?_
            refine W.guardF2 rfl rfl ?_
            refine W.guardF2 rfl rfl ?_
            refine W.pickT rfl rfl rfl rfl ?_
            refine W.mv rfl ?_
            refine W.guardF2 rfl rfl ?_
            refine W.guardF2 rfl rfl ?_
            refine W.guardF2 rfl rfl ?_
            refine W.guardF2 rfl rfl ?_
            refine W.pickT rfl rfl rfl rfl ?_
            refine W.nil ?_
            exact ⟨true, h, Wk.nrmTo [5, 9, 100] [] rfl rfl⟩
          · replace h := iteF h c26
            refine W.guardT rfl c26 ?_
            refine W.fieldAddrO rfl rfl ?_
            refine W.guardT rfl c26 ?_
            refine W.loadO (p := .int .i64 r6.2.Code) rfl rfl rfl rfl ?_
            refine W.guardT rfl c26 ?_
            refine W.neq rfl rfl ?_
            refine W.pickN rfl rfl rfl c26 ?_
            refine W.mv rfl ?_
            refine W.split 84 rfl (fun c27 => ?_) (fun c27 => ?_)
            · replace h := iteT h c27
              refine W.guardF2 rfl c27 ?_
              refine W.guardF2 rfl c27 ?_
              refine W.guardF2 rfl c27 ?_
              refine W.pickT rfl rfl rfl c27 ?_
              refine W.mv rfl ?_
              refine W.guardF2 rfl rfl ?_
              refine W.guardF2 rfl rfl ?_
              refine W.guardF2 rfl rfl ?_
              refine W.guardF2 rfl rfl ?_
              refine W.pickT rfl rfl rfl rfl ?_
              refine W.mv rfl ?_
              refine W.guardF2 rfl rfl ?_
              refine W.guardF2 rfl rfl ?_
              refine W.guardF2 rfl rfl ?_
              refine W.guardF2 rfl rfl ?_
              refine W.pickT rfl rfl rfl rfl ?_
              refine W.nil ?_
              exact ⟨true, h, Wk.nrmTo [5, 9, 100] [] rfl rfl⟩
            · replace h := iteF h c27
              refine W.guardT rfl c27 ?_
              refine W.fieldAddrO rfl rfl ?_
              refine W.guardT rfl c27 ?_
              refine W.loadO (p := .int .i64 r8.2.Code) rfl rfl rfl rfl ?_
              refine W.guardT rfl c27 ?_
              refine W.neq rfl rfl ?_
              refine W.pickN rfl rfl rfl c27 ?_
              refine W.mv rfl ?_
              refine W.split 89 rfl (fun c28 => ?_) (fun c28 => ?_)
              · replace h := iteT h c28
                refine W.guardF2 rfl c28 ?_
                refine W.guardF2 rfl c28 ?_
                refine W.guardF2 rfl c28 ?_
                refine W.guardF2 rfl c28 ?_
                refine W.pickT rfl rfl rfl c28 ?_
                refine W.mv rfl ?_
                refine W.guardF2 rfl rfl ?_
                refine W.guardF2 rfl rfl ?_
                refine W.guardF2 rfl rfl ?_
                refine W.guardF2 rfl rfl ?_
                refine W.pickT rfl rfl rfl rfl ?_
                refine W.nil ?_
                exact ⟨true, h, Wk.nrmTo [5, 9, 100] [] rfl rfl⟩
              · replace h := iteF h c28
                refine W.guardT rfl c28 ?_
                refine W.mv rfl ?_
                refine W.guardT rfl c28 ?_
                refine W.mv rfl ?_
                refine W.guardT rfl c28 ?_
                obtain ⟨r19, k29, h⟩ := obind h
                refine W.call (ref6_Strings_spec n r2.1 r4.1 r19 k29) rfl rfl (Les.refl _) rfl (.inl rfl) rfl ?_
                refine W.guardT rfl c28 ?_
                refine W.not rfl ?_
                refine W.pickN rfl rfl rfl c28 ?_
                refine W.mv rfl ?_
                refine W.split 95 rfl (fun c30 => ?_) (fun c30 => ?_)
                · replace h := iteT h c30
                  refine W.guardF2 rfl c30 ?_
                  refine W.guardF2 rfl c30 ?_
                  refine W.guardF2 rfl c30 ?_
                  refine W.guardF2 rfl c30 ?_
                  refine W.pickT rfl rfl rfl c30 ?_
                  refine W.nil ?_
                  exact ⟨true, h, Wk.nrmTo [5, 9, 100] [] rfl rfl⟩
                · replace h := iteF h c30
                  refine W.guardT rfl c30 ?_
                  refine W.mv rfl ?_
                  refine W.guardT rfl c30 ?_
                  refine W.mv rfl ?_
                  refine W.guardT rfl c30 ?_
                  obtain ⟨r20, k31, h⟩ := obind h
                  refine W.call (ref6_Strings_spec n r6.1 r8.1 r20 k31) rfl rfl (Les.refl _) rfl (.inl rfl) rfl ?_
                  refine W.guardT rfl c30 ?_
                  refine W.not rfl ?_
                  refine W.pickN rfl rfl rfl c30 ?_
                  refine W.nil ?_
                  exact ⟨(!r20), h, Wk.nrmTo [5, 9, 100] [] rfl rfl⟩
        · intro x10 h
          try dsimp only at h ⊢
          unfold law6_SandboxFinalOperations_j2 at h
          refine Ev.cond rfl (fun c15 => ?_) (fun c15 => ?_)
          · replace h := iteT h c15
            refine Ev.seq ?_
            refine W.reg hm ?_
            refine W.mv rfl ?_
            refine W.nil ?_
            refine Ev.ret ?_
            injection h with h; subst h
            exact ⟨_, rfl, .refl _⟩
          · replace h := iteF h c15
            refine Ev.skip ?_
            refine Ev.seq ?_
            refine Ev.seq ?_
            refine W.reg hm ?_
            refine W.mv rfl ?_
            refine W.nil ?_
            refine Ev.block ?_
            refine Ev.loopW (β := Nat × Int) (fun v => ⟨[(5, .list 1 (List.map cS r2.1)), (9, .list 1 (List.map cS r6.1)), (13, .int .i64 v.2)], [], 2⟩) (fun v => law6_SandboxFinalOperations_l1 n r2 r6 v.1 v.2 = some r) (fun v => v.1) (n, 0) (Wk.nrmTo [5, 9, 13] [] rfl rfl) h ?_
            intro ⟨m1, x11⟩ h
            try dsimp only at h ⊢
            cases m1 with
            | zero => rw [law6_SandboxFinalOperations_l1] at h; cases h
            | succ m1 =>
              rw [law6_SandboxFinalOperations_l1] at h
              refine Ev.seq ?_
              refine Ev.seq ?_
              refine W.reg hm ?_
              refine W.mv rfl ?_
              refine W.mv rfl ?_
              refine W.lenL (c := cS) rfl ?_
              refine W.lss rfl rfl ?_
              refine W.nil ?_
              refine Ev.cond rfl (fun c16 => ?_) (fun c16 => ?_)
              · replace h := iteT h c16
                refine Ev.skip ?_
                refine Ev.seq ?_
                refine Ev.block ?_
                refine Ev.seqJ (γ := Bool) (fun v => ⟨[(5, .list 1 (List.map cS r2.1)), (9, .list 1 (List.map cS r6.1)), (13, .int .i64 x11), (129, .bool v)], [], 2⟩) (fun v => law6_SandboxFinalOperations_j3 n x11 (law6_SandboxFinalOperations_l1 n r2 r6 m1) v = some r) ?_ ?_
                · refine W.regD hm ?_
                  refine W.mv rfl ?_
                  refine W.mv rfl ?_
                  refine W.mv rfl ?_
                  obtain ⟨e14, k19, h⟩ := obind h
                  refine W.idxL (c := cS) rfl rfl k19 ?_
                  refine W.load rfl rfl ?_
                  obtain ⟨r15, k20, h⟩ := obind h
                  refine W.call (ref6_HasString_spec n r6.1 e14 r15 k20) rfl rfl (Les.refl _) rfl (.inl rfl) rfl ?_
                  refine W.not rfl ?_
                  refine W.mv rfl ?_
                  refine W.split 114 rfl (fun c21 => ?_) (fun c21 => ?_)
                  · replace h := iteT h c21
                    refine W.guardF2 rfl c21 ?_
                    refine W.guardF2 rfl c21 ?_
                    refine W.guardF2 rfl c21 ?_
                    refine W.guardF2 rfl c21 ?_
                    refine W.guardF2 rfl c21 ?_
                    refine W.guardU rfl ?_
                    refine W.guardU rfl ?_
                    refine W.guardU rfl ?_
                    refine W.guardU rfl ?_
                    refine W.guardU rfl ?_
                    refine W.guardU rfl ?_
                    refine W.guardU rfl ?_
                    refine W.guardU rfl ?_
                    refine W.guardF2 rfl c21 ?_
                    refine W.pickT rfl rfl rfl c21 ?_
                    refine W.nil ⟨rfl, ?_⟩
                    exact ⟨true, h, Wk.nrmTo [5, 9, 13, 129] [] rfl rfl⟩
                  · replace h := iteF h c21
                    refine W.guardT rfl c21 ?_
                    refine W.mv rfl ?_
                    refine W.guardT rfl c21 ?_
                    refine W.mv rfl ?_
                    refine W.guardT rfl c21 ?_
                    refine W.lenL (c := cS) rfl ?_
                    refine W.guardT rfl c21 ?_
                    refine W.lss rfl rfl ?_
                    refine W.guardT rfl c21 ?_
                    refine W.mv rfl ?_
                    refine W.split 119 rfl (fun c22 => ?_) (fun c22 => ?_)
                    · replace h := iteT h c22
                      refine W.guardT rfl c22 ?_
                      refine W.mv rfl ?_
                      refine W.guardT rfl c22 ?_
                      refine W.mv rfl ?_
                      refine W.guardT rfl c22 ?_
                      obtain ⟨s16, k23, h⟩ := obind h
                      refine W.sliceL (c := cS) rfl k23 (ix1 (gcut_some k23).2.2.2.1) ?_
                      refine W.guardT rfl c22 ?_
                      refine W.mv rfl ?_
                      refine W.guardT rfl c22 ?_
                      refine W.mv rfl ?_
                      refine W.guardT rfl c22 ?_
                      obtain ⟨e17, k24, h⟩ := obind h
                      refine W.idxL (c := cS) rfl rfl k24 ?_
                      refine W.guardT rfl c22 ?_
                      refine W.load rfl rfl ?_
                      refine W.guardT rfl c22 ?_
                      obtain ⟨r18, k25, h⟩ := obind h
                      refine W.call (ref6_HasString_spec n s16 e17 r18 k25) rfl rfl (Les.refl _) rfl (.inl rfl) rfl ?_
                      refine W.guardT rfl c21 ?_
                      refine W.pickT rfl rfl rfl c22 ?_
                      refine W.pickN rfl rfl rfl c21 ?_
                      refine W.nil ⟨rfl, ?_⟩
                      exact ⟨r18, h, Wk.nrmTo [5, 9, 13, 129] [] rfl rfl⟩
                    · replace h := iteF h c22
                      refine W.guardF1 rfl c22 ?_
                      refine W.guardF1 rfl c22 ?_
                      refine W.guardF1 rfl c22 ?_
                      refine W.guardF1 rfl c22 ?_
                      refine W.guardF1 rfl c22 ?_
                      refine W.guardF1 rfl c22 ?_
                      refine W.guardF1 rfl c22 ?_
                      refine W.guardF1 rfl c22 ?_
                      refine W.guardT rfl c21 ?_
                      refine W.pickN rfl rfl rfl c22 ?_
                      refine W.pickN rfl rfl rfl c21 ?_
                      refine W.nil ⟨rfl, ?_⟩
                      exact ⟨false, h, Wk.nrmTo [5, 9, 13, 129] [] rfl rfl⟩
                · intro x12 h
                  try dsimp only at h ⊢
                  unfold law6_SandboxFinalOperations_j3 at h
                  refine Ev.cond rfl (fun c17 => ?_) (fun c17 => ?_)
                  · replace h := iteT h c17
                    refine Ev.seq ?_
                    refine W.reg hm ?_
                    refine W.mv rfl ?_
                    refine W.nil ?_
                    refine Ev.ret ?_
                    injection h with h; subst h
                    exact ⟨_, rfl, .refl _⟩
                  · replace h := iteF h c17
                    refine Ev.skip ?_
                    refine W.reg hm ?_
                    refine W.mv rfl ?_
                    obtain ⟨x13, k18, h⟩ := obind h
                    refine W.addG rfl rfl k18 ?_
                    refine W.mv rfl ?_
                    refine W.nil ?_
                    exact ⟨(m1, x13), h, Nat.lt_succ_self _, Wk.nrmTo [5, 9, 13] [] rfl rfl⟩
              · replace h := iteF h c16
                refine Ev.exit ?_
                refine Ev.seq ?_
                refine W.reg hm ?_
                refine W.mv rfl ?_
                refine W.lenL (c := cS) rfl ?_
                refine W.mv rfl ?_
                refine W.lenL (c := cS) rfl ?_
                refine W.leq rfl rfl ?_
                refine W.mv rfl ?_
                refine W.nil ?_
                refine Ev.ret ?_
                injection h with h; subst h
                exact ⟨_, rfl, .refl _⟩
end Go.Proofs.YtadeoaglhaaimaaDoor
