/- The functions compute what the texts of D say. Laid by a program (wip/gen/dec.py). -/
import Derived.Test.YtadeoaglhaaimaaDoorD
import Derived.Test.YtadeoaglhaaimaaDoorW2
namespace Go.Proofs.YtadeoaglhaaimaaDoor
open Go.PW Go
theorem law6_action_spec (n : Nat) (r : SInputsOpsOutput) (h : law6_action n = some r) : PSpec Tryd.prog 27 [] (.agg (SInputsOpsOutput.cells r)) := by
  unfold law6_action at h
  refine spec_of Tryd.c_law6_action (by simp) ?_
  unfold Tryd.l_law6_action
  refine Ev.seq ?_
  refine W.reg hm ?_
  refine W.alloc (dt := true) rfl rfl rfl ?_
  refine W.nil ?_
  refine Ev.seq ?_
  refine W.reg hm ?_
  refine W.mkSlice (dt := true) (es := [[.str ([97] : List UInt8)]]) rfl rfl rfl rfl rfl rfl ?_
  refine W.build (cs := [.int .i64 1, .str ([97] : List UInt8)]) rfl rfl rfl ?_
  refine W.build (cs := [.int .i64 3, .str ([122] : List UInt8)]) rfl rfl rfl ?_
  refine W.build (cs := [.int .i64 4, .str ([] : List UInt8)]) rfl rfl rfl ?_
  refine W.mkSlice (dt := true) (es := [[.int .i64 1, .str ([97] : List UInt8)], [.int .i64 3, .str ([122] : List UInt8)], [.int .i64 4, .str ([] : List UInt8)]]) rfl rfl rfl rfl rfl rfl ?_
  refine W.build (cs := [.own 1 2, .own 5 2, .str ([98] : List UInt8)]) rfl rfl rfl ?_
  refine W.store (es' := [[.own 1 2, .own 5 2, .str ([98] : List UInt8)]]) (dt := false) rfl rfl rfl rfl rfl (Nat.le_of_ble_eq_true rfl) rfl rfl rfl rfl ?_
  refine W.nil ?_
  refine Ev.weak ?_ (Wk.frz 1 2 rfl rfl)
  refine Ev.weak ?_ (Wk.frz 5 2 rfl rfl)
  refine Ev.ret ?_
  injection h with h; subst h
  exact ⟨_, rfl, .refl _⟩

theorem law6_files_spec (n : Nat) (r : SFiles) (h : law6_files n = some r) : PSpec Tryd.prog 28 [] (.agg (SFiles.cells r)) := by
  unfold law6_files at h
  refine spec_of Tryd.c_law6_files (by simp) ?_
  unfold Tryd.l_law6_files
  refine Ev.seq ?_
  refine W.reg hm ?_
  refine W.alloc (dt := true) rfl rfl rfl ?_
  refine W.nil ?_
  refine Ev.seq ?_
  refine W.reg hm ?_
  refine W.mkSlice (dt := true) (es := [[.str ([120] : List UInt8)], [.str ([121] : List UInt8)]]) rfl rfl rfl rfl rfl rfl ?_
  refine W.build (cs := [.str ([97] : List UInt8), .own 1 2]) rfl rfl rfl ?_
  refine W.mkSlice (dt := false) (es := [[.str ([97] : List UInt8), .own 1 2]]) rfl rfl rfl rfl rfl rfl ?_
  refine W.build (cs := [.own 3 2]) rfl rfl rfl ?_
  refine W.store (es' := [[.own 3 2]]) (dt := false) rfl rfl rfl rfl rfl (Nat.le_of_ble_eq_true rfl) rfl rfl rfl rfl ?_
  refine W.nil ?_
  refine Ev.weak ?_ (Wk.frz 1 2 rfl rfl)
  refine Ev.weak ?_ (Wk.frz 3 2 rfl rfl)
  refine Ev.ret ?_
  injection h with h; subst h
  exact ⟨_, rfl, .refl _⟩

theorem law6_fault_spec (n : Nat) (a0 : Int) (a1 : Int) (r : SCodeIndex) (h : law6_fault n a0 a1 = some r) : PSpec Tryd.prog 29 [.int .i64 a0, .int .i64 a1] (.agg (SCodeIndex.cells r)) := by
  unfold law6_fault at h
  refine spec_of Tryd.c_law6_fault (by simp) ?_
  unfold Tryd.l_law6_fault
  refine Ev.seq ?_
  refine W.reg hm ?_
  refine W.alloc (dt := true) rfl rfl rfl ?_
  refine W.nil ?_
  refine Ev.seq ?_
  refine W.reg hm ?_
  refine W.mv rfl ?_
  refine W.mv rfl ?_
  refine W.build (cs := [.int .i64 a0, .int .i64 a1]) rfl rfl rfl ?_
  refine W.store (es' := [[.int .i64 a0, .int .i64 a1]]) (dt := true) rfl rfl rfl rfl rfl (Nat.le_of_ble_eq_true rfl) rfl rfl rfl rfl ?_
  refine W.nil ?_
  refine Ev.ret ?_
  injection h with h; subst h
  exact ⟨_, rfl, .refl _⟩

set_option maxHeartbeats 4000000 in
theorem law6_runs_spec (n : Nat) (r : Bool) (h : law6_runs n = some r) : PSpec Tryd.prog 10 [] (.bool r) := by
  unfold law6_runs at h
  refine spec_of Tryd.c_law6_runs (by simp) ?_
  unfold Tryd.l_law6_runs
  refine Ev.seq ?_
  refine W.reg hm ?_
  refine W.mv rfl ?_
  refine W.nil ?_
  refine Ev.seq ?_
  refine W.reg hm ?_
  obtain ⟨r1, k1, h⟩ := obind h
  refine W.call (law6_action_spec n r1 k1) rfl rfl (Les.refl _) rfl (.inl rfl) rfl ?_
  obtain ⟨r2, k2, h⟩ := obind h
  refine W.call (law6_files_spec n r2 k2) rfl rfl (Les.refl _) rfl (.inl rfl) rfl ?_
  obtain ⟨r3, k3, h⟩ := obind h
  refine W.call (sandbox_Run_spec n r1 r2 r3 k3) rfl rfl (Les.refl _) rfl (.inl rfl) rfl ?_
  refine W.mv rfl ?_
  refine W.extract rfl rfl ?_
  refine W.extract rfl rfl ?_
  refine W.alloc (dt := true) rfl rfl rfl ?_
  refine W.mv rfl ?_
  refine W.store (es' := [[.int .i64 r3.2.Code, .int .i64 r3.2.Index]]) (dt := true) rfl rfl rfl rfl rfl (Nat.le_of_ble_eq_true rfl) rfl rfl rfl rfl ?_
  refine W.nil ?_
  refine Ev.seq ?_
  refine W.reg hm ?_
  obtain ⟨r4, k4, h⟩ := obind h
  refine W.call (law6_action_spec n r4 k4) rfl rfl (Les.refl _) rfl (.inl rfl) rfl ?_
  obtain ⟨r5, k5, h⟩ := obind h
  refine W.call (sandbox_Reads_spec n r4 r5 k5) rfl rfl (Les.refl _) rfl (.inl rfl) rfl ?_
  refine W.mv rfl ?_
  refine W.extract rfl rfl ?_
  refine W.extract rfl rfl ?_
  refine W.alloc (dt := true) rfl rfl rfl ?_
  refine W.mv rfl ?_
  refine W.store (es' := [[.int .i64 r5.2.Code, .int .i64 r5.2.Index]]) (dt := true) rfl rfl rfl rfl rfl (Nat.le_of_ble_eq_true rfl) rfl rfl rfl rfl ?_
  refine W.nil ?_
  refine Ev.seq ?_
  refine W.reg hm ?_
  obtain ⟨r6, k6, h⟩ := obind h
  refine W.call (law6_action_spec n r6 k6) rfl rfl (Les.refl _) rfl (.inl rfl) rfl ?_
  obtain ⟨r7, k7, h⟩ := obind h
  refine W.call (law6_files_spec n r7 k7) rfl rfl (Les.refl _) rfl (.inl rfl) rfl ?_
  obtain ⟨r8, k8, h⟩ := obind h
  refine W.call (sandbox_Restrict_spec n r6 r7 r8 k8) rfl rfl (Les.refl _) rfl (.inl rfl) rfl ?_
  refine W.mv rfl ?_
  refine W.extract rfl rfl ?_
  refine W.extract rfl rfl ?_
  refine W.alloc (dt := true) rfl rfl rfl ?_
  refine W.alloc (dt := true) rfl rfl rfl ?_
  refine W.store (es' := [[.list 2 (List.map SPathLines.cells r8.1.Files)]]) (dt := true) rfl rfl rfl rfl rfl (Nat.le_of_ble_eq_true rfl) rfl rfl rfl rfl ?_
  refine W.store (es' := [[.int .i64 r8.2.Code, .int .i64 r8.2.Index]]) (dt := true) rfl rfl rfl rfl rfl (Nat.le_of_ble_eq_true rfl) rfl rfl rfl rfl ?_
  refine W.nil ?_
  refine Ev.seq ?_
  refine W.reg hm ?_
  obtain ⟨r9, k9, h⟩ := obind h
  refine W.call (law6_action_spec n r9 k9) rfl rfl (Les.refl _) rfl (.inl rfl) rfl ?_
  refine W.alloc (dt := true) rfl rfl rfl ?_
  refine W.store (es' := [[.list 1 (List.map cS r9.Inputs), .list 2 (List.map SKindText.cells r9.Ops), .str r9.Output]]) (dt := true) rfl rfl rfl rfl rfl (Nat.le_of_ble_eq_true rfl) rfl rfl rfl rfl ?_
  refine W.nil ?_
  refine Ev.seq ?_
  refine W.reg hm ?_
  refine W.fieldAddrO rfl rfl ?_
  refine W.store (es' := [[.nils, .list 2 (List.map SKindText.cells r9.Ops), .str r9.Output]]) (dt := true) rfl rfl rfl rfl rfl (Nat.le_of_ble_eq_true rfl) rfl rfl rfl rfl ?_
  refine W.nil ?_
  refine Ev.seq ?_
  refine W.regD hm ?_
  refine W.loadO (p := .agg [.nils, .list 2 (List.map SKindText.cells r9.Ops), .str r9.Output]) rfl rfl rfl rfl ?_
  obtain ⟨r10, k10, h⟩ := obind h
  refine W.call (law6_files_spec n r10 k10) rfl rfl (Les.refl _) rfl (.inl rfl) rfl ?_
  obtain ⟨r11, k11, h⟩ := obind h
  refine W.call (sandbox_Run_spec n (⟨([] : List (List UInt8)), r9.Ops, r9.Output⟩ : SInputsOpsOutput) r10 r11 k11) rfl rfl (.cons (Le.aggs (.cons (.nils 1) (.cons (.refl _) (.cons (.refl _) (.nil)))) rfl) (.cons (.refl _) (.nil))) rfl (.inl rfl) rfl ?_
  refine W.mv rfl ?_
  refine W.extract rfl rfl ?_
  refine W.extract rfl rfl ?_
  refine W.alloc (dt := true) rfl rfl rfl ?_
  refine W.mv rfl ?_
  refine W.store (es' := [[.int .i64 r11.2.Code, .int .i64 r11.2.Index]]) (dt := true) rfl rfl rfl rfl rfl (Nat.le_of_ble_eq_true rfl) rfl rfl rfl rfl ?_
  refine W.nil ⟨rfl, ?_⟩
  refine Ev.seqJ (γ := Bool) (fun v => ⟨[(0, .bool v)], [], 2⟩) (fun v => law6_runs_j1 n v = some r) ?_ ?_
  · refine W.regD hm ?_
    refine W.fieldAddrO rfl rfl ?_
    refine W.loadO (p := .int .i64 r3.2.Code) rfl rfl rfl rfl ?_
    refine W.eql rfl rfl ?_
    refine W.mv rfl ?_
    refine W.split 38 rfl (fun c12 => ?_) (fun c12 => ?_)
    · replace h := iteT h c12
      refine W.guardT rfl c12 ?_
      refine W.fieldAddrO rfl rfl ?_
      refine W.guardT rfl c12 ?_
      refine W.loadO (p := .int .i64 r5.2.Code) rfl rfl rfl rfl ?_
      refine W.guardT rfl c12 ?_
      refine W.eql rfl rfl ?_
      refine W.pickT rfl rfl rfl c12 ?_
      refine W.mv rfl ?_
      refine W.split 43 rfl (fun c13 => ?_) (fun c13 => ?_)
      · replace h := iteT h c13
        refine W.guardT rfl c13 ?_
        refine W.fieldAddrO rfl rfl ?_
        refine W.guardT rfl c13 ?_
        refine W.loadO (p := .int .i64 r8.2.Code) rfl rfl rfl rfl ?_
        refine W.guardT rfl c13 ?_
        refine W.eql rfl rfl ?_
        refine W.pickT rfl rfl rfl c13 ?_
        refine W.mv rfl ?_
        refine W.split 48 rfl (fun c14 => ?_) (fun c14 => ?_)
        · replace h := iteT h c14
          refine W.guardT rfl c14 ?_
          refine W.loadO (p := .agg [.int .i64 r11.2.Code, .int .i64 r11.2.Index]) rfl rfl rfl rfl ?_
          refine W.guardT rfl c14 ?_
          obtain ⟨r13, k15, h⟩ := obind h
          refine W.call (law6_fault_spec n 13 (-3) r13 k15) rfl rfl (Les.refl _) rfl (.inl rfl) rfl ?_
          refine W.guardT rfl c14 ?_
          refine W.eqs rfl rfl rfl ?_
          refine W.pickT rfl rfl rfl c14 ?_
          refine W.mv rfl ?_
          refine W.split 53 rfl (fun c16 => ?_) (fun c16 => ?_)
          · replace h := iteT h c16
            refine W.guardT rfl c16 ?_
            refine W.mv rfl ?_
            refine W.guardT rfl c16 ?_
            refine W.mkSlice (dt := true) (es := [[.str ([122] : List UInt8)], [.str ([121] : List UInt8)], [.str ([120] : List UInt8)]]) rfl rfl rfl rfl rfl rfl ?_
            refine W.guardT rfl c16 ?_
            obtain ⟨r14, k17, h⟩ := obind h
            refine W.call (ref6_Strings_spec n r3.1 ([([122] : List UInt8), ([121] : List UInt8), ([120] : List UInt8)] : List (List UInt8)) r14 k17) rfl rfl (Les.refl _) rfl (.inr rfl) rfl ?_
            refine W.pickT rfl rfl rfl c16 ?_
            refine W.mv rfl ?_
            refine W.split 58 rfl (fun c18 => ?_) (fun c18 => ?_)
            · replace h := iteT h c18
              refine W.guardT rfl c18 ?_
              refine W.mv rfl ?_
              refine W.guardT rfl c18 ?_
              refine W.mkSlice (dt := true) (es := [[.str ([97] : List UInt8)]]) rfl rfl rfl rfl rfl rfl ?_
              refine W.guardT rfl c18 ?_
              obtain ⟨r15, k19, h⟩ := obind h
              refine W.call (ref6_Strings_spec n r5.1 ([([97] : List UInt8)] : List (List UInt8)) r15 k19) rfl rfl (Les.refl _) rfl (.inr rfl) rfl ?_
              refine W.pickT rfl rfl rfl c18 ?_
              refine W.mv rfl ?_
              refine W.split 63 rfl (fun c20 => ?_) (fun c20 => ?_)
              · replace h := iteT h c20
                refine W.guardT rfl c20 ?_
                refine W.loadO (p := .agg [.list 2 (List.map SPathLines.cells r8.1.Files)]) rfl rfl rfl rfl ?_
                refine W.guardT rfl c20 ?_
                obtain ⟨r16, k21, h⟩ := obind h
                refine W.call (law6_files_spec n r16 k21) rfl rfl (Les.refl _) rfl (.inl rfl) rfl ?_
                refine W.guardT rfl c20 ?_
                obtain ⟨r17, k22, h⟩ := obind h
                refine W.call (ref6_Trees_spec n (⟨r8.1.Files⟩ : SFiles) r16 r17 k22) rfl rfl (Les.refl _) rfl (.inl rfl) rfl ?_
                refine W.pickT rfl rfl rfl c20 ?_
                refine W.mv rfl ?_
                refine W.split 68 rfl (fun c23 => ?_) (fun c23 => ?_)
                · replace h := iteT h c23
                  refine W.guardT rfl c23 ?_
                  refine W.build (cs := [.nils, .nils, .str ([] : List UInt8)]) rfl rfl rfl ?_
                  refine W.guardT rfl c23 ?_
                  obtain ⟨r18, k24, h⟩ := obind h
                  refine W.call (sandbox_Validate_spec n (⟨([] : List (List UInt8)), ([] : List SKindText), ([] : List UInt8)⟩ : SInputsOpsOutput) r18 k24) rfl rfl (.cons (Le.aggs (.cons (.nils 1) (.cons (.nils 2) (.cons (.refl _) (.nil)))) rfl) (.nil)) rfl (.inl rfl) rfl ?_
                  refine W.guardT rfl c23 ?_
                  obtain ⟨r19, k25, h⟩ := obind h
                  refine W.call (law6_fault_spec n 12 (-2) r19 k25) rfl rfl (Les.refl _) rfl (.inl rfl) rfl ?_
                  refine W.guardT rfl c23 ?_
                  refine W.eqs rfl rfl rfl ?_
                  refine W.pickT rfl rfl rfl c23 ?_
                  refine W.mv rfl ?_
                  refine W.nil ⟨rfl, ?_⟩
                  exact ⟨((r18.Code == r19.Code && (r18.Index == r19.Index && true)) != false), h, Wk.nrmTo [0] [] rfl rfl⟩
                · replace h := iteF h c23
                  refine W.guardF1 rfl c23 ?_
                  refine W.guardF1 rfl c23 ?_
                  refine W.guardF1 rfl c23 ?_
                  refine W.guardF1 rfl c23 ?_
                  refine W.pickN rfl rfl rfl c23 ?_
                  refine W.mv rfl ?_
                  refine W.nil ⟨rfl, ?_⟩
                  exact ⟨false, h, Wk.nrmTo [0] [] rfl rfl⟩
              · replace h := iteF h c20
                refine W.guardF1 rfl c20 ?_
                refine W.guardF1 rfl c20 ?_
                refine W.guardF1 rfl c20 ?_
                refine W.pickN rfl rfl rfl c20 ?_
                refine W.mv rfl ?_
                refine W.guardF1 rfl rfl ?_
                refine W.guardF1 rfl rfl ?_
                refine W.guardF1 rfl rfl ?_
                refine W.guardF1 rfl rfl ?_
                refine W.pickN rfl rfl rfl rfl ?_
                refine W.mv rfl ?_
                refine W.nil ⟨rfl, ?_⟩
                exact ⟨false, h, Wk.nrmTo [0] [] rfl rfl⟩
            · replace h := iteF h c18
              refine W.guardF1 rfl c18 ?_
              refine W.guardF1 rfl c18 ?_
              refine W.guardF1 rfl c18 ?_
              refine W.pickN rfl rfl rfl c18 ?_
              refine W.mv rfl ?_
              refine W.guardF1 rfl rfl ?_
              refine W.guardF1 rfl rfl ?_
              refine W.guardF1 rfl rfl ?_
              refine W.pickN rfl rfl rfl rfl ?_
              refine W.mv rfl ?_
              refine W.guardF1 rfl rfl ?_
              refine W.guardF1 rfl rfl ?_
              refine W.guardF1 rfl rfl ?_
              refine W.guardF1 rfl rfl ?_
              refine W.pickN rfl rfl rfl rfl ?_
              refine W.mv rfl ?_
              refine W.nil ⟨rfl, ?_⟩
              exact ⟨false, h, Wk.nrmTo [0] [] rfl rfl⟩
          · replace h := iteF h c16
            refine W.guardF1 rfl c16 ?_
            refine W.guardF1 rfl c16 ?_
            refine W.guardF1 rfl c16 ?_
            refine W.pickN rfl rfl rfl c16 ?_
            refine W.mv rfl ?_
            refine W.guardF1 rfl rfl ?_
            refine W.guardF1 rfl rfl ?_
            refine W.guardF1 rfl rfl ?_
            refine W.pickN rfl rfl rfl rfl ?_
            refine W.mv rfl ?_
            refine W.guardF1 rfl rfl ?_
            refine W.guardF1 rfl rfl ?_
            refine W.guardF1 rfl rfl ?_
            refine W.pickN rfl rfl rfl rfl ?_
            refine W.mv rfl ?_
            refine W.guardF1 rfl rfl ?_
            refine W.guardF1 rfl rfl ?_
            refine W.guardF1 rfl rfl ?_
            refine W.guardF1 rfl rfl ?_
            refine W.pickN rfl rfl rfl rfl ?_
            refine W.mv rfl ?_
            refine W.nil ⟨rfl, ?_⟩
            exact ⟨false, h, Wk.nrmTo [0] [] rfl rfl⟩
        · replace h := iteF h c14
          refine W.guardF1 rfl c14 ?_
          refine W.guardF1 rfl c14 ?_
          refine W.guardF1 rfl c14 ?_
          refine W.pickN rfl rfl rfl c14 ?_
          refine W.mv rfl ?_
          refine W.guardF1 rfl rfl ?_
          refine W.guardF1 rfl rfl ?_
          refine W.guardF1 rfl rfl ?_
          refine W.pickN rfl rfl rfl rfl ?_
          refine W.mv rfl ?_
          refine W.guardF1 rfl rfl ?_
          refine W.guardF1 rfl rfl ?_
          refine W.guardF1 rfl rfl ?_
          refine W.pickN rfl rfl rfl rfl ?_
          refine W.mv rfl ?_
          refine W.guardF1 rfl rfl ?_
          refine W.guardF1 rfl rfl ?_
          refine W.guardF1 rfl rfl ?_
          refine W.pickN rfl rfl rfl rfl ?_
          refine W.mv rfl ?_
          refine W.guardF1 rfl rfl ?_
          refine W.guardF1 rfl rfl ?_
          refine W.guardF1 rfl rfl ?_
          refine W.guardF1 rfl rfl ?_
          refine W.pickN rfl rfl rfl rfl ?_
          refine W.mv rfl ?_
          refine W.nil ⟨rfl, ?_⟩
          exact ⟨false, h, Wk.nrmTo [0] [] rfl rfl⟩
      · replace h := iteF h c13
        refine W.guardF1 rfl c13 ?_
        refine W.guardF1 rfl c13 ?_
        refine W.guardF1 rfl c13 ?_
        refine W.pickN rfl rfl rfl c13 ?_
        refine W.mv rfl ?_
        refine W.guardF1 rfl rfl ?_
        refine W.guardF1 rfl rfl ?_
        refine W.guardF1 rfl rfl ?_
        refine W.pickN rfl rfl rfl rfl ?_
        refine W.mv rfl ?_
        refine W.guardF1 rfl rfl ?_
        refine W.guardF1 rfl rfl ?_
        refine W.guardF1 rfl rfl ?_
        refine W.pickN rfl rfl rfl rfl ?_
        refine W.mv rfl ?_
        refine W.guardF1 rfl rfl ?_
        refine W.guardF1 rfl rfl ?_
        refine W.guardF1 rfl rfl ?_
        refine W.pickN rfl rfl rfl rfl ?_
        refine W.mv rfl ?_
        refine W.guardF1 rfl rfl ?_
        refine W.guardF1 rfl rfl ?_
        refine W.guardF1 rfl rfl ?_
        refine W.pickN rfl rfl rfl rfl ?_
        refine W.mv rfl ?_
        refine W.guardF1 rfl rfl ?_
        refine W.guardF1 rfl rfl ?_
        refine W.guardF1 rfl rfl ?_
        refine W.guardF1 rfl rfl ?_
        refine W.pickN rfl rfl rfl rfl ?_
        refine W.mv rfl ?_
        refine W.nil ⟨rfl, ?_⟩
        exact ⟨false, h, Wk.nrmTo [0] [] rfl rfl⟩
    · replace h := iteF h c12
      refine W.guardF1 rfl c12 ?_
      refine W.guardF1 rfl c12 ?_
      refine W.guardF1 rfl c12 ?_
      refine W.pickN rfl rfl rfl c12 ?_
      refine W.mv rfl ?_
      refine W.guardF1 rfl rfl ?_
      refine W.guardF1 rfl rfl ?_
      refine W.guardF1 rfl rfl ?_
      refine W.pickN rfl rfl rfl rfl ?_
      refine W.mv rfl ?_
      refine W.guardF1 rfl rfl ?_
      refine W.guardF1 rfl rfl ?_
      refine W.guardF1 rfl rfl ?_
      refine W.pickN rfl rfl rfl rfl ?_
      refine W.mv rfl ?_
      refine W.guardF1 rfl rfl ?_
      refine W.guardF1 rfl rfl ?_
      refine W.guardF1 rfl rfl ?_
      refine W.pickN rfl rfl rfl rfl ?_
      refine W.mv rfl ?_
      refine W.guardF1 rfl rfl ?_
      refine W.guardF1 rfl rfl ?_
      refine W.guardF1 rfl rfl ?_
      refine W.pickN rfl rfl rfl rfl ?_
      refine W.mv rfl ?_
      refine W.guardF1 rfl rfl ?_
      refine W.guardF1 rfl rfl ?_
      refine W.guardF1 rfl rfl ?_
      refine W.pickN rfl rfl rfl rfl ?_
      refine W.mv rfl ?_
      refine W.guardF1 rfl rfl ?_
      refine W.guardF1 rfl rfl ?_
      refine W.guardF1 rfl rfl ?_
      refine W.guardF1 rfl rfl ?_
      refine W.pickN rfl rfl rfl rfl ?_
      refine W.mv rfl ?_
      refine W.nil ⟨rfl, ?_⟩
      exact ⟨false, h, Wk.nrmTo [0] [] rfl rfl⟩
  · intro x12 h
    try dsimp only at h ⊢
    unfold law6_runs_j1 at h
    refine Ev.ret ?_
    injection h with h; subst h
    exact ⟨_, rfl, .refl _⟩

theorem ref6_fault_spec (n : Nat) (a0 : Int) (a1 : Int) (r : SCodeIndex) (h : ref6_fault n a0 a1 = some r) : PSpec Tryd.prog 24 [.int .i64 a0, .int .i64 a1] (.agg (SCodeIndex.cells r)) := by
  unfold ref6_fault at h
  refine spec_of Tryd.c_ref6_fault (by simp) ?_
  unfold Tryd.l_ref6_fault
  refine Ev.seq ?_
  refine W.reg hm ?_
  refine W.alloc (dt := true) rfl rfl rfl ?_
  refine W.nil ?_
  refine Ev.seq ?_
  refine W.reg hm ?_
  refine W.mv rfl ?_
  refine W.mv rfl ?_
  refine W.build (cs := [.int .i64 a0, .int .i64 a1]) rfl rfl rfl ?_
  refine W.store (es' := [[.int .i64 a0, .int .i64 a1]]) (dt := true) rfl rfl rfl rfl rfl (Nat.le_of_ble_eq_true rfl) rfl rfl rfl rfl ?_
  refine W.nil ?_
  refine Ev.ret ?_
  injection h with h; subst h
  exact ⟨_, rfl, .refl _⟩

set_option maxHeartbeats 4000000 in
theorem ref2_pathByte_spec (n : Nat) (a0 : Int) (r : Bool) (h : ref2_pathByte n a0 = some r) : PSpec Tryd.prog 43 [.int .u8 a0] (.bool r) := by
  unfold ref2_pathByte at h
  refine spec_of Tryd.c_ref2_pathByte (by simp) ?_
  unfold Tryd.l_ref2_pathByte
  refine Ev.seq ?_
  refine W.reg hm ?_
  refine W.mv rfl ?_
  refine W.nil ?_
  refine Ev.seqJ (γ := Bool) (fun v => ⟨[(2, .bool v)], [], 2⟩) (fun v => ref2_pathByte_j1 n v = some r) ?_ ?_
  · refine W.reg hm ?_
    refine W.mv rfl ?_
    refine W.geq rfl rfl ?_
    refine W.mv rfl ?_
    refine W.split 5 rfl (fun c1 => ?_) (fun c1 => ?_)
    · replace h := iteT h c1
      refine W.guardT rfl c1 ?_
      refine W.mv rfl ?_
      refine W.guardT rfl c1 ?_
      refine W.leq rfl rfl ?_
      refine W.pickT rfl rfl rfl c1 ?_
      refine W.mv rfl ?_
      refine W.split 9 rfl (fun c2 => ?_) (fun c2 => ?_)
      · replace h := iteT h c2
        refine W.guardF2 rfl c2 ?_
        refine W.guardF2 rfl c2 ?_
        refine W.guardF2 rfl c2 ?_
        refine W.guardU rfl ?_
        refine W.guardU rfl ?_
        refine W.guardF2 rfl c2 ?_
        refine W.pickT rfl rfl rfl c2 ?_
        refine W.mv rfl ?_
        refine W.guardF2 rfl rfl ?_
        refine W.guardF2 rfl rfl ?_
        refine W.guardF2 rfl rfl ?_
        refine W.guardU rfl ?_
        refine W.guardU rfl ?_
        refine W.guardF2 rfl rfl ?_
        refine W.pickT rfl rfl rfl rfl ?_
        refine W.mv rfl ?_
        refine W.guardF2 rfl rfl ?_
        refine W.guardF2 rfl rfl ?_
        refine W.pickT rfl rfl rfl rfl ?_
        refine W.mv rfl ?_
        refine W.guardF2 rfl rfl ?_
        refine W.guardF2 rfl rfl ?_
        refine W.pickT rfl rfl rfl rfl ?_
        refine W.mv rfl ?_
        refine W.guardF2 rfl rfl ?_
        refine W.guardF2 rfl rfl ?_
        refine W.pickT rfl rfl rfl rfl ?_
        refine W.mv rfl ?_
        refine W.nil ?_
        exact ⟨true, h, Wk.nrmTo [2] [] rfl rfl⟩
      · replace h := iteF h c2
        refine W.guardT rfl c2 ?_
        refine W.mv rfl ?_
        refine W.guardT rfl c2 ?_
        refine W.geq rfl rfl ?_
        refine W.guardT rfl c2 ?_
        refine W.mv rfl ?_
        refine W.split 12 rfl (fun c3 => ?_) (fun c3 => ?_)
        · replace h := iteT h c3
          refine W.guardT rfl c3 ?_
          refine W.mv rfl ?_
          refine W.guardT rfl c3 ?_
          refine W.leq rfl rfl ?_
          refine W.guardT rfl c2 ?_
          refine W.pickT rfl rfl rfl c3 ?_
          refine W.pickN rfl rfl rfl c2 ?_
          refine W.mv rfl ?_
          refine W.split 17 rfl (fun c4 => ?_) (fun c4 => ?_)
          · replace h := iteT h c4
            refine W.guardF2 rfl c4 ?_
            refine W.guardF2 rfl c4 ?_
            refine W.guardF2 rfl c4 ?_
            refine W.guardU rfl ?_
            refine W.guardU rfl ?_
            refine W.guardF2 rfl c4 ?_
            refine W.pickT rfl rfl rfl c4 ?_
            refine W.mv rfl ?_
            refine W.guardF2 rfl rfl ?_
            refine W.guardF2 rfl rfl ?_
            refine W.pickT rfl rfl rfl rfl ?_
            refine W.mv rfl ?_
            refine W.guardF2 rfl rfl ?_
            refine W.guardF2 rfl rfl ?_
            refine W.pickT rfl rfl rfl rfl ?_
            refine W.mv rfl ?_
            refine W.guardF2 rfl rfl ?_
            refine W.guardF2 rfl rfl ?_
            refine W.pickT rfl rfl rfl rfl ?_
            refine W.mv rfl ?_
            refine W.nil ?_
            exact ⟨true, h, Wk.nrmTo [2] [] rfl rfl⟩
          · replace h := iteF h c4
            refine W.guardT rfl c4 ?_
            refine W.mv rfl ?_
            refine W.guardT rfl c4 ?_
            refine W.geq rfl rfl ?_
            refine W.guardT rfl c4 ?_
            refine W.mv rfl ?_
            refine W.split 20 rfl (fun c5 => ?_) (fun c5 => ?_)
            · replace h := iteT h c5
              refine W.guardT rfl c5 ?_
              refine W.mv rfl ?_
              refine W.guardT rfl c5 ?_
              refine W.leq rfl rfl ?_
              refine W.guardT rfl c4 ?_
              refine W.pickT rfl rfl rfl c5 ?_
              refine W.pickN rfl rfl rfl c4 ?_
              refine W.mv rfl ?_
              refine W.split 25 rfl (fun c6 => ?_) (fun c6 => ?_)
              · replace h := iteT h c6
                refine W.guardF2 rfl c6 ?_
                refine W.guardF2 rfl c6 ?_
                refine W.pickT rfl rfl rfl c6 ?_
                refine W.mv rfl ?_
                refine W.guardF2 rfl rfl ?_
                refine W.guardF2 rfl rfl ?_
                refine W.pickT rfl rfl rfl rfl ?_
                refine W.mv rfl ?_
                refine W.guardF2 rfl rfl ?_
                refine W.guardF2 rfl rfl ?_
                refine W.pickT rfl rfl rfl rfl ?_
                refine W.mv rfl ?_
                refine W.nil ?_
                exact ⟨true, h, Wk.nrmTo [2] [] rfl rfl⟩
              · replace h := iteF h c6
                refine W.guardT rfl c6 ?_
                refine W.mv rfl ?_
                refine W.guardT rfl c6 ?_
                refine W.eql rfl rfl ?_
                refine W.pickN rfl rfl rfl c6 ?_
                refine W.mv rfl ?_
                refine W.split 29 rfl (fun c7 => ?_) (fun c7 => ?_)
                · replace h := iteT h c7
                  refine W.guardF2 rfl c7 ?_
                  refine W.guardF2 rfl c7 ?_
                  refine W.pickT rfl rfl rfl c7 ?_
                  refine W.mv rfl ?_
                  refine W.guardF2 rfl rfl ?_
                  refine W.guardF2 rfl rfl ?_
                  refine W.pickT rfl rfl rfl rfl ?_
                  refine W.mv rfl ?_
                  refine W.nil ?_
                  exact ⟨true, h, Wk.nrmTo [2] [] rfl rfl⟩
                · replace h := iteF h c7
                  refine W.guardT rfl c7 ?_
                  refine W.mv rfl ?_
                  refine W.guardT rfl c7 ?_
                  refine W.eql rfl rfl ?_
                  refine W.pickN rfl rfl rfl c7 ?_
                  refine W.mv rfl ?_
                  refine W.split 33 rfl (fun c8 => ?_) (fun c8 => ?_)
                  · replace h := iteT h c8
                    refine W.guardF2 rfl c8 ?_
                    refine W.guardF2 rfl c8 ?_
                    refine W.pickT rfl rfl rfl c8 ?_
                    refine W.mv rfl ?_
                    refine W.nil ?_
                    exact ⟨true, h, Wk.nrmTo [2] [] rfl rfl⟩
                  · replace h := iteF h c8
                    refine W.guardT rfl c8 ?_
                    refine W.mv rfl ?_
                    refine W.guardT rfl c8 ?_
                    refine W.eql rfl rfl ?_
                    refine W.pickN rfl rfl rfl c8 ?_
                    refine W.mv rfl ?_
                    refine W.nil ?_
                    exact ⟨(decide (a0 = 45)), h, Wk.nrmTo [2] [] rfl rfl⟩
            · replace h := iteF h c5
              refine W.guardF1 rfl c5 ?_
              refine W.guardF1 rfl c5 ?_
              refine W.guardT rfl c4 ?_
              refine W.pickN rfl rfl rfl c5 ?_
              refine W.pickN rfl rfl rfl c4 ?_
              refine W.mv rfl ?_
              refine W.guardT rfl rfl ?_
              refine W.mv rfl ?_
              refine W.guardT rfl rfl ?_
              refine W.eql rfl rfl ?_
              refine W.pickN rfl rfl rfl rfl ?_
              refine W.mv rfl ?_
              refine W.split 29 rfl (fun c9 => ?_) (fun c9 => ?_)
              · replace h := iteT h c9
                refine W.guardF2 rfl c9 ?_
                refine W.guardF2 rfl c9 ?_
                refine W.pickT rfl rfl rfl c9 ?_
                refine W.mv rfl ?_
                refine W.guardF2 rfl rfl ?_
                refine W.guardF2 rfl rfl ?_
                refine W.pickT rfl rfl rfl rfl ?_
                refine W.mv rfl ?_
                refine W.nil ?_
                exact ⟨true, h, Wk.nrmTo [2] [] rfl rfl⟩
              · replace h := iteF h c9
                refine W.guardT rfl c9 ?_
                refine W.mv rfl ?_
                refine W.guardT rfl c9 ?_
                refine W.eql rfl rfl ?_
                refine W.pickN rfl rfl rfl c9 ?_
                refine W.mv rfl ?_
                refine W.split 33 rfl (fun c10 => ?_) (fun c10 => ?_)
                · replace h := iteT h c10
                  refine W.guardF2 rfl c10 ?_
                  refine W.guardF2 rfl c10 ?_
                  refine W.pickT rfl rfl rfl c10 ?_
                  refine W.mv rfl ?_
                  refine W.nil ?_
                  exact ⟨true, h, Wk.nrmTo [2] [] rfl rfl⟩
                · replace h := iteF h c10
                  refine W.guardT rfl c10 ?_
                  refine W.mv rfl ?_
                  refine W.guardT rfl c10 ?_
                  refine W.eql rfl rfl ?_
                  refine W.pickN rfl rfl rfl c10 ?_
                  refine W.mv rfl ?_
                  refine W.nil ?_
                  exact ⟨(decide (a0 = 45)), h, Wk.nrmTo [2] [] rfl rfl⟩
        · replace h := iteF h c3
          refine W.guardF1 rfl c3 ?_
          refine W.guardF1 rfl c3 ?_
          refine W.guardT rfl c2 ?_
          refine W.pickN rfl rfl rfl c3 ?_
          refine W.pickN rfl rfl rfl c2 ?_
          refine W.mv rfl ?_
          refine W.guardT rfl rfl ?_
          refine W.mv rfl ?_
          refine W.guardT rfl rfl ?_
          refine W.geq rfl rfl ?_
          refine W.guardT rfl rfl ?_
          refine W.mv rfl ?_
          refine W.split 20 rfl (fun c11 => ?_) (fun c11 => ?_)
          · replace h := iteT h c11
            refine W.guardT rfl c11 ?_
            refine W.mv rfl ?_
            refine W.guardT rfl c11 ?_
            refine W.leq rfl rfl ?_
            refine W.guardT rfl rfl ?_
            refine W.pickT rfl rfl rfl c11 ?_
            refine W.pickN rfl rfl rfl rfl ?_
            refine W.mv rfl ?_
            refine W.split 25 rfl (fun c12 => ?_) (fun c12 => ?_)
            · replace h := iteT h c12
              refine W.guardF2 rfl c12 ?_
              refine W.guardF2 rfl c12 ?_
              refine W.pickT rfl rfl rfl c12 ?_
              refine W.mv rfl ?_
              refine W.guardF2 rfl rfl ?_
              refine W.guardF2 rfl rfl ?_
              refine W.pickT rfl rfl rfl rfl ?_
              refine W.mv rfl ?_
              refine W.guardF2 rfl rfl ?_
              refine W.guardF2 rfl rfl ?_
              refine W.pickT rfl rfl rfl rfl ?_
              refine W.mv rfl ?_
              refine W.nil ?_
              exact ⟨true, h, Wk.nrmTo [2] [] rfl rfl⟩
            · replace h := iteF h c12
              refine W.guardT rfl c12 ?_
              refine W.mv rfl ?_
              refine W.guardT rfl c12 ?_
              refine W.eql rfl rfl ?_
              refine W.pickN rfl rfl rfl c12 ?_
              refine W.mv rfl ?_
              refine W.split 29 rfl (fun c13 => ?_) (fun c13 => ?_)
              · replace h := iteT h c13
                refine W.guardF2 rfl c13 ?_
                refine W.guardF2 rfl c13 ?_
                refine W.pickT rfl rfl rfl c13 ?_
                refine W.mv rfl ?_
                refine W.guardF2 rfl rfl ?_
                refine W.guardF2 rfl rfl ?_
                refine W.pickT rfl rfl rfl rfl ?_
                refine W.mv rfl ?_
                refine W.nil ?_
                exact ⟨true, h, Wk.nrmTo [2] [] rfl rfl⟩
              · replace h := iteF h c13
                refine W.guardT rfl c13 ?_
                refine W.mv rfl ?_
                refine W.guardT rfl c13 ?_
                refine W.eql rfl rfl ?_
                refine W.pickN rfl rfl rfl c13 ?_
                refine W.mv rfl ?_
                refine W.split 33 rfl (fun c14 => ?_) (fun c14 => ?_)
                · replace h := iteT h c14
                  refine W.guardF2 rfl c14 ?_
                  refine W.guardF2 rfl c14 ?_
                  refine W.pickT rfl rfl rfl c14 ?_
                  refine W.mv rfl ?_
                  refine W.nil ?_
                  exact ⟨true, h, Wk.nrmTo [2] [] rfl rfl⟩
                · replace h := iteF h c14
                  refine W.guardT rfl c14 ?_
                  refine W.mv rfl ?_
                  refine W.guardT rfl c14 ?_
                  refine W.eql rfl rfl ?_
                  refine W.pickN rfl rfl rfl c14 ?_
                  refine W.mv rfl ?_
                  refine W.nil ?_
                  exact ⟨(decide (a0 = 45)), h, Wk.nrmTo [2] [] rfl rfl⟩
          · replace h := iteF h c11
            refine W.guardF1 rfl c11 ?_
            refine W.guardF1 rfl c11 ?_
            refine W.guardT rfl rfl ?_
            refine W.pickN rfl rfl rfl c11 ?_
            refine W.pickN rfl rfl rfl rfl ?_
            refine W.mv rfl ?_
            refine W.guardT rfl rfl ?_
            refine W.mv rfl ?_
            refine W.guardT rfl rfl ?_
            refine W.eql rfl rfl ?_
            refine W.pickN rfl rfl rfl rfl ?_
            refine W.mv rfl ?_
            refine W.split 29 rfl (fun c15 => ?_) (fun c15 => ?_)
            · replace h := iteT h c15
              refine W.guardF2 rfl c15 ?_
              refine W.guardF2 rfl c15 ?_
              refine W.pickT rfl rfl rfl c15 ?_
              refine W.mv rfl ?_
              refine W.guardF2 rfl rfl ?_
              refine W.guardF2 rfl rfl ?_
              refine W.pickT rfl rfl rfl rfl ?_
              refine W.mv rfl ?_
              refine W.nil ?_
              exact ⟨true, h, Wk.nrmTo [2] [] rfl rfl⟩
            · replace h := iteF h c15
              refine W.guardT rfl c15 ?_
              refine W.mv rfl ?_
              refine W.guardT rfl c15 ?_
              refine W.eql rfl rfl ?_
              refine W.pickN rfl rfl rfl c15 ?_
              refine W.mv rfl ?_
              refine W.split 33 rfl (fun c16 => ?_) (fun c16 => ?_)
              · replace h := iteT h c16
                refine W.guardF2 rfl c16 ?_
                refine W.guardF2 rfl c16 ?_
                refine W.pickT rfl rfl rfl c16 ?_
                refine W.mv rfl ?_
                refine W.nil ?_
                exact ⟨true, h, Wk.nrmTo [2] [] rfl rfl⟩
              · replace h := iteF h c16
                refine W.guardT rfl c16 ?_
                refine W.mv rfl ?_
                refine W.guardT rfl c16 ?_
                refine W.eql rfl rfl ?_
                refine W.pickN rfl rfl rfl c16 ?_
                refine W.mv rfl ?_
                refine W.nil ?_
                exact ⟨(decide (a0 = 45)), h, Wk.nrmTo [2] [] rfl rfl⟩
    · replace h := iteF h c1
      refine W.guardF1 rfl c1 ?_
      refine W.guardF1 rfl c1 ?_
      refine W.pickN rfl rfl rfl c1 ?_
      refine W.mv rfl ?_
      refine W.guardT rfl rfl ?_
      refine W.mv rfl ?_
      refine W.guardT rfl rfl ?_
      refine W.geq rfl rfl ?_
      refine W.guardT rfl rfl ?_
      refine W.mv rfl ?_
      refine W.split 12 rfl (fun c17 => ?_) (fun c17 => ?_)
      · replace h := iteT h c17
        refine W.guardT rfl c17 ?_
        refine W.mv rfl ?_
        refine W.guardT rfl c17 ?_
        refine W.leq rfl rfl ?_
        refine W.guardT rfl rfl ?_
        refine W.pickT rfl rfl rfl c17 ?_
        refine W.pickN rfl rfl rfl rfl ?_
        refine W.mv rfl ?_
        refine W.split 17 rfl (fun c18 => ?_) (fun c18 => ?_)
        · replace h := iteT h c18
          refine W.guardF2 rfl c18 ?_
          refine W.guardF2 rfl c18 ?_
          refine W.guardF2 rfl c18 ?_
          refine W.guardU rfl ?_
          refine W.guardU rfl ?_
          refine W.guardF2 rfl c18 ?_
          refine W.pickT rfl rfl rfl c18 ?_
          refine W.mv rfl ?_
          refine W.guardF2 rfl rfl ?_
          refine W.guardF2 rfl rfl ?_
          refine W.pickT rfl rfl rfl rfl ?_
          refine W.mv rfl ?_
          refine W.guardF2 rfl rfl ?_
          refine W.guardF2 rfl rfl ?_
          refine W.pickT rfl rfl rfl rfl ?_
          refine W.mv rfl ?_
          refine W.guardF2 rfl rfl ?_
          refine W.guardF2 rfl rfl ?_
          refine W.pickT rfl rfl rfl rfl ?_
          refine W.mv rfl ?_
          refine W.nil ?_
          exact ⟨true, h, Wk.nrmTo [2] [] rfl rfl⟩
        · replace h := iteF h c18
          refine W.guardT rfl c18 ?_
          refine W.mv rfl ?_
          refine W.guardT rfl c18 ?_
          refine W.geq rfl rfl ?_
          refine W.guardT rfl c18 ?_
          refine W.mv rfl ?_
          refine W.split 20 rfl (fun c19 => ?_) (fun c19 => ?_)
          · replace h := iteT h c19
            refine W.guardT rfl c19 ?_
            refine W.mv rfl ?_
            refine W.guardT rfl c19 ?_
            refine W.leq rfl rfl ?_
            refine W.guardT rfl c18 ?_
            refine W.pickT rfl rfl rfl c19 ?_
            refine W.pickN rfl rfl rfl c18 ?_
            refine W.mv rfl ?_
            refine W.split 25 rfl (fun c20 => ?_) (fun c20 => ?_)
            · replace h := iteT h c20
              refine W.guardF2 rfl c20 ?_
              refine W.guardF2 rfl c20 ?_
              refine W.pickT rfl rfl rfl c20 ?_
              refine W.mv rfl ?_
              refine W.guardF2 rfl rfl ?_
              refine W.guardF2 rfl rfl ?_
              refine W.pickT rfl rfl rfl rfl ?_
              refine W.mv rfl ?_
              refine W.guardF2 rfl rfl ?_
              refine W.guardF2 rfl rfl ?_
              refine W.pickT rfl rfl rfl rfl ?_
              refine W.mv rfl ?_
              refine W.nil ?_
              exact ⟨true, h, Wk.nrmTo [2] [] rfl rfl⟩
            · replace h := iteF h c20
              refine W.guardT rfl c20 ?_
              refine W.mv rfl ?_
              refine W.guardT rfl c20 ?_
              refine W.eql rfl rfl ?_
              refine W.pickN rfl rfl rfl c20 ?_
              refine W.mv rfl ?_
              refine W.split 29 rfl (fun c21 => ?_) (fun c21 => ?_)
              · replace h := iteT h c21
                refine W.guardF2 rfl c21 ?_
                refine W.guardF2 rfl c21 ?_
                refine W.pickT rfl rfl rfl c21 ?_
                refine W.mv rfl ?_
                refine W.guardF2 rfl rfl ?_
                refine W.guardF2 rfl rfl ?_
                refine W.pickT rfl rfl rfl rfl ?_
                refine W.mv rfl ?_
                refine W.nil ?_
                exact ⟨true, h, Wk.nrmTo [2] [] rfl rfl⟩
              · replace h := iteF h c21
                refine W.guardT rfl c21 ?_
                refine W.mv rfl ?_
                refine W.guardT rfl c21 ?_
                refine W.eql rfl rfl ?_
                refine W.pickN rfl rfl rfl c21 ?_
                refine W.mv rfl ?_
                refine W.split 33 rfl (fun c22 => ?_) (fun c22 => ?_)
                · replace h := iteT h c22
                  refine W.guardF2 rfl c22 ?_
                  refine W.guardF2 rfl c22 ?_
                  refine W.pickT rfl rfl rfl c22 ?_
                  refine W.mv rfl ?_
                  refine W.nil ?_
                  exact ⟨true, h, Wk.nrmTo [2] [] rfl rfl⟩
                · replace h := iteF h c22
                  refine W.guardT rfl c22 ?_
                  refine W.mv rfl ?_
                  refine W.guardT rfl c22 ?_
                  refine W.eql rfl rfl ?_
                  refine W.pickN rfl rfl rfl c22 ?_
                  refine W.mv rfl ?_
                  refine W.nil ?_
                  exact ⟨(decide (a0 = 45)), h, Wk.nrmTo [2] [] rfl rfl⟩
          · replace h := iteF h c19
            refine W.guardF1 rfl c19 ?_
            refine W.guardF1 rfl c19 ?_
            refine W.guardT rfl c18 ?_
            refine W.pickN rfl rfl rfl c19 ?_
            refine W.pickN rfl rfl rfl c18 ?_
            refine W.mv rfl ?_
            refine W.guardT rfl rfl ?_
            refine W.mv rfl ?_
            refine W.guardT rfl rfl ?_
            refine W.eql rfl rfl ?_
            refine W.pickN rfl rfl rfl rfl ?_
            refine W.mv rfl ?_
            refine W.split 29 rfl (fun c23 => ?_) (fun c23 => ?_)
            · replace h := iteT h c23
              refine W.guardF2 rfl c23 ?_
              refine W.guardF2 rfl c23 ?_
              refine W.pickT rfl rfl rfl c23 ?_
              refine W.mv rfl ?_
              refine W.guardF2 rfl rfl ?_
              refine W.guardF2 rfl rfl ?_
              refine W.pickT rfl rfl rfl rfl ?_
              refine W.mv rfl ?_
              refine W.nil ?_
              exact ⟨true, h, Wk.nrmTo [2] [] rfl rfl⟩
            · replace h := iteF h c23
              refine W.guardT rfl c23 ?_
              refine W.mv rfl ?_
              refine W.guardT rfl c23 ?_
              refine W.eql rfl rfl ?_
              refine W.pickN rfl rfl rfl c23 ?_
              refine W.mv rfl ?_
              refine W.split 33 rfl (fun c24 => ?_) (fun c24 => ?_)
              · replace h := iteT h c24
                refine W.guardF2 rfl c24 ?_
                refine W.guardF2 rfl c24 ?_
                refine W.pickT rfl rfl rfl c24 ?_
                refine W.mv rfl ?_
                refine W.nil ?_
                exact ⟨true, h, Wk.nrmTo [2] [] rfl rfl⟩
              · replace h := iteF h c24
                refine W.guardT rfl c24 ?_
                refine W.mv rfl ?_
                refine W.guardT rfl c24 ?_
                refine W.eql rfl rfl ?_
                refine W.pickN rfl rfl rfl c24 ?_
                refine W.mv rfl ?_
                refine W.nil ?_
                exact ⟨(decide (a0 = 45)), h, Wk.nrmTo [2] [] rfl rfl⟩
      · replace h := iteF h c17
        refine W.guardF1 rfl c17 ?_
        refine W.guardF1 rfl c17 ?_
        refine W.guardT rfl rfl ?_
        refine W.pickN rfl rfl rfl c17 ?_
        refine W.pickN rfl rfl rfl rfl ?_
        refine W.mv rfl ?_
        refine W.guardT rfl rfl ?_
        refine W.mv rfl ?_
        refine W.guardT rfl rfl ?_
        refine W.geq rfl rfl ?_
        refine W.guardT rfl rfl ?_
        refine W.mv rfl ?_
        refine W.split 20 rfl (fun c25 => ?_) (fun c25 => ?_)
        · replace h := iteT h c25
          refine W.guardT rfl c25 ?_
          refine W.mv rfl ?_
          refine W.guardT rfl c25 ?_
          refine W.leq rfl rfl ?_
          refine W.guardT rfl rfl ?_
          refine W.pickT rfl rfl rfl c25 ?_
          refine W.pickN rfl rfl rfl rfl ?_
          refine W.mv rfl ?_
          refine W.split 25 rfl (fun c26 => ?_) (fun c26 => ?_)
          · replace h := iteT h c26
            refine W.guardF2 rfl c26 ?_
            refine W.guardF2 rfl c26 ?_
            refine W.pickT rfl rfl rfl c26 ?_
            refine W.mv rfl ?_
            refine W.guardF2 rfl rfl ?_
            refine W.guardF2 rfl rfl ?_
            refine W.pickT rfl rfl rfl rfl ?_
            refine W.mv rfl ?_
            refine W.guardF2 rfl rfl ?_
            refine W.guardF2 rfl rfl ?_
            refine W.pickT rfl rfl rfl rfl ?_
            refine W.mv rfl ?_
            refine W.nil ?_
            exact ⟨true, h, Wk.nrmTo [2] [] rfl rfl⟩
          · replace h := iteF h c26
            refine W.guardT rfl c26 ?_
            refine W.mv rfl ?_
            refine W.guardT rfl c26 ?_
            refine W.eql rfl rfl ?_
            refine W.pickN rfl rfl rfl c26 ?_
            refine W.mv rfl ?_
            refine W.split 29 rfl (fun c27 => ?_) (fun c27 => ?_)
            · replace h := iteT h c27
              refine W.guardF2 rfl c27 ?_
              refine W.guardF2 rfl c27 ?_
              refine W.pickT rfl rfl rfl c27 ?_
              refine W.mv rfl ?_
              refine W.guardF2 rfl rfl ?_
              refine W.guardF2 rfl rfl ?_
              refine W.pickT rfl rfl rfl rfl ?_
              refine W.mv rfl ?_
              refine W.nil ?_
              exact ⟨true, h, Wk.nrmTo [2] [] rfl rfl⟩
            · replace h := iteF h c27
              refine W.guardT rfl c27 ?_
              refine W.mv rfl ?_
              refine W.guardT rfl c27 ?_
              refine W.eql rfl rfl ?_
              refine W.pickN rfl rfl rfl c27 ?_
              refine W.mv rfl ?_
              refine W.split 33 rfl (fun c28 => ?_) (fun c28 => ?_)
              · replace h := iteT h c28
                refine W.guardF2 rfl c28 ?_
                refine W.guardF2 rfl c28 ?_
                refine W.pickT rfl rfl rfl c28 ?_
                refine W.mv rfl ?_
                refine W.nil ?_
                exact ⟨true, h, Wk.nrmTo [2] [] rfl rfl⟩
              · replace h := iteF h c28
                refine W.guardT rfl c28 ?_
                refine W.mv rfl ?_
                refine W.guardT rfl c28 ?_
                refine W.eql rfl rfl ?_
                refine W.pickN rfl rfl rfl c28 ?_
                refine W.mv rfl ?_
                refine W.nil ?_
                exact ⟨(decide (a0 = 45)), h, Wk.nrmTo [2] [] rfl rfl⟩
        · replace h := iteF h c25
          refine W.guardF1 rfl c25 ?_
          refine W.guardF1 rfl c25 ?_
          refine W.guardT rfl rfl ?_
          refine W.pickN rfl rfl rfl c25 ?_
          refine W.pickN rfl rfl rfl rfl ?_
          refine W.mv rfl ?_
          refine W.guardT rfl rfl ?_
          refine W.mv rfl ?_
          refine W.guardT rfl rfl ?_
          refine W.eql rfl rfl ?_
          refine W.pickN rfl rfl rfl rfl ?_
          refine W.mv rfl ?_
          refine W.split 29 rfl (fun c29 => ?_) (fun c29 => ?_)
          · replace h := iteT h c29
            refine W.guardF2 rfl c29 ?_
            refine W.guardF2 rfl c29 ?_
            refine W.pickT rfl rfl rfl c29 ?_
            refine W.mv rfl ?_
            refine W.guardF2 rfl rfl ?_
            refine W.guardF2 rfl rfl ?_
            refine W.pickT rfl rfl rfl rfl ?_
            refine W.mv rfl ?_
            refine W.nil ?_
            exact ⟨true, h, Wk.nrmTo [2] [] rfl rfl⟩
          · replace h := iteF h c29
            refine W.guardT rfl c29 ?_
            refine W.mv rfl ?_
            refine W.guardT rfl c29 ?_
            refine W.eql rfl rfl ?_
            refine W.pickN rfl rfl rfl c29 ?_
            refine W.mv rfl ?_
            refine W.split 33 rfl (fun c30 => ?_) (fun c30 => ?_)
            · replace h := iteT h c30
              refine W.guardF2 rfl c30 ?_
              refine W.guardF2 rfl c30 ?_
              refine W.pickT rfl rfl rfl c30 ?_
              refine W.mv rfl ?_
              refine W.nil ?_
              exact ⟨true, h, Wk.nrmTo [2] [] rfl rfl⟩
            · replace h := iteF h c30
              refine W.guardT rfl c30 ?_
              refine W.mv rfl ?_
              refine W.guardT rfl c30 ?_
              refine W.eql rfl rfl ?_
              refine W.pickN rfl rfl rfl c30 ?_
              refine W.mv rfl ?_
              refine W.nil ?_
              exact ⟨(decide (a0 = 45)), h, Wk.nrmTo [2] [] rfl rfl⟩
  · intro x1 h
    try dsimp only at h ⊢
    unfold ref2_pathByte_j1 at h
    refine Ev.ret ?_
    injection h with h; subst h
    exact ⟨_, rfl, .refl _⟩

set_option maxHeartbeats 4000000 in
theorem ref2_PathValid_spec (n : Nat) (a0 : List UInt8) (r : Bool) (h : ref2_PathValid n a0 = some r) : PSpec Tryd.prog 25 [.str a0] (.bool r) := by
  unfold ref2_PathValid at h
  refine spec_of Tryd.c_ref2_PathValid (by simp) ?_
  unfold Tryd.l_ref2_PathValid
  refine Ev.seq ?_
  refine W.reg hm ?_
  refine W.mv rfl ?_
  refine W.nil ?_
  refine Ev.seq ?_
  refine Ev.seq ?_
  refine W.reg hm ?_
  refine W.mv rfl ?_
  refine W.slen rfl ?_
  refine W.gtr rfl rfl ?_
  refine W.nil ?_
  refine Ev.cond rfl (fun c1 => ?_) (fun c1 => ?_)
  · replace h := iteT h c1
    refine Ev.seq ?_
    refine W.reg hm ?_
    refine W.mv rfl ?_
    refine W.nil ?_
    refine Ev.ret ?_
    injection h with h; subst h
    exact ⟨_, rfl, .refl _⟩
  · replace h := iteF h c1
    refine Ev.skip ?_
    refine Ev.seq ?_
    refine W.reg hm ?_
    refine W.mv rfl ?_
    refine W.slen rfl ?_
    refine W.mv rfl ?_
    refine W.nil ?_
    refine Ev.seq ?_
    refine Ev.seq ?_
    refine W.reg hm ?_
    refine W.mv rfl ?_
    refine W.slen rfl ?_
    obtain ⟨x1, k2, h⟩ := obind h
    refine W.subG rfl rfl k2 ?_
    refine W.mv rfl ?_
    refine W.nil ?_
    refine Ev.block ?_
    refine Ev.loopW (β := Nat × Int × Int) (fun v => ⟨[(0, .str a0), (3, .int .i64 v.2.1), (4, .int .i64 v.2.2)], [], 2⟩) (fun v => ref2_PathValid_l1 n a0 v.1 v.2.1 v.2.2 = some r) (fun v => v.1) (n, (a0.length : Int), x1) (Wk.nrmTo [0, 3, 4] [] rfl rfl) h ?_
    intro ⟨m1, x2, x3⟩ h
    try dsimp only at h ⊢
    cases m1 with
    | zero => rw [ref2_PathValid_l1] at h; cases h
    | succ m1 =>
      rw [ref2_PathValid_l1] at h
      refine Ev.seq ?_
      refine Ev.seq ?_
      refine W.reg hm ?_
      refine W.mv rfl ?_
      refine W.geq rfl rfl ?_
      refine W.nil ?_
      refine Ev.cond rfl (fun c3 => ?_) (fun c3 => ?_)
      · replace h := iteT h c3
        refine Ev.skip ?_
        refine Ev.seqJ (γ := Int) (fun v => ⟨[(0, .str a0), (3, .int .i64 v), (4, .int .i64 x3)], [], 2⟩) (fun v => ref2_PathValid_j1 n x3 (ref2_PathValid_l1 n a0 m1) v = some r) ?_ ?_
        · refine Ev.block ?_
          refine Ev.seq ?_
          refine Ev.seqJ (γ := Bool) (fun v => ⟨[(0, .str a0), (3, .int .i64 x2), (4, .int .i64 x3), (25, .bool v)], [], 2⟩) (fun v => ref2_PathValid_j2 n a0 x2 x3 (ref2_PathValid_l1 n a0 m1) v = some r) ?_ ?_
          · refine W.reg hm ?_
            refine W.mv rfl ?_
            refine W.geq rfl rfl ?_
            refine W.mv rfl ?_
            refine W.split 20 rfl (fun c14 => ?_) (fun c14 => ?_)
            · replace h := iteT h c14
              refine W.guardT rfl c14 ?_
              refine W.mv rfl ?_
              refine W.guardT rfl c14 ?_
              refine W.mv rfl ?_
              refine W.guardT rfl c14 ?_
              obtain ⟨y12, k15, h⟩ := obind h
              refine W.sidxG rfl rfl k15 ?_
              refine W.guardT rfl c14 ?_
              refine W.neq rfl rfl ?_
              refine W.pickT rfl rfl rfl c14 ?_
              refine W.nil ?_
              exact ⟨(decide ((y12.toNat : Int) ≠ 47)), h, Wk.nrmTo [0, 3, 4, 25] [] rfl rfl⟩
            · replace h := iteF h c14
              refine W.guardF1 rfl c14 ?_
              refine W.guardF1 rfl c14 ?_
              refine W.guardF1 rfl c14 ?_
              refine W.guardF1 rfl c14 ?_
              refine W.pickN rfl rfl rfl c14 ?_
              refine W.nil ?_
              exact ⟨false, h, Wk.nrmTo [0, 3, 4, 25] [] rfl rfl⟩
          · intro x6 h
            try dsimp only at h ⊢
            unfold ref2_PathValid_j2 at h
            refine Ev.cond rfl (fun c5 => ?_) (fun c5 => ?_)
            · replace h := iteT h c5
              refine Ev.seq ?_
              refine Ev.seq ?_
              refine W.reg hm ?_
              refine W.mv rfl ?_
              refine W.mv rfl ?_
              obtain ⟨y7, k6, h⟩ := obind h
              refine W.sidxG rfl rfl k6 ?_
              obtain ⟨r8, k7, h⟩ := obind h
              refine W.call (ref2_pathByte_spec n (y7.toNat : Int) r8 k7) rfl rfl (Les.refl _) rfl (.inl rfl) rfl ?_
              refine W.not rfl ?_
              refine W.nil ?_
              refine Ev.cond rfl (fun c8 => ?_) (fun c8 => ?_)
              · replace h := iteT h c8
                refine Ev.seq ?_
                refine W.reg hm ?_
                refine W.mv rfl ?_
                refine W.nil ?_
                refine Ev.ret ?_
                injection h with h; subst h
                exact ⟨_, rfl, .refl _⟩
              · replace h := iteF h c8
                refine Ev.skip ?_
                refine Ev.exit ?_
                exact ⟨x2, h, Wk.nrmTo [0, 3, 4] [] rfl rfl⟩
            · replace h := iteF h c5
              refine Ev.skip ?_
              refine Ev.seq ?_
              refine W.reg hm ?_
              refine W.mv rfl ?_
              refine W.mv rfl ?_
              obtain ⟨x9, k9, h⟩ := obind h
              refine W.addG rfl rfl k9 ?_
              refine W.mv rfl ?_
              obtain ⟨s10, k10, h⟩ := obind h
              refine W.ssliceG rfl k10 (ix2 (gcut_some k10).1 (gcut_some k10).2.2.2.1) ?_
              refine W.mv rfl ?_
              refine W.nil ?_
              refine Ev.seq ?_
              refine Ev.seqJ (γ := Bool) (fun v => ⟨[(0, .str a0), (4, .int .i64 x3), (45, .bool v)], [], 2⟩) (fun v => ref2_PathValid_j3 n x3 (ref2_PathValid_l1 n a0 m1) v = some r) ?_ ?_
              · refine W.reg hm ?_
                refine W.mv rfl ?_
                refine W.seql rfl rfl ?_
                refine W.mv rfl ?_
                refine W.split 38 rfl (fun c12 => ?_) (fun c12 => ?_)
                · replace h := iteT h c12
                  refine W.guardF2 rfl c12 ?_
                  refine W.guardF2 rfl c12 ?_
                  refine W.pickT rfl rfl rfl c12 ?_
                  refine W.mv rfl ?_
                  refine W.guardF2 rfl rfl ?_
                  refine W.guardF2 rfl rfl ?_
                  refine W.pickT rfl rfl rfl rfl ?_
                  refine W.nil ?_
                  exact ⟨true, h, Wk.nrmTo [0, 4, 45] [] rfl rfl⟩
                · replace h := iteF h c12
                  refine W.guardT rfl c12 ?_
                  refine W.mv rfl ?_
                  refine W.guardT rfl c12 ?_
                  refine W.seql rfl rfl ?_
                  refine W.pickN rfl rfl rfl c12 ?_
                  refine W.mv rfl ?_
                  refine W.split 42 rfl (fun c13 => ?_) (fun c13 => ?_)
                  · replace h := iteT h c13
                    refine W.guardF2 rfl c13 ?_
                    refine W.guardF2 rfl c13 ?_
                    refine W.pickT rfl rfl rfl c13 ?_
                    refine W.nil ?_
                    exact ⟨true, h, Wk.nrmTo [0, 4, 45] [] rfl rfl⟩
                  · replace h := iteF h c13
                    refine W.guardT rfl c13 ?_
                    refine W.mv rfl ?_
                    refine W.guardT rfl c13 ?_
                    refine W.seql rfl rfl ?_
                    refine W.pickN rfl rfl rfl c13 ?_
                    refine W.nil ?_
                    exact ⟨(decide (s10 = ([46, 46] : List UInt8))), h, Wk.nrmTo [0, 4, 45] [] rfl rfl⟩
              · intro x11 h
                try dsimp only at h ⊢
                unfold ref2_PathValid_j3 at h
                refine Ev.cond rfl (fun c11 => ?_) (fun c11 => ?_)
                · replace h := iteT h c11
                  refine Ev.seq ?_
                  refine W.reg hm ?_
                  refine W.mv rfl ?_
                  refine W.nil ?_
                  refine Ev.ret ?_
                  injection h with h; subst h
                  exact ⟨_, rfl, .refl _⟩
                · replace h := iteF h c11
                  refine Ev.skip ?_
                  refine W.reg hm ?_
                  refine W.mv rfl ?_
                  refine W.mv rfl ?_
                  refine W.nil ?_
                  exact ⟨x3, h, Wk.nrmTo [0, 3, 4] [] rfl rfl⟩
        · intro x4 h
          try dsimp only at h ⊢
          unfold ref2_PathValid_j1 at h
          refine W.reg hm ?_
          refine W.mv rfl ?_
          obtain ⟨x5, k4, h⟩ := obind h
          refine W.subG rfl rfl k4 ?_
          refine W.mv rfl ?_
          refine W.nil ?_
          exact ⟨(m1, x4, x5), h, Nat.lt_succ_self _, Wk.nrmTo [0, 3, 4] [] rfl rfl⟩
      · replace h := iteF h c3
        refine Ev.exit ?_
        refine Ev.seq ?_
        refine W.reg hm ?_
        refine W.mv rfl ?_
        refine W.nil ?_
        refine Ev.ret ?_
        injection h with h; subst h
        exact ⟨_, rfl, .refl _⟩

set_option maxHeartbeats 4000000 in
theorem ref6_lineCode_spec (n : Nat) (a0 : List (List UInt8)) (r : Int) (h : ref6_lineCode n a0 = some r) : PSpec Tryd.prog 44 [.list 1 (List.map cS a0)] (.int .i64 r) := by
  unfold ref6_lineCode at h
  refine spec_of Tryd.c_ref6_lineCode (by simp) ?_
  unfold Tryd.l_ref6_lineCode
  refine Ev.seq ?_
  refine W.reg hm ?_
  refine W.mv rfl ?_
  refine W.nil ?_
  refine Ev.seq ?_
  refine Ev.seq ?_
  refine W.reg hm ?_
  refine W.mv rfl ?_
  refine W.lenL (c := cS) rfl ?_
  refine W.gtr rfl rfl ?_
  refine W.nil ?_
  refine Ev.cond rfl (fun c1 => ?_) (fun c1 => ?_)
  · replace h := iteT h c1
    refine Ev.seq ?_
    refine W.reg hm ?_
    refine W.mv rfl ?_
    refine W.nil ?_
    refine Ev.ret ?_
    injection h with h; subst h
    exact ⟨_, rfl, .refl _⟩
  · replace h := iteF h c1
    refine Ev.skip ?_
    refine Ev.seq ?_
    refine Ev.seq ?_
    refine W.reg hm ?_
    refine W.mv rfl ?_
    refine W.nil ?_
    refine Ev.block ?_
    refine Ev.loopW (β := Nat × Int) (fun v => ⟨[(0, .list 1 (List.map cS a0)), (3, .int .i64 v.2)], [], 2⟩) (fun v => ref6_lineCode_l1 n a0 v.1 v.2 = some r) (fun v => v.1) (n, 0) (Wk.nrmTo [0, 3] [] rfl rfl) h ?_
    intro ⟨m1, x1⟩ h
    try dsimp only at h ⊢
    cases m1 with
    | zero => rw [ref6_lineCode_l1] at h; cases h
    | succ m1 =>
      rw [ref6_lineCode_l1] at h
      refine Ev.seq ?_
      refine Ev.seq ?_
      refine W.reg hm ?_
      refine W.mv rfl ?_
      refine W.mv rfl ?_
      refine W.lenL (c := cS) rfl ?_
      refine W.lss rfl rfl ?_
      refine W.nil ?_
      refine Ev.cond rfl (fun c2 => ?_) (fun c2 => ?_)
      · replace h := iteT h c2
        refine Ev.skip ?_
        refine Ev.seq ?_
        refine Ev.block ?_
        refine Ev.seq ?_
        refine Ev.seq ?_
        refine W.reg hm ?_
        refine W.mv rfl ?_
        refine W.mv rfl ?_
        obtain ⟨e2, k3, h⟩ := obind h
        refine W.idxL (c := cS) rfl rfl k3 ?_
        refine W.load rfl rfl ?_
        refine W.slen rfl ?_
        refine W.gtr rfl rfl ?_
        refine W.nil ?_
        refine Ev.cond rfl (fun c4 => ?_) (fun c4 => ?_)
        · replace h := iteT h c4
          refine Ev.seq ?_
          refine W.reg hm ?_
          refine W.mv rfl ?_
          refine W.nil ?_
          refine Ev.ret ?_
          injection h with h; subst h
          exact ⟨_, rfl, .refl _⟩
        · replace h := iteF h c4
          refine Ev.skip ?_
          refine Ev.seq ?_
          refine W.reg hm ?_
          refine W.mv rfl ?_
          refine W.nil ?_
          refine Ev.block ?_
          refine Ev.loopW (β := Nat × Int) (fun v => ⟨[(0, .list 1 (List.map cS a0)), (3, .int .i64 x1), (4, .int .i64 v.2)], [], 2⟩) (fun v => ref6_lineCode_l2 n x1 (ref6_lineCode_l1 n a0 m1) e2 v.1 v.2 = some r) (fun v => v.1) (n, 0) (Wk.nrmTo [0, 3, 4] [] rfl rfl) h ?_
          intro ⟨m2, x3⟩ h
          try dsimp only at h ⊢
          cases m2 with
          | zero => rw [ref6_lineCode_l2] at h; cases h
          | succ m2 =>
            rw [ref6_lineCode_l2] at h
            refine Ev.seq ?_
            refine Ev.seq ?_
            refine W.reg hm ?_
            refine W.mv rfl ?_
            refine W.mv rfl ?_
            refine W.mv rfl ?_
            refine W.idxL (c := cS) rfl rfl k3 ?_
            refine W.load rfl rfl ?_
            refine W.slen rfl ?_
            refine W.lss rfl rfl ?_
            refine W.nil ?_
            refine Ev.cond rfl (fun c5 => ?_) (fun c5 => ?_)
            · replace h := iteT h c5
              refine Ev.skip ?_
              refine Ev.seq ?_
              refine Ev.block ?_
              refine Ev.seq ?_
              refine W.reg hm ?_
              refine W.mv rfl ?_
              refine W.mv rfl ?_
              refine W.idxL (c := cS) rfl rfl k3 ?_
              refine W.load rfl rfl ?_
              refine W.mv rfl ?_
              obtain ⟨y4, k6, h⟩ := obind h
              refine W.sidxG rfl rfl k6 ?_
              refine W.eql rfl rfl ?_
              refine W.nil ?_
              refine Ev.cond rfl (fun c7 => ?_) (fun c7 => ?_)
              · replace h := iteT h c7
                refine Ev.seq ?_
                refine W.reg hm ?_
                refine W.mv rfl ?_
                refine W.nil ?_
                refine Ev.ret ?_
                injection h with h; subst h
                exact ⟨_, rfl, .refl _⟩
              · replace h := iteF h c7
                refine Ev.skip ?_
                refine W.reg hm ?_
                refine W.mv rfl ?_
                obtain ⟨x5, k8, h⟩ := obind h
                refine W.addG rfl rfl k8 ?_
                refine W.mv rfl ?_
                refine W.nil ?_
                exact ⟨(m2, x5), h, Nat.lt_succ_self _, Wk.nrmTo [0, 3, 4] [] rfl rfl⟩
            · replace h := iteF h c5
              refine Ev.exit ?_
              refine W.reg hm ?_
              refine W.mv rfl ?_
              obtain ⟨x6, k9, h⟩ := obind h
              refine W.addG rfl rfl k9 ?_
              refine W.mv rfl ?_
              refine W.nil ?_
              exact ⟨(m1, x6), h, Nat.lt_succ_self _, Wk.nrmTo [0, 3] [] rfl rfl⟩
      · replace h := iteF h c2
        refine Ev.exit ?_
        refine Ev.seq ?_
        refine W.reg hm ?_
        refine W.mv rfl ?_
        refine W.nil ?_
        refine Ev.ret ?_
        injection h with h; subst h
        exact ⟨_, rfl, .refl _⟩

set_option maxHeartbeats 4000000 in
theorem ref6_opCode_spec (n : Nat) (a0 : SKindText) (r : Int) (h : ref6_opCode n a0 = some r) : PSpec Tryd.prog 26 [.agg (SKindText.cells a0)] (.int .i64 r) := by
  unfold ref6_opCode at h
  refine spec_of Tryd.c_ref6_opCode (by simp) ?_
  unfold Tryd.l_ref6_opCode
  refine Ev.seq ?_
  refine W.reg hm ?_
  refine W.box (dt := true) (cs := [.int .i64 a0.Kind, .str a0.Text]) rfl rfl rfl rfl rfl rfl ?_
  refine W.mv rfl ?_
  refine W.nil ?_
  refine Ev.seq ?_
  refine Ev.seqJ (γ := Bool) (fun v => ⟨[(1, .pown 10100 0 0 0), (10, .bool v)], [(10100, ⟨0, 47, 2, [[.int .i64 a0.Kind, .str a0.Text]], true, false, false⟩)], 2⟩) (fun v => ref6_opCode_j1 n a0 v = some r) ?_ ?_
  · refine W.reg hm ?_
    refine W.fieldAddrO rfl rfl ?_
    refine W.loadO (p := .int .i64 a0.Kind) rfl rfl rfl rfl ?_
    refine W.eql rfl rfl ?_
    refine W.mv rfl ?_
    refine W.split 6 rfl (fun c9 => ?_) (fun c9 => ?_)
    · replace h := iteT h c9
      refine W.guardF2 rfl c9 ?_
      refine W.guardF2 rfl c9 ?_
      refine W.guardF2 rfl c9 ?_
      refine W.pickT rfl rfl rfl c9 ?_
      refine W.nil ?_
      exact ⟨true, h, Wk.nrmTo [1, 10] [(1, 10100)] rfl rfl⟩
    · replace h := iteF h c9
      refine W.guardT rfl c9 ?_
      refine W.fieldAddrO rfl rfl ?_
      refine W.guardT rfl c9 ?_
      refine W.loadO (p := .int .i64 a0.Kind) rfl rfl rfl rfl ?_
      refine W.guardT rfl c9 ?_
      refine W.eql rfl rfl ?_
      refine W.pickN rfl rfl rfl c9 ?_
      refine W.nil ?_
      exact ⟨(decide (a0.Kind = 2)), h, Wk.nrmTo [1, 10] [(1, 10100)] rfl rfl⟩
  · intro x1 h
    try dsimp only at h ⊢
    unfold ref6_opCode_j1 at h
    refine Ev.cond rfl (fun c1 => ?_) (fun c1 => ?_)
    · replace h := iteT h c1
      refine Ev.seq ?_
      refine Ev.seq ?_
      refine W.reg hm ?_
      refine W.fieldAddrO rfl rfl ?_
      refine W.loadO (p := .str a0.Text) rfl rfl rfl rfl ?_
      obtain ⟨r2, k2, h⟩ := obind h
      refine W.call (ref2_PathValid_spec n a0.Text r2 k2) rfl rfl (Les.refl _) rfl (.inl rfl) rfl ?_
      refine W.not rfl ?_
      refine W.nil ?_
      refine Ev.cond rfl (fun c3 => ?_) (fun c3 => ?_)
      · replace h := iteT h c3
        refine Ev.seq ?_
        refine W.reg hm ?_
        refine W.mv rfl ?_
        refine W.nil ?_
        refine Ev.ret ?_
        injection h with h; subst h
        exact ⟨_, rfl, .refl _⟩
      · replace h := iteF h c3
        refine Ev.skip ?_
        refine Ev.seq ?_
        refine W.reg hm ?_
        refine W.mv rfl ?_
        refine W.nil ?_
        refine Ev.ret ?_
        injection h with h; subst h
        exact ⟨_, rfl, .refl _⟩
    · replace h := iteF h c1
      refine Ev.skip ?_
      refine Ev.seq ?_
      refine Ev.seq ?_
      refine W.reg hm ?_
      refine W.fieldAddrO rfl rfl ?_
      refine W.loadO (p := .int .i64 a0.Kind) rfl rfl rfl rfl ?_
      refine W.eql rfl rfl ?_
      refine W.nil ?_
      refine Ev.cond rfl (fun c4 => ?_) (fun c4 => ?_)
      · replace h := iteT h c4
        refine Ev.seq ?_
        refine W.reg hm ?_
        refine W.fieldAddrO rfl rfl ?_
        refine W.loadO (p := .str a0.Text) rfl rfl rfl rfl ?_
        refine W.mkSlice (dt := true) (es := [[.str a0.Text]]) rfl rfl rfl rfl rfl rfl ?_
        obtain ⟨r3, k5, h⟩ := obind h
        refine W.call (ref6_lineCode_spec n ([a0.Text] : List (List UInt8)) r3 k5) rfl rfl (Les.refl _) rfl (.inr rfl) rfl ?_
        refine W.mv rfl ?_
        refine W.nil ?_
        refine Ev.ret ?_
        injection h with h; subst h
        exact ⟨_, rfl, .refl _⟩
      · replace h := iteF h c4
        refine Ev.skip ?_
        refine Ev.seq ?_
        refine Ev.seqJ (γ := Bool) (fun v => ⟨[(1, .pown 10200 0 0 0), (29, .bool v)], [(10200, ⟨0, 47, 2, [[.int .i64 a0.Kind, .str a0.Text]], true, false, false⟩)], 2⟩) (fun v => ref6_opCode_j2 n a0 v = some r) ?_ ?_
        · refine W.reg hm ?_
          refine W.fieldAddrO rfl rfl ?_
          refine W.loadO (p := .int .i64 a0.Kind) rfl rfl rfl rfl ?_
          refine W.eql rfl rfl ?_
          refine W.mv rfl ?_
          refine W.split 25 rfl (fun c8 => ?_) (fun c8 => ?_)
          · replace h := iteT h c8
            refine W.guardF2 rfl c8 ?_
            refine W.guardF2 rfl c8 ?_
            refine W.guardF2 rfl c8 ?_
            refine W.pickT rfl rfl rfl c8 ?_
            refine W.nil ?_
            exact ⟨true, h, Wk.nrmTo [1, 29] [(10100, 10200)] rfl rfl⟩
          · replace h := iteF h c8
            refine W.guardT rfl c8 ?_
            refine W.fieldAddrO rfl rfl ?_
            refine W.guardT rfl c8 ?_
            refine W.loadO (p := .int .i64 a0.Kind) rfl rfl rfl rfl ?_
            refine W.guardT rfl c8 ?_
            refine W.eql rfl rfl ?_
            refine W.pickN rfl rfl rfl c8 ?_
            refine W.nil ?_
            exact ⟨(decide (a0.Kind = 5)), h, Wk.nrmTo [1, 29] [(10100, 10200)] rfl rfl⟩
        · intro x4 h
          try dsimp only at h ⊢
          unfold ref6_opCode_j2 at h
          refine Ev.cond rfl (fun c6 => ?_) (fun c6 => ?_)
          · replace h := iteT h c6
            refine Ev.seq ?_
            refine Ev.seq ?_
            refine W.reg hm ?_
            refine W.fieldAddrO rfl rfl ?_
            refine W.loadO (p := .str a0.Text) rfl rfl rfl rfl ?_
            refine W.sneq rfl rfl ?_
            refine W.nil ?_
            refine Ev.cond rfl (fun c7 => ?_) (fun c7 => ?_)
            · replace h := iteT h c7
              refine Ev.seq ?_
              refine W.reg hm ?_
              refine W.mv rfl ?_
              refine W.nil ?_
              refine Ev.ret ?_
              injection h with h; subst h
              exact ⟨_, rfl, .refl _⟩
            · replace h := iteF h c7
              refine Ev.skip ?_
              refine Ev.seq ?_
              refine W.reg hm ?_
              refine W.mv rfl ?_
              refine W.nil ?_
              refine Ev.ret ?_
              injection h with h; subst h
              exact ⟨_, rfl, .refl _⟩
          · replace h := iteF h c6
            refine Ev.skip ?_
            refine Ev.seq ?_
            refine W.reg hm ?_
            refine W.mv rfl ?_
            refine W.nil ?_
            refine Ev.ret ?_
            injection h with h; subst h
            exact ⟨_, rfl, .refl _⟩

set_option maxHeartbeats 4000000 in
theorem ref6_ActionFault_spec (n : Nat) (a0 : SInputsOpsOutput) (r : SCodeIndex) (h : ref6_ActionFault n a0 = some r) : PSpec Tryd.prog 9 [.agg (SInputsOpsOutput.cells a0)] (.agg (SCodeIndex.cells r)) := by
  unfold ref6_ActionFault at h
  refine spec_of Tryd.c_ref6_ActionFault (by simp) ?_
  unfold Tryd.l_ref6_ActionFault
  refine Ev.seq ?_
  refine W.reg hm ?_
  refine W.box (dt := true) (cs := [.list 1 (List.map cS a0.Inputs), .list 2 (List.map SKindText.cells a0.Ops), .str a0.Output]) rfl rfl rfl rfl rfl rfl ?_
  refine W.alloc (dt := true) rfl rfl rfl ?_
  refine W.nil ?_
  refine Ev.seq ?_
  refine Ev.seqJ (γ := Bool) (fun v => ⟨[(1, .pown 10100 0 0 0), (2, .pown 10101 0 0 0), (15, .bool v)], [(10100, ⟨0, 25, 3, [[.list 1 (List.map cS a0.Inputs), .list 2 (List.map SKindText.cells a0.Ops), .str a0.Output]], true, false, false⟩), (10101, ⟨0, 30, 2, [[.int .i64 0, .int .i64 0]], true, false, false⟩)], 2⟩) (fun v => ref6_ActionFault_j1 n a0 v = some r) ?_ ?_
  · refine W.reg hm ?_
    refine W.fieldAddrO rfl rfl ?_
    refine W.loadO (p := .list 1 (List.map cS a0.Inputs)) rfl rfl rfl rfl ?_
    refine W.lenL (c := cS) rfl ?_
    refine W.gtr rfl rfl ?_
    refine W.mv rfl ?_
    refine W.split 10 rfl (fun c24 => ?_) (fun c24 => ?_)
    · replace h := iteT h c24
      refine W.guardF2 rfl c24 ?_
      refine W.guardF2 rfl c24 ?_
      refine W.guardF2 rfl c24 ?_
      refine W.guardF2 rfl c24 ?_
      refine W.pickT rfl rfl rfl c24 ?_
      refine W.nil ?_
      exact ⟨true, h, Wk.nrmTo [1, 2, 15] [(1, 10100), (2, 10101)] rfl rfl⟩
    · replace h := iteF h c24
      refine W.guardT rfl c24 ?_
      refine W.fieldAddrO rfl rfl ?_
      refine W.guardT rfl c24 ?_
      refine W.loadO (p := .list 2 (List.map SKindText.cells a0.Ops)) rfl rfl rfl rfl ?_
      refine W.guardT rfl c24 ?_
      refine W.lenL (c := SKindText.cells) rfl ?_
      refine W.guardT rfl c24 ?_
      refine W.gtr rfl rfl ?_
      refine W.pickN rfl rfl rfl c24 ?_
      refine W.nil ?_
      exact ⟨(decide (16 < (a0.Ops.length : Int))), h, Wk.nrmTo [1, 2, 15] [(1, 10100), (2, 10101)] rfl rfl⟩
  · intro x1 h
    try dsimp only at h ⊢
    unfold ref6_ActionFault_j1 at h
    refine Ev.cond rfl (fun c1 => ?_) (fun c1 => ?_)
    · replace h := iteT h c1
      refine Ev.seq ?_
      refine W.reg hm ?_
      obtain ⟨r2, k2, h⟩ := obind h
      refine W.call (ref6_fault_spec n 2 (-1) r2 k2) rfl rfl (Les.refl _) rfl (.inl rfl) rfl ?_
      refine W.store (es' := [[.int .i64 r2.Code, .int .i64 r2.Index]]) (dt := true) rfl rfl rfl rfl rfl (Nat.le_of_ble_eq_true rfl) rfl rfl rfl rfl ?_
      refine W.nil ?_
      refine Ev.ret ?_
      injection h with h; subst h
      exact ⟨_, rfl, .refl _⟩
    · replace h := iteF h c1
      refine Ev.skip ?_
      refine Ev.seq ?_
      refine Ev.seq ?_
      refine W.reg hm ?_
      refine W.mv rfl ?_
      refine W.nil ?_
      refine Ev.block ?_
      refine Ev.loopW (β := Nat × Int) (fun v => ⟨[(1, .pown 10200 0 0 0), (2, .pown 10201 0 0 0), (3, .int .i64 v.2)], [(10200, ⟨0, 25, 3, [[.list 1 (List.map cS a0.Inputs), .list 2 (List.map SKindText.cells a0.Ops), .str a0.Output]], true, false, false⟩), (10201, ⟨0, 30, 2, [[.int .i64 0, .int .i64 0]], true, false, false⟩)], 2⟩) (fun v => ref6_ActionFault_l1 n a0 v.1 v.2 = some r) (fun v => v.1) (n, 0) (Wk.nrmTo [1, 2, 3] [(10100, 10200), (10101, 10201)] rfl rfl) h ?_
      intro ⟨m1, x3⟩ h
      try dsimp only at h ⊢
      cases m1 with
      | zero => rw [ref6_ActionFault_l1] at h; cases h
      | succ m1 =>
        rw [ref6_ActionFault_l1] at h
        refine Ev.seq ?_
        refine Ev.seq ?_
        refine W.reg hm ?_
        refine W.mv rfl ?_
        refine W.fieldAddrO rfl rfl ?_
        refine W.loadO (p := .list 1 (List.map cS a0.Inputs)) rfl rfl rfl rfl ?_
        refine W.lenL (c := cS) rfl ?_
        refine W.lss rfl rfl ?_
        refine W.nil ?_
        refine Ev.cond rfl (fun c3 => ?_) (fun c3 => ?_)
        · replace h := iteT h c3
          refine Ev.skip ?_
          refine Ev.seq ?_
          refine Ev.block ?_
          refine Ev.seq ?_
          refine Ev.seq ?_
          refine W.reg hm ?_
          refine W.fieldAddrO rfl rfl ?_
          refine W.loadO (p := .list 1 (List.map cS a0.Inputs)) rfl rfl rfl rfl ?_
          refine W.mv rfl ?_
          obtain ⟨e4, k4, h⟩ := obind h
          refine W.idxL (c := cS) rfl rfl k4 ?_
          refine W.load rfl rfl ?_
          obtain ⟨r5, k5, h⟩ := obind h
          refine W.call (ref2_PathValid_spec n e4 r5 k5) rfl rfl (Les.refl _) rfl (.inl rfl) rfl ?_
          refine W.not rfl ?_
          refine W.nil ?_
          refine Ev.cond rfl (fun c6 => ?_) (fun c6 => ?_)
          · replace h := iteT h c6
            refine Ev.seq ?_
            refine W.reg hm ?_
            refine W.mv rfl ?_
            obtain ⟨r6, k7, h⟩ := obind h
            refine W.call (ref6_fault_spec n 12 x3 r6 k7) rfl rfl (Les.refl _) rfl (.inl rfl) rfl ?_
            refine W.store (es' := [[.int .i64 r6.Code, .int .i64 r6.Index]]) (dt := true) rfl rfl rfl rfl rfl (Nat.le_of_ble_eq_true rfl) rfl rfl rfl rfl ?_
            refine W.nil ?_
            refine Ev.ret ?_
            injection h with h; subst h
            exact ⟨_, rfl, .refl _⟩
          · replace h := iteF h c6
            refine Ev.skip ?_
            refine Ev.seqJ (γ := Bool) (fun v => ⟨[(1, .pown 10300 0 0 0), (2, .pown 10301 0 0 0), (3, .int .i64 x3), (48, .bool v)], [(10300, ⟨0, 25, 3, [[.list 1 (List.map cS a0.Inputs), .list 2 (List.map SKindText.cells a0.Ops), .str a0.Output]], true, false, false⟩), (10301, ⟨0, 30, 2, [[.int .i64 0, .int .i64 0]], true, false, false⟩)], 2⟩) (fun v => ref6_ActionFault_j2 n x3 (ref6_ActionFault_l1 n a0 m1) v = some r) ?_ ?_
            · refine W.regD hm ?_
              refine W.mv rfl ?_
              refine W.gtr rfl rfl ?_
              refine W.mv rfl ?_
              refine W.split 35 rfl (fun c11 => ?_) (fun c11 => ?_)
              · replace h := iteT h c11
                refine W.guardT rfl c11 ?_
                refine W.fieldAddrO rfl rfl ?_
                refine W.guardT rfl c11 ?_
                refine W.loadO (p := .list 1 (List.map cS a0.Inputs)) rfl rfl rfl rfl ?_
                refine W.guardT rfl c11 ?_
                refine W.mv rfl ?_
                refine W.guardT rfl c11 ?_
                refine W.idxL (c := cS) rfl rfl k4 ?_
                refine W.guardT rfl c11 ?_
                refine W.load rfl rfl ?_
                refine W.guardT rfl c11 ?_
                refine W.fieldAddrO rfl rfl ?_
                refine W.guardT rfl c11 ?_
                refine W.loadO (p := .list 1 (List.map cS a0.Inputs)) rfl rfl rfl rfl ?_
                refine W.guardT rfl c11 ?_
                refine W.mv rfl ?_
                refine W.guardT rfl c11 ?_
                obtain ⟨x10, k12, h⟩ := obind h
                refine W.subG rfl rfl k12 ?_
                refine W.guardT rfl c11 ?_
                obtain ⟨e11, k13, h⟩ := obind h
                refine W.idxL (c := cS) rfl rfl k13 ?_
                refine W.guardT rfl c11 ?_
                refine W.load rfl rfl ?_
                refine W.guardT rfl c11 ?_
                refine W.sleq rfl rfl ?_
                refine W.pickT rfl rfl rfl c11 ?_
                refine W.nil ⟨rfl, ?_⟩
                exact ⟨(Op.bytesLess e4 e11 || e4 == e11), h, Wk.nrmTo [1, 2, 3, 48] [(10200, 10300), (10201, 10301)] rfl rfl⟩
              · replace h := iteF h c11
                refine W.guardF1 rfl c11 ?_
                refine W.guardF1 rfl c11 ?_
                refine W.guardF1 rfl c11 ?_
                refine W.guardF1 rfl c11 ?_
                refine W.guardF1 rfl c11 ?_
                refine W.guardF1 rfl c11 ?_
                refine W.guardF1 rfl c11 ?_
                refine W.guardF1 rfl c11 ?_
                refine W.guardF1 rfl c11 ?_
                refine W.guardF1 rfl c11 ?_
                refine W.guardF1 rfl c11 ?_
                refine W.guardF1 rfl c11 ?_
                refine W.pickN rfl rfl rfl c11 ?_
                refine W.nil ⟨rfl, ?_⟩
                exact ⟨false, h, Wk.nrmTo [1, 2, 3, 48] [(10200, 10300), (10201, 10301)] rfl rfl⟩
            · intro x7 h
              try dsimp only at h ⊢
              unfold ref6_ActionFault_j2 at h
              refine Ev.cond rfl (fun c8 => ?_) (fun c8 => ?_)
              · replace h := iteT h c8
                refine Ev.seq ?_
                refine W.reg hm ?_
                refine W.mv rfl ?_
                obtain ⟨r8, k9, h⟩ := obind h
                refine W.call (ref6_fault_spec n 5 x3 r8 k9) rfl rfl (Les.refl _) rfl (.inl rfl) rfl ?_
                refine W.store (es' := [[.int .i64 r8.Code, .int .i64 r8.Index]]) (dt := true) rfl rfl rfl rfl rfl (Nat.le_of_ble_eq_true rfl) rfl rfl rfl rfl ?_
                refine W.nil ?_
                refine Ev.ret ?_
                injection h with h; subst h
                exact ⟨_, rfl, .refl _⟩
              · replace h := iteF h c8
                refine Ev.skip ?_
                refine W.reg hm ?_
                refine W.mv rfl ?_
                obtain ⟨x9, k10, h⟩ := obind h
                refine W.addG rfl rfl k10 ?_
                refine W.mv rfl ?_
                refine W.nil ?_
                exact ⟨(m1, x9), h, Nat.lt_succ_self _, Wk.nrmTo [1, 2, 3] [(10300, 10200), (10301, 10201)] rfl rfl⟩
        · replace h := iteF h c3
          refine Ev.exit ?_
          refine Ev.seq ?_
          refine Ev.seq ?_
          refine W.reg hm ?_
          refine W.fieldAddrO rfl rfl ?_
          refine W.loadO (p := .str a0.Output) rfl rfl rfl rfl ?_
          obtain ⟨r12, k14, h⟩ := obind h
          refine W.call (ref2_PathValid_spec n a0.Output r12 k14) rfl rfl (Les.refl _) rfl (.inl rfl) rfl ?_
          refine W.not rfl ?_
          refine W.nil ?_
          refine Ev.cond rfl (fun c15 => ?_) (fun c15 => ?_)
          · replace h := iteT h c15
            refine Ev.seq ?_
            refine W.reg hm ?_
            obtain ⟨r13, k16, h⟩ := obind h
            refine W.call (ref6_fault_spec n 12 (-2) r13 k16) rfl rfl (Les.refl _) rfl (.inl rfl) rfl ?_
            refine W.store (es' := [[.int .i64 r13.Code, .int .i64 r13.Index]]) (dt := true) rfl rfl rfl rfl rfl (Nat.le_of_ble_eq_true rfl) rfl rfl rfl rfl ?_
            refine W.nil ?_
            refine Ev.ret ?_
            injection h with h; subst h
            exact ⟨_, rfl, .refl _⟩
          · replace h := iteF h c15
            refine Ev.skip ?_
            refine Ev.seq ?_
            refine Ev.seq ?_
            refine W.reg hm ?_
            refine W.mv rfl ?_
            refine W.nil ?_
            refine Ev.block ?_
            refine Ev.loopW (β := Nat × Int) (fun v => ⟨[(1, .pown 10300 0 0 0), (2, .pown 10301 0 0 0), (4, .int .i64 v.2)], [(10300, ⟨0, 25, 3, [[.list 1 (List.map cS a0.Inputs), .list 2 (List.map SKindText.cells a0.Ops), .str a0.Output]], true, false, false⟩), (10301, ⟨0, 30, 2, [[.int .i64 0, .int .i64 0]], true, false, false⟩)], 2⟩) (fun v => ref6_ActionFault_l2 n a0 v.1 v.2 = some r) (fun v => v.1) (n, 0) (Wk.nrmTo [1, 2, 4] [(10200, 10300), (10201, 10301)] rfl rfl) h ?_
            intro ⟨m2, x14⟩ h
            try dsimp only at h ⊢
            cases m2 with
            | zero => rw [ref6_ActionFault_l2] at h; cases h
            | succ m2 =>
              rw [ref6_ActionFault_l2] at h
              refine Ev.seq ?_
              refine Ev.seq ?_
              refine W.reg hm ?_
              refine W.mv rfl ?_
              refine W.fieldAddrO rfl rfl ?_
              refine W.loadO (p := .list 2 (List.map SKindText.cells a0.Ops)) rfl rfl rfl rfl ?_
              refine W.lenL (c := SKindText.cells) rfl ?_
              refine W.lss rfl rfl ?_
              refine W.nil ?_
              refine Ev.cond rfl (fun c17 => ?_) (fun c17 => ?_)
              · replace h := iteT h c17
                refine Ev.skip ?_
                refine Ev.seq ?_
                refine Ev.block ?_
                refine Ev.seq ?_
                refine W.reg hm ?_
                refine W.fieldAddrO rfl rfl ?_
                refine W.loadO (p := .list 2 (List.map SKindText.cells a0.Ops)) rfl rfl rfl rfl ?_
                refine W.mv rfl ?_
                obtain ⟨e15, k18, h⟩ := obind h
                refine W.idxL (c := SKindText.cells) rfl rfl k18 ?_
                refine W.load rfl rfl ?_
                obtain ⟨r16, k19, h⟩ := obind h
                refine W.call (ref6_opCode_spec n e15 r16 k19) rfl rfl (Les.refl _) rfl (.inl rfl) rfl ?_
                refine W.mv rfl ?_
                refine W.nil ?_
                refine Ev.seq ?_
                refine W.reg hm ?_
                refine W.mv rfl ?_
                refine W.neq rfl rfl ?_
                refine W.nil ?_
                refine Ev.cond rfl (fun c20 => ?_) (fun c20 => ?_)
                · replace h := iteT h c20
                  refine Ev.seq ?_
                  refine W.reg hm ?_
                  refine W.mv rfl ?_
                  refine W.mv rfl ?_
                  obtain ⟨x17, k21, h⟩ := obind h
                  refine W.subG rfl rfl k21 ?_
                  obtain ⟨r18, k22, h⟩ := obind h
                  refine W.call (ref6_fault_spec n r16 x17 r18 k22) rfl rfl (Les.refl _) rfl (.inl rfl) rfl ?_
                  refine W.store (es' := [[.int .i64 r18.Code, .int .i64 r18.Index]]) (dt := true) rfl rfl rfl rfl rfl (Nat.le_of_ble_eq_true rfl) rfl rfl rfl rfl ?_
                  refine W.nil ?_
                  refine Ev.ret ?_
                  injection h with h; subst h
                  exact ⟨_, rfl, .refl _⟩
                · replace h := iteF h c20
                  refine Ev.skip ?_
                  refine W.reg hm ?_
                  refine W.mv rfl ?_
                  obtain ⟨x19, k23, h⟩ := obind h
                  refine W.addG rfl rfl k23 ?_
                  refine W.mv rfl ?_
                  refine W.nil ?_
                  exact ⟨(m2, x19), h, Nat.lt_succ_self _, Wk.nrmTo [1, 2, 4] [(10300, 10300), (10301, 10301)] rfl rfl⟩
              · replace h := iteF h c17
                refine Ev.exit ?_
                refine Ev.seq ?_
                refine W.reg hm ?_
                refine W.build (cs := [.int .i64 0, .int .i64 0]) rfl rfl rfl ?_
                refine W.store (es' := [[.int .i64 0, .int .i64 0]]) (dt := true) rfl rfl rfl rfl rfl (Nat.le_of_ble_eq_true rfl) rfl rfl rfl rfl ?_
                refine W.nil ?_
                refine Ev.ret ?_
                injection h with h; subst h
                exact ⟨_, rfl, .refl _⟩

theorem ref1_At_spec (n : Nat) (a0 : Int) (a1 : Int) (r : SCodeIndex) (h : ref1_At n a0 a1 = some r) : PSpec Tryd.prog 74 [.int .i64 a0, .int .i64 a1] (.agg (SCodeIndex.cells r)) := by
  unfold ref1_At at h
  refine spec_of Tryd.c_ref1_At (by simp) ?_
  unfold Tryd.l_ref1_At
  refine Ev.seq ?_
  refine W.reg hm ?_
  refine W.alloc (dt := true) rfl rfl rfl ?_
  refine W.nil ?_
  refine Ev.seq ?_
  refine W.reg hm ?_
  refine W.mv rfl ?_
  refine W.mv rfl ?_
  refine W.build (cs := [.int .i64 a0, .int .i64 a1]) rfl rfl rfl ?_
  refine W.store (es' := [[.int .i64 a0, .int .i64 a1]]) (dt := true) rfl rfl rfl rfl rfl (Nat.le_of_ble_eq_true rfl) rfl rfl rfl rfl ?_
  refine W.nil ?_
  refine Ev.ret ?_
  injection h with h; subst h
  exact ⟨_, rfl, .refl _⟩

theorem ref2_Related_spec : ∀ (n : Nat) (a0 : List UInt8) (a1 : List UInt8) (r : Bool) (h : ref2_Related n a0 a1 = some r), PSpec Tryd.prog 75 [.str a0, .str a1] (.bool r) := by
  intro n
  induction n with
  | zero => intro a0 a1 r h; rw [ref2_Related] at h; cases h
  | succ n ih =>
  intro a0 a1 r h
  rw [ref2_Related] at h
  refine spec_of Tryd.c_ref2_Related (by simp) ?_
  unfold Tryd.l_ref2_Related
  refine Ev.seq ?_
  refine W.reg hm ?_
  refine W.mv rfl ?_
  refine W.nil ?_
  refine Ev.seq ?_
  refine Ev.seq ?_
  refine W.reg hm ?_
  refine W.mv rfl ?_
  refine W.slen rfl ?_
  refine W.mv rfl ?_
  refine W.slen rfl ?_
  refine W.gtr rfl rfl ?_
  refine W.nil ?_
  refine Ev.cond rfl (fun c1 => ?_) (fun c1 => ?_)
  · replace h := iteT h c1
    refine Ev.seq ?_
    refine W.reg hm ?_
    refine W.mv rfl ?_
    refine W.mv rfl ?_
    obtain ⟨r1, k2, h⟩ := obind h
    refine W.call (ih a1 a0 r1 k2) rfl rfl (Les.refl _) rfl (.inl rfl) rfl ?_
    refine W.mv rfl ?_
    refine W.nil ?_
    refine Ev.ret ?_
    injection h with h; subst h
    exact ⟨_, rfl, .refl _⟩
  · replace h := iteF h c1
    refine Ev.skip ?_
    refine Ev.seqJ (γ := Bool) (fun v => ⟨[(4, .bool v)], [], 2⟩) (fun v => ref2_Related_j1 n v = some r) ?_ ?_
    · refine W.reg hm ?_
      refine W.mv rfl ?_
      refine W.mv rfl ?_
      refine W.slen rfl ?_
      obtain ⟨s3, k3, h⟩ := obind h
      refine W.ssliceG rfl k3 (ix1 (gcut_some k3).2.2.2.1) ?_
      refine W.mv rfl ?_
      refine W.seql rfl rfl ?_
      refine W.mv rfl ?_
      refine W.split 19 rfl (fun c4 => ?_) (fun c4 => ?_)
      · replace h := iteT h c4
        refine W.guardT rfl c4 ?_
        refine W.mv rfl ?_
        refine W.guardT rfl c4 ?_
        refine W.slen rfl ?_
        refine W.guardT rfl c4 ?_
        refine W.mv rfl ?_
        refine W.guardT rfl c4 ?_
        refine W.slen rfl ?_
        refine W.guardT rfl c4 ?_
        refine W.eql rfl rfl ?_
        refine W.guardT rfl c4 ?_
        refine W.mv rfl ?_
        refine W.split 25 rfl (fun c5 => ?_) (fun c5 => ?_)
        · replace h := iteT h c5
          refine W.guardF2 rfl c5 ?_
          refine W.guardF2 rfl c5 ?_
          refine W.guardF2 rfl c5 ?_
          refine W.guardF2 rfl c5 ?_
          refine W.guardF2 rfl c5 ?_
          refine W.guardT rfl c4 ?_
          refine W.pickT rfl rfl rfl c5 ?_
          refine W.pickT rfl rfl rfl c4 ?_
          refine W.mv rfl ?_
          refine W.nil ?_
          exact ⟨true, h, Wk.nrmTo [4] [] rfl rfl⟩
        · replace h := iteF h c5
          refine W.guardT rfl c5 ?_
          refine W.mv rfl ?_
          refine W.guardT rfl c5 ?_
          refine W.mv rfl ?_
          refine W.guardT rfl c5 ?_
          refine W.slen rfl ?_
          refine W.guardT rfl c5 ?_
          obtain ⟨y4, k6, h⟩ := obind h
          refine W.sidxG rfl rfl k6 ?_
          refine W.guardT rfl c5 ?_
          refine W.eql rfl rfl ?_
          refine W.guardT rfl c4 ?_
          refine W.pickN rfl rfl rfl c5 ?_
          refine W.pickT rfl rfl rfl c4 ?_
          refine W.mv rfl ?_
          refine W.nil ?_
          exact ⟨(decide ((y4.toNat : Int) = 47)), h, Wk.nrmTo [4] [] rfl rfl⟩
      · replace h := iteF h c4
        refine W.guardF1 rfl c4 ?_
        refine W.guardF1 rfl c4 ?_
        refine W.guardF1 rfl c4 ?_
        refine W.guardF1 rfl c4 ?_
        refine W.guardF1 rfl c4 ?_
        refine W.guardF1 rfl c4 ?_
        refine W.guardU rfl ?_
        refine W.guardU rfl ?_
        refine W.guardU rfl ?_
        refine W.guardU rfl ?_
        refine W.guardU rfl ?_
        refine W.guardF1 rfl c4 ?_
        refine W.pickN rfl rfl rfl c4 ?_
        refine W.mv rfl ?_
        refine W.nil ?_
        exact ⟨false, h, Wk.nrmTo [4] [] rfl rfl⟩
    · intro x2 h
      try dsimp only at h ⊢
      unfold ref2_Related_j1 at h
      refine Ev.ret ?_
      injection h with h; subst h
      exact ⟨_, rfl, .refl _⟩
end Go.Proofs.YtadeoaglhaaimaaDoor
