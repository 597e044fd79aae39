/- The functions compute what the texts of D say. Laid by a program (wip/gen/dec.py). -/
import Derived.Test.YtlkknmhhefjmjaaGreatDoorPwAuto
import Derived.Test.YtlkknmhhefjmjaaGreatDoorD
import Derived.Test.YtlkknmhhefjmjaaGreatDoorWA
set_option linter.unusedVariables false
set_option linter.unusedSimpArgs false
namespace Go.Proofs.YtlkknmhhefjmjaaGreatDoor
open Go.PW Go
theorem bom_Check_spec (n : Nat) (a0 : List SPathDigest) (a1 : SFiles) (r : ((List Int) × SCodeIndex)) (h : bom_Check n a0 a1 = some r) : PSpec Tryz.prog 17 [lP a0, .agg (SFiles.cells a1)] (.tup [lP r.1, .agg (SCodeIndex.cells r.2)]) := by
 unfold bom_Check at h
 refine spec_of Tryz.c_bom_Check (by simp) ?_
 unfold Tryz.l_bom_Check
 refine au h [1,1,5,1,5,1,1,1,1] ?_; intro h
 refine cb h (bom_Validate_spec n _) fun r1 k1 h => ?_
 refine ax 44 h [5,8,1,1,8,5,5] ?_; intro h
 refine bs h (fun c2 h => ?_) fun c2 h => ?_
 ·refine au h [2,1,1,8,1,8,1] ?_; intro h
  cases h
  exact ⟨_, rfl, Le.tups (.cons (.nils 1) (.cons (.refl _) (.nil)))⟩
 ·refine au h [3,1,1,1,1,8] ?_; intro h
  refine cb h (treepatch_Second_spec n _ _) fun r2 k3 h => ?_
  refine ax 44 h [5,8,1,1,8,5,5] ?_; intro h
  refine bs h (fun c4 h => ?_) fun c4 h => ?_
  ·refine au h [2,1,1,8,1,8,1] ?_; intro h
   cases h
   exact ⟨_, rfl, Le.tups (.cons (.nils 1) (.cons (.refl _) (.nil)))⟩
  ·refine au h [3,1,1,1,1,1,1,1,1,5,1,1] ?_; intro h
   refine Ev.loopW (β := Nat × (List Int) × Int) (fun v => ⟨[(3, wP 10100), (5, wP 10101), (8, .own 10102 0), (23, lP a0), (24, iP (a0.length : Int)), (25, iP v.2.2)], [(10100, eP 25 1 [[lP a1.Files]]), (10101, eP 31 2 [[iP 0, iP 0]]), (10102, eP 3 1 (mP v.2.1))], 2⟩) (fun v => bom_Check_l1 n a0 a1 v.1 v.2.1 v.2.2 = some r) (fun v => v.1) (n, ([] : List Int), 0) ((Wk.ownNil 8 30102 3 1 rfl rfl true).trans (.nA)) h ?_
   intro ⟨m1, w3, x4⟩ h
   try dsimp only at h ⊢
   cases m1 with
   | zero => rw [bom_Check_l1] at h; cases h
   | succ m1 =>
    rw [bom_Check_l1] at h
    refine au h [1,1,5,1] ?_; intro h
    refine bs h (fun c5 h => ?_) fun c5 h => ?_
    ·refine au h [2,1] ?_; intro h
     refine Ev.seqJ (γ := List Int) (fun v => ⟨[(3, wP 10200), (5, wP 10201), (8, .own 10202 0), (23, lP a0), (24, iP (a0.length : Int)), (25, iP x4)], [(10200, eP 25 1 [[lP a1.Files]]), (10201, eP 31 2 [[iP 0, iP 0]]), (10202, eP 3 1 (mP v))], 2⟩) (fun v => bom_Check_j1 n x4 (bom_Check_l1 n a0 a1 m1) v = some r) ?_ ?_
     ·refine au h [1,1,1,1,5,5,5,1,8,1,1,8,8,8,8,8] ?_; intro e7 k7 h
      refine cb h (bom_describe_spec n _ _) fun r8 k8 h => ?_
      refine aw h [5] ?_; intro h
      refine bs h (fun c9 h => ?_) fun c9 h => ?_
      ·refine au h [2,1,1,1,5,7,1] ?_; intro w9 k10 h
       exact lf w9 h
      ·refine au h [3,1] ?_; intro h
       exact lf w3 h
     ·intro w5 h
      try dsimp only at h ⊢
      unfold bom_Check_j1 at h
      refine au h [1,7,1] ?_; intro x6 k6 h
      exact lb (m1, w5, x6) h
    ·refine au h [3,1,1,1,1,5,1,8,1] ?_; intro h
     cases h
     exact ⟨_, rfl, .refl _⟩
set_option maxHeartbeats 4000000 in
theorem release_Rebuild_spec (n : Nat) (a0 : SActionsMaterialsOutput) (a1 : SFiles) (r : (SFiles × SCodeIndex)) (h : release_Rebuild n a0 a1 = some r) : PSpec Tryz.prog 46 [.agg (SActionsMaterialsOutput.cells a0), .agg (SFiles.cells a1)] (.tup [.agg (SFiles.cells r.1), .agg (SCodeIndex.cells r.2)]) := by
 unfold release_Rebuild at h
 refine spec_of Tryz.c_release_Rebuild (by simp) ?_
 unfold Tryz.l_release_Rebuild
 refine au h [1,1,5,5,5,5,1,1,1,8] ?_; intro h
 refine cb h (release_Validate_spec n _) fun r1 k1 h => ?_
 refine ax 53 h [5,8,1,1,8,5,5] ?_; intro h
 refine bs h (fun c2 h => ?_) fun c2 h => ?_
 ·refine au h [2,1,1,5,8,8,8,1] ?_; intro h
  cases h
  exact ⟨_, rfl, Le.tups (.cons (Le.aggs (.cons (.nils 2) (.nil)) rfl) (.cons (.refl _) (.nil)))⟩
 ·refine au h [3,1,1,1,1,8] ?_; intro h
  refine cb h (treepatch_Second_spec n _ _) fun r2 k3 h => ?_
  refine ax 53 h [5,8,1,1,8,5,5] ?_; intro h
  refine bs h (fun c4 h => ?_) fun c4 h => ?_
  ·refine au h [2,1,1,5,8,8,8,1] ?_; intro h
   cases h
   exact ⟨_, rfl, Le.tups (.cons (Le.aggs (.cons (.nils 2) (.nil)) rfl) (.cons (.refl _) (.nil)))⟩
  ·refine au h [3,1,1,1,1,8,8,8] ?_; intro h
   refine cb h (bom_Check_spec n _ _) fun r3 k5 h => ?_
   refine ax 53 h [1,5,5,5,1,8,1,1,1,5,5] ?_; intro h
   refine bs h (fun c6 h => ?_) fun c6 h => ?_
   ·refine au h [2,1,1,5,1,5,5,5,8,8,1] ?_; intro e4 k7 h
    cases h
    exact ⟨_, rfl, Le.tups (.cons (Le.aggs (.cons (.nils 2) (.nil)) rfl) (.cons (.refl _) (.nil)))⟩
   ·refine au h [3,1,1] ?_; intro h
    refine Ev.regS rfl ?_
    refine Sq.w 1 nb ?_
    refine aw h [8] ?_; intro h
    refine Sq.weak (st' := ⟨[(2, wP 10000), (4, wP 10001), (5, wP 10002), (40, .agg [lP a1.Files])], [(10000, eP 29 3 [[lP a0.Actions, lP a0.Materials, lP a0.Output.Files]]), (10001, eP 25 1 [[.nils]]), (10002, eP 31 2 [[iP 0, iP 0]])], 2⟩) ?_ (.nA)
    refine Sq.call rfl Tryz.c_treepatch_CopyTree ⟨_, rfl, nb, ?_⟩
    unfold Tryz.l_treepatch_CopyTree
    refine Ev.retJ (γ := List SPathLines) (fun v => ⟨[(2, wP 10100), (65538, wP 10102), (65540, wP 10103), (65541, wP 10104)], [(10100, ⟨0, 25, 1, [[.own 10101 0]], false, false, false⟩), (10101, eP 37 2 (mP v)), (10102, eP 29 3 [[lP a0.Actions, lP a0.Materials, lP a0.Output.Files]]), (10103, eP 25 1 [[.nils]]), (10104, eP 31 2 [[iP 0, iP 0]])], 2⟩) (fun v => release_Rebuild_j1 n a0 v = some r) ?_ ?_
    ·refine au h [1,1,5,5,1,1,5,1,1,1,8,8,5,1,1] ?_; intro h
     refine Ev.loopW (β := Nat × (List SPathLines) × Int) (fun v => ⟨[(2, wP 10200), (3, wP 10201), (7, lP a1.Files), (8, iP (a1.Files.length : Int)), (9, iP v.2.2), (65538, wP 10203), (65540, wP 10204), (65541, wP 10205)], [(10200, eP 25 1 [[.nils]]), (10201, ⟨0, 25, 1, [[.own 10202 0]], false, false, false⟩), (10202, eP 37 2 (mP v.2.1)), (10203, eP 29 3 [[lP a0.Actions, lP a0.Materials, lP a0.Output.Files]]), (10204, eP 25 1 [[.nils]]), (10205, eP 31 2 [[iP 0, iP 0]])], 2⟩) (fun v => release_Rebuild_l5 n a0 a1 v.1 v.2.1 v.2.2 = some r) (fun v => v.1) (n, ([] : List SPathLines), 0) ((Wk.ownNilCell 3 2 0 30202 37 2 rfl rfl rfl rfl rfl (by simp) true).trans (.nA)) h ?_
     intro ⟨m5, w37, x38⟩ h
     try dsimp only at h ⊢
     cases m5 with
     | zero => rw [release_Rebuild_l5] at h; cases h
     | succ m5 =>
      rw [release_Rebuild_l5] at h
      refine au h [1,1,5,1] ?_; intro h
      refine bs h (fun c31 h => ?_) fun c31 h => ?_
      ·refine au h [2,1,1,1,1,1,5,5,5,8,1,8,8,8,8,8,8] ?_; intro e39 k32 h
       refine cb h (slices_Clone_string_spec n _) fun r40 k33 h => ?_
       refine ax 26 h [5,5,7,8,8,1,7,1] ?_; intro w41 k34 x42 k35 h
       exact lb (m5, w41, x42) h
      ·refine au h [3,1,1,1,8,8,1] ?_; intro h
       exact lf w37 h
    ·intro w5 h
     try dsimp only at h ⊢
     unfold release_Rebuild_j1 at h
     refine ⟨_, rfl, ?_⟩
     refine Sq.wEnd nb ?_
     refine ax 53 h [5,8,1] ?_; intro h
     refine Ev.regS rfl ?_
     refine Sq.w 3 nb ?_
     refine aw h [8,8] ?_; intro h
     refine W.mkfn rfl (W.nil ?_)
     refine Sq.weak (st' := ⟨[(2, wP 10100), (4, wP 10101), (5, wP 10102), (10, wP 10103), (43, .own 10104 0), (44, .fn 99 [] [wP 10100])], [(10100, eP 29 3 [[lP a0.Actions, lP a0.Materials, lP a0.Output.Files]]), (10101, eP 25 1 [[.nils]]), (10102, eP 31 2 [[iP 0, iP 0]]), (10103, ⟨0, 25, 1, [[.own 10104 0]], false, false, false⟩), (10104, eP 37 2 (mP w5))], 2⟩) ?_ (.nA)
     refine Sq.call rfl Tryz.c_slices_DeleteFunc_api_File_api_File ⟨_, rfl, nb, ?_⟩
     unfold Tryz.l_slices_DeleteFunc_api_File_api_File
     refine Ev.retJ (γ := (List SPathLines) × (List SPathLines)) (fun v => ⟨[(4, lP v.1), (65538, wP 10200), (65540, wP 10201), (65541, wP 10202), (65546, wP 10203)], [(10200, eP 29 3 [[lP a0.Actions, lP a0.Materials, lP a0.Output.Files]]), (10201, eP 25 1 [[.nils]]), (10202, eP 31 2 [[iP 0, iP 0]]), (10203, eP 25 1 [[lP v.2]])], 2⟩) (fun v => release_Rebuild_j2 n a0 v.1 v.2 = some r) ?_ ?_
     ·refine au h [1,1,1,1] ?_; intro h
      refine Ev.regS rfl ?_
      refine Sq.w 2 nb ?_
      refine aw h [1,1] ?_; intro h
      refine Sq.call rfl Tryz.c_slices_IndexFunc_api_File_api_File ⟨_, rfl, nb, ?_⟩
      unfold Tryz.l_slices_IndexFunc_api_File_api_File
      refine Ev.retJ (γ := Int) (fun v => ⟨[(4, iP v), (65536, .own 10300 0), (65537, .fn 99 [] [wP 10301]), (131074, wP 10301), (131076, wP 10302), (131077, wP 10303), (131082, wP 10304)], [(10300, eP 37 2 (mP w5)), (10301, eP 29 3 [[lP a0.Actions, lP a0.Materials, lP a0.Output.Files]]), (10302, eP 25 1 [[.nils]]), (10303, eP 31 2 [[iP 0, iP 0]]), (10304, ⟨0, 25, 1, [[.own 10300 0]], false, false, false⟩)], 2⟩) (fun v => release_Rebuild_j3 n a0 w5 v = some r) ?_ ?_
      ·refine au h [1,1,1,1,1,1,1,7,1,1] ?_; intro h
       refine Ev.loopW (β := Nat × Int) (fun v => ⟨[(0, .own 10400 0), (1, .fn 99 [] [wP 10401]), (7, iP (w5.length : Int)), (8, iP v.2), (65536, .own 10400 0), (65537, .fn 99 [] [wP 10401]), (131074, wP 10401), (131076, wP 10402), (131077, wP 10403), (131082, wP 10404)], [(10400, eP 37 2 (mP w5)), (10401, eP 29 3 [[lP a0.Actions, lP a0.Materials, lP a0.Output.Files]]), (10402, eP 25 1 [[.nils]]), (10403, eP 31 2 [[iP 0, iP 0]]), (10404, ⟨0, 25, 1, [[.own 10400 0]], false, false, false⟩)], 2⟩) (fun v => release_Rebuild_l3 n a0 w5 v.1 v.2 = some r) (fun v => v.1) (n, 0) (.nA) h ?_
       intro ⟨m3, x28⟩ h
       try dsimp only at h ⊢
       cases m3 with
       | zero => rw [release_Rebuild_l3] at h; cases h
       | succ m3 =>
        rw [release_Rebuild_l3] at h
        refine au h [1,1,5,1] ?_; intro h
        refine bs h (fun c23 h => ?_) fun c23 h => ?_
        ·refine au h [2,1,1,1,1,1,1,1,1] ?_; intro h
         refine Ev.regS rfl ?_
         refine Sq.w 5 nb ?_
         refine aw h [1,1,1,7,7] ?_; intro e29 k24 h
         refine Sq.callv (f := 99) rfl Tryz.b_release_Rebuild_1 Tryz.c_release_Rebuild_1 ⟨_, _, _, rfl, nb, ?_⟩
         unfold Tryz.l_release_Rebuild_1
         refine Ev.retJ (γ := Bool) (fun v => ⟨[(3, .bool v), (65536, .own 10500 0), (65537, .fn 99 [] [wP 10501]), (65541, iP x28), (65543, iP (w5.length : Int)), (65544, iP x28), (131072, .own 10500 0), (131073, .fn 99 [] [wP 10501]), (196610, wP 10501), (196612, wP 10502), (196613, wP 10503), (196618, wP 10504)], [(10500, eP 37 2 (mP w5)), (10501, eP 29 3 [[lP a0.Actions, lP a0.Materials, lP a0.Output.Files]]), (10502, eP 25 1 [[.nils]]), (10503, eP 31 2 [[iP 0, iP 0]]), (10504, ⟨0, 25, 1, [[.own 10500 0]], false, false, false⟩)], 2⟩) (fun v => release_Rebuild_j9 n a0 w5 x28 (release_Rebuild_l3 n a0 w5 m3) v = some r) ?_ ?_
         ·refine au h [1,1,5,1,1] ?_; intro h
          refine Ev.regS rfl ?_
          refine Sq.w 3 nb ?_
          refine aw h [8,8] ?_; intro h
          refine W.mkfn rfl (W.nil ?_)
          refine Sq.weak (st' := ⟨[(3, .bool false), (5, lP a0.Materials), (6, .fn 101 [] [wP 10500]), (65536, .own 10501 0), (65537, .fn 99 [] [wP 10502]), (65541, iP x28), (65543, iP (w5.length : Int)), (65544, iP x28), (131072, .own 10501 0), (131073, .fn 99 [] [wP 10502]), (196610, wP 10502), (196612, wP 10503), (196613, wP 10504), (196618, wP 10505)], [(10500, eP 37 2 [[.str e29.Path, lP e29.Lines]]), (10501, eP 37 2 (mP w5)), (10502, eP 29 3 [[lP a0.Actions, lP a0.Materials, lP a0.Output.Files]]), (10503, eP 25 1 [[.nils]]), (10504, eP 31 2 [[iP 0, iP 0]]), (10505, ⟨0, 25, 1, [[.own 10501 0]], false, false, false⟩)], 2⟩) ?_ (.nA)
          refine Sq.call rfl Tryz.c_slices_ContainsFunc_api_BomEntry_api_BomEntry ⟨_, rfl, nb, ?_⟩
          unfold Tryz.l_slices_ContainsFunc_api_BomEntry_api_BomEntry
          refine Ev.retJ (γ := Bool) (fun v => ⟨[(4, .bool v), (65539, .bool false), (131072, .own 10600 0), (131073, .fn 99 [] [wP 10601]), (131077, iP x28), (131079, iP (w5.length : Int)), (131080, iP x28), (196608, .own 10600 0), (196609, .fn 99 [] [wP 10601]), (262146, wP 10601), (262148, wP 10602), (262149, wP 10603), (262154, wP 10604)], [(10600, eP 37 2 (mP w5)), (10601, eP 29 3 [[lP a0.Actions, lP a0.Materials, lP a0.Output.Files]]), (10602, eP 25 1 [[.nils]]), (10603, eP 31 2 [[iP 0, iP 0]]), (10604, ⟨0, 25, 1, [[.own 10600 0]], false, false, false⟩)], 2⟩) (fun v => release_Rebuild_j10 n a0 w5 x28 (release_Rebuild_l3 n a0 w5 m3) v = some r) ?_ ?_
          ·refine au h [1,1,1,1] ?_; intro h
           refine Ev.regS rfl ?_
           refine Sq.w 2 nb ?_
           refine aw h [1,1] ?_; intro h
           refine Sq.call rfl Tryz.c_slices_IndexFunc_api_BomEntry_api_BomEntry ⟨_, rfl, nb, ?_⟩
           unfold Tryz.l_slices_IndexFunc_api_BomEntry_api_BomEntry
           refine Ev.retJ (γ := Int) (fun v => ⟨[(4, iP v), (65540, .bool false), (131075, .bool false), (196608, .own 10700 0), (196609, .fn 99 [] [wP 10701]), (196613, iP x28), (196615, iP (w5.length : Int)), (196616, iP x28), (262144, .own 10700 0), (262145, .fn 99 [] [wP 10701]), (327682, wP 10701), (327684, wP 10702), (327685, wP 10703), (327690, wP 10704)], [(10700, eP 37 2 (mP w5)), (10701, eP 29 3 [[lP a0.Actions, lP a0.Materials, lP a0.Output.Files]]), (10702, eP 25 1 [[.nils]]), (10703, eP 31 2 [[iP 0, iP 0]]), (10704, ⟨0, 25, 1, [[.own 10700 0]], false, false, false⟩)], 2⟩) (fun v => release_Rebuild_j11 n a0 w5 x28 (release_Rebuild_l3 n a0 w5 m3) v = some r) ?_ ?_
           ·refine au h [1,1,1,1,1,1,1,5,1,1] ?_; intro h
            refine Ev.loopW (β := Nat × Int) (fun v => ⟨[(0, lP a0.Materials), (1, .fn 101 [] [wP 10800]), (7, iP (a0.Materials.length : Int)), (8, iP v.2), (65540, .bool false), (131075, .bool false), (196608, .own 10801 0), (196609, .fn 99 [] [wP 10802]), (196613, iP x28), (196615, iP (w5.length : Int)), (196616, iP x28), (262144, .own 10801 0), (262145, .fn 99 [] [wP 10802]), (327682, wP 10802), (327684, wP 10803), (327685, wP 10804), (327690, wP 10805)], [(10800, eP 37 2 [[.str e29.Path, lP e29.Lines]]), (10801, eP 37 2 (mP w5)), (10802, eP 29 3 [[lP a0.Actions, lP a0.Materials, lP a0.Output.Files]]), (10803, eP 25 1 [[.nils]]), (10804, eP 31 2 [[iP 0, iP 0]]), (10805, ⟨0, 25, 1, [[.own 10801 0]], false, false, false⟩)], 2⟩) (fun v => release_Rebuild_l4 n a0 w5 x28 (release_Rebuild_l3 n a0 w5 m3) e29 v.1 v.2 = some r) (fun v => v.1) (n, 0) (.nA) h ?_
            intro ⟨m4, x34⟩ h
            try dsimp only at h ⊢
            cases m4 with
            | zero => rw [release_Rebuild_l4] at h; cases h
            | succ m4 =>
             rw [release_Rebuild_l4] at h
             refine au h [1,1,5,1] ?_; intro h
             refine bs h (fun c27 h => ?_) fun c27 h => ?_
             ·refine au h [2,1,1,1,1,1,1,1,1] ?_; intro h
              refine Ev.regS rfl ?_
              refine Sq.w 5 nb ?_
              refine aw h [1,1,1,5,5] ?_; intro e35 k28 h
              refine Sq.callv (f := 101) rfl Tryz.b_release_Rebuild_1_1 Tryz.c_release_Rebuild_1_1 ⟨_, _, _, rfl, nb, ?_⟩
              unfold Tryz.l_release_Rebuild_1_1
              refine Ev.retJ (γ := Unit) (fun v => ⟨[(3, .bool (decide (e35.Path = e29.Path))), (65536, lP a0.Materials), (65537, .fn 101 [] [wP 10900]), (65541, iP x34), (65543, iP (a0.Materials.length : Int)), (65544, iP x34), (131076, .bool false), (196611, .bool false), (262144, .own 10901 0), (262145, .fn 99 [] [wP 10902]), (262149, iP x28), (262151, iP (w5.length : Int)), (262152, iP x28), (327680, .own 10901 0), (327681, .fn 99 [] [wP 10902]), (393218, wP 10902), (393220, wP 10903), (393221, wP 10904), (393226, wP 10905)], [(10900, eP 37 2 [[.str e29.Path, lP e29.Lines]]), (10901, eP 37 2 (mP w5)), (10902, eP 29 3 [[lP a0.Actions, lP a0.Materials, lP a0.Output.Files]]), (10903, eP 25 1 [[.nils]]), (10904, eP 31 2 [[iP 0, iP 0]]), (10905, ⟨0, 25, 1, [[.own 10901 0]], false, false, false⟩)], 2⟩) (fun v => release_Rebuild_j12 n a0 w5 x28 (release_Rebuild_l3 n a0 w5 m3) e29 x34 (release_Rebuild_l4 n a0 w5 x28 (release_Rebuild_l3 n a0 w5 m3) e29 m4) e35 = some r) ?_ ?_
              ·refine au h [1,1,5,1,1,1,8,8,8,8,6,1,1] ?_; intro h
               exact lf () h
              ·intro _ h
               try dsimp only at h ⊢
               unfold release_Rebuild_j12 at h
               refine ⟨_, rfl, ?_⟩
               refine Sq.wEnd nb ?_
               refine W.nil ?_
               refine bs h (fun c29 h => ?_) fun c29 h => ?_
               ·refine au h [2,1,1,1,1,1] ?_; intro h
                exact lf x34 h
               ·refine au h [3,1,1,7,1] ?_; intro x36 k30 h
                exact lb (m4, x36) h
             ·refine au h [3,1,1,1,1,1] ?_; intro h
              exact lf (-1) h
           ·intro x33 h
            try dsimp only at h ⊢
            unfold release_Rebuild_j11 at h
            refine ⟨_, rfl, ?_⟩
            refine Sq.wEnd nb ?_
            refine ax 9 h [5,1,1] ?_; intro h
            exact lf (decide (0 ≤ x33)) h
          ·intro x32 h
           try dsimp only at h ⊢
           unfold release_Rebuild_j10 at h
           refine ⟨_, rfl, ?_⟩
           refine Sq.wEnd nb ?_
           refine ax 9 h [5,1,1] ?_; intro h
           exact lf (!x32) h
         ·intro x30 h
          try dsimp only at h ⊢
          unfold release_Rebuild_j9 at h
          refine ⟨_, rfl, ?_⟩
          refine Sq.wEnd nb ?_
          refine W.nil ?_
          refine bs h (fun c25 h => ?_) fun c25 h => ?_
          ·refine au h [2,1,1,1,1,1] ?_; intro h
           exact lf x28 h
          ·refine au h [3,1,1,7,1] ?_; intro x31 k26 h
           exact lb (m3, x31) h
        ·refine au h [3,1,1,1,1,1] ?_; intro h
         exact lf (-1) h
      ·intro x9 h
       try dsimp only at h ⊢
       unfold release_Rebuild_j3 at h
       refine ⟨_, rfl, ?_⟩
       refine Sq.wEnd nb ?_
       refine ax 42 h [1,1,1,1,1,5] ?_; intro h
       refine bs h (fun c9 h => ?_) fun c9 h => ?_
       ·refine au h [2,1,1,1,1] ?_; intro h
        refine Ev.weak ?_ (Wk.frz 10300 0 rfl rfl)
        refine Ev.ret ?_
        exact lf (w5, w5) h
       ·refine au h [3,1,1,1,1,1,7,1,1] ?_; intro x10 k10 h
        refine Ev.loopW (β := Nat × (List SPathLines) × Int × Int) (fun v => ⟨[(0, .own 10400 0), (1, .fn 99 [] [wP 10401]), (5, iP v.2.2.1), (6, iP v.2.2.2), (65538, wP 10401), (65540, wP 10402), (65541, wP 10403), (65546, wP 10404)], [(10400, eP 37 2 (mP v.2.1)), (10401, eP 29 3 [[lP a0.Actions, lP a0.Materials, lP a0.Output.Files]]), (10402, eP 25 1 [[.nils]]), (10403, eP 31 2 [[iP 0, iP 0]]), (10404, ⟨0, 25, 1, [[.own 10400 0]], false, false, false⟩)], 2⟩) (fun v => release_Rebuild_l1 n a0 v.1 v.2.1 v.2.2.1 v.2.2.2 = some r) (fun v => v.1) (n, w5, x9, x10) (.nA) h ?_
        intro ⟨m1, w11, x12, x13⟩ h
        try dsimp only at h ⊢
        cases m1 with
        | zero => rw [release_Rebuild_l1] at h; cases h
        | succ m1 =>
         rw [release_Rebuild_l1] at h
         refine au h [1,1,1,1,1,7,5] ?_; intro h
         refine bs h (fun c11 h => ?_) fun c11 h => ?_
         ·refine au h [2,1] ?_; intro h
          refine Ev.seqJ (γ := (List SPathLines) × Int) (fun v => ⟨[(0, .own 10500 0), (1, .fn 99 [] [wP 10501]), (5, iP v.2), (6, iP x13), (65538, wP 10501), (65540, wP 10502), (65541, wP 10503), (65546, wP 10504)], [(10500, eP 37 2 (mP v.1)), (10501, eP 29 3 [[lP a0.Actions, lP a0.Materials, lP a0.Output.Files]]), (10502, eP 25 1 [[.nils]]), (10503, eP 31 2 [[iP 0, iP 0]]), (10504, ⟨0, 25, 1, [[.own 10500 0]], false, false, false⟩)], 2⟩) (fun v => release_Rebuild_j4 n x13 (release_Rebuild_l1 n a0 m1) v.1 v.2 = some r) ?_ ?_
          ·refine au h [1,1,1,1,1,7,7,5,8,1] ?_; intro e17 k13 h
           refine Ev.regS rfl ?_
           refine Sq.w 2 nb ?_
           refine aw h [1,8] ?_; intro h
           refine Sq.weak (st' := ⟨[(0, .own 10500 0), (1, .fn 99 [] [wP 10501]), (5, iP x12), (6, iP x13), (7, wP 10502), (26, .fn 99 [] [wP 10501]), (27, .agg [.str e17.Path, lP e17.Lines]), (65538, wP 10501), (65540, wP 10503), (65541, wP 10504), (65546, wP 10505)], [(10500, eP 37 2 (mP w11)), (10501, eP 29 3 [[lP a0.Actions, lP a0.Materials, lP a0.Output.Files]]), (10502, eP 37 2 [[.str e17.Path, lP e17.Lines]]), (10503, eP 25 1 [[.nils]]), (10504, eP 31 2 [[iP 0, iP 0]]), (10505, ⟨0, 25, 1, [[.own 10500 0]], false, false, false⟩)], 2⟩) ?_ (.nA)
           refine Sq.callv (f := 99) rfl Tryz.b_release_Rebuild_1 Tryz.c_release_Rebuild_1 ⟨_, _, _, rfl, nb, ?_⟩
           unfold Tryz.l_release_Rebuild_1
           refine Ev.retJ (γ := Bool) (fun v => ⟨[(3, .bool v), (65536, .own 10600 0), (65537, .fn 99 [] [wP 10601]), (65541, iP x12), (65542, iP x13), (65543, wP 10602), (131074, wP 10601), (131076, wP 10603), (131077, wP 10604), (131082, wP 10605)], [(10600, eP 37 2 (mP w11)), (10601, eP 29 3 [[lP a0.Actions, lP a0.Materials, lP a0.Output.Files]]), (10602, eP 37 2 [[.str e17.Path, lP e17.Lines]]), (10603, eP 25 1 [[.nils]]), (10604, eP 31 2 [[iP 0, iP 0]]), (10605, ⟨0, 25, 1, [[.own 10600 0]], false, false, false⟩)], 2⟩) (fun v => release_Rebuild_j5 n w11 x12 x13 (release_Rebuild_l1 n a0 m1) e17 v = some r) ?_ ?_
           ·refine au h [1,1,5,1,1] ?_; intro h
            refine Ev.regS rfl ?_
            refine Sq.w 3 nb ?_
            refine aw h [8,8] ?_; intro h
            refine W.mkfn rfl (W.nil ?_)
            refine Sq.weak (st' := ⟨[(3, .bool false), (5, lP a0.Materials), (6, .fn 101 [] [wP 10600]), (65536, .own 10601 0), (65537, .fn 99 [] [wP 10602]), (65541, iP x12), (65542, iP x13), (65543, wP 10603), (131074, wP 10602), (131076, wP 10604), (131077, wP 10605), (131082, wP 10606)], [(10600, eP 37 2 [[.str e17.Path, lP e17.Lines]]), (10601, eP 37 2 (mP w11)), (10602, eP 29 3 [[lP a0.Actions, lP a0.Materials, lP a0.Output.Files]]), (10603, eP 37 2 [[.str e17.Path, lP e17.Lines]]), (10604, eP 25 1 [[.nils]]), (10605, eP 31 2 [[iP 0, iP 0]]), (10606, ⟨0, 25, 1, [[.own 10601 0]], false, false, false⟩)], 2⟩) ?_ (.nA)
            refine Sq.call rfl Tryz.c_slices_ContainsFunc_api_BomEntry_api_BomEntry ⟨_, rfl, nb, ?_⟩
            unfold Tryz.l_slices_ContainsFunc_api_BomEntry_api_BomEntry
            refine Ev.retJ (γ := Bool) (fun v => ⟨[(4, .bool v), (65539, .bool false), (131072, .own 10700 0), (131073, .fn 99 [] [wP 10701]), (131077, iP x12), (131078, iP x13), (131079, wP 10702), (196610, wP 10701), (196612, wP 10703), (196613, wP 10704), (196618, wP 10705)], [(10700, eP 37 2 (mP w11)), (10701, eP 29 3 [[lP a0.Actions, lP a0.Materials, lP a0.Output.Files]]), (10702, eP 37 2 [[.str e17.Path, lP e17.Lines]]), (10703, eP 25 1 [[.nils]]), (10704, eP 31 2 [[iP 0, iP 0]]), (10705, ⟨0, 25, 1, [[.own 10700 0]], false, false, false⟩)], 2⟩) (fun v => release_Rebuild_j6 n w11 x12 x13 (release_Rebuild_l1 n a0 m1) e17 v = some r) ?_ ?_
            ·refine au h [1,1,1,1] ?_; intro h
             refine Ev.regS rfl ?_
             refine Sq.w 2 nb ?_
             refine aw h [1,1] ?_; intro h
             refine Sq.call rfl Tryz.c_slices_IndexFunc_api_BomEntry_api_BomEntry ⟨_, rfl, nb, ?_⟩
             unfold Tryz.l_slices_IndexFunc_api_BomEntry_api_BomEntry
             refine Ev.retJ (γ := Int) (fun v => ⟨[(4, iP v), (65540, .bool false), (131075, .bool false), (196608, .own 10800 0), (196609, .fn 99 [] [wP 10801]), (196613, iP x12), (196614, iP x13), (196615, wP 10802), (262146, wP 10801), (262148, wP 10803), (262149, wP 10804), (262154, wP 10805)], [(10800, eP 37 2 (mP w11)), (10801, eP 29 3 [[lP a0.Actions, lP a0.Materials, lP a0.Output.Files]]), (10802, eP 37 2 [[.str e17.Path, lP e17.Lines]]), (10803, eP 25 1 [[.nils]]), (10804, eP 31 2 [[iP 0, iP 0]]), (10805, ⟨0, 25, 1, [[.own 10800 0]], false, false, false⟩)], 2⟩) (fun v => release_Rebuild_j7 n w11 x12 x13 (release_Rebuild_l1 n a0 m1) e17 v = some r) ?_ ?_
             ·refine au h [1,1,1,1,1,1,1,5,1,1] ?_; intro h
              refine Ev.loopW (β := Nat × Int) (fun v => ⟨[(0, lP a0.Materials), (1, .fn 101 [] [wP 10900]), (7, iP (a0.Materials.length : Int)), (8, iP v.2), (65540, .bool false), (131075, .bool false), (196608, .own 10901 0), (196609, .fn 99 [] [wP 10902]), (196613, iP x12), (196614, iP x13), (196615, wP 10903), (262146, wP 10902), (262148, wP 10904), (262149, wP 10905), (262154, wP 10906)], [(10900, eP 37 2 [[.str e17.Path, lP e17.Lines]]), (10901, eP 37 2 (mP w11)), (10902, eP 29 3 [[lP a0.Actions, lP a0.Materials, lP a0.Output.Files]]), (10903, eP 37 2 [[.str e17.Path, lP e17.Lines]]), (10904, eP 25 1 [[.nils]]), (10905, eP 31 2 [[iP 0, iP 0]]), (10906, ⟨0, 25, 1, [[.own 10901 0]], false, false, false⟩)], 2⟩) (fun v => release_Rebuild_l2 n a0 w11 x12 x13 (release_Rebuild_l1 n a0 m1) e17 v.1 v.2 = some r) (fun v => v.1) (n, 0) (.nA) h ?_
              intro ⟨m2, x23⟩ h
              try dsimp only at h ⊢
              cases m2 with
              | zero => rw [release_Rebuild_l2] at h; cases h
              | succ m2 =>
               rw [release_Rebuild_l2] at h
               refine au h [1,1,5,1] ?_; intro h
               refine bs h (fun c17 h => ?_) fun c17 h => ?_
               ·refine au h [2,1,1,1,1,1,1,1,1] ?_; intro h
                refine Ev.regS rfl ?_
                refine Sq.w 5 nb ?_
                refine aw h [1,1,1,5,5] ?_; intro e24 k18 h
                refine Sq.callv (f := 101) rfl Tryz.b_release_Rebuild_1_1 Tryz.c_release_Rebuild_1_1 ⟨_, _, _, rfl, nb, ?_⟩
                unfold Tryz.l_release_Rebuild_1_1
                refine Ev.retJ (γ := Unit) (fun v => ⟨[(3, .bool (decide (e24.Path = e17.Path))), (65536, lP a0.Materials), (65537, .fn 101 [] [wP 11000]), (65541, iP x23), (65543, iP (a0.Materials.length : Int)), (65544, iP x23), (131076, .bool false), (196611, .bool false), (262144, .own 11001 0), (262145, .fn 99 [] [wP 11002]), (262149, iP x12), (262150, iP x13), (262151, wP 11003), (327682, wP 11002), (327684, wP 11004), (327685, wP 11005), (327690, wP 11006)], [(11000, eP 37 2 [[.str e17.Path, lP e17.Lines]]), (11001, eP 37 2 (mP w11)), (11002, eP 29 3 [[lP a0.Actions, lP a0.Materials, lP a0.Output.Files]]), (11003, eP 37 2 [[.str e17.Path, lP e17.Lines]]), (11004, eP 25 1 [[.nils]]), (11005, eP 31 2 [[iP 0, iP 0]]), (11006, ⟨0, 25, 1, [[.own 11001 0]], false, false, false⟩)], 2⟩) (fun v => release_Rebuild_j8 n w11 x12 x13 (release_Rebuild_l1 n a0 m1) e17 x23 (release_Rebuild_l2 n a0 w11 x12 x13 (release_Rebuild_l1 n a0 m1) e17 m2) e24 = some r) ?_ ?_
                ·refine au h [1,1,5,1,1,1,8,8,8,8,6,1,1] ?_; intro h
                 exact lf () h
                ·intro _ h
                 try dsimp only at h ⊢
                 unfold release_Rebuild_j8 at h
                 refine ⟨_, rfl, ?_⟩
                 refine Sq.wEnd nb ?_
                 refine W.nil ?_
                 refine bs h (fun c19 h => ?_) fun c19 h => ?_
                 ·refine au h [2,1,1,1,1,1] ?_; intro h
                  exact lf x23 h
                 ·refine au h [3,1,1,7,1] ?_; intro x25 k20 h
                  exact lb (m2, x25) h
               ·refine au h [3,1,1,1,1,1] ?_; intro h
                exact lf (-1) h
             ·intro x22 h
              try dsimp only at h ⊢
              unfold release_Rebuild_j7 at h
              refine ⟨_, rfl, ?_⟩
              refine Sq.wEnd nb ?_
              refine ax 9 h [5,1,1] ?_; intro h
              exact lf (decide (0 ≤ x22)) h
            ·intro x21 h
             try dsimp only at h ⊢
             unfold release_Rebuild_j6 at h
             refine ⟨_, rfl, ?_⟩
             refine Sq.wEnd nb ?_
             refine ax 9 h [5,1,1] ?_; intro h
             exact lf (!x21) h
           ·intro x18 h
            try dsimp only at h ⊢
            unfold release_Rebuild_j5 at h
            refine ⟨_, rfl, ?_⟩
            refine Sq.wEnd nb ?_
            refine aw h [5] ?_; intro h
            refine bs h (fun c14 h => ?_) fun c14 h => ?_
            ·refine au h [2,1,1,1,1,8,7] ?_; intro e19 k15 h
             refine W.storeR true (l := w11) (c := SPathLines.cells) (v := e19) (v' := e17) rfl rfl rfl rfl (gidx_some k15).2 rfl (Nat.le_of_ble_eq_true rfl) rfl rfl rfl ?_
             refine ax 42 h [1,1,7,1] ?_; intro x20 k16 h
             exact lf ((gset w11 x12 e17), x20) h
            ·refine au h [3,1] ?_; intro h
             exact lf (w11, x12) h
          ·intro ⟨w14, x15⟩ h
           try dsimp only at h ⊢
           unfold release_Rebuild_j4 at h
           refine au h [1,1,7,1] ?_; intro x16 k12 h
           exact lb (m1, w14, x15, x16) h
         ·refine au h [3,1,1,1,1,1,9] ?_; intro s26 k21 h
          refine W.clearS (l := List.map SPathLines.cells w11) (c := fun x => x) [.str ([] : List UInt8), .nils] rfl rfl rfl (List.map_id' _).symm (gcut_map k21) rfl rfl ?_
          refine W.nil ?_
          refine Ev.weak ?_ (Wk.rowLe 10400 0 (es' := List.map SPathLines.cells (gclear w11 x12.toNat (w11.length : Int).toNat (⟨([] : List UInt8), ([] : List (List UInt8))⟩ : SPathLines))) rfl rfl (LesR.clear (.cons (.refl _) (.cons (.nils 1) (.nil))) fun _ => rfl) rfl)
          refine au h [1,1,1,1,10,1] ?_; intro s27 k22 h
          refine Ev.weak ?_ (Wk.frz 10400 0 rfl rfl)
          refine Ev.weak ?_ (Wk.le (t := 4) rfl (Le.cut k22))
          refine Ev.weak ?_ (Wk.le (t := 41) rfl (Le.cut k22))
          refine Ev.ret ?_
          exact lf (s27, (gclear w11 x12.toNat (w11.length : Int).toNat (⟨([] : List UInt8), ([] : List (List UInt8))⟩ : SPathLines))) h
     ·intro ⟨x6, b7⟩ h
      try dsimp only at h ⊢
      unfold release_Rebuild_j2 at h
      refine ⟨_, rfl, ?_⟩
      refine Sq.wEnd nb ?_
      refine ax 53 h [8,8,1,1,8,8,8] ?_; intro h
      refine cb h (release_execute_spec n _ _) fun r8 k8 h => ?_
      refine ax 53 h [5,5,8,8,1] ?_; intro h
      cases h
      exact ⟨_, rfl, .refl _⟩
theorem slices_Equal_string_spec (n : Nat) (a0 : List (List UInt8)) (a1 : List (List UInt8)) (r : Bool) (h : slices_Equal_string n a0 a1 = some r) : PSpec Tryz.prog 142 [lP a0, lP a1] (.bool r) := by
 unfold slices_Equal_string at h
 refine spec_of Tryz.c_slices_Equal_string (by simp) ?_
 unfold Tryz.l_slices_Equal_string
 refine au h [1,1,1,1,1,1,1,5,1,5,5] ?_; intro h
 refine bs h (fun c1 h => ?_) fun c1 h => ?_
 ·refine au h [2,1,1,1,1] ?_; intro h
  cases h
  exact ⟨_, rfl, .refl _⟩
 ·refine au h [3,1,1,1,1,1,5,1,1] ?_; intro h
  refine Ev.loopW (β := Nat × Int) (fun v => ⟨[(0, lP a0), (1, lP a1), (12, iP (a0.length : Int)), (13, iP v.2)], [], 2⟩) (fun v => slices_Equal_string_l1 n a0 a1 v.1 v.2 = some r) (fun v => v.1) (n, 0) (.nA) h ?_
  intro ⟨m1, x1⟩ h
  try dsimp only at h ⊢
  cases m1 with
  | zero => rw [slices_Equal_string_l1] at h; cases h
  | succ m1 =>
   rw [slices_Equal_string_l1] at h
   refine au h [1,1,5,1] ?_; intro h
   refine bs h (fun c2 h => ?_) fun c2 h => ?_
   ·refine au h [2,1,1,1,1,1,1,1,1,1,1,1,5,5,1,1,5,5,6] ?_; intro e2 k3 e3 k4 h
    refine bs h (fun c5 h => ?_) fun c5 h => ?_
    ·refine au h [2,1,1,1,1] ?_; intro h
     cases h
     exact ⟨_, rfl, .refl _⟩
    ·refine au h [3,1,1,7,1] ?_; intro x4 k6 h
     exact lb (m1, x4) h
   ·refine au h [3,1,1,1,1,1] ?_; intro h
    cases h
    exact ⟨_, rfl, .refl _⟩
theorem treepatch_Same_spec (n : Nat) (a0 : SFiles) (a1 : SFiles) (r : Bool) (h : treepatch_Same n a0 a1 = some r) : PSpec Tryz.prog 102 [.agg (SFiles.cells a0), .agg (SFiles.cells a1)] (.bool r) := by
 unfold treepatch_Same at h
 refine spec_of Tryz.c_treepatch_Same (by simp) ?_
 unfold Tryz.l_treepatch_Same
 refine au h [1,1,5,5,1,1] ?_; intro h
 refine Ev.regS rfl ?_
 refine Sq.w 4 nb ?_
 refine aw h [8,8,8,8] ?_; intro h
 refine Sq.weak (st' := ⟨[(4, .bool false), (6, lP a0.Files), (8, lP a1.Files)], [], 2⟩) ?_ (.nA)
 refine Sq.call rfl Tryz.c_slices_EqualFunc_api_File_api_File_api_File_api_File ⟨_, rfl, nb, ?_⟩
 unfold Tryz.l_slices_EqualFunc_api_File_api_File_api_File_api_File
 refine Ev.retJ (γ := Bool) (fun v => ⟨[(6, .bool v), (65540, .bool false)], [], 2⟩) (fun v => treepatch_Same_j1 n v = some r) ?_ ?_
 ·refine au h [1,1,1,1,1,1,1,5,1,5,5] ?_; intro h
  refine bs h (fun c1 h => ?_) fun c1 h => ?_
  ·refine au h [2,1,1,1,1] ?_; intro h
   exact lf false h
  ·refine au h [3,1,1,1,1,1,5,1,1] ?_; intro h
   refine Ev.loopW (β := Nat × Int) (fun v => ⟨[(1, lP a1.Files), (2, .fn 141 [] []), (15, lP a0.Files), (16, iP (a0.Files.length : Int)), (17, iP v.2), (65540, .bool false)], [], 2⟩) (fun v => treepatch_Same_l1 n a0 a1 v.1 v.2 = some r) (fun v => v.1) (n, 0) (.nA) h ?_
   intro ⟨m1, x2⟩ h
   try dsimp only at h ⊢
   cases m1 with
   | zero => rw [treepatch_Same_l1] at h; cases h
   | succ m1 =>
    rw [treepatch_Same_l1] at h
    refine au h [1,1,5,1] ?_; intro h
    refine bs h (fun c2 h => ?_) fun c2 h => ?_
    ·refine au h [2,1,1,1,1,1,1,5,5,5,1,8,1,1,1,1,5,5,5,8,1] ?_; intro e3 k3 e4 k4 h
     refine Ev.regS rfl ?_
     refine Sq.w 3 nb ?_
     refine aw h [1,8,8] ?_; intro h
     refine Sq.weak (st' := ⟨[(1, lP a1.Files), (2, .fn 141 [] []), (15, lP a0.Files), (16, iP (a0.Files.length : Int)), (17, iP x2), (26, .fn 141 [] []), (27, .agg [.str e3.Path, lP e3.Lines]), (28, .agg [.str e4.Path, lP e4.Lines]), (65540, .bool false)], [], 2⟩) ?_ (.nA)
     refine Sq.callv (f := 141) rfl Tryz.b_treepatch_Same_1 Tryz.c_treepatch_Same_1 ⟨_, _, _, rfl, nb, ?_⟩
     unfold Tryz.l_treepatch_Same_1
     refine Ev.retJ (γ := Bool) (fun v => ⟨[(4, .bool v), (65537, lP a1.Files), (65538, .fn 141 [] []), (65551, lP a0.Files), (65552, iP (a0.Files.length : Int)), (65553, iP x2), (131076, .bool false)], [], 2⟩) (fun v => treepatch_Same_j2 n x2 (treepatch_Same_l1 n a0 a1 m1) v = some r) ?_ ?_
     ·refine au h [1,1,5,5,1] ?_; intro h
      refine Ev.seqJ (γ := Bool) (fun v => ⟨[(4, .bool v), (65537, lP a1.Files), (65538, .fn 141 [] []), (65551, lP a0.Files), (65552, iP (a0.Files.length : Int)), (65553, iP x2), (131076, .bool false)], [], 2⟩) (fun v => treepatch_Same_j3 n x2 (treepatch_Same_l1 n a0 a1 m1) v = some r) ?_ ?_
      ·refine au h [1,8,8,8,8,6,1] ?_; intro h
       refine bs h (fun c7 h => ?_) fun c7 h => ?_
       ·refine aw h [2,8,2,8,2,8,2,8,2] ?_; intro h
        refine cb h (slices_Equal_string_spec n _ _) fun r8 k8 h => ?_
        refine aw h [2,1] ?_; intro h
        exact lf r8 h
       ·refine aw h [3,3,3,3,3,3,1] ?_; intro h
        exact lf false h
      ·intro x7 h
       try dsimp only at h ⊢
       unfold treepatch_Same_j3 at h
       refine Ev.ret ?_
       exact lf x7 h
     ·intro x5 h
      try dsimp only at h ⊢
      unfold treepatch_Same_j2 at h
      refine ⟨_, rfl, ?_⟩
      refine Sq.wEnd nb ?_
      refine aw h [5] ?_; intro h
      refine bs h (fun c5 h => ?_) fun c5 h => ?_
      ·refine au h [2,1,1,1,1] ?_; intro h
       exact lf false h
      ·refine au h [3,1,1,7,1] ?_; intro x6 k6 h
       exact lb (m1, x6) h
    ·refine au h [3,1,1,1,1,1] ?_; intro h
     exact lf true h
 ·intro x1 h
  try dsimp only at h ⊢
  unfold treepatch_Same_j1 at h
  refine ⟨_, rfl, ?_⟩
  refine Sq.wEnd nb ?_
  refine ax 10 h [1,1] ?_; intro h
  cases h
  exact ⟨_, rfl, .refl _⟩
theorem release_Verify_spec (n : Nat) (a0 : SActionsMaterialsOutput) (a1 : SFiles) (r : (Bool × SCodeIndex)) (h : release_Verify n a0 a1 = some r) : PSpec Tryz.prog 47 [.agg (SActionsMaterialsOutput.cells a0), .agg (SFiles.cells a1)] (.tup [.bool r.1, .agg (SCodeIndex.cells r.2)]) := by
 unfold release_Verify at h
 refine spec_of Tryz.c_release_Verify (by simp) ?_
 unfold Tryz.l_release_Verify
 refine au h [1,1,5,5,1,5,1,1,8,8] ?_; intro h
 refine cb h (release_Rebuild_spec n _ _) fun r1 k1 h => ?_
 refine aw h [1,5,5,5,5,8,8] ?_; intro h
 refine Ev.seqJ (γ := Bool) (fun v => ⟨[(4, .bool v), (5, wP 10100)], [(10100, eP 31 2 [[iP r1.2.Code, iP r1.2.Index]])], 2⟩) (fun v => release_Verify_j1 n r1 v = some r) ?_ ?_
 ·refine au h [1,8,5,5,1] ?_; intro h
  refine bs h (fun c2 h => ?_) fun c2 h => ?_
  ·refine aw h [2,8,2,8,2,8,2] ?_; intro h
   refine cb h (treepatch_Same_spec n _ _) fun r3 k3 h => ?_
   refine aw h [2,8,1,8] ?_; intro h
   exact lf r3 h
  ·refine aw h [3,3,3,3,3,8,1,8] ?_; intro h
   exact lf false h
 ·intro x2 h
  try dsimp only at h ⊢
  unfold release_Verify_j1 at h
  refine Ev.ret ?_
  cases h
  exact ⟨_, rfl, .refl _⟩
theorem ref6_Strings_spec (n : Nat) (a0 : List (List UInt8)) (a1 : List (List UInt8)) (r : Bool) (h : ref6_Strings n a0 a1 = some r) : PSpec Tryz.prog 24 [lP a0, lP a1] (.bool r) := by
 unfold ref6_Strings at h
 refine spec_of Tryz.c_ref6_Strings (by simp) ?_
 unfold Tryz.l_ref6_Strings
 refine au h [1,1,1,1,1,1,1,5,1,5,5] ?_; intro h
 refine bs h (fun c1 h => ?_) fun c1 h => ?_
 ·refine au h [2,1,1,1,1] ?_; intro h
  cases h
  exact ⟨_, rfl, .refl _⟩
 ·refine au h [3,1,1,1,1,1,1] ?_; intro h
  refine Ev.loopW (β := Nat × Int) (fun v => ⟨[(0, lP a0), (1, lP a1), (5, iP v.2)], [], 2⟩) (fun v => ref6_Strings_l1 n a0 a1 v.1 v.2 = some r) (fun v => v.1) (n, 0) (.nA) h ?_
  intro ⟨m1, x1⟩ h
  try dsimp only at h ⊢
  cases m1 with
  | zero => rw [ref6_Strings_l1] at h; cases h
  | succ m1 =>
   rw [ref6_Strings_l1] at h
   refine au h [1,1,1,1,1,5,5] ?_; intro h
   refine bs h (fun c2 h => ?_) fun c2 h => ?_
   ·refine au h [2,1,1,1,1,1,1,1,5,5,1,1,5,5,6] ?_; intro e2 k3 e3 k4 h
    refine bs h (fun c5 h => ?_) fun c5 h => ?_
    ·refine au h [2,1,1,1,1] ?_; intro h
     cases h
     exact ⟨_, rfl, .refl _⟩
    ·refine au h [3,1,1,1,7,1] ?_; intro x4 k6 h
     exact lb (m1, x4) h
   ·refine au h [3,1,1,1,1,1] ?_; intro h
    cases h
    exact ⟨_, rfl, .refl _⟩
theorem ref6_Trees_spec (n : Nat) (a0 : SFiles) (a1 : SFiles) (r : Bool) (h : ref6_Trees n a0 a1 = some r) : PSpec Tryz.prog 48 [.agg (SFiles.cells a0), .agg (SFiles.cells a1)] (.bool r) := by
 unfold ref6_Trees at h
 refine spec_of Tryz.c_ref6_Trees (by simp) ?_
 unfold Tryz.l_ref6_Trees
 refine au h [1,1,5,5,1,1,1,1,8,8,5,8,8,5,5] ?_; intro h
 refine bs h (fun c1 h => ?_) fun c1 h => ?_
 ·refine au h [2,1,1,1,1] ?_; intro h
  cases h
  exact ⟨_, rfl, .refl _⟩
 ·refine au h [3,1,1,1,1,1,1] ?_; intro h
  refine Ev.loopW (β := Nat × Int) (fun v => ⟨[(2, wP 10100), (3, wP 10101), (5, iP v.2)], [(10100, eP 25 1 [[lP a0.Files]]), (10101, eP 25 1 [[lP a1.Files]])], 2⟩) (fun v => ref6_Trees_l1 n a0 a1 v.1 v.2 = some r) (fun v => v.1) (n, 0) (.nA) h ?_
  intro ⟨m1, x1⟩ h
  try dsimp only at h ⊢
  cases m1 with
  | zero => rw [ref6_Trees_l1] at h; cases h
  | succ m1 =>
   rw [ref6_Trees_l1] at h
   refine au h [1,1,1,1,8,8,5,5] ?_; intro h
   refine bs h (fun c2 h => ?_) fun c2 h => ?_
   ·refine au h [2,1,1,1] ?_; intro h
    refine Ev.seqJ (γ := Bool) (fun v => ⟨[(2, wP 10200), (3, wP 10201), (5, iP x1), (48, .bool v)], [(10200, eP 25 1 [[lP a0.Files]]), (10201, eP 25 1 [[lP a1.Files]])], 2⟩) (fun v => ref6_Trees_j1 n x1 (ref6_Trees_l1 n a0 a1 m1) v = some r) ?_ ?_
    ·refine au h [1,8,8,1,5,5,5,8,8,1,5,5,5,6,1] ?_; intro e4 k5 e5 k6 h
     refine bs h (fun c7 h => ?_) fun c7 h => ?_
     ·refine aw h [3,3,3,3,3,3,3,3,3,3,3,3,3,3,2] ?_; intro h
      exact lf true h
     ·refine aw h [2,8,2,8,2,1,2,6,2,5,2,5,2,8,2,8,2,1,2,6,2,5,2,5,2] ?_; intro h
      refine cb h (ref6_Strings_spec n _ _) fun r6 k8 h => ?_
      refine aw h [2,5,3] ?_; intro h
      exact lf (!r6) h
    ·intro x2 h
     try dsimp only at h ⊢
     unfold ref6_Trees_j1 at h
     refine bs h (fun c3 h => ?_) fun c3 h => ?_
     ·refine au h [2,1,1,1,1] ?_; intro h
      cases h
      exact ⟨_, rfl, .refl _⟩
     ·refine au h [3,1,1,1,7,1] ?_; intro x3 k4 h
      exact lb (m1, x3) h
   ·refine au h [3,1,1,1,1,1] ?_; intro h
    cases h
    exact ⟨_, rfl, .refl _⟩
theorem law6_action_spec (n : Nat) (r : SInputsOpsOutput) (h : law6_action n = some r) : PSpec Tryz.prog 77 [] (.agg (SInputsOpsOutput.cells r)) := by
 unfold law6_action at h
 refine spec_of Tryz.c_law6_action (by simp) ?_
 unfold Tryz.l_law6_action
 refine au h [1,1,5,1,1,5,5,5,5,5,5,8] ?_; intro h
 refine Ev.weak ?_ (Wk.frz 1 2 rfl rfl)
 refine Ev.weak ?_ (Wk.frz 5 2 rfl rfl)
 refine Ev.ret ?_
 cases h
 exact ⟨_, rfl, .refl _⟩
theorem law6_files_spec (n : Nat) (r : SFiles) (h : law6_files n = some r) : PSpec Tryz.prog 78 [] (.agg (SFiles.cells r)) := by
 unfold law6_files at h
 refine spec_of Tryz.c_law6_files (by simp) ?_
 unfold Tryz.l_law6_files
 refine au h [1,1,5,1,1,5,5,5,5,8] ?_; intro h
 refine Ev.weak ?_ (Wk.frz 1 2 rfl rfl)
 refine Ev.weak ?_ (Wk.frz 3 2 rfl rfl)
 refine Ev.ret ?_
 cases h
 exact ⟨_, rfl, .refl _⟩
theorem law6_fault_spec (n : Nat) (a0 : Int) (a1 : Int) (r : SCodeIndex) (h : law6_fault n a0 a1 = some r) : PSpec Tryz.prog 79 [iP a0, iP a1] (.agg (SCodeIndex.cells r)) := by
 unfold law6_fault at h
 refine spec_of Tryz.c_law6_fault (by simp) ?_
 unfold Tryz.l_law6_fault
 refine au h [1,1,5,1,1,1,1,5,8,1] ?_; intro h
 cases h
 exact ⟨_, rfl, .refl _⟩
theorem law6_releases_spec (n : Nat) (r : Bool) (h : law6_releases n = some r) : PSpec Tryz.prog 37 [] (.bool r) := by
 unfold law6_releases at h
 refine spec_of Tryz.c_law6_releases (by simp) ?_
 unfold Tryz.l_law6_releases
 refine au h [1,1,1,1] ?_; intro h
 refine Ev.regS rfl ?_
 refine Sq.w 3 nb ?_
 refine cb h (law6_action_spec n) fun r1 k1 h => ?_
 refine aw h [5] ?_; intro h
 refine cb h (law6_files_spec n) fun r2 k2 h => ?_
 refine W.nil ?_
 refine Sq.weak (st' := ⟨[(12, lP ([r1] : List SInputsOpsOutput)), (13, .agg [lP r2.Files])], [], 2⟩) ?_ ((Wk.frz 12 2 rfl rfl).trans (.nA))
 refine Sq.wEnd nb ?_
 refine cb h (release_Make_spec n _ _) fun r3 k3 h => ?_
 refine ax 77 h [1,5,5,5,5,8,8,1,1,8] ?_; intro h
 refine cb h (law6_files_spec n) fun r4 k4 h => ?_
 refine cb h (release_Rebuild_spec n _ _) fun r5 k5 h => ?_
 refine ax 77 h [1,5,5,5,5,8,8,1,1,8] ?_; intro h
 refine cb h (law6_files_spec n) fun r6 k6 h => ?_
 refine cb h (release_Verify_spec n _ _) fun r7 k7 h => ?_
 refine ax 77 h [1,5,5,5,1,8,1,1,8,5] ?_; intro h
 obtain ⟨r8, k8, h⟩ := obind h
 refine W.call (release_Rebuild_spec n (⟨r3.1.Actions, r3.1.Materials, (⟨r3.1.Output.Files⟩ : SFiles)⟩ : SActionsMaterialsOutput) (⟨([] : List SPathLines)⟩ : SFiles) r8 k8) rfl rfl (.cons (.refl _) (.cons (Le.aggs (.cons (.nils 2) (.nil)) rfl) (.nil))) rfl (.inl rfl) rfl ?_
 refine ax 77 h [1,5,5,5,5,8,8,1,1,5,5,5,5,5,8] ?_; intro h
 refine Ev.seqJ (γ := Bool) (fun v => ⟨[(0, .bool v)], [], 2⟩) (fun v => law6_releases_j1 n v = some r) ?_ ?_
 ·refine Ev.weak ?_ (Wk.frz 35 2 rfl rfl)
  refine Ev.weak ?_ (Wk.frz 37 2 rfl rfl)
  refine au h [1,8,8,5,1] ?_; intro h
  refine bs h (fun c9 h => ?_) fun c9 h => ?_
  ·refine aw h [2,8,2,8,2,5,2,1] ?_; intro h
   refine bs h (fun c10 h => ?_) fun c10 h => ?_
   ·refine aw h [2,8,2,8,2,5,2,1] ?_; intro h
    refine bs h (fun c11 h => ?_) fun c11 h => ?_
    ·refine aw h [2,1,2,1] ?_; intro h
     refine bs h (fun c12 h => ?_) fun c12 h => ?_
     ·refine aw h [2,8,2] ?_; intro h
      refine cb h (law6_fault_spec n _ _) fun r10 k13 h => ?_
      refine aw h [2,5,2,1] ?_; intro h
      refine bs h (fun c14 h => ?_) fun c14 h => ?_
      ·refine aw h [2,8,2,8,2,8,2] ?_; intro h
       refine cb h (ref6_Trees_spec n _ _) fun r11 k15 h => ?_
       refine aw h [2,1] ?_; intro h
       refine bs h (fun c16 h => ?_) fun c16 h => ?_
       ·refine aw h [2,8,2,8,2] ?_; intro h
        refine cb h (ref6_Trees_spec n _ _) fun r12 k17 h => ?_
        refine aw h [2,1] ?_; intro h
        refine bs h (fun c18 h => ?_) fun c18 h => ?_
        ·refine aw h [2,8,2] ?_; intro h
         refine cb h (release_Validate_spec n _) fun r13 k19 h => ?_
         refine aw h [2,5,2,5,2,1] ?_; intro h
         exact lf ((r13.Code == 0 && (r13.Index == 0 && true)) != false) h
        ·refine aw h [3,3,3,3,3,1] ?_; intro h
         exact lf false h
       ·refine aw h [3,3,3,3,1,3,3,3,3,3,1] ?_; intro h
        exact lf false h
      ·refine aw h [3,3,3,3,3,1,3,3,3,3,1,3,3,3,3,3,1] ?_; intro h
       exact lf false h
     ·refine aw h [3,3,3,3,1,3,3,3,3,3,1,3,3,3,3,1,3,3,3,3,3,1] ?_; intro h
      exact lf false h
    ·refine aw h [3,3,1,3,3,3,3,1,3,3,3,3,3,1,3,3,3,3,1,3,3,3,3,3,1] ?_; intro h
     exact lf false h
   ·refine aw h [3,3,3,3,1,3,3,1,3,3,3,3,1,3,3,3,3,3,1,3,3,3,3,1,3,3,3,3,3,1] ?_; intro h
    exact lf false h
  ·refine aw h [3,3,3,3,1,3,3,3,3,1,3,3,1,3,3,3,3,1,3,3,3,3,3,1,3,3,3,3,1,3,3,3,3,3,1] ?_; intro h
   exact lf false h
 ·intro x9 h
  try dsimp only at h ⊢
  unfold law6_releases_j1 at h
  refine Ev.ret ?_
  cases h
  exact ⟨_, rfl, .refl _⟩
theorem ref6_fault_spec (n : Nat) (a0 : Int) (a1 : Int) (r : SCodeIndex) (h : ref6_fault n a0 a1 = some r) : PSpec Tryz.prog 80 [iP a0, iP a1] (.agg (SCodeIndex.cells r)) := by
 unfold ref6_fault at h
 refine spec_of Tryz.c_ref6_fault (by simp) ?_
 unfold Tryz.l_ref6_fault
 refine au h [1,1,5,1,1,1,1,5,8,1] ?_; intro h
 cases h
 exact ⟨_, rfl, .refl _⟩
end Go.Proofs.YtlkknmhhefjmjaaGreatDoor
namespace Go.Proofs.YtlkknmhhefjmjaaGreatDoor
open Go.PW Go
theorem ref1_At_spec (n : Nat) (a0 : Int) (a1 : Int) (r : SCodeIndex) (h : ref1_At n a0 a1 = some r) : PSpec Tryz.prog 103 [iP a0, iP a1] (.agg (SCodeIndex.cells r)) := by
 unfold ref1_At at h
 refine spec_of Tryz.c_ref1_At (by simp) ?_
 unfold Tryz.l_ref1_At
 refine au h [1,1,5,1,1,1,1,5,8,1] ?_; intro h
 cases h
 exact ⟨_, rfl, .refl _⟩
set_option maxHeartbeats 4000000 in
theorem ref2_pathByte_spec (n : Nat) (a0 : Int) (r : Bool) (h : ref2_pathByte n a0 = some r) : PSpec Tryz.prog 143 [.int .u8 a0] (.bool r) := by
 unfold ref2_pathByte at h
 refine spec_of Tryz.c_ref2_pathByte (by simp) ?_
 unfold Tryz.l_ref2_pathByte
 refine au h [1,1,1] ?_; intro h
 refine Ev.seqJ (γ := Bool) (fun v => ⟨[(2, .bool v)], [], 2⟩) (fun v => ref2_pathByte_j1 n v = some r) ?_ ?_
 ·refine au h [1,1,5,1] ?_; intro h
  refine bs h (fun c1 h => ?_) fun c1 h => ?_
  ·refine aw h [2,1,2,5,2,1] ?_; intro h
   refine bs h (fun c2 h => ?_) fun c2 h => ?_
   ·refine aw h [3,3,3,4,4,3,2,1,3,3,3,4,4,3,2,1,3,3,2,1,3,3,2,1,3,3,2,1] ?_; intro h
    exact lf true h
   ·refine aw h [2,1,2,5,2,1] ?_; intro h
    refine bs h (fun c3 h => ?_) fun c3 h => ?_
    ·refine aw h [2,1,2,5,2,2,3,1] ?_; intro h
     refine bs h (fun c4 h => ?_) fun c4 h => ?_
     ·refine aw h [3,3,3,4,4,3,2,1,3,3,2,1,3,3,2,1,3,3,2,1] ?_; intro h
      exact lf true h
     ·refine aw h [2,1,2,5,2,1] ?_; intro h
      refine bs h (fun c5 h => ?_) fun c5 h => ?_
      ·refine aw h [2,1,2,5,2,2,3,1] ?_; intro h
       refine bs h (fun c6 h => ?_) fun c6 h => ?_
       ·refine aw h [3,3,2,1,3,3,2,1,3,3,2,1] ?_; intro h
        exact lf true h
       ·refine aw h [2,1,2,5,3,1] ?_; intro h
        refine bs h (fun c7 h => ?_) fun c7 h => ?_
        ·refine aw h [3,3,2,1,3,3,2,1] ?_; intro h
         exact lf true h
        ·refine aw h [2,1,2,5,3,1] ?_; intro h
         refine bs h (fun c8 h => ?_) fun c8 h => ?_
         ·refine aw h [3,3,2,1] ?_; intro h
          exact lf true h
         ·refine aw h [2,1,2,5,3,1] ?_; intro h
          exact lf (decide (a0 = 45)) h
      ·refine aw h [3,3,2,3,3,1,2,1,2,5,3,1] ?_; intro h
       refine bs h (fun c9 h => ?_) fun c9 h => ?_
       ·refine aw h [3,3,2,1,3,3,2,1] ?_; intro h
        exact lf true h
       ·refine aw h [2,1,2,5,3,1] ?_; intro h
        refine bs h (fun c10 h => ?_) fun c10 h => ?_
        ·refine aw h [3,3,2,1] ?_; intro h
         exact lf true h
        ·refine aw h [2,1,2,5,3,1] ?_; intro h
         exact lf (decide (a0 = 45)) h
    ·refine aw h [3,3,2,3,3,1,2,1,2,5,2,1] ?_; intro h
     refine bs h (fun c11 h => ?_) fun c11 h => ?_
     ·refine aw h [2,1,2,5,2,2,3,1] ?_; intro h
      refine bs h (fun c12 h => ?_) fun c12 h => ?_
      ·refine aw h [3,3,2,1,3,3,2,1,3,3,2,1] ?_; intro h
       exact lf true h
      ·refine aw h [2,1,2,5,3,1] ?_; intro h
       refine bs h (fun c13 h => ?_) fun c13 h => ?_
       ·refine aw h [3,3,2,1,3,3,2,1] ?_; intro h
        exact lf true h
       ·refine aw h [2,1,2,5,3,1] ?_; intro h
        refine bs h (fun c14 h => ?_) fun c14 h => ?_
        ·refine aw h [3,3,2,1] ?_; intro h
         exact lf true h
        ·refine aw h [2,1,2,5,3,1] ?_; intro h
         exact lf (decide (a0 = 45)) h
     ·refine aw h [3,3,2,3,3,1,2,1,2,5,3,1] ?_; intro h
      refine bs h (fun c15 h => ?_) fun c15 h => ?_
      ·refine aw h [3,3,2,1,3,3,2,1] ?_; intro h
       exact lf true h
      ·refine aw h [2,1,2,5,3,1] ?_; intro h
       refine bs h (fun c16 h => ?_) fun c16 h => ?_
       ·refine aw h [3,3,2,1] ?_; intro h
        exact lf true h
       ·refine aw h [2,1,2,5,3,1] ?_; intro h
        exact lf (decide (a0 = 45)) h
  ·refine aw h [3,3,3,1,2,1,2,5,2,1] ?_; intro h
   refine bs h (fun c17 h => ?_) fun c17 h => ?_
   ·refine aw h [2,1,2,5,2,2,3,1] ?_; intro h
    refine bs h (fun c18 h => ?_) fun c18 h => ?_
    ·refine aw h [3,3,3,4,4,3,2,1,3,3,2,1,3,3,2,1,3,3,2,1] ?_; intro h
     exact lf true h
    ·refine aw h [2,1,2,5,2,1] ?_; intro h
     refine bs h (fun c19 h => ?_) fun c19 h => ?_
     ·refine aw h [2,1,2,5,2,2,3,1] ?_; intro h
      refine bs h (fun c20 h => ?_) fun c20 h => ?_
      ·refine aw h [3,3,2,1,3,3,2,1,3,3,2,1] ?_; intro h
       exact lf true h
      ·refine aw h [2,1,2,5,3,1] ?_; intro h
       refine bs h (fun c21 h => ?_) fun c21 h => ?_
       ·refine aw h [3,3,2,1,3,3,2,1] ?_; intro h
        exact lf true h
       ·refine aw h [2,1,2,5,3,1] ?_; intro h
        refine bs h (fun c22 h => ?_) fun c22 h => ?_
        ·refine aw h [3,3,2,1] ?_; intro h
         exact lf true h
        ·refine aw h [2,1,2,5,3,1] ?_; intro h
         exact lf (decide (a0 = 45)) h
     ·refine aw h [3,3,2,3,3,1,2,1,2,5,3,1] ?_; intro h
      refine bs h (fun c23 h => ?_) fun c23 h => ?_
      ·refine aw h [3,3,2,1,3,3,2,1] ?_; intro h
       exact lf true h
      ·refine aw h [2,1,2,5,3,1] ?_; intro h
       refine bs h (fun c24 h => ?_) fun c24 h => ?_
       ·refine aw h [3,3,2,1] ?_; intro h
        exact lf true h
       ·refine aw h [2,1,2,5,3,1] ?_; intro h
        exact lf (decide (a0 = 45)) h
   ·refine aw h [3,3,2,3,3,1,2,1,2,5,2,1] ?_; intro h
    refine bs h (fun c25 h => ?_) fun c25 h => ?_
    ·refine aw h [2,1,2,5,2,2,3,1] ?_; intro h
     refine bs h (fun c26 h => ?_) fun c26 h => ?_
     ·refine aw h [3,3,2,1,3,3,2,1,3,3,2,1] ?_; intro h
      exact lf true h
     ·refine aw h [2,1,2,5,3,1] ?_; intro h
      refine bs h (fun c27 h => ?_) fun c27 h => ?_
      ·refine aw h [3,3,2,1,3,3,2,1] ?_; intro h
       exact lf true h
      ·refine aw h [2,1,2,5,3,1] ?_; intro h
       refine bs h (fun c28 h => ?_) fun c28 h => ?_
       ·refine aw h [3,3,2,1] ?_; intro h
        exact lf true h
       ·refine aw h [2,1,2,5,3,1] ?_; intro h
        exact lf (decide (a0 = 45)) h
    ·refine aw h [3,3,2,3,3,1,2,1,2,5,3,1] ?_; intro h
     refine bs h (fun c29 h => ?_) fun c29 h => ?_
     ·refine aw h [3,3,2,1,3,3,2,1] ?_; intro h
      exact lf true h
     ·refine aw h [2,1,2,5,3,1] ?_; intro h
      refine bs h (fun c30 h => ?_) fun c30 h => ?_
      ·refine aw h [3,3,2,1] ?_; intro h
       exact lf true h
      ·refine aw h [2,1,2,5,3,1] ?_; intro h
       exact lf (decide (a0 = 45)) h
 ·intro x1 h
  try dsimp only at h ⊢
  unfold ref2_pathByte_j1 at h
  refine Ev.ret ?_
  cases h
  exact ⟨_, rfl, .refl _⟩
theorem ref2_PathValid_spec (n : Nat) (a0 : List UInt8) (r : Bool) (h : ref2_PathValid n a0 = some r) : PSpec Tryz.prog 104 [.str a0] (.bool r) := by
 unfold ref2_PathValid at h
 refine spec_of Tryz.c_ref2_PathValid (by simp) ?_
 unfold Tryz.l_ref2_PathValid
 refine au h [1,1,1,1,1,1,1,5,5] ?_; intro h
 refine bs h (fun c1 h => ?_) fun c1 h => ?_
 ·refine au h [2,1,1,1,1] ?_; intro h
  cases h
  exact ⟨_, rfl, .refl _⟩
 ·refine au h [3,1,1,1,1,5,1,1,1,1,1,5,7,1,1] ?_; intro x1 k2 h
  refine Ev.loopW (β := Nat × Int × Int) (fun v => ⟨[(0, .str a0), (3, iP v.2.1), (4, iP v.2.2)], [], 2⟩) (fun v => ref2_PathValid_l1 n a0 v.1 v.2.1 v.2.2 = some r) (fun v => v.1) (n, (a0.length : Int), x1) (.nA) h ?_
  intro ⟨m1, x2, x3⟩ h
  try dsimp only at h ⊢
  cases m1 with
  | zero => rw [ref2_PathValid_l1] at h; cases h
  | succ m1 =>
   rw [ref2_PathValid_l1] at h
   refine au h [1,1,1,1,5] ?_; intro h
   refine bs h (fun c3 h => ?_) fun c3 h => ?_
   ·refine au h [2,1] ?_; intro h
    refine Ev.seqJ (γ := Int) (fun v => ⟨[(0, .str a0), (3, iP v), (4, iP x3)], [], 2⟩) (fun v => ref2_PathValid_j1 n x3 (ref2_PathValid_l1 n a0 m1) v = some r) ?_ ?_
    ·refine au h [1,1] ?_; intro h
     refine Ev.seqJ (γ := Bool) (fun v => ⟨[(0, .str a0), (3, iP x2), (4, iP x3), (25, .bool v)], [], 2⟩) (fun v => ref2_PathValid_j2 n a0 x2 x3 (ref2_PathValid_l1 n a0 m1) v = some r) ?_ ?_
     ·refine au h [1,1,5,1] ?_; intro h
      refine bs h (fun c14 h => ?_) fun c14 h => ?_
      ·refine aw h [2,1,2,1,2,5,2,5,2] ?_; intro y12 k15 h
       exact lf (decide ((y12.toNat : Int) ≠ 47)) h
      ·refine aw h [3,3,3,3,3] ?_; intro h
       exact lf false h
     ·intro x6 h
      try dsimp only at h ⊢
      unfold ref2_PathValid_j2 at h
      refine bs h (fun c5 h => ?_) fun c5 h => ?_
      ·refine au h [2,1,1,1,1,1,5] ?_; intro y7 k6 h
       refine cb h (ref2_pathByte_spec n _) fun r8 k7 h => ?_
       refine aw h [5] ?_; intro h
       refine bs h (fun c8 h => ?_) fun c8 h => ?_
       ·refine au h [2,1,1,1,1] ?_; intro h
        cases h
        exact ⟨_, rfl, .refl _⟩
       ·refine au h [3,1,1] ?_; intro h
        exact lf x2 h
      ·refine au h [3,1,1,1,1,1,7,1,5,1,1] ?_; intro x9 k9 s10 k10 h
       refine Ev.seqJ (γ := Bool) (fun v => ⟨[(0, .str a0), (4, iP x3), (45, .bool v)], [], 2⟩) (fun v => ref2_PathValid_j3 n x3 (ref2_PathValid_l1 n a0 m1) v = some r) ?_ ?_
       ·refine au h [1,1,6,1] ?_; intro h
        refine bs h (fun c12 h => ?_) fun c12 h => ?_
        ·refine aw h [3,3,2,1,3,3,2] ?_; intro h
         exact lf true h
        ·refine aw h [2,1,2,6,3,1] ?_; intro h
         refine bs h (fun c13 h => ?_) fun c13 h => ?_
         ·refine aw h [3,3,2] ?_; intro h
          exact lf true h
         ·refine aw h [2,1,2,6,3] ?_; intro h
          exact lf (decide (s10 = ([46, 46] : List UInt8))) h
       ·intro x11 h
        try dsimp only at h ⊢
        unfold ref2_PathValid_j3 at h
        refine bs h (fun c11 h => ?_) fun c11 h => ?_
        ·refine au h [2,1,1,1,1] ?_; intro h
         cases h
         exact ⟨_, rfl, .refl _⟩
        ·refine au h [3,1,1,1,1] ?_; intro h
         exact lf x3 h
    ·intro x4 h
     try dsimp only at h ⊢
     unfold ref2_PathValid_j1 at h
     refine au h [1,1,7,1] ?_; intro x5 k4 h
     exact lb (m1, x4, x5) h
   ·refine au h [3,1,1,1,1,1] ?_; intro h
    cases h
    exact ⟨_, rfl, .refl _⟩
theorem ref2_Related_spec : ∀ (n : Nat) (a0 : List UInt8) (a1 : List UInt8) (r : Bool) (h : ref2_Related n a0 a1 = some r), PSpec Tryz.prog 105 [.str a0, .str a1] (.bool r) := by
 intro n
 induction n with
 | zero => intro a0 a1 r h; rw [ref2_Related] at h; cases h
 | succ n ih =>
 intro a0 a1 r h
 rw [ref2_Related] at h
 refine spec_of Tryz.c_ref2_Related (by simp) ?_
 unfold Tryz.l_ref2_Related
 refine au h [1,1,1,1,1,1,1,5,1,5,5] ?_; intro h
 refine bs h (fun c1 h => ?_) fun c1 h => ?_
 ·refine au h [2,1,1,1,1] ?_; intro h
  refine cb h (ih _ _) fun r1 k2 h => ?_
  refine ax 33 h [1,1] ?_; intro h
  cases h
  exact ⟨_, rfl, .refl _⟩
 ·refine au h [3,1] ?_; intro h
  refine Ev.seqJ (γ := Bool) (fun v => ⟨[(4, .bool v)], [], 2⟩) (fun v => ref2_Related_j1 n v = some r) ?_ ?_
  ·refine au h [1,1,1,5,7,1,6,1] ?_; intro s3 k3 h
   refine bs h (fun c4 h => ?_) fun c4 h => ?_
   ·refine aw h [2,1,2,5,2,1,2,5,2,5,2,1] ?_; intro h
    refine bs h (fun c5 h => ?_) fun c5 h => ?_
    ·refine aw h [3,3,3,3,3,2,2,2,1] ?_; intro h
     exact lf true h
    ·refine aw h [2,1,2,1,2,5,2,5,2,5,2,3,2,1] ?_; intro y4 k6 h
     exact lf (decide ((y4.toNat : Int) = 47)) h
   ·refine aw h [3,3,3,3,3,3,4,4,4,4,4,3,3,1] ?_; intro h
    exact lf false h
  ·intro x2 h
   try dsimp only at h ⊢
   unfold ref2_Related_j1 at h
   refine Ev.ret ?_
   cases h
   exact ⟨_, rfl, .refl _⟩
theorem ref1_LinesFault_spec (n : Nat) (a0 : List (List UInt8)) (r : SCodeIndex) (h : ref1_LinesFault n a0 = some r) : PSpec Tryz.prog 144 [lP a0] (.agg (SCodeIndex.cells r)) := by
 unfold ref1_LinesFault at h
 refine spec_of Tryz.c_ref1_LinesFault (by simp) ?_
 unfold Tryz.l_ref1_LinesFault
 refine au h [1,1,5,1,1,1,1,5,5] ?_; intro h
 refine bs h (fun c1 h => ?_) fun c1 h => ?_
 ·refine au h [2,1,1] ?_; intro h
  refine cb h (ref1_At_spec n _ _) fun r1 k2 h => ?_
  refine ax 42 h [8,1] ?_; intro h
  cases h
  exact ⟨_, rfl, .refl _⟩
 ·refine au h [3,1,1,1,1,1,1] ?_; intro h
  refine Ev.loopW (β := Nat × Int) (fun v => ⟨[(0, lP a0), (2, wP 10100), (3, iP v.2)], [(10100, eP 31 2 [[iP 0, iP 0]])], 2⟩) (fun v => ref1_LinesFault_l1 n a0 v.1 v.2 = some r) (fun v => v.1) (n, 0) (.nA) h ?_
  intro ⟨m1, x2⟩ h
  try dsimp only at h ⊢
  cases m1 with
  | zero => rw [ref1_LinesFault_l1] at h; cases h
  | succ m1 =>
   rw [ref1_LinesFault_l1] at h
   refine au h [1,1,1,1,1,5,5] ?_; intro h
   refine bs h (fun c3 h => ?_) fun c3 h => ?_
   ·refine au h [2,1,1,1,1,1,1,1,1,5,5,5,5] ?_; intro e3 k4 h
    refine bs h (fun c5 h => ?_) fun c5 h => ?_
    ·refine au h [2,1,1,1] ?_; intro h
     refine cb h (ref1_At_spec n _ _) fun r4 k6 h => ?_
     refine ax 42 h [8,1] ?_; intro h
     cases h
     exact ⟨_, rfl, .refl _⟩
    ·refine au h [3,1,1,1,1,1] ?_; intro h
     refine Ev.loopW (β := Nat × Int) (fun v => ⟨[(0, lP a0), (2, wP 10200), (3, iP x2), (4, iP v.2)], [(10200, eP 31 2 [[iP 0, iP 0]])], 2⟩) (fun v => ref1_LinesFault_l2 n x2 (ref1_LinesFault_l1 n a0 m1) e3 v.1 v.2 = some r) (fun v => v.1) (n, 0) (.nA) h ?_
     intro ⟨m2, x5⟩ h
     try dsimp only at h ⊢
     cases m2 with
     | zero => rw [ref1_LinesFault_l2] at h; cases h
     | succ m2 =>
      rw [ref1_LinesFault_l2] at h
      refine au h [1,1,1,1,1,1,6,5,5,5] ?_; intro h
      refine bs h (fun c7 h => ?_) fun c7 h => ?_
      ·refine au h [2,1,1,1,1,1,1,1,6,5,1,5,5] ?_; intro y6 k8 h
       refine bs h (fun c9 h => ?_) fun c9 h => ?_
       ·refine au h [2,1,1,1] ?_; intro h
        refine cb h (ref1_At_spec n _ _) fun r7 k10 h => ?_
        refine ax 42 h [8,1] ?_; intro h
        cases h
        exact ⟨_, rfl, .refl _⟩
       ·refine au h [3,1,1,1,7,1] ?_; intro x8 k11 h
        exact lb (m2, x8) h
      ·refine au h [3,1,1,1,7,1] ?_; intro x9 k12 h
       exact lb (m1, x9) h
   ·refine au h [3,1,1,1,5,8,1] ?_; intro h
    cases h
    exact ⟨_, rfl, .refl _⟩
theorem ref1_LinesCode_spec (n : Nat) (a0 : List (List UInt8)) (r : Int) (h : ref1_LinesCode n a0 = some r) : PSpec Tryz.prog 106 [lP a0] (iP r) := by
 unfold ref1_LinesCode at h
 refine spec_of Tryz.c_ref1_LinesCode (by simp) ?_
 unfold Tryz.l_ref1_LinesCode
 refine au h [1,1,1,1,1,1] ?_; intro h
 refine cb h (ref1_LinesFault_spec n _) fun r1 k1 h => ?_
 refine ax 6 h [5,1,1] ?_; intro h
 cases h
 exact ⟨_, rfl, .refl _⟩
theorem ref2_TreeFault_spec (n : Nat) (a0 : SFiles) (r : SCodeIndex) (h : ref2_TreeFault n a0 = some r) : PSpec Tryz.prog 50 [.agg (SFiles.cells a0)] (.agg (SCodeIndex.cells r)) := by
 unfold ref2_TreeFault at h
 refine spec_of Tryz.c_ref2_TreeFault (by simp) ?_
 unfold Tryz.l_ref2_TreeFault
 refine au h [1,1,5,5,1,1,1,8,8,5,5] ?_; intro h
 refine bs h (fun c1 h => ?_) fun c1 h => ?_
 ·refine au h [2,1,1] ?_; intro h
  refine cb h (ref1_At_spec n _ _) fun r1 k2 h => ?_
  refine ax 71 h [8,1] ?_; intro h
  cases h
  exact ⟨_, rfl, .refl _⟩
 ·refine au h [3,1,1,1,1,1,1] ?_; intro h
  refine Ev.loopW (β := Nat × Int) (fun v => ⟨[(1, wP 10100), (2, wP 10101), (3, iP v.2)], [(10100, eP 25 1 [[lP a0.Files]]), (10101, eP 31 2 [[iP 0, iP 0]])], 2⟩) (fun v => ref2_TreeFault_l1 n a0 v.1 v.2 = some r) (fun v => v.1) (n, 0) (.nA) h ?_
  intro ⟨m1, x2⟩ h
  try dsimp only at h ⊢
  cases m1 with
  | zero => rw [ref2_TreeFault_l1] at h; cases h
  | succ m1 =>
   rw [ref2_TreeFault_l1] at h
   refine au h [1,1,1,1,8,8,5,5] ?_; intro h
   refine bs h (fun c3 h => ?_) fun c3 h => ?_
   ·refine au h [2,1,1,1,1,1,8,8,1,5,5,5,8,1,1,1,8,8] ?_; intro e3 k4 h
    refine cb h (ref2_PathValid_spec n _) fun r4 k5 h => ?_
    refine aw h [5] ?_; intro h
    refine bs h (fun c6 h => ?_) fun c6 h => ?_
    ·refine au h [2,1,1,1] ?_; intro h
     refine cb h (ref1_At_spec n _ _) fun r5 k7 h => ?_
     refine ax 71 h [8,1] ?_; intro h
     cases h
     exact ⟨_, rfl, .refl _⟩
    ·refine au h [3,1,1] ?_; intro h
     refine Ev.seqJ (γ := Bool) (fun v => ⟨[(1, wP 10200), (2, wP 10201), (3, iP x2), (4, wP 10202), (43, .bool v)], [(10200, eP 25 1 [[lP a0.Files]]), (10201, eP 31 2 [[iP 0, iP 0]]), (10202, eP 37 2 [[.str e3.Path, lP e3.Lines]])], 2⟩) (fun v => ref2_TreeFault_j1 n a0 x2 (ref2_TreeFault_l1 n a0 m1) e3 v = some r) ?_ ?_
     ·refine au h [1,1,5,1] ?_; intro h
      refine bs h (fun c20 h => ?_) fun c20 h => ?_
      ·refine aw h [2,8,2,8,2,8,2,8,2,1,2,7,2,5,2,5,2,5,2,6,2] ?_; intro x16 k21 e17 k22 h
       exact lf (Op.bytesLess e3.Path e17.Path || e3.Path == e17.Path) h
      ·refine aw h [3,3,3,3,3,3,3,3,3,3,3] ?_; intro h
       exact lf false h
     ·intro x6 h
      try dsimp only at h ⊢
      unfold ref2_TreeFault_j1 at h
      refine bs h (fun c8 h => ?_) fun c8 h => ?_
      ·refine au h [2,1,1,1] ?_; intro h
       refine cb h (ref1_At_spec n _ _) fun r7 k9 h => ?_
       refine ax 71 h [8,1] ?_; intro h
       cases h
       exact ⟨_, rfl, .refl _⟩
      ·refine au h [3,1,1,1,1,1,1] ?_; intro h
       refine Ev.loopW (β := Nat × Int) (fun v => ⟨[(1, wP 10300), (2, wP 10301), (3, iP x2), (4, wP 10302), (5, iP v.2)], [(10300, eP 25 1 [[lP a0.Files]]), (10301, eP 31 2 [[iP 0, iP 0]]), (10302, eP 37 2 [[.str e3.Path, lP e3.Lines]])], 2⟩) (fun v => ref2_TreeFault_l2 n a0 x2 (ref2_TreeFault_l1 n a0 m1) e3 v.1 v.2 = some r) (fun v => v.1) (n, 0) (.nA) h ?_
       intro ⟨m2, x8⟩ h
       try dsimp only at h ⊢
       cases m2 with
       | zero => rw [ref2_TreeFault_l2] at h; cases h
       | succ m2 =>
        rw [ref2_TreeFault_l2] at h
        refine au h [1,1,1,1,1,5] ?_; intro h
        refine bs h (fun c10 h => ?_) fun c10 h => ?_
        ·refine au h [2,1,1,1,1,1,8,8,1,5,5,5,8,8] ?_; intro e9 k11 h
         refine cb h (ref2_Related_spec n _ _) fun r10 k12 h => ?_
         refine W.nil ⟨rfl, ?_⟩
         refine bs h (fun c13 h => ?_) fun c13 h => ?_
         ·refine au h [2,1,1,1] ?_; intro h
          refine cb h (ref1_At_spec n _ _) fun r11 k14 h => ?_
          refine ax 71 h [8,1] ?_; intro h
          cases h
          exact ⟨_, rfl, .refl _⟩
         ·refine au h [3,1,1,1,7,1] ?_; intro x12 k15 h
          exact lb (m2, x12) h
        ·refine au h [3,1,1,1,8,8] ?_; intro h
         refine cb h (ref1_LinesCode_spec n _) fun r13 k16 h => ?_
         refine ax 71 h [1,1,1,1,5] ?_; intro h
         refine bs h (fun c17 h => ?_) fun c17 h => ?_
         ·refine au h [2,1,1,1,1] ?_; intro h
          refine cb h (ref1_At_spec n _ _) fun r14 k18 h => ?_
          refine ax 71 h [8,1] ?_; intro h
          cases h
          exact ⟨_, rfl, .refl _⟩
         ·refine au h [3,1,1,1,7,1] ?_; intro x15 k19 h
          exact lb (m1, x15) h
   ·refine au h [3,1,1,1,5,8,1] ?_; intro h
    cases h
    exact ⟨_, rfl, .refl _⟩
theorem ref6_TreeAt_spec (n : Nat) (a0 : SFiles) (a1 : Int) (r : SCodeIndex) (h : ref6_TreeAt n a0 a1 = some r) : PSpec Tryz.prog 84 [.agg (SFiles.cells a0), iP a1] (.agg (SCodeIndex.cells r)) := by
 unfold ref6_TreeAt at h
 refine spec_of Tryz.c_ref6_TreeAt (by simp) ?_
 unfold Tryz.l_ref6_TreeAt
 refine au h [1,1,5,5,1,1,8] ?_; intro h
 refine cb h (ref2_TreeFault_spec n _) fun r1 k1 h => ?_
 refine aw h [5,8] ?_; intro h
 refine Ev.seqJ (γ := Int) (fun v => ⟨[(4, wP 10100), (5, wP 10101)], [(10100, eP 31 2 [[iP 0, iP 0]]), (10101, eP 31 2 [[iP r1.Code, iP v]])], 2⟩) (fun v => ref6_TreeAt_j1 n r1 v = some r) ?_ ?_
 ·refine au h [1,1,8,8,5] ?_; intro h
  refine bs h (fun c2 h => ?_) fun c2 h => ?_
  ·refine au h [2,1,1,8,8] ?_; intro h
   exact lf a1 h
  ·refine au h [3,1] ?_; intro h
   exact lf r1.Index h
 ·intro b2 h
  try dsimp only at h ⊢
  unfold ref6_TreeAt_j1 at h
  refine au h [1,1,8,8,1] ?_; intro h
  cases h
  exact ⟨_, rfl, .refl _⟩
theorem ref6_lineCode_spec (n : Nat) (a0 : List (List UInt8)) (r : Int) (h : ref6_lineCode n a0 = some r) : PSpec Tryz.prog 82 [lP a0] (iP r) := by
 unfold ref6_lineCode at h
 refine spec_of Tryz.c_ref6_lineCode (by simp) ?_
 unfold Tryz.l_ref6_lineCode
 refine au h [1,1,1,1,1,1,1,5,5] ?_; intro h
 refine bs h (fun c1 h => ?_) fun c1 h => ?_
 ·refine au h [2,1,1,1,1] ?_; intro h
  cases h
  exact ⟨_, rfl, .refl _⟩
 ·refine au h [3,1,1,1,1,1,1] ?_; intro h
  refine Ev.loopW (β := Nat × Int) (fun v => ⟨[(0, lP a0), (3, iP v.2)], [], 2⟩) (fun v => ref6_lineCode_l1 n a0 v.1 v.2 = some r) (fun v => v.1) (n, 0) (.nA) h ?_
  intro ⟨m1, x1⟩ h
  try dsimp only at h ⊢
  cases m1 with
  | zero => rw [ref6_lineCode_l1] at h; cases h
  | succ m1 =>
   rw [ref6_lineCode_l1] at h
   refine au h [1,1,1,1,1,5,5] ?_; intro h
   refine bs h (fun c2 h => ?_) fun c2 h => ?_
   ·refine au h [2,1,1,1,1,1,1,1,1,5,5,5,5] ?_; intro e2 k3 h
    refine bs h (fun c4 h => ?_) fun c4 h => ?_
    ·refine au h [2,1,1,1,1] ?_; intro h
     cases h
     exact ⟨_, rfl, .refl _⟩
    ·refine au h [3,1,1,1,1,1] ?_; intro h
     refine Ev.loopW (β := Nat × Int) (fun v => ⟨[(0, lP a0), (3, iP x1), (4, iP v.2)], [], 2⟩) (fun v => ref6_lineCode_l2 n x1 (ref6_lineCode_l1 n a0 m1) e2 v.1 v.2 = some r) (fun v => v.1) (n, 0) (.nA) h ?_
     intro ⟨m2, x3⟩ h
     try dsimp only at h ⊢
     cases m2 with
     | zero => rw [ref6_lineCode_l2] at h; cases h
     | succ m2 =>
      rw [ref6_lineCode_l2] at h
      refine au h [1,1,1,1,1,1,6,5,5,5] ?_; intro h
      refine bs h (fun c5 h => ?_) fun c5 h => ?_
      ·refine au h [2,1,1,1,1,1,1,1,6,5,1,5,5] ?_; intro y4 k6 h
       refine bs h (fun c7 h => ?_) fun c7 h => ?_
       ·refine au h [2,1,1,1,1] ?_; intro h
        cases h
        exact ⟨_, rfl, .refl _⟩
       ·refine au h [3,1,1,1,7,1] ?_; intro x5 k8 h
        exact lb (m2, x5) h
      ·refine au h [3,1,1,1,7,1] ?_; intro x6 k9 h
       exact lb (m1, x6) h
   ·refine au h [3,1,1,1,1,1] ?_; intro h
    cases h
    exact ⟨_, rfl, .refl _⟩
theorem ref6_opCode_spec (n : Nat) (a0 : SKindText) (r : Int) (h : ref6_opCode n a0 = some r) : PSpec Tryz.prog 132 [.agg (SKindText.cells a0)] (iP r) := by
 unfold ref6_opCode at h
 refine spec_of Tryz.c_ref6_opCode (by simp) ?_
 unfold Tryz.l_ref6_opCode
 refine au h [1,1,5,1,1] ?_; intro h
 refine Ev.seqJ (γ := Bool) (fun v => ⟨[(1, wP 10100), (10, .bool v)], [(10100, eP 109 2 [[iP a0.Kind, .str a0.Text]])], 2⟩) (fun v => ref6_opCode_j1 n a0 v = some r) ?_ ?_
 ·refine au h [1,8,8,5,1] ?_; intro h
  refine bs h (fun c9 h => ?_) fun c9 h => ?_
  ·refine aw h [3,3,3,2] ?_; intro h
   exact lf true h
  ·refine aw h [2,8,2,8,2,5,3] ?_; intro h
   exact lf (decide (a0.Kind = 2)) h
 ·intro x1 h
  try dsimp only at h ⊢
  unfold ref6_opCode_j1 at h
  refine bs h (fun c1 h => ?_) fun c1 h => ?_
  ·refine au h [2,1,1,1,8,8] ?_; intro h
   refine cb h (ref2_PathValid_spec n _) fun r2 k2 h => ?_
   refine aw h [5] ?_; intro h
   refine bs h (fun c3 h => ?_) fun c3 h => ?_
   ·refine au h [2,1,1,1,1] ?_; intro h
    cases h
    exact ⟨_, rfl, .refl _⟩
   ·refine au h [3,1,1,1,1,1] ?_; intro h
    cases h
    exact ⟨_, rfl, .refl _⟩
  ·refine au h [3,1,1,1,1,8,8,5] ?_; intro h
   refine bs h (fun c4 h => ?_) fun c4 h => ?_
   ·refine au h [2,1,1,8,8,5] ?_; intro h
    refine cb h (ref6_lineCode_spec n _) fun r3 k5 h => ?_
    refine ax 33 h [1,1] ?_; intro h
    cases h
    exact ⟨_, rfl, .refl _⟩
   ·refine au h [3,1,1] ?_; intro h
    refine Ev.seqJ (γ := Bool) (fun v => ⟨[(1, wP 10200), (29, .bool v)], [(10200, eP 109 2 [[iP a0.Kind, .str a0.Text]])], 2⟩) (fun v => ref6_opCode_j2 n a0 v = some r) ?_ ?_
    ·refine au h [1,8,8,5,1] ?_; intro h
     refine bs h (fun c8 h => ?_) fun c8 h => ?_
     ·refine aw h [3,3,3,2] ?_; intro h
      exact lf true h
     ·refine aw h [2,8,2,8,2,5,3] ?_; intro h
      exact lf (decide (a0.Kind = 5)) h
    ·intro x4 h
     try dsimp only at h ⊢
     unfold ref6_opCode_j2 at h
     refine bs h (fun c6 h => ?_) fun c6 h => ?_
     ·refine au h [2,1,1,1,8,8,6] ?_; intro h
      refine bs h (fun c7 h => ?_) fun c7 h => ?_
      ·refine au h [2,1,1,1,1] ?_; intro h
       cases h
       exact ⟨_, rfl, .refl _⟩
      ·refine au h [3,1,1,1,1,1] ?_; intro h
       cases h
       exact ⟨_, rfl, .refl _⟩
     ·refine au h [3,1,1,1,1,1] ?_; intro h
      cases h
      exact ⟨_, rfl, .refl _⟩
theorem ref6_ActionFault_spec (n : Nat) (a0 : SInputsOpsOutput) (r : SCodeIndex) (h : ref6_ActionFault n a0 = some r) : PSpec Tryz.prog 83 [.agg (SInputsOpsOutput.cells a0)] (.agg (SCodeIndex.cells r)) := by
 unfold ref6_ActionFault at h
 refine spec_of Tryz.c_ref6_ActionFault (by simp) ?_
 unfold Tryz.l_ref6_ActionFault
 refine au h [1,1,5,5,1] ?_; intro h
 refine Ev.seqJ (γ := Bool) (fun v => ⟨[(1, wP 10100), (2, wP 10101), (15, .bool v)], [(10100, eP 53 3 [[lP a0.Inputs, lP a0.Ops, .str a0.Output]]), (10101, eP 31 2 [[iP 0, iP 0]])], 2⟩) (fun v => ref6_ActionFault_j1 n a0 v = some r) ?_ ?_
 ·refine au h [1,8,8,5,5,1] ?_; intro h
  refine bs h (fun c24 h => ?_) fun c24 h => ?_
  ·refine aw h [3,3,3,3,2] ?_; intro h
   exact lf true h
  ·refine aw h [2,8,2,8,2,5,2,5,3] ?_; intro h
   exact lf (decide (16 < (a0.Ops.length : Int))) h
 ·intro x1 h
  try dsimp only at h ⊢
  unfold ref6_ActionFault_j1 at h
  refine bs h (fun c1 h => ?_) fun c1 h => ?_
  ·refine au h [2,1,1] ?_; intro h
   refine cb h (ref6_fault_spec n _ _) fun r2 k2 h => ?_
   refine ax 76 h [8,1] ?_; intro h
   cases h
   exact ⟨_, rfl, .refl _⟩
  ·refine au h [3,1,1,1,1,1,1] ?_; intro h
   refine Ev.loopW (β := Nat × Int) (fun v => ⟨[(1, wP 10200), (2, wP 10201), (3, iP v.2)], [(10200, eP 53 3 [[lP a0.Inputs, lP a0.Ops, .str a0.Output]]), (10201, eP 31 2 [[iP 0, iP 0]])], 2⟩) (fun v => ref6_ActionFault_l1 n a0 v.1 v.2 = some r) (fun v => v.1) (n, 0) (.nA) h ?_
   intro ⟨m1, x3⟩ h
   try dsimp only at h ⊢
   cases m1 with
   | zero => rw [ref6_ActionFault_l1] at h; cases h
   | succ m1 =>
    rw [ref6_ActionFault_l1] at h
    refine au h [1,1,1,1,8,8,5,5] ?_; intro h
    refine bs h (fun c3 h => ?_) fun c3 h => ?_
    ·refine au h [2,1,1,1,1,1,1,8,8,1,5,5] ?_; intro e4 k4 h
     refine cb h (ref2_PathValid_spec n _) fun r5 k5 h => ?_
     refine aw h [5] ?_; intro h
     refine bs h (fun c6 h => ?_) fun c6 h => ?_
     ·refine au h [2,1,1,1] ?_; intro h
      refine cb h (ref6_fault_spec n _ _) fun r6 k7 h => ?_
      refine ax 76 h [8,1] ?_; intro h
      cases h
      exact ⟨_, rfl, .refl _⟩
     ·refine au h [3,1] ?_; intro h
      refine Ev.seqJ (γ := Bool) (fun v => ⟨[(1, wP 10300), (2, wP 10301), (3, iP x3), (48, .bool v)], [(10300, eP 53 3 [[lP a0.Inputs, lP a0.Ops, .str a0.Output]]), (10301, eP 31 2 [[iP 0, iP 0]])], 2⟩) (fun v => ref6_ActionFault_j2 n x3 (ref6_ActionFault_l1 n a0 m1) v = some r) ?_ ?_
      ·refine au h [1,1,5,1] ?_; intro h
       refine bs h (fun c11 h => ?_) fun c11 h => ?_
       ·refine aw h [2,8,2,8,2,1,2,6,2,5,2,8,2,8,2,1,2,7,2,5,2,5,2,6,2] ?_; intro x10 k12 e11 k13 h
        exact lf (Op.bytesLess e4 e11 || e4 == e11) h
       ·refine aw h [3,3,3,3,3,3,3,3,3,3,3,3,3] ?_; intro h
        exact lf false h
      ·intro x7 h
       try dsimp only at h ⊢
       unfold ref6_ActionFault_j2 at h
       refine bs h (fun c8 h => ?_) fun c8 h => ?_
       ·refine au h [2,1,1,1] ?_; intro h
        refine cb h (ref6_fault_spec n _ _) fun r8 k9 h => ?_
        refine ax 76 h [8,1] ?_; intro h
        cases h
        exact ⟨_, rfl, .refl _⟩
       ·refine au h [3,1,1,1,7,1] ?_; intro x9 k10 h
        exact lb (m1, x9) h
    ·refine au h [3,1,1,1,1,8,8] ?_; intro h
     refine cb h (ref2_PathValid_spec n _) fun r12 k14 h => ?_
     refine aw h [5] ?_; intro h
     refine bs h (fun c15 h => ?_) fun c15 h => ?_
     ·refine au h [2,1,1] ?_; intro h
      refine cb h (ref6_fault_spec n _ _) fun r13 k16 h => ?_
      refine ax 76 h [8,1] ?_; intro h
      cases h
      exact ⟨_, rfl, .refl _⟩
     ·refine au h [3,1,1,1,1,1,1] ?_; intro h
      refine Ev.loopW (β := Nat × Int) (fun v => ⟨[(1, wP 10300), (2, wP 10301), (4, iP v.2)], [(10300, eP 53 3 [[lP a0.Inputs, lP a0.Ops, .str a0.Output]]), (10301, eP 31 2 [[iP 0, iP 0]])], 2⟩) (fun v => ref6_ActionFault_l2 n a0 v.1 v.2 = some r) (fun v => v.1) (n, 0) (.nA) h ?_
      intro ⟨m2, x14⟩ h
      try dsimp only at h ⊢
      cases m2 with
      | zero => rw [ref6_ActionFault_l2] at h; cases h
      | succ m2 =>
       rw [ref6_ActionFault_l2] at h
       refine au h [1,1,1,1,8,8,5,5] ?_; intro h
       refine bs h (fun c17 h => ?_) fun c17 h => ?_
       ·refine au h [2,1,1,1,1,1,8,8,1,5,5] ?_; intro e15 k18 h
        refine cb h (ref6_opCode_spec n _) fun r16 k19 h => ?_
        refine ax 76 h [1,1,1,1,5] ?_; intro h
        refine bs h (fun c20 h => ?_) fun c20 h => ?_
        ·refine au h [2,1,1,1,1,7] ?_; intro x17 k21 h
         refine cb h (ref6_fault_spec n _ _) fun r18 k22 h => ?_
         refine ax 76 h [8,1] ?_; intro h
         cases h
         exact ⟨_, rfl, .refl _⟩
        ·refine au h [3,1,1,1,7,1] ?_; intro x19 k23 h
         exact lb (m2, x19) h
       ·refine au h [3,1,1,1,5,8,1] ?_; intro h
        cases h
        exact ⟨_, rfl, .refl _⟩
theorem ref6_ActionsFault_spec (n : Nat) (a0 : List SInputsOpsOutput) (r : SCodeIndex) (h : ref6_ActionsFault n a0 = some r) : PSpec Tryz.prog 89 [lP a0] (.agg (SCodeIndex.cells r)) := by
 unfold ref6_ActionsFault at h
 refine spec_of Tryz.c_ref6_ActionsFault (by simp) ?_
 unfold Tryz.l_ref6_ActionsFault
 refine au h [1,1,5,1,1,1,1,5,5] ?_; intro h
 refine bs h (fun c1 h => ?_) fun c1 h => ?_
 ·refine au h [2,1,1] ?_; intro h
  refine cb h (ref6_fault_spec n _ _) fun r1 k2 h => ?_
  refine ax 28 h [8,1] ?_; intro h
  cases h
  exact ⟨_, rfl, .refl _⟩
 ·refine au h [3,1,1,1,1,1,1] ?_; intro h
  refine Ev.loopW (β := Nat × Int) (fun v => ⟨[(0, lP a0), (2, wP 10100), (3, iP v.2)], [(10100, eP 31 2 [[iP 0, iP 0]])], 2⟩) (fun v => ref6_ActionsFault_l1 n a0 v.1 v.2 = some r) (fun v => v.1) (n, 0) (.nA) h ?_
  intro ⟨m1, x2⟩ h
  try dsimp only at h ⊢
  cases m1 with
  | zero => rw [ref6_ActionsFault_l1] at h; cases h
  | succ m1 =>
   rw [ref6_ActionsFault_l1] at h
   refine au h [1,1,1,1,1,5,5] ?_; intro h
   refine bs h (fun c3 h => ?_) fun c3 h => ?_
   ·refine au h [2,1,1,1,1,1,1,1,5,5] ?_; intro e3 k4 h
    refine cb h (ref6_ActionFault_spec n _) fun r4 k5 h => ?_
    refine ax 28 h [5,8,1,1,8,8,5] ?_; intro h
    refine bs h (fun c6 h => ?_) fun c6 h => ?_
    ·refine au h [2,1,1,8,8,1] ?_; intro h
     refine cb h (ref6_fault_spec n _ _) fun r5 k7 h => ?_
     refine ax 28 h [8,1] ?_; intro h
     cases h
     exact ⟨_, rfl, .refl _⟩
    ·refine au h [3,1,1,1,7,1] ?_; intro x6 k8 h
     exact lb (m1, x6) h
   ·refine au h [3,1,1,1,5,8,1] ?_; intro h
    cases h
    exact ⟨_, rfl, .refl _⟩
end Go.Proofs.YtlkknmhhefjmjaaGreatDoor
namespace Go.Proofs.YtlkknmhhefjmjaaGreatDoor
open Go.PW Go
theorem ref5_in_spec (n : Nat) (a0 : Int) (a1 : Int) (a2 : Int) (r : Bool) (h : ref5_in n a0 a1 a2 = some r) : PSpec Tryz.prog 131 [iP a0, iP a1, iP a2] (.bool r) := by
 unfold ref5_in at h
 refine spec_of Tryz.c_ref5_in (by simp) ?_
 unfold Tryz.l_ref5_in
 refine au h [1,1,1] ?_; intro h
 refine Ev.seqJ (γ := Bool) (fun v => ⟨[(6, .bool v)], [], 2⟩) (fun v => ref5_in_j1 n v = some r) ?_ ?_
 ·refine au h [1,1,1,5,1] ?_; intro h
  refine bs h (fun c1 h => ?_) fun c1 h => ?_
  ·refine aw h [2,1,2,1,2,5,2,1] ?_; intro h
   exact lf (decide (a0 ≤ a2)) h
  ·refine aw h [3,3,3,3,1] ?_; intro h
   exact lf false h
 ·intro x1 h
  try dsimp only at h ⊢
  unfold ref5_in_j1 at h
  refine Ev.ret ?_
  cases h
  exact ⟨_, rfl, .refl _⟩
theorem ref5_IsDigest_spec (n : Nat) (a0 : Int) (r : Bool) (h : ref5_IsDigest n a0 = some r) : PSpec Tryz.prog 81 [iP a0] (.bool r) := by
 unfold ref5_IsDigest at h
 refine spec_of Tryz.c_ref5_IsDigest (by simp) ?_
 unfold Tryz.l_ref5_IsDigest
 refine au h [1,1,1,1,1,1] ?_; intro h
 refine cb h (ref5_in_spec n _ _ _) fun r1 k1 h => ?_
 refine ax 5 h [1,1] ?_; intro h
 cases h
 exact ⟨_, rfl, .refl _⟩
theorem ref6_PathsFault_spec (n : Nat) (a0 : List (List UInt8)) (r : SCodeIndex) (h : ref6_PathsFault n a0 = some r) : PSpec Tryz.prog 137 [lP a0] (.agg (SCodeIndex.cells r)) := by
 unfold ref6_PathsFault at h
 refine spec_of Tryz.c_ref6_PathsFault (by simp) ?_
 unfold Tryz.l_ref6_PathsFault
 refine au h [1,1,5,1,1,1,1,5,5] ?_; intro h
 refine bs h (fun c1 h => ?_) fun c1 h => ?_
 ·refine au h [2,1,1] ?_; intro h
  refine cb h (ref6_fault_spec n _ _) fun r1 k2 h => ?_
  refine ax 39 h [8,1] ?_; intro h
  cases h
  exact ⟨_, rfl, .refl _⟩
 ·refine au h [3,1,1,1,1,1,1] ?_; intro h
  refine Ev.loopW (β := Nat × Int) (fun v => ⟨[(0, lP a0), (2, wP 10100), (3, iP v.2)], [(10100, eP 31 2 [[iP 0, iP 0]])], 2⟩) (fun v => ref6_PathsFault_l1 n a0 v.1 v.2 = some r) (fun v => v.1) (n, 0) (.nA) h ?_
  intro ⟨m1, x2⟩ h
  try dsimp only at h ⊢
  cases m1 with
  | zero => rw [ref6_PathsFault_l1] at h; cases h
  | succ m1 =>
   rw [ref6_PathsFault_l1] at h
   refine au h [1,1,1,1,1,5,5] ?_; intro h
   refine bs h (fun c3 h => ?_) fun c3 h => ?_
   ·refine au h [2,1,1,1,1,1,1,1,1,5,5] ?_; intro e3 k4 h
    refine cb h (ref2_PathValid_spec n _) fun r4 k5 h => ?_
    refine aw h [5] ?_; intro h
    refine bs h (fun c6 h => ?_) fun c6 h => ?_
    ·refine au h [2,1,1,1] ?_; intro h
     refine cb h (ref6_fault_spec n _ _) fun r5 k7 h => ?_
     refine ax 39 h [8,1] ?_; intro h
     cases h
     exact ⟨_, rfl, .refl _⟩
    ·refine au h [3,1] ?_; intro h
     refine Ev.seqJ (γ := Bool) (fun v => ⟨[(0, lP a0), (2, wP 10200), (3, iP x2), (35, .bool v)], [(10200, eP 31 2 [[iP 0, iP 0]])], 2⟩) (fun v => ref6_PathsFault_j1 n x2 (ref6_PathsFault_l1 n a0 m1) v = some r) ?_ ?_
     ·refine au h [1,1,5,1] ?_; intro h
      refine bs h (fun c11 h => ?_) fun c11 h => ?_
      ·refine aw h [2,1,2,1,2,6,2,5,2,1,2,1,2,7,2,5,2,5,2,6,2] ?_; intro x9 k12 e10 k13 h
       exact lf (Op.bytesLess e3 e10 || e3 == e10) h
      ·refine aw h [3,3,3,3,3,3,3,3,3,3,3] ?_; intro h
       exact lf false h
     ·intro x6 h
      try dsimp only at h ⊢
      unfold ref6_PathsFault_j1 at h
      refine bs h (fun c8 h => ?_) fun c8 h => ?_
      ·refine au h [2,1,1,1] ?_; intro h
       refine cb h (ref6_fault_spec n _ _) fun r7 k9 h => ?_
       refine ax 39 h [8,1] ?_; intro h
       cases h
       exact ⟨_, rfl, .refl _⟩
      ·refine au h [3,1,1,1,7,1] ?_; intro x8 k10 h
       exact lb (m1, x8) h
   ·refine au h [3,1,1,1,5,8,1] ?_; intro h
    cases h
    exact ⟨_, rfl, .refl _⟩
theorem ref6_BomFault_spec (n : Nat) (a0 : List SPathDigest) (r : SCodeIndex) (h : ref6_BomFault n a0 = some r) : PSpec Tryz.prog 95 [lP a0] (.agg (SCodeIndex.cells r)) := by
 unfold ref6_BomFault at h
 refine spec_of Tryz.c_ref6_BomFault (by simp) ?_
 unfold Tryz.l_ref6_BomFault
 refine au h [1,1,5,1,1,1,1,1,1,1,1] ?_; intro h
 refine Ev.loopW (β := Nat × (List (List UInt8)) × Int) (fun v => ⟨[(0, lP a0), (2, wP 10100), (3, .own 10101 0), (4, iP v.2.2)], [(10100, eP 31 2 [[iP 0, iP 0]]), (10101, eP 9 1 (mP v.2.1))], 2⟩) (fun v => ref6_BomFault_l1 n a0 v.1 v.2.1 v.2.2 = some r) (fun v => v.1) (n + a0.length, ([] : List (List UInt8)), 0) ((Wk.ownNil 3 30101 9 1 rfl rfl true).trans (.nA)) h ?_
 intro ⟨m1, w1, x2⟩ h
 try dsimp only at h ⊢
 cases m1 with
 | zero => rw [ref6_BomFault_l1] at h; cases h
 | succ m1 =>
  rw [ref6_BomFault_l1] at h
  refine au h [1,1,1,1,1,5,5] ?_; intro h
  refine bs h (fun c1 h => ?_) fun c1 h => ?_
  ·refine au h [2,1,1,1,1,1,1,1,5,5,5,5,7,1,1,1,7,1] ?_; intro e3 k2 w4 k3 x5 k4 h
   exact lb (m1, w4, x5) h
  ·refine au h [3,1,1,1,1] ?_; intro h
   refine cb h (ref6_PathsFault_spec n _) fun r6 k5 h => ?_
   refine ax 52 h [5,8,1,1,1,1,1] ?_; intro h
   refine Ev.loopW (β := Nat × Int × Int × Int) (fun v => ⟨[(0, lP a0), (2, wP 10200), (5, wP 10201), (6, iP v.2.2.2)], [(10200, eP 31 2 [[iP 0, iP 0]]), (10201, eP 31 2 [[iP v.2.1, iP v.2.2.1]])], 2⟩) (fun v => ref6_BomFault_l2 n a0 v.1 v.2.1 v.2.2.1 v.2.2.2 = some r) (fun v => v.1) (n, r6.Code, r6.Index, 0) (.nA) h ?_
   intro ⟨m2, b7, b8, x9⟩ h
   try dsimp only at h ⊢
   cases m2 with
   | zero => rw [ref6_BomFault_l2] at h; cases h
   | succ m2 =>
    rw [ref6_BomFault_l2] at h
    refine Ev.seq ?_
    refine Ev.seqJ (γ := Bool) (fun v => ⟨[(0, lP a0), (2, wP 10300), (5, wP 10301), (6, iP x9), (31, .bool v)], [(10300, eP 31 2 [[iP 0, iP 0]]), (10301, eP 31 2 [[iP b7, iP b8]])], 2⟩) (fun v => ref6_BomFault_j1 n a0 b7 b8 x9 (ref6_BomFault_l2 n a0 m2) v = some r) ?_ ?_
    ·refine au h [1,1,1,5,5,1] ?_; intro h
     refine bs h (fun c13 h => ?_) fun c13 h => ?_
     ·refine aw h [2,8,2,8,2,5,2] ?_; intro h
      exact lf (decide (b7 = 0)) h
     ·refine aw h [3,3,3,3] ?_; intro h
      exact lf false h
    ·intro x10 h
     try dsimp only at h ⊢
     unfold ref6_BomFault_j1 at h
     refine bs h (fun c6 h => ?_) fun c6 h => ?_
     ·refine au h [2,1] ?_; intro h
      refine Ev.seqJ (γ := Int × Int) (fun v => ⟨[(0, lP a0), (2, wP 10400), (5, wP 10401), (6, iP x9)], [(10400, eP 31 2 [[iP 0, iP 0]]), (10401, eP 31 2 [[iP v.1, iP v.2]])], 2⟩) (fun v => ref6_BomFault_j2 n x9 (ref6_BomFault_l2 n a0 m2) v.1 v.2 = some r) ?_ ?_
      ·refine Ev.block ?_
       refine Ev.seqJ (γ := Bool) (fun v => ⟨[(0, lP a0), (2, wP 10500), (5, wP 10501), (6, iP x9), (48, .bool v)], [(10500, eP 31 2 [[iP 0, iP 0]]), (10501, eP 31 2 [[iP b7, iP b8]])], 2⟩) (fun v => ref6_BomFault_j3 n b7 b8 x9 (ref6_BomFault_l2 n a0 m2) v = some r) ?_ ?_
       ·refine au h [1,1,1,5,5,5,5,1] ?_; intro e16 k10 h
        refine bs h (fun c11 h => ?_) fun c11 h => ?_
        ·refine aw h [2,1,2,1,2,6,2,5,2,5,2] ?_; intro h
         refine cb h (ref5_IsDigest_spec n _) fun r17 k12 h => ?_
         refine aw h [2,5,2] ?_; intro h
         exact lf (!r17) h
        ·refine aw h [3,3,3,3,3,3,3,3] ?_; intro h
         exact lf false h
       ·intro x14 h
        try dsimp only at h ⊢
        unfold ref6_BomFault_j3 at h
        refine bs h (fun c8 h => ?_) fun c8 h => ?_
        ·refine au h [2,1,1] ?_; intro h
         refine cb h (ref6_fault_spec n _ _) fun r15 k9 h => ?_
         refine aw h [8] ?_; intro h
         exact lf (r15.Code, r15.Index) h
        ·refine au h [3,1] ?_; intro h
         exact lf (b7, b8) h
      ·intro ⟨b11, b12⟩ h
       try dsimp only at h ⊢
       unfold ref6_BomFault_j2 at h
       refine au h [1,1,7,1] ?_; intro x13 k7 h
       exact lb (m2, b11, b12, x13) h
     ·refine au h [3,1,1,1,8,8,1] ?_; intro h
      cases h
      exact ⟨_, rfl, .refl _⟩
theorem ref6_ProvenanceFault_spec (n : Nat) (a0 : SActionsMaterialsOutput) (r : SCodeIndex) (h : ref6_ProvenanceFault n a0 = some r) : PSpec Tryz.prog 44 [.agg (SActionsMaterialsOutput.cells a0)] (.agg (SCodeIndex.cells r)) := by
 unfold ref6_ProvenanceFault at h
 refine spec_of Tryz.c_ref6_ProvenanceFault (by simp) ?_
 unfold Tryz.l_ref6_ProvenanceFault
 refine au h [1,1,5,5,1,1,8,8] ?_; intro h
 refine cb h (ref6_ActionsFault_spec n _) fun r1 k1 h => ?_
 refine aw h [5,8] ?_; intro h
 refine Ev.seqJ (γ := Int × Int) (fun v => ⟨[(1, wP 10100), (2, wP 10101), (3, wP 10102)], [(10100, eP 29 3 [[lP a0.Actions, lP a0.Materials, lP a0.Output.Files]]), (10101, eP 31 2 [[iP 0, iP 0]]), (10102, eP 31 2 [[iP v.1, iP v.2]])], 2⟩) (fun v => ref6_ProvenanceFault_j1 n a0 v.1 v.2 = some r) ?_ ?_
 ·refine Ev.seqJ (γ := Bool) (fun v => ⟨[(1, wP 10200), (2, wP 10201), (3, wP 10202), (16, .bool v)], [(10200, eP 29 3 [[lP a0.Actions, lP a0.Materials, lP a0.Output.Files]]), (10201, eP 31 2 [[iP 0, iP 0]]), (10202, eP 31 2 [[iP r1.Code, iP r1.Index]])], 2⟩) (fun v => ref6_ProvenanceFault_j3 n a0 r1 v = some r) ?_ ?_
  ·refine au h [1,8,8,5,1] ?_; intro h
   refine bs h (fun c7 h => ?_) fun c7 h => ?_
   ·refine aw h [2,8,2,8,2] ?_; intro h
    refine cb h (ref6_BomFault_spec n _) fun r10 k8 h => ?_
    refine aw h [2,5,2,5,2] ?_; intro h
    exact lf (decide (r10.Code ≠ 0)) h
   ·refine aw h [3,3,3,3,3,3] ?_; intro h
    exact lf false h
  ·intro x7 h
   try dsimp only at h ⊢
   unfold ref6_ProvenanceFault_j3 at h
   refine bs h (fun c4 h => ?_) fun c4 h => ?_
   ·refine au h [2,1,8,8] ?_; intro h
    refine cb h (ref6_BomFault_spec n _) fun r8 k5 h => ?_
    refine W.field rfl rfl ?_
    refine cb h (ref6_fault_spec n _ _) fun r9 k6 h => ?_
    refine aw h [8] ?_; intro h
    exact lf (r9.Code, r9.Index) h
   ·refine au h [3,1] ?_; intro h
    exact lf (r1.Code, r1.Index) h
 ·intro ⟨b2, b3⟩ h
  try dsimp only at h ⊢
  unfold ref6_ProvenanceFault_j1 at h
  refine Ev.seqJ (γ := Int × Int) (fun v => ⟨[(2, wP 10200), (3, wP 10201)], [(10200, eP 31 2 [[iP 0, iP 0]]), (10201, eP 31 2 [[iP v.1, iP v.2]])], 2⟩) (fun v => ref6_ProvenanceFault_j2 n v.1 v.2 = some r) ?_ ?_
  ·refine au h [1,1,8,8,5] ?_; intro h
   refine bs h (fun c2 h => ?_) fun c2 h => ?_
   ·refine au h [2,1,8,8] ?_; intro h
    refine cb h (ref6_TreeAt_spec n _ _) fun r6 k3 h => ?_
    refine aw h [8] ?_; intro h
    exact lf (r6.Code, r6.Index) h
   ·refine au h [3,1] ?_; intro h
    exact lf (b2, b3) h
  ·intro ⟨b4, b5⟩ h
   try dsimp only at h ⊢
   unfold ref6_ProvenanceFault_j2 at h
   refine au h [1,1,8,8,1] ?_; intro h
   cases h
   exact ⟨_, rfl, .refl _⟩
theorem ref6_HasString_spec (n : Nat) (a0 : List (List UInt8)) (a1 : List UInt8) (r : Bool) (h : ref6_HasString n a0 a1 = some r) : PSpec Tryz.prog 19 [lP a0, .str a1] (.bool r) := by
 unfold ref6_HasString at h
 refine spec_of Tryz.c_ref6_HasString (by simp) ?_
 unfold Tryz.l_ref6_HasString
 refine au h [1,1,1,1,1,1,1,1] ?_; intro h
 refine Ev.loopW (β := Nat × Int) (fun v => ⟨[(0, lP a0), (1, .str a1), (5, iP v.2)], [], 2⟩) (fun v => ref6_HasString_l1 n a0 a1 v.1 v.2 = some r) (fun v => v.1) (n, 0) (.nA) h ?_
 intro ⟨m1, x1⟩ h
 try dsimp only at h ⊢
 cases m1 with
 | zero => rw [ref6_HasString_l1] at h; cases h
 | succ m1 =>
  rw [ref6_HasString_l1] at h
  refine au h [1,1,1,1,1,5,5] ?_; intro h
  refine bs h (fun c1 h => ?_) fun c1 h => ?_
  ·refine au h [2,1,1,1,1,1,1,1,5,5,1,6] ?_; intro e2 k2 h
   refine bs h (fun c3 h => ?_) fun c3 h => ?_
   ·refine au h [2,1,1,1,1] ?_; intro h
    cases h
    exact ⟨_, rfl, .refl _⟩
   ·refine au h [3,1,1,1,7,1] ?_; intro x3 k4 h
    exact lb (m1, x3) h
  ·refine au h [3,1,1,1,1,1] ?_; intro h
   cases h
   exact ⟨_, rfl, .refl _⟩
theorem ref6_Restricted_spec (n : Nat) (a0 : SFiles) (a1 : List (List UInt8)) (r : SFiles) (h : ref6_Restricted n a0 a1 = some r) : PSpec Tryz.prog 49 [.agg (SFiles.cells a0), lP a1] (.agg (SFiles.cells r)) := by
 unfold ref6_Restricted at h
 refine spec_of Tryz.c_ref6_Restricted (by simp) ?_
 unfold Tryz.l_ref6_Restricted
 refine au h [1,1,5,5,1,1,5,1,1,1,1,1] ?_; intro h
 refine Ev.loopW (β := Nat × (List SPathLines) × Int) (fun v => ⟨[(1, lP a1), (2, wP 10100), (4, wP 10101), (5, wP 10102), (6, iP v.2.2)], [(10100, eP 25 1 [[lP a0.Files]]), (10101, eP 25 1 [[.nils]]), (10102, ⟨0, 25, 1, [[.own 10103 0]], false, false, false⟩), (10103, eP 37 2 (mP v.2.1))], 2⟩) (fun v => ref6_Restricted_l1 n a0 a1 v.1 v.2.1 v.2.2 = some r) (fun v => v.1) (n + a0.Files.length, ([] : List SPathLines), 0) ((Wk.ownNilCell 5 2 0 30103 37 2 rfl rfl rfl rfl rfl (by simp) true).trans (.nA)) h ?_
 intro ⟨m1, w1, x2⟩ h
 try dsimp only at h ⊢
 cases m1 with
 | zero => rw [ref6_Restricted_l1] at h; cases h
 | succ m1 =>
  rw [ref6_Restricted_l1] at h
  refine au h [1,1,1,1,8,8,5,5] ?_; intro h
  refine bs h (fun c1 h => ?_) fun c1 h => ?_
  ·refine au h [2,1] ?_; intro h
   refine Ev.seqJ (γ := List SPathLines) (fun v => ⟨[(1, lP a1), (2, wP 10200), (4, wP 10201), (5, wP 10202), (6, iP x2)], [(10200, eP 25 1 [[lP a0.Files]]), (10201, eP 25 1 [[.nils]]), (10202, ⟨0, 25, 1, [[.own 10203 0]], false, false, false⟩), (10203, eP 37 2 (mP v))], 2⟩) (fun v => ref6_Restricted_j1 n x2 (ref6_Restricted_l1 n a0 a1 m1) v = some r) ?_ ?_
   ·refine au h [1,1,1,1,8,8,1,5,5,5] ?_; intro e5 k3 h
    refine cb h (ref6_HasString_spec n _ _) fun r6 k4 h => ?_
    refine W.nil ?_
    refine bs h (fun c5 h => ?_) fun c5 h => ?_
    ·refine au h [2,1,8,8,8,8,1,6,5,5,7,8,8] ?_; intro w7 k6 h
     exact lf w7 h
    ·refine au h [3,1] ?_; intro h
     exact lf w1 h
   ·intro w3 h
    try dsimp only at h ⊢
    unfold ref6_Restricted_j1 at h
    refine au h [1,1,7,1] ?_; intro x4 k2 h
    exact lb (m1, w3, x4) h
  ·refine au h [3,1,1,1,8,8] ?_; intro h
   refine Ev.weak ?_ (Wk.frz 10103 0 rfl rfl)
   refine Ev.ret ?_
   cases h
   exact ⟨_, rfl, .refl _⟩
theorem law6_ReleaseOtherFilesDoNotMatter_spec (n : Nat) (a0 : SActionsMaterialsOutput) (a1 : SFiles) (r : Bool) (h : law6_ReleaseOtherFilesDoNotMatter n a0 a1 = some r) : PSpec Tryz.prog 10 [.agg (SActionsMaterialsOutput.cells a0), .agg (SFiles.cells a1)] (.bool r) := by
 unfold law6_ReleaseOtherFilesDoNotMatter at h
 refine spec_of Tryz.c_law6_ReleaseOtherFilesDoNotMatter (by simp) ?_
 unfold Tryz.l_law6_ReleaseOtherFilesDoNotMatter
 refine au h [1,1,5,5,1,1,1,1] ?_; intro h
 refine cb h (law6_releases_spec n) fun r1 k1 h => ?_
 refine aw h [5] ?_; intro h
 refine bs h (fun c2 h => ?_) fun c2 h => ?_
 ·refine au h [2,1,1,1,1] ?_; intro h
  cases h
  exact ⟨_, rfl, .refl _⟩
 ·refine au h [3,1,1,1,1,1,1,1,1,1] ?_; intro h
  refine Ev.loopW (β := Nat × (List (List UInt8)) × Int) (fun v => ⟨[(2, wP 10100), (3, wP 10101), (5, .own 10102 0), (6, iP v.2.2)], [(10100, eP 29 3 [[lP a0.Actions, lP a0.Materials, lP a0.Output.Files]]), (10101, eP 25 1 [[lP a1.Files]]), (10102, eP 9 1 (mP v.2.1))], 2⟩) (fun v => law6_ReleaseOtherFilesDoNotMatter_l1 n a0 a1 v.1 v.2.1 v.2.2 = some r) (fun v => v.1) (n, ([] : List (List UInt8)), 0) ((Wk.ownNil 5 30102 9 1 rfl rfl true).trans (.nA)) h ?_
  intro ⟨m1, w2, x3⟩ h
  try dsimp only at h ⊢
  cases m1 with
  | zero => rw [law6_ReleaseOtherFilesDoNotMatter_l1] at h; cases h
  | succ m1 =>
   rw [law6_ReleaseOtherFilesDoNotMatter_l1] at h
   refine Ev.seq ?_
   refine Ev.seqJ (γ := Bool) (fun v => ⟨[(2, wP 10200), (3, wP 10201), (5, .own 10202 0), (6, iP x3), (21, .bool v)], [(10200, eP 29 3 [[lP a0.Actions, lP a0.Materials, lP a0.Output.Files]]), (10201, eP 25 1 [[lP a1.Files]]), (10202, eP 9 1 (mP w2))], 2⟩) (fun v => law6_ReleaseOtherFilesDoNotMatter_j1 n a0 a1 w2 x3 (law6_ReleaseOtherFilesDoNotMatter_l1 n a0 a1 m1) v = some r) ?_ ?_
   ·refine au h [1,1,8,8,5,5,1] ?_; intro h
    refine bs h (fun c17 h => ?_) fun c17 h => ?_
    ·refine aw h [2,1,2,5,2] ?_; intro h
     exact lf (decide (x3 < 40)) h
    ·refine aw h [3,3,3] ?_; intro h
     exact lf false h
   ·intro x4 h
    try dsimp only at h ⊢
    unfold law6_ReleaseOtherFilesDoNotMatter_j1 at h
    refine bs h (fun c3 h => ?_) fun c3 h => ?_
    ·refine au h [2,1,1,1,1,1,8,8,1,5,5,5,5,7,1,1,1,7,1] ?_; intro e5 k4 w6 k5 x7 k6 h
     exact lb (m1, w6, x7) h
    ·refine au h [3,1,1,1,8,8] ?_; intro h
     refine cb h (release_Rebuild_spec n _ _) fun r8 k7 h => ?_
     refine ax 74 h [1,5,5,5,5,8,8,1,1,8,8,1] ?_; intro h
     obtain ⟨r9, k8, h⟩ := obind h
     refine W.callEat (args := [.agg (SFiles.cells a1)]) (ys := [.agg [lP a1.Files]]) (ref6_Restricted_spec n a1 w2 r9 k8) rfl (Les.refl _) rfl rfl rfl (fun _ => rfl) rfl rfl rfl ?_
     refine cb h (release_Rebuild_spec n _ _) fun r10 k9 h => ?_
     refine ax 74 h [1,5,5,5,5,8,8,1] ?_; intro h
     refine Ev.seqJ (γ := Bool) (fun v => ⟨[(7, wP 10300), (8, wP 10301), (9, wP 10302), (10, wP 10303), (56, .bool v)], [(10300, eP 25 1 [[lP r8.1.Files]]), (10301, eP 31 2 [[iP r8.2.Code, iP r8.2.Index]]), (10302, eP 25 1 [[lP r10.1.Files]]), (10303, eP 31 2 [[iP r10.2.Code, iP r10.2.Index]])], 2⟩) (fun v => law6_ReleaseOtherFilesDoNotMatter_j2 n r8 r10 v = some r) ?_ ?_
     ·refine au h [1,8] ?_; intro h
      refine cb h (ref6_ProvenanceFault_spec n _) fun r15 k14 h => ?_
      refine aw h [5,5,1] ?_; intro h
      refine bs h (fun c15 h => ?_) fun c15 h => ?_
      ·refine aw h [3,3,3,3,2] ?_; intro h
       exact lf true h
      ·refine aw h [2,8,2] ?_; intro h
       refine cb h (ref2_TreeFault_spec n _) fun r16 k16 h => ?_
       refine aw h [2,5,2,5,3] ?_; intro h
       exact lf (decide (r16.Code ≠ 0)) h
     ·intro x11 h
      try dsimp only at h ⊢
      unfold law6_ReleaseOtherFilesDoNotMatter_j2 at h
      refine bs h (fun c10 h => ?_) fun c10 h => ?_
      ·refine Ev.condT rfl c10 ?_
       refine Ev.seqJ (γ := Bool) (fun v => ⟨[(4, .bool v)], [], 2⟩) (fun v => law6_ReleaseOtherFilesDoNotMatter_j3 n v = some r) ?_ ?_
       ·refine au h [1,8,8,5,1] ?_; intro h
        refine bs h (fun c11 h => ?_) fun c11 h => ?_
        ·refine aw h [2,8,2,8,2,5,2,5,2,1] ?_; intro h
         exact lf (decide ((r8.1.Files.length : Int) = 0)) h
        ·refine aw h [3,3,3,3,3,1] ?_; intro h
         exact lf false h
       ·intro x12 h
        try dsimp only at h ⊢
        unfold law6_ReleaseOtherFilesDoNotMatter_j3 at h
        refine Ev.ret ?_
        cases h
        exact ⟨_, rfl, .refl _⟩
      ·refine au h [3,1] ?_; intro h
       refine Ev.seqJ (γ := Bool) (fun v => ⟨[(4, .bool v)], [], 2⟩) (fun v => law6_ReleaseOtherFilesDoNotMatter_j4 n v = some r) ?_ ?_
       ·refine au h [1,8,8,5,1] ?_; intro h
        refine bs h (fun c12 h => ?_) fun c12 h => ?_
        ·refine aw h [2,8,2,8,2] ?_; intro h
         refine cb h (ref6_Trees_spec n _ _) fun r14 k13 h => ?_
         refine aw h [2,1] ?_; intro h
         exact lf r14 h
        ·refine aw h [3,3,3,3,1] ?_; intro h
         exact lf false h
       ·intro x13 h
        try dsimp only at h ⊢
        unfold law6_ReleaseOtherFilesDoNotMatter_j4 at h
        refine Ev.ret ?_
        cases h
        exact ⟨_, rfl, .refl _⟩
end Go.Proofs.YtlkknmhhefjmjaaGreatDoor
